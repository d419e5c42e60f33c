/- A part of the proof: what the functions of the chapter compute. -/
import Derived.Test.YtikpmbiklokdiaaGreatHx11
set_option linter.all false
set_option maxRecDepth 20000
set_option maxHeartbeats 8000000
namespace Hx
open Go
noncomputable section
variable {g:G}{i d K k kk j:Nat}{gr c:Int}{Q:QT}{t:T}{V:Ky->AV}{E:Ky->En}{L:List Node}{x:Node}{l pl:List Int}{P:Nat->Prop}{r0 brow:List AV}{r5 W u wv:AV}
section
variable {x y a:Int}
def ci5(l:List Int):List AV:=l.map (AV.int .i64)
def S.PB(B p q r z:Int):Nat->List Int
 |0=>[0,0,0,0,0]
 |1=>[p % B,p / B,0,0,0]
 |2=>[p % B,p / B+q % B,q / B,0,0]
 |3=>[p % B,p / B+q % B+r % B,q / B+r / B,0,0]
 |_=>[p % B,p / B+q % B+r % B,q / B+r / B+z % B,z / B,0]
def S.PM(B o0 o1 o2 o3:Int):Nat->List Int
 |0=>[o0,o1,o2,o3,0]
 |1=>[o0 % B,o1+o0 / B,o2,o3,0]
 |2=>[o0 % B,(o1+o0 / B) % B,o2+(o1+o0 / B) / B,o3,0]
 |3=>[o0 % B,(o1+o0 / B) % B,(o2+(o1+o0 / B) / B) % B,o3+(o2+(o1+o0 / B) / B) / B,0]
 |_=>[o0 % B,(o1+o0 / B) % B,(o2+(o1+o0 / B) / B) % B,(o3+(o2+(o1+o0 / B) / B) / B) % B,(o3+(o2+(o1+o0 / B) / B) / B) / B]
theorem NV(id:Nat)(h:j<5):uV 5 1 (Ul id) (Uk (j:Int))=.val (.hptr id 0 0 j):=by have:=Nc 5 1 id 0 0 0 .i64 h;simpa using this
theorem Oy{a0 a1 a2 a3 a4:AV}(j:Nat):aY (TD 5 [[a0,a1,a2,a3,a4]]) 0 0 false 1 j=orV ([a0,a1,a2,a3,a4][j]?):=by simp only[l5];simp[bN,cY]
theorem qB(h0:0<=x)(h1:x<9223372036854775808):bT .quo (Uk x) (Uk 2147483648)=.val (Uk (x / 2147483648)):=by rw[BJ .i64 h0 (by decide),aA (by omega) (by omega)]
theorem rB(h0:0<=x):bT .rem (Uk x) (Uk 2147483648)=.val (Uk (x % 2147483648)):=dN .i64 h0 (by decide)
theorem aB(h0:-9223372036854775808<=x+y)(h1:x+y<9223372036854775808):bT .add (Uk x) (Uk y)=.val (Uk (x+y)):=by rw[xI,aA h0 h1]
theorem GX(hx:0<=x/\x<2147483648)(hy:0<=y/\y<2147483648):0<=x*y/\x*y<=4611686014132420609:=by have h1:x*y<=2147483647*2147483647:=Ty (by omega) (by omega) hy.1 (by omega);exact⟨Sy hx.1 hy.1,by omega⟩
theorem ia0(n id:Nat):uV (n+1) 1 (Ul id) (Uk 0)=.val (Ul id):=rfl
theorem ia1(n id:Nat):uV (n+2) 1 (Ul id) (Uk 1)=.val (.hptr id 0 0 1):=rfl
theorem ia2(n id:Nat):uV (n+3) 1 (Ul id) (Uk 2)=.val (.hptr id 0 0 2):=rfl
theorem ia3(n id:Nat):uV (n+4) 1 (Ul id) (Uk 3)=.val (.hptr id 0 0 3):=rfl
theorem ia4(n id:Nat):uV (n+5) 1 (Ul id) (Uk 4)=.val (.hptr id 0 0 4):=rfl
theorem Ov[XOc]{l0 l1 m0 m1 p q r z:Int}(hi:i<2)(hp:l0*m0=p/\0<=p/\p<=4611686014132420609)(hq:l0*m1=q/\0<=q/\q<=4611686014132420609)(hr:l1*m0=r/\0<=r/\r<=4611686014132420609)(hz:l1*m1=z/\0<=z/\z<=4611686014132420609)
  (ht:St t [(4,Ul 0),(5,Ul 1),(6,Ul 2),(7,Ul 3),(8,Uk (i:Int))]) (h9:tat t 9=Uk 0)
  (g0:g.h.get 0=TD 5 [ci5 [0,0,0,0,0]]) (g1:g.h.get 1=TD 2 [ci5 [l0,l1]]) (g2:g.h.get 2=TD 2 [ci5 [m0,m1]]) (g3:g.h.get 3=TD 5 [ci5 (S.PB 2147483648 p q r z (2*i))])
  (fin:∀t g,St t [(4,Ul 0),(5,Ul 1),(6,Ul 2),(7,Ul 3),(8,Uk (i:Int))]->g.h.get 0=TD 5 [ci5 [0,0,0,0,0]]->g.h.get 1=TD 2 [ci5 [l0,l1]]->g.h.get 2=TD 2 [ci5 [m0,m1]]->g.h.get 3=TD 5 [ci5 (S.PB 2147483648 p q r z (2*i+2))]->Q (.exit 2) t [] g) :
  wpL (wp C0 d none ir) Q t [] g:=by
 simp only[ir];refine be 2 (by omega) (λj t df g=>df=[]/\St t [(4,Ul 0),(5,Ul 1),(6,Ul 2),(7,Ul 3),(8,Uk (i:Int))]/\g.h.get 0=TD 5 [ci5 [0,0,0,0,0]]/\g.h.get 1=TD 2 [ci5 [l0,l1]]/\g.h.get 2=TD 2 [ci5 [m0,m1]]/\g.h.get 3=TD 5 [ci5 (S.PB 2147483648 p q r z (2*i+j))])
  ⟨rfl,ht,g0,g1,g2,g3⟩ h9 (by decide) (by rintro j t df g v s (rfl|rfl|rfl)<;>simp[St,sx]) ?_ ?_ ?_
 ·rintro j t df g o ⟨rfl,⟨h4,h5,b,h7,h8,-⟩,e⟩ h9;simp only[sz,simprocAttr,h9];exact⟨by simp[St,sx,h4,h5,b,h7,h8],e⟩
 ·clear g0 g1 g2 g3 ht h9;rintro j t df g o ⟨rfl,⟨h4,h5,b,h7,h8,-⟩,g0,g1,g2,g3⟩ h9;obtain⟨hp,hp0,u⟩:=hp;obtain⟨hq,c,w⟩:=hq;obtain⟨hr,f,A⟩:=hr;obtain⟨hz,l,B⟩:=hz;have wp':IntKind.wrap .i64 p=p:=aA (by omega) (by omega);have wq':IntKind.wrap .i64 q=q:=aA (by omega) (by omega);have wr':IntKind.wrap .i64 r=r:=aA (by omega) (by omega);have wz':IntKind.wrap .i64 z=z:=aA (by omega) (by omega);have:(i=0/\j=0)\/(i=0/\j=1)\/(i=1/\j=0)\/(i=1/\j=1):=by omega
  rcases this with⟨rfl,rfl⟩|⟨rfl,rfl⟩|⟨rfl,rfl⟩|⟨rfl,rfl⟩
  ·have k:tat t 8=Uk 0:=h8;have a:tat t 9=Uk 0:=h9;simp only[sz,simprocAttr,h5,b,h7,k,a,g1,g2,g3,ci5,S.PB,Rx,Rh,ia0,ia1,ia2,hp,wp',rB hp0,qB hp0 (by omega),aB (x:=0) (y:=0) (by decide) (by decide),aB (x:=0) (y:=1) (by decide) (by decide),aB (x:=0) (y:=p % 2147483648) (by omega) (by omega),aB (x:=0) (y:=p / 2147483648) (by omega) (by omega),show ¬(0:Nat)=3 by decide,show ¬(1:Nat)=3 by decide,show ¬(2:Nat)=3 by decide];simp[St,sx,h4,h5,b,h7,k,a,g0,g1,g2,ci5,S.PB,O6]
  ·have k:tat t 8=Uk 0:=h8;have a:tat t 9=Uk 1:=h9;simp only[sz,simprocAttr,h5,b,h7,k,a,g1,g2,g3,ci5,S.PB,Rx,Rh,ia0,ia1,ia2,hq,wq',rB c,qB c (by omega),aB (x:=0) (y:=1) (by decide) (by decide),aB (x:=1) (y:=1) (by decide) (by decide),aB (x:=p / 2147483648) (y:=q % 2147483648) (by omega) (by omega),aB (x:=0) (y:=q / 2147483648) (by omega) (by omega),show ¬(0:Nat)=3 by decide,show ¬(1:Nat)=3 by decide,show ¬(2:Nat)=3 by decide];simp[St,sx,h4,h5,b,h7,k,a,g0,g1,g2,ci5,S.PB,O6]
  ·have k:tat t 8=Uk 1:=h8;have a:tat t 9=Uk 0:=h9;simp only[sz,simprocAttr,h5,b,h7,k,a,g1,g2,g3,ci5,S.PB,Rx,Rh,ia0,ia1,ia2,hr,wr',rB f,qB f (by omega),aB (x:=1) (y:=0) (by decide) (by decide),aB (x:=1) (y:=1) (by decide) (by decide),aB (x:=p / 2147483648+q % 2147483648) (y:=r % 2147483648) (by omega) (by omega),aB (x:=q / 2147483648) (y:=r / 2147483648) (by omega) (by omega),show ¬(0:Nat)=3 by decide,show ¬(1:Nat)=3 by decide,show ¬(2:Nat)=3 by decide];simp[St,sx,h4,h5,b,h7,k,a,g0,g1,g2,ci5,S.PB,O6]
  ·have k:tat t 8=Uk 1:=h8;have a:tat t 9=Uk 1:=h9;simp only[sz,simprocAttr,h5,b,h7,k,a,g1,g2,g3,ci5,S.PB,Rx,Rh,ia0,ia1,ia2,ia3,hz,wz',rB l,qB l (by omega),aB (x:=1) (y:=1) (by decide) (by decide),aB (x:=2) (y:=1) (by decide) (by decide),aB (x:=q / 2147483648+r / 2147483648) (y:=z % 2147483648) (by omega) (by omega),aB (x:=0) (y:=z / 2147483648) (by omega) (by omega),show ¬(0:Nat)=3 by decide,show ¬(1:Nat)=3 by decide,show ¬(2:Nat)=3 by decide];simp[St,sx,h4,h5,b,h7,k,a,g0,g1,g2,ci5,S.PB,O6]
 ·rintro t df g ⟨rfl,ht,e0,e1,m,n⟩;exact fin t g ht e0 e1 m n
theorem Ow[XOc]{o0 o1 o2 o3:Int}(b0:0<=o0/\o0<=9000000000000000000)(b1:0<=o1/\o1<=4611686014132420609)(b2:0<=o2/\o2<=4611686014132420609)(b3:0<=o3/\o3<=4611686014132420609)
  (ht:St t [(4,Ul 0),(7,Ul 3)]) (h11:tat t 11=Uk 0)
  (g0:g.h.get 0=TD 5 [ci5 [0,0,0,0,0]]) (g3:g.h.get 3=TD 5 [ci5 (S.PM 2147483648 o0 o1 o2 o3 0)])
  (fin:∀t g,St t [(4,Ul 0),(7,Ul 3)]->g.h.get 0=TD 5 [ci5 [0,0,0,0,0]]->g.h.get 3=TD 5 [ci5 (S.PM 2147483648 o0 o1 o2 o3 4)]->Q (.exit 4) t [] g) :
  wpL (wp C0 d none it) Q t [] g:=by
 simp only[it];refine be 4 (by omega) (λj t df g=>df=[]/\St t [(4,Ul 0),(7,Ul 3)]/\g.h.get 0=TD 5 [ci5 [0,0,0,0,0]]/\g.h.get 3=TD 5 [ci5 (S.PM 2147483648 o0 o1 o2 o3 j)])
  ⟨rfl,ht,g0,g3⟩ h11 (by decide) (by rintro j t df g v s (rfl|rfl|rfl)<;>simp[St,sx]) ?_ ?_ ?_
 ·rintro j t df g b ⟨rfl,⟨h4,h7,-⟩,e⟩ h11;simp only[sz,simprocAttr,h11];exact⟨by simp[St,sx,h4,h7],e⟩
 ·clear g0 g3 ht h11;rintro j t df g b ⟨rfl,⟨h4,h7,-⟩,g0,g3⟩ h11;have fo:∀{fs:List Foot},All2 (λ(f:Foot) (w:Bool)=>f.lk.sr=[]/\(w=false->f.wr=[])) fs (TW (TV (true::[])))->mN [0,1,0,4,12,28,0,64,192,448,1020,2047,4095] fs=true:=λh=>aJ _ [] h (by decide) (by simp);have:j=0\/j=1\/j=2\/j=3:=by omega
  rcases this with rfl|rfl|rfl|rfl
  ·have k:tat t 11=Uk 0:=h11;simp only[sz,simprocAttr,sf,h7,k,g3,ci5,S.PM,Rx,Rh,ia0,ia1,aB (x:=0) (y:=1) (by decide) (by decide),qB b0.1 (by omega),rB b0.1,aB (x:=o1) (y:=o0 / 2147483648) (by omega) (by omega)];refine⟨fo (by simp[All2,ak,aw]),?_⟩;simp[St,sx,h4,h7,k,g0,ci5,S.PM,O6]
  ·have k:tat t 11=Uk 1:=h11;have c1:0<=o1+o0 / 2147483648:=by omega
   simp only[sz,simprocAttr,sf,h7,k,g3,ci5,S.PM,Rx,Rh,ia1,ia2,aB (x:=1) (y:=1) (by decide) (by decide),qB c1 (by omega),rB c1,aB (x:=o2) (y:=(o1+o0 / 2147483648) / 2147483648) (by omega) (by omega)];refine⟨fo (by simp[All2,ak,aw]),?_⟩;simp[St,sx,h4,h7,k,g0,ci5,S.PM,O6]
  ·have k:tat t 11=Uk 2:=h11;have c1:0<=o2+(o1+o0 / 2147483648) / 2147483648:=by omega
   simp only[sz,simprocAttr,sf,h7,k,g3,ci5,S.PM,Rx,Rh,ia2,ia3,aB (x:=2) (y:=1) (by decide) (by decide),qB c1 (by omega),rB c1,aB (x:=o3) (y:=(o2+(o1+o0 / 2147483648) / 2147483648) / 2147483648) (by omega) (by omega)];refine⟨fo (by simp[All2,ak,aw]),?_⟩;simp[St,sx,h4,h7,k,g0,ci5,S.PM,O6]
  ·have k:tat t 11=Uk 3:=h11;have c1:0<=o3+(o2+(o1+o0 / 2147483648) / 2147483648) / 2147483648:=by omega
   simp only[sz,simprocAttr,sf,h7,k,g3,ci5,S.PM,Rx,Rh,ia3,ia4,aB (x:=3) (y:=1) (by decide) (by decide),qB c1 (by omega),rB c1,aB (x:=0) (y:=(o3+(o2+(o1+o0 / 2147483648) / 2147483648) / 2147483648) / 2147483648) (by omega) (by omega)];refine⟨fo (by simp[All2,ak,aw]),?_⟩;simp[St,sx,h4,h7,k,g0,ci5,S.PM,O6]
 ·rintro t df g ⟨rfl,ht,e0,a⟩;exact fin t g ht e0 a
theorem Hi{h:H}{b e f:Int}{cs:List AV}:Rp.rp P k h (a,b,c,e,f) cs↔cs=ci5 [a,b,c,e,f]:=by
 constructor
 ·rintro⟨i,n,rfl,q1,j,o,rfl,q2,l,p,rfl,q3,m,q,rfl,d,q5⟩;rw[aI.1 q1,aI.1 q2,aI.1 q3,aI.1 d,aI.1 q5];rfl
 ·rintro rfl;exact⟨_,_,rfl,aI.2 rfl,_,_,rfl,aI.2 rfl,_,_,rfl,aI.2 rfl,_,_,rfl,aI.2 rfl,aI.2 rfl⟩
theorem Jr[XOc]{b:Int}(hd:0<d)(ha:0<=a/\a<4611686018427387904)(hb:0<=b/\b<4611686018427387904) :
  aq C0 d 98 [Uk a,Uk b] g=.val (.agg (ci5 (S.P8 2147483648 a b))):=by
 obtain⟨f,l,m,n,o,hx,-⟩:=uG (a:=a) (b:=b) (show (0:Int)<2147483648 by decide);have key:∃r,aq C0 d 98 [Uk a,Uk b] g=.val r/\Agg (f,l,m,n,o) NoP 0 .nil r:=by
  rw[uD];refine bj xq (xs:=[Uk a,Uk b]) (by simp only[aF,bJ 0]) (by simp[lV]) (c_ _) (by decide) hd ?_;have a0:0<=a % 2147483648/\a % 2147483648<2147483648:=by omega
  have a1:0<=a / 2147483648/\a / 2147483648<2147483648:=by omega
  have b0:0<=b % 2147483648/\b % 2147483648<2147483648:=by omega
  have b1:0<=b / 2147483648/\b / 2147483648<2147483648:=by omega
  have w:=GX a0 b0;have x:=GX a0 b1;have y:=GX a1 b0;have A:=GX a1 b1;simp only[S.P8]at hx;simp only[sz,simprocAttr,lV,oJ,rB ha.1,qB ha.1 (by omega),rB hb.1,qB hb.1 (by omega)];generalize a % 2147483648=l0 at *;generalize a / 2147483648=l1 at *;generalize b % 2147483648=m0 at *;generalize b / 2147483648=m1 at *;generalize hp:l0*m0=p at *;generalize hq:l0*m1=q at *;generalize hr:l1*m0=r at *;generalize hz:l1*m1=z at *;generalize hg0:G.new _ _=g0;have f0:g0.h.get 0=TD 5 [ci5 [0,0,0,0,0]]:=by rw[<-hg0];simp[O6,sx,ci5]
  have f1:g0.h.get 1=TD 2 [ci5 [l0,l1]]:=by rw[<-hg0];simp[O6,sx,ci5]
  have f2:g0.h.get 2=TD 2 [ci5 [m0,m1]]:=by rw[<-hg0];simp[O6,sx,ci5]
  have C:g0.h.get 3=TD 5 [ci5 (S.PB 2147483648 p q r z 0)]:=by rw[<-hg0];simp[O6,sx,ci5,S.PB]
  clear hg0;simp only[mH,mJ];refine be 2 (by omega) (λj t df g=>df=[]/\St t [(4,Ul 0),(5,Ul 1),(6,Ul 2),(7,Ul 3)]/\g.h.get 0=TD 5 [ci5 [0,0,0,0,0]]/\g.h.get 1=TD 2 [ci5 [l0,l1]]/\g.h.get 2=TD 2 [ci5 [m0,m1]]/\g.h.get 3=TD 5 [ci5 (S.PB 2147483648 p q r z (2*j))])
   ⟨rfl,by simp[St,sx],f0,f1,f2,C⟩ (by simp[sx]) (by decide) (by rintro j t df g v s (rfl|rfl|rfl)<;>simp[St,sx]) ?_ ?_ ?_
  ·rintro j t df g B ⟨rfl,⟨h4,h5,c,h7,-⟩,e⟩ h8;simp only[sz,simprocAttr,h8];exact⟨by simp[St,sx,h4,h5,c,h7],e⟩
  ·rintro j t df g B ⟨rfl,⟨h4,h5,c,h7,-⟩,e0,e1,u,k⟩ h8;simp only[sz,simprocAttr];refine Ov (i:=j) B ⟨hp,w⟩ ⟨hq,x⟩ ⟨hr,y⟩ ⟨hz,A⟩ (by simp[St,sx,h4,h5,c,h7,h8]) (by simp[sx]) e0 e1 u k ?_;rintro t g ⟨h4,h5,c,h7,h8,-⟩ e0 e1 u k;simp only[sz,simprocAttr];exact⟨⟨by simp[St,h4,h5,c,h7],e0,e1,u,k⟩,h8⟩
  ·rintro t df g ⟨rfl,⟨h4,h5,c,h7,-⟩,e0,-,-,k⟩;simp only[sz,simprocAttr,mL];refine Ow (o0:=p % 2147483648) (o1:=p / 2147483648+q % 2147483648+r % 2147483648) (o2:=q / 2147483648+r / 2147483648+z % 2147483648) (o3:=z / 2147483648) (by omega) (by omega) (by omega) (by omega) (by simp[St,sx,h4,h7]) (by simp[sx]) e0 k ?_;rintro t g ⟨h4,h7,-⟩ e0 k;have ld:∀f l m n o:AV,aY (TD 5 [[f,l,m,n,o]]) 0 0 true 5 0=.val (.agg [f,l,m,n,o]):=λ_ _ _ _ _=>rfl;simp only[S.PM,ci5,Rx,Rh]at k e0;injection hx with D hx;injection hx with E hx;injection hx with F hx;injection hx with H hx;injection hx with I hx;rw[D,E,F,H,I]at k;simp only[sz,simprocAttr,mK,h4,h7,k,e0,ld,show ¬(3:Nat)=0 by decide];exact⟨λ_=>True,_,rfl,Hi.2 rfl⟩
 obtain⟨r,hr,cs,rfl,hc⟩:=key;rw[hr,Hi.1 hc,hx]
theorem LH{a0 a1 a2 a3 a4 b0 b1 b2 b3 b4:Int}(hj:j<5)(h:∀i,j<i->i<5->[a0,a1,a2,a3,a4][i]?.getD 0=[b0,b1,b2,b3,b4][i]?.getD 0)(hne:[a0,a1,a2,a3,a4][j]?.getD 0≠[b0,b1,b2,b3,b4][j]?.getD 0) :
  S.PJ [a0,a1,a2,a3,a4] [b0,b1,b2,b3,b4]=S.Pl ([a0,a1,a2,a3,a4][j]?.getD 0) ([b0,b1,b2,b3,b4][j]?.getD 0):=by
 have sg:∀x y:Int,x≠y->S.Pl x y≠0:=λx y h=>by unfold S.Pl;split;decide;split;decide;omega
 have b:∀x:Int,S.Pl x x=0:=λx=>by unfold S.Pl;rw[Qw (by omega),Qw (by omega)]
 have k:∀i,j<i->i<5->_:=h;have:j=0\/j=1\/j=2\/j=3\/j=4:=by omega
 rcases this with rfl|rfl|rfl|rfl|rfl
 ·have h1:=h 1 (by omega) (by omega);have h2:=h 2 (by omega) (by omega);have a:=h 3 (by omega) (by omega);have h4:=h 4 (by omega) (by omega);simp at h1 h2 a h4 hne;subst h1;subst h2;subst a;subst h4;simp[S.PJ,b]
 ·have h2:=h 2 (by omega) (by omega);have a:=h 3 (by omega) (by omega);have h4:=h 4 (by omega) (by omega);simp at h2 a h4 hne;subst h2;subst a;subst h4;simp[S.PJ,b,sg _ _ hne]
 ·have a:=h 3 (by omega) (by omega);have h4:=h 4 (by omega) (by omega);simp at a h4 hne;subst a;subst h4;simp[S.PJ,b,sg _ _ hne]
 ·have h4:=h 4 (by omega) (by omega);simp at h4 hne;subst h4;simp[S.PJ,b,sg _ _ hne]
 ·simp at hne;simp[S.PJ,sg _ _ hne]
theorem LI{a0 a1 a2 a3 a4 b0 b1 b2 b3 b4:Int}(h:∀i,i<5->[a0,a1,a2,a3,a4][i]?.getD 0=[b0,b1,b2,b3,b4][i]?.getD 0):S.PJ [a0,a1,a2,a3,a4] [b0,b1,b2,b3,b4]=0:=by
 have a:∀x:Int,S.Pl x x=0:=λx=>by unfold S.Pl;rw[Qw (by omega),Qw (by omega)]
 have h0:=h 0 (by omega);have h1:=h 1 (by omega);have h2:=h 2 (by omega);have k:=h 3 (by omega);have h4:=h 4 (by omega);simp at h0 h1 h2 k h4;subst h0;subst h1;subst h2;subst k;subst h4;simp[S.PJ,a]
theorem MH[XOc]{b:Int}(hd:0<d)(ha:0<=a/\a<4611686018427387904)(hb:0<=b/\b<4611686018427387904)(hy:0<=y/\y<4611686018427387904)(hx:0<=x/\x<4611686018427387904) :
  aq C0 d 63 [Uk a,Uk b,Uk y,Uk x] g=.val (Uk (S.Pl (a*x) (b*y))):=by
 have o:=λg:G=>Jr (d:=d+1) (g:=g) (by omega) ha hx;have k2:=λg:G=>Jr (d:=d+1) (g:=g) (by omega) hb hy;rw[xd];refine eF At (xs:=[Uk a,Uk b,Uk y,Uk x]) (by simp only[aF,bJ 0]) (by simp[pA]) hd ?_;have key:=LK (a:=a) (x:=x) (b:=b) (y:=y) (show (0:Int)<2147483648 by decide);obtain⟨a0,a1,a2,a3,a4,e1,-⟩:=uG (a:=a) (b:=x) (show (0:Int)<2147483648 by decide);obtain⟨b0,b1,b2,b3,b4,p,-⟩:=uG (a:=b) (b:=y) (show (0:Int)<2147483648 by decide);rw[e1]at o key;rw[p]at k2 key;rw[<-key];simp only[sz,simprocAttr,pA,o,k2,ci5,List.map];generalize hg0:G.put _ _ _=g0;have f0:g0.h.get 0=TD 5 [ci5 [a0,a1,a2,a3,a4]]:=by rw[<-hg0];simp[O6,sx,ci5]
 have f1:g0.h.get 1=TD 5 [ci5 [b0,b1,b2,b3,b4]]:=by rw[<-hg0];simp[O6,sx,ci5]
 clear hg0;simp only[qp];refine vB (m:=5) (by omega) (λj t df g=>df=[]/\g=g0/\St t [(9,Ul 0),(10,Ul 1)]/\∀i,j<=i->i<5->[a0,a1,a2,a3,a4][i]?.getD 0=[b0,b1,b2,b3,b4][i]?.getD 0) ⟨rfl,rfl,by simp[St,sx],by omega⟩ (by simp[sx]) (by decide)
  (by rintro j t df g v s (rfl|rfl|rfl|rfl|rfl)<;>simp[St,sx]) ?_ ?_
 ·rintro j t df g l ⟨rfl,rfl,⟨h9,k,-⟩,n⟩ f;obtain⟨u,hu⟩:∃u,[a0,a1,a2,a3,a4][j]?=some u:=⟨_,Qu (by simpa using l)⟩;obtain⟨w,hw⟩:∃w,[b0,b1,b2,b3,b4][j]?=some w:=⟨_,Qu (by simpa using l)⟩;have l1:aY (TD 5 [ci5 [a0,a1,a2,a3,a4]]) 0 0 false 1 j=.val (Uk u):=by have:=Oy (a0:=Uk a0) (a1:=Uk a1) (a2:=Uk a2) (a3:=Uk a3) (a4:=Uk a4) j;rw[show ci5 [a0,a1,a2,a3,a4]=[Uk a0,Uk a1,Uk a2,Uk a3,Uk a4] from rfl,this,show [Uk a0,Uk a1,Uk a2,Uk a3,Uk a4]=[a0,a1,a2,a3,a4].map (AV.int .i64) from rfl,Qx,hu];rfl
  have l2:aY (TD 5 [ci5 [b0,b1,b2,b3,b4]]) 0 0 false 1 j=.val (Uk w):=by have:=Oy (a0:=Uk b0) (a1:=Uk b1) (a2:=Uk b2) (a3:=Uk b3) (a4:=Uk b4) j;rw[show ci5 [b0,b1,b2,b3,b4]=[Uk b0,Uk b1,Uk b2,Uk b3,Uk b4] from rfl,this,show [Uk b0,Uk b1,Uk b2,Uk b3,Uk b4]=[b0,b1,b2,b3,b4].map (AV.int .i64) from rfl,Qx,hw];rfl
  have at':=λh=>LH (a0:=a0) (a1:=a1) (a2:=a2) (a3:=a3) (a4:=a4) (b0:=b0) (b1:=b1) (b2:=b2) (b3:=b3) (b4:=b4) l (λi h1 h2=>n i (by omega) h2) h;rw[hu,hw,QC,QC]at at'
  by_cases c:u=w
  ·simp only[sz,simprocAttr,h9,k,f,NV _ l,f0,f1,l1,l2,c];refine⟨by simp[St,sx,h9,k],λi h1 h2=>?_⟩
   by_cases e:i=j
   ·subst e;rw[hu,hw,QC,QC,c]
   ·exact n i (by omega) h2
  ·have hc:=at' c
   by_cases c2:w<u
   ·rw[S.Pl,QA c2]at hc;simp only[sz,simprocAttr,h9,k,f,NV _ l,f0,f1,l1,l2,c,c2,hc]
   ·rw[S.Pl,Qw c2,QA (by omega)]at hc;simp only[sz,simprocAttr,h9,k,f,NV _ l,f0,f1,l1,l2,c,c2,hc]
 ·rintro t df g ⟨rfl,rfl,-,n⟩;simp only[sz,simprocAttr,qq,LI λi h=>n i (Rf _) h]
end
def S.PZ(n:Net)(e:List Int)(v:Int):Prop:=S.O8 n e=true/\0<=v/\v<(n.nodes.length:Int)/\e[v.toNat]?.getD 0<0
def S.PG(n:Net)(v:Int)(x:Int):Prop:=0<=x/\x<(S.O2 n)[v.toNat]?.getD 0
open Classical in
def S.Po(n:Net)(e:List Int)(v:Int)(l:List Int):Int:=if S.O_ n=true then if S.PZ n e v/\∀x∈l,S.PG n v x then 0 else 2 else 50
theorem we{n:Net}{e:List Int}{v:Int}:S.Po n e v l=0↔S.O_ n=true/\S.PZ n e v/\∀x∈l,S.PG n v x:=by
 unfold S.Po
 by_cases h:S.O_ n=true
 ·rw[QA h]
  by_cases h2:S.PZ n e v/\∀x∈l,S.PG n v x
  ·rw[QA h2];exact⟨λ_=>⟨h,h2⟩,λ_=>rfl⟩
  ·rw[Qw h2];exact⟨λh=>absurd h (by decide),λh=>absurd h.2 h2⟩
 ·rw[Qw h];exact⟨λh=>absurd h (by decide),λh2=>absurd h2.1 h⟩
theorem uR{n:Net}{e:List Int}{v:Int}(h:S.O_ n=true)(h2:¬(S.PZ n e v/\∀x∈l,S.PG n v x)):S.Po n e v l=2:=by unfold S.Po;rw[QA h,Qw h2]
theorem GB{n:Net}{e:List Int}{v:Int}(h:S.O_ n=true)(h2:S.PZ n e v)(h3:∀x∈l,S.PG n v x):S.Po n e v l=0:=we.2 ⟨h,h2,h3⟩
theorem Dl{n:Net}{e:List Int}{v:Int}(h:S.O_ n=false):S.Po n e v l=50:=by unfold S.Po;rw[Qw (by rw[h];decide)]
theorem KM[XOc]{k2:Nat}{P2:Nat->Prop}{n:Net}{e:List Int}{v:Int}{w x:AV}(hd:0<d)(hm:Agg n NoP 0 g.h u)(he:SlR P k g.h e w)(hl:SlR P2 k2 g.h l x) :
  aq C0 d 60 [u,w,Uk v,x] g=.val (Uk (S.Po n e v l)):=by
 obtain⟨w',O,B⟩:=bE he d;obtain⟨x',Q,C⟩:=bE hl d;obtain⟨b,rows,rfl,e1,o,hN,L,W,U,V⟩:=cy d hm;have n2:=λg=>(C .nil).len g;have rb:=λh=>(B h).ints;have rx:=λh=>(C h).ints;have T:=he.1;have E:=hl.1;rw[xa];refine eF As (xs:=[.agg [Uk n.grain,b],w',Uk v,x']) (by simp only[aF,e1,O,Q,bJ]) (by simp[cV]) hd ?_;have kr:=λg:G=>IE (d:=d+1) (g:=g) (n:=n) (v:=.agg [Uk n.grain,b]) (by omega) (o _);have kv:=λg:G=>KL (d:=d+1) (g:=g) (n:=n) (e:=e) (v:=.agg [Uk n.grain,b]) (by omega) (o g.h) (B g.h)
 by_cases hn:S.O_ n=true
 rotate_left
 ·have p:S.O_ n=false:=by simpa using hn
  simp only[sz,simprocAttr,cV,cI,kr,p,Dl p]
 rw[hn]at kr;have bad:¬S.PZ n e v->S.Po n e v l=2:=λh=>uR hn λh2=>h h2.1
 by_cases hev:S.O8 n e=true
 rotate_left
 ·have m:S.O8 n e=false:=by simpa using hev
  have:=bad λh=>hev h.1;simp only[sz,simprocAttr,cV,cI,kr,kv,m,this]
 rw[hev]at kv;obtain⟨R,-⟩:=cU.1 hev
 by_cases hv0:v<0
 ·have:=bad λh=>by have:=h.2.1;omega
  simp only[sz,simprocAttr,cV,cI,kr,kv,hv0,this]
 obtain⟨vn,rfl⟩:=QD (show 0<=v by omega)
 by_cases hv1:(n.nodes.length:Int)<=(vn:Int)
 ·have:=bad λh=>by have:=h.2.2.1;omega
  simp only[sz,simprocAttr,cV,cI,kr,kv,hv0,hN.len,hv1,this]
 have A:vn<e.length:=by omega
 obtain⟨y,H⟩:∃y,e[vn]?=some y:=⟨_,Qu A⟩;have M:vn<(e.map ci).length:=by simpa using A
 have N:(e.map ci)[vn]?=some (ci y):=by rw[Qx,H];rfl
 by_cases hy0:0<=y
 ·have:=bad λh=>by have:=h.2.2.2;rw[Rb,H,QC]at this;omega
  simp only[sz,simprocAttr,cV,cI,kr,kv,hv0,hN.len,hv1,rb,M,N,ci,hy0,this]
 have F:S.PZ n e vn:=⟨hev,by omega,by omega,by rw[Rb,H,QC];omega⟩;obtain⟨nd,q,-,-⟩:=ae (l:=n.nodes) (j:=vn) (by omega);obtain⟨X,Y,q1,hlt,-⟩:=U vn nd q;have r:=V (by omega);have f:(S.O2 n)[vn]?.getD 0=nd.card:=by simp[S.O2,q]
 simp only[sz,simprocAttr,cV,cI,qm,kr,kv,hv0,hN.len,hv1,rb,M,N,ci,hy0];refine be l.length E (λj t df g=>df=[]/\St t [(2,Uk (vn:Int)),(3,x'),(4,Ul 0)]/\g.h.get 0=TD 2 [[Uk n.grain,b]]/\∀i,i<j->∀z,l[i]?=some z->S.PG n vn z)
  ⟨rfl,by simp[St,sx],by simp[sx],λi h=>absurd h (Nat.not_lt_zero i)⟩ (by simp[sx]) (by decide) (by rintro j t df g v s (rfl|rfl|rfl)<;>simp[St,sx]) ?_ ?_ ?_
 ·rintro j t df g D ⟨rfl,⟨h2,c,h4,-⟩,hg,ha⟩ h9;simp only[sz,simprocAttr,c,h9,n2];exact⟨by simp[St,sx,h2,c,h4],hg,ha⟩
 ·rintro j t df g D ⟨rfl,⟨h2,c,h4,-⟩,hg,ha⟩ h9;obtain⟨z,hz,-,I⟩:=ae D;have J:j<(l.map ci).length:=by simpa using D
  have K:(l.map ci)[j]?=some (ci z):=by rw[Qx,hz];rfl
  have bad2:¬S.PG n vn z->S.Po n e vn l=2:=λh=>uR hn λh2=>h (h2.2 z I)
  by_cases c1:z<0
  ·have:=bad2 λh=>by have:=h.1;omega
   simp only[sz,simprocAttr,h2,c,h4,h9,hg,rx,J,K,ci,c1,this]
  ·by_cases c2:nd.card<=z
   ·have:=bad2 λh=>by have:=h.2;rw[Rb,f]at this;omega
    simp only[sz,simprocAttr,h2,c,h4,h9,hg,rx,L,hlt,q1,r,J,K,ci,c1,c2,this]
   ·simp only[sz,simprocAttr,h2,c,h4,h9,hg,rx,L,hlt,q1,r,J,K,ci,c1,c2];refine⟨by simp[St,sx,h2,c,h4],λi hi z' a=>?_⟩
    by_cases e:i=j
    ·subst e;rw[hz]at a;injection a with a;subst a;exact⟨by omega,by rw[Rb,f];omega⟩
    ·exact ha i (by omega) z' a
 ·rintro t df g ⟨rfl,-,-,ha⟩;have:=GB (l:=l) hn F λz hz=>by obtain⟨i,hi⟩:=QO hz;exact ha i (Qt.1 hi).1 z hi
  simp only[sz,simprocAttr,qo,this]
structure GvJ (g0:G) (q:Nat) (s:Int) (h:H):Prop where
 fr:∀i,i<g0.nx->i≠q->h.get i=g0.h.get i
 hq:h.get q=TD 1 [[Uk s]]
structure ND where
 c:Nat->Int
 P:Nat->List Int
 m:Nat->Nat
 R:Nat->Nat->List Int
 o:Nat->Nat
def LN(n:Nat)(D:ND):Ky->Prop:=λk=>k=(0,0)\/∃i q,k=(i+1,q)/\i<n/\q<2+D.o i
theorem LN.z{n:Nat}{D:ND}:LN n D (0,0):=.inl rfl
theorem LN.s{n:Nat}{D:ND}{q:Nat}(h:i<n)(hq:q<2+D.o i):LN n D (i+1,q):=.inr ⟨i,q,rfl,h,hq⟩
theorem LN.p{n:Nat}{D:ND}(h:i<n):LN n D (i+1,0):=LN.s h (by omega)
theorem LN.r{n:Nat}{D:ND}{i:Nat}(h:i<n):LN n D (i+1,1):=LN.s h (by omega)
def fO(D:ND)(V:Ky->AV)(i:Nat):List AV:=[Uk (D.c i),V (i+1,0),V (i+1,1)]
def FL(V:Ky->AV)(i r:Nat):List AV:=[V (i+1,2+r)]
structure BN (K n:Nat) (V:Ky->AV) (E:Ky->En) (D:ND):Prop where
 ns:E (0,0)=.sl 3 ((List.range n).map (fO D V))
 ps:∀i,i<n->E (i+1,0)=.sl 1 ((D.P i).map ci)/\(D.P i).length<=K
 rs:∀i,i<n->E (i+1,1)=.sl 1 ((List.range (D.m i)).map (FL V i))/\D.m i<=K
 rr:∀i r,i<n->r<D.m i->(D.R i r).length<=K/\((r<D.o i/\E (i+1,2+r)=.sl 1 ((D.R i r).map ci))\/SlR NoP 0 .nil (D.R i r) (V (i+1,2+r)))
def ND.node(D:ND)(i:Nat):Node:=⟨D.c i,D.P i,(List.range (D.m i)).map (D.R i)⟩
theorem sM{b:Nat}{v:AV}(h:Own g b v 1 (l.map ci))(hl:l.length<9223372036854775808)(hp:∀i,b<=i->P i):SlR P 0 g.h l v :=
 Own.sl (α:=Int) h hl (O2 (λa=>aI.2 rfl) _) λi hi=>hp i (h.lt hi).1
theorem BN.rows{b n:Nat}{D:ND}{L:Ky->Prop}(hB:BN K n V E D)(hH:Hp g b L V E)(hL:∀k,LN n D k->L k)(hK:K<=1000000)(hi:i<n):SlR (λj=>b<=j) 0 g.h ((List.range (D.m i)).map (D.R i)) (V (i+1,1)):=by
 obtain⟨h1,h2⟩:=hB.rs i hi;have ho:=hH.own (hL _ (LN.r hi)) h1;refine Own.sl (α:=List Int) ho (by simp;omega) (vE λr hr=>?_) λj hj=>(ho.lt hj).1;have hr:=QX.1 hr;obtain⟨h4,h3⟩:=hB.rr i r hi hr;rcases h3 with⟨h5,h3⟩|h3
 ·exact gm.2 ⟨_,rfl,sM (hH.own (hL _ (LN.s hi (by omega))) h3) (by omega) λ_ h=>h⟩
 ·exact gm.2 ⟨_,rfl,(h3.tree (h':=g.h) (Qv 0)).wd λ_ h=>h.elim⟩
theorem Hp.off{κ:Type} [DecidableEq κ]{b:Nat}{L:κ->Prop}{V:κ->AV}{E:κ->En}{k:κ}{x:AV}(h:Hp g b L V E)(hk:¬L k):Hp g b L (ups V k x) E:=by have ne:∀j,L j->j≠k:=λj hj e=>hk (by rw[<-e];exact hj);exact⟨λj hj=>by rw[ac V x (ne j hj)];exact h.ok j hj,λj l hj hl hne id=>by rw[ac V x (ne j hj),ac V x (ne l hl)];exact h.sep j l hj hl hne id,h.nx⟩
theorem BN.pars{b n:Nat}{D:ND}{L:Ky->Prop}(hB:BN K n V E D)(hH:Hp g b L V E)(hL:∀k,LN n D k->L k)(hK:K<=1000000)(hi:i<n):SlR (λj=>b<=j) 0 g.h (D.P i) (V (i+1,0)):=by obtain⟨h1,h2⟩:=hB.ps i hi;exact sM (hH.own (hL _ (LN.p hi)) h1) (by omega) λ_ h=>h
theorem BN.nodes{b n:Nat}{D:ND}{L:Ky->Prop}(hB:BN K n V E D)(hH:Hp g b L V E)(hL:∀k,LN n D k->L k)(hK:K<=1000000)(hn:n<=1000000):SlR (λj=>b<=j) 0 g.h ((List.range n).map D.node) (V (0,0)):=by have ho:=hH.own (hL _ LN.z) hB.ns;refine Own.sl (α:=Node) ho (by simp;omega) (vE λi hi=>?_) λj hj=>(ho.lt hj).1;have hi:=QX.1 hi;exact bV.2 ⟨_,_,rfl,hB.pars hH hL hK hi,hB.rows hH hL hK hi⟩
theorem nF{α:Type}(f:Nat->α){n:Nat}(x:α)(hi:i<n):((List.range n).map f).set i x=(List.range n).map (ups f i x):=by
 refine S4 (by simp) λj h1 h2=>?_;rw[List.getElem_set]
 by_cases e:i=j
 ·subst e;simp[an]
 ·rw[Qw e];simp[ac _ _ (RJ e)]
theorem f_{α:Type}(f:Nat->α){n:Nat}(hi:i<n):((List.range n).map f)[i]?=some (f i):=by simp[hi]
theorem zy{D D':ND}{V':Ky->AV}{n:Nat}{row:List AV}(h0:row=fO D' V' i)(h:∀j,j<n->j≠i->fO D V j=fO D' V' j):(List.range n).map (ups (fO D V) i row)=(List.range n).map (fO D' V'):=by
 refine R0 λj k=>?_;have k:=QX.1 k
 by_cases e:j=i
 ·subst e;rw[an,h0]
 ·rw[ac _ _ e,h j k e]
section
variable {X:List Int}{C:Nat}
def Lv(gr c:Int)(l:List Int):Prop:=(l.length:Int)=c/\(∀y∈l,0<=y/\y<=gr)/\l.sum=gr
def OT(gr:Int)(C:Nat):VS:=λP k h v=>∃l:List Int,(l.length=C/\Lv gr C l)/\One l P k h v
def S.rq(gr s x:Int):Int:=gr*x / s
theorem Hj(gr s:Int):S.rq gr s 0=0:=by simp[S.rq]
theorem FK{gr s:Int}(hs:0<=s)(hg:0<=gr):∀l:List Int,(∀x∈l,0<=x/\x<=s)->0<=(l.map (S.rq gr s)).sum/\(l.map (S.rq gr s)).sum*s<=gr*l.sum
 |[],_=>by simp
 | x::l,h=>by
  have ih:=FK hs hg l λy hy=>h y (Rj _ hy);have hx:=h x (Rm ..);have h1:0<=S.rq gr s x:=Int.ediv_nonneg (Sy hg hx.1) hs;have h2:S.rq gr s x*s<=gr*x:=by
   by_cases e:s=0
   ·have:x=0:=by omega
    subst this;simp[S.rq,e]
   ·exact Int.ediv_mul_le _ e
  simp only[Rx,Sv];refine⟨by omega,?_⟩;rw[Tv,Tw];omega
theorem xP:∀(l:List Int),(∀x∈l,0<=x)->0<=l.sum/\∀x∈l,x<=l.sum
 |[],_=>by simp
 | a::l,h=>by
  have ih:=xP l λy hy=>h y (Rj _ hy);have ha:=h a (Rm ..);simp only[Sv];refine⟨by omega,λx hx=>?_⟩;rcases Q8.1 hx with rfl|hx
  ·omega
  ·have:=ih.2 x hx;omega
theorem Hy:∀(l:List Int) (i:Nat) (x y:Int),l[i]?=some x->(l.set i y).sum=l.sum - x+y
 |[],i,x,y,h=>by simp at h
 | a::l,0,x,y,h=>by simp at h;subst h;simp only[Sf,Sv];omega
 | a::l,i+1,x,y,h=>by rw[Tt,Sv,Sv,Hy l i x y (by simpa using h)];omega
theorem Mw{s:Int}{la:Nat}(hg:0<=gr)(hX:∀x∈X,0<=x/\x<=s)(hs:s=X.sum)(hla:la<X.length){x:Int}(hx:(X.map (S.rq gr s))[la]?=some x):Lv gr X.length ((X.map (S.rq gr s)).set la (x+(gr - (X.map (S.rq gr s)).sum)))/\0<=x+(gr - (X.map (S.rq gr s)).sum)/\x+(gr - (X.map (S.rq gr s)).sum)<=gr:=by
 have b:0<=s:=by rw[hs];exact (xP X λx hx=>(hX x hx).1).1
 have hq:=FK b hg X hX;have d:(X.map (S.rq gr s)).sum<=gr:=by
  by_cases e:s=0
  ·have h0:∀x∈X,x=0:=λx hx=>by have:=hX x hx;omega
   have:X.map (S.rq gr s)=List.replicate X.length 0:=by rw[List.eq_replicate_iff];refine⟨by simp,λy hy=>?_⟩;obtain⟨z,hz,rfl⟩:=Ri.1 hy;rw[h0 z hz,Hj]
   rw[this];have:∀n:Nat,(List.replicate n (0:Int)).sum=0:=λn=>by induction n with
    |zero=>rfl
    |succ n ih=>rw[RT,Sv,ih];rfl
   rw[this];exact hg
  ·have h1:=hq.2;rw[<-hs]at h1;exact Int.le_of_mul_le_mul_right h1 (by omega)
 have c:∀y∈X.map (S.rq gr s),0<=y:=λy hy=>by obtain⟨z,hz,rfl⟩:=Ri.1 hy;exact Int.ediv_nonneg (Sy hg (hX z hz).1) b
 have f:=c x (Qz hx);have k:((X.map (S.rq gr s)).set la (x+(gr - (X.map (S.rq gr s)).sum))).sum=gr:=by rw[Hy _ _ _ _ hx];omega
 have a:∀y∈(X.map (S.rq gr s)).set la (x+(gr - (X.map (S.rq gr s)).sum)),0<=y:=λy hy=>by
  rcases List.mem_or_eq_of_mem_set hy with h|rfl
  ·exact c y h
  ·omega
 have hb:=xP _ a;rw[k]at hb;refine⟨⟨by simp,λy hy=>⟨a y hy,hb.2 y hy⟩,k⟩,by omega,hb.2 _ ?_⟩;exact List.mem_set (by simpa using hla) _
structure Rw1 (gr:Int) (nv u:AV) (C F j:Nat) (t:T) (g:G):Prop where
 st:St t [(0,Uk gr),(1,Uk (C:Int)),(2,nv),(3,Uk (F:Int)),(9,u)]
 hX:∃(X:List Int) (s:Int),tat t 10=Uk s/\X.length=C/\Own g 0 u 1 (X.map ci)/\(∀x∈X,0<=x/\x<=7)/\s=(X.take j).sum/\0<=s/\s<=7*j
theorem N8[XOc]{F:Nat}{nv:AV}{l:List UInt8}(hC:C<=3)(hF:F<=1000)(hl:SlR NoP kk .nil l nv)(h0:Rw1 gr nv u C F 0 t g)(h11:tat t 11=Uk 0)
  (fin:∀t g,Rw1 gr nv u C F C t g->Q (.exit 0) t [] g):wpL (wp C0 d none lR) Q t [] g:=by
 obtain⟨nr,I,r2,Z,r4⟩:=hl.all;have I:∀h',af h' 1 nv=some nr:=I;have S:=hl.1;have ll:=hl.len;simp only[lR,rf];refine be C (by omega) (λj t df g=>df=[]/\Rw1 gr nv u C F j t g) ⟨rfl,h0⟩ h11 (by decide) ?_ ?_ ?_ ?_
 ·rintro j t df g v s (rfl|rfl|rfl) ⟨a1,⟨b1,b2,b3,b4,N,-⟩,X,s',c1,O⟩<;>exact⟨a1,by simp[St,sx,b1,b2,b3,b4,N],X,s',by simp[sx,c1],O⟩
 ·rintro j t df g R ⟨rfl,⟨h0,h1,h2,c,h9,-⟩,X,s,k,hX⟩ h11;simp only[sz,simprocAttr,h11,h1];exact⟨by simp[St,sx,h0,h1,h2,c,h9],X,s,by simp[sx,k],hX⟩
 ·rintro j t df g R ⟨rfl,⟨h0,h1,h2,c,h9,-⟩,X,s,k,w,hX,q,D,U,V⟩ h11;refine fA (P:=λt' df g'=>df=[]/\∃(X':List Int) (x':Int),St t' [(0,Uk gr),(1,Uk (C:Int)),(2,nv),(3,Uk (F:Int)),(9,u),(10,Uk s),(11,Uk (j:Int))]/\X'.length=C/\Own g' 0 u 1 (X'.map ci)/\(∀x∈X',0<=x/\x<=7)/\X'[j]?=some x'/\∀i,i≠j->X'[i]?=X[i]?) ?_ ?_
  ·have r:X[j]?=some X[j]:=Qu (by omega);simp only[sz,simprocAttr,h2,ll];refine ba (λhb=>?_) (λhb=>?_)
   ·have hb:0<l.length:=by simpa using hb
    have w1:IntKind.wrap .i64 ((F:Int)+(j:Int))=((F+j:Nat):Int):=by rw[aA (by omega) (by omega)];simp
    have q1:=Hg (x:=F+j) (y:=l.length) hb;have m:=R_ (F+j) hb;generalize (F+j) % l.length=a at q1 m;obtain⟨y,Y,-,-⟩:=ae (l:=l) (j:=a) m;obtain⟨row,M,z2⟩:=Z a y Y;rw[dL.1 z2]at M;have hlt:a<nr.length:=by omega
    have q2:=dN .u8 (a:=(y.toNat:Int)) (b:=8) (by omega) (by omega);have E:0<=(y.toNat:Int) % 8:=SJ _ (by decide);have H:(y.toNat:Int) % 8<8:=Sr _ (by decide);have L:IntKind.wrap .i64 ((y.toNat:Int) % 8)=(y.toNat:Int) % 8:=aA (by omega) (by omega);generalize (y.toNat:Int) % 8=z at q2 E H L;have J:j<(X.map ci).length:=by simp;omega
    have K:(X.map ci)[j]?=some (ci X[j]):=by rw[Qx,r];rfl
    have rX:=hX.rows;simp only[sz,simprocAttr,h2,c,h9,h11,ll,w1,q1,I,hlt,M,q2,L,rX,J];refine ck (v:=u) (sz:=1) (n:=1) (i:=j) (off:=0) (x:=Uk z) (row':=ci z) hX K rfl rfl rfl λg4 hu4 n4 f4=>?_;rw[<-RD]at hu4;simp only[sx,sy];refine⟨X.set j z,z,by simp[St,sx,h0,h1,h2,c,h9,k,h11],by simp[w],hu4,λx hx=>?_,by rw[Rr (by omega)],λi hi=>by rw[SB (RJ hi)]⟩;rcases List.mem_or_eq_of_mem_set hx with h|rfl
    ·exact q x h
    ·omega
   ·simp only[sx,sy];exact⟨X,X[j],by simp[St,sx,h0,h1,h2,c,h9,k,h11],w,hX,q,r,λ_ _=>rfl⟩
  clear h0 h1 h2 c h9 k h11 hX;rintro t df g ⟨rfl,X',x',⟨h0,h1,h2,c,h9,k,h11,-⟩,A,p,f,o,B⟩;have J:j<(X'.map ci).length:=by simp;omega
  have K:(X'.map ci)[j]?=some (ci x'):=by rw[Qx,o];rfl
  have rX:=p.rows;have W:=f x' (Qz o);have w1:IntKind.wrap .i64 (s+x')=s+x':=aA (by omega) (by omega);simp only[sz,simprocAttr,q_,k,h9,h11,rX,J,K,ci,w1];have ht:X'.take j=X.take j:=List.ext_getElem? λi=>by
   by_cases e:i<j
   ·rw[Ra e,Ra e,B i (by omega)]
   ·rw[Sq (by simp;omega),Sq (by simp;omega)]
  refine⟨by simp[St,sx,h0,h1,h2,c,h9],X',s+x',by simp[sx],A,p,f,?_,by omega,by omega⟩;rw[SG,o,ht,List.sum_append,<-D];simp
 ·rintro t df g ⟨rfl,h⟩;exact fin t g h
structure Rw2 (gr s:Int) (u:AV) (C:Nat) (X:List Int) (j:Nat) (t:T) (g:G):Prop where
 st:St t [(0,Uk gr),(1,Uk (C:Int)),(9,u),(10,Uk s)]
 hX:∃(la:Nat),tat t 12=Uk (gr - ((X.take j).map (S.rq gr s)).sum)/\tat t 13=Uk (la:Int)/\la<C/\Own g 0 u 1 (((X.take j).map (S.rq gr s)++X.drop j).map ci)
theorem My{s:Int}(h:j<X.length):((X.take j).map (S.rq gr s)++X.drop j).set j (S.rq gr s X[j])=(X.take (j+1)).map (S.rq gr s)++X.drop (j+1):=by
 have hl:((X.take j).map (S.rq gr s)).length=j:=by simp;omega
 rw[R2 _ _ (by omega),hl,RF,RA h,Sf,Si h,SL,RG]
 rfl
theorem N9[XOc]{s:Int}(hC:C<=3)(hg:0<=gr/\gr<=60)(hXl:X.length=C)(hXb:∀x∈X,0<=x/\x<=7/\x<=s)(h0:Rw2 gr s u C X 0 t g)(h14:tat t 14=Uk 0)
  (fin:∀t g,Rw2 gr s u C X C t g->Q (.exit 2) t [] g):wpL (wp C0 d none lT) Q t [] g:=by
 simp only[lT,rh];refine be C (by omega) (λj t df g=>df=[]/\Rw2 gr s u C X j t g) ⟨rfl,h0⟩ h14 (by decide) ?_ ?_ ?_ ?_
 ·rintro j t df g v s (rfl|rfl|rfl) ⟨a1,⟨b1,b2,b3,b4,-⟩,la,c1,K,N⟩<;>exact⟨a1,by simp[St,sx,b1,b2,b3,b4],la,by simp[sx,c1],by simp[sx,K],N⟩
 ·rintro j t df g I ⟨rfl,⟨h0,h1,h9,k,-⟩,la,c,f,hX⟩ h14;simp only[sz,simprocAttr,h14,h1];exact⟨by simp[St,sx,h0,h1,h9,k],la,by simp[sx,c],by simp[sx,f],hX⟩
 ·rintro j t df g I ⟨rfl,⟨h0,h1,h9,k,-⟩,la,c,f,o,hX⟩ h14;have m:j<X.length:=by omega
  obtain⟨b0,b1,b2⟩:=hXb X[j] (RZ m);have F:((X.take j).map (S.rq gr s)++X.drop j).length=C:=by simp;omega
  have w:((X.take j).map (S.rq gr s)++X.drop j)[j]?=some X[j]:=by rw[QL (by simp;omega)];simp[show min j X.length=j by omega,m]
  have E:j<(((X.take j).map (S.rq gr s)++X.drop j).map ci).length:=by rw[QJ,F];exact I
  have q:(((X.take j).map (S.rq gr s)++X.drop j).map ci)[j]?=some (ci X[j]):=by rw[Qx,w];rfl
  have rX:=hX.rows;have H:0<=gr*X[j]:=Sy hg.1 b0;have L:gr*X[j]<=60*7:=Ty hg.2 b1 b0 (by decide);have p:=My (gr:=gr) (s:=s) m;have D:(X.take (j+1)).map (S.rq gr s)=(X.take j).map (S.rq gr s)++[S.rq gr s X[j]]:=by rw[Si m,SL];rfl
  have U:=FK (gr:=gr) (s:=s) (by omega) hg.1 (X.take j) λy hy=>by have:=hXb y (Rs hy);omega
  have B:∀x∈X,0<=S.rq gr s x/\S.rq gr s x<=420:=λx hx=>by obtain⟨c0,c1,K⟩:=hXb x hx;have h1:0<=gr*x:=Sy hg.1 c0;have h2:gr*x<=60*7:=Ty hg.2 c1 c0 (by decide);refine⟨Int.ediv_nonneg h1 (by omega),?_⟩;have:=Int.ediv_le_self (b:=s) h1;unfold S.rq;omega
  have J:∀l:List Int,(∀x∈l,x∈X)->(l.map (S.rq gr s)).sum<=420*l.length:=λl=>by
   induction l with
   |nil=>intro _;simp
   | cons a l ih =>
    intro h;have h1:=B a (h a (Rm ..));have h2:=ih λy hy=>h y (Rj _ hy);simp only[Rx,Sv,Q9]
    push_cast
    omega
  have R:=J (X.take j) λx hx=>Rs hx;have M:(X.take j).length<=3:=by simp;omega
  have O:=B X[j] (RZ m);refine fA (P:=λt' df g'=>df=[]/\∃(la':Nat),St t' [(0,Uk gr),(1,Uk (C:Int)),(9,u),(10,Uk s),(12,Uk (gr - ((X.take j).map (S.rq gr s)).sum)),(13,Uk (la':Int)),(14,Uk (j:Int))]/\la'<C/\Own g' 0 u 1 (((X.take (j+1)).map (S.rq gr s)++X.drop (j+1)).map ci)) ?_ ?_
  ·simp only[sz,simprocAttr,h9,h14,rX,E,q,ci];refine ba (λhb=>?_) (λhb=>?_)
   ·have hb:0<X[j]:=by simpa using hb
    have w1:IntKind.wrap .i64 (gr*X[j])=gr*X[j]:=aA (by omega) (by omega);have q1:bT .quo (Uk (gr*X[j])) (Uk s)=.val (Uk (S.rq gr s X[j])):=Ja (x:=gr*X[j]) (y:=s) H (by omega) (by omega);simp only[sz,simprocAttr,h0,h9,k,h14,rX,E,q,ci,w1,q1];refine ck (v:=u) (sz:=1) (n:=1) (i:=j) (off:=0) (x:=Uk (S.rq gr s X[j])) (row':=ci (S.rq gr s X[j])) hX q rfl rfl rfl λg4 hu4 n4 f4=>?_;rw[<-RD,p]at hu4;simp only[sz,simprocAttr,h14];exact⟨j,by simp[St,sx,h0,h1,h9,k,c,h14],by omega,hu4⟩
   ·have hb:X[j]=0:=by
     have:¬0<X[j]:=by simpa using hb
     omega
    simp only[sx,sy];refine⟨la,by simp[St,sx,h0,h1,h9,k,c,f,h14],o,?_⟩;rw[<-p,hb,Hj,<-hb];have:((X.take j).map (S.rq gr s)++X.drop j).set j X[j]=(X.take j).map (S.rq gr s)++X.drop j:=by
     refine List.ext_getElem? λi=>?_
     by_cases e:j=i
     ·subst e;rw[Rr (by omega),w]
     ·rw[SB e]
    rw[this];exact hX
  clear h0 h1 h9 k c f h14 hX rX o E q;rintro t df g ⟨rfl,la',⟨h0,h1,h9,k,c,f,h14,-⟩,o,r⟩;have A:((X.take (j+1)).map (S.rq gr s)++X.drop (j+1)).length=C:=by simp;omega
  have z:((X.take (j+1)).map (S.rq gr s)++X.drop (j+1))[j]?=some (S.rq gr s X[j]):=by rw[QE (by simp;omega),D,QL (by simp;omega)];simp[show min j X.length=j by omega]
  have E:j<(((X.take (j+1)).map (S.rq gr s)++X.drop (j+1)).map ci).length:=by rw[QJ,A];exact I
  have q:(((X.take (j+1)).map (S.rq gr s)++X.drop (j+1)).map ci)[j]?=some (ci (S.rq gr s X[j])):=by rw[Qx,z];rfl
  have rX:=r.rows;have w1:IntKind.wrap .i64 (gr - ((X.take j).map (S.rq gr s)).sum - S.rq gr s X[j])=gr - ((X.take (j+1)).map (S.rq gr s)).sum:=by rw[D,List.sum_append,aA (by omega) (by omega)];simp;omega
  simp only[sz,simprocAttr,rg,c,h9,h14,rX,E,q,ci,w1];exact⟨by simp[St,sx,h0,h1,h9,k],la',by simp[sx],by simp[sx,f],o,r⟩
 ·rintro t df g ⟨rfl,h⟩;exact fin t g h
theorem N_[XOc]{F:Nat}{nv:AV}{l:List UInt8}(hd:0<d)(hC:1<=C/\C<=3)(hF:F<=1000)(hg:0<=gr/\gr<=60)(hl:SlR NoP kk .nil l nv) :
  ∃r,aq C0 d 32 [Uk gr,Uk (C:Int),nv,Uk (F:Int)] g=.val r/\OT gr C NoP 0 .nil r:=by
 rw[yB];refine bj B1 (xs:=[Uk gr,Uk (C:Int),nv,Uk (F:Int)]) (by simp only[aF,Cw d (hl.tree (h':=g.h) (Qv _)),bJ 0]) (by simp[q9]) (kM λo=>aU _) (by decide) hd ?_;simp only[sz,simprocAttr,q9];refine uZ (b:=0) (n:=C) (by unfold aQ;omega) (by unfold aQ;omega) (Rf _) λu g1 hu n1 f1 vu=>?_;simp only[sz,simprocAttr];refine N8 (gr:=gr) (nv:=nv) (u:=u) (C:=C) (F:=F) hC.2 hF hl ⟨by simp[St,sx],List.replicate C 0,0,by simp[sx],by simp,by simpa [ci] using hu,λx hx=>by rw[(Ts.1 hx).2];decide,by simp,by omega,by omega⟩ (by simp[sx]) ?_;rintro t g2 ⟨⟨h0,h1,h2,q,h9,-⟩,X,s,c,e,hX,k,a,y,z⟩;rw[RE (by omega)]at a;have j:=xP X λx hx=>(k x hx).1;simp only[sz,simprocAttr,rm,h0];refine N9 (gr:=gr) (s:=s) (u:=u) (C:=C) (X:=X) hC.2 hg e (λx hx=>⟨(k x hx).1,(k x hx).2,by rw[a];exact j.2 x hx⟩) ⟨by simp[St,sx,h0,h1,h9,c],0,by simp[sx],by simp[sx],by omega,by simpa using hX⟩ (by simp[sx]) ?_;clear h0 h1 h2 q h9 c hX;rintro t g3 ⟨⟨h0,h1,h9,c,-⟩,la,f,m,w,hX⟩;rw[RE (by omega)]at f hX;rw[List.drop_eq_nil_of_le (by omega),QN]at hX;obtain⟨x,hx⟩:∃x,(X.map (S.rq gr s))[la]?=some x:=⟨_,Qu (by simp;omega)⟩;obtain⟨f1,f2,B⟩:=Mw (gr:=gr) (s:=s) (X:=X) (la:=la) hg.1 (λx hx=>⟨(k x hx).1,by rw[a];exact j.2 x hx⟩) a (by omega) hx;have A:la<((X.map (S.rq gr s)).map ci).length:=by simp;omega
 have p:((X.map (S.rq gr s)).map ci)[la]?=some (ci x):=by rw[Qx,hx];rfl
 have rX:=hX.rows;have w1:IntKind.wrap .i64 (x+(gr - (X.map (S.rq gr s)).sum))=x+(gr - (X.map (S.rq gr s)).sum):=aA (by omega) (by omega);simp only[sz,simprocAttr,rk,h9,m,f,rX,A,p,ci,w1];refine ck (v:=u) (sz:=1) (n:=1) (i:=la) (off:=0) (x:=Uk (x+(gr - (X.map (S.rq gr s)).sum))) (row':=ci (x+(gr - (X.map (S.rq gr s)).sum))) hX p rfl rfl rfl λg4 hu4 n4 f4=>?_;rw[<-RD]at hu4;simp only[sz,simprocAttr,h9];exact⟨λ_=>True,_,⟨by simp[e],by rw[<-e];exact f1⟩,hu4.ints (by simp;omega)⟩
end
theorem zG(os:List UInt8):∀k,(S.Pj os k).Perm ((List.range k).map λi:Nat=>(i:Int))
 |0=>.refl _
 | k+1=>by rw[Sd,SL,S.Pj];refine List.perm_middle.trans ?_;rw[Ry];exact ((zG os k).cons _).trans (List.perm_append_comm (l₁:=[(k:Int)]))
structure Num (n:Nat) (pl:List Int) (num:Nat->Nat):Prop where
 len:pl.length=n
 at_:∀k,k<n->pl[k]?=some (num k:Int)
 lt:∀k,k<n->num k<n
 inj:∀i j,i<n->j<n->num i=num j->i=j
 sur:∀u,u<n->∃k,k<n/\num k=u
theorem N1(os:List UInt8)(n:Nat):∃num,Num n (S.Pj os n) num:=by
 have hp:=zG os n;have hl:=oU os n;have f:∀x∈S.Pj os n,∃i:Nat,i<n/\x=(i:Int):=λx hx=>by have:=hp.mem_iff.1 hx;obtain⟨i,hi,rfl⟩:=Ri.1 this;exact⟨i,QX.1 hi,rfl⟩
 have l:(S.Pj os n).Nodup:=by rw[hp.nodup_iff];refine List.Pairwise.map _ ?_ (List.nodup_range (n:=n));intro a b h e;exact h (by omega)
 have c:∀k,k<n->(S.Pj os n)[k]?=some (((S.Pj os n)[k]?.getD 0).toNat:Int)/\((S.Pj os n)[k]?.getD 0).toNat<n:=λk hk=>by
  have d:k<(S.Pj os n).length:=by omega
  have e:=Qu d;obtain⟨i,hi,h⟩:=f _ (RZ d);rw[e,QC,h];simp[hi]
 refine⟨λk=>((S.Pj os n)[k]?.getD 0).toNat,hl,λk hk=>(c k hk).1,λk hk=>(c k hk).2,λi j hi hj h=>?_,λu hu=>?_⟩
 ·have h1:=(c i hi).1;have h2:=(c j hj).1;refine (List.getElem?_inj (by omega) l).1 ?_;rw[h1,h2];exact congrArg (λx:Nat=>some (x:Int)) h
 ·have:(u:Int)∈S.Pj os n:=hp.mem_iff.2 (Ri.2 ⟨u,QX.2 hu,rfl⟩);obtain⟨k,hk,he⟩:=RU.1 this;refine⟨k,by omega,?_⟩;rw[Qu hk,he];rfl
theorem MG(m n:Nat):∃z:Int,bT .shl (Uk (m:Int)) (Um (n:Int))=.val (Uk z):=⟨_,rfl⟩
def LNX(X:Ky->Prop)(n:Nat)(D:ND):Ky->Prop:=λk=>LN n D k\/X k
def X1:Ky->Prop:=λk=>k=(0,1)
def X2:Ky->Prop:=λk=>k=(0,1)\/k=(0,2)
structure DN (X:Ky->Prop) (r0:List AV) (n q K:Nat) (gr:Int) (V:Ky->AV) (E:Ky->En) (D:ND) (g:G):Prop where
 hp:Hp g 2 (LNX X n D) V E
 bn:BN K n V E D
 vb:V (0,1)=Ul q
 bx:E (0,1)=.bx [Uk gr,V (0,0)]
 h0:g.h.get 0=TD 3 [r0]
 h1:g.h.get 1=TD 2 [[Uk 0,.nils]]
theorem DN.q{X:Ky->Prop}{r0:List AV}{n q K:Nat}{gr:Int}{V:Ky->AV}{E:Ky->En}{D:ND}{g:G}(h:DN X r0 n q K gr V E D g)(hX:X (0,1)):g.h.get q=TD 2 [[Uk gr,V (0,0)]]/\2<=q/\q<g.nx:=by obtain⟨id,h1,h2,a,h4⟩:=h.hp.box (k:=(0,1)) (.inr hX) h.bx;rw[h.vb]at a;injection a with a;subst a;exact⟨h4,h1,h2⟩
theorem DN.ns{X:Ky->Prop}{r0:List AV}{n q K:Nat}{gr:Int}{V:Ky->AV}{E:Ky->En}{D:ND}{g:G}(h:DN X r0 n q K gr V E D g):Own g 2 (V (0,0)) 3 ((List.range n).map (fO D V)):=h.hp.own (.inl LN.z) h.bn.ns
theorem DN.same{X:Ky->Prop}{n q:Nat}{D:ND}{g':G}(h:DN X r0 n q K gr V E D g)(hf:Fr g g'):DN X r0 n q K gr V E D g':=by have:=h.hp.nx;exact⟨h.hp.step hf.1 λi _ hi=>hf.2 i hi,h.bn,h.vb,h.bx,by rw[hf.2 0 (by omega),h.h0],by rw[hf.2 1 (by omega),h.h1]⟩
theorem fe{b:Nat}{v:AV}{sz:Nat}{rows:List (List AV)}(h:Own g b v sz rows)(hr:0<rows.length):md v=true:=by
 rcases h with⟨rfl,rfl⟩|⟨id,ep,lo,-,-,rfl,-⟩
 ·simp at hr
 ·rfl
theorem DN.card{X:Ky->Prop}{n q:Nat}{D:ND}{KK:AV->G->Prop}{DD:ADf->Prop}(h:DN X r0 n q K gr V E D g)(hi:i<n)(hX:∀k,X k->k≠(0,0))
  (kk:∀g' E',DN X r0 n q K gr V E' { D with c:=ups D.c i c } g'->g'.nx=g.nx->KK .undef g'):(mi 1 (jf 3 (V (0,0)) i 0) (Uk c) g).sat KK g DD:=by
 refine h.hp.put (k:=(0,0)) (row:=fO D V i) (row':=[Uk c,V (i+1,0),V (i+1,1)]) (.inl LN.z) h.bn.ns (f_ _ hi) rfl rfl rfl λg' hH hn hf1 hf2=>?_;refine kk g' _ ⟨hH.sub λk hk=>hk,⟨?_,λj hj=>?_,λj hj=>?_,λj r hj hr=>?_⟩,h.vb,?_,by rw[hf1 0 (by omega),h.h0],by rw[hf1 1 (by omega),h.h1]⟩ hn
 ·rw[an,nF _ _ hi];congr 1;refine zy (by simp[fO,an]) λj hj hne=>by simp[fO,ac _ _ hne]
 ·rw[ac _ _ (by simp)];exact h.bn.ps j hj
 ·rw[ac _ _ (by simp)];exact h.bn.rs j hj
 ·rw[ac _ _ (by simp)];exact h.bn.rr j r hj hr
 ·rw[ac _ _ (by simp)];exact h.bx
structure DAok (D:ND) (n i:Nat) (num:Nat->Nat):Prop where
 e:∀v,v<n->D.P v=[]/\D.m v=0
 c:∀k,k<i->D.c (num k)=2\/D.c (num k)=3
 o:∀u,D.o u=0
def LDA(n q:Nat)(r5:AV):List (Nat×AV):=[(1,Ul 0),(2,Ul 1),(3,Uk (n:Int)),(4,Ul q),(5,r5)]
structure DA (r0:List AV) (n q:Nat) (gr:Int) (r5:AV) (num:Nat->Nat) (i:Nat) (t:T) (g:G):Prop where
 st:St t (LDA n q r5)
 w:∃w:Nat,tat t 6=Uk (w:Int)/\w<=3 ^ i
 hd:∃V E D,DN X1 r0 n q 1000 gr V E D g/\DAok D n i num
theorem OZ(h:i<=5):3 ^ i<=243:=by
 have:i=0\/i=1\/i=2\/i=3\/i=4\/i=5:=by omega
 rcases this with rfl|rfl|rfl|rfl|rfl|rfl<;>decide
theorem NX[XOc]{n q:Nat}{x:vD}{a b:AV}{num:Nat->Nat}(hn:1<=n/\n<=5)(ha:SlR NoP kk .nil x.2.1 a)(h5:IT 0 pl r5)(hN:Num n pl num)
  (h0:DA [u8v x.1,a,b] n q gr r5 num 0 t g) (h7:tat t 7=Uk 0)
  (fin:∀t g,DA [u8v x.1,a,b] n q gr r5 num n t g->Q (.exit 0) t [] g):wpL (wp C0 d none eT) Q t [] g:=by
 obtain⟨pr,O,r2,r3,r4⟩:=ha.all;have O:∀h',af h' 3 a=some pr:=O;have la:=ha.len;have hc:=ha.1;have R:∀h,af h 1 r5=some (pl.map ci):=λh=>(h5.sl h).ints;simp only[eT,jx];refine be n (by omega) (λj t df g=>df=[]/\DA [u8v x.1,a,b] n q gr r5 num j t g) ⟨rfl,h0⟩ h7 (by decide) ?_ ?_ ?_ ?_
 ·rintro j t df g v s (rfl|rfl|rfl) ⟨a1,⟨b1,b2,b3,b4,Y,-⟩,⟨w,c1,Z⟩,c3⟩<;>exact⟨a1,by simp[St,LDA,sx,b1,b2,b3,b4,Y],⟨w,by simp[sx,c1],Z⟩,c3⟩
 ·rintro j t df g M ⟨rfl,⟨h1,h2,f,h4,h5,-⟩,⟨w,l,hw⟩,I⟩ h7;simp only[sz,simprocAttr,h7,f];exact⟨by simp[St,LDA,sx,h1,h2,f,h4,h5],⟨w,by simp[sx,l],hw⟩,I⟩
 ·rintro j t df g M ⟨rfl,⟨h1,h2,f,h4,h5,-⟩,⟨w,l,hw⟩,V,E,D,I,B⟩ h7;obtain⟨u,F⟩:∃u,u=g.nx:=⟨_,rfl⟩;have he:=I.hp.nx;refine fA (P:=λt' df g'=>df=[]/\g'=g.new (TD 3 [[.int .u8 0,.int .u8 0,.nils]])/\St t' ((6,Uk (w:Int))::(7,Uk (j:Int))::(8,Ul u)::LDA n q r5)) ?_ ?_
  ·simp only[sz,simprocAttr];simp[St,LDA,sx,h1,h2,f,h4,h5,l,h7,F]
  clear h1 h2 f h4 h5 l h7;rintro t df g1 ⟨rfl,r,⟨l,h7,h8,h1,h2,f,h4,h5,-⟩⟩;have f1:Fr g g1:=by rw[r];exact Fr.new _ _
  have L:g1.h.get u=TD 3 [[.int .u8 0,.int .u8 0,.nils]]:=by rw[r,F];simp[O6]
  have n1:u<g1.nx:=by rw[r,F];simp
  clear r;have J:=I.same f1;have e0:=J.h0;refine fA (P:=λt' df g'=>df=[]/\Fr g g'/\St t' ((6,Uk (w:Int))::(7,Uk (j:Int))::(8,Ul u)::LDA n q r5)/\u<g'.nx/\∃(y:UInt8) (W X:AV),g'.h.get u=TD 3 [[u8v y,W,X]]) ?_ ?_
  ·simp only[sz,simprocAttr,h7,h1,e0,la];refine ba (λhb=>?_) (λhb=>?_)
   ·have hb:j<x.2.1.length:=by simpa using hb
    obtain⟨y,hy,-,-⟩:=ae hb;obtain⟨row,q1,q2⟩:=r3 j y hy;obtain⟨wv,rfl,hg⟩:=Bp.1 q2;have hlt:j<pr.length:=by omega
    have K:=r4 (by omega);simp only[sz,simprocAttr,h7,h1,e0,O,hlt,q1,h8,L];refine⟨?_,by simp[St,LDA,sx,h1,h2,f,h4,h5,l,h7,h8],by simpa using n1,y.1,u8v y.2.1,wv,by simp[O6]⟩;exact⟨QW f1.1 (by simp),λi hi=>by simp[O6,show ¬i=u by omega];exact f1.2 i hi⟩
   ·simp only[sx,sy];exact⟨f1,by simp[St,LDA,sx,h1,h2,f,h4,h5,l,h7,h8],n1,0,.int .u8 0,.nils,L⟩
  clear h1 h2 f h4 h5 l h7 h8 e0 J L n1 f1;rintro t df g2 ⟨rfl,f2,⟨l,h7,h8,h1,h2,f,h4,h5,-⟩,n2,y,W,X,L⟩;have p:=I.same f2;have q2:=dN .u8 (a:=(y.toNat:Int)) (b:=2) (by omega) (by omega);obtain⟨m,hm⟩:∃m:Nat,(y.toNat:Int) % 2=(m:Int):=QD (SJ _ (by decide));have hd:m<2:=by have:=Sr (y.toNat:Int) (show (0:Int)<2 by decide);omega
  rw[hm]at q2;have w2:IntKind.wrap .i64 (m:Int)=(m:Int):=aA (by omega) (by omega);have U:IntKind.wrap .i64 (2+(m:Int))=((2+m:Nat):Int):=by rw[aA (by omega) (by omega)];rfl
  have hf:=OZ (i:=j) (by omega);have H:w*(2+m)<=243*3:=SD (by omega) (by omega);have N:IntKind.wrap .i64 ((w:Int)*((2+m:Nat):Int))=((w*(2+m):Nat):Int):=by rw[<-Rq,aA (by omega) (by omega)]
  have w5:IntKind.wrap .i64 ((n:Int) - 1)=((n - 1:Nat):Int):=by rw[aA (by omega) (by omega)];omega
  have w6:IntKind.wrap .i64 (((n - 1:Nat):Int) - (j:Int))=((n - 1 - j:Nat):Int):=by rw[aA (by omega) (by omega)];omega
  have w7:IntKind.wrap .u64 ((n - 1 - j:Nat):Int)=((n - 1 - j:Nat):Int):=jp (by omega) (by omega);obtain⟨z,hz⟩:=MG (w*(2+m)) (n - 1 - j);refine fA (P:=λt' df g'=>df=[]/\g'=g2/\St t' ((6,Uk (w:Int))::(7,Uk (j:Int))::(9,Uk ((2+m:Nat):Int))::LDA n q r5)) ?_ ?_
  ·simp only[sz,simprocAttr,h8,L,u8v,q2,w2,U];simp[St,LDA,sx,h1,h2,f,h4,h5,l,h7]
  clear h1 h2 f h4 h5 l h7 h8;rintro t df g3 ⟨rfl,rfl,⟨l,h7,h9,h1,h2,f,h4,h5,-⟩⟩;refine fA (P:=λt' df g'=>df=[]/\g'=g3/\∃C:Nat,(C=2\/C=3)/\St t' ((6,Uk (w:Int))::(7,Uk (j:Int))::(9,Uk (C:Int))::LDA n q r5)) ?_ ?_
  ·simp only[sz,simprocAttr,l,h7,h9,f,N,w5,w6,w7,hz];refine ba (λhb=>?_) (λhb=>?_)
   ·simp only[sz,simprocAttr];refine⟨2,.inl rfl,?_⟩;simp[St,LDA,sx,h1,h2,f,h4,h5,l,h7]
   ·simp only[sx,sy];refine⟨2+m,by omega,?_⟩;simp[St,LDA,sx,h1,h2,f,h4,h5,l,h7,h9]
  clear h1 h2 f h4 h5 l h7 h9 H N hz U;rintro t df g4 ⟨rfl,rfl,C,hC,⟨l,h7,h9,h1,h2,f,h4,h5,-⟩⟩;have H:w*C<=3 ^ j*3:=SD hw (by omega);have S:w*C<=243*3:=SD (by omega) (by omega);have N:IntKind.wrap .i64 ((w:Int)*(C:Int))=((w*C:Nat):Int):=by rw[<-Rq,aA (by omega) (by omega)]
  refine fA (P:=λt' df g'=>df=[]/\g'=g4/\St t' ((6,Uk ((w*C:Nat):Int))::(7,Uk (j:Int))::(9,Uk (C:Int))::LDA n q r5)) ?_ ?_
  ·simp only[sz,simprocAttr,l,h9,N];simp[St,LDA,sx,h1,h2,f,h4,h5,h7,h9]
  clear h1 h2 f h4 h5 l h7 h9;rintro t df g5 ⟨rfl,rfl,⟨l,h7,h9,h1,h2,f,h4,h5,-⟩⟩;obtain⟨kq,hh,hl⟩:=p.q rfl;have rns:=p.ns.rows;have K:=fe p.ns (by simp;omega);have A:=hN.lt j M;have u1:j<(pl.map ci).length:=by rw[QJ,hN.len];exact M
  have u2:(pl.map ci)[j]?=some (ci (num j:Int)):=by rw[Qx,hN.at_ j M];rfl
  have u3:num j<((List.range n).map (fO D V)).length:=by simpa using A
  have u4:=f_ (fO D V) A;simp only[sz,simprocAttr,sf,h4,kq,h5,h7,h9,R,u1,u2,rns,u3,K,ci];refine (p.same (g':=_) ⟨?_,?_⟩).card (i:=num j) (c:=(C:Int)) A (λk hk=>by rw[hk];simp) λg6 E' hD6 n6=>?_
  ·simp;omega
  ·intro i hi;simp
  simp only[sx,sy,↓reduceIte,Nat.reduceEqDiff];refine⟨?_,⟨by simp[St,LDA,sx,h1,h2,f,h4,h5],⟨w*C,by simp[sx,l],by rw[Nat.pow_succ];exact H⟩,V,E',_,hD6.same ⟨by simp,λi _=>by simp⟩,B.e,λk hk=>?_,B.o⟩,by simp[h7]⟩
  ·simp only[Q2,QZ,QY,QI];exact aJ (false::(TV (true::[]))) [] (by simp[All2,ak,aw]) (by decide) (by simp)
  ·by_cases e:num k=num j
   ·simp[e,an];omega
   ·show ups D.c (num j) (C:Int) (num k)=2\/ups D.c (num j) (C:Int) (num k)=3;rw[ac _ _ e];refine B.c k ?_;have:k≠j:=λh=>e (by rw[h]);omega
 ·rintro t df g ⟨rfl,h⟩;exact fin t g h
section
variable {D:ADf->Prop}
theorem wD{g:G}{b:Nat}{v x:AV}{sz bytes:Nat}{rows new:List (List AV)}{K:AV->G->Prop}(hv:Own g b v sz rows)(hx:af g.h sz x=some new)(hb:b<=g.nx)
  (hr:(rows.length+new.length)*bytes<=aQ)
  (k:∀v' g',Own g' b v' sz (rows++new)->g.nx<=g'.nx->(∀i,i<g.nx->vid v≠some i->g'.h.get i=g.h.get i)->(vid v'=vid v\/∃i,vid v'=some i/\g.nx<=i)->(∀i∈g'.lg,i∈g.lg\/vid v=some i\/g.nx<=i)->K v' g') :
  (dh sz bytes v x g).sat K g D:=by
 unfold dh;rw[hx];dsimp only;rcases hv with⟨rfl,rfl⟩|⟨id,ep,lo,h1,h2,rfl,a⟩
 ·cases new with
  |nil=>exact k _ _ (.inl ⟨rfl,rfl⟩) (Qv _) (λ_ _ _=>rfl) (.inl rfl) (λi hi=>.inl hi)
  | cons r new =>
   simp only[bg,au,aa,Q6];rw[QA (by simpa using hr)];refine k _ _ (.inr ⟨g.nx,0,true,hb,by simp,rfl,by simp[aV]⟩) (by simp) (λi hi _=>?_) (.inr ⟨g.nx,rfl,Qv _⟩) (λi hi=>by simp at hi;rcases hi with rfl|hi;exact .inr (.inr (Qv _));exact .inl hi);rw[G.new_h,aE _ _ _ (by omega)]
 ·simp only[bg,G.get_eq,a,au,aa,show Nat.beq ep ep=true from Q7 ep,show Nat.beq sz sz=true from Q7 sz,RS,Q6,Qy,Rc,SS,SN];rw[QA ⟨Qv _,hr⟩];cases new with
  | nil =>
   rw[QA (by simp)];refine k _ _ (.inr ⟨id,ep,lo,h1,h2,by simp,by simpa using a⟩) (Qv _) (λ_ _ _=>rfl) (.inl rfl) (λi hi=>.inl hi)
  | cons r new =>
   rw[Qw (by simp)];have ht:iG rows.length (gH 0 rows)=rows:=by rw[a_,aX];simp
   cases lo with
   | false =>
    rw[QA (by simp)];refine k _ _ (.inr ⟨g.nx,0,true,by omega,by simp,by simp,by simp[aV,ht]⟩) (by simp) (λi hi _=>?_) (.inr ⟨g.nx,rfl,Qv _⟩) (λi hi=>by simp at hi;rcases hi with rfl|hi;exact .inr (.inr (Qv _));exact .inl hi);rw[G.new_h,aE _ _ _ (by omega)]
   | true =>
    rw[Qw (by simp)];refine k _ _ (.inr ⟨id,ep+1,true,h1,by simpa using h2,by simp,by simp[aV,ht]⟩) (by simp) (λi hi hne=>?_) (.inl rfl) (λi hi=>by simp at hi;rcases hi with rfl|hi;exact .inr (.inl rfl);exact .inl hi);rw[G.put_h,aE _ _ _ (λe=>hne (by rw[e];rfl))]
section
variable {κ:Type} [DecidableEq κ]{g:G}{b:Nat}{L:κ->Prop}{V:κ->AV}{E:κ->En}{k:κ}
theorem Hp.app2(h:Hp g b L V E)(hk:L k){sz bytes:Nat}{rows new:List (List AV)}(he:E k=.sl sz rows){x:AV}{K:AV->G->Prop}(hx:af g.h sz x=some new)
  (hr:(rows.length+new.length)*bytes<=aQ)
  (kk:∀v' g',Hp g' b L (ups V k v') (ups E k (.sl sz (rows++new)))->g.nx<=g'.nx->(∀i,i<b->g'.h.get i=g.h.get i)->(∀i,i<g.nx->eid (V k)≠some i->g'.h.get i=g.h.get i)->(∀i∈g'.lg,i∈g.lg\/eid (V k)=some i\/g.nx<=i)->v'.cells=[v']->v'.isTup=false->K v' g') :
  (dh sz bytes (V k) x g).sat K g D:=by
 have ho:=h.own hk he;refine wD ho hx h.nx hr λv' g' hv' hn hf hvid hlg=>?_;refine kk v' g' (h.set hk (e':=.sl sz (rows++new)) hv' hn (λi _ hi hne=>hf i hi (by rw[<-bU ho];exact hne)) ?_) hn (λi hi=>hf i (QV hi h.nx) λe=>by have:=(ho.lt e).1;omega)
  (λi hi hne=>hf i hi (by rw[<-bU ho];exact hne)) (λi hi=>by rw[bU ho];exact hlg i hi) hv'.cell.1 hv'.cell.2
 rw[bU hv',bU ho];exact hvid
theorem Hp.putv(h:Hp g b L V E)(hk:L k){v0:AV}(hv:V k=v0){sz n off:Nat}{rows:List (List AV)}{row row':List AV}(he:E k=.sl sz rows){x:AV}{K:AV->G->Prop}(hr:rows[i]?=some row)
  (hl:x.cells.length=n) (ht:x.isTup=false) (hp:bY row off x.cells=some row')
  (kk:∀g',Hp g' b L V (ups E k (.sl sz (rows.set i row')))->g'.nx=g.nx->(∀i,i<b->g'.h.get i=g.h.get i)->(∀i,eid (V k)≠some i->g'.h.get i=g.h.get i)->K .undef g'):(mi n (jf sz v0 i off) x g).sat K g D:=by
 subst hv;exact h.put hk he hr hl ht hp kk
end
theorem AS(m n:Nat):∃z:Nat,bT .shr (.int .u8 (m:Int)) (Um (n:Int))=.val (.int .u8 (z:Int)) :=
 ⟨m / 2 ^ (Nat.min n 8),rfl⟩
theorem AR(m n:Nat):∃z:Int,bT .and (.int .u8 (m:Int)) (.int .u8 (n:Int))=.val (.int .u8 z):=by have:∃z:Int,Op.intBits .and .u8 (.ofNat m) (.ofNat n)=.pure (.int .u8 z):=⟨_,rfl⟩;obtain⟨z,hz⟩:=this;refine⟨z,?_⟩;show orV (rJ (Op.intBits .and .u8 (.ofNat m) (.ofNat n)))=_;rw[hz];rfl
structure DB (D:ND) (n i v:Nat) (num:Nat->Nat):Prop where
 c:∀u,u<n->D.c u=2\/D.c u=3
 p:∀u,u<n->(D.P u).length<=3/\∀y∈D.P u,0<=y/\y<n
 m:∀u,u<n->D.m u<=64
 o:∀u,D.o u=0
 f:∀k,i<k->k<n->D.P (num k)=[]/\D.m (num k)=0
def S.PV(P0:List Int)(c0:Nat->Int):Int:=S.O4 (P0.map λy=>c0 y.toNat)
structure DOk (gr:Int) (D:ND) (n i:Nat) (num:Nat->Nat):Prop where
 s:∀u,u<n->(D.P u).Pairwise (·<·)
 a:∀k,k<n->∀y∈D.P (num k),∃k',k'<k/\y=(num k':Int)
 w:∀k,k<i->(D.m (num k):Int)=S.PV (D.P (num k)) D.c
 r:∀u r,u<n->r<D.m u->Lv gr (D.c u) (D.R u r)
def LDB(n q i p v:Nat)(r5:AV):List (Nat×AV):=[(1,Ul 0),(2,Ul 1),(3,Uk (n:Int)),(4,Ul q),(5,r5),(10,Uk (i:Int)),(11,Ul p),(12,Uk (v:Int))]
structure DP (r0 prow:List AV) (n q i p v:Nat) (gr:Int) (r5:AV) (num:Nat->Nat) (g:G) (V:Ky->AV) (E:Ky->En) (D:ND):Prop where
 dn:DN X2 r0 n q 1000 gr V E D g
 pb:V (0,2)=Ul p/\E (0,2)=.bx prow
 db:DB D n i v num
 mv:D.m v=0
 ok:DOk gr D n i num
theorem DP.p{r0 prow:List AV}{n q i p v:Nat}{gr:Int}{r5:AV}{num:Nat->Nat}{g:G}{V:Ky->AV}{E:Ky->En}{D:ND}(h:DP r0 prow n q i p v gr r5 num g V E D):g.h.get p=TD prow.length [prow]/\2<=p/\p<g.nx:=by obtain⟨id,h1,h2,a,h4⟩:=h.dn.hp.box (k:=(0,2)) (.inr (.inr rfl)) h.pb.2;rw[h.pb.1]at a;injection a with a;subst a;exact⟨h4,h1,h2⟩
theorem B_{X:Ky->Prop}{n:Nat}{D:ND}{V:Ky->AV}{E:Ky->En}{g:G}(h:Hp g 2 (LNX X n D) V E){j k:Ky}(hj:LNX X n D j)(hk:LNX X n D k)(hne:j≠k){id:Nat}(he:eid (V j)=some id):eid (V k)≠some id:=h.sep j k hj hk hne id he
def zF:SC:=.feet [0,1,0,0,8,0,56,120,248,0,512,2040,4095,8191,16383] [oF 131 1 4,oL 132 131,oM 133 12,oF 134 1 4,oL 135 134,oM 136 12,TN 137 3 135 136,oF 138 1 137,oL 139 138,oM 140 13,Ub 141 140,T5 142 1 8 139 141,TN 143 3 132 133,oF 144 1 143,TJ 1 144 142]
theorem Mg[XOc]{n q p v u:Nat}{prow:List AV}{num:Nat->Nat}{g:G}{V:Ky->AV}{E:Ky->En}{D:ND}{rest:List (Nat×AV)}(hn:1<=n/\n<=5)(hv:v<n)(hvi:∀k,i<k->k<n->num k≠v)(hu:u<n)(hvl:∀k,k<i->num k≠v)(hua:∃k',k'<i/\u=num k')(hlt:∀y∈D.P v,y<(u:Int))
  (h4:tat t 4=Ul q) (h12:tat t 12=Uk (v:Int)) (h13:tat t 13=Uk (u:Int)) (hP:DP r0 prow n q i p v gr r5 num g V E D) (hl:(D.P v).length<3)
  (fin:∀t' g' V' E' D',(∀s,(s<131\/144<s)->tat t' s=tat t s)->D'.P v=D.P v++[(u:Int)]->DP r0 prow n q i p v gr r5 num g' V' E' D'->Q .norm t' [] g') :
  wp C0 d none zF Q t [] g:=by
 have l:=hP.dn;obtain⟨kq,U,W⟩:=l.q (.inl rfl);unfold zF;have rns:=l.ns.rows;have K:=fe l.ns (by simp;omega);have u3:v<((List.range n).map (fO D V)).length:=by simpa using hv
 have N:=f_ (fO D V) hv;have M:=l.bn.ps v hv;have R:=l.hp.nx;simp only[sz,simprocAttr,sf,h4,h12,h13,kq,rns,u3,N,K,fO];refine (l.hp.step (g':=_) ?_ ?_).app2 (k:=(v+1,0)) (.inl (LN.p hv)) M.1 (new:=[ci (u:Int)]) (by simp[sx,sy,ci]) (by unfold aQ;simp;omega) λv1 g1 hH1 n1 fb1 fo1 lg1 vc vt=>?_
 ·simp;omega
 ·intro i _ hi;simp[O6];omega
 simp only[sx,sy]at n1 fb1 fo1 lg1;have H:ups V (v+1,0) v1 (0,0)=V (0,0):=ac _ _ (by simp);have C:ups E (v+1,0) (.sl 1 ((D.P v).map ci++[ci (u:Int)])) (0,0)=.sl 3 ((List.range n).map (fO D V)):=by rw[ac _ _ (by simp)];exact l.bn.ns
 have rns1:af g1.h 3 (V (0,0))=some ((List.range n).map (fO D V)):=by rw[<-H];exact (hH1.own (k:=(0,0)) (.inl LN.z) C).rows
 have X:((List.range n).map (fO D V))[v]?=some [Uk (D.c v),V (v+1,0),V (v+1,1)]:=N;simp only[sz,simprocAttr,sf,rns1,u3,K];refine (hH1.same (g':=_) ?_ ?_).putv (k:=(0,0)) (.inl LN.z) H (row':=[Uk (D.c v),v1,V (v+1,1)]) C N (by rw[vc];rfl) vt (by rw[vc];rfl) λg2 hH2 n2 fb2 fo2=>?_
 ·simp
 ·simp;omega
 simp only[sy];refine⟨?_,?_⟩
 ·simp only[Q2,QZ,QY,QI];refine aJ (TX (TV (true::(true::(TX (true::[])))))) [(0,10),(1,10),(2,10),(3,10),(4,10),(5,10),(6,10),(7,10),(8,10),(0,11),(1,11),(2,11)] (by simp[All2,ak,aw]) (by decide) ?_;have I:∀i∈g1.lg,i≠q:=λi hi e=>by
   rcases lg1 i hi with h|h|h
   ·simp at h
   ·exact B_ l.hp (.inl (LN.p hv)) (.inr (.inl rfl)) (by simp) h (by rw[l.vb,e];rfl)
   ·omega
  obtain⟨id0,ep0,O,L⟩:∃id ep,id<g.nx/\V (0,0)=.hsl id ep 0 ((List.range n).map (fO D V)).length none:=by
   rcases l.ns with⟨h,e⟩|⟨id,ep,lo,-,h1,h2,-⟩
   ·have:=congrArg List.length e;simp at this;omega
   ·exact⟨id,ep,h1,h2⟩
  have F:∀i∈g1.lg,i≠id0:=λi hi e=>by
   rcases lg1 i hi with h|h|h
   ·simp at h
   ·exact B_ l.hp (.inl (LN.p hv)) (.inl LN.z) (by simp) h (by rw[L,e];rfl)
   ·omega
  rintro p J x y hx B;simp only[Q8,QG,SY]at J;rcases J with rfl|rfl|rfl|rfl|rfl|rfl|rfl|rfl|rfl|rfl|rfl|rfl<;>(simp at hx B;subst hx;subst B;refine dk rfl rfl rfl rfl ?_ ?_ ?_<;>simp[ak,aw,am,L,jf]<;>first|omega|exact I|exact F|exact λi hi e=>I i hi e.symm|exact λi hi e=>F i hi e.symm)
 refine fin _ _ (ups V (v+1,0) v1) _ { D with P:=ups D.P v (D.P v++[(u:Int)]) } (λs hs=>?_) (an _ _ _) ⟨⟨(hH2.same (g':=_) (by simp) (by simp)).sub λk hk=>hk,⟨?_,λj hj=>?_,λj hj=>?_,λj r hj hr=>?_⟩,?_,?_,?_,?_⟩,⟨?_,?_⟩,⟨hP.db.c,λw hw=>?_,hP.db.m,hP.db.o,λk hk hkn=>?_⟩,hP.mv,?_⟩
 ·simp only[d8]
  repeat rw[Qw (by omega)]
 ·rw[an,nF _ _ hv];congr 1;refine zy (by simp[fO,an,ac]) λj hj hne=>by simp[fO,ac,hne]
 ·by_cases e:j=v
  ·subst e;rw[ac _ _ (by simp),an];show En.sl 1 _=En.sl 1 ((ups D.P j (D.P j++[(u:Int)]) j).map ci)/\(ups D.P j (D.P j++[(u:Int)]) j).length<=1000;rw[an];exact⟨by simp,by simp;omega⟩
  ·rw[ac _ _ (by simp),ac _ _ (by simp[e])];show E (j+1,0)=En.sl 1 ((ups D.P v (D.P v++[(u:Int)]) j).map ci)/\(ups D.P v (D.P v++[(u:Int)]) j).length<=1000;rw[ac _ _ e];exact l.bn.ps j hj
 ·rw[ac _ _ (by simp),ac _ _ (by simp)];have:=l.bn.rs j hj;refine⟨?_,this.2⟩;rw[this.1];congr 1;exact R0 λr _=>by simp[FL,ac]
 ·rw[ac _ _ (by simp),ac _ _ (by simp),ac _ _ (by simp)];exact l.bn.rr j r hj hr
 ·rw[ac _ _ (by simp)];exact l.vb
 ·rw[ac _ _ (by simp),ac _ _ (by simp),ac _ _ (by simp)];exact l.bx
 ·simp only[bumpG_h];rw[fb2 0 (by omega)];simp;rw[fb1 0 (by omega),Qw (by omega),l.h0]
 ·simp only[bumpG_h];rw[fb2 1 (by omega)];simp;rw[fb1 1 (by omega),Qw (by omega),l.h1]
 ·rw[ac _ _ (by simp)];exact hP.pb.1
 ·rw[ac _ _ (by simp),ac _ _ (by simp)];exact hP.pb.2
 ·by_cases e:w=v
  ·subst e;show (ups D.P w (D.P w++[(u:Int)]) w).length<=3/\∀y∈ups D.P w (D.P w++[(u:Int)]) w,0<=y/\y<n;rw[an];refine⟨by simp;omega,λy B=>?_⟩;rcases Q0.1 B with h|h
   ·exact (hP.db.p w hw).2 y h
   ·rw[Rg.1 h];omega
  ·show (ups D.P v (D.P v++[(u:Int)]) w).length<=3/\∀y∈ups D.P v (D.P v++[(u:Int)]) w,0<=y/\y<n;rw[ac _ _ e];exact hP.db.p w hw
 ·show ups D.P v (D.P v++[(u:Int)]) (num k)=[]/\D.m (num k)=0;rw[ac _ _ (hvi k hk hkn)];exact hP.db.f k hk hkn
 ·have A:=hP.ok;refine⟨λw hw=>?_,λk hk y B=>?_,λk hk=>?_,A.r⟩
  ·show (ups D.P v (D.P v++[(u:Int)]) w).Pairwise (·<·)
   by_cases e:w=v
   ·rw[e,an];rw[List.pairwise_append];exact⟨A.s v hv,List.pairwise_singleton _ _,λa ha b hb=>by rw[Rg.1 hb];exact hlt a ha⟩
   ·rw[ac _ _ e];exact A.s w hw
  ·have B:y∈ups D.P v (D.P v++[(u:Int)]) (num k):=B
   by_cases e:num k=v
   ·rw[e,an]at B;rcases Q0.1 B with h|h
    ·rw[<-e]at h;exact A.a k hk y h
    ·obtain⟨k',h1,h2⟩:=hua;have:¬k<i:=λh=>hvl k h e;exact⟨k',by omega,by rw[Rg.1 h,h2]⟩
   ·rw[ac _ _ e]at B;exact A.a k hk y B
  ·show (D.m (num k):Int)=S.PV (ups D.P v (D.P v++[(u:Int)]) (num k)) D.c;rw[ac _ _ (hvl k hk)];exact A.w k hk
end
structure DJ (r0 prow:List AV) (n q i p v u:Nat) (gr:Int) (r5:AV) (num:Nat->Nat) (j:Nat) (t:T) (g:G):Prop where
 st:St t ((13,Uk (u:Int))::LDB n q i p v r5)
 hd:∃V E D,DP r0 prow n q i p v gr r5 num g V E D/\(∀y∈D.P v,y<=(u:Int))/\((∃k,k<j/\num k=u)\/∀y∈D.P v,y<(u:Int))
theorem NY[XOc]{n q p v u:Nat}{y1 y2:UInt8}{num:Nat->Nat}(hn:1<=n/\n<=5)(h5:IT 0 pl r5)(hN:Num n pl num)(hi:i<n)(hv:v=num i)(hu:u<n)
  (h0:DJ r0 [u8v y1,u8v y2,wv] n q i p v u gr r5 num 0 t g) (h14:tat t 14=Uk 0)
  (fin:∀t g,DJ r0 [u8v y1,u8v y2,wv] n q i p v u gr r5 num i t g->Q (.exit 6) t [] g):wpL (wp C0 d none eU) Q t [] g:=by
 have A:∀h,af h 1 r5=some (pl.map ci):=λh=>(h5.sl h).ints;have o:v<n:=by rw[hv];exact hN.lt i hi
 have S:∀k,i<k->k<n->num k≠v:=λk h1 h2 e=>by have:=hN.inj k i h2 hi (by rw[e,hv]);omega
 have U:∀k,k<i->num k≠v:=λk h1 e=>by have:=hN.inj k i (by omega) hi (by rw[e,hv]);omega
 obtain⟨FR,H⟩:∃FR,FR=zF:=⟨_,rfl⟩;simp only[eU,jy];rw[show (SC.feet [0,1,0,0,8,0,56,120,248,0,512,2040,4095,8191,16383] [oF 131 1 4,oL 132 131,oM 133 12,oF 134 1 4,oL 135 134,oM 136 12,TN 137 3 135 136,oF 138 1 137,oL 139 138,oM 140 13,Ub 141 140,T5 142 1 8 139 141,TN 143 3 132 133,oF 144 1 143,TJ 1 144 142])=FR from H.symm];refine be i (by omega) (λj t df g=>df=[]/\DJ r0 [u8v y1,u8v y2,wv] n q i p v u gr r5 num j t g) ⟨rfl,h0⟩ h14 (by decide) ?_ ?_ ?_ ?_
 ·rintro j t df g w s (rfl|rfl|rfl) ⟨a1,⟨b1,b2,b3,b4,b5,b6,b7,b8,b9,-⟩,c⟩<;>exact⟨a1,by simp[St,LDB,sx,b1,b2,b3,b4,b5,b6,b7,b8,b9],c⟩
 ·rintro j t df g X ⟨rfl,⟨a,h1,h2,F,h4,h5,l,b,f,-⟩,hD⟩ h14;simp only[sz,simprocAttr,h14,l];exact⟨by simp[St,LDB,sx,a,h1,h2,F,h4,h5,l,b,f],hD⟩
 ·rintro j t df g X ⟨rfl,⟨a,h1,h2,F,h4,h5,l,b,f,-⟩,V,E,D,x,z,I⟩ h14;obtain⟨kp,-,-⟩:=x.p;have kp:g.h.get p=TD 3 [[u8v y1,u8v y2,wv]]:=kp;obtain⟨kq,h6,h7⟩:=x.dn.q (.inl rfl);have rns:=x.dn.ns.rows;have J:=fe x.dn.ns (by simp;omega);have K:j<(pl.map ci).length:=by rw[QJ,hN.len];omega
  have L:(pl.map ci)[j]?=some (ci (num j:Int)):=by rw[Qx,hN.at_ j (by omega)];rfl
  have u3:v<((List.range n).map (fO D V)).length:=by simpa using o
  have Y:((List.range n).map (fO D V))[v]?=some [Uk (D.c v),V (v+1,0),V (v+1,1)]:=f_ (fO D V) o;have O:=x.dn.bn.ps v o;have B:∀g2:G,gz .slice (V (v+1,0)) g2=.val (Uk ((D.P v).length:Int)):=λg2=>by have:=(x.dn.hp.own (.inl (LN.p o)) O.1).rows;rw[dG this];simp
  have w1:IntKind.wrap .u64 (j:Int)=(j:Int):=jp (by omega) (by omega);obtain⟨Z,C⟩:=AS y2.toNat j;obtain⟨z2,W⟩:=AR Z 1;have m:(∃k,k<j+1/\num k=u)\/∀y∈D.P v,y<(u:Int):=by
   rcases I with⟨k,h1,h2⟩|h
   ·exact .inl ⟨k,by omega,h2⟩
   ·exact .inr h
  have r:bT .and (.int .u8 (Z:Int)) (.int .u8 1)=.val (.int .u8 z2):=W
  by_cases c1:(num j:Int)=(u:Int)
  ·by_cases c2:z2=1
   ·by_cases c3:((D.P v).length:Int)<3
    ·simp only[sz,simprocAttr,h14,h5,a,A,K,L,ci,c1,b,kp,u8v,w1,C,r,c2,h4,kq,f,rns,u3,Y,J,B,c3];rw[H];refine Mg (n:=n) (q:=q) (i:=i) (p:=p) (v:=v) (u:=u) (r5:=r5) (num:=num) hn o S hu U ⟨j,X,by omega⟩ ?_ ?_ ?_ ?_ x (by omega) (rest:=[]) ?_
     ·rcases I with⟨k,h1,h2⟩|h
      ·have:=hN.inj k j (by omega) (by omega) (by omega);omega
      ·exact h
     ·simp[sx,h4]
     ·simp[sx,f]
     ·simp[sx,a]
     intro t' g' V' E' D' R N M;simp only[sy];have hs:∀s,s<131->tat t' s=_:=λs h=>R s (.inl h);refine⟨⟨?_,V',E',D',M,λy hy=>?_,.inl ⟨j,by omega,by omega⟩⟩,?_⟩
     ·simp[St,LDB,hs,sx,a,h1,h2,F,h4,h5,l,b,f]
     ·rw[N]at hy;rcases Q0.1 hy with h|h
      ·exact z y h
      ·rw[Rg.1 h];exact Int.le_refl _
     ·simp[hs,sx,h14]
    ·simp only[sz,simprocAttr,h14,h5,a,A,K,L,ci,c1,b,kp,u8v,w1,C,r,c2,h4,kq,f,rns,u3,Y,J,B,c3];exact⟨by simp[St,LDB,sx,a,h1,h2,F,h4,h5,l,b,f],V,E,D,x,z,m⟩
   ·simp only[sz,simprocAttr,h14,h5,a,A,K,L,ci,c1,b,kp,u8v,w1,C,r,c2];exact⟨by simp[St,LDB,sx,a,h1,h2,F,h4,h5,l,b,f],V,E,D,x,z,m⟩
  ·simp only[sz,simprocAttr,h14,h5,a,A,K,L,ci,c1];exact⟨by simp[St,LDB,sx,a,h1,h2,F,h4,h5,l,b,f],V,E,D,x,z,m⟩
 ·rintro t df g ⟨rfl,h⟩;exact fin t g h
structure DK (r0 prow:List AV) (n q i p v:Nat) (gr:Int) (r5:AV) (num:Nat->Nat) (j:Nat) (t:T) (g:G):Prop where
 st:St t (LDB n q i p v r5)
 hd:∃V E D,DP r0 prow n q i p v gr r5 num g V E D/\∀y∈D.P v,y<(j:Int)
theorem NZ[XOc]{n q p v:Nat}{y1 y2:UInt8}{num:Nat->Nat}(hn:1<=n/\n<=5)(h5:IT 0 pl r5)(hN:Num n pl num)(hi:i<n)(hv:v=num i)
  (h0:DK r0 [u8v y1,u8v y2,wv] n q i p v gr r5 num 0 t g) (h13:tat t 13=Uk 0)
  (fin:∀t g,DK r0 [u8v y1,u8v y2,wv] n q i p v gr r5 num n t g->Q (.exit 4) t [] g):wpL (wp C0 d none eV) Q t [] g:=by
 simp only[eV,jz];refine be n (by omega) (λj t df g=>df=[]/\DK r0 [u8v y1,u8v y2,wv] n q i p v gr r5 num j t g) ⟨rfl,h0⟩ h13 (by decide) ?_ ?_ ?_ ?_
 ·rintro j t df g w s (rfl|rfl|rfl) ⟨a1,⟨b1,b2,b3,b4,C,F,H,I,-⟩,c⟩<;>exact⟨a1,by simp[St,LDB,sx,b1,b2,b3,b4,C,F,H,I],c⟩
 ·rintro j t df g B ⟨rfl,⟨h1,h2,f,h4,h5,k,a,b,-⟩,m⟩ h13;simp only[sz,simprocAttr,h13,f];exact⟨by simp[St,LDB,sx,h1,h2,f,h4,h5,k,a,b],m⟩
 ·rintro j t df g B ⟨rfl,⟨h1,h2,f,h4,l,k,a,b,-⟩,V,E,D,m,hlt⟩ h13;simp only[sz,simprocAttr];refine NY (u:=j) hn h5 hN hi hv B ⟨by simp[St,LDB,sx,h13,h1,h2,f,h4,l,k,a,b],V,E,D,m,λy hy=>Int.le_of_lt (hlt y hy),.inr hlt⟩ (by simp[sx]) ?_;rintro t2 g2 ⟨⟨A,J,k2,K,L,M,r,x,z,-⟩,V2,E2,D2,o,e,-⟩;simp only[sx,sy,↓reduceIte];exact⟨⟨by simp[St,LDB,J,k2,K,L,M,r,x,z],V2,E2,D2,o,λy hy=>by have:=e y hy;omega⟩,A⟩
 ·rintro t df g ⟨rfl,h⟩;exact fin t g h
def zK:SC:=.feet [0,1,0,0,8,0,56,120,248,0,512,0,2048,0,14336,30720,63488,0,131072,0,0,1048576,0,7340032,15728640,32505856,66060288,133693440,268434944,536870400,1073741816,2147483647,4294967295,8589934591] [oF 153 1 4,oL 154 153,oM 155 12,oF 156 1 4,oL 157 156,oM 158 12,TN 159 3 157 158,oF 160 2 159,oL 161 160,oF 162 0 4,oL 163 162,oF 164 1 4,oL 165 164,oM 166 12,TN 167 3 165 166,oF 168 0 167,oL 169 168,oF 170 2 11,oL 171 170,oM 172 15,oF 173 1 4,oL 174 173,oM 175 12,TN 176 3 174 175,oF 177 0 176,oL 178 177,oA 179 178,TE 180 .mul 172 179,T4 181 32 163 169 171 180,Uc 182 181,T5 183 1 24 161 182,TN 184 3 154 155,oF 185 2 184,TJ 1 185 183]
structure DQ (r0 prow:List AV) (n q i p v j:Nat) (gr:Int) (r5:AV) (num:Nat->Nat) (P0:List Int) (c0:Nat->Int) (g:G) (V:Ky->AV) (E:Ky->En) (D:ND):Prop where
 dn:DN X2 r0 n q 1000 gr V E D g
 pb:V (0,2)=Ul p/\E (0,2)=.bx prow
 db:DB D n i v num
 mv:D.m v=j
 pv:D.P v=P0
 cv:D.c=c0
 ok:DOk gr D n i num
theorem DQ.p{r0 prow:List AV}{n q i p v j:Nat}{gr:Int}{r5:AV}{num:Nat->Nat}{P0:List Int}{c0:Nat->Int}{g:G}{V:Ky->AV}{E:Ky->En}{D:ND}(h:DQ r0 prow n q i p v j gr r5 num P0 c0 g V E D):g.h.get p=TD prow.length [prow]/\2<=p/\p<g.nx:=by obtain⟨id,h1,h2,a,h4⟩:=h.dn.hp.box (k:=(0,2)) (.inr (.inr rfl)) h.pb.2;rw[h.pb.1]at a;injection a with a;subst a;exact⟨h4,h1,h2⟩
theorem Mh[XOc]{n q p v:Nat}{y1 y2:UInt8}{W:List UInt8}{num:Nat->Nat}{P0:List Int}{c0:Nat->Int}{D:ND}(hd:0<d)(hn:1<=n/\n<=5)(hv:v<n)(hvi:∀k,i<k->k<n->num k≠v)(hvl:∀k,k<i->num k≠v)(hj:j<64)(hgr:0<=gr/\gr<=60)(hwv:SlR NoP kk .nil W wv)
  (h4:tat t 4=Ul q) (h11:tat t 11=Ul p) (h12:tat t 12=Uk (v:Int)) (h15:tat t 15=Uk (j:Int)) (hP:DQ r0 [u8v y1,u8v y2,wv] n q i p v j gr r5 num P0 c0 g V E D)
  (fin:∀t' g' V' E' D',(∀s,(s<153\/185<s)->tat t' s=tat t s)->DQ r0 [u8v y1,u8v y2,wv] n q i p v (j+1) gr r5 num P0 c0 g' V' E' D'->Q .norm t' [] g') :
  wp C0 d none zK Q t [] g:=by
 have A:=hP.dn;obtain⟨kq,ha,hb⟩:=A.q (.inl rfl);obtain⟨kp,-,h9⟩:=hP.p;have kp:g.h.get p=TD 3 [[u8v y1,u8v y2,wv]]:=kp;unfold zK;have rns:=A.ns.rows;have S:=fe A.ns (by simp;omega);have u3:v<((List.range n).map (fO D V)).length:=by simpa using hv
 have u4:=f_ (fO D V) hv;have X:((List.range n).map (fO D V))[v]?=some [Uk (D.c v),V (v+1,0),V (v+1,1)]:=u4;have h3:=A.bn.rs v hv;have h8:=A.hp.nx;obtain⟨C,hC,h6⟩:∃C:Nat,D.c v=(C:Int)/\(C=2\/C=3):=by
  rcases hP.db.c v hv with h|h
  ·exact⟨2,h,.inl rfl⟩
  ·exact⟨3,h,.inr rfl⟩
 have h7:j*(C+1)<=64*4:=SD (by omega) (by omega);have w1:IntKind.wrap .i64 ((C:Int)+1)=((C+1:Nat):Int):=by rw[aA (by omega) (by omega)];rfl
 have w2:IntKind.wrap .i64 ((j:Int)*((C+1:Nat):Int))=((j*(C+1):Nat):Int):=by rw[<-Rq,aA (by omega) (by omega)]
 rw[hC]at X;simp only[sz,simprocAttr,sf,h4,h11,h12,h15,kq,kp,rns,u3,X,S,w1,w2,y6];refine bF (N_ (C:=C) (F:=j*(C+1)) (gr:=gr) (l:=W) hd (by omega) (by omega) hgr hwv) ?_;rintro r ⟨l,⟨hl,M⟩,_,e1,hr⟩;injection e1 with e1;subst e1;have O:=hr.cell;simp only[sz,simprocAttr,sf,O.1,O.2];refine (A.hp.step (g':=_) ?_ ?_).app2 (k:=(v+1,1)) (.inl (LN.r hv)) h3.1 (new:=[[r]]) (by simp[sx,sy]) (by unfold aQ;simp;rw[hP.mv];omega) λv1 g1 H n1 fb1 fo1 lg1 vc vt=>?_
 ·simp;omega
 ·intro i _ hi;simp[O6];omega
 simp only[sx,sy]at n1 fb1 fo1 lg1;have Z:¬LNX X2 n D (v+1,2+j):=by
  rintro (h|h)
  ·rcases h with h|⟨i',q',h,-,hq⟩
   ·simp at h
   ·rw[hP.db.o]at hq;simp only[Prod.mk.injEq]at h;omega
  ·rcases h with h|h<;>simp at h
 have H:=H.off (x:=r) Z;have K:ups (ups V (v+1,1) v1) (v+1,2+j) r (0,0)=V (0,0):=by rw[ac _ _ (by simp),ac _ _ (by simp)]
 have I:ups E (v+1,1) (.sl 1 ((List.range (D.m v)).map (FL V v)++[[r]])) (0,0)=.sl 3 ((List.range n).map (fO D V)):=by rw[ac _ _ (by simp)];exact A.bn.ns
 have rns1:af g1.h 3 (V (0,0))=some ((List.range n).map (fO D V)):=by rw[<-K];exact (H.own (k:=(0,0)) (.inl LN.z) I).rows
 simp only[sz,simprocAttr,sf,rns1,u3,S];refine (H.same (g':=_) ?_ ?_).putv (k:=(0,0)) (.inl LN.z) K (row':=[Uk (C:Int),V (v+1,0),v1]) I u4 (by rw[vc];rfl) vt (by rw[vc,fO,hC];rfl) λg2 hH2 n2 fb2 fo2=>?_
 ·simp
 ·simp;omega
 simp only[sy];refine⟨?_,?_⟩
 ·simp only[Q2,QZ,QY,QI];refine aJ (false::(TW (TV (TV (TV (true::(true::(TX (true::[]))))))))) [(0,29),(1,29),(2,29),(3,29),(4,29),(5,29),(6,29),(7,29),(8,29),(0,30),(1,30),(2,30)] (by simp[All2,ak,aw]) (by decide) ?_;have L:∀i∈g1.lg,i≠q:=λi hi e=>by
   rcases lg1 i hi with h|h|h
   ·simp at h
   ·exact B_ A.hp (.inl (LN.r hv)) (.inr (.inl rfl)) (by simp) h (by rw[A.vb,e];rfl)
   ·omega
  obtain⟨id0,ep0,h5,U⟩:∃id ep,id<g.nx/\V (0,0)=.hsl id ep 0 ((List.range n).map (fO D V)).length none:=by
   rcases A.ns with⟨h,e⟩|⟨id,ep,lo,-,h1,h2,-⟩
   ·have:=congrArg List.length e;simp at this;omega
   ·exact⟨id,ep,h1,h2⟩
  have J:∀i∈g1.lg,i≠id0:=λi hi e=>by
   rcases lg1 i hi with h|h|h
   ·simp at h
   ·exact B_ A.hp (.inl (LN.r hv)) (.inl LN.z) (by simp) h (by rw[U,e];rfl)
   ·omega
  rintro p N x y hx hy;simp only[Q8,QG,SY]at N;rcases N with rfl|rfl|rfl|rfl|rfl|rfl|rfl|rfl|rfl|rfl|rfl|rfl<;>(simp at hx hy;subst hx;subst hy;refine dk rfl rfl rfl rfl ?_ ?_ ?_<;>simp[ak,aw,am,U,jf]<;>first|omega|exact L|exact J|exact λi hi e=>L i hi e.symm|exact λi hi e=>J i hi e.symm)
 have Y:=hP.mv;refine fin _ _ (ups (ups V (v+1,1) v1) (v+1,2+j) r) _ { D with m:=ups D.m v (j+1),R:=ups D.R v (ups (D.R v) j l) } (λs hs=>?_) ⟨⟨(hH2.same (g':=_) (by simp) (by simp)).sub λk hk=>hk,⟨?_,λu hu=>?_,λu hu=>?_,λu r' hu b=>?_⟩,?_,?_,?_,?_⟩,⟨?_,?_⟩,⟨hP.db.c,hP.db.p,λu hu=>?_,hP.db.o,λk hk hkn=>?_⟩,an _ _ _,hP.pv,hP.cv,?_⟩
 ·simp only[d8]
  repeat rw[Qw (by omega)]
 ·rw[an,nF _ _ hv];congr 1;refine zy ?_ λj hj hne=>by simp[fO,ac,hne]
  show _=[Uk (D.c v),ups (ups V (v+1,1) v1) (v+1,2+j) r (v+1,0),ups (ups V (v+1,1) v1) (v+1,2+j) r (v+1,1)];rw[hC,ac _ _ (by first| (simp;done)| (simp;omega)),ac _ _ (by first| (simp;done)| (simp;omega)),ac _ _ (by first| (simp;done)| (simp;omega)),an]
 ·rw[ac _ _ (by simp),ac _ _ (by simp)];exact A.bn.ps u hu
 ·by_cases e:u=v
  ·subst e;rw[ac _ _ (by simp),an];show En.sl 1 _=En.sl 1 ((List.range (ups D.m u (j+1) u)).map _)/\ups D.m u (j+1) u<=1000;rw[an];refine⟨?_,by omega⟩;rw[Y,Sd,SL];congr 2
   ·exact R0 λr' b=>by have:=QX.1 b;simp[FL,ac,show ¬r'=j by omega,show ¬2+r'=1 by omega]
   ·simp[FL,an]
  ·rw[ac _ _ (by simp),ac _ _ (by simp[e])];show E (u+1,1)=En.sl 1 ((List.range (ups D.m v (j+1) u)).map _)/\ups D.m v (j+1) u<=1000;rw[ac _ _ e];have:=A.bn.rs u hu;refine⟨?_,this.2⟩;rw[this.1];congr 1;exact R0 λr' _=>by simp[FL,ac,e]
 ·by_cases e:u=v
  ·subst e;have b:r'<ups D.m u (j+1) u:=b;rw[an]at b;show (ups D.R u (ups (D.R u) j l) u r').length<=1000/\((r'<D.o u/\_=En.sl 1 ((ups D.R u (ups (D.R u) j l) u r').map ci))\/SlR NoP 0 .nil (ups D.R u (ups (D.R u) j l) u r') _);rw[an]
   by_cases e2:r'=j
   ·subst e2;rw[an,an];exact⟨by omega,.inr hr⟩
   ·rw[ac _ _ e2,ac _ _ (by first| (simp;done)| (simp;omega)),ac _ _ (by first| (simp;done)| (simp;omega)),ac _ _ (by simp[e2]),ac _ _ (by first| (simp;done)| (simp;omega))];exact A.bn.rr u r' hu (by omega)
  ·have b:r'<ups D.m v (j+1) u:=b;rw[ac _ _ e]at b;show (ups D.R v (ups (D.R v) j l) u r').length<=1000/\((r'<D.o u/\_=En.sl 1 ((ups D.R v (ups (D.R v) j l) u r').map ci))\/SlR NoP 0 .nil (ups D.R v (ups (D.R v) j l) u r') _);rw[ac _ _ e,ac _ _ (by first| (simp;done)| (simp;omega)),ac _ _ (by first| (simp;done)| (simp;omega)),ac _ _ (by simp[e]),ac _ _ (by simp[e])];exact A.bn.rr u r' hu b
 ·rw[ac _ _ (by simp),ac _ _ (by simp)];exact A.vb
 ·rw[ac _ _ (by simp),ac _ _ (by simp),ac _ _ (by simp),ac _ _ (by simp)];exact A.bx
 ·simp only[bumpG_h];rw[fb2 0 (by omega)];simp;rw[fb1 0 (by omega),Qw (by omega),A.h0]
 ·simp only[bumpG_h];rw[fb2 1 (by omega)];simp;rw[fb1 1 (by omega),Qw (by omega),A.h1]
 ·rw[ac _ _ (by simp),ac _ _ (by simp)];exact hP.pb.1
 ·rw[ac _ _ (by simp),ac _ _ (by simp)];exact hP.pb.2
 ·show ups D.m v (j+1) u<=64
  by_cases e:u=v
  ·rw[e,an];omega
  ·rw[ac _ _ e];exact hP.db.m u hu
 ·show D.P (num k)=[]/\ups D.m v (j+1) (num k)=0;rw[ac _ _ (hvi k hk hkn)];exact hP.db.f k hk hkn
 ·have B:=hP.ok;refine⟨B.s,B.a,λk hk=>?_,λu r' hu b=>?_⟩
  ·show ((ups D.m v (j+1) (num k):Nat):Int)=_;rw[ac _ _ (hvl k hk)];exact B.w k hk
  ·show Lv gr (D.c u) (ups D.R v (ups (D.R v) j l) u r');have b:r'<ups D.m v (j+1) u:=b
   by_cases e:u=v
   ·rw[e,an]at b ⊢
    by_cases e2:r'=j
    ·rw[e2,an,hC];exact M
    ·rw[ac _ _ e2];exact B.r v r' hv (by omega)
   ·rw[ac _ _ e]at b ⊢;exact B.r u r' hu b
theorem GZ{n v:Nat}{D:ND}(hv:v<n)(hp:∀y∈D.P v,0<=y/\y<n):S.O3 (S.O2 ⟨gr,(List.range n).map D.node⟩) (D.P v)=(D.P v).map λy=>D.c y.toNat:=by
 unfold S.O3 S.O2;refine R0 λy hy=>?_;have:=hp y hy;rw[List.map_map];have h:y.toNat<n:=by omega
 simp[h,ND.node]
theorem zx{n v:Nat}{D:ND}(hv:v<n)(hc:∀u,u<n->D.c u=2\/D.c u=3)(hp:(D.P v).length<=3/\∀y∈D.P v,0<=y/\y<n):(∀c∈(D.P v).map λy=>D.c y.toNat,1<=c/\c<=4)/\1<=S.PV (D.P v) D.c/\S.PV (D.P v) D.c<=64:=by
 have h1:∀c∈(D.P v).map λy=>D.c y.toNat,1<=c/\c<=4:=λc h=>by obtain⟨y,k,rfl⟩:=Ri.1 h;have:=hp.2 y k;have:=hc y.toNat (by omega);omega
 have h2:=bO h1;have d:=dI (a:=((D.P v).map λy=>D.c y.toNat).length) (b:=3) (by simpa using hp.1);have h4:(4:Int) ^ 3=64:=by decide
 refine⟨h1,h2.1,?_⟩;unfold S.PV;omega
structure DRw (r0 prow:List AV) (n q i p v j:Nat) (gr:Int) (r5:AV) (num:Nat->Nat) (P0:List Int) (c0:Nat->Int) (t:T) (g:G):Prop where
 st:St t (LDB n q i p v r5)
 hd:∃V E D,DQ r0 prow n q i p v j gr r5 num P0 c0 g V E D
theorem N0[XOc]{n q p v:Nat}{y1 y2:UInt8}{W:List UInt8}{num:Nat->Nat}{P0:List Int}{c0:Nat->Int}(hd:0<d)(hn:1<=n/\n<=5)(hv:v<n)(hvi:∀k,i<k->k<n->num k≠v)(hvl:∀k,k<i->num k≠v)(hgr:0<=gr/\gr<=60)(hwv:SlR NoP kk .nil W wv)
  (h0:DRw r0 [u8v y1,u8v y2,wv] n q i p v 0 gr r5 num P0 c0 t g) (h15:tat t 15=Uk 0)
  (fin:∀(t:T) (g:G) (j:Nat),(j:Int)=S.PV P0 c0->DRw r0 [u8v y1,u8v y2,wv] n q i p v j gr r5 num P0 c0 t g->Q (.exit 8) t [] g):wpL (wp C0 d none eW) Q t [] g:=by
 have X:1<=S.PV P0 c0/\S.PV P0 c0<=64:=by obtain⟨-,V,E,D,a⟩:=h0;have:=(zx hv a.db.c (a.db.p v hv)).2;rw[a.pv,a.cv]at this;exact this
 obtain⟨M,u⟩:=QD (show 0<=S.PV P0 c0 by omega);obtain⟨FR,o⟩:∃FR,FR=zK:=⟨_,rfl⟩;simp only[eW];rw[show (SC.feet [0,1,0,0,8,0,56,120,248,0,512,0,2048,0,14336,30720,63488,0,131072,0,0,1048576,0,7340032,15728640,32505856,66060288,133693440,268434944,536870400,1073741816,2147483647,4294967295,8589934591] [oF 153 1 4,oL 154 153,oM 155 12,oF 156 1 4,oL 157 156,oM 158 12,TN 159 3 157 158,oF 160 2 159,oL 161 160,oF 162 0 4,oL 163 162,oF 164 1 4,oL 165 164,oM 166 12,TN 167 3 165 166,oF 168 0 167,oL 169 168,oF 170 2 11,oL 171 170,oM 172 15,oF 173 1 4,oL 174 173,oM 175 12,TN 176 3 174 175,oF 177 0 176,oL 178 177,oA 179 178,TE 180 .mul 172 179,T4 181 32 163 169 171 180,Uc 182 181,T5 183 1 24 161 182,TN 184 3 154 155,oF 185 2 184,TJ 1 185 183])=FR from o.symm];refine be M (by omega) (λj t df g=>df=[]/\DRw r0 [u8v y1,u8v y2,wv] n q i p v j gr r5 num P0 c0 t g) ⟨rfl,h0⟩ h15 (by decide) ?_ ?_ ?_ ?_
 ·rintro j t df g w s (rfl|rfl|rfl) ⟨a1,⟨b1,b2,b3,b4,J,K,L,N,-⟩,c⟩<;>exact⟨a1,by simp[St,LDB,sx,b1,b2,b3,b4,J,K,L,N],c⟩
 ·rintro j t df g O ⟨rfl,⟨h1,h2,C,h4,h5,l,e,b,-⟩,V,E,D,a⟩ h15;obtain⟨kq,R,U⟩:=a.dn.q (.inl rfl);have f:=a.dn.bn.nodes a.dn.hp (λk h=>.inl h) (by omega) (by omega);have z:Agg (⟨gr,(List.range n).map D.node⟩:Net) (λj=>2<=j) 0 g.h (.agg [Uk gr,V (0,0)]):=⟨_,rfl,dT.2 ⟨_,rfl,f⟩⟩;have m:=a.db.p v hv;obtain⟨r,er,hr⟩:=wk (d:=d) (g:=g) (i:=v) (x:=D.node v) hd z (by simp;omega) (by simp[hv]) (by show (D.P v).length<_;omega) (λy hy=>by have:=m.2 y hy;simp;omega);have A:=GZ (gr:=gr) hv m.2;have hb:=zx hv a.db.c m;have B:=zL (d:=d) (g:=g) hd (hr.sl g.h);have H:S.PX (S.O3 (S.O2 ⟨gr,(List.range n).map D.node⟩) (D.node v).parents)=(M:Int):=by show S.PX (S.O3 (S.O2 ⟨gr,(List.range n).map D.node⟩) (D.P v))=(M:Int);rw[A,wo hb.1 (by simp;omega),<-u,S.PV,<-a.pv,<-a.cv]
  rw[H]at B;simp only[sz,simprocAttr,h15,h4,kq,b,er,B];exact⟨by simp[St,LDB,sx,h1,h2,C,h4,h5,l,e,b],V,E,D,a⟩
 ·rintro j t df g O ⟨rfl,⟨h1,h2,C,h4,h5,l,e,b,-⟩,V,E,D,a⟩ h15;rw[o];refine Mh (n:=n) (q:=q) (i:=i) (p:=p) (v:=v) (j:=j) (r5:=r5) (num:=num) hd hn hv hvi hvl (by omega) hgr hwv h4 e b h15 a ?_;intro t' g' V' E' D' I F;have hs:∀s,s<153->tat t' s=tat t s:=λs h=>I s (.inl h);rw[Cb];exact⟨⟨rfl,by simp[St,LDB,hs,h1,h2,C,h4,h5,l,e,b],V',E',D',F⟩,by rw[hs 15 (by omega),h15]⟩
 ·rintro t df g ⟨rfl,h⟩;exact fin t g M u.symm h
structure DBl (D:ND) (n i:Nat) (num:Nat->Nat):Prop where
 c:∀u,u<n->D.c u=2\/D.c u=3
 p:∀u,u<n->(D.P u).length<=3/\∀y∈D.P u,0<=y/\y<n
 m:∀u,u<n->D.m u<=64
 o:∀u,D.o u=0
 f:∀k,i<=k->k<n->D.P (num k)=[]/\D.m (num k)=0
structure DL (r0:List AV) (n q:Nat) (gr:Int) (r5:AV) (num:Nat->Nat) (i:Nat) (t:T) (g:G):Prop where
 st:St t (LDA n q r5)
 hd:∃V E D,DN X1 r0 n q 1000 gr V E D g/\DBl D n i num/\DOk gr D n i num
theorem L_{n:Nat}{D:ND}:∀k,LNX X1 n D k->LNX X2 n D k:=λk h=>by
 rcases h with h|h
 ·exact .inl h
 ·exact .inr (.inl h)
theorem Mf[XOc]{n q:Nat}{x:vD}{a b:AV}{num:Nat->Nat}(hd:0<d)(hgr:0<=gr/\gr<=60)(hn:1<=n/\n<=5)(ha:SlR NoP kk .nil x.2.1 a)(h5:IT 0 pl r5)(hN:Num n pl num)
  (h0:DL [u8v x.1,a,b] n q gr r5 num 0 t g) (h10:tat t 10=Uk 0)
  (fin:∀t g,DL [u8v x.1,a,b] n q gr r5 num n t g->Q (.exit 2) t [] g):wpL (wp C0 d none eB) Q t [] g:=by
 obtain⟨pr,r1,r2,r3,r4⟩:=ha.all;have r1:∀h',af h' 3 a=some pr:=r1;have la:=ha.len;have he:=ha.1;have hc:∀h,af h 1 r5=some (pl.map ci):=λh=>(h5.sl h).ints;simp only[eB,iL];refine be n (by omega) (λj t df g=>df=[]/\DL [u8v x.1,a,b] n q gr r5 num j t g) ⟨rfl,h0⟩ h10 (by decide) ?_ ?_ ?_ ?_
 ·rintro j t df g v s (rfl|rfl|rfl) ⟨a1,⟨b1,b2,b3,b4,b5,-⟩,c3⟩<;>exact⟨a1,by simp[St,LDA,sx,b1,b2,b3,b4,b5],c3⟩
 ·rintro j t df g J ⟨rfl,⟨h1,h2,B,h4,h5,-⟩,C⟩ h10;simp only[sz,simprocAttr,h10,B];exact⟨by simp[St,LDA,sx,h1,h2,B,h4,h5],C⟩
 ·rintro j t df g J ⟨rfl,⟨h1,h2,B,h4,l,-⟩,V,E,D,C,hb,h6⟩ h10;obtain⟨p,hp⟩:∃p,p=g.nx:=⟨_,rfl⟩;have hf:=C.hp.nx;refine fA (P:=λt' df g'=>df=[]/\g'=g.new (TD 3 [[.int .u8 0,.int .u8 0,.nils]])/\St t' ((10,Uk (j:Int))::(11,Ul p)::LDA n q r5)) ?_ ?_
  ·simp only[sz,simprocAttr];simp[St,LDA,sx,h1,h2,B,h4,l,h10,hp]
  clear h1 h2 B h4 l h10;rintro t df g1 ⟨rfl,I,⟨h10,A,h1,h2,B,h4,l,-⟩⟩;have f1:Fr g g1:=by rw[I];exact Fr.new _ _
  have S:g1.h.get p=TD 3 [[.int .u8 0,.int .u8 0,.nils]]:=by rw[I,hp];simp[O6]
  have n1:p<g1.nx:=by rw[I,hp];simp
  clear I;have N:=C.same f1;have e0:=N.h0;refine fA (P:=λt' df g'=>df=[]/\Fr g g'/\St t' ((10,Uk (j:Int))::(11,Ul p)::LDA n q r5)/\p<g'.nx/\∃(U X:UInt8) (W:List UInt8) (wv:AV),SlR NoP kk .nil W wv/\g'.h.get p=TD 3 [[u8v U,u8v X,wv]]) ?_ ?_
  ·simp only[sz,simprocAttr,h10,h1,e0,la];refine ba (λhb=>?_) (λhb=>?_)
   ·have hb:j<x.2.1.length:=by simpa using hb
    obtain⟨y,Y,-,-⟩:=ae hb;obtain⟨row,q1,q2⟩:=r3 j y Y;obtain⟨wv,rfl,L⟩:=Bp.1 q2;have hlt:j<pr.length:=by omega
    have hg:=r4 (by omega);simp only[sz,simprocAttr,h10,h1,e0,r1,hlt,q1,A,S];refine⟨?_,by simp[St,LDA,sx,h1,h2,B,h4,l,h10,A],by simpa using n1,y.1,y.2.1,y.2.2,wv,L,by simp[O6]⟩;exact⟨QW f1.1 (by simp),λi hi=>by simp[O6,show ¬i=p by omega];exact f1.2 i hi⟩
   ·simp only[sx,sy];exact⟨f1,by simp[St,LDA,sx,h1,h2,B,h4,l,h10,A],n1,0,0,[],.nils,⟨by show 0<9223372036854775808;decide,rfl⟩,S⟩
  clear h1 h2 B h4 l h10 A e0 N S n1 f1;rintro t df g2 ⟨rfl,f2,⟨h10,A,h1,h2,B,h4,l,-⟩,n2,U,X,W,wv,L,S⟩;have hH:=C.hp.add (g':=g2) (k:=(0,2)) (L':=LNX X2 n D) (v':=Ul p) (e':=.bx [u8v U,u8v X,wv]) (by
   rintro (h|h)
   ·rcases h with h|⟨i',q',h,-,-⟩<;>simp at h
   ·simp[X1]at h) ⟨p,by omega,n2,rfl,S⟩ f2.1 (λi _ hi=>f2.2 i hi) (λi hi=>by injection hi with hi;omega) (λk hk=>by
   rcases hk with h|h|h
   ·exact .inl (.inl h)
   ·exact .inl (.inr h)
   ·exact .inr h)
  have R:=hb.f j (Qv _) J;have h9:=hN.lt j J;have h7:∀k,j<k->k<n->num k≠num j:=λk h1 h2 e=>by have:=hN.inj k j h2 J e;omega
  have h8:∀k,k<j->num k≠num j:=λk h1 e=>by have:=hN.inj k j (by omega) J e;omega
  have O:DP [u8v x.1,a,b] [u8v U,u8v X,wv] n q j p (num j) gr r5 num g2 (ups V (0,2) (Ul p)) (ups E (0,2) (.bx [u8v U,u8v X,wv])) D:=by
   refine⟨⟨hH,⟨?_,λu hu=>?_,λu hu=>?_,λu r hu hr=>?_⟩,?_,?_,by rw[f2.2 0 (by omega),C.h0],by rw[f2.2 1 (by omega),C.h1]⟩,⟨an _ _ _,an _ _ _⟩,⟨hb.c,hb.p,hb.m,hb.o,λk h1 h2=>hb.f k (by omega) h2⟩,R.2,h6⟩
   ·rw[ac _ _ (by simp),C.bn.ns];exact congrArg (En.sl 3) (R0 λu _=>by simp[fO,ac])
   ·rw[ac _ _ (by simp)];exact C.bn.ps u hu
   ·rw[ac _ _ (by simp)];have:=C.bn.rs u hu;refine⟨?_,this.2⟩;rw[this.1];exact congrArg (En.sl 1) (R0 λr _=>by simp[FL,ac])
   ·rw[ac _ _ (by simp),ac _ _ (by simp)];exact C.bn.rr u r hu hr
   ·rw[ac _ _ (by simp)];exact C.vb
   ·rw[ac _ _ (by simp),ac _ _ (by simp)];exact C.bx
  have u1:j<(pl.map ci).length:=by rw[QJ,hN.len];exact J
  have u2:(pl.map ci)[j]?=some (ci (num j:Int)):=by rw[Qx,hN.at_ j J];rfl
  simp only[sz,simprocAttr,iK,l,h10,hc,u1,u2,ci];refine NZ (n:=n) (q:=q) (i:=j) (p:=p) (v:=num j) (r5:=r5) (num:=num) hn h5 hN J rfl ⟨by simp[St,LDB,sx,h1,h2,B,h4,l,h10,A],_,_,_,O,λy Y=>by rw[R.1]at Y;simp at Y⟩ (by simp[sx]) ?_;clear h1 h2 B h4 l h10 A O hH;rintro t g3 ⟨⟨h1,h2,B,h4,l,h10,A,K,-⟩,V3,E3,D3,F,-⟩;simp only[sz,simprocAttr,jA];refine N0 (n:=n) (q:=q) (i:=j) (p:=p) (v:=num j) (r5:=r5) (num:=num) (P0:=D3.P (num j)) (c0:=D3.c) hd hn h9 h7 h8 hgr L ⟨by simp[St,LDB,sx,h1,h2,B,h4,l,h10,A,K],V3,E3,D3,F.dn,F.pb,F.db,F.mv,rfl,rfl,F.ok⟩ (by simp[sx]) ?_;clear h1 h2 B h4 l h10 A K F;rintro t g4 M Z ⟨⟨h1,h2,B,h4,l,h10,A,K,-⟩,V4,E4,D4,z⟩;simp only[sx,sy,↓reduceIte];have H:=z.dn;refine⟨⟨by simp[St,LDA,h1,h2,B,h4,l],V4,E4,D4,⟨H.hp.sub L_,H.bn,H.vb,H.bx,H.h0,H.h1⟩,⟨z.db.c,z.db.p,z.db.m,z.db.o,λk hk hkn=>z.db.f k hk hkn⟩,⟨z.ok.s,z.ok.a,λk hk=>?_,z.ok.r⟩⟩,h10⟩
  by_cases e:k=j
  ·rw[e,z.mv,z.pv,z.cv,Z]
  ·exact z.ok.w k (by omega)
 ·rintro t df g ⟨rfl,h⟩;exact fin t g h
structure Drafted (m:Net):Prop where
 l:1<=m.nodes.length/\m.nodes.length<=5
 c:∀x∈m.nodes,x.card=2\/x.card=3
 b:∀x∈m.nodes,x.parents.length<=1000/\x.rows.length<=1000/\∀r∈x.rows,r.length<=1000
 nr:NR m
theorem Iv{n:Int}(hs:l.Pairwise (·<·))(hb:∀y∈l,0<=y/\y<n):S.Px l n=true:=by
 simp only[S.Px,S.PL,QS,QX,Qy,Rk,QQ,beq_iff_eq];intro i hi;obtain⟨x,hx⟩:∃x,l[i]?=some x:=⟨_,Qu hi⟩;have:=hb x (Qz hx);rw[hx,QC];refine⟨this,?_⟩
 by_cases e:i=0
 ·exact .inl e
 ·right;obtain⟨y,h⟩:∃y,l[i - 1]?=some y:=⟨_,Qu (by omega)⟩;rw[h,QC];have h1:=(Qt.1 hx).2;have h2:=(Qt.1 h).2;rw[<-h1,<-h2];exact List.pairwise_iff_getElem.1 hs (i - 1) i (by omega) hi (by omega)
def Kp(num:Nat->Nat):Nat->Nat
 |0=>0
 |k+1=>Kp num k ||| S.Ph (num k)
theorem Ci{n:Nat}{pl:List Int}{num:Nat->Nat}(hN:Num n pl num)(hn:n<=64)(v:Nat):∀k,k<=n->((Kp num k).testBit v=true↔∃k',k'<k/\num k'=v)
 |0,_=>by simp[Kp]
 | k+1,hk=>by
  have hlt:=hN.lt k (by omega);rw[Kp,rH,ym (by omega),Rk,QQ,Ci hN hn v k (by omega)];constructor
  ·rintro (⟨k',h1,h2⟩|h)
   ·exact⟨k',by omega,h2⟩
   ·exact⟨k,by omega,h⟩
  ·rintro⟨k',h1,h2⟩
   by_cases e:k'=k
   ·subst e;exact .inr h2
   ·exact .inl ⟨k',by omega,h2⟩
theorem OF{D:ND}{n:Nat}{num:Nat->Nat}(hN:Num n pl num)(hn:1<=n/\n<=5)(hgr:1<=gr/\gr<=60)(hb:DBl D n n num)(hok:DOk gr D n n num):NR ⟨gr,(List.range n).map D.node⟩:=by
 have hcl:(S.O2 ⟨gr,(List.range n).map D.node⟩)=(List.range n).map D.c:=by unfold S.O2;rw[List.map_map];rfl
 refine⟨hgr.1,hgr.2,by simpa using hn.1,by simp;omega,λx hx=>?_,λx hx=>?_,?_,?_,λx hx=>?_,λx hx r hr=>?_⟩
 ·obtain⟨u,hu,rfl⟩:=Ri.1 hx;have:=hb.c u (QX.1 hu);show 1<=D.c u/\D.c u<=4;omega
 ·obtain⟨u,hu,rfl⟩:=Ri.1 hx;have hu:=QX.1 hu;refine Iv (hok.s u hu) λy hy=>?_;have:=(hb.p u hu).2 y hy;simpa using this
 ·rw[hcl];have h1:∀c∈(List.range n).map D.c,1<=c/\c<=4:=λc hc=>by obtain⟨u,hu,rfl⟩:=Ri.1 hc;have:=hb.c u (QX.1 hu);omega
  have h2:=bO h1;have i:=dI (a:=((List.range n).map D.c).length) (b:=5) (by simpa using hn.2);have h4:(4:Int) ^ 5=1024:=by decide
  omega
 ·have e:(S.O6 ⟨gr,(List.range n).map D.node⟩).length=n:=by simp[S.O6]
  have d:∀v,v<n->Par (S.O6 ⟨gr,(List.range n).map D.node⟩) v=S.O9 (D.P v):=λv hv=>by simp[Par,S.O6,hv,ND.node]
  have h:∀k,k<=n->HJ (S.O6 ⟨gr,(List.range n).map D.node⟩) (Kp num k):=λk=>by
   induction k with
   |zero=>exact λ_=>A_
   | succ k ih =>
    intro hk;have hlt:=hN.lt k (by omega);refine Ds (ih (by omega)) (by omega) λu hu=>?_;rw[d _ hlt]at hu;have hu:=(xO λx hx=>by have:=(hb.p _ hlt).2 x hx;omega).1 hu;obtain⟨k',h1,h2⟩:=hok.a k (by omega) _ hu;exact (Ci hN (by omega) u k (by omega)).2 ⟨k',h1,by omega⟩
  refine ul (h n (Qv _)) λv hv=>?_;rw[e]at hv;exact (Ci hN (by omega) v n (Qv _)).2 (hN.sur v hv)
 ·obtain⟨u,hu,rfl⟩:=Ri.1 hx;have hu:=QX.1 hu;obtain⟨k,hk,rfl⟩:=hN.sur u hu;show (((List.range (D.m (num k))).map (D.R (num k))).length:Int)=S.O4 (S.O3 _ (D.P (num k)));rw[GZ hu (hb.p _ hu).2];have:=hok.w k hk;unfold S.PV at this;rw[<-this];simp
 ·obtain⟨u,hu,rfl⟩:=Ri.1 hx;have hu:=QX.1 hu;obtain⟨r',f,rfl⟩:=Ri.1 hr;exact hok.r u r' hu (QX.1 f)
def I3:VS:=λP k h v=>∃m:Net,Drafted m/\Agg m P k h v
def V0(W:AV)(q:Nat):Ky->AV:=λk=>match k with
 | (0,0)=>W
 | (0,1)=>Ul q
 |_=>.nils
def E0(W:AV)(n:Nat)(gr:Int):Ky->En:=λk=>match k with
 | (0,0)=>.sl 3 (List.replicate n [Uk 0,.nils,.nils])
 | (0,1)=>.bx [Uk gr,W]
 |_=>.sl 1 []
def D0:ND:=⟨λ_=>0,λ_=>[],λ_=>0,λ_ _=>[],λ_=>0⟩
theorem hp0{n q:Nat}(hW:Own g 2 W 3 (List.replicate n [Uk 0,.nils,.nils]))(hq:g.h.get q=TD 2 [[Uk gr,W]])(h2:2<=q/\q<g.nx)(hne:vid W≠some q):Hp g 2 (LNX X1 n D0) (V0 W q) (E0 W n gr):=by
 have hk:∀k,LNX X1 n D0 k->k=(0,0)\/k=(0,1)\/∃i s,k=(i+1,s):=λk h=>by
  rcases h with h|h
  ·rcases h with h|⟨i,s,h,-⟩
   ·exact .inl h
   ·exact .inr (.inr ⟨i,s,h⟩)
  ·exact .inr (.inl h)
 refine⟨λk h=>?_,λk l h h' hkl id h1 a=>?_,by omega⟩
 ·rcases hk k h with rfl|rfl|⟨i,s,rfl⟩
  ·exact hW
  ·exact⟨q,h2.1,h2.2,rfl,hq⟩
  ·exact .inl ⟨rfl,rfl⟩
 ·rcases hk k h with rfl|rfl|⟨i,s,rfl⟩<;>rcases hk l h' with rfl|rfl|⟨i',s',rfl⟩
  ·exact hkl rfl
  ·have h1:eid W=some id:=h1;have a:some q=some id:=a;rw[bU hW]at h1;injection a with a;subst a;exact hne h1
  ·cases a
  ·have a:eid W=some id:=a;have h1:some q=some id:=h1;rw[bU hW]at a;injection h1 with h1;subst h1;exact hne a
  ·exact hkl rfl
  ·cases a
  ·cases h1
  ·cases h1
  ·cases h1
theorem LV{x:Int}{w:AV}(h:w.cells=[w])(h2:w.isTup=false):cX [Uk 0,.nils] [((0,1),Uk x),((1,1),w)]=some [Uk x,w]:=by
 have k:(Uk x).cells=[Uk x]:=rfl;have k2:(Uk x).isTup=false:=rfl;simp[cX,h,h2,cZ,k,k2]
 rfl
theorem LU{a b:AV}(ha:a.cells=[a]/\a.isTup=false)(hb:b.cells=[b]/\b.isTup=false):cX [.nils,.int .u16 0,.nils] [((0,1),a),((2,1),b)]=some [a,.int .u16 0,b]:=by
 simp[cX,ha,hb,cZ]
 rfl
theorem LO[XOc]{v:AV}{x:vD}(hd:0<d)(hm:Agg x P k g.h v):∃r,aq C0 d 7 [v] g=.val r/\I3 NoP 0 .nil r:=by
 obtain⟨v',e,cs,rfl,hc⟩:=jK (c_ x) (by decide) d hm;obtain⟨a,b,rfl,ha,hb⟩:=Bo.1 hc;have ha:=ha.tree (h':=.nil) (Qv _);have hb:=hb.tree (h':=.nil) (Qv _);rw[qJ];refine bj tM (xs:=[.agg [u8v x.1,a,b]]) (by simp only[aF,e]) (by simp[iq]) (kM λm=>c_ _) (by decide) hd ?_;simp only[sz,simprocAttr,iq];obtain⟨g0,hg0⟩:∃g0,g0=(G.empty.new (TD 3 [[u8v x.1,a,b]])).new (TD 2 [[Uk 0,.nils]]):=⟨_,rfl⟩;rw[<-hg0];have f0:g0.h.get 0=TD 3 [[u8v x.1,a,b]]:=by rw[hg0];simp[sx,O6]
 have f1:g0.h.get 1=TD 2 [[Uk 0,.nils]]:=by rw[hg0];simp[sx]
 have f2:g0.nx=2:=by rw[hg0];simp[sx]
 clear hg0;have la:=ha.len;have Y:=ha.1;unfold kg;obtain⟨n,hn,z⟩:∃n:Nat,n=min (max x.2.1.length 1) 5/\1<=n/\n<=5:=⟨_,rfl,by omega⟩;refine fA (P:=λt' df g'=>df=[]/\g'=g0/\St t' [(1,Ul 0),(2,Ul 1),(3,Uk (n:Int))]) ?_ ?_
 ·simp only[sz,simprocAttr,f0,la];simp[St,sx];omega
 rintro t df g1 ⟨rfl,rfl,h1,h2,l,-⟩;obtain⟨gr,O,N⟩:∃gr:Int,gr=1+(x.1.toNat:Int) % 60/\0<=gr/\gr<=60:=⟨_,rfl,by omega,by omega⟩;have q1:=dN .u8 (a:=(x.1.toNat:Int)) (b:=60) (by omega) (by omega);have w1:IntKind.wrap .i64 ((x.1.toNat:Int) % 60)=(x.1.toNat:Int) % 60:=aA (by omega) (by omega);have w2:IntKind.wrap .i64 (1+(x.1.toNat:Int) % 60)=gr:=by rw[O,aA (by omega) (by omega)]
 refine fA (P:=λt' df g'=>df=[]/\∃q V E D,St t' [(1,Ul 0),(2,Ul 1),(3,Uk (n:Int)),(4,Ul q)]/\DN X1 [u8v x.1,a,b] n q 1000 gr V E D g'/\(∀u,D.P u=[]/\D.m u=0/\D.o u=0)) ?_ ?_
 ·simp only[sz,simprocAttr,sf,h1,l,f0,u8v,q1,w1,w2];refine l_ (b:=2) (n:=n) (by unfold aQ;omega) (by unfold aQ;omega) (by first| (simp;done)| (simp;omega)) λW g2 hW n2 f2' vW lg2=>?_;simp only[sy]at n2 f2' vW lg2;simp only[sz,simprocAttr,sf,LV hW.cell.1 hW.cell.2,lg2];have h6:g1.nx+7=g2.nx:=by omega
  have Z:g2.h.get 0=TD 3 [[u8v x.1,a,b]]:=by rw[f2' 0 (by omega),f0]
  have k1:g2.h.get 1=TD 2 [[Uk 0,.nils]]:=by rw[f2' 1 (by omega),f1]
  refine⟨?_,g2.nx+1+1,V0 W (g2.nx+1+1),E0 W n gr,D0,by simp[St,sx,h1,h2,l],⟨hp0 ?_ ?_ ⟨by omega,by simp⟩ ?_,⟨?_,λu _=>⟨rfl,by show 0<=1000;omega⟩,λu _=>⟨rfl,by show 0<=1000;omega⟩,λu r _ hr=>by cases hr⟩,rfl,rfl,?_,?_⟩,λu=>⟨rfl,rfl,rfl⟩⟩
  ·simp only[Q2,QZ,QY,QI,G.new_lg,G.put_lg,setLog_lg];refine aJ (TX (TW (true::(false::(true::(true::[])))))) [(0,6),(1,6),(2,6),(3,6),(4,6),(0,8),(1,8),(2,8),(3,8),(4,8),(5,8),(6,8),(7,8)] (by simp[All2,ak,aw]) (by decide) ?_;rintro p w x y hx s;simp only[Q8,QG,SY]at w;rcases w with rfl|rfl|rfl|rfl|rfl|rfl|rfl|rfl|rfl|rfl|rfl|rfl|rfl<;>(simp at hx s;subst hx;subst s;refine dk rfl rfl rfl rfl ?_ ?_ ?_<;>simp[ak,aw,am]<;>omega)
  ·refine hW.fr (by simp;omega) λi hi=>?_;have:=fH vW hi;simp[O6,show ¬i=g2.nx+1+1 by omega]
  ·simp[O6]
  ·intro e;have:=fH vW e;omega
  ·show En.sl 3 (List.replicate n [Uk 0,.nils,.nils])=En.sl 3 ((List.range n).map λ_=>[Uk 0,.nils,.nils]);congr 1;rw[List.map_const',List.length_range]
  ·simp[O6,Z];rfl
  ·simp[O6,k1]
 clear h1 h2 l;rintro t df g2 ⟨rfl,q,V,E,D,⟨h1,h2,l,h4,-⟩,K,B⟩;obtain⟨num,hN⟩:=N1 x.2.2 n;refine fA (P:=λt' df g'=>df=[]/\Fr g2 g'/\∃r5,IT 0 (S.Pj x.2.2 n) r5/\St t' (LDA n q r5)) ?_ ?_
 ·simp only[sz,simprocAttr,sf,l];refine l_ (b:=2) (n:=n) (by unfold aQ;omega) (by unfold aQ;omega) (by have:=K.hp.nx;first| (simp;done)| (simp;omega)) λU g3 hU n3 F vU lg3=>?_;simp only[sy]at n3 F vU lg3;have e0:g3.h.get 0=TD 3 [[u8v x.1,a,b]]:=by rw[F 0 (by have:=K.hp.nx;omega),K.h0]
  simp only[sz,simprocAttr,sf,h1,e0,LU hU.cell hb.cell];have M:Own g3 2 U 1 ((List.replicate n (0:UInt8)).map λy=>[u8v y]):=by simpa [u8v] using hU
  have T:∀C:G,C.h=g3.h->∃r,aq C0 (d+1) 29 [.agg [U,.int .u16 0,b]] C=.val r/\IT 0 (S.Pj x.2.2 n) r:=λC h=>by
   have:=zH (d:=d+1) (g:=C) (k:=max k d) (P:=λ_=>True) (x:=(List.replicate n (0:UInt8),(0:UInt16),x.2.2)) (v:=.agg [U,.int .u16 0,b]) (QM d) ⟨_,rfl,sK.2 ⟨U,b,rfl,?_,?_⟩⟩
   ·have e:min (List.replicate n (0:UInt8)).length 5=n:=by simp;omega
    rw[e]at this;exact this
   ·rw[h];exact Own.sl (α:=UInt8) M (by simp;omega) (O2 (λy=>dL.2 rfl) _) λ_ _=>trivial
   ·exact (hb.tree (h':=C.h) (Qv _)).wd λ_ h=>h.elim
  refine bF (T _ (by simp)) λr hr=>?_;simp only[sz,simprocAttr,sf,jW];refine⟨?_,⟨?_,λi hi=>?_⟩,r,hr,?_⟩
  ·simp only[Q2,QZ,QY,QI];refine aJ (false::(true::(false::(TW [])))) [(1,2),(1,3)] (by simp[All2,ak,aw]) (by decide) ?_;rintro p w x y hx s;simp only[Q8,QG,SY]at w;rcases w with rfl|rfl<;>(simp at hx s;subst hx;subst s;refine dk rfl rfl rfl rfl ?_ ?_ ?_<;>simp[ak,aw,am,lg3])
  ·simp;omega
  ·simp;exact F i (by omega)
  ·simp[St,LDA,sx,h1,h2,l,h4]
 clear h1 h2 l h4;rintro t df g3 ⟨rfl,F,r5,J,⟨h1,h2,l,h4,h5,-⟩⟩;have H:=K.same F;simp only[sz,simprocAttr];refine NX (n:=n) (q:=q) (x:=x) (gr:=gr) (r5:=r5) (num:=num) z ha J hN ⟨by simp[St,LDA,sx,h1,h2,l,h4,h5],⟨1,by simp[sx],by decide⟩,V,E,D,H,λv _=>⟨(B v).1,(B v).2.1⟩,λk hk=>by omega,λu=>(B u).2.2⟩ (by simp[sx]) ?_;clear h1 h2 l h4 h5 H;rintro t C ⟨⟨h1,h2,l,h4,h5,-⟩,-,V4,E4,D4,L,f⟩;simp only[sz,simprocAttr,iO];refine Mf (n:=n) (q:=q) (x:=x) (gr:=gr) (r5:=r5) (num:=num) (QM d) N z ha J hN ⟨by simp[St,LDA,sx,h1,h2,l,h4,h5],V4,E4,D4,L,⟨λu hu=>?_,λu hu=>?_,λu hu=>?_,?_,λk _ hk=>f.e _ (hN.lt k hk)⟩,⟨λu hu=>by rw[(f.e u hu).1];exact .nil,λk hk y s=>by rw[(f.e _ (hN.lt k hk)).1]at s;simp at s,λk hk=>by omega,λu r hu hr=>by rw[(f.e u hu).2]at hr;omega⟩⟩ (by simp[sx]) ?_
 ·obtain⟨k,hk,rfl⟩:=hN.sur u hu;exact f.c k hk
 ·rw[(f.e u hu).1];simp
 ·rw[(f.e u hu).2];omega
 ·exact f.o
 clear h1 h2 l h4 h5;rintro t g5 ⟨⟨h1,h2,l,h4,h5,-⟩,V5,E5,D5,j,I,Q⟩;obtain⟨kq,h7,h8⟩:=j.q rfl;simp only[sz,simprocAttr,iM,h4,kq,h2,j.h1];have A:=j.bn.nodes j.hp (λk h=>.inl h) (by omega) (by omega);refine⟨λ_=>True,⟨gr,(List.range n).map D5.node⟩,⟨by simpa using z,λy s=>?_,λy s=>?_,OF hN z (by omega) I Q⟩,⟨_,rfl,dT.2 ⟨_,rfl,A.wd λi hi=>⟨trivial,by simp[O6,show ¬i=1 by omega]⟩⟩⟩⟩
 ·obtain⟨u,hu,rfl⟩:=Ri.1 s;exact I.c u (QX.1 hu)
 ·obtain⟨u,hu,rfl⟩:=Ri.1 s;have hu:=QX.1 hu;refine⟨(j.bn.ps u hu).2,?_,λr hr=>?_⟩
  ·show ((List.range (D5.m u)).map (D5.R u)).length<=1000;simpa using (j.bn.rs u hu).2
  ·obtain⟨r',X,rfl⟩:=Ri.1 hr;exact (j.bn.rr u r' hu (QX.1 X)).1
def EvV(n:Net):VS:=λP k h v=>∃l:List Int,S.O8 n l=true/\One l P k h v
theorem Oc(n:Net):Snb (EvV n) 0:=by
 refine⟨λ{P k h v n} d r hn=>?_,λ{k h v n} r hn=>?_⟩
 ·obtain⟨m,hm,r⟩:=r;obtain⟨v',e,r'⟩:=(aU m).snap d r hn;exact⟨v',e,m,hm,r'⟩
 ·obtain⟨m,hm,r⟩:=r;exact (aU m).tag r hn
def evP(n:Net)(l:List Int):Prop:=∀(i:Nat) (x:Int) (c:Node),l[i]?=some x->n.nodes[i]?=some c->-1<=x/\x<c.card
theorem LQ{n:Net}(hl:l.length=n.nodes.length)(h:evP n l):S.O8 n l=true:=by simp only[S.O8,Qy,QQ,QS,QX];refine⟨hl,λi hi=>?_⟩;obtain⟨x,hx⟩:∃x,l[i]?=some x:=⟨_,Qu hi⟩;obtain⟨c,hc⟩:∃c,n.nodes[i]?=some c:=⟨_,Qu (by omega)⟩;have:=h i x c hx hc;simpa [S.O2,hx,hc] using this
theorem DF[XOc]{w:AV}{m:Net}{vs:List UInt8}(hd:0<d)(hv:vs.length=9)(hm:Agg m P k g.h w)(hn:m.nodes.length<=8)(hc:∀x∈m.nodes,0<x.card) :
  ∃r,aq C0 d 9 [.agg (vs.map u8v),w] g=.val r/\EvV m NoP 0 .nil r:=by
 obtain⟨v',e,cs,rfl,F⟩:=jK (c_ m) (by decide) d hm;obtain⟨b,rfl,hN⟩:=dT.1 F;obtain⟨rows,Q,r2,Z,r4⟩:=hN.all;have Q:∀h',af h' 3 b=some rows:=Q;rw[sV];refine bj uL (xs:=[.agg (vs.map u8v),.agg [Uk m.grain,b]]) (by simp only[aF,e,K4]) (by simp[i4]) (Oc m) (by decide) hd ?_;obtain⟨cu8,n⟩:∃c,c=vs.map u8v:=⟨_,rfl⟩;have hcl:cu8.length=9:=by rw[n,QJ,hv]
 simp only[sz,simprocAttr,i4,<-n];generalize hg0:((G.empty.new (TD cu8.length [cu8])).new (TD 2 [[AV.int IntKind.i64 m.grain,b]]))=g0;have f0:g0.h.get 0=TD 9 [cu8]:=by rw[<-hg0,hcl];simp[sx,O6]
 have f1:g0.h.get 1=TD 2 [[Uk m.grain,b]]:=by rw[<-hg0];simp[sx]
 have f2:2<=g0.nx:=by rw[<-hg0];simp[sx]
 clear hg0;simp only[sz,simprocAttr,lL];refine be m.nodes.length (by omega) (λj t df g=>df=[]/\St t [(2,Ul 0),(3,Ul 1)]/\g.h.get 0=TD 9 [cu8]/\g.h.get 1=TD 2 [[Uk m.grain,b]]/\2<=g.nx/\∃u L,tat t 5=u/\L.length=j/\evP m L/\Own g 2 u 1 (L.map ci))
  ⟨rfl,by simp[sx,St],f0,f1,f2,_,[],rfl,rfl,λi x c hx=>by simp at hx,.inl ⟨by simp[sx],rfl⟩⟩ (by simp[sx]) (by decide) (by rintro j t df g v s (rfl|rfl|rfl)<;>simp[sx,St]) ?_ ?_ ?_
 ·rintro j t df g R ⟨rfl,⟨h2,o,-⟩,e0,e1,A,u,L,h5,hu⟩ p;simp only[sz,simprocAttr,h2,o,p,e0,e1,hN.len,St];exact⟨A,u,L,h5,hu⟩
 ·rintro j t df g R ⟨rfl,⟨h2,o,-⟩,e0,e1,A,u,L,h5,f,q,hu⟩ p;obtain⟨x,hx,V,hm⟩:=ae R;obtain⟨row,z1,z2⟩:=Z j x hx;obtain⟨fa,fb,rfl,-⟩:=bV.1 z2;have hlt:j<rows.length:=by omega
  have N:=r4 (by omega);have K:j<8:=by omega
  obtain⟨S,O⟩:∃y,vs[0]?=some y:=⟨_,Qu (by omega)⟩;have E:cu8[0]?=some (.int .u8 (S.toNat:Int)):=by rw[n,Qx,O];rfl
  obtain⟨y,W⟩:∃y,vs[1+j]?=some y:=⟨_,Qu (by omega)⟩;have I:cu8[1+j]?=some (.int .u8 (y.toNat:Int)):=by rw[n,Qx,W];rfl
  have Y:y.toNat<256:=y.toNat_lt;have H:=hc x hm;obtain⟨z,hz⟩:=AS S.toNat j;obtain⟨z',B⟩:=AR z 1;have B:bT .and (.int .u8 (z:Int)) (.int .u8 1)=.val (.int .u8 z'):=B;have w8:IntKind.wrap .i64 (y.toNat:Int)=(y.toNat:Int):=aA (by omega) (by omega);have w9:IntKind.wrap .u64 (j:Int)=(j:Int):=jp (by omega) (by omega);have key:∀(t:T) (X:Int),-1<=X->X<x.card->St t [(2,Ul 0),(3,Ul 1),(5,u),(6,Uk (j:Int)),(7,Uk X)] ->
    wp C0 (d+1) none fM (λe t df g=>e=.norm/\(df=[]/\St t [(2,Ul 0),(3,Ul 1)]/\g.h.get 0=TD 9 [cu8]/\g.h.get 1=TD 2 [[Uk m.grain,b]]/\2<=g.nx/\∃u L,tat t 5=u/\L.length=j+1/\evP m L/\Own g 2 u 1 (L.map ci))/\tat t 6=Uk (j:Int)) t [] g:=by
   rintro t X C D ⟨h2,o,h5,p,h7,-⟩;simp only[sz,simprocAttr,fM,h5,h7];refine bD (new:=[ci X]) (hu.step (Fr.new _ _)) (by simp[sx,sy,ci]) (by simp;omega) (by simp[aQ,f];omega) λv2 g2 hv2 n2 f2 _ l2=>?_;simp only[sz,simprocAttr,h2,o,p,St];refine⟨?_,?_,?_,_,L++[X],rfl,by simp[f],?_,?_⟩
   ·rw[f2 0 (by simp) (λe=>by have:=(hu.lt e).1;omega),G.new_h,aE _ _ _ (by omega),e0]
   ·rw[f2 1 (by simp;omega) (λe=>by have:=(hu.lt e).1;omega),G.new_h,aE _ _ _ (by omega),e1]
   ·simp at n2;omega
   ·intro i a c ha l
    by_cases e:i=j
    ·subst e;rw[hx]at l;injection l with l;subst l;rw[<-f,RC]at ha;injection ha with ha;subst ha;exact⟨C,D⟩
    ·have J:i<L.length:=by have:=(Qt.1 ha).1;simp at this;omega
     rw[QE J]at ha;exact q i a c ha l
   ·simpa [ci] using hv2
  simp only[sz,simprocAttr,h2,p,e0,E,w9,hz,B];refine ba (λhb=>?_) (λhb=>?_)
  ·have U:0<=(y.toNat:Int) % x.card:=SJ _ (by omega);have M:(y.toNat:Int) % x.card<x.card:=Sr _ (by omega);simp only[sz,simprocAttr,h2,o,p,e0,e1,Nc 8 1 _ _ _ _ _ K,Nat.mul_one,I,w8,Q,hlt,z1,N,dN .i64 (show 0<=(y.toNat:Int) by omega) H];refine cK _ (key _ ((y.toNat:Int) % x.card) (by omega) M (by simp[St,sx,h2,o,h5,p])) ?_;rintro e t df g ⟨rfl,h⟩;exact h
  ·simp only[sx];refine cK _ (key _ (-1) (by omega) (by omega) (by simp[St,sx,h2,o,h5,p])) ?_;rintro e t df g ⟨rfl,h⟩;exact h
 ·rintro t df g ⟨rfl,⟨h2,o,-⟩,e0,e1,A,u,L,h5,f,q,hu⟩;simp only[sz,simprocAttr,ku,h5];exact⟨_,L,LQ f q,hu.ints (by omega)⟩
theorem uo{α β:Type}{R:α->β->Prop}:∀{l:List α} {m:List β},l.length=m.length->(∀(i:Nat) (a:α) (b:β),l[i]?=some a->m[i]?=some b->R a b)->All2 R l m
 |[],[],_,_=>trivial
 |[],_::_,h,_=>by simp at h
 |_::_,[],h,_=>by simp at h
 |a::l,b::m,h,hr=>⟨hr 0 a b rfl rfl,uo (by simpa using h) λi x y hx hy=>hr (i+1) x y (by simpa using hx) (by simpa using hy)⟩
def jZ(V:Ky->AV)(i:Nat)(c:Int):List AV:=[Uk c,V (i+1,0),V (i+1,1)]
structure NdOk (K:Nat) (V:Ky->AV) (E:Ky->En) (i:Nat) (x:Node):Prop where
 ps:E (i+1,0)=.sl 1 (x.parents.map ci)
 rs:∃rws,E (i+1,1)=.sl 1 rws/\rws.length=x.rows.length/\∀(r:Nat) (y:List Int),x.rows[r]?=some y->rws[r]?=some [V (i+1,2+r)]
 rr:∀(r:Nat) (y:List Int),x.rows[r]?=some y->E (i+1,2+r)=.sl 1 (y.map ci)
 len:x.parents.length<=K/\x.rows.length<=K/\∀y∈x.rows,y.length<=K
theorem NdOk.congr{V':Ky->AV}{E':Ky->En}(h:NdOk K V E i x)(hv:∀q,V' (i+1,q)=V (i+1,q))(he:∀q,E' (i+1,q)=E (i+1,q)):NdOk K V' E' i x:=by obtain⟨rws,h1,h2,k⟩:=h.rs;exact⟨by rw[he];exact h.ps,⟨rws,by rw[he];exact h1,h2,λr y hy=>by rw[hv];exact k r y hy⟩,λr y hy=>by rw[he];exact h.rr r y hy,h.len⟩
theorem NdOk.up{K':Nat}(h:NdOk K V E i x)(hk:K<=K'):NdOk K' V E i x :=
 ⟨h.ps,h.rs,h.rr,QW h.len.1 hk,QW h.len.2.1 hk,λy hy=>QW (h.len.2.2 y hy) hk⟩
theorem NdOk.rows{g:G}{K i:Nat}{V:Ky->AV}{E:Ky->En}{x:Node}{L:Ky->Prop}(h:NdOk K V E i x)(hH:Hp g 3 L V E)(hL:∀q,q<2+x.rows.length->L (i+1,q))(hK:K<=2000000):SlR P3 0 g.h x.rows (V (i+1,1)):=by obtain⟨rws,h1,h2,k⟩:=h.rs;have ho:=hH.own (hL 1 (by omega)) h1;refine Own.sl (α:=List Int) ho (by have:=h.len;omega) (uo h2.symm λr y row hy hr=>?_) λj hj=>(ho.lt hj).1;rw[k r y hy]at hr;injection hr with hr;subst hr;have hr:=(Qt.1 hy).1;exact gm.2 ⟨_,rfl,sM (hH.own (hL (2+r) (by omega)) (h.rr r y hy)) (by have:=h.len.2.2 y (Qz hy);omega) λ_ h=>h⟩
theorem NdOk.pars{L:Ky->Prop}(h:NdOk K V E i x)(hH:Hp g 3 L V E)(hL:L (i+1,0))(hK:K<=2000000):SlR P3 0 g.h x.parents (V (i+1,0)) :=
 sM (hH.own hL h.ps) (by have:=h.len;omega) λ_ h=>h
theorem NdOk.rd{L:Ky->Prop}(h:NdOk K V E i x)(hH:Hp g 3 L V E)(hL:∀q,q<2+x.rows.length->L (i+1,q))(hK:K<=2000000):Rp.rp P3 0 g.h x (jZ V i x.card) :=
 bV.2 ⟨_,_,rfl,h.pars hH (hL 0 (by omega)) hK,h.rows hH hL hK⟩
def LS(L:List Node):Ky->Prop:=λk=>k=(0,0)\/∃i q x,k=(i+1,q)/\L[i]?=some x/\q<2+x.rows.length
theorem LS.z:LS L (0,0):=.inl rfl
theorem LS.s{q:Nat}(h:L[i]?=some x)(hq:q<2+x.rows.length):LS L (i+1,q):=.inr ⟨i,q,x,rfl,h,hq⟩
theorem LS.nb:¬LS L (0,1):=by rintro (h|⟨i,q,x,h,-⟩)<;>simp at h
theorem LS.lt{q:Nat}(h:LS L (i+1,q)):i<L.length:=by
 rcases h with h|⟨i',q',x,h,hx,-⟩
 ·simp at h
 ·simp only[Prod.mk.injEq]at h;have:=(Qt.1 hx).1;omega
structure BLs (K:Nat) (V:Ky->AV) (E:Ky->En) (L:List Node):Prop where
 ns:∃rows,E (0,0)=.sl 3 rows/\rows.length=L.length/\∀(i:Nat) (x:Node),L[i]?=some x->rows[i]?=some (jZ V i x.card)
 nd:∀(i:Nat) (x:Node),L[i]?=some x->NdOk K V E i x
theorem BLs.congr{K:Nat}{V V':Ky->AV}{E E':Ky->En}{L:List Node}(h:BLs K V E L)(hv:∀i q,i<L.length->V' (i+1,q)=V (i+1,q))(he:∀i q,i<L.length->E' (i+1,q)=E (i+1,q))(h0:E' (0,0)=E (0,0)):BLs K V' E' L:=by obtain⟨rows,h1,h2,k⟩:=h.ns;have lt:∀{i:Nat} {x:Node},L[i]?=some x->i<L.length:=λhx=>(Qt.1 hx).1;exact⟨⟨rows,by rw[h0];exact h1,h2,λi x hx=>by rw[k i x hx,jZ,jZ,hv i _ (lt hx),hv i _ (lt hx)]⟩,λi x hx=>(h.nd i x hx).congr (λq=>hv i q (lt hx)) λq=>he i q (lt hx)⟩
theorem DX{rows:List (List AV)}(ho:Own g 3 W 3 rows)(hl:rows.length<=2000000)(h:∀(i:Nat) (row:List AV),rows[i]?=some row->∃x:Node,Rp.rp P3 0 g.h x row):∃nds:List Node,nds.length=rows.length/\SlR P3 0 g.h nds W:=by
 have key:∀(rs:List (List AV)),(∀(i:Nat) (row:List AV),rs[i]?=some row->∃x:Node,Rp.rp P3 0 g.h x row)->∃nds:List Node,nds.length=rs.length/\All2 (Rp.rp P3 0 g.h) nds rs:=by
  intro rs
  induction rs with
  |nil=>intro _;exact⟨[],rfl,trivial⟩
  | cons r rs ih =>
   intro a;obtain⟨x,hx⟩:=a 0 r rfl;obtain⟨nds,k,ha⟩:=ih λi row hr=>a (i+1) row (by simpa using hr);exact⟨x::nds,by simp[k],hx,ha⟩
 obtain⟨nds,k,ha⟩:=key rows h;exact⟨nds,k,Own.sl (α:=Node) ho (by omega) ha λi hi=>(ho.lt hi).1⟩
def BBn(g:G)(brow:List AV)(gr:Int)(b:AV):Prop:=g.h.get 0=TD 4 [brow]/\g.h.get 1=TD 2 [[Uk gr,b]]/\g.h.get 2=TD 2 [[Uk 0,.nils]]
theorem BBn.fr{g':G}{b:AV}(h:BBn g brow gr b)(hf:∀i,i<3->g'.h.get i=g.h.get i):BBn g' brow gr b :=
 ⟨by rw[hf 0 (by omega),h.1],by rw[hf 1 (by omega),h.2.1],by rw[hf 2 (by omega),h.2.2]⟩
def LX(L:List Node)(x:Node):Ky->Prop:=λk=>LS L k\/k=(0,1)\/∃q,k=(L.length+1,q)/\q<2+x.rows.length
theorem LX.b:LX L x (0,1):=.inr (.inl rfl)
theorem LX.n{q:Nat}(h:q<2+x.rows.length):LX L x (L.length+1,q):=.inr (.inr ⟨q,rfl,h⟩)
structure NB (K p:Nat) (L:List Node) (x:Node) (g:G) (brow:List AV) (gr:Int) (b W:AV) (V:Ky->AV) (E:Ky->En):Prop where
 hp:Hp g 3 (LX L x) V E
 bb:BBn g brow gr b
 vb:V (0,1)=Ul p
 bx:E (0,1)=.bx (jZ V L.length x.card)
 nd:NdOk K V E L.length x
 bl:BLs K V E L
 vw:V (0,0)=W
theorem NB.box{K p:Nat}{L:List Node}{x:Node}{g:G}{brow:List AV}{gr:Int}{b W:AV}{V:Ky->AV}{E:Ky->En}(h:NB K p L x g brow gr b W V E):g.h.get p=TD 3 [[Uk x.card,V (L.length+1,0),V (L.length+1,1)]]/\3<=p/\p<g.nx:=by obtain⟨id,h1,h2,k,h4⟩:=h.hp.box LX.b h.bx;rw[h.vb]at k;injection k with k;subst k;exact⟨h4,h1,h2⟩
def LNB(j p:Nat)(W:AV):List (Nat×AV):=[(2,Ul 0),(3,Ul 1),(4,Ul 2),(5,W),(6,Uk (j:Int)),(7,Ul p)]
theorem NC[XOc]{p:Nat}{ps:List Int}{b fa fb:AV}{rows:List (List AV)}(hK:K<=1000000)
  (r1:∀h',af h' 3 b=some rows) (z1:rows[L.length]?=some [Uk c,fa,fb]) (hry:md b=true) (hfa:SlR NoP k .nil ps fa) (hl:ps.length<=K)
  (ht:St t (LNB L.length p W)) (hN:NB K p L ⟨c,[],[]⟩ g brow gr b W V E)
  (kk:∀t g V E,St t (LNB L.length p W)->NB K p L ⟨c,ps,[]⟩ g brow gr b W V E->Q .norm t [] g) :
  wp C0 d none (.feet [0,1,0,4,0,28,60,124,255,511,1023] [oF 29 1 7,oL 30 29,oF 31 1 3,oL 32 31,oM 33 6,TN 34 3 32 33,oF 35 1 34,oL 36 35,T5 37 1 8 30 36,oF 38 1 7,TJ 1 38 37]) Q t [] g:=by
 obtain⟨h2,o,h4,h5,s,h7,-⟩:=ht;have hlt:L.length<rows.length:=(Qt.1 z1).1;obtain⟨m,x,z⟩:=hN.box;have w:=hN.hp.nx;have l:E (L.length+1,0)=.sl 1 []:=hN.nd.ps;simp only[sz,simprocAttr,sf,o,s,h7,hN.bb.2.1,r1,hlt,z1,hry,m];refine (hN.hp.same (g':=_) (by simp) (by simp<;>omega)).app (k:=(L.length+1,0)) (LX.n (by omega)) l (new:=ps.map ci) (by simpa using (hfa.tree (h':=g.h) (Qv _)).ints) (by simp[aQ];omega) λv1 ga hHa na fra fsa lga vca vta=>?_;simp only[sy]at na fra fsa lga;have kb:(0,1)≠(L.length+1,0):=by simp
 obtain⟨p',u,v,a,e⟩:=hHa.box (k:=(0,1)) LX.b (by rw[ac _ _ (by simp<;>omega)];exact hN.bx);rw[ac _ _ (by simp<;>omega),hN.vb]at a;injection a with a;subst a;have e:ga.h.get p=TD 3 [[Uk c,V (L.length+1,0),V (L.length+1,1)]]:=e;simp only[sz,simprocAttr,sf,h7,e,vca,vta];refine⟨?_,?_⟩
 ·simp only[Q2,QZ,QY,QI];exact aJ (TV (true::(false::(true::[])))) [] (by simp[All2,ak,aw]) (by decide) (by simp)
 have f:=(hHa.same (g':=aK (iH (aK (iH ga []) []) []) []) (by simp) (by simp<;>omega)).putb (k:=(0,1)) LX.b (row:=jZ V L.length c) (row':=[Uk c,v1,V (L.length+1,1)]) (by rw[ac _ _ (by simp<;>omega)];exact hN.bx) (by rw[ac _ _ (by simp<;>omega)];exact hN.vb) rfl;refine kk _ _ (ups V (L.length+1,0) v1) (ups (ups E (L.length+1,0) (En.sl 1 ([]++ps.map ci))) (0,1) (En.bx [Uk c,v1,V (L.length+1,1)])) (by simp[St,LNB,sx,h2,o,h4,h5,s,h7]) ?_;refine⟨f.same (by simp[jZ]) (by simp),hN.bb.fr (λi hi=>by simp[O6];rw[Qw (by omega),fra i hi]),by rw[ac _ _ (by simp<;>omega)];exact hN.vb,?_,⟨?_,?_,λr y hr=>by simp at hr,hl,by show 0<=K;omega,λy hy=>by simp at hy⟩,?_,by rw[ac _ _ (by simp<;>omega)];exact hN.vw⟩
 ·rw[an,jZ,an,ac V (k:=(L.length+1,0)) (j:=(L.length+1,1)) _ (by simp)]
 ·rw[ac _ _ (by simp<;>omega),an];rfl
 ·obtain⟨rws,q1,q2,q3⟩:=hN.nd.rs;exact⟨rws,by rw[ac _ _ (by simp<;>omega),ac _ _ (by simp<;>omega)];exact q1,q2,λr y hr=>by simp at hr⟩
 ·refine hN.bl.congr (λi q hi=>?_) (λi q hi=>?_) ?_
  ·rw[ac _ _ (by simp<;>omega)]
  ·rw[ac _ _ (by simp<;>omega),ac _ _ (by simp<;>omega)]
  ·rw[ac _ _ (by simp<;>omega),ac _ _ (by simp<;>omega)]
theorem NE[XOc]{p:Nat}{ps y:List Int}{R:List (List Int)}{b fa fb fy:AV}{rows rws:List (List AV)}(hK:K<=1000000)
  (r1:∀h',af h' 3 b=some rows) (z1:rows[L.length]?=some [Uk c,fa,fb]) (hry:md b=true) (w1:∀h',af h' 1 fb=some rws) (hryb:md fb=true) (w2:rws[i]?=some [fy]) (hfy:SlR NoP k .nil y fy) (hl:y.length<=K) (hRl:R.length=i) (hi:i<K)
  (ht:St t (LNB L.length p W)) (h8:tat t 8=Uk (i:Int)) (h9:tat t 9=.nils) (hN:NB K p L ⟨c,ps,R⟩ g brow gr b W V E)
  (kk:∀t g V E,St t (LNB L.length p W)->tat t 8=Uk (i:Int)->NB K p L ⟨c,ps,R++[y]⟩ g brow gr b W V E->Q .norm t [] g) :
  wp C0 d none (.feet [0,1,0,0,8,0,56,120,248,0,1016,2040,4092,8188,16383,32767,65535] [oF 50 2 7,oL 51 50,oM 52 9,oF 53 1 3,oL 54 53,oM 55 6,TN 56 3 54 55,oF 57 2 56,oL 58 57,oM 59 8,oX 60 58 59,oL 61 60,T5 62 1 8 52 61,Uc 63 62,T5 64 1 24 51 63,oF 65 2 7,TJ 1 65 64]) Q t [] g:=by
 obtain⟨h2,F,h4,h5,H,h7,-⟩:=ht;have hlt:L.length<rows.length:=(Qt.1 z1).1;have o:i<rws.length:=(Qt.1 w2).1;obtain⟨A,S,U⟩:=hN.box;have P:=hN.hp.nx;obtain⟨rw0,e1,u,N⟩:=hN.nd.rs;have u:rw0.length=i:=by rw[u];exact hRl
 simp only[sz,simprocAttr,sf,F,H,h7,h8,h9,hN.bb.2.1,r1,hlt,z1,hry,w1,o,w2,A];refine wD (b:=3) (rows:=[]) (new:=y.map ci) (.inl ⟨rfl,rfl⟩) (by simpa using (hfy.tree (h':=g.h) (Qv _)).ints) (by simp<;>omega) (by simp[aQ];omega) λv2 g2 hv2 n2 fr2 vid2 lg2=>?_;simp only[sy]at n2 fr2 vid2 lg2;have B:¬LX L ⟨c,ps,R⟩ (L.length+1,2+i):=by
  rintro (h|h|⟨q,h,hq⟩)
  ·have:=h.lt;omega
  ·simp at h
  ·simp only[Prod.mk.injEq]at h;simp at hq;omega
 have v:=hN.hp.add (k:=(L.length+1,2+i)) (L':=LX L ⟨c,ps,R++[y]⟩) (v':=v2) (e':=.sl 1 (y.map ci)) B hv2 (by omega) (λj _ f=>fr2 j (by omega) (by simp[vid])) (λj f=>by
   rw[bU hv2]at f;rcases vid2 with h|⟨i',h,O⟩
   ·rw[h]at f;cases f
   ·rw[h]at f;injection f with f;omega) (λk hk=>by
   rcases hk with h|h|⟨q,h,hq⟩
   ·exact .inl (.inl h)
   ·exact .inl (.inr (.inl h))
   ·simp at hq
    by_cases e:q=2+i
    ·rw[e]at h;exact .inr h
    ·exact .inl (.inr (.inr ⟨q,h,by simp;omega⟩)))
 simp only[sz,simprocAttr,sf,hv2.cell.1,hv2.cell.2];have D:ups V (L.length+1,2+i) v2 (L.length+1,1)=V (L.length+1,1):=ac _ _ (by simp<;>omega);rw[<-D];refine (v.step (g':=_) ?_ ?_).app2 (k:=(L.length+1,1)) (LX.n (by omega)) (by rw[ac _ _ (by simp<;>omega)];exact e1) (new:=[[v2]]) (by simp[sx,sy]) (by simp[aQ];omega) λv3 g3 hH3 n3 fb3 fo3 lg3 vc3 vt3=>?_
 ·simp;omega
 ·intro j _ f;simp[O6];omega
 simp only[sx,sy]at n3 fb3 fo3 lg3;obtain⟨p',I,J,a,l⟩:=hH3.box (k:=(0,1)) LX.b (by rw[ac _ _ (by simp<;>omega),ac _ _ (by simp<;>omega)];exact hN.bx);rw[ac _ _ (by simp<;>omega),ac _ _ (by simp<;>omega),hN.vb]at a;injection a with a;subst a;have l:g3.h.get p=TD 3 [[Uk c,V (L.length+1,0),V (L.length+1,1)]]:=l;simp only[sz,simprocAttr,sf,h7,l,vc3,vt3];refine⟨?_,?_⟩
 ·simp only[Q2,QZ,QY,QI];refine aJ (TW (TV (true::(true::(true::(false::(true::[]))))))) [(0,12),(1,12),(0,13),(1,13)] (by simp[All2,ak,aw]) (by decide) ?_;have m:∀i∈g2.lg,i≠p:=λi hi e=>by
   rcases lg2 i hi with h|h|h
   ·simp at h
   ·simp[vid]at h
   ·omega
  rintro q s x y hx M;simp only[Q8,QG,SY]at s;rcases s with rfl|rfl|rfl|rfl<;>(simp at hx M;subst hx;subst M;refine dk rfl rfl rfl rfl ?_ ?_ ?_<;>simp[ak,aw,am]<;>first|omega|exact m|exact λi hi e=>m i hi e.symm)
 have w:=(hH3.same (g':=aK (iH (aK (iH g3 []) []) []) []) (by simp) (by simp<;>omega)).putb (k:=(0,1)) LX.b (row:=jZ V L.length c) (row':=[Uk c,V (L.length+1,0),v3]) (by rw[ac _ _ (by simp<;>omega),ac _ _ (by simp<;>omega)];exact hN.bx) (by rw[ac _ _ (by simp<;>omega),ac _ _ (by simp<;>omega)];exact hN.vb) rfl;refine kk _ _ _ _ (by simp[St,LNB,sx,h2,F,h4,h5,H,h7]) (by simp[sx,h8]) ⟨w.same (by simp[jZ]) (by simp),hN.bb.fr (λj f=>?_),?_,?_,⟨?_,?_,λr z hr=>?_,hN.nd.len.1,by simp;omega,λz hz=>?_⟩,?_,?_⟩
 ·simp[O6];rw[Qw (by omega),fb3 j f]
  try simp[O6]
  rw[Qw (by omega),fr2 j (by omega) (by simp[vid])]
 ·rw[ac _ _ (by simp<;>omega),ac _ _ (by simp<;>omega)];exact hN.vb
 ·rw[an,jZ,an,ac _ _ (by simp<;>omega),ac _ _ (by simp<;>omega)]
 ·rw[ac _ _ (by simp<;>omega),ac _ _ (by simp<;>omega),ac _ _ (by simp<;>omega)];exact hN.nd.ps
 ·refine⟨rw0++[[v2]],by rw[ac _ _ (by simp<;>omega),an],by simp[u,hRl],λr z hr=>?_⟩
  by_cases e:r=i
  ·subst e;rw[ac _ _ (by simp<;>omega),an,<-u,RC]
  ·have C:r<i:=by have:=(Qt.1 hr).1;simp at this;omega
   rw[ac _ _ (by simp<;>omega),ac _ _ (by simp<;>omega),QE (by omega)];have hr:(R++[y])[r]?=some z:=hr;rw[QE (by omega)]at hr;exact N r z hr
 ·rw[ac _ _ (by simp<;>omega),ac _ _ (by simp<;>omega)];have hr:(R++[y])[r]?=some z:=hr
  by_cases e:r=i
  ·subst e;rw[<-hRl,RC]at hr;injection hr with hr;subst hr;rw[<-hRl,an]
  ·have C:r<i:=by have:=(Qt.1 hr).1;simp at this;omega
   rw[QE (by omega)]at hr;rw[ac _ _ (by simp<;>omega)];exact hN.nd.rr r z hr
 ·rcases Q0.1 hz with h|h
  ·exact hN.nd.len.2.2 z h
  ·rw[Rg.1 h];exact hl
 ·refine hN.bl.congr (λj q f=>?_) (λj q f=>?_) ?_
  ·rw[ac _ _ (by simp<;>omega),ac _ _ (by simp<;>omega)]
  ·rw[ac _ _ (by simp<;>omega),ac _ _ (by simp<;>omega),ac _ _ (by simp<;>omega)]
  ·rw[ac _ _ (by simp<;>omega),ac _ _ (by simp<;>omega),ac _ _ (by simp<;>omega)]
 ·rw[ac _ _ (by simp<;>omega),ac _ _ (by simp<;>omega)];exact hN.vw
theorem Or[XOc]{p:Nat}{b fa fb:AV}{rows:List (List AV)}(hK:K<=1000000)
  (r1:∀h',af h' 3 b=some rows) (z1:rows[L.length]?=some [Uk x.card,fa,fb]) (hry:md b=true) (hfb:SlR NoP k .nil x.rows fb) (hl:x.rows.length<=K) (hll:∀y∈x.rows,y.length<=K)
  (ht:St t (LNB L.length p W)) (h8:tat t 8=Uk 0) (hN:NB K p L ⟨x.card,x.parents,[]⟩ g brow gr b W V E)
  (fin:∀t g V E,St t (LNB L.length p W)->NB K p L x g brow gr b W V E->Q (.exit 2) t [] g):wpL (wp C0 d none gq) Q t [] g:=by
 obtain⟨rws,w1,q,n,o⟩:=hfb.all;have w1:∀h',af h' 1 fb=some rws:=w1;have lfb:=hfb.len;have hlt:L.length<rows.length:=(Qt.1 z1).1;obtain⟨FR,c⟩:∃FR,FR=SC.feet [0,1,0,0,8,0,56,120,248,0,1016,2040,4092,8188,16383,32767,65535] [oF 50 2 7,oL 51 50,oM 52 9,oF 53 1 3,oL 54 53,oM 55 6,TN 56 3 54 55,oF 57 2 56,oL 58 57,oM 59 8,oX 60 58 59,oL 61 60,T5 62 1 8 52 61,Uc 63 62,T5 64 1 24 51 63,oF 65 2 7,TJ 1 65 64]:=⟨_,rfl⟩;simp only[gq];rw[<-c];refine be x.rows.length (by omega) (λj t df g=>df=[]/\St t (LNB L.length p W)/\∃V E,NB K p L ⟨x.card,x.parents,x.rows.take j⟩ g brow gr b W V E)
  ⟨rfl,ht,V,E,by simpa using hN⟩ h8 (by decide) (by rintro j t df g v s (rfl|rfl|rfl)<;>simp[St,LNB,sx]) ?_ ?_ ?_
 ·rintro j t df g l ⟨rfl,⟨h2,h,h4,h5,a,h7,-⟩,V,E,hN⟩ h8;simp only[sz,simprocAttr,h,a,h8,hN.bb.2.1,r1,hlt,z1,hry,lfb];exact⟨by simp[St,LNB,sx,h2,h,h4,h5,a,h7],V,E,hN⟩
 ·clear ht h8 hN;rintro j t df g l ⟨rfl,⟨h2,h,h4,h5,a,h7,-⟩,V,E,hN⟩ h8;obtain⟨y,m,f,hm⟩:=ae l;obtain⟨row,q1,q2⟩:=n j y m;obtain⟨fy,rfl,e⟩:=gm.1 q2;simp only[sz,simprocAttr];rw[c];refine NE (i:=j) (y:=y) (R:=x.rows.take j) hK r1 z1 hry w1 (o (by omega)) q1 e (hll y hm) (by simp<;>omega) (by omega) (by simp[St,LNB,sx,h2,h,h4,h5,a,h7]) (by simp[sx,h8]) (by simp[sx]) hN ?_;clear h2 h h4 h5 a h7 h8 hN;intro t g V E ht h8 hN;rw[<-f]at hN;exact⟨⟨rfl,ht,V,E,hN⟩,h8⟩
 ·rintro t df g ⟨rfl,ht,V,E,hN⟩;rw[Q4]at hN;exact fin t g V E ht hN
theorem O7{k:Ky}(h:LS (L++[x]) k):LX L x k:=by
 rcases h with h|⟨i,q,y,h,hi,hq⟩
 ·exact .inl (.inl h)
 ·by_cases e:i<L.length
  ·rw[QE e]at hi;exact .inl (.inr ⟨i,q,y,h,hi,hq⟩)
  ·have a:=(Qt.1 hi).1;simp at a;have e:i=L.length:=by omega
   subst e;rw[RC]at hi;injection hi with hi;subst hi;exact .inr (.inr ⟨q,h,hq⟩)
theorem Ot[XOc]{m:Net}{b:AV}(hK:K<=1000000)(hS:SlR NoP k .nil m.nodes b)(hl:m.nodes.length<=K)
  (hb:∀x∈m.nodes,x.parents.length<=K/\x.rows.length<=K/\∀r∈x.rows,r.length<=K)
  (ht:St t [(2,Ul 0),(3,Ul 1),(4,Ul 2)]) (h5:tat t 5=V (0,0)) (h6:tat t 6=Uk 0) (hH:Hp g 3 (LS []) V E) (hB:BBn g brow m.grain b) (hD:BLs K V E [])
  (fin:∀t g V E,St t [(2,Ul 0),(3,Ul 1),(4,Ul 2)]->tat t 5=V (0,0)->Hp g 3 (LS m.nodes) V E->BBn g brow m.grain b->BLs K V E m.nodes->Q (.exit 0) t [] g):wpL (wp C0 d none gt) Q t [] g:=by
 obtain⟨rows,F,r2,r3,r4⟩:=hS.all;have F:∀h',af h' 3 b=some rows:=F;have lS:=hS.len;obtain⟨FR,A⟩:∃FR,FR=SC.feet [0,1,0,4,0,28,60,124,255,511,1023] [oF 29 1 7,oL 30 29,oF 31 1 3,oL 32 31,oM 33 6,TN 34 3 32 33,oF 35 1 34,oL 36 35,T5 37 1 8 30 36,oF 38 1 7,TJ 1 38 37]:=⟨_,rfl⟩;simp only[gt,lK];rw[<-A];refine be m.nodes.length (by omega) (λj t df g=>df=[]/\St t [(2,Ul 0),(3,Ul 1),(4,Ul 2)]/\∃V E,tat t 5=V (0,0)/\Hp g 3 (LS (m.nodes.take j)) V E/\BBn g brow m.grain b/\BLs K V E (m.nodes.take j))
  ⟨rfl,ht,V,E,h5,by simpa using hH,hB,by simpa using hD⟩ h6 (by decide) (by rintro j t df g v s (rfl|rfl|rfl)<;>simp[St,sx]) ?_ ?_ ?_
 ·rintro j t df g S ⟨rfl,⟨h2,f,h4,-⟩,V,E,h5,hH,hB,hD⟩ h6;simp only[sz,simprocAttr,h2,f,h4,h5,h6,hB.2.1,lS,St];exact⟨V,E,rfl,hH,hB,hD⟩
 ·clear ht h5 h6 hH hB hD;rintro j t df g S ⟨rfl,⟨h2,f,h4,-⟩,V,E,h5,hH,hB,hD⟩ h6;obtain⟨x,hx,w,hm⟩:=ae S;obtain⟨row,q1,q2⟩:=r3 j x hx;obtain⟨fa,fb,rfl,J,M⟩:=bV.1 q2;have hlt:j<rows.length:=by omega
  have u:=r4 (by omega);obtain⟨l1,l2,l3⟩:=hb x hm;have Y:=hH.nx;obtain⟨p,hp⟩:∃p,p=g.nx:=⟨_,rfl⟩;obtain⟨L,R⟩:∃L,L=m.nodes.take j:=⟨_,rfl⟩;have n:L.length=j:=by rw[R];simp;omega
  rw[<-R]at hH hD w;obtain⟨g1,l⟩:∃g1,g1=(g.new (TD 3 [[Uk 0,.nils,.nils]])).put g.nx (TD 3 [[Uk x.card,.nils,.nils]]):=⟨_,rfl⟩;have n1:g.nx+1=g1.nx:=by rw[l];simp
  have f1:∀i,i<g.nx->g1.h.get i=g.h.get i:=λi hi=>by rw[l,G.put_h,aE _ _ _ (by omega),G.new_h,aE _ _ _ (by omega)]
  have B:=hH.add (k:=(0,1)) (L':=λk=>LS L k\/k=(0,1)) (g':=g1) (v':=Ul g.nx) (e':=.bx [Uk x.card,.nils,.nils]) LS.nb ⟨g.nx,by omega,by omega,rfl,by rw[l];simp[aV]⟩ (by omega) (λi _ hi=>f1 i hi) (λi hi=>by injection hi with hi;omega) (λk hk=>hk);have C:=B.add (k:=(L.length+1,0)) (L':=λk=>(LS L k\/k=(0,1))\/k=(L.length+1,0)) (v':=.nils) (e':=.sl 1 []) (by rintro (h|h);exact absurd h.lt (by omega);simp at h) (.inl ⟨rfl,rfl⟩) (Qv _) (λ_ _ _=>rfl) (λi hi=>by cases hi) (λk hk=>hk);have D:=C.add (k:=(L.length+1,1)) (L':=LX L ⟨x.card,[],[]⟩) (v':=.nils) (e':=.sl 1 []) (by rintro ((h|h)|h);exact absurd h.lt (by omega);simp at h;simp at h) (.inl ⟨rfl,rfl⟩) (Qv _) (λ_ _ _=>rfl) (λi hi=>by cases hi) (λk hk=>by
   rcases hk with h|h|⟨q,h,hq⟩
   ·exact .inl (.inl (.inl h))
   ·exact .inl (.inl (.inr h))
   ·have hq:q<2:=hq;have:q=0\/q=1:=by omega
    rcases this with e|e<;>subst e
    ·exact .inl (.inr h)
    ·exact .inr h)
  have a:NB K p L ⟨x.card,[],[]⟩ g1 brow m.grain b (V (0,0)) (ups (ups (ups V (0,1) (Ul g.nx)) (L.length+1,0) .nils) (L.length+1,1) .nils) (ups (ups (ups E (0,1) (.bx [Uk x.card,.nils,.nils])) (L.length+1,0) (.sl 1 [])) (L.length+1,1) (.sl 1 [])):=by
   refine⟨D,hB.fr λi hi=>f1 i (by omega),by simp[ac,an,hp],by simp[ac,an,jZ],⟨by simp[ac,an],⟨[],by simp[an],rfl,λr y hr=>by simp at hr⟩,λr y hr=>by simp at hr,by show 0<=K;omega,by show 0<=K;omega,λy c=>by simp at c⟩,hD.congr (λi q hi=>?_) (λi q hi=>?_) (by simp[ac]),by simp[ac]⟩
   ·rw[ac _ _ (by simp<;>omega),ac _ _ (by simp<;>omega),ac _ _ (by simp<;>omega)]
   ·rw[ac _ _ (by simp<;>omega),ac _ _ (by simp<;>omega),ac _ _ (by simp<;>omega)]
  clear B C D;have W:rows[L.length]?=some [Uk x.card,fa,fb]:=by rw[n];exact q1
  refine jo (P:=λt df g'=>df=[]/\g'=g1/\St t (LNB L.length p (V (0,0)))) ?_ ?_
  ·simp only[sz,simprocAttr,f,h6,hB.2.1,F,hlt,q1,u];refine⟨by rw[l],?_⟩;simp[St,LNB,sx,h2,f,h4,h5,h6,hp,n]
  rintro t df g2 ⟨rfl,rfl,ht⟩;rw[dW,A];refine NC hK F W u J l1 ht a ?_;clear a ht;rintro t g V1 E1 ⟨h2,f,h4,h5,h6,h7,-⟩ a;rw[uX];simp only[sz,simprocAttr];refine Or (x:=x) hK F W u M l2 l3 (by simp[St,LNB,sx,h2,f,h4,h5,h6,h7]) (by simp[sx]) a ?_;clear a h2 f h4 h5 h6 h7;rintro t g V1 E1 ⟨h2,f,h4,h5,h6,h7,-⟩ a;obtain⟨N,Z,h1⟩:=a.box;obtain⟨rw0,e1,H,X⟩:=a.bl.ns;simp only[sz,simprocAttr,lJ,h5,h7,N];rw[<-a.vw];have U:=a.hp.nx;refine (a.hp.step (g':=g.new (TD 3 [[Uk x.card,V1 (L.length+1,0),V1 (L.length+1,1)]])) (by simp) (λi _ hi=>by rw[G.new_h,aE _ _ _ (by omega)])).app (k:=(0,0)) (.inl LS.z) e1
   (new:=[[Uk x.card,V1 (L.length+1,0),V1 (L.length+1,1)]]) (by simp[sx,sy]) (by simp[aQ];omega) λv3 g3 hH4 n3 fr3 _ lg3 vc3 vt3=>?_
  simp only[sx,sy]at n3 fr3;simp only[sz,simprocAttr,h2,f,h4,h6,St];rw[n];refine⟨⟨ups V1 (0,0) v3,ups E1 (0,0) (.sl 3 (rw0++[[Uk x.card,V1 (L.length+1,0),V1 (L.length+1,1)]])),(an _ _ _).symm,?_,a.bb.fr (λi hi=>by rw[fr3 i hi,Qw (by omega)]),?_⟩,rfl⟩
  ·rw[w];exact hH4.sub λk hk=>O7 hk
  ·rw[w];have I:=a.bl.congr (V':=ups V1 (0,0) v3) (E':=ups E1 (0,0) (.sl 3 rw0)) (λi q hi=>ac _ _ (by simp<;>omega)) (λi q hi=>ac _ _ (by simp<;>omega)) (by rw[an,e1]);have O:=a.nd.congr (V':=ups V1 (0,0) v3) (E':=ups E1 (0,0) (.sl 3 (rw0++[[Uk x.card,V1 (L.length+1,0),V1 (L.length+1,1)]]))) (λq=>ac _ _ (by simp<;>omega)) (λq=>ac _ _ (by simp<;>omega));refine⟨⟨_,an _ _ _,by simp[H],λi y c=>?_⟩,λi y c=>?_⟩
   ·by_cases e:i<L.length
    ·rw[QE e]at c;rw[QE (by omega),X i y c,jZ,jZ,ac _ _ (by simp<;>omega),ac _ _ (by simp<;>omega)]
    ·have o:=(Qt.1 c).1;simp at o;have e:i=L.length:=by omega
     subst e;rw[RC]at c;injection c with c;subst c;rw[<-H,RC,H,jZ,ac _ _ (by simp<;>omega),ac _ _ (by simp<;>omega)]
   ·by_cases e:i<L.length
    ·rw[QE e]at c;exact (I.nd i y c).congr (λq=>rfl) (λq=>by rw[ac _ _ (by simp<;>omega),ac _ _ (by simp<;>omega)])
    ·have o:=(Qt.1 c).1;simp at o;have e:i=L.length:=by omega
     subst e;rw[RC]at c;injection c with c;subst c;exact O
 ·rintro t df g ⟨rfl,ht,V,E,h5,hH,hB,hD⟩;rw[Q4]at hH hD;exact fin t g V E ht h5 hH hB hD
theorem bu{sz:Nat}{v:AV}{off:Nat}(h:md v=true):GY (jf sz v i off)=.val (jf sz v i off):=by cases v<;>first|rfl|cases h
theorem SlR.far{α:Type} [Rp α]{h h':H}{l:List α}{v:AV}(r:SlR P k h l v)(hf:∀i,P i->h'.get i=h.get i):SlR P k h' l v:=by obtain⟨w,hw,q⟩:=Rp.mono (P':=P) (h':=h') (show Rp.rp P k h l [v] from ⟨v,rfl,r⟩) (λi hi=>⟨hi,hf i hi⟩) (Qv _);injection hw with hw;subst hw;exact q
theorem SlR.heap{α:Type} [Rp α]{h h':H}{l:List α}{v:AV}(r:SlR P k h l v)(hf:h'=h):SlR P k h' l v:=by subst hf;exact r
theorem Own.refs_lt{g:G}{b sz:Nat}{v:AV}{rows:List (List AV)}(h:Own g b v sz rows):∀i∈am v,b<=i/\i<g.nx:=by
 rcases h with⟨rfl,-⟩|⟨id,ep,lo,h1,h2,rfl,-⟩
 ·intro i hi;simp[am]at hi
 ·intro i hi;simp[am]at hi;omega
theorem Hu{α:Type} [Rp α]{g:G}{b:Nat}{rows:List (List AV)}(hu:Own g b u (Rp.sz α) rows)(hne:rows≠[]){n:Nat}(hn:n<=rows.length) :
  ∃y,xC (Rp.sz α) u none (some (Uk (n:Int))) g=.val y/\(y.cells=[y]/\y.isTup=false)/\∀(P:Nat->Prop) (k:Nat) (l:List α) (h':H),(∀i,vid u=some i->h'.get i=g.h.get i)->SlR P k h' l u->SlR P k h' (l.take n) y:=by
 rcases hu with⟨rfl,rfl⟩|⟨id,ep,lo,h1,h2,rfl,d⟩
 ·exact absurd rfl hne
 ·simp only[xC,nI,d,Q7,RS,au,Rc,aa,Q6,Qv,if_true,aW,SS,SN];simp only[cL];rw[show ap (n.ble rows.length) (some n) none=some n from by rw[aa,QA (by simpa using hn)]];dsimp only;have hb:rows.length.beq 0=false:=by cases rows with|nil=>exact absurd rfl hne|cons a l=>rfl
  rw[hb];refine⟨_,rfl,⟨rfl,rfl⟩,λP k l h' hh h=>?_⟩;have c:=hh id rfl;rw[d]at c;obtain⟨hl,hp,rr,q1,q2⟩:=h;rw[ff,c,wI]at q1;injection q1 with q1;subst q1;refine⟨by rw[Q_];omega,hp,rows.take n,?_,q2.take n⟩;rw[ff,c,dg,QA (by omega),Sz]
structure Oth (K:Nat) (L:List Node) (J:Nat) (V:Ky->AV) (E:Ky->En) (rows:List (List AV)):Prop where
 len:rows.length=L.length
 ns:∀(i:Nat) (y:Node),i≠J->L[i]?=some y->rows[i]?=some (jZ V i y.card)
 nd:∀(i:Nat) (y:Node),i≠J->L[i]?=some y->NdOk K V E i y
theorem O_{K J:Nat}{L:List Node}{V:Ky->AV}{E:Ky->En}{rows:List (List AV)}(h1:rows.length=L.length)(h2:∀(i:Nat) (x:Node),L[i]?=some x->rows[i]?=some (jZ V i x.card))(h:BLs K V E L):Oth K L J V E rows :=
 ⟨h1,λi y _ hy=>h2 i y hy,λi y _ hy=>h.nd i y hy⟩
theorem Oth.v{K J q:Nat}{L:List Node}{V:Ky->AV}{E:Ky->En}{rows:List (List AV)}{v:AV}(h:Oth K L J V E rows):Oth K L J (ups V (J+1,q) v) E rows :=
 ⟨h.len,λi y hi hy=>by rw[h.ns i y hi hy,jZ,jZ,ac _ _ (by simp<;>omega),ac _ _ (by simp<;>omega)],λi y hi hy=>(h.nd i y hi hy).congr (λs=>ac _ _ (by simp<;>omega)) λ_=>rfl⟩
theorem Oth.e{K J q:Nat}{L:List Node}{V:Ky->AV}{E:Ky->En}{rows:List (List AV)}{v:En}(h:Oth K L J V E rows):Oth K L J V (ups E (J+1,q) v) rows :=
 ⟨h.len,h.ns,λi y hi hy=>(h.nd i y hi hy).congr (λ_=>rfl) λs=>ac _ _ (by simp<;>omega)⟩
theorem Oth.z{K J:Nat}{L:List Node}{V:Ky->AV}{E:Ky->En}{rows:List (List AV)}{v:En}(h:Oth K L J V E rows):Oth K L J V (ups E (0,0) v) rows :=
 ⟨h.len,h.ns,λi y hi hy=>(h.nd i y hi hy).congr (λ_=>rfl) λs=>ac _ _ (by simp<;>omega)⟩
theorem tU{K J:Nat}{L:List Node}{V:Ky->AV}{E:Ky->En}{rows:List (List AV)}{row':List AV}{x':Node}{g:G}{M:Ky->Prop}(hH:Hp g 3 M V E)(hM:∀k,LS L k->M k)(hO:Oth K L J V E rows)(e0:E (0,0)=.sl 3 (rows.set J row'))
  (hw:V (0,0)=W) (hr:Rp.rp P3 0 g.h x' row') (hK:K<=1000001) (hl:L.length<=1000001):∃nds:List Node,SlR P3 0 g.h nds W:=by
 have ho:=hH.own (hM _ LS.z) e0;rw[hw]at ho;obtain⟨nds,-,h⟩:=DX ho (by simp[hO.len];omega) λi row hi=>by
  rw[Ru]at hi
  by_cases e:J=i
  ·rw[QA e]at hi
   split at hi
   ·injection hi with hi;subst hi;exact⟨x',hr⟩
   ·cases hi
  ·rw[Qw e]at hi;have a:=(Qt.1 hi).1;obtain⟨y,b⟩:∃y,L[i]?=some y:=⟨_,Qu (by rw[<-hO.len];exact a)⟩;rw[hO.ns i y (RJ e) b]at hi;injection hi with hi;subst hi;exact⟨y,(hO.nd i y (RJ e) b).rd hH (λq hq=>hM _ (LS.s b hq)) (by omega)⟩
 exact⟨nds,h⟩
theorem BLs.sl{K:Nat}{L:List Node}{V:Ky->AV}{E:Ky->En}{g:G}(h:BLs K V E L)(hH:Hp g 3 (LS L) V E)(hK:K<=1000001)(hl:L.length<=1000001):SlR P3 0 g.h L (V (0,0)):=by obtain⟨rows,h1,h2,k⟩:=h.ns;have ho:=hH.own LS.z h1;refine Own.sl (α:=Node) ho (by omega) (uo h2.symm λi y row hy hr=>?_) λi hi=>(ho.lt hi).1;rw[k i y hy]at hr;injection hr with hr;subst hr;exact (h.nd i y hy).rd hH (λq hq=>LS.s hy hq) (by omega)
structure BS (K J:Nat) (L:List Node) (x:Node) (bx:k_) (gr Rw:Int) (t:T) (g:G) (V:Ky->AV) (E:Ky->En):Prop where
 st:St t [(2,Ul 0),(3,Ul 1),(4,Ul 2),(10,jf 3 (V (0,0)) J 0),(11,Uk Rw)]
 hp:Hp g 3 (LS L) V E
 f0:g.h.get 0=TD 4 [[u8v bx.1,u8v bx.2.1,u8v bx.2.2.1,Uk bx.2.2.2]]
 f1:g.h.get 1=TD 2 [[Uk gr,V (0,0)]]
 f2:g.h.get 2=TD 2 [[Uk 0,.nils]]
 bl:BLs K V E L
 hx:L[J]?=some x
 hR:(Rw = -1/\x.rows.length=0)\/∃r:Nat,Rw=(r:Int)/\r<x.rows.length
 hK:K<=1000000
 hl:L.length<=K
def ui(Q:QT):Prop:=∀t g gr nv nds,tat t 3=Ul 1->tat t 4=Ul 2->g.h.get 1=TD 2 [[Uk gr,nv]]->g.h.get 2=TD 2 [[Uk 0,.nils]]->SlR (α:=Node) P3 0 g.h nds nv->Q .norm t [] g
structure BT (K J:Nat) (L:List Node) (x:Node) (g:G) (V:Ky->AV) (E:Ky->En) (rows:List (List AV)):Prop where
 own:Own g 3 (V (0,0)) 3 rows
 e0:E (0,0)=.sl 3 rows
 ry:md (V (0,0))=true
 hlt:J<rows.length
 row:rows[J]?=some [Uk x.card,V (J+1,0),V (J+1,1)]
 oth:Oth K L J V E rows
 nd:NdOk K V E J x
theorem BS.bt{K J:Nat}{L:List Node}{x:Node}{bx:k_}{gr Rw:Int}{t:T}{g:G}{V:Ky->AV}{E:Ky->En}(h:BS K J L x bx gr Rw t g V E):∃rows,BT K J L x g V E rows:=by obtain⟨rows,h1,h2,k⟩:=h.bl.ns;have a:=(Qt.1 h.hx).1;have ho:=h.hp.own LS.z h1;exact⟨rows,ho,h1,fe ho (by omega),by omega,k J x h.hx,O_ h2 k h.bl,h.bl.nd J x h.hx⟩
theorem BS.sl{K J:Nat}{L:List Node}{x:Node}{bx:k_}{gr Rw:Int}{t:T}{g:G}{V:Ky->AV}{E:Ky->En}(h:BS K J L x bx gr Rw t g V E):SlR P3 0 g.h L (V (0,0)):=h.bl.sl h.hp (by have:=h.hK;omega) (by have:=h.hK;have:=h.hl;omega)
theorem N3(h:P3 i):¬i=1/\¬i=2:=by have:3<=i:=h;omega
section
variable {d K J:Nat}{L:List Node}{x:Node}{bx:k_}{gr Rw:Int}{t:T}{g:G}{V:Ky->AV}{E:Ky->En}{Q:QT}
theorem bc0[XOc](hS:BS K J L x bx gr Rw t g V E)(fin:ui Q) :
  wp C0 d none (.ops [oF 112 3 2,oL 113 112,oF 114 0 3,TJ 1 114 113]) Q t [] g:=by
 obtain⟨h2,h,h4,k,a,-⟩:=hS.st;simp only[sz,simprocAttr,h2,h,hS.f0,hS.f1];exact fin _ _ bx.2.2.2 _ _ (by simp[sx,h]) (by simp[sx,h4]) (by simp[O6]) (by simp[O6,hS.f2]) (hS.sl.far λi hi=>by simp[O6,N3 hi])
theorem bc1[XOc](hS:BS K J L x bx gr Rw t g V E)(fin:ui Q) :
  wp C0 d none (.ops [oM 117 10,oF 118 3 2,oL 119 118,TK 120 117,oF 121 0 120,TJ 1 121 119]) Q t [] g:=by
 obtain⟨h2,e,h4,a,c,-⟩:=hS.st;obtain⟨rows,h⟩:=hS.bt;have hK:=hS.hK;have hl:=hS.hl;simp only[sz,simprocAttr,h2,a,hS.f0,bu h.ry,bA h.ry];refine hS.hp.put LS.z (row':=[Uk bx.2.2.2,V (J+1,0),V (J+1,1)]) h.e0 h.row rfl rfl rfl λgb hHb nb frb _=>?_;simp only[sx];have b:NdOk K V (ups E (0,0) (.sl 3 (rows.set J [Uk bx.2.2.2,V (J+1,0),V (J+1,1)]))) J ⟨bx.2.2.2,x.parents,x.rows⟩:=by have:=h.nd.congr (V':=V) (E':=ups E (0,0) (.sl 3 (rows.set J [Uk bx.2.2.2,V (J+1,0),V (J+1,1)]))) (λ_=>rfl) (λq=>ac _ _ (by simp<;>omega));exact⟨this.ps,this.rs,this.rr,this.len⟩
 obtain⟨nds,f⟩:=tU hHb (λk hk=>hk) h.oth.z (an _ _ _) rfl (b.rd hHb (λq hq=>LS.s hS.hx hq) (by omega)) (by omega) (by omega);exact fin _ _ gr _ nds (by simp[sx,e]) (by simp[sx,h4]) (by rw[frb 1 (by omega),hS.f1]) (by rw[frb 2 (by omega),hS.f2]) f
theorem bc2[XOc](hS:BS K J L x bx gr Rw t g V E)(fin:ui Q) :
  wp C0 d none (.feet [0,0,2,6,14,0,32,96,254,511,1023,2047] [oM 124 10,oM 125 10,TK 126 125,oF 127 1 126,oL 128 127,oF 129 3 2,oL 130 129,Ub 131 130,T5 132 1 8 128 131,TK 133 124,oF 134 1 133,TJ 1 134 132]) Q t [] g:=by
 obtain⟨h2,B,h4,o,A,-⟩:=hS.st;obtain⟨rows,a⟩:=hS.bt;have hK:=hS.hK;have hl:=hS.hl;have D:=hS.hp.nx;have w:=a.nd.ps;have j:=a.nd.len;simp only[sz,simprocAttr,sf,h2,o,hS.f0,bu a.ry,bA a.ry,a.own.rows,a.hlt,a.row];refine (hS.hp.step (g':=_) (by simp<;>omega) (λi hi hi2=>?_)).app2 (k:=(J+1,0)) (LS.s hS.hx (by omega)) w (new:=[[Uk bx.2.2.2]]) (by simp[sx,sy]) (by simp[aQ];omega) λv1 ga hHa na fra foa lga vca vta=>?_
 ·simp[O6];omega
 simp only[sx,sy]at na fra foa lga;have f:ups V (J+1,0) v1 (0,0)=V (0,0):=ac _ _ (by simp<;>omega);simp only[sz,simprocAttr,sf,bu a.ry,bA a.ry];refine (hHa.same (g':=_) (by simp) (by simp<;>omega)).putv (k:=(0,0)) LS.z f (row':=[Uk x.card,v1,V (J+1,1)]) (by rw[ac _ _ (by simp<;>omega)];exact a.e0) a.row (by rw[vca];rfl) vta (by rw[vca];rfl) λgb hHb nb frb _=>?_;simp only[sy]at nb frb ⊢;refine⟨?_,?_⟩
 ·simp only[Q2,QZ,QY,QI];refine aJ (false::(TX (TW (true::(true::(TX (true::[]))))))) [(0,7),(1,7),(2,7),(3,7),(4,7),(0,8)] (by simp[All2,ak,aw]) (by decide) ?_;rintro p hp x y hx b;simp only[Q8,QG,SY]at hp;have ro1:=a.own.refs_lt;rcases hp with rfl|rfl|rfl|rfl|rfl|rfl<;>(simp at hx b;subst hx;subst b;refine dk rfl rfl rfl rfl ?_ ?_ ?_<;>simp[ak,aw,jG a.ry]<;>first|omega| (intro i' c;have:=ro1 i' c;omega)| (intro i' c;rcases lga i' c with h|h<;>first|omega|simp at h)|skip)
 have u:NdOk (K+1) (ups V (J+1,0) v1) (ups (ups E (J+1,0) (.sl 1 (x.parents.map ci++[[Uk bx.2.2.2]]))) (0,0) (.sl 3 (rows.set J [Uk x.card,v1,V (J+1,1)]))) J ⟨x.card,x.parents++[bx.2.2.2],x.rows⟩:=by
  obtain⟨rws,q1,q2,q3⟩:=a.nd.rs;exact⟨by rw[ac _ _ (by simp<;>omega),an];simp[ci],⟨rws,by rw[ac _ _ (by simp<;>omega),ac _ _ (by simp<;>omega)];exact q1,q2,λr y b=>by rw[ac _ _ (by simp<;>omega)];exact q3 r y b⟩,
   λr y b=>by rw[ac _ _ (by simp<;>omega),ac _ _ (by simp<;>omega)];exact a.nd.rr r y b,by simp;omega,by show x.rows.length<=K+1;omega,λy b=>by have:=j.2.2 y b;omega⟩
 have l:=u.rd hHb (λq hq=>LS.s hS.hx hq) (by omega);rw[jZ,an,ac _ _ (by simp<;>omega)]at l;obtain⟨nds,C⟩:=tU hHb (λk hk=>hk) a.oth.v.e.z (an _ _ _) f l (by omega) (by omega);have m:gb.h.get 1=TD 2 [[Uk gr,V (0,0)]]:=by rw[frb 1 (by omega)];(try simp);rw[fra 1 (by omega),Qw (by omega),hS.f1]
 have n:gb.h.get 2=TD 2 [[Uk 0,.nils]]:=by rw[frb 2 (by omega)];(try simp);rw[fra 2 (by omega),Qw (by omega),hS.f2]
 exact fin _ _ gr _ nds (by simp[sx,B]) (by simp[sx,h4]) (by simpa using m) (by simpa using n) (C.heap (by simp))
theorem bc3[XOc](hS:BS K J L x bx gr Rw t g V E)(fin:ui Q) :
  wp C0 d none (.ops [oM 137 10,TK 138 137,oF 139 1 138,oz (.store 1 (.t 139) (.k (.nils)))]) Q t [] g:=by
 obtain⟨h2,i,h4,b,f,-⟩:=hS.st;obtain⟨rows,a⟩:=hS.bt;have hK:=hS.hK;have hl:=hS.hl;simp only[sz,simprocAttr,b,bu a.ry,bA a.ry];refine hS.hp.put LS.z (row':=[Uk x.card,.nils,V (J+1,1)]) a.e0 a.row rfl rfl rfl λgb hHb nb frb _=>?_;simp only[sx];have c:=a.nd.congr (V':=V) (E':=ups E (0,0) (.sl 3 (rows.set J [Uk x.card,.nils,V (J+1,1)]))) (λ_=>rfl) (λq=>ac _ _ (by simp<;>omega));have e:Rp.rp P3 0 gb.h (⟨x.card,[],x.rows⟩:Node) [Uk x.card,.nils,V (J+1,1)]:=bV.2 ⟨_,_,rfl,⟨by show 0<9223372036854775808;decide,rfl⟩,c.rows hHb (λq hq=>LS.s hS.hx hq) (by omega)⟩;obtain⟨nds,j⟩:=tU hHb (λk hk=>hk) a.oth.z (an _ _ _) rfl e (by omega) (by omega);exact fin _ _ gr _ nds (by simp[sx,i]) (by simp[sx,h4]) (by rw[frb 1 (by omega),hS.f1]) (by rw[frb 2 (by omega),hS.f2]) j
end
theorem vv{α:Type}{l:List α}{a:α}(h:l[i]?=some a):l.set i a=l:=by
 refine List.ext_getElem? λj=>?_;rw[Ru]
 by_cases e:i=j
 ·subst e;rw[QA rfl,QA (Qt.1 h).1,h]
 ·rw[Qw e]
theorem BS.fin0{K J:Nat}{L:List Node}{x:Node}{bx:k_}{gr Rw:Int}{t t':T}{g:G}{V:Ky->AV}{E:Ky->En}{Q:QT}(hS:BS K J L x bx gr Rw t g V E)(fin:ui Q)(h3:tat t' 3=Ul 1)(h4:tat t' 4=Ul 2):Q .norm t' [] g :=
 fin _ _ gr _ L h3 h4 hS.f1 hS.f2 hS.sl
theorem DC{g:G}{v:AV}{rows:List (List AV)}(h:af g.h 1 v=some rows)(hl:0<rows.length):∀g':G,g'.h=g.h->B9 1 v (Uk 0) g'=.val (jf 1 v 0 0):=λg' e =>
 Dz (by rw[e,h];rfl) (by decide) (by rw[e,h];simpa using hl)
structure BW (x:Node) (J:Nat) (g:G) (V:Ky->AV) (E:Ky->En) (rws:List (List AV)):Prop where
 own:Own g 3 (V (J+1,1)) 1 rws
 e1:E (J+1,1)=.sl 1 rws
 len:rws.length=x.rows.length
 at_:∀(r:Nat) (y:List Int),x.rows[r]?=some y->rws[r]?=some [V (J+1,2+r)]
theorem BS.bw{K J:Nat}{L:List Node}{x:Node}{bx:k_}{gr Rw:Int}{t:T}{g:G}{V:Ky->AV}{E:Ky->En}(hS:BS K J L x bx gr Rw t g V E):∃rws,BW x J g V E rws:=by obtain⟨rws,q1,q2,q3⟩:=(hS.bl.nd J x hS.hx).rs;exact⟨rws,hS.hp.own (LS.s hS.hx (by omega)) q1,q1,q2,q3⟩
theorem Cg{K r:Nat}{J:Nat}{x:Node}{V V':Ky->AV}{E E':Ky->En}{rws:List (List AV)}{y':List Int}(h:NdOk K V E J x)(hq:∀r y,x.rows[r]?=some y->rws[r]?=some [V (J+1,2+r)])(hl:rws.length=x.rows.length)(hr:r<x.rows.length)
  (hp:E' (J+1,0)=E (J+1,0)) (h1:E' (J+1,1)=.sl 1 (rws.set r [V' (J+1,2+r)])) (h2:E' (J+1,2+r)=.sl 1 (y'.map ci)) (hv:∀q,q≠r->V' (J+1,2+q)=V (J+1,2+q)) (he:∀q,q≠r->E' (J+1,2+q)=E (J+1,2+q)) (hy:y'.length<=K):NdOk K V' E' J ⟨x.card,x.parents,x.rows.set r y'⟩:=by
 refine⟨by rw[hp];exact h.ps,⟨_,h1,by simp[hl],λq z hz=>?_⟩,λq z hz=>?_,h.len.1,by simpa using h.len.2.1,λz hz=>?_⟩
 ·have hz:(x.rows.set r y')[q]?=some z:=hz
  by_cases e:r=q
  ·subst e;rw[Rr (by omega)]
  ·rw[SB e]at hz ⊢;rw[hv q (RJ e)];exact hq q z hz
 ·have hz:(x.rows.set r y')[q]?=some z:=hz
  by_cases e:r=q
  ·subst e;rw[Rr (by omega)]at hz;injection hz with hz;subst hz;exact h2
  ·rw[SB e]at hz;rw[he q (RJ e)];exact h.rr q z hz
 ·rcases List.mem_or_eq_of_mem_set hz with h'|rfl
  ·exact h.len.2.2 z h'
  ·exact hy
section
variable {d K J:Nat}{L:List Node}{x:Node}{bx:k_}{gr Rw:Int}{t:T}{g:G}{V:Ky->AV}{E:Ky->En}{Q:QT}
theorem bc4[XOc](hS:BS K J L x bx gr Rw t g V E)(fin:ui Q) :
  wp C0 d none (.feet [0,0,2,6,14,0,32,96,224,510,1023,2047,4095] [oM 142 10,oM 143 10,TK 144 143,oF 145 2 144,oL 146 145,oF 147 3 2,oL 148 147,Ub 149 148,Uc 150 149,T5 151 1 24 146 150,TK 152 142,oF 153 2 152,TJ 1 153 151]) Q t [] g:=by
 obtain⟨h2,w,h4,o,u,-⟩:=hS.st;obtain⟨rows,a⟩:=hS.bt;obtain⟨rws,hW⟩:=hS.bw;have hK:=hS.hK;have hl:=hS.hl;have B:=hS.hp.nx;have f:=a.nd.len;simp only[sz,simprocAttr,sf,h2,o,hS.f0,bu a.ry,bA a.ry,a.own.rows,a.hlt,a.row];refine (hS.hp.step (g':=_) (by simp<;>omega) (λi hi hi2=>?_)).app2 (k:=(J+1,1)) (LS.s hS.hx (by omega)) hW.e1 (new:=[[.hsl (g.nx+1+1+1+1+1+1+1) 0 0 1 none]]) (by simp[sx,sy]) (by have:=hW.len;simp[aQ];omega) λv1 ga hHa na fra foa lga vca vta=>?_
 ·simp[O6];rw[Qw (by omega),Qw (by omega)]
 simp only[sx,sy]at na fra foa lga;have b:ups V (J+1,1) v1 (0,0)=V (0,0):=ac _ _ (by simp<;>omega);have kn:ga.h.get (g.nx+1+1+1+1+1+1+1)=TD 1 [[Uk bx.2.2.2]]:=by rw[foa (g.nx+1+1+1+1+1+1+1) (by omega) (λe=>by rw[bU hW.own]at e;have:=(hW.own.lt e).2;omega)];simp[O6]
 simp only[sz,simprocAttr,sf,bu a.ry,bA a.ry];refine (hHa.same (g':=_) (by simp) (by simp<;>omega)).putv (k:=(0,0)) LS.z b (row':=[Uk x.card,V (J+1,0),v1]) (by rw[ac _ _ (by simp<;>omega)];exact a.e0) a.row (by rw[vca];rfl) vta (by rw[vca];rfl) λgb hHb nb frb fob=>?_;simp only[sy]at nb frb fob ⊢;refine⟨?_,?_⟩
 ·simp only[Q2,QZ,QY,QI];refine aJ (false::(TX (TW (true::(true::(true::(TX (true::[])))))))) [(0,7),(1,7),(2,7),(3,7),(4,7),(0,8),(1,8),(2,8),(3,8),(4,8),(0,9)] (by simp[All2,ak,aw]) (by decide) ?_;rintro p hp x y hx c;simp only[Q8,QG,SY]at hp;have ro1:=a.own.refs_lt;rcases hp with rfl|rfl|rfl|rfl|rfl|rfl|rfl|rfl|rfl|rfl|rfl<;>(simp at hx c;subst hx;subst c;refine dk rfl rfl rfl rfl ?_ ?_ ?_<;>simp[ak,aw,jG a.ry]<;>first|omega| (intro i' q;have:=ro1 i' q;omega)|skip)
 have knb:gb.h.get (g.nx+1+1+1+1+1+1+1)=TD 1 [[Uk bx.2.2.2]]:=by rw[fob (g.nx+1+1+1+1+1+1+1) (λe=>by rw[b,bU a.own]at e;have:=(a.own.lt e).2;omega)];simpa using kn
 have j:SlR P3 0 gb.h x.parents (V (J+1,0)):=by have:=hHb.own (k:=(J+1,0)) (LS.s hS.hx (by omega)) (by rw[ac _ _ (by simp<;>omega),ac _ _ (by simp<;>omega)];exact a.nd.ps);rw[ac _ _ (by simp<;>omega)]at this;exact sM this (by omega) λ_ h=>h
 have l:SlR P3 0 gb.h (x.rows++[[bx.2.2.2]]) v1:=by
  have ho:=hHb.own (k:=(J+1,1)) (LS.s hS.hx (by omega)) (by rw[ac _ _ (by simp<;>omega),an]);rw[an]at ho;refine Own.sl (α:=List Int) ho (by simp<;>omega) (All2.append (uo hW.len.symm λr y row c hr=>?_) ⟨?_,trivial⟩) λi hi=>(ho.lt hi).1
  ·rw[hW.at_ r y c]at hr;injection hr with hr;subst hr;have C:=(Qt.1 c).1;have:=hHb.own (k:=(J+1,2+r)) (LS.s hS.hx (by omega)) (by rw[ac _ _ (by simp<;>omega),ac _ _ (by simp<;>omega)];exact a.nd.rr r y c);rw[ac _ _ (by simp<;>omega)]at this;exact gm.2 ⟨_,rfl,sM this (by have:=f.2.2 y (Qz c);omega) λ_ h=>h⟩
  ·refine gm.2 ⟨_,rfl,by show 1<9223372036854775808;decide,(by show 3<=(g.nx+1+1+1+1+1+1+1);omega),[[Uk bx.2.2.2]],?_,aI.2 rfl,trivial⟩;show af gb.h 1 _=_;simp only[af,knb];rfl
 obtain⟨nds,A⟩:=tU (x':=⟨x.card,x.parents,x.rows++[[bx.2.2.2]]⟩) hHb (λk hk=>hk) a.oth.v.e.z (an _ _ _) b (bV.2 ⟨_,_,rfl,j,l⟩) (by omega) (by omega);have m:gb.h.get 1=TD 2 [[Uk gr,V (0,0)]]:=by rw[frb 1 (by omega)];(try simp);rw[fra 1 (by omega),Qw (by omega),Qw (by omega),hS.f1]
 have n:gb.h.get 2=TD 2 [[Uk 0,.nils]]:=by rw[frb 2 (by omega)];(try simp);rw[fra 2 (by omega),Qw (by omega),Qw (by omega),hS.f2]
 exact fin _ _ gr _ nds (by simp[sx,w]) (by simp[sx,h4]) (by simpa using m) (by simpa using n) (A.heap (by simp))
theorem bc5[XOc](hS:BS K J L x bx gr Rw t g V E)(fin:ui Q) :
  wp C0 d none (sQ [oM 156 11,TF 157 .geq 156 0] (Ui 157 (.ops [oM 158 10,oM 159 10,TK 160 159,oF 161 2 160,oL 162 161,oM 163 11,o 164 (.slc 1 (.t 162) [] [.t 163]),TK 165 158,oF 166 2 165,TJ 1 166 164]) (.skip))) Q t [] g:=by
 obtain⟨h2,l,h4,f,b,-⟩:=hS.st;obtain⟨rows,a⟩:=hS.bt;obtain⟨rws,hW⟩:=hS.bw;have hK:=hS.hK;have hl:=hS.hl;rcases hS.hR with⟨rfl,h0⟩|⟨r,rfl,hr⟩
 ·simp only[sx,SO.run,↓reduceIte,b];exact⟨λh=>by simp at h,λ_=>hS.fin0 fin (by simp[sx,l]) (by simp[sx,h4])⟩
 ·simp only[sx,SO.run,↓reduceIte,b];refine⟨λ_=>?_,λh=>by simp at h⟩;obtain⟨y,q1,q2,q3⟩:=Hu (α:=List Int) hW.own (n:=r) (by intro h;have:=hW.len;rw[h]at this;simp at this;omega) (by have:=hW.len;omega);have q1:xC 1 (V (J+1,1)) none (some (Uk (r:Int))) g=.val y:=q1;simp only[sx,sy,SO.run,↓reduceIte,Nat.reduceEqDiff,f,b,bu a.ry,bA a.ry,a.own.rows,a.hlt,a.row,q1,Tz,To,SX,QC];refine hS.hp.put LS.z (off:=2) (n:=1) (row':=[Uk x.card,V (J+1,0),y]) a.e0 a.row (by simp[q2.1]) q2.2 (by rw[q2.1];rfl) λgb hHb nb frb fob=>?_;simp only[sx];have c:=a.nd.congr (V':=V) (E':=ups E (0,0) (.sl 3 (rows.set J [Uk x.card,V (J+1,0),y]))) (λ_=>rfl) (λq=>ac _ _ (by simp<;>omega));have j:Rp.rp P3 0 gb.h (⟨x.card,x.parents,x.rows.take r⟩:Node) [Uk x.card,V (J+1,0),y]:=by refine bV.2 ⟨_,_,rfl,c.pars hHb (LS.s hS.hx (by omega)) (by omega),q3 P3 0 _ gb.h (λi hi=>fob i λe=>?_) (c.rows hHb (λq hq=>LS.s hS.hx hq) (by omega))⟩;exact hS.hp.sep (0,0) (J+1,1) LS.z (LS.s hS.hx (by omega)) (by simp) i e (by rw[bU hW.own];exact hi)
  obtain⟨nds,m⟩:=tU hHb (λk hk=>hk) a.oth.z (an _ _ _) rfl j (by omega) (by omega);exact fin _ _ gr _ nds (by simp[sx,l]) (by simp[sx,h4]) (by rw[frb 1 (by omega),hS.f1]) (by rw[frb 2 (by omega),hS.f2]) m
theorem bc6[XOc](hS:BS K J L x bx gr Rw t g V E)(fin:ui Q) :
  wp C0 d none (sQ [oM 169 11,TF 170 .geq 169 0,oM 171 170,TO 172 171 true 10,og 173 171 true (.nilc (.t 172)),TQ 174 171 true 2 173,TP 175 171 true 174,TO 176 171 true 11,Ua 177 171 true 1 175 176,TP 178 171 true 177,TU 179 171 true 178,TT 180 171 true .gtr 179 0,TM 181 171 180] (Ui 181 (.feet [0,1,3,7,0,31,63,0,128,511,1023] [oM 182 10,TK 183 182,oF 184 2 183,oL 185 184,oM 186 11,oX 187 185 186,oL 188 187,oF 189 3 2,oL 190 189,o 191 (.ixs 1 (.t 188) (qI 0)),TJ 1 191 190]) (.skip))) Q t [] g:=by
 obtain⟨h2,u,h4,j,b,-⟩:=hS.st;obtain⟨rows,h⟩:=hS.bt;obtain⟨rws,hW⟩:=hS.bw;have hK:=hS.hK;have hl:=hS.hl;rcases hS.hR with⟨rfl,h0⟩|⟨r,rfl,hr⟩
 ·simp only[sz,simprocAttr,b];exact hS.fin0 fin (by simp[sx,u]) (by simp[sx,h4])
 ·obtain⟨y,p⟩:∃y,x.rows[r]?=some y:=⟨_,Qu hr⟩;have c:=hW.at_ r y p;have l:LS L (J+1,2+r):=LS.s hS.hx (by omega);have f:=hS.hp.own l (h.nd.rr r y p);have A:=h.nd.len.2.2 y (Qz p);have ly:=dG f.rows;rw[QJ]at ly;have m:r<rws.length:=by have:=hW.len;omega
  have B:md (V (J+1,1))=true:=fe hW.own (by omega);simp only[sz,simprocAttr,j,b,show decide ((r:Int) >= 0)=true from by simp,bu h.ry,bA h.ry,h.own.rows,h.hlt,h.row,hW.own.rows,m,c,ly];refine ba (λhb=>?_) (λhb=>?_)
  ·have a:0<y.length:=by simpa using hb
   obtain⟨z,hz⟩:∃z,y[0]?=some z:=⟨_,Qu a⟩;have D:0<(y.map ci).length:=by simpa using a
   have G:(y.map ci)[0]?=some (ci z):=by rw[Qx,hz];rfl
   have u3:=f.rows;have C:md (V (J+1,2+r))=true:=fe f D;simp only[sz,simprocAttr,sf,h2,j,b,hS.f0,bu h.ry,bA h.ry,h.own.rows,h.hlt,h.row,hW.own.rows,m,c,DC u3 D];refine (hS.hp.same (g':=_) (by simp) (by simp<;>omega)).put (k:=(J+1,2+r)) (i:=0) (off:=0) (n:=1) (row:=ci z) (row':=ci bx.2.2.2) l (h.nd.rr r y p) G rfl rfl rfl λgb hHb nb frb fob=>?_;simp only[sy]at nb frb fob ⊢;refine⟨?_,?_⟩
   ·simp only[Q2,QZ,QY,QI];exact aJ (TX (TV (true::[]))) [] (by simp[All2,ak,aw]) (by decide) (by simp)
   have v:=Cg (r:=r) (V':=V) (E':=ups E (J+1,2+r) (.sl 1 ((y.map ci).set 0 (ci bx.2.2.2)))) (y':=y.set 0 bx.2.2.2) h.nd hW.at_ hW.len hr (ac _ _ (by simp<;>omega)) (by rw[ac _ _ (by simp<;>omega),hW.e1,vv c]) (by rw[an,RD]) (λ_ _=>rfl) (λq hq=>ac _ _ (by simp<;>omega)) (by simpa using A);have w:=v.rd hHb (λq hq=>LS.s hS.hx (by simpa using hq)) (by omega);obtain⟨nds,F⟩:=tU (rows:=rows) (J:=J) hHb (λk hk=>hk) h.oth.e (by rw[ac _ _ (by simp<;>omega),h.e0];exact congrArg _ (vv h.row).symm) rfl w (by omega) (by omega);exact fin _ _ gr _ nds (by simp[sx,u]) (by simp[sx,h4]) (by simp only[bumpG_h];rw[frb 1 (by omega)];simpa using hS.f1) (by simp only[bumpG_h];rw[frb 2 (by omega)];simpa using hS.f2) (F.heap (by simp))
  ·simp only[sx];exact hS.fin0 fin (by simp[sx,u]) (by simp[sx,h4])
end
end
end Hx
