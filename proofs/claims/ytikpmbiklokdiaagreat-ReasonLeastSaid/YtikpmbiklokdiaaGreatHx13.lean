/- A part of the proof: what the functions of the chapter compute. -/
import Derived.Shelf.Lays2
import Derived.Test.YtikpmbiklokdiaaGreatRows
import Derived.Shelf.SlSortCmp.Whole1
import Derived.Shelf.SlGeneric
import Derived.Shelf.SlLaysF
import Derived.OpenShut
import Derived.DataReads
import Derived.Test.YtikpmbiklokdiaaGreatHx12
set_option linter.all false
set_option maxRecDepth 20000
set_option maxHeartbeats 8000000
namespace Hx
open Go
noncomputable section
variable {d s k k2:Nat}{g:G}{e:List Int}{n:Net}{P:Nat->Prop}{bn bd v a:Int}{w u:AV}
def S.TC(n:Net)(e:List Int)(v a bn bd:Int):Bool:=decide (S.SH n e v a bn bd=0)&&S.TD n e v a bn bd (S.kn e e.length)
def S.Tx(n:Net)(e:List Int)(v a bn bd:Int):List Nat:=if S.SH n e v a bn bd=0 then S.SU (S.TD n e v a bn bd) (S.kn e e.length) else []
def S.Ty(n:Net)(e:List Int)(v a bn bd:Int):List Nat:=if S.SH n e v a bn bd=0 then S.SU (λs=>!S.TD n e v a bn bd (S.SB (S.kn e e.length) s)) (S.kn e e.length) else []
theorem JC(h:S.SH n e v a bn bd=0):e.length<=8:=by
 rw[S.SH]at h
 split at h
 ·rename_i hf;obtain⟨k,⟨he,-⟩,-⟩:=qd.1 hf;have:=(bw.1 k).l2;have:=(dl.1 he).1;omega
 ·rename_i hf;exact absurd h hf
theorem AX{R:Nat->Bool}{ks:Nat}(h:ks<256):∀y∈S.SU R ks,y<256:=λy hy=>by have:=Ef.1 (WU.1 hy).1;exact xk this h
theorem Je{R:Nat->Bool}{ks:Nat}(h:ks<256):(S.SU R ks).length<=256:=by refine Uy (WC _ _) ?_;rw[(GL h).length_eq];exact ID ks
theorem Ds{h:H}{x y:Int}:snap h d an (.agg [X8 x,X8 y])=some (.agg [X8 x,X8 y]):=rfl
theorem KD[XOc](hd:0<d)(hm:Agg n NoP 0 g.h u)(he:SlR P k g.h e w)(hk:k<=d) :
  ∃r,eL C0 11 d [u,w,X8 v,X8 a,.agg [X8 bn,X8 bd]] g=.val r/\oE (One (S.TC n e v a bn bd)) (One (S.SH n e v a bn bd)) NoP 0 .nil r:=by
 obtain⟨bb,rows,rfl,e1,c,hN,-⟩:=dt d hm;obtain⟨w',f,b⟩:=dy he d;rw[Wv hk]at b;refine xS yU (xs:=[.agg [X8 n.grain,bb],w',X8 v,X8 a,.agg [X8 bn,X8 bd]]) (by simp only[aD,e1,f,cg,Ds]) (by simp[nk]) (bY (m:=1) (aG _) (aG _) (by decide) (by decide)) (by decide) hd ?_;unfold nk;dsimp only;refine bc (by kernel_rfl) ?_;have cw:=(b .nil).cell;simp only[sz,simprocAttr,nI,cw.1,cw.2];generalize hg0:G.new _ _=g0;have f0:g0.h.get 0=Xs 2 [[X8 n.grain,bb]]:=by rw[<-hg0];simp[SD,sx]
 have f1:g0.h.get 1=Xs 1 [[w']]:=by rw[<-hg0];simp[SD,sx]
 have f2:g0.h.get 2=Xs 1 [[X8 v]]:=by rw[<-hg0];simp[SD,sx]
 have j:g0.h.get 3=Xs 1 [[X8 a]]:=by rw[<-hg0];simp[SD,sx]
 have l:g0.h.get 4=Xs 2 [[X8 bn,X8 bd]]:=by rw[<-hg0];simp[SD,sx]
 have fn:g0.nx=5:=by rw[<-hg0];simp[sx]
 clear hg0;unfold qa;rw[bJ];show wpQ C0 (d+1) ([o 12 (.mkf 35 [] [.t 5,.t 6,.t 7,.t 8,.t 9])]++[XN 13 34 12,Xw 14 13 0,Xw 15 13 1,oM 10 14,oM 11 15]) _ _ _ _;refine bZ (by kernel_rfl) ?_;simp only[sz,simprocAttr];refine bS (ys:=[.clo 35 [] [X9 0,X9 1,X9 2,X9 3,X9 4]]) (by kernel_rfl) (by simp[sx]) ?_;refine D1 (err:=S.SH n e v a bn bd) (L:=S.TC n e v a bn bd) (by kernel_rfl) (λh=>by rw[S.TC,Va h,Bool.false_and]) (λg1 h1=>?_) (λg1=>?_)
 ·have fx:∀i,i<5->g1.h.get i=g0.h.get i:=λi hi=>h1.2 i (by omega);refine KC (k:=d) (n:=n) (e:=e) (v:=v) (a:=a) (bn:=bn) (bd:=bd) (bb:=bb) (ev:=w') (by omega) (by omega) (λh=>c h) (b .nil) (by rw[fx 0 (by decide),f0]) (by rw[fx 1 (by decide),f1]) (by rw[fx 2 (by decide),f2]) (by rw[fx 3 (by decide),j]) (by rw[fx 4 (by decide),l]) (by have:=h1.1;omega)
   (λhE g2 h2=>⟨hE,h2,by rw[S.TC,VA hE,Vd]⟩) (λhE g2 h2=>⟨hE,h2,rfl⟩)
 ·refine aW (by kernel_rfl) ?_;simp only[sz,simprocAttr,aU];rw[aO,mL,nE,kT];simp only[sz,simprocAttr];exact⟨λ_=>True,_,_,rfl,gy.2 rfl,ax.2 rfl⟩
theorem Hg[XOc](hS:xu)(hd:0<d)(hm:Agg n NoP 0 g.h u)(he:SlR P k g.h e w)(hk:k<=d) :
  ∃r,eL C0 13 d [u,w,X8 v,X8 a,.agg [X8 bn,X8 bd]] g=.val r/\oE (One (S.Tx n e v a bn bd)) (One (S.SH n e v a bn bd)) NoP 0 .nil r:=by
 obtain⟨bb,rows,rfl,e1,f,hN,-⟩:=dt d hm;obtain⟨w',j,b⟩:=dy he d;rw[Wv hk]at b;refine xS xP (xs:=[.agg [X8 n.grain,bb],w',X8 v,X8 a,.agg [X8 bn,X8 bd]]) (by simp only[aD,e1,j,cg,Ds]) (by simp[lX]) (bY (m:=1) (aG _) (aG _) (by decide) (by decide)) (by decide) hd ?_;unfold lX;dsimp only;refine bc (by kernel_rfl) ?_;have cw:=(b .nil).cell;simp only[sz,simprocAttr,nI,cw.1,cw.2];generalize hg0:G.new _ _=g0;have f0:g0.h.get 0=Xs 2 [[X8 n.grain,bb]]:=by rw[<-hg0];simp[SD,sx]
 have f1:g0.h.get 1=Xs 1 [[w']]:=by rw[<-hg0];simp[SD,sx]
 have f2:g0.h.get 2=Xs 1 [[X8 v]]:=by rw[<-hg0];simp[SD,sx]
 have l:g0.h.get 3=Xs 1 [[X8 a]]:=by rw[<-hg0];simp[SD,sx]
 have p:g0.h.get 4=Xs 2 [[X8 bn,X8 bd]]:=by rw[<-hg0];simp[SD,sx]
 have fn:g0.nx=5:=by rw[<-hg0];simp[sx]
 clear hg0;unfold ol;rw[bJ];show wpQ C0 (d+1) ([o 12 (.mkf 45 [] [.t 5,.t 6,.t 7,.t 8,.t 9])]++[XN 13 44 12,Xw 14 13 0,Xw 15 13 1,oM 10 14,oM 11 15]) _ _ _ _;refine bZ (by kernel_rfl) ?_;simp only[sz,simprocAttr];refine bS (ys:=[.clo 45 [] [X9 0,X9 1,X9 2,X9 3,X9 4]]) (by kernel_rfl) (by simp[sx]) ?_;refine wQ (err:=S.SH n e v a bn bd) (L:=S.Tx n e v a bn bd) (by kernel_rfl) (λh=>Um h) (λg1 h1=>?_) (λu g1 B ho=>?_)
 ·have fx:∀i,i<5->g1.h.get i=g0.h.get i:=λi hi=>h1.2 i (by omega);refine Hf hS (k:=d) (n:=n) (e:=e) (v:=v) (a:=a) (bn:=bn) (bd:=bd) (bb:=bb) (ev:=w') (by omega) (by omega) (λh=>f h) (b .nil) (by rw[fx 0 (by decide),f0]) (by rw[fx 1 (by decide),f1]) (by rw[fx 2 (by decide),f2]) (by rw[fx 3 (by decide),l]) (by rw[fx 4 (by decide),p]) (by have:=h1.1;omega)
   (λc u g2 B h2 hB ho=>⟨c,h2,?_⟩) (λc g2 h2=>⟨c,h2,rfl⟩)
  rw[S.Tx,Un c];rcases ho with ho|⟨id,ep,lo,q1,q2,q3,q⟩
  ·exact .inl ho
  ·exact .inr ⟨id,ep,lo,by omega,q2,q3,q⟩
 ·refine aW (by kernel_rfl) ?_;simp only[sz,simprocAttr,aU];rw[aO,mL,nE,kT];simp only[sz,simprocAttr];have hl:(S.Tx n e v a bn bd).length<9223372036854775808/\∀y∈S.Tx n e v a bn bd,y<18446744073709551616:=by
   rw[S.Tx]
   split
   ·rename_i c;have hk:=AR (JC c);exact⟨Wm (Je hk) (by decide),λy hy=>Nat.lt_trans (AX hk y hy) (by decide)⟩
   ·exact⟨by decide,λy hy=>by cases hy⟩
  exact⟨λ_=>True,_,_,rfl,⟨u,rfl,ho.nats' hl.1 hl.2⟩,ax.2 rfl⟩
theorem L_[XOc](hS:xu)(hd:0<d)(hm:Agg n NoP 0 g.h u)(he:SlR P k g.h e w)(hk:k<=d) :
  ∃r,eL C0 15 d [u,w,X8 v,X8 a,.agg [X8 bn,X8 bd]] g=.val r/\oE (One (S.Ty n e v a bn bd)) (One (S.SH n e v a bn bd)) NoP 0 .nil r:=by
 obtain⟨bb,rows,rfl,e1,f,hN,-⟩:=dt d hm;obtain⟨w',j,b⟩:=dy he d;rw[Wv hk]at b;refine xS Ar (xs:=[.agg [X8 n.grain,bb],w',X8 v,X8 a,.agg [X8 bn,X8 bd]]) (by simp only[aD,e1,j,cg,Ds]) (by simp[o9]) (bY (m:=1) (aG _) (aG _) (by decide) (by decide)) (by decide) hd ?_;unfold o9;dsimp only;refine bc (by kernel_rfl) ?_;have cw:=(b .nil).cell;simp only[sz,simprocAttr,nI,cw.1,cw.2];generalize hg0:G.new _ _=g0;have f0:g0.h.get 0=Xs 2 [[X8 n.grain,bb]]:=by rw[<-hg0];simp[SD,sx]
 have f1:g0.h.get 1=Xs 1 [[w']]:=by rw[<-hg0];simp[SD,sx]
 have f2:g0.h.get 2=Xs 1 [[X8 v]]:=by rw[<-hg0];simp[SD,sx]
 have l:g0.h.get 3=Xs 1 [[X8 a]]:=by rw[<-hg0];simp[SD,sx]
 have p:g0.h.get 4=Xs 2 [[X8 bn,X8 bd]]:=by rw[<-hg0];simp[SD,sx]
 have fn:g0.nx=5:=by rw[<-hg0];simp[sx]
 clear hg0;unfold rM;rw[bJ];show wpQ C0 (d+1) ([o 12 (.mkf 51 [] [.t 5,.t 6,.t 7,.t 8,.t 9])]++[XN 13 44 12,Xw 14 13 0,Xw 15 13 1,oM 10 14,oM 11 15]) _ _ _ _;refine bZ (by kernel_rfl) ?_;simp only[sz,simprocAttr];refine bS (ys:=[.clo 51 [] [X9 0,X9 1,X9 2,X9 3,X9 4]]) (by kernel_rfl) (by simp[sx]) ?_;refine wQ (err:=S.SH n e v a bn bd) (L:=S.Ty n e v a bn bd) (by kernel_rfl) (λh=>Um h) (λg1 h1=>?_) (λu g1 B ho=>?_)
 ·have fx:∀i,i<5->g1.h.get i=g0.h.get i:=λi hi=>h1.2 i (by omega);refine L9 hS (k:=d) (n:=n) (e:=e) (v:=v) (a:=a) (bn:=bn) (bd:=bd) (bb:=bb) (ev:=w') (by omega) (by omega) (λh=>f h) (b .nil) (by rw[fx 0 (by decide),f0]) (by rw[fx 1 (by decide),f1]) (by rw[fx 2 (by decide),f2]) (by rw[fx 3 (by decide),l]) (by rw[fx 4 (by decide),p]) (by have:=h1.1;omega)
   (λc u g2 B h2 hB ho=>⟨c,h2,?_⟩) (λc g2 h2=>⟨c,h2,rfl⟩)
  rw[S.Ty,Un c];rcases ho with ho|⟨id,ep,lo,q1,q2,q3,q⟩
  ·exact .inl ho
  ·exact .inr ⟨id,ep,lo,by omega,q2,q3,q⟩
 ·refine aW (by kernel_rfl) ?_;simp only[sz,simprocAttr,aU];rw[aO,mL,nE,kT];simp only[sz,simprocAttr];have hl:(S.Ty n e v a bn bd).length<9223372036854775808/\∀y∈S.Ty n e v a bn bd,y<18446744073709551616:=by
   rw[S.Ty]
   split
   ·rename_i c;have hk:=AR (JC c);exact⟨Wm (Je hk) (by decide),λy hy=>Nat.lt_trans (AX hk y hy) (by decide)⟩
   ·exact⟨by decide,λy hy=>by cases hy⟩
  exact⟨λ_=>True,_,_,rfl,⟨u,rfl,ho.nats' hl.1 hl.2⟩,ax.2 rfl⟩
section
set_option linter.unusedSimpArgs false
theorem KJ[XOc]{v:AV}(hd:0<d)(he:SlR P k g.h e v)(hl:e.length<=60):ae C0 d 25 [v] g=.val (X_ (S.kn e e.length:Int)):=by
 obtain⟨v',e1,f⟩:=dy he d;have n2:=λg=>(f .nil).len g;have rb:=λh=>(f h).ints;rw[xF];refine eX Ap (xs:=[v']) (by simp only[aD,e1]) (by simp[oV]) hd ?_;simp only[sz,simprocAttr,oV,n2,pW,pX];refine aV (m:=e.length) (by omega) (λj t df g=>df=[]/\St t [(6,v'),(3,X_ (S.kn e j:Int))]) ⟨rfl,by simp[St,sx,S.kn]⟩ (by simp[sx]) (by simp[sx]) (by decide)
  (by rintro j t df g v s (rfl|rfl|rfl)<;>simp[St,sx]) ?_ ?_
 ·rintro j t df g l ⟨rfl,b,a,-⟩ h8 h7;obtain⟨y,n,-,-⟩:=ay l;have o:j<(e.map ci).length:=by simpa using l
  have p:(e.map ci)[j]?=some (ci y):=by rw[Uo,n];rfl
  have i:=Dx (S.kn e j) (S.S3 j) (Eb (by omega)) (vp j);have hsl:bB .shl (X_ 1) (X8 (j:Int))=.val (X_ (S.S3 j:Int)):=oa .i64 j;have hk:=Ja (by omega) n
  by_cases c:0<=y
  ·rw[Un c]at hk;simp only[sz,simprocAttr,b,a,h8,rb,o,p,ci,c,hsl,i];simp[St,sx,b,h7,h8,hk]
  ·rw[Um c]at hk;simp only[sz,simprocAttr,b,a,h8,rb,o,p,ci,c];simp[St,sx,b,a,h7,h8,hk]
 ·rintro t df g ⟨rfl,b,a,-⟩;simp only[sz,simprocAttr,pY,a]
def S.Tp(s:Nat):Nat->Nat
 |0=>s
 |j+1=>S.Tp s j &&& (S.Tp s j - 1)
theorem Lt:∀s,s<256->(∀j,j<S.SE s->0<S.Tp s j/\S.Tp s j<256)/\S.Tp s (S.SE s)=0:=by decide +kernel
theorem Sm(a:Nat):bB .gtr (X_ (a:Int)) (X_ 0)=.val (.bool (decide (0<a))):=by have:bB .gtr (X_ (a:Int)) (X_ 0)=.val (.bool (decide ((a:Int) > 0))):=Du .u64 a 0;rw[this];congr 2;rw[U7,decide_eq_true_iff,decide_eq_true_iff];omega
theorem CX[XOc](hd:0<d)(hs:s<256):ae C0 d 26 [X_ (s:Int)] g=.val (X8 (S.SE s:Int)):=by
 obtain⟨ha,hb⟩:=Lt s hs;have hp:=Jt s;rw[xE];refine eX Ao (xs:=[X_ (s:Int)]) (by simp only[aD,cg]) (by simp[oU]) hd ?_;simp only[sz,simprocAttr,oU,pU];refine xn (m:=S.SE s) (λj t df g=>df=[]/\St t [(0,X_ (S.Tp s j:Int)),(3,X8 (j:Int))]) ⟨rfl,by simp[St,sx,S.Tp]⟩ ?_ ?_ ?_
 ·rintro j t df g e ⟨rfl,h0,k,-⟩;simp only[sz,simprocAttr,h0,k,Sm];refine⟨?_,by simp[St,sx,h0,k]⟩;congr 1;rw[U7,decide_eq_true_iff,decide_eq_true_iff];constructor
  ·intro h;refine Nat.lt_of_not_le λh2=>?_;have:j=S.SE s:=by omega
   rw[this,hb]at h;omega
  ·exact λh=>by have:=(ha j h).1;omega
 ·rintro j t df g e ⟨rfl,h0,k,-⟩;obtain⟨q1,q2⟩:=ha j e;have b:bB .sub (X_ (S.Tp s j:Int)) (X_ 1)=.val (X_ ((S.Tp s j - 1:Nat):Int)):=by rw[wo,dR (by omega) (by omega)];congr 2;omega
  have a:=mC (S.Tp s j) (S.Tp s j - 1) (by omega) (by omega);have c:IntKind.wrap .i64 ((j:Int)+1)=((j+1:Nat):Int):=by rw[aE (by omega) (by omega)];rfl
  simp only[sz,simprocAttr,h0,k,b,a];simp[St,sx,S.Tp];exact c
 ·rintro t df g ⟨rfl,h0,k,-⟩;simp only[sz,simprocAttr,pV,k]
theorem AW[XOc]{ev:AV}(hd:0<d)(hev:SlR P k g.h e ev)(hl:e.length<=1000)(hs:s<18446744073709551616) :
  ∃r,ae C0 d 27 [ev,X_ (s:Int)] g=.val r/\IT 0 (S.SP e s) r:=by
 obtain⟨v',e1,z⟩:=dy hev d;have n2:=λg=>(z .nil).len g;have rb:=λh=>(z h).ints;have C:=kZ e s;rw[yM];refine a_ BX (xs:=[v',X_ (s:Int)]) (by simp only[aD,e1,cg]) (by simp[qG]) (aG _) (by decide) hd ?_;simp only[sz,simprocAttr,qG,n2];refine F9 (b:=0) (by simp[bz];omega) (by simp[bz];omega) (by simp) λu1 g1 o1 n1 f1 v1=>?_;have D:Own g1 0 u1 1 ((S.SX e s 0).map ci):=by simpa [S.SX,ci] using o1
 simp only[sz,simprocAttr,n2,rD,rE];refine aV (m:=e.length) (by omega) (λj t df g'=>df=[]/\St t [(0,v'),(1,X_ (s:Int)),(5,u1),(11,v')]/\Own g' 0 u1 1 ((S.SX e s j).map ci))
  ⟨rfl,by simp[St,sx],D⟩ (by simp[sx]) (by simp[sx]) (by decide) (by rintro j t df g v s (rfl|rfl|rfl)<;>simp[St,sx]) ?_ ?_
 ·rintro j t df g2 p ⟨rfl,⟨h0,h1,h5,a,-⟩,o2⟩ o q;obtain⟨y,F,-,-⟩:=ay p;have hz:=zn e s j p;rw[F,Us]at hz;have B:=Bd (e:=e) (s:=s) (j:=j) (by omega);have E:j<(e.map ci).length:=by simpa using p
  have J:(e.map ci)[j]?=some (ci y):=by rw[Uo,F];rfl
  have w1:j<((S.SX e s j).map ci).length:=by rw[UK,B];exact p
  obtain⟨I,l⟩:∃I,((S.SX e s j).map ci)[j]?=some I:=⟨_,Uj w1⟩;have w:=iY .i64 s j hs;have f:=mC (s / 2 ^ j) 1 (Wm (V9 _ _) hs) (by decide);have f:bB .and (X_ ((s / 2 ^ j:Nat):Int)) (X_ 1)=.val (X_ ((s / 2 ^ j &&& 1:Nat):Int)):=f;have u:=qO s j;simp only[sz,simprocAttr,h5,a,o,o2.rows,w1,rb,E,J,ci];refine rk (v:=u1) (sz:=1) (n:=1) (i:=j) (off:=0) (x:=X8 (-1)) (row':=ci (-1)) o2 l rfl rfl (by rw[Uo]at l;cases hh:(S.SX e s j)[j]? with
   |none=>rw[hh]at l;cases l
   |some x=>rw[hh]at l;injection l with l;rw[<-l];rfl) λg3 o3 n3 f3 p3=>?_
  by_cases c:s.testBit j=true
  ·rw[Un c]at hz;have c':((s / 2 ^ j &&& 1:Nat):Int)=1:=by
    have:S.Te s j=true:=by rw[u,c]
    rw[S.Te,beq_iff_eq]at this;rw[this];rfl
   have H:j<(((S.SX e s j).map ci).set j (ci (-1))).length:=by rw[WE];exact w1
   have K:(((S.SX e s j).map ci).set j (ci (-1)))[j]?=some (ci (-1)):=by rw[Vx w1]
   have A:=o3.rows;simp only[ci]at A H;simp only[sz,simprocAttr,h0,h1,h5,a,w,f,c',A,H];refine rk (v:=u1) (sz:=1) (n:=1) (i:=j) (off:=0) (x:=X8 y) (row':=ci y) o3 K rfl rfl rfl λg4 o4 n4 f4 p4=>?_;simp only[sz,simprocAttr];refine⟨⟨by simp[St,sx,h0,h1,h5,a],?_⟩,by simp[sx,o],by simp[sx,q]⟩;rw[<-(w_ (y:=-1) p hz).1,Vy,Vy];exact o4
  ·rw[Um c]at hz;have c':¬((s / 2 ^ j &&& 1:Nat):Int)=1:=by
    have:S.Te s j=false:=by rw[u];simpa using c
    rw[S.Te]at this;have h2:s / 2 ^ j &&& 1≠1:=by simpa using this
    omega
   simp only[sz,simprocAttr,h1,h5,a,w,f,c'];refine⟨⟨by simp[St,sx,h0,h1,h5,a],?_⟩,by simp[sx,o],by simp[sx,q]⟩;rw[<-(w_ (y:=-1) p hz).2,Vy];exact o3
 ·rintro t df g2 ⟨rfl,⟨h0,h1,h5,-⟩,o2⟩;rw[S.SX,Ve,WN,Ux,<-C,U3]at o2;simp only[sz,simprocAttr,rF,h5];exact⟨_,o2.ints (by omega)⟩
theorem JR[XOc]{k vn kn:Nat}(hd:0<d)(hm:Agg n NoP 0 g.h u)(he:SlR P k2 g.h (S.SP e s) w)(hk:k2<=d)(hR:Rsn n e vn kn bn bd) :
  ae C0 d 28 [u,w,X8 (vn:Int),X8 (kn:Int),.agg [X8 bn,X8 bd]] g=.val (.tup [.bool (S.S7 n e s vn kn bn bd),.bool true]):=by
 have key:∃r,ae C0 d 28 [u,w,X8 (vn:Int),X8 (kn:Int),.agg [X8 bn,X8 bd]] g=.val r/\oE (One (S.S7 n e s vn kn bn bd)) (One true) NoP 0 .nil r:=by
  obtain⟨w',N,o⟩:=dy he d;rw[Wv hk]at o;obtain⟨bb,rows,rfl,e1,E,hN,M,r2,r3,r4⟩:=dt d hm;obtain⟨hr,j,h1,hx,hb,I,Y⟩:=hR;have hz:=ui (s:=s) hr I;obtain⟨W,B⟩:=dl.1 j;have Z:=kZ e s;obtain⟨⟨⟨Q,R,T,U⟩,y⟩,x,V⟩:=hb;obtain⟨bnn,rfl⟩:=Ur x;obtain⟨bdn,rfl⟩:=Ur (show 0<=bd by omega);have C:kn<((S.Sx n)[vn]?.getD 0).toNat:=by have:=hx.2;rw[U2]at this;omega
  obtain⟨p,p',p1,p2,p3,p4,p5,p6⟩:=C5 hr (v:=vn) hz C;have kc:=λg:G=>II (d:=d+1) (g:=g) (by omega) p5 p6 (show bnn<=4611686018427387903 by omega) (show bdn<=4611686018427387903 by omega) p4 (show 0<bdn by omega) p3 (by simpa using y);have X:S.S7 n e s vn kn (bnn:Int) (bdn:Int)=decide (0<=S.Th (p*bdn) (bnn*p')):=by rw[S.S7,p2,U7,decide_eq_true_iff,decide_eq_true_iff,FK];simp
  have A:∀i,i<e.length->0<=(S.Sx n)[i]?.getD 0:=λi hi=>by have:=B i hi;omega
  have l:S.SL n (S.SP e s)=true:=Fq j A;have F:S.SN n (S.SP e s)=0:=eQ.2 ⟨bw.2 hr,l⟩;have L:S.Tf n (S.SP e s) vn=0:=by rw[S.Tf,Un F,Un ⟨by omega,by omega⟩,Um hz]
  have O:S.Tk n (S.SP e s) vn=S.S0 n (S.SP e s) vn:=by rw[S.Tk,Un L,U2]
  rw[yN,X];refine a_ BY (xs:=[.agg [X8 n.grain,bb],w',X8 (vn:Int),X8 (kn:Int),.agg [X8 (bnn:Int),X8 (bdn:Int)]]) (by simp only[aD,e1,N,cg,Ds]) (by simp[qH]) (bY (m:=1) (aG _) (aG _) (by decide) (by decide)) (by decide) hd ?_;simp only[sz,simprocAttr,qH,sZ,nI];generalize hg0:G.new _ _=g0;have fb:g0.h.get 1=Xs 2 [[X8 (bnn:Int),X8 (bdn:Int)]]:=by rw[<-hg0];simp[SD,sx]
  clear hg0;refine dE (uY (n:=n) (e:=S.SP e s) (z:=vn) (by omega) (E _) (o _) (by omega)) λr hr5=>?_;obtain⟨M,r2,rfl,q3,q⟩:=hr5;have q:=ax.1 q;injection q with q;subst q;obtain⟨w1,c,q3⟩:=q3;injection c with c;subst c;rw[O]at q3;rw[L];have nq:=q3.len;obtain⟨rows,f,h2,J,K⟩:=q3.all;obtain⟨row,t,y2⟩:=J kn _ p1;obtain⟨ya,yb,rfl,yc,yd⟩:=rf.1 y2;rw[ax.1 yc,ax.1 yd]at t;have f:∀h',ah h' 2 M=some rows:=f;have t:rows[kn]?=some [X8 (p:Int),X8 (p':Int)]:=t;have hlt:kn<rows.length:=(Uh.1 t).1;have H:=K (by omega);have D:¬((S.S0 n (S.SP e s) vn).length:Int)<=(kn:Int):=by have:=(Uh.1 p1).1;omega
  simp only[sz,simprocAttr,fb,Ec,f,hlt,t,H,kc,nq,D];exact⟨NoP,_,_,rfl,gy.2 rfl,gy.2 rfl⟩
 obtain⟨r,hr,a,b,rfl,ha,hb⟩:=key;have ha:=gy.1 ha;have hb:=gy.1 hb;injection ha with ha;injection hb with hb;rw[hr,ha,hb]
end
section
variable {α:Type} [DecidableEq α]
theorem Ol[XOc]{v:AV}(hd:0<d)(hm:Agg n NoP 0 g.h v)(hr:NR n):ae C0 d 67 [v] g=.val (.tup [X8 (S.TE n),X8 0]):=by
 have hl2:=hr.l2;have q:=bw.2 hr;obtain⟨b,rows,rfl,e1,l,hN,A,B,C,D⟩:=dt d hm;have key:∃r,ae C0 d 67 [.agg [X8 n.grain,b]] g=.val r/\oE (One (S.TE n)) (One (0:Int)) NoP 0 .nil r:=by
  rw[zU];refine a_ DV (xs:=[.agg [X8 n.grain,b]]) (by simp only[aD,e1]) (by simp[s8]) (bY (m:=1) (aG _) (aG _) (by decide) (by decide)) (by decide) hd ?_;simp only[sz,simprocAttr,s8,uT,s_];obtain⟨z,ez,hz⟩:=zp (d:=d+1) (g:=G.empty.new (Xs 2 [[X8 n.grain,b]])) (UC d) (n:=n) (v:=.agg [X8 n.grain,b]) (l _);rcases oB hz with⟨p,-⟩|⟨p,b',cv,sv,oz,o,rfl,hb,x,-,-⟩
  ·rw[q]at p;cases p
  have u:=wX hr;simp only[sz,simprocAttr,ez,hb.len];refine aV (m:=n.nodes.length) (by omega) (λj t df g=>df=[]/\St t [(4,X9 1),(6,X8 (S.Sz (List.replicate j n.grain)))]/\g.h.get 1=Xs 5 [[X8 n.grain,b',cv,sv,oz]])
   ⟨rfl,by simp[St,sx,S.Sz],by simp[sx]⟩ (by simp[sx]) (by simp[sx]) (by decide) (by rintro j t df g v s (rfl|rfl|rfl)<;>simp[St,sx]) ?_ ?_
  ·rintro j t df g y ⟨rfl,⟨h4,i,-⟩,hg⟩ f e;have e1:S.Sz (List.replicate (j+1) n.grain)=S.Sz (List.replicate j n.grain)*n.grain:=by rw[List.replicate_succ',um]
   have hb:=u (j+1) (by omega);have w1:IntKind.wrap .i64 (S.Sz (List.replicate j n.grain)*n.grain)=S.Sz (List.replicate (j+1) n.grain):=by rw[<-e1,aE (by omega) (by omega)]
   simp only[sz,simprocAttr,h4,i,f,e,hg,St,w1]
  ·rintro t df g ⟨rfl,⟨h4,i,-⟩,hg⟩;simp only[sz,simprocAttr,ta,i];exact⟨λ_=>True,_,_,rfl,ax.2 rfl,ax.2 rfl⟩
 obtain⟨r,w,a,c,rfl,ha,k⟩:=key;have ha:=ax.1 ha;have k:=ax.1 k;injection ha with ha;injection k with k;rw[w,ha,k]
theorem M2[XOc]{k0:Nat}{v w0:AV}(hd:0<d)(hm:Agg n NoP 0 g.h v)(he:SlR P k0 g.h e w0)(hk:k0<=d:=by omega) :
  ae C0 d 24 [v,w0] g=.val (.tup [.agg [X8 (S.TA n e).1,X8 (S.TA n e).2],X8 (S.SN n e)]):=by
 have key:∃r,ae C0 d 24 [v,w0] g=.val r/\oE (Agg (S.TA n e)) (One (S.SN n e)) NoP 0 .nil r:=by
  obtain⟨b,rows,rfl,e1,k,hN,t,u,x,A⟩:=dt d hm;obtain⟨w,ew,hw⟩:=dy he d;rw[Wv hk]at hw;have hw:=hw .nil;rw[yL];refine a_ BV (xs:=[.agg [X8 n.grain,b],w]) (by simp only[aD,e1,ew]) (by simp[qF]) (bY (m:=2) (dw _) (aG _) (by decide) (by decide)) (by decide) hd ?_;simp only[sz,simprocAttr,qF,sT,hw.cell.1,hw.cell.2];refine dE (GV (n:=n) (ls:=[e]) (UC d) (k _) (Rh hw (by simp[sx]))) λz hz=>?_;obtain⟨y,cs,rfl,o,hc,a1,a2,s,a4,rfl⟩:=vo hz;rw[tU]at o ⊢
  by_cases h0:S.SN n e=0
  ·have l:=o h0;obtain⟨h1,h2⟩:=eQ.1 h0;have hr:=bw.1 h1;have f:S.TA n e=S.Tg (S.SM n e).toNat (S.TE n).toNat:=by rw[S.TA,Un h0]
   simp only[sz,simprocAttr,h0];rw[Ol (n:=n) (UC d) (k _) hr];simp only[sz,simprocAttr];rw[Jh (y:=y) (n:=n) (e:=e) (UC d) hr ⟨_,rfl,Rp.tree hc (Ui _)⟩ l (hw.tree (Ui _)) h2];simp only[sz,simprocAttr];have i:=oq hr e;have p:=HI hr;obtain⟨a,ha⟩:=Ur i.1;obtain⟨c,j⟩:=Ur (show 0<=S.TE n by omega);rw[ha,j]at f ⊢;rw[Ax (UC d) (by omega) (by omega) (by omega)];simp only[sz,simprocAttr];rw[f];exact⟨λ_=>True,_,_,rfl,rZ.2 rfl,ax.2 rfl⟩
  ·have f:S.TA n e=(0,0):=by rw[S.TA,Um h0]
   have q:vy [X8 0,X8 0] [] []=.val (.agg [X8 0,X8 0]):=rfl;simp only[sz,simprocAttr,h0];rw[f];exact⟨λ_=>True,_,_,rfl,rZ.2 rfl,ax.2 rfl⟩
 obtain⟨r,hr,a,c,rfl,ha,hc⟩:=key;have hc:=ax.1 hc;injection hc with hc;rw[hr,rZ.1 ha,hc]
end
theorem za{α:Type} [Rp α]{x:α}{cs:List AV}(h:Rp.rp NoP 0 .nil x cs)(h':H):Agg x P 0 h' (.agg cs):=⟨_,rfl,Rp.tree h (Ui _)⟩
theorem EL[XOc](g:G):ae C0 1 18 [] g=.val (.bool true):=by kernel_rfl
theorem GW[XOc]{v:Nat}(hd:0<d)(he:SlR P k g.h e w)(hl:e.length<=1000)(hv:v<e.length) :
  ∃r,ae C0 d 8 [w,X8 (v:Int)] g=.val r/\IT 0 (e.set v (-1)) r:=by
 obtain⟨w',e1,a⟩:=dy he d;rw[xI];refine a_ At (xs:=[w',X8 (v:Int)]) (by simp only[aD,e1,cg]) (by simp[pc]) (aG _) (by decide) hd ?_;simp only[sz,simprocAttr,pc];refine dE (N1 (x:=-1) (by omega) (a _) hl hv) λr hr=>?_;simp only[sz,simprocAttr];exact⟨NoP,_,rfl,hr.sl _⟩
section
set_option linter.unusedSimpArgs false
def RU(S R U V W:VS):VS:=λP k h v=>∃a b c d e,v=.tup [a,b,c,d,e]/\S P k h a/\R P k h b/\U P k h c/\V P k h d/\W P k h e
theorem N_{S R U V W:VS}(hs:Snb S 1)(hr:Snb R 0)(hu:Snb U 0)(hv:Snb V 0)(hw:Snb W 1):Snb (RU S R U V W) 2:=by
 refine⟨λ{P k h v n} d r hn=>?_,λ{k h v n} r hn=>?_⟩
 ·obtain⟨a,b,c,x,e,rfl,o,q,t,w,r5⟩:=r;obtain⟨n,rfl⟩:∃m,n=m+1:=⟨n - 1,by omega⟩;obtain⟨a',e1,p⟩:=hs.snap (n:=n) d o (by omega);obtain⟨b',f,s⟩:=hr.snap (n:=n) d q (by omega);obtain⟨c',i,u⟩:=hu.snap (n:=n) d t (by omega);obtain⟨x',j,y⟩:=hv.snap (n:=n) d w (by omega);obtain⟨y',l,z⟩:=hw.snap (n:=n) d r5 (by omega);exact⟨.tup [a',b',c',x',y'],by simp only[Hx.snap,aD,e1,f,i,j,l],a',b',c',x',y',rfl,p,s,u,y,z⟩
 ·obtain⟨a,b,c,x,e,rfl,o,q,t,w,r5⟩:=r;obtain⟨n,rfl⟩:∃m,n=m+1:=⟨n - 1,by omega⟩;obtain⟨A,e1,l1⟩:=hs.tag (n:=n) o (by omega);obtain⟨B,f,l2⟩:=hr.tag (n:=n) q (by omega);obtain⟨C,i,F⟩:=hu.tag (n:=n) t (by omega);obtain⟨D,j,G⟩:=hv.tag (n:=n) w (by omega);obtain⟨E,l,H⟩:=hw.tag (n:=n) r5 (by omega);refine⟨max A (max B (max C (max D E))),?_,by omega⟩;simp only[eN,h_,e1,f,i,j,l];congr 1;show max A (max B (max C (max D (max E 0))))=_;omega
theorem N4{C:Cfg}{rd:Option Nat}{a b:SC}{Q:QT}{t:T}{df:List ADf}{P:PT}(h1:wp C d rd a (λe t df g=>e=.norm/\P t df g) t df g)(h2:∀t df g,P t df g->wp C d rd b Q t df g):wp C d rd (.seq a b) Q t df g:=by rw[dU];refine bO _ h1 ?_;rintro e t df g ⟨rfl,h⟩;exact h2 _ _ _ h
structure Askd (n:Net) (e:List Int) (vn kn:Nat) (bn bd:Int):Prop where
 r:NR n
 ev:S.SL n e=true
 v:vn<e.length
 ng:e[vn]?.getD 0<0
 x:S.Tc n vn kn
 b:S.Ti bn bd
abbrev Sd:=Net×List Int×Nat×Nat×QI
def RR:VS:=λP k h v=>∃x:Sd,Askd x.1 x.2.1 x.2.2.1 x.2.2.2.1 x.2.2.2.2.1 x.2.2.2.2.2/\RU (Agg x.1) (One x.2.1) (One (x.2.2.1:Int)) (One (x.2.2.2.1:Int)) (Agg x.2.2.2.2) P k h v
theorem N8:Snb RR 2:=mK λx=>N_ (dw _) (aG _) (aG _) (aG _) (dw _)
theorem KI[XOc]{x:ve}{u1:AV}{vs:List UInt8}{z0 z1 z2 z3:UInt8}(hd:0<d)(hx:Agg x NoP 0 .nil u1)(hv:vs.length=9) :
  ∃r,ae C0 d 23 [u1,.agg (vs.map u8v),.agg [u8v z0,u8v z1,u8v z2,u8v z3]] g=.val r/\RR NoP 0 .nil r:=by
 obtain⟨xs,rfl,qx⟩:=hx;obtain⟨Q,T,e1,-⟩:=xY.1 qx;have N:xs.length=3:=by rw[e1];rfl
 clear e1 Q T;obtain⟨AA,i⟩:∃AA,AA=vs.map u8v:=⟨_,rfl⟩;have F:AA.length=9:=by rw[i];simp[hv]
 have s1:snap g.h d an (.agg xs)=some (.agg xs):=lf d (za (P:=NoP) qx g.h);have s2:snap g.h d an (.agg AA)=some (.agg AA):=by rw[i];exact Bm _ _ _
 rw[xD,<-i];refine a_ An (xs:=[.agg xs,.agg AA,.agg [u8v z0,u8v z1,u8v z2,u8v z3]]) (by simp only[aD,s1,s2,show snap g.h d an (.agg [u8v z0,u8v z1,u8v z2,u8v z3])=some (.agg [u8v z0,u8v z1,u8v z2,u8v z3]) from Bm [z0,z1,z2,z3] _ _]) (by simp[oT]) N8 (by decide) hd ?_;simp only[sz,simprocAttr,oT,yz];obtain⟨g0,hg0⟩:∃g0,g0=((((G.empty.new (Xs xs.length [xs])).new (Xs AA.length [AA])).new (Xs 4 [[u8v z0,u8v z1,u8v z2,u8v z3]])).new (Xs 2 [[X8 0,.nils]])).new (Xs 2 [[X8 0,X8 0]]):=⟨_,rfl⟩;rw[<-hg0];have f0:g0.h.get 0=Xs 3 [xs]:=by rw[hg0,N];simp[sx,SD]
 have f1:g0.h.get 1=Xs 9 [AA]:=by rw[hg0,F];simp[sx,SD]
 have f2:g0.h.get 2=Xs 4 [[u8v z0,u8v z1,u8v z2,u8v z3]]:=by rw[hg0];simp[sx,SD]
 have f3:g0.h.get 3=Xs 2 [[X8 0,.nils]]:=by rw[hg0];simp[sx,SD]
 have f4:g0.h.get 4=Xs 2 [[X8 0,X8 0]]:=by rw[hg0];simp[sx]
 have fn:g0.nx=5:=by rw[hg0];simp[sx]
 have fl:g0.lg=[4,3,2,1,0]:=by rw[hg0];simp[sx];rfl
 clear hg0;have ld0:aI (Xs 3 [xs]) 0 0 true 3 0=.val (.agg xs):=by
  match xs,N with
  |[a,b,c],_=>rfl
 unfold rC;generalize hR:X7 (SC.feet _ _) (X7 (SC.feet _ _) SC.ret)=R;simp only[sz,simprocAttr,f0,ld0];refine dE (OV (by omega) (za (P:=NoP) qx _)) ?_;rintro r ⟨n,o,cn,rfl,w⟩;obtain⟨bb,rfl,u⟩:=l_.1 w;have X:∀h,Agg n NoP 0 h (.agg [X8 n.grain,bb]):=λh=>za w h;have nb:=λg:G=>(u.tree (h':=g.h) (Ui 0)).len g;have h7:=o.l;obtain⟨nrows,nr1,nr2,nr3,nr4⟩:=u.all;have nr1:∀h',ah h' 3 bb=some nrows:=nr1;obtain⟨vn,M⟩:∃vn,vn=z0.toNat % n.nodes.length:=⟨_,rfl⟩;have Z:vn<n.nodes.length:=by rw[M];exact VT _ (by omega)
 obtain⟨y,q⟩:∃y,n.nodes[vn]?=some y:=⟨_,Uj Z⟩;obtain⟨row,y1,y2⟩:=nr3 vn y q;obtain⟨ya,yb,rfl,-,-⟩:=fd.1 y2;have hlt:vn<nrows.length:=(Uh.1 y1).1;have ha:=o.c y (Ul q);obtain⟨cd,Y⟩:∃cd:Nat,y.card=(cd:Int):=⟨y.card.toNat,by omega⟩;have b0:=z0.toNat_lt;have b1:=z1.toNat_lt;have b2:=z2.toNat_lt;have b3:=z3.toNat_lt;obtain⟨kn,L⟩:∃kn,kn=z1.toNat % cd:=⟨_,rfl⟩;have h3:kn<cd:=by rw[L];exact VT _ (by omega)
 have lw:∀(j:Nat) (z:UInt8),[u8v z0,u8v z1,u8v z2,u8v z3][j]?=some (u8v z)->aI (Xs 4 [[u8v z0,u8v z1,u8v z2,u8v z3]]) 0 0 false 1 j=.val (u8v z):=λj z hz=>by
  match j,hz with
  |0,hz=>simp at hz;rw[<-hz];rfl
  |1,hz=>simp at hz;rw[<-hz];rfl
  |2,hz=>simp at hz;rw[<-hz];rfl
  |3,hz=>simp at hz;rw[<-hz];rfl
 have lw0:=lw 0 z0 rfl;have lw1:=lw 1 z1 rfl;have lw2:=lw 2 z2 rfl;have lw3:=lw 3 z3 rfl;have ia:∀(id:Nat),AO 4 1 (X9 id) (X8 0)=.val (X9 id)/\AO 4 1 (X9 id) (X8 1)=.val (.hptr id 0 0 1)/\AO 4 1 (X9 id) (X8 2)=.val (.hptr id 0 0 2)/\AO 4 1 (X9 id) (X8 3)=.val (.hptr id 0 0 3):=λ_=>⟨rfl,rfl,rfl,rfl⟩;have cv:∀z:UInt8,Fb .i64 (u8v z)=.val (X8 (z.toNat:Int)):=λz=>by have:=z.toNat_lt;rw[u8v,Ab,aE (by omega) (by omega)]
 have rm0:bB .rem (X8 (z0.toNat:Int)) (X8 (n.nodes.length:Int))=.val (X8 (vn:Int)):=by rw[iX .i64 (by omega) (by omega),M];rfl
 have rm1:bB .rem (X8 (z1.toNat:Int)) (X8 y.card)=.val (X8 (kn:Int)):=by rw[iX .i64 (by omega) (by omega),L,Y];rfl
 have rm2:bB .rem (X8 (z2.toNat:Int)) (X8 ((z3.toNat+1:Nat):Int))=.val (X8 ((z2.toNat % (z3.toNat+1):Nat):Int)):=by rw[iX .i64 (by omega) (by omega)];rfl
 have ad:bB .add (X8 (z3.toNat:Int)) (X8 1)=.val (X8 ((z3.toNat+1:Nat):Int)):=by rw[wn,aE (by omega) (by omega)];rfl
 have h8:z2.toNat % (z3.toNat+1)<z3.toNat+1:=VT _ (by omega);have km:=λg:G=>Ax (d:=d+1) (g:=g) (n:=z2.toNat % (z3.toNat+1)) (m:=z3.toNat+1) (by omega) (by omega) (by omega) (by omega);obtain⟨p,p',lo1,lo2,lo3,lo4,lo5,lo6⟩:=CZ (z2.toNat % (z3.toNat+1)) (z3.toNat+1) (by omega);rw[lo1]at km;have h9:p<=p':=by
  have h1:p*(z3.toNat+1)<=p'*(z3.toNat+1):=by rw[lo4,Wg p'];exact UB _ (by omega)
  exact Nat.le_of_mul_le_mul_right h1 (by omega)
 have J:S.Ti (p:Int) (p':Int):=⟨⟨⟨by omega,by omega,by omega,by omega⟩,by simpa using lo2⟩,by omega,by omega⟩;simp only[sz,simprocAttr,fn,f2,nb,(ia _).1,lw0,cv,rm0];subst hR;obtain⟨g2,k⟩:∃g2,g2=(g0.new (Xs 2 [[X8 0,.nils]])).put 5 (Xs 2 [[X8 n.grain,bb]]):=⟨_,rfl⟩;rw[<-k];have e1:g2.h.get 1=Xs 9 [AA]:=by rw[k];simp[SD,f1,fn]
 have O:g2.h.get 2=Xs 4 [[u8v z0,u8v z1,u8v z2,u8v z3]]:=by rw[k];simp[SD,f2,fn]
 have V:g2.h.get 3=Xs 2 [[X8 0,.nils]]:=by rw[k];simp[SD,f3,fn]
 have W:g2.h.get 4=Xs 2 [[X8 0,X8 0]]:=by rw[k];simp[SD,f4,fn]
 have B:g2.h.get 5=Xs 2 [[X8 n.grain,bb]]:=by rw[k];simp[SD]
 have n2:g2.nx=6:=by rw[k];simp[fn]
 clear k;refine N4 (P:=λt' df g'=>df=[]/\St t' [(4,X9 1),(5,X9 2),(6,X9 3),(10,X9 4),(11,X9 5),(12,X8 (vn:Int)),(13,X9 22)]/\g'.h.get 1=Xs 9 [AA]/\g'.h.get 2=Xs 4 [[u8v z0,u8v z1,u8v z2,u8v z3]]/\g'.h.get 3=Xs 2 [[X8 0,.nils]]/\g'.h.get 4=Xs 2 [[X8 0,X8 0]]/\g'.h.get 5=Xs 2 [[X8 n.grain,bb]]/\g'.h.get 22=Xs 2 [[X8 (p:Int),X8 (p':Int)]]) ?_ ?_
 ·simp only[sz,simprocAttr,sf,n2,O,(ia _).2.2.1,(ia _).2.2.2,lw2,lw3,cv,rm2,ad,km];refine⟨?_,?_⟩
  ·simp only[UQ,UP,UM,UE,G.new_lg,G.put_lg,setLog_lg];refine bf (XI (XI (true::(true::(false::[]))))) [(0,16),(1,16),(2,16),(3,16),(4,16),(5,16),(6,16),(7,16),(8,16),(9,16),(10,16),(11,16),(12,16),(13,16),(14,16),(15,16),(15,17)] (by simp[All2,am,aA,js]) (by decide) ?_;rintro pp f x y hx q;simp only[UW,Uu,WK]at f;rcases f with rfl|rfl|rfl|rfl|rfl|rfl|rfl|rfl|rfl|rfl|rfl|rfl|rfl|rfl|rfl|rfl|rfl<;>(simp at hx q;subst hx;subst q;refine fP rfl rfl rfl rfl ?_ ?_ ?_<;>simp[am,aA,af,js,ko,gP,sx,aw,an])
  ·simp[St,sx,SD,n2,e1,O,V,W,B]
 rintro t df g3 ⟨rfl,⟨h4,h5,h6,C,D,s,E,-⟩,e1,O,V,W,B,U⟩;have ldn:∀a b:AV,aI (Xs 2 [[a,b]]) 0 0 true 2 0=.val (.agg [a,b]):=λ_ _=>rfl;have ldm:∀a b:AV,aI (Xs 2 [[a,b]]) 0 0 false 1 1=.val b:=λ_ _=>rfl;have ld9:aI (Xs 9 [AA]) 0 0 true 9 0=.val (.agg AA):=by
  match AA,F with
  |[a0,a1,a2,a3,a4,a5,a6,a7,a8],_=>rfl
 simp only[sz,simprocAttr,sf,h4,h5,h6,C,D,s,E,e1,ld9,B,ldn];rw[i];refine dE (Nd (by omega) hv (X _) (by omega) λz hz=>by have:=o.c z hz;omega) ?_;rintro r ⟨e,he,q1⟩;obtain⟨ew,A,q1⟩:=q1;injection A with A;subst A;obtain⟨h2,-⟩:=dl.1 he;simp only[sz,simprocAttr,sf,s];refine dE (GW (e:=e) (v:=vn) (by omega) (q1.tree (Ui 0)) (by omega) (by omega)) λr5 hr5=>?_;simp only[sz,simprocAttr,sf,h4,h5,h6,C,D,s,E,(ia _).2.1,O,lw1,cv,B,ldm,nr1,hlt,y1,nr4 (by omega),rm1,U,ldn,V,W];have I:af bb=[]/\af (nZ 3 bb vn 0)=[]:=by have h:=nr1 .nil;clear nr1 nr4 w X nb u B y2;cases bb<;>first|exact⟨rfl,rfl⟩| (simp[ah,H.get,SJ]at h)
 refine⟨?_,?_⟩
 ·simp only[UQ,UP,UM,UE,G.new_lg,G.put_lg,setLog_lg];refine bf (XK (XI (XI (true::(false::(XK (true::[]))))))) [(6,18),(7,18),(8,18),(9,18),(10,18),(11,18),(12,18),(13,18),(14,18),(15,18),(16,18),(17,18)] (by simp[All2,am,aA,ko,gP]) (by decide) ?_;rintro pp f x y hx q;simp only[UW,Uu,WK]at f;rcases f with rfl|rfl|rfl|rfl|rfl|rfl|rfl|rfl|rfl|rfl|rfl|rfl<;>(simp at hx q;subst hx;subst q;refine fP rfl rfl rfl rfl ?_ ?_ ?_<;>first| (simp[am,aA,I.1,I.2];done)|simp[am,aA,af,js,ko,gP,sx,aw,an])
 have K:(S.Sx n)[vn]?.getD 0=y.card:=by simp[S.Sx,q]
 refine⟨NoP,(n,e.set vn (-1),vn,kn,((p:Int),(p':Int))),⟨o.nr,Mf he (by decide) (by rw[K];omega),by rw[WE];show vn<_;omega,?_,?_,J⟩,_,_,_,_,_,rfl,X _,⟨_,rfl,hr5.sl _⟩,ax.2 rfl,ax.2 rfl,rZ.2 rfl⟩
 ·show (e.set vn (-1))[vn]?.getD 0<0;rw[Vx (by omega)];decide
 ·refine⟨by show (0:Int)<=(kn:Int);omega,?_⟩;show (kn:Int)<(S.Sx n)[((vn:Nat):Int).toNat]?.getD 0;rw[U2,K];omega
end
section
set_option linter.unusedSimpArgs false
theorem R3(a b:Nat):bB .leq (X_ (a:Int)) (X_ (b:Int))=.val (.bool (decide (a<b+1))):=by rw[Dv];congr 2;rw[U7,decide_eq_true_iff,decide_eq_true_iff];omega
theorem yk{j:Nat}(h:j<9223372036854775808):bB .add (X_ (j:Int)) (X_ 1)=.val (X_ ((j+1:Nat):Int)):=by rw[wn,dR (by omega) (by omega)];rfl
end
section
variable {i:Nat}
set_option linter.unusedSimpArgs false
theorem qQ{R:Nat->Bool}{ks:Nat}:s∈S.SU R ks↔s &&& ks=s/\S.S2 R s=true:=by rw[S.SU,WU,Ef]
theorem Nn{R:Nat->Bool}(h:S.S2 R s=true):R s=true:=by rw[S.S2,Uk]at h;exact h.1
theorem Jj{R:Nat->Bool}{t:Nat}(hs:s<256)(h:S.S2 R s=true)(ht:t &&& s=t)(hR:R t=true):t=s:=by rw[S.S2,Uk,Uz]at h;have:=h.2 t ((kY hs).2 ht);rw[hR]at this;simpa using this
theorem qP{R:Nat->Bool}{ks:Nat}(hks:ks<256):∀(m s:Nat),s<m->s &&& ks=s->R s=true->∃t∈S.SU R ks,t &&& s=t
 |0,_,h,_,_=>by omega
 | m+1,s,h,hs,hR=>by
  by_cases c:S.S2 R s=true
  ·exact⟨s,qQ.2 ⟨hs,c⟩,Nat.and_self s⟩
  ·have b:=xk hs hks;rw[S.S2,hR,Vd,Uz]at c;obtain⟨t,hc⟩:=Classical.not_forall.1 c;obtain⟨ht,hc⟩:=Classical.not_imp.1 hc;have k:=(kY b).1 ht;have i:t≠s:=λe=>hc (by simp[e]);have a:R t=true:=by
    cases hr:R t with
    |true=>rfl
    |false=>exact absurd (by simp[hr]) hc
   have f:t<=s:=by rw[<-k];exact Wl
   obtain⟨u,hu,d⟩:=qP hks m t (by omega) (Id k hs) a;exact⟨u,hu,Id d k⟩
theorem HB(R:Nat->Bool)(ks:Nat):(S.SU R ks).Pairwise rm:=(Ie ks).filter _
theorem Pj{R:Nat->Bool}{ks:Nat}(hks:ks<256){j t:Nat}(hi:(S.SU R ks)[i]?=some s)(hj:(S.SU R ks)[j]?=some t)(hji:j<i):S.SB t s≠0:=by intro h;have hs:=qQ.1 (Ul hi);have ht:=qQ.1 (Ul hj);have e:=Jj (xk hs.1 hks) hs.2 (qz.1 h) (Nn ht.2);obtain⟨h1,k⟩:=Uh.1 hi;obtain⟨h2,a⟩:=Uh.1 hj;have:=(VE.1 (HB R ks)) j i h2 h1 hji;rw[k,a,e]at this;exact Bs this
theorem Pk{R:Nat->Bool}{ks:Nat}{t:Nat}(hi:(S.SU R ks)[i]?=some s)(hj:(S.SU R ks)[i - 1]?=some t)(h0:0<i):rm t s:=by obtain⟨h1,h⟩:=Uh.1 hi;obtain⟨h2,k⟩:=Uh.1 hj;have:=(VE.1 (HB R ks)) (i - 1) i h2 h1 (by omega);rwa [h,k]at this
theorem Nj{R:Nat->Bool}{ks:Nat}(hks:ks<256)(h0:R 0=true):S.SU R ks=[0]:=by
 have k:∀s∈S.SU R ks,s=0:=λs hs=>by have h:=qQ.1 hs;exact (Jj (xk h.1 hks) h.2 (Nat.zero_and s) h0).symm
 obtain⟨t,ht,-⟩:=qP (R:=R) hks 1 0 (by omega) (Nat.zero_and ks) h0;have hp:=HB R ks;generalize S.SU R ks=l at *
 match l,ht,hp,k with
 |[a],_,_,k=>rw[k a (by simp)]
 | a::b::r,_,hp,k =>
  have h:=(List.pairwise_cons.1 hp).1 b (by simp);rw[k a (by simp),k b (by simp)]at h;exact (Bs h).elim
theorem RC{l:List Nat}(hw:SlR NoP k .nil l w)(hne:l≠[]){c:Nat}(hc:c<=l.length) :
  ∃w',(∀g,H6 1 w none (some (X8 (c:Int))) g=.val w')/\SlR NoP k .nil (l.take c) w':=by
 have hlt:(l.take c).length<9223372036854775808:=by have:=hw.1;rw[U0];omega
 have h:=hw.2;unfold SlV at h
 split at h
 ·exact absurd h hne
 ·exact absurd h hne
 ·rename_i t s rows;obtain⟨h0,h1,h2⟩:=h;have a:=h2.len;have hs:s=1:=by
   rcases h1 with e|e
   ·exact e
   ·rw[e]at a;simp at a;exact absurd a hne
  subst hs;refine⟨.tsl t 1 (rows.take c),λg=>?_,hlt,h0,.inl rfl,h2.take c⟩;show orV (match br (bi rows) (bi rows) (some (X8 (.ofNat c))) with
   |none=>none
   | some h=>match br 0 h none with
    |none=>none
    |some l=>ak (Nat.beq 1 1) (some (.tsl t 1 (jB (h - l) (iA l rows)))) none)=_
  have:br (bi rows) (bi rows) (some (X8 (.ofNat c)))=some c:=by show ak (Nat.ble c (bi rows)) (some c) none=_;rw[aa,Un];rw[aq,<-a];simp;omega
  rw[this];show orV (ak (Nat.beq 1 1) (some (AV.tsl t 1 (jB (c - 0) (iA 0 rows)))) none)=_;rw[show Nat.beq 1 1=true from rfl,bif'_true,bk,bh,WA,WJ];rfl
 ·exact h.1.elim
 ·exact h.elim
section
variable {L:List Nat}{lw w3:AV}{Q:QT}{t:T}{g:G}
def LQ(ew lw rw arr:AV)(vn kn ks:Nat)(now:Bool)(kd:Int)(kk:Nat):List (Nat×AV):=[(7,X9 3),(8,ew),(9,X8 (vn:Int)),(10,X8 (kn:Int)),(11,X9 4),(14,rw),(16,.bool now),(20,X_ (ks:Int)),(21,X8 kd),(22,lw),(105,arr),(106,X8 (kk:Int))]
variable {ew rw arr:AV}{vn kn ks kk:Nat}{now:Bool}{kd:Int}
theorem R2[XOc](hl:L.length<9223372036854775808)(hi:i<=L.length)(hr:∀h,ah h 1 w3=some ((L.take i).map cu))(h8:∀x∈L,x<256)(hs8:s<256)(hd:∀j t,j<i->L[j]?=some t->S.SB t s≠0)
  (ht:St t ((24,X_ (s:Int))::(110,lw)::(111,X8 (L.length:Int))::(112,X8 (i:Int))::(158,w3)::LQ ew lw rw arr vn kn ks now kd kk)) (h159:tat t 159=X8 (i:Int)) (h160:tat t 160=X8 0)
  (fin:∀t,St t ((110,lw)::(111,X8 (L.length:Int))::(112,X8 (i:Int))::LQ ew lw rw arr vn kn ks now kd kk)->Q (.exit 4) t [] g):wpL (wp C0 1 none cW) Q t [] g:=by
 unfold cW;refine aV (m:=i) (by omega) (λj t df g'=>df=[]/\g'=g/\St t ((24,X_ (s:Int))::(110,lw)::(111,X8 (L.length:Int))::(112,X8 (i:Int))::(158,w3)::LQ ew lw rw arr vn kn ks now kd kk)) ⟨rfl,rfl,ht⟩ h160 h159 (by decide) ?_ ?_ ?_
 ·rintro j t df g v s (rfl|rfl|rfl) ⟨a1,a2,b1,b2,w,z,G,A,B,C,D,a,b,c,d,e,f,l,o,-⟩<;>exact⟨a1,a2,by simp[St,LQ,sx,b1,b2,w,z,G,A,B,C,D,a,b,c,d,e,f,l,o]⟩
 ·clear ht h159 h160;rintro j t df g' H ⟨rfl,rfl,u,p,q,r,k,A,B,C,D,a,b,c,d,e,f,l,o,-⟩ h160 h159;obtain⟨y,F⟩:∃y,L[j]?=some y:=⟨_,Uj (by omega)⟩;have I:=h8 y (Ul F);have J:j<((L.take i).map cu).length:=by rw[UK,U0];omega
  have K:((L.take i).map cu)[j]?=some (cu y):=by rw[Uo,V_,Un H,F];rfl
  have kn:=qq (m:=y) (n:=s) (by omega) (by omega);have E:¬((S.SB y s:Nat):Int)=0:=by have:=hd j y H F;omega
  simp only[sz,simprocAttr,u,k,h160,hr,J,K,cu,kn,E];simp[St,LQ,sx,u,p,q,r,k,h159,h160,A,B,C,D,a,b,c,d,e,f,l,o]
 ·rintro t df g' ⟨rfl,rfl,b1,b2,w,z,G,ht⟩;exact fin t ⟨b2,w,z,ht⟩
theorem Qx[XOc]{is:Bool}(hl:L.length<9223372036854775808)(hr:∀h,ah h 1 lw=some (L.map cu))(h8:∀x∈L,x<256)(hs8:s<256)
  (ht:St t ((27,X_ (s:Int))::(29,.bool is)::(31,.bool false)::(32,.bool false)::(214,lw)::LQ ew lw rw arr vn kn ks now kd kk)) (h215:tat t 215=X8 (L.length:Int)) (h216:tat t 216=X8 0)
  (fin:∀t,St t ((27,X_ (s:Int))::(29,.bool is)::(31,.bool (L.any λx=>decide (x &&& s=x)))::(32,.bool (L.any λx=>decide (x=s)))::LQ ew lw rw arr vn kn ks now kd kk)->Q (.exit 8) t [] g):wpL (wp C0 1 none bW) Q t [] g:=by
 unfold bW;refine aV (m:=L.length) hl (λj t df g'=>df=[]/\g'=g/\St t ((27,X_ (s:Int))::(29,.bool is)::(31,.bool ((L.take j).any λx=>decide (x &&& s=x)))::(32,.bool ((L.take j).any λx=>decide (x=s)))::(214,lw)::LQ ew lw rw arr vn kn ks now kd kk)) ⟨rfl,rfl,ht⟩ h216 h215 (by decide) ?_ ?_ ?_
 ·rintro j t df g v s (rfl|rfl|rfl) ⟨a1,a2,b1,b2,u,w,G,C,D,E,F,a,b,c,d,e,f,i,l,-⟩<;>exact⟨a1,a2,by simp[St,LQ,sx,b1,b2,u,w,G,C,D,E,F,a,b,c,d,e,f,i,l]⟩
 ·clear ht h215 h216;rintro j t df g' H ⟨rfl,rfl,o,p,q,r,k,C,D,E,F,a,b,c,d,e,f,i,l,-⟩ h216 h215;obtain⟨y,z⟩:∃y,L[j]?=some y:=⟨_,Uj H⟩;have J:=h8 y (Ul z);have M:j<(L.map cu).length:=by rw[UK];exact H
  have N:(L.map cu)[j]?=some (cu y):=by rw[Uo,z];rfl
  have kn:=qq (m:=y) (n:=s) (by omega) (by omega);have K:((L.take (j+1)).any λx=>decide (x &&& s=x))=(((L.take j).any λx=>decide (x &&& s=x)) || decide (y &&& s=y)):=by rw[qo z,List.any_append];simp
  have k2:((L.take (j+1)).any λx=>decide (x=s))=(((L.take j).any λx=>decide (x=s)) || decide (y=s)):=by rw[qo z,List.any_append];simp
  have e1:(((S.SB y s:Nat):Int)=0)=(y &&& s=y):=propext ⟨λh=>qz.1 (by omega),λh=>by have:=qz.2 h;omega⟩;have I:((y:Int)=(s:Int))=(y=s):=propext ⟨λh=>by omega,λh=>by omega⟩;rw[K,k2];generalize ((L.take j).any λx=>decide (x &&& s=x))=A at *;generalize ((L.take j).any λx=>decide (x=s))=B at *;cases A<;>cases B<;>simp only[sz,simprocAttr,o,p,q,r,k,h216,hr,M,N,cu,kn,e1,I]<;>simp[St,LQ,sx,o,p,q,r,k,h215,h216,C,D,E,F,a,b,c,d,e,f,i,l]
 ·rintro t df g' ⟨rfl,rfl,b1,b2,u,w,G,ht⟩;rw[U3]at u w;exact fin t ⟨b1,b2,u,w,ht⟩
end
end
section
set_option linter.unusedSimpArgs false
section
variable {L:List Nat}{R:Nat->Bool}{lw:AV}{Q:QT}{t:T}{g:G}{ew rw arr:AV}{vn kn ks kk:Nat}{now:Bool}{kd:Int}
theorem Qw[XOc](hks:ks<256)(hL:L=S.SU R ks)(hw:SlR NoP 0 .nil L lw)
  (ht:St t ((110,lw)::LQ ew lw rw arr vn kn ks now kd kk)) (h111:tat t 111=X8 (L.length:Int)) (h112:tat t 112=X8 0)
  (fin:∀t,St t (LQ ew lw rw arr vn kn ks now kd kk)->Q (.exit 2) t [] g):wpL (wp C0 1 none eT) Q t [] g:=by
 have hl:=hw.1;have hr:=λh=>(hw.tree (h':=h) (Ui 0)).nats;have h8:∀x∈L,x<256:=λx hx=>by rw[hL]at hx;exact AX hks x hx
 unfold eT jf;refine aV (m:=L.length) hl (λj t df g'=>df=[]/\g'=g/\St t ((110,lw)::LQ ew lw rw arr vn kn ks now kd kk)) ⟨rfl,rfl,ht⟩ h112 h111 (by decide) ?_ ?_ ?_
 ·rintro j t df g v s (rfl|rfl|rfl) ⟨a1,a2,b1,b6,b7,b8,b9,I,J,K,M,N,O,P,T,-⟩<;>exact⟨a1,a2,by simp[St,LQ,sx,b1,b6,b7,b8,b9,I,J,K,M,N,O,P,T]⟩
 ·clear ht h111 h112;rintro j t df g' H ⟨rfl,rfl,k,h7,D,h9,u,w,A,B,l,C,o,p,q,-⟩ h112 h111;obtain⟨y,E⟩:∃y,L[j]?=some y:=⟨_,Uj H⟩;have F:=h8 y (Ul E);have W:j<(L.map cu).length:=by rw[UK];exact H
  have X:(L.map cu)[j]?=some (cu y):=by rw[Uo,E];rfl
  have hm:=qQ.1 (by rw[<-hL];exact Ul E:y∈S.SU R ks);have kn':=qq (m:=y) (n:=ks) (by omega) (by omega);have e0:((S.SB y ks:Nat):Int)=0:=by have:=qz.2 hm.1;omega
  rw[e0]at kn';have kc:=λg:G=>CX (d:=1) (g:=g) (by decide) F;obtain⟨w3,V,Y⟩:=RC hw (by intro e;rw[e]at H;exact absurd H (by simp)) (c:=j) (by omega);have s3:=λh=>(Y.tree (h':=h) (Ui 0)).nats;have n3:=λg:G=>Y.len g;have hlt:((L.take j).length:Int)=(j:Int):=by rw[U0];omega
  rw[hlt]at n3;have nd:∀i t,i<j->L[i]?=some t->S.SB t y≠0:=λi t hi ht=>Pj hks (by rw[<-hL];exact E) (by rw[<-hL];exact ht) hi;have step:∀t',St t' ((24,X_ (y:Int))::(110,lw)::(111,X8 (L.length:Int))::(112,X8 (j:Int))::(158,w3)::LQ ew lw rw arr vn kn ks now kd kk)->tat t' 159=X8 (j:Int)->tat t' 160=X8 0->∀Q',(∀t,St t ((110,lw)::(111,X8 (L.length:Int))::(112,X8 (j:Int))::LQ ew lw rw arr vn kn ks now kd kk)->Q' (.exit 4) t [] g')->wpL (wp C0 1 none cW) Q' t' [] g':=λt' a b c Q' f=>R2 hl (by omega) s3 h8 F nd a b c f
  by_cases c0:0<j
  ·obtain⟨z,hz⟩:∃z,L[j - 1]?=some z:=⟨_,Uj (by omega)⟩;have U:=h8 z (Ul hz);have Z:j - 1<(L.map cu).length:=by rw[UK];omega
   have v2:(L.map cu)[j - 1]?=some (cu z):=by rw[Uo,hz];rfl
   have kz:=λg:G=>CX (d:=1) (g:=g) (by decide) U;have sb:bB .sub (X8 (j:Int)) (X8 1)=.val (X8 ((j - 1:Nat):Int)):=by rw[wo,aE (by omega) (by omega)];congr 2;omega
   have r:(0:Int)<(j:Int):=by omega
   have ho:rm z y:=Pk (by rw[<-hL];exact E) (by rw[<-hL];exact hz) c0;have g1:¬(S.SE y:Int)<(S.SE z:Int):=by rcases ho with h|h<;>omega
   by_cases c1:S.SE z=S.SE y
   ·have q1:(S.SE z:Int)=(S.SE y:Int):=by omega
    have q2:¬(y:Int)<=(z:Int):=by rcases ho with h|h<;>omega
    rw[q1]at kz;have q3:¬(S.SE y:Int)<(S.SE y:Int):=by omega
    simp only[sz,simprocAttr,k,h111,h112,o,l,hr,W,X,Z,v2,cu,kn',kc,kz,sb,r,q2,q3,Xm,Xd,V,n3];refine step _ (by simp[St,LQ,sx,k,h111,h112,h7,D,h9,u,w,A,B,l,C,o,p,q]) (by simp[sx]) (by simp[sx]) _ λt ⟨b1,b2,b3,ht⟩=>?_;simp only[sz,simprocAttr];exact⟨⟨b1,ht⟩,b3,b2⟩
   ·have q1:¬(S.SE z:Int)=(S.SE y:Int):=by omega
    simp only[sz,simprocAttr,k,h111,h112,o,l,hr,W,X,Z,v2,cu,kn',kc,kz,sb,r,g1,q1,Xm,Xd,V,n3];refine step _ (by simp[St,LQ,sx,k,h111,h112,h7,D,h9,u,w,A,B,l,C,o,p,q]) (by simp[sx]) (by simp[sx]) _ λt ⟨b1,b2,b3,ht⟩=>?_;simp only[sz,simprocAttr];exact⟨⟨b1,ht⟩,b3,b2⟩
  ·have r:¬(0:Int)<(j:Int):=by omega
   simp only[sz,simprocAttr,k,h111,h112,o,l,hr,W,X,cu,kn',r,Xm,Xd,V,n3];refine step _ (by simp[St,LQ,sx,k,h111,h112,h7,D,h9,u,w,A,B,l,C,o,p,q]) (by simp[sx]) (by simp[sx]) _ λt ⟨b1,b2,b3,ht⟩=>?_;simp only[sz,simprocAttr];exact⟨⟨b1,ht⟩,b3,b2⟩
 ·rintro t df g' ⟨rfl,rfl,b1,ht⟩;exact fin t ht
theorem RX(x:Bool):jZ true .bool (.bool x) (.bool x)=.val (.bool false):=by cases x<;>rfl
theorem CJ:jZ true .bool (.bool true) (.bool true)=.val (.bool false):=rfl
theorem CI:jZ true .bool (.bool true) (.bool false)=.val (.bool true):=rfl
theorem CH:jZ true .bool (.bool false) (.bool true)=.val (.bool true):=rfl
theorem CG:jZ true .bool (.bool false) (.bool false)=.val (.bool false):=rfl
theorem CF:jZ false .bool (.bool true) (.bool true)=.val (.bool true):=rfl
theorem CE:jZ false .bool (.bool true) (.bool false)=.val (.bool false):=rfl
theorem CD:jZ false .bool (.bool false) (.bool true)=.val (.bool false):=rfl
theorem CC:jZ false .bool (.bool false) (.bool false)=.val (.bool true):=rfl
theorem L7(a b:Nat):S.SB a b<=a:=by
 have:S.SB a b=a &&& S.SB a b:=by apply Wp;intro i;simp only[S.SB,Xg,Nat.testBit_xor];cases a.testBit i<;>cases b.testBit i<;>rfl
 rw[this];exact Nat.and_le_left
theorem Pe[XOc]{F:Nat->Bool}{k2:Nat}{bb:AV}(hks:ks<256)(hL:L=S.SU R ks)(hw:SlR NoP 0 .nil L lw)(hm:∀h,Agg n NoP 0 h (.agg [X8 n.grain,bb]))(he:SlR NoP 0 .nil e ew)(hR:Rsn n e vn kn bn bd)(hF:∀s,S.S7 n e s vn kn bn bd=F s)(hRF:∀s,R s=F s)(hnow:now=F ks)
  (g3:g.h.get 3=Xs 2 [[X8 n.grain,bb]]) (g4:g.h.get 4=Xs 2 [[X8 bn,X8 bd]])
  (ht:St t ((27,X_ 0)::LQ ew lw rw arr vn kn ks now 0 kk))
  (fin:∀t,St t (LQ ew lw rw arr vn kn ks now 0 kk)->Q (.exit 6) t [] g):wpL (wp C0 1 none bX) Q t [] g:=by
 have hl:=hw.1;have hr:=λh=>(hw.tree (h':=h) (Ui 0)).nats;have nl:=λg:G=>hw.len g;have h8:∀x∈L,x<256:=λx hx=>by rw[hL]at hx;exact AX hks x hx
 have ldp':aI (Xs 2 [[X8 n.grain,bb]]) 0 0 true 2 0=.val (.agg [X8 n.grain,bb]):=rfl;unfold bX;refine xn (m:=ks+1) (λj t df g'=>df=[]/\g'=g/\St t ((27,X_ (j:Int))::LQ ew lw rw arr vn kn ks now 0 kk)) ⟨rfl,rfl,ht⟩ ?_ ?_ ?_
 ·rintro j t df g' hj ⟨rfl,rfl,i,X,Y,Z,b9,J,K,M,d,N,O,P,T,-⟩;simp only[sz,simprocAttr,i,d,R3];exact⟨by congr 1;rw[U7,decide_eq_true_iff,decide_eq_true_iff];omega,by simp[St,LQ,sx,i,X,Y,Z,b9,J,K,M,d,N,O,P,T]⟩
 ·clear ht;rintro j t df g' hj ⟨rfl,rfl,i,h7,p,h9,w,C,H,D,d,v,E,y,z,-⟩;have U:j<256:=by omega
  have kj:=qq (m:=j) (n:=ks) (by omega) (by omega)
  by_cases c0:j &&& ks=j
  rotate_left
  ·have e0:¬((S.SB j ks:Nat):Int)=0:=λh=>c0 (qz.1 (by omega));simp only[sz,simprocAttr,i,d,kj,e0,aS,yk (show j<9223372036854775808 by omega)];simp[St,LQ,sx,i,h7,p,h9,w,C,H,D,d,v,E,y,z]
  have e0:((S.SB j ks:Nat):Int)=0:=by have:=qz.2 c0;omega
  rw[e0]at kj;simp only[sz,simprocAttr,i,d,kj,p];refine dE (AW (s:=j) (e:=e) (by decide) (he.tree (Ui 0)) (Uy hR.l (by decide)) (by omega)) λr5 hr5=>?_;simp only[sz,simprocAttr,i,d,v,p];have kt:∀g:G,ae C0 1 28 [.agg [X8 n.grain,bb],r5,X8 (vn:Int),X8 (kn:Int),.agg [X8 bn,X8 bd]] g=.val (.tup [.bool (F j),.bool true]):=λg=>by rw[<-hF];exact JR (s:=j) (k:=0) (k2:=0) (by decide) (hm _) (hr5.sl _) (by decide) hR
  have o:=hRF j;have step:∀t',St t' ((27,X_ (j:Int))::(29,.bool (F j))::(31,.bool false)::(32,.bool false)::(214,lw)::LQ ew lw rw arr vn kn ks now 0 kk)->tat t' 215=X8 (L.length:Int)->tat t' 216=X8 0->∀Q',(∀t,St t ((27,X_ (j:Int))::(29,.bool (F j))::(31,.bool (L.any λx=>decide (x &&& j=x)))::(32,.bool (L.any λx=>decide (x=j)))::LQ ew lw rw arr vn kn ks now 0 kk)->Q' (.exit 8) t [] g')->wpL (wp C0 1 none bW) Q' t' [] g':=λt' a b c Q' f=>Qx hl hr h8 U a b c f;have hc:R j=true->(L.any λx=>decide (x &&& j=x))=true:=λh=>by obtain⟨u,hu,I⟩:=qP (R:=R) hks (j+1) j (by omega) c0 h;rw[W6];exact⟨u,by rw[hL];exact hu,VA I⟩
  have W:R j=false->(L.any λx=>decide (x=j))=false:=λh=>by rw[<-U5,W6];rintro⟨u,hu,I⟩;rw[hL]at hu;have:=Nn (qQ.1 hu).2;rw[of_decide_eq_true I,h]at this;cases this
  generalize (L.any λx=>decide (x &&& j=x))=A at *;generalize (L.any λx=>decide (x=j))=B at *;unfold eU;have stepF:∀t',St t' ((28,r5)::(27,X_ (j:Int))::LQ ew lw rw arr vn kn ks now 0 kk)->True:=λ_ _=>trivial
  by_cases cj:j=ks
  ·have q:(j:Int)=(ks:Int):=by omega
   have V:jZ true .bool (.bool (F j)) (.bool now)=.val (.bool false):=by rw[cj,hnow];exact RX _
   simp only[sz,simprocAttr,h7,p,h9,w,C,D,d,v,E,i,q,g3,g4,ldp',Ec,kt,V,nl];refine step _ (by simp[St,LQ,sx,h7,p,h9,w,C,H,D,d,v,E,i,y,z]) (by simp[sx]) (by simp[sx]) _ λt ⟨c27,c29,c31,c32,c7,c8,c9,c10,c11,c14,c16,c20,c21,c22,c105,c106,_⟩=>?_;unfold cX;cases hA:R j with
   | true =>
    have a1:=hc hA;subst a1;rw[hA]at o;have r:=o.symm;cases B<;>simp only[sz,simprocAttr,c27,c29,c31,c32,c21,r,CJ,CI,CH,CG,CF,CE,CD,CC,aS,yk (show j<9223372036854775808 by omega)]<;>simp[St,LQ,sx,c27,c7,c8,c9,c10,c11,c14,c16,c20,c21,c22,c105,c106]
   | false =>
    have a1:=W hA;subst a1;rw[hA]at o;have r:=o.symm;cases A<;>simp only[sz,simprocAttr,c27,c29,c31,c32,c21,r,CJ,CI,CH,CG,CF,CE,CD,CC,aS,yk (show j<9223372036854775808 by omega)]<;>simp[St,LQ,sx,c27,c7,c8,c9,c10,c11,c14,c16,c20,c21,c22,c105,c106]
  ·have q:¬(j:Int)=(ks:Int):=by omega
   simp only[sz,simprocAttr,h7,p,h9,w,C,D,d,v,E,i,q,g3,g4,ldp',Ec,kt,nl];refine step _ (by simp[St,LQ,sx,h7,p,h9,w,C,H,D,d,v,E,i,y,z]) (by simp[sx]) (by simp[sx]) _ λt ⟨c27,c29,c31,c32,c7,c8,c9,c10,c11,c14,c16,c20,c21,c22,c105,c106,_⟩=>?_;unfold cX;cases hA:R j with
   | true =>
    have a1:=hc hA;subst a1;rw[hA]at o;have r:=o.symm;cases B<;>simp only[sz,simprocAttr,c27,c29,c31,c32,c21,r,CJ,CI,CH,CG,CF,CE,CD,CC,aS,yk (show j<9223372036854775808 by omega)]<;>simp[St,LQ,sx,c27,c7,c8,c9,c10,c11,c14,c16,c20,c21,c22,c105,c106]
   | false =>
    have a1:=W hA;subst a1;rw[hA]at o;have r:=o.symm;cases A<;>simp only[sz,simprocAttr,c27,c29,c31,c32,c21,r,CJ,CI,CH,CG,CF,CE,CD,CC,aS,yk (show j<9223372036854775808 by omega)]<;>simp[St,LQ,sx,c27,c7,c8,c9,c10,c11,c14,c16,c20,c21,c22,c105,c106]
 ·rintro t df g' ⟨rfl,rfl,b1,ht⟩;exact fin t ht
theorem Pf[XOc]{F:Nat->Bool}{k2:Nat}{bb:AV}(hks:ks<256)(hL:L=S.SU R ks)(hw:SlR NoP 0 .nil L lw)(hm:∀h,Agg n NoP 0 h (.agg [X8 n.grain,bb]))(he:SlR NoP 0 .nil e ew)(hR:Rsn n e vn kn bn bd)(hF:∀s,S.S7 n e s vn kn bn bd=F s)(hRF:∀s,R s = !F (S.SB ks s))(hnow:now=F ks)
  (g3:g.h.get 3=Xs 2 [[X8 n.grain,bb]]) (g4:g.h.get 4=Xs 2 [[X8 bn,X8 bd]])
  (ht:St t ((27,X_ 0)::LQ ew lw rw arr vn kn ks now 1 kk))
  (fin:∀t,St t (LQ ew lw rw arr vn kn ks now 1 kk)->Q (.exit 6) t [] g):wpL (wp C0 1 none bX) Q t [] g:=by
 have hl:=hw.1;have hr:=λh=>(hw.tree (h':=h) (Ui 0)).nats;have nl:=λg:G=>hw.len g;have h8:∀x∈L,x<256:=λx hx=>by rw[hL]at hx;exact AX hks x hx
 have ldp':aI (Xs 2 [[X8 n.grain,bb]]) 0 0 true 2 0=.val (.agg [X8 n.grain,bb]):=rfl;unfold bX;refine xn (m:=ks+1) (λj t df g'=>df=[]/\g'=g/\St t ((27,X_ (j:Int))::LQ ew lw rw arr vn kn ks now 1 kk)) ⟨rfl,rfl,ht⟩ ?_ ?_ ?_
 ·rintro j t df g' Z ⟨rfl,rfl,i,U,V,W,X,I,J,K,d,M,N,O,P,-⟩;simp only[sz,simprocAttr,i,d,R3];exact⟨by congr 1;rw[U7,decide_eq_true_iff,decide_eq_true_iff];omega,by simp[St,LQ,sx,i,U,V,W,X,I,J,K,d,M,N,O,P]⟩
 ·clear ht;rintro j t df g' Z ⟨rfl,rfl,i,h7,o,h9,w,y,H,z,d,p,C,r,v,-⟩;have T:j<256:=by omega
  have kj:=qq (m:=j) (n:=ks) (by omega) (by omega)
  by_cases c0:j &&& ks=j
  rotate_left
  ·have e0:¬((S.SB j ks:Nat):Int)=0:=λh=>c0 (qz.1 (by omega));simp only[sz,simprocAttr,i,d,kj,e0,aS,yk (show j<9223372036854775808 by omega)];simp[St,LQ,sx,i,h7,o,h9,w,y,H,z,d,p,C,r,v]
  have e0:((S.SB j ks:Nat):Int)=0:=by have:=qz.2 c0;omega
  rw[e0]at kj;simp only[sz,simprocAttr,i,d,kj,o];refine dE (AW (s:=j) (e:=e) (by decide) (he.tree (Ui 0)) (Uy hR.l (by decide)) (by omega)) λr5 hr5=>?_;simp only[sz,simprocAttr,i,d,p,o];have kd':=qq (m:=ks) (n:=j) (by omega) (by omega);have Y:=L7 ks j;simp only[sz,simprocAttr,o,kd'];refine dE (AW (s:=S.SB ks j) (e:=e) (by decide) (he.tree (Ui 0)) (Uy hR.l (by decide)) (by omega)) λr6 hr6=>?_;have kt:∀g:G,ae C0 1 28 [.agg [X8 n.grain,bb],r6,X8 (vn:Int),X8 (kn:Int),.agg [X8 bn,X8 bd]] g=.val (.tup [.bool (F (S.SB ks j)),.bool true]):=λg=>by rw[<-hF];exact JR (s:=(S.SB ks j)) (k:=0) (k2:=0) (by decide) (hm _) (hr6.sl _) (by decide) hR
  have q:=hRF j;have step:∀t',St t' ((27,X_ (j:Int))::(29,.bool (F (S.SB ks j)))::(31,.bool false)::(32,.bool false)::(214,lw)::LQ ew lw rw arr vn kn ks now 1 kk)->tat t' 215=X8 (L.length:Int)->tat t' 216=X8 0->∀Q',(∀t,St t ((27,X_ (j:Int))::(29,.bool (F (S.SB ks j)))::(31,.bool (L.any λx=>decide (x &&& j=x)))::(32,.bool (L.any λx=>decide (x=j)))::LQ ew lw rw arr vn kn ks now 1 kk)->Q' (.exit 8) t [] g')->wpL (wp C0 1 none bW) Q' t' [] g':=λt' a b c Q' f=>Qx hl hr h8 T a b c f;have hc:R j=true->(L.any λx=>decide (x &&& j=x))=true:=λh=>by obtain⟨u,hu,E⟩:=qP (R:=R) hks (j+1) j (by omega) c0 h;rw[W6];exact⟨u,by rw[hL];exact hu,VA E⟩
  have hn:R j=false->(L.any λx=>decide (x=j))=false:=λh=>by rw[<-U5,W6];rintro⟨u,hu,E⟩;rw[hL]at hu;have:=Nn (qQ.1 hu).2;rw[of_decide_eq_true E,h]at this;cases this
  generalize (L.any λx=>decide (x &&& j=x))=A at *;generalize (L.any λx=>decide (x=j))=B at *;unfold eU;simp only[sz,simprocAttr,h7,o,h9,w,y,z,d,p,C,i,g3,g4,ldp',Ec,kt,nl];refine step _ (by simp[St,LQ,sx,h7,o,h9,w,y,H,z,d,p,C,i,r,v]) (by simp[sx]) (by simp[sx]) _ λt ⟨c27,c29,c31,c32,c7,c8,c9,c10,c11,c14,c16,c20,c21,c22,c105,c106,_⟩=>?_;unfold cX;cases hA:R j with
  | true =>
   have a1:=hc hA;subst a1;rw[hA]at q;have D:F (S.SB ks j)=false:=by have:=q.symm;revert this;cases F (S.SB ks j)<;>simp
   cases B<;>simp only[sz,simprocAttr,c27,c29,c31,c32,c21,D,CJ,CI,CH,CG,CF,CE,CD,CC,aS,yk (show j<9223372036854775808 by omega)]<;>simp[St,LQ,sx,c27,c7,c8,c9,c10,c11,c14,c16,c20,c21,c22,c105,c106]
  | false =>
   have a1:=hn hA;subst a1;rw[hA]at q;have D:F (S.SB ks j)=true:=by have:=q.symm;revert this;cases F (S.SB ks j)<;>simp
   cases A<;>simp only[sz,simprocAttr,c27,c29,c31,c32,c21,D,CJ,CI,CH,CG,CF,CE,CD,CC,aS,yk (show j<9223372036854775808 by omega)]<;>simp[St,LQ,sx,c27,c7,c8,c9,c10,c11,c14,c16,c20,c21,c22,c105,c106]
 ·rintro t df g' ⟨rfl,rfl,b1,ht⟩;exact fin t ht
end
end
section
set_option linter.unusedSimpArgs false
section
variable {d k:Nat}{P:Nat->Prop}{g:G}{n:Net}{e:List Int}{v a bn bd:Int}{u w:AV}
end
theorem Ld[XOc]{d k:Nat}{P P2:Nat->Prop}{g:G}{l:List Nat}{v w:AV}(hd:0<d)(hv:SlR P k g.h l v)(hw:SlR P2 k2 g.h l w):ae C0 d 17 [v,w] g=.val (.bool true):=by
 obtain⟨v',e1,a⟩:=dy hv d;obtain⟨w',e,b⟩:=dy hw d;have n1:=λg=>(a .nil).len g;have n2:=λg=>(b .nil).len g;have i:=λh=>(a h).nats;have m:=λh=>(b h).nats;rw[uB];refine lF wJ (xs:=[v',w']) (by simp only[aD,e1,e]) (by simp[kh]) hd ?_;simp only[sz,simprocAttr,kh,n1,n2,my];refine im l.length hv.1 (λj t df g=>df=[]/\St t [(0,v'),(1,w')]) ⟨rfl,by simp[St,sx]⟩ (by simp[sx]) (by decide) (by rintro j t df g v s (rfl|rfl|rfl)<;>simp[St,sx]) ?_ ?_ ?_
 ·rintro j t df g c ⟨rfl,h0,h1,-⟩ h5;simp only[sz,simprocAttr,h0,h1,h5,n1];simp[St,sx,h0,h1]
 ·rintro j t df g c ⟨rfl,h0,h1,-⟩ h5;obtain⟨y,f,-,-⟩:=ay c;have n:j<(l.map cu).length:=by simpa using c
  have o:(l.map cu)[j]?=some (cu y):=by rw[Uo,f];rfl
  simp only[sz,simprocAttr,h0,h1,h5,i,m,n,o,cu];simp[St,sx,h0,h1,h5]
 ·rintro t df g ⟨rfl,-⟩;simp only[sz,simprocAttr,mz]
end
section
set_option linter.unusedSimpArgs false
def ua[XOc]{α:Type} [Rp α](f:Nat)(A:Net->List Int->Int->Int->Int->Int->α):Prop:=∀{d k:Nat} {P:Nat->Prop} {g:G} {n:Net} {e:List Int} {v a bn bd:Int} {u w:AV},0<d->Agg n NoP 0 g.h u->SlR P k g.h e w->k<=d ->
 ∃r,ae C0 d f [u,w,X8 v,X8 a,.agg [X8 bn,X8 bd]] g=.val r/\oE (One (A n e v a bn bd)) (One (S.SH n e v a bn bd)) NoP 0 .nil r
theorem ldp(a b:AV):aI (Xs 2 [[a,b]]) 0 0 true 2 0=.val (.agg [a,b]):=rfl
end
section
set_option linter.unusedSimpArgs false
theorem QZ{vn kn:Nat}(h:Askd n e vn kn bn bd):S.SH n e vn kn bn bd=if S.SM n e=0 then 7 else 0:=by
 have hl:=(dl.1 h.ev).1;have hf:S.S6 n e vn [(kn:Int)]=0:=IL (bw.2 h.r) ⟨h.ev,by omega,by have:=h.v;omega,by rw[U2];exact h.ng⟩ λx hx=>by rw[Vc]at hx;rw[hx];exact h.x
 rw[S.SH,Un hf,Un h.b]
theorem Nh(w:Nat):(S.Tg 0 w).1=0:=by simp[S.Tg]
theorem Rb{x y:AV}(hx:x.cells=[x]/\x.isTup=false)(hy:y.cells=[y]/\y.isTup=false):eF [.nils,.nils] [((0,1),x),((1,1),y)]=some [x,y]:=by simp[eF,hx,hy,dP,bi]
theorem R9{id:Nat}(h:g.h.get id=Xs 1 [[X_ 0]]):SlR (λ_=>True) 0 g.h [0] (.hsl id 0 0 1 none):=by refine⟨by show 1<_;decide,trivial,[[X_ 0]],?_,l9.2 ⟨rfl,by decide⟩,trivial⟩;show ah g.h 1 _=_;simp only[ah,h];rfl
theorem pF[XOc](hH:ua 11 S.TC)(hE:ua 13 S.Tx)(hD:ua 15 S.Ty){x:ve}{u1:AV}{vs:List UInt8}{z0 z1 z2 z3:UInt8}(hx:Agg x NoP 0 .nil u1)(hv:vs.length=9) :
  ∃g',(I C0).call 1 6 [u1,.agg (vs.map u8v),.agg [u8v z0,u8v z1,u8v z2,u8v z3]] G.empty=.ok (.bool true) g':=by
 obtain⟨xs,rfl,qx⟩:=hx;obtain⟨h1,h2,e1,-⟩:=xY.1 qx;have Y:xs.length=3:=by rw[e1];rfl
 clear e1 h1 h2;obtain⟨AA,J⟩:∃AA,AA=vs.map u8v:=⟨_,rfl⟩;have T:AA.length=9:=by rw[J];simp[hv]
 rw[<-J];have key:=i7 (C:=C0) (d:=1) (f:=6) («as»:=[.agg xs,.agg AA,.agg [u8v z0,u8v z1,u8v z2,u8v z3]]) (g:=G.empty) (K:=λv g'=>v=.bool true) sJ (by simp[gI]) ?_
 ·cases hc:(I C0).call 1 6 [.agg xs,.agg AA,.agg [u8v z0,u8v z1,u8v z2,u8v z3]] G.empty with
  |fail=>rw[hc]at key;exact key.elim
  |ok v g'=>rw[hc]at key;exact⟨g',by rw[show v=.bool true from key]⟩
 simp only[sz,simprocAttr,gI,yz];obtain⟨g0,hg0⟩:∃g0,g0=((G.empty.new (Xs xs.length [xs])).new (Xs AA.length [AA])).new (Xs 4 [[u8v z0,u8v z1,u8v z2,u8v z3]]):=⟨_,rfl⟩;rw[<-hg0];have f0:g0.h.get 0=Xs 3 [xs]:=by rw[hg0,Y];simp[sx,SD]
 have f1:g0.h.get 1=Xs 9 [AA]:=by rw[hg0,T];simp[sx,SD]
 have f2:g0.h.get 2=Xs 4 [[u8v z0,u8v z1,u8v z2,u8v z3]]:=by rw[hg0];simp[sx]
 have fn:g0.nx=3:=by rw[hg0];simp[sx]
 clear hg0;have ld0:aI (Xs 3 [xs]) 0 0 true 3 0=.val (.agg xs):=by
  match xs,Y with
  |[a,b,c],_=>rfl
 have ld1:aI (Xs 9 [AA]) 0 0 true 9 0=.val (.agg AA):=by
  match AA,T with
  |[a0,a1,a2,a3,a4,a5,a6,a7,a8],_=>rfl
 have ld2:aI (Xs 4 [[u8v z0,u8v z1,u8v z2,u8v z3]]) 0 0 true 4 0=.val (.agg [u8v z0,u8v z1,u8v z2,u8v z3]):=rfl;simp only[sz,simprocAttr,jF,EL,f0,f1,f2,ld0,ld1,ld2];rw[J];refine dE (KI (z0:=z0) (z1:=z1) (z2:=z2) (z3:=z3) (by decide) ⟨xs,rfl,qx⟩ hv) ?_;rintro r ⟨⟨n,e,vn,kn,bn,bd⟩,z,a1,a2,a3,a4,a5,rfl,q1,q2,q3,P,q5⟩;dsimp only at z q1 q2 q3 P q5;obtain⟨cn,rfl,V⟩:=q1;obtain⟨bb,rfl,h4⟩:=l_.1 V;have O:∀h,Agg n NoP 0 h (.agg [X8 n.grain,bb]):=λh=>za V h;obtain⟨ew,M,q2⟩:=q2;injection M with M;subst M;have q3:=ax.1 q3;injection q3 with q3;subst q3;have P:=ax.1 P;injection P with P;subst P;rw[rZ.1 q5];clear q5;have cw:=(q2.tree (h':=.nil) (Ui 0)).cell;have x3:∀a b c d e:AV,Hh (.tup [a,b,c,d,e]) 3=.val d/\Hh (.tup [a,b,c,d,e]) 4=.val e:=λ_ _ _ _ _=>⟨rfl,rfl⟩;simp only[sz,simprocAttr,fn,cw.1,cw.2,(x3 _ _ _ _ _).1,(x3 _ _ _ _ _).2];obtain⟨g1,A⟩:∃g1,g1=(((g0.new (Xs 2 [[X8 0,.nils]])).new (Xs 2 [[X8 0,X8 0]])).put 3 (Xs 2 [[X8 n.grain,bb]])).put 4 (Xs 2 [[X8 bn,X8 bd]]):=⟨_,rfl⟩;rw[<-A];have Q:g1.h.get 3=Xs 2 [[X8 n.grain,bb]]:=by rw[A];simp[SD]
 have e4:g1.h.get 4=Xs 2 [[X8 bn,X8 bd]]:=by rw[A];simp[SD]
 have n1:g1.nx=5:=by rw[A];simp[fn]
 clear A;have p:=QZ z;refine dE (hE (n:=n) (e:=e) (by decide) (O _) (q2.tree (Ui 0)) (US _)) λr hr=>?_;obtain⟨lw,rX,rfl,p1,p2⟩:=hr;have p2:=ax.1 p2;injection p2 with p2;subst p2;obtain⟨lw',q,Z⟩:=p1;injection q with q;subst q;simp only[sz,simprocAttr,Q,e4,ldp];refine dE (hD (n:=n) (e:=e) (by decide) (O _) (q2.tree (Ui 0)) (US _)) λr hr=>?_;obtain⟨rw,rX,rfl,p1,p2⟩:=hr;have p2:=ax.1 p2;injection p2 with p2;subst p2;obtain⟨rw',q,k2⟩:=p1;injection q with q;subst q;simp only[sz,simprocAttr,Q,e4,ldp];refine dE (hH (n:=n) (e:=e) (by decide) (O _) (q2.tree (Ui 0)) (US _)) λr hr=>?_;obtain⟨r1,rX,rfl,p1,p2⟩:=hr;have p2:=ax.1 p2;injection p2 with p2;subst p2;have p1:=gy.1 p1;injection p1 with p1;subst p1
 by_cases hz:S.SM n e=0
 ·rw[Un hz]at p;have X:S.SN n e=0:=eQ.2 ⟨bw.2 z.r,z.ev⟩;have kP:=λg:G=>M2 (d:=1) (g:=g) (n:=n) (e:=e) (v:=.agg [X8 n.grain,bb]) (by decide) (O _) (q2.tree (h':=g.h) (Ui 0));have hj:(S.TA n e).1=0:=by rw[S.TA,Un X,hz];exact Nh _
  rw[X]at kP;have ld1':∀a b:AV,aI (Xs 2 [[a,b]]) 0 0 false 1 0=.val a:=λ_ _=>rfl;rw[p];simp only[sz,simprocAttr,Q,ldp,kP,hj,ld1']
 rw[Um hz]at p;have h6:=z.r.l2;have h5:=(dl.1 z.ev).1;have hR:Rsn n e vn kn bn bd:=⟨z.r,z.ev,z.v,z.x,z.b,hz,by omega⟩;have y:=AR hR.l;have kn':=λg:G=>KJ (d:=1) (g:=g) (e:=e) (by decide) (q2.tree (h':=g.h) (Ui 0)) (Uy hR.l (by decide));obtain⟨ks,w⟩:∃ks,ks=S.kn e e.length:=⟨_,rfl⟩;obtain⟨F,hF⟩:∃F:Nat->Bool,F=S.TD n e vn kn bn bd:=⟨_,rfl⟩;have U:∀s,S.S7 n e s vn kn bn bd=F s:=λs=>by rw[hF];rfl
 have i:S.TC n e vn kn bn bd=F ks:=by rw[S.TC,VA p,Vd,w,hF]
 have hB:S.Tx n e vn kn bn bd=S.SU F ks:=by rw[S.Tx,Un p,w,hF]
 have hC:S.Ty n e vn kn bn bd=S.SU (λs=>!F (S.SB ks s)) ks:=by rw[S.Ty,Un p,w,hF]
 rw[hB]at Z;rw[hC]at k2;rw[<-w]at kn' y;obtain⟨now,W⟩:∃now,now=S.TC n e vn kn bn bd:=⟨_,rfl⟩;rw[p,<-W];rw[<-W]at i;have fw:=Rb (Z.tree (h':=.nil) (Ui 0)).cell (k2.tree (h':=.nil) (Ui 0)).cell;simp only[sz,simprocAttr,kn',fw];simp only[iE,jg];refine GP (m:=2) rfl (by omega) (λj t df g=>df=[]/\g=g1/\St t [(7,X9 3),(8,a2),(9,X8 (vn:Int)),(10,X8 (kn:Int)),(11,X9 4),(14,rw),(16,.bool now),(20,X_ (ks:Int)),(105,.agg [lw,rw])]) ⟨rfl,rfl,by simp[St,sx]⟩ (by simp[sx]) (by decide) ?_ ?_ ?_
 ·rintro j t df g v s (rfl|rfl|rfl) ⟨a1,a2,b1,b2,b3,b4,b5,b6,b7,b8,b9,-⟩<;>exact⟨a1,a2,by simp[St,sx,b1,b2,b3,b4,b5,b6,b7,b8,b9]⟩
 ·rintro j t df g hj ⟨rfl,rfl,h7,h8,h9,D,E,B,o,H,k,-⟩ u;have:j=0\/j=1:=by omega
  rcases this with rfl|rfl
  ·have N:ixV false 2 1 (.agg [lw,rw]) (X8 0)=.val lw:=rfl;have nl:=λg:G=>Z.len g;simp only[sz,simprocAttr,k,u,N,nl];refine Qw (R:=F) (L:=S.SU F ks) (lw:=lw) (ew:=a2) (rw:=rw) (arr:=.agg [lw,rw]) (vn:=vn) (kn:=kn) (ks:=ks) (kk:=0) (now:=now) (kd:=0) y rfl Z (by simp[St,LQ,sx,h7,h8,h9,D,E,B,o,H,k,u]) (by simp[sx]) (by simp[sx]) λt ⟨c7,c8,c9,c10,c11,c14,c16,c20,c21,c22,c105,c106,_⟩=>?_;simp only[sz,simprocAttr,eV];refine Pe (R:=F) (L:=S.SU F ks) (lw:=lw) (ew:=a2) (rw:=rw) (arr:=.agg [lw,rw]) (vn:=vn) (kn:=kn) (ks:=ks) (kk:=0) (now:=now) (F:=F) (k2:=0) y rfl Z O q2 hR U (λ_=>rfl) i Q e4 (by simp[St,LQ,sx,c7,c8,c9,c10,c11,c14,c16,c20,c21,c22,c105,c106]) λt ⟨c7,c8,c9,c10,c11,c14,c16,c20,c21,c22,c105,c106,_⟩=>?_;simp only[sz,simprocAttr];exact⟨by simp[St,c7,c8,c9,c10,c11,c14,c16,c20,c105],c106⟩
  ·have N:ixV false 2 1 (.agg [lw,rw]) (X8 1)=.val rw:=rfl;have nl:=λg:G=>k2.len g;simp only[sz,simprocAttr,k,u,N,nl];refine Qw (R:=λs=>!F (S.SB ks s)) (L:=S.SU (λs=>!F (S.SB ks s)) ks) (lw:=rw) (ew:=a2) (rw:=rw) (arr:=.agg [lw,rw]) (vn:=vn) (kn:=kn) (ks:=ks) (kk:=1) (now:=now) (kd:=1) y rfl k2 (by simp[St,LQ,sx,h7,h8,h9,D,E,B,o,H,k,u]) (by simp[sx]) (by simp[sx]) λt ⟨c7,c8,c9,c10,c11,c14,c16,c20,c21,c22,c105,c106,_⟩=>?_;simp only[sz,simprocAttr,eV];refine Pf (R:=λs=>!F (S.SB ks s)) (L:=S.SU (λs=>!F (S.SB ks s)) ks) (lw:=rw) (ew:=a2) (rw:=rw) (arr:=.agg [lw,rw]) (vn:=vn) (kn:=kn) (ks:=ks) (kk:=1) (now:=now) (F:=F) (k2:=0) y rfl k2 O q2 hR U (λ_=>rfl) i Q e4 (by simp[St,LQ,sx,c7,c8,c9,c10,c11,c14,c16,c20,c21,c22,c105,c106]) λt ⟨c7,c8,c9,c10,c11,c14,c16,c20,c21,c22,c105,c106,_⟩=>?_;simp only[sz,simprocAttr];exact⟨by simp[St,c7,c8,c9,c10,c11,c14,c16,c20,c105],c106⟩
 ·rintro t df g ⟨rfl,rfl,h7,h8,h9,D,E,B,o,H,k,-⟩;cases hb:now with
  | true =>
   rw[hb]at o;simp only[sz,simprocAttr,eg,o]
  | false =>
   rw[hb]at o i;have h3:S.SU (λs=>!F (S.SB ks s)) ks=[0]:=Nj y (by
    show (!F (S.SB ks 0))=true;rw[show S.SB ks 0=ks by simp[S.SB],<-i];rfl)
   rw[h3]at k2;have kse:=Ld (d:=1) (g:=g.new (Xs 1 [[X_ 0]])) (by decide) (k2.tree (h':=(g.new (Xs 1 [[X_ 0]])).h) (Ui 0)) (R9 (id:=g.nx) (by simp[SD]));simp only[sz,simprocAttr,eg,B,o,kse]
end
def S.TF(x:Nat):Nat:=(x / 2 ^ 1 &&& 6148914691236517205)+(x &&& 6148914691236517205)
def S.TM(x:Nat):Nat:=(x / 2 ^ 2 &&& 3689348814741910323)+(x &&& 3689348814741910323)
def S.T3(x:Nat):Nat:=(x / 2 ^ 4+x) &&& 1085102592571150095
theorem HJ:∀x:Nat,x<256->S.TF x<256/\S.TM (S.TF x)<256/\S.T3 (S.TM (S.TF x))<256/\S.T3 (S.TM (S.TF x))=S.SE x/\S.SE x &&& 127=S.SE x/\S.SE x<=8:=by decide +kernel
theorem QW(q:Nat)(h:q<=8):bB .and (X8 (q:Int)) (X8 127)=.val (X8 (q:Int)) :=
 match q,h with
 |0,_=>by kernel_rfl
 |1,_=>by kernel_rfl
 |2,_=>by kernel_rfl
 |3,_=>by kernel_rfl
 |4,_=>by kernel_rfl
 |5,_=>by kernel_rfl
 |6,_=>by kernel_rfl
 |7,_=>by kernel_rfl
 |8,_=>by kernel_rfl
theorem Pv[XOc]{x:Nat}(hd:0<d)(hx:x<256):ae C0 d 122 [X_ (x:Int)] g=.val (X8 (S.SE x:Int)):=by
 obtain⟨h1,h2,a,h4,h5,f⟩:=HJ x hx;rw[nU];refine eX pQ (xs:=[X_ (x:Int)]) (by simp only[aD,cg]) (by simp[eW]) hd ?_;have l:∀x:Nat,x<256->bB .shr (X_ (x:Int)) (X_ 1)=.val (X_ ((x / 2 ^ 1:Nat):Int)):=λx h=>iY .u64 x 1 (by omega);have m:∀x:Nat,x<256->bB .shr (X_ (x:Int)) (X_ 2)=.val (X_ ((x / 2 ^ 2:Nat):Int)):=λx h=>iY .u64 x 2 (by omega);have n:∀x:Nat,x<256->bB .shr (X_ (x:Int)) (X_ 4)=.val (X_ ((x / 2 ^ 4:Nat):Int)):=λx h=>iY .u64 x 4 (by omega);have o:∀x:Nat,x<256->bB .shr (X_ (x:Int)) (X_ 8)=.val (X_ 0):=λx h=>by have:=iY .u64 x 8 (by omega);rw[VN (by omega)]at this;exact this
 have p:∀x:Nat,x<256->bB .shr (X_ (x:Int)) (X_ 16)=.val (X_ 0):=λx h=>by have:=iY .u64 x 16 (by omega);rw[VN (by omega)]at this;exact this
 have q:∀x:Nat,x<256->bB .shr (X_ (x:Int)) (X_ 32)=.val (X_ 0):=λx h=>by have:=iY .u64 x 32 (by omega);rw[VN (by omega)]at this;exact this
 have d1:∀x k:Nat,x<256->x / 2 ^ k<256:=λx k h=>Wm (V9 _ _) h;have a1:∀x:Nat,x<256->bB .and (X_ (x:Int)) (X_ 6148914691236517205)=.val (X_ ((x &&& 6148914691236517205:Nat):Int)):=λx h=>mC x 6148914691236517205 (by omega) (by decide);have a2:∀x:Nat,x<256->bB .and (X_ (x:Int)) (X_ 3689348814741910323)=.val (X_ ((x &&& 3689348814741910323:Nat):Int)):=λx h=>mC x 3689348814741910323 (by omega) (by decide);have e:∀x:Nat,x<512->bB .and (X_ (x:Int)) (X_ 1085102592571150095)=.val (X_ ((x &&& 1085102592571150095:Nat):Int)):=λx h=>mC x 1085102592571150095 (by omega) (by decide);have w1:IntKind.wrap .u64 (((x / 2 ^ 1 &&& 6148914691236517205:Nat):Int)+((x &&& 6148914691236517205:Nat):Int))=((S.TF x:Nat):Int):=by rw[S.TF]at h1;rw[dR (by omega) (by omega),S.TF];omega
 obtain⟨y,i⟩:∃y,y=S.TF x:=⟨_,rfl⟩;rw[<-i]at h1 h2 a h4 w1;have c:IntKind.wrap .u64 (((y / 2 ^ 2 &&& 3689348814741910323:Nat):Int)+((y &&& 3689348814741910323:Nat):Int))=((S.TM y:Nat):Int):=by rw[S.TM]at h2;rw[dR (by omega) (by omega),S.TM];omega
 obtain⟨z,hz⟩:∃z,z=S.TM y:=⟨_,rfl⟩;rw[<-hz]at h2 a h4 c;have j:=d1 z 4 h2;have r:IntKind.wrap .u64 (((z / 2 ^ 4:Nat):Int)+(z:Int))=((z / 2 ^ 4+z:Nat):Int):=by rw[dR (by omega) (by omega)];omega
 have b:=e (z / 2 ^ 4+z) (by omega);rw[show z / 2 ^ 4+z &&& 1085102592571150095=S.T3 z from rfl,h4]at b;rw[h4]at a;have s:IntKind.wrap .u64 ((S.SE x:Int)+0)=(S.SE x:Int):=by rw[dR (by omega) (by omega)];omega
 have w5:IntKind.wrap .i64 (S.SE x:Int)=(S.SE x:Int):=aE (by omega) (by omega);have a4:=QW (S.SE x) f;simp only[sz,simprocAttr,eW,l x hx,a1 _ (d1 x 1 hx),a1 x hx,w1,m y h1,a2 _ (d1 y 2 h1),a2 y h1,c,n z h2,r,b,o _ a,p _ a,q _ a,s,w5,a4]
theorem QJ[XOc]{x:Nat}(hd:0<d)(hx:x<256):ae C0 d 87 [X_ (x:Int)] g=.val (X8 (S.SE x:Int)):=by rw[pI];refine eX rT (xs:=[X_ (x:Int)]) (by simp only[aD,cg]) (by simp[fV]) hd ?_;have k:=λg=>Pv (d:=d+1) (g:=g) (UC d) hx;simp only[sz,simprocAttr,fV,k]
def S.Tq(a b:Nat):Int:=if S.SE a=S.SE b then (if a<b then -1 else 1) else (S.SE a:Int) - S.SE b
theorem Jb{a b:Nat}:S.Tq a b<0↔rm a b:=by
 unfold S.Tq rm
 repeat' split
 all_goals omega
theorem Pc[XOc]{a b:Nat}(hd:0<d)(ha:a<256)(hb:b<256):ac (I C0) d g 86 [X_ (a:Int),X_ (b:Int)]=.val (X8 (S.Tq a b)):=by
 refine eX nX (xs:=[X_ (a:Int),X_ (b:Int)]) (by simp only[aD,cg]) (by simp[bM]) hd ?_;have k:=λg=>QJ (d:=d+1) (g:=g) (UC d) ha;have k2:=λg=>QJ (d:=d+1) (g:=g) (UC d) hb;have p1:=(HJ a ha).2.2.2.2.2;have p2:=(HJ b hb).2.2.2.2.2;have w:bB .sub (X8 (S.SE a:Int)) (X8 (S.SE b:Int))=.val (X8 ((S.SE a:Int) - S.SE b)):=by rw[wo,aE (by omega) (by omega)]
 by_cases c:S.SE a=S.SE b
 ·have e:(S.SE a:Int) - S.SE b=0:=by omega
  rw[e]at w
  by_cases c2:a<b
  ·have h:(a:Int)<(b:Int):=by omega
   rw[S.Tq,Un c,Un c2];simp only[sz,simprocAttr,bM,k,k2,w,h]
  ·have h:¬(a:Int)<(b:Int):=by omega
   rw[S.Tq,Un c,Um c2];simp only[sz,simprocAttr,bM,k,k2,w,h]
 ·have e:¬(S.SE a:Int) - S.SE b=0:=by omega
  rw[S.Tq,Um c];simp only[sz,simprocAttr,bM,k,k2,w,e]
end
end Hx
section
namespace Hx
open Go Go.Proofs Go.Shelf Go.Sort Go.RowKit
abbrev El (L:List Int):Type:={ x:Int // x∈L }
def oO(L:List Int):El L->Value:=λx=>.int .u64 x.1
def mB(L:List Int):Array (El L):=L.attach.toArray
def eci{L:List Int}(x:El L):List AV:=[X_ x.1]
theorem d4(L:List Int):(mB L).size=L.length:=by simp[mB]
def P9(C:Cfg)(d:Nat)(g:G)(f:Nat)(cap:List AV)(L:List Int)(cf:El L->El L->Int):Prop :=
 ∀x y,ac (I C) d g f (X_ x.1::X_ y.1::cap)=.val (X8 (cf x y))
def xr(C:Cfg)(d:Nat)(g:G)(id len:Nat)(rows:List (List AV))(f:Nat)(cap:List AV)(R:List Int):Prop :=
 ∃(L:List Int) (_:Inhabited (El L)) (cf:El L->El L->Int),rows=L.map (λx=>[X_ x])/\len=L.length/\L.length<4611686018427387904/\(id ∉ cap.flatMap (aw g.h an)/\∀k∈cap.flatMap (aw g.h an),k∈aw g.h an (.clo f [] cap)) /\
  SWO (ltOf cf)/\P9 C d g f cap L cf/\R=(pdq (ltOf cf) (mB L) 0 L.length (Lib.bitLen L.length) true true).toList.map (·.1)
open Classical in
noncomputable def rQ(C:Cfg):Nat->List AV->G->OR:=λd xs g =>
 match xs with
 | [.hsl id ep 0 len _,.clo f [] cap]=>match g.h.get id with
  |.cells 1 rows ep' lo false=>if h:ep=ep'/\∃R,xr C d g id len rows f cap R then .upd (.tup []) (g.put id (.cells 1 (h.2.choose.map λx=>[X_ x]) ep lo false)) else .fail
  |_=>.fail
 |_=>.fail
theorem yg{C:Cfg}{d:Nat}{xs:List AV}{g:G}(h:rQ C d xs g≠.fail):∃id ep len lim f cap rows lo R,xs=[.hsl id ep 0 len lim,.clo f [] cap]/\g.h.get id=.cells 1 rows ep lo false/\xr C d g id len rows f cap R /\
  rQ C d xs g=.upd (.tup []) (g.put id (.cells 1 (R.map λx=>[X_ x]) ep lo false)):=by
 unfold rQ at h ⊢
 split at h
 ·rename_i id ep len lim f cap
  split at h
  ·rename_i rows ep' lo k
   split at h
   ·rename_i hc;obtain⟨rfl,hR⟩:=hc;refine⟨id,ep,len,lim,f,cap,rows,lo,hR.choose,rfl,k,hR.choose_spec,?_⟩
    first|simp only[k]|skip
    rw[dif_pos ⟨rfl,hR⟩]
   ·exact absurd rfl h
  ·exact absurd rfl h
 ·exact absurd rfl h
section
variable {C:Cfg}{A:Nat->Nat->Prop}{bd:Nat}{w:World}{γ:Gm}{hg:Nat->AObj}{nx:Nat}
theorem D9{ih:IH}{g:G}{f:Nat}{args:List AV}{vs:List Value}{k:IntKind}{z:Int}(hc:zB C ih)(hm:wg ih)(hr:Rel C A bd w γ hg nx)
  (hx:∀id∈args.flatMap (aw g.h an),g.h.get id≠.none->hg id=g.h.get id)
  (hv:RVs w γ A bd args vs) (hres:ac ih (bd+1) g f args=.val (.int k z)) (cs:List Frame) :
  Enters C.P f/\∃w',Stp w γ w' γ/\(∀b,b<w.heap.size->w'.heap[b]?=w.heap[b]?)/\Outs C.P .normal f vs.toArray cs w (.int k z) w':=by
 let γc:Gm:=λ_=>⟨0,0,0,0,0,0,0,false⟩
 let L:Nat->Prop:=λid=>id∈args.flatMap (aw g.h an)
 let isC:Nat->Prop:=λid=>∃sz rows ep lo fz,g.h.get id=.cells sz rows ep lo fz
 let Ac:Nat->Nat->Prop:=λt b=>(t<=bd/\(A t b\/Mut γ b))\/(t=bd+1/\b<w.heap.size/\¬∃id,L id/\isC id/\(γ id).kind=1/\(γ id).blk=b)
 have e:∀b,¬Mut γc b:=by rintro b ⟨id,h,_⟩;exact h rfl
 unfold ac at hres
 split at hres
 ·cases hres
 rename_i xs0 D;have l:∀t b,t<=bd->b<w.heap.size->¬A t b->¬Mut γ b->¬Ac t b/\¬Mut γc b:=by
  intro t b h1 _ h2 B;refine⟨?_,e b⟩;rintro (⟨_,h|h⟩|⟨h,_⟩)
  ·exact h2 h
  ·exact B h
  ·omega
 have o:RVs w γc Ac (bd+1) xs0 vs:=by
  refine⟨by rw[lG D];exact hv.1,λi y v hy hvi=>?_⟩;obtain⟨x,h1,h2⟩:=fu D i y hy;refine (zu (L:=L) hr hx (V6 _) (Ui _) l ?_ an h2 (hv.2 i x v h1 hvi) λid hid=>Wb.2 ⟨x,Ul h1,hid⟩).1;intro id O p hk t B h4;have ht:t=bd+1:=Xf h4 B;refine⟨?_,e _⟩;rintro (⟨h,_⟩|⟨_,_,h⟩)
  ·omega
  ·exact h ⟨id,O,p,hk,rfl⟩
 have M:Rel C Ac (bd+1) w γc (λ_=>.none) 0:=by
  refine⟨λid=>rfl,λid h=>absurd rfl h,λi j h=>absurd rfl h,λid h=>absurd rfl h,?_,λgl sz rows h=>?_⟩
  ·rintro t b (⟨_,h|⟨id,h1,h2,B⟩⟩|⟨_,h,_⟩)
   ·exact hr.ab t b h
   ·rw[<-B];exact (hr.lt id h1).2
   ·exact h
  ·have:=hr.glob gl sz rows h;exact (lJ this (tY this (.inr ⟨_,_,_,_,_,rfl⟩)) l).mono (V6 _)
 split at hres
 ·cases hres
 rename_i r g' m;have d:G.empty.h.get=λ_=>AObj.none:=by funext id;simp[G.empty,H.get,SJ]
 obtain⟨E,I⟩:=hc (bd+1) f xs0 G.empty r g' m;obtain⟨u,w',γ',hg',a,N,F⟩:=I Ac w γc (λ_=>.none) 0 vs M (λid h=>by rw[d]at h;exact absurd rfl h) (λid _=>by rw[d])
  (λ_ _ _=>rfl) o .normal cs (.inl rfl)
 have q:Ext g'.h hg':=a.ext (hm _ _ _ _ _ _ m (λid _=>by rw[d])) (λid h=>by rw[d]at h;exact absurd rfl h);have n:∀b,b<w.heap.size->w'.heap[b]?=w.heap[b]?:=λb hb=>a.stp.fr b hb (e b);have J:Stp w γ w' γ:=Bp a.stp.sz a.stp.os a.stp.tape a.stp.output a.stp.dr n
 split at hres
 ·cases hres
 rename_i r' s;obtain⟨K,hcl⟩:=zu (A':=Ac) (γ':=γc) (L:=λ_=>True) a.rel (λid _=>q id) (Ui _) (US _) (λt b _ _ h _=>⟨h,e b⟩)
  (λid _ _ hk t _ _=>⟨a.rel.av id (by rw[hk];decide) t,e _⟩) an s N λ_ _=>trivial
 split at hres
 ·cases hres
 rw[aa]at hres
 split at hres
 ·injection hres with hres;subst hres;cases K;exact⟨E,w',J,n,F⟩
 ·split at hres
  ·cases hres
  ·split at hres
   ·cases hres
   ·rw[aa]at hres
    split at hres<;>cases hres
theorem Im{W w':World}(h1:W.heap.size<=w'.heap.size)(h2:w'.os=W.os)(h3:w'.tape=W.tape)(h4:w'.output=W.output)(h5:W.drawn<=w'.drawn)(hs:∀b,b<W.heap.size->w'.heap[b]?=W.heap[b]?) :
  ∃q os,w'=Sort.grow (W.drewN q) os:=by
 refine⟨w'.drawn - W.drawn,w'.heap.extract W.heap.size w'.heap.size,?_⟩;obtain⟨h,tp',dr',os',ou'⟩:=w';obtain⟨hp,tp,dr,os,ou⟩:=W;dsimp only at h1 h2 h3 h4 h5 hs;subst h2;subst h3;subst h4;have e1:h=hp++h.extract hp.size h.size:=by
  refine Wx λk=>?_;rw[Array.getElem?_append]
  split
  ·rename_i hk;exact hs k hk
  ·rename_i hk;rw[Array.getElem?_extract]
   by_cases hk2:k<h.size
   ·rw[Un (by omega)];congr 1;omega
   ·rw[Um (by omega),Vl (by omega)]
 have a:dr'=dr+(dr' - dr):=by omega
 simp only[Sort.grow,World.drewN,World.mk.injEq,true_and,and_true];exact⟨e1,a⟩
theorem H9{L:List Int} [Inhabited (El L)](blk off m:Nat)(os:Array Obj)(dk:Array (El L)):(sortWorld (oO L) w blk off m dk os).heap.size=w.heap.size+os.size:=by simp[sortWorld,Sort.grow,putRow,mapBlock,Sort.ahead]
theorem Ln{L:List Int} [Inhabited (El L)]{blk off m:Nat}{os:Array Obj}{dk:Array (El L)}{b:Nat}(hb:b<w.heap.size)(hne:b≠blk):(sortWorld (oO L) w blk off m dk os).heap[b]?=w.heap[b]?:=by simp only[sortWorld,Sort.grow,putRow,mapBlock,Sort.ahead];rw[Vp (by simpa using hb),Wj,Um (VC hne)]
theorem Lm{L:List Int} [Inhabited (El L)]{blk off m:Nat}{os:Array Obj}{dk:Array (El L)}{c:Array Value}{e:TypeId}{f:Nat×Nat}(h:w.heap[blk]?=some (.cells c e f)):(sortWorld (oO L) w blk off m dk os).heap[blk]?=some (.cells (Go.Sort.putCells (oO L) off dk c) e f):=by
 have hb:blk<w.heap.size:=(Vf.1 h).1;simp only[sortWorld,Sort.grow,putRow,mapBlock,Sort.ahead];rw[Vp (by simpa using hb),Wj,Un rfl,h]
 rfl
theorem Gu(hr:Rel C A bd w γ hg nx){id ep:Nat}{rows:List (List AV)}{lo:Bool}(hid:hg id=.cells 1 rows ep lo false){L:List Int} [Inhabited (El L)](hrows:rows.length=L.length)(m:Nat)(os:Array Obj)(dk:Array (El L))(hs:dk.size=L.length) :
  Stp w γ (sortWorld (oO L) w (γ id).blk (γ id).base m dk os) γ/\Rel C A bd (sortWorld (oO L) w (γ id).blk (γ id).base m dk os) γ (upd hg id (.cells 1 (dk.toList.map eci) ep lo false)) nx:=by
 have o:=hr.obj id;rw[hid]at o;obtain⟨u,k2,E,F,G,v,c,e,H,z,I,D⟩:=o;have hk:(γ id).kind≠0:=by rw[u];decide
 have hw:(γ id).wr=true:=by simpa using v
 obtain⟨W,hW⟩:∃W,W=sortWorld (oO L) w (γ id).blk (γ id).base m dk os:=⟨_,rfl⟩;rw[<-hW];have B:W.heap.size=w.heap.size+os.size:=by rw[hW];exact H9 _ _ _ _ _
 have d:∀b,b<w.heap.size->b≠(γ id).blk->W.heap[b]?=w.heap[b]?:=λb h1 h2=>by rw[hW];exact Ln h1 h2
 have n:W.heap[(γ id).blk]?=some (.cells (Go.Sort.putCells (oO L) (γ id).base dk c) e (0,0)):=by rw[hW];exact Lm H
 have s:Stp w γ W γ:=⟨by omega,by rw[hW];rfl,by rw[hW];rfl,by rw[hW];rfl,λb hb hm=>d b hb λe=>hm ⟨id,hk,hw,e.symm⟩,λ_ _ h=>h,λ_ _=>.inl ⟨rfl,rfl⟩,λ_ _=>⟨Ui _,λ_=>⟨rfl,rfl,rfl,rfl,rfl⟩⟩,by rw[hW];exact Nat.le_add_right _ _⟩;refine⟨s,?_⟩;have e:γ=upd γ id (γ id):=by funext k;unfold upd;split<;>simp_all
 have f:(dk.toList.map eci).length=rows.length:=by simp[hs,hrows]
 refine hr.set (gh:=γ id) e s (Ui _) ?_ ?_ ?_ ?_ ?_
 ·simp only[ObjRel];refine⟨u,k2,E,by rw[f];exact F,by rw[f];exact G,v,_,_,n,by rw[f];simpa [Go.Sort.putCells] using z,λi row hi=>?_,λi j row x hi l=>?_⟩
  ·rw[Uo,Option.map_eq_some_iff]at hi;obtain⟨y,-,rfl⟩:=hi
   rfl
  ·rw[Uo,Option.map_eq_some_iff]at hi;obtain⟨y,t,rfl⟩:=hi;have q:i<dk.size:=by have:=(Uh.1 t).1;simpa using this
   have r:j=0:=by have:=(Uh.1 l).1;simp[eci]at this;omega
   subst r;simp[eci]at l;subst l;refine⟨rfl,.int .u64 y.1,?_,.int _ _ _⟩;have hcl:(γ id).base+i<c.size:=by rw[hrows]at z;omega
   have p:dk[i]! = y:=by rw[getElem!_pos dk i q];have:=(Uh.1 t).2;simpa using this
   rw[show (γ id).base+i*1+0=(γ id).base+i from by omega];simp only[Go.Sort.putCells,Array.getElem?_mapIdx,Uv hcl,VK];rw[Un ⟨by omega,by omega⟩,show (γ id).base+i - (γ id).base=i from by omega,p]
   rfl
 ·have:=hr.lt id hk;exact⟨this.1,by omega⟩
 ·intro j l a eb;exact l (hr.inj j id a hk eb)
 ·exact hr.av id hk
 ·intro j l a _;exact d _ (hr.lt j a).2 λeb=>l (hr.inj j id a hk eb)
theorem LY(hC:CfgOk C)(hr:Rel C A bd w γ hg nx){g:G}{id ep f:Nat}{rows:List (List AV)}{lo:Bool}{cap:List AV}{us:List Value}{L:List Int} [hI:Inhabited (El L)]{cf:El L->El L->Int}(hx:∀k∈cap.flatMap (aw g.h an),g.h.get k≠.none->hg k=g.h.get k)
  (hid:hg id=.cells 1 rows ep lo false) (hrows:rows.length=L.length) (hnot:id ∉ cap.flatMap (aw g.h an)) (hv:RVs w γ A bd cap us) (hcmp:P9 C (bd+1) g f cap L cf) :
  Enters C.P f/\CmpLays1 C.P f us.toArray (oO L) cf (γ id).blk (γ id).base L.length w:=by
 have key:∀(m:Nat) (os:Array Obj) (dk:Array (El L)),dk.size=L.length->∀x y:El L,∀cs,Enters C.P f/\∃w',Stp (sortWorld (oO L) w (γ id).blk (γ id).base m dk os) γ w' γ/\(∀b,b<(sortWorld (oO L) w (γ id).blk (γ id).base m dk os).heap.size->w'.heap[b]?=(sortWorld (oO L) w (γ id).blk (γ id).base m dk os).heap[b]?) /\
   Outs C.P .normal f (oO L x::oO L y::us).toArray cs (sortWorld (oO L) w (γ id).blk (γ id).base m dk os) (.int .i64 (cf x y)) w':=by
  intro m os dk hs x y cs;obtain⟨o,l⟩:=Gu hr hid hrows m os dk hs;have h:=hcmp x y;obtain⟨N,hN⟩:=vC (C:=C) (d:=bd+1) (g:=g) (f:=f) (args:=X_ x.1::X_ y.1::cap);have n:ac (sem C N) (bd+1) g f (X_ x.1::X_ y.1::cap)=ac (I C) (bd+1) g f (X_ x.1::X_ y.1::cap):=hN N (Ui _);rw[<-n]at h;have j:=mb hC N;refine D9 j.call j.mon.call l (λk hk hn=>?_) ?_ h cs
  ·have c:k∈cap.flatMap (aw g.h an):=by
    rw[UY,UY,UL,UL]at hk;rcases hk with hk|hk|hk
    ·simp[aw,an]at hk
    ·simp[aw,an]at hk
    ·exact hk
   rw[cJ _ _ (λe=>hnot (by rw[<-e];exact c))];exact hx k c hn
  ·refine⟨by simp[hv.1],λi a v ha hva=>?_⟩
   match i,ha,hva with
   |0,ha,hva=>simp at ha hva;subst ha;subst hva;exact .int _ _ _
   |1,ha,hva=>simp at ha hva;subst ha;subst hva;exact .int _ _ _
   |i+2,ha,hva=>exact (hv.2 i a v (by simpa using ha) (by simpa using hva)).step o
 refine⟨(key 0 #[] (mB L) (d4 L) default default []).1,λm os dk hs x y cs=>?_⟩;obtain⟨-,w',s,same,fr,h1,h2,p,h4,h5,fn,q,h7⟩:=key m os dk hs x y cs;refine⟨.returned (.int .i64 (cf x y)),w',fr,⟨rfl,Im s.sz s.os s.tape s.output s.dr same⟩,?_,h5,h2,p,h4,fn,by rw[h5];exact q,h7⟩;have e:(#[oO L x,oO L y]++us.toArray:Array Value)=(oO L x::oO L y::us).toArray:=by simp
 rw[e];exact h1
theorem Ob{ρ:Ren}(L0:SlLaysF.n6 C.P ρ)(hent:Enters C.P (ρ.f 6))(hC:CfgOk C):ExtOk C (ρ.f 6) (rQ C):=by
 refine⟨λd xs g hwf=>?_,λd xs g y hy=>?_,λA bd w γ hg nx g xs vs hr hwf hx hf hv hne cs=>?_⟩
 ·apply Small.mon _ hwf
  by_cases h:rQ C d xs g=.fail
  ·rw[h];trivial
  ·obtain⟨id,ep,len,lim,f,cap,rows,lo,R,e1,m,W,o⟩:=yg h;rw[o];exact .inl ⟨_,_,rfl,by rw[m];simp⟩
 ·have h:rQ C d xs g≠.fail:=by rw[hy];simp
  obtain⟨id,ep,len,lim,f,cap,rows,lo,R,e1,m,W,o⟩:=yg h;rw[o]at hy;cases hy
 ·obtain⟨id,ep,len,lim,f,cap,rows,lo,R,rfl,m,⟨L,hI,cf,q1,q2,q3,⟨q4,q8⟩,q5,q6,q7⟩,o⟩:=yg hne;rw[o]at hf ⊢;obtain⟨T,U,rfl⟩:∃T U,vs=[T,U]:=by
   have:=hv.1
   match vs,this with
   |[a,b],_=>exact⟨a,b,rfl⟩
  have r1:RV w γ A bd (.hsl id ep 0 len lim) T:=hv.2 0 _ _ rfl rfl;have r2:RV w γ A bd (.clo f [] cap) U:=hv.2 1 _ _ rfl rfl;have z:id∈[AV.hsl id ep 0 len lim,.clo f [] cap].flatMap (aw g.h an):=by simp[UY,aw,an]
  have l:hg id=.cells 1 rows ep lo false:=by rw[hx id z (by rw[m];simp),m]
  have E:rows.length=L.length:=by rw[q1];simp
  obtain⟨c,G,Y,-⟩:=tH hr r1 l;have hz:(γ id).base+0*1=(γ id).base:=by omega
  rw[hz]at G;subst G;cases r2 with
  | clo _ _ _ _ vs us hl hl2 h h2 =>
   have N:vs=#[]:=by
    have:vs.size=0:=by simpa using hl.symm
    exact Array.eq_empty_of_size_eq_zero this
   subst N;have O:RVs w γ A bd cap us.toList:=⟨by simpa using hl2,λi x v a b=>h2 i x v a (by simpa using b)⟩;obtain⟨I,q⟩:=LY (hI:=hI) hC hr (λk hk hn=>hx k (by
    rw[UY,UY,UL,UL];exact .inr (.inl (q8 k hk))) hn) l E q4 O q6
   have B:=hr.obj id;rw[l]at B;obtain⟨Z,k2,k3,k4,k5,k6,cc,ec,V,k8,k9,S⟩:=B;have X:Holds (oO L) w (γ id).blk (γ id).base (mB L):=by
    intro j H;rw[d4]at H;have F:rows[j]?=some [X_ L[j]]:=by rw[q1,Uo,Uj H];rfl
    obtain⟨-,v,p1,p2⟩:=S j 0 _ (X_ L[j]) F rfl;cases p2;have hd:(mB L)[j]! = ⟨L[j],VL H⟩:=by rw[getElem!_pos (mB L) j (by rw[d4];exact H)];simp[mB]
    refine⟨?_,by simp[World.frozen?,V]⟩;rw[hd];show World.cell? w (adr (γ id).blk ((γ id).base+j))=_;rw[mZ V];rw[show (γ id).base+j*1+0=(γ id).base+j from by omega]at p1;exact p1
   have t:=Any.slices_SortFunc_eq L0 (oO L) (λ_=>rfl) cf q5 f us.toList.toArray (γ id).blk (γ id).base c (mB L) w I (by rw[d4];exact q) X (hr.lt id (by rw[Z];decide)).2 (by rw[d4];exact q3);obtain⟨e,w1,fr,⟨he,n,os,Q⟩,p,u,K⟩:=t cs;subst he;obtain⟨m1,d1,kk1,fn,J,D⟩:=K;have M:=(pdq_sorts (ltOf cf) q5 (mB L) 0 (mB L).size (Lib.bitLen (mB L).size) true true (US _) (Ui _) (Or.inl rfl)).1.1;obtain⟨s,r⟩:=Gu hr l E n os (pdq (ltOf cf) (mB L) 0 (mB L).size (Lib.bitLen (mB L).size) true true) (by rw[M,d4]);rw[<-Q]at s r;have hR:(R.map λx=>[X_ x])=(pdq (ltOf cf) (mB L) 0 (mB L).size (Lib.bitLen (mB L).size) true true).toList.map eci:=by rw[q7,WI,d4];rfl
   rw[hR];refine⟨.tuple #[],w1,γ,_,IJ r s,.tup _ _ _ rfl λi x v hx'=>by simp at hx',.inr ⟨hent,fr,?_,m1,d1,kk1,u,fn,by rw[<-u];exact J,D⟩⟩;have e:(#[.slice (some ⟨(γ id).blk,(γ id).base,none⟩) (mB L).size c,.func (.func f) #[] us.toList.toArray]:Array Value)=[.slice (some (adr (γ id).blk (γ id).base)) len c,.func (.func f) #[] us].toArray:=by rw[d4,q2];simp[adr]
   rw[e]at p;exact p
end
end Hx
end
namespace Hx
open Go
noncomputable section
variable {d s k k2:Nat}{g:G}{e:List Int}{n:Net}{P:Nat->Prop}{bn bd v a:Int}{w u:AV}
end
end Hx
section
namespace Go.Proofs
open Go.Shelf
def Tryz.sort85_ren:Go.Shelf.Ren:=⟨λ| 6=>85 | 15=>120 | 14=>119 | 28=>149 | 29=>150 | 20=>141 | 21=>142 | 22=>143 | 23=>144 | 24=>145 | 25=>146 | 26=>147 | 27=>148 | 46=>160 | 47=>161 | 48=>162 | 49=>163 | 50=>164 | 57=>171 | n=>n,λ| 22=>50 | 24=>40 | 25=>144 | 3=>3 | 39=>40 | 0=>0 | 53=>188 | 55=>145 | 4=>4 | 46=>212 | 45=>211 | 50=>216 | 5=>5 | 9=>9 | 66=>225 | 70=>229 | 76=>236 | 77=>237 | n=>n,λ| n=>n⟩
theorem Tryz.sort85:Go.Proofs.SlLaysF.n6 Tryz.prog Tryz.sort85_ren:={
 mixed:=by kernel_rfl
 f6:=⟨Tryz.f85.name,by decide,Tryz.func85.trans (congrArg some (by kernel_rfl))⟩
 f14:=⟨Tryz.f119.name,by decide,Tryz.func119.trans (congrArg some (by kernel_rfl))⟩
 f15:=Tryz.func120.trans (congrArg some (by kernel_rfl))
 f20:=⟨Tryz.f141.name,by decide,Tryz.func141.trans (congrArg some (by kernel_rfl))⟩
 f21:=⟨Tryz.f142.name,by decide,Tryz.func142.trans (congrArg some (by kernel_rfl))⟩
 f22:=⟨Tryz.f143.name,by decide,Tryz.func143.trans (congrArg some (by kernel_rfl))⟩
 f23:=⟨Tryz.f144.name,by decide,Tryz.func144.trans (congrArg some (by kernel_rfl))⟩
 f24:=⟨Tryz.f145.name,by decide,Tryz.func145.trans (congrArg some (by kernel_rfl))⟩
 f25:=⟨Tryz.f146.name,by decide,Tryz.func146.trans (congrArg some (by kernel_rfl))⟩
 f26:=⟨Tryz.f147.name,by decide,Tryz.func147.trans (congrArg some (by kernel_rfl))⟩
 f27:=⟨Tryz.f148.name,by decide,Tryz.func148.trans (congrArg some (by kernel_rfl))⟩
 f28:=Tryz.func149.trans (congrArg some (by kernel_rfl))
 f29:=Tryz.func150.trans (congrArg some (by kernel_rfl))
 f46:=⟨Tryz.f160.name,by decide,Tryz.func160.trans (congrArg some (by kernel_rfl))⟩
 f47:=Tryz.func161.trans (congrArg some (by kernel_rfl))
 f48:=Tryz.func162.trans (congrArg some (by kernel_rfl))
 f49:=⟨Tryz.f163.name,by decide,Tryz.func163.trans (congrArg some (by kernel_rfl))⟩
 f50:=⟨Tryz.f164.name,by decide,Tryz.func164.trans (congrArg some (by kernel_rfl))⟩
 f57:=⟨Tryz.f171.name,by decide,Tryz.func171.trans (congrArg some (by kernel_rfl))⟩
 t0:=Tryz.underlying0
 a0:=Tryz.isAgg0
 z0:=Tryz.sizeOf0
 v0:=Tryz.zeroValue0
 t3:=Tryz.underlying3
 a3:=Tryz.isAgg3
 z3:=Tryz.sizeOf3
 v3:=Tryz.zeroValue3
 t4:=Tryz.underlying4
 a4:=Tryz.isAgg4
 z4:=Tryz.sizeOf4
 v4:=Tryz.zeroValue4
 t5:=Tryz.underlying5
 a5:=Tryz.isAgg5
 z5:=Tryz.sizeOf5
 v5:=Tryz.zeroValue5
 t9:=Tryz.underlying9
 a9:=Tryz.isAgg9
 z9:=Tryz.sizeOf9
 v9:=Tryz.zeroValue9
 t22:=Tryz.underlying50
 a22:=Tryz.isAgg50
 z22:=Tryz.sizeOf50
 v22:=Tryz.zeroValue50
 a24:=Tryz.isAgg40
 z24:=Tryz.sizeOf40
 t25:=Tryz.underlying144
 a25:=Tryz.isAgg144
 z25:=Tryz.sizeOf144
 v25:=Tryz.zeroValue144
 t39:=Tryz.underlying40
 a39:=Tryz.isAgg40
 z39:=Tryz.sizeOf40
 v39:=Tryz.zeroValue40
 t45:=Tryz.underlying211
 a45:=Tryz.isAgg211
 z45:=Tryz.sizeOf211
 v45:=Tryz.zeroValue211
 t46:=Tryz.underlying212
 a46:=Tryz.isAgg212
 z46:=Tryz.sizeOf212
 v46:=Tryz.zeroValue212
 t50:=Tryz.underlying216
 a50:=Tryz.isAgg216
 z50:=Tryz.sizeOf216
 v50:=Tryz.zeroValue216
 t53:=Tryz.underlying188
 a53:=Tryz.isAgg188
 z53:=Tryz.sizeOf188
 v53:=Tryz.zeroValue188
 t55:=Tryz.underlying145
 a55:=Tryz.isAgg145
 z55:=Tryz.sizeOf145
 v55:=Tryz.zeroValue145
 t66:=Tryz.underlying225
 a66:=Tryz.isAgg225
 z66:=Tryz.sizeOf225
 v66:=Tryz.zeroValue225
 t70:=Tryz.underlying229
 a70:=Tryz.isAgg229
 z70:=Tryz.sizeOf229
 v70:=Tryz.zeroValue229
 t76:=Tryz.underlying236
 a76:=Tryz.isAgg236
 z76:=Tryz.sizeOf236
 v76:=Tryz.zeroValue236
 t77:=Tryz.underlying237
 a77:=Tryz.isAgg237
 z77:=Tryz.sizeOf237
 v77:=Tryz.zeroValue237 }
end Go.Proofs
end
namespace Hx
open Go
noncomputable section
variable {d s k k2:Nat}{g:G}{e:List Int}{n:Net}{P:Nat->Prop}{bn bd v a:Int}{w u:AV}
end
end Hx
section
namespace Hx
open Go Go.Proofs Go.Sort Go.Proofs.YtikpmbiklokdiaaGreat
noncomputable section
@[reducible] def iF:XOc:=⟨λ_=>none,λ_ _ _=>.fail⟩
theorem P7(k:Nat)(h:Nat.testBit 567296 k=true):k=11\/k=13\/k=15\/k=19:=by
 have h1:∀k,k<20->Nat.testBit 567296 k=true->k=11\/k=13\/k=15\/k=19:=by decide
 by_cases c:k<20
 ·exact h1 k c h
 ·rw[Nat.testBit_lt_two_pow (x:=567296) (i:=k) (UI (by decide:567296<2 ^ 20) (Wr (by decide) (by omega)))]at h;cases h
theorem P6(k:Nat)(h:Nat.testBit 567296 k=true):Gen.cfg1.ext k=none:=by rcases P7 k h with rfl|rfl|rfl|rfl<;>kernel_rfl
theorem Qb(f:Nat->List AV->G->OR):@C0 ⟨λ_=>none,f⟩=Gen.cfg1.add 85 f:=by
 have he:(@C0 ⟨λ_=>none,f⟩).ext=(Gen.cfg1.add 85 f).ext:=by
  funext k;show ak (Nat.beq k 85) (some f) (ak (Nat.testBit 567296 k) none (Gen.cfg1.ext k))=ak (Nat.beq k 85) (some f) (Gen.cfg1.ext k);congr 1;rw[aa]
  split
  ·rename_i h;rw[P6 k h]
  ·rfl
 show ({ Gen.cfg1 with ext:=(@C0 ⟨λ_=>none,f⟩).ext }:Cfg)=Gen.cfg1.add 85 f;rw[he];rfl
theorem Ml{C:Cfg}{f:Nat}:ExtOk C f λ_ _ _=>.fail :=
 ⟨λd xs g hwf=>by apply Small.mon _ hwf;trivial,(λd xs g y h=>by cases h),λA bd w γ hg nx g xs vs hr hwf hx hf hv hne cs=>absurd rfl hne⟩
theorem LK:CfgOk (@C0 iF):=by rw[Qb];exact Gen.cfg1Ok.add Ml
def t6:Nat->List AV->G->OR:=λd xs g=>match xs with
 |[.nils,f]=>KH (@C0 iF) 20000 85 d [.nils,f] g
 |_=>rQ (@C0 iF) d xs g
theorem Oc:ExtOk (@C0 iF) 85 t6:=by
 have h1:ExtOk (@C0 iF) 85 (KH (@C0 iF) 20000 85):=zf LK;have h2:ExtOk (@C0 iF) 85 (rQ (@C0 iF)):=Ob (C:=@C0 iF) (ρ:=Tryz.sort85_ren) Tryz.sort85 (Hx.CB Tryz.func85 (by kernel_rfl) (by kernel_rfl)) LK;have key:∀xs:List AV,(∀d g,t6 d xs g=KH (@C0 iF) 20000 85 d xs g)\/(∀d g,t6 d xs g=rQ (@C0 iF) d xs g):=λxs=>by
  unfold t6
  split
  ·exact .inl λ_ _=>rfl
  ·exact .inr λ_ _=>rfl
 refine⟨λd xs g hwf=>?_,λd xs g y=>?_,λA bd w γ hg nx g xs vs=>?_⟩
 ·rcases key xs with h|h<;>rw[h]
  ·exact h1.mon d xs g hwf
  ·exact h2.mon d xs g hwf
 ·rcases key xs with h|h<;>rw[h]
  ·exact h1.noDfr d xs g y
  ·exact h2.noDfr d xs g y
 ·rcases key xs with h|h<;>rw[h]
  ·exact h1.run A bd w γ hg nx g xs vs
  ·exact h2.run A bd w γ hg nx g xs vs
theorem Ll(d:Nat)(g:G):t6 (d+1) [.nils,.clo 86 [] []] g=.val (.tup []):=by kernel_rfl
@[reducible] def iN:XOc:=⟨λ_=>none,t6⟩
theorem Dy:CfgOk (@C0 iN):=by rw[Qb];exact Gen.cfg1Ok.add (ExtOk.cfg (C:=@C0 iF) (C':=Gen.cfg1) rfl rfl Oc)
theorem P4{a b c:Nat}(h1:rm a b)(h2:rm b c):rm a c:=by unfold rm at *;omega
theorem Pb{L:List Int}{cf:El L->El L->Int}(h:∀x y:El L,cf x y=S.Tq x.1.toNat y.1.toNat)(hL:∀x∈L,0<=x):SWO (ltOf cf):=by
 have e:∀x y:El L,ltOf cf x y=true↔rm x.1.toNat y.1.toNat:=λx y=>by unfold ltOf;rw[h,UD];exact Jb
 refine⟨λx=>?_,λx y z h1 h2=>?_,λx y z h1 h2=>?_⟩
 ·rw[<-U5,e];unfold rm;omega
 ·rw[e]at *;exact P4 h1 h2
 ·rw[<-U5,e]at *;unfold rm at *;omega
def cu'(x:Int):List AV:=[X_ x]
theorem Lk{C:Cfg}{d:Nat}{g:G}{id len:Nat}{L0:List Nat}{R:List Int}(hc:∀x∈L0,∀y∈L0,ac (I C) d g 86 [X_ (x:Int),X_ (y:Int)]=.val (X8 (S.Tq x y)))(hnd:L0.Nodup)
  (h:xr C d g id len (L0.map cu) 86 [] R):∃R0:List Nat,R=R0.map (λx:Nat=>(x:Int))/\R0.Perm L0/\R0.Pairwise rm:=by
 obtain⟨L,hI,cf,q1,q2,q3,K,q5,H,o⟩:=h;have q:L=L0.map (λx:Nat=>(x:Int)):=by have h2:L0.map cu=L.map cu':=q1;have z:=congrArg (List.map λr:List AV=>match r with|[.int _ x]=>x|_=>(0:Int)) h2;simpa [WI,Function.comp_def,cu,cu'] using z.symm
 have b:∀x:El L,∃n∈L0,x.1=(n:Int):=λx=>by have:=x.2;obtain⟨y,J⟩:=x;dsimp only at this ⊢;rw[q,U4]at this;obtain⟨n,h1,h2⟩:=this;exact⟨n,h1,h2.symm⟩
 have t:∀x y:El L,cf x y=S.Tq x.1.toNat y.1.toNat:=λx y=>by obtain⟨n,E,en⟩:=b x;obtain⟨m,hm,em⟩:=b y;have h1:=hc n E m hm;have h2:=H x y;rw[en,em]at h2 ⊢;rw[h1]at h2;injection h2 with h2;injection h2 with _ h2;exact h2.symm
 obtain⟨D,A⟩:∃D,D=pdq (ltOf cf) (mB L) 0 L.length (Lib.bitLen L.length) true true:=⟨_,rfl⟩;have l:=pdq_sorts (ltOf cf) q5 (mB L) 0 L.length (Lib.bitLen L.length) true true (US _) (by rw[d4];exact Ui _) (Or.inl rfl);rw[<-A]at l o;obtain⟨⟨p1,-,p2⟩,p3⟩:=l;rw[d4]at p1;have a:R.Perm L:=by
  have e1:(D.extract 0 L.length)=D:=by rw[<-p1];simp
  have p:((mB L).extract 0 L.length)=mB L:=by rw[<-d4 L];simp
  rw[e1,p]at p2;have:=p2.map (λx:El L=>x.1);rw[o];refine this.trans ?_;simp[mB]
 have s:R=(R.map Int.toNat).map (λx:Nat=>(x:Int)):=by
  rw[WI];symm;refine (Vr λx hx=>?_).trans (List.map_id R);have:=a.mem_iff.1 hx;rw[q,U4]at this;obtain⟨n,-,rfl⟩:=this
  rfl
 have k:(R.map Int.toNat).Perm L0:=by
  have:=a.map Int.toNat;rw[q,WI]at this;have e:L0.map (Int.toNat ∘ λx:Nat=>(x:Int))=L0:=by
   refine (Vr λx _=>?_).trans (List.map_id L0)
   rfl
  rw[e]at this;exact this
 refine⟨R.map Int.toNat,s,k,?_⟩;have f:(R.map Int.toNat).Nodup:=k.nodup_iff.2 hnd;rw[VE];intro i j hi v c;have B:R.length=D.size:=by rw[o];simp
 have u:i<D.size:=by rw[UK]at hi;omega
 have w:j<D.size:=by rw[UK]at v;omega
 have e1:(R.map Int.toNat)[i]=(D[i]!).1.toNat:=by
  have:(R.map Int.toNat)[i]?=some (D[i]!).1.toNat:=by rw[o,Uo,Uo];simp[u]
  rw[Uj hi]at this;injection this
 have p:(R.map Int.toNat)[j]=(D[j]!).1.toNat:=by
  have:(R.map Int.toNat)[j]?=some (D[j]!).1.toNat:=by rw[o,Uo,Uo];simp[w]
  rw[Uj v]at this;injection this
 have hlt:=p3 i j (US _) c (by omega);unfold ltOf at hlt;rw[decide_eq_false_iff_not,t,Jb,<-e1,<-p]at hlt;have F:(R.map Int.toNat)[i]≠(R.map Int.toNat)[j]:=λh=>by have:=(VE.1 f) i j hi v c;exact this h
 unfold rm at *;omega
theorem Oa{C:Cfg}{d:Nat}{g:G}{id ep len f:Nat}{lim:Option Nat}{cap:List AV}{rows:List (List AV)}{lo:Bool}(h3:g.h.get id=.cells 1 rows ep lo false)(hex:∃R,xr C d g id len rows f cap R) :
  ∃R,xr C d g id len rows f cap R/\rQ C d [.hsl id ep 0 len lim,.clo f [] cap] g=.upd (.tup []) (g.put id (.cells 1 (R.map λx=>[X_ x]) ep lo false)):=by
 refine⟨hex.choose,hex.choose_spec,?_⟩;simp only[rQ,h3];rw[dif_pos ⟨rfl,hex⟩]
theorem QM:@xu iN:=by
 intro d b u g L0 K D hd j c hu s kk;have e0:@ae (@C0 iN) d 85 [u,.clo 86 [] []] g=t6 d [u,.clo 86 [] []] g:=by kernel_rfl
 rw[e0];rcases hu with⟨rfl,h0⟩|⟨id,ep,lo,h1,h2,rfl,v⟩
 ·have o:L0=[]:=List.map_eq_nil_iff.1 h0;subst o;obtain⟨d',rfl⟩:∃d',d=d'+1:=⟨d - 1,by omega⟩;rw[Ll];exact kk [] g (List.Perm.refl _) List.Pairwise.nil (.inl ⟨rfl,rfl⟩) (Ui _) λ_ _=>rfl
 have e1:∀(rows:List (List AV)),t6 d [.hsl id ep 0 rows.length none,.clo 86 [] []] g=rQ (@C0 iF) d [.hsl id ep 0 rows.length none,.clo 86 [] []] g:=λ_=>rfl;rw[e1];have f:L0≠[]:=λh=>by cases s h
 have hc:∀x∈L0,∀y∈L0,ac (I (@C0 iF)) d g 86 [X_ (x:Int),X_ (y:Int)]=.val (X8 (S.Tq x y)):=λx hx y hy=>(letI:=iF;Pc hd (j x hx) (j y hy));have t:L0.length<=256:=by
  have h:L0.Perm ((List.range 256).filter λx=>decide (x∈L0)):=by refine (List.perm_ext_iff_of_nodup c (List.nodup_range.filter _)).2 λa=>?_;rw[WU,Uw,decide_eq_true_iff];exact⟨λh=>⟨j a h,h⟩,λh=>h.2⟩
  rw[h.length_eq];exact Uy (WC _ _) (by simp)
 have hI:Inhabited (El (L0.map λx:Nat=>(x:Int))):=⟨⟨(L0.head f:Int),U4.2 ⟨_,List.head_mem f,rfl⟩⟩⟩;have l:∃R,xr (@C0 iF) d g id (L0.map cu).length (L0.map cu) 86 [] R:=by
  refine⟨_,L0.map λx:Nat=>(x:Int),hI,λx y=>S.Tq x.1.toNat y.1.toNat,?_,by simp,by simp;omega,⟨by simp,λk hk=>by simp at hk⟩,Pb (λ_ _=>rfl) (λx hx=>?_),λx y=>?_,rfl⟩
  ·rw[WI];rfl
  ·obtain⟨n,-,rfl⟩:=U4.1 hx;omega
  ·obtain⟨n,o,en⟩:=U4.1 x.2;obtain⟨m,hm,em⟩:=U4.1 y.2;dsimp only;rw[<-en,<-em];exact hc n o m hm
 obtain⟨R,r,q⟩:=Oa (lim:=none) v l;rw[q];obtain⟨R0,rfl,hp,p⟩:=Lk hc c r;refine kk R0 _ hp p (.inr ⟨id,ep,lo,h1,by simpa using h2,?_,?_⟩) (by simp) λi hi=>?_
 ·simp[hp.length_eq]
 ·rw[G.put_h,bg,WI];rfl
 ·rw[G.put_h,aL _ _ _ (λe=>hi (by rw[e];rfl))]
end
end Hx
end
namespace Hx
open Go
noncomputable section
variable {d s k k2:Nat}{g:G}{e:List Int}{n:Net}{P:Nat->Prop}{bn bd v a:Int}{w u:AV}
end
end Hx
section
namespace Hx
open Go Go.Proofs.YtikpmbiklokdiaaGreat
noncomputable section
@[reducible] def iR:XOc:=⟨λk=>ak (Nat.beq k 15) (some (eL (@C0 iN) 15)) (ak (Nat.beq k 13) (some (eL (@C0 iN) 13)) (ak (Nat.beq k 11) (some (eL (@C0 iN) 11)) none)),t6⟩
theorem c0R:@C0 iR=(((@C0 iN).add 11 (eL (@C0 iN) 11)).add 13 (eL (@C0 iN) 13)).add 15 (eL (@C0 iN) 15):=by
 have he:(@C0 iR).ext=((((@C0 iN).add 11 (eL (@C0 iN) 11)).add 13 (eL (@C0 iN) 13)).add 15 (eL (@C0 iN) 15)).ext:=by
  funext k
  by_cases c15:k=15
  ·subst c15;rfl
  by_cases c13:k=13
  ·subst c13;rfl
  by_cases c11:k=11
  ·subst c11;rfl
  have b:Nat.beq k 15=false:=by rw[<-U5,Xo];exact c15
  have a:Nat.beq k 13=false:=by rw[<-U5,Xo];exact c13
  have h:Nat.beq k 11=false:=by rw[<-U5,Xo];exact c11
  show ak (Nat.beq k 85) (some t6) (ak (Nat.testBit 567296 k) (ak (Nat.beq k 15) (some (eL (@C0 iN) 15)) (ak (Nat.beq k 13) (some (eL (@C0 iN) 13)) (ak (Nat.beq k 11) (some (eL (@C0 iN) 11)) none))) (Gen.cfg1.ext k))
   = ak (Nat.beq k 15) (some (eL (@C0 iN) 15)) (ak (Nat.beq k 13) (some (eL (@C0 iN) 13)) (ak (Nat.beq k 11) (some (eL (@C0 iN) 11)) (ak (Nat.beq k 85) (some t6) (ak (Nat.testBit 567296 k) none (Gen.cfg1.ext k)))))
  rw[b,a,h]
 show ({ Gen.cfg1 with ext:=(@C0 iR).ext }:Cfg)=_;rw[he];rfl
theorem Q2:CfgOk (@C0 iR):=by rw[c0R];have h:CfgOk ((@C0 iN).add 11 (eL (@C0 iN) 11)):=Dy.add (AN Dy);have k:CfgOk (((@C0 iN).add 11 (eL (@C0 iN) 11)).add 13 (eL (@C0 iN) 13)):=h.add (ExtOk.cfg (C:=@C0 iN) rfl rfl (AN Dy));exact k.add (ExtOk.cfg (C:=@C0 iN) rfl rfl (AN Dy))
theorem MN:@ua iR Bool _ 11 S.TC:=λ{d k P g n e v a bn bd u w} h1 h2 h3 h4=>by
 have h:@ae (@C0 iR) d 11 [u,w,X8 v,X8 a,.agg [X8 bn,X8 bd]] g=eL (@C0 iN) 11 d [u,w,X8 v,X8 a,.agg [X8 bn,X8 bd]] g:=by kernel_rfl
 rw[h];exact (letI:=iN;KD h1 h2 h3 h4)
theorem IF:@ua iR (List Nat) _ 13 S.Tx:=λ{d k P g n e v a bn bd u w} h1 h2 h3 h4=>by
 have h:@ae (@C0 iR) d 13 [u,w,X8 v,X8 a,.agg [X8 bn,X8 bd]] g=eL (@C0 iN) 13 d [u,w,X8 v,X8 a,.agg [X8 bn,X8 bd]] g:=by kernel_rfl
 rw[h];exact (letI:=iN;Hg QM h1 h2 h3 h4)
theorem Qd:@ua iR (List Nat) _ 15 S.Ty:=λ{d k P g n e v a bn bd u w} h1 h2 h3 h4=>by
 have h:@ae (@C0 iR) d 15 [u,w,X8 v,X8 a,.agg [X8 bn,X8 bd]] g=eL (@C0 iN) 15 d [u,w,X8 v,X8 a,.agg [X8 bn,X8 bd]] g:=by kernel_rfl
 rw[h];exact (letI:=iN;L_ QM h1 h2 h3 h4)
end
end Hx
end
namespace Hx
open Go
noncomputable section
variable {d s k k2:Nat}{g:G}{e:List Int}{n:Net}{P:Nat->Prop}{bn bd v a:Int}{w u:AV}
end
end Hx
section
namespace Hx
open Go Go.RowKit Go.ChangeShapes Go.WideShapes
def vB(P:Program):List Field->Nat->Option Nat
 |[],k=>some k
 |f::fs,k=>if f.offset=k then vB P fs (k+P.cellsOf f.type) else none
def tQ(P:Program):Nat->TypeId->Bool
 |0,_=>false
 | n+1,t=>match P.underlying t with
  |some .bool=>true
  |some (.int _)=>true
  |some (.slice e)=>decide (0<P.cellsOf e)&&tQ P n e
  |some (.struct fs)=>(vB P fs.toList 0 == some (P.cellsOf t))&&fs.toList.all (λf=>tQ P n f.type)
  |some (.array m e)=>decide (m*P.cellsOf e=P.cellsOf t)&&tQ P n e
  |_=>false
def Sh(P:Program):Nat->TypeId->List AV->Prop
 |0,_,_=>False
 | n+1,t,xs=>match P.underlying t with
  |some .bool=>∃b,xs=[.bool b]
  |some (.int k)=>∃z,xs=[.int k z]/\(Lit.int k z).wf=true
  |some (.slice e)=>xs=[.nils]\/∃rows,xs=[.tsl 0 (P.cellsOf e) rows]/\rows.length<9223372036854775808/\∀row∈rows,Sh P n e row
  |some (.struct fs)=>∃xss,xs=xss.flatten/\All2 (λ(f:Field) ys=>Sh P n f.type ys) fs.toList xss
  |some (.array m e)=>∃xss:List (List AV),xs=xss.flatten/\xss.length=m/\∀ys∈xss,Sh P n e ys
  |_=>False
def EQ(P:Program)(w:World)(n:Nat)(t:TypeId)(xs:List AV)(cs:List Value):Prop :=
 RVs0 w xs cs/\(∀y∈xs,y.one=true/\Closed y)/\Sh P n t xs
theorem RVs0.append{w:World}{xs ys:List AV}{cs ds:List Value}(h:RVs0 w xs cs)(h':RVs0 w ys ds):RVs0 w (xs++ys) (cs++ds):=by
 refine⟨by rw[VG,VG,h.1,h'.1],λi x v hx hv=>?_⟩;rcases VI i xs.length with hi|hi
 ·rw[UF hi]at hx;rw[UF (by rw[<-h.1];exact hi)]at hv;exact h.2 i x v hx hv
 ·rw[UA hi]at hx;rw[UA (by rw[<-h.1];exact hi),<-h.1]at hv;exact h'.2 _ x v hx hv
theorem Ir(b o n:Nat):(⟨b,o,none⟩:Addr).add n=adr b (o+n):=by
 unfold Addr.add
 split
 ·rename_i h;subst h;rfl
 ·rfl
variable {H:Type}{enc:TypeId×Value->H}{P:Program}{w:World}
theorem Cv:∀{fl:List Field} {k K:Nat},vB P fl k=some K->k<=K
 |[],k,K,h=>by injection h with h;omega
 | f::fl,k,K,h=>by
  unfold vB at h
  split at h
  ·have:=Cv h;omega
  ·cases h
theorem NI{n:Nat}{cs:List Value}:∀{fl:List Field} {k K:Nat},vB P fl k=some K ->
  (∀f∈fl,∃xs,EQ P w n f.type xs ((cs.drop f.offset).take (P.cellsOf f.type))) ->
  ∃xss,All2 (λ(f:Field) ys=>Sh P n f.type ys) fl xss/\RVs0 w xss.flatten ((cs.drop k).take (K - k))/\∀y∈xss.flatten,y.one=true/\Closed y
 | [],k,K,h,_=>by injection h with h;subst h;exact⟨[],trivial,by rw[Ve,Xn];exact⟨rfl,λi x v hx=>by simp at hx⟩,λy hy=>by simp at hy⟩
 | f::fl,k,K,h,hg=>by
  unfold vB at h
  split at h
  ·rename_i ho;subst ho;obtain⟨xs,h1,h2,b⟩:=hg f (by simp);obtain⟨xss,a1,a2,a⟩:=NI h λf' hf'=>hg f' (by simp[hf']);have c:=Cv h;refine⟨xs::xss,⟨b,a1⟩,?_,λy hy=>?_⟩
   ·have e:(cs.drop f.offset).take (K - f.offset)=(cs.drop f.offset).take (P.cellsOf f.type)++(cs.drop (f.offset+P.cellsOf f.type)).take (K - (f.offset+P.cellsOf f.type)):=by rw[show K - f.offset=P.cellsOf f.type+(K - (f.offset+P.cellsOf f.type)) by omega,List.take_add,Vq]
    rw[e,VZ];exact h1.append a2
   ·rw[VZ,UL]at hy;rcases hy with hy|hy
    ·exact h2 y hy
    ·exact a y hy
  ·cases h
theorem Is{n:Nat}{e:TypeId}{cs:List Value}:∀{m k:Nat},
  (∀i,i<m->∃xs,EQ P w n e xs ((cs.drop ((k+i)*P.cellsOf e)).take (P.cellsOf e))) ->
  ∃xss:List (List AV),xss.length=m/\(∀ys∈xss,Sh P n e ys)/\RVs0 w xss.flatten ((cs.drop (k*P.cellsOf e)).take (m*P.cellsOf e))/\∀y∈xss.flatten,y.one=true/\Closed y
 |0,k,_=>⟨[],rfl,λy hy=>by simp at hy,by rw[W9,Xn];exact⟨rfl,λi x v hx=>by simp at hx⟩,λy hy=>by simp at hy⟩
 | m+1,k,hg=>by
  obtain⟨xs,h1,h2,a⟩:=hg 0 (by omega);rw[VH]at h1;obtain⟨xss,a0,a1,a2,h⟩:=Is (m:=m) (k:=k+1) λi hi=>by have:=hg (i+1) (by omega);rwa [show k+(i+1)=k+1+i by omega]at this
  refine⟨xs::xss,by simp[a0],λys hy=>?_,?_,λy hy=>?_⟩
  ·rcases UW.1 hy with rfl|hy
   ·exact a
   ·exact a1 ys hy
  ·have e:(cs.drop (k*P.cellsOf e)).take ((m+1)*P.cellsOf e)=(cs.drop (k*P.cellsOf e)).take (P.cellsOf e)++(cs.drop ((k+1)*P.cellsOf e)).take (m*P.cellsOf e):=by rw[show (m+1)*P.cellsOf e=P.cellsOf e+m*P.cellsOf e by rw[UH];omega,List.take_add,Vq,UH,Vk]
   rw[e,VZ];exact h1.append a2
  ·rw[VZ,UL]at hy;rcases hy with hy|hy
   ·exact h2 y hy
   ·exact h y hy
theorem FN:∀(n:Nat) (t:TypeId),tQ P n t=true->∀(fuel:Nat) (cs:List Value) (x:DataW H×List MemPlace),DataW.trod enc P w 0 (λ_=>true) true fuel t cs=some x->∃xs,EQ P w n t xs cs:=by
 intro n
 induction n with
 |zero=>intro t h;simp[tQ]at h
 | succ n ih =>
  intro t h fuel cs x hx;unfold tQ at h
  split at h
  ·rename_i hu;obtain⟨b,rfl,-⟩:=DataW.trod_bool hu hx;refine⟨[.bool b],⟨rfl,λi x v h1 h2=>?_⟩,λy hy=>?_,?_⟩
   ·cases i with
    |zero=>simp at h1 h2;subst h1;subst h2;exact .bool _ _
    |succ i=>simp at h1
   ·simp at hy;subst hy;exact⟨rfl,.bool _⟩
   ·unfold Sh;rw[hu];exact⟨b,rfl⟩
  ·rename_i k hu;obtain⟨z,rfl,-,N⟩:=DataW.trod_int hu hx;refine⟨[.int k z],⟨rfl,λi x v h1 h2=>?_⟩,λy hy=>?_,?_⟩
   ·cases i with
    |zero=>simp at h1 h2;subst h1;subst h2;exact .int _ _ _
    |succ i=>simp at h1
   ·simp at hy;subst hy;exact⟨rfl,.int _ _⟩
   ·unfold Sh;rw[hu];exact⟨z,rfl,N⟩
  ·rename_i e hu;rw[Uk,UD]at h;obtain⟨B,hp⟩:=h;rcases DataW.trod_slice hu hx with⟨rfl,-⟩|⟨a,len,cap,elems,rest,m,-,rfl,-,-,L,T,Q,r,-,-⟩
   ·refine⟨[.nils],⟨rfl,λi x v h1 h2=>?_⟩,λy hy=>?_,?_⟩
    ·cases i with
     |zero=>simp at h1 h2;subst h1;subst h2;exact .nils _
     |succ i=>simp at h1
    ·simp at hy;subst hy;exact⟨rfl,.nils⟩
    ·unfold Sh;rw[hu];exact .inl rfl
   ·have each:∀i,i<len->∃xs vs,w.cells? 0 (a.add (i*P.cellsOf e)) (P.cellsOf e)=some vs/\EQ P w n e xs vs:=by intro i hi;have:=r i hi;rw[Uj (show i<elems.length by omega),Option.bind_eq_some_iff]at this;obtain⟨vs,h1,h2⟩:=this;obtain⟨xs,hg⟩:=ih e hp _ _ _ h2;exact⟨xs,vs,h1,hg⟩
    let rowf:Nat->List AV:=λi=>if hi:i<len then Classical.choose (each i hi) else []
    let valf:Nat->List Value:=λi=>if hi:i<len then Classical.choose (Classical.choose_spec (each i hi)) else []
    have c:∀i,i<len->w.cells? 0 (a.add (i*P.cellsOf e)) (P.cellsOf e)=some (valf i)/\EQ P w n e (rowf i) (valf i):=by intro i hi;have:=Classical.choose_spec (Classical.choose_spec (each i hi));simpa only[rowf,valf,dif_pos hi] using this
    have d:∀(i:Nat) (row:List AV),((List.range len).map rowf)[i]?=some row->i<len/\row=rowf i:=by
     intro i row h1;rw[Uo]at h1;rcases VI i len with hi|hi
     ·rw[Xa hi]at h1;injection h1 with h1;exact⟨hi,h1.symm⟩
     ·rw[WY (by simpa using hi)]at h1;cases h1
    refine⟨[.tsl 0 (P.cellsOf e) ((List.range len).map rowf)],⟨rfl,λi x v h1 h2=>?_⟩,λy hy=>?_,?_⟩
    ·cases i with
     |succ i=>simp at h1
     | zero =>
      simp at h1 h2;subst h1;subst h2;rcases Nat.eq_zero_or_pos len with h0|h0
      ·subst h0;exact .tnil 0 0 _ a cap (Ui _)
      ·obtain⟨b,o,spot⟩:=a;have E:=World.cells?_some (c 0 h0).1;have M:(valf 0)[0]?=some (valf 0)[0]:=Uj (by rw[E.2.1];exact B);have C:=E.2.2 0 B;rw[M]at C;have D:spot=none:=by simpa [Addr.add] using World.cell?_spot C
       subst D;have cellat:∀i j row x,((List.range len).map rowf)[i]?=some row->row[j]?=some x->∃v,(valf i)[j]?=some v/\w.cell? (adr b (o+i*P.cellsOf e+j))=some v/\RV w gm0 av0 0 x v:=by
        intro i j row x hr l;obtain⟨hi,rfl⟩:=d i row hr;obtain⟨q1,q2⟩:=c i hi;have U:j<(rowf i).length:=(Uh.1 l).1;have u:j<(valf i).length:=by rw[<-q2.1.1];exact U
        have F:=World.cells?_some q1;have p:=F.2.2 j (by rw[<-F.2.1];exact u);rw[Uj u]at p;refine⟨_,Uj u,?_,q2.1.2 j x _ l (Uj u)⟩;rw[Ir,show adr b (o+i*P.cellsOf e)=(⟨b,o+i*P.cellsOf e,none⟩:Addr) from rfl,Ir]at p;exact p
       have hb:b<w.heap.size:=by have:=HC C;simpa [Addr.add] using this
       have G:((List.range len).map rowf).length=len:=by simp
       have key:=RV.tsl (w:=w) (γ:=gm0) (A:=av0) 0 0 (P.cellsOf e) ((List.range len).map rowf) b o cap (λi j=>(valf i)[j]?.getD undef) (Ui _) (by rw[G];exact L) hb (R5 b) (λh=>h)
        (λi row hr=>by
         obtain⟨hi,rfl⟩:=d i row hr;obtain⟨q1,q2⟩:=c i hi;rw[q2.1.1,(World.cells?_some q1).2.1])
        (λi j row x hr l=>by
         obtain⟨hi,rfl⟩:=d i row hr;exact ((c i hi).2.2.1 x (Ul l)).1)
        (λi j row x hr l=>by
         obtain⟨v,O,R,S⟩:=cellat i j row x hr l;rw[R,O];rfl)
        (λi j row x hr l=>by
         obtain⟨v,O,R,S⟩:=cellat i j row x hr l;rw[O];exact S)
        (λrow hr x hx=>by
         obtain⟨i,hi⟩:=UG hr;obtain⟨s,rfl⟩:=d i row hi;exact ((c i s).2.2.1 x hx).2)
       rw[G]at key;exact key
    ·simp only[Vc]at hy;subst hy;refine⟨rfl,.tsl _ _ _ λrow hr x hx=>?_⟩;obtain⟨i,hi⟩:=UG hr;obtain⟨s,rfl⟩:=d i row hi;exact ((c i s).2.2.1 x hx).2
    ·unfold Sh;rw[hu];refine .inr ⟨_,rfl,?_,λrow hr=>?_⟩
     ·rw[UK,List.length_range];have:maxLen<9223372036854775808:=by decide
      omega
     ·obtain⟨i,hi⟩:=UG hr;obtain⟨s,rfl⟩:=d i row hi;exact (c i s).2.2.2
  ·rename_i fs hu;rw[Uk]at h;obtain⟨hc,hp⟩:=h;have hc:vB P fs.toList 0=some (P.cellsOf t):=eq_of_beq hc;obtain⟨ys,m,-,-,hl,I,r⟩:=DataW.trod_struct hu hx;obtain⟨xss,a1,a2,J⟩:=NI (w:=w) (n:=n) (cs:=cs) hc λf hf=>by
    obtain⟨i,hi,e⟩:=VD.1 hf;have K:fs[i]?=some f:=by rw[<-WX,Uj hi,e]
    have:=r i f K;rw[Uj (show i<ys.length by rw[I];simpa using hi)]at this;exact ih f.type (Uz.1 hp f hf) _ _ _ this
   rw[WA,WJ,<-hl,U3]at a2;refine⟨xss.flatten,a2,J,?_⟩;unfold Sh;rw[hu];exact⟨xss,rfl,a1⟩
  ·rename_i m e hu;rw[Uk,UD]at h;obtain⟨hc,hp⟩:=h;obtain⟨ys,q,-,-,hl,I,r⟩:=DataW.trod_array hu hx;obtain⟨xss,a0,a1,a2,J⟩:=Is (w:=w) (n:=n) (e:=e) (cs:=cs) (m:=m) (k:=0) λi hi=>by have:=r i hi;rw[Uj (show i<ys.length by omega)]at this;rw[UU];exact ih e hp _ _ _ this
   rw[W9,WA,hc,<-hl,U3]at a2;refine⟨xss.flatten,a2,J,?_⟩;unfold Sh;rw[hu];exact⟨xss,rfl,a0,a1⟩
  ·cases h
theorem jR{n:Nat}{t:TypeId}{xs:List AV}(hu:P.underlying t=some (.int .u8))(h:Sh P n t xs):∃x:UInt8,Rp.rp NoP 0 .nil x xs:=by
 cases n with
 |zero=>exact h.elim
 | succ n =>
  unfold Sh at h;rw[hu]at h;obtain⟨z,rfl,hw⟩:=h;simp only[Lit.wf,IntKind.min,IntKind.max,IntKind.signed,IntKind.bits,Uk]at hw;refine⟨UInt8.ofNat z.toNat,fM.2 ?_⟩;have h1:0<=z:=by simpa using hw.1
  have h2:z<=255:=by simpa using hw.2
  have k:(UInt8.ofNat z.toNat).toNat=z.toNat:=UInt8.toNat_ofNat_of_lt' (by show z.toNat<256;omega);rw[k,Int.toNat_of_nonneg h1]
theorem Ew{α:Type} [Rp α]{n:Nat}{t e:TypeId}{xs:List AV}(hu:P.underlying t=some (.slice e))(hsz:P.cellsOf e=Rp.sz α)(hel:∀ys,Sh P n e ys->∃y:α,Rp.rp NoP 0 .nil y ys)(h:Sh P (n+1) t xs) :
  ∃l:List α,Rp.rp NoP 0 .nil l xs:=by
 unfold Sh at h;rw[hu]at h;rcases h with rfl|⟨rows,rfl,hl,hr⟩
 ·exact⟨[],.nils,rfl,by simp,rfl⟩
 ·have:∀rows:List (List AV),(∀row∈rows,Sh P n e row)->∃l:List α,All2 (Rp.rp NoP 0 .nil) l rows:=by
   intro rows
   induction rows with
   |nil=>intro _;exact⟨[],trivial⟩
   | cons r rows ih =>
    intro h;obtain⟨y,k⟩:=hel r (h r (by simp));obtain⟨l,hl⟩:=ih λrow hrow=>h row (by simp[hrow]);exact⟨y::l,k,hl⟩
  obtain⟨l,ha⟩:=this rows hr;exact⟨l,_,rfl,by rw[ha.len];exact hl,Ui _,.inl hsz,ha⟩
theorem GC{n m:Nat}{t e:TypeId}{xs:List AV}(hu:P.underlying t=some (.array m e))(h:Sh P (n+1) t xs):∃xss:List (List AV),xs=xss.flatten/\xss.length=m/\∀ys∈xss,Sh P n e ys:=by unfold Sh at h;rw[hu]at h;exact h
theorem xZ{n:Nat}{t:TypeId}{fs:Array Field}{xs:List AV}(hu:P.underlying t=some (.struct fs))(h:Sh P (n+1) t xs):∃xss,xs=xss.flatten/\All2 (λ(f:Field) ys=>Sh P n f.type ys) fs.toList xss:=by unfold Sh at h;rw[hu]at h;exact h
end Hx
end
namespace Hx
open Go
noncomputable section
variable {d s k k2:Nat}{g:G}{e:List Int}{n:Net}{P:Nat->Prop}{bn bd v a:Int}{w u:AV}
end
end Hx
