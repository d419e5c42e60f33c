/- A part of the proof: what the functions of the chapter compute. -/
import Derived.Test.YtkbieohddgjioaaGreatHx8
set_option linter.all false
section
namespace Hx
open Go
noncomputable section
def S.aP(l:List Sp)(n j:Nat):List Bool:=(List.range n).map λv:Nat=>S.aT l j (v:Int)
def S.aI(l:List Sp)(j:Nat):List Bool:=(List.range l.length).map λe:Nat=>S.ax l j (e:Int)
theorem wD(l:List Sp)(j:Nat)(e:Int):S.ax l (j+1) e=(S.ax l j e || (decide ((S.sp l j).1 = -1)&&(decide ((S.sp l j).2.1=e) || decide ((S.sp l j).2.2=e)))):=by simp[S.ax,Tw,List.any_append]
theorem te(l:List Sp)(j:Nat)(v:Int):S.aT l (j+1) v=(S.aT l j v || decide ((S.sp l j).1=v)):=by simp[S.aT,Tw,List.any_append]
theorem tG(l:List Sp)(n j:Nat):(S.aP l n j).length=n:=by simp[S.aP]
theorem mC(l:List Sp)(j:Nat):(S.aI l j).length=l.length:=by simp[S.aI]
theorem Cv{l:List Sp}{n j v:Nat}(h:v<n):(S.aP l n j)[v]?=some (S.aT l j (v:Int)):=by simp[S.aP,h]
theorem yK{l:List Sp}{j e:Nat}(h:e<l.length):(S.aI l j)[e]?=some (S.ax l j (e:Int)):=by simp[S.aI,h]
theorem Nk{l:List Sp}{j:Nat}(h:¬(S.sp l j).1 = -1):S.aI l (j+1)=S.aI l j:=by refine Ti λe _=>?_;rw[wD];simp[h]
theorem L5{l:List Sp}{n j:Nat}(h:(S.sp l j).1 = -1):S.aP l n (j+1)=S.aP l n j:=by
 refine Ti λe _=>?_;rw[te,h];have:¬(-1:Int)=(e:Int):=by omega
 simp[this]
theorem L6{l:List Sp}{n j v:Nat}(hv:v<n)(h:(S.sp l j).1=(v:Int)):S.aP l n (j+1)=(S.aP l n j).set v true:=by
 apply Ur;intro i;rw[S8]
 by_cases c:i<n
 ·rw[Cv c,Cv c,te,h,tG]
  by_cases e:v=i
  ·subst e;simp[c]
  ·have:¬(v:Int)=(i:Int):=by omega
   simp[e,this]
 ·rw[T0 (by rw[tG];omega),T0 (by rw[tG];omega)];have:¬v=i:=by omega
  simp[this]
theorem Nj{l:List Sp}{j b c:Nat}(hb:b<l.length)(hc:c<l.length)(h:(S.sp l j).1 = -1)(h1:(S.sp l j).2.1=(b:Int))(h2:(S.sp l j).2.2=(c:Int)):S.aI l (j+1)=((S.aI l j).set b true).set c true:=by
 apply Ur;intro i;rw[S8,S8,UD,mC]
 by_cases e:i<l.length
 ·rw[yK e,yK e,wD,h,h1,h2]
  by_cases e1:c=i
  ·subst e1;simp[e]
  ·by_cases e2:b=i
   ·subst e2;simp[e,e1]
   ·have n1:¬(b:Int)=(i:Int):=by omega
    have n2:¬(c:Int)=(i:Int):=by omega
    simp[e1,e2,n1,n2]
 ·rw[T0 (by rw[mC];omega),T0 (by rw[mC];omega)];have n1:¬c=i:=by omega
  have n2:¬b=i:=by omega
  simp[n1,n2]
theorem Jq{l:List Sp}{n j:Nat}:false ∉ S.aP l n j↔((List.range n).all λv:Nat=>S.aT l j (v:Int))=true:=by simp[S.aP]
theorem J7{l:List Sp}{m:Nat}(hm:m<=l.length):false ∉ (S.aI l l.length).take m↔((List.range m).all λe:Nat=>S.ax l l.length (e:Int))=true:=by rw[S.aI,<-List.map_take,List.take_range,T_ hm];simp
theorem GI(l:List Bool)(i:Nat):(l.map cb).set i (cb true)=(l.set i true).map cb:=by rw[TQ]
def S.bf(n:Net)(l:List Sp):Int:=if S.aM n then (if S.ck l n.nodes.length then 0 else 130) else 50
theorem NG(n:Int)(h:-1000<=n/\n<=1000):IntKind.wrap .i64 (IntKind.wrap .i64 (2*n) - 1)=2*n - 1:=by rw[ax (x:=2*n) (by omega) (by omega),ax (by omega) (by omega)]
set_option maxRecDepth 20000 in
theorem IM{d k:Nat}{g:G}{P:Nat->Prop}{v w:AV}{n:Net}{l:List Sp}(hd:0<d)(hm:Agg n NoP 0 g.h v)(hl:SlR P k g.h l w):am C0 d N.aZ [v,w] g=.val (.int .i64 (S.bf n l)):=by
 obtain⟨b,rows,rfl,e1,hm',hN,-⟩:=gG d hm;obtain⟨w',e2,hw'⟩:=fU hl d;have wl:∀g,dO .slice w' g=.val (.int .i64 (l.length:Int)):=λg=>(hw' .nil).len g;have ws:=λh=>(hw' h).sps;have hlen:=hl.1;rw[rQ];refine jR uz (xs:=[.agg [.int .i64 n.grain,b],w']) (by simp only[aJ,e1,e2]) (by simp[jD]) hd ?_;simp only[sz,simprocAttr,jD];obtain⟨g0,hg0⟩:∃g0,g0=G.empty.new (VG 2 [[.int .i64 n.grain,b]]):=⟨_,rfl⟩;rw[<-hg0];have f0:g0.h.get 0=VG 2 [[.int .i64 n.grain,b]]:=by rw[hg0];simp[sx]
 have n0:g0.nx=1:=by rw[hg0];simp[sx]
 clear hg0;have ld:bK (VG 2 [[.int .i64 n.grain,b]]) 0 0 true 2 0=.val (.agg [.int .i64 n.grain,b]):=rfl;have nc:=Jw (d:=d+1) (g:=g0) (SH d) (n:=n) (hm' _);have nl:=λg=>hN.len g;simp only[l8]
 by_cases c0:S.aM n=true
 rotate_left
 ·have hs:S.bf n l=50:=by rw[S.bf,Sa c0]
  rw[Sa c0]at nc;simp only[sz,simprocAttr,f0,ld,nc,hs]
 rw[Sb c0]at nc;have hr:=cY.1 c0;have hl1:=hr.l1;have hl2:=hr.l2;have w2:=NG (n.nodes.length:Int) (by omega);have hs:S.bf n l=if S.ck l n.nodes.length then 0 else 130:=by rw[S.bf,Sb c0]
 by_cases c1:(l.length:Int)=2*(n.nodes.length:Int) - 1
 rotate_left
 ·have hs:S.bf n l=130:=by rw[hs,Sa];simp[S.ck,c1]
  simp only[sz,simprocAttr,f0,ld,nc,nl,wl,w2,c1,hs]
 have c1':decide ((l.length:Int)=2*(n.nodes.length:Int) - 1)=true:=Tx c1;have bad:∀i,i<l.length->S.bp l n.nodes.length i=false->S.bf n l=130:=λi hi h=>by rw[hs,Sa];intro hc;simp only[S.ck,R7,Sy,Sm]at hc;have:=hc.1.1.2 i hi;rw[h]at this;cases this
 refine bI (P:=λt' df g'=>df=[]/\g'=g0/\St t' [(1,w'),(2,.hptr 0 0 0 0)]) ?_ ?_
 ·simp only[sz,simprocAttr,f0,ld,nc];simp[St,sx]
 rintro t df g1 ⟨rfl,rfl,h1,h2,-⟩;refine bI (P:=λt' df g'=>df=[]/\g'=g1/\St t' [(1,w'),(6,.int .i64 (n.nodes.length:Int))]) ?_ ?_
 ·simp only[sz,simprocAttr,h1,h2,f0,nl];simp[St,sx,h1]
 rintro t df g2 ⟨rfl,rfl,h1,h6,-⟩;refine bI (P:=λt' df g'=>df=[]/\g'=g2/\St t' [(1,w'),(6,.int .i64 (n.nodes.length:Int))]) ?_ ?_
 ·simp only[sz,simprocAttr,h1,h6,wl,w2,c1];simp[St,sx,h1,h6]
 rintro t df g3 ⟨rfl,rfl,h1,h6,-⟩;refine bI (P:=λt' df g'=>df=[]/\∃lv us,St t' [(1,w'),(6,.int .i64 (n.nodes.length:Int)),(7,lv),(8,us)]/\Own g' 0 lv 1 ((List.replicate n.nodes.length false).map cb)/\Own g' 0 us 1 ((List.replicate l.length false).map cb)/\∃iL iU,vid lv=some iL/\vid us=some iU/\iL≠iU) ?_ ?_
 ·simp only[sz,simprocAttr,sf,h6];refine jS (b:=0) (bytes:=1) (n:=n.nodes.length) (by unfold aY;omega) (by unfold aY;omega) (S2 _) λcv g4 hcv n2 fr2 v2 lg2=>?_;simp only[sy]at n2 fr2 v2 lg2;simp only[sz,simprocAttr,sf,h1,h6,wl,lg2];refine jS (b:=0) (bytes:=1) (n:=l.length) (by unfold aY;omega) (by unfold aY;omega) (S2 _) λsv g5 hsv n3 fr3 v3 lg3=>?_;simp only[sy]at n3 fr3 v3 lg3;simp only[sz,simprocAttr,sf,lg3,hcv.cell.1,hcv.cell.2,hsv.cell.1,hsv.cell.2];refine⟨?_,cv,sv,?_,?_,?_,_,_,v2,v3,by omega⟩
  ·simp only[Si,Sl,Sf,Sd,G.new_lg,G.put_lg,setLog_lg];refine aA [false,true,false,false,true,false,false] [(1,2),(1,3),(0,4),(1,4),(4,5)] (by simp[All2,ac,ap]) (by decide) ?_;rintro p hp x y hx hy;simp only[Sq,Sk,Ui]at hp;rcases hp with rfl|rfl|rfl|rfl|rfl<;>(simp at hx hy;subst hx;subst hy;refine bH rfl rfl rfl rfl ?_ ?_ ?_<;>simp[ac,ap,ae]<;>omega)
  ·simp[St,sx,h1,h6]
  ·have:Own g4 0 cv 1 ((List.replicate n.nodes.length false).map cb):=by simpa [cb] using hcv
   exact this.fr (by first| (simp;done)| (simp;omega)) λi hi=>by have:=di v2 hi;have:=fr3 i (by omega);simpa using this
  ·have:Own g5 0 sv 1 ((List.replicate l.length false).map cb):=by simpa [cb] using hsv
   exact this.fr (by first| (simp;done)| (simp;omega)) λi hi=>by simp
 rintro t df g ⟨rfl,lv,us,⟨h1,h6,h7,h8,-⟩,oL,oU,iL,iU,vL,vU,hne⟩;have e3:List.replicate n.nodes.length false=S.aP l n.nodes.length 0:=(List.eq_replicate_iff.2 ⟨tG _ _ _,λb hb=>by simp[S.aP,S.aT]at hb;exact hb.2⟩).symm;have e4:List.replicate l.length false=S.aI l 0:=(List.eq_replicate_iff.2 ⟨mC _ _,λb hb=>by simp[S.aI,S.ax]at hb;exact hb.2⟩).symm;rw[e3]at oL;rw[e4]at oU;clear e3 e4 f0 n0 nc;simp only[sz,simprocAttr,h1,wl,lz];refine aK (m:=l.length) hlen (λj t df g=>df=[]/\St t [(1,w'),(30,w'),(6,.int .i64 (n.nodes.length:Int)),(7,lv),(8,us)]/\Own g 0 lv 1 ((S.aP l n.nodes.length j).map cb)/\Own g 0 us 1 ((S.aI l j).map cb)/\∀i,i<j->S.bp l n.nodes.length i=true)
  ⟨rfl,by simp[St,sx,h1,h6,h7,h8],oL,oU,λi hi=>by omega⟩ (by simp[sx]) (by simp[sx]) (by decide) (by rintro j t df g v s (rfl|rfl|rfl)<;>simp[sx,St]) ?_ ?_
 ·clear h1 h6 h7 h8 oL oU;rintro j t df g hj ⟨rfl,⟨h1,h30,h6,h7,h8,-⟩,oL,oU,hok⟩ h32 h31;obtain⟨x,hx,-,-⟩:=an hj;have hsp:S.sp l j=x:=by rw[S.sp,hx];rfl
  have u1:j<(l.map cs3).length:=by simpa using hj
  have u2:(l.map cs3)[j]?=some (cs3 x):=by rw[R_,hx];rfl
  obtain⟨a,b,c⟩:=x;have u3:cs3 (a,b,c)=[.int .i64 a,.int .i64 b,.int .i64 c]:=rfl;rw[u3]at u2;have hel:=λh=>bad j hj h;unfold S.bp S.bS S.cm at hel;rw[hsp]at hel;dsimp only at hel
  by_cases ca:a = -1
  ·subst ca;rw[Sb rfl]at hel
   by_cases c1:b<0
   ·have:=hel (by have:¬0<=b:=by omega
                  simp[this])
    simp only[sz,simprocAttr,h30,h32,ws,u1,u2,c1,this]
   by_cases c2:(j:Int)<=b
   ·have:=hel (by have:¬b<(j:Int):=by omega
                  simp[this])
    simp only[sz,simprocAttr,h30,h32,ws,u1,u2,c1,c2,this]
   by_cases c3:c<0
   ·have:=hel (by have:¬0<=c:=by omega
                  simp[this])
    simp only[sz,simprocAttr,h30,h32,ws,u1,u2,c1,c2,c3,this]
   by_cases c4:(j:Int)<=c
   ·have:=hel (by have:¬c<(j:Int):=by omega
                  simp[this])
    simp only[sz,simprocAttr,h30,h32,ws,u1,u2,c1,c2,c3,c4,this]
   by_cases c5:b=c
   ·have:=hel (by simp[c5]);simp only[sz,simprocAttr,h30,h32,ws,u1,u2,c1,c2,c3,c4,c5,this]
   obtain⟨B,rfl⟩:=R8 (show 0<=b by omega);obtain⟨C,rfl⟩:=R8 (show 0<=c by omega);have hB:B<l.length:=by omega
   have hC:C<l.length:=by omega
   have r1:=λ(g':G) (f:∀i,i<g.nx->g'.h.get i=g.h.get i) (hn:g.nx<=g'.nx)=>(oU.fr hn λi hi=>f i (oU.lt hi).2).rows;have z1:B<((S.aI l j).map cb).length:=by simpa [mC] using hB
   have z2:((S.aI l j).map cb)[B]?=some (cb (S.ax l j (B:Int))):=by rw[R_,yK hB];rfl
   have z3:C<((S.aI l j).map cb).length:=by simpa [mC] using hC
   have z4:((S.aI l j).map cb)[C]?=some (cb (S.ax l j (C:Int))):=by rw[R_,yK hC];rfl
   have hUl:=λi (hi:vid us=some i)=>(oU.lt hi).2;have hUf:∀g':G,g.nx<=g'.nx->(∀i,i<g.nx->g'.h.get i=g.h.get i)->ak g'.h 1 us=some ((S.aI l j).map cb):=λg' hn f=>(oU.fr hn λi hi=>f i (hUl i hi)).rows;simp only[sz,simprocAttr,h30,h32,ws,u1,u2,c1,c2,c3,c4,c5];obtain⟨g',hg'⟩:∃g',g'=((g.new (VG 3 [[AV.int IntKind.i64 0,AV.int IntKind.i64 0,AV.int IntKind.i64 0]])).put g.nx (VG 3 [[AV.int IntKind.i64 (-1),AV.int IntKind.i64 (B:Int),AV.int IntKind.i64 (C:Int)]])):=⟨_,rfl⟩;rw[<-hg'];have kq:g'.h.get g.nx=VG 3 [[.int .i64 (-1),.int .i64 (B:Int),.int .i64 (C:Int)]]:=by rw[hg'];simp[RW]
   have kn:g'.nx=g.nx+1:=by rw[hg'];simp
   have kf:∀i,i<g.nx->g'.h.get i=g.h.get i:=λi hi=>by rw[hg'];simp[RW,show ¬i=g.nx by omega]
   have oU':Own g' 0 us 1 ((S.aI l j).map cb):=oU.fr (by omega) λi hi=>kf i (oU.lt hi).2;have oL':Own g' 0 lv 1 ((S.aP l n.nodes.length j).map cb):=oL.fr (by omega) λi hi=>kf i (oL.lt hi).2;have hq:¬vid us=some g.nx:=λh=>by have:=(oU.lt h).2;omega
   have hq2:¬vid lv=some g.nx:=λh=>by have:=(oL.lt h).2;omega
   clear hg' kf oU oL;cases cB:S.ax l j (B:Int) with
   | true =>
    have:=hel (by simp[cB]);rw[cB]at z2;simp only[sz,simprocAttr,h8,oU'.rows,z1,z2,cb,this]
   | false =>
    cases cC:S.ax l j (C:Int) with
    | true =>
     have:=hel (by simp[cC]);rw[cB]at z2;rw[cC]at z4;simp only[sz,simprocAttr,h8,oU'.rows,z1,z2,z3,z4,cb,kq,this]
    | false =>
     rw[cB]at z2;rw[cC]at z4;have hok':∀i,i<j+1->S.bp l n.nodes.length i=true:=λi hi=>by
      by_cases e:i=j
      ·subst e;rw[S.bp,S.bS,hsp];have d1:(B:Int)<(i:Int):=by omega
       have d2:(C:Int)<(i:Int):=by omega
       simp[cB,cC,d1,d2,c5]
      ·exact hok i (by omega)
     have hu2:S.aI l (j+1)=((S.aI l j).set B true).set C true:=Nj hB hC (by rw[hsp]) (by rw[hsp]) (by rw[hsp]);have hl2:S.aP l n.nodes.length (j+1)=S.aP l n.nodes.length j:=L5 (by rw[hsp]);simp only[sz,simprocAttr,sf,h8,oU'.rows,z1,z2,z3,z4,cb,kq];refine kX (v:=us) (sz:=1) (n:=1) (i:=B) (off:=0) (x:=.bool true) (row:=cb false) (row':=cb true) (oU'.fr (by first| (simp;done)| (simp;omega)) λi _=>by simp) z2 rfl rfl rfl λg2 o2 n2 f2 p2=>?_;have k2:g2.h.get g.nx=VG 3 [[.int .i64 (-1),.int .i64 (B:Int),.int .i64 (C:Int)]]:=by rw[f2 _ hq];simpa using kq
     simp only[sy]at n2;have z5:C<(((S.aI l j).map cb).set B (cb true)).length:=by simpa using z3
     have z6:(((S.aI l j).map cb).set B (cb true))[C]?=some (cb false):=by rw[Ty (by omega)];exact z4
     simp only[sz,simprocAttr,sf,h8,k2,o2.rows,z5];refine kX (v:=us) (sz:=1) (n:=1) (i:=C) (off:=0) (x:=.bool true) (row:=cb false) (row':=cb true) (o2.fr (by first| (simp;done)| (simp;omega)) λi _=>by simp) z6 rfl rfl rfl λg3 o3 n3 f3 p3=>?_;simp only[sy]at n3;simp only[sz,simprocAttr,sf];refine⟨?_,⟨?_,?_,?_,hok'⟩,?_⟩
     ·simp only[Si,Sl,Sf,Sd,G.new_lg,G.put_lg,setLog_lg];refine aA [false,false,false,false,false,false,false,true,false,true] [(3,7),(4,7),(5,7)] (by simp[All2,ac,ap]) (by decide) ?_;rintro p hp x y hx hy;simp only[Sq,Sk,Ui]at hp;have hw:∀i∈g2.lg,¬i=g.nx:=λi hi e=>by
       rcases p2 i hi with h|h
       ·simp at h
       ·exact hq (by rw[h,e])
      rcases hp with rfl|rfl|rfl<;>(simp at hx hy;subst hx;subst hy;refine bH rfl rfl rfl rfl ?_ ?_ ?_<;>simp[ac,ap,ae]<;>exact hw)
     ·simp[St,sx,h1,h30,h6,h7,h8]
     ·rw[hl2];refine oL'.fr (by first| (simp;done)| (simp;omega)) λi hi=>?_;have d1:¬vid us=some i:=λe=>hne (by rw[di vL hi,di vU e]);have e1:=f3 i d1;have e2:=f2 i d1;simp at e1 e2;simp[e1,e2]
     ·rw[hu2,<-GI,<-GI];exact o3.fr (by first| (simp;done)| (simp;omega)) λi _=>by simp
     ·simp[sx,h31,h32]
  ·rw[Sa ca]at hel
   by_cases c1:a<0
   ·have:=hel (by have:¬0<=a:=by omega
                  simp[this])
    simp only[sz,simprocAttr,h30,h32,ws,u1,u2,ca,c1,this]
   by_cases c2:(n.nodes.length:Int)<=a
   ·have:=hel (by have:¬a<(n.nodes.length:Int):=by omega
                  simp[this])
    simp only[sz,simprocAttr,h30,h32,h6,ws,u1,u2,ca,c1,c2,this]
   by_cases c3:b = -1
   rotate_left
   ·have:=hel (by simp[c3]);simp only[sz,simprocAttr,h30,h32,h6,ws,u1,u2,ca,c1,c2,c3,this]
   by_cases c4:c = -1
   rotate_left
   ·have:=hel (by simp[c4]);simp only[sz,simprocAttr,h30,h32,h6,ws,u1,u2,ca,c1,c2,c3,c4,this]
   obtain⟨A,rfl⟩:=R8 (show 0<=a by omega);have hA:A<n.nodes.length:=by omega
   subst c3 c4;have z1:A<((S.aP l n.nodes.length j).map cb).length:=by simpa [tG] using hA
   have z2:((S.aP l n.nodes.length j).map cb)[A]?=some (cb (S.aT l j (A:Int))):=by rw[R_,Cv hA];rfl
   simp only[sz,simprocAttr,h30,h32,h6,ws,u1,u2,ca,c1,c2];obtain⟨g',hg'⟩:∃g',g'=((g.new (VG 3 [[AV.int IntKind.i64 0,AV.int IntKind.i64 0,AV.int IntKind.i64 0]])).put g.nx (VG 3 [[AV.int IntKind.i64 (A:Int),AV.int IntKind.i64 (-1),AV.int IntKind.i64 (-1)]])):=⟨_,rfl⟩;rw[<-hg'];have kq:g'.h.get g.nx=VG 3 [[.int .i64 (A:Int),.int .i64 (-1),.int .i64 (-1)]]:=by rw[hg'];simp[RW]
   have kn:g'.nx=g.nx+1:=by rw[hg'];simp
   have kf:∀i,i<g.nx->g'.h.get i=g.h.get i:=λi hi=>by rw[hg'];simp[RW,show ¬i=g.nx by omega]
   have oU':Own g' 0 us 1 ((S.aI l j).map cb):=oU.fr (by omega) λi hi=>kf i (oU.lt hi).2;have oL':Own g' 0 lv 1 ((S.aP l n.nodes.length j).map cb):=oL.fr (by omega) λi hi=>kf i (oL.lt hi).2;clear hg' kf oU oL;cases cA:S.aT l j (A:Int) with
   | true =>
    have:=hel (by simp[cA]);rw[cA]at z2;simp only[sz,simprocAttr,h7,oL'.rows,z1,z2,cb,kq,this]
   | false =>
    rw[cA]at z2;have hok':∀i,i<j+1->S.bp l n.nodes.length i=true:=λi hi=>by
     by_cases e:i=j
     ·subst e;rw[S.bp,S.cm,hsp];simp[ca,cA,hA]
     ·exact hok i (by omega)
    have hu2:S.aI l (j+1)=S.aI l j:=Nk (by rw[hsp];exact ca);have hl2:S.aP l n.nodes.length (j+1)=(S.aP l n.nodes.length j).set A true:=L6 hA (by rw[hsp]);simp only[sz,simprocAttr,h7,oL'.rows,z1,z2,cb,kq];refine cQ (v:=lv) (sz:=1) (n:=1) (i:=A) (off:=0) (x:=.bool true) (row:=cb false) (row':=cb true) oL' z2 rfl rfl rfl λg3 o3 n3 f3=>?_;simp only[sz,simprocAttr];refine⟨⟨?_,?_,?_,hok'⟩,?_⟩
    ·simp[St,sx,h1,h30,h6,h7,h8]
    ·rw[hl2,<-GI];exact o3
    ·rw[hu2];exact oU'.fr (by omega) λi hi=>f3 i λe=>hne (by rw[di vL e,di vU hi])
    ·simp[sx,h31,h32]
 ·clear h1 h6 h7 h8 oL oU;rintro t df g ⟨rfl,⟨h1,h30,h6,h7,h8,-⟩,oL,oU,hok⟩;have sL:=oL.bools (by rw[tG];omega);have sU:=oU.bools (by rw[mC];omega);have q1:=vd (d:=d+1) (g:=g) (SH d) sL;obtain⟨y,y1,-,y2⟩:=OZ (α:=Bool) oU (n:=l.length - 1) (by intro e;have h0:((S.aI l l.length).map cb).length=0:=(by rw[e];rfl);rw[Ss,mC]at h0;omega) (by simp[mC]);have sU2:=y2 _ _ _ g.h (λi _=>rfl) sU;have q2:=vd (d:=d+1) (g:=g) (SH d) sU2;have e5:IntKind.wrap .i64 ((l.length:Int) - 1)=((l.length - 1:Nat):Int):=by rw[ax (by omega) (by omega)];omega
  have y1:yk 1 us none (some (.int .i64 ((l.length - 1:Nat):Int))) g=.val y:=y1;have hck:S.ck l n.nodes.length=(decide (false ∉ S.aP l n.nodes.length l.length)&&decide (false ∉ (S.aI l l.length).take (l.length - 1))):=by
   have a1:(List.range l.length).all (S.bp l n.nodes.length)=true:=by rw[Sy];exact λi hi=>hok i (Sm.1 hi)
   rw[S.ck,c1',a1];have b1:decide (false ∉ S.aP l n.nodes.length l.length)=(List.range n.nodes.length).all λv:Nat=>S.aT l l.length (v:Int):=Tz.2 (by rw[Sg];exact Jq);have b2:decide (false ∉ (S.aI l l.length).take (l.length - 1))=(List.range (l.length - 1)).all λe:Nat=>S.ax l l.length (e:Int):=Tz.2 (by rw[Sg];exact J7 (Nat.sub_le _ _));rw[b1,b2,Td,Td]
  rw[hck]at hs
  by_cases d1:false∈S.aP l n.nodes.length l.length
  ·have hs:S.bf n l=130:=by rw[hs];simp[d1]
   simp only[sz,simprocAttr,dE,h7,h30,q1,d1,hs]
  ·by_cases d2:false∈(S.aI l l.length).take (l.length - 1)
   ·have hs:S.bf n l=130:=by rw[hs];simp[d1,d2]
    simp only[sz,simprocAttr,dE,h7,h8,h1,wl,e5,y1,q1,q2,UY,UN,d1,d2,hs]
   ·have hs:S.bf n l=0:=by rw[hs];simp[d1,d2]
    simp only[sz,simprocAttr,dE,h7,h8,h1,wl,e5,y1,q1,q2,UY,UN,d1,d2,hs]
def cbr(x:Br):List AV:=[.int .i64 x.1,.int .u64 (x.2:Int)]
theorem IX(d:Nat)(a b:AV)(g:G):fd C0 (I C0) d (.clo 80 [] []) [a,b] g=orF ((I C0).call d N.bN [a,b] g):=by kernel_rfl
theorem B7(C:Cfg)(t:T)(g:G)(f:Od)(xs:List Od):(SO.foot C t g (.dyn f xs)).sr=[]:=by
 simp only[SO.foot]
 split
 ·rw[aa];split<;>rfl
 ·rfl
theorem KF{d:Nat}{x y:Br}{g:G}{K:AV->G->Prop}{D:ADf->Prop}(hx:0<=x.1/\x.1<=1000)(hy:0<=y.1/\y.1<=1000)
  (kk:∀g',Fr g g'->(∀i∈g'.lg,i∈g.lg\/g.nx<=i)->K (.int .i64 (x.1 - y.1)) g'):(fd C0 (I C0) d (.clo 80 [] []) [.agg (cbr x),.agg (cbr y)] g).sat K g D:=by
 rw[IX];refine dc nU (by simp[dJ]) ?_;have w1:IntKind.wrap .i64 (x.1 - y.1)=x.1 - y.1:=ax (by omega) (by omega);simp only[sz,simprocAttr,cbr,dJ,fV,w1,show ¬g.nx=g.nx+1 from by omega];refine kk _ ⟨?_,?_⟩ ?_
 ·simp;omega
 ·intro i hi;simp[RW,show ¬i=g.nx by omega,show ¬i=g.nx+1 by omega]
 ·intro i hi;simp at hi;rcases hi with h|h|h
  ·exact .inr (by omega)
  ·exact .inr (by omega)
  ·exact .inl h
theorem xg{p:List Br}{y:Br}{k:Nat}(h1:∀b∈p.take k,b.1<y.1)(h2:∀b∈p.drop k,y.1<b.1):p.take k++y::p.drop k=S.bu p y:=by
 unfold S.bu;have e1:p.filter (λb=>decide (b.1<y.1))=p.take k:=by
  conv=>lhs;rw[<-SW k p]
  rw[T5,UT.2 λb hb=>by simpa using h1 b hb,UE.2 λb hb=>by have:=h2 b hb;simp;omega,Su]
 have e2:p.filter (λb=>decide (y.1<b.1))=p.drop k:=by
  conv=>lhs;rw[<-SW k p]
  rw[T5,UE.2 λb hb=>by have:=h1 b hb;simp;omega,UT.2 λb hb=>by simpa using h2 b hb,Sf]
 rw[e1,e2]
def S.aV(p:List Br)(y:Br)(q:List Br)(k:Nat):List Br:=p.take k++y::p.drop k++q
theorem HX{p q:List Br}{y:Br}{k:Nat}:(S.aV p y q k).length=p.length+1+q.length:=by simp[S.aV,SZ];omega
theorem Qs{p q:List Br}{y:Br}{k:Nat}(h:k<=p.length):(S.aV p y q k)[k]?=some y:=by rw[S.aV,S7,Sj (by rw[SL];omega),SL,T_ h,Th];rfl
theorem Mc{p q:List Br}{y z:Br}{k:Nat}(h:p[k]?=some z):(S.aV p y q (k+1))[k]?=some z:=by have hk:=(R6.1 h).1;rw[S.aV,S7,So (by simp;omega),Uv,Sb (by omega),h]
theorem Md{p q:List Br}{y z:Br}{k:Nat}(h:p[k]?=some z):((S.aV p y q (k+1)).set (k+1) z).set k y=S.aV p y q k:=by
 have hk:=(R6.1 h).1;have e1:p.take (k+1)=p.take k++[z]:=by rw[UC,h];rfl
 have e2:p.drop k=z::p.drop (k+1):=by rw[Tf hk];congr 1;rw[R4 hk]at h;injection h
 have e3:(p.take k).length=k:=by rw[SL];omega
 rw[S.aV,S.aV,e1,e2];simp only[S7,Sd,Sf,Vc];rw[TE _ _ (by omega),TE _ _ (by omega),e3];rw[show k+1 - k=1 by omega,Th]
 rfl
theorem Il(l:List Br)(i:Nat)(x:Br):(l.map cbr).set i (cbr x)=(l.set i x).map cbr:=by rw[TQ]
def Sr(v:AV)(g g':G):Prop:=g.nx<=g'.nx/\(∀i,i<g.nx->vid v≠some i->g'.h.get i=g.h.get i)/\∀i∈g'.lg,vid v=some i\/i∈g.lg\/g.nx<=i
theorem Sr.refl(v:AV)(g:G):Sr v g g:=⟨R5 _,λ_ _ _=>rfl,λ_ h=>.inr (.inl h)⟩
theorem Sr.trans{v:AV}{g g1 g2:G}(h:Sr v g g1)(h2:Sr v g1 g2):Sr v g g2 :=
 ⟨Sz h.1 h2.1,λi hi hv=>by rw[h2.2.1 i (SB hi h.1) hv,h.2.1 i hi hv],λi hi=>by
  rcases h2.2.2 i hi with h3|h3|h3
  ·exact .inl h3
  ·exact h.2.2 i h3
  ·exact .inr (.inr (Sz h.1 h3))⟩
def LIn(v:AV)(n i k:Nat):List (Nat×AV):=[(0,v),(1,.int .i64 0),(2,.int .i64 (n:Int)),(3,.clo 80 [] []),(8,.int .i64 (i:Int)),(9,.int .i64 (k:Int))]
set_option maxRecDepth 20000 in
theorem LF{d b:Nat}{v:AV}{p q:List Br}{y:Br}{g0:G}{Q:QT}{t:T}{g:G}(hp:p.Pairwise λa b=>a.1<b.1)(hb:∀x∈p,0<=x.1/\x.1<=1000)(hy:0<=y.1/\y.1<=1000)(hne:∀x∈p,x.1≠y.1)(hl:p.length<=1000)
  (ht:St t (LIn v (p.length+1+q.length) p.length p.length)) (ho:Own g b v 2 ((S.aV p y q p.length).map cbr)) (hs:Sr v g0 g)
  (fin:∀t g,St t ((LIn v (p.length+1+q.length) p.length 0).take 5)->Own g b v 2 ((S.bu p y++q).map cbr)->Sr v g0 g->Q (.exit 2) t [] g) :
  wpL (wp C0 d none aL) Q t [] g:=by
 refine jZ (λk t df g=>df=[]/\k<=p.length/\St t (LIn v (p.length+1+q.length) p.length k)/\Own g b v 2 ((S.aV p y q k).map cbr)/\Sr v g0 g/\∀x∈p.drop k,y.1<x.1) p.length ⟨rfl,R5 _,ht,ho,hs,by simp⟩ ?_;clear ht ho hs;rintro k t df g ⟨rfl,hk,⟨h0,h1,h2,h3,h8,h9,-⟩,ho,hs,hgt⟩;cases k with
 | zero =>
  simp only[sz,simprocAttr,sf,aL,h0,h1,h3,h9];refine⟨?_,?_⟩
  ·simp only[Si,Sl,Sf,Sd,G.new_lg,G.put_lg,setLog_lg];exact aA [false,false,false,false,false,false,false,false,false,false,false,false,false,false,false,false,false] [] (by simp[All2,ac,ap,B7]) (by decide) (by simp)
  refine fin _ _ (by simp[St,LIn,sx,h0,h1,h2,h3,h8,h9]) ?_ ?_
  ·rw[<-xg (k:=0) (by simp) hgt];exact ho.fr (by first| (simp;done)| (simp;omega)) λi _=>by simp
  ·refine hs.trans ⟨by first| (simp;done)| (simp;omega),λi hi hvi=>by simp,λi hi=>?_⟩;simp at hi;exact .inr (.inl hi)
 | succ k =>
  obtain⟨z,hz⟩:∃z,p[k]?=some z:=⟨_,R4 (by omega)⟩;have hzm:z∈p:=R9 hz;have u1:k+1<((S.aV p y q (k+1)).map cbr).length:=by simp[HX];omega
  have u2:((S.aV p y q (k+1)).map cbr)[k+1]?=some [.int .i64 y.1,.int .u64 (y.2:Int)]:=by rw[R_,Qs (by omega)];rfl
  have u3:k<((S.aV p y q (k+1)).map cbr).length:=by simp[HX];omega
  have u4:((S.aV p y q (k+1)).map cbr)[k]?=some [.int .i64 z.1,.int .u64 (z.2:Int)]:=by rw[R_,Mc hz];rfl
  have c1:decide ((0:Int)<((k+1:Nat):Int))=true:=Tx (by omega);have w1:IntKind.wrap .i64 (((k+1:Nat):Int) - 1)=(k:Int):=by rw[ax (by omega) (by omega)];omega
  simp only[sz,simprocAttr,sf,aL,h0,h1,h3,h9,c1,w1,ho.rows,u1,u2,u3,u4];refine KF (x:=y) (y:=z) hy (hb z hzm) λg1 f1 l1=>?_;have o1:Own g1 b v 2 ((S.aV p y q (k+1)).map cbr):=ho.fr (Sz (by first| (simp;done)| (simp;omega)) f1.1) λi hi=>by rw[f1.2 i (by have:=(ho.lt hi).2;simp;omega)];simp
  by_cases c2:y.1 - z.1<0
  ·simp only[sz,simprocAttr,sf,c2];refine⟨?_,?_⟩
   ·simp only[Si,Sl,Sf,Sd,G.new_lg,G.put_lg,setLog_lg];exact aA [false,false,false,false,false,false,false,false,false,false,false,false,false,false,true,false,false] [] (by simp[All2,ac,ap,B7]) (by decide) (by simp)
   simp only[sz,simprocAttr,sf,h0,h9,w1,o1.rows,u1,u2,u3,u4];refine kX (v:=v) (sz:=2) (n:=2) (i:=k+1) (off:=0) (x:=.agg (cbr z)) (row:=cbr y) (row':=cbr z) (o1.fr (by first| (simp;done)| (simp;omega)) λi _=>by simp) u2 rfl rfl rfl λg2 o2 n2 f2 p2=>?_;rw[Il]at o2;simp only[sy]at n2;have u5:k<(((S.aV p y q (k+1)).set (k+1) z).map cbr).length:=by simpa using u3
   have u6:(((S.aV p y q (k+1)).set (k+1) z).map cbr)[k]?=some (cbr z):=by rw[R_,Ty (by omega),Mc hz];rfl
   simp only[sz,simprocAttr,sf,o2.rows,u5];refine kX (v:=v) (sz:=2) (n:=2) (i:=k) (off:=0) (x:=.agg (cbr y)) (row:=cbr z) (row':=cbr y) (o2.fr (by first| (simp;done)| (simp;omega)) λi _=>by simp) u6 rfl rfl rfl λg3 o3 n3 f3 p3=>?_;rw[Il,Md hz]at o3;simp only[sy]at n3;have w2:IntKind.wrap .i64 (((k+1:Nat):Int) - 1)=(k:Int):=w1;simp only[sz,simprocAttr,sf,h9,w2];refine⟨?_,k,by omega,by omega,?_,?_,?_,?_⟩
   ·simp only[Si,Sl,Sf,Sd,G.new_lg,G.put_lg,setLog_lg];refine aA [false,false,false,false,false,false,false,false,false,false,false,false,false,false,false,true,false,true] [(2,15),(3,15),(4,15)] (by simp[All2,ac,ap]) (by decide) ?_;rintro p hp x y hx hy;simp only[Sq,Sk,Ui]at hp;rcases hp with rfl|rfl|rfl<;>(simp at hx hy;subst hx;subst hy;refine bH rfl rfl rfl rfl ?_ ?_ ?_<;>simp[ac,ap,ae])
   ·simp[St,LIn,sx,h0,h1,h2,h3,h8]
   ·exact o3.fr (by first| (simp;done)| (simp;omega)) λi _=>by simp
   ·refine hs.trans ⟨?_,λi hi hvi=>?_,λi hi=>?_⟩
    ·have:=f1.1;simp at this ⊢;omega
    ·have q3:=f3 i hvi;have q2:=f2 i hvi;have q1:=f1.2 i (by simp;omega);simp at q1 q2 q3;simp[q1,q2,q3]
    ·have q1:=p3 i;have q2:=p2 i;have q3:=l1 i;simp at hi q1 q2 q3;rcases hi with h|h|h|h
     ·exact .inl (q1 h)
     ·exact .inl (q2 h)
     ·exact .inr (.inr (by have:=q3 h;omega))
     ·exact .inr (.inl h)
   ·intro x hx;have e2:p.drop k=z::p.drop (k+1):=by rw[Tf (by omega)];congr 1;rw[R4 (by omega)]at hz;injection hz
    rw[e2]at hx;rcases Sq.1 hx with rfl|hx
    ·omega
    ·exact hgt x hx
  ·simp only[sz,simprocAttr,sf,c2];refine⟨?_,?_⟩
   ·simp only[Si,Sl,Sf,Sd,G.new_lg,G.put_lg,setLog_lg];exact aA [false,false,false,false,false,false,false,false,false,false,false,false,false,false,true,false,false] [] (by simp[All2,ac,ap,B7]) (by decide) (by simp)
   refine fin _ _ (by simp[St,LIn,sx,h0,h1,h2,h3,h8,h9]) ?_ ?_
   ·have hlt:∀x∈p.take (k+1),x.1<y.1:=λx hx=>by
     obtain⟨i,hi,he⟩:=Tl.1 hx;rw[SL]at hi;rw[List.getElem_take]at he;have hzy:z.1<y.1:=by have:=hne z hzm;omega
     by_cases e:i=k
     ·subst e;rw[R4 (by omega)]at hz;injection hz with hz;rw[<-he,hz];exact hzy
     ·have h1:=TG.1 hp i k (by omega) (by omega) (by omega);rw[R4 (by omega)]at hz;injection hz with hz;rw[he,hz]at h1;omega
    rw[<-xg hlt hgt];exact o1.fr (by first| (simp;done)| (simp;omega)) λi _=>by simp
   ·refine hs.trans ⟨?_,λi hi hvi=>?_,λi hi=>?_⟩
    ·have:=f1.1;simp at this ⊢;omega
    ·have q1:=f1.2 i (by simp;omega);simp at q1;simp[q1]
    ·have q3:=l1 i;simp at hi q3;rcases hi with h|h
     ·exact .inr (.inr (by have:=q3 h;omega))
     ·exact .inr (.inl h)
theorem LA{p:List Br}{y:Br}(h:∀b∈p,b.1<y.1):S.bu p y=p++[y]:=by have:=xg (p:=p) (y:=y) (k:=p.length) (by simpa using h) (by simp);rw[<-this];simp
def S.ct(s:List Br)(x:Br)(j:Nat):List Br:=if j<s.length then s++[x] else S.bu s x
theorem N9(x:Br):S.bu [] x=[x]:=rfl
theorem Nb(s:List Br)(x:Br):S.ct s x 0=s++[x]:=by
 unfold S.ct
 split
 ·rfl
 ·have:s=[]:=SD (by omega);rw[this,N9];rfl
set_option maxRecDepth 20000 in
theorem LG{d b:Nat}{v:AV}{s:List Br}{x:Br}{g:G}{K:AV->G->Prop}{D:ADf->Prop}(hp:s.Pairwise λa b=>a.1<b.1)(hb:∀x∈s,0<=x.1/\x.1<=1000)(hx:0<=x.1/\x.1<=1000)(hne:∀y∈s,y.1≠x.1)(hl:s.length<=999)
  (ho:Own g b v 2 ((s++[x]).map cbr)) (kk:∀u g',Own g' b v 2 ((S.bu s x).map cbr)->Sr v g g'->K u g'):(am C0 d N.bI [v,.int .i64 0,.int .i64 ((s.length+1:Nat):Int),.clo 80 [] []] g).sat K g D:=by
 rw[dl];refine dc dI (by simp[bc]) ?_;have w0:IntKind.wrap .i64 1=1:=ax (by omega) (by omega);simp only[sz,simprocAttr,bc,bD,w0];refine C3 (m:=s.length) (λj t df g'=>df=[]/\St t [(0,v),(1,.int .i64 0),(2,.int .i64 ((s.length+1:Nat):Int)),(3,.clo 80 [] []),(8,.int .i64 ((j+1:Nat):Int))]/\Own g' b v 2 ((S.ct s x j).map cbr)/\Sr v g g') ⟨rfl,by simp[St,sx],by rw[Nb];exact ho,Sr.refl _ _⟩ ?_ ?_ ?_
 ·rintro j t df g' hj ⟨rfl,⟨h0,h1,h2,h3,h8,-⟩,o,hs⟩;have c:decide (((j+1:Nat):Int)<((s.length+1:Nat):Int))=decide (j<s.length):=decide_eq_decide.2 (by omega);simp only[sz,simprocAttr,h2,h8,c];exact⟨by simp[St,sx,h0,h1,h2,h3,h8],o,hs⟩
 ·rintro j t df g' hj ⟨rfl,⟨h0,h1,h2,h3,h8,-⟩,o,hs⟩;have ev:S.ct s x j=s++[x]:=Sb hj;rw[ev]at o;obtain⟨p,y,q,e1,e2,e3,e4⟩:∃p y q,s++[x]=p++y::q/\p.length=j+1/\S.ct s x (j+1)=S.bu p y++q/\(p.Pairwise (λa b=>a.1<b.1)/\(∀z∈p,0<=z.1/\z.1<=1000)/\(0<=y.1/\y.1<=1000)/\∀z∈p,z.1≠y.1):=by
   by_cases c:j+1<s.length
   ·refine⟨s.take (j+1),s[j+1],s.drop (j+2)++[x],?_,by simp;omega,?_,hp.sublist (List.take_sublist _ _),λz hz=>hb z (SM hz),hb _ (Ta _),?_⟩
    ·rw[<-Sd,<-Tf c,<-S7,SW]
    ·have hlt:∀b∈s.take (j+1),b.1<(s[j+1]).1:=λb hb=>by obtain⟨i,hi,he⟩:=Tl.1 hb;rw[SL]at hi;rw[List.getElem_take]at he;rw[<-he];exact TG.1 hp i (j+1) (by omega) (by omega) (by omega)
     rw[LA hlt,S.ct,Sb c,S7,Vc,<-Sd,<-Tf c,<-S7,SW]
    ·intro z hz;obtain⟨i,hi,he⟩:=Tl.1 hz;rw[SL]at hi;rw[List.getElem_take]at he;have:=TG.1 hp i (j+1) (by omega) (by omega) (by omega);rw[<-he];omega
   ·exact⟨s,x,[],rfl,by omega,by rw[S.ct,Sa (by omega),Su],hp,hb,hx,hne⟩
  obtain⟨f1,f2,f3,f4⟩:=e4;have el:s.length+1=p.length+1+q.length:=by have:=congrArg List.length e1;simp at this;omega
  have em:s++[x]=S.aV p y q p.length:=by rw[S.aV,S1,List.drop_length,S7];exact e1
  rw[em]at o;rw[el]at h2;rw[<-e2]at h8;simp only[sz,simprocAttr,h8];refine LF (b:=b) f1 f2 f3 f4 (by omega) (by simp[St,LIn,sx,h0,h1,h2,h3,h8]) o hs ?_
  ·rintro t g2 ⟨h0,h1,h2,h3,h8,-⟩ o2 hs2;have w:IntKind.wrap .i64 ((p.length:Int)+1)=((p.length+1:Nat):Int):=by rw[ax (by omega) (by omega)];omega
   simp only[sz,simprocAttr,bE,h8,w];refine⟨?_,by rw[e3];exact o2,hs2⟩;rw[<-el]at h2;simp[St,sx,h0,h1,h2,h3,e2]
 ·rintro t df g' ⟨rfl,-,o,hs⟩;rw[S.ct,Sa (by omega)]at o;simp only[sz,simprocAttr];exact kk _ _ o hs
theorem gE{C:Cfg}{n d f:Nat}{g:G}{xs:List AV}{v:AV}(h:ah (sem C n) d g f xs=.val v):ah (I C) d g f xs=.val v:=by
 obtain⟨N,hN⟩:=ux (C:=C) (d:=d) (g:=g) (f:=f) (args:=xs);have e:ah (sem C (max n N)) d g f xs=ah (I C) d g f xs:=hN (max n N) (by omega);rw[<-e];rcases uK (GF C (show n<=max n N by omega)) (d:=d) (g:=g) (f:=f) (args:=xs) with q|q
 ·rw[h]at q;cases q
 ·rw[<-q,h]
theorem Kw(d:Nat)(xs:List AV)(g:G):am C0 d N.ac xs g=ah (I C0) d g N.ac xs:=by kernel_rfl
theorem Re(d:Nat)(g:G):ah (sem C0 100) (d+1) g N.ac [.int .u64 1]=.val (.int .i64 1):=by kernel_rfl
theorem Rf(d:Nat)(g:G):ah (sem C0 100) (d+1) g N.ac [.int .u64 2]=.val (.int .i64 2):=by kernel_rfl
theorem Rg(d:Nat)(g:G):ah (sem C0 100) (d+1) g N.ac [.int .u64 3]=.val (.int .i64 2):=by kernel_rfl
theorem Rh(d:Nat)(g:G):ah (sem C0 100) (d+1) g N.ac [.int .u64 4]=.val (.int .i64 3):=by kernel_rfl
theorem Ri(d:Nat)(g:G):ah (sem C0 100) (d+1) g N.ac [.int .u64 5]=.val (.int .i64 3):=by kernel_rfl
theorem Rj(d:Nat)(g:G):ah (sem C0 100) (d+1) g N.ac [.int .u64 6]=.val (.int .i64 3):=by kernel_rfl
theorem Rk(d:Nat)(g:G):ah (sem C0 100) (d+1) g N.ac [.int .u64 7]=.val (.int .i64 3):=by kernel_rfl
theorem Rl(d:Nat)(g:G):ah (sem C0 100) (d+1) g N.ac [.int .u64 8]=.val (.int .i64 4):=by kernel_rfl
theorem Qn{d n:Nat}{g:G}(h:1<=n/\n<=8):∃r:Int,am C0 (d+1) N.ac [.int .u64 (n:Int)] g=.val (.int .i64 r):=by
 rw[Kw];have:n=1\/n=2\/n=3\/n=4\/n=5\/n=6\/n=7\/n=8:=by omega
 rcases this with rfl|rfl|rfl|rfl|rfl|rfl|rfl|rfl
 ·exact⟨_,gE (Re d g)⟩
 ·exact⟨_,gE (Rf d g)⟩
 ·exact⟨_,gE (Rg d g)⟩
 ·exact⟨_,gE (Rh d g)⟩
 ·exact⟨_,gE (Ri d g)⟩
 ·exact⟨_,gE (Rj d g)⟩
 ·exact⟨_,gE (Rk d g)⟩
 ·exact⟨_,gE (Rl d g)⟩
theorem Own.sat_len{g:G}{b sz:Nat}{v:AV}{rows:List (List AV)}(h:Own g b v sz rows)(g':G):dO .slice v g'=.val (.int .i64 (rows.length:Int)):=by rcases h with⟨rfl,rfl⟩|⟨id,ep,lo,h1,h2,rfl,h3⟩<;>rfl
set_option maxRecDepth 20000 in
theorem O6{d b:Nat}{v:AV}{s:List Br}{x:Br}{g:G}{K:AV->G->Prop}{D:ADf->Prop}(hp:s.Pairwise λa b=>a.1<b.1)(hb:∀x∈s,0<=x.1/\x.1<=1000)(hx:0<=x.1/\x.1<=1000)(hne:∀y∈s,y.1≠x.1)(hl:s.length<=7)
  (ho:Own g b v 2 ((s++[x]).map cbr)) (kk:∀u g',Own g' b v 2 ((S.bu s x).map cbr)->Sr v g g'->K u g'):(am C0 (d+1) N.bH [v,.clo 80 [] []] g).sat K g D:=by
 have cSort:∀(d:Nat) (xs:List AV) (g:G),am C0 d N.bH xs g=orF ((I C0).call d N.bH xs g):=λd xs g=>by kernel_rfl
 have cPdq:∀(d:Nat) (xs:List AV) (g:G),am C0 d N.aU xs g=orF ((I C0).call d N.aU xs g):=λd xs g=>by kernel_rfl
 have vl:∀g',dO .slice v g'=.val (.int .i64 ((s.length+1:Nat):Int)):=λg'=>by rw[ho.sat_len];simp
 have wu:IntKind.wrap .u64 ((s.length+1:Nat):Int)=((s.length+1:Nat):Int):=q7 (by omega) (by omega);rw[cSort];refine dc cR (by simp[aV]) ?_;simp only[sz,simprocAttr,aV,vl,wu];refine kU (Q:=λr=>∃r':Int,r=.int .i64 r') ?_ ?_
 ·obtain⟨r,hr⟩:=Qn (d:=d) (n:=s.length+1) (g:=g) (by omega);exact⟨_,hr,_,rfl⟩
 rintro _ ⟨r,rfl⟩;simp only[sz,simprocAttr];rw[cPdq];refine dc fD (by simp[bp]) ?_;have w1:IntKind.wrap .i64 (((s.length+1:Nat):Int) - 0)=((s.length+1:Nat):Int):=ax (by omega) (by omega);have c1:decide (((s.length+1:Nat):Int)<=12)=true:=Tx (by omega);simp only[sz,simprocAttr,bp];refine jZ (λk t df g'=>df=[]/\g'=g/\St t [(0,v),(1,.int .i64 0),(2,.int .i64 ((s.length+1:Nat):Int)),(4,.clo 80 [] [])]) 0 ⟨rfl,rfl,rfl,rfl,rfl,rfl,trivial⟩ ?_;rintro k t df g' ⟨rfl,rfl,h0,h1,h2,h4,-⟩;simp only[sz,simprocAttr,bS,h0,h1,h2,h4,w1,c1];refine LG hp hb hx hne (by omega) ho λu g' o hs=>?_;simp only[sz,simprocAttr];exact kk _ _ o hs
theorem IY(d:Nat)(a c:AV)(g:G):fd C0 (I C0) d (.clo N.ba [] [c]) [a] g=orF ((I C0).call d N.ba [a,c] g):=by kernel_rfl
theorem IZ(d:Nat)(a:AV)(g:G):fd C0 (I C0) d (.clo 46 [] []) [a] g=orF ((I C0).call d N.bM [a] g):=by kernel_rfl
def Wn(d:Nat)(W:AV)(q:Nat)(o:AObj)(w:Nat->Bool):Prop:=∀(g:G) (x:Br) (K:AV->G->Prop) (D:ADf->Prop),g.h.get q=o->q<g.nx->x.2<18446744073709551616->(∀g',Fr g g'->K (.bool (w x.2)) g')->(fd C0 (I C0) d W [.agg (cbr x)] g).sat K g D
theorem QZ(d q:Nat)(o:AObj):Wn d (.clo 46 [] []) q o λ_=>true:=λg x K D h1 h2 h3 kk=>by rw[IZ];refine dc tW (by simp[iS]) ?_;simp only[sz,simprocAttr,cbr,iS,lB];exact kk _ (Fr.new _ _)
theorem yr(s v:Nat):decide (((s / 2 ^ v &&& 1:Nat):Int)=1)=s.testBit v:=by rw[Nat.testBit,Nat.shiftRight_eq_div_pow,Nat.and_comm];apply Tz.2;rw[Sg,bne_iff_ne,Nat.one_and_eq_mod_two];omega
theorem Q0(d q v:Nat):Wn d (.clo N.ba [] [.hptr q 0 0 0]) q (VG 1 [[.int .i64 (v:Int)]]) λs=>s.testBit v:=λg x K D h1 h2 h3 kk=>by rw[IY];refine dc tV (by simp[iQ]) ?_;have e1:=tB .i64 x.2 v h3;have e2:=qp (x.2 / 2 ^ v) 1 (Uy (T9 _ _) h3) (by omega);have e2:bU .and (.int .u64 ((x.2 / 2 ^ v:Nat):Int)) (.int .u64 1)=.val (.int .u64 ((x.2 / 2 ^ v &&& 1:Nat):Int)):=e2;have e3:=yr x.2 v;simp only[sz,simprocAttr,cbr,iQ,lA,h1,show ¬q=g.nx from by omega,e1,e2,e3];exact kk _ (Fr.new _ _)
theorem O0{g:G}{b sz:Nat}{u:AV}{rows:List (List AV)}(hu:Own g b u sz rows){n:Nat}(hn:n<=rows.length) :
  ∃y,yk sz u (some (.int .i64 (n:Int))) none g=.val y/\(∀g',dO .slice y g'=.val (.int .i64 ((rows.length - n:Nat):Int)))/\∀h':H,(∀i,vid u=some i->h'.get i=g.h.get i)->ak h' sz y=some (rows.drop n):=by
 rcases hu with⟨rfl,rfl⟩|⟨id,ep,lo,h1,h2,rfl,h3⟩
 ·have:n=0:=by simpa using hn
  subst this;exact⟨.nils,rfl,λ_=>rfl,λ_ _=>rfl⟩
 ·simp only[yk,nM,h3,SQ,SQ,Td,ay,SU,aa,SS,R5,if_true,bo,Un,Uu];simp only[dP];rw[show aB (n.ble rows.length) (some n) none=some n from by rw[aa,Sb (by simpa using hn)]];dsimp only
  by_cases h0:rows.length=n
  ·subst h0;rw[Sb (SQ _),List.drop_length,Th];cases lo
   ·exact⟨_,rfl,λ_=>rfl,λ_ _=>rfl⟩
   ·exact⟨_,rfl,λ_=>rfl,λ_ _=>nI _ _ _ _⟩
  ·rw[Sa (λe=>h0 (Tp e))];refine⟨_,rfl,λ_=>rfl,λh' hf=>?_⟩;rw[e_,hf id rfl,h3,cM,Sb (by omega),S5 (by simp)]
theorem N_{d pm q:Nat}{W O L:AV}{ob:AObj}{w:Nat->Bool}{o:List Br}{g0:G}{Q:QT}{t:T}(hW:Wn d W q ob w)(hq:g0.h.get q=ob)(hqn:q<g0.nx)(hO:Own g0 0 O 2 (o.map cbr))(hol:o.length<=8)(hos:∀x∈o,x.2<18446744073709551616)
  (hm:g0.h.get pm=VG 2 [[L,O]]) (hpn:pm<g0.nx)
  (ht:St t [(0,.hptr pm 0 0 0),(1,W),(4,.nils),(5,.nils),(14,O),(15,.int .i64 (o.length:Int)),(16,.int .i64 0)])
  (fin:∀t g T F,St t [(0,.hptr pm 0 0 0),(4,T),(5,F)]->Own g g0.nx T 2 ((o.filter λb=>w b.2).map cbr)->Own g g0.nx F 2 ((o.filter λb=>!w b.2).map cbr)->(∀i,vid T=some i->vid F≠some i)->Fr g0 g->Q (.exit 0) t [] g) :
  wpL (wp C0 d none dm) Q t [] g0:=by
 obtain⟨h0,h1,h4,h5,h14,h15,h16,-⟩:=ht;simp only[dm,gZ];refine aK (m:=o.length) (by omega) (λj t df g=>df=[]/\∃T F,St t [(0,.hptr pm 0 0 0),(1,W),(4,T),(5,F),(14,O)]/\Own g g0.nx T 2 (((o.take j).filter λb=>w b.2).map cbr)/\Own g g0.nx F 2 (((o.take j).filter λb=>!w b.2).map cbr)/\(∀i,vid T=some i->vid F≠some i)/\Fr g0 g)
  ⟨rfl,_,_,by simp[St,h0,h1,h4,h5,h14],.inl ⟨rfl,rfl⟩,.inl ⟨rfl,rfl⟩,λi hi=>(by cases hi),Fr.refl _⟩ h16 h15 (by decide)
  (by rintro j t df g v s (rfl|rfl|rfl) ⟨rfl,T,F,⟨a0,a1,a4,a5,a14,-⟩,r⟩<;>exact⟨rfl,T,F,by simp[sx,St,a0,a1,a4,a5,a14],r⟩) ?_ ?_
 ·clear h0 h1 h4 h5 h14 h15 h16;rintro j t df g hj ⟨rfl,T,F,⟨h0,h1,h4,h5,h14,-⟩,oT,oF,hd,hf⟩ h16 h15;obtain⟨x,hx,htk,hxm⟩:=an hj;have hOg:Own g 0 O 2 (o.map cbr):=hO.step hf;have u1:j<(o.map cbr).length:=by simpa using hj
  have u2:(o.map cbr)[j]?=some [.int .i64 x.1,.int .u64 (x.2:Int)]:=by rw[R_,hx];rfl
  simp only[sz,simprocAttr,h1,h14,h16,hOg.rows,u1,u2];obtain⟨gA,hgA⟩:∃gA,gA=((g.new (VG 2 [[AV.int IntKind.i64 0,AV.int IntKind.u64 0]])).put g.nx (VG 2 [[AV.int IntKind.i64 x.1,AV.int IntKind.u64 (x.2:Int)]])):=⟨_,rfl⟩;rw[<-hgA];have kA:gA.h.get g.nx=VG 2 [[.int .i64 x.1,.int .u64 (x.2:Int)]]:=by rw[hgA];simp[RW]
  have kn:gA.nx=g.nx+1:=by rw[hgA];simp
  have fA:Fr g gA:=⟨by omega,λi hi=>by rw[hgA];simp[RW,show ¬i=g.nx by omega]⟩;clear hgA;refine hW gA x _ _ (by rw[fA.2 q (by have:=hf.1;omega),hf.2 q hqn,hq]) (by have:=hf.1;omega) (hos x hxm) λg1 f1=>?_;have k1:g1.h.get g.nx=VG 2 [[.int .i64 x.1,.int .u64 (x.2:Int)]]:=by rw[f1.2 _ (by omega),kA]
  have fg:Fr g g1:=fA.trans f1;have oT1:=oT.step fg;have oF1:=oF.step fg;have hg0:=hf.1;have hg1:=fg.1;have hlt1:((o.take j).filter λb=>w b.2).length<=j:=Sz (Va _ _) (by simp;omega);have hlt2:((o.take j).filter λb=>!w b.2).length<=j:=Sz (Va _ _) (by simp;omega);cases hw:w x.2 with
  | true =>
   have e1:((o.take (j+1)).filter λb=>w b.2)=((o.take j).filter λb=>w b.2)++[x]:=by rw[htk,T5];simp[hw]
   have e2:((o.take (j+1)).filter λb=>!w b.2)=((o.take j).filter λb=>!w b.2):=by rw[htk,T5];simp[hw]
   simp only[sz,simprocAttr,h4,k1];refine aW (new:=[cbr x]) (oT1.step (Fr.new _ _)) (by simp[sx,sy,cbr]) (by simp;omega) (by simp[aY];omega) λv2 g2 hv2 n2 f2 c2 _=>?_;simp only[sz,simprocAttr];have fg2:Fr g0 g2:=⟨by simp at n2;omega,λi hi=>by
    rw[f2 i (by simp;omega) (λe=>by have:=(oT.lt e).1;omega),(Fr.new g1 _).2 i (by omega),fg.2 i (by omega),hf.2 i hi]⟩
   refine⟨⟨v2,F,by simp[St,sx,h0,h1,h5,h14],?_,?_,?_,fg2⟩,by simp[sx,h15,h16]⟩
   ·rw[e1];simpa using hv2
   ·rw[e2];refine oF1.fr (by simp at n2;omega) λi hi=>?_;rw[f2 i (by have:=(oF1.lt hi).2;simp;omega) (λe=>hd i e hi),(Fr.new g1 _).2 i (oF1.lt hi).2]
   ·intro i hi hi2;rcases c2 with c2|⟨k,c2,c3⟩
    ·exact hd i (by rw[<-c2];exact hi) hi2
    ·rw[hi]at c2;injection c2 with c2;have:=(oF1.lt hi2).2;simp at c3;omega
  | false =>
   have e1:((o.take (j+1)).filter λb=>w b.2)=((o.take j).filter λb=>w b.2):=by rw[htk,T5];simp[hw]
   have e2:((o.take (j+1)).filter λb=>!w b.2)=((o.take j).filter λb=>!w b.2)++[x]:=by rw[htk,T5];simp[hw]
   simp only[sz,simprocAttr,h5,k1];refine aW (new:=[cbr x]) (oF1.step (Fr.new _ _)) (by simp[sx,sy,cbr]) (by simp;omega) (by simp[aY];omega) λv2 g2 hv2 n2 f2 c2 _=>?_;simp only[sz,simprocAttr];have fg2:Fr g0 g2:=⟨by simp at n2;omega,λi hi=>by
    rw[f2 i (by simp;omega) (λe=>by have:=(oF.lt e).1;omega),(Fr.new g1 _).2 i (by omega),fg.2 i (by omega),hf.2 i hi]⟩
   refine⟨⟨T,v2,by simp[St,sx,h0,h1,h4,h14],?_,?_,?_,fg2⟩,by simp[sx,h15,h16]⟩
   ·rw[e1];refine oT1.fr (by simp at n2;omega) λi hi=>?_;rw[f2 i (by have:=(oT1.lt hi).2;simp;omega) (λe=>hd i hi e),(Fr.new g1 _).2 i (oT1.lt hi).2]
   ·rw[e2];simpa using hv2
   ·intro i hi hi2;rcases c2 with c2|⟨k,c2,c3⟩
    ·exact hd i hi (by rw[<-c2];exact hi2)
    ·rw[hi2]at c2;injection c2 with c2;have:=(oT1.lt hi).2;simp at c3;omega
 ·rintro t df g ⟨rfl,T,F,⟨h0,-,h4,h5,-⟩,oT,oF,hd,hf⟩;rw[S1]at oT oF;exact fin t g T F (by simp[St,h0,h4,h5]) oT oF hd hf
def ck9(k:Key):AV:=.agg (.int .i64 k.1::k.2.map λx=>.int .i64 x)
def tZ(L:Mem):List (AV×AV):=L.map λp=>(ck9 p.1,.int .i64 p.2)
def srO(gr size c:Int)(b lv vv cv xv:AV)(pm:Nat):AObj:=VG 9 [[.int .i64 gr,b,lv,vv,cv,xv,.hmap pm,.int .i64 size,.int .i64 c]]
structure Srs (n:Net) (l:List Sp) (cut ctx:List Nat) (b lv:AV) (pq pv pm pc px:Nat):Prop where
 nr:NR n
 nb:SlR NoP 0 .nil n.nodes b
 sl:SlR NoP 0 .nil l lv
 cl:cut.length=l.length
 xl:ctx.length=l.length
 ll:l.length<=15
 cb:∀x∈cut,x<2 ^ n.nodes.length
 xb:∀x∈ctx,x<2 ^ n.nodes.length
 d1:pv≠pq/\pm≠pq/\pc≠pq/\px≠pq
 d2:pm≠pv/\pc≠pv/\px≠pv
 d3:pc≠pm/\px≠pm
structure Srh (n:Net) (cut ctx:List Nat) (size:Int) (b lv:AV) (pq pv pm pc px:Nat) (st:MSt) (g:G):Prop where
 q:g.h.get pq=srO n.grain size st.2 b lv (.hsl pv 0 0 n.nodes.length none) (.hsl pc 0 0 cut.length none) (.hsl px 0 0 ctx.length none) pm
 m:g.h.get pm=.map (tZ st.1)
 c:g.h.get pc=VG 1 (cut.map cu)
 x:g.h.get px=VG 1 (ctx.map cu)
 nx:pq<g.nx/\pv<g.nx/\pm<g.nx/\pc<g.nx/\px<g.nx
def Vs(n:Net)(pv:Nat)(w:List Int)(g:G):Prop:=w.length=n.nodes.length/\∃lo,g.h.get pv=.cells 1 (w.map ci) 0 lo false
theorem Srh.fr{n:Net}{cut ctx:List Nat}{size:Int}{b lv:AV}{pq pv pm pc px:Nat}{st:MSt}{g g':G}(h:Srh n cut ctx size b lv pq pv pm pc px st g)(hn:g.nx<=g'.nx)(hf:∀i,i=pq\/i=pm\/i=pc\/i=px->g'.h.get i=g.h.get i):Srh n cut ctx size b lv pq pv pm pc px st g' :=
 ⟨by rw[hf _ (.inl rfl),h.q],by rw[hf _ (.inr (.inl rfl)),h.m],by rw[hf _ (.inr (.inr (.inl rfl))),h.c],by rw[hf _ (.inr (.inr (.inr rfl))),h.x],by have:=h.nx;omega⟩
theorem Vs.fr{n:Net}{pv:Nat}{w:List Int}{g g':G}(h:Vs n pv w g)(hf:g'.h.get pv=g.h.get pv):Vs n pv w g':=⟨h.1,by rw[hf];exact h.2⟩
def yg(w:List Int)(s j:Nat):List Int:=(List.range 8).map λv=>if v<j then (if s.testBit v then w[v]?.getD 0 else -1) else 0
theorem Eg(w:List Int)(s j:Nat):(yg w s j).length=8:=by simp[yg]
theorem LV(w:List Int)(s:Nat):yg w s 8=S.aS w s:=by refine Ti λv hv=>?_;rw[Sb (Sm.1 hv)]
theorem Eh{w:List Int}{s j:Nat}(h:j<8):(yg w s j).set j (if s.testBit j then w[j]?.getD 0 else -1)=yg w s (j+1):=by
 refine Vj (by simp[yg]) λi h1 h2=>?_;rw[List.getElem_set];simp only[yg,UX,List.getElem_range]
 by_cases e:j=i
 ·subst e;simp
 ·have h3:(i<j+1)=(i<j):=propext ⟨λ_=>by omega,λ_=>by omega⟩;simp only[e,if_false,h3]
def kO9(i:Int)(l:List Int):AObj:=VG 9 [.int .i64 i::l.map λx=>.int .i64 x]
theorem Jp{i x:Int}{l:List Int}{j:Nat}(hj:j<l.length)(g:G)(id:Nat):cN (kO9 i l) g id 0 0 1 (1+j*1) (.int .i64 x)=.upd .undef (g.put id (kO9 i (l.set j x))):=by unfold kO9;rw[bL 9 _ 0 false g id 0 1 (1+j*1) (.int .i64 x) rfl rfl];simp only[S3];rw[show (AV.int .i64 x).cells=[.int .i64 x] from rfl,mw (by simp;omega)];simp only[Uk,TQ];rw[show 1+j*1=j+1 by omega,U4]
theorem zM{i:Int}{l:List Int}(hl:l.length=8):bK (kO9 i l) 0 0 true 9 0=.val (ck9 (i,l)):=by
 unfold kO9;rw[ny,S3];show orV (bT true 9 _ 0)=_;rw[EH (by simp[hl]),Uz,S5 (by simp[hl])]
 rfl
theorem HP{i:Int}{l:List Int}{k:Key}(h0:l.length=8)(hl:k.2.length=8)(g:G)(id:Nat):cN (kO9 i l) g id 0 0 9 0 (ck9 k)=.upd .undef (g.put id (kO9 k.1 k.2)):=by
 unfold kO9 ck9;rw[bL 9 _ 0 false g id 0 9 0 _ (by show (AV.int .i64 k.1::k.2.map λx=>AV.int .i64 x).length=9;simp[hl]) rfl,S3];show (match bw _ 0 (AV.int .i64 k.1::k.2.map λx=>AV.int .i64 x) with|some row'=>OR.upd .undef (g.put id (VG 9 _))|none=>.fail)=_;rw[wi (by simp[h0,hl]) (by simp[hl])]
 rfl
theorem bF(id ep i off:Nat):xK (.hptr id ep i off)=.val (.hptr id ep i off):=rfl
theorem lr{l:List Nat}{i:Nat}(h:i<l.length):i<(l.map cu).length/\(l.map cu)[i]?=some (cu (l[i]?.getD 0)):=by refine⟨by simpa using h,?_⟩;rw[R_,R4 h];rfl
theorem Hh{l:List Int}{i:Nat}(h:i<l.length):i<(l.map ci).length/\(l.map ci)[i]?=some (ci (l[i]?.getD 0)):=by refine⟨by simpa using h,?_⟩;rw[R_,R4 h];rfl
theorem cU{g:G}{id sz:Nat}{rows:List (List AV)}{lo:Bool}{m:Nat}(h:g.h.get id=.cells sz rows 0 lo false)(hm:m=rows.length):ak g.h sz (.hsl id 0 0 m none)=some rows:=by subst hm;exact Own.rows (g:=⟨g.h,id+1,g.lg⟩) (b:=0) (.inr ⟨id,0,lo,S2 _,Vl _,rfl,h⟩)
theorem pD{x m:Nat}(h:x<2 ^ m)(hm:m<=8):x<256:=SB h (by have:=Vg (n:=2) (by decide) hm;omega)
set_option maxRecDepth 20000 in
theorem Nd{d i:Nat}{n:Net}{l:List Sp}{cut ctx:List Nat}{size:Int}{b lv:AV}{pq pv pm pc px:Nat}{st:MSt}{w:List Int}{g:G}{K:AV->G->Prop}{D:ADf->Prop}(hC:Srs n l cut ctx b lv pq pv pm pc px)(hS:Srh n cut ctx size b lv pq pv pm pc px st g)(hV:Vs n pv w g)(hi:i<l.length)
  (kk:∀g',Fx (λ_=>False) g g'->K (ck9 ((i:Int),S.aS w (ctx[i]?.getD 0))) g'):(am C0 d N.aG [.hptr pq 0 0 0,.int .i64 (i:Int)] g).sat K g D:=by
 obtain⟨hwl,lo,hv⟩:=hV;have hl8:=hC.nr.l2;have hil:i<ctx.length:=by rw[hC.xl];exact hi
 obtain⟨s,hs⟩:∃s,s=ctx[i]?.getD 0:=⟨_,rfl⟩;have hsm:s<2 ^ n.nodes.length:=by rw[hs,R4 hil];exact hC.xb _ (Ta hil)
 have hs256:=pD hsm hl8;obtain⟨n1,n2,-,-,n5⟩:=hS.nx;have hll:=hC.ll;rw[mj];refine dc nV (by simp[dN]) ?_;simp only[dN];refine bI (P:=λt' df g'=>df=[]/\g'.nx=g.nx+1/\g'.h.get g.nx=kO9 0 [0,0,0,0,0,0,0,0]/\Fx (λ_=>False) g g'/\St t' [(0,.hptr pq 0 0 0),(1,.int .i64 (i:Int)),(4,.hptr g.nx 0 0 0)]) ?_ ?_
 ·simp only[sz,simprocAttr];exact⟨rfl,Fx.new _ _ _,by simp[St,sx]⟩
 rintro t df g1 ⟨rfl,k1,k2,F1,h0,h1,h4,-⟩;simp only[f_];refine bI (P:=λt' df g'=>df=[]/\g'.nx=g.nx+2/\g'.h.get g.nx=kO9 0 [0,0,0,0,0,0,0,0]/\g'.h.get (g.nx+1)=kO9 (i:Int) (yg w s 0)/\Fx (λ_=>False) g g'/\St t' [(0,.hptr pq 0 0 0),(1,.int .i64 (i:Int)),(4,.hptr g.nx 0 0 0),(5,.hptr (g.nx+1) 0 0 0)]) ?_ ?_
 ·simp only[sz,simprocAttr,h1,k1];exact⟨by simp[k2],rfl,(F1.trans (Fx.new _ _ _)).put (.inr (by omega)) _,by simp[St,sx,h0,h1,h4]⟩
 rintro t df g2 ⟨rfl,k1,k2,k3,F2,h0,h1,h4,h5,-⟩;refine bI (P:=λt' df g'=>df=[]/\g'.nx=g.nx+2/\g'.h.get g.nx=kO9 0 [0,0,0,0,0,0,0,0]/\g'.h.get (g.nx+1)=kO9 (i:Int) (yg w s 8)/\Fx (λ_=>False) g g'/\St t' [(4,.hptr g.nx 0 0 0),(5,.hptr (g.nx+1) 0 0 0)]) ?_ ?_
 ·simp only[sz,simprocAttr,fM,fN];refine xU (m:=8) rfl (by omega) (λj t df g'=>df=[]/\g'.nx=g.nx+2/\g'.h.get g.nx=kO9 0 [0,0,0,0,0,0,0,0]/\g'.h.get (g.nx+1)=kO9 (i:Int) (yg w s j)/\Fx (λ_=>False) g g'/\St t [(0,.hptr pq 0 0 0),(1,.int .i64 (i:Int)),(4,.hptr g.nx 0 0 0),(5,.hptr (g.nx+1) 0 0 0)])
   ⟨rfl,k1,k2,k3,F2,by simp[St,sx,h0,h1,h4,h5]⟩ (by simp[sx]) (by decide) (by rintro j t df g v s (rfl|rfl|rfl)<;>simp[sx,St]) ?_ ?_
  ·clear h0 h1 h4 h5 k1 k2 k3 F2 F1;rintro j t df g3 hj ⟨rfl,k1,k2,k3,F3,h0,h1,h4,h5,-⟩ h9;have eq:g3.h.get pq=srO n.grain size st.2 b lv (.hsl pv 0 0 n.nodes.length none) (.hsl pc 0 0 cut.length none) (.hsl px 0 0 ctx.length none) pm:=by rw[F3.fr pq n1 id,hS.q]
   have ex:g3.h.get px=VG 1 (ctx.map cu):=by rw[F3.fr px n5 id,hS.x]
   have ev:g3.h.get pv=.cells 1 (w.map ci) 0 lo false:=by rw[F3.fr pv n2 id,hv]
   obtain⟨x1,x2⟩:=lr hil;rw[<-hs]at x2;have ka:FW 8 1 (.hptr (g.nx+1) 0 0 1) (.int .i64 (j:Int))=.val (.hptr (g.nx+1) 0 0 (1+j*1)):=zL 8 1 (g.nx+1) 0 0 1 .i64 hj;have st1:=λ(g':G) (l:List Int) (x:Int) (hl:l.length=8)=>Jp (i:=(i:Int)) (x:=x) (l:=l) (j:=j) (by omega) g' (g.nx+1);refine bI (P:=λt' df g'=>df=[]/\g'=g3/\St t' [(0,.hptr pq 0 0 0),(1,.int .i64 (i:Int)),(4,.hptr g.nx 0 0 0),(5,.hptr (g.nx+1) 0 0 0),(6,.int .i64 (j:Int)),(9,.int .i64 (j:Int))]) ?_ ?_
   ·simp only[sz,simprocAttr,h9];simp[St,sx,h0,h1,h4,h5,h9]
   rintro t df g4 ⟨rfl,rfl,h0,h1,h4,h5,h6,h9,-⟩;refine bI (P:=λt' df g'=>df=[]/\g'.nx=g.nx+2/\g'.h.get g.nx=kO9 0 [0,0,0,0,0,0,0,0]/\g'.h.get (g.nx+1)=kO9 (i:Int) ((yg w s j).set j (-1))/\g'.h.get pq=g4.h.get pq/\g'.h.get px=g4.h.get px/\g'.h.get pv=g4.h.get pv/\Fx (λ_=>False) g g'/\St t' [(0,.hptr pq 0 0 0),(1,.int .i64 (i:Int)),(4,.hptr g.nx 0 0 0),(5,.hptr (g.nx+1) 0 0 0),(6,.int .i64 (j:Int)),(9,.int .i64 (j:Int))]) ?_ ?_
   ·simp only[sz,simprocAttr,h5,h6,ka,k3,st1 _ _ _ (Eg w s j)];have hn1:¬pq=g.nx+1:=by omega
    have hn2:¬px=g.nx+1:=by omega
    have hn3:¬pv=g.nx+1:=by omega
    and_intros<;>first|exact F3.put (.inr (by omega)) _|simp[RW,k2,hn1,hn2,hn3,St,sx,h0,h1,h4,h5,h6,h9,k1]
   rintro t df g5 ⟨rfl,k1,k2,k3,eq5,ex5,ev5,F5,h0,h1,h4,h5,h6,h9,-⟩;rw[eq]at eq5;rw[ex]at ex5;rw[ev]at ev5;have rx:=cU (sz:=1) (m:=ctx.length) ex5 (by simp);have rv:=cU (sz:=1) (m:=n.nodes.length) ev5 (by simp[hwl]);have e1:=tB .i64 s j (by omega);have e2:=qp (s / 2 ^ j) 1 (Uy (T9 _ _) (by omega)) (by omega);have e2:bU .and (.int .u64 ((s / 2 ^ j:Nat):Int)) (.int .u64 1)=.val (.int .u64 ((s / 2 ^ j &&& 1:Nat):Int)):=e2;have e3:=yr s j;cases hb:s.testBit j with
   | false =>
    have e4:=Eh (w:=w) (s:=s) hj;rw[hb]at e4 e3;simp only[sz,simprocAttr,h0,h1,h6,eq5,srO,bF,rx,x1,x2,cu,e1,e2,e3];refine⟨⟨k1,k2,by rw[k3];exact congrArg _ e4,F5,by simp[St,sx,h0,h1,h4,h5]⟩,by simp[sx,h9]⟩
   | true =>
    have e4:=Eh (w:=w) (s:=s) hj;rw[hb]at e4 e3;have hjn:j<n.nodes.length:=Fg hsm hb;obtain⟨v1,v2⟩:=Hh (l:=w) (i:=j) (by omega);simp only[sz,simprocAttr,h0,h1,h5,h6,eq5,srO,bF,rx,rv,x1,x2,v1,v2,cu,ci,e1,e2,e3,ka,k3,st1 _ _ _ (show ((yg w s j).set j (-1)).length=8 by simp[Eg])];rw[List.set_set]
    and_intros<;>first|exact congrArg _ e4|exact F5.put (.inr (by omega)) _|simp[RW,k2,St,sx,h0,h1,h4,h5,h9,k1]
  ·rintro t df g3 ⟨rfl,k1,k2,k3,F3,h0,h1,h4,h5,-⟩;simp only[sz,simprocAttr];exact⟨k1,k2,k3,F3,by simp[St,h4,h5]⟩
 rintro t df g3 ⟨rfl,k1,k2,k3,F3,h4,h5,-⟩;rw[LV]at k3;have hsk:(S.aS w s).length=8:=by simp[S.aS]
 have ld:=zM (i:=(i:Int)) hsk;have sa:=λg id=>HP (i:=0) (l:=[0,0,0,0,0,0,0,0]) (k:=((i:Int),S.aS w s)) rfl hsk g id;simp only[sz,simprocAttr,fO,h4,h5,k3,k2,ld,sa];rw[<-hs]at kk;exact kk _ (F3.put (.inr (R5 _)) _)
theorem qk{v:Nat}:∀{l:List Nat} {w xs:List Int},v ∉ l->(S.aE w l xs)[v]?=w[v]?
 |[],_,_,_=>by simp[S.aE]
 |u::r,w,[],_=>by simp[S.aE]
 | u::r,w,x::xs,h=>by simp only[Sq,not_or]at h;rw[S.aE,qk h.2,Ty λe=>h.1 e.symm]
def Nv(l:List Nat)(w' w:List Int):Prop:=w'.length=w.length/\∀v,v ∉ l->w'[v]?=w[v]?
theorem EZ:∀{l:List Nat} {w w' xs:List Int},xs.length=l.length->Nv l w' w->S.aE w' l xs=S.aE w l xs
 | [],w,w',xs,_,h=>by have:w'=w:=Ur λi=>h.2 i (by simp);rw[this]
 |v::r,w,w',[],h,_=>by simp at h
 | v::r,w,w',x::xs,h,ha=>by
  rw[S.aE,S.aE];refine EZ (by simpa using h) ⟨by simp[ha.1],λu hu=>?_⟩;rw[S8,S8,ha.1]
  by_cases e:v=u
  ·rw[Sb e,Sb e]
  ·rw[Sa e,Sa e];exact ha.2 u (by simp[hu,To e])
theorem Ki{l:List Nat}{w xs:List Int}:Nv l (S.aE w l xs) w:=⟨tk _ _ _,λ_ h=>qk h⟩
theorem BI{v:Nat}{x:Int}:∀{l:List Nat} {w xs:List Int},xs.length=l.length->S.aE w (l++[v]) (xs++[x])=(S.aE w l xs).set v x
 |[],w,[],_=>by simp[S.aE]
 |[],w,_::_,h=>by simp at h
 |u::r,w,[],h=>by simp at h
 | u::r,w,y::xs,h=>by simp only[Sd,S.aE];exact BI (by simpa using h)
def S.bg(w:List Int)(l:List Nat):List Int:=l.foldl (λw v=>w.set v (-1)) w
theorem Hj:∀(l:List Nat) (w:List Int),(S.bg w l).length=w.length
 |[],_=>rfl
 | v::r,w=>by have:=Hj r (w.set v (-1));simpa [S.bg] using this
theorem Hi:∀{l:List Nat} {w w':List Int},Nv l w' w->S.bg w' l=S.bg w l
 |[],w,w',h=>Ur λi=>h.2 i (by simp)
 | v::r,w,w',ha=>by
  show S.bg (w'.set v (-1)) r=S.bg (w.set v (-1)) r;refine Hi ⟨by simp[ha.1],λu hu=>?_⟩;rw[S8,S8,ha.1]
  by_cases e:v=u
  ·rw[Sb e,Sb e]
  ·rw[Sa e,Sa e];exact ha.2 u (by simp[hu,To e])
theorem Dn:∀{l:List Nat} {w:List Int},(∀v∈l,w[v]?=some (-1))->S.bg w l=w
 |[],_,_=>rfl
 | v::r,w,h=>by
  have e:w.set v (-1)=w:=by
   refine Ur λi=>?_;rw[S8]
   by_cases e:v=i
   ·subst e;have:=h v (by simp);have hl:=(R6.1 this).1;rw[Sb rfl,Sb hl,this]
   ·rw[Sa e]
  show S.bg (w.set v (-1)) r=w;rw[e];exact Dn λu hu=>h u (by simp[hu])
theorem KE(w:List Int)(l:List Nat)(v:Nat):S.bg w (l++[v])=(S.bg w l).set v (-1):=by simp[S.bg]
def S.bZ(s j:Nat):List Nat:=(List.range j).filter s.testBit
theorem Et(s j:Nat):S.bZ s (j+1)=S.bZ s j++if s.testBit j then [j] else []:=by rw[S.bZ,Tw,T5,S.bZ];cases h:s.testBit j<;>simp[h]
theorem CC(s j:Nat):(S.bZ s j).length<=j:=by have:=Va s.testBit (List.range j);simpa [S.bZ] using this
theorem Mk(n:Net)(s:Nat):S.af n s=S.bZ s n.nodes.length:=rfl
theorem lZ{n:Net}{s v:Nat}:v∈S.af n s↔v<n.nodes.length/\s.testBit v=true:=by simp[S.af]
def cn(v:Nat):List AV:=[.int .i64 (v:Int)]
def LAs(b1 b2 B:Nat):List (Nat×AV):=[(1,.hptr b1 0 0 0),(2,.hptr b2 0 0 0),(3,.hptr B 0 0 0),(4,.hptr (B+1) 0 0 0)]
theorem yu(k:IntKind)(x:Int)(z:AV)(g:G):Kr 1 1 [z] [0] [.int k x] g=.upd (.hsl g.nx 0 0 1 none) (g.new (VG 1 [[.int k x]])):=rfl
set_option maxRecDepth 20000 in
theorem PX{d s b1 b2 yi:Nat}{n:Net}{b:AV}{g0:G}{Q:QT}{t:T}{g:G}(hr:NR n)(hN:SlR NoP 0 .nil n.nodes b)(hs:s<2 ^ n.nodes.length)(hb2:g0.h.get b2=VG 1 [[.int .u64 (s:Int)]])(hbn:b2<g0.nx)
  (k0:g.h.get g0.nx=VG 1 [[.yld yi]]) (k1:g.h.get (g0.nx+1)=VG 1 [[.nils]]) (hnx:g0.nx+2<=g.nx) (hF:Fx (λ_=>False) g0 g)
  (ht:St t (LAs b1 b2 g0.nx)) (h5:tat t 5=.nils) (h18:tat t 18=b) (h19:tat t 19=.int .i64 (n.nodes.length:Int)) (h20:tat t 20=.int .i64 0)
  (fin:∀t g nv cv,St t (LAs b1 b2 g0.nx)->tat t 5=cv->g.h.get g0.nx=VG 1 [[.yld yi]]->g.h.get (g0.nx+1)=VG 1 [[nv]]->Own g (g0.nx+2) nv 1 ((S.af n s).map cn)->Own g (g0.nx+2) cv 1 ((S.aW n (S.af n s)).map ci)->g0.nx+2<=g.nx->Fx (λ_=>False) g0 g->Q (.exit 0) t [] g) :
  wpL (wp C0 d none bY) Q t [] g:=by
 have hl8:=hr.l2;have hs256:=pD hs hl8;obtain⟨rows,r1,r2,r3,r4⟩:=hN.all;have r1:∀h',ak h' 3 b=some rows:=r1;obtain⟨h1,h2,h3,h4,-⟩:=ht;simp only[bY,dY];refine aK (m:=n.nodes.length) (by omega) (λj t df g=>df=[]/\∃nv cv,St t (LAs b1 b2 g0.nx)/\tat t 5=cv/\tat t 18=b/\g.h.get g0.nx=VG 1 [[.yld yi]]/\g.h.get (g0.nx+1)=VG 1 [[nv]]/\Own g (g0.nx+2) nv 1 ((S.bZ s j).map cn)/\Own g (g0.nx+2) cv 1 ((S.aW n (S.bZ s j)).map ci)/\(∀i,vid nv=some i->vid cv≠some i)/\g0.nx+2<=g.nx/\Fx (λ_=>False) g0 g)
  ⟨rfl,_,_,by simp[St,LAs,h1,h2,h3,h4],h5,h18,k0,k1,.inl ⟨rfl,rfl⟩,.inl ⟨rfl,rfl⟩,λi hi=>(by cases hi),hnx,hF⟩ h20 h19 (by decide)
  (by rintro j t df g v s (rfl|rfl|rfl) ⟨rfl,nv,cv,⟨a1,a2,a3,a4,-⟩,a5,a18,r⟩<;>exact⟨rfl,nv,cv,by simp[sx,St,LAs,a1,a2,a3,a4],by simp[sx,a5],by simp[sx,a18],r⟩) ?_ ?_
 ·clear h1 h2 h3 h4 h5 h18 h19 h20 k0 k1 hnx hF;rintro j t df g hj ⟨rfl,nv,cv,⟨h1,h2,h3,h4,-⟩,h5,h18,k0,k1,oN,oC,hd,hnx,hF⟩ h20 h19;obtain⟨y,hy,-,hym⟩:=an (l:=n.nodes) hj;obtain⟨row,s1,s2⟩:=r3 j y hy;obtain⟨pa,ra,rfl,-,-⟩:=cK.1 s2;have hlt:j<rows.length:=by omega
  have hry:=r4 (by omega);have hb2':g.h.get b2=VG 1 [[.int .u64 (s:Int)]]:=by rw[hF.fr b2 hbn id,hb2]
  have e1:=tB .i64 s j (by omega);have e2:=qp (s / 2 ^ j) 1 (Uy (T9 _ _) (by omega)) (by omega);have e2:bU .and (.int .u64 ((s / 2 ^ j:Nat):Int)) (.int .u64 1)=.val (.int .u64 ((s / 2 ^ j &&& 1:Nat):Int)):=e2;have e3:=yr s j;have cells3:∀(g:G) (q:Nat),cN (VG 3 [[.int .i64 0,.nils,.nils]]) g q 0 0 3 0 (.agg [.int .i64 y.card,pa,ra])=.upd .undef (g.put q (VG 3 [[.int .i64 y.card,pa,ra]])):=λg q=>by
   rw[bL 3 _ 0 false g q 0 3 0 _ rfl rfl,S3];rw[show (AV.agg [.int .i64 y.card,pa,ra]).cells=[.int .i64 y.card,pa,ra] from rfl];dsimp only;rw[wi (by rfl) (by simp)]
   rfl
  refine bI (P:=λt' df g'=>df=[]/\St t' (LAs b1 b2 g0.nx)/\tat t' 5=cv/\tat t' 18=b/\tat t' 6=.int .i64 (j:Int)/\tat t' 7=.hptr g.nx 0 0 0/\tat t' 19=.int .i64 (n.nodes.length:Int)/\tat t' 20=.int .i64 (j:Int)/\g'.h.get g.nx=VG 3 [[.int .i64 y.card,pa,ra]]/\g'.nx=g.nx+1/\(∀i,i<g.nx->g'.h.get i=g.h.get i)/\Fx (λ_=>False) g0 g') ?_ ?_
  ·simp only[sz,simprocAttr,h18,h20,r1,hlt,s1,hry,cells3];exact⟨by simp[sx,St,LAs,h1,h2,h3,h4],h5,h19,λi hi=>by simp[show ¬i=g.nx by omega],(hF.trans (Fx.new _ _ _)).put (.inr hF.nx) _⟩
  rintro t df g1 ⟨rfl,⟨h1,h2,h3,h4,-⟩,h5,h18,h6,h7,h19,h20,q1,n1,f1,F1⟩;have oN1:=oN.fr (g':=g1) (by omega) λi hi=>f1 i (oN.lt hi).2;have oC1:=oC.fr (g':=g1) (by omega) λi hi=>f1 i (oC.lt hi).2;have k0':g1.h.get g0.nx=VG 1 [[.yld yi]]:=by rw[f1 _ (by omega),k0]
  have k1':g1.h.get (g0.nx+1)=VG 1 [[nv]]:=by rw[f1 _ (by omega),k1]
  have hb2':g1.h.get b2=VG 1 [[.int .u64 (s:Int)]]:=by rw[F1.fr b2 hbn id,hb2]
  cases hb:s.testBit j with
  | false =>
   rw[hb]at e3;have en:=Et s j;rw[hb]at en;simp only[TC,if_false,Su]at en;simp only[sz,simprocAttr,h2,h6,hb2',e1,e2,e3];exact⟨⟨nv,cv,by simp[sx,St,LAs,h1,h2,h3,h4],h5,h18,k0',k1',by rw[en];exact oN1,by rw[en];exact oC1,hd,by omega,F1⟩,h20,h19⟩
  | true =>
   rw[hb]at e3;have en:=Et s j;rw[hb,Sb rfl]at en;simp only[sz,simprocAttr,sf,h2,h4,h5,h6,h7,hb2',k1',q1,e1,e2,e3,yu];have hnl:=CC s j;refine nY (new:=[cn j]) (oN1.fr (by simp;omega) λi hi=>?_) (by simp[sx,sy,cn]) (by simp;omega) (by simp[aY];omega) λv2 g2 hv2 n2 f2 c2 l2=>?_
   ·have:=(oN1.lt hi).2;simp[RW,show ¬i=g1.nx+1+1 by omega,show ¬i=g1.nx+2 by omega]
   simp only[sz,simprocAttr]at n2 f2 l2;have hF0:=hF.nx;have hnv:∀i,(i<g0.nx+2\/g.nx<=i)->vid nv≠some i:=λi hi e=>by have:=oN.lt e;omega
   have q2:g2.h.get g.nx=VG 3 [[.int .i64 y.card,pa,ra]]:=by rw[f2 _ (by omega) (hnv _ (by omega)),Sa (by omega),q1]
   have k02:g2.h.get g0.nx=VG 1 [[.yld yi]]:=by rw[f2 _ (by omega) (hnv _ (by omega)),Sa (by omega),k0']
   have k12:g2.h.get (g0.nx+1)=VG 1 [[nv]]:=by rw[f2 _ (by omega) (hnv _ (by omega)),Sa (by omega),k1']
   have oC2:=oC1.fr (g':=g2) (by omega) λi hi=>by have:=(oC1.lt hi).2;rw[f2 i (by omega) (λe=>hd i e hi),Sa (by omega)]
   have hcl:(S.aW n (S.bZ s j)).length<=8:=by simp[S.aW];omega
   simp only[sz,simprocAttr,sf,h4,h5,h6,h7,q2,yu];refine nY (new:=[ci y.card]) (oC2.fr (by simp;omega) λi hi=>?_) (by simp[sx,sy,ci]) (by simp;omega) (by simp[aY];omega) λv3 g3 hv3 n3 f3 c3 l3=>?_
   ·have:=(oC2.lt hi).2;simp[RW];omega
   simp only[sz,simprocAttr]at n3 f3 l3;have hcv:∀i,(i<g0.nx+2\/g.nx<=i)->vid cv≠some i:=λi hi e=>by have:=oC.lt e;omega
   have k03:g3.h.get g0.nx=VG 1 [[.yld yi]]:=by rw[f3 _ (by omega) (hcv _ (by omega)),Sa (by omega),k02]
   have k13:g3.h.get (g0.nx+1)=VG 1 [[nv]]:=by rw[f3 _ (by omega) (hcv _ (by omega)),Sa (by omega),k12]
   obtain⟨vc1,vc2⟩:=hv2.cell;simp only[sz,simprocAttr,sf,h4,k13,vc1,vc2];have r1':=EF oN;have l2':∀i∈g2.lg,vid nv=some i\/g1.nx+1+1+1+1<=i/\i<g2.nx:=λi hi=>by simpa using l2 i hi
   have l3':∀i∈g3.lg,vid cv=some i\/g2.nx+1+1+1+1+1+1<=i/\i<g3.nx:=λi hi=>by simpa using l3 i hi
   have r2':=EF oC;refine⟨?_,?_⟩
   ·simp only[Si,Sl,Sf,Sd];refine aA [false,false,true,true,false,false,false,true,true,true,false] [(0,2),(2,4),(3,4),(2,5),(3,5),(2,6),(3,6),(0,7),(1,7),(2,7),(3,7),(4,7)] (by simp[All2,ac,ap]) (by decide) ?_;intro p hp x y hx hy;simp only[Sq,Sk,Ui]at hp;rcases hp with rfl|rfl|rfl|rfl|rfl|rfl|rfl|rfl|rfl|rfl|rfl|rfl<;>(simp only[S3,TF,S9]at hx hy;subst hx;subst hy;refine bH rfl rfl rfl rfl ?_ ?_ ?_<;>simp[ac,ap,jq,qT])
    all_goals first|omega|exact λi hi e=>(l2' i hi).elim (λh=>by have:=oN.lt h;omega) (λh=>by omega)|exact λi hi e=>hi.elim (λh=>by have:=oN.lt (r1' i h);omega) (λh=>by omega)
   ·rw[en];refine⟨⟨v2,v3,by simp[sx,St,LAs,h1,h2,h3,h4],by simp[sx],h18,by rw[Sa (by omega)];exact k03,rfl,?_,?_,?_,by first| (simp;omega)|omega,?_⟩,h20,h19⟩
    ·rw[TA];refine hv2.fr (by simp;omega) λi hi=>?_;have:=hv2.lt hi;have hc:vid cv≠some i:=λe=>by
      have:=oC.lt e;rcases c2 with c2|⟨k,c2,c3⟩
      ·exact hd i (by rw[<-c2];exact hi) e
      ·rw[hi]at c2;injection c2 with c2;simp at c3;omega
     have h3:=f3 i (by omega) hc;rw[Sa (by omega)]at h3;simp[RW,show ¬i=g0.nx+1 by omega,h3]
    ·rw[S.aW,TA,TA];have e1:(S.aa n)[j]?.getD 0=y.card:=by simp[S.aa,hy]
     simp only[Te,TP,e1];refine hv3.fr (by simp;omega) λi hi=>?_;have:=hv3.lt hi;simp[RW,show ¬i=g0.nx+1 by omega]
    ·intro i hi hi2;have l1:=hv2.lt hi;rcases c3 with c3|⟨k,c3,c4⟩
     ·rw[c3]at hi2;have:=oC.lt hi2;rcases c2 with c2|⟨k,c2,c5⟩
      ·exact hd i (by rw[<-c2];exact hi) hi2
      ·rw[hi]at c2;injection c2 with c2;simp at c5;omega
     ·rw[hi2]at c3;injection c3 with c3;simp at c4;omega
    ·refine⟨by simp;omega,λi hi _=>?_,λi hi=>?_⟩
     ·have h3:=f3 i (by omega) (hcv i (by omega));have h2:=f2 i (by omega) (hnv i (by omega));rw[Sa (by omega)]at h3 h2;simp[RW,show ¬i=g0.nx+1 by omega,h3,h2,F1.fr i hi (λh=>h)]
     ·simp at hi;rcases hi with rfl|hi|rfl|hi|rfl|hi
      ·exact .inr (.inr (by omega))
      ·rcases l3' i hi with h|h
       ·have:=oC.lt h;exact .inr (.inr (by omega))
       ·exact .inr (.inr (by omega))
      ·exact .inr (.inr (by omega))
      ·rcases l2' i hi with h|h
       ·have:=oN.lt h;exact .inr (.inr (by omega))
       ·exact .inr (.inr (by omega))
      ·exact .inr (.inr (by omega))
      ·exact F1.lg i hi
 ·rintro t df g ⟨rfl,nv,cv,hL,h5,h18,k0,k1,oN,oC,hd,hnx,hF⟩;exact fin t g nv cv hL h5 k0 k1 oN oC hnx hF
theorem Vs.own{n:Net}{pv:Nat}{w:List Int}{g:G}(h:Vs n pv w g)(hn:pv<g.nx):Own g 0 (.hsl pv 0 0 n.nodes.length none) 1 (w.map ci):=by obtain⟨h1,lo,h2⟩:=h;exact .inr ⟨pv,0,lo,S2 _,hn,by rw[Ss,h1],h2⟩
theorem Own.vs{n:Net}{pv m b:Nat}{w:List Int}{g:G}(h:Own g b (.hsl pv 0 0 m none) 1 (w.map ci))(hw:w.length=n.nodes.length):Vs n pv w g:=by
 rcases h with⟨h,-⟩|⟨id,ep,lo,h1,h2,h3,h4⟩
 ·cases h
 ·injection h3 with e1 e2;subst e1;subst e2;exact⟨hw,lo,h4⟩
structure AsH (n:Net) (size:Int) (b lv vv cv xv:AV) (pq pm b1 b2 s:Nat) (g:G):Prop where
 b1:g.h.get b1=VG 1 [[.hptr pq 0 0 0]]
 b2:g.h.get b2=VG 1 [[.int .u64 (s:Int)]]
 q:∃c,g.h.get pq=srO n.grain size c b lv vv cv xv pm
def LB3(b1 B j:Nat)(u nv:AV):List (Nat×AV):=[(1,.hptr b1 0 0 0),(3,.hptr B 0 0 0),(8,.int .i64 (j:Int)),(9,u),(44,nv)]
set_option maxRecDepth 20000 in
theorem PY{d b1 b2 B j pq pv pm s:Nat}{n:Net}{size:Int}{l:List Nat}{xs w:List Int}{b lv cv xv u nv:AV}{rd:Option Nat}{Q:QT}{t:T}{g1:G}(hl:∀v∈l,v<n.nodes.length)(hll:l.length<=8)(hxl:xs.length=l.length)
  (hH:∀g,(∀i,i≠pv->g.h.get i=g1.h.get i)->AsH n size b lv (.hsl pv 0 0 n.nodes.length none) cv xv pq pm b1 b2 s g/\ak g.h 1 nv=some (l.map cn)/\ak g.h 1 u=some (xs.map ci))
  (hV:Vs n pv w g1) (hpv:pv<g1.nx) (ht:St t (LB3 b1 B j u nv)) (h45:tat t 45=.int .i64 (l.length:Int)) (h46:tat t 46=.int .i64 0)
  (fin:∀t g,St t (LB3 b1 B j u nv)->Vs n pv (S.aE w l xs) g->Fx (λi=>i=pv) g1 g->(∀i,i≠pv->g.h.get i=g1.h.get i)->Q (.exit 4) t [] g) :
  wpL (wp C0 d rd bZ) Q t [] g1:=by
 obtain⟨h1,h3,h8,h9,h44,-⟩:=ht;simp only[bZ];refine aK (m:=l.length) (by omega) (λk t df g=>df=[]/\St t (LB3 b1 B j u nv)/\Vs n pv (S.aE w (l.take k) (xs.take k)) g/\Fx (λi=>i=pv) g1 g/\(∀i,i≠pv->g.h.get i=g1.h.get i))
  ⟨rfl,by simp[St,LB3,h1,h3,h8,h9,h44],by simpa [S.aE] using hV,Fx.refl _ _,λ_ _=>rfl⟩ h46 h45 (by decide)
  (by rintro j t df g v s (rfl|rfl|rfl) ⟨rfl,⟨a1,a3,a8,a9,a44,-⟩,r⟩<;>exact⟨rfl,by simp[sx,St,LB3,a1,a3,a8,a9,a44],r⟩) ?_ ?_
 ·clear h1 h3 h8 h9 h44 h45 h46;rintro k t df g hk ⟨rfl,⟨h1,h3,h8,h9,h44,-⟩,hVk,hF,hf⟩ h46 h45;obtain⟨⟨hb1,hb2,c,hq⟩,hn,hu⟩:=hH g hf;obtain⟨v,hv,hvt,hvm⟩:=an hk;obtain⟨x,hx,hxt,-⟩:=an (l:=xs) (j:=k) (by omega);have hvn:=hl v hvm;have a1:k<(l.map cn).length:=by simpa using hk
  have a2:(l.map cn)[k]?=some (cn v):=by rw[R_,hv];rfl
  have a3:k<(xs.map ci).length:=by rw[Ss];omega
  have a4:(xs.map ci)[k]?=some (ci x):=by rw[R_,hx];rfl
  have hFn:=hF.nx;have oV:=hVk.own (by omega);have hwl:=hVk.1;have rv:=oV.rows;have b1':v<((S.aE w (l.take k) (xs.take k)).map ci).length:=by rw[Ss,hwl];exact hvn
  obtain⟨y,hy,-,-⟩:=an (l:=S.aE w (l.take k) (xs.take k)) (j:=v) (by omega);have b2':((S.aE w (l.take k) (xs.take k)).map ci)[v]?=some (ci y):=by rw[R_,hy];rfl
  simp only[sz,simprocAttr,sf,h1,h9,h44,h46,hb1,hq,srO,bF,hn,hu,rv,a1,a2,a3,a4,b1',cn,ci];refine kX (b:=0) (v:=.hsl pv 0 0 n.nodes.length none) (sz:=1) (n:=1) (i:=v) (off:=0) (x:=.int .i64 x) (row':=ci x) (oV.fr (by simp;omega) λi hi=>by simp) b2' rfl rfl rfl λg5 hu5 n5 f5 l5=>?_;rw[<-TQ,<-BI (by simp;omega),<-hvt,<-hxt]at hu5;have hlen:(S.aE w (l.take (k+1)) (xs.take (k+1))).length=n.nodes.length:=by rw[tk];exact hV.1
  have hvid:vid (.hsl pv 0 0 n.nodes.length none)=some pv:=rfl;simp only[sz,simprocAttr,sf];refine⟨?_,?_⟩
  ·simp only[Si,Sl,Sf,Sd];exact aA [false,false,false,false,false,false,false,false,false,false,true] [] (by simp[All2,ac,ap]) (by decide) (by simp)
  have hf5:∀i,i≠pv->g5.h.get i=g1.h.get i:=λi hi=>by have:=f5 i (λe=>hi (by injection e with e;exact e.symm));simp at this;rw[this,hf i hi]
  refine⟨⟨by simp[St,LB3,sx,h1,h3,h8,h9,h44],(hu5.vs hlen).fr (by simp),⟨by simp at n5;simp;omega,λi _ hi=>by simpa using hf5 i hi,λi hi=>?_⟩,hf5⟩,h46,h45⟩;simp at hi;rcases hi with hi|hi
  ·rcases l5 i hi with h|h
   ·simp at h
   ·rw[hvid]at h;injection h with h;exact .inr (.inl h.symm)
  ·exact hF.lg i hi
 ·rintro t df g ⟨rfl,hL,hVk,hF,hf⟩;rw[S1,<-hxl,S1]at hVk;exact fin t g hL hVk hF hf
set_option maxRecDepth 20000 in
theorem PZ{d b1 b2 pq pv pm s:Nat}{n:Net}{size:Int}{l:List Nat}{w:List Int}{b lv cv xv nv:AV}{rd:Option Nat}{Q:QT}{t:T}{df0:List ADf}{g1:G}(hl:∀v∈l,v<n.nodes.length)(hll:l.length<=8)
  (hH:∀g,(∀i,i≠pv->g.h.get i=g1.h.get i)->AsH n size b lv (.hsl pv 0 0 n.nodes.length none) cv xv pq pm b1 b2 s g/\ak g.h 1 nv=some (l.map cn))
  (hV:Vs n pv w g1) (hpv:pv<g1.nx) (h1:tat t 1=.hptr b1 0 0 0) (h66:tat t 66=nv) (h67:tat t 67=.int .i64 (l.length:Int)) (h68:tat t 68=.int .i64 0)
  (fin:∀t g,Vs n pv (S.bg w l) g->Fx (λi=>i=pv) g1 g->(∀i,i≠pv->g.h.get i=g1.h.get i)->Q (.exit 6) t df0 g) :
  wpL (wp C0 d rd b_) Q t df0 g1:=by
 simp only[b_];refine aK (m:=l.length) (by omega) (λk t df g=>df=df0/\St t [(1,.hptr b1 0 0 0),(66,nv)]/\Vs n pv (S.bg w (l.take k)) g/\Fx (λi=>i=pv) g1 g/\(∀i,i≠pv->g.h.get i=g1.h.get i))
  ⟨rfl,by simp[St,h1,h66],by simpa [S.bg] using hV,Fx.refl _ _,λ_ _=>rfl⟩ h68 h67 (by decide)
  (by rintro j t df g v s (rfl|rfl|rfl) ⟨rfl,⟨a1,a66,-⟩,r⟩<;>exact⟨rfl,by simp[sx,St,a1,a66],r⟩) ?_ ?_
 ·clear h1 h66 h67 h68;rintro k t df g hk ⟨rfl,⟨h1,h66,-⟩,hVk,hF,hf⟩ h68 h67;obtain⟨⟨hb1,hb2,c,hq⟩,hn⟩:=hH g hf;obtain⟨v,hv,hvt,hvm⟩:=an hk;have hvn:=hl v hvm;have a1:k<(l.map cn).length:=by simpa using hk
  have a2:(l.map cn)[k]?=some (cn v):=by rw[R_,hv];rfl
  have hFn:=hF.nx;have oV:=hVk.own (by omega);have hwl:=hVk.1;have rv:=oV.rows;have b1':v<((S.bg w (l.take k)).map ci).length:=by rw[Ss,hwl];exact hvn
  obtain⟨y,hy,-,-⟩:=an (l:=S.bg w (l.take k)) (j:=v) (by omega);have b2':((S.bg w (l.take k)).map ci)[v]?=some (ci y):=by rw[R_,hy];rfl
  simp only[sz,simprocAttr,sf,h1,h66,h68,hb1,hq,srO,bF,hn,rv,a1,a2,b1',cn];refine kX (b:=0) (v:=.hsl pv 0 0 n.nodes.length none) (sz:=1) (n:=1) (i:=v) (off:=0) (x:=.int .i64 (-1)) (row':=ci (-1)) oV b2' rfl rfl rfl λg5 hu5 n5 f5 l5=>?_;rw[<-TQ,<-KE,<-hvt]at hu5;have hlen:(S.bg w (l.take (k+1))).length=n.nodes.length:=by rw[Hj];exact hV.1
  have hvid:vid (.hsl pv 0 0 n.nodes.length none)=some pv:=rfl;simp only[sz,simprocAttr,sf];have hf5:∀i,i≠pv->g5.h.get i=g1.h.get i:=λi hi=>by have:=f5 i (λe=>hi (by injection e with e;exact e.symm));rw[this,hf i hi]
  refine⟨⟨by simp[St,sx,h1,h66],hu5.vs hlen,⟨by omega,λi _ hi=>hf5 i hi,λi hi=>?_⟩,hf5⟩,h68,h67⟩;rcases l5 i hi with h|h
  ·exact hF.lg i h
  ·rw[hvid]at h;injection h with h;exact .inr (.inl h.symm)
 ·rintro t df g ⟨rfl,hL,hVk,hF,hf⟩;rw[S1]at hVk;exact fin t g hVk hF hf
theorem tg{n:Net}(hr:NR n)(s:Nat):CsOk (S.aW n (S.af n s)):=by
 refine⟨λc hc=>?_,?_⟩
 ·obtain⟨v,hv,rfl⟩:=SX.1 hc;have hvn:=(lZ.1 hv).1;rw[R4 (by rw[aX];exact hvn),Se];exact hr.cs _ (Ta _)
 ·have:=CC s n.nodes.length;have:=hr.l2;simp[S.aW,Mk];omega
set_option maxRecDepth 20000 in
theorem P3{d yi b1 b2 pq pv pm s:Nat}{n:Net}{size:Int}{w:List Int}{b lv cv' xv:AV}{g0:G}{K:AV->G->Prop}(hr:NR n)(hN:SlR NoP 0 .nil n.nodes b)(hs:s<2 ^ n.nodes.length)(hbn:b1<g0.nx/\b2<g0.nx/\pv<g0.nx)(hw1:∀v∈S.af n s,w[v]?=some (-1))
  (J:Nat->G->Prop) (hJH:∀j g,J j g->AsH n size b lv (.hsl pv 0 0 n.nodes.length none) cv' xv pq pm b1 b2 s g) (hne:b1≠pv/\b2≠pv/\pq≠pv/\pq<g0.nx)
  (hJ:∀j g g',g.nx<=g'.nx->(∀i,i<g0.nx->i≠pv->g'.h.get i=g.h.get i)->(∀i∈g'.lg,i∈g.lg\/i=pv\/g0.nx<=i)->J j g->J j g')
  (step:∀(j:Nat) (g:G) (K':AV->G->Prop) (D:ADf->Prop),j<S.aF n (S.af n s)->J j g->Vs n pv (S.ap n w (S.af n s) j) g->g0.nx<=g.nx ->
   (∀g',J (j+1) g'->Vs n pv (S.ap n w (S.af n s) j) g'->g.nx<=g'.nx->(∀i,g0.nx<=i->i<g.nx->g'.h.get i=g.h.get i)->K' (.bool true) g')->(cp (I C0) d yi [.int .i64 (j:Int)] g).sat K' g D)
  (h0:J 0 g0) (hV:Vs n pv w g0) (fin:∀g',J (S.aF n (S.af n s)) g'->Vs n pv w g'->g0.nx<=g'.nx->K (.tup []) g') :
  wp C0 d none aQ.code (fnQ C0 d aQ.res K) (co 0 [.yld yi,.hptr b1 0 0 0,.hptr b2 0 0 0] .nil) [] g0:=by
 have hl8:=hr.l2;obtain⟨hb1n,hb2n,hpvn⟩:=hbn;obtain⟨ne1,ne2,ne3,hpqn⟩:=hne;have nl:=λg:G=>hN.len g;have hcs:=tg hr s;obtain⟨W1,W2,W3⟩:=hcs.nc;have hin:∀v∈S.af n s,v<n.nodes.length:=λv hv=>(lZ.1 hv).1;have hll:(S.af n s).length<=8:=by have:=CC s n.nodes.length;rw[Mk];omega
 have hbx:∀g:G,xW (.yld yi) g=.upd (.hptr g.nx 0 0 0) (g.new (VG 1 [[.yld yi]])):=λg=>rfl;obtain⟨Qf,hQf⟩:∃Qf,Qf=fnQ C0 d aQ.res K:=⟨_,rfl⟩;rw[<-hQf];simp only[sz,simprocAttr,aQ,hbx];simp only[eN];refine be (P:=λt' df g'=>df=[]/\g'.h.get g0.nx=VG 1 [[.yld yi]]/\g'.h.get (g0.nx+1)=VG 1 [[.nils]]/\g0.nx+2<=g'.nx/\Fx (λ_=>False) g0 g'/\St t' (LAs b1 b2 g0.nx)/\tat t' 5=.nils) ?_ ?_
 ·simp only[sz,simprocAttr];refine⟨by simp[RW],by simp,(Fx.new _ _ _).trans (Fx.new _ _ _),by simp[St,LAs,sx]⟩
 rintro t df g1 ⟨rfl,kB,kB1,n1,F1,⟨h1,h2,h3,h4,-⟩,h5⟩;have A1:=hJH 0 g0 h0;obtain⟨ab1,ab2,c,aq⟩:=A1;refine bI (P:=λt g=>λg'=>g=[]/\∃nv cv,St t (LAs b1 b2 g0.nx)/\tat t 5=cv/\g'.h.get g0.nx=VG 1 [[.yld yi]]/\g'.h.get (g0.nx+1)=VG 1 [[nv]]/\Own g' (g0.nx+2) nv 1 ((S.af n s).map cn)/\Own g' (g0.nx+2) cv 1 ((S.aW n (S.af n s)).map ci)/\g0.nx+2<=g'.nx/\Fx (λ_=>False) g0 g') ?_ ?_
 ·have e1:g1.h.get b1=VG 1 [[.hptr pq 0 0 0]]:=by rw[F1.fr b1 hb1n id,ab1]
  have e2:g1.h.get pq=srO n.grain size c b lv (.hsl pv 0 0 n.nodes.length none) cv' xv pm:=by rw[F1.fr pq hpqn id,aq]
  simp only[sz,simprocAttr,h1,e1,e2,srO,bF,nl];refine PX (b1:=b1) (b2:=b2) (yi:=yi) (g0:=g0) (s:=s) hr hN hs ab2 hb2n kB kB1 n1 F1 (by simp[St,LAs,sx,h1,h2,h3,h4]) (by simp[sx,h5]) (by simp[sx]) (by simp[sx]) (by simp[sx]) λt g nv cv hL h5 k0 k1 oN oC hn hF=>?_;simp only[sz,simprocAttr];exact⟨nv,cv,hL,h5,k0,k1,oN,oC,hn,hF⟩
 clear h1 h2 h3 h4 h5 kB kB1 n1 F1 g1;rintro t df g1 ⟨rfl,nv,cv,⟨h1,h2,h3,h4,-⟩,h5,kB,kB1,oN,oC,n1,F1⟩;obtain⟨cc1,cc2⟩:=oC.cell;simp only[eg];simp only[sz,simprocAttr,h5];refine KI cc1 cc2 ?_;simp only[sz,simprocAttr];obtain⟨g2,hg2⟩:∃g2,g2=g1.new (VG 1 [[cv]]):=⟨_,rfl⟩;rw[<-hg2];have n2:g2.nx=g1.nx+1:=by rw[hg2];simp
 have kx:g2.h.get g1.nx=VG 1 [[cv]]:=by rw[hg2];simp[RW]
 have f2:∀i,i<g1.nx->g2.h.get i=g1.h.get i:=λi hi=>by rw[hg2];simp[RW,show ¬i=g1.nx by omega]
 have F2:Fx (λ_=>False) g0 g2:=by rw[hg2];exact F1.trans (Fx.new _ _ _)
 clear hg2;have kB2:g2.h.get g0.nx=VG 1 [[.yld yi]]:=by rw[f2 _ (by omega),kB]
 have kB12:g2.h.get (g0.nx+1)=VG 1 [[nv]]:=by rw[f2 _ (by omega),kB1]
 have oN2:Own g2 (g0.nx+2) nv 1 ((S.af n s).map cn):=oN.fr (by omega) λi hi=>f2 i (oN.lt hi).2;have oC2:Own g2 (g0.nx+2) cv 1 ((S.aW n (S.af n s)).map ci):=oC.fr (by omega) λi hi=>f2 i (oC.lt hi).2;have nlN:∀g:G,dO .slice nv g=.val (.int .i64 ((S.af n s).length:Int)):=λg=>by have:=oN2.sat_len g;rwa [Ss]at this
 have J2:J 0 g2:=hJ 0 g0 g2 F2.nx (λi hi _=>F2.fr i hi id) (λi hi=>(F2.lg i hi).imp id λh=>h.elim False.elim .inr) h0;have V2:Vs n pv w g2:=hV.fr (F2.fr pv hpvn id);refine JL (bx:=g1.nx) (w:=cv) (cs:=S.aW n (S.af n s)) hcs (by simp[sx]) (by decide) (by decide)
  (λj g=>J j g/\(∃w',Vs n pv w' g/\Nv (S.af n s) w' w)/\(∀i,g0.nx<=i->i<g2.nx->g.h.get i=g2.h.get i)/\g2.nx<=g.nx) (λ_=>False) ?_ ?_ (λ_ _ _ h=>h) ⟨J2,⟨w,V2,rfl,λ_ _=>rfl⟩,λ_ _ _=>rfl,R5 _⟩ ?_ ?_ (λ_ h=>h.elim)
 ·rintro j g ⟨-,-,hf,hn⟩;have oC3:=oC2.fr hn λi hi=>hf i (by have:=(oC2.lt hi).1;omega) (oC2.lt hi).2;exact⟨by rw[hf _ (by omega) (by omega),kx],oC3.rows,λg'=>by have:=oC3.sat_len g';rwa [Ss]at this⟩
 ·rintro j g3 g4 ⟨hU,hn,-⟩ ⟨a1,⟨w',a2,a3⟩,a4,a5⟩;exact⟨hJ j g3 g4 hn (λi hi _=>hU.1 i (by omega)) (λi hi=>(hU.2 i hi).imp id λh=>.inr (by omega)) a1,⟨w',a2.fr (hU.1 pv (by omega)),a3⟩,λi h1 h2=>by rw[hU.1 i h2,a4 i h1 h2],by omega⟩
 ·rintro j u g3 hj ⟨a1,⟨w',a2,a3⟩,a4,a5⟩ hn3 hu;simp only[sz,simprocAttr,dW];refine⟨Fr.refl _,λg5 n5 f5 u5=>?_⟩;have J5:J j g5:=hJ j g3 g5 (by omega) (λi hi _=>u5.1 i (by omega)) (λi hi=>(u5.2 i hi).imp id λh=>.inr (by omega)) a1;have V5:Vs n pv w' g5:=a2.fr (u5.1 pv (by omega));have f25:∀i,g0.nx<=i->i<g2.nx->g5.h.get i=g2.h.get i:=λi h1 h2=>by rw[u5.1 i h2,a4 i h1 h2]
  have kB5:g5.h.get g0.nx=VG 1 [[.yld yi]]:=by rw[f25 _ (by omega) (by omega),kB2]
  have kB15:g5.h.get (g0.nx+1)=VG 1 [[nv]]:=by rw[f25 _ (by omega) (by omega),kB12]
  have oN5:=oN2.fr (g':=g5) (by omega) λi hi=>f25 i (by have:=(oN2.lt hi).1;omega) (oN2.lt hi).2;have hu5:SlR (λi=>g2.nx+2<=i/\i<g3.nx) 0 g5.h (S.aD (S.aW n (S.af n s)) (j:Int)) u:=hu.far8 λi hi=>f5 i (by omega);have hxl:(S.aD (S.aW n (S.af n s)) (j:Int)).length=(S.af n s).length:=by rw[GU];simp[S.aW]
  simp only[sz,simprocAttr,dX,h4,kB15,nlN];refine PY (b1:=b1) (b2:=b2) (B:=g0.nx) (j:=j) (pq:=pq) (pv:=pv) (pm:=pm) (s:=s) (size:=size) (w:=w') (b:=b) (lv:=lv) (cv:=cv') (xv:=xv) (l:=S.af n s) (xs:=S.aD (S.aW n (S.af n s)) (j:Int)) (u:=u) (nv:=nv) hin hll hxl ?_ V5 (by omega) (by simp[St,LB3,sx,h1,h3]) (by simp[sx]) (by simp[sx]) ?_
  ·intro g hg;have hA:=hJH j g5 J5;obtain⟨c1,c2,c3,c4⟩:=hA;refine⟨⟨by rw[hg _ ne1,c1],by rw[hg _ ne2,c2],c3,by rw[hg _ ne3,c4]⟩,?_,?_⟩
   ·exact (oN5.fr (g':=⟨g.h,g5.nx,[]⟩) (R5 _) λi hi=>hg i (by have:=(oN5.lt hi).1;omega)).rows
   ·exact (hu5.far8 λi hi=>hg i (by omega)).ints
  rintro t6 g6 ⟨h1,h3,h8,h9,h44,-⟩ V6 F6 f6;rw[EZ hxl a3]at V6;have F6n:=F6.nx;simp only[sz,simprocAttr,dZ,h3,f6 _ (show g0.nx≠pv by omega),kB5,h8];show (cp (I C0) d yi [.int .i64 (j:Int)] _).sat _ _ _;refine step j _ _ _ hj (hJ j g5 g6 F6.nx (λi _ hi=>f6 i hi) (λi hi=>(F6.lg i hi).imp id λh=>h.imp id λh=>by omega) J5) V6 (by omega) λg8 J8 V8 n8 f8=>?_;simp only[sz,simprocAttr];refine⟨by omega,λi h1 h2=>by rw[f8 i (by omega) (by omega),f6 i (by omega)],.inl ⟨rfl,J8,⟨_,V8,Ki⟩,λi h1 h2=>by rw[f8 i h1 (by omega),f6 i (by omega),f25 i h1 h2],by omega⟩⟩
 ·rintro g3 ⟨a1,⟨w',a2,a3⟩,a4,a5⟩ hn3 hdf;have kB3:g3.h.get (g0.nx+1)=VG 1 [[nv]]:=by rw[a4 _ (by omega) (by omega),kB12]
  have oN3:=oN2.fr (g':=g3) a5 λi hi=>a4 i (by have:=(oN2.lt hi).1;omega) (oN2.lt hi).2;simp only[sz,simprocAttr,d_,h4,kB3,nlN];refine PZ (b1:=b1) (b2:=b2) (pq:=pq) (pv:=pv) (pm:=pm) (s:=s) (size:=size) (w:=w') (b:=b) (lv:=lv) (cv:=cv') (xv:=xv) (l:=S.af n s) (nv:=nv) hin hll ?_ a2 (by omega) (by simp[sx,h1]) (by simp[sx]) (by simp[sx]) (by simp[sx]) ?_
  ·intro g hg;obtain⟨c1,c2,c3,c4⟩:=hJH _ g3 a1;refine⟨⟨by rw[hg _ ne1,c1],by rw[hg _ ne2,c2],c3,by rw[hg _ ne3,c4]⟩,?_⟩;exact (oN3.fr (g':=⟨g.h,g3.nx,[]⟩) (R5 _) λi hi=>hg i (by have:=(oN3.lt hi).1;omega)).rows
  rintro t6 g6 V6 F6 f6;rw[Hi a3,Dn hw1]at V6;have F6n:=F6.nx;simp only[sz,simprocAttr];rw[hQf];show zg C0 d [] t6 [.mark g2.nx] g6 K;refine kG (by rw[f6 _ (by omega),hdf]) ?_;exact fin _ (hJ _ g3 _ (by simpa using F6n) (λi hi hp=>by rw[G.put_h,af _ _ _ (by omega),f6 i hp]) (λi hi=>by
   simp at hi;rcases hi with rfl|hi
   ·exact .inr (.inr (by omega))
   ·exact (F6.lg i hi).imp id λh=>h.imp id λh=>by omega) a1) (V6.fr (by rw[G.put_h,af _ _ _ (by omega)])) (by simp;omega)
theorem A6{d pq s:Nat}{g:G}{K:AV->G->Prop}{D:ADf->Prop}
  (kk:K (.clo N.ax [] [.hptr g.nx 0 0 0,.hptr (g.nx+1) 0 0 0]) ((g.new (VG 1 [[.hptr pq 0 0 0]])).new (VG 1 [[.int .u64 (s:Int)]]))) :
  (am C0 d N.aw [.hptr pq 0 0 0,.int .u64 (s:Int)] g).sat K g D:=by
 rw[lL];refine dc mQ (by simp[du]) ?_;have hbx:∀g:G,xW (.hptr pq 0 0 0) g=.upd (.hptr g.nx 0 0 0) (g.new (VG 1 [[.hptr pq 0 0 0]])):=λg=>rfl;simp only[sz,simprocAttr,du,fJ,hbx];exact kk
theorem NW:C0.ext N.ax=none:=by kernel_rfl
theorem Ib{d nt p r b1 b2 pq pv pm s:Nat}{n:Net}{size:Int}{w:List Int}{b lv cv xv:AV}{cb:SC}{Q:QT}{t:T}{df:List ADf}{g:G}(hr:NR n)(hN:SlR NoP 0 .nil n.nodes b)(hs:s<2 ^ n.nodes.length)
  (hv:tat t r=.clo N.ax [] [.hptr b1 0 0 0,.hptr b2 0 0 0]) (hp:p<nt) (hbn:b1<g.nx/\b2<g.nx/\pv<g.nx) (hw1:∀v∈S.af n s,w[v]?=some (-1))
  (J:Nat->G->Prop) (hJH:∀j g,J j g->AsH n size b lv (.hsl pv 0 0 n.nodes.length none) cv xv pq pm b1 b2 s g) (hne:b1≠pv/\b2≠pv/\pq≠pv/\pq<g.nx)
  (hJ:∀j g1 g2,g1.nx<=g2.nx->(∀i,i<g.nx->i≠pv->g2.h.get i=g1.h.get i)->(∀i∈g2.lg,i∈g1.lg\/i=pv\/g.nx<=i)->J j g1->J j g2)
  (h0:J 0 g) (hV:Vs n pv w g)
  (step:∀(j:Nat) (g2:G),j<S.aF n (S.af n s)->J j g2->Vs n pv (S.ap n w (S.af n s) j) g2->g.nx+2<=g2.nx ->
   wp C0 d (some (g.nx+1)) cb (λe _ df g3=>df=[]/\e=.norm/\g2.nx<=g3.nx/\(∀i,g.nx<=i->i<g2.nx->g3.h.get i=g2.h.get i)/\J (j+1) g3/\Vs n pv (S.ap n w (S.af n s) j) g3) (fq t p (.int .i64 (j:Int))) [] g2)
  (fin:∀g',J (S.aF n (S.af n s)) g'->Vs n pv w g'->g.nx+2<=g'.nx->g'.h.get g.nx=.dfr true->Q .norm t (.mark g.nx::df) g') :
  wp C0 d none (.rng nt (.t r) [p] .skip cb) Q t df g:=by
 obtain⟨hb1n,hb2n,hpvn⟩:=hbn;obtain⟨ne1,ne2,ne3,hpqn⟩:=hne;refine qY (fn:=N.ax) (first:=[]) (cap:=[.hptr b1 0 0 0,.hptr b2 0 0 0]) (s:=aQ) hv NW lP (by simp[aQ]) ?_;intro assign body ha hb';obtain⟨ga,hga⟩:∃ga,ga=(g.new (.dfr true)).new (.loop nt t [p] assign body g.nx .ready none):=⟨_,rfl⟩;rw[<-hga];have na:ga.nx=g.nx+2:=by rw[hga];simp
 have fa:∀i,i<g.nx->ga.h.get i=g.h.get i:=λi hi=>by rw[hga];simp[RW,show ¬i=g.nx by omega,show ¬i=g.nx+1 by omega]
 have ga1:ga.h.get g.nx=.dfr true:=by rw[hga];simp[RW]
 have ga2:ga.h.get (g.nx+1)=.loop nt t [p] assign body g.nx .ready none:=by rw[hga];simp[RW]
 have la:∀i∈ga.lg,i∈g.lg\/g.nx<=i:=λi hi=>by
  rw[hga]at hi;simp at hi;rcases hi with rfl|rfl|hi
  ·exact .inr (by omega)
  ·exact .inr (R5 _)
  ·exact .inl hi
 clear hga;refine P3 (g0:=ga) (yi:=g.nx+1) (pq:=pq) (pv:=pv) (pm:=pm) (s:=s) (size:=size) (w:=w) (b:=b) (lv:=lv) (cv':=cv) (xv:=xv) hr hN hs ⟨by omega,by omega,by omega⟩ hw1
  (λj g'=>J j g'/\g'.h.get g.nx=.dfr true/\g'.h.get (g.nx+1)=.loop nt t [p] assign body g.nx .ready none) (λj g' h=>hJH j g' h.1) ⟨ne1,ne2,ne3,by omega⟩ ?_ ?_ ⟨hJ 0 g ga (by omega) (λi hi _=>fa i hi) (λi hi=>(la i hi).imp id .inr) h0,ga1,ga2⟩ (hV.fr (fa pv hpvn)) ?_
 ·rintro j g1 g2 hn hf hl ⟨a1,a2,a3⟩;exact⟨hJ j g1 g2 hn (λi hi hp=>hf i (by omega) hp) (λi hi=>(hl i hi).imp id λh=>h.imp id λh=>by omega) a1,by rw[hf _ (by omega) (by omega),a2],by rw[hf _ (by omega) (by omega),a3]⟩
 ·rintro j g1 K' D hj ⟨a1,a2,a3⟩ hV1 hn kk;refine xn a3 ha hb' (t':=fq t p (.int .i64 (j:Int))) ?_ ?_
  ·simp only[cP,aa,Tg,Sb hp];rfl
  ·rw[C7];refine⟨rfl,rfl,a3,?_⟩;have hJ2:=hJ j g1 (g1.put (g.nx+1) (.loop nt t [p] assign body g.nx .busy none)) (by simp) (λi hi _=>by rw[G.put_h,af _ _ _ (by omega)]) (λi hi=>by simp at hi;rcases hi with rfl|hi;exact .inr (.inr (by omega));exact .inl hi) a1;refine cw _ (step j _ hj hJ2 (hV1.fr (by rw[G.put_h,af _ _ _ (by omega)])) (by simp;omega)) ?_;rintro e t2 df2 g3 ⟨rfl,rfl,n3,f3,b1',b2'⟩;have n3':g1.nx<=g3.nx:=by simpa using n3
   have b4:g3.h.get (g.nx+1)=.loop nt t [p] assign body g.nx .busy none:=by rw[f3 _ (by omega) (by simp;omega)];simp[RW]
   have b5:g3.h.get g.nx=.dfr true:=by rw[f3 _ (by omega) (by simp;omega)];simp[RW,a2]
   refine⟨rfl,b4,.inl ⟨rfl,kk _ ⟨hJ _ g3 _ (by simp) (λi hi _=>by rw[G.put_h,af _ _ _ (by omega)]) (λi hi=>by simp at hi;rcases hi with rfl|hi;exact .inr (.inr (by omega));exact .inl hi) b1',?_,?_⟩ (b2'.fr (by rw[G.put_h,af _ _ _ (by omega)])) (by simp;omega) λi h1 h2=>?_⟩⟩
   ·simp[RW,b5]
   ·simp[RW]
   ·have hne:¬i=g.nx+1:=by omega
    have:=f3 i (by omega) (by simp;omega);simp[RW,hne]at this ⊢;rw[this]
 ·rintro g' ⟨a1,a2,a3⟩ hV' hn;refine⟨_,_,_,_,_,_,.inl ⟨a3,fin _ (hJ _ g' _ (by simp) (λi hi _=>by rw[G.put_h,af _ _ _ (by omega)]) (λi hi=>by simp at hi;rcases hi with rfl|hi;exact .inr (.inr (by omega));exact .inl hi) a1) (hV'.fr (by rw[G.put_h,af _ _ _ (by omega)])) (by simp;omega) ?_⟩⟩;simp[RW,a2]
end
end Hx
end
section
namespace Hx
open Go
theorem Bm(e l:List Int)(p:Int):S.aU e (l++[p])=if e[p.toNat]?.getD 0 = -1 then S.aU e l ||| S.aG p.toNat else S.aU e l:=by simp[S.aU]
theorem yv{e:List Int}:∀{l:List Int},(∀p∈l,p.toNat<64)->∀v,(S.aU e l).testBit v=true↔∃p∈l,p.toNat=v/\e[v]?.getD 0 = -1:=by
 have key:∀(l:List Int) (s:Nat),(∀p∈l,p.toNat<64)->∀v,(l.foldl (λs p=>if e[p.toNat]?.getD 0 = -1 then s ||| S.aG p.toNat else s) s).testBit v=true↔s.testBit v=true\/∃p∈l,p.toNat=v/\e[v]?.getD 0 = -1:=by
  intro l
  induction l with
  |nil=>intro s _ v;simp
  | cons p l ih =>
   intro s h v;rw[T7,ih _ (λq hq=>h q (by simp[hq])) v];have hp:=h p (by simp)
   by_cases c:e[p.toNat]?.getD 0 = -1
   ·rw[Sb c,dQ,wN hp,SY,Sg];constructor
    ·rintro ((h1|h1)|⟨q,h1,h2⟩)
     ·exact .inl h1
     ·exact .inr ⟨p,by simp,h1,by rw[<-h1];exact c⟩
     ·exact .inr ⟨q,by simp[h1],h2⟩
    ·rintro (h1|⟨q,h1,h2,h3⟩)
     ·exact .inl (.inl h1)
     ·rcases Sq.1 h1 with rfl|h1
      ·exact .inl (.inr h2)
      ·exact .inr ⟨q,h1,h2,h3⟩
   ·rw[Sa c];constructor
    ·rintro (h1|⟨q,h1,h2⟩)
     ·exact .inl h1
     ·exact .inr ⟨q,by simp[h1],h2⟩
    ·rintro (h1|⟨q,h1,h2,h3⟩)
     ·exact .inl h1
     ·rcases Sq.1 h1 with rfl|h1
      ·exact absurd (by rw[h2];exact h3) c
      ·exact .inr ⟨q,h1,h2,h3⟩
 intro l hl v;have:=key l 0 hl v;simpa [S.aU] using this
theorem oq{n:Net}(hr:NR n){v:Nat}(hv:v<n.nodes.length):∀p∈S.aK n v,0<=p/\p<(n.nodes.length:Int):=λp hp=>by
 rw[S.aK,R4 hv]at hp;simp only[TY,Se,SG,SK]at hp;rcases hp with hp|rfl
 ·have:=hr.pin (Ta hv) p hp;rwa [aX]at this
 ·omega
theorem DU{n:Net}(hr:NR n){v:Nat}(hv:v<n.nodes.length):(S.aK n v).length<=9:=by rw[S.aK,R4 hv];have:=gH (hr.places _ (Ta hv)) (by omega);have:=hr.l2;simp;omega
theorem Cw{s n:Nat}(h:∀v,s.testBit v=true->v<n):s<2 ^ n:=Nat.lt_pow_two_of_testBit s λi hi=>by
 cases hb:s.testBit i with
 |false=>rfl
 |true=>have:=h i hb;omega
theorem Hs{n:Net}(hr:NR n){v:Nat}(hv:v<n.nodes.length)(e:List Int):S.aB n e v<2 ^ n.nodes.length:=by have hl:=hr.l2;refine Cw λu hu=>?_;obtain⟨p,h1,h2,-⟩:=(yv (λp hp=>by have:=oq hr hv p hp;omega) u).1 hu;have:=oq hr hv p h1;omega
theorem qF{n:Net}(hr:NR n){v:Nat}(hv:v<n.nodes.length)(e:List Int)(u:Nat):(S.aB n e v).testBit u=true↔(u:Int)∈S.aK n v/\e[u]?.getD 0 = -1:=by
 have hl:=hr.l2;rw[S.aB,yv (λp hp=>by have:=oq hr hv p hp;omega)];constructor
 ·rintro⟨p,h1,h2,h3⟩;have:=oq hr hv p h1;exact⟨by rw[show (u:Int)=p by omega];exact h1,h3⟩
 ·rintro⟨h1,h2⟩;exact⟨_,h1,by omega,h2⟩
theorem Ik{cs:List Int}{m:Nat}:∀{l:List Nat} {w xs:List Int},l.Nodup->(∀v∈l,v<w.length)->InC (l.map λv=>cs[v]?.getD 0) xs->∀v∈l,∃x,(S.aE w l xs)[v]?=some x/\0<=x/\x<cs[v]?.getD 0
 |[],_,_,_,_,_,v,hv=>by simp at hv
 |u::r,w,[],_,_,h,_,_=>h.elim
 | u::r,w,x::xs,hn,hl,h,v,hv=>by
  rw[U7]at hn;rw[S.aE]
  by_cases e:v∈r
  ·exact Ik (m:=m) hn.2 (λy hy=>by rw[UD];exact hl y (by simp[hy])) h.2 v e
  ·rcases Sq.1 hv with rfl|hv
   ·refine⟨x,?_,h.1⟩;rw[qk e,Tu (hl v (by simp))]
   ·exact absurd hv e
theorem Jx(n:Net)(s:Nat):(S.af n s).Nodup:=List.Pairwise.filter _ Vk
def Wv(n:Net)(w:List Int):Prop:=w.length=n.nodes.length/\∀v,v<n.nodes.length->w[v]?.getD 0 = -1\/0<=w[v]?.getD 0/\w[v]?.getD 0<(S.aa n)[v]?.getD 0
theorem Oy{n:Net}(hr:NR n)(s:Nat)(j:Int):InC (S.aW n (S.af n s)) (S.aD (S.aW n (S.af n s)) j):=AA (λc hc=>((tg hr s).b c hc).1) j
theorem Gy{n:Net}(hr:NR n){w:List Int}(hw:w.length=n.nodes.length){s j v:Nat}(hv:v∈S.af n s):∃x,(S.ap n w (S.af n s) j)[v]?=some x/\0<=x/\x<(S.aa n)[v]?.getD 0 :=
 Ik (m:=0) (Jx n s) (λu hu=>by rw[hw];exact (lZ.1 hu).1) (Oy hr s j) v hv
theorem wo{n:Net}{w:List Int}{s j v:Nat}(hv:v ∉ S.af n s):(S.ap n w (S.af n s) j)[v]?=w[v]?:=qk hv
theorem MJ{n:Net}(hr:NR n){w:List Int}(hw:Wv n w)(s j:Nat):Wv n (S.ap n w (S.af n s) j):=by
 refine⟨by rw[S.ap,tk];exact hw.1,λv hv=>?_⟩
 by_cases h:v∈S.af n s
 ·obtain⟨x,h1,h2⟩:=Gy hr hw.1 (j:=j) h;rw[h1];exact .inr h2
 ·rw[wo h];exact hw.2 v hv
theorem DI{n:Net}(h:NR n){vals:List Int}{v:Nat}{x:Node}(hx:n.nodes[v]?=some x)(hf:∀p∈S.aK n v,0<=vals[p.toNat]?.getD 0/\vals[p.toNat]?.getD 0<(S.aa n)[p.toNat]?.getD 0) :
  InC (S.ac (S.aa n) x.parents) (S.ac vals x.parents)/\∃(i:Nat) (r:List Int) (c y:Int),S.ah (S.ac (S.aa n) x.parents) (S.ac vals x.parents)=(i:Int)/\i<x.rows.length/\x.rows[i]?=some r/\vals[v]?.getD 0=c/\0<=c/\r[c.toNat]?=some y/\S.aC n vals v=y/\0<=y/\y<=60:=by
 have hm:=R9 hx;have hfl:S.aK n v=x.parents++[(v:Int)]:=by simp[S.aK,hx]
 have hC:InC (S.ac (S.aa n) x.parents) (S.ac vals x.parents):=by refine zE (by simp[S.ac]) λi c y h1 h2=>?_;simp only[S.ac,R_,Option.map_eq_some_iff]at h1 h2;obtain⟨p,h3,rfl⟩:=h1;obtain⟨p',h4,rfl⟩:=h2;rw[h3]at h4;injection h4 with h4;subst h4;exact hf p (by rw[hfl];simp[R9 h3])
 have hi:=dB (bM h.cs (h.pin hm)) hC;rw[<-h.rows x hm]at hi;obtain⟨i,he⟩:=R8 hi.1;have hil:i<x.rows.length:=by omega
 have hv:=hf (v:Int) (by rw[hfl];simp);rw[Sx]at hv;have hc:(S.aa n)[v]?.getD 0=x.card:=by simp[S.aa,hx]
 rw[hc]at hv;obtain⟨r1,r2,-⟩:=h.row x hm x.rows[i] (Ta hil);have hcl:(vals[v]?.getD 0).toNat<(x.rows[i]).length:=by omega
 have hg:=h.g2;have hb:=r2 _ (Ta hcl);refine⟨hC,i,x.rows[i],_,(x.rows[i])[(vals[v]?.getD 0).toNat],he,hil,R4 hil,rfl,hv.1,R4 hcl,?_,hb.1,by omega⟩;simp only[S.aC,hx,he,Sx,R4 hil,Se,R4 hcl]
theorem Ej{n:Net}(hr:NR n){w:List Int}(hw:Wv n w){v j:Nat}(hv:v<n.nodes.length):∀p∈S.aK n v,0<=(S.ap n w (S.af n (S.aB n w v)) j)[p.toNat]?.getD 0/\(S.ap n w (S.af n (S.aB n w v)) j)[p.toNat]?.getD 0<(S.aa n)[p.toNat]?.getD 0:=λp hp=>by
 have h1:=oq hr hv p hp
 by_cases h:p.toNat∈S.af n (S.aB n w v)
 ·obtain⟨x,h2,h3⟩:=Gy hr hw.1 (j:=j) h;rw[h2];exact h3
 ·rw[wo h];have h2:=hw.2 p.toNat (by omega);rcases h2 with h2|h2
  ·refine absurd (lZ.2 ⟨by omega,(qF hr hv w p.toNat).2 ⟨by rw[Vn h1.1];exact hp,h2⟩⟩) h
  ·exact h2
theorem xi{n:Net}(hr:NR n){w:List Int}(hw:Wv n w){v:Nat}(hv:v<n.nodes.length):∀k:Nat,0<=S.sm (λj=>S.aC n (S.ap n w (S.af n (S.aB n w v)) j) v) k/\S.sm (λj=>S.aC n (S.ap n w (S.af n (S.aB n w v)) j) v) k<=60*k
 |0=>by simp[S.sm]
 | k+1=>by have h1:=xi hr hw hv k;obtain⟨-,i,r,c,y,-,-,-,-,-,-,h2,h3,h4⟩:=DI hr (R4 hv) (Ej hr hw (j:=k) hv);rw[S.sm,h2];omega
noncomputable section
theorem Jn{d f:Nat}{xs:List AV}{g:G}{K K':AV->G->Prop}{D D2:ADf->Prop}(h0:xs.flatMap (aC g.h aE)=[])(hs:(orF ((I Fn).call d f xs ⟨.nil,g.nx,[]⟩)).sat K' ⟨.nil,g.nx,[]⟩ D2)
  (hk:∀v g'' g',K' v g''->Fr g g'->g'.nx=g''.nx->(∀k,g''.h.get k≠.none->g'.h.get k=g''.h.get k)->(∀k∈g'.lg,k∈g.lg\/g.nx<=k/\k<g'.nx)->K v g'):(zF Fn f d xs g).sat K g D:=by
 refine HF Kc (K':=K') (D2:=D2) (by rw[h0];simp) (by rw[h0];exact hs) λv g'' hv hn hl ho=>?_;rw[h0]at hl ho;have hl2:∀k∈g''.lg,g.nx<=k:=λk hk=>by have:=(hl k hk).2;simp at this;omega
 refine hk v g'' _ hv ⟨hn,λi hi=>?_⟩ rfl (λk hk=>?_) λk hk=>?_
 ·show (eX _ _ _).get i=_;rw[cX,Sa];intro h;have:=hl2 i h;omega
 ·show (eX _ _ _).get k=_;rw[cX,Sb]
  by_cases h:k∈g''.lg
  ·exact h
  ·exact absurd (by rw[ho k h];exact CF k) hk
 ·rcases SG.1 hk with h|h
  ·exact .inr ⟨hl2 k h,(hl k h).1⟩
  ·exact .inl h
theorem wX{d k:Nat}{g:G}{l:List Int}{v:AV}{K:AV->G->Prop}{D:ADf->Prop}(hv:SlR NoP k .nil l v)(hl2:l.length<=1000)(kk:∀u g',CloneR g.nx l u g'->Fr g g'->(∀i∈g'.lg,i∈g.lg\/g.nx<=i/\i<g'.nx)->K u g') :
  (am C0 d N.aa [v] g).sat K g D:=by
 rw[ja];refine Jn (K':=λu g''=>CloneR g.nx l u g'') (D2:=λ_=>True) ?_ ?_ λv g'' g' hv hf hn hg hlg=>kk v g' ?_ hf hlg
 ·rw[Tc,Ap (hv.tree (h':=g.h) (R5 k))];rfl
 ·refine dc jC (by simp[bu]) ?_
  by_cases hn:v=.nils
  ·subst hn;have hl:l=[]:=by have h:=hv.2;unfold SlV at h;exact h
   have hne:yc false .slice .nils .nils=.val (.bool true):=rfl;simp only[sz,simprocAttr,bu,hne];exact .inl ⟨hl,rfl⟩
  ·have hne:yc false .slice v .nils=.val (.bool false):=by
    have h:=hv.2;unfold SlV at h
    split at h
    ·exact absurd rfl hn
    ·rfl
    ·rfl
    ·exact h.1.elim
    ·exact h.elim
   simp only[sz,simprocAttr,bu,hne];refine u_ (l:=l) ((hv.tree (R5 _)).ints) (by simp[RW]) (by simp) hl2 λu g1 hu f1=>?_;simp only[sz,simprocAttr];exact hu
 ·rcases hv with h|⟨id,lo,h1,h2,h3,h4,h5⟩
  ·exact .inl h
  ·exact .inr ⟨id,lo,h1,by omega,h3,by rw[hg id (by rw[h4];simp),h4],h5⟩
theorem CloneR.own{b:Nat}{l:List Int}{u:AV}{g:G}(h:CloneR b l u g):Own g b u 1 (l.map ci):=by
 rcases h with⟨rfl,rfl⟩|⟨id,lo,h1,h2,rfl,h4,-⟩
 ·exact .inl ⟨rfl,rfl⟩
 ·exact .inr ⟨id,0,lo,h1,h2,by rw[Ss],h4⟩
theorem EG{g:G}{b b' sz:Nat}{v:AV}{rows:List (List AV)}(h:Own g b v sz rows)(hb:b'<=b):Own g b' v sz rows:=by
 rcases h with h|⟨id,ep,lo,h1,h2,h3,h4⟩
 ·exact .inl h
 ·exact .inr ⟨id,ep,lo,by omega,h2,h3,h4⟩
set_option maxRecDepth 20000 in
theorem Oe{d B pq pv:Nat}{n:Net}{w fam:List Int}{fv:AV}{Q:QT}{t:T}{g:G}(hfm:∀p∈fam,0<=p/\p<(n.nodes.length:Int))(hfl:fam.length<=9)(hn8:n.nodes.length<=8)(hB:g.h.get B=VG 1 [[.hptr pq 0 0 0]])
  (hq:∃gr size c b lv cv xv pm,g.h.get pq=srO gr size c b lv (.hsl pv 0 0 n.nodes.length none) cv xv pm) (hV:Vs n pv w g) (hpv:pv<g.nx) (hF:ak g.h 1 fv=some (fam.map ci))
  (h2:tat t 2=.hptr B 0 0 0) (h3:tat t 3=.hptr (B+1) 0 0 0) (h5:tat t 5=.int .u64 0) (h21:tat t 21=fv) (h22:tat t 22=.int .i64 (fam.length:Int)) (h23:tat t 23=.int .i64 0)
  (fin:∀t,St t [(2,.hptr B 0 0 0),(3,.hptr (B+1) 0 0 0),(5,.int .u64 (S.aU w fam:Int))]->Q (.exit 0) t [] g) :
  wpL (wp C0 d none cS) Q t [] g:=by
 obtain⟨gr,size,c,b,lv,cv,xv,pm,hq⟩:=hq;have rv:=(hV.own hpv).rows;have hwl:=hV.1;have key:∀l:List Int,(∀p∈l,0<=p/\p<(n.nodes.length:Int))->S.aU w l<256:=λl hl=>by
  have:S.aU w l<2 ^ 8:=Cw λu hu=>by obtain⟨p,h1,h2,-⟩:=(yv (λp hp=>by have:=hl p hp;omega) u).1 hu;have:=hl p h1;omega
  exact this
 simp only[cS,fX];refine aK (m:=fam.length) (by omega) (λk t df g'=>df=[]/\g'=g/\St t [(2,.hptr B 0 0 0),(3,.hptr (B+1) 0 0 0),(5,.int .u64 (S.aU w (fam.take k):Int)),(21,fv)])
  ⟨rfl,rfl,by simp[St,h2,h3,h5,h21,S.aU]⟩ h23 h22 (by decide) (by rintro j t df g v s (rfl|rfl|rfl)<;>simp[sx,St]) ?_ ?_
 ·clear h2 h3 h5 h21 h22 h23;rintro k t df g' hk ⟨rfl,rfl,h2,h3,h5,h21,-⟩ h23 h22;obtain⟨p,hp,hpt,hpm⟩:=an hk;obtain⟨p0,p1⟩:=hfm p hpm;obtain⟨v,rfl⟩:=R8 p0;have a1:k<(fam.map ci).length:=by simpa using hk
  have a2:(fam.map ci)[k]?=some (ci (v:Int)):=by rw[R_,hp];rfl
  obtain⟨b1,b2⟩:=Hh (l:=w) (i:=v) (by omega);have k1:=key (fam.take k) λq hq=>hfm q (SM hq);have k2:=key (fam.take (k+1)) λq hq=>hfm q (SM hq);have e1:=Bm w (fam.take k) (v:Int);rw[<-hpt,Sx]at e1
  by_cases c1:w[v]?.getD 0 = -1
  ·rw[Sb c1]at e1;have or1:=qq (S.aU w (fam.take k)) (S.aG v) (by omega) (oJ v);rw[<-e1]at or1;simp only[sz,simprocAttr,h2,h5,h21,h23,hB,hq,srO,bF,hF,a1,a2,rv,b1,b2,ci,c1,i6,or1]
   and_intros<;>simp[St,sx,h2,h3,h21,h22,h23]
  ·rw[Sa c1]at e1;simp only[sz,simprocAttr,h2,h5,h21,h23,hB,hq,srO,bF,hF,a1,a2,rv,b1,b2,ci,c1];rw[e1]
   and_intros<;>simp[St,sx,h2,h3,h5,h21,h22,h23]
 ·rintro t df g' ⟨rfl,rfl,h2,h3,h5,-⟩;rw[S1]at h5;exact fin t (by simp[St,h2,h3,h5])
set_option maxRecDepth 20000 in
theorem Og{d B v pq pv pm pc px:Nat}{n:Net}{l:List Sp}{cut ctx:List Nat}{size:Int}{b lv:AV}{st:MSt}{t:T}{g:G}(hC:Srs n l cut ctx b lv pq pv pm pc px)(hS:Srh n cut ctx size b lv pq pv pm pc px st g)(hv:v<n.nodes.length)
  (hB:g.h.get B=VG 1 [[.hptr pq 0 0 0]]) (hB1:g.h.get (B+1)=VG 1 [[.int .i64 (v:Int)]]) (hn:B+2<=g.nx) (ht:St t [(2,.hptr B 0 0 0),(3,.hptr (B+1) 0 0 0),(5,.int .u64 0)]) :
  wp C0 d none (.feet [0,1,3,7,15,0,63,127,255,511,0,1024,4095,8191,0] [oL 9 2,VM 10 9,oF 11 0 10,oF 12 1 11,oL 13 12,oL 14 3,VP 15 3 13 14,oF 16 1 15,oL 17 16,o 18 (.call N.aa [.t 17]),oL 19 3,o 20 (.bsl 1 1 [.int .i64 0] [0] [.t 19]),o 21 (.app 1 8 (.t 18) (.t 20)),oN 22 21,oK 23 0])
   (λe t df g'=>e=.norm/\df=[]/\∃fv,St t [(2,.hptr B 0 0 0),(3,.hptr (B+1) 0 0 0),(5,.int .u64 0),(21,fv),(22,.int .i64 ((S.aK n v).length:Int)),(23,.int .i64 0)]/\Own g' g.nx fv 1 ((S.aK n v).map ci)/\Fx (λ_=>False) g g') t [] g:=by
 have hr:=hC.nr;obtain⟨h2,h3,h5,-⟩:=ht;obtain⟨rows,r1,r2,r3,r4⟩:=hC.nb.all;have r1:∀h',ak h' 3 b=some rows:=r1;obtain⟨x,hx,-,hxm⟩:=an hv;obtain⟨row,q1,q2⟩:=r3 v x hx;obtain⟨pa,ra,rfl,hpa,-⟩:=cK.1 q2;have hlt:v<rows.length:=by omega
 have hry:=r4 (by omega);have hpl:=gH (hr.places x hxm) (by omega);have hl8:=hr.l2;have hfl:S.aK n v=x.parents++[(v:Int)]:=by simp[S.aK,hx]
 have hq:=hS.q;simp only[sz,simprocAttr,sf,h2,h3,hB,hB1,hq,srO,bF,r1,hlt,q1,hry];refine wX hpa (by omega) λu g1 hu hf hlg=>?_;have oU:=hu.own;have n1:g.nx+9<=g1.nx:=by have:=hf.1;simp at this;omega
 have f1:∀i,i<g.nx+9->g1.h.get i=g.h.get i:=λi hi=>by have:=hf.2 i (by simp;omega);simpa using this
 have l1:∀i∈g1.lg,g.nx+9<=i/\i<g1.nx:=λi hi=>by have:=hlg i hi;simp at this;omega
 have oU:Own g1 (g.nx+9) u 1 (x.parents.map ci):=by simpa using oU
 clear hf hlg hu;have b1':g1.h.get (B+1)=VG 1 [[.int .i64 (v:Int)]]:=by rw[f1 _ (by omega),hB1]
 simp only[sz,simprocAttr,sf,h3,b1',yu];refine nY (new:=[ci (v:Int)]) (oU.fr (by simp;omega) λi hi=>?_) (by simp[sx,sy,ci]) (by simp;omega) (by simp[aY];omega) λv2 g2 hv2 n2 f2 c2 l2=>?_
 ·have:=(oU.lt hi).2;simp[RW];omega
 simp only[sz,simprocAttr]at n2 f2 l2;have l2':∀i∈g2.lg,vid u=some i\/g1.nx+1+1+1+1<=i/\i<g2.nx:=λi hi=>by simpa using l2 i hi
 have vl:=hv2.sat_len;have rb:=hC.nb.refs;have pn:=hS.nx.1;have rp1:∀i,ae (jV 3 b v i)=[]:=λi=>by rw[xL hry,rb]
 have rpa:=hpa.refs;have spa:=λh:H=>Ap (hpa.tree (h':=h) (R5 0));simp only[sz,simprocAttr,sf,vl,eI];refine⟨?_,?_⟩
 ·simp only[Si,Sl,Sf,Sd];refine aA [false,false,false,false,false,false,false,false,false,true,false,true,true,false,false] [(0,11),(1,11),(2,11),(3,11),(4,11),(5,11),(6,11),(7,11),(8,11),(9,11),(9,10),(9,14),(11,14),(12,14)] (by simp[All2,ac,ap]) (by decide) ?_;intro p hp y z hx hy;simp only[Sq,Sk,Ui]at hp;rcases hp with rfl|rfl|rfl|rfl|rfl|rfl|rfl|rfl|rfl|rfl|rfl|rfl|rfl|rfl<;>(simp only[S3,TF,S9]at hx hy;subst hx;subst hy;refine bH rfl rfl rfl rfl ?_ ?_ ?_<;>simp[ac,ap,jq,qT,rb,rp1,rpa,spa])
  all_goals first|omega|exact λi hi=>by have:=l1 i hi;omega
 ·have e1:(((x.parents.map ci++[ci (v:Int)]).length:Nat):Int)=((S.aK n v).length:Int):=by rw[hfl];simp
  refine⟨v2,by simp[St,sx,h2,h3,h5];rw[hfl];simp,?_,?_⟩
  ·rw[hfl,TA];exact EG (hv2.fr (by simp;omega) λi hi=>by simp) (by omega)
  ·refine⟨by simp;omega,λi hi _=>?_,λi hi=>?_⟩
   ·have h2:=f2 i (by omega) (λe=>by have:=oU.lt e;omega);rw[Sa (by omega)]at h2;simp[h2,f1 i (by omega)]
   ·simp at hi;rcases hi with hi|rfl|hi|hi
    ·rcases l2' i hi with h|h
     ·have:=oU.lt h;exact .inr (.inr (by omega))
     ·exact .inr (.inr (by omega))
    ·exact .inr (.inr (by omega))
    ·have:=l1 i hi;exact .inr (.inr (by omega))
    ·exact .inl hi
set_option maxRecDepth 20000 in
theorem Of{d B S0 v j pq pv pm pc px:Nat}{n:Net}{l:List Sp}{cut ctx:List Nat}{size:Int}{b lv:AV}{st:MSt}{w:List Int}{rd:Option Nat}{t:T}{g:G}(hd:0<d)(hC:Srs n l cut ctx b lv pq pv pm pc px)(hS:Srh n cut ctx size b lv pq pv pm pc px st g)(hv:v<n.nodes.length)(hW:Wv n w)
  (hB:g.h.get B=VG 1 [[.hptr pq 0 0 0]]) (hB1:g.h.get (B+1)=VG 1 [[.int .i64 (v:Int)]]) (hs:g.h.get S0=VG 1 [[.int .i64 (S.sm (λj=>S.aC n (S.ap n w (S.af n (S.aB n w v)) j) v) j)]]) (hj:j<=65536)
  (hV:Vs n pv (S.ap n w (S.af n (S.aB n w v)) j) g) (h2:tat t 2=.hptr B 0 0 0) (h3:tat t 3=.hptr (B+1) 0 0 0) (h8:tat t 8=.hptr S0 0 0 0) {Q:QT}
  (fin:∀t g',g'.h=g.h.put S0 (VG 1 [[.int .i64 (S.sm (λj=>S.aC n (S.ap n w (S.af n (S.aB n w v)) j) v) (j+1))]])->g.nx<=g'.nx->(∀i∈g'.lg,i∈g.lg\/i=S0)->Q .norm t [] g') :
  wp C0 d rd bQ Q t [] g:=by
 have hr:=hC.nr;obtain⟨rows,r1,r2,r3,r4⟩:=hC.nb.all;have r1:∀h',ak h' 3 b=some rows:=r1;obtain⟨x,hx,-,hxm⟩:=an hv;obtain⟨row,q1,q2⟩:=r3 v x hx;obtain⟨pa,ra,rfl,hpa,hra⟩:=cK.1 q2;have hlt:v<rows.length:=by omega
 have hry:=r4 (by omega);have hl8:=hr.l2;have hq:=hS.q;have pn:=hS.nx;obtain⟨vals,hvals⟩:∃vals,vals=S.ap n w (S.af n (S.aB n w v)) j:=⟨_,rfl⟩;obtain⟨hC2,i,r,c,y,i1,i2,i3,i4,i5,i7,i8,i9,i10⟩:=DI hr hx (Ej hr hW (j:=j) hv);rw[<-hvals]at hV hC2 i1 i4 i8;have hb:=xi hr hW hv j;have hsm:S.sm (λj=>S.aC n (S.ap n w (S.af n (S.aB n w v)) j) v) (j+1)=S.sm (λj=>S.aC n (S.ap n w (S.af n (S.aB n w v)) j) v) j+y:=by rw[S.sm,<-hvals,i8]
 rw[hsm]at fin;obtain⟨A,hA⟩:∃A,A=S.sm (λj=>S.aC n (S.ap n w (S.af n (S.aB n w v)) j) v) j:=⟨_,rfl⟩;rw[<-hA]at hs hb fin;obtain⟨cn,rfl⟩:=R8 i5;rw[Sx]at i7;obtain⟨rr,s1,s2,s3,s4⟩:=CO hra;obtain⟨z,t1,t2,hz⟩:=s3 i r i3;have hry2:=s4 (by omega);have rz:=λh=>(hz.tree (h':=h) (R5 0)).ints;have rv:=(hV.own pn.2.1).rows;have hwl:=hV.1;obtain⟨u1,u2⟩:=Hh (l:=vals) (i:=v) (by omega);rw[i4]at u2;have v1:cn<(r.map ci).length:=by rw[Ss];exact (R6.1 i7).1
 have v2:(r.map ci)[cn]?=some (ci y):=by rw[R_,i7];rfl
 have hsl:∀g':G,g'.h=g.h->SlR (λ_=>True) 0 g'.h vals (.hsl pv 0 0 n.nodes.length none):=λg' e=>by rw[e];exact Own.sl (α:=Int) (hV.own pn.2.1) (by omega) (RS (λa=>aI.2 rfl) _) λ_ _=>trivial
 have kr:=λ(g':G) (e:g'.h=g.h)=>Nu (d:=d) (i:=v) (g:=g') (k2:=0) (v:=b) (w:=.hsl pv 0 0 n.nodes.length none) (x:=x) (vals:=vals) hd hC.nb hr hx (hsl g' e) hwl hC2;rw[i1]at kr;have w1:IntKind.wrap .i64 (A+y)=A+y:=ax (by omega) (by omega);simp only[sz,simprocAttr,sf,bQ,h2,h3,h8,hB,hB1,hs,hq,srO,bF,r1,hlt,q1,hry];rw[kr _ (by simp)];simp only[sz,simprocAttr,sf,bQ,h2,h3,h8,hB,hB1,hs,hq,srO,bF,r1,hlt,q1,hry,s1,t1,t2,hry2,rv,u1,u2,ci,rz,v1,v2,w1,zy];refine⟨?_,?_⟩
 ·simp only[Si,Sl,Sf,Sd];exact aA [false,false,false,false,false,false,false,false,false,false,false,false,false,false,false,false,false,false,false,false,false,false,false,false,false,false,false,false,false,false,false,false,false,true] [] (by simp[All2,ac,ap]) (by decide) (by simp)
 ·refine fin _ _ ?_ ?_ ?_
  ·simp
  ·simp;omega
  ·intro i hi;simp at hi;exact hi.symm
set_option maxRecDepth 20000 in
theorem Oh{d v pq pv pm pc px:Nat}{n:Net}{l:List Sp}{cut ctx:List Nat}{size:Int}{b lv:AV}{st:MSt}{w:List Int}{g:G}{K:AV->G->Prop}{D:ADf->Prop}(hd:0<d)(hC:Srs n l cut ctx b lv pq pv pm pc px)(hS:Srh n cut ctx size b lv pq pv pm pc px st g)(hW:Wv n w)(hV:Vs n pv w g)(hv:v<n.nodes.length)
  (kk:∀g',Srh n cut ctx size b lv pq pv pm pc px st g'->Vs n pv w g'->Fx (λi=>i=pv) g g'->K (.int .i64 (S.cG n w v)) g'):(am C0 d N.aF [.hptr pq 0 0 0,.int .i64 (v:Int)] g).sat K g D:=by
 have hr:=hC.nr;have hl8:=hr.l2;obtain⟨n1,n2,n3,n4,n5⟩:=hS.nx;obtain⟨d1a,d1b,d1c,d1d⟩:=hC.d1;obtain⟨d2a,d2b,d2c⟩:=hC.d2;have hbx:∀g:G,xW (.hptr pq 0 0 0) g=.upd (.hptr g.nx 0 0 0) (g.new (VG 1 [[.hptr pq 0 0 0]])):=λg=>rfl;have hbx2:∀g:G,xW (.int .i64 (v:Int)) g=.upd (.hptr g.nx 0 0 0) (g.new (VG 1 [[.int .i64 (v:Int)]])):=λg=>rfl;rw[mN];refine dc oY (by simp[eh]) ?_;simp only[eh];refine be (P:=λt' df g'=>df=[]/\g'.nx=g.nx+2/\g'.h.get g.nx=VG 1 [[.hptr pq 0 0 0]]/\g'.h.get (g.nx+1)=VG 1 [[.int .i64 (v:Int)]]/\Fx (λ_=>False) g g'/\St t' [(2,.hptr g.nx 0 0 0),(3,.hptr (g.nx+1) 0 0 0)]) ?_ ?_
 ·simp only[sz,simprocAttr,hbx,hbx2];exact⟨by simp[RW],(Fx.new _ _ _).trans (Fx.new _ _ _),by simp[St,sx]⟩
 rintro t df g1 ⟨rfl,k1,kB,kB1,F1,h2,h3,-⟩;simp only[g9];refine be (P:=λt' df g'=>df=[]/\g'=g1/\St t' [(2,.hptr g.nx 0 0 0),(3,.hptr (g.nx+1) 0 0 0),(5,.int .u64 0)]) ?_ ?_
 ·simp only[sz,simprocAttr];simp[St,sx,h2,h3]
 clear h2 h3;rintro t df g1 ⟨rfl,rfl,ht⟩;have hS1:Srh n cut ctx size b lv pq pv pm pc px st g1:=hS.fr F1.nx λi hi=>F1.fr i (by rcases hi with rfl|rfl|rfl|rfl<;>assumption) id;have hfm:=oq hr hv;refine bI (P:=λt' df g'=>df=[]/\Fx (λ_=>False) g g'/\g1.nx<=g'.nx/\g'.h.get g.nx=VG 1 [[.hptr pq 0 0 0]]/\g'.h.get (g.nx+1)=VG 1 [[.int .i64 (v:Int)]]/\St t' [(2,.hptr g.nx 0 0 0),(3,.hptr (g.nx+1) 0 0 0),(5,.int .u64 (S.aB n w v:Int))]) ?_ ?_
 ·refine bI (P:=λt df g'=>df=[]/\∃fv,St t [(2,.hptr g.nx 0 0 0),(3,.hptr (g.nx+1) 0 0 0),(5,.int .u64 0),(21,fv),(22,.int .i64 ((S.aK n v).length:Int)),(23,.int .i64 0)]/\Own g' g1.nx fv 1 ((S.aK n v).map ci)/\Fx (λ_=>False) g1 g') ?_ ?_
  ·exact Og hC hS1 hv kB kB1 (by omega) ht
  rintro t df g2 ⟨rfl,fv,⟨h2,h3,h5,h21,h22,h23,-⟩,oF,F2⟩;have F12:=F1.trans F2;have F2n:=F2.nx;have kB2:g2.h.get g.nx=VG 1 [[.hptr pq 0 0 0]]:=by rw[F2.fr _ (by omega) id,kB]
  have kB12:g2.h.get (g.nx+1)=VG 1 [[.int .i64 (v:Int)]]:=by rw[F2.fr _ (by omega) id,kB1]
  have q2:=(F12.fr pq n1 id).trans hS.q;have V2:Vs n pv w g2:=hV.fr (F12.fr pv n2 id);simp only[sz,simprocAttr];refine Oe (B:=g.nx) (pq:=pq) (pv:=pv) (w:=w) (fam:=S.aK n v) (fv:=fv) hfm (DU hr hv) hl8 kB2 ⟨_,_,_,_,_,_,_,_,q2⟩ V2 (by omega) oF.rows h2 h3 h5 h21 h22 h23 λt ht=>?_;simp only[sz,simprocAttr];exact⟨F12,F2n,kB2,kB12,ht⟩
 clear ht t kB kB1;rintro t df g2 ⟨rfl,F2,n12,kB,kB1,h2,h3,h5,-⟩;have g1n:=F1.nx;simp only[fZ];refine be (P:=λt' df g'=>df=[]/\g'.nx=g2.nx+1/\g'.h.get g2.nx=VG 1 [[.int .i64 0]]/\Fx (λ_=>False) g2 g'/\St t' [(2,.hptr g.nx 0 0 0),(3,.hptr (g.nx+1) 0 0 0),(5,.int .u64 (S.aB n w v:Int)),(8,.hptr g2.nx 0 0 0)]) ?_ ?_
 ·simp only[sz,simprocAttr];exact⟨(Fx.new _ _ _).put (.inr (R5 _)) _,by simp[St,sx,h2,h3,h5]⟩
 clear h2 h3 h5;rintro t df g3 ⟨rfl,k3,kS,F3,h2,h3,h5,h8,-⟩;have kB3:g3.h.get g.nx=VG 1 [[.hptr pq 0 0 0]]:=by rw[F3.fr _ (by omega) id,kB]
 have kB13:g3.h.get (g.nx+1)=VG 1 [[.int .i64 (v:Int)]]:=by rw[F3.fr _ (by omega) id,kB1]
 have F03:Fx (λ_=>False) g g3:=F2.trans F3;simp only[sz,simprocAttr,h2,h5,kB3];refine A6 ?_;simp only[sz,simprocAttr,fW];obtain⟨g4,hg4⟩:∃g4,g4=(g3.new (VG 1 [[.hptr pq 0 0 0]])).new (VG 1 [[.int .u64 (S.aB n w v:Int)]]):=⟨_,rfl⟩;rw[<-hg4];have n4':g4.nx=g3.nx+2:=by rw[hg4];simp
 have f4:∀i,i<g3.nx->g4.h.get i=g3.h.get i:=λi hi=>by rw[hg4];simp[RW,show ¬i=g3.nx by omega,show ¬i=g3.nx+1 by omega]
 have e1:g4.h.get g3.nx=VG 1 [[.hptr pq 0 0 0]]:=by rw[hg4];simp[RW]
 have e2:g4.h.get (g3.nx+1)=VG 1 [[.int .u64 (S.aB n w v:Int)]]:=by rw[hg4];simp[RW]
 have F04:Fx (λ_=>False) g g4:=by rw[hg4];exact F03.trans ((Fx.new _ _ _).trans (Fx.new _ _ _))
 clear hg4;have hS4:Srh n cut ctx size b lv pq pv pm pc px st g4:=hS.fr F04.nx λi hi=>F04.fr i (by rcases hi with rfl|rfl|rfl|rfl<;>assumption) id;have hcs:=tg hr (S.aB n w v);obtain⟨W1,W2,W3⟩:=hcs.nc;refine Ib (b1:=g3.nx) (b2:=g3.nx+1) (pq:=pq) (pv:=pv) (pm:=pm) (s:=S.aB n w v) (size:=size) (w:=w) (b:=b) (lv:=lv) (cv:=.hsl pc 0 0 cut.length none) (xv:=.hsl px 0 0 ctx.length none) hr hC.nb (Hs hr hv w) (by simp[sx]) (by decide) ⟨by omega,by omega,by omega⟩ (λu hu=>?_)
  (λj g'=>Srh n cut ctx size b lv pq pv pm pc px st g'/\(∀i,i=g3.nx\/i=g3.nx+1\/i=g.nx\/i=g.nx+1->g'.h.get i=g4.h.get i)/\g'.h.get g2.nx=VG 1 [[.int .i64 (S.sm (λj=>S.aC n (S.ap n w (S.af n (S.aB n w v)) j) v) j)]]/\Fx (λi=>i=pv) g g') ?_ ⟨by omega,by omega,To d1a,by omega⟩ ?_ ⟨hS4,λ_ _=>rfl,by rw[f4 _ (by omega),kS];rfl,F04.mono λ_ h=>h.elim⟩ (hV.fr (F04.fr pv n2 id)) ?_ ?_
 ·obtain⟨h1,h2'⟩:=lZ.1 hu;have:=((qF hr hv w u).1 h2').2;rw[R4 (by rw[hW.1];exact h1)]at this ⊢;rw[Se]at this;rw[this]
 ·rintro j g' ⟨a1,a2,a3,a4⟩;exact⟨by rw[a2 _ (.inl rfl),e1],by rw[a2 _ (.inr (.inl rfl)),e2],_,a1.q⟩
 ·rintro j ga gb hn hf hl ⟨a1,a2,a3,a4⟩;refine⟨a1.fr hn λi hi=>?_,λi hi=>by rw[hf i (by omega) (by omega),a2 i hi],by rw[hf _ (by omega) (by omega),a3],⟨by have:=a4.nx;omega,λi hi hp=>by rw[hf i (by omega) hp,a4.fr i hi hp],λi hi=>?_⟩⟩
  ·rcases hi with rfl|rfl|rfl|rfl
   ·exact hf _ (by omega) (To d1a)
   ·exact hf _ (by omega) d2a
   ·exact hf _ (by omega) d2b
   ·exact hf _ (by omega) d2c
  ·rcases hl i hi with h|h|h
   ·exact a4.lg i h
   ·exact .inr (.inl h)
   ·exact .inr (.inr (by omega))
 ·rintro j ga hj ⟨a1,a2,a3,a4⟩ hVj hn;have hj2:j<=65536:=by unfold S.aF at hj;unfold S.nc at W2;omega
  refine Of (B:=g.nx) (S0:=g2.nx) (v:=v) (j:=j) hd hC a1 hv hW (by rw[a2 _ (.inr (.inr (.inl rfl))),f4 _ (by omega),kB3]) (by rw[a2 _ (.inr (.inr (.inr rfl))),f4 _ (by omega),kB13]) a3 hj2 hVj (by simp[sx,h2]) (by simp[sx,h3]) (by simp[sx,h8]) λt' gb hh hn2 hl2=>?_;have fb:∀i,i≠g2.nx->gb.h.get i=ga.h.get i:=λi hi=>by rw[hh,af _ _ _ (by omega)]
  refine⟨rfl,rfl,hn2,λi h1 h2=>fb i (by omega),⟨a1.fr hn2 λi hi=>fb i (by rcases hi with rfl|rfl|rfl|rfl<;>omega),λi hi=>by rw[fb i (by omega),a2 i hi],by rw[hh,aS],⟨by have:=a4.nx;omega,λi hi hp=>by rw[fb i (by omega),a4.fr i hi hp],λi hi=>?_⟩⟩,hVj.fr (fb pv (by omega))⟩;rcases hl2 i hi with h|rfl
  ·exact a4.lg i h
  ·exact .inr (.inr (by omega))
 ·rintro g' ⟨a1,a2,a3,a4⟩ hV' hn hdf;simp only[sz,simprocAttr,fY,h8,a3];refine kG hdf ?_;simp only[sz,simprocAttr];refine kk _ (a1.fr (by simp) λi hi=>by rw[G.put_h,af _ _ _ (by rcases hi with rfl|rfl|rfl|rfl<;>omega)]) (hV'.fr (by rw[G.put_h,af _ _ _ (by omega)])) (a4.put (.inr (by omega)) _)
theorem vA:∀{a b:List Int},a.length=b.length->dg (a.map λx=>.int .i64 x) (b.map λx=>.int .i64 x)=some (decide (a=b))
 |[],[],_=>rfl
 |[],_::_,h=>by simp at h
 |_::_,[],h=>by simp at h
 | x::a,y::b,h=>by
  have ih:=vA (a:=a) (b:=b) (by simpa using h);rw[Te,Te];show (match mP (.int .i64 x) (.int .i64 y),dg (a.map λx=>AV.int .i64 x) (b.map λx=>AV.int .i64 x) with|some x,some y=>some (aB x y false)|_,_=>none)=_;rw[ih];show some (aB (D_ x y) (decide (a=b)) false)=_;rw[qH]
  by_cases h1:x=y<;>by_cases h2:a=b<;>simp[h1,h2,aB]
def K8(k:Key):Prop:=k.2.length=8
theorem KB{a b:Key}(ha:K8 a)(hb:K8 b):oy (ck9 a) (ck9 b)=some (decide (a=b)):=by have h:=vA (a:=a.1::a.2) (b:=b.1::b.2) (by unfold K8 at ha hb;simp[ha,hb]);rw[Te,Te]at h;show dg _ _=_;rw[h];obtain⟨a1,a2⟩:=a;obtain⟨b1,b2⟩:=b;simp
def Mok(L:Mem):Prop:=∀p∈L,K8 p.1
theorem Hu{k:Key}(hk:K8 k):∀{L:Mem},Mok L->mg (ck9 k) (tZ L)=some (if fT L k then some (.int .i64 (mgt L k)) else none)
 |[],_=>rfl
 | (a,w)::r,h=>by
  rw[tZ,Te,mg,KB hk (h (a,w) (by simp))]
  by_cases e:k=a
  ·subst e;simp[mgt,fT]
  ·have ih:=Hu hk (L:=r) λp hp=>h p (by simp[hp]);rw[tZ]at ih;simp only[S6 e];rw[ih,fT,fT,List.any_cons,mgt,Sa e,S6 e,Bool.false_or]
theorem MV{k:Key}(hk:K8 k)(x:Int):∀{L:Mem},Mok L->EY (ck9 k) (.int .i64 x) (tZ L)=some (tZ (mst k x L))
 |[],_=>rfl
 | (a,w)::r,h=>by
  rw[tZ,Te,EY,KB hk (h (a,w) (by simp)),mst]
  by_cases e:k=a
  ·subst e;simp[tZ]
  ·have ih:=MV hk x (L:=r) λp hp=>h p (by simp[hp]);rw[tZ]at ih;simp only[S6 e,Sa e,ih]
   rfl
theorem H0{k:Key}(hk:K8 k)(x:Int):∀{L:Mem},Mok L->Mok (mst k x L)
 |[],_,p,hp=>by rw[mst,SK]at hp;rw[hp];exact hk
 | (a,w)::r,h,p,hp=>by
  rw[mst]at hp
  split at hp
  ·rcases Sq.1 hp with rfl|hp
   ·exact hk
   ·exact h p (by simp[hp])
  ·rcases Sq.1 hp with rfl|hp
   ·exact h _ (by simp)
   ·exact H0 hk x (L:=r) (λp hp=>h p (by simp[hp])) p hp
theorem LW(i:Int)(w:List Int)(s:Nat):K8 (i,S.aS w s):=by simp[K8,S.aS]
def ktC:Nat:=match C0.P.underlying 88 with|some (.map k _)=>k|_=>0
def etC:Nat:=match C0.P.underlying 88 with|some (.map _ e)=>e|_=>0
theorem PN:C0.P.underlying 88=some (.map ktC etC):=by kernel_rfl
theorem RL:cI C0.P ktC=.flat [.int .i64,.int .i64,.int .i64,.int .i64,.int .i64,.int .i64,.int .i64,.int .i64,.int .i64]:=by kernel_rfl
theorem Rd{k:Key}(hk:K8 k):nC (cI C0.P ktC) (ck9 k)=true:=by
 rw[RL];obtain⟨i,l⟩:=k;have hk:l.length=8:=hk
 match l,hk with
 |[_,_,_,_,_,_,_,_],_=>rfl
theorem z_c:ur C0.P etC=some (.int .i64 0):=by kernel_rfl
theorem Qr(d:Nat)(rd:Option Nat)(t:T)(g:G):(SO.raw (.makeMap 88 none)).run C0 d rd t g=.upd (.hmap g.nx) (g.new (.map [])):=by kernel_rfl
theorem Gv{C:Cfg}{ty kt et a b:Nat}{z:AV}{ok:Bool}(hu:C.P.underlying ty=some (.map kt et))(hz:ur C.P et=some z)(d:Nat)(rd:Option Nat)(t:T)(g:G):(SO.raw (.lookup ty (.tmp a) (.tmp b) ok)).run C d rd t g=cJ (cI C.P kt) z ok (λt=>tat t a) (λt=>tat t b) t g:=by obtain⟨s1,e1,r1⟩:=bi (C:=C) (x:=.tmp a) (o:=.t a) rfl;obtain⟨s2,e2,r2⟩:=bi (C:=C) (x:=.tmp b) (o:=.t b) rfl;show (dj C _).run (I C) d rd t g=_;rw[bN (s:=⟨cJ (cI C.P kt) z ok s1.run s2.run⟩) rfl (by simp only[cm,e1,e2,hu,hz])];rw[show s1.run=λt=>tat t a from funext r1,show s2.run=λt=>tat t b from funext r2]
theorem Gw{C:Cfg}{ty kt et a b c:Nat}(hu:C.P.underlying ty=some (.map kt et))(d:Nat)(rd:Option Nat)(t:T)(g:G):(SO.raw (.mapUpdate ty (.tmp a) (.tmp b) (.tmp c))).run C d rd t g=cW (cI C.P kt) (λt=>tat t a) (λt=>tat t b) (λt=>tat t c) t g:=by obtain⟨s1,e1,r1⟩:=bi (C:=C) (x:=.tmp a) (o:=.t a) rfl;obtain⟨s2,e2,r2⟩:=bi (C:=C) (x:=.tmp b) (o:=.t b) rfl;obtain⟨s3,e3,r3⟩:=bi (C:=C) (x:=.tmp c) (o:=.t c) rfl;show (dj C _).run (I C) d rd t g=_;rw[bN (s:=⟨cW (cI C.P kt) s1.run s2.run s3.run⟩) rfl (by simp only[cm,e1,e2,e3,hu])];rw[show s1.run=λt=>tat t a from funext r1,show s2.run=λt=>tat t b from funext r2,show s3.run=λt=>tat t c from funext r3]
theorem Jh{C:Cfg}{ty a b c:Nat}(t:T)(g:G):SO.foot C t g (.raw (.mapUpdate ty (.tmp a) (.tmp b) (.tmp c)))=ac (ae (tat t a)):=by
 obtain⟨s1,e1,r1⟩:=bi (C:=C) (x:=.tmp a) (o:=.t a) rfl;show (aN C _).run t g=_;simp only[aN,e1,r1]
 rfl
theorem L7{d:Nat}{rd:Option Nat}{t:T}{g:G}{a b id:Nat}{k:Key}{L:Mem}(hk:K8 k)(hL:Mok L)(h1:tat t a=.hmap id)(h2:tat t b=ck9 k)(hg:g.h.get id=.map (tZ L)) :
  (SO.raw (.lookup 88 (.tmp a) (.tmp b) true)).run C0 d rd t g=.val (.tup [.int .i64 (mgt L k),.bool (fT L k)]):=by
 rw[Gv PN z_c];unfold cJ;simp only[h1,h2,Rd hk,G.get_eq,hg,Hu hk hL];have hz:∀{L:Mem},fT L k=false->mgt L k=0:=by
  intro L
  induction L with
  |nil=>intro _;rfl
  | cons p r ih =>
   intro h;obtain⟨a,w⟩:=p;rw[fT,List.any_cons,Ve]at h;rw[mgt,Sa (of_decide_eq_false h.1),ih h.2]
 cases h:fT L k with
 |true=>simp[aB]
 |false=>simp[aB,hz h]
theorem RE{d:Nat}{rd:Option Nat}{t:T}{g:G}{a b c id:Nat}{k:Key}{x:Int}{L:Mem}(hk:K8 k)(hL:Mok L)(h1:tat t a=.hmap id)(h2:tat t b=ck9 k)(h3:tat t c=.int .i64 x)(hg:g.h.get id=.map (tZ L)) :
  (SO.raw (.mapUpdate 88 (.tmp a) (.tmp b) (.tmp c))).run C0 d rd t g=.upd .undef (g.put id (.map (tZ (mst k x L)))):=by
 rw[Gw PN];unfold cW;simp only[h1,h2,h3,Rd hk,G.get_eq,hg,MV hk x hL]
theorem yC{rec:Rec}(hr:∀i w ab st,Mok st.1->Mok (rec i w ab st).2.1){n:Net}{w:List Int}{cu:List Nat}{a b ab:Nat}{st:MSt}(h:Mok st.1):∀j,Mok (S.bL rec n w cu a b ab st j).2.1
 |0=>h
 | j+1=>by rw[S.bL];exact hr _ _ _ _ (hr _ _ _ _ (yC hr h j))
theorem yB{n:Net}{l:List Sp}{vr:List Nat}{size:Int}:∀f i w ab st,Mok st.1->Mok (S.ay n l vr size f i w ab st).2.1
 |0,_,_,_,_,h=>h
 | f+1,i,w,ab,st,h=>by
  rw[S.ay]
  split
  ·split
   ·exact h
   ·have:=yC (rec:=S.ay n l vr size f) (λi w ab st h=>yB f i w ab st h) (n:=n) (w:=w) (cu:=S.af n (S.an (vr[(S.sp l i).2.1.toNat]?.getD 0 &&& vr[(S.sp l i).2.2.toNat]?.getD 0) ab)) (a:=(S.sp l i).2.1.toNat) (b:=(S.sp l i).2.2.toNat) (ab:=ab ||| S.an (vr[(S.sp l i).2.1.toNat]?.getD 0 &&& vr[(S.sp l i).2.2.toNat]?.getD 0) ab) (st:=(st.1,w64 (st.2+1))) h (S.aF n (S.af n (S.an (vr[(S.sp l i).2.1.toNat]?.getD 0 &&& vr[(S.sp l i).2.2.toNat]?.getD 0) ab)));dsimp only
    split
    ·exact H0 (LW _ _ _) _ this
    ·exact this
  ·exact h
def KD(b1 b2:Nat):AV:=.clo N.bg [] [.hptr b1 0 0 0,.hptr b2 0 0 0]
theorem Hn(d b1 b2:Nat)(v:AV)(g:G):fd C0 (I C0) d (KD b1 b2) [v] g=orF ((I C0).call d N.bg [v,.hptr b1 0 0 0,.hptr b2 0 0 0] g):=by kernel_rfl
structure LOk (n:Net) (l:List Sp) (vr:List Nat):Prop where
 j:∀i,i<l.length->(S.sp l i).1 = -1->0<=(S.sp l i).2.1/\(S.sp l i).2.1<(i:Int)/\0<=(S.sp l i).2.2/\(S.sp l i).2.2<(i:Int)
 f:∀i,i<l.length->(S.sp l i).1≠-1->0<=(S.sp l i).1/\(S.sp l i).1<(n.nodes.length:Int)
 u:∀i,i<l.length->(S.sp l i).1 = -1->vr[i]?.getD 0=vr[(S.sp l i).2.1.toNat]?.getD 0 ||| vr[(S.sp l i).2.2.toNat]?.getD 0
 b:∀x∈vr,x<2 ^ n.nodes.length
structure NH (n:Net) (cut ctx:List Nat) (size:Int) (b lv:AV) (pq pv pm pc px b1 b2:Nat) (st:MSt) (w:List Int) (g:G):Prop where
 s:Srh n cut ctx size b lv pq pv pm pc px st g
 v:Vs n pv w g
 e1:g.h.get b1=VG 1 [[.hptr pq 0 0 0]]
 e2:g.h.get b2=VG 1 [[KD b1 b2]]
 l:b1<g.nx/\b2<g.nx
def Wo(vr ab:List Nat)(w:List Int)(i:Nat):Prop:=∀v,(vr[i]?.getD 0).testBit v=true->(ab[i]?.getD 0).testBit v=false->w[v]?=some (-1)
theorem CV{l:List Sp}{i:Nat}(h:i<l.length):i<(l.map cs3).length/\(l.map cs3)[i]?=some (cs3 (S.sp l i)):=by refine⟨by simpa using h,?_⟩;rw[R_,R4 h,S.sp,R4 h];rfl
theorem BK(gr size c c':Int)(b lv vv cv xv:AV)(pm:Nat)(g:G)(pq:Nat):cN (srO gr size c b lv vv cv xv pm) g pq 0 0 1 8 (.int .i64 c')=.upd .undef (g.put pq (srO gr size c' b lv vv cv xv pm)):=by
 unfold srO;rw[bL 9 _ 0 false g pq 0 1 8 (.int .i64 c') rfl rfl,S3];rw[show (AV.int .i64 c').cells=[.int .i64 c'] from rfl];dsimp only;rw[mw (by simp)]
 rfl
theorem RP(gr size c:Int)(b lv vv cv xv:AV)(pm:Nat):bK (srO gr size c b lv vv cv xv pm) 0 0 false 1 1=.val b:=rfl
theorem QS(gr size c:Int)(b lv vv cv xv:AV)(pm:Nat):bK (srO gr size c b lv vv cv xv pm) 0 0 false 1 2=.val lv:=rfl
theorem QU(gr size c:Int)(b lv vv cv xv:AV)(pm:Nat):bK (srO gr size c b lv vv cv xv pm) 0 0 false 1 4=.val cv:=rfl
theorem O9(gr size c:Int)(b lv vv cv xv:AV)(pm:Nat):bK (srO gr size c b lv vv cv xv pm) 0 0 false 1 6=.val (.hmap pm):=rfl
theorem RR(gr size c:Int)(b lv vv cv xv:AV)(pm:Nat):bK (srO gr size c b lv vv cv xv pm) 0 0 false 1 7=.val (.int .i64 size):=rfl
theorem RB(gr size c:Int)(b lv vv cv xv:AV)(pm:Nat):bK (srO gr size c b lv vv cv xv pm) 0 0 false 1 8=.val (.int .i64 c):=rfl
theorem Srh.call{n:Net}{cut ctx:List Nat}{size:Int}{b lv:AV}{pq pv pm pc px:Nat}{st:MSt}{g g':G}{l:List Sp}(hC:Srs n l cut ctx b lv pq pv pm pc px)(h:Srh n cut ctx size b lv pq pv pm pc px st g){c:Int}(hn:g.nx<=g'.nx)(hg:g'.h=g.h.put pq (srO n.grain size c b lv (.hsl pv 0 0 n.nodes.length none) (.hsl pc 0 0 cut.length none) (.hsl px 0 0 ctx.length none) pm)):Srh n cut ctx size b lv pq pv pm pc px (st.1,c) g':=by obtain⟨d1,d2,d3,d4⟩:=hC.d1;exact⟨by rw[hg,aS],by rw[hg,af _ _ _ d2,h.m],by rw[hg,af _ _ _ d3,h.c],by rw[hg,af _ _ _ d4,h.x],by have:=h.nx;omega⟩
section
variable {d f size:Nat}{n:Net}{l:List Sp}{cut ctx vr ab:List Nat}{sz:Int}{b lv:AV}{pq pv pm pc px b1 b2:Nat}
def As(pq pv pm:Nat):Nat->Prop:=λi=>i=pv\/i=pq\/i=pm
def IC(d:Nat)(n:Net)(l:List Sp)(cut ctx vr ab:List Nat)(sz:Int)(b lv:AV)(pq pv pm pc px b1 b2 f i:Nat):Prop :=
 ∀(w:List Int) (st:MSt) (g:G) (K:AV->G->Prop) (D:ADf->Prop),NH n cut ctx sz b lv pq pv pm pc px b1 b2 st w g->Wv n w->Wo vr ab w i->Mok st.1 ->
  (∀g',NH n cut ctx sz b lv pq pv pm pc px b1 b2 (S.ay n l vr sz f i w (ab[i]?.getD 0) st).2 w g'->Fx (As pq pv pm) g g'->K (.int .i64 (S.ay n l vr sz f i w (ab[i]?.getD 0) st).1) g') ->
  (fd C0 (I C0) d (KD b1 b2) [.int .i64 (i:Int)] g).sat K g D
set_option maxRecDepth 20000 in
theorem Mo{i:Nat}(hd:0<d)(hC:Srs n l cut ctx b lv pq pv pm pc px)(hL:LOk n l vr)(hb:(b1≠pv/\b1≠pq/\b1≠pm)/\b2≠pv/\b2≠pq/\b2≠pm)(hi:i<l.length)(hx:(S.sp l i).1≠-1):IC d n l cut ctx vr ab sz b lv pq pv pm pc px b1 b2 (f+1) i:=by
 intro w st g K D hN hW hO hM kk;obtain⟨hS,hV,he1,he2,hl1,hl2⟩:=hN;obtain⟨n1,n2,n3,n4,n5⟩:=hS.nx;obtain⟨d1a,d1b,d1c,d1d⟩:=hC.d1;obtain⟨x0,x1⟩:=hL.f i hi hx;obtain⟨a1,a2⟩:=CV hi;have hll:=hC.ll;have rl:=λh=>(hC.sl.tree (h':=h) (R5 0)).sps;have hnum:S.ay n l vr sz (f+1) i w (ab[i]?.getD 0) st=(S.cG n w (S.sp l i).1.toNat,st.1,w64 (st.2+1)):=by rw[S.ay,Sa hx]
 rw[hnum]at kk;obtain⟨v,hv⟩:=R8 x0;obtain⟨⟨xa,xb,xc⟩,hsp⟩:∃x,S.sp l i=x:=⟨_,rfl⟩;rw[hsp]at hv x1 kk a2 hx;dsimp only at hv x1 kk hx;subst hv;rw[Sx]at kk;have c1:¬((v:Int) = -1):=hx;have hq:=hS.q;rw[Hn];refine dc gY (by simp[bJ]) ?_;simp only[bJ];refine be (P:=λt' df g'=>df=[]/\g'=g/\St t' [(0,.int .i64 (i:Int)),(1,.hptr b1 0 0 0),(2,.hptr b2 0 0 0)]) ?_ ?_
 ·simp only[_root_.Hx.sz,simprocAttr];simp[St,sx]
 rintro t df g ⟨rfl,rfl,h0,h1,h2,-⟩;refine be (P:=λt' df g'=>df=[]/\g'.nx=g.nx+1/\g'.h.get g.nx=VG 3 [cs3 ((v:Int),xb,xc)]/\Fx (λ_=>False) g g'/\St t' [(0,.int .i64 (i:Int)),(1,.hptr b1 0 0 0),(2,.hptr b2 0 0 0),(5,.hptr g.nx 0 0 0)]) ?_ ?_
 ·simp only[_root_.Hx.sz,simprocAttr,h0,h1,he1,hq,QS,bF,rl,a1,a2,cs3];exact⟨(Fx.new _ _ _).put (.inr (R5 _)) _,by simp[St,sx,h0,h1,h2]⟩
 rintro t df g1 ⟨rfl,k1,kB,F1,h0,h1,h2,h5,-⟩;have q1:=(F1.fr pq n1 id).trans hq;have e1':g1.h.get b1=VG 1 [[.hptr pq 0 0 0]]:=by rw[F1.fr b1 hl1 id,he1]
 have sc:=BK n.grain sz st.2 (w64 (st.2+1)) b lv (.hsl pv 0 0 n.nodes.length none) (.hsl pc 0 0 cut.length none) (.hsl px 0 0 ctx.length none) pm;have hb1q:¬b1=pq:=hb.1.2.1;have hBq:¬g.nx=pq:=by omega
 simp only[_root_.Hx.sz,simprocAttr,h1,h5,kB,cs3,c1,e1',q1,bF,RB,sc,hb1q,hBq];have F2:Fx (As pq pv pm) g (g1.put pq (srO n.grain sz (w64 (st.2+1)) b lv (.hsl pv 0 0 n.nodes.length none) (.hsl pc 0 0 cut.length none) (.hsl px 0 0 ctx.length none) pm)):=(F1.mono λ_ h=>h.elim).put (.inl (.inr (.inl rfl))) _;have hS1:Srh n cut ctx sz b lv pq pv pm pc px st g1:=hS.fr F1.nx λi hi=>F1.fr i (by rcases hi with rfl|rfl|rfl|rfl<;>assumption) id;have hS2:=hS1.call (l:=l) (c:=w64 (st.2+1)) (g':=g1.put pq (srO n.grain sz (w64 (st.2+1)) b lv (.hsl pv 0 0 n.nodes.length none) (.hsl pc 0 0 cut.length none) (.hsl px 0 0 ctx.length none) pm)) hC (by simp) (by simp);have hV2:Vs n pv w (g1.put pq (srO n.grain sz (w64 (st.2+1)) b lv (.hsl pv 0 0 n.nodes.length none) (.hsl pc 0 0 cut.length none) (.hsl px 0 0 ctx.length none) pm)):=hV.fr (by rw[G.put_h,af _ _ _ d1a,F1.fr pv n2 id]);refine Oh hd hC hS2 hW hV2 (by omega) λg' hS3 hV3 F3=>?_;simp only[_root_.Hx.sz,simprocAttr];have F23:=F2.trans (F3.mono λi hi _=>(.inl hi:As pq pv pm i));have hf3:∀i,i<g.nx->i≠pv->i≠pq->g'.h.get i=g.h.get i:=λi hi h1 h2=>by have:=F1.nx;rw[F3.fr i (by simp;omega) h1,G.put_h,af _ _ _ h2,F1.fr i hi id]
 exact kk g' ⟨hS3,hV3,by rw[hf3 _ hl1 hb.1.1 hb.1.2.1,he1],by rw[hf3 _ hl2 hb.2.1 hb.2.2.1,he2],by have:=F23.nx;omega⟩ F23
structure JnH (n:Net) (cut ctx:List Nat) (sz:Int) (b lv:AV) (pq pv pm pc px b1 b2 i:Nat) (st:MSt) (w:List Int) (x:Sp) (k:Key) (g0:G) (B6:Nat) (t:T) (g:G):Prop where
 nh:NH n cut ctx sz b lv pq pv pm pc px b1 b2 st w g
 f:Fx (λ_=>False) g0 g
 b5:g.h.get g0.nx=VG 3 [cs3 x]
 b6:g.h.get B6=kO9 k.1 k.2
 ln:g0.nx<B6/\B6<g.nx
 st:St t [(0,.int .i64 (i:Int)),(1,.hptr b1 0 0 0),(2,.hptr b2 0 0 0),(5,.hptr g0.nx 0 0 0),(6,.hptr B6 0 0 0)]
set_option maxRecDepth 20000 in
theorem OF{i:Nat}{w:List Int}{st:MSt}{g0:G}{Q:QT}{t:T}{R:SC}(hC:Srs n l cut ctx b lv pq pv pm pc px)(hi:i<l.length)(hx:(S.sp l i).1 = -1)(hN:NH n cut ctx sz b lv pq pv pm pc px b1 b2 st w g0)
  (ht:St t [(0,.int .i64 (i:Int)),(1,.hptr b1 0 0 0),(2,.hptr b2 0 0 0)])
  (fin:∀t g B6,JnH n cut ctx sz b lv pq pv pm pc px b1 b2 i st w (S.sp l i) ((i:Int),S.aS w (ctx[i]?.getD 0)) g0 B6 t g->wp C0 d none R Q t [] g) :
  wp C0 d none (sQ [oL 11 1,VM 12 11,oF 13 2 12,oL 14 13,oM 15 0,VP 16 3 14 15,VJ 17 3 16,o 5 (.alloc [.int .i64 0,.int .i64 0,.int .i64 0]),VL 3 5 17] (.seq (sQ [oF 18 0 5,oL 19 18,VI 20 .neq 19 (-1)] (.cond (.t 20) (sQ [oL 21 1,VM 22 21,oF 23 8 22,oL 24 23,oA 25 24,VM 26 21,oF 27 8 26,VL 1 27 25] (sQ [oL 28 1,oF 29 0 5,oL 30 29,o 31 (.call N.aF [.t 28,.t 30]),oM 4 31] (.ret))) (.skip))) (sQ [oL 32 1,oM 33 0,o 34 (.call N.aG [.t 32,.t 33]),o 6 (.alloc [.int .i64 0,.int .i64 0,.int .i64 0,.int .i64 0,.int .i64 0,.int .i64 0,.int .i64 0,.int .i64 0,.int .i64 0]),VL 9 6 34] R))) Q t [] g0:=by
 obtain⟨hS,hV,he1,he2,hl1,hl2⟩:=hN;obtain⟨n1,n2,n3,n4,n5⟩:=hS.nx;obtain⟨h0,h1,h2,-⟩:=ht;obtain⟨a1,a2⟩:=CV hi;have rl:=λh=>(hC.sl.tree (h':=h) (R5 0)).sps;obtain⟨⟨xa,xb,xc⟩,hsp⟩:∃x,S.sp l i=x:=⟨_,rfl⟩;rw[hsp]at a2 hx fin;dsimp only at hx;subst hx;have hq:=hS.q;refine be (P:=λt' df g'=>df=[]/\g'.nx=g0.nx+1/\g'.h.get g0.nx=VG 3 [cs3 (-1,xb,xc)]/\Fx (λ_=>False) g0 g'/\St t' [(0,.int .i64 (i:Int)),(1,.hptr b1 0 0 0),(2,.hptr b2 0 0 0),(5,.hptr g0.nx 0 0 0)]) ?_ ?_
 ·simp only[_root_.Hx.sz,simprocAttr,h0,h1,he1,hq,QS,bF,rl,a1,a2,cs3];exact⟨(Fx.new _ _ _).put (.inr (R5 _)) _,by simp[St,sx,h0,h1,h2]⟩
 clear h0 h1 h2;rintro t df g1 ⟨rfl,k1,kB,F1,h0,h1,h2,h5,-⟩;have e1':g1.h.get b1=VG 1 [[.hptr pq 0 0 0]]:=by rw[F1.fr b1 hl1 id,he1]
 have hS1:Srh n cut ctx sz b lv pq pv pm pc px st g1:=hS.fr F1.nx λi hi=>F1.fr i (by rcases hi with rfl|rfl|rfl|rfl<;>assumption) id;have hV1:Vs n pv w g1:=hV.fr (F1.fr pv n2 id);refine bI (P:=λt' df g'=>df=[]/\g'=g1/\St t' [(0,.int .i64 (i:Int)),(1,.hptr b1 0 0 0),(2,.hptr b2 0 0 0),(5,.hptr g0.nx 0 0 0)]) ?_ ?_
 ·simp only[_root_.Hx.sz,simprocAttr,h5,kB,cs3];simp[St,sx,h0,h1,h2,h5]
 clear h0 h1 h2 h5;rintro t df g1 ⟨rfl,rfl,h0,h1,h2,h5,-⟩;refine be (P:=λt' df g'=>df=[]/\∃B6,JnH n cut ctx sz b lv pq pv pm pc px b1 b2 i st w (-1,xb,xc) ((i:Int),S.aS w (ctx[i]?.getD 0)) g0 B6 t' g') ?_ ?_
 ·simp only[_root_.Hx.sz,simprocAttr,h0,h1,e1'];refine Nd hC hS1 hV1 hi λg2 F2=>?_;have hsk:(S.aS w (ctx[i]?.getD 0)).length=8:=by simp[S.aS]
  have sa:=HP (i:=0) (l:=[0,0,0,0,0,0,0,0]) (k:=((i:Int),S.aS w (ctx[i]?.getD 0))) rfl hsk;have e9:VG 9 [[AV.int .i64 0,.int .i64 0,.int .i64 0,.int .i64 0,.int .i64 0,.int .i64 0,.int .i64 0,.int .i64 0,.int .i64 0]]=kO9 0 [0,0,0,0,0,0,0,0]:=rfl;have F2n:=F2.nx;simp only[_root_.Hx.sz,simprocAttr,e9,sa];have F3:Fx (λ_=>False) g0 ((g2.new (kO9 0 [0,0,0,0,0,0,0,0])).put g2.nx (kO9 (i:Int) (S.aS w (ctx[i]?.getD 0)))):=(F1.trans (F2.trans (Fx.new _ _ _))).put (.inr (by omega)) _;refine⟨g2.nx,⟨hS.fr F3.nx λi hi=>F3.fr i (by rcases hi with rfl|rfl|rfl|rfl<;>assumption) id,hV.fr (F3.fr pv n2 id),by rw[F3.fr b1 hl1 id,he1],by rw[F3.fr b2 hl2 id,he2],by have:=F3.nx;omega⟩,F3,?_,?_,by simp;omega,by simp[St,sx,h0,h1,h2,h5]⟩
  ·rw[G.put_h,af _ _ _ (by omega),G.new_h,af _ _ _ (by omega),F2.fr _ (by omega) id,kB]
  ·rw[G.put_h,aS]
 rintro t df g2 ⟨rfl,B6,h⟩;exact fin t g2 B6 h
end
end
end Hx
end
section
namespace Hx
open Go
noncomputable section
theorem KO(C:Cfg)(t:T)(g:G)(f:Od)(xs:List Od):(SO.foot C t g (.dyn f xs)).sr=[]:=by
 simp only[SO.foot]
 split
 ·rw[aa];split<;>rfl
 ·rfl
theorem IF{x y:Foot}(hx:x.wr=[])(hb:x.lk.big=false)(hs:x.lk.sr=[])(h:∀i∈y.wr,i ∉ x.lk.rd):cz x y=true:=by
 have m1:meets y.wr []=false:=by simp[meets]
 have m2:meets y.wr x.lk.rd=false:=by simp only[meets,List.any_eq_false];intro i hi hc;exact h i hi (UM.1 hc)
 simp only[cz,lG,jp,hx,hb,hs,m1,m2,fst1,TP,UV,UQ,U2,Td]
 split<;>rfl
section
variable {d f:Nat}{n:Net}{l:List Sp}{cut ctx vr ab:List Nat}{sz:Int}{b lv:AV}{pq pv pm pc px b1 b2:Nat}
def LJo(i b1 b2 B5 B6:Nat):List (Nat×AV):=[(0,.int .i64 (i:Int)),(1,.hptr b1 0 0 0),(2,.hptr b2 0 0 0),(5,.hptr B5 0 0 0),(6,.hptr B6 0 0 0)]
theorem JnH.key8{i B6:Nat}{st:MSt}{w:List Int}{x:Sp}{k:Key}{g0 g:G}{t:T}(h:JnH n cut ctx sz b lv pq pv pm pc px b1 b2 i st w x k g0 B6 t g)(hk:K8 k):bK (g.h.get B6) 0 0 true 9 0=.val (ck9 k):=by rw[h.b6];exact zM hk
def yF:SC:=.seq (.quiet [oL 36 1,VM 37 36,oF 38 6 37,oL 39 38,VJ 40 9 6,o 41 (.raw (.lookup 88 (.tmp 39) (.tmp 40) true)),oM 35 41,VK 42 35 0,VK 43 35 1,oM 7 42,oM 8 43]) (sQ [oM 44 8] (.cond (.t 44) (sQ [oM 45 7,oM 4 45] (.ret)) (.skip)))
theorem L8{i B6:Nat}{st:MSt}{w:List Int}{x:Sp}{k:Key}{g0 g:G}{t:T}{Q:QT}(hk:K8 k)(hM:Mok st.1)(h:JnH n cut ctx sz b lv pq pv pm pc px b1 b2 i st w x k g0 B6 t g)(hh:fT st.1 k=true)(fin:∀t,tat t 4=.int .i64 (mgt st.1 k)->Q .ret t [] g) :
  wp C0 d none yF Q t [] g:=by
 obtain⟨h0,h1,h2,h5,h6,-⟩:=h.st;have e1:=h.nh.e1;have q:=h.nh.s.q;have m:=h.nh.s.m;have k8:=h.key8 hk;have lk:=λt g h1 h2 h3=>L7 (d:=d) (rd:=none) (t:=t) (g:=g) (a:=39) (b:=40) (id:=pm) hk hM h1 h2 h3;simp only[_root_.Hx.sz,simprocAttr,yF,h1,h6,e1,q,O9,bF,k8,lk,m,hh];exact fin _ (by simp[sx])
theorem Om{i B6:Nat}{st:MSt}{w:List Int}{x:Sp}{k:Key}{g0 g:G}{t:T}{Q:QT}(hk:K8 k)(hM:Mok st.1)(h:JnH n cut ctx sz b lv pq pv pm pc px b1 b2 i st w x k g0 B6 t g)(hh:fT st.1 k=false)(fin:∀t,St t (LJo i b1 b2 g0.nx B6)->Q .norm t [] g) :
  wp C0 d none yF Q t [] g:=by
 obtain⟨h0,h1,h2,h5,h6,-⟩:=h.st;have e1:=h.nh.e1;have q:=h.nh.s.q;have m:=h.nh.s.m;have k8:=h.key8 hk;have lk:=λt g h1 h2 h3=>L7 (d:=d) (rd:=none) (t:=t) (g:=g) (a:=39) (b:=40) (id:=pm) hk hM h1 h2 h3;simp only[_root_.Hx.sz,simprocAttr,yF,h1,h6,e1,q,O9,bF,k8,lk,m,hh];exact fin _ (by simp[St,LJo,sx,h0,h1,h2,h5,h6])
def OV(R:SC):SC:=sQ [oL 46 1,VM 47 46,oF 48 8 47,oL 49 48,oA 50 49,VM 51 46,oF 52 8 51,VL 1 52 50] (sQ [o 9 (.alloc [.int .i64 0]),oz (.store 1 (.t 9) (qI 0))] R)
theorem Kx{i B6:Nat}{st:MSt}{w:List Int}{x:Sp}{k:Key}{g0 g:G}{t t0:T}{Q:QT}{R:SC}(hC:Srs n l cut ctx b lv pq pv pm pc px)(hb:(b1≠pv/\b1≠pq/\b1≠pm)/\b2≠pv/\b2≠pq/\b2≠pm)(hpq:pq<g0.nx)(hb12:b1<g0.nx/\b2<g0.nx)(h:JnH n cut ctx sz b lv pq pv pm pc px b1 b2 i st w x k g0 B6 t0 g)(ht:St t (LJo i b1 b2 g0.nx B6))
  (fin:∀t g',g'.nx=g.nx+1->(∀j,j<g.nx->j≠pq->g'.h.get j=g.h.get j)->(∀j∈g'.lg,j∈g.lg\/j=pq\/j=g.nx)->NH n cut ctx sz b lv pq pv pm pc px b1 b2 (st.1,w64 (st.2+1)) w g'->g'.h.get g.nx=VG 1 [[.int .i64 0]]->St t ((9,.hptr g.nx 0 0 0)::LJo i b1 b2 g0.nx B6)->wp C0 d none R Q t [] g') :
  wp C0 d none (OV R) Q t [] g:=by
 obtain⟨h0,h1,h2,h5,h6,-⟩:=ht;have e1:=h.nh.e1;have q:=h.nh.s.q;obtain⟨n1,n2,n3,n4,n5⟩:=h.nh.s.nx;have sc:=BK n.grain sz st.2 (w64 (st.2+1)) b lv (.hsl pv 0 0 n.nodes.length none) (.hsl pc 0 0 cut.length none) (.hsl px 0 0 ctx.length none) pm;refine be (P:=λt' df g'=>df=[]/\g'=g.put pq (srO n.grain sz (w64 (st.2+1)) b lv (.hsl pv 0 0 n.nodes.length none) (.hsl pc 0 0 cut.length none) (.hsl px 0 0 ctx.length none) pm)/\St t' (LJo i b1 b2 g0.nx B6)) ?_ ?_
 ·simp only[_root_.Hx.sz,simprocAttr,h1,e1,q,RB,bF,sc];simp[St,LJo,sx,h0,h1,h2,h5,h6]
 clear h0 h1 h2 h5 h6;rintro t df g1 ⟨rfl,hg1,h0,h1,h2,h5,h6,-⟩;have n1':g1.nx=g.nx:=by rw[hg1];simp
 have f1:∀j,j≠pq->g1.h.get j=g.h.get j:=λj hj=>by rw[hg1,G.put_h,af _ _ _ hj]
 have l1:∀j∈g1.lg,j∈g.lg\/j=pq:=λj hj=>by rw[hg1]at hj;simp at hj;exact hj.symm
 have hS1:Srh n cut ctx sz b lv pq pv pm pc px (st.1,w64 (st.2+1)) g1:=h.nh.s.call (l:=l) hC (by omega) (by rw[hg1];simp);clear hg1;refine be (P:=λt' df g'=>df=[]/\g'.nx=g.nx+1/\(∀j,j<g.nx->g'.h.get j=g1.h.get j)/\(∀j∈g'.lg,j∈g1.lg\/j=g.nx)/\g'.h.get g.nx=VG 1 [[.int .i64 0]]/\St t' ((9,.hptr g.nx 0 0 0)::LJo i b1 b2 g0.nx B6)) ?_ ?_
 ·simp only[_root_.Hx.sz,simprocAttr,n1'];refine⟨λj hj=>by simp[show ¬j=g.nx by omega],λj hj=>?_,by simp[St,LJo,sx,h0,h1,h2,h5,h6]⟩;simp at hj;rcases hj with h|h|h
  ·exact .inr h
  ·exact .inr (by omega)
  ·exact .inl h
 clear h0 h1 h2 h5 h6;rintro t df g2 ⟨rfl,n2',f2,l2,k9,ht⟩;obtain⟨d1a,d1b,d1c,d1d⟩:=hC.d1;have F0:=h.f;have hfn:=F0.nx;refine fin t g2 n2' (λj hj hp=>by rw[f2 j hj,f1 j hp]) (λj hj=>?_) ⟨hS1.fr (by omega) λj hj=>f2 j (by rcases hj with rfl|rfl|rfl|rfl<;>assumption),h.nh.v.fr (by rw[f2 _ n2,f1 _ d1a]),by rw[f2 _ h.nh.l.1,f1 _ hb.1.2.1,e1],by rw[f2 _ h.nh.l.2,f1 _ hb.2.2.1,h.nh.e2],by have:=h.nh.l;omega⟩ k9 ht;rcases l2 j hj with h|h
 ·rcases l1 j h with h|h
  ·exact .inl h
  ·exact .inr (.inl h)
 ·exact .inr (.inr h)
end
end
end Hx
end
section
namespace Hx
open Go
noncomputable section
section
variable {d f:Nat}{n:Net}{l:List Sp}{cut ctx vr ab:List Nat}{sz:Int}{b lv:AV}{pq pv pm pc px b1 b2:Nat}
theorem NH.fr{st:MSt}{w:List Int}{g g':G}(h:NH n cut ctx sz b lv pq pv pm pc px b1 b2 st w g)(hn:g.nx<=g'.nx)(hf:∀j,j<g.nx->g'.h.get j=g.h.get j):NH n cut ctx sz b lv pq pv pm pc px b1 b2 st w g':=by obtain⟨n1,n2,n3,n4,n5⟩:=h.s.nx;exact⟨h.s.fr hn λj hj=>hf j (by rcases hj with rfl|rfl|rfl|rfl<;>assumption),h.v.fr (hf pv n2),by rw[hf _ h.l.1,h.e1],by rw[hf _ h.l.2,h.e2],by have:=h.l;omega⟩
theorem NH.set{st:MSt}{w:List Int}{g g':G}{S0:Nat}(h:NH n cut ctx sz b lv pq pv pm pc px b1 b2 st w g)(hs:b2≠S0/\pv≠S0/\pq≠S0/\pm≠S0/\pc≠S0/\px≠S0/\b1≠S0)(hn:g.nx<=g'.nx)(hf:∀j,j≠S0->g'.h.get j=g.h.get j):NH n cut ctx sz b lv pq pv pm pc px b1 b2 st w g':=by obtain⟨s1,s2,s3,s4,s5,s6,s7⟩:=hs;exact⟨h.s.fr hn λj hj=>hf j (by rcases hj with rfl|rfl|rfl|rfl<;>assumption),h.v.fr (hf pv s2),by rw[hf _ s7,h.e1],by rw[hf _ s1,h.e2],by have:=h.l;omega⟩
set_option maxRecDepth 20000 in
theorem Rb{B5 S0 le ri:Nat}{w:List Int}{st:MSt}{s:Int}{rd:Option Nat}{g:G}{t:T}{Q:QT}(hb5:(B5≠pv/\B5≠pq/\B5≠pm)/\S0≠pv/\S0≠pq/\S0≠pm)(hbs:b2≠S0/\B5≠S0/\pv≠S0/\pq≠S0/\pm≠S0/\pc≠S0/\px≠S0/\b1≠S0)
  (hN:NH n cut ctx sz b lv pq pv pm pc px b1 b2 st w g) (hW:Wv n w) (hM:Mok st.1) (ih1:IC d n l cut ctx vr ab sz b lv pq pv pm pc px b1 b2 f le) (ih2:IC d n l cut ctx vr ab sz b lv pq pv pm pc px b1 b2 f ri) (hO1:Wo vr ab w le) (hO2:Wo vr ab w ri)
  (k5:g.h.get B5=VG 3 [cs3 (-1,(le:Int),(ri:Int))]) (k9:g.h.get S0=VG 1 [[.int .i64 s]]) (hlt:B5<g.nx/\S0<g.nx)
  (h2:tat t 2=.hptr b2 0 0 0) (h5:tat t 5=.hptr B5 0 0 0) (h9:tat t 9=.hptr S0 0 0 0) {p q:Int×MSt} (hp:p=S.ay n l vr sz f le w (ab[le]?.getD 0) st) (hq:q=S.ay n l vr sz f ri w (ab[ri]?.getD 0) p.2)
  (fin:∀t g',NH n cut ctx sz b lv pq pv pm pc px b1 b2 q.2 w g'->g'.h.get S0=VG 1 [[.int .i64 (w64 (s+w64 (p.1*q.1)))]]->Fx (λi=>As pq pv pm i\/i=S0) g g'->Q .norm t [] g') :
  wp C0 d rd cF Q t [] g:=by
 obtain⟨⟨c1,c2,c3⟩,c4,c5,c6⟩:=hb5;have hAB:¬As pq pv pm B5:=by rintro (h|h|h)<;>contradiction
 have hAS:¬As pq pv pm S0:=by rintro (h|h|h)<;>contradiction
 simp only[cF,C4];refine be (P:=λt' df g'=>df=[]/\tat t' 10=.int .i64 p.1/\NH n cut ctx sz b lv pq pv pm pc px b1 b2 p.2 w g'/\Fx (As pq pv pm) g g'/\St t' [(2,.hptr b2 0 0 0),(5,.hptr B5 0 0 0),(9,.hptr S0 0 0 0)]) ?_ ?_
 ·have e2:=hN.e2;simp only[_root_.Hx.sz,simprocAttr,h2,e2,h5,k5,cs3];refine ih1 w st g _ _ hN hW hO1 hM λg' hN' F'=>?_;rw[<-hp]at hN' ⊢;simp only[_root_.Hx.sz,simprocAttr];exact⟨hN',F',by simp[St,sx,h2,h5,h9]⟩
 clear h2 h5 h9;rintro t df g1 ⟨rfl,h10,hN1,F1,h2,h5,h9,-⟩;have F1n:=F1.nx;have e2:=hN1.e2;have k5':g1.h.get B5=VG 3 [cs3 (-1,(le:Int),(ri:Int))]:=by rw[F1.fr B5 hlt.1 hAB,k5]
 have k9':g1.h.get S0=VG 1 [[.int .i64 s]]:=by rw[F1.fr S0 hlt.2 hAS,k9]
 have hMp:Mok p.2.1:=by rw[hp];exact yB _ _ _ _ _ hM
 simp only[_root_.Hx.sz,simprocAttr,sf,h2,e2,h5,k5',cs3,h9,k9',h10];refine ih2 w p.2 _ _ _ (hN1.fr (by simp;omega) λj hj=>by simp) hW hO2 hMp λg2 hN2 F2=>?_;rw[<-hq]at hN2 ⊢;have F2n:g1.nx<=g2.nx:=by have:=F2.nx;simp at this;omega
 have f2:∀j,j<g1.nx->¬As pq pv pm j->g2.h.get j=g1.h.get j:=λj hj hA=>by have:=F2.fr j (by simp;omega) hA;simpa using this
 have l2:∀j∈g2.lg,As pq pv pm j\/g1.nx<=j:=λj hj=>by have:=F2.lg j hj;simp at this;exact this.imp id λh=>by omega
 have k9'':g2.h.get S0=VG 1 [[.int .i64 s]]:=by rw[f2 S0 (by omega) hAS,k9']
 simp only[_root_.Hx.sz,simprocAttr,sf,h9,k9''];refine⟨?_,?_⟩
 ·simp only[Si,Sl,Sf,Sd];refine aA [false,false,false,false,false,true,false,false,true] [(0,5),(1,5)] (by simp[All2,ac,ap,KO]) (by decide) ?_;intro pp hpp x y hx hy;simp only[Sq,Sk,Ui]at hpp;rcases hpp with rfl|rfl<;>(simp only[S3,TF,S9]at hx hy;subst hx;subst hy;refine IF rfl rfl rfl ?_)
  ·intro i hi hc;simp[ac,jq]at hc;subst hc;rcases l2 _ hi with h|h
   ·exact hAS h
   ·omega
  ·intro i hi hc;simp[ap]at hc
 ·obtain⟨s1,s2,s3,s4,s5,s6,s7,s8⟩:=hbs;refine fin _ _ (hN2.set (S0:=S0) ⟨s1,s3,s4,s5,s6,s7,s8⟩ (by simp;omega) λj hj=>by simp[RW,hj]) (by simp[RW]) ⟨by simp;omega,λj hj hA=>?_,λj hj=>?_⟩
  ·have h1:¬As pq pv pm j:=λh=>hA (.inl h);have h2:¬j=S0:=λh=>hA (.inr h);simp[RW,h2,f2 j (by omega) h1,F1.fr j hj h1]
  ·simp at hj;rcases hj with rfl|hj|hj
   ·exact .inr (.inl (.inr rfl))
   ·rcases l2 j hj with h|h
    ·exact .inr (.inl (.inl h))
    ·exact .inr (.inr (by omega))
   ·rcases F1.lg j hj with h|h|h
    ·exact .inl h
    ·exact .inr (.inl (.inl h))
    ·exact .inr (.inr h)
end
end
end Hx
end
section
namespace Hx
open Go
noncomputable section
section
variable {d f:Nat}{n:Net}{l:List Sp}{cut ctx vr ab:List Nat}{sz:Int}{b lv:AV}{pq pv pm pc px b1 b2:Nat}
def Mb(k:Key)(r sz:Int)(L:Mem):Mem:=if (L.length:Int)<sz then mst k r L else L
theorem L1{g:G}{pm:Nat}{L:Mem}(h:g.h.get pm=.map (tZ L)):dO .map (.hmap pm) g=.val (.int .i64 (L.length:Int)):=by show (match g.get pm with|.map es=>OR.val (.int .i64 (.ofNat (bz es)))|_=>.fail)=_;rw[G.get_eq,h];simp[ay,tZ]
theorem NH.mem{st:MSt}{w:List Int}{g g':G}{L:Mem}(hC:Srs n l cut ctx b lv pq pv pm pc px)(hb:(b1≠pv/\b1≠pq/\b1≠pm)/\b2≠pv/\b2≠pq/\b2≠pm)(h:NH n cut ctx sz b lv pq pv pm pc px b1 b2 st w g)(hn:g.nx<=g'.nx)(hf:∀j,j≠pm->g'.h.get j=g.h.get j)(hm:g'.h.get pm=.map (tZ L)):NH n cut ctx sz b lv pq pv pm pc px b1 b2 (L,st.2) w g':=by obtain⟨d1a,d1b,d1c,d1d⟩:=hC.d1;obtain⟨d2a,d2b,d2c⟩:=hC.d2;obtain⟨d3a,d3b⟩:=hC.d3;exact⟨⟨by rw[hf _ (To d1b),h.s.q],hm,by rw[hf _ d3a,h.s.c],by rw[hf _ d3b,h.s.x],by have:=h.s.nx;omega⟩,h.v.fr (hf _ (To d2a)),by rw[hf _ hb.1.2.2,h.e1],by rw[hf _ hb.2.2.2,h.e2],by have:=h.l;omega⟩
set_option maxRecDepth 20000 in
theorem Rc{B6 S0:Nat}{st:MSt}{w:List Int}{k:Key}{r:Int}{g:G}{t:T}{df:List ADf}{Q:QT}(hC:Srs n l cut ctx b lv pq pv pm pc px)(hb:(b1≠pv/\b1≠pq/\b1≠pm)/\b2≠pv/\b2≠pq/\b2≠pm)(hk:K8 k)(hM:Mok st.1)(hN:NH n cut ctx sz b lv pq pv pm pc px b1 b2 st w g)
  (k6:g.h.get B6=kO9 k.1 k.2) (k9:g.h.get S0=VG 1 [[.int .i64 r]]) (hS0:S0≠pm) (h1:tat t 1=.hptr b1 0 0 0) (h6:tat t 6=.hptr B6 0 0 0) (h9:tat t 9=.hptr S0 0 0 0)
  (fin:∀t g',tat t 4=.int .i64 r->NH n cut ctx sz b lv pq pv pm pc px b1 b2 (Mb k r sz st.1,st.2) w g'->Fx (λi=>i=pm) g g'->(∀j,j≠pm->g'.h.get j=g.h.get j)->Q .ret t df g') :
  wp C0 d none cG Q t df g:=by
 have e1:=hN.e1;have q:=hN.s.q;have m:=hN.s.m;have k8:bK (g.h.get B6) 0 0 true 9 0=.val (ck9 k):=by rw[k6];exact zM hk
 obtain⟨d1a,d1b,d1c,d1d⟩:=hC.d1;obtain⟨d2a,d2b,d2c⟩:=hC.d2;obtain⟨d3a,d3b⟩:=hC.d3;have lm:=λ(g':G) (h:g'.h.get pm=.map (tZ st.1))=>L1 h;simp only[cG];refine bI (P:=λt' df' g'=>df'=df/\tat t' 9=.hptr S0 0 0 0/\NH n cut ctx sz b lv pq pv pm pc px b1 b2 (Mb k r sz st.1,st.2) w g'/\Fx (λi=>i=pm) g g'/\(∀j,j≠pm->g'.h.get j=g.h.get j)) ?_ ?_
 ·refine bI (P:=λt' df' g'=>df'=df/\g'=g/\tat t' 84=.bool (decide ((st.1.length:Int)<sz))/\St t' [(1,.hptr b1 0 0 0),(6,.hptr B6 0 0 0),(9,.hptr S0 0 0 0)]) ?_ ?_
  ·simp only[_root_.Hx.sz,simprocAttr,h1,e1,q,O9,RR,bF,lm,m];simp[St,sx,h1,h6,h9]
  clear h1 h6 h9;rintro t df g ⟨rfl,rfl,h84,h1,h6,h9,-⟩
  by_cases c:(st.1.length:Int)<sz
  ·have hmu:Mb k r sz st.1=mst k r st.1:=Sb c;rw[hmu];rw[Tx c]at h84;have lk:=λt g h1 h2 h3 h4=>RE (d:=d) (rd:=none) (t:=t) (g:=g) (a:=88) (b:=89) (c:=90) (id:=pm) (x:=r) hk hM h1 h2 h3 h4;simp only[_root_.Hx.sz,simprocAttr,sf,h84,h1,h6,h9,e1,q,O9,bF,k8,k9,lk,m,Jh];refine⟨?_,?_⟩
   ·simp only[Si,Sl,Sf,Sd];exact aA [false,false,false,false,false,false,true] [] (by simp[All2,ac,ap]) (by decide) (by simp)
   ·refine⟨hN.mem hC hb (by simp;omega) (λj hj=>by simp[RW,hj]) (by simp[RW]),⟨by simp;omega,λj hj hp=>by simp[RW,hp],λj hj=>?_⟩,λj hj=>by simp[hj]⟩;simp at hj;rcases hj with rfl|hj
    ·exact .inr (.inl rfl)
    ·exact .inl hj
  ·have hmu:Mb k r sz st.1=st.1:=Sa c;rw[hmu];rw[S6 c]at h84;simp only[_root_.Hx.sz,simprocAttr,h84];exact⟨h9,hN,Fx.refl _ _,by simp⟩
 clear h1 h6 h9;rintro t df g' ⟨rfl,h9,hN',F',hf⟩;have k9':g'.h.get S0=VG 1 [[.int .i64 r]]:=by rw[hf S0 hS0,k9]
 simp only[_root_.Hx.sz,simprocAttr,fL,h9,k9'];exact fin _ _ (by simp[sx]) hN' F' hf
end
end
end Hx
end
section
namespace Hx
open Go
noncomputable section
section
variable {d f:Nat}{n:Net}{l:List Sp}{cut ctx vr ab:List Nat}{sz:Int}{b lv:AV}{pq pv pm pc px b1 b2:Nat}
theorem gO(a s v:Nat):(S.an a s).testBit v=(a.testBit v&&!s.testBit v):=by rw[S.an,Nat.testBit_xor,Ua];cases a.testBit v<;>cases s.testBit v<;>rfl
theorem Hm{a s m:Nat}(h:a<2 ^ m):S.an a s<2 ^ m:=Cw λv hv=>by rw[gO,R7]at hv;exact Fg h hv.1
theorem fR{vr:List Nat}{m:Nat}(h:∀x∈vr,x<2 ^ m)(i:Nat):vr[i]?.getD 0<2 ^ m:=by
 cases hg:vr[i]? with
 |none=>simpa using Nat.two_pow_pos m
 |some x=>exact h x (R9 hg)
theorem Q9{q:Nat}(h1:q≠pv)(h2:q≠pq)(h3:q≠pm):¬As pq pv pm q:=by rintro (h|h|h)<;>contradiction
set_option maxHeartbeats 1000000 in
set_option maxRecDepth 20000 in
theorem Mn{i:Nat}(hC:Srs n l cut ctx b lv pq pv pm pc px)(hL:LOk n l vr)(hT:Sta l vr cut ctx ab)(hb:(b1≠pv/\b1≠pq/\b1≠pm)/\b2≠pv/\b2≠pq/\b2≠pm)(hi:i<l.length)(hx:(S.sp l i).1 = -1)
  (ih:∀j,j<i->IC d n l cut ctx vr ab sz b lv pq pv pm pc px b1 b2 f j):IC d n l cut ctx vr ab sz b lv pq pv pm pc px b1 b2 (f+1) i:=by
 intro w st g0 K D hN hW hO hM kk;have hr:=hC.nr;have hl8:=hr.l2;obtain⟨y1,y2,y3,y4⟩:=hL.j i hi hx;have t1:=hT.s1 i hi;have t2:=hT.s2 i hi hx;have t3:=hT.s3 i hi hx;have t4:=hT.s4 i hi hx;have hu:=hL.u i hi hx;obtain⟨⟨xa,xb,xc⟩,hsp⟩:∃x,S.sp l i=x:=⟨_,rfl⟩;rw[hsp]at y1 y2 y3 y4 t2 t3 t4 hu;dsimp only at y1 y2 y3 y4 t2 t3 t4 hu;obtain⟨le,rfl⟩:=R8 y1;obtain⟨ri,rfl⟩:=R8 y3;rw[Sx]at t2 t3 t4 hu;rw[Sx]at t2 hu;have hxa:xa = -1:=by rw[hsp]at hx;exact hx
 subst hxa;obtain⟨c,hc⟩:∃c,c=cut[i]?.getD 0:=⟨_,rfl⟩;rw[<-hc]at t2 t3 t4;obtain⟨k,hk⟩:∃k:Key,k=((i:Int),S.aS w (ctx[i]?.getD 0)):=⟨_,rfl⟩;have hk8:K8 k:=by rw[hk];exact LW _ _ _
 have hk2:((i:Int),S.aS w (vr[i]?.getD 0 &&& ab[i]?.getD 0))=k:=by rw[hk,t1]
 have hcl:c<2 ^ n.nodes.length:=by rw[hc];exact fR hC.cb i
 have hnum:S.ay n l vr sz (f+1) i w (ab[i]?.getD 0) st=if fT st.1 k then (mgt st.1 k,st) else
   ((S.bL (S.ay n l vr sz f) n w (S.af n c) le ri (ab[i]?.getD 0 ||| c) (st.1,w64 (st.2+1)) (S.aF n (S.af n c))).1,
     Mb k (S.bL (S.ay n l vr sz f) n w (S.af n c) le ri (ab[i]?.getD 0 ||| c) (st.1,w64 (st.2+1)) (S.aF n (S.af n c))).1 sz (S.bL (S.ay n l vr sz f) n w (S.af n c) le ri (ab[i]?.getD 0 ||| c) (st.1,w64 (st.2+1)) (S.aF n (S.af n c))).2.1,
     (S.bL (S.ay n l vr sz f) n w (S.af n c) le ri (ab[i]?.getD 0 ||| c) (st.1,w64 (st.2+1)) (S.aF n (S.af n c))).2.2):=by
  rw[S.ay,Sb hx,hk2];simp only[hsp,Sx];rw[<-t2]
  rfl
 obtain⟨n1,n2,n3,n4,n5⟩:=hN.s.nx;obtain⟨d1a,d1b,d1c,d1d⟩:=hC.d1;obtain⟨d2a,d2b,d2c⟩:=hC.d2;have hl12:=hN.l;rw[Hn];refine dc gY (by simp[bJ]) ?_;simp only[bJ];refine be (P:=λt' df g'=>df=[]/\g'=g0/\St t' [(0,.int .i64 (i:Int)),(1,.hptr b1 0 0 0),(2,.hptr b2 0 0 0)]) ?_ ?_
 ·simp only[_root_.Hx.sz,simprocAttr];simp[St,sx]
 rintro t df g0 ⟨rfl,rfl,ht⟩;refine OF hC hi hx hN ht λt g B6 hJ=>?_;rw[hsp,<-hk]at hJ;have hF1:=hJ.f;have hF1n:=hF1.nx;rw[eM];cases hh:fT st.1 k with
 | true =>
  rw[hh,Sb rfl]at hnum;rw[hnum]at kk;refine L8 hk8 hM hJ hh λt h4=>?_;simp only[_root_.Hx.sz,simprocAttr,h4];exact kk g hJ.nh (hF1.mono λ_ h=>h.elim)
 | false =>
  rw[hh,Sa (by simp)]at hnum;rw[hnum]at kk;obtain⟨B5,hB5⟩:∃B5,B5=g0.nx:=⟨_,rfl⟩;have hb5:=hJ.b5;have hb6:=hJ.b6;have hln:=hJ.ln;refine Om hk8 hM hJ hh λt ht=>?_;rw[Cu];refine Kx hC hb n1 hl12 hJ ht λt g3 n3' f3 l3 hN3 k9 ht=>?_;rw[<-hB5]at hb5 hln ht;clear hJ;obtain⟨h9,h0,h1,h2,h5,h6,-⟩:=ht;have F3:Fx (As pq pv pm) g0 g3:=⟨by omega,λj hj hA=>by rw[f3 j (by omega) (λe=>hA (.inr (.inl e))),hF1.fr j hj id],λj hj=>by
   rcases l3 j hj with h|h|h
   ·rcases hF1.lg j h with h|h|h
    ·exact .inl h
    ·exact h.elim
    ·exact .inr (.inr h)
   ·exact .inr (.inl (.inr (.inl h)))
   ·exact .inr (.inr (by omega))⟩
  have k5:g3.h.get B5=VG 3 [cs3 (-1,(le:Int),(ri:Int))]:=by rw[f3 _ (by omega) (by omega),hb5]
  have k6:g3.h.get B6=kO9 k.1 k.2:=by rw[f3 _ (by omega) (by omega),hb6]
  obtain⟨S0,hS0⟩:∃S0,S0=g.nx:=⟨_,rfl⟩;rw[<-hS0]at k9 h9;clear f3 l3 hb5 hb6;have e1:=hN3.e1;have q3:=hN3.s.q;obtain⟨x1,x2⟩:=lr (l:=cut) (i:=i) (by rw[hC.cl];exact hi);rw[<-hc]at x2;have rx:=cU (sz:=1) (m:=cut.length) hN3.s.c (by simp);have hB6n:B6<g3.nx:=by omega
  have hS0n:S0<g3.nx:=by omega
  have hB5n:B5<g3.nx:=by omega
  obtain⟨rr,hrr⟩:∃rr:Nat->Int×MSt,rr=S.bL (S.ay n l vr sz f) n w (S.af n c) le ri (ab[i]?.getD 0 ||| c) (st.1,w64 (st.2+1)):=⟨_,rfl⟩;rw[<-hrr]at kk;have rr0:rr 0=(0,(st.1,w64 (st.2+1))):=by rw[hrr];rfl
  refine bI (P:=λt df g'=>∃M,df=[.mark M]/\g3.nx<=M/\M<g'.nx/\g'.h.get M=.dfr true/\NH n cut ctx sz b lv pq pv pm pc px b1 b2 (rr (S.aF n (S.af n c))).2 w g'/\g'.h.get B6=kO9 k.1 k.2/\g'.h.get S0=VG 1 [[.int .i64 (rr (S.aF n (S.af n c))).1]]/\Fx (As pq pv pm) g0 g'/\St t [(1,.hptr b1 0 0 0),(6,.hptr B6 0 0 0),(9,.hptr S0 0 0 0)]) ?_ ?_
  rotate_left
  ·rintro t df g5 ⟨M,rfl,m1,m2,m3,hN5,k65,k95,F5,h1,h6,h9,-⟩;have hMk:Mok (rr (S.aF n (S.af n c))).2.1:=by rw[hrr];exact yC (rec:=S.ay n l vr sz f) (st:=(st.1,w64 (st.2+1))) (λi w ab st h=>yB f i w ab st h) hM _
   have n1m:pm<g3.nx:=by omega
   refine Rc hC hb hk8 hMk hN5 k65 k95 (by omega) h1 h6 h9 λt g6 h4 hN6 F6 f6=>?_;have F6n:=F6.nx;simp only[_root_.Hx.sz,simprocAttr];refine kG (by rw[f6 M (by omega),m3]) ?_;simp only[_root_.Hx.sz,simprocAttr,h4];refine kk _ (hN6.set (S0:=M) (by omega) (by simp) λj hj=>by rw[G.put_h,af _ _ _ hj]) ?_;exact ((F5.trans (F6.mono λi hi _=>(.inr (.inr hi):As pq pv pm i)))).put (.inr (by omega)) _
  refine bI (P:=λt df g'=>df=[]/\∃a1,g3.nx<=a1/\a1+1<g'.nx/\g'.h.get a1=VG 1 [[.hptr pq 0 0 0]]/\g'.h.get (a1+1)=VG 1 [[.int .u64 (c:Int)]]/\(∀j,j<g3.nx->g'.h.get j=g3.h.get j)/\(∀j∈g'.lg,j∈g3.lg\/g3.nx<=j)/\tat t 61=.clo N.ax [] [.hptr a1 0 0 0,.hptr (a1+1) 0 0 0]/\St t ((9,.hptr S0 0 0 0)::LJo i b1 b2 B5 B6)) ?_ ?_
  ·simp only[_root_.Hx.sz,simprocAttr,sf,h0,h1,e1,q3,QU,bF,rx,x1,x2,cu];refine A6 ?_;simp only[_root_.Hx.sz,simprocAttr,sf,lV];refine⟨?_,g3.nx+1+1+1+1+1+1+1+1,by omega,by omega,by simp,by simp,λj hj=>?_,λj hj=>?_,?_⟩
   ·simp only[Si,Sl,Sf,Sd];exact aA [false,false,false,false,false,false,false,false,true] [] (by simp[All2,ac,ap,da]) (by decide) (by simp)
   ·rw[Sa (by omega),Sa (by omega)]
   ·simp at hj;rcases hj with h|h|h
    ·exact .inr (by omega)
    ·exact .inr (by omega)
    ·exact .inl h
   ·simp[St,LJo,sx,h0,h1,h2,h5,h6,h9]
  clear h0 h1 h2 h5 h6 h9;rintro t df g4 ⟨rfl,a1,a2,a3,a4,a5,f4,l4,h61,h9,h0,h1,h2,h5,h6,-⟩;have hMr:∀j,Mok (rr j).2.1:=λj=>by rw[hrr];exact yC (rec:=S.ay n l vr sz f) (st:=(st.1,w64 (st.2+1))) (λi w ab st h=>yB f i w ab st h) hM _
  have rrs:∀j,rr (j+1)=(w64 ((rr j).1+w64 ((S.ay n l vr sz f le (S.ap n w (S.af n c) j) (ab[le]?.getD 0) (rr j).2).1*(S.ay n l vr sz f ri (S.ap n w (S.af n c) j) (ab[ri]?.getD 0) (S.ay n l vr sz f le (S.ap n w (S.af n c) j) (ab[le]?.getD 0) (rr j).2).2).1)),(S.ay n l vr sz f ri (S.ap n w (S.af n c) j) (ab[ri]?.getD 0) (S.ay n l vr sz f le (S.ap n w (S.af n c) j) (ab[le]?.getD 0) (rr j).2).2).2):=λj=>by rw[hrr,t3,t4];rfl
  have hN4:=hN3.fr (g':=g4) (by omega) f4;have F4:Fx (As pq pv pm) g0 g4:=⟨by omega,λj hj hA=>by rw[f4 j (by omega),F3.fr j hj hA],λj hj=>by
   rcases l4 j hj with h|h
   ·exact F3.lg j h
   ·exact .inr (.inr (by omega))⟩
  have hs0:b2≠S0/\B5≠S0/\pv≠S0/\pq≠S0/\pm≠S0/\pc≠S0/\px≠S0/\b1≠S0:=by omega
  have hb5n:(B5≠pv/\B5≠pq/\B5≠pm)/\S0≠pv/\S0≠pq/\S0≠pm:=by omega
  have hnA:∀q,q=a1\/q=a1+1\/q=B5\/q=B6\/q=b1\/q=b2->¬As pq pv pm q/\q≠S0/\q<g4.nx:=by rintro q (rfl|rfl|rfl|rfl|rfl|rfl)<;>exact⟨Q9 (by omega) (by omega) (by omega),by omega,by omega⟩
  have hWo:∀(x j:Nat),x=le\/x=ri->Wo vr ab (S.ap n w (S.af n c) j) x:=by
   intro x j hxx v hv1 hv2;have hab:ab[x]?.getD 0=ab[i]?.getD 0 ||| c:=by rcases hxx with rfl|rfl;exact t3;exact t4
   rw[hab,dQ,Ve]at hv2;have hvi:(vr[i]?.getD 0).testBit v=true:=by
    rw[hu,dQ,SY];rcases hxx with rfl|rfl
    ·exact .inl hv1
    ·exact .inr hv1
   rw[wo]
   ·exact hO v hvi hv2.1
   ·intro hm;have:=(lZ.1 hm).2;rw[this]at hv2;exact absurd hv2.2 (by simp)
  simp only[_root_.Hx.sz,simprocAttr,fK];refine Ib (b1:=a1) (b2:=a1+1) (pq:=pq) (pv:=pv) (pm:=pm) (s:=c) (size:=sz) (w:=w) (b:=b) (lv:=lv) (cv:=.hsl pc 0 0 cut.length none) (xv:=.hsl px 0 0 ctx.length none) hr hC.nb hcl h61 (by decide) ⟨by omega,by omega,by omega⟩ (λu hu2=>?_)
   (λj g'=>Srh n cut ctx sz b lv pq pv pm pc px (rr j).2 g'/\(∀q,q=a1\/q=a1+1\/q=B5\/q=B6\/q=b1\/q=b2->g'.h.get q=g4.h.get q)/\g'.h.get S0=VG 1 [[.int .i64 (rr j).1]]/\Fx (As pq pv pm) g0 g') ?_ ⟨by omega,by omega,To d1a,by omega⟩ ?_ ⟨by rw[rr0];exact hN4.s,λ_ _=>rfl,by rw[f4 _ (by omega),k9,rr0],F4⟩ hN4.v ?_ ?_
  ·have hub:=(lZ.1 hu2).2;rw[t2,gO,R7,SP,Ua,R7]at hub;exact hO u (by rw[hu,dQ,SY];exact .inl hub.1.1) hub.2
  ·rintro j g' ⟨q1,q2,q3,q4⟩;exact⟨by rw[q2 _ (.inl rfl),a4],by rw[q2 _ (.inr (.inl rfl)),a5],_,q1.q⟩
  ·rintro j ga gb hn hf hl ⟨q1,q2,q3,q4⟩;refine⟨q1.fr hn λi hi=>?_,λq hq=>by rw[hf q (by omega) (by omega),q2 q hq],by rw[hf _ (by omega) (by omega),q3],⟨by have:=q4.nx;omega,λi hi hp=>by rw[hf i (by omega) (λe=>hp (.inl e)),q4.fr i hi hp],λi hi=>?_⟩⟩
   ·rcases hi with rfl|rfl|rfl|rfl
    ·exact hf _ (by omega) (To d1a)
    ·exact hf _ (by omega) d2a
    ·exact hf _ (by omega) d2b
    ·exact hf _ (by omega) d2c
   ·rcases hl i hi with h|h|h
    ·exact q4.lg i h
    ·exact .inr (.inl (.inl h))
    ·exact .inr (.inr (by omega))
  ·rintro j ga hj ⟨q1,q2,q3,q4⟩ hVj hn;have hNj:NH n cut ctx sz b lv pq pv pm pc px b1 b2 (rr j).2 (S.ap n w (S.af n c) j) ga:=⟨q1,hVj,by rw[q2 _ (by omega),hN4.e1],by rw[q2 _ (by omega),hN4.e2],by have:=q4.nx;omega⟩;refine Rb (B5:=B5) (S0:=S0) (le:=le) (ri:=ri) (st:=(rr j).2) (s:=(rr j).1) hb5n hs0 hNj (MJ hr hW c j) (hMr j) (ih le (by omega)) (ih ri (by omega)) (hWo le j (.inl rfl)) (hWo ri j (.inr rfl)) (by rw[q2 _ (by omega),f4 _ hB5n,k5]) q3 ⟨by omega,by omega⟩ (by simp[sx,h2]) (by simp[sx,h5]) (by simp[sx,h9]) rfl rfl λt' gb hNb k9b Fb=>?_;have Fbn:=Fb.nx;have fb:∀q,q<ga.nx->¬As pq pv pm q->q≠S0->gb.h.get q=ga.h.get q:=λq h1 h2 h3=>Fb.fr q h1 λh=>h.elim h2 h3;have hAs:∀q,As pq pv pm q->q<g0.nx:=λq hq=>by rcases hq with rfl|rfl|rfl<;>assumption
   refine⟨rfl,rfl,Fbn,λq h1 h2=>fb q h2 (λh=>by have:=hAs q h;omega) (by omega),⟨by rw[rrs];exact hNb.s,λq hq=>?_,by rw[rrs];exact k9b,⟨by omega,λq hq hA=>by rw[fb q (by omega) hA (by omega),q4.fr q hq hA],λq hq=>?_⟩⟩,hNb.v⟩
   ·obtain⟨w1,w2,w3⟩:=hnA q hq;rw[fb q (by omega) w1 w2,q2 q hq]
   ·rcases Fb.lg q hq with h| (h|h)|h
    ·exact q4.lg q h
    ·exact .inr (.inl h)
    ·exact .inr (.inr (by omega))
    ·exact .inr (.inr (by omega))
  ·rintro g' ⟨q1,q2,q3,q4⟩ hV' hn hdf;simp only[_root_.Hx.sz,simprocAttr];have hN6:NH n cut ctx sz b lv pq pv pm pc px b1 b2 (rr (S.aF n (S.af n c))).2 w g':=⟨q1,hV',by rw[q2 _ (by omega),hN4.e1],by rw[q2 _ (by omega),hN4.e2],by have:=q4.nx;omega⟩;exact⟨_,rfl,by omega,by omega,hdf,hN6,by rw[q2 _ (by omega),f4 _ hB6n,k6],q3,q4,by simp[St,h1,h6,h9]⟩
theorem QD(hd:0<d)(hC:Srs n l cut ctx b lv pq pv pm pc px)(hL:LOk n l vr)(hT:Sta l vr cut ctx ab)(hb:(b1≠pv/\b1≠pq/\b1≠pm)/\b2≠pv/\b2≠pq/\b2≠pm):∀f i,i<f->i<l.length->IC d n l cut ctx vr ab sz b lv pq pv pm pc px b1 b2 f i:=by
 intro f
 induction f with
 |zero=>intro i h;omega
 | succ f ihf =>
  intro i h hi
  by_cases hx:(S.sp l i).1 = -1
  ·exact Mn hC hL hT hb hi hx λj hj=>ihf j (by omega) (by omega)
  ·exact Mo hd hC hL hb hi hx
set_option maxRecDepth 20000 in
theorem OT{w:List Int}{g:G}{K:AV->G->Prop}{D:ADf->Prop}(hd:0<d)(hC:Srs n l cut ctx b lv pq pv pm pc px)(hL:LOk n l vr)(hT:Sta l vr cut ctx ab)(hl:0<l.length)(hS:Srh n cut ctx sz b lv pq pv pm pc px ([],0) g)(hW:Wv n w)(hV:Vs n pv w g)(hO:Wo vr ab w (l.length - 1))
  (kk:∀g',Srh n cut ctx sz b lv pq pv pm pc px (S.ay n l vr sz l.length (l.length - 1) w 0 ([],0)).2 g'->Fx (As pq pv pm) g g'->K (.int .i64 (S.ay n l vr sz l.length (l.length - 1) w 0 ([],0)).1) g') :
  (am C0 d N.bf [.hptr pq 0 0 0] g).sat K g D:=by
 obtain⟨n1,n2,n3,n4,n5⟩:=hS.nx;have hll:=hC.ll;rw[nR];refine dc pO (by simp[eR]) ?_;have hbx:∀g:G,xW (.hptr pq 0 0 0) g=.upd (.hptr g.nx 0 0 0) (g.new (VG 1 [[.hptr pq 0 0 0]])):=λg=>rfl;have hcs:∀(g:G) (a b:Nat),cN (VG 1 [[.nilf]]) g b 0 0 1 0 (.clo N.bg [] [.hptr a 0 0 0,.hptr b 0 0 0])=.upd .undef (g.put b (VG 1 [[KD a b]])):=λg a b=>by
  rw[bL 1 _ 0 false g b 0 1 0 _ rfl rfl]
  rfl
 simp only[eR];refine be (P:=λt' df g'=>df=[]/\g'.nx=g.nx+1/\g'.h.get g.nx=VG 1 [[.hptr pq 0 0 0]]/\Fx (λ_=>False) g g'/\St t' [(1,.hptr g.nx 0 0 0)]) ?_ ?_
 ·simp only[_root_.Hx.sz,simprocAttr,hbx];exact⟨Fx.new _ _ _,by simp[St,sx]⟩
 rintro t df g1 ⟨rfl,k1,kB,F1,h1,-⟩;simp only[iA];refine be (P:=λt' df g'=>df=[]/\g'.nx=g.nx+2/\g'.h.get g.nx=VG 1 [[.hptr pq 0 0 0]]/\g'.h.get (g.nx+1)=VG 1 [[.nilf]]/\Fx (λ_=>False) g g'/\St t' [(1,.hptr g.nx 0 0 0),(3,.hptr (g.nx+1) 0 0 0)]) ?_ ?_
 ·simp only[_root_.Hx.sz,simprocAttr,k1];exact⟨by simp[kB],F1.trans (Fx.new _ _ _),by simp[St,sx,h1]⟩
 clear h1;rintro t df g2 ⟨rfl,k2,kB2,kB12,F2,h1,h3,-⟩;refine be (P:=λt' df g'=>df=[]/\g'.nx=g.nx+2/\g'.h.get g.nx=VG 1 [[.hptr pq 0 0 0]]/\g'.h.get (g.nx+1)=VG 1 [[KD g.nx (g.nx+1)]]/\Fx (λ_=>False) g g'/\St t' [(1,.hptr g.nx 0 0 0),(3,.hptr (g.nx+1) 0 0 0)]) ?_ ?_
 ·simp only[_root_.Hx.sz,simprocAttr,h1,h3,kB12,hcs];exact⟨k2,by simp[kB2],F2.put (.inr (by omega)) _,by simp[St,sx,h1,h3]⟩
 clear h1 h3;rintro t df g3 ⟨rfl,k3,kB3,kB13,F3,h1,h3,-⟩;have hS3:Srh n cut ctx sz b lv pq pv pm pc px ([],0) g3:=hS.fr F3.nx λi hi=>F3.fr i (by rcases hi with rfl|rfl|rfl|rfl<;>assumption) id;have hV3:Vs n pv w g3:=hV.fr (F3.fr pv n2 id);have q3:=hS3.q;have lvl:∀g:G,dO .slice lv g=.val (.int .i64 (l.length:Int)):=λg=>hC.sl.len g;have w1:IntKind.wrap .i64 ((l.length:Int) - 1)=((l.length - 1:Nat):Int):=by rw[ax (by omega) (by omega)];omega
 have hb:(g.nx≠pv/\g.nx≠pq/\g.nx≠pm)/\g.nx+1≠pv/\g.nx+1≠pq/\g.nx+1≠pm:=by omega
 simp only[_root_.Hx.sz,simprocAttr,sf,h1,h3,kB3,kB13,q3,QS,bF,lvl,w1];refine QD hd hC hL hT hb l.length (l.length - 1) (by omega) (by omega) w ([],0) _ _ _ (NH.fr ⟨hS3,hV3,kB3,kB13,by omega⟩ (by simp;omega) λj hj=>by simp) hW hO (λp hp=>by simp at hp) λg4 hN4 F4=>?_;have e0:ab[l.length - 1]?.getD 0=0:=hT.s0;rw[e0]at hN4 ⊢;simp only[_root_.Hx.sz,simprocAttr,sf];have F4n:g3.nx<=g4.nx:=by have:=F4.nx;simp at this;omega
 refine⟨?_,?_⟩
 ·simp only[Si,Sl,Sf,Sd];exact aA [false,false,false,false,false,false,false,true,false] [] (by simp[All2,ac,ap,KO]) (by decide) (by simp)
 ·refine kk _ (hN4.s.fr (by simp;omega) λi hi=>by simp) ⟨by simp;omega,λj hj hA=>?_,λj hj=>?_⟩
  ·have:=F4.fr j (by simp;omega) hA;simp at this;simp[this,F3.fr j hj id]
  ·simp at hj;rcases hj with h|h
   ·have:=F4.lg j h;simp at this;rcases this with h|h
    ·exact .inr (.inl h)
    ·exact .inr (.inr (by omega))
   ·exact (F3.lg j h).imp id λh=>h.elim False.elim .inr
end
end
end Hx
end
