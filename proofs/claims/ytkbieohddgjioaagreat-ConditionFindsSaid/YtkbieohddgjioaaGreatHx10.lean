/- A part of the proof: what the functions of the chapter compute. -/
import Derived.Test.YtkbieohddgjioaaGreatHx9
set_option linter.all false
set_option maxRecDepth 20000
set_option maxHeartbeats 8000000
namespace Hx
open Go
noncomputable section
variable {n:Net}{g gA:G}{d i k pr k2 ab s x9 j:Nat}{e vals:List Int}{l:List Sp}{v w lv wv b kv vv w0 cv:AV}{P P2:Nat->Prop}{size c gr:Int}{Q:QT}{t:T}{rows:List (List AV)}{vr:List Nat}{st:MSt}
theorem Km(n:Net)(p:Nat->Bool):∀k,S.Uj n p k=S.sm (λj=>if p j then S.UD n (S.TK (S.Tx n) (j:Int)) else 0) k
 |0=>rfl
 |k+1=>by rw[S.Uj,S.sm,Km n p k]
theorem mC(h:S.TY n e=true):e.length=n.nodes.length/\∀(i:Nat) (x:Int),e[i]?=some x->x = -1\/0<=x/\x<(S.Tx n)[i]?.getD 0:=by simp only[S.TY,Vx,VK,VQ,VM]at h;refine⟨h.1,λi x hx=>?_⟩;have:=h.2 i (Vv.1 hx).1;rw[hx,VB]at this;omega
theorem D9(h:S.TY n e=true):Wv n e:=by obtain⟨h1,h2⟩:=mC h;refine⟨h1,λv hv=>?_⟩;have:=h2 v e[v] (Vt (by omega));rw[Vt (by omega),VB];exact this
theorem Jm(h:S.TY n e=true):Ev n e 0 e:=⟨(mC h).1,λ_ _ _=>rfl,λv _ hv=>by simp[hv]⟩
theorem Li(hr:NR n)(h:S.TY n e=true):S.UJ n e=S.TH (S.Tx n) ((List.range n.nodes.length).filter λv=>decide (e[v]?.getD 0 = -1)) (S.UD n) e:=by
 obtain⟨h1,h2⟩:=mC h;have t1:=Hg (F:=S.UD n) (cs:=S.Tx n) (e:=e) (pc:=[]) (pv:=[]) (by rw[aH,h1]) rfl h2;simp only[VH,XG,aH]at t1;rw[List.range_eq_range',<-t1,S.UJ,Km];have k:=vP (cs:=S.Tx n) (pre:=[]) (pv:=[]) (λvs=>if S.T_ vs e then S.UD n vs else 0) (λc hc=>(hr.cs c (by simpa using hc)).1) trivial;simp only[VH,S.TC,Int.zero_mul,Int.zero_add]at k;rw[<-k]
 rfl
theorem Jr(F:Nat->Int):∀k,S.fo (·*·) 1 F k=S.Ty ((List.range k).map F)
 |0=>rfl
 |k+1=>by rw[S.fo,Jr F k,WC,WJ,Yh,iH]
theorem Nf(hl:LCk n l)(h0:0<l.length)(w:List Int):S.Uk n l (l.length - 1) w=S.UD n w:=by have h:S.Uk n l (l.length - 1) w=S.fo (·*·) 1 (S.gw n l w) l.length:=GW (λa=>Int.mul_one a) Xt Xi hl h0 _;have h2:S.fo (·*·) 1 (S.gw n l w) l.length=S.fo (·*·) 1 (S.TL n w) n.nodes.length:=Gf (λa=>Int.mul_one a) Xt Xi hl _;rw[h,h2,Jr];rfl
theorem Q8{F:Nat->Bool}{u:Nat}(hu:F u=true):∀{k:Nat},u<k->S.fo (· || ·) false F k=true
 |0,h=>by omega
 | k+1,h=>by
  rw[S.fo]
  by_cases e:u=k
  ·subst e;rw[hu,YH]
  ·rw[Q8 hu (by omega:u<k),Yl]
theorem Th(hl:LEl n l)(v:Nat):∀{i:Nat},i<l.length->((S.vr n e l)[i]?.getD 0).testBit v=S.ev (· || ·) (λj=>if (S.sp l j).1 = -1 then false else (S.TG n e (S.sp l j).1.toNat).testBit v) l i:=by
 intro i
 induction i using Nat.strongRecOn with
 | _ i ih =>
  intro hi
  by_cases hx:(S.sp l i).1 = -1
  ·obtain⟨h,k,a,b⟩:=hl.j i hi hx;rw[uo hl hi hx,dJ,D7 hl hi hx,VC hx,Bool.or_false,ih _ (by omega) (by omega),ih _ (by omega) (by omega)]
  ·rw[ut hi hx,D8 hx,Vz hx]
theorem QZ(hr:NR n)(hl:LCk n l)(h0:0<l.length){v:Nat}(hv:v<n.nodes.length):((S.vr n e l)[l.length - 1]?.getD 0).testBit v=decide (e[v]?.getD 0 = -1):=by
 cases hb:((S.vr n e l)[l.length - 1]?.getD 0).testBit v with
 | true =>
  have:=xy hr hl.el _ (by omega) v hb;rw[Wz this]
 | false =>
  rw[eq_comm,Ya];intro he;have h:S.ev (· || ·) (λj=>if (S.sp l j).1 = -1 then false else (S.TG n e (S.sp l j).1.toNat).testBit v) l (l.length - 1)=S.fo (· || ·) false (λj=>if (S.sp l j).1 = -1 then false else (S.TG n e (S.sp l j).1.toNat).testBit v) l.length:=GW Bool.or_false Bool.or_comm Bool.or_assoc hl h0 _;have h2:S.fo (· || ·) false (λj=>if (S.sp l j).1 = -1 then false else (S.TG n e (S.sp l j).1.toNat).testBit v) l.length=S.fo (· || ·) false (λu=>(S.TG n e u).testBit v) n.nodes.length:=Gf Bool.or_false Bool.or_comm Bool.or_assoc hl (λu=>(S.TG n e u).testBit v);have k:=h2.symm.trans (h.symm.trans ((Th hl.el v (by omega)).symm.trans hb));have h4:S.fo (· || ·) false (λu=>(S.TG n e u).testBit v) n.nodes.length=true:=Q8 (F:=λu=>(S.TG n e u).testBit v) (u:=v) ((jY hr hv e v).2 ⟨by simp[S.TV],he⟩) hv;exact Yu (k.symm.trans h4)
theorem OW(hr:NR n)(hl:LCk n l)(he:S.TY n e=true)(size:Int):(S.UX n e l size).1=S.UJ n e:=by
 have c:=hr.l1;have b:=hl.len;have h0:0<l.length:=by omega
 have a:=OX (e:=e) hl.el hl.uq h0;have k:=a.s0;have h:=(EC (size:=size) hr hl.el a l.length (l.length - 1) e ([],0) (by omega) (by omega) (D9 he) (by rw[k];exact Jm he) (RZ _ _ _ _)).1;rw[k]at h;rw[S.UX,h,S.nm];have e1:S.Tz n (S.TF ((S.vr n e l)[l.length - 1]?.getD 0) 0)=(List.range n.nodes.length).filter λv=>decide (e[v]?.getD 0 = -1):=by rw[S.Tz];refine YB λv hv=>?_;rw[ei,QZ hr hl h0 (VM.1 hv)];simp
 rw[e1,show S.Uk n l (l.length - 1)=S.UD n from funext λw=>Nf hl h0 w,<-Li hr he];have:=tM hr e;exact ap (by omega) (by omega)
theorem De(hr:NR n)(s:Nat):1<=S.TS n (S.Tz n s)/\S.TS n (S.Tz n s)<=65536:=by obtain⟨W1,W2,-⟩:=(Be hr s).nc;exact⟨W1,W2⟩
structure Cn (n:Net) (l:List Sp) (i:Nat) (st st':MSt) (u:Nat):Prop where
 lo:st.2<=st'.2
 hi:st'.2<=st.2+u
 kk:∀(e:Int) (k:List Int),cK st'.1 (e,k)=true->cK st.1 (e,k)=true\/∃e':Nat,e=(e':Int)/\0<S.U9 l e' i
 ab:(∀(e':Nat) (k:List Int),0<S.U9 l e' i->cK st.1 ((e':Int),k)=false)->st.2+S.Ve l i<=st'.2
def S.TZ(n:Net)(e:List Int)(l:List Sp)(size:Int):QI×Int×Int :=
 if S.Ue n e=0 then
  if S.Ub n l=0 then
   if 0<=size/\size<=1000 then (S.T9 (S.UJ n e).toNat (S.UR n).toNat,(S.UX n e l size).2.2,0) else ((0,0),0,2)
  else ((0,0),0,S.Ub n l)
 else ((0,0),0,S.Ue n e)
def PrV(n:Net)(e:List Int)(l:List Sp)(size:Int):VS:=SM (Agg (S.TZ n e l size).1) (One (S.TZ n e l size).2.1) (One (S.TZ n e l size).2.2)
theorem yI(hr:NR n):1<=S.UR n/\S.UR n<=167961600000000 :=
 ⟨uf λx hx=>by rw[List.eq_of_mem_replicate hx];exact hr.g1,(ED hr _ hr.l2).2⟩
theorem Lj(hr:NR n)(hl:LEl n l)(hi:i<l.length)(ab:List Nat):Wo (S.vr n e l) ab e i:=λv hv _=>by
 have:=xy hr hl i hi v hv;cases h:e[v]? with
 |none=>rw[h]at this;cases this
 |some x=>rw[h,VB]at this;rw[this]
theorem Mj(h:S.Ub n l=0):LCk n l:=by
 unfold S.Ub at h
 split at h
 ·split at h
  ·rename_i h2;exact Nz h2
  ·cases h
 ·cases h
theorem kN{E:Int}{h:H}(he:S.TZ n e l size=((0,0),0,E)):PrV n e l size P 0 h (.tup [.agg [ZJ 0,ZJ 0],ZJ 0,ZJ E]):=by unfold PrV;rw[he];exact⟨_,_,_,rfl,pz.2 rfl,aW.2 rfl,aW.2 rfl⟩
theorem Mu(hd:0<d)(hm:Agg n NoP 0 g.h v)(he:SlR P k g.h e w)(hl:SlR NoP 0 .nil l lv) :
  am C0 d 11 [v,w,lv,ZJ size] g=.val (.tup [.agg [ZJ (S.TZ n e l size).1.1,ZJ (S.TZ n e l size).1.2],ZJ (S.TZ n e l size).2.1,ZJ (S.TZ n e l size).2.2]):=by
 have key:∃r,am C0 d 11 [v,w,lv,ZJ size] g=.val r/\PrV n e l size NoP 0 .nil r:=by
  obtain⟨b,rows,rfl,e1,u,hN,V,W,X,Y⟩:=dZ d hm;obtain⟨w',e2,F⟩:=bm he d;have Q:=l9 (h:=g.h) d (hl.tree (h':=g.h) (Vu 0));have fw0:c8 [ZJ 0,ZJ 0] []=some [ZJ 0,ZJ 0]:=rfl;rw[uv];refine a_ wI (xs:=[.agg [ZJ n.grain,b],w',lv,ZJ size]) (by simp only[aG,e1,e2,Q,bS 0]) (by simp[jF]) (G_ (m:=2) (bW _) (aY _) (aY _) (by decide) (by decide) (by decide)) (by decide) hd ?_;simp only[sz,simprocAttr,jF,mD];have kc:=λg:G=>Mi (d:=d+1) (g:=g) (n:=n) (e:=e) (VI d) (u g.h) (F g.h);have kk:=λg:G=>KI (d:=d+1) (g:=g) (n:=n) (l:=l) (VI d) (u g.h) (hl.tree (h':=g.h) (Vu 0));simp only[kc]
  by_cases h0:S.Ue n e=0
  ·obtain⟨L,o⟩:=yV.1 h0;have hr:=jR.1 L;simp only[sz,simprocAttr,h0,kk]
   by_cases c0:S.Ub n l=0
   ·have j:=Mj c0;simp only[sz,simprocAttr,c0];have N:=j.len;have R:=hr.l1;have hl2:=hr.l2;have A:=λh=>(S.TZ.eq_1 n e l size).trans ((VC h0).trans ((VC c0).trans (Vz h)));refine aX (λhb=>?_) (λhb=>?_)
    ·have I:=YE hb;simp only[sz,simprocAttr,fw0,hb];exact⟨λ_=>True,kN (A (by omega))⟩
    have I:=Xr hb;simp only[sz,simprocAttr,hb];refine aX (λhb2=>?_) (λhb2=>?_)
    ·have t:=YE hb2;simp only[sz,simprocAttr,fw0,hb,hb2];exact⟨λ_=>True,kN (A (by omega))⟩
    have t:=Xr hb2;have C:S.TZ n e l size=(S.T9 (S.UJ n e).toNat (S.UR n).toNat,(S.UX n e l size).2.2,0):=(S.TZ.eq_1 n e l size).trans ((VC h0).trans ((VC c0).trans (VC (by omega))));have s:0<l.length:=by omega
    simp only[sz,simprocAttr,hb,hb2];refine Ez hr hN hl j.el (by omega) F (mC o).1 λg1 pq pv pm pc px hC hS hV hF hpq=>?_;simp only[sz,simprocAttr];refine QE (vr:=S.vr n e l) (VI d) hC (R4 hr j.el) (OX j.el j.uq s) s hS (D9 o) hV (Lj hr j.el (by omega) _) λg2 hS2 hF2=>?_;obtain⟨st,D⟩:∃st,st=S.UX n e l size:=⟨_,rfl⟩;have E:S.TD n l (S.vr n e l) size l.length (l.length - 1) e 0 ([],0)=st:=D.symm;rw[E]at hS2 ⊢;have f:=OW hr j o size;rw[<-D]at f C;have J:=tM hr e;have T:=yI hr;obtain⟨ms,z⟩:=Vy J.1;obtain⟨wh,H⟩:=Vy (show 0<=S.UR n by omega);have kw:=λg=>LO (d:=d+1) (g:=g) (gr:=n.grain) (m:=n.nodes.length) (by omega) ⟨by have:=hr.g1;omega,hr.g2⟩ hl2;rw[show S.Ty (List.replicate n.nodes.length n.grain)=(wh:Int) from H]at kw;have kr:=λg=>Oh (d:=d+1) (g:=g) (x:=ms) (y:=wh) (by omega) (by omega) (by omega) (by omega);have K:∀g:G,dH .slice b g=.val (ZJ (n.nodes.length:Int)):=λg=>hN.len g;have eq2:=hS2.q;have M:g1.h.get 1=Y6 2 [[ZJ 0,ZJ 0]]:=by rw[hF.fr 1 (by simp[show G.empty.nx=0 from rfl]) id];simp[TA,show G.empty.nx=0 from rfl]
    have n1:2<=g1.nx:=by have:=hF.nx;simp[show G.empty.nx=0 from rfl]at this;omega
    have U:2<=pq:=by simp[show G.empty.nx=0 from rfl]at hpq;omega
    have k2:g2.h.get 1=Y6 2 [[ZJ 0,ZJ 0]]:=by
     rw[hF2.fr 1 (by omega) ?_,M];rintro (h|h|h)
     ·obtain⟨-,lo,h2⟩:=hV;rw[<-h,M]at h2;injection h2 with i;cases i
     ·simp[show G.empty.nx=0 from rfl]at hpq;omega
     ·have h2:=hS.m;rw[<-h,M]at h2;cases h2
    have fw2:c8 [ZJ 0,ZJ 0] [((0,1),ZJ (S.T9 ms wh).1),((1,1),ZJ (S.T9 ms wh).2)]=some [ZJ (S.T9 ms wh).1,ZJ (S.T9 ms wh).2]:=rfl;simp only[sz,simprocAttr,sf,f,z,eq2,srO,aI,kw,kr,K,k2,yg,yf];refine⟨?_,⟨λ_=>True,?_⟩⟩
    ·simp only[VJ,VN,VH,VE];refine aA (Zn (Zl (Zl (true::(Zn []))))) [(14,18),(15,18),(16,18),(17,18)] (by simp[All2,ah,ay]) (by decide) ?_;rintro p B x y hx O;simp only[VP,VG,Xh]at B;rcases B with rfl|rfl|rfl|rfl<;>(simp at hx O;subst hx;subst O;refine bI rfl rfl rfl rfl ?_ ?_ ?_<;>simp[ah,ay,aw]<;>omega)
    ·rw[C,z,H];exact⟨_,_,_,rfl,pz.2 rfl,aW.2 rfl,aW.2 rfl⟩
   ·have hp:S.TZ n e l size=((0,0),0,S.Ub n l):=by rw[S.TZ,VC h0,Vz c0]
    simp only[sz,simprocAttr,c0,fw0];exact⟨λ_=>True,kN hp⟩
  ·have hp:S.TZ n e l size=((0,0),0,S.Ue n e):=by rw[S.TZ,Vz h0]
   simp only[sz,simprocAttr,h0,fw0];exact⟨λ_=>True,kN hp⟩
 obtain⟨r,hr,a,b,c,rfl,h1,h2,i⟩:=key;have h2:=aW.1 h2;injection h2 with h2;have i:=aW.1 i;injection i with i;rw[hr,pz.1 h1,h2,i]
def Fd(m:Nat):VS:=λP k h v=>∃l:List Sp,l.length<=m/\One l P k h v
theorem G9(m:Nat):Snb (Fd m) 0:=rH λl=>aY l
structure JdH (cu8:List AV) (u w:AV) (lo:List Sp) (op:List Int) (g:G):Prop where
 g0:g.h.get 0=Y6 8 [cu8]
 nx:1<=g.nx
 oU:Own g 1 u 3 (lo.map cs3)
 oW:Own g 1 w 1 (op.map ci)
 ds:∀i,vid u=some i->vid w≠some i
def S.cI(a j:Nat):Nat:=if a<j then 1 else 0
theorem I5(a:Nat):S.cI a (a+1)=S.cI a a+1:=by simp[S.cI]
theorem I4(a j:Nat):S.cI a j<=S.cI a (j+1):=by unfold S.cI;split<;>split<;>omega
theorem L_(a j:Nat):S.cI a j<=1:=by unfold S.cI;split<;>omega
theorem K6{a b:Nat}{cu8:List AV}{u n:AV}{lo:List Sp}{op:List Int}{iv:Int}{gC:G}(hop:op.length<=20)(hJ:JdH cu8 u w lo op gC)
  (ht:St t [(0,n),(3,ZK 0),(5,u),(6,w),(8,ZJ iv),(9,ZJ (a:Int)),(10,ZJ (b:Int)),(11,.nils),(12,ZJ 0)])
  (fin:∀t g v (L:List Int),St t [(0,n),(3,ZK 0),(5,u),(8,ZJ iv),(11,v)]->Own g gC.nx v 1 (L.map ci)->Fr gC g->op.length<=L.length+2->L.length<=op.length->Q (.exit 4) t [] g) :
  wpL (wp C0 d none ja) Q t [] gC:=by
 obtain⟨h0,l,h5,m,h8,h9,k,c,f,-⟩:=ht;have wl:=λg=>hJ.oW.sat_len g;rw[VF]at wl;simp only[ja,oa];refine aP op.length (by omega) (λj t df g=>df=[]/\St t [(0,n),(3,ZK 0),(5,u),(6,w),(8,ZJ iv),(9,ZJ (a:Int)),(10,ZJ (b:Int))]/\∃v L,tat t 11=v/\Own g gC.nx v 1 (L.map ci)/\Fr gC g/\j<=L.length+S.cI a j+S.cI b j/\L.length<=j)
  ⟨rfl,by simp[St,h0,l,h5,m,h8,h9,k],_,[],c,.inl ⟨rfl,rfl⟩,Fr.refl _,by omega,Vu _⟩ f (by decide) (by rintro j t df g v s (rfl|rfl|rfl)<;>simp[sx,St]) ?_ ?_ ?_
 ·clear h0 l h5 m h8 h9 k c f;rintro j t df g o ⟨rfl,⟨h0,l,h5,m,h8,h9,k,-⟩,v,L,c,r⟩ f;simp only[sz,simprocAttr,m,f,wl];exact⟨by simp[St,sx,h0,l,h5,m,h8,h9,k],v,L,by simp[sx,c],r⟩
 ·clear h0 l h5 m h8 h9 k c f;rintro j t df g o ⟨rfl,⟨h0,l,h5,m,h8,h9,k,-⟩,v,L,c,oV,hf,hc,p⟩ f;obtain⟨x,hx,-,-⟩:=ae o;have A:j<(op.map ci).length:=by simpa using o
  have B:(op.map ci)[j]?=some (ci x):=by rw[Vw,hx];rfl
  have oW:=(hJ.oW.step hf).rows;have q:=hf.1;have y:=I4 a j;have z:=I4 b j;have skip:(j=a\/j=b)->j+1<=L.length+S.cI a (j+1)+S.cI b (j+1):=λh=>by
   rcases h with h|h
   ·have:=I5 a;rw[<-h]at this;rw[<-h]at y hc ⊢;omega
   ·have:=I5 b;rw[<-h]at this;rw[<-h]at z hc ⊢;omega
  by_cases ca:j=a
  ·have e1:decide ((j:Int)=(a:Int))=true:=Wz (by omega);have:=skip (.inl ca);simp only[sz,simprocAttr,h9,k,f,e1];exact⟨by simp[St,sx,h0,l,h5,m,h8,h9,k],v,L,by simp[sx,c],oV,hf,this,by omega⟩
  have e1:decide ((j:Int)=(a:Int))=false:=We (by omega)
  by_cases cb:j=b
  ·have e2:decide ((j:Int)=(b:Int))=true:=Wz (by omega);have:=skip (.inr cb);simp only[sz,simprocAttr,h9,k,f,e1,e2];exact⟨by simp[St,sx,h0,l,h5,m,h8,h9,k],v,L,by simp[sx,c],oV,hf,this,by omega⟩
  have e2:decide ((j:Int)=(b:Int))=false:=We (by omega);simp only[sz,simprocAttr,m,h9,k,c,f,e1,e2,oW,A,B,ci];refine aM (new:=[ci x]) (oV.step (Fr.new _ _)) (by simp[sx,sy,ci]) (by simp;omega) (by simp[aT];omega) λv2 g2 hv2 n2 f2 _ _=>?_;simp only[sz,simprocAttr];have fg:Fr gC g2:=⟨by simp at n2;omega,λi hi=>by
   rw[f2 i (by simp;omega) (λe=>by have:=(oV.lt e).1;omega),(Fr.new g _).2 i (by omega),hf.2 i hi]⟩
  simp[St,sx,h0,l,h5,m,h8,h9,k,f];refine⟨L++[x],by simpa using hv2,fg,?_,by simp;omega⟩;rw[Wr,XC];omega
 ·rintro t df g ⟨rfl,⟨h0,l,h5,-,h8,-⟩,v,L,c,oV,hf,hc,p⟩;refine fin t g v L (by simp[St,h0,l,h5,h8,c]) oV hf ?_ p;have:=L_ a op.length;have:=L_ b op.length;omega
theorem K7{n:Nat}{vs:List UInt8}(hd:0<d)(hv:vs.length=8)(hn1:1<=n)(hn8:n<=8):∃r,am C0 d 7 [ZJ (n:Int),.agg (vs.map u8v)] g=.val r/\Fd 15 NoP 0 .nil r:=by
 rw[wD];refine a_ zp (xs:=[ZJ (n:Int),.agg (vs.map u8v)]) (by simp only[aG,bS 0,G8]) (by simp[mZ]) (G9 15) (by decide) hd ?_;obtain⟨cu8,D⟩:∃c,c=vs.map u8v:=⟨_,rfl⟩;have hcl:cu8.length=8:=by rw[D,VF,hv]
 have at8:∀i,i<8->∃y:Nat,y<256/\cu8[i]?=some (.int .u8 (y:Int)):=λi hi=>by obtain⟨y,F⟩:∃y,vs[i]?=some y:=⟨_,Vt (by omega)⟩;exact⟨y.toNat,y.toNat_lt,by rw[D,Vw,F];rfl⟩
 simp only[sz,simprocAttr,mZ,qi,n9,<-D];refine aP n (by omega) (λj t df g=>df=[]/\St t [(0,ZJ (n:Int)),(3,ZK 0)]/\∃u w lo op,tat t 5=u/\tat t 6=w/\List.length lo=j/\List.length op=j/\JdH cu8 u w lo op g)
  ⟨rfl,by simp[sx,St],_,_,[],[],rfl,rfl,rfl,rfl,by rw[hcl];simp[sx],by simp[sx],.inl ⟨by simp[sx],rfl⟩,.inl ⟨by simp[sx],rfl⟩,by simp[sx,vid]⟩ (by simp[sx]) (by decide) (by rintro j t df g v s (rfl|rfl|rfl)<;>simp[sx,St]) ?_ ?_ ?_
 ·rintro j t df g S ⟨rfl,⟨h0,f,-⟩,u,w,lo,op,h5,l,r⟩ h7;simp only[sz,simprocAttr,h0,h7];exact⟨by simp[St,sx,h0,f],u,w,lo,op,by simp[sx,h5],by simp[sx,l],r⟩
 ·rintro j t df g S ⟨rfl,⟨h0,f,-⟩,u,w,lo,op,h5,l,m,q,hg,T,oU,oW,ds⟩ h7;obtain⟨y,F,C⟩:=at8 7 (by omega);have w8:IntKind.wrap .i64 (y:Int)=(y:Int):=ap (by omega) (by omega);have w9:IntKind.wrap .i64 ((j:Int)+(y:Int))=(j:Int)+(y:Int):=ap (by omega) (by omega);have i7:No 8 1 (ZK 0) (ZJ 7)=.val (.hptr 0 0 0 7):=rfl;have r9:=cX .i64 (show (0:Int)<=(j:Int)+(y:Int) by omega) (show (0:Int)<(n:Int) by omega);simp only[sz,simprocAttr,h0,f,h5,h7,hg,i7,C,w8,w9,r9];refine aM (new:=[cs3 (((j:Int)+(y:Int)) % (n:Int),-1,-1)]) (oU.step (Fr.new _ _)) (by simp[sx,sy,cs3]) (by simp) (by simp[aT];omega) λo g2 hv2 n2 f2 c2 _=>?_;simp only[sz,simprocAttr,l,h7];have oW2:Own g2 1 w 1 (op.map ci):=oW.fr (by simp at n2;omega) λi hi=>by rw[f2 i (by have:=(oW.lt hi).2;simp;omega) (λe=>ds i e hi),(Fr.new g _).2 i (oW.lt hi).2]
  have E:vid u≠some 0:=λe=>by have:=(oU.lt e).1;omega
  have N:vid w≠some 0:=λe=>by have:=(oW.lt e).1;omega
  have R:g2.h.get 0=Y6 8 [cu8]:=by rw[f2 0 (by simp) E,(Fr.new g _).2 0 (by omega),hg]
  refine aM (new:=[ci (j:Int)]) (oW2.step (Fr.new _ _)) (by simp[sx,sy,ci]) (by first| (simp at n2 ⊢;done)| (simp at n2 ⊢;omega)) (by simp[aT];omega) λv3 g3 hv3 n3 f3 c3 _=>?_;simp only[sz,simprocAttr];have dv:∀i,vid o=some i->vid w≠some i:=λi hi e=>by
   rcases c2 with c|⟨k,c,c'⟩
   ·exact ds i (c ▸ hi) e
   ·rw[hi]at c;injection c with c;have:=(oW.lt e).2;simp at c';omega
  refine⟨⟨by simp[St,sx,h0,f],o,v3,lo++[(((j:Int)+(y:Int)) % (n:Int),-1,-1)],op++[(j:Int)],by simp[sx],by simp[sx],by simp[m],by simp[q],?_,by simp at n2 n3;omega,?_,by simpa using hv3,λi hi e=>?_⟩,by simp[sx,h7]⟩
  ·rw[f3 0 (by simp at n2 ⊢) N,(Fr.new g2 _).2 0 (by simp at n2;omega),R]
  ·have z:Own g2 1 o 3 ((lo++[(((j:Int)+(y:Int)) % (n:Int),-1,-1)]).map cs3):=by simpa using hv2
   refine z.fr (by simp at n3;omega) λi hi=>?_;rw[f3 i (by have:=(z.lt hi).2;simp;omega) (dv i hi),(Fr.new g2 _).2 i (z.lt hi).2]
  ·rcases c3 with c|⟨k,c,c'⟩
   ·exact dv i hi (c ▸ e)
   ·rw[e]at c;injection c with c;have:=(hv2.lt hi).2;simp at c';omega
 rintro t df g ⟨rfl,⟨h0,f,-⟩,u,w,lo,op,h5,l,m,q,B⟩;simp only[sz,simprocAttr,om,n_,oe];have h2:((n - 1:Nat):Int)=(n:Int) - 1:=by omega
 refine aP (n - 1) (by omega) (λj t df g=>df=[]/\St t [(0,ZJ (n:Int)),(3,ZK 0)]/\∃u w lo op,tat t 5=u/\tat t 6=w/\List.length lo=n+j/\n<=List.length op+j/\List.length op<=8+j/\JdH cu8 u w lo op g)
  ⟨rfl,by simp[sx,St,h0,f],u,w,lo,op,by simp[sx,h5],by simp[sx,l],m,by omega,by omega,B⟩ (by simp[sx]) (by decide) (by rintro j t df g v s (rfl|rfl|rfl)<;>simp[sx,St]) ?_ ?_ ?_
 ·clear h0 f h5 l m q B;rintro j t df g S ⟨rfl,⟨h0,f,-⟩,u,w,lo,op,h5,l,r⟩ h8;have w9:IntKind.wrap .i64 ((n:Int) - 1)=((n - 1:Nat):Int):=by rw[ap (by omega) (by omega)];omega
  simp only[sz,simprocAttr,h0,h8,w9];exact⟨by simp[St,sx,h0,f],u,w,lo,op,by simp[sx,h5],by simp[sx,l],r⟩
 ·clear h0 f h5 l m q B;rintro j t df g S ⟨rfl,⟨h0,f,-⟩,u,w,lo,op,h5,l,m,q,h4,B⟩ h8;obtain⟨y,F,C⟩:=at8 j (by omega);have hg:=B.g0;have wl:=λg=>B.oW.sat_len g;rw[VF]at wl;have w8:IntKind.wrap .i64 (y:Int)=(y:Int):=ap (by omega) (by omega);have W:IntKind.wrap .i64 ((y / 8:Nat):Int)=((y / 8:Nat):Int):=ap (by omega) (by omega);have q8:bQ .quo (.int .u8 (y:Int)) (.int .u8 8)=.val (.int .u8 ((y / 8:Nat):Int)):=by rw[DG .u8 (show (0:Int)<=(y:Int) by omega) (show (0:Int)<8 by omega),SG (by omega) (by omega)];congr 2
  have X:IntKind.wrap .i64 ((op.length:Int) - 1)=((op.length - 1:Nat):Int):=by rw[ap (by omega) (by omega)];omega
  have K:j<8:=by omega
  obtain⟨a,ha⟩:∃a,a=y % op.length:=⟨_,rfl⟩;have I:a<op.length:=by rw[ha];exact WP _ (by omega)
  have r1:bQ .rem (ZJ (y:Int)) (ZJ (op.length:Int))=.val (ZJ (a:Int)):=by rw[cX .i64 (show (0:Int)<=(y:Int) by omega) (show (0:Int)<(op.length:Int) by omega),ha];congr 2
  obtain⟨c,hc⟩:∃c,c=(y / 8) % (op.length - 1):=⟨_,rfl⟩;have hcl:c<op.length - 1:=by rw[hc];exact WP _ (by omega)
  have r2:bQ .rem (ZJ ((y / 8:Nat):Int)) (ZJ ((op.length - 1:Nat):Int))=.val (ZJ (c:Int)):=by rw[cX .i64 (show (0:Int)<=((y / 8:Nat):Int) by omega) (show (0:Int)<((op.length - 1:Nat):Int) by omega),hc];congr 2
  have Y:IntKind.wrap .i64 ((a:Int)+1)=((a+1:Nat):Int):=by rw[ap (by omega) (by omega)];omega
  have Z:IntKind.wrap .i64 (((a+1:Nat):Int)+(c:Int))=((a+1+c:Nat):Int):=by rw[ap (by omega) (by omega)];omega
  obtain⟨b,hb⟩:∃b,b=(a+1+c) % op.length:=⟨_,rfl⟩;have J:b<op.length:=by rw[hb];exact WP _ (by omega)
  have r3:bQ .rem (ZJ ((a+1+c:Nat):Int)) (ZJ (op.length:Int))=.val (ZJ (b:Int)):=by rw[cX .i64 (show (0:Int)<=((a+1+c:Nat):Int) by omega) (show (0:Int)<(op.length:Int) by omega),hb];congr 2
  refine bB (P:=λt' df g'=>df=[]/\g'=g/\St t' [(0,ZJ (n:Int)),(3,ZK 0),(5,u),(6,w),(8,ZJ (j:Int)),(9,ZJ (a:Int))]) ?_ ?_
  ·simp only[sz,simprocAttr,f,l,h8,hg,JB 8 1 _ _ _ _ _ K,Nat.mul_one,C,w8,wl,r1];simp[St,sx,h0,f,h5,l,h8]
  rintro t df g' ⟨rfl,rfl,h0,f,h5,l,h8,h9,-⟩;refine bB (P:=λt' df g''=>df=[]/\g''=g'/\St t' [(0,ZJ (n:Int)),(3,ZK 0),(5,u),(6,w),(8,ZJ (j:Int)),(9,ZJ (a:Int)),(10,ZJ (b:Int))]) ?_ ?_
  ·simp only[sz,simprocAttr,f,l,h8,h9,hg,JB 8 1 _ _ _ _ _ K,Nat.mul_one,C,q8,W,wl,X,r2,Y,Z,r3];simp[St,sx,h0,f,h5,l,h8,h9]
  rintro t df g'' ⟨rfl,rfl,h0,f,h5,l,h8,h9,A,-⟩;obtain⟨xa,U⟩:∃x,op[a]?=some x:=⟨_,Vt I⟩;obtain⟨xb,V⟩:∃x,op[b]?=some x:=⟨_,Vt J⟩;obtain⟨-,T,oU,oW,ds⟩:=B;have u1:a<(op.map ci).length:=by simpa using I
  have u2:(op.map ci)[a]?=some [ZJ xa]:=by rw[Vw,U];rfl
  have u3:b<(op.map ci).length:=by simpa using J
  have u4:(op.map ci)[b]?=some [ZJ xb]:=by rw[Vw,V];rfl
  have rW:=oW.rows;have E:vid u≠some 0:=λe=>by have:=(oU.lt e).1;omega
  have N:vid w≠some 0:=λe=>by have:=(oW.lt e).1;omega
  refine bB (P:=λt' df g1=>df=[]/\∃o,St t' [(0,ZJ (n:Int)),(3,ZK 0),(5,o),(6,w),(8,ZJ (j:Int)),(9,ZJ (a:Int)),(10,ZJ (b:Int))]/\JdH cu8 o w (lo++[(-1,xa,xb)]) op g1) ?_ ?_
  ·simp only[sz,simprocAttr,sf,h5,l,h9,A,rW,u1,u2,u3,u4];refine aM (new:=[cs3 (-1,xa,xb)]) (oU.fr (by first| (simp;done)| (simp;omega)) λi hi=>by have:=(oU.lt hi).2;simp[TA];intro e;omega) (by simp[sx,sy,cs3]) (by first| (simp;done)| (simp;omega)) (by simp[aT];omega) λo g2 hv2 n2 f2 c2 lg2=>?_;have ff:∀i,i<g''.nx->vid u≠some i->g2.h.get i=g''.h.get i:=λi hi hv=>by rw[f2 i (by first| (simp;done)| (simp;omega)) hv];simp[TA];intro e;omega
   simp at n2;simp only[sz,simprocAttr,sf];refine⟨?_,o,by simp[St,sx,h0,f,l,h8,h9,A],?_,by first| (simp;done)| (simp;omega),?_,?_,λi hi e=>?_⟩
   ·simp only[VJ,VN,VH,VE,G.new_lg,G.put_lg,setLog_lg];refine aA (Zn (Zl (true::(true::(false::[]))))) [(0,10)] (by simp[All2,ah,ay]) (by decide) ?_;rintro p hp x y hx F;simp only[VP,VG,Xh]at hp;rcases hp with rfl;simp at hx F;subst hx;subst F;refine bI rfl rfl rfl rfl ?_ ?_ ?_<;>simp[ah,ay,aw]
   ·have:=ff 0 (by omega) E;simp[this,hg]
   ·have:Own g2 1 o 3 ((lo++[(-1,xa,xb)]).map cs3):=by simpa using hv2
    exact this.fr (by first| (simp;done)| (simp;omega)) λi hi=>by simp
   ·refine oW.fr (by simp;omega) λi hi=>?_;have:=ff i (oW.lt hi).2 λe=>ds i e hi;simp[this]
   ·rcases c2 with c|⟨k,c,c'⟩
    ·exact ds i (c ▸ hi) e
    ·rw[hi]at c;injection c with c;have:=(oW.lt e).2;simp at c';omega
  rintro t df g1 ⟨rfl,o,⟨h0,f,h5,l,h8,h9,A,-⟩,H⟩;simp only[sz,simprocAttr];refine K6 (a:=a) (b:=b) (u:=o) (w:=w) (n:=ZJ (n:Int)) (lo:=lo++[(-1,xa,xb)]) (op:=op) (iv:=(j:Int)) (by omega) H (by simp[St,sx,h0,f,h5,l,h8,h9,A]) λt g2 v L ht oV hf l1 l2=>?_;obtain⟨h0,f,h5,h8,O,-⟩:=ht;obtain⟨Q,M,oU1,oW1,ds1⟩:=H;have he:=hf.1;have ul:=λg=>oU1.sat_len g;have h1:IntKind.wrap .i64 ((((lo++[((-1:Int),xa,xb)]).map cs3).length:Int) - 1)=(lo.length:Int):=by rw[VF,Wr,XC,ap (by omega) (by omega)];omega
  simp only[sz,simprocAttr,od,h5,O,ul,h1];refine aM (new:=[ci (lo.length:Int)]) (oV.step (Fr.new _ _)) (by simp[sx,sy,ci]) (by simp;omega) (by simp[aT];omega) λv3 g3 hv3 n3 f3 c3 _=>?_;simp only[sz,simprocAttr];have fr3:∀i,i<g1.nx->g3.h.get i=g1.h.get i:=λi hi=>by rw[f3 i (by simp;omega) (λe=>by have:=(oV.lt e).1;omega),(Fr.new g2 _).2 i (by omega),hf.2 i hi]
  have hh:g2.nx+1<=g3.nx:=by simpa using n3
  refine⟨⟨by simp[St,sx,h0,f],o,v3,lo++[(-1,xa,xb)],L++[(lo.length:Int)],by simp[sx,h5],by simp[sx],by simp;omega,by simp;omega,?_,?_⟩,by simp[sx,h8]⟩
  ·simp;omega
  ·refine⟨by rw[fr3 0 (by omega),Q],by omega,oU1.fr (by omega) λi hi=>fr3 i (oU1.lt hi).2,?_,λi hi e=>?_⟩
   ·have:Own g3 g1.nx v3 1 ((L++[(lo.length:Int)]).map ci):=by simpa using hv3
    exact this.low M
   ·have:=(hv3.lt e).1;have:=(oU1.lt hi).2;omega
 ·rintro t df g ⟨rfl,-,u,w,lo,op,h5,l,m,-,-,B⟩;simp only[sz,simprocAttr,oh,h5];exact⟨λ_=>True,lo,by omega,B.oU.sps (by omega)⟩
def S.Vo(n:Nat):List Sp:=(List.range n).map λv:Nat=>((v:Int),-1,-1)
def S.UB(w:List Int)(s:Nat):List Int:=(List.range w.length).map λv=>if s.testBit v then w[v]?.getD 0 else -1
theorem EE(w:List Int)(s:Nat):(S.UB w s).length=w.length:=by simp[S.UB]
theorem Gy(w:List Int)(s j:Nat)(hj:j<=w.length):(S.UB w s).take j=(List.range j).map λv=>if s.testBit v then w[v]?.getD 0 else -1:=by rw[S.UB,<-Yy,List.take_range,WX hj]
theorem Qn{w:List Int}(hd:0<d)(hv:SlR P k g.h w v)(hl:w.length<=8)(hs:s<18446744073709551616) :
  ∃r,am C0 d 63 [v,ZL (s:Int)] g=.val r/\IT 0 (S.UB w s) r:=by
 obtain⟨v',e1,b⟩:=bm hv d;have n1:=λg=>(b .nil).len g;have ra:=λh=>(b h).ints;rw[zf];refine a_ Cc (xs:=[v',ZL (s:Int)]) (by simp only[aG,e1];rfl) (by simp[qZ]) (aY _) (by decide) hd ?_;simp only[sz,simprocAttr,qZ];refine aP w.length (by omega) (λj t df g=>df=[]/\St t [(0,v'),(1,ZL (s:Int))]/\∃u,tat t 5=u/\Own g 0 u 1 (((S.UB w s).take j).map ci))
  ⟨rfl,by simp[sx,St],.nils,by simp[sx],.inl ⟨rfl,by simp⟩⟩ (by simp[sx]) (by decide) (by rintro j t df g v s (rfl|rfl|rfl)<;>simp[sx,St]) ?_ ?_ ?_
 ·rintro j t df g c ⟨rfl,⟨h0,h1,-⟩,u,h5,hu⟩ a;simp only[sz,simprocAttr,h0,a,n1];exact⟨by simp[St,sx,h0,h1],u,by simp[sx,h5],hu⟩
 ·rintro j t df g c ⟨rfl,⟨h0,h1,-⟩,u,h5,hu⟩ a;have e2:(S.UB w s).take (j+1)=(S.UB w s).take j++[if s.testBit j then w[j]?.getD 0 else -1]:=by rw[Gy _ _ _ (by omega),Gy _ _ _ (by omega),WC,WJ,Yh]
  have hlt:((S.UB w s).take j).length=j:=by rw[Wf,EE];omega
  obtain⟨L,f⟩:∃L,L=(S.UB w s).take j:=⟨_,rfl⟩;rw[<-f]at hu e2 hlt;rw[e2];have ki:∀g,am C0 (d+1) 90 [ZL (s:Int),ZJ (j:Int)] g=.val (.bool (s.testBit j)):=λg=>by rw[Jx (VI d) hs (by omega),rg]
  obtain⟨x,hx,-,-⟩:=ae c;have i:j<(w.map ci).length:=by simpa using c
  have q2:(w.map ci)[j]?=some (ci x):=by rw[Vw,hx];rfl
  have key:∀(t:T) (X:Int),St t [(0,v'),(1,ZL (s:Int)),(5,u),(6,ZJ (j:Int)),(7,ZJ X)] ->
    wp C0 (d+1) none lC (λe t df g=>e=.norm/\(df=[]/\St t [(0,v'),(1,ZL (s:Int))]/\∃u,tat t 5=u/\Own g 0 u 1 ((L++[X]).map ci))/\tat t 6=ZJ (j:Int)) t [] g:=by
   rintro t X ⟨h0,h1,h5,a,h7,-⟩;simp only[sz,simprocAttr,lC,h5,h7];refine aM (new:=[ci X]) (hu.step (Fr.new _ _)) (by simp[sx,sy,ci]) (by simp) (by simp[aT];omega) λv2 g2 hv2 n2 f2 _ l2=>?_;simp only[sz,simprocAttr];exact⟨⟨by simp[St,sx,h0,h1],v2,by simp[sx],by simpa using hv2⟩,by simp[sx,a]⟩
  cases hb:s.testBit j with
  | true =>
   rw[hb]at ki;simp only[sz,simprocAttr,h0,h1,a,ki,hb,ra,i,q2,ci,if_true];refine bX _ (key _ x (by simp[St,sx,h0,h1,h5,a])) ?_;rintro e t df g ⟨rfl,h⟩;rw[hx];exact h
  | false =>
   rw[hb]at ki;simp only[sz,simprocAttr,h0,h1,a,ki,hb,WV,if_false];refine bX _ (key _ (-1) (by simp[St,sx,h0,h1,h5,a])) ?_;rintro e t df g ⟨rfl,h⟩;exact h
 ·rintro t df g ⟨rfl,⟨h0,h1,-⟩,u,h5,hu⟩;rw[VX (by rw[EE];omega)]at hu;simp only[sz,simprocAttr,sw,h5];exact⟨_,hu.ints (by rw[EE];omega)⟩
theorem Q0{v:Nat}{x:Int}{w:List Int}(hd:0<d)(hw:SlR P k g.h w wv)(hl:w.length<=8)(hv:v<w.length) :
  ∃r,am C0 d 91 [wv,ZJ (v:Int),ZJ x] g=.val r/\IT 0 (w.set v x) r:=by
 obtain⟨v',e1,c⟩:=bm hw d;have ra:=λh=>(c h).ints;rw[zd];refine a_ Ca (xs:=[v',ZJ (v:Int),ZJ x]) (by simp only[aG,e1,bS 0]) (by simp[qX]) (aY _) (by decide) hd ?_;simp only[sz,simprocAttr,qX];refine aM (b:=0) (v:=.nils) (rows:=[]) (new:=w.map ci) (.inl ⟨rfl,rfl⟩) (by simp[sx,ra]) (by simp) (by simp[aT];omega) λu g2 hu n2 f2 _ l2=>?_;have hu:Own g2 0 u 1 (w.map ci):=by simpa using hu
 have hr:=hu.rows;obtain⟨y,e⟩:∃y,w[v]?=some y:=⟨_,Vt hv⟩;have f:v<(w.map ci).length:=by simpa using hv
 have q2:(w.map ci)[v]?=some (ci y):=by rw[Vw,e];rfl
 simp only[sz,simprocAttr,hr,f];refine bK hu q2 rfl rfl rfl λg3 hu3 n3 f3=>?_;simp only[sz,simprocAttr];have a:Own g3 0 u 1 ((w.set v x).map ci):=by rw[Xa];exact hu3
 exact⟨_,a.ints (by rw[XH];omega)⟩
def S.TX(n:Net)(w:List Int)(s:Nat):Nat->List (List Int)
 |0=>[w]
 |v+1=>if s.testBit v then (S.TX n w s v).flatMap λw'=>(List.range ((S.Tx n)[v]?.getD 0).toNat).map λx:Nat=>w'.set v (x:Int) else S.TX n w s v
theorem Mf{n:Net}{w:List Int}{s:Nat}:∀(v:Nat),∀w'∈S.TX n w s v,w'.length=w.length
 |0,w',h=>by rw[S.TX,VY]at h;rw[h]
 | v+1,w',h=>by
  rw[S.TX]at h
  split at h
  ·obtain⟨a,ha,hb⟩:=Xu.1 h;obtain⟨x,-,rfl⟩:=Wk.1 hb;rw[XH];exact Mf v a ha
  ·exact Mf v w' h
theorem AP{α β:Type}{f:α->List β}{k:Nat}:∀{l:List α},(∀a∈l,(f a).length<=k)->(l.flatMap f).length<=l.length*k
 |[],_=>by simp
 | a::l,h=>by have h1:=AP (l:=l) λb hb=>h b (by simp[hb]);have h2:=h a (by simp);rw[Ww,Wr,Wd,Wc];omega
theorem I7{n:Net}(hr:NR n){w:List Int}{s:Nat}:∀(v:Nat),v<=n.nodes.length->(S.TX n w s v).length<=4 ^ v
 |0,_=>by simp[S.TX]
 | v+1,hv=>by
  have ih:=I7 hr (w:=w) (s:=s) v (by omega);have hc:((S.Tx n)[v]?.getD 0).toNat<=4:=by rw[Vt (by rw[aH];omega),VB];have:=hr.cs _ (Wy (show v<(S.Tx n).length by rw[aH];omega));omega
  rw[S.TX]
  split
  ·have h1:=AP (k:=4) (l:=S.TX n w s v) (f:=λw':List Int=>(List.range ((S.Tx n)[v]?.getD 0).toNat).map λx:Nat=>w'.set v (x:Int)) λa _=>by rw[VF,YC];exact hc
   rw[Xz];exact VR h1 (V9 4 ih)
  ·rw[Xz];omega
def LLo(g:G)(b:Nat)(u:AV)(ws:List (List Int)):Prop:=∃xs:List AV,Own g b u 1 (xs.map λx=>[x])/\All2 (λw x=>SlR NoP 0 .nil w x) ws xs
def rnO(gr size c:Int)(b lv kv vv wv:AV):AObj:=Y6 8 [[ZJ gr,b,lv,kv,vv,wv,ZJ size,ZJ c]]
theorem Mg{v b0:Nat}{u0 u9 xv:AV}{w':List Int}{acc:List (List Int)}{out:List AV}{s1:Nat}{w1:AV}(hd:0<d)(hr:NR n)(hN:SlR NoP 0 .nil n.nodes b)(hv:v<n.nodes.length)(hw:w'.length=n.nodes.length)(hx:SlR NoP 0 .nil w' xv)
  (hq:gA.h.get pr=rnO gr size c b lv kv vv wv) (hpr:pr<gA.nx) (ho:Own gA b0 u0 1 (out.map λx=>[x])) (hi:out[i]?=some xv) (hacc:acc.length<=262144)
  (hF:Fr gA g) (h9:LLo g gA.nx u9 acc) (ht:St t [(0,ZK pr),(1,w1),(2,ZL (s1:Int)),(7,u0),(8,ZJ (v:Int)),(9,u9),(10,ZJ (i:Int)),(11,ZJ 0)])
  (fin:∀t g u9,Fr gA g->LLo g gA.nx u9 (acc++(List.range ((S.Tx n)[v]?.getD 0).toNat).map λx:Nat=>w'.set v (x:Int))->St t [(0,ZK pr),(1,w1),(2,ZL (s1:Int)),(7,u0),(8,ZJ (v:Int)),(9,u9),(10,ZJ (i:Int))]->Q (.exit 4) t [] g) :
  wpL (wp C0 d none fK) Q t [] g:=by
 obtain⟨h0,h1,h2,h7,h8,o,a,f,-⟩:=ht;have K:=hr.l2;obtain⟨rows,F,R,M,N⟩:=hN.all;have F:∀h',ak h' 3 b=some rows:=F;obtain⟨y,q,-,E⟩:=ae (l:=n.nodes) (j:=v) hv;obtain⟨row,O,P⟩:=M v y q;obtain⟨pa,ra,rfl,-,-⟩:=bM.1 P;have hlt:v<rows.length:=by omega
 have C:=N (by omega);have z:(S.Tx n)[v]?.getD 0=y.card:=by simp[S.Tx,q]
 have H:=hr.card y E;obtain⟨cd,m⟩:=Vy (show 0<=y.card by omega);rw[z,m]at fin;rw[VU]at fin;simp only[fK];refine aP cd (by omega) (λj t df g=>df=[]/\St t [(0,ZK pr),(1,w1),(2,ZL (s1:Int)),(7,u0),(8,ZJ (v:Int)),(10,ZJ (i:Int))]/\Fr gA g/\∃u,tat t 9=u/\LLo g gA.nx u (acc++(List.range j).map λx:Nat=>w'.set v (x:Int)))
  ⟨rfl,by simp[St,h0,h1,h2,h7,h8,a],hF,u9,o,by simpa using h9⟩ f (by decide) (by rintro j t df g v s (rfl|rfl|rfl)<;>simp[sx,St]) ?_ ?_ ?_
 ·clear h0 h1 h2 h7 h8 o a f;rintro j t df g J ⟨rfl,⟨h0,h1,h2,h7,h8,a,-⟩,hF,u,h9,hu⟩ f;have B:g.h.get pr=rnO gr size c b lv kv vv wv:=by rw[hF.2 pr hpr,hq]
  simp only[sz,simprocAttr,h0,h8,f,B,rnO,aI,F,hlt,O,C,m];exact⟨by simp[St,sx,h0,h1,h2,h7,h8,a],hF,u,by simp[sx,h9],hu⟩
 ·clear h0 h1 h2 h7 h8 o a f;rintro j t df g J ⟨rfl,⟨h0,h1,h2,h7,h8,a,-⟩,hF,u,h9,⟨xs,hu,w⟩⟩ f;have A:=(ho.step hF).rows;have L:i<(out.map λx=>[x]).length:=by rw[VF];exact (Vv.1 hi).1
  have q2:(out.map λx=>[x])[i]?=some [xv]:=by rw[Vw,hi];rfl
  have D:=w.len;rw[Wr,VF,YC]at D;simp only[sz,simprocAttr,h7,h8,h9,a,f,A,L,q2];refine bi (Q0 (d:=d) (v:=v) (x:=(j:Int)) hd (hx.tree (h':=g.h) (Vu 0)) (by omega) (by omega)) λr hr1=>?_;have p:SlR NoP 0 .nil (w'.set v (j:Int)) r:=by obtain⟨_,e,I⟩:=hr1;injection e with e;subst e;exact I
  obtain⟨rc,rt⟩:=p.cell;simp only[sz,simprocAttr,h9,rc,rt];refine aM (new:=[[r]]) (hu.step (Fr.new _ _)) (by simp[sx,sy]) (by have:=hF.1;simp;omega) (by simp[aT];omega) λv2 g2 hv2 n2 f2 _ l2=>?_;simp only[sz,simprocAttr];refine⟨⟨by simp[St,sx,h0,h1,h2,h7,h8,a],?_,v2,by simp[sx],xs++[r],by simpa using hv2,?_⟩,by simp[sx,f]⟩
  ·refine⟨by simp at n2;have:=hF.1;omega,λk hk=>?_⟩;have:=hF.1;rw[f2 k (by simp;omega) (λe=>by have:=(hu.lt e).1;omega),G.new_h,af _ _ _ (by omega),hF.2 k hk]
  ·rw[WC,WJ,<-W5];exact w.append ⟨p,trivial⟩
 ·rintro t df g ⟨rfl,⟨h0,h1,h2,h7,h8,a,-⟩,hF,u,h9,hu⟩;exact fin t g u hF hu (by simp[St,h0,h1,h2,h7,h8,h9,a])
theorem Mh{v b0:Nat}{u0 w1:AV}{ws:List (List Int)}{s1:Nat}(hd:0<d)(hr:NR n)(hN:SlR NoP 0 .nil n.nodes b)(hv:v<n.nodes.length)(hw:∀w'∈ws,w'.length=n.nodes.length)(hws:ws.length<=65536)
  (hq:gA.h.get pr=rnO gr size c b lv kv vv wv) (hpr:pr<gA.nx) (ho:LLo gA b0 u0 ws)
  (ht:St t [(0,ZK pr),(1,w1),(2,ZL (s1:Int)),(7,u0),(8,ZJ (v:Int)),(9,.nils),(10,ZJ 0)])
  (fin:∀t g u9,Fr gA g->LLo g gA.nx u9 (ws.flatMap λw'=>(List.range ((S.Tx n)[v]?.getD 0).toNat).map λx:Nat=>w'.set v (x:Int))->St t [(0,ZK pr),(1,w1),(2,ZL (s1:Int)),(8,ZJ (v:Int)),(9,u9)]->Q (.exit 2) t [] g) :
  wpL (wp C0 d none fL) Q t [] gA:=by
 obtain⟨h0,h1,h2,h7,h8,h9,k,-⟩:=ht;obtain⟨xs,o,p⟩:=ho;have z:=p.len;have m:=λg=>o.sat_len g;have q:((S.Tx n)[v]?.getD 0).toNat<=4:=by rw[Vt (by rw[aH];omega),VB];have:=hr.cs _ (Wy (show v<(S.Tx n).length by rw[aH];omega));omega
 obtain⟨f,hf⟩:∃f,f=λw':List Int=>(List.range ((S.Tx n)[v]?.getD 0).toNat).map λx:Nat=>w'.set v (x:Int):=⟨_,rfl⟩;have r:∀l:List (List Int),(l.flatMap f).length<=l.length*4:=λl=>AP λa _=>by rw[hf,VF,YC];exact q
 simp only[fL,kC];refine aP xs.length (by omega) (λj t df g=>df=[]/\St t [(0,ZK pr),(1,w1),(2,ZL (s1:Int)),(7,u0),(8,ZJ (v:Int))]/\Fr gA g/\∃u,tat t 9=u/\LLo g gA.nx u ((ws.take j).flatMap f))
  ⟨rfl,by simp[St,h0,h1,h2,h7,h8],Fr.refl _,.nils,h9,[],.inl ⟨rfl,rfl⟩,by simp[All2]⟩ k (by decide) (by rintro j t df g v s (rfl|rfl|rfl)<;>simp[sx,St]) ?_ ?_ ?_
 ·clear h0 h1 h2 h7 h8 h9 k;rintro j t df g C ⟨rfl,⟨h0,h1,h2,h7,h8,-⟩,e,u,h9,hu⟩ k;rw[VF]at m;simp only[sz,simprocAttr,h7,k,m];exact⟨by simp[St,sx,h0,h1,h2,h7,h8],e,u,by simp[sx,h9],hu⟩
 ·clear h0 h1 h2 h7 h8 h9 k;rintro j t df g C ⟨rfl,⟨h0,h1,h2,h7,h8,-⟩,e,u,h9,hu⟩ k;obtain⟨w',y,w,hm⟩:=ae (l:=ws) (j:=j) (by omega);obtain⟨xv,B,A⟩:=p.get y;have i:=r (ws.take j);rw[Wf]at i;simp only[sz,simprocAttr];refine Mg (n:=n) (w1:=w1) (s1:=s1) (w':=w') (acc:=(ws.take j).flatMap f) (out:=xs) hd hr hN hv (hw w' hm) A hq hpr o B (by omega) e hu (by simp[St,sx,h0,h1,h2,h7,h8,h9,k]) λt g u9 hF' hu' ht'=>?_;obtain⟨h0,h1,h2,h7,h8,h9,k,-⟩:=ht';simp only[sz,simprocAttr];refine⟨⟨by simp[St,sx,h0,h1,h2,h7,h8],hF',u9,by simp[sx,h9],?_⟩,by simp[sx,k]⟩;rw[w,Ys,Ww,WQ,VV,hf];rw[hf]at hu';exact hu'
 ·rintro t df g ⟨rfl,⟨h0,h1,h2,h7,h8,-⟩,e,u,h9,hu⟩;rw[<-z,VX (Vu _),hf]at hu;exact fin t g u e hu (by simp[St,h0,h1,h2,h8,h9])
theorem Fq{xv:AV}{w:List Int}{K:AV->G->Prop}{D:ADf->Prop}(hd:0<d)(hr:NR n)(hN:SlR NoP 0 .nil n.nodes b)(hw:w.length=n.nodes.length)(hx:SlR NoP 0 .nil w xv)(hs:s<18446744073709551616)
  (hq:g.h.get pr=rnO gr size c b lv kv vv wv) (hpr:pr<g.nx)
  (kk:∀u g',Fr g g'->LLo g' g.nx u (S.TX n w s n.nodes.length)->K u g'):(am C0 d 65 [ZK pr,xv,ZL (s:Int)] g).sat K g D:=by
 have m:=hr.l2;have xl:=λg=>hx.len g;obtain⟨xc,xt⟩:=hx.cell;rw[sT];refine fX vo (by simp[jc]) ?_;simp only[jc];refine aL (P:=λt' df g'=>df=[]/\g'=g/\St t' [(0,ZK pr),(1,xv),(2,ZL (s:Int))]) ?_ ?_
 ·simp only[sz,simprocAttr];simp[St,sx]
 rintro t df g1 ⟨rfl,rfl,h0,h1,h2,-⟩;have f:c8 [.nils] [((0,1),xv)]=some [xv]:=by
  simp only[c8,xc,xt]
  rfl
 refine aL (P:=λt' df g'=>df=[]/\Fr g1 g'/\St t' [(0,ZK pr),(1,xv),(2,ZL (s:Int))]/\∃u,tat t' 7=u/\LLo g' g1.nx u [w]) ?_ ?_
 ·simp only[sz,simprocAttr,h1,xc,xt,f];refine⟨Fr.new _ _,by simp[St,sx,h0,h1,h2],_,by simp[sx],[xv],.inr ⟨g1.nx,0,false,Vu _,by simp,rfl,by simp[TA]⟩,hx,trivial⟩
 clear h0 h1 h2;rintro t df g2 ⟨rfl,e,⟨h0,h1,h2,-⟩,q,h7,l⟩;simp only[sz,simprocAttr,kA,kH];refine aP w.length (by omega) (λv t df g'=>df=[]/\St t [(0,ZK pr),(1,xv),(2,ZL (s:Int))]/\Fr g1 g'/\∃u,tat t 7=u/\LLo g' g1.nx u (S.TX n w s v))
  ⟨rfl,by simp[St,sx,h0,h1,h2],e,q,by simp[sx,h7],l⟩ (by simp[sx]) (by decide) (by rintro j t df g v s (rfl|rfl|rfl)<;>simp[sx,St]) ?_ ?_ ?_
 ·clear h0 h1 h2 h7;rintro v t df g3 o ⟨rfl,⟨h0,h1,h2,-⟩,k,u,h7,hu⟩ h8;simp only[sz,simprocAttr,h1,h8,xl];exact⟨by simp[St,sx,h0,h1,h2],k,u,by simp[sx,h7],hu⟩
 ·clear h0 h1 h2 h7;rintro v t df g3 o ⟨rfl,⟨h0,h1,h2,-⟩,k,u,h7,hu⟩ h8;have ki:∀g,am C0 d 90 [ZL (s:Int),ZJ (v:Int)] g=.val (.bool (s.testBit v)):=λg=>by rw[Jx hd hs (by omega),rg]
  cases hb:s.testBit v with
  | false =>
   rw[hb]at ki;have e2:S.TX n w s (v+1)=S.TX n w s v:=by rw[S.TX,hb];simp
   simp only[sz,simprocAttr,h2,h8,ki];rw[e2];subst h7;simp[St,sx,h0,h1,h2,h8];exact⟨k,hu⟩
  | true =>
   rw[hb]at ki;have e2:S.TX n w s (v+1)=(S.TX n w s v).flatMap λw'=>(List.range ((S.Tx n)[v]?.getD 0).toNat).map λx:Nat=>w'.set v (x:Int):=by rw[S.TX,hb];simp
   have i:g3.h.get pr=rnO gr size c b lv kv vv wv:=by rw[k.2 pr hpr,hq]
   have hcl:=I7 hr (w:=w) (s:=s) v (by omega);have a:4 ^ v<=4 ^ 8:=V_ (by decide) (by omega);simp only[sz,simprocAttr,h2,h8,ki];refine Mh (n:=n) (v:=v) (w1:=xv) (s1:=s) (ws:=S.TX n w s v) hd hr hN (by omega) (λw' hm=>by rw[Mf v w' hm,hw]) (VR hcl a) i (VL hpr k.1) hu (by simp[St,sx,h0,h1,h2,h7,h8]) λt g4 u9 hF4 hu4 ht=>?_;obtain⟨h0,h1,h2,h8,h9,-⟩:=ht;simp only[sz,simprocAttr,kG,h9];rw[e2];obtain⟨xs,p,k2⟩:=hu4;exact⟨⟨by simp[St,sx,h0,h1,h2],k.trans hF4,u9,by simp[sx],xs,p.low k.1,k2⟩,by simp[sx,h8]⟩
 ·rintro t df g3 ⟨rfl,⟨h0,h1,h2,-⟩,k,u,h7,hu⟩;rw[hw]at hu;simp only[sz,simprocAttr,kI,h7];exact kk u g3 k hu
theorem Hj(cs:List Int){j x:Int}(hx:0<=x)(hc:x<c):S.TK (cs++[c]) (j*c+x)=S.TK cs j++[x]:=by
 have hd:(j*c+x) / c=j:=by rw[Int.add_comm,Int.add_mul_ediv_right _ _ (by omega),Int.ediv_eq_zero_of_lt hx hc,Int.zero_add]
 have hm:(j*c+x) % c=x:=by rw[Int.add_comm,Int.add_mul_emod_self_right,Ym hx hc]
 rw[S.TK,Wr,XC,WC,WJ,Yh,S.TK];congr 1
 ·refine WI λi hi=>?_;have hi:=VM.1 hi;rw[S.Ui,S.Ui,List.drop_append_of_le_length (by omega),VO hi,S.Ur,List.foldr_append,List.foldr_cons,List.foldr_nil,hd]
  rfl
 ·rw[S.Ui,List.drop_of_length_le (by simp),VW (Vu _),WR];simp[S.Ur,hm]
theorem Lp(a b:Nat){β:Type}(f:Nat->β):(List.range (a*b)).map f=(List.range a).flatMap λj=>(List.range b).map λx=>f (j*b+x):=by
 induction a with
 |zero=>simp
 | succ a ih =>
  rw[Wc,Xc,List.range_add,WJ,ih,WC,Ys,Ww,WQ,VV,List.map_map]
  rfl
theorem MX{α β γ:Type}(f:α->β)(g:β->List γ)(l:List α):(l.map f).flatMap g=l.flatMap λa=>g (f a):=by
 induction l with
 |nil=>rfl
 |cons a l ih=>rw[W4,Ww,Ww,ih]
theorem SZ(hr:NR n){v:Nat}(hv:v<=n.nodes.length):∀c∈S.T0 n (S.Ud s v),1<=c/\c<=4:=λc hc=>by obtain⟨u,hu,rfl⟩:=Wk.1 hc;have hu:=VM.1 (YQ.1 hu).1;rw[Vt (by rw[aH];omega),VB];exact hr.cs _ (Wy _)
theorem I8{n:Net}(hr:NR n)(w:List Int)(s:Nat):∀v,v<=n.nodes.length->S.TX n w s v=(List.range (S.TS n (S.Ud s v))).map λj:Nat=>S.TM w (S.Ud s v) (S.TK (S.T0 n (S.Ud s v)) (j:Int))
 | 0,_=>by
  have e:S.Ud s 0=[]:=rfl;have e2:S.TS n []=1:=rfl;rw[S.TX,e,e2]
  rfl
 | v+1,hv=>by
  have ih:=I8 hr w s v (by omega);rw[S.TX,Bd,ih];cases hb:s.testBit v with
  |false=>simp
  | true =>
   obtain⟨c,hc⟩:∃c,c=(S.Tx n)[v]?.getD 0:=⟨_,rfl⟩;have k:1<=c/\c<=4:=by rw[hc,Vt (by rw[aH];omega),VB];exact hr.cs _ (Wy _)
   obtain⟨C,rfl⟩:=Vy (show 0<=c by omega);rw[<-hc,VU];simp only[if_true];have e1:S.T0 n (S.Ud s v++[v])=S.T0 n (S.Ud s v)++[(C:Int)]:=by rw[S.T0,WJ,Yh,<-hc,S.T0]
   have hp:=cj (SZ hr (s:=s) (v:=v) (by omega));have e2:S.TS n (S.Ud s v++[v])=S.TS n (S.Ud s v)*C:=by rw[S.TS,S.TS,e1,iH];obtain⟨P,h⟩:=Vy (show 0<=S.Ty (S.T0 n (S.Ud s v)) by omega);rw[h,<-XX,VU,VU]
   rw[e1,e2,Lp,MX];congr 1;funext j;refine WI λx hx=>?_;have hx:=VM.1 hx;rw[show (((j*C+x:Nat)):Int)=(j:Int)*(C:Int)+(x:Int) by omega,Hj _ (by omega) (by omega),yw];rw[rM,S.T0,VF]
theorem I6(hr:NR n)(w:List Int)(s:Nat):S.TX n w s n.nodes.length=(List.range (S.TS n (S.Tz n s))).map λj:Nat=>S.TE n w (S.Tz n s) j:=I8 hr w s _ (Vu _)
section
variable {n:Nat}
theorem Bv(hi:i<l.length)(h:S.Uw l n i=false):S.rt l n=false:=by rw[YA];intro h2;simp only[S.rt,Vx,VQ,VM]at h2;have:=h2.2 i hi;rw[h]at this;cases this
theorem S9{q:Nat}{a b:Int}(hw:SlR NoP k .nil l w)(hl:l.length<=1000000)(hi:i<l.length)(hsp:S.sp l i=(a,b,c))
  (hq:g.h.get q=Y6 3 [[ZJ a,ZJ b,ZJ c]])
  (ht:St t [(0,w),(1,ZJ (n:Int)),(5,ZJ (i:Int)),(6,ZK q),(7,.bool (S.TO l n i)),(9,ZJ 0),(10,ZJ 0)])
  (bad:∀t,S.Uw l n i=false->tat t 4=.bool false->Q .ret t [] g)
  (fin:∀t,St t [(0,w),(1,ZJ (n:Int)),(5,ZJ (i:Int)),(9,ZJ (S.TN l (i:Int) l.length:Int))]->(!S.TO l n i || (List.range l.length).all λj=>decide (j=i) || !decide ((S.sp l j).1=(S.sp l i).1))=true->Q (.exit 2) t [] g) :
  wpL (wp C0 d none jN) Q t [] g:=by
 obtain⟨h0,h1,h5,m,h7,h9,f,-⟩:=ht;have ws:=λh=>(hw.tree (h':=h) (Vu k)).sps;have wl:=λg=>hw.len g;simp only[jN,qk];refine aP l.length (by omega) (λj t df g'=>df=[]/\g'=g/\St t [(0,w),(1,ZJ (n:Int)),(5,ZJ (i:Int)),(6,ZK q),(7,.bool (S.TO l n i)),(9,ZJ (S.TN l (i:Int) j:Int))]/\(S.TO l n i=true->∀k,k<j->k≠i->(S.sp l k).1≠(S.sp l i).1))
  ⟨rfl,rfl,by simp[St,S.TN,h0,h1,h5,m,h7,h9],λ_ k hk=>by omega⟩ f (by decide) (by rintro j t df g v s (rfl|rfl|rfl)<;>simp[sx,St]) ?_ ?_ ?_
 ·clear h0 h1 h5 m h7 h9 f;rintro j t df g' C ⟨rfl,rfl,⟨h0,h1,h5,m,h7,h9,-⟩,r⟩ f;simp only[sz,simprocAttr,h0,f,wl];exact⟨by simp[St,sx,h0,h1,h5,m,h7,h9],r⟩
 ·clear h0 h1 h5 m h7 h9 f;rintro j t df g' C ⟨rfl,rfl,⟨h0,h1,h5,m,h7,h9,-⟩,y⟩ f;obtain⟨⟨a',b',c'⟩,hx,-,-⟩:=ae C;have u:S.sp l j=(a',b',c'):=by rw[S.sp,hx];rfl
  have A:j<(l.map cs3).length:=by simpa using C
  have B:(l.map cs3)[j]?=some [ZJ a',ZJ b',ZJ c']:=by rw[Vw,hx];rfl
  have E:S.TN l (i:Int) j<=j:=by
   clear y h9 C hx u A B f
   induction j with
   |zero=>exact Vu _
   |succ j ih=>rw[S.TN];split<;>omega
  have wB:IntKind.wrap .i64 ((S.TN l (i:Int) j:Int)+1)=(S.TN l (i:Int) j:Int)+1:=ap (by omega) (by omega);have ea:(S.sp l i).1=a:=by rw[hsp]
  have x:nA w=true:=xi (ws .nil) A
  by_cases cbad:j≠i/\S.TO l n i=true/\a'=a
  ·obtain⟨e1,e2,z⟩:=cbad;have D:S.Uw l n i=false:=by
    rw[YA];intro h;simp only[S.Uw,e2,Vx,Wh,YN,WV,false_or,VQ,VM,VK,Wl,Ya]at h;rcases h.1.2 j C with h2|h2
    ·exact e1 h2
    ·exact h2 (by rw[u,ea];exact z)
   rw[e2]at h7;subst z;have d1:decide ((j:Int)=(i:Int))=false:=We (by omega);simp only[sz,simprocAttr,h0,h5,m,h7,f,d1,ws,A,B,x,hq];refine bad _ D ?_;simp[sx]
  have p:S.TO l n i=true->∀k,k<j+1->k≠i->(S.sp l k).1≠(S.sp l i).1:=λh k hk hki=>by
   by_cases e:k=j
   ·subst e;rw[u,ea];exact λz=>cbad ⟨hki,h,z⟩
   ·exact y h k (by omega) hki
  refine bB (P:=λt' df g''=>df=[]/\g''=g'/\St t' [(0,w),(1,ZJ (n:Int)),(5,ZJ (i:Int)),(6,ZK q),(7,.bool (S.TO l n i)),(9,ZJ (S.TN l (i:Int) j:Int)),(10,ZJ (j:Int))]) ?_ ?_
  ·by_cases e1:j=i
   ·have d1:decide ((j:Int)=(i:Int))=true:=Wz (by omega);simp only[sz,simprocAttr,h5,f,d1];simp[St,sx,h0,h1,h5,m,h7,h9,f]
   ·have d1:decide ((j:Int)=(i:Int))=false:=We (by omega);cases e2:S.TO l n i with
    | false =>
     rw[e2]at h7;simp only[sz,simprocAttr,h5,h7,f,d1];simp[St,sx,h0,h1,h5,m,h7,h9,f]
    | true =>
     rw[e2]at h7;have z:¬a'=a:=λz=>cbad ⟨e1,e2,z⟩;simp only[sz,simprocAttr,h0,h5,m,h7,f,d1,ws,A,B,x,hq,z];simp[St,sx,h0,h1,h5,m,h7,h9,f]
  rintro t df g'' ⟨rfl,rfl,h0,h1,h5,m,h7,h9,f,-⟩;have o:S.TN l (i:Int) (j+1)=S.TN l (i:Int) j+if a' = -1/\(b'=(i:Int)\/c'=(i:Int)) then 1 else 0:=by rw[S.TN,u]
  have w9:IntKind.wrap .i64 ((S.TN l (i:Int) j:Int)+1)=((S.TN l (i:Int) j+1:Nat):Int):=by rw[wB];omega
  by_cases ca:a' = -1
  ·subst ca
   by_cases cb:b'=(i:Int)
   ·subst cb;rw[VC ⟨rfl,.inl rfl⟩]at o;simp only[sz,simprocAttr,h0,h5,h9,f,ws,A,B,x,w9];exact⟨by rw[o];simp[St,sx,h0,h1,h5,m,h7],p⟩
   ·by_cases cc:c'=(i:Int)
    ·subst cc;rw[VC ⟨rfl,.inr rfl⟩]at o;simp only[sz,simprocAttr,h0,h5,h9,f,ws,A,B,x,cb,w9];exact⟨by rw[o];simp[St,sx,h0,h1,h5,m,h7],p⟩
    ·rw[Vz (λh=>h.2.elim cb cc)]at o;simp only[sz,simprocAttr,h0,h5,f,ws,A,B,x,cb,cc];exact⟨by rw[o];simp[St,sx,h0,h1,h5,m,h7,h9],p⟩
  ·rw[Vz (λh=>ca h.1)]at o;simp only[sz,simprocAttr,h0,h5,f,ws,A,B,x,ca];exact⟨by rw[o];simp[St,sx,h0,h1,h5,m,h7,h9],p⟩
 ·rintro t df g' ⟨rfl,rfl,⟨h0,h1,h5,m,h7,h9,-⟩,y⟩;refine fin t (by simp[St,h0,h1,h5,h9]) ?_;cases hlf:S.TO l n i with
  |false=>rfl
  | true =>
   simp only[YN,Bool.false_or,VQ,VM,Wh,VK,Wl,Ya];intro k hk
   by_cases e:k=i
   ·exact .inl e
   ·exact .inr (y hlf k hk e)
theorem QD(h1:S.TO l n i=true\/(S.sp l i).1 = -1/\S.Uq l i=true)(h2:(!S.TO l n i || (List.range l.length).all λj=>decide (j=i) || !decide ((S.sp l j).1=(S.sp l i).1))=true)(h3:S.TN l (i:Int) l.length=if i+1<l.length then 1 else 0):S.Uw l n i=true:=by
 rw[S.Uw,h2,h3];simp;rcases h1 with h|h
 ·exact .inl h
 ·exact .inr h
theorem OC(h1:S.TO l n i=false)(h2:(decide ((S.sp l i).1 = -1)&&S.Uq l i)=false):S.Uw l n i=false:=by rw[S.Uw,h1,h2];rfl
theorem OD(h3:¬S.TN l (i:Int) l.length=if i+1<l.length then 1 else 0):S.Uw l n i=false:=by rw[S.Uw,We h3,YZ]
theorem Ta(hd:0<d)(hn:n<=1000)(hl:l.length<=1000000)(hv:SlR P k g.h l v):am C0 d 32 [v,ZJ (n:Int)] g=.val (.bool (S.rt l n)):=by
 obtain⟨w,e,u⟩:=bm hv d;rw[xM];refine gZ AJ (xs:=[w,ZJ (n:Int)]) (by simp only[aG,e,bS 0]) (by simp[jW]) hd ?_;have wl:∀g,dH .slice w g=.val (ZJ (l.length:Int)):=λg=>(u .nil).len g;have ws:=λh=>(u h).sps;have y:IntKind.wrap .i64 (IntKind.wrap .i64 (2*(n:Int)) - 1)=2*(n:Int) - 1:=IR _ (by omega)
 by_cases c0:(l.length:Int)=2*(n:Int) - 1
 rotate_left
 ·have hs:S.rt l n=false:=by simp[S.rt,c0]
  simp only[sz,simprocAttr,jW,wl,y,c0,hs]
 simp only[sz,simprocAttr,jW,wl,y,c0,qj,qm];refine aP l.length (by omega) (λj t df g=>df=[]/\St t [(0,w),(1,ZJ (n:Int))]/\∀i,i<j->S.Uw l n i=true)
  ⟨rfl,by simp[St,sx],λi hi=>by omega⟩ (by simp[sx]) (by decide) (by rintro j t df g v s (rfl|rfl|rfl)<;>simp[sx,St]) ?_ ?_ ?_
 ·rintro j t df g C ⟨rfl,⟨h0,h1,-⟩,r⟩ h5;simp only[sz,simprocAttr,h0,h5,wl];exact⟨by simp[St,sx,h0,h1],r⟩
 ·rintro i t df g hi ⟨rfl,⟨h0,h1,-⟩,p⟩ h5;obtain⟨⟨a,b,c⟩,hx,-,-⟩:=ae hi;have o:S.sp l i=(a,b,c):=by rw[S.sp,hx];rfl
  have z:i<(l.map cs3).length:=by simpa using hi
  have A:(l.map cs3)[i]?=some [ZJ a,ZJ b,ZJ c]:=by rw[Vw,hx];rfl
  have elf:S.TO l n i=(decide (0<=a)&&decide (a<(n:Int))&&decide (b = -1)&&decide (c = -1)):=by rw[S.TO,o]
  have ejn:S.Uq l i=(decide (0<=b)&&decide (b<(i:Int))&&decide (0<=c)&&decide (c<(i:Int))&&!decide (b=c)):=by rw[S.Uq,o]
  refine bB (P:=λt' df g'=>df=[]/\St t' [(0,w),(1,ZJ (n:Int)),(5,ZJ (i:Int)),(6,ZK g.nx)]/\g'.h.get g.nx=Y6 3 [[ZJ a,ZJ b,ZJ c]]) ?_ ?_
  ·simp only[sz,simprocAttr,h0,h5,ws,z,A];simp[St,sx,h0,h1,h5]
  rintro t df g1 ⟨rfl,⟨h0,h1,h5,f,-⟩,hq⟩;refine bB (P:=λt' df g'=>df=[]/\g'=g1/\St t' [(0,w),(1,ZJ (n:Int)),(5,ZJ (i:Int)),(6,ZK g.nx),(7,.bool (S.TO l n i))]) ?_ ?_
  ·by_cases c1:0<=a
   rotate_left
   ·have e1:S.TO l n i=false:=by rw[elf];simp[c1]
    simp only[sz,simprocAttr,f,hq,c1];simp[St,sx,h0,h1,h5,f,e1]
   by_cases c2:a<(n:Int)
   rotate_left
   ·have e1:S.TO l n i=false:=by rw[elf];simp[c2]
    simp only[sz,simprocAttr,h1,f,hq,c1,c2];simp[St,sx,h0,h1,h5,f,e1]
   by_cases c3:b = -1
   rotate_left
   ·have e1:S.TO l n i=false:=by rw[elf];simp[c3]
    simp only[sz,simprocAttr,h1,f,hq,c1,c2,c3];simp[St,sx,h0,h1,h5,f,e1]
   by_cases c4:c = -1
   rotate_left
   ·have e1:S.TO l n i=false:=by rw[elf];simp[c4]
    simp only[sz,simprocAttr,h1,f,hq,c1,c2,c3,c4];simp[St,sx,h0,h1,h5,f,e1]
   have e1:S.TO l n i=true:=by rw[elf];simp[c1,c2,c3,c4]
   simp only[sz,simprocAttr,h1,f,hq,c1,c2,c3,c4];simp[St,sx,h0,h1,h5,f,e1]
  rintro t df g2 ⟨rfl,rfl,h0,h1,h5,f,h7,-⟩;obtain⟨jb,m⟩:∃jb,jb=(decide ((S.sp l i).1 = -1)&&S.Uq l i):=⟨_,rfl⟩;refine bB (P:=λt' df g'=>df=[]/\g'=g2/\St t' [(0,w),(1,ZJ (n:Int)),(5,ZJ (i:Int)),(6,ZK g.nx),(7,.bool (S.TO l n i)),(8,.bool jb)]) ?_ ?_
  ·rw[o,ejn]at m
   by_cases c0:a = -1
   rotate_left
   ·have e1:jb=false:=by rw[m];simp[c0]
    simp only[sz,simprocAttr,f,hq,c0];simp[St,sx,h0,h1,h5,f,h7,e1]
   subst c0
   by_cases c1:0<=b
   rotate_left
   ·have e1:jb=false:=by rw[m];simp[c1]
    simp only[sz,simprocAttr,h5,f,hq,c1];simp[St,sx,h0,h1,h5,f,h7,e1]
   by_cases c2:b<(i:Int)
   rotate_left
   ·have e1:jb=false:=by rw[m];simp[c2]
    simp only[sz,simprocAttr,h5,f,hq,c1,c2];simp[St,sx,h0,h1,h5,f,h7,e1]
   by_cases c3:0<=c
   rotate_left
   ·have e1:jb=false:=by rw[m];simp[c3]
    simp only[sz,simprocAttr,h5,f,hq,c1,c2,c3];simp[St,sx,h0,h1,h5,f,h7,e1]
   by_cases c4:c<(i:Int)
   rotate_left
   ·have e1:jb=false:=by rw[m];simp[c4]
    simp only[sz,simprocAttr,h5,f,hq,c1,c2,c3,c4];simp[St,sx,h0,h1,h5,f,h7,e1]
   by_cases c5:b=c
   ·have e1:jb=false:=by rw[m];simp[c5]
    subst c5;simp only[sz,simprocAttr,h5,f,hq,c1,c2,c3,c4];simp[St,sx,h0,h1,h5,f,h7,e1]
   have e1:jb=true:=by rw[m];simp[c1,c2,c3,c4,c5]
   simp only[sz,simprocAttr,h5,f,hq,c1,c2,c3,c4,c5];simp[St,sx,h0,h1,h5,f,h7,e1]
  rintro t df g3 ⟨rfl,rfl,h0,h1,h5,f,h7,h8,-⟩
  by_cases hor:S.TO l n i=false/\jb=false
  ·have hf:=Bv hi (OC hor.1 (by rw[<-m];exact hor.2));rw[hor.1]at h7;rw[hor.2]at h8;simp only[sz,simprocAttr,h7,h8,hf]
  have x:S.TO l n i=true\/(S.sp l i).1 = -1/\S.Uq l i=true:=by
   cases e1:S.TO l n i with
   |true=>exact .inl rfl
   | false =>
    cases e2:jb with
    |false=>exact absurd ⟨e1,e2⟩ hor
    | true =>
     rw[e2]at m;have:=m.symm;simp only[Vx,VK]at this;exact .inr this
  refine bB (P:=λt' df g'=>df=[]/\g'=g3/\St t' [(0,w),(1,ZJ (n:Int)),(5,ZJ (i:Int)),(6,ZK g.nx),(7,.bool (S.TO l n i))]) ?_ ?_
  ·cases e1:S.TO l n i with
   | true =>
    rw[e1]at h7;simp only[sz,simprocAttr,h7];simp[St,sx,h0,h1,h5,f,h7]
   | false =>
    cases e2:jb with
    |false=>exact absurd ⟨e1,e2⟩ hor
    | true =>
     rw[e1]at h7;rw[e2]at h8;simp only[sz,simprocAttr,h7,h8];simp[St,sx,h0,h1,h5,f,h7]
  rintro t df B ⟨rfl,rfl,h0,h1,h5,f,h7,-⟩;simp only[sz,simprocAttr];refine S9 (n:=n) (q:=g.nx) (a:=a) (b:=b) (c:=c) (u .nil) hl hi o hq (by simp[St,sx,h0,h1,h5,f,h7]) ?_ ?_
  ·intro t hf h4;have hf:=Bv hi hf;simp only[sz,simprocAttr,h4,hf]
  ·intro t ht h2;obtain⟨h0,h1,h5,h9,-⟩:=ht;have w1:IntKind.wrap .i64 ((l.length:Int) - 1)=(l.length:Int) - 1:=ap (by omega) (by omega);have good:S.TN l (i:Int) l.length=(if i+1<l.length then 1 else 0)->∀k,k<i+1->S.Uw l n k=true:=λh3 k hk=>by
    by_cases e:k=i
    ·subst e;exact QD x h2 h3
    ·exact p k (by omega)
   have nog:¬S.TN l (i:Int) l.length=(if i+1<l.length then 1 else 0)->S.rt l n=false:=λh=>Bv hi (OD h)
   by_cases c:i+1<l.length
   ·rw[VC c]at good nog;have d1:decide ((i:Int)<(l.length:Int) - 1)=true:=Wz (by omega);have d2:decide ((i:Int)=(l.length:Int) - 1)=false:=We (by omega)
    by_cases cB:S.TN l (i:Int) l.length=1
    ·have d3:decide ((S.TN l (i:Int) l.length:Int)=1)=true:=Wz (by omega);simp only[sz,simprocAttr,dV,h0,h5,h9,wl,w1,d1,d2,d3];exact⟨by simp[St,sx,h0,h1],good cB⟩
    ·have d3:decide ((S.TN l (i:Int) l.length:Int)=1)=false:=We (by omega);have:=nog cB;simp only[sz,simprocAttr,dV,h0,h5,h9,wl,w1,d1,d2,d3,this]
   ·rw[Vz c]at good nog;have d1:decide ((i:Int)<(l.length:Int) - 1)=false:=We (by omega);have d2:decide ((i:Int)=(l.length:Int) - 1)=true:=Wz (by omega)
    by_cases cB:S.TN l (i:Int) l.length=0
    ·have d3:decide ((S.TN l (i:Int) l.length:Int)=0)=true:=Wz (by omega);simp only[sz,simprocAttr,dV,h0,h5,h9,wl,w1,d1,d2,d3];exact⟨by simp[St,sx,h0,h1],good cB⟩
    ·have d3:decide ((S.TN l (i:Int) l.length:Int)=0)=false:=We (by omega);have:=nog cB;simp only[sz,simprocAttr,dV,h0,h5,h9,wl,w1,d1,d2,d3,this]
 ·rintro t df g ⟨rfl,-,p⟩;have:S.rt l n=true:=by rw[S.rt,Wz c0,WA,VQ];exact λi hi=>p i (VM.1 hi)
  simp only[sz,simprocAttr,qo,this]
end
structure JnJ (gB:G) (pm p8:Nat) (L O:AV) (st:List Sp×Br) (g:G):Prop where
 nx:gB.nx<=g.nx
 fr:∀i,i<gB.nx->i≠pm->i≠p8->vid L≠some i->g.h.get i=gB.h.get i
 ls:∃L',g.h.get pm=Y6 2 [[L',O]]/\Own g 0 L' 3 (st.1.map cs3)/\(vid L'=vid L\/∃i,vid L'=some i/\gB.nx<=i)
 la:g.h.get p8=Y6 2 [[ZJ st.2.1,ZL (st.2.2:Int)]]
structure MkH (pm:Nat) (L O:AV) (st:List Sp×List Br) (g:G):Prop where
 m:g.h.get pm=Y6 2 [[L,O]]
 pn:pm<g.nx
 oL:Own g 0 L 3 (st.1.map cs3)
 oO:Own g 0 O 2 (st.2.map cbr)
 d1:vid L≠some pm
 d2:vid O≠some pm
 d3:∀i,vid L=some i->vid O≠some i
def S.Un(n:Net):List Nat:=(List.range n.nodes.length).map λv=>(S.TJ n)[v]?.getD 0 ||| S.TT v
theorem KV{v:Nat}(hd:0<d)(hr:NR n)(hm:Agg n NoP 0 g.h w)(hv:v<n.nodes.length):am C0 d 62 [w,ZJ (v:Int)] g=.val (ZL ((S.Un n)[v]?.getD 0:Nat)):=by
 obtain⟨b,rows,rfl,e1,c,hN,-⟩:=dZ d hm;have p:=hr.l2;have key:∃r,am C0 d 62 [.agg [ZJ n.grain,b],ZJ (v:Int)] g=.val r/\One (((S.Un n)[v]?.getD 0:Nat)) NoP 0 .nil r:=by
  rw[wC];refine a_ zo (xs:=[.agg [ZJ n.grain,b],ZJ (v:Int)]) (by simp only[aG,e1,bS 0]) (by simp[mY]) (aY _) (by decide) hd ?_;simp only[sz,simprocAttr,mY];obtain⟨g0,hg0⟩:∃g0,g0=G.empty.new (Y6 2 [[ZJ n.grain,b]]):=⟨_,rfl⟩;rw[<-hg0];have f0:g0.h.get 0=Y6 2 [[ZJ n.grain,b]]:=by rw[hg0];simp[sx]
  clear hg0;have ld:be (Y6 2 [[ZJ n.grain,b]]) 0 0 true 2 0=.val (.agg [ZJ n.grain,b]):=rfl;simp only[sz,simprocAttr,qh,f0,ld];refine bi (GJ (VI d) (c _) (by omega) ?_) λr a=>?_
  ·intro x hx y q;have:=eS (hr.places x hx) y q;omega
  have i:=λh=>(a.sl h).nats;obtain⟨x,hx,-,-⟩:=ae (l:=S.TJ n) (j:=v) (by simp[S.TJ];exact hv);have f:(S.TJ n).length=n.nodes.length:=by simp[S.TJ]
  have s:v<((S.TJ n).map cu).length:=by rw[VF,f];exact hv
  have t:((S.TJ n).map cu)[v]?=some [ZL (x:Int)]:=by rw[Vw,hx];rfl
  have k:x<18446744073709551616:=by obtain⟨z,-,rfl⟩:=Wk.1 (VA hx);exact rm _
  have hf:(S.Un n)[v]?.getD 0=x ||| S.TT v:=by simp[S.Un,hv,hx]
  have wu:IntKind.wrap .u64 (v:Int)=(v:Int):=rN (by omega) (by omega);have m:bQ .shl (ZL 1) (ZL (v:Int))=.val (ZL (S.TT v:Int)):=fu .u64 v;have o:=mo x (S.TT v) k (oD v);simp only[sz,simprocAttr,i,s,t,wu,m,o];rw[hf];exact⟨λ_=>True,yu.2 ⟨rfl,XW (n:=64) k (oD v)⟩⟩
 obtain⟨r,e,a⟩:=key;obtain⟨h1,-⟩:=yu.1 a;injection h1 with h1;rw[e,h1]
theorem Ho{x y:Foot}(hy:y.wr=[])(hb:y.lk.big=false)(hs:y.lk.sr=[])(h:∀i∈x.wr,i ∉ y.lk.rd):bO x y=true:=by
 have k:meets x.wr []=false:=by simp[meets]
 have a:meets x.wr y.lk.rd=false:=by simp only[meets,List.any_eq_false];intro i hi hc;exact h i hi (X0.1 hc)
 simp only[bO,je,gc,hy,hb,hs,k,a,fst1,Xe,Yg,Yd,Yl,WA]
 split<;>rfl
def S.Ut(e:List Int)(s:Nat):Nat->Nat
 |0=>s
 |j+1=>if 0<=e[j]?.getD 0 then S.TF (S.Ut e s j) (S.TT j) else S.Ut e s j
theorem Iv{e:List Int}{s:Nat}(u:Nat):∀j,j<=64->((S.Ut e s j).testBit u=(s.testBit u&&!(decide (u<j)&&decide (0<=e[u]?.getD 0))))
 |0,_=>by simp[S.Ut]
 | j+1,h=>by
  have ih:=Iv (e:=e) (s:=s) u j (by omega);rw[S.Ut]
  by_cases hj:0<=e[j]?.getD 0
  ·rw[VC hj,ei,ih,sO (by omega)]
   by_cases c:j=u
   ·subst c;simp[hj]
   ·have:(u<j+1)↔(u<j):=by omega
    simp[c,this]
  ·rw[Vz hj,ih]
   by_cases c:j=u
   ·subst c;simp[hj]
   ·have:(u<j+1)↔(u<j):=by omega
    simp[this]
theorem Jo(hr:NR n){v:Nat}(hv:v<n.nodes.length)(u:Nat):((S.Un n)[v]?.getD 0).testBit u=true↔(u:Int)∈S.TV n v:=by
 have hl:=hr.l2;have e1:(S.Un n)[v]?.getD 0=S.TP (n.nodes[v]).parents ||| S.TT v:=by simp[S.Un,hv,S.TJ]
 rw[e1,dJ,Wh,sO (by omega),VK,zM λx hx=>by have:=hr.pin (Wy hv) x hx;rw[aH]at this;omega];rw[S.TV,Vt hv];simp only[WM,VB,V7,VY];constructor
 ·rintro (h|h)
  ·exact .inl h
  ·exact .inr (by omega)
 ·rintro (h|h)
  ·exact .inl h
  ·exact .inr (by omega)
theorem QV(hr:NR n)(he:S.TY n e=true){v:Nat}(hv:v<n.nodes.length):S.Ut e ((S.Un n)[v]?.getD 0) e.length=S.TG n e v:=by
 obtain⟨h1,h2⟩:=mC he;have hl:=hr.l2;refine YG λu=>?_;rw[Iv u _ (by omega),WU,jY hr hv,Vx,Jo hr hv,Wl,Bool.and_eq_false_iff];constructor
 ·rintro⟨a,b⟩;have hb:=jX hr hv _ a;refine⟨a,?_⟩;have hu:u<e.length:=by omega
  have:=h2 u e[u] (Vt hu);rw[Vt hu,VB]at b ⊢;rcases b with b|b
  ·exact absurd hu (Xr b)
  ·have:=Xr b;omega
 ·rintro⟨a,b⟩;exact⟨a,.inr (We (by omega))⟩
theorem MO(hr:NR n){v:Nat}(hv:v<n.nodes.length):(S.Un n)[v]?.getD 0<2 ^ n.nodes.length:=ym λu hu=>by have:=jX hr hv _ ((Jo hr hv u).1 hu);omega
theorem SB{m:Nat}(hs:s<2 ^ m)(hj:j<=64):S.Ut e s j<2 ^ m:=by
 refine ym λu hu=>?_;rw[Iv u j hj,Vx]at hu;cases XI u m with
 |inl h=>exact h
 | inr h =>
  have:s.testBit u=false:=Nat.testBit_lt_two_pow (VL hs (V_ (by decide) h));rw[this]at hu;cases hu.1
theorem QW{k:Nat}{P:Nat->Prop}(hd:0<d)(hr:NR n)(hN:SlR NoP 0 .nil n.nodes b)(hMg:∀h,Agg n NoP 0 h (.agg [ZJ n.grain,b]))(hs:SlR NoP 0 .nil l lv)(hl:LEl n l)(hll:l.length<=15)(hkv:SlR NoP 0 .nil e kv)(he:S.TY n e=true)(hgr:gr=n.grain) :
  ∀{i:Nat},i<l.length->∀{g:G} {K:AV->G->Prop} {D:ADf->Prop},g.h.get pr=rnO gr size c b lv kv vv wv->pr<g.nx->(∀g',Fx (λ_=>False) g g'->K (ZL (((S.vr n e l)[i]?.getD 0:Nat):Int)) g') ->
   (am C0 d 33 [ZK pr,ZJ (i:Int)] g).sat K g D:=by
 intro i
 induction i using Nat.strongRecOn with
 | _ i ih =>
  intro hi g K D hq V kk;subst hgr;have F:=hr.l2;have h4:=(mC he).1;obtain⟨s1,s2⟩:=yB hi;have sr:=λh=>(hs.tree (h':=h) (Vu 0)).sps;rw[oH];refine fX qP (by simp[e8]) ?_;simp only[e8];refine aL (P:=λt' df g'=>df=[]/\g'=g/\St t' [(0,ZK pr),(1,ZJ (i:Int))]) ?_ ?_
  ·simp only[sz,simprocAttr];simp[St,sx]
  rintro t df g1 ⟨rfl,rfl,h0,h1,-⟩;refine aL (P:=λt' df g'=>df=[]/\Fx (λ_=>False) g1 g'/\g'.nx=g1.nx+1/\g'.h.get g1.nx=Y6 3 [cs3 (S.sp l i)]/\St t' [(0,ZK pr),(1,ZJ (i:Int)),(5,ZK g1.nx)]) ?_ ?_
  ·simp only[sz,simprocAttr,h0,h1,hq,rnO,aI,sr,s1,s2,cs3];exact⟨(Fx.new _ _ _).put (.inr (Vu _)) _,by simp[St,sx,h0,h1]⟩
  clear h0 h1;rintro t df g2 ⟨rfl,F2,n2,B,h0,h1,h5,-⟩;have o:g2.h.get pr=rnO n.grain size c b lv kv vv wv:=by rw[F2.fr pr V id,hq]
  by_cases hx:(S.sp l i).1 = -1
  ·obtain⟨X,Y,y3,y4⟩:=hl.j i hi hx;obtain⟨le,q⟩:=Vy X;obtain⟨ri,u⟩:=Vy y3;have w:S.sp l i=(-1,(le:Int),(ri:Int)):=Prod.ext hx (Prod.ext q u);have p:=uo (e:=e) hl hi hx;rw[q,u,VU,VU]at p;rw[q]at Y;rw[u]at y4;rw[w]at B;simp only[sz,simprocAttr,sf,h0,h5,B,cs3];refine ih le (by omega) (by omega) (by simpa using o) (by simp;omega) λg3 F3=>?_;have F3n:g2.nx<=g3.nx:=by have:=F3.nx;simp at this;omega
   have M:∀j,j<g2.nx->g3.h.get j=g2.h.get j:=λj hj=>by have:=F3.fr j (by simp;omega) id;simpa using this
   have l3:∀j∈g3.lg,g2.nx<=j:=λj hj=>by have:=F3.lg j hj;simp at this;omega
   have L:g3.h.get g1.nx=Y6 3 [cs3 (-1,(le:Int),(ri:Int))]:=by rw[M _ (by omega),B]
   have W:g3.h.get pr=rnO n.grain size c b lv kv vv wv:=by rw[M _ (by omega),o]
   simp only[sz,simprocAttr,sf,h0,h5,L,cs3];refine ih ri (by omega) (by omega) (by simpa using W) (by simp;omega) λC F4=>?_;have F4n:g3.nx<=C.nx:=by have:=F4.nx;simp at this;omega
   have f4:∀j,j<g3.nx->C.h.get j=g3.h.get j:=λj hj=>by have:=F4.fr j (by simp;omega) id;simpa using this
   have h2:(S.vr n e l)[le]?.getD 0<2 ^ n.nodes.length:=by
    cases hh:(S.vr n e l)[le]? with
    |none=>simpa using YS n.nodes.length
    |some x=>exact xx hr hl x (VA hh)
   have h3:(S.vr n e l)[ri]?.getD 0<2 ^ n.nodes.length:=by
    cases hh:(S.vr n e l)[ri]? with
    |none=>simpa using YS n.nodes.length
    |some x=>exact xx hr hl x (VA hh)
   have N:2 ^ n.nodes.length<=2 ^ 8:=V_ (by decide) F;have H:=mo ((S.vr n e l)[le]?.getD 0) ((S.vr n e l)[ri]?.getD 0) (by omega) (by omega);rw[<-p]at H;have l4:∀j∈C.lg,g3.nx<=j:=λj hj=>by have:=F4.lg j hj;simp at this;omega
   simp only[sz,simprocAttr,sf,H];refine⟨?_,?_⟩
   ·simp only[VJ,VN,VH,VE];refine aA (false::(Zn (true::(false::(Zn (true::(Zn []))))))) [(3,4),(3,5),(3,6)] (by simp[All2,ah,ay,gX,bL]) (by decide) ?_;intro pp I x y hx Z;simp only[VP,VG,Xh]at I;rcases I with rfl|rfl|rfl<;>(simp only[VZ,Wn,Wj]at hx Z;subst hx;subst Z;refine Ho rfl rfl rfl ?_)
    ·intro i hi hc;simp[ay]at hc
    ·intro i hi hc;simp[ay]at hc
    ·intro i hi hc;simp[ah,cO]at hc;subst hc;have:=l3 _ hi;omega
   ·refine kk _ ⟨by simp;have:=F2.nx;omega,λj hj _=>?_,λj hj=>?_⟩
    ·simp;rw[f4 j (by have:=F2.nx;omega),M j (by omega),F2.fr j hj id]
    ·simp at hj;rcases hj with hj|hj|hj
     ·have:=l4 j hj;exact .inr (.inr (by omega))
     ·have:=l3 j hj;exact .inr (.inr (by omega))
     ·exact F2.lg j hj
  ·obtain⟨X,Y⟩:=hl.f i hi hx;obtain⟨v,J⟩:=Vy X;rw[J]at Y;have A:v<n.nodes.length:=by omega
   have p:(S.vr n e l)[i]?.getD 0=S.TG n e v:=by rw[ut hi hx,J,VU]
   rw[p]at kk;obtain⟨x1,x2,x3,w⟩:∃a b c,S.sp l i=(a,b,c):=⟨_,_,_,rfl⟩;rw[w]at B J hx;dsimp only at J hx;subst J;have U:¬((v:Int) = -1):=by omega
   have kf:=λg:G=>KV (d:=d) (g:=g) hd hr (hMg g.h) A;have kl:=λg=>hkv.len g;have kr:=λh=>(hkv.tree (h':=h) (Vu 0)).ints;have Q:=MO hr A;have N:2 ^ n.nodes.length<=2 ^ 8:=V_ (by decide) F;refine bB (P:=λt' df g'=>df=[]/\g'=g2/\St t' [(0,ZK pr),(5,ZK g1.nx)]) ?_ ?_
   ·simp only[sz,simprocAttr,h0,h5,B,cs3,U];simp[St,sx,h0,h5]
   clear h0 h1 h5;rintro t df g3 ⟨rfl,rfl,h0,h5,-⟩;refine bB (P:=λt' df g'=>df=[]/\g'.h=g3.h/\g3.nx<=g'.nx/\(∀j∈g'.lg,j∈g3.lg)/\St t' [(0,ZK pr),(6,ZL (((S.Un n)[v]?.getD 0:Nat):Int))]) ?_ ?_
   ·simp only[sz,simprocAttr,h0,h5,B,o,cs3,rnO,aI,kf];exact⟨Vu _,λ_ h=>h,by simp[St,sx,h0]⟩
   clear h0 h5;rintro t df C ⟨rfl,E,T,R,h0,m,-⟩;have r:C.h.get pr=rnO n.grain size c b lv kv vv wv:=by rw[E,o]
   simp only[sz,simprocAttr,gT,gU];refine aP e.length (by omega) (λj t df g'=>df=[]/\g'=C/\St t [(0,ZK pr),(6,ZL ((S.Ut e ((S.Un n)[v]?.getD 0) j:Nat):Int))])
    ⟨rfl,rfl,by simp[St,sx,h0,m,S.Ut]⟩ (by simp[sx]) (by decide) (by rintro j t df g v s (rfl|rfl|rfl)<;>simp[sx,St]) ?_ ?_ ?_
   ·clear h0 m;rintro j t df g' hj ⟨rfl,rfl,h0,m,-⟩ h7;simp only[sz,simprocAttr,h0,h7,r,rnO,aI,kl];simp[St,sx,h0,m]
   ·clear h0 m;rintro j t df g' hj ⟨rfl,rfl,h0,m,-⟩ h7;obtain⟨z,hz,-,-⟩:=ae hj;have q1:j<(e.map ci).length:=by simpa using hj
    have q2:(e.map ci)[j]?=some (ci z):=by rw[Vw,hz];rfl
    have h8:=SB (e:=e) Q (j:=j) (by omega);have O:S.TT j<256:=by rw[L7 (by omega)];exact Nat.pow_lt_pow_right (by decide) (by omega:j<8)
    have bd:=wi (S.Ut e ((S.Un n)[v]?.getD 0) j) (S.TT j) (by omega) O;have w9:IntKind.wrap .u64 (j:Int)=(j:Int):=rN (by omega) (by omega)
    by_cases c:0<=z
    ·have e2:S.Ut e ((S.Un n)[v]?.getD 0) (j+1)=S.TF (S.Ut e ((S.Un n)[v]?.getD 0) j) (S.TT j):=by rw[S.Ut,hz,VB,VC c]
     rw[e2];simp only[sz,simprocAttr,h0,m,h7,r,rnO,aI,kr,q1,q2,ci,c,w9,fu,bd];simp[St,sx,h0,h7]
    ·have e2:S.Ut e ((S.Un n)[v]?.getD 0) (j+1)=S.Ut e ((S.Un n)[v]?.getD 0) j:=by rw[S.Ut,hz,VB,Vz c]
     rw[e2];simp only[sz,simprocAttr,h0,m,h7,r,rnO,aI,kr,q1,q2,ci,c];simp[St,sx,h0,m,h7]
   ·rintro t df g' ⟨rfl,rfl,h0,m,-⟩;rw[QV hr he A]at m;simp only[sz,simprocAttr,gV,m];refine kk g' ((F2.same E T λj hj=>.inl (R j hj)))
theorem LM{l:List Int}{h:Int}(hd:0<d)(hv:SlR P k g.h l v)(hl:l.length<=1000)(hc:∀c∈l,0<c)(hh:0<=h/\h<9223372036854775808) :
  ∃r,am C0 d 95 [v,ZJ h] g=.val r/\IT 0 (S.TK l h) r:=by
 obtain⟨v',e,z⟩:=bm hv d;rw[wx];refine a_ zk (xs:=[v',ZJ h]) (by simp only[aG,e,bS 0]) (by simp[mL]) (aY _) (by decide) hd ?_;have vl:∀g,dH .slice v' g=.val (ZJ (l.length:Int)):=λg=>(z .nil).len g;simp only[sz,simprocAttr,mL,vl];refine zP (b:=0) (n:=l.length) (by simp[aT];omega) (by simp[aT];omega) (by simp) λu g1 hu n1 f1 v1=>?_;simp only[sz,simprocAttr,vl,ap (show -9223372036854775808<=(l.length:Int) - 1 by omega) (show (l.length:Int) - 1<9223372036854775808 by omega)];refine qD (m:=l.length) (by omega) (λj t df g=>df=[]/\St t [(0,v'),(1,ZJ (S.Ur (l.drop j) h)),(5,u)]/\Own g 0 u 1 (((List.range l.length).map λi=>if j<=i then S.Ui l h i else 0).map ci))
  ⟨rfl,by simp[sx,St,S.Ur],?_⟩ (by simp[sx]) (by decide) (by rintro j t df g v s (rfl|rfl|rfl|rfl|rfl)<;>simp[sx,St]) ?_ ?_
 ·have:((List.range l.length).map λi=>if l.length<=i then S.Ui l h i else 0).map ci=List.replicate l.length [ZJ 0]:=by
   refine YI (by simp) λi h1 h2=>?_;have:i<l.length:=by simpa using h1
   simp[ci];omega
  rw[this];exact hu
 ·rintro j t df g p ⟨rfl,⟨h0,h1,h5,-⟩,ho⟩ A;obtain⟨c,a,-,hm⟩:=ae (l:=l) (j:=j) p;have f:=hc c hm;obtain⟨q0,B⟩:=J0 (l:=l.drop (j+1)) (h:=h) (λx hx=>hc x (XR hx)) hh.1;have hlt:j<(((List.range l.length).map λi=>if j+1<=i then S.Ui l h i else 0).map ci).length:=by simp;omega
  have w:(((List.range l.length).map λi=>if j+1<=i then S.Ui l h i else 0).map ci)[j]?=some (ci 0):=by rw[Vw,Vw,XA p];show some (ci (if j+1<=j then _ else 0))=_;rw[Vz (by omega)]
  have hcl:(l.map ci)[j]?=some (ci c):=by rw[Vw,a];rfl
  have q:j<(l.map ci).length:=by simpa using p
  have y:S.Ur (l.drop j) h=S.Ur (l.drop (j+1)) h / c:=by
   have:l.drop j=c::l.drop (j+1):=by rw[W7 p];congr 1;rw[Vt p]at a;injection a
   rw[this];rfl
  have o:S.Ui l h j=S.Ur (l.drop (j+1)) h % c:=by rw[S.Ui,a];rfl
  simp only[sz,simprocAttr,h0,h1,h5,A,ho.rows,hlt,(z g.h).ints,hcl,q,ci,cX .i64 q0 f];refine bK (row:=ci 0) (row':=ci (S.Ui l h j)) ho w rfl rfl (by rw[o];rfl) λg2 o2 n2 f2=>?_;have e2:(((List.range l.length).map λi=>if j+1<=i then S.Ui l h i else 0).map ci).set j (ci (S.Ui l h j))=((List.range l.length).map λi=>if j<=i then S.Ui l h i else 0).map ci:=by
   refine YI (by simp) λi h1 h2=>?_;rw[List.getElem_set];simp only[List.getElem_map,List.getElem_range]
   split
   ·rename_i hi;subst hi;rw[VC (Vu _)]
   ·rename_i hi
    by_cases hji:j+1<=i
    ·rw[VC hji,VC (by omega)]
    ·rw[Vz hji,Vz (by omega)]
  rw[e2]at o2;simp only[sz,simprocAttr,h0,h1,h5,A,(z g2.h).ints,hcl,q,ci,DG .i64 q0 f,<-y,St];have hb:=J0 (l:=l.drop j) (h:=h) (λx hx=>hc x (XR hx)) hh.1;refine⟨?_,o2⟩;rw[ap (by omega) (by omega)]
 ·rintro t df g ⟨rfl,⟨h0,h1,h5,-⟩,ho⟩;simp only[sz,simprocAttr,nW,h5];have:((List.range l.length).map λi=>if 0<=i then S.Ui l h i else 0)=S.TK l h:=by simp[S.TK]
  rw[this]at ho;exact⟨λ_=>True,ho.ints (by simp[S.TK];omega)⟩
theorem F_{cards:List Int}(hd:0<d)(hv:SlR P k g.h cards v)(hw:SlR P2 k2 g.h vals w)(hl:cards.length<=13)(hc:∀c∈cards,1<=c/\c<=4)(hin:InC cards vals) :
  am C0 d 92 [v,w] g=.val (ZJ (S.TC cards vals)):=by
 obtain⟨v',e,F⟩:=bm hv d;obtain⟨w',e2,J⟩:=bm hw d;have I:=hin.len;rw[xH];refine eE AE (xs:=[v',w']) (by simp only[aG,e,e2]) (by simp[o4]) hd ?_;have vl:∀g,dH .slice v' g=.val (ZJ (cards.length:Int)):=λg=>(F .nil).len g;simp only[sz,simprocAttr,o4,vl,ap (show -9223372036854775808<=(cards.length:Int) - 1 by omega) (show (cards.length:Int) - 1<9223372036854775808 by omega)];refine qD (m:=cards.length) (by omega) (λj t df g=>df=[]/\St t [(0,v'),(1,w'),(5,ZJ (S.TC (cards.drop j) (vals.drop j))),(6,ZJ (S.Ty (cards.drop j)))])
  ⟨rfl,?_⟩ (by simp[sx]) (by decide) (by rintro j t df g v s (rfl|rfl|rfl|rfl|rfl)<;>simp[sx,St]) ?_ ?_
 ·simp[sx,St,S.TC,S.Ty]
 ·rintro j t df g p ⟨rfl,⟨h0,h1,h5,B,-⟩⟩ h7;obtain⟨c,a,-,hm⟩:=ae (l:=cards) (j:=j) p;obtain⟨x,b,-,-⟩:=ae (l:=vals) (j:=j) (by omega);have dc:cards.drop j=c::cards.drop (j+1):=by rw[W7 p];rw[Vt p]at a;injection a with a;rw[a]
  have dv:vals.drop j=x::vals.drop (j+1):=by rw[W7 (by omega)];rw[Vt (by omega)]at b;injection b with b;rw[b]
  have i:=hin.drop j;have o:∀y∈cards.drop j,1<=y/\y<=4:=λy hy=>hc y (XR hy);have f:=iG o i;obtain⟨D,E⟩:=cj o;have H:=iG (λy hy=>hc y (XR hy)) (hin.drop (j+1));obtain⟨K,q2⟩:=cj (l:=cards.drop (j+1)) λy hy=>hc y (XR hy);have pw:∀n,n<=13->(4:Int) ^ n<=67108864:=λn hn=>by
   have:=jS hn;have e:(4:Int) ^ 13=67108864:=by decide
   omega
  have pw1:=pw (cards.drop j).length (by simp;omega);rw[dc,dv]at f i;rw[dc]at D E pw1;have z:0<=x/\x<c:=i.1;have C:0<=x*S.Ty (cards.drop (j+1)):=XU z.1 (by omega);rw[cy]at f D E;have f:0<=x*S.Ty (cards.drop (j+1))+S.TC (cards.drop (j+1)) (vals.drop (j+1))/\x*S.Ty (cards.drop (j+1))+S.TC (cards.drop (j+1)) (vals.drop (j+1))<c*S.Ty (cards.drop (j+1)):=f;have r:j<(cards.map ci).length:=by simpa using p
  have u:j<(vals.map ci).length:=by rw[VF];omega
  have hcl:(cards.map ci)[j]?=some (ci c):=by rw[Vw,a];rfl
  have A:(vals.map ci)[j]?=some (ci x):=by rw[Vw,b];rfl
  have q:S.Ty (cards.drop (j+1))*c=c*S.Ty (cards.drop (j+1)):=Xt _ _;simp only[sz,simprocAttr,h0,h1,h5,B,h7,(F g.h).ints,(J g.h).ints,hcl,r,u,A,ci,ap (show -9223372036854775808<=x*S.Ty (cards.drop (j+1)) by omega) (show x*S.Ty (cards.drop (j+1))<9223372036854775808 by omega),ap (show -9223372036854775808<=S.TC (cards.drop (j+1)) (vals.drop (j+1))+x*S.Ty (cards.drop (j+1)) by omega) (show S.TC (cards.drop (j+1)) (vals.drop (j+1))+x*S.Ty (cards.drop (j+1))<9223372036854775808 by omega),ap (show -9223372036854775808<=S.Ty (cards.drop (j+1))*c by omega) (show S.Ty (cards.drop (j+1))*c<9223372036854775808 by omega),St];refine⟨?_,?_⟩
  ·rw[dc,dv];show ZJ (_+_)=ZJ (x*S.Ty (cards.drop (j+1))+S.TC _ _);rw[Int.add_comm]
  ·rw[dc,cy,q]
 ·rintro t df g ⟨rfl,⟨h0,h1,h5,B,-⟩⟩;simp only[sz,simprocAttr,pR,h5]
theorem GU(hd:0<d)(hv:SlR P k g.h vals v)(hw:SlR P2 k2 g.h e w)(hl:vals.length=e.length) :
  am C0 d 69 [v,w] g=.val (.bool (S.T_ vals e)):=by
 obtain⟨v',e1,o⟩:=bm hv d;obtain⟨w',e2,p⟩:=bm hw d;rw[uV];refine gZ xY (xs:=[v',w']) (by simp only[aG,e1,e2]) (by simp[lz]) hd ?_;simp only[sz,simprocAttr,lz,mQ];refine aP e.length hw.1 (λj t df g=>df=[]/\St t [(0,v'),(1,w')]/\(List.range j).all (S.UZ vals e)=true) ⟨rfl,by simp[St,sx],rfl⟩ (by simp[sx]) (by decide) (by rintro j t df g v s (rfl|rfl|rfl)<;>simp[St,sx]) ?_ ?_ ?_
 ·rintro j t df g f ⟨rfl,⟨h0,h1,-⟩,c⟩ h5;have n1:dH .slice v' g=.val (ZJ (e.length:Int)):=by rw[(o .nil).len,hl]
  simp only[sz,simprocAttr,h0,h1,h5,n1,St,c]
 ·rintro j t df g f ⟨rfl,⟨h0,h1,-⟩,c⟩ h5;obtain⟨x,hx,-,-⟩:=ae f;obtain⟨y,m,-,-⟩:=ae (l:=vals) (j:=j) (by omega);have i:j<(e.map ci).length:=by simpa using f
  have q2:j<(vals.map ci).length:=by rw[VF];omega
  have q3:(e.map ci)[j]?=some (ci x):=by rw[Vw,hx];rfl
  have n:(vals.map ci)[j]?=some (ci y):=by rw[Vw,m];rfl
  have b:S.UZ vals e j=(decide (x<0) || decide (x=y)):=by simp[S.UZ,hx,m]
  have ra:∀h',ak h' 1 v'=some (vals.map ci):=λh'=>(o h').ints;have rb:∀h',ak h' 1 w'=some (e.map ci):=λh'=>(p h').ints
  by_cases a:0<=x
  ·by_cases hxy:x=y
   ·simp only[sz,simprocAttr,h1,h5,rb,i,q3,ci,hxy,St];have a:0<=y:=by omega
    simp only[sz,simprocAttr,a,h0,h1,h5,ra,rb,i,q2,q3,n,ci,hxy];rw[iM,c,b];simp[hxy]
   ·simp only[sz,simprocAttr,h0,h1,h5,ra,rb,i,q2,q3,n,ci,a,hxy];have:S.UZ vals e j=false:=by rw[b];simp;omega
    rw[S.T_,kV f this]
  ·simp only[sz,simprocAttr,h0,h1,h5,rb,i,q3,ci,a,St];rw[iM,c,b];simp;omega
 ·rintro t df g ⟨rfl,⟨h0,h1,-⟩,c⟩;simp only[sz,simprocAttr,mS];rw[S.T_,c]
theorem Ij(hd:0<d)(hm:Agg n P k g.h v)(hr:NR n):am C0 d 68 [v] g=.val (ZJ (S.UU n:Int)):=by have hl2:=hr.l2;obtain⟨v',e,cs,rfl,hc⟩:=jC (bW n) (by decide) d hm;have a:∀h,Agg n NoP (max k d) h (.agg cs):=λh=>⟨_,rfl,Rp.tree hc (Vu _)⟩;obtain⟨b,rfl,hN⟩:=dI.1 hc;rw[wA];refine eE zn (xs:=[.agg [ZJ n.grain,b]]) (by simp only[aG,e]) (by simp[mV]) hd ?_;simp only[sz,simprocAttr,mV,qg];refine bi (yn (VI d) (a _) (by omega)) λrc hrc=>?_;have hs:=λg=>Bu (d:=d+1) (g:=g) (P:=NoP) (k:=0) (VI d) (hrc.sl g.h);rw[yx hr.cs (by rw[aH];omega),<-hr.wl.2.2]at hs;simp only[sz,simprocAttr,hs]
theorem By{w:Nat}(hd:0<d)(hm:Agg n P k g.h v)(hr:NR n)(hw:w<9223372036854775808):∃r,am C0 d 70 [v,ZJ (w:Int)] g=.val r/\IT 0 (S.TK (S.Tx n) (w:Int)) r:=by have hl2:=hr.l2;obtain⟨v',e,cs,rfl,hc⟩:=jC (bW n) (by decide) d hm;have a:∀h,Agg n NoP (max k d) h (.agg cs):=λh=>⟨_,rfl,Rp.tree hc (Vu _)⟩;obtain⟨b,rfl,hN⟩:=dI.1 hc;rw[wy];refine a_ zl (xs:=[.agg [ZJ n.grain,b],ZJ (w:Int)]) (by simp only[aG,e,bS 0]) (by simp[mT]) (aY _) (by decide) hd ?_;simp only[sz,simprocAttr,mT,p_];refine bi (yn (VI d) (a _) (by omega)) λrc hrc=>?_;simp only[sz,simprocAttr];refine bi (LM (d:=d+1) (P:=NoP) (k:=0) (l:=S.Tx n) (h:=(w:Int)) (VI d) (hrc.sl _) (by rw[aH];omega) (λc hc=>by have:=hr.cs c hc;omega) ⟨X4 w,by omega⟩) λr hr2=>?_;simp only[sz,simprocAttr];obtain⟨w,hw,hs⟩:=hr2;exact⟨_,w,hw,hs.tree (Vu _)⟩
theorem QC{x:Node}{r:List Int}(hd:0<d)(hm:Agg n NoP 0 g.h v)(hr:NR n)(hx:n.nodes[i]?=some x)(hw:SlR P2 k2 g.h vals w)(hv:InC (S.Tx n) vals)
  (hj:S.TC (S.TA (S.Tx n) x.parents) (S.TA vals x.parents)=(j:Int)) (hrr:x.rows[j]?=some r):∃z,am C0 d 66 [v,ZJ (i:Int),w] g=.val z/\IT 0 r z:=by
 obtain⟨w',e2,u⟩:=bm hw d;obtain⟨b,rows,rfl,e,q,hN,B,H,E,F⟩:=dZ d hm;have o:=VA hx;obtain⟨pa,ra,A,hlt,s,t⟩:=E i x hx;obtain⟨rr,s1,s2,s3,s4⟩:=xh t;obtain⟨z,q2,f,hz⟩:=s3 j r hrr;have hl2:=hr.l2;have D:=fS (hr.places x o) (by omega);have a:=hr.pin o;have C:=(Vv.1 hx).1;have m:=F (by omega);have y:=s4 (by omega);rw[sS];refine a_ wL (xs:=[.agg [ZJ n.grain,b],ZJ (i:Int),w']) (by simp only[aG,e,e2,bS 0]) (by simp[kz]) (aY _) (by decide) hd ?_;simp only[sz,simprocAttr,kz,o_,B,hlt,A,m];refine bi (ue (VI d) (q _) (by omega) hx (by omega) (λp hp=>by have:=a p hp;rw[aH]at this;exact this)) λrc hrc=>?_;simp only[sz,simprocAttr,B,hlt,A,m];refine bi (H9 (d:=d+1) (P:=NoP) (P2:=NoP) (k:=max k2 d) (k2:=0) (l:=vals) (p:=x.parents) (VI d) (u _) (s.tree (Vu _)) (by omega) (λp hp=>by have:=a p hp;rw[<-hv.len]at this;exact this)) λrv hrv=>?_;have c:=λg=>F_ (d:=d+1) (g:=g) (P:=NoP) (P2:=NoP) (k:=0) (k2:=0) (cards:=S.TA (S.Tx n) x.parents) (vals:=S.TA vals x.parents) (VI d) (hrc.sl g.h) (hrv.sl g.h) (by simp[S.TA];omega) (eG hr.cs a) (Bl hv a);rw[hj]at c;simp only[sz,simprocAttr,c,s1,q2,f];exact⟨_,z,rfl,hz.tree (Vu _)⟩
theorem Ii{w:Nat}(hd:0<d)(hm:Agg n NoP 0 g.h v)(hr:NR n)(hw:w<9223372036854775808):am C0 d 71 [v,ZJ (w:Int)] g=.val (ZJ (S.UD n (S.TK (S.Tx n) (w:Int)))):=by
 obtain⟨b,rows,rfl,e,f,hN,H,I,J,K⟩:=dZ d hm;have m:=vQ (λc hc=>(hr.cs c hc).1) (w:Int);have o:=rM (S.Tx n) (w:Int);rw[aH]at o;have hl2:=hr.l2;rw[wz];refine eE zm (xs:=[.agg [ZJ n.grain,b],ZJ (w:Int)]) (by simp only[aG,e,bS 0]) (by simp[mU]) hd ?_;simp only[sz,simprocAttr,mU,qc];refine bi (By (d:=d+1) (P:=NoP) (k:=0) (w:=w) (VI d) (f _) hr hw) λrv hrv=>?_;simp only[sz,simprocAttr,nY];generalize S.TK (S.Tx n) (w:Int)=vals at *;refine aP n.nodes.length (by omega) (λj t df g=>df=[]/\St t [(2,ZK 0),(5,rv),(6,ZJ (S.Ty ((List.range j).map (S.TL n vals))))]/\g.h.get 0=Y6 2 [[ZJ n.grain,b]])
  ⟨rfl,by simp[St,sx,S.Ty],by simp[sx]⟩ (by simp[sx]) (by decide) (by rintro j t df g v s (rfl|rfl|rfl)<;>simp[St,sx]) ?_ ?_ ?_
 ·rintro j t df g q ⟨rfl,⟨h2,h5,a,-⟩,hg⟩ h7;simp only[sz,simprocAttr,h2,h5,a,h7,hg,hN.len,St]
 ·rintro j t df g q ⟨rfl,⟨h2,h5,a,-⟩,hg⟩ h7;obtain⟨x,hx,-,-⟩:=ae q;obtain⟨i,r,c,y,f1,f2,u,A,B,F,l,p,-,-⟩:=FN hr m hx;obtain⟨c,rfl⟩:=Vy B;rw[VU]at l;have ri:=λh=>hrv.rows h;have C:j<(vals.map ci).length:=by rw[VF];omega
  have D:(vals.map ci)[j]?=some (ci (c:Int)):=by rw[Vw,A];rfl
  have wb:=uO hr m (j:=j+1) (by omega);rw[BK,p]at wb;have w1:IntKind.wrap .i64 (S.Ty ((List.range j).map (S.TL n vals))*y)=S.Ty ((List.range (j+1)).map (S.TL n vals)):=by rw[BK,p,ap (by omega) (by omega)]
  simp only[sz,simprocAttr,h2,h5,a,h7,hg];refine bi (QC (d:=d+1) (P2:=NoP) (k2:=0) (i:=j) (VI d) (f _) hr hx (hrv.sl _) m f1 u) λz hz=>?_;have rz:=λh=>hz.rows h;have u3:c<(r.map ci).length:=by rw[VF];exact (Vv.1 l).1
  have E:(r.map ci)[c]?=some (ci y):=by rw[Vw,l];rfl
  simp only[sz,simprocAttr,h2,h5,h7,hg,ri,rz,C,D,u3,E,ci,St,w1]
 ·rintro t df g ⟨rfl,⟨h2,h5,a,-⟩,hg⟩;simp only[sz,simprocAttr,nZ,a]
  rfl
theorem Oq(hd:0<d)(hm:Agg n NoP 0 g.h v)(hr:NR n)(he:SlR P2 k2 g.h e w)(hel:e.length=n.nodes.length):am C0 d 36 [v,w] g=.val (ZJ (S.UJ n e)):=by
 obtain⟨w',e2,i⟩:=bm he d;obtain⟨b,rows,rfl,e1,c,hN,o,p,q,r⟩:=dZ d hm;have hl2:=hr.l2;obtain⟨wl1,wl2,wl3⟩:=hr.wl;rw[zc];refine eE B_ (xs:=[.agg [ZJ n.grain,b],w']) (by simp only[aG,e1,e2]) (by simp[qW]) hd ?_;simp only[sz,simprocAttr,qW,tk,se,sg];refine aP (S.UU n) (by omega) (λj t df g=>df=[]/\St t [(1,w'),(2,ZK 0),(5,ZJ (S.Uj n (λw=>S.T_ (S.TK (S.Tx n) (w:Int)) e) j))]/\g.h.get 0=Y6 2 [[ZJ n.grain,b]])
  ⟨rfl,by simp[St,sx,S.Uj],by simp[sx]⟩ (by simp[sx]) (by decide) (by rintro j t df g v s (rfl|rfl|rfl)<;>simp[St,sx]) ?_ ?_ ?_
 ·rintro j t df g m ⟨rfl,⟨h1,h2,h5,-⟩,hg⟩ f;have hw:=λg=>Ij (d:=d+1) (g:=g) (P:=NoP) (k:=0) (VI d) (c g.h) hr;simp only[sz,simprocAttr,h1,h2,h5,f,hg,hw,St]
 ·rintro j t df g m ⟨rfl,⟨h1,h2,h5,-⟩,hg⟩ f;simp only[sz,simprocAttr,h2,f,hg];refine bi (By (d:=d+1) (P:=NoP) (k:=0) (w:=j) (VI d) (c _) hr (by omega)) λrv hrv=>?_;have a:=λg=>GU (d:=d+1) (g:=g) (P:=NoP) (P2:=NoP) (k:=0) (k2:=max k2 d) (vals:=S.TK (S.Tx n) (j:Int)) (e:=e) (VI d) (hrv.sl g.h) (i g.h) (by rw[rM,aH,hel]);have sb:=vO hr (λw=>S.T_ (S.TK (S.Tx n) (w:Int)) e) (j+1);cases hmt:S.T_ (S.TK (S.Tx n) (j:Int)) e with
  | true =>
   have l:=λg=>Ii (d:=d+1) (g:=g) (w:=j) (VI d) (c g.h) hr (by omega);rw[hmt]at a;have w1:IntKind.wrap .i64 (S.Uj n (λw=>S.T_ (S.TK (S.Tx n) (w:Int)) e) j+S.UD n (S.TK (S.Tx n) (j:Int)))=S.Uj n (λw=>S.T_ (S.TK (S.Tx n) (w:Int)) e) (j+1):=by
    have e1:S.Uj n (λw=>S.T_ (S.TK (S.Tx n) (w:Int)) e) (j+1)=S.Uj n (λw=>S.T_ (S.TK (S.Tx n) (w:Int)) e) j+S.UD n (S.TK (S.Tx n) (j:Int)):=by rw[S.Uj,hmt];rfl
    rw[<-e1,ap (by omega) (by omega)]
   simp only[sz,simprocAttr,h1,h2,h5,f,hg,a,l,St,w1]
  | false =>
   rw[hmt]at a;have e1:S.Uj n (λw=>S.T_ (S.TK (S.Tx n) (w:Int)) e) (j+1)=S.Uj n (λw=>S.T_ (S.TK (S.Tx n) (w:Int)) e) j:=by rw[S.Uj,hmt];simp
   simp only[sz,simprocAttr,h1,h2,h5,f,hg,a,St,e1]
 ·rintro t df g ⟨rfl,⟨h1,h2,h5,-⟩,hg⟩;simp only[sz,simprocAttr,si,h5]
  rfl
theorem Oj(hd:0<d)(hm:Agg n P k g.h v)(he:SlR P2 k2 g.h e w):am C0 d 61 [v,w] g=.val (.bool (S.TY n e)):=by
 obtain⟨w',e2,f⟩:=bm he d;obtain⟨v',e1,cs,rfl,hc⟩:=jC (bW n) (by decide) d hm;obtain⟨b,rfl,hN⟩:=dI.1 hc;obtain⟨rows,m,D,B,C⟩:=hN.all;have m:∀h',ak h' 3 b=some rows:=m;have n2:=λg=>(f .nil).len g;have rb:=λh=>(f h).ints;rw[uw];refine gZ wJ (xs:=[.agg [ZJ n.grain,b],w']) (by simp only[aG,e1,e2]) (by simp[f_]) hd ?_;have p:=he.1
 by_cases hl:e.length=n.nodes.length
 ·simp only[sz,simprocAttr,f_,ij,lM,n2,hN.len,hl];refine aP e.length p (λj t df g=>df=[]/\St t [(1,w'),(2,ZK 0)]/\g.h.get 0=Y6 2 [[ZJ n.grain,b]]/\((List.range j).all λv=>decide (-1<=e[v]?.getD 0)&&decide (e[v]?.getD 0<(S.Tx n)[v]?.getD 0))=true)
   ⟨rfl,by simp[St,sx],by simp[sx],by simp⟩ (by simp[sx]) (by decide) (by rintro j t df g v s (rfl|rfl|rfl)<;>simp[St,sx]) ?_ ?_ ?_
  ·rintro j t df g i ⟨rfl,⟨h1,h2,-⟩,hg,ha⟩ h5;simp only[sz,simprocAttr,h1,h2,h5,hg,n2,St,ha]
  ·rintro j t df g i ⟨rfl,⟨h1,h2,-⟩,hg,ha⟩ h5;obtain⟨y,r,-,-⟩:=ae i;obtain⟨x,hx,-,-⟩:=ae (l:=n.nodes) (j:=j) (by omega);obtain⟨row,A,q2⟩:=B j x hx;obtain⟨a',b',rfl,-,-⟩:=bM.1 q2;have hlt:j<rows.length:=by omega
   have c:=C (by omega);have u:j<(e.map ci).length:=by simpa using i
   have z:(e.map ci)[j]?=some (ci y):=by rw[Vw,r];rfl
   have a:(S.Tx n)[j]?.getD 0=x.card:=by simp[S.Tx,hx]
   have q:((List.range (j+1)).all λv=>decide (-1<=e[v]?.getD 0)&&decide (e[v]?.getD 0<(S.Tx n)[v]?.getD 0))=(decide (-1<=y)&&decide (y<x.card)):=by rw[WC,List.all_append,ha,a.symm];simp[r]
   have bad:(decide (-1<=y)&&decide (y<x.card))=false->S.TY n e=false:=λh=>by
    rw[S.TY];have:((List.range e.length).all λv=>decide (-1<=e[v]?.getD 0)&&decide (e[v]?.getD 0<(S.Tx n)[v]?.getD 0))=false:=by rw[<-XM,VQ];intro h2;have:=h2 j (VM.2 i);rw[r,VB,a,h]at this;cases this
    rw[this,YZ]
   by_cases c1:y < -1
   ·have:=bad (by simp;omega);simp only[sz,simprocAttr,h1,h5,rb,u,z,ci,c1,this]
   ·by_cases c2:x.card<=y
    ·have:=bad (by simp;omega);simp only[sz,simprocAttr,h1,h2,h5,hg,rb,m,hlt,A,c,u,z,ci,c1,c2,this]
    ·simp only[sz,simprocAttr,h1,h2,h5,hg,rb,m,hlt,A,c,u,z,ci,c1,c2,St,q];simp;omega
  ·rintro t df g ⟨rfl,⟨h1,h2,-⟩,hg,ha⟩;simp only[sz,simprocAttr,lN];rw[S.TY,ha,hl];simp
 ·have o:¬((e.length:Int)=(n.nodes.length:Int)):=by omega
  simp only[sz,simprocAttr,f_,ij,n2,hN.len,o];rw[S.TY];simp[hl]
theorem Lq(hd:0<d)(hm:Agg n NoP 0 g.h v)(he:SlR P2 k2 g.h e w) :
  am C0 d 31 [v,w] g=.val (ZJ (S.Ue n e)):=by
 obtain⟨b,rows,rfl,e1,a,hN,-⟩:=dZ d hm;obtain⟨w',e2,c⟩:=bm he d;have f:=λg:G=>LA (d:=d+1) (g:=g) (VI d) (a g.h);have k2:=λg:G=>Oj (d:=d+1) (g:=g) (P:=NoP) (k:=0) (VI d) (a g.h) (c g.h);rw[xL];refine eE AI (xs:=[.agg [ZJ n.grain,b],w']) (by simp only[aG,e1,e2]) (by simp[gS]) hd ?_;rw[S.Ue];cases c1:S.T3 n with
 |false=>simp only[sz,simprocAttr,gS,ib,f,c1]
 | true=>cases c2:S.TY n e with
  |false=>simp only[sz,simprocAttr,gS,ib,f,c1,k2,c2]
  |true=>simp only[sz,simprocAttr,gS,ib,f,c1,k2,c2]
theorem LD(hd:0<d)(hm:Agg n P k g.h v)(hr:NR n):am C0 d 37 [v] g=.val (ZJ (S.UR n)):=by
 have hl2:=hr.l2;have i:=hr.g1;have m:=hr.g2;obtain⟨v',e,cs,rfl,hc⟩:=jC (bW n) (by decide) d hm;obtain⟨b,rfl,hN⟩:=dI.1 hc;rw[xK];refine eE AH (xs:=[.agg [ZJ n.grain,b]]) (by simp only[aG,e]) (by simp[pd]) hd ?_;simp only[sz,simprocAttr,pd,sn,qd];have f:∀j,j<=8->0<=S.Ty (List.replicate j n.grain)/\S.Ty (List.replicate j n.grain)<=167961600000000:=λj c=>by
  have h1:=jf (l:=List.replicate j n.grain) λx hx=>by have:=(XK.1 hx).2;omega
  have h2:=JZ (k:=(List.replicate j n.grain).length) (by simpa using c);omega
 refine aP n.nodes.length (by omega) (λj t df g=>df=[]/\St t [(1,ZK 0),(3,ZJ (S.Ty (List.replicate j n.grain)))]/\g.h.get 0=Y6 2 [[ZJ n.grain,b]])
  ⟨rfl,by simp[St,sx,S.Ty],by simp[sx]⟩ (by simp[sx]) (by decide) (by rintro j t df g v s (rfl|rfl|rfl)<;>simp[St,sx]) ?_ ?_ ?_
 ·rintro j t df g c ⟨rfl,⟨h1,a,-⟩,hg⟩ h4;simp only[sz,simprocAttr,h1,a,h4,hg,hN.len,St]
 ·rintro j t df g c ⟨rfl,⟨h1,a,-⟩,hg⟩ h4;have e1:S.Ty (List.replicate (j+1) n.grain)=S.Ty (List.replicate j n.grain)*n.grain:=by rw[List.replicate_succ',iH]
  have hb:=f (j+1) (by omega);have w1:IntKind.wrap .i64 (S.Ty (List.replicate j n.grain)*n.grain)=S.Ty (List.replicate (j+1) n.grain):=by rw[<-e1,ap (by omega) (by omega)]
  simp only[sz,simprocAttr,h1,a,h4,hg,St,w1]
 ·rintro t df g ⟨rfl,⟨h1,a,-⟩,hg⟩;simp only[sz,simprocAttr,qf,a]
  rfl
theorem OB{x:Node}{r:List Int}(hd:0<d)(hm:Agg n NoP 0 g.h v)(hr:NR n)(hx:n.nodes[i]?=some x)(hw:SlR P2 k2 g.h vals w)(hvl:vals.length=n.nodes.length)(hC:InC (S.TA (S.Tx n) x.parents) (S.TA vals x.parents))
  (hj:S.TC (S.TA (S.Tx n) x.parents) (S.TA vals x.parents)=(j:Int)) (hrr:x.rows[j]?=some r):∃z,am C0 d 66 [v,ZJ (i:Int),w] g=.val z/\IT 0 r z:=by
 obtain⟨w',e2,u⟩:=bm hw d;obtain⟨b,rows,rfl,e,q,hN,B,H,E,F⟩:=dZ d hm;have o:=VA hx;obtain⟨pa,ra,A,hlt,s,t⟩:=E i x hx;obtain⟨rr,s1,s2,s3,s4⟩:=xh t;obtain⟨z,q2,f,hz⟩:=s3 j r hrr;have hl2:=hr.l2;have D:=fS (hr.places x o) (by omega);have a:=hr.pin o;have C:=(Vv.1 hx).1;have m:=F (by omega);have y:=s4 (by omega);rw[sS];refine a_ wL (xs:=[.agg [ZJ n.grain,b],ZJ (i:Int),w']) (by simp only[aG,e,e2,bS 0]) (by simp[kz]) (aY _) (by decide) hd ?_;simp only[sz,simprocAttr,kz,o_,B,hlt,A,m];refine bi (ue (VI d) (q _) (by omega) hx (by omega) (λp hp=>by have:=a p hp;rw[aH]at this;exact this)) λrc hrc=>?_;simp only[sz,simprocAttr,B,hlt,A,m];refine bi (H9 (d:=d+1) (P:=NoP) (P2:=NoP) (k:=max k2 d) (k2:=0) (l:=vals) (p:=x.parents) (VI d) (u _) (s.tree (Vu _)) (by omega) (λp hp=>by have:=a p hp;rw[aH,<-hvl]at this;exact this)) λrv hrv=>?_;have c:=λg=>F_ (d:=d+1) (g:=g) (P:=NoP) (P2:=NoP) (k:=0) (k2:=0) (cards:=S.TA (S.Tx n) x.parents) (vals:=S.TA vals x.parents) (VI d) (hrc.sl g.h) (hrv.sl g.h) (by simp[S.TA];omega) (eG hr.cs a) hC;rw[hj]at c;simp only[sz,simprocAttr,c,s1,q2,f];exact⟨_,z,rfl,hz.tree (Vu _)⟩
theorem OH{a b:List Int}(hd:0<d)(hv:SlR P k g.h a v)(hw:SlR P2 k2 g.h b w):am C0 d 64 [v,w] g=.val (.bool (decide (a=b))):=by
 obtain⟨v',e1,p⟩:=bm hv d;obtain⟨w',e2,q⟩:=bm hw d;have vl:∀g,dH .slice v' g=.val (ZJ (a.length:Int)):=λg=>(p .nil).len g;have wl:∀g,dH .slice w' g=.val (ZJ (b.length:Int)):=λg=>(q .nil).len g;have va:=λh=>(p h).ints;have wb:=λh=>(q h).ints;rw[za];refine gZ B8 (xs:=[v',w']) (by simp only[aG,e1,e2]) (by simp[lX]) hd ?_
 by_cases hl:a.length=b.length
 ·have e:(a.length:Int)=(b.length:Int):=by omega
  simp only[sz,simprocAttr,lX,vl,wl,e,rV];refine aP a.length hv.1 (λj t df g=>df=[]/\St t [(0,v'),(1,w')]/\a.take j=b.take j)
   ⟨rfl,by simp[St,sx],rfl⟩ (by simp[sx]) (by decide) (by rintro j t df g v s (rfl|rfl|rfl)<;>simp[sx,St]) ?_ ?_ ?_
  ·rintro j t df g i ⟨rfl,⟨h0,h1,-⟩,he⟩ h5;simp only[sz,simprocAttr,h0,h5,vl];exact⟨by simp[St,sx,h0,h1],he⟩
  ·rintro j t df g i ⟨rfl,⟨h0,h1,-⟩,he⟩ h5;obtain⟨x,hx,m,-⟩:=ae i;obtain⟨y,n,o,-⟩:=ae (l:=b) (j:=j) (by omega);have r:j<(a.map ci).length:=by simpa using i
   have u:(a.map ci)[j]?=some (ci x):=by rw[Vw,hx];rfl
   have u3:j<(b.map ci).length:=by simp;omega
   have z:(b.map ci)[j]?=some (ci y):=by rw[Vw,n];rfl
   by_cases c:x=y
   ·subst c;simp only[sz,simprocAttr,h0,h1,h5,va,wb,r,u,u3,z,ci];rw[m,o,he];simp[St,sx,h0,h1,h5]
   ·have f:¬a=b:=λh=>c (by rw[h]at hx;rw[hx]at n;injection n);simp only[sz,simprocAttr,h0,h1,h5,va,wb,r,u,u3,z,ci,c];rw[We f]
  ·rintro t df g ⟨rfl,-,he⟩;rw[VX (Vu _),VX (by omega)]at he;simp only[sz,simprocAttr,rY];rw[Wz he]
 ·have f:¬a=b:=λh=>hl (by rw[h]);have e:¬(a.length:Int)=(b.length:Int):=by omega
  simp only[sz,simprocAttr,lX,vl,wl,e];rw[We f]
theorem Qm(hr:NR n){w:List Int}(hw:w.length=n.nodes.length)(s:Nat):S.UB w s=(S.TU w s).take n.nodes.length:=by have hl:=hr.l2;rw[S.UB,S.TU,hw,<-Yy,List.take_range,WX hl]
def KyN(n:Net)(k:List Int):Prop:=k.length=8/\k.drop n.nodes.length=List.replicate (8 - n.nodes.length) (-1)
theorem JL(hr:NR n)(w:List Int)(hs:s<2 ^ n.nodes.length):KyN n (S.TU w s):=by
 have hl:=hr.l2;refine⟨by simp[S.TU],Xm λi=>?_⟩;rw[WG,XO,S.TU,Vw]
 by_cases h:i<8 - n.nodes.length
 ·have hb:s.testBit (n.nodes.length+i)=false:=Nat.testBit_lt_two_pow (VL hs (V_ (by decide) (by omega)));rw[VC h,XA (by omega),WM,hb];rfl
 ·rw[Vz h,Wx (by simp;omega)];rfl
theorem R0{a b:List Int}(ha:KyN n a)(hb:KyN n b):a.take n.nodes.length=b.take n.nodes.length↔a=b:=by
 constructor
 ·intro h;rw[<-WS n.nodes.length a,<-WS n.nodes.length b,h,ha.2,hb.2]
 ·intro h;rw[h]
theorem xk(l:List Sp)(i:Nat)(x:Sp):(l.map cs3).set i (cs3 x)=(l.set i x).map cs3:=by rw[Xa]
theorem Gq{b:Nat}{sz:Nat}(h:Own g b v sz rows){off:Nat}(hi:i<rows.length):Gp (eJ sz v i off)=.val (eJ sz v i off):=by
 rcases h with⟨rfl,rfl⟩|⟨id,ep,lo,h1,h2,rfl,k⟩
 ·simp at hi
 ·rfl
theorem D_{b:Nat}{sz:Nat}(h:Own g b v sz rows)(hi:i<rows.length)(k:Nat):HI k (eJ sz v i 0)=.val (eJ sz v i k):=by
 rcases h with⟨rfl,rfl⟩|⟨id,ep,lo,h1,h2,rfl,a⟩
 ·simp at hi
 ·simp only[eJ,HI,WE]
theorem KC{m x y:Nat}{z:Int}(hd:0<d)(hl:SlR P k g.h l w)(hm:l.length<=m)(hm2:m<=100)(hx:x<256)(hy:y<256) :
  ∃r,am C0 d 10 [.agg [.int .u8 (x:Int),.int .u8 (y:Int),ZJ z],w] g=.val r/\Fd (m+1) NoP 0 .nil r:=by
 obtain⟨w',e2,C⟩:=bm hl d;rw[uW];refine a_ xZ (xs:=[.agg [.int .u8 (x:Int),.int .u8 (y:Int),ZJ z],w']) (by simp only[aG,e2];rfl) (by simp[lA]) (G9 (m+1)) (by decide) hd ?_;have ws:=λh=>(C h).sps;simp only[sz,simprocAttr,lA];obtain⟨g0,hg0⟩:∃g0,g0=G.empty.new (Y6 3 [[.int .u8 (x:Int),.int .u8 (y:Int),ZJ z]]):=⟨_,rfl⟩;rw[<-hg0];have f0:g0.h.get 0=Y6 3 [[.int .u8 (x:Int),.int .u8 (y:Int),ZJ z]]:=by rw[hg0];simp[sx]
 have M:g0.nx=1:=by rw[hg0];simp[sx]
 clear hg0;simp only[sz,simprocAttr,n7];refine aM (rows:=[]) (b:=1) (new:=l.map cs3) (.inl ⟨rfl,rfl⟩) (ws _) (by omega) (by simp[aT];omega) λv g1 f n1 f1 c1 _=>?_;have f:Own g1 1 v 3 (l.map cs3):=by simpa using f
 have p:g1.h.get 0=Y6 3 [[.int .u8 (x:Int),.int .u8 (y:Int),ZJ z]]:=by rw[f1 0 (by omega) (by simp[vid]),f0]
 have vl:=λg=>f.sat_len g;rw[VF]at vl;have out:∀(g:G) (v:AV) (L:List Sp),Own g 1 v 3 (L.map cs3)->L.length<=m+1->∃P,Fd (m+1) P 0 g.h v:=λg v L h h2=>⟨λ_=>True,L,h2,h.sps (by omega)⟩
 by_cases c0:l.length=0
 ·have e0:decide ((l.length:Int)=0)=true:=Wz (by omega);simp only[sz,simprocAttr,vl,e0];exact out _ _ _ f (by omega)
 have e0:decide ((l.length:Int)=0)=false:=We (by omega);refine aL (P:=λt' df g'=>df=[]/\g'=g1/\St t' [(2,ZK 0),(5,v)]) ?_ ?_
 ·simp only[sz,simprocAttr];simp[St,sx,EG]
 rintro t df g2 ⟨rfl,rfl,h2,h5,-⟩;refine bB (P:=λt' df g'=>df=[]/\g'=g2/\St t' [(2,ZK 0),(5,v)]) ?_ ?_
 ·simp only[sz,simprocAttr,h5,vl,e0];simp[St,sx,h2,h5]
 rintro t df g3 ⟨rfl,rfl,h2,h5,-⟩;obtain⟨i,hi⟩:∃i,i=y % l.length:=⟨_,rfl⟩;have o:i<l.length:=by rw[hi];exact WP _ (by omega)
 have K:IntKind.wrap .i64 (y:Int)=(y:Int):=ap (by omega) (by omega);have I:bQ .rem (ZJ (y:Int)) (ZJ (l.length:Int))=.val (ZJ (i:Int)):=by rw[cX .i64 (show (0:Int)<=(y:Int) by omega) (show (0:Int)<(l.length:Int) by omega),hi];congr 2
 obtain⟨⟨a,b,c⟩,D⟩:∃x,l[i]?=some x:=⟨_,Vt o⟩;have s:i<(l.map cs3).length:=by simpa using o
 have B:(l.map cs3)[i]?=some [ZJ a,ZJ b,ZJ c]:=by rw[Vw,D];rfl
 have rv:=f.rows;have nc:=Gq f (off:=0) s;have fa:=D_ f s;refine bB (P:=λt' df g'=>df=[]/\g'=g3/\St t' [(2,ZK 0),(5,v),(6,eJ 3 v i 0)]) ?_ ?_
 ·simp only[sz,simprocAttr,h2,h5,p,K,vl,I,rv,s];simp[St,sx,h2,h5]
 rintro t df F ⟨rfl,rfl,h2,h5,u,-⟩;have j:bQ .rem (.int .u8 (x:Int)) (.int .u8 6)=.val (.int .u8 ((x % 6:Nat):Int)):=by rw[cX .u8 (show (0:Int)<=(x:Int) by omega) (show (0:Int)<6 by omega)];congr 2
 have H:x % 6<6:=WP _ (by omega);have done:∀(t:T) (g:G) (v:AV) (L:List Sp),tat t 5=v->Own g 1 v 3 (L.map cs3)->L.length<=m+1->wp C0 (d+1) none eC (fnQ C0 (d+1) [SR.tm 4] λv g'=>∃P,Fd (m+1) P 0 g'.h v) t [] g:=λt g v L h5 h h'=>by simp only[sz,simprocAttr,eC,h5];exact out _ _ _ h h'
 have A:x % 6=0\/x % 6=1\/x % 6=2\/x % 6=3\/x % 6=4\/x % 6=5:=by omega
 rcases A with h|h|h|h|h|h
 ·rw[h]at j;simp only[sz,simprocAttr,h2,u,p,j,nc,fa];refine bK (v:=v) (sz:=3) (n:=1) (i:=i) (off:=0) (x:=ZJ z) (row:=cs3 (a,b,c)) (row':=cs3 (z,b,c)) f B rfl rfl rfl λg5 o5 n5 f5=>?_;rw[xk]at o5;simp only[sz,simprocAttr];exact done _ _ _ _ (by simp[sx,h5]) o5 (by simp;omega)
 ·rw[h]at j;simp only[sz,simprocAttr,h2,u,p,j,nc,fa];refine bK (v:=v) (sz:=3) (n:=1) (i:=i) (off:=1) (x:=ZJ z) (row:=cs3 (a,b,c)) (row':=cs3 (a,z,c)) f B rfl rfl rfl λg5 o5 n5 f5=>?_;rw[xk]at o5;simp only[sz,simprocAttr];exact done _ _ _ _ (by simp[sx,h5]) o5 (by simp;omega)
 ·rw[h]at j;simp only[sz,simprocAttr,h2,u,p,j,nc,fa];refine bK (v:=v) (sz:=3) (n:=1) (i:=i) (off:=2) (x:=ZJ z) (row:=cs3 (a,b,c)) (row':=cs3 (a,b,z)) f B rfl rfl rfl λg5 o5 n5 f5=>?_;rw[xk]at o5;simp only[sz,simprocAttr];exact done _ _ _ _ (by simp[sx,h5]) o5 (by simp;omega)
 ·rw[h]at j;obtain⟨q,E,q2,q3⟩:=zW (α:=Sp) f (n:=l.length - 1) (by intro e;rw[e]at s;simp at s) (by simp);have E:tR 3 v none (some (ZJ ((l.length - 1:Nat):Int))) F=.val q:=E;have w1:IntKind.wrap .i64 ((l.length:Int) - 1)=((l.length - 1:Nat):Int):=by rw[ap (by omega) (by omega)];omega
  simp only[sz,simprocAttr,h2,h5,p,j,vl,w1,E,XV,XF];simp only[sz,simprocAttr,eC,q2.1,q2.2];exact⟨λ_=>True,l.take (l.length - 1),by simp;omega,_,rfl,q3 _ _ _ _ (λ_ _=>rfl) (Own.sl (α:=Sp) f (by omega) (Tx (λa=>Ox.2 rfl) l) λ_ _=>trivial)⟩
 ·rw[h]at j;have w1:IntKind.wrap .i64 ((l.length:Int) - 1)=(l.length:Int) - 1:=ap (by omega) (by omega);simp only[sz,simprocAttr,h2,h5,p,j,vl,w1];refine aM (new:=[cs3 (-1,(l.length:Int) - 1,z)]) (f.step (Fr.new _ _)) (by simp[sx,sy,cs3]) (by first| (simp;done)| (simp;omega)) (by simp[aT];omega) λv2 g5 hv2 n2 f2 c2 _=>?_;simp only[sz,simprocAttr];exact done _ _ v2 (l++[(-1,(l.length:Int) - 1,z)]) (by simp[sx]) (by simpa using hv2) (by first| (simp;done)| (simp;omega))
 ·rw[h]at j;simp only[sz,simprocAttr,h2,u,p,j,nc,fa,rv,s,B];refine bK (v:=v) (sz:=3) (n:=1) (i:=i) (off:=1) (x:=ZJ c) (row:=cs3 (a,b,c)) (row':=cs3 (a,c,c)) f B rfl rfl rfl λg5 o5 n5 f5=>?_;rw[xk]at o5;have J:((l.set i (a,c,c)).map cs3)[i]?=some (cs3 (a,c,c)):=by rw[Vw,WH o];rfl
  have nc5:=Gq o5 (off:=0) (i:=i) (by simpa using o);have fa5:=D_ o5 (i:=i) (by simpa using o);simp only[sz,simprocAttr,u,nc5,fa5];refine bK (v:=v) (sz:=3) (n:=1) (i:=i) (off:=2) (x:=ZJ b) (row:=cs3 (a,c,c)) (row':=cs3 (a,c,b)) o5 J rfl rfl rfl λg6 o6 n6 f6=>?_;rw[xk]at o6;simp only[sz,simprocAttr];exact done _ _ _ _ (by simp[sx,h5]) o6 (by simp;omega)
theorem Dd{k:Key}{p:Key×Int}:∀{L:Mem} {j:Nat},(∀q∈L.take j,q.1≠k)->L[j]?=some p->p.1=k->mgt L k=p.2/\cK L k=true
 |[],j,_,h,_=>by simp at h
 | q::L,0,_,h,hk=>by simp at h;subst h;obtain⟨a,v⟩:=q;dsimp only at hk;subst hk;simp[mgt,cK]
 | q::L,j+1,hn,h,hk=>by obtain⟨a,v⟩:=q;have h0:=hn (a,v) (by simp);have ih:=Dd (L:=L) (j:=j) (λq hq=>hn q (by simp[hq])) (by simpa using h) hk;have b:¬k=a:=λe=>h0 e.symm;refine⟨by rw[mgt,Vz b];exact ih.1,?_⟩;have:=ih.2;rw[cK,List.any_cons]at *;rw[this,YH]
theorem P_{k:Key}{L:Mem}(h:∀q∈L,q.1≠k):cK L k=false:=by rw[cK,List.any_eq_false];intro q hq;simpa using λe:k=q.1=>h q hq e.symm
def KpR(n:Net)(p:Key×Int)(row:List AV):Prop:=∃x,row=[ZJ p.1.1,x,ZJ p.2]/\SlR NoP 0 .nil (p.1.2.take n.nodes.length) x
structure RN (n:Net) (vr:List Nat) (size:Int) (b lv kv vv wv:AV) (pr:Nat) (st:MSt) (rows:List (List AV)) (g:G):Prop where
 q:g.h.get pr=rnO n.grain size st.2 b lv kv vv wv
 v:Own g 0 vv 1 (vr.map cu)
 w:Own g 0 wv 3 rows
 k:All2 (KpR n) st.1 rows
 dv:vid vv≠some pr
 dw:vid wv≠some pr
 ds:∀i,vid vv=some i->vid wv≠some i
 nx:pr<g.nx
 ky:∀p∈st.1,KyN n p.1.2
 ln:st.1.length<=1000
def LNu(pr:Nat)(i:Nat)(wv':AV)(ab:Nat)(x9:Nat)(cv:AV):List (Nat×AV):=[(0,ZK pr),(1,ZJ (i:Int)),(2,wv'),(3,ZL (ab:Int)),(9,ZK x9),(10,cv)]
theorem PW{key:List Int}(hd:0<d)(hR:RN n vr size b lv kv vv wv pr st rows g)(hk:KyN n key)(hc:SlR NoP 0 .nil (key.take n.nodes.length) cv)
  (ht:St t ((11,ZJ 0)::LNu pr i w0 ab x9 cv))
  (hit:∀t,cK st.1 ((i:Int),key)=true->tat t 8=ZJ (mgt st.1 ((i:Int),key))->Q .ret t [] g)
  (miss:∀t,cK st.1 ((i:Int),key)=false->St t (LNu pr i w0 ab x9 cv)->Q (.exit 0) t [] g) :
  wpL (wp C0 d none eW) Q t [] g:=by
 obtain⟨f,h0,h1,h2,m,h9,c,-⟩:=ht;have hq:=hR.q;have hl:=hR.k.len;have hw:=hR.w.rows;have F:=λg' (h:Own g' 0 wv 3 rows)=>h.sat_len g';have C:=hR.w.sat_len;have A:=hR.ln;simp only[eW];refine aP rows.length (by omega) (λj t df g'=>df=[]/\g'=g/\St t (LNu pr i w0 ab x9 cv)/\∀p∈st.1.take j,p.1≠((i:Int),key))
  ⟨rfl,rfl,by simp[St,LNu,h0,h1,h2,m,h9,c],by simp⟩ f (by decide) (by rintro j t df g v s (rfl|rfl|rfl)<;>simp[sx,St,LNu]) ?_ ?_ ?_
 ·clear h0 h1 h2 m h9 c f;rintro j t df g' y ⟨rfl,rfl,⟨h0,h1,h2,m,h9,c,-⟩,o⟩ f;simp only[sz,simprocAttr,h0,f,hq,rnO,aI,C];exact⟨by simp[St,LNu,sx,h0,h1,h2,m,h9,c],o⟩
 ·clear h0 h1 h2 m h9 c f;rintro j t df g' y ⟨rfl,rfl,⟨h0,h1,h2,m,h9,c,-⟩,o⟩ f;obtain⟨p,hp,u,D⟩:=ae (l:=st.1) (j:=j) (by omega);obtain⟨row,r,⟨x,E,hx⟩⟩:=hR.k.get hp;subst E;have B:=hR.ky p D;have fa:=λk=>D_ hR.w (show j<rows.length by omega) k;have ks:=λg=>OH (d:=d) (g:=g) hd (hx.tree (h':=g.h) (Vu 0)) (hc.tree (h':=g.h) (Vu 0))
  by_cases c1:p.1.1=(i:Int)
  ·by_cases c2:p.1.2=key
   ·have z:p.1.2.take n.nodes.length=key.take n.nodes.length:=by rw[c2]
    have hm:=Dd o hp (Prod.ext c1 c2);simp only[Wz z]at ks;simp only[sz,simprocAttr,h0,h1,c,f,hq,rnO,aI,hw,y,r,fa,c1,ks];exact hit _ hm.2 (by simp[sx,hm.1])
   ·have z:¬p.1.2.take n.nodes.length=key.take n.nodes.length:=λh=>c2 ((R0 B hk).1 h);simp only[We z]at ks;simp only[sz,simprocAttr,h0,h1,c,f,hq,rnO,aI,hw,y,r,fa,c1,ks];exact⟨by simp[St,LNu,sx,h0,h1,h2,m,h9,c],λq a=>by rw[u,V7]at a;rcases a with a|a;exact o q a;rw[VY]at a;rw[a];exact λe=>c2 (by rw[e])⟩
  ·simp only[sz,simprocAttr,h0,h1,c,f,hq,rnO,aI,hw,y,r,fa,c1];exact⟨by simp[St,LNu,sx,h0,h1,h2,m,h9,c],λq a=>by rw[u,V7]at a;rcases a with a|a;exact o q a;rw[VY]at a;rw[a];exact λe=>c1 (by rw[e])⟩
 ·rintro t df g' ⟨rfl,rfl,h,o⟩;rw[<-hl,VX (Vu _)]at o;exact miss t (P_ o) h
section
theorem Or(gr size c:Int)(b lv kv vv wv wv':AV)(g:G)(pq:Nat)(hc:wv'.cells=[wv'])(ht:wv'.isTup=false):ch (rnO gr size c b lv kv vv wv) g pq 0 0 1 5 wv'=.upd .undef (g.put pq (rnO gr size c b lv kv vv wv')):=by
 unfold rnO;rw[bf 8 _ 0 false g pq 0 1 5 wv' (by rw[hc];rfl) ht,VZ,hc];dsimp only;rw[eH (by simp)]
 rfl
theorem Ls(gr size c c':Int)(b lv kv vv wv:AV)(g:G)(pq:Nat):ch (rnO gr size c b lv kv vv wv) g pq 0 0 1 7 (ZJ c')=.upd .undef (g.put pq (rnO gr size c' b lv kv vv wv)):=by
 unfold rnO;rw[bf 8 _ 0 false g pq 0 1 7 (ZJ c') rfl rfl,VZ];rw[show (ZJ c').cells=[ZJ c'] from rfl];dsimp only;rw[eH (by simp)]
 rfl
theorem Bb{k:Key}{v:Int}:∀{L:Mem},cK L k=false->mst k v L=L++[(k,v)]
 |[],_=>rfl
 | (a,w)::r,h=>by
  have h2:¬k=a/\cK r k=false:=by simpa [cK] using h
  rw[mst,Vz h2.1,Bb h2.2];rfl
structure Rf (pr:Nat) (wv wv':AV) (g g':G):Prop where
 nx:g.nx<=g'.nx
 fr:∀j,j<g.nx->j≠pr->vid wv≠some j->g'.h.get j=g.h.get j
 vd:vid wv'=vid wv\/∃i,vid wv'=some i/\g.nx<=i
theorem Rf.refl(pr:Nat)(wv:AV)(g:G):Rf pr wv wv g g:=⟨Vu _,λ_ _ _ _=>rfl,.inl rfl⟩
theorem Rf.ne{wv':AV}{g':G}(h:Rf pr wv wv' g g')(hj:j<g.nx)(hv:vid wv≠some j):vid wv'≠some j:=by
 rcases h.vd with e|⟨i,e,hi⟩
 ·rw[e];exact hv
 ·rw[e];intro h2;injection h2 with h2;omega
theorem Rf.trans{w1 w2 w3:AV}{g1 g2 g3:G}(h:Rf pr w1 w2 g1 g2)(h':Rf pr w2 w3 g2 g3):Rf pr w1 w3 g1 g3 :=
 ⟨VR h.nx h'.nx,λj hj hp hv=>by rw[h'.fr j (VL hj h.nx) hp (h.ne hj hv),h.fr j hj hp hv],by
  rcases h'.vd with e|⟨i,e,hi⟩
  ·rw[e];exact h.vd
  ·exact .inr ⟨i,e,VR h.nx hi⟩⟩
theorem Rf.of{g':G}(hn:g.nx<=g'.nx)(hf:∀j,j<g.nx->j≠pr->g'.h.get j=g.h.get j):Rf pr wv wv g g':=⟨hn,λj hj hp _=>hf j hj hp,.inl rfl⟩
theorem Sd{V:Int}{key:List Int}(hsz:size<=1000)(hR:RN n vr size b lv kv vv wv pr st rows g)(hk:KyN n key)(hc:SlR NoP 0 .nil (key.take n.nodes.length) cv)
  (ht:St t ((12,ZJ V)::LNu pr i w0 ab x9 cv)) (hm:cK st.1 ((i:Int),key)=false)
  (hQ:∀t g' wv' rows',tat t 8=ZJ V->RN n vr size b lv kv vv wv' pr (if (st.1.length:Int)<size then mst ((i:Int),key) V st.1 else st.1,st.2) rows' g'->Rf pr wv wv' g g'->Q .ret t [] g') :
  wp C0 d none cY Q t [] g:=by
 obtain⟨a,h0,h1,h2,u,h9,o,-⟩:=ht;have hq:=hR.q;have hl:=hR.k.len;have f:=hR.w.sat_len;have r:cv.cells=[cv]/\cv.isTup=false:=by obtain⟨xc,xt⟩:=hc.cell;exact⟨xc,xt⟩
 have s:c8 [ZJ 0,.nils,ZJ 0] [((0,1),ZJ (i:Int)),((1,1),cv),((2,1),ZJ V)]=some [ZJ (i:Int),cv,ZJ V]:=by
  have y:(ZJ (i:Int)).cells=[ZJ (i:Int)]:=rfl;have k2:(ZJ (i:Int)).isTup=false:=rfl;have z:(ZJ V).cells=[ZJ V]:=rfl;have A:(ZJ V).isTup=false:=rfl;simp[c8,r,y,k2,z,A,iI]
  rfl
 by_cases c:(st.1.length:Int)<size
 ·have c':(rows.length:Int)<size:=by rw[<-hl];exact c
  simp only[cY,e6,sz,simprocAttr,h0,h1,o,a,s,hq,rnO,aI,f,c'];refine aM (new:=[[ZJ (i:Int),cv,ZJ V]]) (hR.w.step (Fr.new _ _)) (by simp[sx,sy]) (by simp) (by simp[aT];have:=hR.ln;omega) λv2 g2 hv2 n2 f2 d2 l2=>?_;have l:g2.h.get pr=rnO n.grain size st.2 b lv kv vv wv:=by rw[<-hq,f2 pr (by have:=hR.nx;simp[sx];omega) (by have:=hR.dw;simpa using this)];rw[G.new_h,af _ _ _ (by have:=hR.nx;omega)]
  have m:=λwv' g=>Or n.grain size st.2 b lv kv vv wv wv' g pr;simp only[rnO]at m l;simp only[sz,simprocAttr,l,aI,m _ _ hv2.cell.1 hv2.cell.2,a];have n3:g.nx<=g2.nx:=by simp at n2;omega
  have ff:∀i,i<g.nx->vid wv≠some i->i≠pr->(g2.put pr (rnO n.grain size st.2 b lv kv vv v2)).h.get i=g.h.get i:=λi h1 h2 u=>by rw[G.put_h,af _ _ _ u,f2 i (by simp;omega) h2,G.new_h,af _ _ _ (by omega)]
  have dd:vid v2≠some pr:=by
   rcases d2 with d2|⟨i,d2,d3⟩
   ·rw[d2];exact hR.dw
   ·rw[d2];intro e;injection e with e;have:=hR.nx;have x:g.nx<=i:=VR (by simp) d3;omega
  refine hQ _ (g2.put pr (rnO n.grain size st.2 b lv kv vv v2)) v2 (rows++[[ZJ (i:Int),cv,ZJ V]]) (by simp[sx]) ?_ ⟨by simpa using n3,λj hj hp hv=>ff j hj hv hp,d2.imp id λ⟨i,e,hi⟩=>⟨i,e,VR (by simp) hi⟩⟩;rw[VC c,Bb hm];refine⟨?_,?_,?_,?_,hR.dv,dd,?_,?_,?_,?_⟩
  ·rw[G.put_h,aJ]
  ·exact hR.v.fr (by simpa using n3) λi hi=>ff i (hR.v.lt hi).2 (hR.ds i hi) λe=>hR.dv (by rw[hi,e])
  ·exact hv2.fr (by simp) λi hi=>by rw[G.put_h,af _ _ _ (λe=>dd (by rw[hi,e]))]
  ·exact hR.k.append ⟨⟨cv,rfl,hc⟩,trivial⟩
  ·intro i hi;rcases d2 with d2|⟨j,d2,d3⟩
   ·rw[d2];exact hR.ds i hi
   ·rw[d2];intro e;injection e with e;have:=(hR.v.lt hi).2;have x:g.nx<=j:=VR (by simp) d3;omega
  ·have:=hR.nx;simp;omega
  ·intro p hp;rw[V7,VY]at hp;rcases hp with hp|rfl
   ·exact hR.ky p hp
   ·exact hk
  ·simp;omega
 ·have c':¬(rows.length:Int)<size:=by rw[<-hl];exact c
  simp only[cY,e6,sz,simprocAttr,h0,a,hq,rnO,aI,f,c',if_false,WV];refine hQ _ _ wv rows (by simp[sx]) ?_ (Rf.refl _ _ _);simpa [c] using hR
end
def SK(n:Net)(d v:Nat)(b:AV)(F:List Int->Int)(w:List Int):Prop:=∃(r:List Int) (a:Nat),w[v]?=some (a:Int)/\r[a]?=some (F w)/\∀x g,SlR NoP 0 .nil w x->∃z,am C0 d 66 [.agg [ZJ n.grain,b],ZJ (v:Int),x] g=.val z/\IT 0 r z
theorem On{v:Nat}{u p1 p2:AV}{F:List Int->Int}{ws:List (List Int)}(hR:RN n vr size b lv kv vv wv pr st rows g)(h9o:g.h.get x9=Y6 3 [[ZJ (v:Int),p1,p2]])
  (hF:∀w∈ws,SK n d v b F w) (hu:LLo g 0 u ws) (hws:ws.length<=65536)
  (hsm:∀k,k<=ws.length->0<=S.sm (λj=>F (ws[j]?.getD [])) k/\S.sm (λj=>F (ws[j]?.getD [])) k<9223372036854775808)
  (ht:St t ((14,ZJ 0)::(12,ZJ 0)::(13,u)::LNu pr i w0 ab x9 cv))
  (hQ:∀t,tat t 12=ZJ (S.sm (λj=>F (ws[j]?.getD [])) ws.length)->Q (.exit 2) t [] g) :
  wpL (wp C0 d none eX) Q t [] g:=by
 obtain⟨m,c,f,h0,h1,h2,p,h9,o,-⟩:=ht;have hq:=hR.q;obtain⟨xs,ho,y⟩:=hu;have hl:=y.len;have C:=ho.sat_len;simp only[eX];refine aP ws.length (by omega) (λj t df g'=>df=[]/\g'=g/\St t ((12,ZJ (S.sm (λj=>F (ws[j]?.getD [])) j))::(13,u)::LNu pr i w0 ab x9 cv))
  ⟨rfl,rfl,by simp[St,LNu,S.sm,h0,h1,h2,p,h9,o,c,f]⟩ m (by decide) (by rintro j t df g v s (rfl|rfl|rfl)<;>simp[sx,St,LNu]) ?_ ?_ ?_
 ·clear h0 h1 h2 p h9 o c f m;rintro j t df g' I ⟨rfl,rfl,⟨c,f,h0,h1,h2,p,h9,o,-⟩⟩ m;simp only[sz,simprocAttr,f,m,C];exact⟨by simp[hl],by simp[St,LNu,sx,h0,h1,h2,p,h9,o,c,f]⟩
 ·clear h0 h1 h2 p h9 o c f m;rintro j t df g' I ⟨rfl,rfl,⟨c,f,h0,h1,h2,p,h9,o,-⟩⟩ m;obtain⟨w,hw,J,D⟩:=ae (l:=ws) (j:=j) (by omega);obtain⟨x,hx,B⟩:=y.get hw;obtain⟨r,a,E,k2,K⟩:=hF w D;have H:j<(xs.map λx=>[x]).length:=by simp;omega
  have q2:(xs.map λx=>[x])[j]?=some [x]:=by rw[Vw,hx];rfl
  have A:=ho.rows;have rx:=λh=>(SlR.tree (h':=h) B (Vu 0)).ints;have L:v<(w.map ci).length:=by rw[VF];exact (Vv.1 E).1
  have M:(w.map ci)[v]?=some (ci (a:Int)):=by rw[Vw,E];rfl
  have u3:a<(r.map ci).length:=by rw[VF];exact (Vv.1 k2).1
  have N:(r.map ci)[a]?=some (ci (F w)):=by rw[Vw,k2];rfl
  have w1:IntKind.wrap .i64 (S.sm (λj=>F (ws[j]?.getD [])) j+F w)=S.sm (λj=>F (ws[j]?.getD [])) (j+1):=by have e:=hsm (j+1) (by omega);rw[S.sm,hw,VB]at e;rw[S.sm,hw,VB,ap (by omega) (by omega)]
  simp only[sz,simprocAttr,h0,h9,c,f,m,hq,rnO,aI,h9o,A,H,q2];refine bi (K x _ B) λz hz=>?_;have rz:=λh=>hz.rows h;simp only[sz,simprocAttr,h0,h9,c,f,m,hq,rnO,aI,h9o,A,H,q2,rx,rz,L,M,u3,N,ci,w1]
  and_intros<;>first|rfl|exact m|simp[St,LNu,sx,h0,h1,h2,p,h9,o,f]
 ·rintro t df g' ⟨rfl,rfl,c,-⟩;exact hQ t c
section
theorem NA(hr:NR n)(hl:LEl n l)(hi:i<l.length)(hx:(S.sp l i).1≠-1){w:List Int}(hw:Ev n e ab w):S.Tz n (S.TG n w (S.sp l i).1.toNat)=S.Tz n (S.TF ((S.vr n e l)[i]?.getD 0) ab):=by
 obtain⟨d,j⟩:=hl.f i hi hx;rw[S.Tz,S.Tz,ut hi hx];refine YB λv h=>?_;have h:=VM.1 h;rw[WU,jY hr (by omega),ei,Vx,jY hr (by omega),Wl]
 by_cases c:e[v]?.getD 0 = -1
 ·rw[hw.o v h c];constructor
  ·rintro⟨a,b⟩;exact⟨⟨a,c⟩,b⟩
  ·rintro⟨⟨a,-⟩,b⟩;exact⟨a,b⟩
 ·rw[hw.k v h c];constructor
  ·rintro⟨a,b⟩;exact absurd b c
  ·rintro⟨⟨-,b⟩,-⟩;exact absurd b c
def LfN(l:List Sp)(M:Mem):Prop:=∀(e:Int) (k:List Int),cK M (e,k)=true->∃e':Nat,e=(e':Int)/\(S.sp l e').1 = -1
theorem It{rec:Rec}{l:List Sp}{i a b:Nat}(ha:a<i)(hb:b<i)(hrec:∀x,x=a\/x=b->∀(w:List Int) (ab:Nat) (st:MSt) (e:Int) (k:List Int),cK (rec x w ab st).2.1 (e,k)=true->cK st.1 (e,k)=true\/∃e':Nat,e=(e':Int)/\e'<=x/\(S.sp l e').1 = -1)
  {n:Net} {w:List Int} {cu:List Nat} {ab:Nat} {st:MSt}:∀(j:Nat) (e:Int) (k:List Int),cK (S.Us rec n w cu a b ab st j).2.1 (e,k)=true->cK st.1 (e,k)=true\/∃e':Nat,e=(e':Int)/\e'<i/\(S.sp l e').1 = -1
 |0,e,k,h=>.inl h
 | j+1,e,k,h=>by
  rw[S.Us]at h;rcases hrec b (.inr rfl) _ _ _ e k h with h|⟨e',h1,h2,c⟩
  ·rcases hrec a (.inl rfl) _ _ _ e k h with h|⟨e',h1,h2,c⟩
   ·exact It ha hb hrec j e k h
   ·exact .inr ⟨e',h1,by omega,c⟩
  ·exact .inr ⟨e',h1,by omega,c⟩
theorem HX{n:Net}{l:List Sp}{vr:List Nat}{size:Int}(hl:LEl n l):∀(f i:Nat) (w:List Int) (ab:Nat) (st:MSt) (e:Int) (k:List Int),i<l.length->cK (S.TD n l vr size f i w ab st).2.1 (e,k)=true->cK st.1 (e,k)=true\/∃e':Nat,e=(e':Int)/\e'<=i/\(S.sp l e').1 = -1
 |0,i,w,ab,st,e,k,_,h=>.inl h
 | f+1,i,w,ab,st,e,k,hi,h=>by
  rw[S.TD]at h
  by_cases hx:(S.sp l i).1 = -1
  ·rw[VC hx]at h;obtain⟨d,m,o,p⟩:=hl.j i hi hx;have key:=λ(w:List Int) (cu:List Nat) (ab:Nat) (st:MSt) (j:Nat)=>It (rec:=S.TD n l vr size f) (l:=l) (i:=i) (a:=(S.sp l i).2.1.toNat) (b:=(S.sp l i).2.2.toNat) (by omega) (by omega) (λx hxx w ab st e k h=>HX hl f x w ab st e k (by omega) h) (n:=n) (w:=w) (cu:=cu) (ab:=ab) (st:=st) j
   split at h
   ·exact .inl h
   ·dsimp only at h
    split at h
    ·rw[Ba,Wh]at h;rcases h with h|h
     ·have e1:e=(i:Int):=congrArg Prod.fst (YE h);exact .inr ⟨i,e1,Vu _,hx⟩
     ·rcases key _ _ _ _ _ e k h with h|⟨e',h1,h2,c⟩
      ·exact .inl h
      ·exact .inr ⟨e',h1,by omega,c⟩
    ·rcases key _ _ _ _ _ e k h with h|⟨e',h1,h2,c⟩
     ·exact .inl h
     ·exact .inr ⟨e',h1,by omega,c⟩
  ·rw[Vz hx]at h;exact .inl h
theorem LfN.num(hl:LEl n l){f:Nat}{w:List Int}(hi:i<l.length)(h:LfN l st.1):LfN l (S.TD n l vr size f i w ab st).2.1:=λe k hk=>by
 rcases HX hl f i w ab st e k hi hk with h1|⟨e',h1,h2,a⟩
 ·exact h e k h1
 ·exact⟨e',h1,a⟩
theorem LfN.stp{n:Net}{l:List Sp}{vr:List Nat}{size:Int}(hl:LEl n l){f a b:Nat}{w:List Int}{cu:List Nat}{ab:Nat}{st:MSt}(ha:a<l.length)(hb:b<l.length)(h:LfN l st.1):∀j,LfN l (S.Us (S.TD n l vr size f) n w cu a b ab st j).2.1
 |0=>h
 |j+1=>LfN.num hl hb (LfN.num hl ha (LfN.stp hl ha hb h j))
theorem Rf.bump{w':AV}{g1 g2:G}(hh:g1.h=g.h)(hn:g.nx<=g1.nx)(h:Rf pr w w' g1 g2):Rf pr w w' g g2 :=
 ⟨VR hn h.nx,λj hj hp hv=>by rw[h.fr j (VL hj hn) hp hv,hh],h.vd.imp id λ⟨i,e,hi⟩=>⟨i,e,VR hn hi⟩⟩
theorem Rf.tail{w':AV}{g1 g2:G}(h:Rf pr w w' g g1)(hh:g2.h=g1.h)(hn:g1.nx<=g2.nx):Rf pr w w' g g2 :=
 ⟨VR h.nx hn,λj hj hp hv=>by rw[hh,h.fr j hj hp hv],h.vd⟩
theorem RN.same{g':G}(h:RN n vr size b lv kv vv wv pr st rows g)(hh:g'.h=g.h)(hn:g.nx<=g'.nx):RN n vr size b lv kv vv wv pr st rows g' :=
 ⟨by rw[hh,h.q],h.v.fr hn λi _=>by rw[hh],h.w.fr hn λi _=>by rw[hh],h.k,h.dv,h.dw,h.ds,by have:=h.nx;omega,h.ky,h.ln⟩
def CB(d:Nat)(n:Net)(l:List Sp)(e:List Int)(size:Int)(b lv kv vv:AV)(pr f i:Nat):Prop :=
 ∀(w:List Int) (x:AV) (ab:Nat) (st:MSt) (rows:List (List AV)) (wv:AV) (g:G) (K:AV->G->Prop) (D:ADf->Prop),RN n (S.vr n e l) size b lv kv vv wv pr st rows g->Wv n w->Ev n e ab w->ab<2 ^ n.nodes.length->SlR NoP 0 .nil w x->LfN l st.1 ->
  (∀g' wv' rows',RN n (S.vr n e l) size b lv kv vv wv' pr (S.TD n l (S.vr n e l) size f i w ab st).2 rows' g'->Rf pr wv wv' g g'->K (ZJ (S.TD n l (S.vr n e l) size f i w ab st).1) g') ->
  (am C0 d 34 [ZK pr,ZJ (i:Int),x,ZL (ab:Int)] g).sat K g D
theorem Sl{f c le ri B:Nat}{u:AV}{w:List Int}(hr:NR n)(hl:LEl n l)(hW:Wv n w)(hE:Ev n e ab w)(hab:ab<2 ^ n.nodes.length)(hc:c<2 ^ n.nodes.length)(hco:∀v:Nat,c.testBit v=true->e[v]?.getD 0 = -1)
  (ih1:CB d n l e size b lv kv vv pr f le) (ih2:CB d n l e size b lv kv vv pr f ri) (hle:le<l.length) (hri:ri<l.length)
  (hR:RN n (S.vr n e l) size b lv kv vv wv pr st rows gA) (hlf:LfN l st.1)
  (h9o:gA.h.get x9=Y6 3 [cs3 (-1,(le:Int),(ri:Int))]) (h9p:x9≠pr/\x9<gA.nx) (h9w:vid wv≠some x9)
  (hu:LLo gA B u ((List.range k).map λj=>S.TE n w (S.Tz n c) j)) (hB:pr<B) (hBw:∀j,vid wv=some j->j<B) (hk:k<=65536)
  {rr:Nat->Int×MSt} (hrr:rr=S.Us (S.TD n l (S.vr n e l) size f) n w (S.Tz n c) le ri (ab ||| c) st)
  (ht:St t ((17,ZJ 0)::(12,ZJ 0)::(15,ZL (c:Int))::(16,u)::LNu pr i w0 ab x9 cv))
  (hQ:∀t g' wv' rows',RN n (S.vr n e l) size b lv kv vv wv' pr (rr k).2 rows' g'->Rf pr wv wv' gA g'->St t ((12,ZJ (rr k).1)::LNu pr i w0 ab x9 cv)->Q (.exit 4) t [] g') :
  wpL (wp C0 d none eZ) Q t [] gA:=by
 obtain⟨z,r,o,m,h0,h1,h2,D,h9,A,-⟩:=ht;obtain⟨xs,ho,O⟩:=hu;have h5:=hr.l2;have R:xs.length=k:=by rw[<-O.len];simp
 have h6:=ho.sat_len;have h8:2 ^ n.nodes.length<=2 ^ 8:=V_ (by decide) h5;have W:=mo ab c (by omega) (by omega);have V:ab ||| c<2 ^ n.nodes.length:=XW hab hc;have rr0:rr 0=(0,st):=by rw[hrr];rfl
 have rrs:∀j,rr (j+1)=(w64 ((rr j).1+w64 ((S.TD n l (S.vr n e l) size f le (S.TE n w (S.Tz n c) j) (ab ||| c) (rr j).2).1*(S.TD n l (S.vr n e l) size f ri (S.TE n w (S.Tz n c) j) (ab ||| c) (S.TD n l (S.vr n e l) size f le (S.TE n w (S.Tz n c) j) (ab ||| c) (rr j).2).2).1)),(S.TD n l (S.vr n e l) size f ri (S.TE n w (S.Tz n c) j) (ab ||| c) (S.TD n l (S.vr n e l) size f le (S.TE n w (S.Tz n c) j) (ab ||| c) (rr j).2).2).2):=λj=>by rw[hrr];rfl
 have U:∀j,LfN l (rr j).2.1:=λj=>by rw[hrr];exact LfN.stp hl hle hri hlf j
 clear hrr;simp only[eZ];refine aP k (by omega) (λj t df g'=>df=[]/\St t ((12,ZJ (rr j).1)::(15,ZL (c:Int))::(16,u)::LNu pr i w0 ab x9 cv)/\∃wv' rows',RN n (S.vr n e l) size b lv kv vv wv' pr (rr j).2 rows' g'/\Rf pr wv wv' gA g')
  ⟨rfl,by simp[St,LNu,rr0,h0,h1,h2,D,h9,A,r,o,m],wv,rows,by rw[rr0];exact hR,Rf.refl _ _ _⟩ z (by decide) (by rintro j t df g v s (rfl|rfl|rfl)<;>simp[sx,St,LNu]) ?_ ?_ ?_
 ·clear h0 h1 h2 D h9 A r o m z;rintro j t df g' hj ⟨rfl,⟨r,o,m,h0,h1,h2,D,h9,A,-⟩,wv',rows',E,J⟩ z;simp only[sz,simprocAttr,m,z,h6];exact⟨by simp[R],by simp[St,LNu,sx,h0,h1,h2,D,h9,A,r,o,m],wv',rows',E,J⟩
 ·clear h0 h1 h2 D h9 A r o m z;rintro j t df g' hj ⟨rfl,⟨r,o,m,h0,h1,h2,D,h9,A,-⟩,wv',rows',E,J⟩ z;have Z:g'.h.get x9=Y6 3 [cs3 (-1,(le:Int),(ri:Int))]:=by rw[J.fr x9 h9p.2 h9p.1 h9w,h9o]
  have H:Own g' B u 1 (xs.map λx=>[x]):=ho.fr J.nx λid hid=>J.fr id (ho.lt hid).2 (by have:=(ho.lt hid).1;omega) λh=>by have:=hBw id h;have:=(ho.lt hid).1;omega
  have I:=H.rows;obtain⟨x,hx,Y⟩:=O.get (i:=j) (a:=S.TE n w (S.Tz n c) j) (by rw[Vw,XA hj];rfl);have q1:j<(xs.map λx=>[x]).length:=by simp;omega
  have q2:(xs.map λx=>[x])[j]?=some [x]:=by rw[Vw,hx];rfl
  obtain⟨p,hp⟩:∃p,p=S.TD n l (S.vr n e l) size f le (S.TE n w (S.Tz n c) j) (ab ||| c) (rr j).2:=⟨_,rfl⟩;obtain⟨q,hq⟩:∃q,q=S.TD n l (S.vr n e l) size f ri (S.TE n w (S.Tz n c) j) (ab ||| c) p.2:=⟨_,rfl⟩;have L:=rrs j;rw[<-hp,<-hq]at L;have N:=EL hr hW c j;have M:=Ot hr hco hE j;have h7:LfN l p.2.1:=by rw[hp];exact LfN.num hl hle (U j)
  refine bB (P:=λt' df g2=>df=[]/\(∃wv2 rows2,RN n (S.vr n e l) size b lv kv vv wv2 pr p.2 rows2 g2/\Rf pr wv wv2 gA g2)/\St t' ((18,ZJ p.1)::(17,ZJ (j:Int))::(12,ZJ (rr j).1)::(15,ZL (c:Int))::(16,u)::LNu pr i w0 ab x9 cv)) ?_ ?_
  ·simp only[sz,simprocAttr,sf,h0,D,h9,o,m,z,Z,cs3,I,q1,q2,W];refine ih1 _ _ _ _ _ _ _ _ _ (E.same (by simp) (by simp;omega)) N M V Y (U j) λg2 wv2 rows2 F C=>?_;rw[<-hp]at F ⊢;have C:=C.bump (g:=g') (by simp) (by simp;omega);simp only[sz,simprocAttr,sf];refine⟨?_,⟨wv2,rows2,F.same (by simp) (by simp;omega),(J.trans C).tail (by simp) (by simp;omega)⟩,by simp[St,LNu,sx,h0,h1,h2,D,h9,A,r,o,m,z]⟩;simp only[VJ,VN,VH,VE];exact aA (Zn (Zl (true::(false::[])))) [] (by simp[All2,ah,ay,jB,bL]) (by decide) (by simp)
  clear h0 h1 h2 D h9 A r o m z Z H I;rintro t df g2 ⟨rfl,⟨wv2,rows2,F,C⟩,h4,z,r,o,m,h0,h1,h2,D,h9,A,-⟩;have Z:g2.h.get x9=Y6 3 [cs3 (-1,(le:Int),(ri:Int))]:=by rw[C.fr x9 h9p.2 h9p.1 h9w,h9o]
  have H:Own g2 B u 1 (xs.map λx=>[x]):=ho.fr C.nx λid hid=>C.fr id (ho.lt hid).2 (by have:=(ho.lt hid).1;omega) λh=>by have:=hBw id h;have:=(ho.lt hid).1;omega
  have I:=H.rows;simp only[sz,simprocAttr,sf,h0,D,h9,r,o,m,z,h4,Z,cs3,I,q1,q2,W];refine ih2 _ _ _ _ _ _ _ _ _ (F.same (by simp) (by simp;omega)) N M V Y h7 λg3 wv3 rows3 hR3 K=>?_;rw[<-hq]at hR3 ⊢;have K:=K.bump (g:=g2) (by simp) (by simp;omega);simp only[sz,simprocAttr,sf];refine⟨?_,⟨?_,wv3,rows3,?_,(C.trans K).tail (by simp) (by simp;omega)⟩,?_⟩
  ·simp only[VJ,VN,VH,VE];refine aA (Zm (Zl (true::(false::(Zn []))))) [(0,12),(1,12)] (by simp[All2,ah,ay,jB,bL]) (by decide) ?_;intro pp X x y hx hy;simp only[VP,VG,Xh]at X;rcases X with rfl|rfl<;>(simp only[VZ,Wn,Wj]at hx hy;subst hx;subst hy;refine tY rfl rfl rfl ?_)<;>(intro i hi hc;simp[ay]at hc)
  ·rw[L];simp[St,LNu,sx,h0,h1,h2,D,h9,A,o,m]
  ·rw[L];exact hR3.same (by simp) (by simp;omega)
  ·simp[sx,z]
 ·rintro t df g' ⟨rfl,⟨r,o,m,hL⟩,wv',rows',E,J⟩;exact hQ t g' wv' rows' E J ⟨r,hL⟩
end
section
theorem RN.fr{n:Net}{vr:List Nat}{size:Int}{b lv kv vv wv:AV}{pr:Nat}{st:MSt}{rows:List (List AV)}{g g':G}(h:RN n vr size b lv kv vv wv pr st rows g)(hn:g.nx<=g'.nx)(hf:∀j,j<g.nx->g'.h.get j=g.h.get j):RN n vr size b lv kv vv wv pr st rows g' :=
 ⟨by rw[hf _ h.nx,h.q],h.v.fr hn λi hi=>hf i (h.v.lt hi).2,h.w.fr hn λi hi=>hf i (h.w.lt hi).2,h.k,h.dv,h.dw,h.ds,by have:=h.nx;omega,h.ky,h.ln⟩
theorem RN.call{n:Net}{size:Int}{b lv kv vv wv:AV}{pr:Nat}{st:MSt}{rows:List (List AV)}{g:G}(h:RN n vr size b lv kv vv wv pr st rows g)(c:Int):RN n vr size b lv kv vv wv pr (st.1,c) rows (g.put pr (rnO n.grain size c b lv kv vv wv)) :=
 ⟨by rw[G.put_h,aJ],h.v.fr (by simp) λi hi=>by rw[G.put_h,af _ _ _ (λe=>h.dv (by rw[hi,e]))],h.w.fr (by simp) λi hi=>by rw[G.put_h,af _ _ _ (λe=>h.dw (by rw[hi,e]))],h.k,h.dv,h.dw,h.ds,by simpa using h.nx,h.ky,h.ln⟩
section
variable {d f pr i ab:Nat}{n:Net}{l:List Sp}{e:List Int}{size:Int}{b lv kv vv wv x:AV}{w:List Int}{st:MSt}{rows:List (List AV)}{g:G}
theorem GV{K:AV->G->Prop}{D:ADf->Prop}(hd:0<d)(hr:NR n)(hl:LEl n l)(hs:SlR NoP 0 .nil l lv)(hll:l.length<=15)(hi:i<l.length)(hR:RN n (S.vr n e l) size b lv kv vv wv pr st rows g)(hW:Wv n w)(hab:ab<2 ^ n.nodes.length)(hx:SlR NoP 0 .nil w x)
  {key:List Int} (hkey:key=S.TU w ((S.vr n e l)[i]?.getD 0 &&& ab)) (hk:KyN n key)
  (hit:cK st.1 ((i:Int),key)=true->∀g',RN n (S.vr n e l) size b lv kv vv wv pr st rows g'->Rf pr wv wv g g'->K (ZJ (mgt st.1 ((i:Int),key))) g')
  (miss:cK st.1 ((i:Int),key)=false->∀t g' cv,RN n (S.vr n e l) size b lv kv vv wv pr st rows g'->Rf pr wv wv g g'->g.nx<g'.nx->g'.h.get g.nx=Y6 3 [cs3 (S.sp l i)]->SlR NoP 0 .nil (key.take n.nodes.length) cv->St t (LNu pr i x ab g.nx cv)->wp C0 d none cZ (fnQ C0 d [.tm 8] K) t [] g') :
  (am C0 d 34 [ZK pr,ZJ (i:Int),x,ZL (ab:Int)] g).sat K g D:=by
 have o:=hr.l2;have A:2 ^ n.nodes.length<=2 ^ 8:=V_ (by decide) o;obtain⟨s1,s2⟩:=yB hi;have sr:=λh=>(hs.tree (h':=h) (Vu 0)).sps;obtain⟨C,y⟩:=gK (l:=S.vr n e l) (i:=i) (by rw[yE];exact hi);have p:(S.vr n e l)[i]?.getD 0<2 ^ n.nodes.length:=cH (xx hr hl) i;obtain⟨vi,u⟩:∃vi,vi=(S.vr n e l)[i]?.getD 0:=⟨_,rfl⟩;rw[<-u]at p y hkey;have f:=nM vi ab (by omega) (by omega);have B:vi &&& ab<2 ^ n.nodes.length:=Xd YR p;have s:S.UB w (vi &&& ab)=key.take n.nodes.length:=by rw[hkey];exact Qm hr hW.1 _
 rw[sE];refine fX uz (by simp[il]) ?_;simp only[il];refine aL (P:=λt' df g'=>df=[]/\g'=g/\St t' [(0,ZK pr),(1,ZJ (i:Int)),(2,x),(3,ZL (ab:Int))]) ?_ ?_
 ·simp only[sz,simprocAttr];simp[St,sx]
 rintro t df g1 ⟨rfl,rfl,h0,h1,h2,c,-⟩;have hq:=hR.q;refine aL (P:=λt' df g'=>df=[]/\RN n (S.vr n e l) size b lv kv vv wv pr st rows g'/\Rf pr wv wv g1 g'/\g1.nx<g'.nx/\g'.h.get g1.nx=Y6 3 [cs3 (S.sp l i)]/\St t' [(0,ZK pr),(1,ZJ (i:Int)),(2,x),(3,ZL (ab:Int)),(9,ZK g1.nx)]) ?_ ?_
 ·simp only[sz,simprocAttr,h0,h1,hq,rnO,aI,sr,s1,s2,cs3];have m:∀j,j<g1.nx->((g1.new (Y6 3 [[ZJ 0,ZJ 0,ZJ 0]])).put g1.nx (Y6 3 [[ZJ (S.sp l i).1,ZJ (S.sp l i).2.1,ZJ (S.sp l i).2.2]])).h.get j=g1.h.get j:=λj hj=>by rw[G.put_h,af _ _ _ (by omega),G.new_h,af _ _ _ (by omega)]
  exact⟨hR.fr (by simp) m,Rf.of (by simp) λj hj _=>m j hj,by simp[St,sx,h0,h1,h2,c]⟩
 clear h0 h1 h2 c hq;rintro t df g2 ⟨rfl,k,F2,n2,z,h0,h1,h2,c,h9,-⟩;have hq:=k.q;have vrw:=k.v.rows;refine aL (P:=λt' df g'=>df=[]/\g'=g2/\∃cv,SlR NoP 0 .nil (key.take n.nodes.length) cv/\St t' (LNu pr i x ab g1.nx cv)) ?_ ?_
 ·simp only[sz,simprocAttr,h0,h1,h2,c,hq,rnO,aI,vrw,C,y,cu,f];refine bi (Qn hd (hx.tree (h':=_) (Vu 0)) (by rw[hW.1];exact o) (by omega)) λcv a=>?_;simp only[sz,simprocAttr];rw[s]at a;exact⟨cv,a.sl .nil,by simp[St,LNu,sx,h0,h1,h2,c,h9]⟩
 clear h0 h1 h2 c h9;rintro t df g3 ⟨rfl,rfl,cv,a,ht⟩;obtain⟨h0,h1,h2,c,h9,r,-⟩:=ht;simp only[sz,simprocAttr];refine PW (i:=i) (ab:=ab) (x9:=g1.nx) (w0:=x) (cv:=cv) hd k hk a (by simp[St,LNu,sx,h0,h1,h2,c,h9,r]) (λt hm h8=>?_) (λt hm ht=>?_)
 ·simp only[sz,simprocAttr,h8];exact hit hm _ k F2
 ·simp only[sz,simprocAttr];exact miss hm t _ cv k F2 n2 z a ht
theorem Dh{R:SC}(hR:RN n (S.vr n e l) size b lv kv vv wv pr st rows g)(hx9:x9≠pr)(ht:St t (LNu pr i x ab x9 cv))
  (fin:∀t g',RN n (S.vr n e l) size b lv kv vv wv pr (st.1,w64 (st.2+1)) rows g'->Rf pr wv wv g g'->g'.h.get x9=g.h.get x9->St t ((12,ZJ 0)::LNu pr i x ab x9 cv)->wp C0 d none R Q t [] g') :
  wp C0 d none (sQ [oM 76 0,Zb 77 76,oF 78 7 77,oL 79 78,oA 80 79,Zb 81 76,oF 82 7 81,Za 1 82 80] (sQ [oK 12 0] R)) Q t [] g:=by
 obtain⟨h0,h1,h2,f,h9,k,-⟩:=ht;have hq:=hR.q;have a:=λc g=>Ls n.grain size st.2 c b lv kv vv wv g pr;simp only[rnO]at a;refine aL (P:=λt' df g'=>df=[]/\g'=g.put pr (rnO n.grain size (w64 (st.2+1)) b lv kv vv wv)/\St t' (LNu pr i x ab x9 cv)) ?_ ?_
 ·simp only[sz,simprocAttr,h0,hq,rnO,aI,a];simp[St,LNu,sx,h0,h1,h2,f,h9,k]
 clear h0 h1 h2 f h9 k;rintro t df g' ⟨rfl,rfl,h0,h1,h2,f,h9,k,-⟩;refine aL (P:=λt' df g2=>df=[]/\g2=g.put pr (rnO n.grain size (w64 (st.2+1)) b lv kv vv wv)/\St t' ((12,ZJ 0)::LNu pr i x ab x9 cv)) ?_ ?_
 ·simp only[sz,simprocAttr];simp[St,LNu,sx,h0,h1,h2,f,h9,k]
 rintro t df g' ⟨rfl,rfl,ht⟩;exact fin t _ (hR.call _) (Rf.of (by simp) λj _ hp=>by rw[G.put_h,af _ _ _ hp]) (by rw[G.put_h,af _ _ _ hx9]) ht
theorem Lv(hd:0<d)(hr:NR n)(hl:LEl n l)(hN:SlR NoP 0 .nil n.nodes b)(hM:∀h,Agg n NoP 0 h (.agg [ZJ n.grain,b]))(hs:SlR NoP 0 .nil l lv)(hll:l.length<=15)(hi:i<l.length)(hlx:(S.sp l i).1≠-1):CB d n l e size b lv kv vv pr (f+1) i:=by
 intro w x ab st rows wv g K D hR hW hE O hx U kk;have T:=hr.l2;have h4:2 ^ n.nodes.length<=2 ^ 8:=V_ (by decide) T;obtain⟨x0,x1⟩:=hl.f i hi hlx;have H:S.TD n l (S.vr n e l) size (f+1) i w ab st=(S.UW n w (S.sp l i).1.toNat,st.1,w64 (st.2+1)):=by rw[S.TD,Vz hlx]
 rw[H]at kk;have B:(S.vr n e l)[i]?.getD 0<2 ^ n.nodes.length:=cH (xx hr hl) i;have a:=NA hr hl hi hlx hE;obtain⟨v1,v2⟩:=gK (l:=S.vr n e l) (i:=i) (by rw[yE];exact hi);have z:KyN n (S.TU w ((S.vr n e l)[i]?.getD 0 &&& ab)):=JL hr w (Xd YR B);refine GV hd hr hl hs hll hi hR hW O hx rfl z (λhm=>?_) (λhm t g' cv hR' F' n' e9 hcv ht=>?_)
 ·obtain⟨e',h1,h2⟩:=U _ _ hm;have:e'=i:=by omega
  subst this;exact absurd h2 hlx
 obtain⟨vi,X⟩:∃vi,vi=(S.vr n e l)[i]?.getD 0:=⟨_,rfl⟩;rw[<-X]at B v2 a z hcv;obtain⟨v,W⟩:=Vy x0;obtain⟨⟨xa,xb,xc⟩,V⟩:∃x,S.sp l i=x:=⟨_,rfl⟩;rw[V]at W x1 kk e9 hlx a;dsimp only at W x1 kk hlx a;subst W;rw[VU]at kk a;have Z:=hR.nx;simp only[cZ];refine Dh hR' (by omega) ht λt g2 hR2 F2 e92 ht=>?_;obtain⟨p,h0,h1,h2,Y,h9,N,-⟩:=ht;rw[e9]at e92;have hq:=hR2.q;have vrw:=hR2.v.rows;have c1:(0:Int)<=(v:Int):=by omega
 have Q:=wi vi ab (by omega) (by omega);have R:S.TF vi ab<18446744073709551616:=VL (zH (m:=n.nodes.length) B) (by omega);have s:v<n.nodes.length:=by omega
 simp only[sz,simprocAttr,h0,h1,h2,Y,h9,e92,cs3,c1,hq,rnO,aI,vrw,v1,v2,cu,Q];refine Fq hd hr hN hW.1 hx R hq hR2.nx λu g3 F3 hu=>?_;have n3:=F3.1;have C:=hR2.fr F3.1 F3.2;have M:g3.h.get g.nx=Y6 3 [cs3 ((v:Int),xb,xc)]:=by rw[F3.2 _ (by have:=F2.nx;omega),e92]
 have hu:LLo g3 0 u (S.TX n w (S.TF vi ab) n.nodes.length):=by obtain⟨xs,k1,k2⟩:=hu;exact⟨xs,k1.low (Wp _),k2⟩
 have o:=I6 hr w (S.TF vi ab);rw[<-a]at o;have A:(S.TX n w (S.TF vi ab) n.nodes.length).length=S.TS n (S.Tz n (S.TG n w v)):=by rw[o];simp
 obtain⟨W1,W2⟩:=De hr (S.TG n w v);have P:∀j,j<S.TS n (S.Tz n (S.TG n w v))->(S.TX n w (S.TF vi ab) n.nodes.length)[j]?=some (S.TE n w (S.Tz n (S.TG n w v)) j):=λj G=>by rw[o,Vw,XA G];rfl
 have I:∀k,k<=S.TS n (S.Tz n (S.TG n w v))->S.sm (λj=>S.TL n ((S.TX n w (S.TF vi ab) n.nodes.length)[j]?.getD []) v) k=S.sm (λj=>S.TL n (S.TE n w (S.Tz n (S.TG n w v)) j) v) k:=λk hk=>cE λj G=>by rw[P j (by omega)];rfl
 simp only[sz,simprocAttr];refine On (i:=i) (ab:=ab) (x9:=g.nx) (w0:=x) (cv:=cv) (u:=u) (F:=λw=>S.TL n w v) C M (λw' hw'=>?_) hu (by omega) (λk hk=>?_) (by simp[St,LNu,sx,h0,h1,h2,Y,h9,N,p]) λt p=>?_
 ·rw[o]at hw';obtain⟨j,G,rfl⟩:=Wk.1 hw';have L:=Vt s;obtain⟨hC,ix,r,c,y,i1,i2,i3,i4,i5,i6,i7,i8,i9⟩:=AM hr L (A7 hr hW (j:=j) s);obtain⟨cn,E⟩:=Vy i5;have J:=(EL hr hW (S.TG n w v) j).1;refine⟨r,cn,?_,?_,λx' g' hx'=>OB hd (hM g'.h) hr L (hx'.tree (h':=g'.h) (Vu 0)) J hC i1 i3⟩
  ·rw[<-E,<-i4,Vt (by rw[J];exact s)];rfl
  ·rw[E,VU]at i6;rw[i6];show some y=some (S.TL n (S.TE n w (S.Tz n (S.TG n w v)) j) v);rw[i7]
 ·rw[A]at hk;rw[I k hk];have:=ua hr hW s k;omega
 ·rw[A,I _ (Vu _)]at p;simp only[sz,simprocAttr,jz,p];exact kk g3 wv rows C ((F'.trans F2).trans (Rf.of F3.1 λj G _=>F3.2 j G))
end
end
section
variable {d f pr i ab:Nat}{n:Net}{l:List Sp}{e:List Int}{size:Int}{b lv kv vv wv x:AV}{w:List Int}{st:MSt}{rows:List (List AV)}{g:G}
theorem Lu(hd:0<d)(hr:NR n)(hl:LEl n l)(hN:SlR NoP 0 .nil n.nodes b)(hs:SlR NoP 0 .nil l lv)(hll:l.length<=15)(hsz:size<=1000)(hi:i<l.length)(hlx:(S.sp l i).1 = -1)(ih:∀j,j<i->CB d n l e size b lv kv vv pr f j):CB d n l e size b lv kv vv pr (f+1) i:=by
 intro w x ab st rows wv g K D hR hW hE C hx V kk;have U:=hr.l2;have h4:2 ^ n.nodes.length<=2 ^ 8:=V_ (by decide) U;obtain⟨y1,y2,y3,y4⟩:=hl.j i hi hlx;obtain⟨le,H⟩:=Vy y1;obtain⟨ri,I⟩:=Vy y3;have J:S.sp l i=(-1,(le:Int),(ri:Int)):=Prod.ext hlx (Prod.ext H I);rw[H]at y2;rw[I]at y4;obtain⟨key,p⟩:∃key,key=S.TU w ((S.vr n e l)[i]?.getD 0 &&& ab):=⟨_,rfl⟩;obtain⟨c,hc⟩:∃c,c=S.TF ((S.vr n e l)[le]?.getD 0 &&& (S.vr n e l)[ri]?.getD 0) ab:=⟨_,rfl⟩;obtain⟨rr,A⟩:∃rr:Nat->Int×MSt,rr=S.Us (S.TD n l (S.vr n e l) size f) n w (S.Tz n c) le ri (ab ||| c) (st.1,w64 (st.2+1)):=⟨_,rfl⟩;obtain⟨k,hk⟩:∃k,k=S.TS n (S.Tz n c):=⟨_,rfl⟩;have y:S.TD n l (S.vr n e l) size (f+1) i w ab st=if cK st.1 ((i:Int),key) then (mgt st.1 ((i:Int),key),st) else ((rr k).1,(if ((rr k).2.1.length:Int)<size then mst ((i:Int),key) (rr k).1 (rr k).2.1 else (rr k).2.1),(rr k).2.2):=by rw[S.TD,VC hlx,A,hk,hc,p];simp only[J,VU]
 have Y:(S.vr n e l)[i]?.getD 0<2 ^ n.nodes.length:=cH (xx hr hl) i;have z:(S.vr n e l)[le]?.getD 0<2 ^ n.nodes.length:=cH (xx hr hl) le;have L:(S.vr n e l)[ri]?.getD 0<2 ^ n.nodes.length:=cH (xx hr hl) ri;obtain⟨v1,v2⟩:=gK (l:=S.vr n e l) (i:=le) (by rw[yE];omega);obtain⟨v3,v4⟩:=gK (l:=S.vr n e l) (i:=ri) (by rw[yE];omega);have s:KyN n key:=by rw[p];exact JL hr w (Xd YR Y)
 have R:∀v:Nat,c.testBit v=true->e[v]?.getD 0 = -1:=λv hv=>by rw[hc,ei,Xj,Vx,Vx]at hv;exact xy hr hl le (by omega) v hv.1.1
 obtain⟨va,W⟩:∃va,va=(S.vr n e l)[le]?.getD 0:=⟨_,rfl⟩;obtain⟨vb,X⟩:∃vb,vb=(S.vr n e l)[ri]?.getD 0:=⟨_,rfl⟩;rw[<-W]at z v2 hc;rw[<-X]at L v4 hc;have F:=nM va vb (by omega) (by omega);have Q:va &&& vb<2 ^ n.nodes.length:=Xd YR z;have G:=wi (va &&& vb) ab (by omega) (by omega);rw[<-hc]at G;have hcl:c<2 ^ n.nodes.length:=by rw[hc];exact zH Q
 have Z:=hR.nx;refine GV hd hr hl hs hll hi hR hW C hx p s (λhm g' hR' F'=>?_) (λhm t g' cv hR' F' n' e9 hcv ht=>?_)
 ·rw[y,VC hm]at kk;exact kk g' wv rows hR' F'
 rw[y,Vz (by rw[hm];exact Yu)]at kk;rw[J]at e9;simp only[cZ];refine Dh hR' (by omega) ht λt g2 hR2 F2 e92 ht=>?_;rw[e9]at e92;refine bB (P:=λt' df g'=>df=[]/\g'=g2/\St t' ((12,ZJ 0)::LNu pr i x ab g.nx cv)) ?_ ?_
 ·obtain⟨m,h0,h1,h2,r,h9,a,-⟩:=ht;simp only[sz,simprocAttr,h9,e92,cs3];simp[St,LNu,sx,h0,h1,h2,r,h9,a,m]
 clear ht;rintro t df g' ⟨rfl,rfl,m,h0,h1,h2,r,h9,a,-⟩;have hq:=hR2.q;have vrw:=hR2.v.rows;simp only[jA];refine bB (P:=λt' df g2=>df=[]/\g2=g'/\St t' ((12,ZJ 0)::(15,ZL (c:Int))::LNu pr i x ab g.nx cv)) ?_ ?_
 ·simp only[sz,simprocAttr,sf,h0,h1,h2,r,h9,e92,cs3,hq,rnO,aI,vrw,v1,v2,v3,v4,cu,F,G];simp[St,LNu,sx,h0,h1,h2,r,h9,a,m]
 clear h0 h1 h2 r h9 a m;rintro t df g2 ⟨rfl,rfl,m,o,h0,h1,h2,r,h9,a,-⟩;refine aL (P:=λt' df g'=>df=[]/\RN n (S.vr n e l) size b lv kv vv wv pr (st.1,w64 (st.2+1)) rows g'/\Fr g2 g'/\g'.h.get g.nx=Y6 3 [cs3 (-1,(le:Int),(ri:Int))]/\∃u,LLo g' g2.nx u (S.TX n w c n.nodes.length)/\St t' ((12,ZJ 0)::(15,ZL (c:Int))::(16,u)::LNu pr i x ab g.nx cv)) ?_ ?_
 ·simp only[sz,simprocAttr,h0,h2,o];refine Fq hd hr hN hW.1 hx (by omega) hq hR2.nx λu g3 F3 hu=>?_;simp only[sz,simprocAttr];exact⟨hR2.fr F3.1 F3.2,F3,by rw[F3.2 _ (by have:=F2.nx;omega),e92],u,hu,by simp[St,LNu,sx,h0,h1,h2,r,h9,a,m,o]⟩
 clear h0 h1 h2 r h9 a m o;rintro t df g3 ⟨rfl,O,F3,M,u,hu,m,o,N,h0,h1,h2,r,h9,a,-⟩;rw[I6 hr w c,<-hk]at hu;have n3:=F3.1;have n2:=F2.nx;have T:=(De hr c).2;rw[<-hk]at T;have E:cK (rr k).2.1 ((i:Int),key)=false:=by
  cases hb:cK (rr k).2.1 ((i:Int),key) with
  |false=>rfl
  | true =>
   rw[A]at hb;rcases It (rec:=S.TD n l (S.vr n e l) size f) (l:=l) (i:=i) (by omega) (by omega) (λx hxx w ab st e' k' h=>HX hl f x w ab st e' k' (by omega) h) k _ _ hb with h|⟨e',h1,h2,-⟩
   ·rw[hm]at h;cases h
   ·omega
 simp only[sz,simprocAttr];refine Sl (B:=g2.nx) (k:=k) (i:=i) (w0:=x) (cv:=cv) hr hl hW hE C hcl R (ih le (by omega)) (ih ri (by omega)) (by omega) (by omega) O V M ⟨by omega,by omega⟩ (λh=>by have:=(hR.w.lt h).2;omega) hu (by omega) (λj hj=>by have:=(hR.w.lt hj).2;omega) (by omega) A
  (by simp[St,LNu,sx,h0,h1,h2,r,h9,a,m,o,N]) λt g4 wv4 rows4 hR4 F4 ht=>?_
 simp only[sz,simprocAttr];refine Sd hsz hR4 s hcv ht E λt g5 wv5 rows5 h8 hR5 F5=>?_;simp only[sz,simprocAttr,h8];exact kk g5 wv5 rows5 hR5 ((((F'.trans F2).trans (Rf.of F3.1 λj hj _=>F3.2 j hj)).trans F4).trans F5)
theorem Qz(hd:0<d)(hr:NR n)(hl:LEl n l)(hN:SlR NoP 0 .nil n.nodes b)(hM:∀h,Agg n NoP 0 h (.agg [ZJ n.grain,b]))(hs:SlR NoP 0 .nil l lv)(hll:l.length<=15)(hsz:size<=1000):∀f i,i<f->i<l.length->CB d n l e size b lv kv vv pr f i:=by
 intro f
 induction f with
 |zero=>intro i h;omega
 | succ f ihf =>
  intro i h hi
  by_cases hx:(S.sp l i).1 = -1
  ·exact Lu hd hr hl hN hs hll hsz hi hx λj hj=>ihf j (by omega) (by omega)
  ·exact Lv hd hr hl hN hM hs hll hi hx
end
theorem Oz{w3:AV}(hd:0<d)(hr:NR n)(hN:SlR NoP 0 .nil n.nodes b)(hMg:∀h,Agg n NoP 0 h (.agg [ZJ n.grain,b]))(hs:SlR NoP 0 .nil l lv)(hl:LEl n l)(hll:l.length<=15)(hkv:SlR NoP 0 .nil e kv)(he:S.TY n e=true)
  (hq:gA.h.get pr=rnO n.grain size 0 b lv kv .nils .nils) (hpr:pr<gA.nx)
  (ht:St t [(1,w0),(2,lv),(3,w3),(4,ZK 0),(8,ZK 1),(12,ZK pr),(13,ZJ 0)])
  (hQ:∀t g vv,g.h.get pr=rnO n.grain size 0 b lv kv vv .nils->Own g (pr+1) vv 1 ((S.vr n e l).map cu)->gA.nx<=g.nx->(∀j,j<pr->g.h.get j=gA.h.get j)->St t [(1,w0),(2,lv),(4,ZK 0),(8,ZK 1),(12,ZK pr)]->Q (.exit 0) t [] g) :
  wpL (wp C0 d none lB) Q t [] gA:=by
 obtain⟨h1,h2,B,h4,h8,a,c,-⟩:=ht;have ll:=λg=>hs.len g;have E:(S.vr n e l).length=l.length:=yE n e l;simp only[lB];refine aP l.length (by omega) (λj t df g=>df=[]/\St t [(1,w0),(2,lv),(4,ZK 0),(8,ZK 1),(12,ZK pr)]/\∃vv,g.h.get pr=rnO n.grain size 0 b lv kv vv .nils/\Own g (pr+1) vv 1 (((S.vr n e l).take j).map cu)/\gA.nx<=g.nx/\(∀j,j<pr->g.h.get j=gA.h.get j))
  ⟨rfl,by simp[St,h1,h2,h4,h8,a],.nils,hq,.inl ⟨rfl,by simp⟩,Vu _,λ_ _=>rfl⟩ c (by decide) (by rintro j t df g v s (rfl|rfl|rfl)<;>simp[sx,St]) ?_ ?_ ?_
 ·clear h1 h2 B h4 h8 a c;rintro j t df g m ⟨rfl,⟨h1,h2,h4,h8,a,-⟩,p⟩ c;simp only[sz,simprocAttr,h2,c,ll];exact⟨by simp[St,sx,h1,h2,h4,h8,a],p⟩
 ·clear h1 h2 B h4 h8 a c hq;rintro j t df g m ⟨rfl,⟨h1,h2,h4,h8,a,-⟩,vv,hq,f,C,hf⟩ c;obtain⟨x,hx,A,-⟩:=ae (l:=S.vr n e l) (j:=j) (by omega);have z:(S.vr n e l)[j]?.getD 0=x:=by rw[hx];rfl
  have q:pr<g.nx:=by omega
  have H:be (rnO n.grain size 0 b lv kv vv .nils) 0 0 false 1 4=.val vv:=rfl;have u:∀(v':AV) (g:G),v'.cells=[v']->v'.isTup=false->ch (rnO n.grain size 0 b lv kv vv .nils) g pr 0 0 1 4 v'=.upd .undef (g.put pr (rnO n.grain size 0 b lv kv v' .nils)):=λv' g hc ht=>by
   unfold rnO;rw[bf 8 _ 0 false g pr 0 1 4 v' (by rw[hc];rfl) ht,VZ,hc];dsimp only;rw[eH (by simp)]
   rfl
  simp only[sz,simprocAttr,sf,a,c,hq,aI,H];refine QW (P:=NoP) (k:=0) hd hr hN hMg hs hl hll hkv he rfl (i:=j) m (by simpa using hq) (by simp;omega) λg1 F1=>?_;have n1:g.nx<=g1.nx:=by have:=F1.nx;simp at this;omega
  have f1:∀j,j<g.nx->g1.h.get j=g.h.get j:=λj m=>by have:=F1.fr j (by simp;omega) id;simpa using this
  have l1:∀j∈g1.lg,g.nx<=j:=λj m=>by have:=F1.lg j m;simp at this;omega
  rw[z];simp only[sz,simprocAttr,sf];refine aM (new:=[cu x]) (b:=pr+1) (f.step (⟨by simp;omega,λi hi=>by simp[TA,show ¬i=g1.nx by omega,show ¬i=g1.nx+1 by omega,f1 i hi]⟩:Fr g _)) (by simp[sx,sy,cu]) (by simp;omega) (by simp[aT];omega) λv2 g2 hv2 n2 f2 d2 l2=>?_;have w:vid vv≠some pr:=λe=>by have:=(f.lt e).1;omega
  have r:g2.h.get pr=rnO n.grain size 0 b lv kv vv .nils:=by rw[f2 pr (by simp;omega) w];simp[TA,show ¬pr=g1.nx by omega,show ¬pr=g1.nx+1 by omega,f1 pr q,hq]
  have F:g1.nx<=g2.nx:=by simp at n2;omega
  simp only[sz,simprocAttr,sf,a,r,aI,u _ _ hv2.cell.1 hv2.cell.2];refine⟨?_,⟨?_,v2,rfl,?_,?_,?_⟩,?_⟩
  ·simp only[VJ,VN,VH,VE];refine aA (false::(Zn (Zm (true::(true::(true::(Zn (true::[])))))))) [(0,7),(1,7),(2,7),(3,7),(4,7),(0,8),(1,8),(2,8),(3,8),(4,8),(0,9)] (by simp[All2,ah,ay,gX,bL]) (by decide) ?_;intro pp o x y hx D;simp only[VP,VG,Xh]at o;rcases o with rfl|rfl|rfl|rfl|rfl|rfl|rfl|rfl|rfl|rfl|rfl<;>(simp only[VZ,Wn,Wj]at hx D;subst hx;subst D;refine tY rfl rfl rfl ?_)<;>intro i hi hc
   all_goals first
    | (simp[ay]at hc;done)
    | (simp[ah,cO]at hc;subst hc;have:=l1 _ hi;omega)
    | (simp[ah,cO]at hc;subst hc;simp at hi;omega)
  ·simp[St,sx,h1,h2,h4,h8,a]
  ·have e2:(S.vr n e l).take (j+1)=(S.vr n e l).take j++[x]:=A;rw[e2,WJ,Yh];exact hv2.fr (by simp;omega) λi hi=>by
    have:i≠pr:=λe=>by have:=(hv2.lt hi).1;omega
    simp[TA,this]
  ·first|omega| (simp;omega)
  ·intro i hi;have:¬i=pr:=by omega
   simp[TA,this];rw[f2 i (by simp;omega) (λe=>by have:=(f.lt e).1;omega)];simp[TA,show ¬i=g1.nx by omega,show ¬i=g1.nx+1 by omega,f1 i (by omega),hf i hi]
  ·simp[sx,c]
 ·rintro t df g ⟨rfl,p,vv,hq,f,C,hf⟩;rw[VX (by omega)]at f;exact hQ t g vv hq f C hf p
theorem OA(hd:0<d)(hm:Agg n NoP 0 g.h v)(he:SlR NoP 0 .nil e w)(hl:SlR NoP 0 .nil l lv)(hll:l.length<=1000) :
  am C0 d 12 [v,w,lv,ZJ size] g=.val (.tup [.agg [ZJ (S.TZ n e l size).1.1,ZJ (S.TZ n e l size).1.2],ZJ (S.TZ n e l size).2.1,ZJ (S.TZ n e l size).2.2]):=by
 have key:∃r,am C0 d 12 [v,w,lv,ZJ size] g=.val r/\PrV n e l size NoP 0 .nil r:=by
  obtain⟨b,rows,rfl,e1,j,hN,X,Y,Z,r4⟩:=dZ d hm;have e2:=l9 (h:=g.h) d (he.tree (h':=g.h) (Vu 0));have T:=l9 (h:=g.h) d (hl.tree (h':=g.h) (Vu 0));have fw0:c8 [ZJ 0,ZJ 0] []=some [ZJ 0,ZJ 0]:=rfl;rw[ze];refine a_ Cb (xs:=[.agg [ZJ n.grain,b],w,lv,ZJ size]) (by simp only[aG,e1,e2,T,bS 0]) (by simp[qY]) (G_ (m:=2) (bW _) (aY _) (aY _) (by decide) (by decide) (by decide)) (by decide) hd ?_;simp only[sz,simprocAttr,qY,tB];have kc:=λg:G=>Lq (d:=d+1) (g:=g) (n:=n) (e:=e) (VI d) (j g.h) (he.tree (h':=g.h) (Vu 0));have L:∀g:G,dH .slice b g=.val (ZJ (n.nodes.length:Int)):=λg=>hN.len g;simp only[kc]
  by_cases h0:S.Ue n e=0
  ·obtain⟨s,p⟩:=yV.1 h0;have hr:=jR.1 s;have J:=hr.l1;have hl2:=hr.l2;have kk:=λg:G=>Ta (d:=d+1) (g:=g) (n:=n.nodes.length) (l:=l) (VI d) (by omega) (by omega) (hl.tree (h':=g.h) (Vu 0));simp only[<-SS J]at kk;simp only[sz,simprocAttr,h0,L,kk];cases c0:S.ck l n.nodes.length with
   | true =>
    have f:S.Ub n l=0:=by rw[S.Ub,VC s,VC c0]
    have H:=Nz c0;have Q:=H.len;have C:=λh=>(S.TZ.eq_1 n e l size).trans ((VC h0).trans ((VC f).trans (Vz h)));simp only[sz,simprocAttr,c0];refine aX (λhb=>?_) (λhb=>?_)
    ·have I:=YE hb;simp only[sz,simprocAttr,fw0,hb];exact⟨λ_=>True,kN (C (by omega))⟩
    have I:=Xr hb;simp only[sz,simprocAttr,hb];refine aX (λhb2=>?_) (λhb2=>?_)
    ·have A:=YE hb2;simp only[sz,simprocAttr,fw0,hb,hb2];exact⟨λ_=>True,kN (C (by omega))⟩
    have A:=Xr hb2;have o:S.TZ n e l size=(S.T9 (S.UJ n e).toNat (S.UR n).toNat,(S.UX n e l size).2.2,0):=(S.TZ.eq_1 n e l size).trans ((VC h0).trans ((VC f).trans (VC (by omega))));have U:0<l.length:=by omega
    obtain⟨lc,lt⟩:=hl.cell;obtain⟨wc,wt⟩:=he.cell;have O:(ZJ size).cells=[ZJ size]:=rfl;have k2:(ZJ size).isTup=false:=rfl;have fl:c8 [ZJ n.grain,b,.nils,.nils,.nils,.nils,ZJ 0,ZJ 0] [((2,1),lv),((3,1),w),((6,1),ZJ size)]=some [ZJ n.grain,b,lv,w,.nils,.nils,ZJ size,ZJ 0]:=by
     simp[c8,iI,lc,lt,wc,wt,O,k2]
     rfl
    simp only[sz,simprocAttr,hb2,fl];refine Oz (pr:=2) (n:=n) (l:=l) (e:=e) (size:=size) (b:=b) (lv:=lv) (kv:=w) (w0:=w) (w3:=ZJ size) (VI d) hr hN j hl H.el (by omega) he p (by simp[sx,TA,rnO]) (by simp[sx]) (by simp[St,sx]) λt g1 vv hq hv hn hf ht=>?_;obtain⟨h1,h2,h4,h8,u,-⟩:=ht;have n2:3<=g1.nx:=by simp[sx]at hn;omega
    have W:g1.h.get 0=Y6 2 [[ZJ n.grain,b]]:=by rw[hf 0 (by omega)];simp[sx,TA]
    have O:g1.h.get 1=Y6 2 [[ZJ 0,ZJ 0]]:=by rw[hf 1 (by omega)];simp[sx,TA]
    have ll:=λg=>hl.len g;have w1:IntKind.wrap .i64 ((l.length:Int) - 1)=((l.length - 1:Nat):Int):=by rw[ap (by omega) (by omega)];omega
    simp only[sz,simprocAttr,su,h1,h2,u,ll,w1];have M:∀i,vid vv=some i->i≠2:=λi hi=>by have:=(hv.lt hi).1;omega
    refine Qz (e:=e) (l:=l) (size:=size) (kv:=w) (VI d) hr H.el hN j hl (by omega) (by omega) l.length (l.length - 1) (by omega) (by omega) e w 0 ([],0) [] .nils g1 _ _ ⟨hq,hv.low (Wp _),.inl ⟨rfl,rfl⟩,trivial,λh=>M _ h rfl,by simp[vid],λ_ _=>by simp[vid],by omega,by simp,by simp⟩ (D9 p) (Jm p) (YS _) he (λe k h=>by simp[cK]at h) λg2 wv2 rows2 hR2 hF2=>?_;obtain⟨st,D⟩:∃st,st=S.UX n e l size:=⟨_,rfl⟩;have E:S.TD n l (S.vr n e l) size l.length (l.length - 1) e 0 ([],0)=st:=D.symm;rw[E]at hR2 ⊢;rw[<-D]at o;have q2:=hR2.q;have N:g2.h.get 0=Y6 2 [[ZJ n.grain,b]]:=by rw[hF2.fr 0 (by omega) (by omega) (by simp[vid]),W]
    have P:g2.h.get 1=Y6 2 [[ZJ 0,ZJ 0]]:=by rw[hF2.fr 1 (by omega) (by omega) (by simp[vid]),O]
    have K:=tM hr e;have V:=yI hr;obtain⟨ms,B⟩:=Vy K.1;obtain⟨wh,F⟩:=Vy (show 0<=S.UR n by omega);have km:=λg:G=>Oq (d:=d+1) (g:=g) (n:=n) (e:=e) (VI d) (j g.h) hr (he.tree (h':=g.h) (Vu 0)) (mC p).1;have kw:=λg:G=>LD (d:=d+1) (g:=g) (n:=n) (VI d) (j g.h) hr;have ko:=λg:G=>Sm (d:=d+1) (g:=g) (x:=ms) (y:=wh) (VI d) (by omega) (by omega) (by omega);simp only[B]at km;simp only[F]at kw;have ld:be (Y6 2 [[ZJ n.grain,b]]) 0 0 true 2 0=.val (.agg [ZJ n.grain,b]):=rfl;simp only[sz,simprocAttr,sf,h1,h4,h8,u,N,P,q2,rnO,aI,ld,km,kw,ko];refine⟨?_,⟨λ_=>True,?_⟩⟩
    ·simp only[VJ,VN,VH,VE];refine aA (Zn (Zl (true::(Zn [])))) [(6,10),(7,10),(8,10),(9,10)] (by simp[All2,ah,ay,zw,yd,Ck]) (by decide) ?_;intro pp o x y hx R;simp only[VP,VG,Xh]at o;rcases o with rfl|rfl|rfl|rfl<;>(simp only[VZ,Wn,Wj]at hx R;subst hx;subst R;refine tY rfl rfl rfl ?_)<;>intro i hi hc
     all_goals first
      | (simp[ay]at hc;done)
      | (simp[ah,cO]at hc;subst hc;simp at hi)
    ·rw[o,B,F];exact⟨_,_,_,rfl,pz.2 rfl,aW.2 rfl,aW.2 rfl⟩
   | false =>
    have f:S.Ub n l=130:=by rw[S.Ub,VC s,c0];rfl
    have hp:S.TZ n e l size=((0,0),0,130):=by rw[S.TZ,VC h0,Vz (by rw[f];decide),f]
    simp only[sz,simprocAttr,c0,fw0];exact⟨λ_=>True,kN hp⟩
  ·have hp:S.TZ n e l size=((0,0),0,S.Ue n e):=by rw[S.TZ,Vz h0]
   simp only[sz,simprocAttr,h0,fw0];exact⟨λ_=>True,kN hp⟩
 obtain⟨r,hr,a,b,c,rfl,h1,h2,z⟩:=key;have h2:=aW.1 h2;injection h2 with h2;have z:=aW.1 z;injection z with z;rw[hr,pz.1 h1,h2,z]
end
end Hx
