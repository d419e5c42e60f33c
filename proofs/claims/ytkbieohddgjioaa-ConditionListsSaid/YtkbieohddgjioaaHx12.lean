/- A part of the proof: an interpreter over abstract values, shown right against the model, and what the functions of the chapter compute on it. -/
import Derived.OpenShut
import Derived.DataReads
import Derived.Test.YtkbieohddgjioaaHx11
set_option linter.unusedVariables false
set_option linter.unusedSimpArgs false
set_option linter.unnecessarySimpa false
section
namespace Hx
open Go
noncomputable section
theorem dx {C:Cfg}{n d f:Nat}{g:G}{xs:List AV}{v:AV}(h:am (sem C n) d g f xs=.val v):am (I C) d g f xs=.val v:=by
 obtain ⟨N,hN⟩:=mN (C:=C) (d:=d) (g:=g) (f:=f) (args:=xs);have e:am (sem C (max n N)) d g f xs=am (I C) d g f xs:=hN (max n N) (by omega);rw[<-e];rcases mW (xr C (show n<=max n N by omega)) (d:=d) (g:=g) (f:=f) (args:=xs) with q | q
 ·rw[h] at q;cases q
 ·rw[<-q,h]
theorem AU (d:Nat)(xs:List AV)(g:G):aG C0 d N.aa xs g=am (I C0) d g N.aa xs:=by kernel_rfl
theorem FA (d:Nat)(g:G):am (sem C0 100) (d+1) g N.aa [.int .u64 1]=.val (.int .i64 1):=by kernel_rfl
theorem FB (d:Nat)(g:G):am (sem C0 100) (d+1) g N.aa [.int .u64 2]=.val (.int .i64 2):=by kernel_rfl
theorem FC (d:Nat)(g:G):am (sem C0 100) (d+1) g N.aa [.int .u64 3]=.val (.int .i64 2):=by kernel_rfl
theorem FD (d:Nat)(g:G):am (sem C0 100) (d+1) g N.aa [.int .u64 4]=.val (.int .i64 3):=by kernel_rfl
theorem FE (d:Nat)(g:G):am (sem C0 100) (d+1) g N.aa [.int .u64 5]=.val (.int .i64 3):=by kernel_rfl
theorem FF (d:Nat)(g:G):am (sem C0 100) (d+1) g N.aa [.int .u64 6]=.val (.int .i64 3):=by kernel_rfl
theorem FG (d:Nat)(g:G):am (sem C0 100) (d+1) g N.aa [.int .u64 7]=.val (.int .i64 3):=by kernel_rfl
theorem FH (d:Nat)(g:G):am (sem C0 100) (d+1) g N.aa [.int .u64 8]=.val (.int .i64 4):=by kernel_rfl
theorem E7 {d n:Nat}{g:G}(h:1<=n/\n<=8):∃r:Int,aG C0 (d+1) N.aa [.int .u64 (n:Int)] g=.val (.int .i64 r):=by
 rw[AU];have:n=1\/n=2\/n=3\/n=4\/n=5\/n=6\/n=7\/n=8:=by omega
 rcases this with rfl | rfl | rfl | rfl | rfl | rfl | rfl | rfl
 ·exact ⟨_,dx (FA d g)⟩
 ·exact ⟨_,dx (FB d g)⟩
 ·exact ⟨_,dx (FC d g)⟩
 ·exact ⟨_,dx (FD d g)⟩
 ·exact ⟨_,dx (FE d g)⟩
 ·exact ⟨_,dx (FF d g)⟩
 ·exact ⟨_,dx (FG d g)⟩
 ·exact ⟨_,dx (FH d g)⟩
theorem Own.sat_len {g:G}{b sz:Nat}{v:AV}{rows:List (List AV)}(h:Own g b v sz rows)(g':G):eN .slice v g'=.val (.int .i64 (rows.length:Int)):=by rcases h with ⟨rfl,rfl⟩ | ⟨id,ep,lo,h1,h2,rfl,h3⟩<;>rfl
set_option maxRecDepth 20000 in
theorem Ei {d b:Nat}{v:AV}{s:List Br}{x:Br}{g:G}{K:AV->G->Prop}{D:ADf->Prop}(hp:s.Pairwise λa b=>a.1<b.1)(hb:∀x∈s,0<=x.1/\x.1<=1000)(hx:0<=x.1/\x.1<=1000)(hne:∀y∈s,y.1≠x.1)(hl:s.length<=7)
  (ho:Own g b v 2 ((s++[x]).map cbr)) (kk:∀u g',Own g' b v 2 ((S.aF s x).map cbr)->Sr v g g'->K u g'):(aG C0 (d+1) N.aO [v,.clo 67 [] []] g).sat K g D:=by
 have cSort:∀(d:Nat) (xs:List AV) (g:G),aG C0 d N.aO xs g=orF ((I C0).call d N.aO xs g):=λd xs g=>by kernel_rfl
 have cPdq:∀(d:Nat) (xs:List AV) (g:G),aG C0 d N.ax xs g=orF ((I C0).call d N.ax xs g):=λd xs g=>by kernel_rfl
 have vl:∀g',eN .slice v g'=.val (.int .i64 ((s.length+1:Nat):Int)):=λg'=>by rw[ho.sat_len];simp
 have wu:IntKind.wrap .u64 ((s.length+1:Nat):Int)=((s.length+1:Nat):Int):=pI (by omega) (by omega);rw[cSort];refine jZ bF (by simp[aL]) ?_;simp only[sz,simprocAttr,aL,vl,wu];refine gu (Q:=λr=>∃r':Int,r=.int .i64 r') ?_ ?_
 ·obtain ⟨r,hr⟩:=E7 (d:=d) (n:=s.length+1) (g:=g) (by omega);exact ⟨_,hr,_,rfl⟩
 rintro _ ⟨r,rfl⟩;simp only[sz,simprocAttr];rw[cPdq];refine jZ c7 (by simp[aU]) ?_;have w1:IntKind.wrap .i64 (((s.length+1:Nat):Int) - 0)=((s.length+1:Nat):Int):=ay (by omega) (by omega);have c1:decide (((s.length+1:Nat):Int)<=12)=true:=decide_eq_true (by omega);simp only[sz,simprocAttr,aU];refine qU (λk t df g'=>df=[]/\g'=g/\St t [(0,v),(1,.int .i64 0),(2,.int .i64 ((s.length+1:Nat):Int)),(4,.clo 67 [] [])]) 0 ⟨rfl,rfl,rfl,rfl,rfl,rfl,trivial⟩ ?_;rintro k t df g' ⟨rfl,rfl,h0,h1,h2,h4,-⟩;simp only[sz,simprocAttr,bh,h0,h1,h2,h4,w1,c1];refine BE hp hb hx hne (by omega) ho λu g' o hs=>?_;simp only[sz,simprocAttr];exact kk _ _ o hs
theorem zK (d:Nat)(a c:AV)(g:G):eF C0 (I C0) d (.clo N.aA [] [c]) [a] g=orF ((I C0).call d N.aA [a,c] g):=by kernel_rfl
theorem zL (d:Nat)(a:AV)(g:G):eF C0 (I C0) d (.clo 42 [] []) [a] g=orF ((I C0).call d N.aR [a] g):=by kernel_rfl
def Wn (d:Nat)(W:AV)(q:Nat)(o:AObj)(w:Nat->Bool):Prop:=∀(g:G) (x:Br) (K:AV->G->Prop) (D:ADf->Prop),g.h.get q=o->q<g.nx->x.2<18446744073709551616->(∀g',Fr g g'->K (.bool (w x.2)) g')->(eF C0 (I C0) d W [.agg (cbr x)] g).sat K g D
theorem Fo (d q:Nat)(o:AObj):Wn d (.clo 42 [] []) q o λ_=>true:=λg x K D h1 h2 h3 kk=>by rw[zL];refine jZ mu (by simp[eo]) ?_;simp only[sz,simprocAttr,cbr,eo,fW];exact kk _ (Fr.new _ _)
theorem xY (s v:Nat):decide (((s / 2 ^ v &&& 1:Nat):Int)=1)=s.testBit v:=by rw[Nat.testBit,Nat.shiftRight_eq_div_pow,Nat.and_comm];apply Bool.eq_iff_iff.2;rw[decide_eq_true_eq,bne_iff_ne,Nat.one_and_eq_mod_two];omega
theorem Fp (d q v:Nat):Wn d (.clo N.aA [] [.hptr q 0 0 0]) q (.cells 1 [[.int .i64 (v:Int)]] 0 false false) λs=>s.testBit v:=λg x K D h1 h2 h3 kk=>by rw[zK];refine jZ mr (by simp[ej]) ?_;have e1:=tc .i64 x.2 v h3;have e2:=tb (x.2 / 2 ^ v) 1 (Nat.lt_of_le_of_lt (Nat.div_le_self _ _) h3) (by omega);have e2:bo .and (.int .u64 ((x.2 / 2 ^ v:Nat):Int)) (.int .u64 1)=.val (.int .u64 ((x.2 / 2 ^ v &&& 1:Nat):Int)):=e2;have e3:=xY x.2 v;simp only[sz,simprocAttr,cbr,ej,fV,h1,show ¬q=g.nx from by omega,e1,e2,e3];exact kk _ (Fr.new _ _)
theorem Ee {g:G}{b sz:Nat}{u:AV}{rows:List (List AV)}(hu:Own g b u sz rows){n:Nat}(hn:n<=rows.length) :
  ∃y,oy sz u (some (.int .i64 (n:Int))) none g=.val y/\(∀g',eN .slice y g'=.val (.int .i64 ((rows.length - n:Nat):Int)))/\∀h':H,(∀i,vid u=some i->h'.get i=g.h.get i)->ah h' sz y=some (rows.drop n):=by
 rcases hu with ⟨rfl,rfl⟩ | ⟨id,ep,lo,h1,h2,rfl,h3⟩
 ·have:n=0:=by simpa using hn
  subst this;exact ⟨.nils,rfl,λ_=>rfl,λ_ _=>rfl⟩
 ·simp only[oy,iA,h3,Nat.beq_refl,Nat.beq_refl,Bool.true_and,aq,Nat.zero_add,aa,Nat.ble_eq,Nat.le_refl,if_true,aS,Option.getD_none,Nat.sub_zero];simp only[cq];rw[show ak (n.ble rows.length) (some n) none=some n from by rw[aa,if_pos (by simpa using hn)]];dsimp only
  by_cases h0:rows.length=n
  ·subst h0;rw[if_pos (Nat.beq_refl _),List.drop_length,Nat.sub_self];cases lo
   ·exact ⟨_,rfl,λ_=>rfl,λ_ _=>rfl⟩
   ·exact ⟨_,rfl,λ_=>rfl,λ_ _=>ir _ _ _ _⟩
  ·rw[if_neg (λe=>h0 (Nat.eq_of_beq_eq_true e))];refine ⟨_,rfl,λ_=>rfl,λh' hf=>?_⟩;rw[cT,hf id rfl,h3,bD,if_pos (by omega),List.take_of_length_le (by simp)]
theorem Do {d pm q:Nat}{W O L:AV}{ob:AObj}{w:Nat->Bool}{o:List Br}{g0:G}{Q:QT}{t:T}(hW:Wn d W q ob w)(hq:g0.h.get q=ob)(hqn:q<g0.nx)(hO:Own g0 0 O 2 (o.map cbr))(hol:o.length<=8)(hos:∀x∈o,x.2<18446744073709551616)
  (hm:g0.h.get pm=.cells 2 [[L,O]] 0 false false) (hpn:pm<g0.nx)
  (ht:St t [(0,.hptr pm 0 0 0),(1,W),(4,.nils),(5,.nils),(14,O),(15,.int .i64 (o.length:Int)),(16,.int .i64 0)])
  (fin:∀t g T F,St t [(0,.hptr pm 0 0 0),(4,T),(5,F)]->Own g g0.nx T 2 ((o.filter λb=>w b.2).map cbr)->Own g g0.nx F 2 ((o.filter λb=>!w b.2).map cbr)->(∀i,vid T=some i->vid F≠some i)->Fr g0 g->Q (.exit 0) t [] g) :
  wpL (wp C0 d none bM) Q t [] g0:=by
 obtain ⟨h0,h1,h4,h5,h14,h15,h16,-⟩:=ht;simp only[bM,dL];refine bf (m:=o.length) (by omega) (λj t df g=>df=[]/\∃T F,St t [(0,.hptr pm 0 0 0),(1,W),(4,T),(5,F),(14,O)]/\Own g g0.nx T 2 (((o.take j).filter λb=>w b.2).map cbr)/\Own g g0.nx F 2 (((o.take j).filter λb=>!w b.2).map cbr)/\(∀i,vid T=some i->vid F≠some i)/\Fr g0 g)
  ⟨rfl,_,_,by simp[St,h0,h1,h4,h5,h14],.inl ⟨rfl,rfl⟩,.inl ⟨rfl,rfl⟩,λi hi=>(by cases hi),Fr.refl _⟩ h16 h15 (by decide)
  (by rintro j t df g v s (rfl | rfl | rfl) ⟨rfl,T,F,⟨a0,a1,a4,a5,a14,-⟩,r⟩<;>exact ⟨rfl,T,F,by simp[sx,St,a0,a1,a4,a5,a14],r⟩) ?_ ?_
 ·clear h0 h1 h4 h5 h14 h15 h16;rintro j t df g hj ⟨rfl,T,F,⟨h0,h1,h4,h5,h14,-⟩,oT,oF,hd,hf⟩ h16 h15;obtain ⟨x,hx,htk,hxm⟩:=aK hj;have hOg:Own g 0 O 2 (o.map cbr):=hO.step hf;have u1:j<(o.map cbr).length:=by simpa using hj
  have u2:(o.map cbr)[j]?=some [.int .i64 x.1,.int .u64 (x.2:Int)]:=by rw[List.getElem?_map,hx];rfl
  simp only[sz,simprocAttr,h1,h14,h16,hOg.rows,u1,u2];obtain ⟨gA,hgA⟩:∃gA,gA=((g.new (AObj.cells 2 [[AV.int IntKind.i64 0,AV.int IntKind.u64 0]] 0 false false)).put g.nx (AObj.cells 2 [[AV.int IntKind.i64 x.1,AV.int IntKind.u64 (x.2:Int)]] 0 false false)):=⟨_,rfl⟩;rw[<-hgA];have kA:gA.h.get g.nx=.cells 2 [[.int .i64 x.1,.int .u64 (x.2:Int)]] 0 false false:=by rw[hgA];simp[H.get_put]
  have kn:gA.nx=g.nx+1:=by rw[hgA];simp
  have fA:Fr g gA:=⟨by omega,λi hi=>by rw[hgA];simp[H.get_put,show ¬i=g.nx by omega]⟩;clear hgA;refine hW gA x _ _ (by rw[fA.2 q (by have:=hf.1;omega),hf.2 q hqn,hq]) (by have:=hf.1;omega) (hos x hxm) λg1 f1=>?_;have k1:g1.h.get g.nx=.cells 2 [[.int .i64 x.1,.int .u64 (x.2:Int)]] 0 false false:=by rw[f1.2 _ (by omega),kA]
  have fg:Fr g g1:=fA.trans f1;have oT1:=oT.step fg;have oF1:=oF.step fg;have hg0:=hf.1;have hg1:=fg.1;have hlt1:((o.take j).filter λb=>w b.2).length<=j:=Nat.le_trans (List.length_filter_le _ _) (by simp;omega);have hlt2:((o.take j).filter λb=>!w b.2).length<=j:=Nat.le_trans (List.length_filter_le _ _) (by simp;omega);cases hw:w x.2 with
  | true =>
   have e1:((o.take (j+1)).filter λb=>w b.2)=((o.take j).filter λb=>w b.2)++[x]:=by rw[htk,List.filter_append];simp[hw]
   have e2:((o.take (j+1)).filter λb=>!w b.2)=((o.take j).filter λb=>!w b.2):=by rw[htk,List.filter_append];simp[hw]
   simp only[sz,simprocAttr,h4,k1];refine aM (new:=[cbr x]) (oT1.step (Fr.new _ _)) (by simp[sx,sy,cbr]) (by simp;omega) (by simp[aT];omega) λv2 g2 hv2 n2 f2 c2 _=>?_;simp only[sz,simprocAttr];have fg2:Fr g0 g2:=⟨by simp at n2;omega,λi hi=>by
    rw[f2 i (by simp;omega) (λe=>by have:=(oT.lt e).1;omega),(Fr.new g1 _).2 i (by omega),fg.2 i (by omega),hf.2 i hi]⟩
   refine ⟨⟨v2,F,by simp[St,sx,h0,h1,h5,h14],?_,?_,?_,fg2⟩,by simp[sx,h15,h16]⟩
   ·rw[e1];simpa using hv2
   ·rw[e2];refine oF1.fr (by simp at n2;omega) λi hi=>?_;rw[f2 i (by have:=(oF1.lt hi).2;simp;omega) (λe=>hd i e hi),(Fr.new g1 _).2 i (oF1.lt hi).2]
   ·intro i hi hi2;rcases c2 with c2 | ⟨k,c2,c3⟩
    ·exact hd i (by rw[<-c2];exact hi) hi2
    ·rw[hi] at c2;injection c2 with c2;have:=(oF1.lt hi2).2;simp at c3;omega
  | false =>
   have e1:((o.take (j+1)).filter λb=>w b.2)=((o.take j).filter λb=>w b.2):=by rw[htk,List.filter_append];simp[hw]
   have e2:((o.take (j+1)).filter λb=>!w b.2)=((o.take j).filter λb=>!w b.2)++[x]:=by rw[htk,List.filter_append];simp[hw]
   simp only[sz,simprocAttr,h5,k1];refine aM (new:=[cbr x]) (oF1.step (Fr.new _ _)) (by simp[sx,sy,cbr]) (by simp;omega) (by simp[aT];omega) λv2 g2 hv2 n2 f2 c2 _=>?_;simp only[sz,simprocAttr];have fg2:Fr g0 g2:=⟨by simp at n2;omega,λi hi=>by
    rw[f2 i (by simp;omega) (λe=>by have:=(oF.lt e).1;omega),(Fr.new g1 _).2 i (by omega),fg.2 i (by omega),hf.2 i hi]⟩
   refine ⟨⟨T,v2,by simp[St,sx,h0,h1,h4,h14],?_,?_,?_,fg2⟩,by simp[sx,h15,h16]⟩
   ·rw[e1];refine oT1.fr (by simp at n2;omega) λi hi=>?_;rw[f2 i (by have:=(oT1.lt hi).2;simp;omega) (λe=>hd i hi e),(Fr.new g1 _).2 i (oT1.lt hi).2]
   ·rw[e2];simpa using hv2
   ·intro i hi hi2;rcases c2 with c2 | ⟨k,c2,c3⟩
    ·exact hd i hi (by rw[<-c2];exact hi2)
    ·rw[hi2] at c2;injection c2 with c2;have:=(oT1.lt hi).2;simp at c3;omega
 ·rintro t df g ⟨rfl,T,F,⟨h0,-,h4,h5,-⟩,oT,oF,hd,hf⟩;rw[List.take_length] at oT oF;exact fin t g T F (by simp[St,h0,h4,h5]) oT oF hd hf
structure JnJ (gB:G) (pm p8:Nat) (L O:AV) (st:List Sp×Br) (g:G):Prop where
 nx:gB.nx<=g.nx
 fr:∀i,i<gB.nx->i≠pm->i≠p8->vid L≠some i->g.h.get i=gB.h.get i
 ls:∃L',g.h.get pm=.cells 2 [[L',O]] 0 false false/\Own g 0 L' 3 (st.1.map cs3)/\(vid L'=vid L\/∃i,vid L'=some i/\gB.nx<=i)
 la:g.h.get p8=.cells 2 [[.int .i64 st.2.1,.int .u64 (st.2.2:Int)]] 0 false false
def LJn (pm p8:Nat)(F T1:AV):List (Nat×AV):=[(0,.hptr pm 0 0 0),(5,F),(8,.hptr p8 0 0 0),(39,T1)]
theorem yA:∀(bs:List Br) (st:List Sp×Br),(bs.foldl S.aA st).1.length=st.1.length+bs.length
 | [],_=>rfl
 | b::bs,st=>by rw[List.foldl_cons,yA bs,S.aA];simp;omega
theorem wL:∀(bs:List Br) (st:List Sp×Br),st.2.2<18446744073709551616->(∀b∈bs,b.2<18446744073709551616)->(bs.foldl S.aA st).2.2<18446744073709551616
 | [],_,h,_=>h
 | b::bs,st,h,hb=>by rw[List.foldl_cons];refine wL bs _ ?_ λx hx=>hb x (by simp[hx]);exact Nat.or_lt_two_pow (n:=64) h (hb b (by simp))
set_option maxRecDepth 20000 in
theorem Dp {d pm p8:Nat}{F T1 L O:AV}{b0:Br}{bs:List Br}{l:List Sp}{gB:G}{Q:QT}{t:T}(hpm:pm<gB.nx)(hp8:p8<gB.nx)(hne:pm≠p8)(hL1:vid L≠some pm)(hL2:vid L≠some p8)
  (hbl:bs.length<=8) (hll:l.length<=20) (hb0:b0.2<18446744073709551616) (hbs:∀b∈bs,b.2<18446744073709551616)
  (hT:∀g,JnJ gB pm p8 L O ((l,b0):List Sp×Br) g\/(gB.nx<=g.nx/\∀i,i<gB.nx->i≠pm->i≠p8->vid L≠some i->g.h.get i=gB.h.get i)->ah g.h 2 T1=some (bs.map cbr))
  (h0:JnJ gB pm p8 L O (l,b0) gB) (ht:St t ((40,.int .i64 (bs.length:Int))::(41,.int .i64 0)::LJn pm p8 F T1))
  (fin:∀t g,St t [(0,.hptr pm 0 0 0),(5,F),(8,.hptr p8 0 0 0)]->JnJ gB pm p8 L O (bs.foldl S.aA (l,b0)) g->Q (.exit 2) t [] g) :
  wpL (wp C0 d none bN) Q t [] gB:=by
 obtain ⟨h40,h41,a0,a5,a8,a39,-⟩:=ht;simp only[bN];refine bf (m:=bs.length) (by omega) (λj t df g=>df=[]/\St t (LJn pm p8 F T1)/\JnJ gB pm p8 L O ((bs.take j).foldl S.aA (l,b0)) g) ⟨rfl,by simp[St,LJn,a0,a5,a8,a39],h0⟩ h41 h40 (by decide)
  (by rintro j t df g v s (rfl | rfl | rfl)<;>simp[sx,St,LJn]) ?_ ?_
 ·clear h40 h41 a0 a5 a8 a39;rintro j t df g hj ⟨rfl,⟨a0,a5,a8,a39,-⟩,hJ⟩ h41 h40;obtain ⟨x,hx,htk,hxm⟩:=aK hj;have u0:=hT g (.inr ⟨hJ.nx,hJ.fr⟩);have u1:j<(bs.map cbr).length:=by simpa using hj
  have u2:(bs.map cbr)[j]?=some [.int .i64 x.1,.int .u64 (x.2:Int)]:=by rw[List.getElem?_map,hx];rfl
  have hln:=yA (bs.take j) (l,b0);rw[List.length_take] at hln;have hlt:=wL (bs.take j) (l,b0) hb0 λb hb=>hbs b (List.mem_of_mem_take hb);have hx64:=hbs x hxm;have hst:(bs.take (j+1)).foldl S.aA (l,b0)=S.aA ((bs.take j).foldl S.aA (l,b0)) x:=by rw[htk,List.foldl_append];rfl
  rw[hst];obtain ⟨⟨lst,a⟩,hsa⟩:∃st,st=(bs.take j).foldl S.aA (l,b0):=⟨_,rfl⟩;rw[<-hsa] at hJ hln hlt ⊢;dsimp only at hln hlt;have hla:=hJ.la;obtain ⟨L',q1,oL,qL⟩:=hJ.ls;have hnx:=hJ.nx;have hL3:vid L'≠some pm:=λe=>by
   rcases qL with q | ⟨i,q,q'⟩
   ·exact hL1 (by rw[<-q,e])
   ·rw[e] at q;injection q with q;omega
  have hL4:vid L'≠some p8:=λe=>by
   rcases qL with q | ⟨i,q,q'⟩
   ·exact hL2 (by rw[<-q,e])
   ·rw[e] at q;injection q with q;omega
  refine dh (P:=λt' df g'=>df=[]/\St t' ((10,.hptr g.nx 0 0 0)::(40,.int .i64 (bs.length:Int))::(41,.int .i64 (j:Int))::LJn pm p8 F T1)/\g'.h.get g.nx=.cells 2 [[.int .i64 x.1,.int .u64 (x.2:Int)]] 0 false false/\g'.nx=g.nx+1/\∀i,i<g.nx->g'.h.get i=g.h.get i) ?_ ?_
  ·simp only[sz,simprocAttr,a39,h41,u0,u1,u2];refine ⟨by simp[St,LJn,sx,a0,a5,a8,a39,h40,h41],λi hi=>?_⟩;simp[show ¬i=g.nx by omega]
  rintro t df g1 ⟨rfl,⟨h10,h40,h41,a0,a5,a8,a39,-⟩,k10,kn,kf⟩;have k8:g1.h.get p8=.cells 2 [[.int .i64 a.1,.int .u64 (a.2:Int)]] 0 false false:=by rw[kf p8 (by omega)];exact hla
  have km:g1.h.get pm=.cells 2 [[L',O]] 0 false false:=by rw[kf pm (by omega)];exact q1
  have oL1:Own g1 0 L' 3 (lst.map cs3):=oL.fr (by omega) λi hi=>kf i (oL.lt hi).2;refine dh (P:=λt' df g'=>df=[]/\St t' ((10,.hptr g.nx 0 0 0)::(40,.int .i64 (bs.length:Int))::(41,.int .i64 (j:Int))::LJn pm p8 F T1)/\g'.h.get g.nx=.cells 2 [[.int .i64 x.1,.int .u64 (x.2:Int)]] 0 false false/\g1.nx<=g'.nx/\(∀i,i<g1.nx->i≠pm->vid L'≠some i->g'.h.get i=g1.h.get i)/\∃L2,g'.h.get pm=.cells 2 [[L2,O]] 0 false false/\Own g' 0 L2 3 ((lst++[((-1:Int),a.1,x.1)]).map cs3)/\(vid L2=vid L'\/∃i,vid L2=some i/\g1.nx<=i)) ?_ ?_
  ·have nc:o7 (.hptr pm 0 0 0)=.val (.hptr pm 0 0 0):=rfl;simp only[sz,simprocAttr,sf,nc,a0,a8,h10,km,k8,k10];refine aM (new:=[cs3 (-1,a.1,x.1)]) (oL1.fr (by first | (simp;done) | (simp;omega)) λi hi=>by have:=(oL1.lt hi).2;simp[H.get_put];intro e;omega) (by simp[sx,sy,cs3]) (Nat.zero_le _) (by simp[aT];omega) λv2 g2 hv2 n2 f2 c2 lg2=>?_;have ff:∀i,i<g1.nx->vid L'≠some i->g2.h.get i=g1.h.get i:=λi hi hv=>by rw[f2 i (by first | (simp;done) | (simp;omega)) hv];simp[H.get_put];intro e;omega
   simp only[sy] at n2;have km2:g2.h.get pm=.cells 2 [[L',O]] 0 false false:=by rw[ff pm (by omega) hL3,km]
   have hc:=hv2.cell;simp only[sz,simprocAttr,sf,nc,a0,km2,hc.1,hc.2];refine ⟨?_,by simp[St,LJn,sx,a0,a5,a8,a39,h10,h40,h41],?_,?_,λi hi h1 h2=>?_,v2,?_,?_,?_⟩
   ·simp only[List.reverse_cons,List.reverse_nil,List.nil_append,List.cons_append,G.new_lg,G.put_lg,setLog_lg];refine aW [false,false,false,false,false,false,false,false,false,false,true,true,false,false,true] [(0,10),(1,10),(2,10),(3,10),(4,10),(0,11)] (by simp[All2,af,au]) (by decide) ?_;rintro p hp x y hx hy;simp only[List.mem_cons,List.not_mem_nil,or_false] at hp;rcases hp with rfl | rfl | rfl | rfl | rfl | rfl<;>(simp at hx hy;subst hx;subst hy;refine di rfl rfl rfl rfl ?_ ?_ ?_<;>simp[af,au,ac]<;>omega)
   ·have e1:=ff g.nx (by omega) λe=>by have:=(oL.lt e).2;omega
    simp[H.get_put,show ¬g.nx=pm from by omega];rw[e1,k10]
   ·simp at n2 ⊢;omega
   ·have e1:=ff i hi h2;simp[H.get_put,h1,e1]
   ·simp[H.get_put]
   ·have hv3:Own g2 0 v2 3 ((lst++[((-1:Int),a.1,x.1)]).map cs3):=by simpa using hv2
    refine hv3.fr (by first | (simp;done) | (simp;omega)) λi hi=>?_;have:¬i=pm:=λe=>by
     subst e;rcases c2 with c2 | ⟨k,c2,c3⟩
     ·exact hL3 (by rw[<-c2];exact hi)
     ·rw[hi] at c2;injection c2 with c2;simp at c3;omega
    simp[H.get_put,this]
   ·rcases c2 with c2 | ⟨k,c2,c3⟩
    ·exact .inl c2
    ·exact .inr ⟨k,c2,by simp at c3;omega⟩
  rintro t df g2 ⟨rfl,⟨h10,h40,h41,a0,a5,a8,a39,-⟩,k10,n2,f2,L2,km2,oL2,c2⟩;have hL5:vid L2≠some p8:=λe=>by
   rcases c2 with q | ⟨i,q,q'⟩
   ·exact hL4 (by rw[<-q,e])
   ·rw[e] at q;injection q with q;omega
  have k8:g2.h.get p8=.cells 2 [[.int .i64 a.1,.int .u64 (a.2:Int)]] 0 false false:=by rw[f2 p8 (by omega) (λe=>hne e.symm) hL4];exact k8
  have nc:o7 (.hptr pm 0 0 0)=.val (.hptr pm 0 0 0):=rfl;have vl:=λg=>oL2.sat_len g;have w1:IntKind.wrap .i64 ((((lst++[((-1:Int),a.1,x.1)]).map cs3).length:Int) - 1)=(lst.length:Int):=by rw[List.length_map,List.length_append,List.length_singleton,ay (by omega) (by omega)];omega
  have e3:=oe a.2 x.2 hlt hx64;simp only[sz,simprocAttr,sf,nc,a0,a8,h10,k8,km2,k10,vl,w1,e3];refine ⟨?_,⟨?_,?_⟩,?_⟩
  ·simp only[List.reverse_cons,List.reverse_nil,List.nil_append,List.cons_append,G.new_lg,G.put_lg,setLog_lg];exact aW [false,false,false,false,false,false,false,false,false,false,false,false,true] [] (by simp[All2,af,au]) (by decide) (by simp)
  ·simp[St,LJn,sx,a0,a5,a8,a39]
  ·rw[S.aA];refine ⟨by simp;omega,λi hi h1 h2 h3=>?_,⟨L2,?_,?_,?_⟩,?_⟩
   ·have e1:g2.h.get i=g1.h.get i:=f2 i (by omega) h1 λe=>by
     rcases qL with q | ⟨k,q,q'⟩
     ·exact h3 (by rw[<-q,e])
     ·rw[e] at q;injection q with q;omega
    simp[H.get_put,h2];rw[e1,kf i (by omega),hJ.fr i hi h1 h2 h3]
   ·simp[H.get_put,hne,km2]
   ·refine oL2.fr (by first | (simp;done) | (simp;omega)) λi hi=>?_;have:¬i=p8:=λe=>hL5 (by rw[<-e,hi]);simp[H.get_put,this]
   ·rcases c2 with q | ⟨k,q,q'⟩
    ·rcases qL with r | ⟨k,r,r'⟩
     ·exact .inl (q.trans r)
     ·exact .inr ⟨k,by rw[q,r],r'⟩
    ·exact .inr ⟨k,q,by omega⟩
   ·simp[H.get_put]
  ·simp[sx,h40,h41]
 ·rintro t df g ⟨rfl,⟨a0,a5,a8,-⟩,hJ⟩;rw[List.take_length] at hJ;exact fin t g (by simp[St,a0,a5,a8]) hJ
theorem uV:∀(bs:List Br) (st:List Sp×Br),bs≠[]->(bs.foldl S.aA st).2.1=((st.1.length+bs.length - 1:Nat):Int)
 | [],_,h=>absurd rfl h
 | [b],st,_=>by simp[S.aA]
 | b::c::bs,st,_=>by rw[List.foldl_cons,uV (c::bs) _ (by simp),S.aA];simp;omega
theorem BI {w:Nat->Bool}{l:List Sp}{o:List Br}(h:(o.filter λb=>w b.2)=[]):S.jn w (l,o)=(l,o):=by unfold S.jn;dsimp only;rw[h]
theorem yy {w:Nat->Bool}{l:List Sp}{o:List Br}{b:Br}{bs:List Br}(h:(o.filter λb=>w b.2)=b::bs):S.jn w (l,o)=((bs.foldl S.aA (l,b)).1,S.aF (o.filter λb=>!w b.2) (bs.foldl S.aA (l,b)).2):=by unfold S.jn;dsimp only;rw[h]
theorem uJ (w:Nat->Bool):∀o:List Br,(o.filter λb=>w b.2).length+(o.filter λb=>!w b.2).length=o.length
 | []=>rfl
 | c::o=>by have:=uJ w o;cases hc:w c.2<;>simp[List.filter_cons,hc]<;>omega
structure MkH (pm:Nat) (L O:AV) (st:List Sp×List Br) (g:G):Prop where
 m:g.h.get pm=.cells 2 [[L,O]] 0 false false
 pn:pm<g.nx
 oL:Own g 0 L 3 (st.1.map cs3)
 oO:Own g 0 O 2 (st.2.map cbr)
 d1:vid L≠some pm
 d2:vid O≠some pm
 d3:∀i,vid L=some i->vid O≠some i
set_option maxRecDepth 20000 in
theorem yz {d pm q m:Nat}{W L O:AV}{ob:AObj}{w:Nat->Bool}{l:List Sp}{o:List Br}{g:G}{K:AV->G->Prop}{D:ADf->Prop}(hW:Wn (d+1) W q ob w)(hq:g.h.get q=ob)(hqn:q<g.nx)
  (hM:MkH pm L O (l,o) g) (hI:MkI m (l,o)) (hm8:m<=8) (hos:∀x∈o,x.2<18446744073709551616)
  (kk:∀u g' L' O',MkH pm L' O' (S.jn w (l,o)) g'->g.nx<=g'.nx->(∀i,i<g.nx->i≠pm->vid L≠some i->vid O≠some i->g'.h.get i=g.h.get i)->(vid L'=vid L\/∀i,vid L'=some i->g.nx<=i)->(vid O'=vid O\/∀i,vid O'=some i->g.nx<=i)->K u g') :
  (aG C0 (d+1) N.am [.hptr pm 0 0 0,W] g).sat K g D:=by
 obtain ⟨hm,hpn,oL,oO,d1,d2,d3⟩:=hM;dsimp only at oL oO;have hln:=hI.ln;have hl1:=hI.l1;dsimp only at hln hl1;rw[iH];refine jZ jA (by simp[cL]) ?_;have nc:o7 (.hptr pm 0 0 0)=.val (.hptr pm 0 0 0):=rfl;have vl:=λg=>oO.sat_len g;rw[List.length_map] at vl;simp only[sz,simprocAttr,cL,nc,hm,vl];refine Do hW hq hqn oO (by omega) hos hm hpn (by simp[St,sx]) λt g1 T F ht oT oF hd hf=>?_;obtain ⟨h0,h4,h5,-⟩:=ht;have tl:=λg=>oT.sat_len g;rw[List.length_map] at tl;cases hfl:o.filter λb=>w b.2 with
 | nil =>
  rw[hfl] at tl;simp only[sz,simprocAttr,bO,h4,tl];refine kk _ _ L O ?_ hf.1 (λi hi _ _ _=>hf.2 i hi) (.inl rfl) (.inl rfl);rw[BI hfl];exact ⟨by rw[hf.2 pm hpn,hm],by have:=hf.1;omega,oL.step hf,oO.step hf,d1,d2,d3⟩
 | cons b bs =>
  have hbm:∀c∈b::bs,c∈o/\w c.2=true:=λc hc=>by rw[<-hfl,List.mem_filter] at hc;exact hc
  have hlf:=uJ w o;rw[hfl] at hlf oT tl;rw[List.length_cons] at hlf tl;have u1:0<((b::bs).map cbr).length:=by simp
  have u2:((b::bs).map cbr)[0]?=some [.int .i64 b.1,.int .u64 (b.2:Int)]:=rfl;have c0:decide (((bs.length+1:Nat):Int)=0)=false:=decide_eq_false (by omega);have u3:ah g1.h 2 T=some ((b::bs).map cbr):=oT.rows;have hnx:=hf.1;simp only[bO];refine dh (P:=λt' df g'=>df=[]/\g'=g1/\St t' [(0,.hptr pm 0 0 0),(4,T),(5,F)]) ?_ ?_
  ·simp only[sz,simprocAttr,h4,tl,c0];simp[St,sx,h0,h4,h5]
  rintro t df g2 ⟨rfl,rfl,h0,h4,h5,-⟩;refine nT (P:=λt' df g'=>df=[]/\St t' [(0,.hptr pm 0 0 0),(4,T),(5,F),(8,.hptr g2.nx 0 0 0)]/\g'.h.get g2.nx=.cells 2 [[.int .i64 b.1,.int .u64 (b.2:Int)]] 0 false false/\g'.nx=g2.nx+1/\∀i,i<g2.nx->g'.h.get i=g2.h.get i) ?_ ?_
  ·have u4:tA 2 T (.int .i64 0) g2=.val (fq 2 T 0 0):=tB (k:=.i64) (i:=0) (by rw[u3];rfl) (by rw[u3];simp);simp only[sz,simprocAttr,h4,u3,u1,u2,u4];refine ⟨by simp[St,sx,h0,h4,h5],λi hi=>?_⟩;simp[show ¬i=g2.nx by omega]
  rintro t df gB ⟨rfl,⟨h0,h4,h5,h8,-⟩,k8,kn,kf⟩;have fB:Fr g2 gB:=⟨by omega,kf⟩;have fgB:=hf.trans fB;have oTB:=oT.step fB;obtain ⟨y,y1,y2,y3⟩:=Ee oTB (n:=1) (by simp);have y1:oy 2 T (some (.int .i64 1)) none gB=.val y:=y1;have yl:∀g',eN .slice y g'=.val (.int .i64 (bs.length:Int)):=λg'=>by rw[y2];simp
  simp only[sz,simprocAttr,h4,y1,yl,List.head?_nil,List.head?_cons];have hL2:vid L≠some g2.nx:=λe=>by have:=(oL.lt e).2;omega
  refine Dp (pm:=pm) (p8:=g2.nx) (F:=F) (T1:=y) (L:=L) (O:=O) (b0:=b) (bs:=bs) (l:=l) (by omega) (by omega) (by omega) d1 hL2 (by omega) (by omega) (hos b (hbm b (by simp)).1) (λc hc=>hos c (hbm c (by simp[hc])).1) ?_ ⟨Nat.le_refl _,λ_ _ _ _ _=>rfl,⟨L,?_,oL.step fgB,.inl rfl⟩,k8⟩ (by simp[St,LJn,sx,h0,h5,h8]) λt g3 ht hJ=>?_
  ·intro g' hg';have hfr:gB.nx<=g'.nx/\∀i,i<gB.nx->i≠pm->i≠g2.nx->vid L≠some i->g'.h.get i=gB.h.get i:=by
    rcases hg' with h | h
    ·exact ⟨h.nx,h.fr⟩
    ·exact h
   rw[y3 g'.h λi hi=>?_]
   ·rfl
   ·have i1:=oT.lt hi;exact hfr.2 i (by omega) (by omega) (by omega) λe=>by have:=(oL.lt e).2;omega
  ·rw[fgB.2 pm hpn,hm]
  obtain ⟨h0,h5,h8,-⟩:=ht;obtain ⟨L',q1,oL',qL⟩:=hJ.ls;have hla:=hJ.la;have hnx3:=hJ.nx;have hfr:=hJ.fr;obtain ⟨st,hst⟩:∃st,st=bs.foldl S.aA (l,b):=⟨_,rfl⟩;have hjn:S.jn w (l,o)=(st.1,S.aF (o.filter λb=>!w b.2) st.2):=by rw[hst];exact yy hfl
  rw[<-hst] at oL' hla;have oF3:Own g3 g.nx F 2 ((o.filter λb=>!w b.2).map cbr):=oF.fr (by omega) λi hi=>by have i1:=oF.lt hi;rw[hfr i (by omega) (by omega) (by omega) λe=>by have:=(oL.lt e).2;omega,kf i (by omega)]
  have hF5:vid F≠some g2.nx:=λe=>by have:=(oF.lt e).2;omega
  have hFL:∀i,vid F=some i->vid L'≠some i:=λi hi e=>by
   have i1:=oF.lt hi;rcases qL with q | ⟨k,q,q'⟩
   ·have:=(oL.lt (q ▸ e)).2;omega
   ·rw[e] at q;injection q with q;omega
  have hL3:vid L'≠some pm:=λe=>by
   rcases qL with q | ⟨k,q,q'⟩
   ·exact d1 (q ▸ e)
   ·rw[e] at q;injection q with q;omega
  have hss:(o.filter λb=>!w b.2).Pairwise λa b=>a.1<b.1:=hI.so.filter _;have hsb:∀x∈(o.filter λb=>!w b.2),0<=x.1/\x.1<(l.length:Int):=λx hx=>by have:=(hI.op x.1).1 ⟨x,(List.mem_filter.1 hx).1,rfl⟩;exact ⟨this.1,this.2.1⟩
  have hbb:=(hI.op b.1).1 ⟨b,(hbm b (by simp)).1,rfl⟩;dsimp only at hbb;have hx:(0<=st.2.1/\st.2.1<=1000)/\∀y∈(o.filter λb=>!w b.2),y.1≠st.2.1:=by
   cases hbs:bs with
   | nil =>
    rw[hst,hbs];refine ⟨⟨hbb.1,by dsimp only[List.foldl_nil];omega⟩,λy hy e=>?_⟩;obtain ⟨y1,y2⟩:=List.mem_filter.1 hy;have:=CJ hI.so y1 (hbm b (by simp)).1 e;rw[this,(hbm b (by simp)).2] at y2;cases y2
   | cons c cs =>
    have:=uV bs (l,b) (by rw[hbs];simp);rw[<-hst,hbs] at this;rw[hbs] at hlf;simp only[List.length_cons] at this hlf;rw[this];refine ⟨⟨by omega,by omega⟩,λy hy e=>?_⟩;have:=hsb y hy;omega
  simp only[sz,simprocAttr,dM,h0,h5,h8,hla];refine aM (new:=[cbr st.2]) (oF3.step (Fr.new _ _)) (by simp[sx,sy,cbr]) (by simp;omega) (by simp[aT];omega) λv5 g5 hv5 n5 f5 c5 _=>?_;have hc:=hv5.cell;simp at n5;have e5:∀i,i<g3.nx->vid F≠some i->g5.h.get i=g3.h.get i:=λi hi hv=>by rw[f5 i (by simp;omega) hv,(Fr.new g3 _).2 i hi]
  have hFp:vid F≠some pm:=λe=>by have:=(oF.lt e).1;omega
  have m5:g5.h.get pm=.cells 2 [[L',O]] 0 false false:=by rw[e5 pm (by omega) hFp,q1]
  have hv5p:vid v5≠some pm:=λe=>by
   rcases c5 with c | ⟨k,c,c'⟩
   ·exact hFp (c ▸ e)
   ·rw[e] at c;injection c with c;simp at c';omega
  have hv5L:∀i,vid L'=some i->vid v5≠some i:=λi hi e=>by
   have i1:=(oL'.lt hi).2;rcases c5 with c | ⟨k,c,c'⟩
   ·exact hFL i (c ▸ e) hi
   ·rw[e] at c;injection c with c;simp at c';omega
  simp only[sz,simprocAttr,nc,h0,m5,hc.1,hc.2];have hv6:Own (g5.put pm (.cells 2 [[L',v5]] 0 false false)) g.nx v5 2 (((o.filter λb=>!w b.2)++[st.2]).map cbr):=by
   have:Own g5 g.nx v5 2 (((o.filter λb=>!w b.2)++[st.2]).map cbr):=by simpa using hv5
   exact this.fr (by simp) λi hi=>by simp[H.get_put,show ¬i=pm from λe=>hv5p (by rw[<-e,hi])]
  refine Ei (b:=g.nx) hss (λx hx=>⟨(hsb x hx).1,by have:=(hsb x hx).2;omega⟩) hx.1 hx.2 (by omega) hv6 λu g6 o6 s6=>?_;simp only[sz,simprocAttr];have s1:=s6.1;simp only[G.put_nx] at s1;have s2:∀i,i<g5.nx->vid v5≠some i->i≠pm->g6.h.get i=g5.h.get i:=λi hi hv hp=>by rw[s6.2.1 i (by simpa using hi) hv];simp[H.get_put,hp]
  refine kk _ g6 L' v5 ?_ (by omega) (λi hi hp hL hO=>?_) ?_ (.inr λi hi=>(o6.lt hi).1)
  ·rw[hjn];refine ⟨?_,by omega,?_,o6.low (Nat.zero_le _),hL3,hv5p,hv5L⟩
   ·rw[s6.2.1 pm (by simp;omega) hv5p];simp[H.get_put]
   ·refine oL'.fr (by omega) λi hi=>?_;have i1:=(oL'.lt hi).2;rw[s2 i (by omega) (hv5L i hi) (λe=>hL3 (by rw[<-e,hi])),e5 i i1 λe=>hFL i e hi]
  ·rw[s2 i (by omega) (λe=>by have:=(o6.lt e).1;omega) hp,e5 i (by omega) (λe=>by have:=(oF.lt e).1;omega),hfr i (by omega) hp (by omega) hL,kf i (by omega),hf.2 i hi]
  ·rcases qL with q | ⟨k,q,q'⟩
   ·exact .inl q
   ·exact .inr λi hi=>by rw[hi] at q;injection q with q;omega
def S.bk (n:Net):List Nat:=if S.aB n then S.ae n else []
def S.bi (n:Net):Int:=if S.aB n then 0 else 50
theorem DT {d:Nat}{g:G}{v:AV}{n:Net}(hd:0<d)(hm:Agg n NoP 0 g.h v):∃r,aG C0 d N.aD [v] g=.val r/\zq (One (S.bk n)) (One (S.bi n)) NoP 0 .nil r:=by
 obtain ⟨b,rows,rfl,e1,hm',-⟩:=lO d hm;rw[oh];refine cy qb (xs:=[.agg [.int .i64 n.grain,b]]) (by simp only[aJ,e1]) (by simp[je]) (nV (m:=1) (cd _) (cd _) (by decide) (by decide)) (by decide) hd ?_;simp only[sz,simprocAttr,je];obtain ⟨g0,hg0⟩:∃g0,g0=G.empty.new (.cells 2 [[.int .i64 n.grain,b]] 0 false false):=⟨_,rfl⟩;rw[<-hg0];have f0:g0.h.get 0=.cells 2 [[.int .i64 n.grain,b]] 0 false false:=by rw[hg0];simp[sx]
 have n0:g0.nx=1:=by rw[hg0];simp[sx]
 clear hg0;have ld:cW (.cells 2 [[.int .i64 n.grain,b]] 0 false false) 0 0 true 2 0=.val (.agg [.int .i64 n.grain,b]):=rfl;simp only[sz,simprocAttr,kz,f0,ld];refine gu (yU (Nat.succ_pos d) (n:=n) (hm' _)) λz hz=>?_;obtain ⟨o,-,a,c,rfl,⟨cs,rfl,hc⟩,hi⟩:=hz;have hi:=bj.1 hi;injection hi with hi;subst hi;obtain ⟨a1,a2,a3,a4,rfl,hb,hcv,hsv,hoz⟩:=qH.1 hc;have st:∀g:G,gS (.cells 5 [[.int .i64 0,.nils,.nils,.nils,.nils]] 0 false false) g 1 0 0 5 0 (.agg [.int .i64 (S.a9 n o).1.grain,a1,a2,a3,a4])=.upd .undef (g.put 1 (.cells 5 [[.int .i64 (S.a9 n o).1.grain,a1,a2,a3,a4]] 0 false false)):=λg=>by
  have h1:=hb.2;have h2:=hcv.2;have h3:=hsv.2;have h4:=hoz.2;unfold SlV at h1 h2 h3 h4
  split at h1<;>split at h2<;>split at h3<;>split at h4<;>first | rfl | exact h1.elim | exact h2.elim | exact h3.elim | exact h4.elim
 simp only[sz,simprocAttr,n0,st];have hp:(S.a9 n o).2.2.1=S.bk n:=by unfold S.a9 S.bk;split<;>rfl
 rw[hp] at hsv;exact ⟨λ_=>True,_,_,rfl,mf.2 ⟨a3,rfl,hsv.wide (Nat.le_refl 0)⟩,bj.2 rfl⟩
def S.be (l:List Int)(n:Nat)(i:Nat):Bool:=(List.range i).all λj=>decide (0<=l[j]?.getD 0)&&decide (l[j]?.getD 0<(n:Int))&&!(S.af (l.take j)).testBit (l[j]?.getD 0).toNat
def S.aG (l:List Int)(n:Nat):Bool:=decide ((l.length:Int)=(n:Int))&&S.be l n l.length
theorem Af {l:List Int}{n i:Nat}(hi:i<l.length)(h:¬(0<=l[i]?.getD 0/\l[i]?.getD 0<(n:Int)/\(S.af (l.take i)).testBit (l[i]?.getD 0).toNat=false)):S.aG l n=false:=by rw[Bool.eq_false_iff];intro h2;simp only[S.aG,S.be,Bool.and_eq_true,decide_eq_true_eq,List.all_eq_true,List.mem_range,Bool.not_eq_true'] at h2;have:=h2.2 i hi;exact h ⟨this.1.1,this.1.2,this.2⟩
theorem wK {d k n:Nat}{g:G}{P:Nat->Prop}{v:AV}{l:List Int}(hd:0<d)(hn:n<=64)(hv:SlR P k g.h l v):aG C0 d N.aB [v,.int .i64 (n:Int)] g=.val (.bool (S.aG l n)):=by
 obtain ⟨v',e,r1⟩:=jT hv d;have vl:∀g,eN .slice v' g=.val (.int .i64 (l.length:Int)):=λg=>(r1 .nil).len g;have ri:=λh=>(r1 h).ints;rw[jV];refine ql li (xs:=[v',.int .i64 (n:Int)]) (by simp only[aJ,e,l0 0]) (by simp[cx]) hd ?_
 by_cases c0:(l.length:Int)=(n:Int)
 rotate_left
 ·have hs:S.aG l n=false:=by simp[S.aG,c0]
  simp only[sz,simprocAttr,cx,vl,c0,hs]
 simp only[sz,simprocAttr,cx,vl,c0,eU];refine bf (m:=n) (by omega) (λj t df g=>df=[]/\St t [(12,v'),(1,.int .i64 (n:Int)),(5,.int .u64 (S.af (l.take j):Int))]/\S.be l n j=true) ⟨rfl,by simp[St,sx,S.af],rfl⟩ (by simp[sx]) (by simp[sx]) (by decide)
  (by rintro j t df g v s (rfl | rfl | rfl)<;>simp[sx,St]) ?_ ?_
 ·rintro j t df g hj ⟨rfl,⟨h12,h1,h5,-⟩,hok⟩ h14 h13;obtain ⟨x,hx,htk,hm⟩:=aK (l:=l) (j:=j) (by omega);have z1:j<(l.map ci).length:=by simp;omega
  have z2:(l.map ci)[j]?=some (ci x):=by rw[List.getElem?_map,hx];rfl
  have gx:l[j]?.getD 0=x:=by rw[hx];rfl
  have bad:=Af (l:=l) (n:=n) (i:=j) (by omega);rw[gx] at bad
  by_cases c1:x<0
  ·have:=bad (by omega);simp only[sz,simprocAttr,h12,h14,ri,z1,z2,ci,c1,this]
  by_cases c2:(n:Int)<=x
  ·have:=bad (by omega);simp only[sz,simprocAttr,h12,h14,h1,ri,z1,z2,ci,c1,c2,this]
  obtain ⟨X,rfl⟩:=Int.eq_ofNat_of_zero_le (show 0<=x by omega);have e1:=tc .i64 (S.af (l.take j)) X (gL _);have e2:bo .and (.int .u64 ((S.af (l.take j) / 2 ^ X:Nat):Int)) (.int .u64 1)=.val (.int .u64 ((S.af (l.take j) / 2 ^ X &&& 1:Nat):Int)):=tb (S.af (l.take j) / 2 ^ X) 1 (Nat.lt_of_le_of_lt (Nat.div_le_self _ _) (gL _)) (by omega);have e3:=xY (S.af (l.take j)) X;cases cb:(S.af (l.take j)).testBit X with
  | true =>
   have:=bad (by rw[Int.toNat_natCast,cb];simp);rw[cb] at e3;simp only[sz,simprocAttr,h12,h14,h1,h5,ri,z1,z2,ci,c1,c2,e1,e2,e3,this]
  | false =>
   rw[cb] at e3;have hok':S.be l n (j+1)=true:=by rw[S.be,List.range_succ,List.all_append,show ((List.range j).all λj=>decide (0<=l[j]?.getD 0)&&decide (l[j]?.getD 0<(n:Int))&&!(S.af (l.take j)).testBit (l[j]?.getD 0).toNat)=true from hok];simp[gx,cb];omega
   have e4:bo .shl (.int .u64 1) (.int .i64 (X:Int))=.val (.int .u64 (S.an X:Int)):=eD .i64 X;have e5:=oe (S.af (l.take j)) (S.an X) (gL _) (jb X);have em:S.af (l.take (j+1))=S.af (l.take j) ||| S.an X:=by rw[htk,sJ];rfl
   simp only[sz,simprocAttr,h12,h14,h1,h5,ri,z1,z2,ci,c1,c2,e1,e2,e3,e4,e5];simp[St,sx,h12,h1,h13,h14,em,hok']
 ·rintro t df g ⟨rfl,-,hok⟩;have:S.aG l n=true:=by
   have e:l.length=n:=by omega
   rw[S.aG,decide_eq_true c0,e,hok];rfl
  simp only[sz,simprocAttr,eV,this]
def S.ah (n:Net):List Nat:=(List.range n.nodes.length).map λv=>(S.ae n)[v]?.getD 0 ||| S.an v
def S.aX (n:Net)(l:List Int):List Sp:=if S.aB n&&S.aG l n.nodes.length then (S.mk (S.ah n) l).1 else []
def S.a7 (n:Net)(l:List Int):Int:=if S.aB n then (if S.aG l n.nodes.length then 0 else 2) else 50
def EW (o:List Br):Prop:=∀x∈o,x.2<18446744073709551616
theorem Du {w:Nat->Bool}{st:List Sp×List Br}(h:EW st.2):EW (S.jn w st).2:=by
 obtain ⟨l,o⟩:=st;cases hf:o.filter λb=>w b.2 with
 | nil=>rw[BI hf];exact h
 | cons b bs =>
  rw[yy hf];have hbm:∀c∈b::bs,c∈o:=λc hc=>by rw[<-hf,List.mem_filter] at hc;exact hc.1
  intro x hx;unfold S.aF at hx;rcases List.mem_append.1 hx with hx | hx
  ·exact h x (List.mem_filter.1 (List.mem_filter.1 hx).1).1
  ·rcases List.mem_cons.1 hx with rfl | hx
   ·exact wL bs (l,b) (h b (hbm b (by simp))) λc hc=>h c (hbm c (by simp[hc]))
   ·exact h x (List.mem_filter.1 (List.mem_filter.1 hx).1).1
theorem wP {fam:List Nat}{order:List Int}(h:∀x∈fam,x<18446744073709551616):∀j,EW (S.aK fam order j).2
 | 0=>λx hx=>by obtain ⟨v,hv,rfl⟩:=List.mem_map.1 hx;have hv:=List.mem_range.1 hv;dsimp only;rw[List.getElem?_eq_getElem hv];exact h _ (List.getElem_mem _)
 | j+1=>Du (wP h j)
theorem ym {n:Net}(hr:NR n):∀x∈S.ah n,x<18446744073709551616:=λx hx=>by
 obtain ⟨v,hv,rfl⟩:=List.mem_map.1 hx;refine Nat.or_lt_two_pow (n:=64) ?_ (jb v);cases h:(S.ae n)[v]? with
 | none=>simp
 | some y =>
  obtain ⟨z,-,rfl⟩:=List.mem_map.1 (List.mem_of_getElem? h);exact gL _
def S.aJ (fam:List Nat)(j:Nat):List Sp×List Br:=((List.range j).map λv:Nat=>(((v:Int),-1,-1):Sp),(List.range j).map λv:Nat=>(((v:Int),fam[v]?.getD 0):Br))
theorem Dv {d pm:Nat}{pv oa:AV}{n:Net}{Q:QT}{t:T}{g:G}(hn:n.nodes.length<=8)(hpv:SlR NoP 0 .nil (S.ae n) pv)(hM:MkH pm .nils .nils ([],[]) g)
  (ht:St t [(1,oa),(8,.hptr pm 0 0 0),(29,pv),(30,.int .i64 (n.nodes.length:Int)),(31,.int .i64 0)])
  (fin:∀t g L O,St t [(1,oa),(8,.hptr pm 0 0 0)]->MkH pm L O (S.aN (S.ah n)) g->Q (.exit 0) t [] g) :
  wpL (wp C0 (d+1) none dT) Q t [] g:=by
 obtain ⟨h1,h8,h29,h30,h31,-⟩:=ht;have hpl:(S.ae n).length=n.nodes.length:=by simp[S.ae]
 have rp:=λh=>(hpv.tree (h':=h) (Nat.le_refl 0)).nats;simp only[dT];refine bf (m:=n.nodes.length) (by omega) (λj t df g=>df=[]/\St t [(1,oa),(8,.hptr pm 0 0 0),(29,pv)]/\∃L O,MkH pm L O (S.aJ (S.ah n) j) g)
  ⟨rfl,by simp[St,h1,h8,h29],_,_,hM⟩ h31 h30 (by decide) (by rintro j t df g v s (rfl | rfl | rfl)<;>simp[sx,St]) ?_ ?_
 ·clear h1 h8 h29 h30 h31 hM;rintro j t df g hj ⟨rfl,⟨h1,h8,h29,-⟩,L,O,hM⟩ h31 h30;obtain ⟨x,hx,-,-⟩:=aK (l:=S.ae n) (j:=j) (by omega);have u1:j<((S.ae n).map cu).length:=by simp;omega
  have u2:((S.ae n).map cu)[j]?=some (cu x):=by rw[List.getElem?_map,hx];rfl
  obtain ⟨hm,hpn,oL,oO,d1,d2,d3⟩:=hM;have nc:o7 (.hptr pm 0 0 0)=.val (.hptr pm 0 0 0):=rfl;have hx64:x<18446744073709551616:=by obtain ⟨z,-,rfl⟩:=List.mem_map.1 (List.mem_of_getElem? hx);exact gL _
  have hfj:(S.ah n)[j]?.getD 0=x ||| S.an j:=by simp[S.ah,hj,hx]
  have hsl:(S.aJ (S.ah n) (j+1)).1=(S.aJ (S.ah n) j).1++[((j:Int),-1,-1)]:=by simp[S.aJ,List.range_succ]
  have hso:(S.aJ (S.ah n) (j+1)).2=(S.aJ (S.ah n) j).2++[((j:Int),x ||| S.an j)]:=by simp[S.aJ,List.range_succ,hfj]
  have ll:(S.aJ (S.ah n) j).1.length=j:=by simp[S.aJ]
  have lo:(S.aJ (S.ah n) j).2.length=j:=by simp[S.aJ]
  refine dh (P:=λt' df g'=>df=[]/\g'=g/\St t' [(1,oa),(8,.hptr pm 0 0 0),(9,.int .i64 (j:Int)),(10,.int .u64 (x:Int)),(29,pv),(30,.int .i64 (n.nodes.length:Int)),(31,.int .i64 (j:Int))]) ?_ ?_
  ·simp only[sz,simprocAttr,h29,h31,rp,u1,u2,cu];simp[St,sx,h1,h8,h29,h30,h31]
  rintro t df g' ⟨rfl,rfl,h1,h8,h9,h10,h29,h30,h31,-⟩;refine dh (P:=λt' df g1=>df=[]/\St t' [(1,oa),(8,.hptr pm 0 0 0),(9,.int .i64 (j:Int)),(10,.int .u64 (x:Int)),(29,pv),(30,.int .i64 (n.nodes.length:Int)),(31,.int .i64 (j:Int))]/\∃L',MkH pm L' O ((S.aJ (S.ah n) (j+1)).1,(S.aJ (S.ah n) j).2) g1) ?_ ?_
  ·simp only[sz,simprocAttr,nc,h8,h9,hm];refine aM (new:=[cs3 ((j:Int),-1,-1)]) (oL.step (Fr.new _ _)) (by simp[sx,sy,cs3]) (Nat.zero_le _) (by simp[aT];omega) λv2 g2 hv2 n2 f2 c2 _=>?_;have hc:=hv2.cell;simp at n2;have ff:∀i,i<g'.nx->vid L≠some i->g2.h.get i=g'.h.get i:=λi hi hv=>by rw[f2 i (by simp;omega) hv,(Fr.new g' _).2 i hi]
   have hp2:vid v2≠some pm:=λe=>by
    rcases c2 with c | ⟨k,c,c'⟩
    ·exact d1 (c ▸ e)
    ·rw[e] at c;injection c with c;simp at c';omega
   have m2:g2.h.get pm=.cells 2 [[L,O]] 0 false false:=by rw[ff pm hpn d1,hm]
   simp only[sz,simprocAttr,nc,h8,m2,hc.1,hc.2];refine ⟨by simp[St,sx,h1,h8,h9,h10,h29,h30,h31],v2,by simp[H.get_put],by simp;omega,?_,?_,hp2,d2,λi hi hi2=>?_⟩
   ·rw[hsl];have:Own g2 0 v2 3 (((S.aJ (S.ah n) j).1++[((j:Int),-1,-1)]).map cs3):=by simpa using hv2
    exact this.fr (by simp) λi hi=>by simp[H.get_put,show ¬i=pm from λe=>hp2 (by rw[<-e,hi])]
   ·refine oO.fr (by simp;omega) λi hi=>?_;rw[G.put_h,aN _ _ _ (λe=>d2 (by rw[<-e,hi])),ff i (oO.lt hi).2 λe=>d3 i e hi]
   ·rcases c2 with c | ⟨k,c,c'⟩
    ·exact d3 i (c ▸ hi) hi2
    ·rw[hi] at c;injection c with c;have:=(oO.lt hi2).2;simp at c';omega
  rintro t df g1 ⟨rfl,⟨h1,h8,h9,h10,h29,h30,h31,-⟩,L',hm1,hpn1,oL1,oO1,e1,e2,e3⟩;dsimp only at oL1 oO1;have e4:bo .shl (.int .u64 1) (.int .i64 (j:Int))=.val (.int .u64 (S.an j:Int)):=eD .i64 j;have e5:=oe x (S.an j) hx64 (jb j);simp only[sz,simprocAttr,sf,nc,h8,h9,h10,hm1,e4,e5];refine aM (new:=[cbr ((j:Int),x ||| S.an j)]) (oO1.fr (by first | (simp;done) | (simp;omega)) λi hi=>by have:=(oO1.lt hi).2;simp[H.get_put];intro e;omega) (by simp[sx,sy,cbr]) (Nat.zero_le _) (by simp[aT];omega) λv2 g2 hv2 n2 f2 c2 lg2=>?_;have hc:=hv2.cell;have ff:∀i,i<g1.nx->vid O≠some i->g2.h.get i=g1.h.get i:=λi hi hv=>by rw[f2 i (by first | (simp;done) | (simp;omega)) hv];simp[H.get_put];intro e;omega
  simp at n2;have hp2:vid v2≠some pm:=λe=>by
   rcases c2 with c | ⟨k,c,c'⟩
   ·exact e2 (c ▸ e)
   ·rw[e] at c;injection c with c;simp at c';omega
  have m2:g2.h.get pm=.cells 2 [[L',O]] 0 false false:=by rw[ff pm hpn1 e2,hm1]
  simp only[sz,simprocAttr,sf,nc,h8,m2,hc.1,hc.2];refine ⟨?_,⟨by simp[St,sx,h1,h8,h29],L',v2,by simp[H.get_put],by simp;omega,?_,?_,e1,hp2,λi hi hi2=>?_⟩,by simp[sx,h30,h31]⟩
  ·simp only[List.reverse_cons,List.reverse_nil,List.nil_append,List.cons_append,G.new_lg,G.put_lg,setLog_lg];refine aW [false,false,false,false,false,false,false,false,false,false,false,true,true,false,false,true] [(0,11),(1,11),(2,11),(3,11),(4,11),(0,12)] (by simp[All2,af,au]) (by decide) ?_;rintro p hp x y hx hy;simp only[List.mem_cons,List.not_mem_nil,or_false] at hp;rcases hp with rfl | rfl | rfl | rfl | rfl | rfl<;>(simp at hx hy;subst hx;subst hy;refine di rfl rfl rfl rfl ?_ ?_ ?_<;>simp[af,au,ac]<;>omega)
  ·refine oL1.fr (by simp;omega) λi hi=>?_;have i1:=(oL1.lt hi).2;have i2:¬i=pm:=λe=>e1 (by rw[<-e,hi]);have i3:=ff i i1 λe=>e3 i hi e;simp[H.get_put,i2,i3]
  ·rw[hso];have:Own g2 0 v2 2 (((S.aJ (S.ah n) j).2++[((j:Int),x ||| S.an j)]).map cbr):=by simpa using hv2
   exact this.fr (by first | (simp;done) | (simp;omega)) λi hi=>by simp[H.get_put,show ¬i=pm from λe=>hp2 (by rw[<-e,hi])]
  ·rcases c2 with c | ⟨k,c,c'⟩
   ·exact e3 i hi (c ▸ hi2)
   ·rw[hi2] at c;injection c with c;have:=(oL1.lt hi).2;simp at c';omega
 ·rintro t df g ⟨rfl,⟨h1,h8,-⟩,L,O,hM⟩;have:S.aJ (S.ah n) n.nodes.length=S.aN (S.ah n):=by simp[S.aJ,S.aN,S.ah]
  rw[this] at hM;exact fin t g L O (by simp[St,h1,h8]) hM
theorem Fd {l:List Int}{n:Nat}(h:S.aG l n=true){j:Nat}(hj:j<l.length):0<=l[j]?.getD 0/\l[j]?.getD 0<(n:Int):=by simp only[S.aG,S.be,Bool.and_eq_true,decide_eq_true_eq,List.all_eq_true,List.mem_range] at h;have:=h.2 j hj;exact ⟨this.1.1,this.1.2⟩
theorem Dw {d pm k:Nat}{oa L O:AV}{n:Net}{l:List Int}{Q:QT}{t:T}{g:G}(hr:NR n)(hol:S.aG l n.nodes.length=true)(hoa:SlR NoP k .nil l oa)(hM:MkH pm L O (S.aN (S.ah n)) g)
  (ht:St t [(8,.hptr pm 0 0 0),(63,oa),(64,.int .i64 (l.length:Int)),(65,.int .i64 0)])
  (fin:∀t g L O,St t [(8,.hptr pm 0 0 0)]->MkH pm L O (S.aK (S.ah n) l l.length) g->Q (.exit 2) t [] g) :
  wpL (wp C0 (d+1) none dU) Q t [] g:=by
 obtain ⟨h8,h63,h64,h65,-⟩:=ht;have rp:=λh=>(hoa.tree (h':=h) (Nat.le_refl k)).ints;simp only[dU];refine bf (m:=l.length) hoa.1 (λj t df g=>df=[]/\St t [(8,.hptr pm 0 0 0),(63,oa)]/\∃L O,MkH pm L O (S.aK (S.ah n) l j) g)
  ⟨rfl,by simp[St,h8,h63],_,_,hM⟩ h65 h64 (by decide) (by rintro j t df g v s (rfl | rfl | rfl)<;>simp[sx,St]) ?_ ?_
 ·clear h8 h63 h64 h65 hM;rintro j t df g hj ⟨rfl,⟨h8,h63,-⟩,L,O,hM⟩ h65 h64;obtain ⟨x,hx,-,-⟩:=aK hj;have hb:=Fd hol hj;rw[hx,Option.getD_some] at hb;obtain ⟨X,rfl⟩:=Int.eq_ofNat_of_zero_le hb.1;have u1:j<(l.map ci).length:=by simpa using hj
  have u2:(l.map ci)[j]?=some (ci (X:Int)):=by rw[List.getElem?_map,hx];rfl
  have hstep:S.aK (S.ah n) l (j+1)=S.jn (λs=>s.testBit X) (S.aK (S.ah n) l j):=by rw[S.aK,hx];rfl
  obtain ⟨hm,hpn,oL,oO,d1,d2,d3⟩:=hM;simp only[sz,simprocAttr,h63,h65,rp,u1,u2,ci,h8];obtain ⟨gA,hgA⟩:∃gA,gA=((g.new (AObj.cells 1 [[AV.int IntKind.i64 0]] 0 false false)).put g.nx (AObj.cells 1 [[AV.int IntKind.i64 (X:Int)]] 0 false false)):=⟨_,rfl⟩;rw[<-hgA];have kA:gA.h.get g.nx=.cells 1 [[.int .i64 (X:Int)]] 0 false false:=by rw[hgA];simp[H.get_put]
  have kn:gA.nx=g.nx+1:=by rw[hgA];simp
  have fA:Fr g gA:=⟨by omega,λi hi=>by rw[hgA];simp[H.get_put,show ¬i=g.nx by omega]⟩;clear hgA;have hlen:(S.ah n).length=n.nodes.length:=by simp[S.ah]
  refine yz (m:=n.nodes.length) (L:=L) (O:=O) (l:=(S.aK (S.ah n) l j).1) (o:=(S.aK (S.ah n) l j).2) (Fp (d+1) g.nx X) kA (by omega) ⟨by rw[fA.2 pm hpn,hm],by omega,oL.step fA,oO.step fA,d1,d2,d3⟩ (by have:=yM (S.ah n) l j;rw[hlen] at this;exact this) hr.l2 (wP (ym hr) j) λu g' L' O' hM' _ _ _ _=>?_;simp only[sz,simprocAttr];rw[hstep];exact ⟨⟨by simp[St,sx,h8,h63],L',O',hM'⟩,by simp[sx,h64,h65]⟩
 ·rintro t df g ⟨rfl,⟨h8,-⟩,L,O,hM⟩;exact fin t g L O (by simp[St,h8]) hM
theorem Dx {d k:Nat}{g:G}{P:Nat->Prop}{v w:AV}{n:Net}{l:List Int}(hd:0<d)(hm:Agg n NoP 0 g.h v)(hl:SlR P k g.h l w):∃r,aG C0 d N.ay [v,w] g=.val r/\zq (One (S.aX n l)) (One (S.a7 n l)) NoP 0 .nil r:=by
 obtain ⟨b,rows,rfl,e1,hm',hN,-⟩:=lO d hm;obtain ⟨w',e2,hw'⟩:=jT hl d;rw[mq];refine cy nA (xs:=[.agg [.int .i64 n.grain,b],w']) (by simp only[aJ,e1,e2]) (by simp[fI]) (nV (m:=1) (cd _) (cd _) (by decide) (by decide)) (by decide) hd ?_;simp only[sz,simprocAttr,fI];obtain ⟨g0,hg0⟩:∃g0,g0=G.empty.new (.cells 2 [[.int .i64 n.grain,b]] 0 false false):=⟨_,rfl⟩;rw[<-hg0];have f0:g0.h.get 0=.cells 2 [[.int .i64 n.grain,b]] 0 false false:=by rw[hg0];simp[sx]
 have n0:g0.nx=1:=by rw[hg0];simp[sx]
 clear hg0;have ld:cW (.cells 2 [[.int .i64 n.grain,b]] 0 false false) 0 0 true 2 0=.val (.agg [.int .i64 n.grain,b]):=rfl;have nl:=λg=>hN.len g;have kNil:∀(e:Int) (h:H),∃P,zq (One ([]:List Sp)) (One e) P 0 h (.tup [.nils,.int .i64 e]):=λe h=>⟨NoP,_,_,rfl,mf.2 ⟨.nils,rfl,by simp,rfl⟩,bj.2 rfl⟩;obtain ⟨z,ez,pv,c,rfl,hpv,hc⟩:=DT (d:=d+1) (g:=g0) (Nat.succ_pos d) (n:=n) (hm' _);obtain ⟨_,e3,hpv⟩:=mf.1 hpv;injection e3 with e3;subst e3;have hc:=bj.1 hc;injection hc with hc;subst hc;simp only[g_];cases c0:S.aB n with
 | false =>
  have r1:S.aX n l=[]:=by simp[S.aX,c0]
  have r2:S.a7 n l=50:=by simp[S.a7,c0]
  have r3:S.bi n=50:=by simp[S.bi,c0]
  rw[r3] at ez;rw[r1,r2];simp only[sz,simprocAttr,f0,ld,ez];exact kNil _ _
 | true =>
  have hr:=im.1 c0;have hn8:=hr.l2;have r3:S.bi n=0:=by simp[S.bi,c0]
  have r4:S.bk n=S.ae n:=by simp[S.bk,c0]
  rw[r3] at ez;rw[r4] at hpv;have io:=wK (d:=d+1) (n:=n.nodes.length) (Nat.succ_pos d) (by omega) (hw' g0.h) (g:=g0);cases c1:S.aG l n.nodes.length with
  | false =>
   have r1:S.aX n l=[]:=by simp[S.aX,c1]
   have r2:S.a7 n l=2:=by simp[S.a7,c0,c1]
   rw[c1] at io;rw[r1,r2];simp only[sz,simprocAttr,f0,ld,ez,nl,io];exact kNil _ _
  | true =>
   have r1:S.aX n l=(S.mk (S.ah n) l).1:=by simp[S.aX,c0,c1]
   have r2:S.a7 n l=0:=by simp[S.a7,c0,c1]
   rw[c1] at io;rw[r1,r2];have pl:∀g,eN .slice pv g=.val (.int .i64 (n.nodes.length:Int)):=λg=>by rw[hpv.len];simp[S.ae]
   have b2:pR [.nils,.nils] [] []=.val (.agg [.nils,.nils]):=rfl;have wl:∀g,eN .slice w' g=.val (.int .i64 (l.length:Int)):=λg=>(hw' .nil).len g;simp only[sz,simprocAttr,f0,ld,ez,nl,io,pl,b2];refine Dv (pm:=g0.nx) (oa:=w') hn8 hpv ⟨by simp[H.get_put],by simp,.inl ⟨rfl,rfl⟩,.inl ⟨rfl,rfl⟩,by simp[vid],by simp[vid],by simp[vid]⟩ (by simp[St,sx]) λt g1 L O ht hM=>?_;obtain ⟨h1,h8,-⟩:=ht;simp only[sz,simprocAttr,gE,h1,wl];refine Dw (pm:=g0.nx) hr c1 (hw' .nil) hM (by simp[St,sx,h1,h8]) λt g2 L O ht hM=>?_;obtain ⟨h8,-⟩:=ht;simp only[sz,simprocAttr,gD,h8];have hlen:(S.ah n).length=n.nodes.length:=by simp[S.ah]
   refine yz (d:=d) (m:=n.nodes.length) (q:=0) (ob:=g2.h.get 0) (L:=L) (O:=O) (l:=(S.aK (S.ah n) l l.length).1) (o:=(S.aK (S.ah n) l l.length).2) (Fo (d+1) 0 _) rfl (by have:=hM.pn;omega) hM (by have:=yM (S.ah n) l l.length;rw[hlen] at this;exact this) hn8 (wP (ym hr) l.length) λu g' L' O' hM' _ _ _ _=>?_;obtain ⟨hm,hpn,oL,oO,d1,d2,d3⟩:=hM';have nc:o7 (.hptr g0.nx 0 0 0)=.val (.hptr g0.nx 0 0 0):=rfl;have hfl:(S.mk (S.ah n) l).1.length<9223372036854775808:=by have:=(EH (fam:=S.ah n) (order:=l) (by rw[hlen];exact hr.l1)).2.1;rw[hlen] at this;omega
   simp only[sz,simprocAttr,nc,h8,hm];exact ⟨λ_=>True,_,_,rfl,(show Own g' 0 L' 3 ((S.mk (S.ah n) l).1.map cs3) from oL).sps hfl,bj.2 rfl⟩
def Fw (n:Nat):VS:=λP k h v=>∃l:List Int,S.aG l n=true/\One l P k h v
theorem Ef (n:Nat):Snb (Fw n) 0:=mi λl=>cd l
theorem BB {l:List Int}{n:Nat}(hn:n<=64)(hl:l.length=n)(hb:∀x∈l,0<=x/\x<(n:Int))(hd:l.Nodup):S.aG l n=true:=by simp only[S.aG,S.be,Bool.and_eq_true,decide_eq_true_eq,List.all_eq_true,List.mem_range,Bool.not_eq_true'];refine ⟨by omega,λj hj=>?_⟩;rw[List.getElem?_eq_getElem hj,Option.getD_some];have hx:=hb _ (List.getElem_mem hj);refine ⟨hx,?_⟩;rw[Bool.eq_false_iff];intro h;rw[pD λx hx=>by have:=hb x (List.mem_of_mem_take hx);omega,Int.toNat_of_nonneg hx.1] at h;obtain ⟨i,hi,he⟩:=List.mem_iff_getElem.1 h;rw[List.length_take] at hi;rw[List.getElem_take] at he;exact (List.pairwise_iff_getElem.1 hd i j (by omega) hj (by omega)) he
theorem AA {d n:Nat}{g:G}{vs:List UInt8}(hd:0<d)(hv:vs.length=8)(hn:n<=64):∃r,aG C0 d N.aK [.int .i64 (n:Int),.int .i64 (-1),.agg (vs.map u8v)] g=.val r/\Fw n NoP 0 .nil r:=by
 rw[np];refine cy po (xs:=[.int .i64 (n:Int),.int .i64 (-1),.agg (vs.map u8v)]) (by simp only[aJ,l0 0,vR]) (by simp[ia]) (Ef n) (by decide) hd ?_;obtain ⟨cu8,hcu⟩:∃c,c=vs.map u8v:=⟨_,rfl⟩;have hcl:cu8.length=8:=by rw[hcu,List.length_map,hv]
 simp only[sz,simprocAttr,ia,jF,<-hcu];refine dg n (by omega) (λj t df g=>df=[]/\St t [(0,.int .i64 (n:Int)),(1,.int .i64 (-1)),(5,.hptr 0 0 0 0)]/\g.h.get 0=.cells 8 [cu8] 0 false false/\1<=g.nx/\∃u L,tat t 7=u/\L.length=j/\(∀x∈L,0<=x/\x<(j:Int))/\L.Nodup/\Own g 1 u 1 (L.map ci))
  ⟨rfl,by simp[sx,St],by rw[hcl];simp[sx],by simp[sx],_,[],rfl,rfl,by simp,List.nodup_nil,.inl ⟨by simp[sx],rfl⟩⟩ (by simp[sx]) (by decide) (by rintro j t df g v s (rfl | rfl | rfl)<;>simp[sx,St]) ?_ ?_ ?_
 ·rintro j t df g hj ⟨rfl,⟨h0,h1,h5,-⟩,hg,hnx,u,L,h7,r⟩ h8;simp only[sz,simprocAttr,h0,h8];exact ⟨by simp[St,sx,h0,h1,h5],hg,hnx,u,L,by simp[sx,h7],r⟩
 ·rintro j t df g hj ⟨rfl,⟨h0,h1,h5,-⟩,hg,hnx,u,L,h7,hLl,hLb,hLd,hu⟩ h8;have hpl:(L.map ci).length=j:=by rw[List.length_map,hLl]
  obtain ⟨y,hy⟩:∃y,vs[j % 8]?=some y:=⟨_,List.getElem?_eq_getElem (by omega)⟩;have hcy:cu8[j % 8]?=some (.int .u8 (y.toNat:Int)):=by rw[hcu,List.getElem?_map,hy];rfl
  have hj8:j % 8<8:=Nat.mod_lt _ (by omega);have hy8:y.toNat<256:=y.toNat_lt;have w8:IntKind.wrap .i64 (y.toNat:Int)=(y.toNat:Int):=ay (by omega) (by omega);have w9:IntKind.wrap .i64 ((j:Int)+1)=(j:Int)+1:=ay (by omega) (by omega);obtain ⟨a,ha⟩:∃a,a=y.toNat % (j+1):=⟨_,rfl⟩;have hal:a<=j:=by have:=Nat.mod_lt y.toNat (show 0<j+1 by omega);omega
  have ha2:(y.toNat:Int) % ((j:Int)+1)=(a:Int):=by rw[ha];simp
  have vl:eN .slice u g=.val (.int .i64 (j:Int)):=by
   rcases hu with ⟨e1,e2⟩ | ⟨id,ep,lo,q1,q2,e1,q3⟩
   ·rw[e1];rw[e2] at hpl;simp at hpl;subst hpl;rfl
   ·rw[e1,hpl];rfl
  have c1:decide ((j:Int) = -1)=false:=decide_eq_false (by omega);have r8:bo .rem (.int .i64 (j:Int)) (.int .i64 8)=.val (.int .i64 ((j % 8:Nat):Int)):=by rw[da .i64 (show (0:Int)<=(j:Int) by omega) (show (0:Int)<8 by omega)];congr 2
  have r9:bo .rem (.int .i64 (y.toNat:Int)) (.int .i64 ((j:Int)+1))=.val (.int .i64 (a:Int)):=by rw[da .i64 (show (0:Int)<=(y.toNat:Int) by omega) (show (0:Int)<(j:Int)+1 by omega),ha2]
  obtain ⟨y1,s1,w1⟩:=qN hu (n:=a) (by omega);simp only[sz,simprocAttr,h0,h1,h5,h7,h8,c1,r8,hg,BF 8 1 _ _ _ _ _ hj8,Nat.mul_one,hcy,w8,vl,w9,r9,List.head?_nil,List.head?_cons,s1];refine aM (rows:=[]) (b:=1) (.inl ⟨rfl,rfl⟩) w1 hnx (by simp[aT];omega) λv1 g1 hv1 n1 f1 vid1 _=>?_;simp only[sz,simprocAttr,h8];refine aM (new:=[ci (j:Int)]) (hv1.step (Fr.new _ _)) (by simp[sx,sy,ci]) (by simp) (by simp[aT];omega) λv2 g2 hv2 n2 f2 vid2 _=>?_;have hu1:Own g1 1 u 1 (L.map ci):=hu.fr n1 λi hi=>f1 i (hu.lt hi).2 (by simp[vid]);have hnv:∀i,i<g.nx->vid v1≠some i:=λi hi e=>by
   rcases vid1 with h | ⟨i',h,hi'⟩
   ·rw[h] at e;cases e
   ·rw[h] at e;injection e with e;omega
  have hu2:Own g2 1 u 1 (L.map ci):=hu1.fr (by simp at n2;omega) λi hi=>by have hlt:=(hu.lt hi).2;rw[f2 i (by simp;omega) (hnv i hlt),G.new_h,aN _ _ _ (by omega)]
  obtain ⟨y2,s2,w2⟩:=qO hu2 (n:=a) (by omega);simp only[sz,simprocAttr,h7,List.head?_nil,List.head?_cons,s2];refine aM hv2 w2 (by simp at n2;omega) (by simp[aT];omega) λv3 g3 hv3 n3 f3 _ _=>?_;simp only[sz,simprocAttr];refine ⟨⟨by simp[St,sx,h0,h1,h5],?_,by simp at n2;omega,_,L.take a++(j:Int)::L.drop a,rfl,by simp;omega,?_,?_,?_⟩,by simp[sx,h8]⟩
  ·rw[f3 0 (by simp at n2;omega) (λe=>by have:=(hv2.lt e).1;omega),f2 0 (by simp) (hnv 0 (by omega)),G.new_h,aN _ _ _ (by omega),f1 0 (by omega) (by simp[vid]),hg]
  ·intro x hx;rw[List.perm_middle.mem_iff,List.take_append_drop] at hx;rcases List.mem_cons.1 hx with rfl | hx
   ·omega
   ·have:=hLb x hx;omega
  ·rw[List.perm_middle.nodup_iff,List.take_append_drop,List.nodup_cons];exact ⟨λh=>by have:=hLb _ h;omega,hLd⟩
  ·simpa [List.map_take,List.map_drop] using hv3
 ·rintro t df g ⟨rfl,-,hg,hnx,u,L,h7,hLl,hLb,hLd,hu⟩;simp only[sz,simprocAttr,iN,h7];exact ⟨_,L,BB hn hLl hLb hLd,hu.ints (by omega)⟩
def ue (m:Nat):VS:=λP k h v=>∃l:List Sp,l.length<=m/\One l P k h v
theorem vS (m:Nat):Snb (ue m) 0:=mi λl=>cd l
structure JdH (cu8:List AV) (u w:AV) (lo:List Sp) (op:List Int) (g:G):Prop where
 g0:g.h.get 0=.cells 8 [cu8] 0 false false
 nx:1<=g.nx
 oU:Own g 1 u 3 (lo.map cs3)
 oW:Own g 1 w 1 (op.map ci)
 ds:∀i,vid u=some i->vid w≠some i
def S.cI (a j:Nat):Nat:=if a<j then 1 else 0
theorem yf (a:Nat):S.cI a (a+1)=S.cI a a+1:=by simp[S.cI]
theorem yd (a j:Nat):S.cI a j<=S.cI a (j+1):=by unfold S.cI;split<;>split<;>omega
theorem AP (a j:Nat):S.cI a j<=1:=by unfold S.cI;split<;>omega
theorem zY {d a b:Nat}{cu8:List AV}{u w n:AV}{lo:List Sp}{op:List Int}{iv:Int}{Q:QT}{t:T}{gC:G}(hop:op.length<=20)(hJ:JdH cu8 u w lo op gC)
  (ht:St t [(0,n),(3,.hptr 0 0 0 0),(5,u),(6,w),(8,.int .i64 iv),(9,.int .i64 (a:Int)),(10,.int .i64 (b:Int)),(11,.nils),(12,.int .i64 0)])
  (fin:∀t g v (L:List Int),St t [(0,n),(3,.hptr 0 0 0 0),(5,u),(8,.int .i64 iv),(11,v)]->Own g gC.nx v 1 (L.map ci)->Fr gC g->op.length<=L.length+2->L.length<=op.length->Q (.exit 4) t [] g) :
  wpL (wp C0 d none e6) Q t [] gC:=by
 obtain ⟨h0,h3,h5,h6,h8,h9,h10,h11,h12,-⟩:=ht;have wl:=λg=>hJ.oW.sat_len g;rw[List.length_map] at wl;simp only[e6,iS];refine dg op.length (by omega) (λj t df g=>df=[]/\St t [(0,n),(3,.hptr 0 0 0 0),(5,u),(6,w),(8,.int .i64 iv),(9,.int .i64 (a:Int)),(10,.int .i64 (b:Int))]/\∃v L,tat t 11=v/\Own g gC.nx v 1 (L.map ci)/\Fr gC g/\j<=L.length+S.cI a j+S.cI b j/\L.length<=j)
  ⟨rfl,by simp[St,h0,h3,h5,h6,h8,h9,h10],_,[],h11,.inl ⟨rfl,rfl⟩,Fr.refl _,by omega,Nat.le_refl _⟩ h12 (by decide) (by rintro j t df g v s (rfl | rfl | rfl)<;>simp[sx,St]) ?_ ?_ ?_
 ·clear h0 h3 h5 h6 h8 h9 h10 h11 h12;rintro j t df g hj ⟨rfl,⟨h0,h3,h5,h6,h8,h9,h10,-⟩,v,L,h11,r⟩ h12;simp only[sz,simprocAttr,h6,h12,wl];exact ⟨by simp[St,sx,h0,h3,h5,h6,h8,h9,h10],v,L,by simp[sx,h11],r⟩
 ·clear h0 h3 h5 h6 h8 h9 h10 h11 h12;rintro j t df g hj ⟨rfl,⟨h0,h3,h5,h6,h8,h9,h10,-⟩,v,L,h11,oV,hf,hc,hL⟩ h12;obtain ⟨x,hx,-,-⟩:=aK hj;have u1:j<(op.map ci).length:=by simpa using hj
  have u2:(op.map ci)[j]?=some (ci x):=by rw[List.getElem?_map,hx];rfl
  have oW:=(hJ.oW.step hf).rows;have hnx:=hf.1;have m1:=yd a j;have m2:=yd b j;have skip:(j=a\/j=b)->j+1<=L.length+S.cI a (j+1)+S.cI b (j+1):=λh=>by
   rcases h with h | h
   ·have:=yf a;rw[<-h] at this;rw[<-h] at m1 hc ⊢;omega
   ·have:=yf b;rw[<-h] at this;rw[<-h] at m2 hc ⊢;omega
  by_cases ca:j=a
  ·have e1:decide ((j:Int)=(a:Int))=true:=decide_eq_true (by omega);have:=skip (.inl ca);simp only[sz,simprocAttr,h9,h10,h12,e1];exact ⟨by simp[St,sx,h0,h3,h5,h6,h8,h9,h10],v,L,by simp[sx,h11],oV,hf,this,by omega⟩
  have e1:decide ((j:Int)=(a:Int))=false:=decide_eq_false (by omega)
  by_cases cb:j=b
  ·have e2:decide ((j:Int)=(b:Int))=true:=decide_eq_true (by omega);have:=skip (.inr cb);simp only[sz,simprocAttr,h9,h10,h12,e1,e2];exact ⟨by simp[St,sx,h0,h3,h5,h6,h8,h9,h10],v,L,by simp[sx,h11],oV,hf,this,by omega⟩
  have e2:decide ((j:Int)=(b:Int))=false:=decide_eq_false (by omega);simp only[sz,simprocAttr,h6,h9,h10,h11,h12,e1,e2,oW,u1,u2,ci];refine aM (new:=[ci x]) (oV.step (Fr.new _ _)) (by simp[sx,sy,ci]) (by simp;omega) (by simp[aT];omega) λv2 g2 hv2 n2 f2 _ _=>?_;simp only[sz,simprocAttr];have fg:Fr gC g2:=⟨by simp at n2;omega,λi hi=>by
   rw[f2 i (by simp;omega) (λe=>by have:=(oV.lt e).1;omega),(Fr.new g _).2 i (by omega),hf.2 i hi]⟩
  simp[St,sx,h0,h3,h5,h6,h8,h9,h10,h12];refine ⟨L++[x],by simpa using hv2,fg,?_,by simp;omega⟩;rw[List.length_append,List.length_singleton];omega
 ·rintro t df g ⟨rfl,⟨h0,h3,h5,-,h8,-⟩,v,L,h11,oV,hf,hc,hL⟩;refine fin t g v L (by simp[St,h0,h3,h5,h8,h11]) oV hf ?_ hL;have:=AP a op.length;have:=AP b op.length;omega
set_option maxRecDepth 20000 in
theorem zZ {d n:Nat}{g:G}{vs:List UInt8}(hd:0<d)(hv:vs.length=8)(hn1:1<=n)(hn8:n<=8):∃r,aG C0 d N.aM [.int .i64 (n:Int),.agg (vs.map u8v)] g=.val r/\ue 15 NoP 0 .nil r:=by
 rw[nq];refine cy pp (xs:=[.int .i64 (n:Int),.agg (vs.map u8v)]) (by simp only[aJ,l0 0,vR]) (by simp[ib]) (vS 15) (by decide) hd ?_;obtain ⟨cu8,hcu⟩:∃c,c=vs.map u8v:=⟨_,rfl⟩;have hcl:cu8.length=8:=by rw[hcu,List.length_map,hv]
 have at8:∀i,i<8->∃y:Nat,y<256/\cu8[i]?=some (.int .u8 (y:Int)):=λi hi=>by obtain ⟨y,hy⟩:∃y,vs[i]?=some y:=⟨_,List.getElem?_eq_getElem (by omega)⟩;exact ⟨y.toNat,y.toNat_lt,by rw[hcu,List.getElem?_map,hy];rfl⟩
 simp only[sz,simprocAttr,ib,jG,iP,<-hcu];refine dg n (by omega) (λj t df g=>df=[]/\St t [(0,.int .i64 (n:Int)),(3,.hptr 0 0 0 0)]/\∃u w lo op,tat t 5=u/\tat t 6=w/\List.length lo=j/\List.length op=j/\JdH cu8 u w lo op g)
  ⟨rfl,by simp[sx,St],_,_,[],[],rfl,rfl,rfl,rfl,by rw[hcl];simp[sx],by simp[sx],.inl ⟨by simp[sx],rfl⟩,.inl ⟨by simp[sx],rfl⟩,by simp[sx,vid]⟩ (by simp[sx]) (by decide) (by rintro j t df g v s (rfl | rfl | rfl)<;>simp[sx,St]) ?_ ?_ ?_
 ·rintro j t df g hj ⟨rfl,⟨h0,h3,-⟩,u,w,lo,op,h5,h6,r⟩ h7;simp only[sz,simprocAttr,h0,h7];exact ⟨by simp[St,sx,h0,h3],u,w,lo,op,by simp[sx,h5],by simp[sx,h6],r⟩
 ·rintro j t df g hj ⟨rfl,⟨h0,h3,-⟩,u,w,lo,op,h5,h6,hlo,hop,hg,hnx,oU,oW,ds⟩ h7;obtain ⟨y,hy,hcy⟩:=at8 7 (by omega);have w8:IntKind.wrap .i64 (y:Int)=(y:Int):=ay (by omega) (by omega);have w9:IntKind.wrap .i64 ((j:Int)+(y:Int))=(j:Int)+(y:Int):=ay (by omega) (by omega);have i7:Dn 8 1 (.hptr 0 0 0 0) (.int .i64 7)=.val (.hptr 0 0 0 7):=rfl;have r9:=da .i64 (show (0:Int)<=(j:Int)+(y:Int) by omega) (show (0:Int)<(n:Int) by omega);simp only[sz,simprocAttr,h0,h3,h5,h7,hg,i7,hcy,w8,w9,r9];refine aM (new:=[cs3 (((j:Int)+(y:Int)) % (n:Int),-1,-1)]) (oU.step (Fr.new _ _)) (by simp[sx,sy,cs3]) (by simp) (by simp[aT];omega) λv2 g2 hv2 n2 f2 c2 _=>?_;simp only[sz,simprocAttr,h6,h7];have oW2:Own g2 1 w 1 (op.map ci):=oW.fr (by simp at n2;omega) λi hi=>by rw[f2 i (by have:=(oW.lt hi).2;simp;omega) (λe=>ds i e hi),(Fr.new g _).2 i (oW.lt hi).2]
  have hu0:vid u≠some 0:=λe=>by have:=(oU.lt e).1;omega
  have hw0:vid w≠some 0:=λe=>by have:=(oW.lt e).1;omega
  have hg2:g2.h.get 0=.cells 8 [cu8] 0 false false:=by rw[f2 0 (by simp) hu0,(Fr.new g _).2 0 (by omega),hg]
  refine aM (new:=[ci (j:Int)]) (oW2.step (Fr.new _ _)) (by simp[sx,sy,ci]) (by first | (simp at n2 ⊢;done) | (simp at n2 ⊢;omega)) (by simp[aT];omega) λv3 g3 hv3 n3 f3 c3 _=>?_;simp only[sz,simprocAttr];have dv:∀i,vid v2=some i->vid w≠some i:=λi hi e=>by
   rcases c2 with c | ⟨k,c,c'⟩
   ·exact ds i (c ▸ hi) e
   ·rw[hi] at c;injection c with c;have:=(oW.lt e).2;simp at c';omega
  refine ⟨⟨by simp[St,sx,h0,h3],v2,v3,lo++[(((j:Int)+(y:Int)) % (n:Int),-1,-1)],op++[(j:Int)],by simp[sx],by simp[sx],by simp[hlo],by simp[hop],?_,by simp at n2 n3;omega,?_,by simpa using hv3,λi hi e=>?_⟩,by simp[sx,h7]⟩
  ·rw[f3 0 (by simp at n2 ⊢) hw0,(Fr.new g2 _).2 0 (by simp at n2;omega),hg2]
  ·have hv2':Own g2 1 v2 3 ((lo++[(((j:Int)+(y:Int)) % (n:Int),-1,-1)]).map cs3):=by simpa using hv2
   refine hv2'.fr (by simp at n3;omega) λi hi=>?_;rw[f3 i (by have:=(hv2'.lt hi).2;simp;omega) (dv i hi),(Fr.new g2 _).2 i (hv2'.lt hi).2]
  ·rcases c3 with c | ⟨k,c,c'⟩
   ·exact dv i hi (c ▸ e)
   ·rw[e] at c;injection c with c;have:=(hv2.lt hi).2;simp at c';omega
 rintro t df g ⟨rfl,⟨h0,h3,-⟩,u,w,lo,op,h5,h6,hlo,hop,hJ⟩;simp only[sz,simprocAttr,iX,iQ,iV];have hn1':((n - 1:Nat):Int)=(n:Int) - 1:=by omega
 refine dg (n - 1) (by omega) (λj t df g=>df=[]/\St t [(0,.int .i64 (n:Int)),(3,.hptr 0 0 0 0)]/\∃u w lo op,tat t 5=u/\tat t 6=w/\List.length lo=n+j/\n<=List.length op+j/\List.length op<=8+j/\JdH cu8 u w lo op g)
  ⟨rfl,by simp[sx,St,h0,h3],u,w,lo,op,by simp[sx,h5],by simp[sx,h6],hlo,by omega,by omega,hJ⟩ (by simp[sx]) (by decide) (by rintro j t df g v s (rfl | rfl | rfl)<;>simp[sx,St]) ?_ ?_ ?_
 ·clear h0 h3 h5 h6 hlo hop hJ;rintro j t df g hj ⟨rfl,⟨h0,h3,-⟩,u,w,lo,op,h5,h6,r⟩ h8;have w9:IntKind.wrap .i64 ((n:Int) - 1)=((n - 1:Nat):Int):=by rw[ay (by omega) (by omega)];omega
  simp only[sz,simprocAttr,h0,h8,w9];exact ⟨by simp[St,sx,h0,h3],u,w,lo,op,by simp[sx,h5],by simp[sx,h6],r⟩
 ·clear h0 h3 h5 h6 hlo hop hJ;rintro j t df g hj ⟨rfl,⟨h0,h3,-⟩,u,w,lo,op,h5,h6,hlo,hop,hop8,hJ⟩ h8;obtain ⟨y,hy,hcy⟩:=at8 j (by omega);have hg:=hJ.g0;have wl:=λg=>hJ.oW.sat_len g;rw[List.length_map] at wl;have w8:IntKind.wrap .i64 (y:Int)=(y:Int):=ay (by omega) (by omega);have w10:IntKind.wrap .i64 ((y / 8:Nat):Int)=((y / 8:Nat):Int):=ay (by omega) (by omega);have q8:bo .quo (.int .u8 (y:Int)) (.int .u8 8)=.val (.int .u8 ((y / 8:Nat):Int)):=by rw[xV .u8 (show (0:Int)<=(y:Int) by omega) (show (0:Int)<8 by omega),Fs (by omega) (by omega)];congr 2
  have w11:IntKind.wrap .i64 ((op.length:Int) - 1)=((op.length - 1:Nat):Int):=by rw[ay (by omega) (by omega)];omega
  have hj8:j<8:=by omega
  obtain ⟨a,ha⟩:∃a,a=y % op.length:=⟨_,rfl⟩;have hal:a<op.length:=by rw[ha];exact Nat.mod_lt _ (by omega)
  have r1:bo .rem (.int .i64 (y:Int)) (.int .i64 (op.length:Int))=.val (.int .i64 (a:Int)):=by rw[da .i64 (show (0:Int)<=(y:Int) by omega) (show (0:Int)<(op.length:Int) by omega),ha];congr 2
  obtain ⟨c,hc⟩:∃c,c=(y / 8) % (op.length - 1):=⟨_,rfl⟩;have hcl:c<op.length - 1:=by rw[hc];exact Nat.mod_lt _ (by omega)
  have r2:bo .rem (.int .i64 ((y / 8:Nat):Int)) (.int .i64 ((op.length - 1:Nat):Int))=.val (.int .i64 (c:Int)):=by rw[da .i64 (show (0:Int)<=((y / 8:Nat):Int) by omega) (show (0:Int)<((op.length - 1:Nat):Int) by omega),hc];congr 2
  have w12:IntKind.wrap .i64 ((a:Int)+1)=((a+1:Nat):Int):=by rw[ay (by omega) (by omega)];omega
  have w13:IntKind.wrap .i64 (((a+1:Nat):Int)+(c:Int))=((a+1+c:Nat):Int):=by rw[ay (by omega) (by omega)];omega
  obtain ⟨b,hb⟩:∃b,b=(a+1+c) % op.length:=⟨_,rfl⟩;have hbl:b<op.length:=by rw[hb];exact Nat.mod_lt _ (by omega)
  have r3:bo .rem (.int .i64 ((a+1+c:Nat):Int)) (.int .i64 (op.length:Int))=.val (.int .i64 (b:Int)):=by rw[da .i64 (show (0:Int)<=((a+1+c:Nat):Int) by omega) (show (0:Int)<(op.length:Int) by omega),hb];congr 2
  refine dh (P:=λt' df g'=>df=[]/\g'=g/\St t' [(0,.int .i64 (n:Int)),(3,.hptr 0 0 0 0),(5,u),(6,w),(8,.int .i64 (j:Int)),(9,.int .i64 (a:Int))]) ?_ ?_
  ·simp only[sz,simprocAttr,h3,h6,h8,hg,BF 8 1 _ _ _ _ _ hj8,Nat.mul_one,hcy,w8,wl,r1];simp[St,sx,h0,h3,h5,h6,h8]
  rintro t df g' ⟨rfl,rfl,h0,h3,h5,h6,h8,h9,-⟩;refine dh (P:=λt' df g''=>df=[]/\g''=g'/\St t' [(0,.int .i64 (n:Int)),(3,.hptr 0 0 0 0),(5,u),(6,w),(8,.int .i64 (j:Int)),(9,.int .i64 (a:Int)),(10,.int .i64 (b:Int))]) ?_ ?_
  ·simp only[sz,simprocAttr,h3,h6,h8,h9,hg,BF 8 1 _ _ _ _ _ hj8,Nat.mul_one,hcy,q8,w10,wl,w11,r2,w12,w13,r3];simp[St,sx,h0,h3,h5,h6,h8,h9]
  rintro t df g'' ⟨rfl,rfl,h0,h3,h5,h6,h8,h9,h10,-⟩;obtain ⟨xa,hxa⟩:∃x,op[a]?=some x:=⟨_,List.getElem?_eq_getElem hal⟩;obtain ⟨xb,hxb⟩:∃x,op[b]?=some x:=⟨_,List.getElem?_eq_getElem hbl⟩;obtain ⟨-,hnx,oU,oW,ds⟩:=hJ;have u1:a<(op.map ci).length:=by simpa using hal
  have u2:(op.map ci)[a]?=some [.int .i64 xa]:=by rw[List.getElem?_map,hxa];rfl
  have u3:b<(op.map ci).length:=by simpa using hbl
  have u4:(op.map ci)[b]?=some [.int .i64 xb]:=by rw[List.getElem?_map,hxb];rfl
  have rW:=oW.rows;have hu0:vid u≠some 0:=λe=>by have:=(oU.lt e).1;omega
  have hw0:vid w≠some 0:=λe=>by have:=(oW.lt e).1;omega
  refine dh (P:=λt' df g1=>df=[]/\∃v2,St t' [(0,.int .i64 (n:Int)),(3,.hptr 0 0 0 0),(5,v2),(6,w),(8,.int .i64 (j:Int)),(9,.int .i64 (a:Int)),(10,.int .i64 (b:Int))]/\JdH cu8 v2 w (lo++[(-1,xa,xb)]) op g1) ?_ ?_
  ·simp only[sz,simprocAttr,sf,h5,h6,h9,h10,rW,u1,u2,u3,u4];refine aM (new:=[cs3 (-1,xa,xb)]) (oU.fr (by first | (simp;done) | (simp;omega)) λi hi=>by have:=(oU.lt hi).2;simp[H.get_put];intro e;omega) (by simp[sx,sy,cs3]) (by first | (simp;done) | (simp;omega)) (by simp[aT];omega) λv2 g2 hv2 n2 f2 c2 lg2=>?_;have ff:∀i,i<g''.nx->vid u≠some i->g2.h.get i=g''.h.get i:=λi hi hv=>by rw[f2 i (by first | (simp;done) | (simp;omega)) hv];simp[H.get_put];intro e;omega
   simp at n2;simp only[sz,simprocAttr,sf];refine ⟨?_,v2,by simp[St,sx,h0,h3,h6,h8,h9,h10],?_,by first | (simp;done) | (simp;omega),?_,?_,λi hi e=>?_⟩
   ·simp only[List.reverse_cons,List.reverse_nil,List.nil_append,List.cons_append,G.new_lg,G.put_lg,setLog_lg];refine aW [false,false,false,false,false,false,false,false,false,false,true,true,false] [(0,10)] (by simp[All2,af,au]) (by decide) ?_;rintro p hp x y hx hy;simp only[List.mem_cons,List.not_mem_nil,or_false] at hp;rcases hp with rfl;simp at hx hy;subst hx;subst hy;refine di rfl rfl rfl rfl ?_ ?_ ?_<;>simp[af,au,ac]
   ·have:=ff 0 (by omega) hu0;simp[this,hg]
   ·have:Own g2 1 v2 3 ((lo++[(-1,xa,xb)]).map cs3):=by simpa using hv2
    exact this.fr (by first | (simp;done) | (simp;omega)) λi hi=>by simp
   ·refine oW.fr (by simp;omega) λi hi=>?_;have:=ff i (oW.lt hi).2 λe=>ds i e hi;simp[this]
   ·rcases c2 with c | ⟨k,c,c'⟩
    ·exact ds i (c ▸ hi) e
    ·rw[hi] at c;injection c with c;have:=(oW.lt e).2;simp at c';omega
  rintro t df g1 ⟨rfl,v2,⟨h0,h3,h5,h6,h8,h9,h10,-⟩,hJ1⟩;simp only[sz,simprocAttr];refine zY (a:=a) (b:=b) (u:=v2) (w:=w) (n:=.int .i64 (n:Int)) (lo:=lo++[(-1,xa,xb)]) (op:=op) (iv:=(j:Int)) (by omega) hJ1 (by simp[St,sx,h0,h3,h5,h6,h8,h9,h10]) λt g2 v L ht oV hf l1 l2=>?_;obtain ⟨h0,h3,h5,h8,h11,-⟩:=ht;obtain ⟨hg1,hnx1,oU1,oW1,ds1⟩:=hJ1;have hf1:=hf.1;have ul:=λg=>oU1.sat_len g;have w14:IntKind.wrap .i64 ((((lo++[((-1:Int),xa,xb)]).map cs3).length:Int) - 1)=(lo.length:Int):=by rw[List.length_map,List.length_append,List.length_singleton,ay (by omega) (by omega)];omega
  simp only[sz,simprocAttr,iT,h5,h11,ul,w14];refine aM (new:=[ci (lo.length:Int)]) (oV.step (Fr.new _ _)) (by simp[sx,sy,ci]) (by simp;omega) (by simp[aT];omega) λv3 g3 hv3 n3 f3 c3 _=>?_;simp only[sz,simprocAttr];have fr3:∀i,i<g1.nx->g3.h.get i=g1.h.get i:=λi hi=>by rw[f3 i (by simp;omega) (λe=>by have:=(oV.lt e).1;omega),(Fr.new g2 _).2 i (by omega),hf.2 i hi]
  have n3':g2.nx+1<=g3.nx:=by simpa using n3
  refine ⟨⟨by simp[St,sx,h0,h3],v2,v3,lo++[(-1,xa,xb)],L++[(lo.length:Int)],by simp[sx,h5],by simp[sx],by simp;omega,by simp;omega,?_,?_⟩,by simp[sx,h8]⟩
  ·simp;omega
  ·refine ⟨by rw[fr3 0 (by omega),hg1],by omega,oU1.fr (by omega) λi hi=>fr3 i (oU1.lt hi).2,?_,λi hi e=>?_⟩
   ·have:Own g3 g1.nx v3 1 ((L++[(lo.length:Int)]).map ci):=by simpa using hv3
    exact this.low hnx1
   ·have:=(hv3.lt e).1;have:=(oU1.lt hi).2;omega
 ·rintro t df g ⟨rfl,-,u,w,lo,op,h5,h6,hlo,-,-,hJ⟩;simp only[sz,simprocAttr,iW,h5];exact ⟨λ_=>True,lo,by omega,hJ.oU.sps (by omega)⟩
theorem nU (l:List Sp)(i:Nat)(x:Sp):(l.map cs3).set i (cs3 x)=(l.set i x).map cs3:=by rw[List.map_set]
theorem ve {g:G}{b:Nat}{v:AV}{sz:Nat}{rows:List (List AV)}(h:Own g b v sz rows){i off:Nat}(hi:i<rows.length):o7 (fq sz v i off)=.val (fq sz v i off):=by
 rcases h with ⟨rfl,rfl⟩ | ⟨id,ep,lo,h1,h2,rfl,h3⟩
 ·simp at hi
 ·rfl
theorem yk {g:G}{b:Nat}{v:AV}{sz:Nat}{rows:List (List AV)}(h:Own g b v sz rows){i:Nat}(hi:i<rows.length)(k:Nat):wF k (fq sz v i 0)=.val (fq sz v i k):=by
 rcases h with ⟨rfl,rfl⟩ | ⟨id,ep,lo,h1,h2,rfl,h3⟩
 ·simp at hi
 ·simp only[fq,wF,Nat.zero_add]
theorem zu {d k m x y:Nat}{z:Int}{g:G}{P:Nat->Prop}{w:AV}{l:List Sp}(hd:0<d)(hl:SlR P k g.h l w)(hm:l.length<=m)(hm2:m<=100)(hx:x<256)(hy:y<256) :
  ∃r,aG C0 d N.aL [.agg [.int .u8 (x:Int),.int .u8 (y:Int),.int .i64 z],w] g=.val r/\ue (m+1) NoP 0 .nil r:=by
 obtain ⟨w',e2,hw'⟩:=jT hl d;rw[mL];refine cy oo (xs:=[.agg [.int .u8 (x:Int),.int .u8 (y:Int),.int .i64 z],w']) (by simp only[aJ,e2];rfl) (by simp[gn]) (vS (m+1)) (by decide) hd ?_;have ws:=λh=>(hw' h).sps;simp only[sz,simprocAttr,gn];obtain ⟨g0,hg0⟩:∃g0,g0=G.empty.new (.cells 3 [[.int .u8 (x:Int),.int .u8 (y:Int),.int .i64 z]] 0 false false):=⟨_,rfl⟩;rw[<-hg0];have f0:g0.h.get 0=.cells 3 [[.int .u8 (x:Int),.int .u8 (y:Int),.int .i64 z]] 0 false false:=by rw[hg0];simp[sx]
 have n0:g0.nx=1:=by rw[hg0];simp[sx]
 clear hg0;simp only[sz,simprocAttr,iO];refine aM (rows:=[]) (b:=1) (new:=l.map cs3) (.inl ⟨rfl,rfl⟩) (ws _) (by omega) (by simp[aT];omega) λv g1 hv n1 f1 c1 _=>?_;have hv:Own g1 1 v 3 (l.map cs3):=by simpa using hv
 have k0:g1.h.get 0=.cells 3 [[.int .u8 (x:Int),.int .u8 (y:Int),.int .i64 z]] 0 false false:=by rw[f1 0 (by omega) (by simp[vid]),f0]
 have vl:=λg=>hv.sat_len g;rw[List.length_map] at vl;have out:∀(g:G) (v:AV) (L:List Sp),Own g 1 v 3 (L.map cs3)->L.length<=m+1->∃P,ue (m+1) P 0 g.h v:=λg v L h h2=>⟨λ_=>True,L,h2,h.sps (by omega)⟩
 by_cases c0:l.length=0
 ·have e0:decide ((l.length:Int)=0)=true:=decide_eq_true (by omega);simp only[sz,simprocAttr,vl,e0];exact out _ _ _ hv (by omega)
 have e0:decide ((l.length:Int)=0)=false:=decide_eq_false (by omega);refine nT (P:=λt' df g'=>df=[]/\g'=g1/\St t' [(2,.hptr 0 0 0 0),(5,v)]) ?_ ?_
 ·simp only[sz,simprocAttr];simp[St,sx,tP]
 rintro t df g2 ⟨rfl,rfl,h2,h5,-⟩;refine dh (P:=λt' df g'=>df=[]/\g'=g2/\St t' [(2,.hptr 0 0 0 0),(5,v)]) ?_ ?_
 ·simp only[sz,simprocAttr,h5,vl,e0];simp[St,sx,h2,h5]
 rintro t df g3 ⟨rfl,rfl,h2,h5,-⟩;obtain ⟨i,hi⟩:∃i,i=y % l.length:=⟨_,rfl⟩;have hil:i<l.length:=by rw[hi];exact Nat.mod_lt _ (by omega)
 have w8:IntKind.wrap .i64 (y:Int)=(y:Int):=ay (by omega) (by omega);have r1:bo .rem (.int .i64 (y:Int)) (.int .i64 (l.length:Int))=.val (.int .i64 (i:Int)):=by rw[da .i64 (show (0:Int)<=(y:Int) by omega) (show (0:Int)<(l.length:Int) by omega),hi];congr 2
 obtain ⟨⟨a,b,c⟩,hx0⟩:∃x,l[i]?=some x:=⟨_,List.getElem?_eq_getElem hil⟩;have u1:i<(l.map cs3).length:=by simpa using hil
 have u2:(l.map cs3)[i]?=some [.int .i64 a,.int .i64 b,.int .i64 c]:=by rw[List.getElem?_map,hx0];rfl
 have rv:=hv.rows;have nc:=ve hv (off:=0) u1;have fa:=yk hv u1;refine dh (P:=λt' df g'=>df=[]/\g'=g3/\St t' [(2,.hptr 0 0 0 0),(5,v),(6,fq 3 v i 0)]) ?_ ?_
 ·simp only[sz,simprocAttr,h2,h5,k0,w8,vl,r1,rv,u1];simp[St,sx,h2,h5]
 rintro t df g4 ⟨rfl,rfl,h2,h5,h6,-⟩;have r2:bo .rem (.int .u8 (x:Int)) (.int .u8 6)=.val (.int .u8 ((x % 6:Nat):Int)):=by rw[da .u8 (show (0:Int)<=(x:Int) by omega) (show (0:Int)<6 by omega)];congr 2
 have hr6:x % 6<6:=Nat.mod_lt _ (by omega);have done:∀(t:T) (g:G) (v:AV) (L:List Sp),tat t 5=v->Own g 1 v 3 (L.map cs3)->L.length<=m+1->wp C0 (d+1) none cN (fnQ C0 (d+1) [SR.tm 4] λv g'=>∃P,ue (m+1) P 0 g'.h v) t [] g:=λt g v L h5 h h'=>by simp only[sz,simprocAttr,cN,h5];exact out _ _ _ h h'
 have hsix:x % 6=0\/x % 6=1\/x % 6=2\/x % 6=3\/x % 6=4\/x % 6=5:=by omega
 rcases hsix with h | h | h | h | h | h
 ·rw[h] at r2;simp only[sz,simprocAttr,h2,h6,k0,r2,nc,fa];refine bw (v:=v) (sz:=3) (n:=1) (i:=i) (off:=0) (x:=.int .i64 z) (row:=cs3 (a,b,c)) (row':=cs3 (z,b,c)) hv u2 rfl rfl rfl λg5 o5 n5 f5=>?_;rw[nU] at o5;simp only[sz,simprocAttr];exact done _ _ _ _ (by simp[sx,h5]) o5 (by simp;omega)
 ·rw[h] at r2;simp only[sz,simprocAttr,h2,h6,k0,r2,nc,fa];refine bw (v:=v) (sz:=3) (n:=1) (i:=i) (off:=1) (x:=.int .i64 z) (row:=cs3 (a,b,c)) (row':=cs3 (a,z,c)) hv u2 rfl rfl rfl λg5 o5 n5 f5=>?_;rw[nU] at o5;simp only[sz,simprocAttr];exact done _ _ _ _ (by simp[sx,h5]) o5 (by simp;omega)
 ·rw[h] at r2;simp only[sz,simprocAttr,h2,h6,k0,r2,nc,fa];refine bw (v:=v) (sz:=3) (n:=1) (i:=i) (off:=2) (x:=.int .i64 z) (row:=cs3 (a,b,c)) (row':=cs3 (a,b,z)) hv u2 rfl rfl rfl λg5 o5 n5 f5=>?_;rw[nU] at o5;simp only[sz,simprocAttr];exact done _ _ _ _ (by simp[sx,h5]) o5 (by simp;omega)
 ·rw[h] at r2;obtain ⟨q,q1,q2,q3⟩:=y_ (α:=Sp) hv (n:=l.length - 1) (by intro e;rw[e] at u1;simp at u1) (by simp);have q1:oy 3 v none (some (.int .i64 ((l.length - 1:Nat):Int))) g4=.val q:=q1;have w1:IntKind.wrap .i64 ((l.length:Int) - 1)=((l.length - 1:Nat):Int):=by rw[ay (by omega) (by omega)];omega
  simp only[sz,simprocAttr,h2,h5,k0,r2,vl,w1,q1,List.head?_nil,List.head?_cons];simp only[sz,simprocAttr,cN,q2.1,q2.2];exact ⟨λ_=>True,l.take (l.length - 1),by simp;omega,_,rfl,q3 _ _ _ _ (λ_ _=>rfl) (Own.sl (α:=Sp) hv (by omega) (All2.of_map (λa=>vK.2 rfl) l) λ_ _=>trivial)⟩
 ·rw[h] at r2;have w1:IntKind.wrap .i64 ((l.length:Int) - 1)=(l.length:Int) - 1:=ay (by omega) (by omega);simp only[sz,simprocAttr,h2,h5,k0,r2,vl,w1];refine aM (new:=[cs3 (-1,(l.length:Int) - 1,z)]) (hv.step (Fr.new _ _)) (by simp[sx,sy,cs3]) (by first | (simp;done) | (simp;omega)) (by simp[aT];omega) λv2 g5 hv2 n2 f2 c2 _=>?_;simp only[sz,simprocAttr];exact done _ _ v2 (l++[(-1,(l.length:Int) - 1,z)]) (by simp[sx]) (by simpa using hv2) (by first | (simp;done) | (simp;omega))
 ·rw[h] at r2;simp only[sz,simprocAttr,h2,h6,k0,r2,nc,fa,rv,u1,u2];refine bw (v:=v) (sz:=3) (n:=1) (i:=i) (off:=1) (x:=.int .i64 c) (row:=cs3 (a,b,c)) (row':=cs3 (a,c,c)) hv u2 rfl rfl rfl λg5 o5 n5 f5=>?_;rw[nU] at o5;have u5:((l.set i (a,c,c)).map cs3)[i]?=some (cs3 (a,c,c)):=by rw[List.getElem?_map,List.getElem?_set_self hil];rfl
  have nc5:=ve o5 (off:=0) (i:=i) (by simpa using hil);have fa5:=yk o5 (i:=i) (by simpa using hil);simp only[sz,simprocAttr,h6,nc5,fa5];refine bw (v:=v) (sz:=3) (n:=1) (i:=i) (off:=2) (x:=.int .i64 b) (row:=cs3 (a,c,c)) (row':=cs3 (a,c,b)) o5 u5 rfl rfl rfl λg6 o6 n6 f6=>?_;rw[nU] at o6;simp only[sz,simprocAttr];exact done _ _ _ _ (by simp[sx,h5]) o6 (by simp;omega)
theorem Dh (v:Int):zP true (.flat [.int .i64,.int .i64,.int .i64]) (.agg [.int .i64 v,.int .i64 (-1),.int .i64 (-1)]) (.agg [.int .i64 v,.int .i64 (-1),.int .i64 (-1)])=.val (.bool false):=by
 simp only[zP,eqA,cz,cK,jd,nF];simp
 rfl
theorem Dr {d:Nat}{g:G}{v:Int}(hd:0<d):aG C0 d N.ah [.int .i64 v] g=.val (.agg [.int .i64 v,.int .i64 (-1),.int .i64 (-1)]):=by
 have key:∃r,aG C0 d N.ah [.int .i64 v] g=.val r/\Agg ((v,-1,-1):Sp) NoP 0 .nil r:=by rw[ph];refine cy re (xs:=[.int .i64 v]) (by simp only[aJ,l0 0]) (by simp[j4]) (gO _) (by decide) hd ?_;simp only[sz,simprocAttr,j4,lr];exact ⟨NoP,_,rfl,vK.2 rfl⟩
 obtain ⟨r,e,cs,rfl,hcs⟩:=key;rw[e,vK.1 hcs];rfl
theorem B0 {b9:AV}{q9:Nat}{l:List Sp}{n:Nat}{Q:QT}{t:T}{g:G}{X:List (Nat×AV)}(hX:X=[(9,.hptr q9 0 0 0),(14,.int .u64 ((2 ^ n - 1:Nat):Int))])(hn1:1<=n)(hck:S.ck l n=true)(hl16:l.length<=20)
  (hO:Own g (q9+1) b9 1 ((S.au l l.length).map ci))
  (ht:St t ((15,b9)::(150,b9)::(151,.int .i64 (l.length:Int))::(152,.int .i64 0)::X))
  (fin:∀t,St t X->Q (.exit 5) t [] g) :
  wpL (wp C0 1 none bS) Q t [] g:=by
 subst hX;obtain ⟨h15,h150,h151,h152,h9,h14,-⟩:=ht;have ul:=λg=>hO.sat_len g;rw[List.length_map,fk] at ul;simp only[bS];refine bf (m:=l.length) (by omega) (λj t df g'=>df=[]/\g'=g/\St t [(9,.hptr q9 0 0 0),(14,.int .u64 ((2 ^ n - 1:Nat):Int)),(15,b9),(150,b9)])
  ⟨rfl,rfl,by simp[St,h9,h14,h15,h150]⟩ h152 h151 (by decide) (by rintro j t df g v s (rfl | rfl | rfl)<;>simp[sx,St]) ?_ ?_
 ·clear h9 h14 h15 h150 h151 h152;rintro j t df g' hj ⟨rfl,rfl,h9,h14,h15,h150,-⟩ h152 h151;have u1:j<((S.au l l.length).map ci).length:=by simpa [fk] using hj
  have w1:IntKind.wrap .i64 ((l.length:Int) - 1)=(l.length:Int) - 1:=ay (by omega) (by omega);have hu:=De hn1 hck hj
  by_cases c:j+1<l.length
  ·rw[if_pos c] at hu;have u2:((S.au l l.length).map ci)[j]?=some [.int .i64 1]:=by rw[List.getElem?_map,jR hj,hu];rfl
   have d1:decide ((j:Int)<(l.length:Int) - 1)=true:=decide_eq_true (by omega);have d2:decide ((j:Int)=(l.length:Int) - 1)=false:=decide_eq_false (by omega);simp only[sz,simprocAttr,h15,h150,h152,hO.rows,u1,u2,ul,w1,d1,d2];simp[St,sx,h9,h14,h15,h150,h151,h152]
  ·rw[if_neg c] at hu;have u2:((S.au l l.length).map ci)[j]?=some [.int .i64 0]:=by rw[List.getElem?_map,jR hj,hu];rfl
   have d1:decide ((j:Int)<(l.length:Int) - 1)=false:=decide_eq_false (by omega);have d2:decide ((j:Int)=(l.length:Int) - 1)=true:=decide_eq_true (by omega);simp only[sz,simprocAttr,h15,h150,h152,hO.rows,u1,u2,ul,w1,d1,d2];simp[St,sx,h9,h14,h15,h150,h151,h152]
 ·rintro t df g' ⟨rfl,rfl,h9,h14,-⟩;exact fin t (by simp[St,h9,h14])
theorem BY {X:List (Nat×AV)}{mv:AV}{M:List Sp}{n:Nat}{Q:QT}{t:T}{g:G}(hX:X=[(6,.hptr 2 0 0 0),(7,.hptr 3 0 0 0),(9,.hptr 4 0 0 0)])(hn:n<=8)(hM:SlR NoP 0 .nil M mv)(hl:n<=M.length)(hlf:∀v,v<n->S.sp M v=((v:Int),-1,-1))
  (ht:St t ((10,mv)::(54,.int .i64 (n:Int))::(55,.int .i64 0)::X))
  (fin:∀t,St t X->Q (.exit 0) t [] g) :
  wpL (wp C0 1 none bP) Q t [] g:=by
 subst hX;obtain ⟨h10,h54,h55,h6,h7,h9,-⟩:=ht;have ms:=λh=>(hM.tree (h':=h) (Nat.le_refl 0)).sps;have lk:∀(v:Int) (g:G),aG C0 1 N.ah [.int .i64 v] g=.val (.agg [.int .i64 v,.int .i64 (-1),.int .i64 (-1)]):=λv g=>Dr (by decide);simp only[bP];refine bf (m:=n) (by omega) (λj t df g'=>df=[]/\g'=g/\St t [(6,.hptr 2 0 0 0),(7,.hptr 3 0 0 0),(9,.hptr 4 0 0 0),(10,mv)])
  ⟨rfl,rfl,by simp[St,h6,h7,h9,h10]⟩ h55 h54 (by decide) (by rintro j t df g v s (rfl | rfl | rfl)<;>simp[sx,St]) ?_ ?_
 ·clear h6 h7 h9 h10 h54 h55;rintro j t df g' hj ⟨rfl,rfl,h6,h7,h9,h10,-⟩ h55 h54;have u1:j<(M.map cs3).length:=by simp;omega
  have hsp:=hlf j hj;have u2:(M.map cs3)[j]?=some [.int .i64 (j:Int),.int .i64 (-1),.int .i64 (-1)]:=by rw[List.getElem?_map,List.getElem?_eq_getElem (by omega),Option.map_some];rw[S.sp,List.getElem?_eq_getElem (by omega),Option.getD_some] at hsp;rw[hsp];rfl
  simp only[sz,simprocAttr,h10,h55,ms,u1,u2,lk,Dh];simp[St,sx,h6,h7,h9,h10,h54,h55]
 ·rintro t df g' ⟨rfl,rfl,h6,h7,h9,-⟩;exact fin t (by simp[St,h6,h7,h9])
structure BW (x:Node) (J:Nat) (g:G) (V:Ky->AV) (E:Ky->En) (rws:List (List AV)):Prop where
 own:Own g 3 (V (J+1,1)) 1 rws
 e1:E (J+1,1)=.sl 1 rws
 len:rws.length=x.rows.length
 at_:∀(r:Nat) (y:List Int),x.rows[r]?=some y->rws[r]?=some [V (J+1,2+r)]
section
variable {d K J:Nat}{L:List Node}{x:Node}{bx:xG}{gr Rw:Int}{t:T}{g:G}{V:Ky->AV}{E:Ky->En}{Q:QT}
end
end
end Hx
end
section
namespace Hx
open Go
noncomputable section
def Node.wr (x:Node)(r:Nat)(y:List Int):Node:=⟨x.card,x.parents,x.rows.set r y⟩
section
variable {d K J r:Nat}{L:List Node}{x:Node}{bx:xG}{gr Rw:Int}{t t':T}{g gb:G}{V:Ky->AV}{E:Ky->En}{Q:QT}{y y':List Int}
structure BR (x:Node) (J r:Nat) (y:List Int) (g:G) (V:Ky->AV) (E:Ky->En) (rws:List (List AV)):Prop where
 wr:ah g.h 1 (V (J+1,1))=some rws
 rl:r<rws.length
 rw_:rws[r]?=some [V (J+1,2+r)]
 ry:rB (V (J+1,1))=true
 yr:ah g.h 1 (V (J+1,2+r))=some (y.map ci)
 ye:E (J+1,2+r)=.sl 1 (y.map ci)
 yl:y.length<=K
end
end
end Hx
end
section
namespace Hx
open Go
noncomputable section
theorem xK {α:Type} [Rp α]{x:α}{P:Nat->Prop}{cs:List AV}(h:Rp.rp NoP 0 .nil x cs)(h':H):Agg x P 0 h' (.agg cs):=⟨_,rfl,Rp.tree h (Nat.le_refl _)⟩
theorem t9 (g:G):aG C0 1 N.aT [] g=.val (.bool true):=by kernel_rfl
theorem BQ {cs:List AV}(h:cs.length=8):cW (.cells 8 [cs] 0 false false) 0 0 true 8 0=.val (.agg cs):=by
 match cs,h with
 | [a,b,c,d,e,f,g,i],_=>rfl
theorem pC {α:Type} [Rp α]{l:List α}{v:AV}(h:One l NoP 0 .nil v):SlR NoP 0 .nil l v:=by obtain ⟨w,e,hw⟩:=h;injection e with e;rw[e];exact hw
set_option maxRecDepth 20000 in
theorem mo {x:nZ}{u1:AV}{os ls:List UInt8}{p q:Nat}{z:Int}(hx:Agg x NoP 0 .nil u1)(ho:os.length=8)(hl:ls.length=8)(hp:p<256)(hq:q<256) :
  ∃g',(I C0).call 1 N.aQ [u1,.agg (os.map u8v),.agg (ls.map u8v),.agg [.int .u8 (p:Int),.int .u8 (q:Int),.int .i64 z]] G.empty=.ok (.bool true) g':=by
 obtain ⟨xs,rfl,qx⟩:=hx;obtain ⟨a1',a2',e1,-⟩:=sS.1 qx;have hxl:xs.length=3:=by rw[e1];rfl
 clear e1 a1' a2';have key:=l4 (C:=C0) (d:=1) (f:=N.aQ) («as»:=[.agg xs,.agg (os.map u8v),.agg (ls.map u8v),.agg [.int .u8 (p:Int),.int .u8 (q:Int),.int .i64 z]]) (g:=G.empty) (K:=λv g'=>v=.bool true) jB (by simp[cM]) ?_
 ·cases hc':(I C0).call 1 N.aQ [.agg xs,.agg (os.map u8v),.agg (ls.map u8v),.agg [.int .u8 (p:Int),.int .u8 (q:Int),.int .i64 z]] G.empty with
  | fail=>rw[hc'] at key;exact key.elim
  | ok v g'=>rw[hc'] at key;exact ⟨g',by rw[show v=.bool true from key]⟩
 obtain ⟨co,hco⟩:∃c,c=os.map u8v:=⟨_,rfl⟩;obtain ⟨cl,hcl⟩:∃c,c=ls.map u8v:=⟨_,rfl⟩;have hcol:co.length=8:=by rw[hco,List.length_map,ho]
 have hcll:cl.length=8:=by rw[hcl,List.length_map,hl]
 rw[<-hco,<-hcl];simp only[sz,simprocAttr,cM];obtain ⟨g0,hg0⟩:∃g0,g0=(((G.empty.new (AObj.cells xs.length [xs] 0 false false)).new (.cells co.length [co] 0 false false)).new (.cells cl.length [cl] 0 false false)).new (.cells 3 [[.int .u8 (p:Int),.int .u8 (q:Int),.int .i64 z]] 0 false false):=⟨_,rfl⟩;rw[<-hg0];have f0:g0.h.get 0=.cells 3 [xs] 0 false false:=by rw[hg0,hxl];simp[sx,H.get_put]
 have f1:g0.h.get 1=.cells 8 [co] 0 false false:=by rw[hg0,hcol];simp[sx,H.get_put]
 have f2:g0.h.get 2=.cells 8 [cl] 0 false false:=by rw[hg0,hcll];simp[sx,H.get_put]
 have f3:g0.h.get 3=.cells 3 [[.int .u8 (p:Int),.int .u8 (q:Int),.int .i64 z]] 0 false false:=by rw[hg0];simp[sx,H.get_put]
 have f4:g0.nx=4:=by rw[hg0];simp[sx]
 clear hg0;have ld0:cW (.cells 3 [xs] 0 false false) 0 0 true 3 0=.val (.agg xs):=by
  match xs,hxl with
  | [a,b,c],_=>rfl
 have ld1:=BQ hcol;have ld2:=BQ hcll;simp only[dY];refine dh (P:=λt' df g'=>df=[]/\g'=g0/\St t' [(4,.hptr 0 0 0 0),(5,.hptr 1 0 0 0),(6,.hptr 2 0 0 0),(7,.hptr 3 0 0 0)]) ?_ ?_
 ·simp only[sz,simprocAttr,t9];simp[St,sx]
 rintro t df g1 ⟨rfl,rfl,h4,h5,h6,h7,-⟩;obtain ⟨rn,en,n,hdr,cn,rfl,hcn⟩:=Dg (g:=g1) (d:=1) (by decide) (xK (P:=NoP) qx g1.h);obtain ⟨bb,rfl,hNb⟩:=lT.1 hcn;have hM:∀h,Agg n NoP 0 h (.agg [.int .i64 n.grain,bb]):=λh=>xK hcn h;have hN':SlR NoP 0 .nil n.nodes bb:=hNb;have lb:=λg=>hN'.len g;have hr:=hdr.nr;have n8:=hr.l2;have n1:=hr.l1;have hnr:S.aB n=true:=im.2 hr;refine nT (P:=λt' df g'=>df=[]/\St t' [(5,.hptr 1 0 0 0),(6,.hptr 2 0 0 0),(7,.hptr 3 0 0 0),(9,.hptr 4 0 0 0)]/\g'.nx=5/\g'.h.get 1=.cells 8 [co] 0 false false/\g'.h.get 2=.cells 8 [cl] 0 false false/\g'.h.get 3=.cells 3 [[.int .u8 (p:Int),.int .u8 (q:Int),.int .i64 z]] 0 false false/\g'.h.get 4=.cells 2 [[.int .i64 n.grain,bb]] 0 false false) ?_ ?_
 ·simp only[sz,simprocAttr,h4,f0,ld0,en];simp[St,sx,h5,h6,h7,f1,f2,f3,f4]
 clear f0 f1 f2 f3 f4 h4 h5 h6 h7 en;rintro t df g2 ⟨rfl,⟨h5,h6,h7,h9,-⟩,k0,k1,k2,k3,k4⟩;have ldn:cW (.cells 2 [[.int .i64 n.grain,bb]] 0 false false) 0 0 true 2 0=.val (.agg [.int .i64 n.grain,bb]):=rfl;refine dh (P:=λt' df g'=>df=[]/\g'=g2/\∃(L:List Int) (mv:AV),S.aG L n.nodes.length=true/\SlR NoP 0 .nil (S.aX n L) mv/\St t' [(6,.hptr 2 0 0 0),(7,.hptr 3 0 0 0),(9,.hptr 4 0 0 0),(10,mv),(11,.int .i64 0)]) ?_ ?_
 ·simp only[sz,simprocAttr,h5,h9,k1,k4,ldn,ld1,lb];rw[hco];refine gu (AA (by decide) ho (by omega)) λr hr1=>?_;obtain ⟨L,hL,hr1⟩:=hr1;simp only[sz,simprocAttr];refine gu (Dx (by decide) (hM _) (pC hr1 |>.tree (Nat.le_refl 0))) λr2 hr2=>?_;obtain ⟨mv,ev,rfl,hmv,hev⟩:=hr2;have hev:=bj.1 hev;injection hev with hev;subst hev;have he0:S.a7 n L=0:=by simp[S.a7,hnr,hL]
  rw[he0];simp only[sz,simprocAttr];exact ⟨L,mv,hL,pC hmv,by simp[St,sx,h6,h7,h9]⟩
 rintro t df g3 ⟨rfl,rfl,L,mv,hL,hmv,h6,h7,h9,h10,h11,-⟩;have hml:S.aX n L=(S.mk (S.ah n) L).1:=by simp[S.aX,hnr,hL]
 have hfl:(S.ah n).length=n.nodes.length:=by simp[S.ah]
 obtain ⟨m1,m2,m3⟩:=EH (fam:=S.ah n) (order:=L) (by rw[hfl];exact n1);rw[hml] at hmv;rw[hfl] at m1 m2 m3;obtain ⟨M,hMM⟩:∃M,M=(S.mk (S.ah n) L).1:=⟨_,rfl⟩;rw[<-hMM] at hmv m1 m2 m3;have hchk:S.aE n M=0:=by rw[S.aE,if_pos hnr,if_pos m1]
 have ck1:∀g,aG C0 1 N.ac [.agg [.int .i64 n.grain,bb],mv] g=.val (.int .i64 0):=λg=>by rw[rR (by decide) (hM _) (hmv.tree (h':=g.h) (Nat.le_refl 0)),hchk]
 have ml:=λg=>hmv.len g;have w2:=xX (n.nodes.length:Int) (by omega);have e2:decide ((M.length:Int)=2*(n.nodes.length:Int) - 1)=true:=decide_eq_true m2;refine dh (P:=λt' df g'=>df=[]/\g'=g3/\St t' [(6,.hptr 2 0 0 0),(7,.hptr 3 0 0 0),(9,.hptr 4 0 0 0),(10,mv)]) ?_ ?_
 ·simp only[sz,simprocAttr,h9,h10,h11,k4,ldn,ck1,ml,lb,w2,m2];simp[St,sx,h6,h7,h9,h10]
 rintro t df g4 ⟨rfl,rfl,h6,h7,h9,h10,-⟩;simp only[sz,simprocAttr,h9,k4,lb];refine BY (X:=[(6,.hptr 2 0 0 0),(7,.hptr 3 0 0 0),(9,.hptr 4 0 0 0)]) (mv:=mv) (M:=M) (n:=n.nodes.length) rfl n8 hmv (by omega) m3 (by simp[St,sx,h6,h7,h9,h10]) λt ht=>?_;obtain ⟨h6,h7,h9,-⟩:=ht;show wp C0 1 none bT _ t [] g4;unfold bT;refine dh (P:=λt' df g'=>df=[]/\g'=g4/\∃(B:List Sp) (bv:AV),B.length<=16/\SlR NoP 0 .nil B bv/\St t' [(9,.hptr 4 0 0 0),(13,bv)]) ?_ ?_
 ·have ldb:cW (.cells 3 [[.int .u8 (p:Int),.int .u8 (q:Int),.int .i64 z]] 0 false false) 0 0 true 3 0=.val (.agg [.int .u8 (p:Int),.int .u8 (q:Int),.int .i64 z]):=rfl;simp only[sz,simprocAttr,h6,h7,h9,k2,k3,k4,ldb,ld2,lb];rw[hcl];refine gu (zZ (by decide) hl n1 n8) λr hr1=>?_;obtain ⟨J,hJ,hr1⟩:=hr1;simp only[sz,simprocAttr];refine gu (zu (by decide) (pC hr1 |>.tree (Nat.le_refl 0)) hJ (by omega) hp hq) λr2 hr2=>?_;obtain ⟨B,hB,hr2⟩:=hr2;simp only[sz,simprocAttr];exact ⟨B,r2,hB,pC hr2,by simp[St,sx,h9]⟩
 rintro t df g5 ⟨rfl,rfl,B,bv,hB,hbv,h9,h13,-⟩;have ck2:∀g,aG C0 1 N.ac [.agg [.int .i64 n.grain,bb],bv] g=.val (.int .i64 (S.aE n B)):=λg=>rR (by decide) (hM _) (hbv.tree (h':=g.h) (Nat.le_refl 0));cases hck:S.ck B n.nodes.length with
 | false =>
  have hc:S.aE n B=130:=by rw[S.aE,if_pos hnr,hck];rfl
  rw[hc] at ck2;simp only[sz,simprocAttr,h9,h13,k4,ldn,ck2]
 | true =>
  have hc:S.aE n B=0:=by rw[S.aE,if_pos hnr,if_pos hck]
  rw[hc] at ck2;have bl:=λg=>hbv.len g;refine dh (P:=λt' df g'=>df=[]/\g'=g5/\St t' [(9,.hptr 4 0 0 0),(13,bv)]) ?_ ?_
  ·simp only[sz,simprocAttr,h9,h13,k4,ldn,ck2];simp[St,sx,h9,h13]
  rintro t df g6 ⟨rfl,rfl,h9,h13,-⟩;simp only[sz,simprocAttr,h13,bl];refine yN (b:=5) (n:=B.length) (by unfold aT;omega) (by unfold aT;omega) (by omega) λu g7 hu n7 fr7 v7=>?_;have hu0:Own g7 (4+1) u 1 ((S.au B 0).map ci):=by have e3:S.au B 0=List.replicate B.length 0:=List.eq_replicate_iff.2 ⟨fk _ _,λb hb=>by simp[S.au,S.ak] at hb;exact hb.2.symm⟩;rw[e3];simpa [ci] using hu
  have k47:g7.h.get 4=.cells 2 [[.int .i64 n.grain,bb]] 0 false false:=by rw[fr7 4 (by omega),k4]
  simp only[sz,simprocAttr,h13,bl];refine BZ (q9:=4) (w:=bv) (nb:=bb) (b9:=u) (l:=B) (n:=n) n1 n8 hN' hck (by omega) hbv k47 (by omega) hu0 (by simp[St,sx,h9,h13]) λt g8 ht k48 hO=>?_;obtain ⟨h9,h14,h15,-⟩:=ht;have ul:=λg=>hO.sat_len g;rw[List.length_map,fk] at ul;simp only[sz,simprocAttr,dP,h15,ul];refine B0 (q9:=4) (b9:=u) (l:=B) (n:=n.nodes.length) (X:=[(9,.hptr 4 0 0 0),(14,.int .u64 ((2 ^ n.nodes.length - 1:Nat):Int))]) rfl n1 hck (by omega) hO (by simp[St,sx,h9,h14,h15]) λt ht=>?_;obtain ⟨h9,h14,-⟩:=ht;have e4:bo .shl (.int .u64 1) (.int .i64 (n.nodes.length:Int))=.val (.int .u64 (S.an n.nodes.length:Int)):=eD .i64 _;have hpw:1<=2 ^ n.nodes.length:=Nat.one_le_two_pow;have hpw2:2 ^ n.nodes.length<=2 ^ 8:=Nat.pow_le_pow_right (by omega) n8;rw[wj (by omega)] at e4;have w5:IntKind.wrap .u64 (((2 ^ n.nodes.length:Nat):Int) - 1)=((2 ^ n.nodes.length - 1:Nat):Int):=by rw[pI (by omega) (by omega)];omega
  simp only[sz,simprocAttr,dO,h9,h14,k48,lb,e4,w5]
end
end Hx
end
section
namespace Hx
open Go Go.RowKit Go.ChangeShapes Go.WideShapes
def mM (P:Program):List Field->Nat->Option Nat
 | [],k=>some k
 | f::fs,k=>if f.offset=k then mM P fs (k+P.cellsOf f.type) else none
def lQ (P:Program):Nat->TypeId->Bool
 | 0,_=>false
 | n+1,t=>match P.underlying t with
  | some .bool=>true
  | some (.int _)=>true
  | some (.slice e)=>decide (0<P.cellsOf e)&&lQ P n e
  | some (.struct fs)=>(mM P fs.toList 0 == some (P.cellsOf t))&&fs.toList.all (λf=>lQ P n f.type)
  | some (.array m e)=>decide (m*P.cellsOf e=P.cellsOf t)&&lQ P n e
  | _=>false
def Sh (P:Program):Nat->TypeId->List AV->Prop
 | 0,_,_=>False
 | n+1,t,xs=>match P.underlying t with
  | some .bool=>∃b,xs=[.bool b]
  | some (.int k)=>∃z,xs=[.int k z]/\(Lit.int k z).wf=true
  | some (.slice e)=>xs=[.nils]\/∃rows,xs=[.tsl 0 (P.cellsOf e) rows]/\rows.length<9223372036854775808/\∀row∈rows,Sh P n e row
  | some (.struct fs)=>∃xss,xs=xss.flatten/\All2 (λ(f:Field) ys=>Sh P n f.type ys) fs.toList xss
  | some (.array m e)=>∃xss:List (List AV),xs=xss.flatten/\xss.length=m/\∀ys∈xss,Sh P n e ys
  | _=>False
def uc (P:Program)(w:World)(n:Nat)(t:TypeId)(xs:List AV)(cs:List Value):Prop :=
 RVs0 w xs cs/\(∀y∈xs,y.one=true/\Closed y)/\Sh P n t xs
theorem RVs0.append {w:World}{xs ys:List AV}{cs ds:List Value}(h:RVs0 w xs cs)(h':RVs0 w ys ds):RVs0 w (xs++ys) (cs++ds):=by
 refine ⟨by rw[List.length_append,List.length_append,h.1,h'.1],λi x v hx hv=>?_⟩;rcases Nat.lt_or_ge i xs.length with hi | hi
 ·rw[List.getElem?_append_left hi] at hx;rw[List.getElem?_append_left (by rw[<-h.1];exact hi)] at hv;exact h.2 i x v hx hv
 ·rw[List.getElem?_append_right hi] at hx;rw[List.getElem?_append_right (by rw[<-h.1];exact hi),<-h.1] at hv;exact h'.2 _ x v hx hv
theorem xJ (b o n:Nat):(⟨b,o,none⟩:Addr).add n=adr b (o+n):=by
 unfold Addr.add
 split
 ·rename_i h;subst h;rfl
 ·rfl
variable {H:Type}{enc:TypeId×Value->H}{P:Program}{w:World}
theorem rY:∀{fl:List Field} {k K:Nat},mM P fl k=some K->k<=K
 | [],k,K,h=>by injection h with h;omega
 | f::fl,k,K,h=>by
  unfold mM at h
  split at h
  ·have:=rY h;omega
  ·cases h
theorem Cs {n:Nat}{cs:List Value}:∀{fl:List Field} {k K:Nat},mM P fl k=some K ->
  (∀f∈fl,∃xs,uc P w n f.type xs ((cs.drop f.offset).take (P.cellsOf f.type))) ->
  ∃xss,All2 (λ(f:Field) ys=>Sh P n f.type ys) fl xss/\RVs0 w xss.flatten ((cs.drop k).take (K - k))/\∀y∈xss.flatten,y.one=true/\Closed y
 | [],k,K,h,_=>by injection h with h;subst h;exact ⟨[],trivial,by rw[Nat.sub_self,List.take_zero];exact ⟨rfl,λi x v hx=>by simp at hx⟩,λy hy=>by simp at hy⟩
 | f::fl,k,K,h,hg=>by
  unfold mM at h
  split at h
  ·rename_i ho;subst ho;obtain ⟨xs,h1,h2,h3⟩:=hg f (by simp);obtain ⟨xss,a1,a2,a3⟩:=Cs h λf' hf'=>hg f' (by simp[hf']);have hle:=rY h;refine ⟨xs::xss,⟨h3,a1⟩,?_,λy hy=>?_⟩
   ·have e:(cs.drop f.offset).take (K - f.offset)=(cs.drop f.offset).take (P.cellsOf f.type)++(cs.drop (f.offset+P.cellsOf f.type)).take (K - (f.offset+P.cellsOf f.type)):=by rw[show K - f.offset=P.cellsOf f.type+(K - (f.offset+P.cellsOf f.type)) by omega,List.take_add,List.drop_drop]
    rw[e,List.flatten_cons];exact h1.append a2
   ·rw[List.flatten_cons,List.mem_append] at hy;rcases hy with hy | hy
    ·exact h2 y hy
    ·exact a3 y hy
  ·cases h
theorem xL {n:Nat}{e:TypeId}{cs:List Value}:∀{m k:Nat},
  (∀i,i<m->∃xs,uc P w n e xs ((cs.drop ((k+i)*P.cellsOf e)).take (P.cellsOf e))) ->
  ∃xss:List (List AV),xss.length=m/\(∀ys∈xss,Sh P n e ys)/\RVs0 w xss.flatten ((cs.drop (k*P.cellsOf e)).take (m*P.cellsOf e))/\∀y∈xss.flatten,y.one=true/\Closed y
 | 0,k,_=>⟨[],rfl,λy hy=>by simp at hy,by rw[Nat.zero_mul,List.take_zero];exact ⟨rfl,λi x v hx=>by simp at hx⟩,λy hy=>by simp at hy⟩
 | m+1,k,hg=>by
  obtain ⟨xs,h1,h2,h3⟩:=hg 0 (by omega);rw[Nat.add_zero] at h1;obtain ⟨xss,a0,a1,a2,a3⟩:=xL (m:=m) (k:=k+1) λi hi=>by have:=hg (i+1) (by omega);rwa [show k+(i+1)=k+1+i by omega] at this
  refine ⟨xs::xss,by simp[a0],λys hy=>?_,?_,λy hy=>?_⟩
  ·rcases List.mem_cons.1 hy with rfl | hy
   ·exact h3
   ·exact a1 ys hy
  ·have e:(cs.drop (k*P.cellsOf e)).take ((m+1)*P.cellsOf e)=(cs.drop (k*P.cellsOf e)).take (P.cellsOf e)++(cs.drop ((k+1)*P.cellsOf e)).take (m*P.cellsOf e):=by rw[show (m+1)*P.cellsOf e=P.cellsOf e+m*P.cellsOf e by rw[Nat.add_mul];omega,List.take_add,List.drop_drop,Nat.add_mul,Nat.one_mul]
   rw[e,List.flatten_cons];exact h1.append a2
  ·rw[List.flatten_cons,List.mem_append] at hy;rcases hy with hy | hy
   ·exact h2 y hy
   ·exact a3 y hy
theorem uR:∀(n:Nat) (t:TypeId),lQ P n t=true->∀(fuel:Nat) (cs:List Value) (x:DataW H×List MemPlace),DataW.trod enc P w 0 (λ_=>true) true fuel t cs=some x->∃xs,uc P w n t xs cs:=by
 intro n
 induction n with
 | zero=>intro t h;simp[lQ] at h
 | succ n ih =>
  intro t h fuel cs x hx;unfold lQ at h
  split at h
  ·rename_i hu;obtain ⟨b,rfl,-⟩:=DataW.trod_bool hu hx;refine ⟨[.bool b],⟨rfl,λi x v h1 h2=>?_⟩,λy hy=>?_,?_⟩
   ·cases i with
    | zero=>simp at h1 h2;subst h1;subst h2;exact .bool _ _
    | succ i=>simp at h1
   ·simp at hy;subst hy;exact ⟨rfl,.bool _⟩
   ·unfold Sh;rw[hu];exact ⟨b,rfl⟩
  ·rename_i k hu;obtain ⟨z,rfl,-,hwf⟩:=DataW.trod_int hu hx;refine ⟨[.int k z],⟨rfl,λi x v h1 h2=>?_⟩,λy hy=>?_,?_⟩
   ·cases i with
    | zero=>simp at h1 h2;subst h1;subst h2;exact .int _ _ _
    | succ i=>simp at h1
   ·simp at hy;subst hy;exact ⟨rfl,.int _ _⟩
   ·unfold Sh;rw[hu];exact ⟨z,rfl,hwf⟩
  ·rename_i e hu;rw[Bool.and_eq_true,decide_eq_true_eq] at h;obtain ⟨hpos,hp⟩:=h;rcases DataW.trod_slice hu hx with ⟨rfl,-⟩ | ⟨a,len,cap,elems,rest,m,-,rfl,-,-,hlc,hcm,hlen,hel,-,-⟩
   ·refine ⟨[.nils],⟨rfl,λi x v h1 h2=>?_⟩,λy hy=>?_,?_⟩
    ·cases i with
     | zero=>simp at h1 h2;subst h1;subst h2;exact .nils _
     | succ i=>simp at h1
    ·simp at hy;subst hy;exact ⟨rfl,.nils⟩
    ·unfold Sh;rw[hu];exact .inl rfl
   ·have each:∀i,i<len->∃xs vs,w.cells? 0 (a.add (i*P.cellsOf e)) (P.cellsOf e)=some vs/\uc P w n e xs vs:=by intro i hi;have:=hel i hi;rw[List.getElem?_eq_getElem (show i<elems.length by omega),Option.bind_eq_some_iff] at this;obtain ⟨vs,h1,h2⟩:=this;obtain ⟨xs,hg⟩:=ih e hp _ _ _ h2;exact ⟨xs,vs,h1,hg⟩
    let rowf:Nat->List AV:=λi=>if hi:i<len then Classical.choose (each i hi) else []
    let valf:Nat->List Value:=λi=>if hi:i<len then Classical.choose (Classical.choose_spec (each i hi)) else []
    have hrow:∀i,i<len->w.cells? 0 (a.add (i*P.cellsOf e)) (P.cellsOf e)=some (valf i)/\uc P w n e (rowf i) (valf i):=by intro i hi;have:=Classical.choose_spec (Classical.choose_spec (each i hi));simpa only[rowf,valf,dif_pos hi] using this
    have hget:∀(i:Nat) (row:List AV),((List.range len).map rowf)[i]?=some row->i<len/\row=rowf i:=by
     intro i row h1;rw[List.getElem?_map] at h1;rcases Nat.lt_or_ge i len with hi | hi
     ·rw[List.getElem?_range hi] at h1;injection h1 with h1;exact ⟨hi,h1.symm⟩
     ·rw[List.getElem?_eq_none (by simpa using hi)] at h1;cases h1
    refine ⟨[.tsl 0 (P.cellsOf e) ((List.range len).map rowf)],⟨rfl,λi x v h1 h2=>?_⟩,λy hy=>?_,?_⟩
    ·cases i with
     | succ i=>simp at h1
     | zero =>
      simp at h1 h2;subst h1;subst h2;rcases Nat.eq_zero_or_pos len with h0 | h0
      ·subst h0;exact .tnil 0 0 _ a cap (Nat.le_refl _)
      ·obtain ⟨b,o,spot⟩:=a;have hc0:=World.cells?_some (hrow 0 h0).1;have hv0:(valf 0)[0]?=some (valf 0)[0]:=List.getElem?_eq_getElem (by rw[hc0.2.1];exact hpos);have h00:=hc0.2.2 0 hpos;rw[hv0] at h00;have hspot:spot=none:=by simpa [Addr.add] using World.cell?_spot h00
       subst hspot;have cellat:∀i j row x,((List.range len).map rowf)[i]?=some row->row[j]?=some x->∃v,(valf i)[j]?=some v/\w.cell? (adr b (o+i*P.cellsOf e+j))=some v/\RV w gm0 av0 0 x v:=by
        intro i j row x hr hxj;obtain ⟨hi,rfl⟩:=hget i row hr;obtain ⟨q1,q2⟩:=hrow i hi;have hj:j<(rowf i).length:=(List.getElem?_eq_some_iff.1 hxj).1;have hj':j<(valf i).length:=by rw[<-q2.1.1];exact hj
        have hcs:=World.cells?_some q1;have hcell:=hcs.2.2 j (by rw[<-hcs.2.1];exact hj');rw[List.getElem?_eq_getElem hj'] at hcell;refine ⟨_,List.getElem?_eq_getElem hj',?_,q2.1.2 j x _ hxj (List.getElem?_eq_getElem hj')⟩;rw[xJ,show adr b (o+i*P.cellsOf e)=(⟨b,o+i*P.cellsOf e,none⟩:Addr) from rfl,xJ] at hcell;exact hcell
       have hb:b<w.heap.size:=by have:=wQ h00;simpa [Addr.add] using this
       have hrl:((List.range len).map rowf).length=len:=by simp
       have key:=RV.tsl (w:=w) (γ:=gm0) (A:=av0) 0 0 (P.cellsOf e) ((List.range len).map rowf) b o cap (λi j=>(valf i)[j]?.getD undef) (Nat.le_refl _) (by rw[hrl];exact hlc) hb (FK b) (λh=>h)
        (λi row hr=>by
         obtain ⟨hi,rfl⟩:=hget i row hr;obtain ⟨q1,q2⟩:=hrow i hi;rw[q2.1.1,(World.cells?_some q1).2.1])
        (λi j row x hr hxj=>by
         obtain ⟨hi,rfl⟩:=hget i row hr;exact ((hrow i hi).2.2.1 x (List.mem_of_getElem? hxj)).1)
        (λi j row x hr hxj=>by
         obtain ⟨v,v1,v2,v3⟩:=cellat i j row x hr hxj;rw[v2,v1];rfl)
        (λi j row x hr hxj=>by
         obtain ⟨v,v1,v2,v3⟩:=cellat i j row x hr hxj;rw[v1];exact v3)
        (λrow hr x hx=>by
         obtain ⟨i,hi⟩:=List.getElem?_of_mem hr;obtain ⟨hi2,rfl⟩:=hget i row hi;exact ((hrow i hi2).2.2.1 x hx).2)
       rw[hrl] at key;exact key
    ·simp only[List.mem_singleton] at hy;subst hy;refine ⟨rfl,.tsl _ _ _ λrow hr x hx=>?_⟩;obtain ⟨i,hi⟩:=List.getElem?_of_mem hr;obtain ⟨hi2,rfl⟩:=hget i row hi;exact ((hrow i hi2).2.2.1 x hx).2
    ·unfold Sh;rw[hu];refine .inr ⟨_,rfl,?_,λrow hr=>?_⟩
     ·rw[List.length_map,List.length_range];have:maxLen<9223372036854775808:=by decide
      omega
     ·obtain ⟨i,hi⟩:=List.getElem?_of_mem hr;obtain ⟨hi2,rfl⟩:=hget i row hi;exact (hrow i hi2).2.2.2
  ·rename_i fs hu;rw[Bool.and_eq_true] at h;obtain ⟨hc,hp⟩:=h;have hc:mM P fs.toList 0=some (P.cellsOf t):=eq_of_beq hc;obtain ⟨ys,m,-,-,hl,hyl,hel⟩:=DataW.trod_struct hu hx;obtain ⟨xss,a1,a2,a3⟩:=Cs (w:=w) (n:=n) (cs:=cs) hc λf hf=>by
    obtain ⟨i,hi,e⟩:=List.mem_iff_getElem.1 hf;have hfi:fs[i]?=some f:=by rw[<-Array.getElem?_toList,List.getElem?_eq_getElem hi,e]
    have:=hel i f hfi;rw[List.getElem?_eq_getElem (show i<ys.length by rw[hyl];simpa using hi)] at this;exact ih f.type (List.all_eq_true.1 hp f hf) _ _ _ this
   rw[List.drop_zero,Nat.sub_zero,<-hl,List.take_length] at a2;refine ⟨xss.flatten,a2,a3,?_⟩;unfold Sh;rw[hu];exact ⟨xss,rfl,a1⟩
  ·rename_i m e hu;rw[Bool.and_eq_true,decide_eq_true_eq] at h;obtain ⟨hc,hp⟩:=h;obtain ⟨ys,q,-,-,hl,hyl,hel⟩:=DataW.trod_array hu hx;obtain ⟨xss,a0,a1,a2,a3⟩:=xL (w:=w) (n:=n) (e:=e) (cs:=cs) (m:=m) (k:=0) λi hi=>by have:=hel i hi;rw[List.getElem?_eq_getElem (show i<ys.length by omega)] at this;rw[Nat.zero_add];exact ih e hp _ _ _ this
   rw[Nat.zero_mul,List.drop_zero,hc,<-hl,List.take_length] at a2;refine ⟨xss.flatten,a2,a3,?_⟩;unfold Sh;rw[hu];exact ⟨xss,rfl,a0,a1⟩
  ·cases h
theorem Fk {n:Nat}{t:TypeId}{xs:List AV}(hu:P.underlying t=some (.int .i64))(h:Sh P n t xs):∃x:Int,Rp.rp NoP 0 .nil x xs:=by
 cases n with
 | zero=>exact h.elim
 | succ n =>
  unfold Sh at h;rw[hu] at h;obtain ⟨z,rfl,-⟩:=h;exact ⟨z,bj.2 rfl⟩
theorem iz {n:Nat}{t:TypeId}{xs:List AV}(hu:P.underlying t=some (.int .u8))(h:Sh P n t xs):∃x:UInt8,Rp.rp NoP 0 .nil x xs:=by
 cases n with
 | zero=>exact h.elim
 | succ n =>
  unfold Sh at h;rw[hu] at h;obtain ⟨z,rfl,hw⟩:=h;simp only[Lit.wf,IntKind.min,IntKind.max,IntKind.signed,IntKind.bits,Bool.and_eq_true] at hw;refine ⟨UInt8.ofNat z.toNat,d8.2 ?_⟩;have h1:0<=z:=by simpa using hw.1
  have h2:z<=255:=by simpa using hw.2
  have h3:(UInt8.ofNat z.toNat).toNat=z.toNat:=UInt8.toNat_ofNat_of_lt' (by show z.toNat<256;omega);rw[h3,Int.toNat_of_nonneg h1]
theorem tU {α:Type} [Rp α]{n:Nat}{t e:TypeId}{xs:List AV}(hu:P.underlying t=some (.slice e))(hsz:P.cellsOf e=Rp.sz α)(hel:∀ys,Sh P n e ys->∃y:α,Rp.rp NoP 0 .nil y ys)(h:Sh P (n+1) t xs) :
  ∃l:List α,Rp.rp NoP 0 .nil l xs:=by
 unfold Sh at h;rw[hu] at h;rcases h with rfl | ⟨rows,rfl,hl,hr⟩
 ·exact ⟨[],.nils,rfl,by simp,rfl⟩
 ·have:∀rows:List (List AV),(∀row∈rows,Sh P n e row)->∃l:List α,All2 (Rp.rp NoP 0 .nil) l rows:=by
   intro rows
   induction rows with
   | nil=>intro _;exact ⟨[],trivial⟩
   | cons r rows ih =>
    intro h;obtain ⟨y,hy⟩:=hel r (h r (by simp));obtain ⟨l,hl⟩:=ih λrow hrow=>h row (by simp[hrow]);exact ⟨y::l,hy,hl⟩
  obtain ⟨l,ha⟩:=this rows hr;exact ⟨l,_,rfl,by rw[ha.len];exact hl,Nat.le_refl _,.inl hsz,ha⟩
theorem CE {n m:Nat}{t e:TypeId}{xs:List AV}(hu:P.underlying t=some (.array m e))(h:Sh P (n+1) t xs):∃xss:List (List AV),xs=xss.flatten/\xss.length=m/\∀ys∈xss,Sh P n e ys:=by unfold Sh at h;rw[hu] at h;exact h
theorem ox {n:Nat}{t:TypeId}{fs:Array Field}{xs:List AV}(hu:P.underlying t=some (.struct fs))(h:Sh P (n+1) t xs):∃xss,xs=xss.flatten/\All2 (λ(f:Field) ys=>Sh P n f.type ys) fs.toList xss:=by unfold Sh at h;rw[hu] at h;exact h
end Hx
end
