/- A part of the proof: an interpreter over abstract values, shown right against the model, and what the functions of the chapter compute on it. -/
import Derived.Test.YtaebcalnodgpnaaHx10
set_option linter.unusedVariables false
set_option linter.unusedSimpArgs false
set_option linter.unnecessarySimpa false
section
namespace Hx
open Go
noncomputable section
theorem dyn_sr (C:Cfg)(t:T)(g:G)(f:Od)(xs:List Od):(SO.foot C t g (.dyn f xs)).sr=[]:=by
 simp only[SO.foot]
 split
 ·rw[bif'_eq];split<;>rfl
 ·rfl
theorem apart_big {x y:Foot}(hx:x.wr=[])(hb:x.lk.big=false)(hs:x.lk.sr=[])(h:∀i∈y.wr,i ∉ x.lk.rd):footsApart x y=true:=by
 have m1:meets y.wr []=false:=by simp[meets]
 have m2:meets y.wr x.lk.rd=false:=by
  simp only[meets,List.any_eq_false]
  intro i hi hc
  exact h i hi (List.contains_iff_mem.1 hc)
 simp only[footsApart,footFree,footFreeS,hx,hb,hs,m1,m2,fst1,List.map_nil,Bool.not_false,Bool.and_self,Bool.and_true,Bool.true_or,Bool.true_and]
 split<;>rfl
def hz (cs vs:List Int)(j:Nat):Int:=((cs.zip vs).take j).foldl (fun a p=>a*p.1+p.2) 0
theorem hz_zero (cs vs:List Int):hz cs vs 0=0:=by simp[hz]
theorem hz_succ {cs vs:List Int}{j:Nat}{c v:Int}(h1:cs[j]?=some c)(h2:vs[j]?=some v):hz cs vs (j+1)=hz cs vs j*c+v:=by
 have:(cs.zip vs)[j]?=some (c,v):=List.getElem?_zip_eq_some.2 ⟨h1,h2⟩
 unfold hz
 rw[List.take_add_one,this]
 simp
theorem hz_all {cs vs:List Int}(h:cs.length=vs.length):hz cs vs cs.length=S.idx cs vs:=by
 unfold hz
 rw[List.take_of_length_le (by simp[List.length_zip];omega)]
 have:=horner_idx cs vs 0 h
 rw[Int.zero_mul,Int.zero_add] at this
 exact this
theorem hz_take {cs vs:List Int}(j:Nat):hz cs vs j=S.horner (cs.take j) (vs.take j) 0:=by
 unfold hz S.horner
 congr 1
 induction j generalizing cs vs with
 | zero=>simp
 | succ j ih=>cases cs with
  | nil=>simp
  | cons c cs=>cases vs with
   | nil=>simp
   | cons v vs=>simp[ih]
theorem InC.take {cards vals:List Int}(h:InC cards vals)(j:Nat):InC (cards.take j) (vals.take j):=All2.take h j
theorem pow4_13 {n:Nat}(hn:n≤13):(4:Int) ^ n≤67108864:=by
 have:=pow4_mono hn
 have e:(4:Int) ^ 13=67108864:=by decide
 omega
theorem hz_bound {cs vs:List Int}(hc:∀c∈cs,1≤c∧c≤4)(hl:cs.length≤13)(h:InC cs vs)(j:Nat):0≤hz cs vs j∧hz cs vs j≤67108864:=by
 have hc':∀c∈cs.take j,1≤c∧c≤4:=fun c hh=>hc c (List.mem_of_mem_take hh)
 rw[hz_take,horner_idx _ _ _ (h.take j).len.symm,Int.zero_mul,Int.zero_add]
 have hb:=idx_bound hc' (h.take j)
 have:=(prod_bound hc').2
 have:=pow4_13 (n:=(cs.take j).length) (by simp;omega)
 omega
def cloR (p1 p2 p3 p4:Nat):AV:=.clo N.twin_known_run_1 [] [.hptr p1 0 0 0,.hptr p2 0 0 0,.hptr p3 0 0 0,.hptr p4 0 0 0]
structure RI (g:G) (p1 p2 p3 p4:Nat) (gr hid:Int) (a b w u:AV) (iu:Nat) (L:List Int):Prop where
 b1:g.h.get p1=.cells 1 [[u]] 0 false false
 b2:g.h.get p2=.cells 4 [[.int .i64 gr,a,b,.int .i64 hid]] 0 false false
 b3:g.h.get p3=.cells 1 [[cloR p1 p2 p3 p4]] 0 false false
 b4:g.h.get p4=.cells 1 [[w]] 0 false false
 ow:Own g 0 u 1 (L.map ci)
 vi:vid u=some iu
 ne:iu≠p1∧iu≠p2∧iu≠p3∧iu≠p4
 lt:p1<g.nx∧p2<g.nx∧p3<g.nx∧p4<g.nx
theorem RI.fr {g g':G}{p1 p2 p3 p4:Nat}{gr hid:Int}{a b w u:AV}{iu:Nat}{L:List Int}(h:RI g p1 p2 p3 p4 gr hid a b w u iu L)(hn:g.nx≤g'.nx)(hf:∀j,j<g.nx→g'.h.get j=g.h.get j) :
  RI g' p1 p2 p3 p4 gr hid a b w u iu L :=
 ⟨by rw[hf _ h.lt.1,h.b1],by rw[hf _ h.lt.2.1,h.b2],by rw[hf _ h.lt.2.2.1,h.b3],by rw[hf _ h.lt.2.2.2,h.b4],h.ow.fr hn fun i hi=>hf i (h.ow.lt hi).2,h.vi,h.ne,
  by have:=h.lt;omega⟩
def Frm (g0 g:G)(iu:Nat):Prop:=g0.nx≤g.nx∧(∀j,j<g0.nx→j≠iu→g.h.get j=g0.h.get j)∧∀j∈g.lg,j∈g0.lg∨j=iu∨g0.nx≤j
theorem Frm.refl (g:G)(iu:Nat):Frm g g iu:=⟨Nat.le_refl _,fun _ _ _=>rfl,fun _ h=>.inl h⟩
theorem Frm.trans {g0 g1 g2:G}{iu:Nat}(h:Frm g0 g1 iu)(h':Frm g1 g2 iu):Frm g0 g2 iu :=
 ⟨Nat.le_trans h.1 h'.1,fun j hj hne=>by rw[h'.2.1 j (Nat.lt_of_lt_of_le hj h.1) hne,h.2.1 j hj hne],fun j hj=>by
  rcases h'.2.2 j hj with h2 | h2 | h2
  ·exact h.2.2 j h2
  ·exact .inr (.inl h2)
  ·exact .inr (.inr (Nat.le_trans h.1 h2))⟩
theorem Frm.new (g:G)(o:AObj)(iu:Nat):Frm g (g.new o) iu :=
 ⟨by simp,fun j hj _=>by rw[G.new_h,get_put_ne _ _ _ (by omega)],fun j hj=>by simp at hj;rcases hj with rfl | hj;exact .inr (.inr (Nat.le_refl _));exact .inl hj⟩
theorem Frm.same {g0 g g':G}{iu:Nat}(h:Frm g0 g iu)(hh:g'.h=g.h)(hn:g.nx≤g'.nx)(hl:∀j∈g'.lg,j∈g.lg∨j∈g0.lg):Frm g0 g' iu :=
 ⟨Nat.le_trans h.1 hn,fun j hj hne=>by rw[hh];exact h.2.1 j hj hne,fun j hj=>by
  rcases hl j hj with h2 | h2
  ·exact h.2.2 j h2
  ·exact .inl h2⟩
def OkL (m:Causal)(act:List Int)(V:Nat→Int)(L:List Int):Prop:=L.length=m.nodes.length∧∀i,i<m.nodes.length→L[i]?.getD 0=V i∨(L[i]?.getD 0<0∧act[i]?.getD 0<0)
def Keep (L L':List Int):Prop:=∀j:Nat,0≤L[j]?.getD 0→L'[j]?.getD 0=L[j]?.getD 0
theorem Keep.refl (L:List Int):Keep L L:=fun _ _=>rfl
theorem Keep.trans {L L' L'':List Int}(h:Keep L L')(h':Keep L' L''):Keep L L'':=fun j hj=>by rw[h' j (by rw[h j hj];exact hj),h j hj]
theorem dyn_run_1 (d p1 p2 p3 p4:Nat)(v:AV)(g:G):callF C0 (I C0) d (cloR p1 p2 p3 p4) [v] g=orF ((I C0).call d N.twin_known_run_1 [v,.hptr p1 0 0 0,.hptr p2 0 0 0,.hptr p3 0 0 0,.hptr p4 0 0 0] g):=by kernel_rfl
section
variable {d k:Nat}{m:Causal}{roots act:List Int}{V:Nat→Int}{a b w u:AV}{p1 p2 p3 p4 iu:Nat}{hid:Int}{r:Nat→Nat}
def RunC (d:Nat)(m:Causal)(act:List Int)(V:Nat→Int)(a b w u:AV)(p1 p2 p3 p4 iu:Nat)(hid:Int)(i:Nat):Prop :=
 ∀(L:List Int) (g:G) (K:AV→G→Prop) (D:ADf→Prop),RI g p1 p2 p3 p4 m.grain hid a b w u iu L→OkL m act V L →
  (∀g' L',RI g' p1 p2 p3 p4 m.grain hid a b w u iu L'→OkL m act V L'→Keep L L'→L'[i]?.getD 0=V i→Frm g g' iu→K (.int .i64 (V i)) g') →
  (callF C0 (I C0) d (cloR p1 p2 p3 p4) [.int .i64 (i:Int)] g).sat K g D
theorem run1_b0 {i:Nat}{x:Mech}{fa:AV}{q:Nat}{L:List Int}{t:T}{g:G}{Q:QT}(hck:S.check m=true)(hN:SlR NoP k .nil m.nodes b)(hroots:InC (S.lens m) roots)(hx:m.nodes[i]?=some x)
  (hVb:∀(i:Nat) (x:Mech),m.nodes[i]?=some x→0≤V i∧V i<x.card) (hfa:SlR NoP k .nil x.frm fa)
  (ih:∀q∈x.frm,RunC d m act V a b w u p1 p2 p3 p4 iu hid q.toNat)
  (ht:St t [(0,.int .i64 (i:Int)),(1,.hptr p1 0 0 0),(2,.hptr p2 0 0 0),(3,.hptr p3 0 0 0),(4,.hptr p4 0 0 0),(7,.hptr q 0 0 0),(29,fa),(8,.int .i64 0)])
  (hi:tat t 31=.int .i64 0) (hn:tat t 30=.int .i64 (x.frm.length:Int)) (hI:RI g p1 p2 p3 p4 m.grain hid a b w u iu L) (hO:OkL m act V L) (hq:q<g.nx∧q≠iu)
  (fin:∀t g' L',St t [(0,.int .i64 (i:Int)),(1,.hptr p1 0 0 0),(2,.hptr p2 0 0 0),(3,.hptr p3 0 0 0),(4,.hptr p4 0 0 0),(7,.hptr q 0 0 0),(29,fa),(8,.int .i64 (hz (S.sizes m x) (S.inVals x roots V) x.frm.length))] →
   RI g' p1 p2 p3 p4 m.grain hid a b w u iu L'→OkL m act V L'→Keep L L'→Frm g g' iu→Q (.exit 0) t [] g') :
  wpL (wp C0 d none f_twin_known_run_1_b0) Q t [] g:=by
 obtain ⟨hs,hgr,hn1,hro,hno⟩:=check_facts hck
 have hxm:=List.mem_of_getElem? hx
 obtain ⟨hpf,hpn,-,-⟩:=check_pl hck hxm
 obtain ⟨rows,r1,r2,r3,r4⟩:=hN.all
 have r1:∀h',rowsOf h' 4 b=some rows:=r1
 have hry:=r4 (by omega)
 have hcl:(S.sizes m x).length≤13:=(sizes_bound hck hxm).2
 have hin:=sizes_inC hck hroots (V:=V) hxm fun q hq=>by
  have hql:=places_mem hpf q hq
  have hq2:q.toNat<m.nodes.length:=by omega
  have:=hVb q.toNat _ (List.getElem?_eq_getElem hq2)
  have hc:S.cardAt m q=(m.nodes[q.toNat]).card:=by simp[S.cardAt,List.getElem?_eq_getElem hq2]
  rw[hc];exact this
 have hf5:=places_len hpf
 have hn5:=hs.nodes
 simp only[f_twin_known_run_1_b0]
 refine wpL_range (m:=x.frm.length) (by omega) (fun j t df g'=>df=[]∧St t [(0,.int .i64 (i:Int)),(1,.hptr p1 0 0 0),(2,.hptr p2 0 0 0),(3,.hptr p3 0 0 0),(4,.hptr p4 0 0 0),(7,.hptr q 0 0 0),(29,fa),(8,.int .i64 (hz (S.sizes m x) (S.inVals x roots V) j))] ∧
   ∃L',RI g' p1 p2 p3 p4 m.grain hid a b w u iu L'∧OkL m act V L'∧Keep L L'∧Frm g g' iu)
  ⟨rfl,by rw[hz_zero];exact ht,L,hI,hO,Keep.refl L,Frm.refl g iu⟩ hi hn (by decide) (by rintro j t df g v s (rfl | rfl | rfl)<;>simp[St,sx]) ?_ ?_
 ·rintro j t df g' hj ⟨rfl,⟨h0,h1,h2,h3,h4,h7,h29,h8,-⟩,L',hI',hO',hK',hF'⟩ h31 h30
  obtain ⟨y,hy,-,hym⟩:=take_next hj
  obtain ⟨hy0,hy1⟩:=places_mem hpf y hym
  obtain ⟨n,rfl⟩:=Int.eq_ofNat_of_zero_le hy0
  have hnl:n<m.nodes.length:=by omega
  obtain ⟨z,hz',-,hzm⟩:=take_next hnl
  obtain ⟨row,q1,q2⟩:=r3 n z hz'
  obtain ⟨ga,gb,gc,rfl,-,-,-⟩:=rp_mech.1 q2
  have hlt:n<rows.length:=by omega
  have hcd:=hs.card z hzm
  have hVz:=hVb n z hz'
  have hlj:j<(x.frm.map ci).length:=by simpa using hj
  have hlr:(x.frm.map ci)[j]?=some (ci (n:Int)):=by rw[List.getElem?_map,hy];rfl
  have hs1:(S.sizes m x)[j]?=some z.card:=by
   rw[S.sizes,List.getElem?_append_left (by simpa using hj),List.getElem?_map,hy]
   simp[S.cardAt,hz']
  have hs2:(S.inVals x roots V)[j]?=some (V n):=by
   rw[S.inVals,List.getElem?_append_left (by simpa using hj),List.getElem?_map,hy]
   simp
  have hb:=hz_bound (sizes_bound hck hxm).1 hcl hin j
  have hb2:=hz_bound (sizes_bound hck hxm).1 hcl hin (j+1)
  have hsuc:=hz_succ hs1 hs2
  have hmul:0≤hz (S.sizes m x) (S.inVals x roots V) j*z.card:=Int.mul_nonneg hb.1 (by omega)
  have hmul2:hz (S.sizes m x) (S.inVals x roots V) j*z.card≤67108864*4:=Int.mul_le_mul hb.2 hcd.2 (by omega) (by decide)
  simp only[sx,sy,sf,SO.run,↓reduceIte,Nat.reduceEqDiff,Nat.reduceAdd,Nat.reduceLeDiff,h0,h1,h2,h3,h4,h7,h8,h29,h30,h31,hI'.b2,hI'.b3,(hfa.tree (h':=g'.h) (Nat.le_refl _)).ints,hlj,hlr,ci,r1,hlt,q1,hry,Option.isSome_some,Option.getD_some,refIds_rptr hry,refIds_hptr,hN.refs,
   wrap64 (show -9223372036854775808≤hz (S.sizes m x) (S.inVals x roots V) j*z.card by omega) (show hz (S.sizes m x) (S.inVals x roots V) j*z.card<9223372036854775808 by omega)]
  have hy':=ih (n:Int) hym
  rw[Int.toNat_natCast] at hy'
  refine hy' L' _ _ _ (hI'.fr (by simp;omega) (fun j _=>by simp)) hO' fun g2 L2 hI2 hO2 hK2 _ hF2=>?_
  simp only[sx,sy,sf,SO.run,↓reduceIte,Nat.reduceEqDiff,Nat.reduceAdd,Nat.reduceLeDiff,h0,h1,h2,h3,h4,h7,h8,h29,h30,h31,←hsuc,
   wrap64 (show -9223372036854775808≤hz (S.sizes m x) (S.inVals x roots V) (j+1) by omega) (show hz (S.sizes m x) (S.inVals x roots V) (j+1)<9223372036854775808 by omega),St,true_and,and_true]
  have hw2:∀i∈g2.lg,i=iu∨g'.nx≤i:=fun i hi=>by
   rcases hF2.2.2 i hi with h | h | h
   ·simp at h
   ·exact .inl h
   ·simp at h;exact .inr (by omega)
  refine ⟨?_,L2,hI2.fr (by simp;omega) (fun j _=>by simp),hO2,hK'.trans hK2,?_⟩
  ·simp only[List.reverse_cons,List.reverse_nil,List.nil_append,List.cons_append]
   refine footsOk_mk [false,false,false,false,false,false,false,false,false,false,false,true,false,false] [(0,11),(1,11),(2,11),(3,11),(4,11),(5,11),(6,11),(7,11),(8,11)] (by simp[All2,rdLook,noLook,bigLook,dyn_sr]) (by decide) ?_
   rintro p hp x y hx hy
   simp only[List.mem_cons,List.not_mem_nil,or_false] at hp
   rcases hp with rfl | rfl | rfl | rfl | rfl | rfl | rfl | rfl | rfl<;>(simp at hx hy;subst hx;subst hy;refine apart_big rfl rfl rfl fun i hi hc=>?_)<;>simp[rdLook,noLook] at hc
   subst hc
   have:=hI'.lt
   have:=hI'.ne
   rcases hw2 _ hi with h | h<;>omega
  ·refine hF'.trans ⟨?_,?_,?_⟩
   ·have:=hF2.1;simp at this ⊢;omega
   ·intro j hj hne
    have:=hF2.2.1 j (by simp;omega) hne
    simpa using this
   ·intro j hj
    simp at hj
    rcases hj with hj | hj
    ·rcases hw2 j hj with h | h
     ·exact .inr (.inl h)
     ·exact .inr (.inr h)
    ·exact .inl hj
 ·rintro t df g' ⟨rfl,ht',L',hI',hO',hK',hF'⟩
  exact fin t g' L' ht' hI' hO' hK' hF'
end
end
end Hx
end
section
namespace Hx
open Go
noncomputable section
theorem ofArgs_5 (a b c e p:AV)(t:T):ofArgs 0 [a,b,c,e,p] t=tset (tset (tset (tset (tset t 0 a) 1 b) 2 c) 3 e) 4 p:=rfl
theorem cells_clo (f:Nat)(xs cs:List AV):(AV.clo f xs cs).cells=[.clo f xs cs]:=rfl
theorem isTup_clo (f:Nat)(xs cs:List AV):(AV.clo f xs cs).isTup=false:=rfl
theorem store_ownL {g:G}{b:Nat}{v:AV}{sz n i off:Nat}{rows:List (List AV)}{row row':List AV}{x:AV}{K:AV→G→Prop}{D:ADf→Prop}(hv:Own g b v sz rows)(hr:rows[i]?=some row)
  (hl:x.cells.length=n) (ht:x.isTup=false) (hp:putCells row off x.cells=some row')
  (k:∀g',Own g' b v sz (rows.set i row')→g'.nx=g.nx→(∀i,vid v≠some i→g'.h.get i=g.h.get i)→(∀j∈g'.lg,j∈g.lg∨vid v=some j)→K .undef g'):(storeV n (rptr sz v i off) x g).sat K g D:=by
 rcases hv with ⟨rfl,rfl⟩ | ⟨id,ep,lo,h1,h2,rfl,h3⟩
 ·simp at hr
 ·simp only[rptr,Nat.zero_add]
  rw[store_hptr h3 hr rfl ht hl hp]
  refine k _ (.inr ⟨id,ep,lo,h1,by simpa using h2,by simp,by simp[get_put_eq]⟩) (by simp) (fun i hne=>?_) (fun j hj=>?_)
  ·rw[G.put_h,get_put_ne _ _ _ (fun e=>hne (by rw[e];rfl))]
  ·simp at hj
   rcases hj with rfl | hj
   ·exact .inr rfl
   ·exact .inl hj
section
variable {d k:Nat}{m:Causal}{roots act:List Int}{V:Nat→Int}{a b w u:AV}{p1 p2 p3 p4 iu:Nat}{hid:Int}
theorem run1_b1 {i:Nat}{x:Mech}{fb:AV}{q:Nat}{t:T}{g:G}{Q:QT}(hck:S.check m=true)(hR:SlR NoP k .nil m.roots a)(hw:SlR NoP k .nil roots w)(hroots:InC (S.lens m) roots)(hx:m.nodes[i]?=some x)
  (hVb:∀(i:Nat) (x:Mech),m.nodes[i]?=some x→0≤V i∧V i<x.card) (hfb:SlR NoP k .nil x.noise fb)
  (ht:St t [(0,.int .i64 (i:Int)),(1,.hptr p1 0 0 0),(2,.hptr p2 0 0 0),(4,.hptr p4 0 0 0),(7,.hptr q 0 0 0),(50,fb),(8,.int .i64 (hz (S.sizes m x) (S.inVals x roots V) x.frm.length))])
  (hi:tat t 52=.int .i64 0) (hn:tat t 51=.int .i64 (x.noise.length:Int)) (h2:g.h.get p2=.cells 4 [[.int .i64 m.grain,a,b,.int .i64 hid]] 0 false false) (h4:g.h.get p4=.cells 1 [[w]] 0 false false)
  (fin:∀t,St t [(0,.int .i64 (i:Int)),(1,.hptr p1 0 0 0),(2,.hptr p2 0 0 0),(4,.hptr p4 0 0 0),(7,.hptr q 0 0 0),(50,fb),(8,.int .i64 (S.idx (S.sizes m x) (S.inVals x roots V)))]→Q (.exit 2) t [] g) :
  wpL (wp C0 d none f_twin_known_run_1_b1) Q t [] g:=by
 obtain ⟨hs,hgr,hn1,hro,hno⟩:=check_facts hck
 have hxm:=List.mem_of_getElem? hx
 obtain ⟨hpf,hpn,-,-⟩:=check_pl hck hxm
 obtain ⟨rows,r1,r2,r3,r4⟩:=hR.all
 have r1:∀h',rowsOf h' 1 a=some rows:=r1
 have hcl:(S.sizes m x).length≤13:=(sizes_bound hck hxm).2
 have hin:=sizes_inC hck hroots (V:=V) hxm fun q hq=>by
  have hql:=places_mem hpf q hq
  have hq2:q.toNat<m.nodes.length:=by omega
  have:=hVb q.toNat _ (List.getElem?_eq_getElem hq2)
  have hc:S.cardAt m q=(m.nodes[q.toNat]).card:=by simp[S.cardAt,List.getElem?_eq_getElem hq2]
  rw[hc];exact this
 have hf5:=places_len hpn
 have hn5:=hs.roots
 have hrl:roots.length=m.roots.length:=by rw[hroots.len,lens_len]
 simp only[f_twin_known_run_1_b1]
 refine wpL_range (m:=x.noise.length) (by omega) (fun j t df g'=>df=[]∧g'=g∧St t [(0,.int .i64 (i:Int)),(1,.hptr p1 0 0 0),(2,.hptr p2 0 0 0),(4,.hptr p4 0 0 0),(7,.hptr q 0 0 0),(50,fb),(8,.int .i64 (hz (S.sizes m x) (S.inVals x roots V) (x.frm.length+j)))])
  ⟨rfl,rfl,ht⟩ hi hn (by decide) (by rintro j t df g v s (rfl | rfl | rfl)<;>simp[St,sx]) ?_ ?_
 ·rintro j t df g' hj ⟨rfl,rfl,⟨h0,h1,h2',h4',h7,h50,h8,-⟩⟩ h52 h51
  obtain ⟨y,hy,-,hym⟩:=take_next hj
  obtain ⟨hy0,hy1⟩:=places_mem hpn y hym
  obtain ⟨n,rfl⟩:=Int.eq_ofNat_of_zero_le hy0
  have hnl:n<m.roots.length:=by omega
  obtain ⟨z,hz',-,hzm⟩:=take_next hnl
  obtain ⟨row,q1,q2⟩:=r3 n z hz'
  obtain ⟨zz,rfl,hzz⟩:=rp_list.1 q2
  have hlt:n<rows.length:=by omega
  have hcd:=hs.len z hzm
  have hlj:j<(x.noise.map ci).length:=by simpa using hj
  have hlr:(x.noise.map ci)[j]?=some (ci (n:Int)):=by rw[List.getElem?_map,hy];rfl
  obtain ⟨rv,hrv,hrv0⟩:=hroots.get (i:=n) (c:=(z.length:Int)) (by simp[S.lens,hz'])
  have hrl1:(roots.map ci)[n]?=some (ci rv):=by rw[List.getElem?_map,hrv];rfl
  have hrl2:n<(roots.map ci).length:=by rw[List.length_map];omega
  have hs1:(S.sizes m x)[x.frm.length+j]?=some (z.length:Int):=by
   rw[S.sizes,List.getElem?_append_right (by simp)]
   simp[hy,S.lenAt,hz']
  have hs2:(S.inVals x roots V)[x.frm.length+j]?=some rv:=by
   rw[S.inVals,List.getElem?_append_right (by simp)]
   simp[hy,hrv]
  have hb:=hz_bound (sizes_bound hck hxm).1 hcl hin (x.frm.length+j)
  have hb2:=hz_bound (sizes_bound hck hxm).1 hcl hin (x.frm.length+j+1)
  have hsuc:=hz_succ hs1 hs2
  have hmul:0≤hz (S.sizes m x) (S.inVals x roots V) (x.frm.length+j)*(z.length:Int):=Int.mul_nonneg hb.1 (by omega)
  have hmul2:hz (S.sizes m x) (S.inVals x roots V) (x.frm.length+j)*(z.length:Int)≤67108864*4:=Int.mul_le_mul hb.2 (by omega) (by omega) (by decide)
  simp only[sx,sy,sf,SO.run,↓reduceIte,Nat.reduceEqDiff,Nat.reduceAdd,Nat.reduceLeDiff,h0,h1,h2,h4,h2',h4',h7,h8,h50,h51,h52,(hfb.tree (h':=g'.h) (Nat.le_refl _)).ints,(hw.tree (h':=g'.h) (Nat.le_refl _)).ints,hlj,hlr,hrl1,hrl2,ci,r1,hlt,q1,hzz.len,Option.isSome_some,Option.getD_some,
   wrap64 (show -9223372036854775808≤hz (S.sizes m x) (S.inVals x roots V) (x.frm.length+j)*(z.length:Int) by omega) (show hz (S.sizes m x) (S.inVals x roots V) (x.frm.length+j)*(z.length:Int)<9223372036854775808 by omega),←hsuc,
   wrap64 (show -9223372036854775808≤hz (S.sizes m x) (S.inVals x roots V) (x.frm.length+j+1) by omega) (show hz (S.sizes m x) (S.inVals x roots V) (x.frm.length+j+1)<9223372036854775808 by omega),St,true_and,and_true]
  rfl
 ·rintro t df g' ⟨rfl,rfl,ht'⟩
  have e:x.frm.length+x.noise.length=(S.sizes m x).length:=by simp[S.sizes]
  rw[e,hz_all hin.len.symm] at ht'
  exact fin t ht'
theorem run1_ok (hck:S.check m=true)(hR:SlR NoP k .nil m.roots a)(hN:SlR NoP k .nil m.nodes b)(hw:SlR NoP k .nil roots w)(hroots:InC (S.lens m) roots)(hV:Sol m roots act V)
  (hVb:∀(i:Nat) (x:Mech),m.nodes[i]?=some x→0≤V i∧V i<x.card) {r:Nat→Nat} (hr:∀(i:Nat) (x:Mech),m.nodes[i]?=some x→∀q∈x.frm,r q.toNat<r i) :
  ∀n i,r i=n→i<m.nodes.length→RunC d m act V a b w u p1 p2 p3 p4 iu hid i:=by
 obtain ⟨hs,hgr,hn1,hro,hno⟩:=check_facts hck
 obtain ⟨rows,r1,r2,r3,r4⟩:=hN.all
 have r1:∀h',rowsOf h' 4 b=some rows:=r1
 have hry:=r4 (by omega)
 intro n
 induction n using Nat.strongRecOn with
 | _ n ih =>
  intro i hri hi L g K D hI hO kk
  obtain ⟨x,hx,-,hxm⟩:=take_next hi
  obtain ⟨hpf,hpn,hpo,hpc⟩:=check_pl hck hxm
  obtain ⟨row,q1,q2⟩:=r3 i x hx
  obtain ⟨fa,fb,fc,rfl,hfa,hfb,hfc⟩:=rp_mech.1 q2
  have hlt:i<rows.length:=by omega
  have hLi:i<(L.map ci).length:=by rw[List.length_map,hO.1];exact hi
  obtain ⟨y,hy⟩:∃y,L[i]?=some y:=⟨_,List.getElem?_eq_getElem (by rw[hO.1];exact hi)⟩
  have hLy:(L.map ci)[i]?=some (ci y):=by rw[List.getElem?_map,hy];rfl
  have hOi:=hO.2 i hi
  rw[hy,Option.getD_some] at hOi
  have hVi:=hVb i x hx
  rw[dyn_run_1]
  refine dir_run eq_twin_known_run_1 (by simp[f_twin_known_run_1]) ?_
  simp only[f_twin_known_run_1,ofArgs_5,sx,sy,SO.run,↓reduceIte,Nat.reduceEqDiff,Nat.reduceAdd,Nat.reduceLeDiff,hI.b1,hI.ow.rows,hLi,hLy,ci,Option.isSome_some,Option.getD_some]
  refine bifP_mk (fun hb=>?_) (fun hb=>?_)
  ·have hy0:0≤y:=by simpa using hb
   simp only[sx,sy,SO.run,↓reduceIte,Nat.reduceEqDiff,Nat.reduceAdd,Nat.reduceLeDiff,hI.b1,hI.ow.rows,hLi,hLy,ci,Option.isSome_some,Option.getD_some]
   have e:y=V i:=by omega
   rw[e]
   exact kk g L hI hO (Keep.refl L) (by rw[hy,e];rfl) (Frm.refl g iu)
  ·have hy0:¬0≤y:=by simpa using hb
   have hai:act[i]?.getD 0<0:=by omega
   have hqne:∀j,j<g.nx→¬j=g.nx:=fun j hj=>by omega
   simp only[sx,sy,SO.run,↓reduceIte,Nat.reduceEqDiff,Nat.reduceAdd,Nat.reduceLeDiff,hI.b1,hI.b2,r1,hlt,q1,hry,Option.isSome_some,Option.getD_some,hfa.len]
   have hF0:=(Frm.new g (AObj.cells 4 [[AV.int IntKind.i64 0,AV.nils,AV.nils,AV.nils]] 0 false false) iu)
   have hiug:iu<g.nx:=(hI.ow.lt hI.vi).2
   refine run1_b0 (i:=i) (x:=x) (q:=g.nx) (L:=L) (k:=k) (roots:=roots) hck hN hroots hx hVb hfa (fun q hq=>ih (r q.toNat) (by have:=hr i x hx q hq;omega) q.toNat rfl (by have:=places_mem hpf q hq;omega)) (by simp[St,sx]) (by simp[sx]) (by simp[sx])
    (hI.fr (by simp) (fun j hj=>by simp[H.get_put,show ¬j=g.nx by omega])) hO (by simp;omega) fun t2 g2 L2 ht2 hI2 hO2 hK2 hF2=>?_
   obtain ⟨h0,h1,h2,h3,h4,h7,h29,h8,-⟩:=ht2
   have hq2:g2.h.get g.nx=.cells 4 [[.int .i64 x.card,fa,fb,fc]] 0 false false:=by
    rw[hF2.2.1 g.nx (by simp) (by omega)];simp[H.get_put]
   have hgn2:g.nx<g2.nx:=by have:=hF2.1;simp at this;omega
   simp only[f_twin_known_run_1_k3,sx,sy,SO.run,↓reduceIte,Nat.reduceEqDiff,Nat.reduceAdd,Nat.reduceLeDiff,h7,hq2,hfb.len]
   refine run1_b1 (i:=i) (x:=x) (q:=g.nx) (k:=k) (p1:=p1) (p2:=p2) (p4:=p4) (b:=b) (hid:=hid) hck hR hw hroots hx hVb hfb (by simp[St,sx,h0,h1,h2,h4,h7,h8]) (by simp[sx]) (by simp[sx]) hI2.b2 hI2.b4 fun t3 ht3=>?_
   obtain ⟨h0,h1,h2,h4,h7,h50,h8,-⟩:=ht3
   have hin:=sizes_inC hck hroots (V:=V) hxm fun q hq=>by
    have hql:=places_mem hpf q hq
    have hq2:q.toNat<m.nodes.length:=by omega
    have:=hVb q.toNat _ (List.getElem?_eq_getElem hq2)
    have hc:S.cardAt m q=(m.nodes[q.toNat]).card:=by simp[S.cardAt,List.getElem?_eq_getElem hq2]
    rw[hc];exact this
   have hib:=idx_bound (sizes_bound hck hxm).1 hin
   rw[←hpo] at hib
   obtain ⟨z,hz⟩:=Int.eq_ofNat_of_zero_le hib.1
   have hzl:z<x.out.length:=by omega
   have hval:V i=x.out[z]:=by
    rw[hV i x hx,S.eqn,if_neg (by omega),hz]
    show (x.out[z]?).getD 0=_
    rw[List.getElem?_eq_getElem hzl];rfl
   have hol:z<(x.out.map ci).length:=by simpa using hzl
   have hor:(x.out.map ci)[z]?=some (ci (V i)):=by rw[List.getElem?_map,List.getElem?_eq_getElem hzl,hval];rfl
   have hL2i:i<(L2.map ci).length:=by rw[List.length_map,hO2.1];exact hi
   obtain ⟨y2,hy2⟩:∃y2,L2[i]?=some y2:=⟨_,List.getElem?_eq_getElem (by rw[hO2.1];exact hi)⟩
   have hL2y:(L2.map ci)[i]?=some (ci y2):=by rw[List.getElem?_map,hy2];rfl
   rw[hz] at h8
   have how2:∀g':G,g2.nx≤g'.nx→g'.h=g2.h→Own g' 0 u 1 (L2.map ci):=fun g' hn hh=>hI2.ow.fr hn fun i _=>by rw[hh]
   have hru:rowy u=true:=rowy_of hI2.ow.rows hL2i
   have hrfc:refIds fc=[]:=(hfc.tree (h':=.nil) (Nat.le_refl _)).refs
   simp only[f_twin_known_run_1_k2,sx,sy,sf,SO.run,↓reduceIte,Nat.reduceEqDiff,Nat.reduceAdd,Nat.reduceLeDiff,h0,h1,h7,h8,hI2.b1,hq2,hI2.ow.rows,hL2i,hL2y,(hfc.tree (h':=g2.h) (Nat.le_refl _)).ints,hol,hor,ci,Option.isSome_some,Option.getD_some]
   refine store_ownL (rows:=L2.map ci) (row:=ci y2) (row':=ci (V i)) (b:=0) (how2 _ (by simp;omega) (by simp)) hL2y rfl rfl rfl fun g3 o3 n3 f3 l3=>?_
   have eL:(L2.map ci).set i (ci (V i))=(L2.set i (V i)).map ci:=by rw[List.map_set]
   rw[eL] at o3
   have hL3i:i<((L2.set i (V i)).map ci).length:=by simp;rw[hO2.1];exact hi
   have hL3y:((L2.set i (V i)).map ci)[i]?=some (ci (V i)):=by rw[List.getElem?_map,List.getElem?_set_self (by rw[hO2.1];exact hi)];rfl
   have hf3:∀j,j≠iu→g3.h.get j=g2.h.get j:=fun j hj=>by
    rw[f3 j (fun e=>hj (by rw[hI2.vi] at e;injection e with e;exact e.symm))];simp
   have hi1:=hI2.ne
   have hi2:=hI2.lt
   simp only[sx,sy,sf,SO.run,↓reduceIte,Nat.reduceEqDiff,Nat.reduceAdd,Nat.reduceLeDiff,h0,h1,h7,h8,hf3 p1 (Ne.symm hi1.1),hI2.b1,o3.rows,hL3i,hL3y,ci,Option.isSome_some,Option.getD_some]
   refine ⟨?_,?_⟩
   ·simp only[List.reverse_cons,List.reverse_nil,List.nil_append,List.cons_append]
    exact footsOk_mk [false,false,false,false,false,false,false,false,true] [] (by simp[All2,rdLook,noLook,bigLook]) (by decide) (by simp)
   ·have hOi2:=hO2.2 i hi
    rw[hy2,Option.getD_some] at hOi2
    have hn3:g2.nx≤g3.nx:=by rw[n3];simp;omega
    have hset:∀j:Nat,(L2.set i (V i))[j]?.getD 0=if i=j then V i else L2[j]?.getD 0:=fun j=>by
     rw[List.getElem?_set]
     by_cases e:i=j
     ·subst e;rw[if_pos rfl,if_pos rfl,if_pos (by rw[hO2.1];exact hi)];rfl
     ·rw[if_neg e,if_neg e]
    have keep:Keep L2 (L2.set i (V i)):=fun j hj=>by
     rw[hset]
     split
     ·rename_i e;subst e
      rw[hy2,Option.getD_some] at hj ⊢
      omega
     ·rfl
    refine kk _ (L2.set i (V i)) ⟨?_,?_,?_,?_,?_,hI2.vi,hI2.ne,?_⟩ ⟨by rw[List.length_set];exact hO2.1,fun j hj=>?_⟩ (hK2.trans keep) (by rw[hset,if_pos rfl]) ?_
    ·simp only[bumpG_h];rw[hf3 p1 (Ne.symm hi1.1),hI2.b1]
    ·simp only[bumpG_h];rw[hf3 p2 (Ne.symm hi1.2.1),hI2.b2]
    ·simp only[bumpG_h];rw[hf3 p3 (Ne.symm hi1.2.2.1),hI2.b3]
    ·simp only[bumpG_h];rw[hf3 p4 (Ne.symm hi1.2.2.2),hI2.b4]
    ·exact o3.fr (by simp) fun j _=>by simp
    ·simp;omega
    ·rw[hset]
     split
     ·rename_i e;subst e;exact .inl rfl
     ·exact hO2.2 j hj
    ·have hF1:Frm g g2 iu:=by
      refine ⟨by omega,fun j hj hne=>?_,fun j hj=>?_⟩
      ·rw[hF2.2.1 j (by simp;omega) hne];simp[H.get_put,show ¬j=g.nx by omega]
      ·rcases hF2.2.2 j hj with h | h | h
       ·simp at h
        rcases h with h | h
        ·exact .inr (.inr (by omega))
        ·exact .inl h
       ·exact .inr (.inl h)
       ·simp at h;exact .inr (.inr (by omega))
     refine hF1.trans ⟨by simp;omega,fun j hj hne=>?_,fun j hj=>?_⟩
     ·simp only[bumpG_h];exact hf3 j hne
     ·simp at hj
      rcases hj with hj | hj
      ·rcases l3 j hj with h | h
       ·simp at h
       ·rw[hI2.vi] at h;injection h with h;exact .inr (.inl h.symm)
      ·exact .inl hj
theorem run_ok {P Pw Pa:Nat→Prop}{kw ka:Nat}{g:G}{v rv av:AV}(hd:0<d)(hm:Agg (⟨m,hid⟩:KnownM) P k g.h v)(hrv:SlR Pw kw g.h roots rv)(hav:SlR Pa ka g.h act av)(hck:S.check m=true)(hroots:InC (S.lens m) roots)(ha:S.act m act=true) :
  ∃z,callV C0 d N.twin_known_run [v,rv,av] g=.val z∧IT 0 (S.run m roots act) z:=by
 obtain ⟨v',e,cs,rfl,hc⟩:=arg_of (snb_agg _) (by decide) d hm
 obtain ⟨a,b,rfl,hR,hN⟩:=rp_known.1 hc
 obtain ⟨w',e2,r2⟩:=arg_sl hrv d
 obtain ⟨u',e3,r3⟩:=arg_sl hav d
 obtain ⟨hs,hgr,hn1,hro,hno⟩:=check_facts hck
 have hal:=act_at ha
 have hn5:=hs.nodes
 have hR':=hR.tree (h':=.nil) (k':=max (max k d) (max kw d)) (by omega)
 have hN':=hN.tree (h':=.nil) (k':=max (max k d) (max kw d)) (by omega)
 have hW':=(r2 .nil).tree (h':=.nil) (k':=max (max k d) (max kw d)) (by omega)
 obtain ⟨rk,hrk⟩:=ranks hck
 have hV:=sol_V hck roots act
 have hVb:=sol_bound hck hroots ha hV
 rw[call_twin_known_run]
 refine iso_run eq_twin_known_run (xs:=[.agg [.int .i64 m.grain,a,b,.int .i64 hid],w',u']) (by simp only[mapO,e,e2,e3]) (by simp[f_twin_known_run]) (snb_one _) (by decide) hd ?_
 simp only[f_twin_known_run,f_twin_known_run_r,sx,sy,SO.run,↓reduceIte,Nat.reduceEqDiff,Nat.reduceAdd,Nat.reduceLeDiff]
 have cw:=(r2 .nil).cell
 simp only[sx,sy,SO.run,↓reduceIte,Nat.reduceEqDiff,Nat.reduceAdd,Nat.reduceLeDiff,cw.1,cw.2]
 generalize hg0:((G.empty.new (AObj.cells 4 [[AV.int IntKind.i64 m.grain,a,b,AV.int IntKind.i64 hid]] 0 false false)).new (AObj.cells 1 [[w']] 0 false false)).new (AObj.cells 1 [] 0 false false)=g0
 have f0:g0.h.get 0=.cells 4 [[.int .i64 m.grain,a,b,.int .i64 hid]] 0 false false:=by rw[←hg0];simp[sx,H.get_put]
 have f1:g0.h.get 1=.cells 1 [[w']] 0 false false:=by rw[←hg0];simp[sx,H.get_put]
 have f2:g0.h.get 2=.cells 1 [] 0 false false:=by rw[←hg0];simp[sx,H.get_put]
 have fn:g0.nx=3:=by rw[←hg0];simp[sx]
 clear hg0
 refine append_own (b:=2) (v:=.hsl 2 0 0 0 none) (rows:=[]) (new:=act.map ci) (.inr ⟨2,0,false,by omega,by omega,rfl,f2⟩) (by have:=(r3 g0.h).ints;exact this) (by omega) (by simp[room];omega) fun u g1 hu n1 fr1 vid1 _=>?_
 rw[List.nil_append] at hu
 have hne:∃iu,vid u=some iu:=by
  rcases hu with ⟨-,e⟩ | ⟨id,ep,lo,-,-,rfl,-⟩
  ·have:=congrArg List.length e;simp at this;rw[this] at hal;simp at hal;omega
  ·exact ⟨id,rfl⟩
 obtain ⟨iu,hiu⟩:=hne
 have hul:=hu.lt hiu
 have cu:=hu.cell
 have e0:g1.h.get 0=.cells 4 [[.int .i64 m.grain,a,b,.int .i64 hid]] 0 false false:=by rw[fr1 0 (by omega) (by simp[vid]),f0]
 have e1:g1.h.get 1=.cells 1 [[w']] 0 false false:=by rw[fr1 1 (by omega) (by simp[vid]),f1]
 have q0:¬(0:Nat)=g1.nx:=by omega
 have q1:¬(1:Nat)=g1.nx:=by omega
 have q2:¬g1.nx=g1.nx+1:=by omega
 have qi:¬iu=g1.nx:=by omega
 have qi2:¬iu=g1.nx+1:=by omega
 have hO0:OkL m act (S.V m roots act) act:=⟨hal.1,fun i hi=>by
  have hx:=List.getElem?_eq_getElem hi
  by_cases h:0≤act[i]?.getD 0
  ·left;rw[hV i _ hx,S.eqn,if_pos h]
  ·right;omega⟩
 have hul':lenF .slice u g1=.val (.int .i64 (m.nodes.length:Int)):=by rw[len_rows hu.rows,List.length_map,hal.1]
 have hul2:∀g,lenF .slice u g=.val (.int .i64 (m.nodes.length:Int)):=fun g=>by rw[len_rows' hu.rows,List.length_map,hal.1]
 simp only[sx,sy,SO.run,↓reduceIte,Nat.reduceEqDiff,Nat.reduceAdd,Nat.reduceLeDiff,cu.1,cu.2]
 rw[hptrStore_cells _ _ _ _ _ _ _ _ _ _ (by simp only[cells_clo,List.length_cons,List.length_nil,Nat.zero_add]) (isTup_clo _ _ _)]
 simp only[f_twin_known_run_b0,sx,sy,SO.run,↓reduceIte,Nat.reduceEqDiff,Nat.reduceAdd,Nat.reduceLeDiff,cu.1,cu.2,cells_clo,H.get_put,q2,hul2]
 refine wpL_range (m:=m.nodes.length) (by omega) (fun j t df g'=>df=[]∧St t [(7,.hptr g1.nx 0 0 0),(8,.hptr (g1.nx+1) 0 0 0)]∧∃L',RI g' g1.nx 0 (g1.nx+1) 1 m.grain hid a b w' u iu L'∧OkL m act (S.V m roots act) L'∧∀n,n<j→L'[n]?.getD 0=S.V m roots act n)
  ⟨rfl,by simp[St,sx],act,⟨?_,?_,?_,?_,?_,hiu,by omega,by simp;omega⟩,hO0,fun n hn=>absurd hn (Nat.not_lt_zero n)⟩ (by simp[sx]) (by simp[sx]) (by decide) (by rintro j t df g v s (rfl | rfl | rfl)<;>simp[St,sx]) ?_ ?_
 ·simp[H.get_put,q2]
 ·simp[H.get_put,q0,e0]
 ·simp[H.get_put,cloR]
 ·simp[H.get_put,q1,e1,show ¬g1.nx=0 by omega]
 ·exact (show Own g1 0 u 1 (act.map ci) from by
   rcases hu with h | ⟨id,ep,lo,h1,h2,h3,h4⟩
   ·exact .inl h
   ·exact .inr ⟨id,ep,lo,by omega,h2,h3,h4⟩).fr (by simp;omega) fun i hi=>by
    rw[hiu] at hi;injection hi with hi;subst hi
    simp[H.get_put,qi,qi2]
 ·rintro j t df g' hj ⟨rfl,⟨h7,h8,-⟩,L',hI',hO',hd'⟩ h16 h15
  simp only[sx,sy,SO.run,↓reduceIte,Nat.reduceEqDiff,Nat.reduceAdd,Nat.reduceLeDiff,h7,h8,h15,h16,hI'.b3]
  refine run1_ok (k:=max (max k d) (max kw d)) hck hR' hN' hW' hroots hV hVb hrk (rk j) j rfl hj L' _ _ _ hI' hO' fun g2 L2 hI2 hO2 hK2 hv2 _=>?_
  simp only[sx,sy,SO.run,↓reduceIte,Nat.reduceEqDiff,Nat.reduceAdd,Nat.reduceLeDiff,h7,h8,h15,h16,St,true_and,and_true]
  refine ⟨L2,hI2,hO2,fun n hn=>?_⟩
  by_cases e:n=j
  ·subst e;exact hv2
  ·have hn':n<j:=by omega
   rw[hK2 n (by rw[hd' n hn'];exact (hVb n _ (List.getElem?_eq_getElem (show n<m.nodes.length by omega))).1),hd' n hn']
 ·rintro t df g' ⟨rfl,⟨h7,h8,-⟩,L',hI',hO',hd'⟩
  simp only[f_twin_known_run_k1,sx,sy,SO.run,↓reduceIte,Nat.reduceEqDiff,Nat.reduceAdd,Nat.reduceLeDiff,h7,hI'.b1]
  have eL:L'=S.run m roots act:=by
   refine List.ext_getElem (by rw[hO'.1];simp[S.run]) fun n h1 h2=>?_
   have:=hd' n (by rw[←hO'.1];exact h1)
   rw[List.getElem?_eq_getElem h1,Option.getD_some] at this
   rw[this];simp[S.run]
  have:=hI'.ow
  rw[eL] at this
  exact ⟨_,this.ints (by simp[S.run];omega)⟩
end
end
end Hx
end
section
namespace Hx
open Go
noncomputable section
theorem read_one' (m:Causal)(al:List Int):S.readE m [al]=if S.check m then (if S.act m al then 0 else 2) else 330:=by unfold S.readE;simp
def digs (l:List Int)(h:Int)(X:List Int)(j:Nat):List Int:=(List.range l.length).map fun i=>if j≤i then S.digit l h i else X[i]?.getD 0
theorem digs_set {l X:List Int}{h:Int}{j:Nat}:(digs l h X (j+1)).set j (S.digit l h j)=digs l h X j:=by
 refine List.ext_getElem (by simp[digs]) fun i h1 h2=>?_
 rw[List.getElem_set]
 simp only[digs,List.getElem_map,List.getElem_range]
 split
 ·rename_i hi;subst hi;rw[if_pos (Nat.le_refl _)]
 ·rename_i hi
  by_cases hji:j+1≤i
  ·rw[if_pos hji,if_pos (by omega)]
  ·rw[if_neg hji,if_neg (by omega)]
theorem digs_zero (l X:List Int)(h:Int):digs l h X 0=S.values l h:=by simp[digs,S.values]
theorem digs_top {l X:List Int}(h:Int)(hX:X.length=l.length):digs l h X l.length=X:=by
 refine List.ext_getElem (by simp[digs,hX]) fun i h1 h2=>?_
 have:i<l.length:=by simpa [digs] using h1
 simp only[digs,List.getElem_map,List.getElem_range]
 rw[if_neg (by omega),List.getElem?_eq_getElem h2,Option.getD_some]
theorem digs_len (l X:List Int)(h:Int)(j:Nat):(digs l h X j).length=l.length:=by simp[digs]
theorem digs_row {l X:List Int}{h:Int}{j i:Nat}(hi:i<l.length):∃y,((digs l h X j).map ci)[i]?=some (ci y):=by
 exact ⟨(digs l h X j)[i]'(by rw[digs_len];exact hi),by rw[List.getElem?_map,List.getElem?_eq_getElem (by rw[digs_len];exact hi)];rfl⟩
theorem values_inC {l:List Int}(hl:∀c∈l,0<c){h:Int}(hh:0≤h):InC l (S.values l h):=by
 refine inC_of (by simp[S.values]) fun i c v hc hv=>?_
 have hi:=(List.getElem?_eq_some_iff.1 hc).1
 have hb:=digit_bound hl hh hi
 rw[S.values,List.getElem?_map,List.getElem?_range hi] at hv
 injection hv with hv
 rw[List.getElem?_eq_getElem hi] at hc
 injection hc with hc
 rw[←hv,←hc];exact hb
theorem quot_drop {l:List Int}{h:Int}{j:Nat}{c:Int}(hc:l[j]?=some c):S.quot (l.drop j) h=S.quot (l.drop (j+1)) h / c∧S.digit l h j=S.quot (l.drop (j+1)) h % c:=by
 have hj:=(List.getElem?_eq_some_iff.1 hc).1
 have:l.drop j=c::l.drop (j+1):=by
  rw[List.drop_eq_getElem_cons hj];congr 1
  rw[List.getElem?_eq_getElem hj] at hc;injection hc
 exact ⟨by rw[this];rfl,by rw[S.digit,hc];rfl⟩
theorem one_lst {al:List Int}{l:AV}{q:Nat}{h:H}(hl:SlR NoP 0 .nil al l)(hq:h.get q=.cells 1 [[l]] 0 false false):SlR (fun _=>True) 0 h [al] (.hsl q 0 0 1 none):=by
 refine ⟨by show 1<_;decide,trivial,[[l]],?_,?_,trivial⟩
 ·show rowsOf h 1 _=_
  simp only[rowsOf,hq];rfl
 ·obtain ⟨w,hw,q⟩:=Rp.tree (P:=fun _=>True) (k':=0) (h':=h) (show Rp.rp NoP 0 .nil al [l] from ⟨l,rfl,hl⟩) (Nat.le_refl _)
  exact ⟨w,hw,q⟩
def S.trunE (m:Causal)(h:Int)(al:List Int):Int:=if S.readE m [al]≠0 then S.readE m [al] else if h<0∨S.hidden m≤h then 2 else 0
def S.trun (m:Causal)(h:Int)(al:List Int):List Int:=if S.trunE m h al=0 then S.run m (S.values (S.lens m) h) al else []
theorem trun_ok {d:Nat}{g:G}{v act:AV}{m:Causal}{h:Int}{al:List Int}(hd:0<d)(hm:Agg m NoP 0 g.h v)(ha:SlR NoP 0 .nil al act)(hh:h<9223372036854775808) :
  ∃r,callV C0 d N.twin_Run [v,.int .i64 h,act] g=.val r∧Tup2 (One (S.trun m h al)) (One (S.trunE m h al)) NoP 0 .nil r:=by
 have e0:=agg_same d hm
 have e1:=sl_same (h:=g.h) d (ha.tree (h':=g.h) (Nat.le_refl 0))
 obtain ⟨cs,rfl,hc⟩:=hm
 obtain ⟨a,b,rfl,hR,hN⟩:=rp_causal.1 hc
 have hms:∀h,Agg m NoP 0 h (.agg [.int .i64 m.grain,a,b]):=fun h=>⟨_,rfl,Rp.tree hc (Nat.le_refl _)⟩
 rw[call_twin_Run]
 refine iso_run eq_twin_Run (xs:=[.agg [.int .i64 m.grain,a,b],.int .i64 h,act]) (by simp only[mapO,e0,e1,arg_int 0]) (by simp[f_twin_Run]) (snb_tup2 (m:=1) (snb_one _) (snb_one _) (by decide) (by decide)) (by decide) hd ?_
 simp only[f_twin_Run,sx,sy,SO.run,↓reduceIte,Nat.reduceEqDiff,Nat.reduceAdd]
 obtain ⟨g0,hg0⟩:∃g0,g0=(G.empty.new (AObj.cells 3 [[AV.int IntKind.i64 m.grain,a,b]] 0 false false)):=⟨_,rfl⟩
 rw[←hg0]
 have f0:g0.h.get 0=.cells 3 [[.int .i64 m.grain,a,b]] 0 false false:=by rw[hg0];simp[sx,H.get_put]
 have f2:g0.nx=1:=by rw[hg0];simp[sx]
 clear hg0
 simp only[f_twin_Run_r,sx,sy,SO.run,↓reduceIte,Nat.reduceEqDiff,Nat.reduceAdd,Nat.reduceLeDiff,f0]
 rw[bsl_one 1 [.nils] act _ (by rw[ha.cell.1];rfl) ha.cell.2,ha.cell.1]
 simp only[sx,sy,SO.run,↓reduceIte,Nat.reduceEqDiff,Nat.reduceAdd,Nat.reduceLeDiff,f2]
 have hls:SlR (fun _=>True) 0 (g0.new (.cells 1 [[act]] 0 false false)).h [al] (.hsl 1 0 0 1 none):=by
  exact one_lst ha (by simp[f2,H.get_put])
 refine sat_ex (read_ok (ls:=[al]) (Nat.succ_pos d) (Nat.succ_pos d) (hms _) hls) fun r hr=>?_
 obtain ⟨ra,rb,rfl,hra,hrb⟩:=hr
 have hrb:=rp_int.1 hrb
 injection hrb with hrb
 subst hrb
 obtain ⟨kc,rfl,hkc⟩:=hra
 obtain ⟨k1,k2,rfl,hk1,hk2⟩:=rp_known.1 hkc
 have bad:∀(hh':H) (z:Int),S.trunE m h al=z→z≠0→∃P,Tup2 (One (S.trun m h al)) (One (S.trunE m h al)) P 0 hh' (.tup [.nils,.int .i64 z]):=fun hh z hz hne=>by
  subst hz
  have:S.trun m h al=[]:=by rw[S.trun,if_neg hne]
  rw[this]
  exact ⟨NoP,_,_,rfl,⟨.nils,rfl,by decide,rfl⟩,rp_int.2 rfl⟩
 simp only[sx,sy,SO.run,↓reduceIte,Nat.reduceEqDiff,Nat.reduceAdd,Nat.reduceLeDiff,f2,H.get_put]
 refine bifP_mk (fun hb=>?_) (fun hb=>?_)
 ·have hne:S.readE m [al]≠0:=by simpa using hb
  simp only[sx,sy,SO.run,↓reduceIte,Nat.reduceEqDiff,Nat.reduceAdd,Nat.reduceLeDiff]
  exact bad _ _ (by rw[S.trunE,if_pos hne]) hne
 ·have hE:S.readE m [al]=0:=by simpa using hb
  have hE':=hE
  rw[read_one'] at hE'
  have hck:S.check m=true:=by
   cases hc:S.check m with
   | true=>rfl
   | false=>rw[hc] at hE';simp at hE'
  have hac:S.act m al=true:=by
   cases hc:S.act m al with
   | true=>rfl
   | false=>rw[hck,hc] at hE';simp at hE'
  have hrd:S.read m [al]=⟨m,S.hidden m⟩:=by unfold S.read;rw[if_pos hE]
  rw[hrd] at hkc hk1 hk2
  simp only[hrd] at *
  obtain ⟨hs,hgr,hn1,hro,hno⟩:=check_facts hck
  have hr8:=hs.roots
  have hlb:=lens_bound hs
  have hll:=lens_len m
  have hks:∀h,Agg (⟨m,S.hidden m⟩:KnownM) NoP 0 h (.agg [.int .i64 m.grain,k1,k2,.int .i64 (S.hidden m)]):=fun h=>⟨_,rfl,Rp.tree hkc (Nat.le_refl _)⟩
  obtain ⟨rrows,p1,p2,p3,p4⟩:=hk1.all
  have p1:∀h',rowsOf h' 1 k1=some rrows:=p1
  have badh:h<0∨S.hidden m≤h→S.trunE m h al=2:=fun hx=>by rw[S.trunE,if_neg (by rw[hE];simp),if_pos hx]
  simp only[sx,sy,SO.run,↓reduceIte,Nat.reduceEqDiff,Nat.reduceAdd,Nat.reduceLeDiff]
  refine bifP_mk (fun hb=>?_) (fun hb=>?_)
  ·have hlt:h<0:=by simpa using hb
   simp only[sx,sy,SO.run,↓reduceIte,Nat.reduceEqDiff,Nat.reduceAdd,Nat.reduceLeDiff,hb]
   exact bad _ 2 (badh (.inl hlt)) (by decide)
  ·have hge:¬h<0:=by simpa using hb
   simp only[sx,sy,SO.run,↓reduceIte,Nat.reduceEqDiff,Nat.reduceAdd,Nat.reduceLeDiff,hb,H.get_put]
   refine bifP_mk (fun hb2=>?_) (fun hb2=>?_)
   ·have hlt:S.hidden m≤h:=by simpa using hb2
    simp only[sx,sy,SO.run,↓reduceIte,Nat.reduceEqDiff,Nat.reduceAdd,Nat.reduceLeDiff]
    exact bad _ 2 (badh (.inr hlt)) (by decide)
   ·have hlt:¬S.hidden m≤h:=by simpa using hb2
    have hT:S.trunE m h al=0:=by rw[S.trunE,if_neg (by rw[hE];simp),if_neg (by omega)]
    simp only[sx,sy,SO.run,↓reduceIte,Nat.reduceEqDiff,Nat.reduceAdd,Nat.reduceLeDiff,H.get_put,hk1.len]
    refine mks_own (b:=3) (n:=m.roots.length) (by simp[room];omega) (by simp[room];omega) (by simp[f2]) fun u g1 hu n1 fr1 v1=>?_
    have e2:g1.h.get 2=.cells 4 [[.int .i64 m.grain,k1,k2,.int .i64 (S.hidden m)]] 0 false false:=by rw[fr1 2 (by simp[f2])];simp[H.get_put]
    have hul:∀g,lenF .slice u g=.val (.int .i64 (m.roots.length:Int)):=fun g=>by rw[len_rows' hu.rows];simp
    simp only[sx,sy,SO.run,↓reduceIte,Nat.reduceEqDiff,Nat.reduceAdd,Nat.reduceLeDiff,hul,wrap64 (show -9223372036854775808≤(m.roots.length:Int) - 1 by omega) (show (m.roots.length:Int) - 1<9223372036854775808 by omega)]
    have hu0:Own g1 3 u 1 ((digs (S.lens m) h (List.replicate m.roots.length 0) m.roots.length).map ci):=by
     rw[show digs (S.lens m) h (List.replicate m.roots.length 0) m.roots.length=List.replicate m.roots.length 0 by rw[←hll];exact digs_top h (by simp),List.map_replicate];exact hu
    simp only[f_twin_Run_b0]
    refine wpL_down (m:=m.roots.length) (by omega) (fun j t df g=>df=[]∧St t [(2,act),(8,.hptr 2 0 0 0),(10,u),(1,.int .i64 (S.quot ((S.lens m).drop j) h))]∧g.h.get 2=.cells 4 [[.int .i64 m.grain,k1,k2,.int .i64 (S.hidden m)]] 0 false false∧Own g 3 u 1 ((digs (S.lens m) h (List.replicate m.roots.length 0) j).map ci))
     ⟨rfl,by simp[sx,St,S.quot,←hll],e2,hu0⟩ (by simp[sx]) (by decide) (by rintro j t df g v s (rfl | rfl | rfl | rfl | rfl)<;>simp[sx,St]) ?_ ?_
    ·rintro j t df g hj ⟨rfl,⟨h2,h8,h10,h1,-⟩,hg,ho⟩ h11
     obtain ⟨x,hx,-,hxm⟩:=take_next hj
     obtain ⟨row,q1,q2⟩:=p3 j x hx
     obtain ⟨y,rfl,hy⟩:=rp_list.1 q2
     have hlt:j<rrows.length:=by omega
     have hc0:=hs.len x hxm
     obtain ⟨d1,d2⟩:=quot_drop (l:=S.lens m) (h:=h) (j:=j) (c:=(x.length:Int)) (by simp[S.lens,hx])
     obtain ⟨b0,b1⟩:=quot_nn (l:=(S.lens m).drop (j+1)) (h:=h) (fun c hc=>by have:=hlb c (List.mem_of_mem_drop hc);omega) (by omega)
     obtain ⟨b2,b3⟩:=quot_nn (l:=(S.lens m).drop j) (h:=h) (fun c hc=>by have:=hlb c (List.mem_of_mem_drop hc);omega) (by omega)
     obtain ⟨z,hz⟩:=digs_row (l:=S.lens m) (X:=List.replicate m.roots.length 0) (h:=h) (j:=j+1) (i:=j) (by omega)
     have hlr:j<((digs (S.lens m) h (List.replicate m.roots.length 0) (j+1)).map ci).length:=by rw[List.length_map,digs_len];omega
     simp only[sx,sy,SO.run,↓reduceIte,Nat.reduceEqDiff,Nat.reduceAdd,Nat.reduceLeDiff,h1,h2,h8,h10,h11,hg,p1,hlt,q1,hy.len,ho.rows,hlr,hz,ci,Option.isSome_some,Option.getD_some,bin_rem .i64 b0 (show (0:Int)<x.length by omega)]
     refine store_own (row:=ci z) (row':=ci (S.digit (S.lens m) h j)) ho hz rfl rfl (by rw[d2];rfl) fun g2 o2 n2 f2'=>?_
     rw[←List.map_set,digs_set] at o2
     have e22:g2.h.get 2=.cells 4 [[.int .i64 m.grain,k1,k2,.int .i64 (S.hidden m)]] 0 false false:=by rw[f2' 2 (fun e=>by have:=(ho.lt e).1;omega),hg]
     simp only[sx,sy,SO.run,↓reduceIte,Nat.reduceEqDiff,Nat.reduceAdd,Nat.reduceLeDiff,h1,h2,h8,h10,h11,e22,p1,hlt,q1,hy.len,ci,Option.isSome_some,Option.getD_some,bin_quo .i64 b0 (show (0:Int)<x.length by omega),←d1,St]
     refine ⟨?_,o2⟩
     rw[wrap64 (by omega) (by omega)]
    ·rintro t df g ⟨rfl,⟨h2,h8,h10,h1,-⟩,hg,ho⟩
     rw[digs_zero] at ho
     simp only[f_twin_Run_k1,sx,sy,SO.run,↓reduceIte,Nat.reduceEqDiff,Nat.reduceAdd,Nat.reduceLeDiff,h1,h2,h8,h10,hg]
     refine sat_ex (run_ok (P:=NoP) (k:=0) (Pw:=fun _=>True) (kw:=0) (Pa:=NoP) (ka:=0) (Nat.succ_pos d) (hks _) (by
      obtain ⟨w,e,q⟩:=ho.ints (k:=0) (by simp[S.values];omega)
      injection e with e;subst e;exact q) (ha.tree (Nat.le_refl _)) hck (values_inC (fun c hc=>by have:=hlb c hc;omega) (by omega)) hac) fun rr hrr=>?_
     simp only[sx,sy,SO.run,↓reduceIte,Nat.reduceEqDiff,Nat.reduceAdd,Nat.reduceLeDiff]
     refine ⟨NoP,_,_,rfl,?_,?_⟩
     ·rw[S.trun,if_pos hT];exact ⟨rr,rfl,hrr.sl _⟩
     ·rw[hT];exact rp_int.2 rfl
end
end Hx
end
section
namespace Hx
open Go
noncomputable section
def WdV (x:KnownM):VS:=fun P k h v=>∃p,v=.clo N.twin_known_worlds_1 [] [p] ∧
 ((∃id cs,p=.hptr id 0 0 0∧P id∧h.get id=.cells 4 [cs] 0 false false∧Rp.rp P k h x cs)∨∃t cs,p=.tptr t 4 [cs] 0 0∧t≤k∧Rp.rp NoP k .nil x cs)
theorem snb_wd (x:KnownM):Snb (WdV x) 2:=by
 refine ⟨fun {P k h v n} d r hn=>?_,fun {k h v n} r hn=>?_⟩
 ·obtain ⟨p,rfl,r⟩:=r
  obtain ⟨n,rfl⟩:∃q,n=q+2:=⟨n - 2,by omega⟩
  rcases r with ⟨id,cs,rfl,-,hg,r⟩ | ⟨t,cs,rfl,ht,r⟩
  ·obtain ⟨cs',e,r'⟩:=Rp.snap (n:=n) d r (by show (_:Nat)≤n;exact Nat.le_trans (show Rp.dp KnownM≤20 by decide) (by omega)) (by decide)
   obtain ⟨m,e2,l2⟩:=Rp.tag (n:=depthA) r' (by decide)
   refine ⟨.clo N.twin_known_worlds_1 [] [.tptr (Nat.max d (Nat.max m 0)) 4 [cs'] 0 0],?_,_,rfl,.inr ⟨_,cs',rfl,?_,r'⟩⟩
   ·have:Hx.snap h d (n+1) (.hptr id 0 0 0)=some (.tptr (Nat.max d (Nat.max m 0)) 4 [cs'] 0 0):=by
     simp only[Hx.snap,hg,show Nat.beq 0 0=true from rfl,bif'_true,mapO,e,tagRows,maxO,e2,bif'_true]
    simp only[Hx.snap,mapO] at this ⊢
    rw[this]
   ·show max d (max m 0)≤max k d
    omega
  ·refine ⟨.clo N.twin_known_worlds_1 [] [.tptr t 4 [cs] 0 0],rfl,_,rfl,.inr ⟨t,cs,rfl,by omega,Rp.mono r (fun i hi=>hi.elim) (by omega)⟩⟩
 ·obtain ⟨p,rfl,r⟩:=r
  obtain ⟨n,rfl⟩:∃q,n=q+2:=⟨n - 2,by omega⟩
  rcases r with ⟨id,cs,rfl,hP,-⟩ | ⟨t,cs,rfl,ht,r⟩
  ·exact hP.elim
  ·exact ⟨Nat.max t 0,rfl,by show max t 0≤k;omega⟩
theorem worlds_ok {d:Nat}{g:G}{v:AV}{x:KnownM}(hd:0<d)(hm:Agg x NoP 0 g.h v) :
  ∃cs,callV C0 d N.twin_known_worlds [v] g=.val (.clo N.twin_known_worlds_1 [] [.tptr 0 4 [cs] 0 0])∧Rp.rp NoP 0 .nil x cs:=by
 have e0:=agg_same d hm
 obtain ⟨cs,rfl,hc⟩:=hm
 obtain ⟨a,b,rfl,hR,hN⟩:=rp_known.1 hc
 have key:∃r,callV C0 d N.twin_known_worlds [.agg [.int .i64 x.m.grain,a,b,.int .i64 x.hidden]] g=.val r∧WdV x NoP 0 .nil r:=by
  rw[call_twin_known_worlds]
  refine iso_run eq_twin_known_worlds (xs:=[.agg [.int .i64 x.m.grain,a,b,.int .i64 x.hidden]]) (by simp only[mapO,e0]) (by simp[f_twin_known_worlds]) (snb_wd x) (by decide) hd ?_
  simp only[f_twin_known_worlds,f_twin_known_worlds_r,sx,sy,SO.run,↓reduceIte,Nat.reduceEqDiff,Nat.reduceAdd,Nat.reduceLeDiff]
  exact ⟨fun _=>True,_,rfl,.inl ⟨0,_,rfl,trivial,by simp[sx,H.get_put],Rp.tree hc (Nat.le_refl _)⟩⟩
 obtain ⟨r,h1,p,rfl,h2⟩:=key
 rcases h2 with ⟨id,cs,rfl,hP,-⟩ | ⟨t,cs,rfl,ht,hr⟩
 ·exact hP.elim
 ·have:t=0:=by omega
  subst this
  exact ⟨cs,h1,hr⟩
theorem fad_tptr (fo l sz i off:Nat)(rows:List (List AV)):fadV fo (.tptr l sz rows i off)=.val (.tptr l sz rows i (off+fo)):=rfl
theorem load_tptr (ag:Bool)(n l sz off:Nat)(row:List AV)(g:G):loadV ag n (.tptr l sz [row] 0 off) g=orV (getPart ag n row off):=rfl
def wts (m:Causal)(h:Int)(j:Nat):Int:=S.prod (((List.range m.roots.length).drop j).map (S.wAt m h))
theorem wts_zero (m:Causal)(h:Int):wts m h 0=S.weight m h:=rfl
theorem wts_top (m:Causal)(h:Int):wts m h m.roots.length=1:=by
 unfold wts;rw[List.drop_of_length_le (by simp)];rfl
theorem wts_step {m:Causal}(h:Int){j:Nat}(hj:j<m.roots.length):wts m h j=S.wAt m h j*wts m h (j+1):=by
 unfold wts
 rw[List.drop_eq_getElem_cons (show j<(List.range m.roots.length).length by simpa using hj),List.map_cons,prod_cons,List.getElem_range]
theorem wts_bound {m:Causal}(hck:S.check m=true){h:Int}(hh:0≤h)(j:Nat):0≤wts m h j∧wts m h j≤429981696:=by
 have hs:=(check_facts hck).1.roots
 exact wprod_bound hck hh (fun r hr=>by have:=List.mem_range.1 (List.mem_of_mem_drop hr);omega) (by simp;omega)
section
variable {d:Nat}{m:Causal}{a b:AV}
theorem worlds1_b0 {y u:AV}{h j14:Int}{bo:Nat}{X:List Int}{t:T}{g:G}{Q:QT}(hck:S.check m=true)(hR:SlR NoP 0 .nil m.roots a)(hh:0≤h∧h<S.hidden m)(hX:X.length=m.roots.length)
  (ht:St t [(0,y),(1,.tptr 0 4 [[.int .i64 m.grain,a,b,.int .i64 (S.hidden m)]] 0 0),(3,u),(14,.int .i64 j14),(15,.int .i64 h),(5,.int .i64 1),(6,.int .i64 h)])
  (hi:tat t 7=.int .i64 ((m.roots.length:Int) - 1)) (hu:Own g bo u 1 (X.map ci))
  (fin:∀t g',St t [(0,y),(1,.tptr 0 4 [[.int .i64 m.grain,a,b,.int .i64 (S.hidden m)]] 0 0),(3,u),(14,.int .i64 j14),(15,.int .i64 h),(5,.int .i64 (S.weight m h))]→Own g' bo u 1 ((S.values (S.lens m) h).map ci)→g'.nx=g.nx→(∀i,vid u≠some i→g'.h.get i=g.h.get i)→Q (.exit 2) t [] g') :
  wpL (wp C0 d none f_twin_known_worlds_1_b0) Q t [] g:=by
 obtain ⟨hs,hgr,hn1,hro,hno⟩:=check_facts hck
 have hr8:=hs.roots
 have hlb:=lens_bound hs
 have hll:=lens_len m
 have hhb:=hidden_bound hs m.roots.length
 rw[List.take_length] at hhb
 have hhb:1≤S.hidden m∧S.hidden m≤4 ^ 8:=hhb
 obtain ⟨rrows,p1,p2,p3,p4⟩:=hR.all
 have p1:∀h',rowsOf h' 1 a=some rrows:=p1
 simp only[f_twin_known_worlds_1_b0]
 refine wpL_down (m:=m.roots.length) (by omega) (fun j t df g'=>df=[]∧St t [(0,y),(1,.tptr 0 4 [[.int .i64 m.grain,a,b,.int .i64 (S.hidden m)]] 0 0),(3,u),(14,.int .i64 j14),(15,.int .i64 h),(5,.int .i64 (wts m h j)),(6,.int .i64 (S.quot ((S.lens m).drop j) h))] ∧
   Own g' bo u 1 ((digs (S.lens m) h X j).map ci)∧g'.nx=g.nx∧∀i,vid u≠some i→g'.h.get i=g.h.get i)
  ⟨rfl,?_,?_,rfl,fun _ _=>rfl⟩ hi (by decide) (by rintro j t df g v s (rfl | rfl | rfl | rfl | rfl)<;>simp[sx,St]) ?_ ?_
 ·rw[wts_top,←hll,List.drop_length];exact ht
 ·rw[←hll,digs_top h (by rw[hX,hll])];exact hu
 ·rintro j t df g' hj ⟨rfl,⟨h0,h1,h3,h14,h15,h5,h6,-⟩,ho,hn,hf⟩ h7
  obtain ⟨x,hx,-,hxm⟩:=take_next hj
  obtain ⟨row,q1,q2⟩:=p3 j x hx
  obtain ⟨z,rfl,hz⟩:=rp_list.1 q2
  have hlt:j<rrows.length:=by omega
  have hc0:=hs.len x hxm
  obtain ⟨d1,d2⟩:=quot_drop (l:=S.lens m) (h:=h) (j:=j) (c:=(x.length:Int)) (by simp[S.lens,hx])
  obtain ⟨b0,b1⟩:=quot_nn (l:=(S.lens m).drop (j+1)) (h:=h) (fun c hc=>by have:=hlb c (List.mem_of_mem_drop hc);omega) (by omega)
  obtain ⟨b2,b3⟩:=quot_nn (l:=(S.lens m).drop j) (h:=h) (fun c hc=>by have:=hlb c (List.mem_of_mem_drop hc);omega) (by omega)
  obtain ⟨e,he⟩:=digs_row (l:=S.lens m) (X:=X) (h:=h) (j:=j+1) (i:=j) (by omega)
  have hlr:j<((digs (S.lens m) h X (j+1)).map ci).length:=by rw[List.length_map,digs_len];omega
  simp only[sx,sy,SO.run,↓reduceIte,Nat.reduceEqDiff,Nat.reduceAdd,Nat.reduceLeDiff,h0,h1,h3,h5,h6,h7,h14,h15,fad_tptr,load_tptr,p1,hlt,q1,hz.len,ho.rows,hlr,he,ci,Option.isSome_some,Option.getD_some,bin_rem .i64 b0 (show (0:Int)<x.length by omega)]
  refine store_own (row:=ci e) (row':=ci (S.digit (S.lens m) h j)) ho he rfl rfl (by rw[d2];rfl) fun g2 o2 n2 f2'=>?_
  rw[←List.map_set,digs_set] at o2
  have hb:=digit_bound (l:=S.lens m) (fun c hc=>by have:=hlb c hc;omega) hh.1 (i:=j) (by omega)
  have hlj:(S.lens m)[j]'(by omega)=(x.length:Int):=by
   simp only[S.lens,List.getElem_map]
   rw[List.getElem?_eq_getElem hj] at hx;injection hx with hx;rw[hx]
  rw[hlj] at hb
  obtain ⟨n,hn'⟩:=Int.eq_ofNat_of_zero_le hb.1
  have hnl:n<x.length:=by omega
  have hval:((digs (S.lens m) h X j).map ci)[j]?=some (ci (n:Int)):=by
   rw[List.getElem?_map,digs,List.getElem?_map,List.getElem?_range (by omega)]
   show some (ci (if j≤j then S.digit (S.lens m) h j else _))=_
   rw[if_pos (Nat.le_refl _),hn']
  have hvl:j<((digs (S.lens m) h X j).map ci).length:=by rw[List.length_map,digs_len];omega
  have hw:S.wAt m h j=x[n]:=by
   unfold S.wAt;rw[hx,Option.getD_some,hn'];show (x[(n:Int).toNat]?).getD 0=_;rw[Int.toNat_natCast,List.getElem?_eq_getElem hnl];rfl
  have hxl:(x.map ci)[n]?=some (ci (S.wAt m h j)):=by rw[List.getElem?_map,List.getElem?_eq_getElem hnl,hw];rfl
  have hxn:n<(x.map ci).length:=by simpa using hnl
  have w1:=wts_bound hck hh.1 (j+1)
  have w2:=wts_bound hck hh.1 j
  have w3:=wts_step (m:=m) h hj
  rw[Int.mul_comm] at w3
  simp only[sx,sy,SO.run,↓reduceIte,Nat.reduceEqDiff,Nat.reduceAdd,Nat.reduceLeDiff,h0,h1,h3,h5,h6,h7,h14,h15,fad_tptr,load_tptr,p1,hlt,q1,hz.len,o2.rows,hvl,hval,(hz.tree (h':=g2.h) (Nat.le_refl _)).ints,hxn,hxl,ci,Option.isSome_some,Option.getD_some,bin_quo .i64 b0 (show (0:Int)<x.length by omega),←d1,St,←w3,
   wrap64 (show -9223372036854775808≤S.quot ((S.lens m).drop j) h by omega) (show S.quot ((S.lens m).drop j) h<9223372036854775808 by omega),wrap64 (show -9223372036854775808≤wts m h j by omega) (show wts m h j<9223372036854775808 by omega),true_and,and_true]
  exact ⟨o2,by rw[n2,hn],fun i hi=>by rw[f2' i hi,hf i hi]⟩
 ·rintro t df g' ⟨rfl,⟨h0,h1,h3,h14,h15,h5,h6,-⟩,ho,hn,hf⟩
  rw[digs_zero] at ho
  exact fin t g' ⟨h0,h1,h3,h14,h15,h5,trivial⟩ ho hn hf
theorem worlds1_wp {g0:G}{id:Nat}{K:AV→G→Prop}(hck:S.check m=true)(hR:SlR NoP 0 .nil m.roots a)(J:Nat→H→Prop)(hJ:∀j h h',(∀i,i<g0.nx→h'.get i=h.get i)→J j h→J j h')
  (step:∀(j:Nat) (u:AV) (g:G) (K':AV→G→Prop) (D:ADf→Prop),(j:Int)<S.hidden m→g0.nx≤g.nx→J j g.h→SlR (fun i=>g0.nx≤i) 0 g.h (S.values (S.lens m) j) u →
   (∀g',J (j+1) g'.h→g.nx≤g'.nx→(∀i,g0.nx≤i→i<g.nx→g'.h.get i=g.h.get i)→K' (.bool true) g')→(roundA (I C0) d id [u,.int .i64 (S.weight m j)] g).sat K' g D)
  (h0:J 0 g0.h) (fin:∀g',J (S.hidden m).toNat g'.h→g0.nx≤g'.nx→K (.tup []) g') :
  wp C0 d none f_twin_known_worlds_1.code (fnQ C0 d f_twin_known_worlds_1.res K) (ofArgs 0 [.yld id,.tptr 0 4 [[.int .i64 m.grain,a,b,.int .i64 (S.hidden m)]] 0 0] .nil) [] g0:=by
 obtain ⟨hs,hgr,hn1,hro,hno⟩:=check_facts hck
 have hr8:=hs.roots
 have hll:=lens_len m
 have hhb:=hidden_bound hs m.roots.length
 rw[List.take_length] at hhb
 have hhb:1≤S.hidden m∧S.hidden m≤4 ^ 8:=hhb
 have hhn:((S.hidden m).toNat:Int)=S.hidden m:=Int.toNat_of_nonneg (by omega)
 simp only[f_twin_known_worlds_1,sx,sy,SO.run,↓reduceIte,Nat.reduceEqDiff,Nat.reduceAdd,Nat.reduceLeDiff,fad_tptr,load_tptr,hR.len]
 refine mks_own (b:=g0.nx) (n:=m.roots.length) (by simp[room];omega) (by simp[room];omega) (Nat.le_refl _) fun u g1 hu n1 fr1 v1=>?_
 simp only[sx,sy,SO.run,↓reduceIte,Nat.reduceEqDiff,Nat.reduceAdd,Nat.reduceLeDiff,fad_tptr,load_tptr]
 simp only[f_twin_known_worlds_1_b3,f_twin_known_worlds_1_k2]
 refine wpL_range (m:=(S.hidden m).toNat) (by omega) (fun j t df g=>df=[]∧St t [(0,.yld id),(1,.tptr 0 4 [[.int .i64 m.grain,a,b,.int .i64 (S.hidden m)]] 0 0),(3,u)]∧J j g.h∧g0.nx<g.nx∧∃X:List Int,X.length=m.roots.length∧Own g g0.nx u 1 (X.map ci))
  ⟨rfl,by simp[St,sx],hJ 0 _ _ (fun i hi=>fr1 i hi) h0,by omega,List.replicate m.roots.length 0,by simp,by rw[List.map_replicate];exact hu⟩ (by simp[sx]) (by simp[sx,hhn]) (by decide) (by rintro j t df g v s (rfl | rfl | rfl)<;>simp[St,sx]) ?_ ?_
 ·rintro j t df g hj ⟨rfl,⟨h0,h1,h3,-⟩,hJj,hnx,X,hX,ho⟩ h15 h14
  have hul:∀g,lenF .slice u g=.val (.int .i64 (m.roots.length:Int)):=fun g=>by rw[len_rows' ho.rows];simp[hX]
  have hjh:(j:Int)<S.hidden m:=by omega
  simp only[sx,sy,SO.run,↓reduceIte,Nat.reduceEqDiff,Nat.reduceAdd,Nat.reduceLeDiff,h0,h1,h3,h14,h15,hul,wrap64 (show -9223372036854775808≤(m.roots.length:Int) - 1 by omega) (show (m.roots.length:Int) - 1<9223372036854775808 by omega)]
  refine worlds1_b0 (y:=.yld id) (u:=u) (h:=(j:Int)) (j14:=S.hidden m) (bo:=g0.nx) (X:=X) (a:=a) (b:=b) hck hR ⟨Int.natCast_nonneg j,hjh⟩ hX (by simp[St,sx,h0,h1,h3,h14,h15,hhn]) (by simp[sx]) ho fun t2 g2 ht2 ho2 hn2 hf2=>?_
  obtain ⟨h0,h1,h3,h14,h15,h5,-⟩:=ht2
  have hvu:vid u=some g0.nx:=v1
  have hJ2:J j g2.h:=hJ j _ _ (fun i hi=>hf2 i (by rw[hvu];intro e;injection e with e;omega)) hJj
  have hsl:SlR (fun i=>g0.nx≤i) 0 g2.h (S.values (S.lens m) j) u:=Own.sl (α:=Int) ho2 (by simp[S.values];omega) (All2.of_map (fun a=>rp_int.2 rfl) _) fun i hi=>(ho2.lt hi).1
  simp only[f_twin_known_worlds_1_k1,sx,sy,SO.run,↓reduceIte,Nat.reduceEqDiff,Nat.reduceAdd,Nat.reduceLeDiff,h0,h1,h3,h5,h14,h15]
  show (roundA (I C0) d id [u,.int .i64 (S.weight m j)] g2).sat _ _ _
  refine step j u g2 _ _ hjh (by omega) hJ2 hsl fun g3 hJ3 hn3 hf3=>?_
  simp only[sx,sy,SO.run,↓reduceIte,Nat.reduceEqDiff,Nat.reduceAdd,Nat.reduceLeDiff,h0,h1,h3,h5,h14,h15,Bool.not_true,St,true_and,and_true,hhn]
  exact ⟨hJ3,by omega,S.values (S.lens m) j,by simp[S.values,hll],ho2.fr hn3 fun i hi=>hf3 i (ho2.lt hi).1 (ho2.lt hi).2⟩
 ·rintro t df g ⟨rfl,-,hJj,hnx,-⟩
  simp only[sx,sy,SO.run,↓reduceIte,Nat.reduceEqDiff,Nat.reduceAdd,Nat.reduceLeDiff]
  exact fin g hJj (by omega)
end
end
end Hx
end
section
namespace Hx
open Go
noncomputable section
theorem endP_mark {C:Cfg}{d:Nat}{r:List SR}{t:T}{g:G}{K:AV→G→Prop}{id:Nat}(hg:g.h.get id=.dfr true)(h:resP r t (g.put id (.dfr false)) fun vs=>K (oneOrTup vs) (g.put id (.dfr false))):endP C d r t [.mark id] g K:=by
 unfold endP
 have:runDf (I C) d [.mark id] g=some (g.put id (.dfr false)):=by
  simp only[runDf,G.get_eq,hg]
 rw[this];exact h
theorem ext_worlds_1:C0.ext N.twin_known_worlds_1=none:=by kernel_rfl
theorem rng_worlds {d nt:Nat}{m:Causal}{y p q:Nat}{ca cb:SC}{Q:QT}{t:T}{g:G}{cs:List AV}(hck:S.check m=true)(hcs:Rp.rp NoP 0 .nil (⟨m,S.hidden m⟩:KnownM) cs)
  (hv:tat t y=.clo N.twin_known_worlds_1 [] [.tptr 0 4 [cs] 0 0]) (hp:p<nt) (hq:q<nt) (J:Nat→H→Prop) (hJ:∀j h h',(∀i,i<g.nx→h'.get i=h.get i)→J j h→J j h') (h0:J 0 g.h)
  (step:∀(j:Nat) (u:AV) (g1:G),(j:Int)<S.hidden m→J j g1.h→g.nx+2≤g1.nx→SlR (fun i=>g.nx+2≤i) 0 g1.h (S.values (S.lens m) j) u →
   wp C0 d (some (g.nx+1)) ca (fun e t1 df g1'=>e=.norm∧df=[]∧g1'=g1∧∀g2:G,g2.nx=g1.nx→(∀i,i≠g.nx+1→g2.h.get i=g1.h.get i) →
    wp C0 d (some (g.nx+1)) cb (fun e _ df g3=>e=.norm∧df=[]∧J (j+1) g3.h∧g2.nx≤g3.nx∧∀i,g.nx≤i→i<g2.nx→g3.h.get i=g2.h.get i) t1 [] g2)
    (tset (tset t p u) q (.int .i64 (S.weight m j))) [] g1)
  (fin:∀g',J (S.hidden m).toNat g'.h→g.nx+2≤g'.nx→g'.h.get g.nx=.dfr true→Q .norm t [.mark g.nx] g') :
  wp C0 d none (.rng nt (.t y) [p,q] ca cb) Q t [] g:=by
 obtain ⟨a,b,rfl,hR,hN⟩:=rp_known.1 hcs
 refine wp_rng_ok (fn:=N.twin_known_worlds_1) (first:=[]) (cap:=[.tptr 0 4 [[.int .i64 m.grain,a,b,.int .i64 (S.hidden m)]] 0 0]) (s:=f_twin_known_worlds_1) hv ext_worlds_1 eq_twin_known_worlds_1 (by simp[f_twin_known_worlds_1]) ?_
 intro assign body ha hb
 have e1:((g.new (.dfr true)).new (.loop nt t [p,q] assign body g.nx .ready none)).nx=g.nx+2:=by simp
 refine worlds1_wp (g0:=(g.new (.dfr true)).new (.loop nt t [p,q] assign body g.nx .ready none)) (id:=g.nx+1) hck hR
  (fun j h=>J j h∧h.get g.nx=.dfr true∧h.get (g.nx+1)=.loop nt t [p,q] assign body g.nx .ready none) ?_ ?_ ?_ ?_
 ·rintro j h h' hh ⟨a1,a2,a3⟩
  rw[e1] at hh
  exact ⟨hJ j h h' (fun i hi=>hh i (by omega)) a1,by rw[hh _ (by omega),a2],by rw[hh _ (by omega),a3]⟩
 ·rintro j u g1 K' D hj hn ⟨a1,a2,a3⟩ hsl kk
  rw[e1] at hn kk hsl
  refine round_ok a3 ha hb (t':=tset (tset t p u) q (.int .i64 (S.weight m j))) ?_ ?_
  ·simp only[setParams,bif'_eq,Nat.blt_eq,if_pos hp,if_pos hq];rfl
  ·refine wp_mono _ (step j u g1 hj a1 (by omega) hsl) ?_
   rintro e t1 df g1' ⟨rfl,rfl,rfl,h⟩
   refine ⟨rfl,rfl,rfl,?_⟩
   have hl:g.nx+1<g1'.nx:=by omega
   refine wp_mono _ (h (g1'.put (g.nx+1) (.loop nt t [p,q] assign body g.nx .busy none)) (by simp) (fun i hi=>by simp[H.get_put,hi])) ?_
   rintro e t2 df g3 ⟨rfl,rfl,b1,b2,b3⟩
   have b4:g3.h.get (g.nx+1)=.loop nt t [p,q] assign body g.nx .busy none:=by rw[b3 _ (by omega) (by simpa using hl)];simp[H.get_put]
   have b5:g3.h.get g.nx=.dfr true:=by
    rw[b3 _ (by omega) (by simp;omega)];simp[H.get_put,a2]
   refine ⟨rfl,rfl,b4,kk _ ⟨hJ _ g3.h _ (fun i hi=>by simp[H.get_put,show ¬i=g.nx+1 by omega]) b1,?_,?_⟩ (by simpa using b2) fun i h1 h2=>?_⟩
   ·simp[H.get_put,b5]
   ·simp[H.get_put]
   ·have hne:¬i=g.nx+1:=by omega
    have:=b3 i (by omega) (by simpa using h2)
    simp[H.get_put,hne] at this ⊢
    exact this
 ·refine ⟨hJ 0 g.h _ (fun i hi=>?_) h0,?_,?_⟩
  ·simp[H.get_put,show ¬i=g.nx+1 by omega,show ¬i=g.nx by omega]
  ·simp[H.get_put]
  ·simp[H.get_put]
 ·rintro g' ⟨a1,a2,a3⟩ hn
  rw[e1] at hn
  refine ⟨_,_,_,_,_,_,a3,fin _ (hJ _ g'.h _ (fun i hi=>by simp[H.get_put,show ¬i=g.nx+1 by omega]) a1) (by simpa using hn) ?_⟩
  simp[H.get_put,a2]
end
end Hx
end
section
namespace Hx
open Go
noncomputable section
def updf {α:Type}(f:Nat→α)(k:Nat)(x:α):Nat→α:=fun j=>if j=k then x else f j
theorem updf_self {α:Type}(f:Nat→α)(k:Nat)(x:α):updf f k x k=x:=if_pos rfl
theorem updf_ne {α:Type}(f:Nat→α){k j:Nat}(x:α)(h:j≠k):updf f k x j=f j:=if_neg h
def Fam (g:G)(b K:Nat)(V:Nat→AV)(W:Nat→List (List AV)):Prop :=
 (∀k,k<K→Own g b (V k) 1 (W k))∧∀k l,k<K→l<K→k≠l→∀id,vid (V k)=some id→vid (V l)≠some id
theorem Fam.step {g g':G}{b K:Nat}{V:Nat→AV}{W:Nat→List (List AV)}(h:Fam g b K V W)(hn:g.nx≤g'.nx)(hf:∀i,b≤i→i<g.nx→g'.h.get i=g.h.get i):Fam g' b K V W :=
 ⟨fun k hk=>(h.1 k hk).fr hn fun i hi=>hf i ((h.1 k hk).lt hi).1 ((h.1 k hk).lt hi).2,h.2⟩
theorem Fam.set {g g':G}{b K:Nat}{V:Nat→AV}{W:Nat→List (List AV)}(h:Fam g b K V W){k:Nat}{v':AV}{rows':List (List AV)}(ho:Own g' b v' 1 rows')(hn:g.nx≤g'.nx)
  (hf:∀i,b≤i→i<g.nx→vid (V k)≠some i→g'.h.get i=g.h.get i) (hk:k<K) (hv:vid v'=vid (V k)∨∃i,vid v'=some i∧g.nx≤i):Fam g' b K (updf V k v') (updf W k rows'):=by
 refine ⟨fun j hj=>?_,fun j l hj hl hne id e1 e2=>?_⟩
 ·by_cases e:j=k
  ·subst e;rw[updf_self,updf_self];exact ho
  ·rw[updf_ne _ _ e,updf_ne _ _ e]
   exact (h.1 j hj).fr hn fun i hi=>hf i ((h.1 j hj).lt hi).1 ((h.1 j hj).lt hi).2 fun e2=>h.2 j k hj hk e i hi e2
 ·have key:∀j,j<K→j≠k→∀id,vid (V j)=some id→vid v'≠some id:=fun j hj hne id e1 e2=>by
   rcases hv with hv | ⟨i,hv,hi⟩
   ·exact h.2 j k hj hk hne id e1 (hv ▸ e2)
   ·rw[hv] at e2;injection e2 with e2;have:=((h.1 j hj).lt e1).2;omega
  by_cases a:j=k
  ·subst a
   rw[updf_self] at e1
   rw[updf_ne _ _ (Ne.symm hne)] at e2
   exact key l hl (Ne.symm hne) id e2 e1
  ·rw[updf_ne _ _ a] at e1
   by_cases c:l=k
   ·subst c;rw[updf_self] at e2;exact key j hj a id e1 e2
   ·rw[updf_ne _ _ c] at e2;exact h.2 j l hj hl hne id e1 e2
def rowN (c:Nat→Int)(V:Nat→AV)(i:Nat):List AV:=[.int .i64 (c i),V (3*i+1),V (3*i+2),V (3*i+3)]
def rowsN (n:Nat)(c:Nat→Int)(V:Nat→AV):List (List AV):=(List.range n).map (rowN c V)
theorem rowsN_len (n:Nat)(c:Nat→Int)(V:Nat→AV):(rowsN n c V).length=n:=by simp[rowsN]
theorem rowsN_get {n:Nat}(c:Nat→Int)(V:Nat→AV){i:Nat}(h:i<n):(rowsN n c V)[i]?=some (rowN c V i):=by simp[rowsN,h]
theorem rowsN_set {n:Nat}{c c':Nat→Int}{V V':Nat→AV}{i:Nat}{row:List AV}(hr:row=rowN c' V' i)(h:∀j,j≠i→rowN c' V' j=rowN c V j):(rowsN n c V).set i row=rowsN n c' V':=by
 apply List.ext_getElem?
 intro j
 by_cases e:i=j
 ·subst e
  by_cases hi:i<n
  ·rw[List.getElem?_set_self (by rw[rowsN_len];exact hi),rowsN_get _ _ hi,hr]
  ·rw[List.getElem?_eq_none (by simp[rowsN];omega),List.getElem?_eq_none (by simp[rowsN];omega)]
 ·rw[List.getElem?_set_ne e]
  by_cases hj:j<n
  ·rw[rowsN_get _ _ hj,rowsN_get _ _ hj,h j (Ne.symm e)]
  ·rw[List.getElem?_eq_none (by simp[rowsN];omega),List.getElem?_eq_none (by simp[rowsN];omega)]
theorem rowN_ne {c:Nat→Int}{V:Nat→AV}{i j f:Nat}{v:AV}(hf:1≤f∧f≤3)(h:j≠i):rowN c (updf V (3*i+f) v) j=rowN c V j:=by
 unfold rowN
 rw[updf_ne V _ (show 3*j+1≠3*i+f by omega),updf_ne V _ (show 3*j+2≠3*i+f by omega),updf_ne V _ (show 3*j+3≠3*i+f by omega)]
structure ME where
 (n p4 q i5 p7 i9 b:Nat)
 (nv w5 w9 e7:AV)
 (gr:Int)
 (row0:List AV)
 (prow:List (List AV))
 (us:List UInt8)
structure ME.Ok (e:ME):Prop where
 ord:1<e.q∧e.q<e.p4∧e.p4<e.i5∧e.i5<e.p7∧e.p7<e.i9∧e.i9<e.b
 n1:1≤e.n∧e.n≤4
 g1:2≤e.gr∧e.gr≤12
 vn:vid e.nv=some e.q
 v5:vid e.w5=some e.i5
 v9:vid e.w9=some e.i9
 l7:SlR NoP 0 .nil e.us e.e7
structure MI (e:ME) (g:G) (V:Nat→AV) (W:Nat→List (List AV)) (c:Nat→Int) (ow:List Bool) (cap:Nat):Prop where
 h0:g.h.get 0=.cells 5 [e.row0] 0 false false
 h1:g.h.get 1=.cells 3 [[.int .i64 0,.nils,.nils]] 0 false false
 hN:Own g 0 e.nv 4 (rowsN e.n c V)
 h4:g.h.get e.p4=.cells 3 [[.int .i64 e.gr,V 0,e.nv]] 0 false false
 h5:Own g 0 e.w5 4 e.prow
 h7:∃cc:Int,0≤cc∧cc≤(cap:Int)∧g.h.get e.p7=.cells 2 [[e.e7,.int .i64 cc]] 0 false false
 h9:Own g 0 e.w9 1 (ow.map fun x=>[.bool x])
 fam:Fam g e.b (3*e.n+1) V W
 nx:e.b≤g.nx
section
variable {e:ME}{g g':G}{V:Nat→AV}{W:Nat→List (List AV)}{c:Nat→Int}{ow:List Bool}{cap:Nat}
theorem vid_inj {v:AV}{i j:Nat}(h:vid v=some i)(h':vid v=some j):i=j:=by rw[h] at h';injection h'
theorem MI.step (h:MI e g V W c ow cap)(he:e.Ok)(hn:g.nx≤g'.nx)(hf:∀i,i<g.nx→g'.h.get i=g.h.get i):MI e g' V W c ow cap:=by
 have hb:=h.nx
 have ho:=he.ord
 exact { h0:=by rw[hf 0 (by omega),h.h0],h1:=by rw[hf 1 (by omega),h.h1],hN:=h.hN.fr hn fun i hi=>hf i (h.hN.lt hi).2,h4:=by rw[hf _ (by omega),h.h4]
         h5:=h.h5.fr hn fun i hi=>hf i (h.h5.lt hi).2,h7:=by obtain ⟨cc,a1,a2,a3⟩:=h.h7;exact ⟨cc,a1,a2,by rw[hf _ (by omega),a3]⟩
         h9:=h.h9.fr hn fun i hi=>hf i (h.h9.lt hi).2,fam:=h.fam.step hn fun i _ hi=>hf i hi,nx:=by omega }
theorem MI.same (h:MI e g V W c ow cap)(he:e.Ok)(hf:g'.h=g.h)(hn:g.nx≤g'.nx):MI e g' V W c ow cap:=h.step he hn fun i _=>by rw[hf]
structure MP (e:ME) (g:G) (V V':Nat→AV) (W:Nat→List (List AV)) (c:Nat→Int) (ow:List Bool) (cap:Nat):Prop where
 h0:g.h.get 0=.cells 5 [e.row0] 0 false false
 h1:g.h.get 1=.cells 3 [[.int .i64 0,.nils,.nils]] 0 false false
 hN:Own g 0 e.nv 4 (rowsN e.n c V)
 h4:g.h.get e.p4=.cells 3 [[.int .i64 e.gr,V 0,e.nv]] 0 false false
 h5:Own g 0 e.w5 4 e.prow
 h7:∃cc:Int,0≤cc∧cc≤(cap:Int)∧g.h.get e.p7=.cells 2 [[e.e7,.int .i64 cc]] 0 false false
 h9:Own g 0 e.w9 1 (ow.map fun x=>[.bool x])
 fam:Fam g e.b (3*e.n+1) V' W
 nx:e.b≤g.nx
theorem MI.grow (h:MI e g V W c ow cap)(he:e.Ok){k:Nat}(hk:k<3*e.n+1){v':AV}{rows':List (List AV)}(ho:Own g' e.b v' 1 rows')(hn:g.nx≤g'.nx)
  (hf:∀i,i<g.nx→vid (V k)≠some i→g'.h.get i=g.h.get i) (hv:vid v'=vid (V k)∨∃i,vid v'=some i∧g.nx≤i):MP e g' V (updf V k v') (updf W k rows') c ow cap:=by
 have hb:=h.nx
 have hoo:=he.ord
 have hf':∀i,i<e.b→g'.h.get i=g.h.get i:=fun i hi=>hf i (by omega) fun e2=>by have:=((h.fam.1 k hk).lt e2).1;omega
 exact { h0:=by rw[hf' 0 (by omega),h.h0],h1:=by rw[hf' 1 (by omega),h.h1],hN:=h.hN.fr hn fun i hi=>hf' i (by have:=vid_inj he.vn hi;omega),h4:=by rw[hf' _ (by omega),h.h4]
         h5:=h.h5.fr hn fun i hi=>hf' i (by have:=vid_inj he.v5 hi;omega),h7:=by obtain ⟨cc,a1,a2,a3⟩:=h.h7;exact ⟨cc,a1,a2,by rw[hf' _ (by omega),a3]⟩
         h9:=h.h9.fr hn fun i hi=>hf' i (by have:=vid_inj he.v9 hi;omega),fam:=h.fam.set ho hn (fun i _ hi=>hf i hi) hk hv,nx:=by omega }
theorem MP.step {V':Nat→AV}(h:MP e g V V' W c ow cap)(he:e.Ok)(hn:g.nx≤g'.nx)(hf:∀i,i<g.nx→g'.h.get i=g.h.get i):MP e g' V V' W c ow cap:=by
 have hb:=h.nx
 have ho:=he.ord
 exact { h0:=by rw[hf 0 (by omega),h.h0],h1:=by rw[hf 1 (by omega),h.h1],hN:=h.hN.fr hn fun i hi=>hf i (h.hN.lt hi).2,h4:=by rw[hf _ (by omega),h.h4]
         h5:=h.h5.fr hn fun i hi=>hf i (h.h5.lt hi).2,h7:=by obtain ⟨cc,a1,a2,a3⟩:=h.h7;exact ⟨cc,a1,a2,by rw[hf _ (by omega),a3]⟩
         h9:=h.h9.fr hn fun i hi=>hf i (h.h9.lt hi).2,fam:=h.fam.step hn fun i _ hi=>hf i hi,nx:=by omega }
theorem MP.same {V':Nat→AV}(h:MP e g V V' W c ow cap)(he:e.Ok)(hf:g'.h=g.h)(hn:g.nx≤g'.nx):MP e g' V V' W c ow cap:=h.step he hn fun i _=>by rw[hf]
theorem MP.node {V':Nat→AV}{c':Nat→Int}(h:MP e g V V' W c ow cap)(he:e.Ok)(hN:Own g' 0 e.nv 4 (rowsN e.n c' V'))(h0:V' 0=V 0)(hn:g.nx≤g'.nx)
  (hf:∀i,vid e.nv≠some i→g'.h.get i=g.h.get i):MI e g' V' W c' ow cap:=by
 have ho:=he.ord
 have hb:=h.nx
 have hf':∀i,i≠e.q→g'.h.get i=g.h.get i:=fun i hi=>hf i (by rw[he.vn];intro e;injection e with e;exact hi e.symm)
 exact { h0:=by rw[hf' 0 (by omega),h.h0],h1:=by rw[hf' 1 (by omega),h.h1],hN:=hN,h4:=by rw[hf' _ (by omega),h.h4,h0]
         h5:=h.h5.fr (by omega) fun i hi=>hf' i (by have:=vid_inj he.v5 hi;omega),h7:=by obtain ⟨cc,a1,a2,a3⟩:=h.h7;exact ⟨cc,a1,a2,by rw[hf' _ (by omega),a3]⟩
         h9:=h.h9.fr (by omega) fun i hi=>hf' i (by have:=vid_inj he.v9 hi;omega),fam:=h.fam.step (by omega) fun i hi _=>hf' i (by omega),nx:=by omega }
theorem MP.root {v':AV}(h:MP e g V (updf V 0 v') W c ow cap)(he:e.Ok)(h4:g'.h.get e.p4=.cells 3 [[.int .i64 e.gr,v',e.nv]] 0 false false)(hn:g.nx≤g'.nx)
  (hf:∀i,i≠e.p4→g'.h.get i=g.h.get i):MI e g' (updf V 0 v') W c ow cap:=by
 have ho:=he.ord
 have hb:=h.nx
 exact { h0:=by rw[hf 0 (by omega),h.h0],h1:=by rw[hf 1 (by omega),h.h1]
         hN:=by
          have:rowsN e.n c (updf V 0 v')=rowsN e.n c V:=by
           unfold rowsN
           exact List.map_congr_left fun i _=>by unfold rowN;rw[updf_ne _ _ (by omega),updf_ne _ _ (by omega),updf_ne _ _ (by omega)]
          rw[this]
          exact h.hN.fr (by omega) fun i hi=>hf i (by have:=vid_inj he.vn hi;omega)
         h4:=by rw[h4,updf_self]
         h5:=h.h5.fr (by omega) fun i hi=>hf i (by have:=vid_inj he.v5 hi;omega),h7:=by obtain ⟨cc,a1,a2,a3⟩:=h.h7;exact ⟨cc,a1,a2,by rw[hf _ (by omega),a3]⟩
         h9:=h.h9.fr (by omega) fun i hi=>hf i (by have:=vid_inj he.v9 hi;omega),fam:=h.fam.step (by omega) fun i hi _=>hf i (by omega),nx:=by omega }
theorem MI.num (h:MI e g V W c ow cap)(he:e.Ok){cc:Int}(h1:0≤cc)(h2:cc≤((cap+1:Nat):Int))(h7:g'.h.get e.p7=.cells 2 [[e.e7,.int .i64 cc]] 0 false false)(hn:g.nx≤g'.nx)
  (hf:∀i,i≠e.p7→g'.h.get i=g.h.get i):MI e g' V W c ow (cap+1):=by
 have ho:=he.ord
 have hb:=h.nx
 exact { h0:=by rw[hf 0 (by omega),h.h0],h1:=by rw[hf 1 (by omega),h.h1],hN:=h.hN.fr (by omega) fun i hi=>hf i (by have:=vid_inj he.vn hi;omega),h4:=by rw[hf _ (by omega),h.h4]
         h5:=h.h5.fr (by omega) fun i hi=>hf i (by have:=vid_inj he.v5 hi;omega),h7:=⟨cc,h1,h2,h7⟩
         h9:=h.h9.fr (by omega) fun i hi=>hf i (by have:=vid_inj he.v9 hi;omega),fam:=h.fam.step (by omega) fun i hi _=>hf i (by omega),nx:=by omega }
theorem MI.own (h:MI e g V W c ow cap)(he:e.Ok){ow':List Bool}(h9:Own g' 0 e.w9 1 (ow'.map fun x=>[.bool x]))(hn:g.nx≤g'.nx)
  (hf:∀i,vid e.w9≠some i→g'.h.get i=g.h.get i):MI e g' V W c ow' cap:=by
 have ho:=he.ord
 have hb:=h.nx
 have hf':∀i,i≠e.i9→g'.h.get i=g.h.get i:=fun i hi=>hf i (by rw[he.v9];intro e;injection e with e;exact hi e.symm)
 exact { h0:=by rw[hf' 0 (by omega),h.h0],h1:=by rw[hf' 1 (by omega),h.h1],hN:=h.hN.fr (by omega) fun i hi=>hf' i (by have:=vid_inj he.vn hi;omega),h4:=by rw[hf' _ (by omega),h.h4]
         h5:=h.h5.fr (by omega) fun i hi=>hf' i (by have:=vid_inj he.v5 hi;omega),h7:=by obtain ⟨cc,a1,a2,a3⟩:=h.h7;exact ⟨cc,a1,a2,by rw[hf' _ (by omega),a3]⟩
         h9:=h9,fam:=h.fam.step (by omega) fun i hi _=>hf' i (by omega),nx:=by omega }
theorem refs_vid {g:G}{b sz:Nat}{v:AV}{rows:List (List AV)}(h:Own g b v sz rows):refIds v=match vid v with | some i=>[i] | none=>[]:=by
 rcases h with ⟨rfl,-⟩ | ⟨id,ep,lo,h1,h2,rfl,h3⟩<;>rfl
theorem refs_some {g:G}{b sz i:Nat}{v:AV}{rows:List (List AV)}(h:Own g b v sz rows)(hv:vid v=some i):refIds v=[i]:=by rw[refs_vid h,hv]
theorem rowy_vid {v:AV}{i:Nat}(h:vid v=some i):rowy v=true:=by cases v<;>first | rfl | cases h
end
end
end Hx
end
section
namespace Hx
open Go
noncomputable section
theorem placeAt_snoc {l:List Int}{y n:Int}{i:Nat}(h:i<l.length):S.placeAt (l++[y]) n i=S.placeAt l n i:=by
 have e:∀j,j<l.length→(l++[y])[j]?=l[j]?:=fun j hj=>List.getElem?_append_left hj
 unfold S.placeAt
 rw[e i h]
 by_cases h0:i=0
 ·subst h0;rfl
 ·rw[e (i - 1) (by omega)]
theorem placeAt_mono {l:List Int}{n m:Int}{i:Nat}(h:S.placeAt l n i=true)(hm:n≤m):S.placeAt l m i=true:=by
 simp only[S.placeAt,Bool.and_eq_true,decide_eq_true_eq] at h ⊢
 exact ⟨⟨h.1.1,by omega⟩,h.2⟩
theorem places_mono {l:List Int}{n m:Int}(h:S.places l n=true)(hm:n≤m):S.places l m=true:=by
 simp only[S.places,List.all_eq_true] at h ⊢
 exact fun i hi=>placeAt_mono (h i hi) hm
theorem places_snoc {l:List Int}{y n m:Int}(h:S.places l n=true)(hy:∀x∈l,x<y)(h0:0≤y)(h1:y<m)(hm:n≤m):S.places (l++[y]) m=true:=by
 have h:=places_mono h hm
 simp only[S.places,List.length_append,List.length_singleton] at h ⊢
 rw[all_range_succ,Bool.and_eq_true]
 refine ⟨?_,?_⟩
 ·simp only[List.all_eq_true,List.mem_range] at h ⊢
  intro i hi
  rw[placeAt_snoc hi];exact h i hi
 ·have e:(l++[y])[l.length]?=some y:=by simp
  simp only[S.placeAt,e,Option.getD_some,Bool.and_eq_true,decide_eq_true_eq,Bool.or_eq_true,beq_iff_eq]
  refine ⟨⟨h0,h1⟩,?_⟩
  by_cases hl:l.length=0
  ·exact .inl hl
  ·right
   have e2:(l++[y])[l.length - 1]?=some (l[l.length - 1]'(by omega)):=by
    rw[List.getElem?_append_left (by omega),List.getElem?_eq_getElem (by omega)]
   rw[e2,Option.getD_some]
   exact hy _ (List.getElem_mem _)
structure MD (e:ME) (W:Nat→List (List AV)) (R:List (List Int)) (F N O:Nat→List Int):Prop where
 r:All2 (Rp.rp NoP 0 .nil) R (W 0)
 f:∀i,i<e.n→W (3*i+1)=(F i).map ci
 n:∀i,i<e.n→W (3*i+2)=(N i).map ci
 o:∀i,i<e.n→W (3*i+3)=(O i).map ci
theorem MD.setF {e:ME}{W:Nat→List (List AV)}{R:List (List Int)}{F N O:Nat→List Int}(h:MD e W R F N O)(i:Nat)(l:List Int):MD e (updf W (3*i+1) (l.map ci)) R (updf F i l) N O where
 r:=by rw[updf_ne _ _ (by omega)];exact h.r
 f:=fun j hj=>by
  by_cases e:j=i
  ·subst e;rw[updf_self,updf_self]
  ·rw[updf_ne _ _ (by omega),updf_ne _ _ e];exact h.f j hj
 n:=fun j hj=>by rw[updf_ne _ _ (by omega)];exact h.n j hj
 o:=fun j hj=>by rw[updf_ne _ _ (by omega)];exact h.o j hj
theorem MD.setN {e:ME}{W:Nat→List (List AV)}{R:List (List Int)}{F N O:Nat→List Int}(h:MD e W R F N O)(i:Nat)(l:List Int):MD e (updf W (3*i+2) (l.map ci)) R F (updf N i l) O where
 r:=by rw[updf_ne _ _ (by omega)];exact h.r
 n:=fun j hj=>by
  by_cases e:j=i
  ·subst e;rw[updf_self,updf_self]
  ·rw[updf_ne _ _ (by omega),updf_ne _ _ e];exact h.n j hj
 f:=fun j hj=>by rw[updf_ne _ _ (by omega)];exact h.f j hj
 o:=fun j hj=>by rw[updf_ne _ _ (by omega)];exact h.o j hj
theorem MD.setO {e:ME}{W:Nat→List (List AV)}{R:List (List Int)}{F N O:Nat→List Int}(h:MD e W R F N O)(i:Nat)(l:List Int):MD e (updf W (3*i+3) (l.map ci)) R F N (updf O i l) where
 r:=by rw[updf_ne _ _ (by omega)];exact h.r
 o:=fun j hj=>by
  by_cases e:j=i
  ·subst e;rw[updf_self,updf_self]
  ·rw[updf_ne _ _ (by omega),updf_ne _ _ e];exact h.o j hj
 f:=fun j hj=>by rw[updf_ne _ _ (by omega)];exact h.f j hj
 n:=fun j hj=>by rw[updf_ne _ _ (by omega)];exact h.n j hj
theorem MD.setR {e:ME}{W:Nat→List (List AV)}{R:List (List Int)}{F N O:Nat→List Int}(h:MD e W R F N O){x:List Int}{cs:List AV}(hx:Rp.rp NoP 0 .nil x cs):MD e (updf W 0 (W 0++[cs])) (R++[x]) F N O where
 r:=by rw[updf_self];exact h.r.append ⟨hx,trivial⟩
 o:=fun j hj=>by rw[updf_ne _ _ (by omega)];exact h.o j hj
 f:=fun j hj=>by rw[updf_ne _ _ (by omega)];exact h.f j hj
 n:=fun j hj=>by rw[updf_ne _ _ (by omega)];exact h.n j hj
theorem MD.len {e:ME}{W:Nat→List (List AV)}{R:List (List Int)}{F N O:Nat→List Int}(h:MD e W R F N O):(W 0).length=R.length:=h.r.len.symm
structure MF (e:ME) (c:Nat→Int) (R:List (List Int)) (N:Nat→List Int):Prop where
 card:∀i,i<e.n→c i=2∨c i=3
 roots:∀r∈R,∃q z:Int,(q=2∨q=3)∧0≤z∧z<256∧r=S.weights e.gr q z
 inc:∀i,i<e.n→S.places (N i) R.length=true
theorem MF.root {e:ME}{c:Nat→Int}{R:List (List Int)}{N:Nat→List Int}(h:MF e c R N){q z:Int}(hq:q=2∨q=3)(h0:0≤z)(h1:z<256):MF e c (R++[S.weights e.gr q z]) N where
 card:=h.card
 roots:=fun r hr=>by
  rcases List.mem_append.1 hr with hr | hr
  ·exact h.roots r hr
  ·simp at hr;exact ⟨q,z,hq,h0,h1,hr⟩
 inc:=fun i hi=>places_mono (h.inc i hi) (by simp;omega)
theorem MF.both {e:ME}{c:Nat→Int}{R:List (List Int)}{N:Nat→List Int}(h:MF e c R N){q z:Int}(hq:q=2∨q=3)(h0:0≤z)(h1:z<256){N':Nat→List Int}
  (hN:∀i,i<e.n→N' i=N i∨N' i=[(R.length:Int)]∨N' i=N i++[(R.length:Int)]):MF e c (R++[S.weights e.gr q z]) N' where
 card:=h.card
 roots:=(h.root (q:=q) hq h0 h1).roots
 inc:=fun i hi=>by
  have hm:=fun x hx=>(places_mem (h.inc i hi) x hx).2
  rcases hN i hi with ee | ee | ee<;>rw[ee]
  ·exact places_mono (h.inc i hi) (by simp;omega)
  ·exact places_snoc (l:=[]) (n:=0) (y:=(R.length:Int)) (m:=((R++[S.weights e.gr q z]).length:Int)) rfl (by simp) (by omega) (by simp;omega) (by simp;omega)
  ·exact places_snoc (h.inc i hi) hm (by omega) (by simp;omega) (by simp;omega)
def MSt (e:ME)(r6:AV)(t:T):Prop :=
 St t [(1,.hptr 0 0 0 0),(2,.hptr 1 0 0 0),(3,.int .i64 (e.n:Int)),(4,.hptr e.p4 0 0 0),(5,e.w5),(6,r6),(7,.hptr e.p7 0 0 0),(9,e.w9)]
def MPr (e:ME):Prop:=e.prow.length=e.n∧∀i,i<e.n→∃(y:Piece) (oa:AV),e.prow[i]?=some [u8v y.1,u8v y.2.1,u8v y.2.2.1,oa]∧SlR NoP 0 .nil y.2.2.2 oa
theorem apart_call {x y:Foot}(hx:x.wr=[])(hb:x.lk.big=false)(hs:x.lk.sr=[])(h3:∀i∈y.wr,∀j∈x.lk.rd,i≠j):footsApart x y=true:=by
 have m3:=meets_none h3
 have m5:∀l:List Nat,meets l []=false:=fun l=>by simp[meets]
 simp only[footsApart,footFree,footFreeS,hx,hb,hs,m3,m5,fst1,List.map_nil,Bool.not_false,Bool.and_self,Bool.and_true,Bool.true_or]
 split<;>rfl
end
end Hx
end
section
namespace Hx
open Go
noncomputable section
theorem own_one {g:G}{b:Nat}(hb:b≤g.nx)(cs:List AV):Own (g.new (.cells 1 [cs] 0 false false)) b (.hsl g.nx 0 0 1 none) 1 [cs] :=
 .inr ⟨g.nx,0,false,hb,by simp,rfl,by simp[get_put_eq]⟩
theorem m_b2 {d:Nat}{e:ME}{r6:AV}{Q:QT}(hd:0<d)(he:e.Ok)(hpr:MPr e){t:T}{g:G}{V:Nat→AV}{W:Nat→List (List AV)}{c:Nat→Int}(ht:MSt e r6 t)(h10:tat t 10=.int .i64 0)
  (hI:MI e g V W c (List.replicate e.n false) 0) (hD:MD e W [] (fun _=>[]) (fun _=>[]) (fun _=>[])) (hc:∀i,i<e.n→c i=2∨c i=3)
  (fin:∀t g V W ow R N,MSt e r6 t→MI e g V W c ow R.length→MD e W R (fun _=>[]) N (fun _=>[])→MF e c R N→ow.length=e.n→(∀i,i<e.n→ow[i]?=some true→N i≠[])→R.length≤4→(∀i,(N i).length≤1)→Q (.exit 2) t [] g) :
  wpL (wp C0 d none f_ref33_Draft_Model_b2) Q t [] g:=by
 have hoo:=he.ord
 have hn1:=he.n1
 have hg1:=he.g1
 simp only[f_ref33_Draft_Model_b2,f_ref33_Draft_Model_k1]
 refine wpL_cnt e.n (by omega) (fun j t df g=>df=[]∧MSt e r6 t∧∃V W ow R N,MI e g V W c ow R.length∧MD e W R (fun _=>[]) N (fun _=>[])∧MF e c R N∧ow.length=e.n∧(∀i,i<e.n→ow[i]?=some true→N i≠[])∧R.length≤j∧∀i,(N i).length≤1)
  ⟨rfl,ht,V,W,_,[],fun _=>[],hI,hD,⟨hc,by simp,fun i hi=>rfl⟩,by simp,fun i hi h=>by rw[List.getElem?_replicate] at h;split at h<;>simp at h,Nat.le_refl _,fun i=>Nat.zero_le _⟩ h10 (by decide)
  (by rintro j t df g v s (rfl | rfl | rfl)<;>simp[MSt,St,sx]) ?_ ?_ ?_
 ·rintro j t df g hj ⟨rfl,⟨h1,h2,h3,h4,h5,h6,h7,h9,-⟩,hx⟩ h10
  simp only[sx,sy,SO.run,↓reduceIte,Nat.reduceEqDiff,h1,h2,h3,h4,h5,h6,h7,h9,h10,MSt,St]
  exact hx
 ·rintro j t df g hj ⟨rfl,⟨h1,h2,h3,h4,h5,h6,h7,h9,-⟩,V,W,ow,R,N,hI,hD,hF,hol,hon,hRj,hN1⟩ h10
  obtain ⟨y,oa,hy,hoa⟩:=hpr.2 j hj
  have hy8:y.2.2.1.toNat<256:=y.2.2.1.toNat_lt
  have hjp:j<e.prow.length:=by rw[hpr.1];exact hj
  have ry5:=rowy_vid he.v5
  have ryn:=rowy_vid he.vn
  simp only[sx,sy,SO.run,↓reduceIte,Nat.reduceEqDiff,h5,h10,hI.h5.rows,hjp,hy,ry5,Option.isSome_some,Option.getD_some,u8v,bin_rem .u8 (show 0≤(y.2.2.1.toNat:Int) by omega) (show (0:Int)<4 by decide)]
  refine bifP_mk (fun hb=>?_) (fun hb=>?_)
  ·have hol':j<(ow.map fun x=>[AV.bool x]).length:=by rw[List.length_map,hol];exact hj
   have hrow:(ow.map fun x=>[AV.bool x])[j]?=some [.bool (ow[j]'(by omega))]:=by rw[List.getElem?_map,List.getElem?_eq_getElem (by omega)];rfl
   simp only[sx,sy,SO.run,↓reduceIte,Nat.reduceEqDiff,h9,h10,hI.h9.rows,hol',Option.isSome_some,Option.getD_some]
   refine store_own (row:=[.bool (ow[j]'(by omega))]) (row':=[.bool true]) hI.h9 hrow rfl rfl rfl fun g1 x1 n1 f1=>?_
   have hI1:MI e g1 V W c (ow.set j true) R.length:=hI.own he (by rw[List.map_set];exact x1) (by omega) f1
   clear x1 f1 n1 hI hol' hrow
   have l0:=len_rows' (hI1.fam.1 0 (by omega)).rows
   rw[hD.len] at l0
   have hjN:j<(rowsN e.n c V).length:=by rw[rowsN_len];exact hj
   have hI2:MP e (g1.new (.cells 1 [[.int .i64 (R.length:Int)]] 0 false false)) V (updf V (3*j+2) (.hsl g1.nx 0 0 1 none)) (updf W (3*j+2) ([(R.length:Int)].map ci)) c (ow.set j true) R.length :=
    hI1.grow he (by omega) (own_one hI1.nx _) (by simp) (fun i hi _=>by rw[G.new_h,get_put_ne _ _ _ (by omega)]) (.inr ⟨g1.nx,rfl,Nat.le_refl _⟩)
   simp only[sx,sy,SO.run,↓reduceIte,Nat.reduceEqDiff,h4,h10,hI1.h4,l0]
   have hNr:=hI2.hN.rows
   simp only[sx,sy] at hNr
   simp only[sx,sy,SO.run,↓reduceIte,Nat.reduceEqDiff,h4,h10,hNr,hjN,ryn,Option.isSome_some,Option.getD_some]
   refine store_own (row:=rowN c V j) (row':=rowN c (updf V (3*j+2) (.hsl g1.nx 0 0 1 none)) j) hI2.hN (rowsN_get _ _ hj) rfl rfl ?_ fun g2 x2 n2 f2=>?_
   ·simp only[rowN,putCells_eq,sx,sy,↓reduceIte,Nat.reduceAdd,Nat.reduceLeDiff,updf_self,updf_ne V (k:=3*j+2) (j:=3*j+1) _ (by omega),updf_ne V (k:=3*j+2) (j:=3*j+3) _ (by omega)]
   rw[rowsN_set rfl (fun i hi=>by unfold rowN;rw[updf_ne _ _ (by omega),updf_ne _ _ (by omega),updf_ne _ _ (by omega)])] at x2
   have hI3:=hI2.node he x2 (updf_ne _ _ (by omega)) (by omega) f2
   have hD3:=hD.setN j [(R.length:Int)]
   clear hI2 hI1 x2 n2 f2 hNr
   generalize updf V (3*j+2) (.hsl g1.nx 0 0 1 none)=V at *
   generalize updf W (3*j+2) ([(R.length:Int)].map ci)=W at *
   obtain ⟨cc,cc0,cc1,h7'⟩:=hI3.h7
   have hNr:=hI3.hN.rows
   have hrf:=refs_some hI3.hN he.vn
   simp only[sx,sy,sf,SO.run,↓reduceIte,Nat.reduceEqDiff,Nat.reduceAdd,Nat.reduceLeDiff,h4,h7,h10,hI3.h4,hNr,rowsN_len,hj,ryn,rowsN_get c V hj,rowN,Option.isSome_some,Option.getD_some]
   refine next_ok (us:=e.us) (p:=e.p7) (l:=e.e7) (c:=cc) ?_ he.l7 cc0 (by omega) fun z c' g4 z0 z1 c0 c1 g7 n4 f4 lg4=>?_
   ·simpa using h7'
   simp only[sx,sy] at n4 f4 lg4
   have lg4':∀i∈g4.lg,i=e.p7:=by simpa using lg4
   have hb3:=hI3.nx
   have hI4:MI e g4 V W c (ow.set j true) (R.length+1):=hI3.num he c0 (by omega) g7 (by omega) f4
   simp only[sx,sy,sf,SO.run,↓reduceIte,Nat.reduceEqDiff,Nat.reduceAdd,Nat.reduceLeDiff,h4,h7,h10]
   refine sat_ex (weights_ok hd hg1.1 hg1.2 z0 z1) fun r hr=>?_
   simp only[sx,sy,sf,SO.run,↓reduceIte,Nat.reduceEqDiff,Nat.reduceAdd,Nat.reduceLeDiff,h4,h7,h10]
   rw[bsl_one 1 [.nils] r _ (by rw[hr.cells];rfl) hr.tup,hr.cells]
   simp only[sx,sy,sf,SO.run,↓reduceIte,Nat.reduceEqDiff,Nat.reduceAdd,Nat.reduceLeDiff,h4,h7,h10]
   have hO:=hI4.fam.1 0 (by omega)
   refine append_own (b:=e.b) (new:=[[r]]) (rows:=W 0) (hO.fr (by simp;omega) (fun i hi=>?_)) (by simp[sx,sy,H.get_put]) (by simp;have:=hI4.nx;omega) (by rw[hD3.len];simp[room];omega) fun v' g5 hv' n5 f5 vid5 lg5=>?_
   ·have:=(hO.lt hi).2
    simp[H.get_put];omega
   simp only[sx,sy] at n5 f5 vid5 lg5
   have hI5:MP e g5 V (updf V 0 v') (updf W 0 (W 0++[[r]])) c (ow.set j true) (R.length+1) :=
    hI4.grow he (by omega) hv' (by omega) (fun i hi hne=>by rw[f5 i (by omega) hne,if_neg (by omega)]) (by rcases vid5 with h | ⟨i,h,hi⟩;exact .inl h;exact .inr ⟨i,h,by omega⟩)
   simp only[sx,sy,sf,SO.run,↓reduceIte,Nat.reduceEqDiff,Nat.reduceAdd,Nat.reduceLeDiff,h4,h7,h10,hI5.h4,hv'.cell.1,hv'.cell.2,foot_ref33_numbers_next,foot_ref33_weights]
   refine ⟨?_,?_⟩
   ·simp only[List.reverse_cons,List.reverse_nil,List.nil_append,List.cons_append,hrf]
    refine footsOk_mk [false,false,false,false,false,false,false,false,false,false,false,true,false,true,true,false,true] [(0,11),(1,11),(2,11),(3,11),(4,11),(5,11),(6,11),(7,11),(8,11),(9,11),(0,13),(1,13)] (by simp[All2,rdLook,noLook,bigLook]) (by decide) ?_
    rintro p hp x y hx hy
    simp only[List.mem_cons,List.not_mem_nil,or_false] at hp
    rcases hp with rfl | rfl | rfl | rfl | rfl | rfl | rfl | rfl | rfl | rfl | rfl | rfl
    case inr.inr.inr.inr.inr.inr.inr.inr.inr.inr.inl=>(simp at hx hy;subst hx;subst hy;refine apart_mk rfl rfl rfl rfl ?_ ?_ ?_<;>simp[rdLook,noLook,refIds])
    case inr.inr.inr.inr.inr.inr.inr.inr.inr.inr.inr=>(simp at hx hy;subst hx;subst hy;refine apart_mk rfl rfl rfl rfl ?_ ?_ ?_<;>simp[rdLook,noLook,refIds]<;>omega)
    all_goals (simp at hx hy;subst hx;subst hy;refine apart_call rfl rfl rfl ?_;intro i hi j hj;(have hi:=lg4' i hi);simp[rdLook,noLook,refIds_hptr,hrf,refIds_rptr ryn] at hj<;>omega)
   ·have hI6:=hI5.root (g':=(setLog (bumpG (setLog (bumpG g5 []) []) []) []).put e.p4 (.cells 3 [[.int .i64 e.gr,v',e.nv]] 0 false false)) he
     (by simp[H.get_put]) (by simp;omega) (fun i hi=>by simp[H.get_put];intro e;exact absurd e hi)
    have hD6:=hD3.setR (x:=S.weights e.gr (c j) z) (cs:=[r]) hr
    have hF6:=hF.both (q:=c j) (hc j hj) z0 z1 (N':=updf N j [(R.length:Int)]) fun i hi=>by
     by_cases e:i=j
     ·subst e;exact .inr (.inl (updf_self _ _ _))
     ·exact .inl (updf_ne _ _ e)
    simp only[sx,sy,SO.run,↓reduceIte,Nat.reduceEqDiff,h1,h2,h3,h4,h5,h6,h7,h9,h10,MSt,St]
    refine ⟨updf V 0 v',updf W 0 (W 0++[[r]]),ow.set j true,R++[S.weights e.gr (c j) z],updf N j [(R.length:Int)],?_,hD6,hF6,by simpa using hol,fun i hi h=>?_,by simp;omega,fun i=>?_⟩
    ·rw[List.length_append];exact hI6.same he (by simp) (by simp)
    ·by_cases e:i=j
     ·subst e;rw[updf_self];simp
     ·rw[updf_ne _ _ e];rw[List.getElem?_set_ne (Ne.symm e)] at h;exact hon i hi h
    ·by_cases e:i=j
     ·subst e;rw[updf_self];simp
     ·rw[updf_ne _ _ e];exact hN1 i
  ·simp only[sx,sy,SO.run,↓reduceIte,Nat.reduceEqDiff,h1,h2,h3,h4,h5,h6,h7,h9,h10,MSt,St]
   exact ⟨V,W,ow,R,N,hI,hD,hF,hol,hon,by omega,hN1⟩
 ·rintro t df g ⟨rfl,ht,V,W,ow,R,N,hI,hD,hF,hol,hon,hRj,hN1⟩
  exact fin t g V W ow R N ht hI hD hF hol hon (by omega) hN1
end
end Hx
end
section
namespace Hx
open Go
noncomputable section
theorem ixa_tptr {l sz i n m:Nat}{rows:List (List AV)}{off:Nat}{k:IntKind}(h:m<n):ixaV n 1 (.tptr l sz rows i off) (.int k (m:Int))=.val (.tptr l sz rows i (off+m)):=by
 show (bif' (Nat.blt m n) (OR.val (.tptr l sz rows i (off+m*1))) .fail)=_
 rw[bif'_eq,if_pos (by simpa using h),Nat.mul_one]
theorem rptr_tree {α:Type} [Rp α]{k:Nat}{h h':H}{l:List α}{v:AV}{rows:List (List AV)}{s i off:Nat}(r:SlR NoP k h l v)(hr:rowsOf h' s v=some rows)(hi:i<rows.length):∃t,rptr s v i off=.tptr t s rows i off:=by
 have hb:=r.2
 cases v with
 | nils=>simp[rowsOf] at hr;subst hr;simp at hi
 | esl=>simp[rowsOf] at hr;subst hr;simp at hi
 | tsl tg sz rws =>
  simp only[rowsOf,bif'_eq] at hr
  split at hr
  ·injection hr with hr;subst hr;exact ⟨tg,rfl⟩
  ·cases hr
 | hsl a b c d e=>exact hb.1.elim
 | _=>exact hb.elim
theorem m_b4 {d:Nat}{e:ME}{r6 b1:AV}{us:List (UInt8×UInt8)}{g0 x0 c0 e0:AV}{Q:QT}(hd:0<d)(he:e.Ok)(hr0:e.row0=[g0,x0,b1,c0,e0])(hb1:SlR NoP 0 .nil us b1){t:T}{g:G}{V:Nat→AV}{W:Nat→List (List AV)}{c:Nat→Int}{ow:List Bool}{R:List (List Int)}{N:Nat→List Int}(ht:MSt e r6 t)(h11:tat t 11=.int .i64 0)
  (hI:MI e g V W c ow R.length) (hD:MD e W R (fun _=>[]) N (fun _=>[])) (hF:MF e c R N) (hon:∀i,i<e.n→ow[i]?=some true→N i≠[]) (hRj:R.length≤4) (hN1:∀i,(N i).length≤1)
  (fin:∀t g V W R N,MSt e r6 t→MI e g V W c ow R.length→MD e W R (fun _=>[]) N (fun _=>[])→MF e c R N→(∀i,i<e.n→ow[i]?=some true→N i≠[])→R.length≤6→(∀i,(N i).length≤3)→Q (.exit 4) t [] g) :
  wpL (wp C0 d none f_ref33_Draft_Model_b4) Q t [] g:=by
 have hoo:=he.ord
 have hn1:=he.n1
 have hg1:=he.g1
 obtain ⟨srows,s1,s2,s3,s4⟩:=hb1.all
 have s1:∀h',rowsOf h' 2 b1=some srows:=s1
 have ryn:=rowy_vid he.vn
 simp only[f_ref33_Draft_Model_b4,f_ref33_Draft_Model_k3]
 refine wpL_cnt (min us.length 2) (by omega) (fun j t df g=>df=[]∧MSt e r6 t∧∃V W R N,MI e g V W c ow R.length∧MD e W R (fun _=>[]) N (fun _=>[])∧MF e c R N∧(∀i,i<e.n→ow[i]?=some true→N i≠[])∧R.length≤4+j∧∀i,(N i).length≤1+j)
  ⟨rfl,ht,V,W,R,N,hI,hD,hF,hon,hRj,hN1⟩ h11 (by decide)
  (by rintro j t df g v s (rfl | rfl | rfl)<;>simp[MSt,St,sx]) ?_ ?_ ?_
 ·rintro j t df g hj ⟨rfl,⟨h1,h2,h3,h4,h5,h6,h7,h9,-⟩,V,W,R,N,hI,hx⟩ h11
  have e0:=hI.h0
  rw[hr0] at e0
  simp only[sx,sy,SO.run,↓reduceIte,Nat.reduceEqDiff,h1,h11,e0,hb1.len]
  have fin:∀q:Bool,q=decide (j<min us.length 2)→AV.bool q=AV.bool (decide ((j:Int)<((min us.length 2:Nat):Int))):=fun q h=>by rw[h];congr 1;simp
  refine bifP_mk (fun hb=>?_) (fun hb=>?_)
  ·have hb:j<us.length:=by simpa using hb
   have hq:decide ((j:Int)<(us.length:Int))=true:=by simpa using hb
   simp only[sx,sy,SO.run,↓reduceIte,Nat.reduceEqDiff,h1,h2,h3,h4,h5,h6,h7,h9,h11,MSt,St,hq]
   exact ⟨fin _ (by simp;omega),V,W,R,N,hI,hx⟩
  ·have hb:¬j<us.length:=by simpa using hb
   have hq:decide ((j:Int)<(us.length:Int))=false:=by simpa using hb
   simp only[sx,sy,SO.run,↓reduceIte,Nat.reduceEqDiff,h1,h2,h3,h4,h5,h6,h7,h9,h11,MSt,St,hq]
   exact ⟨fin _ (by simp;omega),V,W,R,N,hI,hx⟩
 ·rintro j t df g hj ⟨rfl,⟨h1,h2,h3,h4,h5,h6,h7,h9,-⟩,V,W,R,N,hI,hD,hF,hon,hRj,hN1⟩ h11
  have hju:j<us.length:=by omega
  obtain ⟨⟨ua,ub⟩,hu⟩:∃y,us[j]?=some y:=⟨_,List.getElem?_eq_getElem hju⟩
  obtain ⟨row,q1,q2⟩:=s3 j _ hu
  rw[rp_two.1 q2] at q1
  have hjs:j<srows.length:=by omega
  have e0:=hI.h0
  rw[hr0] at e0
  have hpt:∃l,rptr 2 b1 j 0=.tptr l 2 srows j 0:=rptr_tree hb1 (s1 .nil) hjs
  obtain ⟨tl,hpt⟩:=hpt
  have ua8:ua.toNat<256:=ua.toNat_lt
  have ub8:ub.toNat<256:=ub.toNat_lt
  have ld:∀(g:G) (k:Nat) (v:AV),[u8v ua,u8v ub][k]?=some v→loadV false 1 (.tptr tl 2 srows j (0+k)) g=.val v:=fun g k v hk=>by
   simp only[loadV,loadF,nthR_eq,q1,Nat.zero_add,part_one,hk,orV]
  have ea:((ua.toNat:Int) % (e.n:Int))=((ua.toNat % e.n:Nat):Int):=by omega
  have eb:((ub.toNat:Int) % (e.n:Int))=((ub.toNat % e.n:Nat):Int):=by omega
  have la:ua.toNat % e.n<e.n:=Nat.mod_lt _ (by omega)
  have lb:ub.toNat % e.n<e.n:=Nat.mod_lt _ (by omega)
  generalize hA:ua.toNat % e.n=A at *
  generalize hB:ub.toNat % e.n=B at *
  have i0:∀k,ixaV 2 1 (.tptr tl 2 srows j 0) (.int k 0)=.val (.tptr tl 2 srows j (0+0)):=fun k=>ixa_tptr (m:=0) (by decide)
  have i1:∀k,ixaV 2 1 (.tptr tl 2 srows j 0) (.int k 1)=.val (.tptr tl 2 srows j (0+1)):=fun k=>ixa_tptr (m:=1) (by decide)
  simp only[sx,sy,SO.run,↓reduceIte,Nat.reduceEqDiff,Nat.reduceAdd,h1,h3,h11,e0,s1,hjs,hpt,i0,i1,Option.isSome_some,Option.getD_some,ld _ 0 _ rfl,ld _ 1 _ rfl,u8v,
   wrap64 (show -9223372036854775808≤(ua.toNat:Int) by omega) (show (ua.toNat:Int)<9223372036854775808 by omega),wrap64 (show -9223372036854775808≤(ub.toNat:Int) by omega) (show (ub.toNat:Int)<9223372036854775808 by omega),
   bin_rem .i64 (show (0:Int)≤(ua.toNat:Int) by omega) (show 0<(e.n:Int) by omega),bin_rem .i64 (show (0:Int)≤(ub.toNat:Int) by omega) (show 0<(e.n:Int) by omega),ea,eb]
  refine bifP_mk (fun hb=>?_) (fun hb=>?_)
  ·have hAB:A≠B:=fun e=>by subst e;simp at hb
   have l0:=len_rows' (hI.fam.1 0 (by omega)).rows
   rw[hD.len] at l0
   have hNr:=hI.hN.rows
   have hrf:=refs_some hI.hN he.vn
   have hbb:=hI.nx
   have hlb:=hN1 A
   have hO:=hI.fam.1 (3*A+2) (by omega)
   simp only[sx,sy,sf,SO.run,↓reduceIte,Nat.reduceEqDiff,Nat.reduceAdd,Nat.reduceLeDiff,h4,l0,hI.h4,hNr,rowsN_len,la,ryn,rowsN_get c (V) la,rowN,Option.isSome_some,Option.getD_some]
   refine append_own (b:=e.b) (rows:=(W) (3*A+2)) (new:=[[.int .i64 ((R.length:Int))]]) (hO.fr (by simp;omega) (fun i' hi'=>?_)) (by simp[sx,sy,H.get_put]) (by simp;omega) (by rw[hD.n A la];simp[room];omega) fun v1 ga hv1 n1 f1 vid1 lg1=>?_
   ·have:=(hO.lt hi').2
    simp[H.get_put];omega
   simp only[sx,sy] at n1 f1 vid1 lg1
   have hP:=hI.grow (g':=ga) (k:=3*A+2) (rows':=(W) (3*A+2)++[[.int .i64 ((R.length:Int))]]) he (by omega) hv1 (by omega) (fun i' hi' hne=>by rw[f1 i' (by omega) hne,if_neg (by omega)]) (by rcases vid1 with h | ⟨i',h,hi'⟩;exact .inl h;exact .inr ⟨i',h,by omega⟩)
   have hNr2:=hP.hN.rows
   have hrf2:=refs_some hP.hN he.vn
   simp only[sx,sy,sf,SO.run,↓reduceIte,Nat.reduceEqDiff,Nat.reduceAdd,Nat.reduceLeDiff,h4,l0,hP.h4,hNr2,rowsN_len,la,ryn,Option.isSome_some,Option.getD_some]
   refine store_own (row:=rowN c (V) A) (row':=rowN c (updf (V) (3*A+2) v1) A) (hP.same he (by simp) (by simp;omega)).hN (rowsN_get _ _ la) (by rw[hv1.cell.1];rfl) hv1.cell.2 ?_ fun g1 x2 n2 f2=>?_
   ·simp only[rowN,hv1.cell.1,putCells_eq,sx,sy,↓reduceIte,Nat.reduceAdd,Nat.reduceLeDiff,updf_self,updf_ne (V) (k:=3*A+2) (j:=3*A+1) _ (by omega),updf_ne (V) (k:=3*A+2) (j:=3*A+3) _ (by omega)]
   rw[rowsN_set rfl (fun i' hi'=>rowN_ne (by omega) hi')] at x2
   simp only[sx,sy] at n2 f2
   have hI1:=hP.node (g':=g1) he x2 (updf_ne _ _ (by omega)) (by omega) f2
   have hI1D:=hD.setN A ((N) A++[(R.length:Int)])
   rw[List.map_append,←hD.n A la] at hI1D
   simp only[List.map_cons,List.map_nil,ci] at hI1D
   simp only[sx,sy,sf,SO.run,↓reduceIte,Nat.reduceEqDiff,Nat.reduceAdd,Nat.reduceLeDiff,h4,l0]
   refine ⟨?_,?_⟩
   ·simp only[List.reverse_cons,List.reverse_nil,List.nil_append,List.cons_append,hrf,hrf2]
    refine footsOk_mk [false,false,false,false,false,false,false,false,false,false,false,false,true,true,false,false,true] [(0,12),(1,12),(2,12),(3,12),(4,12),(5,12),(6,12),(7,12),(8,12),(0,13),(1,13),(2,13)] (by simp[All2,rdLook,noLook,bigLook]) (by decide) ?_
    rintro p hp x y hx hy
    simp only[List.mem_cons,List.not_mem_nil,or_false] at hp
    rcases hp with rfl | rfl | rfl | rfl | rfl | rfl | rfl | rfl | rfl | rfl | rfl | rfl<;>(simp at hx hy;subst hx;subst hy;refine apart_mk rfl rfl rfl rfl ?_ ?_ ?_<;>simp[rdLook,noLook,refIds_hptr,hrf,refIds_rptr ryn]<;>first | omega | (intro i' hi';rcases lg1 i' hi' with h | h<;>first | omega | simp at h) | skip)
   clear hNr hrf hbb hO hP hNr2 hrf2 x2 f2 n2 f1 n1 vid1 lg1 hlb
   have l0:=len_rows' (hI1.fam.1 0 (by omega)).rows
   rw[hI1D.len] at l0
   have hNr:=hI1.hN.rows
   have hrf:=refs_some hI1.hN he.vn
   have hbb:=hI1.nx
   have hlb:=(show ((updf N A (N A++[(R.length:Int)])) B).length≤100 from by have:=hN1 A;have:=hN1 B;unfold updf;split<;>simp<;>omega)
   have hO:=hI1.fam.1 (3*B+2) (by omega)
   simp only[sx,sy,sf,SO.run,↓reduceIte,Nat.reduceEqDiff,Nat.reduceAdd,Nat.reduceLeDiff,h4,l0,hI1.h4,hNr,rowsN_len,lb,ryn,rowsN_get c (updf V (3*A+2) v1) lb,rowN,Option.isSome_some,Option.getD_some]
   refine append_own (b:=e.b) (rows:=(updf W (3*A+2) (W (3*A+2)++[[.int .i64 (R.length:Int)]])) (3*B+2)) (new:=[[.int .i64 ((R.length:Int))]]) (hO.fr (by simp;omega) (fun i' hi'=>?_)) (by simp[sx,sy,H.get_put]) (by simp;omega) (by rw[hI1D.n B lb];simp[room];omega) fun v2 ga hv2 n1 f1 vid1 lg1=>?_
   ·have:=(hO.lt hi').2
    simp[H.get_put];omega
   simp only[sx,sy] at n1 f1 vid1 lg1
   have hP:=hI1.grow (g':=ga) (k:=3*B+2) (rows':=(updf W (3*A+2) (W (3*A+2)++[[.int .i64 (R.length:Int)]])) (3*B+2)++[[.int .i64 ((R.length:Int))]]) he (by omega) hv2 (by omega) (fun i' hi' hne=>by rw[f1 i' (by omega) hne,if_neg (by omega)]) (by rcases vid1 with h | ⟨i',h,hi'⟩;exact .inl h;exact .inr ⟨i',h,by omega⟩)
   have hNr2:=hP.hN.rows
   have hrf2:=refs_some hP.hN he.vn
   simp only[sx,sy,sf,SO.run,↓reduceIte,Nat.reduceEqDiff,Nat.reduceAdd,Nat.reduceLeDiff,h4,l0,hP.h4,hNr2,rowsN_len,lb,ryn,Option.isSome_some,Option.getD_some]
   refine store_own (row:=rowN c (updf V (3*A+2) v1) B) (row':=rowN c (updf (updf V (3*A+2) v1) (3*B+2) v2) B) (hP.same he (by simp) (by simp;omega)).hN (rowsN_get _ _ lb) (by rw[hv2.cell.1];rfl) hv2.cell.2 ?_ fun g2 x2 n2 f2=>?_
   ·simp only[rowN,hv2.cell.1,putCells_eq,sx,sy,↓reduceIte,Nat.reduceAdd,Nat.reduceLeDiff,updf_self,updf_ne (updf V (3*A+2) v1) (k:=3*B+2) (j:=3*B+1) _ (by omega),updf_ne (updf V (3*A+2) v1) (k:=3*B+2) (j:=3*B+3) _ (by omega)]
   rw[rowsN_set rfl (fun i' hi'=>rowN_ne (by omega) hi')] at x2
   simp only[sx,sy] at n2 f2
   have hI2:=hP.node (g':=g2) he x2 (updf_ne _ _ (by omega)) (by omega) f2
   have hI2D:=hI1D.setN B ((updf N A (N A++[(R.length:Int)])) B++[(R.length:Int)])
   rw[List.map_append,←hI1D.n B lb] at hI2D
   simp only[List.map_cons,List.map_nil,ci] at hI2D
   simp only[sx,sy,sf,SO.run,↓reduceIte,Nat.reduceEqDiff,Nat.reduceAdd,Nat.reduceLeDiff,h4,l0]
   refine ⟨?_,?_⟩
   ·simp only[List.reverse_cons,List.reverse_nil,List.nil_append,List.cons_append,hrf,hrf2]
    refine footsOk_mk [false,false,false,false,false,false,false,false,false,false,false,false,true,true,false,false,true] [(0,12),(1,12),(2,12),(3,12),(4,12),(5,12),(6,12),(7,12),(8,12),(0,13),(1,13),(2,13)] (by simp[All2,rdLook,noLook,bigLook]) (by decide) ?_
    rintro p hp x y hx hy
    simp only[List.mem_cons,List.not_mem_nil,or_false] at hp
    rcases hp with rfl | rfl | rfl | rfl | rfl | rfl | rfl | rfl | rfl | rfl | rfl | rfl<;>(simp at hx hy;subst hx;subst hy;refine apart_mk rfl rfl rfl rfl ?_ ?_ ?_<;>simp[rdLook,noLook,refIds_hptr,hrf,refIds_rptr ryn]<;>first | omega | (intro i' hi';rcases lg1 i' hi' with h | h<;>first | omega | simp at h) | skip)
   clear hNr hrf hbb hO hP hNr2 hrf2 x2 f2 n2 f1 n1 vid1 lg1 hlb
   clear l0
   obtain ⟨cc,cc0,cc1,h7'⟩:=hI2.h7
   have hNr:=hI2.hN.rows
   have hrf:=refs_some hI2.hN he.vn
   simp only[sx,sy,sf,SO.run,↓reduceIte,Nat.reduceEqDiff,Nat.reduceAdd,Nat.reduceLeDiff,h4,h7,hI2.h4,hNr,rowsN_len,ryn,Option.isSome_some,Option.getD_some]
   refine next_ok (us:=e.us) (p:=e.p7) (l:=e.e7) (c:=cc) ?_ he.l7 cc0 (by omega) fun z c' g4 z0 z1 c0 c1 g7 n4 f4 lg4=>?_
   ·simpa using h7'
   simp only[sx,sy] at n4 f4 lg4
   have lg4':∀i∈g4.lg,i=e.p7:=by simpa using lg4
   have hb3:=hI2.nx
   have hI4:MI e g4 (updf (updf V (3*A+2) v1) (3*B+2) v2) (updf (updf W (3*A+2) (W (3*A+2)++[[.int .i64 (R.length:Int)]])) (3*B+2) ((updf W (3*A+2) (W (3*A+2)++[[.int .i64 (R.length:Int)]])) (3*B+2)++[[.int .i64 (R.length:Int)]])) c ow (R.length+1):=hI2.num he c0 (by omega) g7 (by omega) f4
   simp only[sx,sy,sf,SO.run,↓reduceIte,Nat.reduceEqDiff,Nat.reduceAdd,Nat.reduceLeDiff,h4,h7]
   refine sat_ex (weights_ok hd hg1.1 hg1.2 z0 z1) fun r hr=>?_
   simp only[sx,sy,sf,SO.run,↓reduceIte,Nat.reduceEqDiff,Nat.reduceAdd,Nat.reduceLeDiff,h4,h7]
   rw[bsl_one 1 [.nils] r _ (by rw[hr.cells];rfl) hr.tup,hr.cells]
   simp only[sx,sy,sf,SO.run,↓reduceIte,Nat.reduceEqDiff,Nat.reduceAdd,Nat.reduceLeDiff,h4,h7]
   have hO:=hI4.fam.1 0 (by omega)
   refine append_own (b:=e.b) (new:=[[r]]) (rows:=(updf (updf W (3*A+2) (W (3*A+2)++[[.int .i64 (R.length:Int)]])) (3*B+2) ((updf W (3*A+2) (W (3*A+2)++[[.int .i64 (R.length:Int)]])) (3*B+2)++[[.int .i64 (R.length:Int)]])) 0) (hO.fr (by simp;omega) (fun i hi=>?_)) (by simp[sx,sy,H.get_put]) (by simp;have:=hI4.nx;omega) (by rw[hI2D.len];simp[room];omega) fun v' g5 hv' n5 f5 vid5 lg5=>?_
   ·have:=(hO.lt hi).2
    simp[H.get_put];omega
   simp only[sx,sy] at n5 f5 vid5 lg5
   have hI5:MP e g5 (updf (updf V (3*A+2) v1) (3*B+2) v2) (updf (updf (updf V (3*A+2) v1) (3*B+2) v2) 0 v') (updf (updf (updf W (3*A+2) (W (3*A+2)++[[.int .i64 (R.length:Int)]])) (3*B+2) ((updf W (3*A+2) (W (3*A+2)++[[.int .i64 (R.length:Int)]])) (3*B+2)++[[.int .i64 (R.length:Int)]])) 0 ((updf (updf W (3*A+2) (W (3*A+2)++[[.int .i64 (R.length:Int)]])) (3*B+2) ((updf W (3*A+2) (W (3*A+2)++[[.int .i64 (R.length:Int)]])) (3*B+2)++[[.int .i64 (R.length:Int)]])) 0++[[r]])) c ow (R.length+1) :=
    hI4.grow he (by omega) hv' (by omega) (fun i hi hne=>by rw[f5 i (by omega) hne,if_neg (by omega)]) (by rcases vid5 with h | ⟨i,h,hi⟩;exact .inl h;exact .inr ⟨i,h,by omega⟩)
   simp only[sx,sy,sf,SO.run,↓reduceIte,Nat.reduceEqDiff,Nat.reduceAdd,Nat.reduceLeDiff,h4,h7,hI5.h4,hv'.cell.1,hv'.cell.2,foot_ref33_numbers_next,foot_ref33_weights]
   refine ⟨?_,?_⟩
   ·simp only[List.reverse_cons,List.reverse_nil,List.nil_append,List.cons_append,hrf]
    refine footsOk_mk [false,false,false,false,false,true,false,true,true,false,true] [(0,5),(1,5),(2,5),(3,5),(0,7),(1,7)] (by simp[All2,rdLook,noLook,bigLook]) (by decide) ?_
    rintro p hp x y hx hy
    simp only[List.mem_cons,List.not_mem_nil,or_false] at hp
    rcases hp with rfl | rfl | rfl | rfl | rfl | rfl
    all_goals first
     | (simp at hx hy;subst hx;subst hy;refine apart_mk rfl rfl rfl rfl ?_ ?_ ?_<;>simp[rdLook,noLook,refIds]<;>omega)
     | (simp at hx hy;subst hx;subst hy;refine apart_mk rfl rfl rfl rfl ?_ ?_ ?_<;>simp[rdLook,noLook,refIds])
     | (simp at hx hy;subst hx;subst hy;refine apart_call rfl rfl rfl ?_;intro i hi j hj;(have hi:=lg4' i hi);simp[rdLook,noLook,refIds_hptr,hrf,refIds_rptr ryn] at hj<;>omega)
   have hI3:=hI5.root (g':=(setLog (bumpG (setLog (bumpG g5 []) []) []) []).put e.p4 (.cells 3 [[.int .i64 e.gr,v',e.nv]] 0 false false)) he
    (by simp[H.get_put]) (by simp;omega) (fun i hi=>by simp[H.get_put];intro e;exact absurd e hi)
   have hI3D:=hI2D.setR (x:=S.weights e.gr (2) z) (cs:=[r]) hr
   have hF6:=hF.both (q:=2) (.inl rfl) z0 z1 (N':=updf (updf N A (N A++[(R.length:Int)])) B ((updf N A (N A++[(R.length:Int)])) B++[(R.length:Int)])) fun i hi=>by
    by_cases e1:i=B
    ·subst e1;rw[updf_self,updf_ne _ _ (Ne.symm hAB)];exact .inr (.inr rfl)
    ·rw[updf_ne _ _ e1]
     by_cases e2:i=A
     ·subst e2;rw[updf_self];exact .inr (.inr rfl)
     ·exact .inl (updf_ne _ _ e2)
   simp only[sx,sy,SO.run,↓reduceIte,Nat.reduceEqDiff,h1,h2,h3,h4,h5,h6,h7,h9,h11,MSt,St]
   refine ⟨updf (updf (updf V (3*A+2) v1) (3*B+2) v2) 0 v',updf (updf (updf W (3*A+2) (W (3*A+2)++[[.int .i64 (R.length:Int)]])) (3*B+2) ((updf W (3*A+2) (W (3*A+2)++[[.int .i64 (R.length:Int)]])) (3*B+2)++[[.int .i64 (R.length:Int)]])) 0 ((updf (updf W (3*A+2) (W (3*A+2)++[[.int .i64 (R.length:Int)]])) (3*B+2) ((updf W (3*A+2) (W (3*A+2)++[[.int .i64 (R.length:Int)]])) (3*B+2)++[[.int .i64 (R.length:Int)]])) 0++[[r]]),R++[S.weights e.gr 2 z],updf (updf N A (N A++[(R.length:Int)])) B ((updf N A (N A++[(R.length:Int)])) B++[(R.length:Int)]),?_,hI3D,hF6,fun i hi h=>?_,by simp;omega,fun i=>?_⟩
   ·rw[List.length_append];exact hI3.same he (by simp) (by simp)
   ·have:=hon i hi h
    unfold updf
    split
    ·simp
    ·split
     ·simp
     ·exact this
   ·have:=hN1 i
    have:=hN1 A
    have:=hN1 B
    by_cases e1:i=B
    ·subst e1;rw[updf_self,updf_ne _ _ (Ne.symm hAB)];simp;omega
    ·rw[updf_ne _ _ e1]
     by_cases e2:i=A
     ·subst e2;rw[updf_self];simp;omega
     ·rw[updf_ne _ _ e2];omega
  ·simp only[sx,sy,SO.run,↓reduceIte,Nat.reduceEqDiff,h1,h2,h3,h4,h5,h6,h7,h9,h11,MSt,St]
   exact ⟨V,W,R,N,hI,hD,hF,hon,by omega,fun i=>by have:=hN1 i;omega⟩
 ·rintro t df g ⟨rfl,ht,V,W,R,N,hI,hD,hF,hon,hRj,hN1⟩
  exact fin t g V W R N ht hI hD hF hon (by omega) (fun i=>by have:=hN1 i;omega)
end
end Hx
end
section
namespace Hx
open Go
noncomputable section
theorem bin_shr8 (m n:Nat):∃z:Nat,binV .shr (.int .u8 (m:Int)) (.int .u64 (n:Int))=.val (.int .u8 (z:Int)) :=
 ⟨m / 2 ^ (Nat.min n 8),rfl⟩
theorem bin_and8 (m n:Nat):∃z:Int,binV .and (.int .u8 (m:Int)) (.int .u8 (n:Int))=.val (.int .u8 z):=by
 have:∃z:Int,Op.intBits .and .u8 (.ofNat m) (.ofNat n)=.pure (.int .u8 z):=⟨_,rfl⟩
 obtain ⟨z,hz⟩:=this
 refine ⟨z,?_⟩
 show orV (pureV (Op.intBits .and .u8 (.ofNat m) (.ofNat n)))=_
 rw[hz];rfl
structure MN (e:ME) (r6:AV) (pl:List Int) (num:Nat→Nat):Prop where
 r:IT 0 pl r6
 at_:∀k,k<e.n→pl[k]?=some (num k:Int)
 lt:∀k,k<e.n→num k<e.n
 inj:∀i j,i<e.n→j<e.n→num i=num j→i=j
 sur:∀u,u<e.n→∃k,k<e.n∧num k=u
theorem updf_eq {α:Type}{f:Nat→α}{k:Nat}{x:α}(h:f k=x):updf f k x=f:=by
 funext j;by_cases e:j=k
 ·subst e;rw[updf_self,h]
 ·exact updf_ne _ _ e
theorem updf_updf {α:Type}{f:Nat→α}{k:Nat}{x y:α}:updf (updf f k x) k y=updf f k y:=by
 funext j;by_cases e:j=k
 ·subst e;rw[updf_self,updf_self]
 ·rw[updf_ne _ _ e,updf_ne _ _ e,updf_ne _ _ e]
def MSt2 (e:ME)(r6:AV)(i v:Nat)(t:T):Prop :=
 St t [(1,.hptr 0 0 0 0),(2,.hptr 1 0 0 0),(3,.int .i64 (e.n:Int)),(4,.hptr e.p4 0 0 0),(5,e.w5),(6,r6),(7,.hptr e.p7 0 0 0),(9,e.w9),(14,.int .i64 (i:Int)),(15,.int .i64 (v:Int))]
theorem m_b6 {d:Nat}{e:ME}{r6:AV}{pl:List Int}{num:Nat→Nat}{i v u cap:Nat}{Q:QT}(hd:0<d)(he:e.Ok)(hpr:MPr e)(hp:MN e r6 pl num)(hi:i<e.n)(hv:v<e.n)(hu:u<e.n)
  {t:T} {g:G} {V:Nat→AV} {W:Nat→List (List AV)} {c:Nat→Int} {ow:List Bool} {R:List (List Int)} {F N O:Nat→List Int} {l:List Int} (ht:MSt2 e r6 i v t) (h16:tat t 16=.int .i64 (u:Int)) (h17:tat t 17=.int .i64 0)
  (hI:MI e g V W c ow cap) (hD:MD e W R (updf F v l) N O) (hll:l.length≤4)
  (fin:∀t g V W l',MSt2 e r6 i v t→tat t 16=.int .i64 (u:Int)→MI e g V W c ow cap→MD e W R (updf F v l') N O→(l'=l∨(l'=l++[(u:Int)]∧∃k,k<i∧num k=u))→Q (.exit 10) t [] g) :
  wpL (wp C0 d none f_ref33_Draft_Model_b6) Q t [] g:=by
 have hoo:=he.ord
 have hn1:=he.n1
 have ryn:=rowy_vid he.vn
 have ry5:=rowy_vid he.v5
 have hpr6:=hp.r.rows
 simp only[f_ref33_Draft_Model_b6,f_ref33_Draft_Model_k5]
 refine wpL_cnt i (by omega) (fun k t df g=>df=[]∧MSt2 e r6 i v t∧tat t 16=.int .i64 (u:Int)∧∃V W l',MI e g V W c ow cap∧MD e W R (updf F v l') N O∧(l'=l∨(l'=l++[(u:Int)]∧∃k',k'<k∧num k'=u)))
  ⟨rfl,ht,h16,V,W,l,hI,hD,.inl rfl⟩ h17 (by decide) (by rintro j t df g v s (rfl | rfl | rfl)<;>simp[MSt2,St,sx]) ?_ ?_ ?_
 ·rintro j t df g hj ⟨rfl,⟨h1,h2,h3,h4,h5,h6,h7,h9,h14,h15,-⟩,h16,hx⟩ h17
  simp only[sx,sy,SO.run,↓reduceIte,Nat.reduceEqDiff,h1,h2,h3,h4,h5,h6,h7,h9,h14,h15,h16,h17,MSt2,St]
  exact hx
 ·clear ht h16 h17 hI hD
  rintro j t df g hj ⟨rfl,⟨h1,h2,h3,h4,h5,h6,h7,h9,h14,h15,-⟩,h16,V,W,l',hI,hD,hl'⟩ h17
  obtain ⟨y,oa,hy,hoa⟩:=hpr.2 i hi
  have hip:i<e.prow.length:=by rw[hpr.1];exact hi
  have hjl:j<pl.length:=(List.getElem?_eq_some_iff.1 (hp.at_ j (by omega))).1
  have hnj:=hp.at_ j (by omega)
  simp only[sx,sy,SO.run,↓reduceIte,Nat.reduceEqDiff,h6,h16,h17,hpr6,hjl,hnj,List.length_map,List.getElem?_map,Option.map_some,ci,Option.isSome_some,Option.getD_some]
  by_cases hq:num j=u
  ·have hq1:decide (((num j:Nat):Int)=(u:Int))=true:=by simp[hq]
   obtain ⟨z1,e1⟩:=bin_shr8 y.2.1.toNat j
   obtain ⟨z2,e2⟩:=bin_and8 z1 1
   have e2:binV .and (.int .u8 (z1:Int)) (.int .u8 1)=.val (.int .u8 z2):=e2
   simp only[sx,sy,SO.run,↓reduceIte,Nat.reduceEqDiff,Nat.reduceAdd,h5,h14,h17,hq1,hI.h5.rows,hip,hy,ry5,Option.isSome_some,Option.getD_some,u8v,wrapu64 (show 0≤(j:Int) by omega) (show (j:Int)<18446744073709551616 by omega),e1,e2]
   refine bifP_mk (fun hb=>?_) (fun hb=>?_)
   ·have hl2:l'=l:=by
     rcases hl' with h | ⟨h,k',hk',hk2⟩
     ·exact h
     ·have:=hp.inj k' j (by omega) (by omega) (by omega);omega
    rw[hl2] at hD
    have hlF:(updf F v l v).length≤100:=by rw[updf_self];omega
    have hNr:=hI.hN.rows
    have hrf:=refs_some hI.hN he.vn
    have hbb:=hI.nx
    have hlb:=hlF
    have hO:=hI.fam.1 (3*v+1) (by omega)
    simp only[sx,sy,sf,SO.run,↓reduceIte,Nat.reduceEqDiff,Nat.reduceAdd,Nat.reduceLeDiff,h4,h15,h16,hI.h4,hNr,rowsN_len,hv,ryn,rowsN_get c (V) hv,rowN,Option.isSome_some,Option.getD_some]
    refine append_own (b:=e.b) (rows:=(W) (3*v+1)) (new:=[[.int .i64 ((u:Int))]]) (hO.fr (by simp;omega) (fun i' hi'=>?_)) (by simp[sx,sy,H.get_put]) (by simp;omega) (by rw[hD.f v hv];simp[room];omega) fun v1 ga hv1 n1 f1 vid1 lg1=>?_
    ·have:=(hO.lt hi').2
     simp[H.get_put];omega
    simp only[sx,sy] at n1 f1 vid1 lg1
    have hP:=hI.grow (g':=ga) (k:=3*v+1) (rows':=(W) (3*v+1)++[[.int .i64 ((u:Int))]]) he (by omega) hv1 (by omega) (fun i' hi' hne=>by rw[f1 i' (by omega) hne,if_neg (by omega)]) (by rcases vid1 with h | ⟨i',h,hi'⟩;exact .inl h;exact .inr ⟨i',h,by omega⟩)
    have hNr2:=hP.hN.rows
    have hrf2:=refs_some hP.hN he.vn
    simp only[sx,sy,sf,SO.run,↓reduceIte,Nat.reduceEqDiff,Nat.reduceAdd,Nat.reduceLeDiff,h4,h15,h16,hP.h4,hNr2,rowsN_len,hv,ryn,Option.isSome_some,Option.getD_some]
    refine store_own (row:=rowN c (V) v) (row':=rowN c (updf (V) (3*v+1) v1) v) (hP.same he (by simp) (by simp;omega)).hN (rowsN_get _ _ hv) (by rw[hv1.cell.1];rfl) hv1.cell.2 ?_ fun g1 x2 n2 f2=>?_
    ·simp only[rowN,hv1.cell.1,putCells_eq,sx,sy,↓reduceIte,Nat.reduceAdd,Nat.reduceLeDiff,updf_self,updf_ne (V) (k:=3*v+1) (j:=3*v+2) _ (by omega),updf_ne (V) (k:=3*v+1) (j:=3*v+3) _ (by omega)]
    rw[rowsN_set rfl (fun i' hi'=>rowN_ne (by omega) hi')] at x2
    simp only[sx,sy] at n2 f2
    have hI1:=hP.node (g':=g1) he x2 (updf_ne _ _ (by omega)) (by omega) f2
    have hI1D:=hD.setF v (((updf F v l)) v++[(u:Int)])
    rw[List.map_append,←hD.f v hv] at hI1D
    simp only[List.map_cons,List.map_nil,ci] at hI1D
    simp only[sx,sy,sf,SO.run,↓reduceIte,Nat.reduceEqDiff,Nat.reduceAdd,Nat.reduceLeDiff,h4,h15,h16]
    refine ⟨?_,?_⟩
    ·simp only[List.reverse_cons,List.reverse_nil,List.nil_append,List.cons_append,hrf,hrf2]
     refine footsOk_mk [false,false,false,false,false,false,false,false,false,false,true,true,false,false,true] [(0,10),(1,10),(2,10),(3,10),(4,10),(5,10),(6,10),(7,10),(8,10),(0,11),(1,11),(2,11)] (by simp[All2,rdLook,noLook,bigLook]) (by decide) ?_
     rintro p hp x y hx hy
     simp only[List.mem_cons,List.not_mem_nil,or_false] at hp
     rcases hp with rfl | rfl | rfl | rfl | rfl | rfl | rfl | rfl | rfl | rfl | rfl | rfl<;>(simp at hx hy;subst hx;subst hy;refine apart_mk rfl rfl rfl rfl ?_ ?_ ?_<;>simp[rdLook,noLook,refIds_hptr,hrf,refIds_rptr ryn]<;>first | omega | (intro i' hi';rcases lg1 i' hi' with h | h<;>first | omega | simp at h) | skip)
    clear hNr hrf hbb hO hP hNr2 hrf2 x2 f2 n2 f1 n1 vid1 lg1 hlb
    rw[updf_updf,updf_self] at hI1D
    simp only[sx,sy,SO.run,↓reduceIte,Nat.reduceEqDiff,h1,h2,h3,h4,h5,h6,h7,h9,h14,h15,h16,h17,MSt2,St]
    exact ⟨_,_,l++[(u:Int)],hI1.same he (by simp) (by simp),hI1D,.inr ⟨rfl,j,by omega,hq⟩⟩
   ·simp only[sx,sy,SO.run,↓reduceIte,Nat.reduceEqDiff,h1,h2,h3,h4,h5,h6,h7,h9,h14,h15,h16,h17,MSt2,St]
    refine ⟨V,W,l',hI,hD,?_⟩
    rcases hl' with h | ⟨h,k',hk',hk2⟩
    ·exact .inl h
    ·exact .inr ⟨h,k',by omega,hk2⟩
  ·have hq1:decide (((num j:Nat):Int)=(u:Int))=false:=by simp;omega
   simp only[sx,sy,SO.run,↓reduceIte,Nat.reduceEqDiff,h1,h2,h3,h4,h5,h6,h7,h9,h14,h15,h16,h17,hq1,MSt2,St]
   refine ⟨V,W,l',hI,hD,?_⟩
   rcases hl' with h | ⟨h,k',hk',hk2⟩
   ·exact .inl h
   ·exact .inr ⟨h,k',by omega,hk2⟩
 ·rintro t df g ⟨rfl,ht,h16,V,W,l',hI,hD,hl'⟩
  exact fin t g V W l' ht h16 hI hD hl'
theorem m_b8 {d:Nat}{e:ME}{r6:AV}{pl:List Int}{num:Nat→Nat}{i v cap:Nat}{Q:QT}(hd:0<d)(he:e.Ok)(hpr:MPr e)(hp:MN e r6 pl num)(hi:i<e.n)(hv:v<e.n)
  {t:T} {g:G} {V:Nat→AV} {W:Nat→List (List AV)} {c:Nat→Int} {ow:List Bool} {R:List (List Int)} {F N O:Nat→List Int} (ht:MSt2 e r6 i v t) (h16:tat t 16=.int .i64 0)
  (hI:MI e g V W c ow cap) (hD:MD e W R F N O) (hFv:F v=[])
  (fin:∀t g V W l,MSt2 e r6 i v t→MI e g V W c ow cap→MD e W R (updf F v l) N O→S.places l e.n=true→(∀x∈l,∃k,k<i∧x=(num k:Int))→l.length≤4→Q (.exit 8) t [] g) :
  wpL (wp C0 d none f_ref33_Draft_Model_b8) Q t [] g:=by
 have hoo:=he.ord
 have hn1:=he.n1
 simp only[f_ref33_Draft_Model_b8,f_ref33_Draft_Model_k7]
 refine wpL_cnt e.n (by omega) (fun u t df g=>df=[]∧MSt2 e r6 i v t∧∃V W l,MI e g V W c ow cap∧MD e W R (updf F v l) N O∧S.places l e.n=true∧(∀x∈l,x<(u:Int))∧(∀x∈l,∃k,k<i∧x=(num k:Int))∧l.length≤u)
  ⟨rfl,ht,V,W,[],hI,by rw[updf_eq hFv];exact hD,rfl,by simp,by simp,Nat.le_refl _⟩ h16 (by decide) (by rintro j t df g v s (rfl | rfl | rfl)<;>simp[MSt2,St,sx]) ?_ ?_ ?_
 ·rintro j t df g hj ⟨rfl,⟨h1,h2,h3,h4,h5,h6,h7,h9,h14,h15,-⟩,hx⟩ h16
  simp only[sx,sy,SO.run,↓reduceIte,Nat.reduceEqDiff,h1,h2,h3,h4,h5,h6,h7,h9,h14,h15,h16,MSt2,St]
  exact hx
 ·clear ht h16 hI hD
  rintro j t df g hj ⟨rfl,ht,V,W,l,hI,hD,hl1,hl2,hl3,hl4⟩ h16
  simp only[sx,sy,SO.run,↓reduceIte,Nat.reduceEqDiff]
  refine m_b6 hd he hpr hp hi hv hj (by obtain ⟨h1,h2,h3,h4,h5,h6,h7,h9,h14,h15,-⟩:=ht;simp[MSt2,St,sx,h1,h2,h3,h4,h5,h6,h7,h9,h14,h15]) (by simp[sx,h16]) (by simp[sx]) hI hD (by omega) fun t g V W l' ht h16 hI hD hl'=>?_
  simp only[sx,sy,SO.run,↓reduceIte,Nat.reduceEqDiff]
  refine ⟨⟨ht,V,W,l',hI,hD,?_⟩,h16⟩
  rcases hl' with rfl | ⟨rfl,k,hk,hk2⟩
  ·exact ⟨hl1,fun x hx=>by have:=hl2 x hx;omega,hl3,by omega⟩
  ·refine ⟨places_snoc hl1 hl2 (by omega) (by omega) (Int.le_refl _),fun x hx=>?_,fun x hx=>?_,by simp;omega⟩
   ·rcases List.mem_append.1 hx with h | h
    ·have:=hl2 x h;omega
    ·simp at h;omega
   ·rcases List.mem_append.1 hx with h | h
    ·exact hl3 x h
    ·simp at h;exact ⟨k,hk,by omega⟩
 ·rintro t df g ⟨rfl,ht,V,W,l,hI,hD,hl1,hl2,hl3,hl4⟩
  exact fin t g V W l ht hI hD hl1 hl3 (by omega)
end
end Hx
end
