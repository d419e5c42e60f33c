/- A part of the proof: an interpreter over abstract values, shown right against the model, and what the functions of the chapter compute on it. -/
import Derived.KernelRfl
import Derived.Test.YtaebcalnodgpnaaHx13
set_option linter.unusedVariables false
set_option linter.unusedSimpArgs false
set_option linter.unnecessarySimpa false
section
namespace Hx
open Go
noncomputable section
def upto (f:Nat→Int)(n i:Nat):List Int:=(List.range n).map fun j=>if j<i then f j else 0
theorem upto_len (f:Nat→Int)(n i:Nat):(upto f n i).length=n:=by simp[upto]
theorem upto_zero (f:Nat→Int)(n:Nat):upto f n 0=List.replicate n 0:=by
 refine List.ext_getElem (by simp[upto]) fun i h1 h2=>by simp[upto]
theorem upto_all (f:Nat→Int)(n:Nat):upto f n n=(List.range n).map f:=by
 refine List.ext_getElem (by simp[upto]) fun i h1 h2=>?_
 have:i<n:=by simpa [upto] using h1
 simp[upto,this]
theorem upto_set {f:Nat→Int}{n i:Nat}:(upto f n i).set i (f i)=upto f n (i+1):=by
 refine List.ext_getElem (by simp[upto]) fun j h1 h2=>?_
 rw[List.getElem_set]
 simp only[upto,List.getElem_map,List.getElem_range]
 split
 ·rename_i e;subst e;rw[if_pos (by omega)]
 ·rename_i e
  by_cases h:j<i
  ·rw[if_pos h,if_pos (by omega)]
  ·rw[if_neg h,if_neg (by omega)]
theorem upto_row {f:Nat→Int}{n i j:Nat}(hj:j<n):∃y,((upto f n i).map ci)[j]?=some (ci y) :=
 ⟨(upto f n i)[j]'(by rw[upto_len];exact hj),by rw[List.getElem?_map,List.getElem?_eq_getElem (by rw[upto_len];exact hj)];rfl⟩
def S.tabW (m:Causal)(al:List Int):Nat→List Int
 | 0=>List.replicate (S.cards m).toNat 0
 | j+1=>(S.tabW m al j).set (S.idx (m.nodes.map (·.card)) (S.run m (S.values (S.lens m) (j:Int)) al)).toNat
   (IntKind.wrap .i64 ((S.tabW m al j)[(S.idx (m.nodes.map (·.card)) (S.run m (S.values (S.lens m) (j:Int)) al)).toNat]?.getD 0+S.weight m (j:Int)))
theorem tabW_len (m:Causal)(al:List Int):∀j,(S.tabW m al j).length=(S.cards m).toNat
 | 0=>by simp[S.tabW]
 | j+1=>by simp[S.tabW,tabW_len m al j]
def S.table (m:Causal)(al:List Int):Factor:=⟨(List.range m.nodes.length).map (fun i:Nat=>(i:Int)),m.nodes.map (·.card),S.tabW m al (S.hidden m).toNat⟩
def S.ttable (m:Causal)(al:List Int):Factor:=if S.readE m [al]=0 then S.table m al else ⟨[],[],[]⟩
theorem run_inC {m:Causal}{al roots:List Int}(hck:S.check m=true)(hr:InC (S.lens m) roots)(ha:S.act m al=true):InC (m.nodes.map (·.card)) (S.run m roots al):=by
 refine inC_of (by simp[S.run]) fun i c v hc hv=>?_
 have hi:i<m.nodes.length:=by have:=(List.getElem?_eq_some_iff.1 hc).1;simpa using this
 have hx:=List.getElem?_eq_getElem hi
 rw[List.getElem?_map,hx] at hc
 rw[S.run,List.getElem?_map,List.getElem?_range hi] at hv
 injection hc with hc;injection hv with hv
 rw[←hc,←hv]
 exact sol_bound hck hr ha (sol_V hck roots al) i _ hx
theorem card_bound {m:Causal}(hck:S.check m=true):∀c∈m.nodes.map (·.card),1≤c∧c≤4:=fun c hc=>by
 obtain ⟨x,hx,rfl⟩:=List.mem_map.1 hc;exact (check_facts hck).1.card x hx
theorem cards_max {m:Causal}(hck:S.check m=true):1≤S.cards m∧S.cards m≤1024:=by
 obtain ⟨hs,hgr,hn1,hro,hno⟩:=check_facts hck
 have hb:=prod_bound (card_bound hck)
 simp only[S.nodesOk,Bool.and_eq_true,decide_eq_true_eq] at hno
 exact ⟨hb.1,hno.2⟩
theorem tab_idx {m:Causal}{al:List Int}(hck:S.check m=true)(ha:S.act m al=true){j:Int}(hj:0≤j) :
  0≤S.idx (m.nodes.map (·.card)) (S.run m (S.values (S.lens m) j) al)∧S.idx (m.nodes.map (·.card)) (S.run m (S.values (S.lens m) j) al)<S.cards m :=
 idx_bound (card_bound hck) (run_inC hck (values_inC (fun c hc=>by have:=lens_bound (check_facts hck).1 c hc;omega) hj) ha)
structure TI (g:G) (q:Nat) (m:Causal) (k1 k2 act u1 u2 u3:AV) (A B W:List Int):Prop where
 a1:g.h.get 1=.cells 1 [[act]] 0 false false
 a2:g.h.get 2=.cells 3 [[.nils,.nils,.nils]] 0 false false
 a4:g.h.get 4=.cells 4 [[.int .i64 m.grain,k1,k2,.int .i64 (S.hidden m)]] 0 false false
 bq:g.h.get q=.cells 3 [[u1,u2,u3]] 0 false false
 o1:Own g 5 u1 1 (A.map ci)
 o2:Own g 5 u2 1 (B.map ci)
 o3:Own g 5 u3 1 (W.map ci)
 q5:5≤q∧q<g.nx
 n1:∀i,vid u1=some i→i≠q∧vid u2≠some i∧vid u3≠some i
 n2:∀i,vid u2=some i→i≠q∧vid u3≠some i
 n3:∀i,vid u3=some i→i≠q
section
variable {g g':G}{q:Nat}{m:Causal}{k1 k2 act u1 u2 u3:AV}{A B W:List Int}
theorem TI.fr (h:TI g q m k1 k2 act u1 u2 u3 A B W)(hn:g.nx≤g'.nx)(hf:∀i,i<g.nx→g'.h.get i=g.h.get i):TI g' q m k1 k2 act u1 u2 u3 A B W:=by
 have q5:=h.q5
 exact ⟨by rw[hf _ (by omega),h.a1],by rw[hf _ (by omega),h.a2],by rw[hf _ (by omega),h.a4],by rw[hf _ (by omega),h.bq],h.o1.fr hn fun i hi=>hf i (h.o1.lt hi).2,h.o2.fr hn fun i hi=>hf i (h.o2.lt hi).2,
  h.o3.fr hn fun i hi=>hf i (h.o3.lt hi).2,by omega,h.n1,h.n2,h.n3⟩
theorem TI.set1 (h:TI g q m k1 k2 act u1 u2 u3 A B W){A':List Int}(o:Own g' 5 u1 1 (A'.map ci))(hn:g.nx≤g'.nx)(hf:∀i,i<g.nx→vid u1≠some i→g'.h.get i=g.h.get i):TI g' q m k1 k2 act u1 u2 u3 A' B W:=by
 have q5:=h.q5
 have lt:=fun i hi=>h.o1.lt (i:=i) hi
 exact ⟨by rw[hf _ (by omega) (fun e=>by have:=lt _ e;omega),h.a1],by rw[hf _ (by omega) (fun e=>by have:=lt _ e;omega),h.a2],by rw[hf _ (by omega) (fun e=>by have:=lt _ e;omega),h.a4],by rw[hf _ (by omega) (fun e=>(h.n1 _ e).1 rfl),h.bq],o,
  h.o2.fr hn fun i hi=>hf i (h.o2.lt hi).2 fun e=>(h.n1 _ e).2.1 hi,h.o3.fr hn fun i hi=>hf i (h.o3.lt hi).2 fun e=>(h.n1 _ e).2.2 hi,by omega,h.n1,h.n2,h.n3⟩
theorem TI.set2 (h:TI g q m k1 k2 act u1 u2 u3 A B W){B':List Int}(o:Own g' 5 u2 1 (B'.map ci))(hn:g.nx≤g'.nx)(hf:∀i,i<g.nx→vid u2≠some i→g'.h.get i=g.h.get i):TI g' q m k1 k2 act u1 u2 u3 A B' W:=by
 have q5:=h.q5
 have lt:=fun i hi=>h.o2.lt (i:=i) hi
 exact ⟨by rw[hf _ (by omega) (fun e=>by have:=lt _ e;omega),h.a1],by rw[hf _ (by omega) (fun e=>by have:=lt _ e;omega),h.a2],by rw[hf _ (by omega) (fun e=>by have:=lt _ e;omega),h.a4],by rw[hf _ (by omega) (fun e=>(h.n2 _ e).1 rfl),h.bq],
  h.o1.fr hn fun i hi=>hf i (h.o1.lt hi).2 fun e=>(h.n1 _ hi).2.1 e,o,h.o3.fr hn fun i hi=>hf i (h.o3.lt hi).2 fun e=>(h.n2 _ e).2 hi,by omega,h.n1,h.n2,h.n3⟩
theorem TI.set3 (h:TI g q m k1 k2 act u1 u2 u3 A B W){W':List Int}(o:Own g' 5 u3 1 (W'.map ci))(hn:g.nx≤g'.nx)(hf:∀i,i<g.nx→vid u3≠some i→g'.h.get i=g.h.get i):TI g' q m k1 k2 act u1 u2 u3 A B W':=by
 have q5:=h.q5
 have lt:=fun i hi=>h.o3.lt (i:=i) hi
 exact ⟨by rw[hf _ (by omega) (fun e=>by have:=lt _ e;omega),h.a1],by rw[hf _ (by omega) (fun e=>by have:=lt _ e;omega),h.a2],by rw[hf _ (by omega) (fun e=>by have:=lt _ e;omega),h.a4],by rw[hf _ (by omega) (fun e=>h.n3 _ e rfl),h.bq],
  h.o1.fr hn fun i hi=>hf i (h.o1.lt hi).2 fun e=>(h.n1 _ hi).2.2 e,h.o2.fr hn fun i hi=>hf i (h.o2.lt hi).2 fun e=>(h.n2 _ hi).2 e,o,by omega,h.n1,h.n2,h.n3⟩
theorem table_b0 {d:Nat}{t:T}{Q:QT}(hck:S.check m=true)(hN:SlR NoP 0 .nil m.nodes k2)(hI:TI g q m k1 k2 act u1 u2 u3 (upto (fun i=>(i:Int)) m.nodes.length 0) (upto (fun i=>S.cardAt m (i:Int)) m.nodes.length 0) W)
  (ht:St t [(3,.hptr 1 0 0 0),(4,.hptr 2 0 0 0),(6,.hptr 4 0 0 0),(9,.hptr q 0 0 0),(41,k2),(8,.int .i64 1)]) (h43:tat t 43=.int .i64 0) (h42:tat t 42=.int .i64 (m.nodes.length:Int))
  (fin:∀t g',St t [(3,.hptr 1 0 0 0),(4,.hptr 2 0 0 0),(6,.hptr 4 0 0 0),(9,.hptr q 0 0 0),(41,k2),(8,.int .i64 (S.cards m))]→TI g' q m k1 k2 act u1 u2 u3 (upto (fun i=>(i:Int)) m.nodes.length m.nodes.length) (upto (fun i=>S.cardAt m (i:Int)) m.nodes.length m.nodes.length) W→Q (.exit 0) t [] g') :
  wpL (wp C0 d none f_twin_Table_b0) Q t [] g:=by
 obtain ⟨hs,hgr,hn1,hro,hno⟩:=check_facts hck
 have hn5:=hs.nodes
 obtain ⟨rows,r1,r2,r3,r4⟩:=hN.all
 have r1:∀h',rowsOf h' 4 k2=some rows:=r1
 simp only[f_twin_Table_b0]
 refine wpL_range (m:=m.nodes.length) (by omega) (fun j t df g'=>df=[]∧St t [(3,.hptr 1 0 0 0),(4,.hptr 2 0 0 0),(6,.hptr 4 0 0 0),(9,.hptr q 0 0 0),(41,k2),(8,.int .i64 (S.prod ((m.nodes.take j).map (·.card))))] ∧
   TI g' q m k1 k2 act u1 u2 u3 (upto (fun i=>(i:Int)) m.nodes.length j) (upto (fun i=>S.cardAt m (i:Int)) m.nodes.length j) W)
  ⟨rfl,ht,hI⟩ h43 h42 (by decide) (by rintro j t df g v s (rfl | rfl | rfl)<;>simp[St,sx]) ?_ ?_
 ·rintro j t df g' hj ⟨rfl,⟨h3,h4,h6,h9,h41,h8,-⟩,hI⟩ h43 h42
  obtain ⟨x,hx,htk,hm⟩:=take_next hj
  obtain ⟨row,q1,q2⟩:=r3 j x hx
  obtain ⟨fa,fb,fc,rfl,-,-,-⟩:=rp_mech.1 q2
  have hlt:j<rows.length:=by omega
  have hq:=hI.q5
  have hqn:¬q=g'.nx:=by omega
  have hca:S.cardAt m (j:Int)=x.card:=by simp[S.cardAt,hx]
  have hb1:=cards_bound hs j
  have hb2:=cards_bound hs (j+1)
  rw[htk,List.map_append,List.map_singleton,prod_snoc] at hb2
  obtain ⟨y1,hy1⟩:=upto_row (f:=fun i=>(i:Int)) (n:=m.nodes.length) (i:=j) (j:=j) hj
  obtain ⟨y2,hy2⟩:=upto_row (f:=fun i=>S.cardAt m (i:Int)) (n:=m.nodes.length) (i:=j) (j:=j) hj
  have hl1:j<((upto (fun i=>(i:Int)) m.nodes.length j).map ci).length:=by rw[List.length_map,upto_len];exact hj
  have hl2:j<((upto (fun i=>S.cardAt m (i:Int)) m.nodes.length j).map ci).length:=by rw[List.length_map,upto_len];exact hj
  refine seq_cut (P:=fun t df g1=>df=[]∧St t [(3,.hptr 1 0 0 0),(4,.hptr 2 0 0 0),(6,.hptr 4 0 0 0),(9,.hptr q 0 0 0),(41,k2),(42,.int .i64 (m.nodes.length:Int)),(43,.int .i64 (j:Int)),(8,.int .i64 (S.prod ((m.nodes.take j).map (·.card)))),(10,.int .i64 (j:Int)),(11,.hptr g'.nx 0 0 0)] ∧
   TI g1 q m k1 k2 act u1 u2 u3 (upto (fun i=>(i:Int)) m.nodes.length j) (upto (fun i=>S.cardAt m (i:Int)) m.nodes.length j) W∧g1.h.get g'.nx=.cells 4 [[.int .i64 x.card,fa,fb,fc]] 0 false false∧g'.nx<g1.nx) ?_ ?_
  ·simp only[sx,sy,SO.run,↓reduceIte,Nat.reduceEqDiff,Nat.reduceAdd,Nat.reduceLeDiff,h3,h4,h6,h8,h9,h41,h42,h43,r1,hlt,q1,Option.isSome_some,Option.getD_some,St,true_and,and_true]
   exact ⟨hI.fr (by simp) fun i hi=>by simp[H.get_put,show ¬i=g'.nx by omega],by omega⟩
  rintro t df g1 ⟨rfl,⟨h3,h4,h6,h9,h41,h42,h43,h8,h10,h11,-⟩,hI1,hx1,hxn⟩
  have hry1:rowy u1=true:=rowy_of hI1.o1.rows hl1
  have hry2:rowy u2=true:=rowy_of hI1.o2.rows hl2
  simp only[sx,sy,sf,SO.run,↓reduceIte,Nat.reduceEqDiff,Nat.reduceAdd,Nat.reduceLeDiff,h9,h10,h11,hI1.bq,hx1,hI1.o1.rows,hl1,hy1,Option.isSome_some,Option.getD_some]
  refine store_ownL (b:=5) (v:=u1) (sz:=1) (n:=1) (off:=0) (x:=.int .i64 (j:Int)) (row:=ci y1) (row':=ci (j:Int)) ?_ hy1 rfl rfl rfl fun g2 o2 n2 f2 l2=>?_
  ·exact hI1.o1.fr (by simp;omega) fun i _=>by simp
  rw[←List.map_set,upto_set (f:=fun i=>(i:Int))] at o2
  have hI2:TI g2 q m k1 k2 act u1 u2 u3 (upto (fun i=>(i:Int)) m.nodes.length (j+1)) (upto (fun i=>S.cardAt m (i:Int)) m.nodes.length j) W :=
   hI1.set1 o2 (by rw[n2];simp;omega) fun i _ hne=>by rw[f2 i hne];simp
  have hx2:g2.h.get g'.nx=.cells 4 [[.int .i64 x.card,fa,fb,fc]] 0 false false:=by rw[f2 _ (fun e=>by have:=(hI.o1.lt e).2;omega)];simpa using hx1
  simp only[sx,sy,sf,SO.run,↓reduceIte,Nat.reduceEqDiff,Nat.reduceAdd,Nat.reduceLeDiff,h9,h10,h11,hI2.bq,hx2,hI2.o2.rows,hl2,hy2,Option.isSome_some,Option.getD_some]
  refine store_ownL (b:=5) (v:=u2) (sz:=1) (n:=1) (off:=0) (x:=.int .i64 x.card) (row:=ci y2) (row':=ci x.card) ?_ hy2 rfl rfl rfl fun g3 o3 n3 f3 l3=>?_
  ·exact hI2.o2.fr (by simp;omega) fun i _=>by simp
  rw[←hca,←List.map_set,upto_set (f:=fun i=>S.cardAt m (i:Int))] at o3
  have hI3:TI g3 q m k1 k2 act u1 u2 u3 (upto (fun i=>(i:Int)) m.nodes.length (j+1)) (upto (fun i=>S.cardAt m (i:Int)) m.nodes.length (j+1)) W :=
   hI2.set2 o3 (by rw[n3];simp;omega) fun i _ hne=>by rw[f3 i hne];simp
  have hx3:g3.h.get g'.nx=.cells 4 [[.int .i64 x.card,fa,fb,fc]] 0 false false:=by rw[f3 _ (fun e=>by have:=(hI.o2.lt e).2;omega)];simpa using hx2
  have lg2:∀i∈g2.lg,vid u1=some i:=fun i hi=>by rcases l2 i hi with h | h;simp at h;exact h
  simp only[sx,sy,sf,SO.run,↓reduceIte,Nat.reduceEqDiff,Nat.reduceAdd,Nat.reduceLeDiff,h3,h4,h6,h8,h9,h10,h11,h41,h42,h43,hx3,bumpG_h,
   wrap64 (show -9223372036854775808≤S.prod ((m.nodes.take j).map (·.card))*x.card by omega) (show S.prod ((m.nodes.take j).map (·.card))*x.card<9223372036854775808 by omega),St,true_and,and_true]
  refine ⟨?_,?_⟩
  ·simp only[List.reverse_cons,List.reverse_nil,List.nil_append,List.cons_append]
   refine footsOk_mk [false,false,false,false,false,false,false,false,false,false,true,false,true] [(3,10),(4,10),(5,10),(7,10),(8,10)] (by simp[All2,rdLook,noLook,bigLook]) (by decide) ?_
   rintro p hp x y hx hy
   simp only[List.mem_cons,List.not_mem_nil,or_false] at hp
   rcases hp with rfl | rfl | rfl | rfl | rfl<;>(simp at hx hy;subst hx;subst hy;refine apart_mk rfl rfl rfl rfl ?_ ?_ ?_)<;>simp[rdLook,noLook,refIds]
   ·intro i hi e;subst e;exact (hI.n1 _ (lg2 _ hi)).1 rfl
   ·intro i hi e;subst e;have:=(hI.o1.lt (lg2 _ hi)).2;omega
  ·rw[htk,List.map_append,List.map_singleton,prod_snoc]
   exact ⟨rfl,hI3.fr (by simp) fun i _=>by simp⟩
 ·rintro t df g' ⟨rfl,ht,hI⟩
  rw[List.take_length] at ht
  exact fin t g' ht hI
end
end
end Hx
end
section
namespace Hx
open Go
noncomputable section
theorem cards_upto (m:Causal):upto (fun i=>S.cardAt m (i:Int)) m.nodes.length m.nodes.length=m.nodes.map (·.card):=by
 rw[upto_all]
 refine List.ext_getElem (by simp) fun i h1 h2=>?_
 have:i<m.nodes.length:=by simpa using h2
 simp[S.cardAt,List.getElem?_eq_getElem this]
theorem table_body {d:Nat}{rd:Option Nat}{m:Causal}{t:T}{g:G}{q j:Nat}{al A:List Int}{k1 k2 act u1 u2 u3 u:AV}{P:Nat→Prop}(hd:0<d)(hck:S.check m=true)(hac:S.act m al=true)
  (hks:∀h,Agg (⟨m,S.hidden m⟩:KnownM) NoP 0 h (.agg [.int .i64 m.grain,k1,k2,.int .i64 (S.hidden m)])) (ha:SlR NoP 0 .nil al act) (hu:SlR P 0 g.h (S.values (S.lens m) (j:Int)) u)
  (ht:St t [(3,.hptr 1 0 0 0),(6,.hptr 4 0 0 0),(9,.hptr q 0 0 0),(12,u),(13,.int .i64 (S.weight m (j:Int)))]) (hI:TI g q m k1 k2 act u1 u2 u3 A (m.nodes.map (·.card)) (S.tabW m al j)) :
  wp C0 d rd f_twin_Table_b4 (fun e _ df g3=>e=.norm∧df=[]∧TI g3 q m k1 k2 act u1 u2 u3 A (m.nodes.map (·.card)) (S.tabW m al (j+1))∧g3.nx=g.nx∧∀i,vid u3≠some i→g3.h.get i=g.h.get i) t [] g:=by
 obtain ⟨hs,hgr,hn1,hro,hno⟩:=check_facts hck
 have hn5:=hs.nodes
 have hvi:=values_inC (l:=S.lens m) (h:=(j:Int)) (fun c hc=>by have:=lens_bound hs c hc;omega) (Int.natCast_nonneg j)
 have hri:=run_inC (al:=al) hck hvi hac
 have hcl:(m.nodes.map (·.card)).length=m.nodes.length:=by simp
 have hrl:(S.run m (S.values (S.lens m) (j:Int)) al).length=m.nodes.length:=by simp[S.run]
 obtain ⟨h3,h6,h9,h12,h13,-⟩:=ht
 simp only[f_twin_Table_b4,sx,sy,SO.run,↓reduceIte,Nat.reduceEqDiff,Nat.reduceAdd,Nat.reduceLeDiff,h3,h6,h9,h12,h13,hI.a1,hI.a4]
 refine sat_ex (run_ok (P:=NoP) (k:=0) (Pa:=NoP) (ka:=0) hd (hks _) hu (ha.tree (Nat.le_refl _)) hck hvi hac) fun r hr=>?_
 simp only[sx,sy,SO.run,↓reduceIte,Nat.reduceEqDiff,Nat.reduceAdd,Nat.reduceLeDiff,h3,h6,h9,h12,h13,hr.len,hrl]
 simp only[f_twin_Table_b2]
 refine wpL_range (m:=m.nodes.length) (by omega) (fun i t df g'=>df=[]∧g'=g∧St t [(9,.hptr q 0 0 0),(13,.int .i64 (S.weight m (j:Int))),(74,r),(14,.int .i64 (hz (m.nodes.map (·.card)) (S.run m (S.values (S.lens m) (j:Int)) al) i))])
  ⟨rfl,rfl,by simp[St,sx,h9,h13,hz_zero]⟩ (by simp[sx]) (by simp[sx]) (by decide) (by rintro j t df g v s (rfl | rfl | rfl)<;>simp[St,sx]) ?_ ?_
 ·rintro i t df g' hi ⟨rfl,rfl,⟨h9,h13,h74,h14,-⟩⟩ h76 h75
  obtain ⟨c,hc,-,-⟩:=take_next (l:=m.nodes.map (·.card)) (j:=i) (by omega)
  obtain ⟨v,hv,hv0⟩:=hri.get hc
  have hlc:i<((m.nodes.map (·.card)).map ci).length:=by rw[List.length_map];omega
  have hlv:i<((S.run m (S.values (S.lens m) (j:Int)) al).map ci).length:=by rw[List.length_map];omega
  have hrc:((m.nodes.map (·.card)).map ci)[i]?=some (ci c):=by rw[List.getElem?_map,hc];rfl
  have hrv:((S.run m (S.values (S.lens m) (j:Int)) al).map ci)[i]?=some (ci v):=by rw[List.getElem?_map,hv];rfl
  have hb:=hz_bound (card_bound hck) (by omega) hri i
  have hb2:=hz_bound (card_bound hck) (by omega) hri (i+1)
  have hcb:=card_bound hck c (List.mem_of_getElem? hc)
  have hsuc:=hz_succ hc hv
  have hmul:0≤hz (m.nodes.map (·.card)) (S.run m (S.values (S.lens m) (j:Int)) al) i*c:=Int.mul_nonneg hb.1 (by omega)
  have hmul2:hz (m.nodes.map (·.card)) (S.run m (S.values (S.lens m) (j:Int)) al) i*c≤67108864*4:=Int.mul_le_mul hb.2 hcb.2 (by omega) (by decide)
  simp only[sx,sy,SO.run,↓reduceIte,Nat.reduceEqDiff,Nat.reduceAdd,Nat.reduceLeDiff,h9,h13,h14,h74,h75,h76,hI.bq,hI.o2.rows,hr.rows,hlc,hlv,hrc,hrv,ci,Option.isSome_some,Option.getD_some,
   wrap64 (show -9223372036854775808≤hz (m.nodes.map (·.card)) (S.run m (S.values (S.lens m) (j:Int)) al) i*c by omega) (show hz (m.nodes.map (·.card)) (S.run m (S.values (S.lens m) (j:Int)) al) i*c<9223372036854775808 by omega),←hsuc,
   wrap64 (show -9223372036854775808≤hz (m.nodes.map (·.card)) (S.run m (S.values (S.lens m) (j:Int)) al) (i+1) by omega) (show hz (m.nodes.map (·.card)) (S.run m (S.values (S.lens m) (j:Int)) al) (i+1)<9223372036854775808 by omega),St,true_and,and_true]
 ·rintro t df g' ⟨rfl,rfl,⟨h9,h13,h74,h14,-⟩⟩
  rw[←hcl,hz_all (by omega)] at h14
  have hti:=tab_idx (al:=al) hck hac (Int.natCast_nonneg j)
  obtain ⟨z,hz⟩:=Int.eq_ofNat_of_zero_le hti.1
  have hcm:=cards_max hck
  have hzl:z<(S.tabW m al j).length:=by rw[tabW_len];omega
  obtain ⟨y,hy⟩:∃y,(S.tabW m al j)[z]?=some y:=⟨_,List.getElem?_eq_getElem hzl⟩
  have hry:((S.tabW m al j).map ci)[z]?=some (ci y):=by rw[List.getElem?_map,hy];rfl
  have hrl:z<((S.tabW m al j).map ci).length:=by rw[List.length_map];exact hzl
  have hT:S.tabW m al (j+1)=(S.tabW m al j).set z (IntKind.wrap .i64 (y+S.weight m (j:Int))):=by
   rw[S.tabW,hz];show (S.tabW m al j).set (Int.toNat (z:Int)) (IntKind.wrap .i64 ((S.tabW m al j)[Int.toNat (z:Int)]?.getD 0+_))=_
   rw[Int.toNat_natCast,hy];rfl
  rw[hz] at h14
  simp only[f_twin_Table_k3,sx,sy,SO.run,↓reduceIte,Nat.reduceEqDiff,Nat.reduceAdd,Nat.reduceLeDiff,h9,h13,h14,hI.bq,hI.o3.rows,hrl,hry,ci,Option.isSome_some,Option.getD_some]
  refine store_own (row:=ci y) (row':=ci (IntKind.wrap .i64 (y+S.weight m (j:Int)))) hI.o3 hry rfl rfl rfl fun g3 o3 n3 f3=>?_
  rw[←List.map_set,←hT] at o3
  simp only[sx,sy,SO.run,↓reduceIte,Nat.reduceEqDiff]
  exact ⟨hI.set3 o3 (by omega) fun i _ hne=>f3 i hne,n3,f3⟩
theorem cutG {C:Cfg}{d:Nat}{rd:Option Nat}{a b:SC}{Q:QT}{t:T}{df:List ADf}{g:G}{P:PT}(h1:wp C d rd a (fun e t df g=>e=.norm∧P t df g) t df g)(h2:∀t df g,P t df g→wp C d rd b Q t df g):wp C d rd (.seq a b) Q t df g:=by
 rw[wp_seq]
 refine wp_mono _ h1 ?_
 rintro e t df g ⟨rfl,h⟩
 exact h2 t df g h
theorem ttable_ok {d:Nat}{g:G}{v act:AV}{m:Causal}{al:List Int}(hd:0<d)(hm:Agg m NoP 0 g.h v)(ha:SlR NoP 0 .nil al act) :
  ∃r,callV C0 d N.twin_Table [v,act] g=.val r∧Tup2 (Agg (S.ttable m al)) (One (S.readE m [al])) NoP 0 .nil r:=by
 have e0:=agg_same d hm
 have e1:=sl_same (h:=g.h) d (ha.tree (h':=g.h) (Nat.le_refl 0))
 obtain ⟨cs,rfl,hc⟩:=hm
 obtain ⟨a,b,rfl,hR,hN⟩:=rp_causal.1 hc
 have hms:∀h,Agg m NoP 0 h (.agg [.int .i64 m.grain,a,b]):=fun h=>⟨_,rfl,Rp.tree hc (Nat.le_refl _)⟩
 rw[call_twin_Table]
 refine iso_run eq_twin_Table (xs:=[.agg [.int .i64 m.grain,a,b],act]) (by simp only[mapO,e0,e1]) (by simp[f_twin_Table]) (snb_tup2 (m:=2) (snb_agg _) (snb_one _) (by decide) (by decide)) (by decide) hd ?_
 simp only[f_twin_Table,sx,sy,SO.run,↓reduceIte,Nat.reduceEqDiff,Nat.reduceAdd,ha.cell.1,ha.cell.2]
 obtain ⟨g0,hg0⟩:∃g0,g0=((G.empty.new (AObj.cells 3 [[AV.int IntKind.i64 m.grain,a,b]] 0 false false)).new (AObj.cells 1 [[act]] 0 false false)).new (AObj.cells 3 [[.nils,.nils,.nils]] 0 false false):=⟨_,rfl⟩
 rw[←hg0]
 have f0:g0.h.get 0=.cells 3 [[.int .i64 m.grain,a,b]] 0 false false:=by rw[hg0];simp[sx,H.get_put]
 have f1:g0.h.get 1=.cells 1 [[act]] 0 false false:=by rw[hg0];simp[sx,H.get_put]
 have f2:g0.h.get 2=.cells 3 [[.nils,.nils,.nils]] 0 false false:=by rw[hg0];simp[sx,H.get_put]
 have fn:g0.nx=3:=by rw[hg0];simp[sx]
 clear hg0
 simp only[f_twin_Table_r,sx,sy,SO.run,↓reduceIte,Nat.reduceEqDiff,Nat.reduceAdd,Nat.reduceLeDiff,f0,f1]
 rw[bsl_one 1 [.nils] act _ (by rw[ha.cell.1];rfl) ha.cell.2,ha.cell.1]
 simp only[sx,sy,SO.run,↓reduceIte,Nat.reduceEqDiff,Nat.reduceAdd,Nat.reduceLeDiff,fn]
 have hls:SlR (fun _=>True) 0 (g0.new (.cells 1 [[act]] 0 false false)).h [al] (.hsl 3 0 0 1 none):=one_lst ha (by simp[fn,H.get_put])
 refine sat_ex (read_ok (ls:=[al]) (Nat.succ_pos d) (Nat.succ_pos d) (hms _) hls) fun r hr=>?_
 obtain ⟨ra,rb,rfl,hra,hrb⟩:=hr
 have hrb:=rp_int.1 hrb
 injection hrb with hrb
 subst hrb
 obtain ⟨kc,rfl,hkc⟩:=hra
 obtain ⟨k1,k2,rfl,hk1,hk2⟩:=rp_known.1 hkc
 simp only[sx,sy,SO.run,↓reduceIte,Nat.reduceEqDiff,Nat.reduceAdd,Nat.reduceLeDiff,fn,H.get_put]
 refine bifP_mk (fun hb=>?_) (fun hb=>?_)
 ·have hne:S.readE m [al]≠0:=by simpa using hb
  simp only[sx,sy,SO.run,↓reduceIte,Nat.reduceEqDiff,Nat.reduceAdd,Nat.reduceLeDiff,f2,fn,H.get_put]
  have:S.ttable m al=⟨[],[],[]⟩:=by rw[S.ttable,if_neg hne]
  rw[this]
  exact ⟨NoP,_,_,rfl,⟨_,rfl,rp_factor.2 ⟨.nils,.nils,.nils,rfl,⟨by decide,rfl⟩,⟨by decide,rfl⟩,⟨by decide,rfl⟩⟩⟩,rp_int.2 rfl⟩
 ·have hE:S.readE m [al]=0:=by simpa using hb
  have hE':=hE
  rw[read_one'] at hE'
  have hck:S.check m=true:=by
   cases hc:S.check m with
   | true=>rfl
   | false=>rw[hc] at hE';simp at hE'
  have hac:S.act m al=true:=by
   cases hc:S.act m al with
   | true=>rfl
   | false=>rw[hck,hc] at hE';simp at hE'
  have hrd:S.read m [al]=⟨m,S.hidden m⟩:=by unfold S.read;rw[if_pos hE]
  rw[hrd] at hkc hk1 hk2
  simp only[hrd] at *
  obtain ⟨hs,hgr,hn1,hro,hno⟩:=check_facts hck
  have hr8:=hs.roots
  have hn5:=hs.nodes
  have hks:∀h,Agg (⟨m,S.hidden m⟩:KnownM) NoP 0 h (.agg [.int .i64 m.grain,k1,k2,.int .i64 (S.hidden m)]):=fun h=>⟨_,rfl,Rp.tree hkc (Nat.le_refl _)⟩
  simp only[wp_skip,kS_norm]
  refine seq_cut (P:=fun t df g1=>df=[]∧St t [(3,.hptr 1 0 0 0),(4,.hptr 2 0 0 0),(6,.hptr 4 0 0 0),(8,.int .i64 1)]∧g1.h.get 1=.cells 1 [[act]] 0 false false∧g1.h.get 2=.cells 3 [[.nils,.nils,.nils]] 0 false false ∧
   g1.h.get 4=.cells 4 [[.int .i64 m.grain,k1,k2,.int .i64 (S.hidden m)]] 0 false false∧g1.nx=5) ?_ ?_
  ·simp[sx,sy,SO.run,St,H.get_put,fn,f1,f2]
  rintro t df g1 ⟨rfl,⟨h3,h4,h6,h8,-⟩,e1,e2,e4,en⟩
  refine cutG (P:=fun t df g2=>df=[]∧St t [(3,.hptr 1 0 0 0),(4,.hptr 2 0 0 0),(6,.hptr 4 0 0 0),(8,.int .i64 1)]∧∃q u1 u2,tat t 9=.hptr q 0 0 0∧TI g2 q m k1 k2 act u1 u2 .nils (upto (fun i=>(i:Int)) m.nodes.length 0) (upto (fun i=>S.cardAt m (i:Int)) m.nodes.length 0) []) ?_ ?_
  ·simp only[sx,sy,sf,SO.run,↓reduceIte,Nat.reduceEqDiff,Nat.reduceAdd,Nat.reduceLeDiff,H.get_put,h6,e4,hk2.len]
   refine mks_ownL (b:=5) (n:=m.nodes.length) (by simp[room];omega) (by simp[room];omega) (by simp[en]) fun u1 g2 hu1 n2 fr2 v2 l2=>?_
   have c4:g2.h.get 4=.cells 4 [[.int .i64 m.grain,k1,k2,.int .i64 (S.hidden m)]] 0 false false:=by rw[fr2 4 (by simp[en])];simpa using e4
   simp only[sx,sy,sf,SO.run,↓reduceIte,Nat.reduceEqDiff,Nat.reduceAdd,Nat.reduceLeDiff,H.get_put,h6,c4,hk2.len]
   refine mks_ownL (b:=5) (n:=m.nodes.length) (by simp[room];omega) (by simp[room];omega) (by simp[n2,en]) fun u2 g3 hu2 n3 fr3 v3 l3=>?_
   have hc1:=hu1.cell
   have hc2:=hu2.cell
   simp only[sx,sy,sf,SO.run,↓reduceIte,Nat.reduceEqDiff,Nat.reduceAdd,Nat.reduceLeDiff,H.get_put,h3,h4,h6,h8,hc1.1,hc1.2,hc2.1,hc2.2,St,true_and,and_true]
   simp only[bumpG_nx,setLog_nx,setLog_lg,en,Nat.reduceAdd] at n2 v2 l2
   simp only[bumpG_nx,setLog_nx,setLog_lg,n2,Nat.reduceAdd] at n3 v3 l3
   have d1:g3.h.get 1=.cells 1 [[act]] 0 false false:=by rw[fr3 1 (by simp[n2])];simp;rw[fr2 1 (by simp[en])];simpa using e1
   have d2:g3.h.get 2=.cells 3 [[.nils,.nils,.nils]] 0 false false:=by rw[fr3 2 (by simp[n2])];simp;rw[fr2 2 (by simp[en])];simpa using e2
   have d4:g3.h.get 4=.cells 4 [[.int .i64 m.grain,k1,k2,.int .i64 (S.hidden m)]] 0 false false:=by rw[fr3 4 (by simp[n2])];simpa using c4
   have o1:Own g3 5 u1 1 ((upto (fun i=>(i:Int)) m.nodes.length 0).map ci):=by
    rw[upto_zero,List.map_replicate]
    exact hu1.fr (by omega) fun i hi=>by rw[v2] at hi;injection hi with hi;subst hi;rw[fr3 9 (by simp[n2])];simp
   have o2:Own g3 5 u2 1 ((upto (fun i=>S.cardAt m (i:Int)) m.nodes.length 0).map ci):=by
    rw[upto_zero,List.map_replicate];exact hu2
   refine ⟨?_,_,u1,u2,rfl,?_⟩
   ·simp only[List.reverse_cons,List.reverse_nil,List.nil_append,List.cons_append,l2,l3,n3]
    refine footsOk_mk [false,false,false,false,true,false,false,false,false,true,false,true,true] [(4,5),(4,6),(4,7),(4,8),(4,9),(4,11),(0,9),(1,9),(2,9),(3,9),(0,11),(1,11),(2,11),(3,11),(5,11),(6,11),(7,11),(8,11),(9,11),(10,11)] (by simp[All2,rdLook,noLook,bigLook]) (by decide) ?_
    rintro p hp x y hx hy
    simp only[List.mem_cons,List.not_mem_nil,or_false] at hp
    rcases hp with rfl | rfl | rfl | rfl | rfl | rfl | rfl | rfl | rfl | rfl | rfl | rfl | rfl | rfl | rfl | rfl | rfl | rfl | rfl | rfl<;>(simp at hx hy;subst hx;subst hy;refine apart_mk rfl rfl rfl rfl ?_ ?_ ?_<;>simp[rdLook,noLook,refIds,n3])
   ·refine ⟨?_,?_,?_,?_,?_,?_,.inl ⟨rfl,rfl⟩,?_,?_,?_,fun i hi=>by cases hi⟩
    ·simp[H.get_put,n3,d1]
    ·simp[H.get_put,n3,d2]
    ·simp[H.get_put,n3,d4]
    ·simp[H.get_put,n3]
    ·exact o1.fr (by simp;omega) fun i hi=>by rw[v2] at hi;injection hi with hi;subst hi;simp[H.get_put,n3]
    ·exact o2.fr (by simp;omega) fun i hi=>by rw[v3] at hi;injection hi with hi;subst hi;simp[H.get_put,n3]
    ·simp[n3]
    ·intro i hi;rw[v2] at hi;injection hi with hi;subst hi
     exact ⟨by omega,by rw[v3];simp,by simp[vid]⟩
    ·intro i hi;rw[v3] at hi;injection hi with hi;subst hi
     exact ⟨by omega,by simp[vid]⟩
  ·rintro t df g2 ⟨rfl,⟨h3,h4,h6,h8,-⟩,q,u1,u2,h9,hI⟩
   have hq5:=hI.q5
   simp only[sx,sy,SO.run,↓reduceIte,Nat.reduceEqDiff,Nat.reduceAdd,Nat.reduceLeDiff,h3,h4,h6,h8,h9,hI.a4,hk2.len]
   refine table_b0 (d:=d+1) hck hk2 hI (by simp[St,sx,h3,h4,h6,h8,h9]) (by simp[sx]) (by simp[sx]) fun t g3 ht hI3=>?_
   obtain ⟨h3,h4,h6,h9,h41,h8,-⟩:=ht
   have hcm:=cards_max hck
   obtain ⟨sz,hsz⟩:=Int.eq_ofNat_of_zero_le (show 0≤S.cards m by omega)
   rw[hsz] at h8
   rw[cards_upto] at hI3
   have hq5:=hI3.q5
   simp only[f_twin_Table_k6,sx,sy,SO.run,↓reduceIte,Nat.reduceEqDiff,Nat.reduceAdd,Nat.reduceLeDiff,h3,h4,h6,h8,h9]
   refine mks_own (b:=5) (n:=sz) (by simp[room];omega) (by simp[room];omega) (by omega) fun u3 g4 hu3 n4 fr4 v4=>?_
   have hI4:TI g4 q m k1 k2 act u1 u2 .nils (upto (fun i=>(i:Int)) m.nodes.length m.nodes.length) (m.nodes.map (·.card)) []:=hI3.fr (by omega) fr4
   have hc3:=hu3.cell
   have hq4:¬4=q:=by omega
   have hI5:TI (g4.put q (.cells 3 [[u1,u2,u3]] 0 false false)) q m k1 k2 act u1 u2 u3 (upto (fun i=>(i:Int)) m.nodes.length m.nodes.length) (m.nodes.map (·.card)) (S.tabW m al 0):=by
    have v1:=fun i hi=>hI3.o1.lt (i:=i) hi
    have v2:=fun i hi=>hI3.o2.lt (i:=i) hi
    refine ⟨?_,?_,?_,?_,?_,?_,?_,by simp;omega,?_,?_,?_⟩
    ·simp[H.get_put,show ¬1=q by omega,hI4.a1]
    ·simp[H.get_put,show ¬2=q by omega,hI4.a2]
    ·simp[H.get_put,hq4,hI4.a4]
    ·simp[H.get_put]
    ·exact hI4.o1.fr (by simp) fun i hi=>by simp[H.get_put,(hI4.n1 i hi).1]
    ·exact hI4.o2.fr (by simp) fun i hi=>by simp[H.get_put,(hI4.n2 i hi).1]
    ·rw[S.tabW,hsz,Int.toNat_natCast,List.map_replicate]
     exact hu3.fr (by simp) fun i hi=>by rw[v4] at hi;injection hi with hi;subst hi;simp[H.get_put,show ¬g3.nx=q by omega]
    ·exact fun i hi=>⟨(hI4.n1 i hi).1,(hI4.n1 i hi).2.1,by rw[v4];intro e;injection e with e;have:=v1 i hi;omega⟩
    ·exact fun i hi=>⟨(hI4.n2 i hi).1,by rw[v4];intro e;injection e with e;have:=v2 i hi;omega⟩
    ·exact fun i hi=>by rw[v4] at hi;injection hi with hi;omega
   simp only[sx,sy,SO.run,↓reduceIte,Nat.reduceEqDiff,Nat.reduceAdd,Nat.reduceLeDiff,h3,h4,h6,h8,h9,hI4.bq,hI4.a4,hq4,hc3.1,hc3.2,H.get_put]
   obtain ⟨wcs,hw,hwr⟩:=worlds_ok (g:=g4.put q (.cells 3 [[u1,u2,u3]] 0 false false)) (Nat.succ_pos d) (hks _)
   rw[hw]
   simp only[sx,sy,SO.run,↓reduceIte,Nat.reduceEqDiff,Nat.reduceAdd,Nat.reduceLeDiff]
   generalize g4.put q (.cells 3 [[u1,u2,u3]] 0 false false)=g5 at hI5
   refine rng_worlds (d:=d+1) hck hwr (by simp[sx]) (by decide) (by decide) (fun j h=>TI ⟨h,g5.nx,[]⟩ q m k1 k2 act u1 u2 u3 (upto (fun i=>(i:Int)) m.nodes.length m.nodes.length) (m.nodes.map fun x:Mech=>x.card) (S.tabW m al j)) ?_ (hI5.fr (Nat.le_refl _) fun _ _=>rfl) ?_ ?_
   ·exact fun j h h' hh hI=>hI.fr (Nat.le_refl _) hh
   ·intro j u g6 hj hJ hn hu
    have hJ:TI ⟨g6.h,g5.nx,[]⟩ q m k1 k2 act u1 u2 u3 (upto (fun i=>(i:Int)) m.nodes.length m.nodes.length) (m.nodes.map (·.card)) (S.tabW m al j):=hJ
    simp only[f_twin_Table_a1,sx,sy,SO.run,↓reduceIte,Nat.reduceEqDiff,Nat.reduceAdd,Nat.reduceLeDiff,true_and]
    intro g7 hn7 hf7
    have v3:=fun i hi=>hJ.o3.lt (i:=i) hi
    have hJ7:TI g7 q m k1 k2 act u1 u2 u3 (upto (fun i=>(i:Int)) m.nodes.length m.nodes.length) (m.nodes.map (·.card)) (S.tabW m al j):=hJ.fr (by show g5.nx≤g7.nx;omega) fun i hi=>hf7 i (by have hi:i<g5.nx:=hi;omega)
    have hu7:SlR (fun i=>g5.nx+2≤i) 0 g7.h (S.values (S.lens m) (j:Int)) u:=by
     obtain ⟨w,e,q⟩:=Rp.mono (P':=fun i=>g5.nx+2≤i) (k':=0) (h':=g7.h) (show Rp.rp (fun i=>g5.nx+2≤i) 0 g6.h (S.values (S.lens m) (j:Int)) [u] from ⟨u,rfl,hu⟩) (fun i hi=>⟨hi,hf7 i (by omega)⟩) (Nat.le_refl _)
     injection e with e;subst e;exact q
    refine wp_mono _ (table_body (d:=d+1) (rd:=some (g5.nx+1)) (j:=j) (al:=al) (Nat.succ_pos d) hck hac hks ha hu7 (by simp[St,sx,h3,h6,h9]) hJ7) ?_
    rintro e t' df g8 ⟨rfl,rfl,b1,b2,b3⟩
    have v3':∀i,vid u3=some i→i<g5.nx:=fun i hi=>(v3 i hi).2
    refine ⟨rfl,rfl,?_,by omega,fun i h1 h2=>b3 i fun e=>by have:=v3' i e;omega⟩
    have b4:∀i,vid u3=some i→i<g5.nx:=v3'
    exact ⟨b1.a1,b1.a2,b1.a4,b1.bq,by
     rcases b1.o1 with h | ⟨id,ep,lo,c1,c2,c3,c4⟩
     ·exact .inl h
     ·exact .inr ⟨id,ep,lo,c1,(hJ.o1.lt (i:=id) (by rw[c3];rfl)).2,c3,c4⟩,by
     rcases b1.o2 with h | ⟨id,ep,lo,c1,c2,c3,c4⟩
     ·exact .inl h
     ·exact .inr ⟨id,ep,lo,c1,(hJ.o2.lt (i:=id) (by rw[c3];rfl)).2,c3,c4⟩,by
     rcases b1.o3 with h | ⟨id,ep,lo,c1,c2,c3,c4⟩
     ·exact .inl h
     ·exact .inr ⟨id,ep,lo,c1,(hJ.o3.lt (i:=id) (by rw[c3];rfl)).2,c3,c4⟩,hJ.q5,b1.n1,b1.n2,b1.n3⟩
   ·intro g9 hJ hn hdf
    have hJ:TI ⟨g9.h,g5.nx,[]⟩ q m k1 k2 act u1 u2 u3 (upto (fun i=>(i:Int)) m.nodes.length m.nodes.length) (m.nodes.map (·.card)) (S.tabW m al (S.hidden m).toNat):=hJ
    have hq5:=hJ.q5
    have hq5:5≤q∧q<g5.nx:=hq5
    have j2:g9.h.get 2=.cells 3 [[.nils,.nils,.nils]] 0 false false:=hJ.a2
    have jq:g9.h.get q=.cells 3 [[u1,u2,u3]] 0 false false:=hJ.bq
    simp only[f_twin_Table_k5,sx,sy,SO.run,↓reduceIte,Nat.reduceEqDiff,Nat.reduceAdd,Nat.reduceLeDiff,h3,h4,h6,h8,h9,j2,jq]
    refine endP_mark (by simp[H.get_put,hdf,show ¬g5.nx=2 by omega]) ?_
    simp only[sx,sy,SO.run,↓reduceIte,Nat.reduceEqDiff,Nat.reduceAdd,Nat.reduceLeDiff,h4,H.get_put,show ¬2=g5.nx by omega]
    have hT:S.ttable m al=S.table m al:=by rw[S.ttable,if_pos hE]
    rw[hT,hE]
    have key:∀(hh:H) (L:List Int) (z:AV),(∀i,5≤i→i<g5.nx→hh.get i=g9.h.get i)→Own ⟨g9.h,g5.nx,[]⟩ 5 z 1 (L.map ci)→L.length<9223372036854775808→SlR (fun _=>True) 0 hh L z:=fun hh L z he ho hl =>
     Own.sl (α:=Int) (g:=⟨hh,g5.nx,[]⟩) (ho.fr (Nat.le_refl _) fun i hi=>he i (ho.lt hi).1 (ho.lt hi).2) hl (All2.of_map (fun a=>rp_int.2 rfl) _) fun _ _=>trivial
    refine ⟨fun _=>True,_,_,rfl,⟨_,rfl,rp_factor.2 ⟨u1,u2,u3,rfl,?_,?_,?_⟩⟩,rp_int.2 rfl⟩
    ·have h1:=hJ.o1
     rw[upto_all] at h1
     exact key _ _ _ (fun i h1 h2=>by simp[H.get_put,show ¬i=g5.nx by omega,show ¬i=2 by omega]) h1 (by simp[S.table];omega)
    ·exact key _ _ _ (fun i h1 h2=>by simp[H.get_put,show ¬i=g5.nx by omega,show ¬i=2 by omega]) hJ.o2 (by simp[S.table];omega)
    ·exact key _ _ _ (fun i h1 h2=>by simp[H.get_put,show ¬i=g5.nx by omega,show ¬i=2 by omega]) hJ.o3 (by show (S.tabW m al (S.hidden m).toNat).length<_;rw[tabW_len];omega)
end
end Hx
end
section
namespace Hx
open Go
noncomputable section
theorem snb_ex' {α:Type}{C:α→Prop}{S:α→VS}{j:Nat}(h:∀a,Snb (S a) j):Snb (fun P k h v=>∃a,C a∧S a P k h v) j :=
 ⟨fun {P k hh v n} d r hn=>by
  obtain ⟨a,c,r⟩:=r
  obtain ⟨v',e,r'⟩:=(h a).snap d r hn
  exact ⟨v',e,a,c,r'⟩,fun {k hh v n} r hn=>by
  obtain ⟨a,c,r⟩:=r
  exact (h a).tag r hn⟩
theorem nodup_sub:∀{A L:List Nat},A.Nodup→(∀v∈A,v∈L)→A.length≤L.length
 | [],_,_,_=>Nat.zero_le _
 | a::A,L,hA,h=>by
  rw[List.nodup_cons] at hA
  have ha:=h a (by simp)
  have:=nodup_sub (A:=A) (L:=L.erase a) hA.2 fun v hv=>(List.mem_erase_of_ne (fun e=>hA.1 (by rw[←e];exact hv))).2 (h v (by simp[hv]))
  rw[List.length_erase_of_mem ha] at this
  have:=List.length_pos_of_mem ha
  simp only[List.length_cons]
  omega
def Ord (p:List Nat)(L:List Nat):Prop:=(∀v,v<p.length→v∈L)∧∀(i v:Nat),L[i]?=some v→v<p.length∧∀q,(Par p v).testBit q=true→q∈L.take i
def Ordi (p:List Nat)(L:List Nat):Prop:=L.Nodup∧∀(i v:Nat),L[i]?=some v→v<p.length∧∀q,(Par p v).testBit q=true→q∈L.take i
theorem ordi_len {p L:List Nat}(h:Ordi p L):L.length≤p.length:=by
 have:=nodup_sub (L:=List.range p.length) h.1 fun v hv=>by
  obtain ⟨i,hi,rfl⟩:=List.mem_iff_getElem.1 hv
  exact List.mem_range.2 (h.2 i _ (List.getElem?_eq_getElem hi)).1
 simpa using this
theorem ordi_snoc {p L:List Nat}(h:Ordi p L){v:Nat}(hv:v ∉ L)(hl:v<p.length)(hp:∀q,(Par p v).testBit q=true→q∈L):Ordi p (L++[v]):=by
 refine ⟨?_,fun i u hu=>?_⟩
 ·rw[List.nodup_append]
  exact ⟨h.1,by simp,fun a ha b hb=>by simp at hb;subst hb;exact fun e=>hv (e ▸ ha)⟩
 ·rcases Nat.lt_or_ge i L.length with hi | hi
  ·rw[List.getElem?_append_left hi] at hu
   obtain ⟨h1,h2⟩:=h.2 i u hu
   exact ⟨h1,fun q hq=>by rw[List.take_append_of_le_length (by omega)];exact h2 q hq⟩
  ·rw[List.getElem?_append_right hi] at hu
   have:i=L.length:=by
    have:=(List.getElem?_eq_some_iff.1 hu).1;simp at this;omega
   subst this
   simp at hu;subst hu
   exact ⟨hl,fun q hq=>by rw[List.take_left];exact hp q hq⟩
theorem ordi_full {p L:List Nat}(h:Ordi p L)(hl:p.length≤L.length):Ord p L:=by
 refine ⟨fun v hv=>?_,h.2⟩
 by_cases hm:v∈L
 ·exact hm
 ·have:=nodup_sub (A:=v::L) (L:=List.range p.length) (List.nodup_cons.2 ⟨hm,h.1⟩) fun u hu=>by
   rcases List.mem_cons.1 hu with rfl | hu
   ·exact List.mem_range.2 hv
   ·obtain ⟨i,hi,rfl⟩:=List.mem_iff_getElem.1 hu
    exact List.mem_range.2 (h.2 i _ (List.getElem?_eq_getElem hi)).1
  simp at this
  omega
theorem ready_ex {p L:List Nat}{r:Nat→Nat}(hr:∀v,v<p.length→∀q,(Par p v).testBit q=true→q<p.length∧r q<r v):∀n v,r v≤n→v<p.length→v ∉ L→∃w,w<p.length∧w ∉ L∧∀q,(Par p w).testBit q=true→q∈L:=by
 intro n
 induction n with
 | zero =>
  intro v hn hv hl
  exact ⟨v,hv,hl,fun q hq=>by have:=(hr v hv q hq).2;omega⟩
 | succ n ih =>
  intro v hn hv hl
  by_cases h:∃q,(Par p v).testBit q=true∧q ∉ L
  ·obtain ⟨q,h1,h2⟩:=h
   obtain ⟨h3,h4⟩:=hr v hv q h1
   exact ih q (by omega) h3 h2
  ·refine ⟨v,hv,hl,fun q hq=>?_⟩
   by_cases h':q∈L
   ·exact h'
   ·exact absurd ⟨q,hq,h'⟩ h
theorem miss_ex {p L:List Nat}(h:Ordi p L)(hl:L.length<p.length):∃v,v<p.length∧v ∉ L:=by
 by_cases hh:∃v,v<p.length∧v ∉ L
 ·exact hh
 ·exfalso
  have:=nodup_sub (A:=List.range p.length) (L:=L) List.nodup_range fun v hv=>by
   by_cases h':v∈L
   ·exact h'
   ·exact absurd ⟨v,List.mem_range.1 hv,h'⟩ hh
  simp at this
  omega
def SetL (D:Nat)(L:List Nat):Prop:=D<18446744073709551616∧∀v,D.testBit v=true↔v∈L
theorem setL_snoc {D:Nat}{L:List Nat}(h:SetL D L){v:Nat}(hv:v<64):SetL (D ||| S.bit v) (L++[v]):=by
 refine ⟨or_lt h.1 (bit_lt v),fun u=>?_⟩
 rw[or_tb,bit_tb hv,Bool.or_eq_true,h.2,decide_eq_true_eq,List.mem_append,List.mem_singleton]
 constructor
 ·rintro (h | h)
  ·exact .inl h
  ·exact .inr h.symm
 ·rintro (h | h)
  ·exact .inl h
  ·exact .inr h.symm
def OrdV (p:List Nat):VS:=fun P k h v=>∃L:List Nat,Ord p L∧One (L.map fun i:Nat=>(i:Int)) P k h v
theorem order_ok {d k:Nat}{g:G}{P:Nat→Prop}{v:AV}{p:List Nat}{r:Nat→Nat}(hd:0<d)(hv:SlR P k g.h p v)(hn:p.length≤5)(hr:∀v,v<p.length→∀q,(Par p v).testBit q=true→q<p.length∧r q<r v) :
  ∃z,callV C0 d N.ref05_Order [v] g=.val z∧OrdV p NoP 0 .nil z:=by
 obtain ⟨v',e,r1⟩:=arg_sl hv d
 have hlt:=all_lt_of_sl hv
 rw[call_ref05_Order]
 refine iso_run eq_ref05_Order (xs:=[v']) (by simp only[mapO,e]) (by simp[f_ref05_Order]) (snb_ex' fun a=>snb_one _) (by decide) hd ?_
 have vl:∀g,lenF .slice v' g=.val (.int .i64 (p.length:Int)):=fun g=>(r1 .nil).len g
 simp only[f_ref05_Order,sx,sy,SO.run,↓reduceIte,Nat.reduceEqDiff,Nat.reduceAdd]
 refine wpL_mk (fun n t df g=>df=[]∧∃(L:List Nat) (D:Nat) (u:AV),n=p.length - L.length∧Ordi p L∧SetL D L∧St t [(0,v'),(3,u),(4,.int .u64 (D:Int))]∧Own g 0 u 1 ((L.map fun i:Nat=>(i:Int)).map ci)) p.length
  ⟨rfl,[],0,.nils,by simp,⟨by simp,by simp⟩,⟨by decide,by simp⟩,by simp[sx,St],.inl ⟨rfl,rfl⟩⟩ ?_
 rintro n t df g ⟨rfl,L,D,u,rfl,hO,hD,⟨h0,h3,h4,-⟩,hu⟩
 have hLl:=ordi_len hO
 have hul:∀g',lenF .slice u g'=.val (.int .i64 (L.length:Int)):=fun g'=>by rw[len_rows' hu.rows];simp
 simp only[f_ref05_Order_b1,sx,sy,SO.run,↓reduceIte,Nat.reduceEqDiff,Nat.reduceAdd,h0,h3,h4,vl,hul]
 refine bifP_mk (fun hb=>?_) (fun hb=>?_)
 ·have hlt2:L.length<p.length:=by simpa using hb
  simp only[sx,sy,SO.run,↓reduceIte,Nat.reduceEqDiff,Nat.reduceAdd,h0,h3,h4]
  obtain ⟨v0,hv0,hv0'⟩:=miss_ex hO hlt2
  obtain ⟨w,hw,hwL,hwp⟩:=ready_ex hr (r v0) v0 (Nat.le_refl _) hv0 hv0'
  simp only[f_ref05_Order_b0]
  refine wpL_len (m:=p.length) (by omega) vl (fun j t df g'=>df=[]∧g'=g∧St t [(3,u),(4,.int .u64 (D:Int))]∧j≤w) ⟨rfl,rfl,by simp[sx,St,h3,h4],Nat.zero_le _⟩ (by simp[sx]) (by simp[sx,h0]) (by decide)
   (by rintro j t df g v s (rfl | rfl | rfl | rfl | rfl | rfl | rfl)<;>simp[sx,St]) ?_ ?_
  ·rintro j t df g' hj ⟨rfl,rfl,⟨h3,h4,-⟩,hjw⟩ h5 h0
   obtain ⟨x,hx,-,hxm⟩:=take_next hj
   have hpj:Par p j=x:=by simp[Par,hx]
   have hxl:=hlt x hxm
   have hjl:j<(p.map cu).length:=by simpa using hj
   have hjr:(p.map cu)[j]?=some (cu x):=by rw[List.getElem?_map,hx];rfl
   simp only[sx,sy,SO.run,↓reduceIte,Nat.reduceEqDiff,Nat.reduceAdd,h0,h3,h4,h5,in_ok (Nat.succ_pos d) hD.1 (show j<9223372036854775808 by omega),isIn_eq]
   have noteq:D.testBit j=true→j≠w:=fun h e=>by subst e;exact hwL ((hD.2 j).1 h)
   cases hin:D.testBit j with
   | true =>
    have:=noteq hin
    simp only[sx,sy,SO.run,↓reduceIte,Nat.reduceEqDiff,Nat.reduceAdd,h0,h3,h4,h5,Bool.not_true,St,true_and,and_true]
    omega
   | false =>
    have hjL:j ∉ L:=fun h=>by rw[(hD.2 j).2 h] at hin;cases hin
    simp only[sx,sy,SO.run,↓reduceIte,Nat.reduceEqDiff,Nat.reduceAdd,h0,h3,h4,h5,Bool.not_false,(r1 g'.h).nats,hjl,hjr,cu,Option.isSome_some,Option.getD_some,bin_andNot _ _ hxl hD.1]
    refine bifP_mk (fun hb=>?_) (fun hb=>?_)
    ·have hd0:S.diff x D=0:=by simpa [S.diff] using hb
     have hsub:=diff_zero.1 hd0
     simp only[sx,sy,SO.run,↓reduceIte,Nat.reduceEqDiff,Nat.reduceAdd,h0,h3,h4,h5]
     refine append_own (new:=[ci (j:Int)]) (hu.step (Fr.new _ _)) (by simp[sx,sy,ci]) (by simp) (by simp[room];omega) fun u2 g2 hu2 n2 f2 _ _=>?_
     have hone:∀n:Nat,binV .shl (.int .u64 1) (.int .u64 (n:Int))=.val (.int .u64 (S.bit n:Int)):=fun n=>bin_one_shl .u64 n
     simp only[sx,sy,SO.run,↓reduceIte,Nat.reduceEqDiff,Nat.reduceAdd,h0,h3,h4,h5,wrapu64 (show (0:Int)≤(j:Int) by omega) (by omega),hone,bin_or _ _ hD.1 (bit_lt j)]
     refine ⟨p.length - (L++[j]).length,by simp;omega,L++[j],D ||| S.bit j,u2,rfl,ordi_snoc hO hjL hj fun q hq=>?_,setL_snoc hD (by omega),by simp[sx,St,h0],?_⟩
     ·rw[hpj] at hq;exact (hD.2 q).1 (hsub q hq)
     ·simpa [ci] using hu2
    ·have hne:j≠w:=fun e=>by
      subst e
      have:S.diff x D=0:=diff_zero.2 fun q hq=>(hD.2 q).2 (hwp q (by rw[hpj];exact hq))
      simp[S.diff] at this hb
      exact hb this
     simp only[sx,sy,SO.run,↓reduceIte,Nat.reduceEqDiff,Nat.reduceAdd,h0,h3,h4,h5,St,true_and,and_true]
     omega
  ·rintro t df g' ⟨rfl,rfl,-,hjw⟩ -
   omega
 ·simp only[f_ref05_Order_k2,sx,sy,SO.run,↓reduceIte,Nat.reduceEqDiff,Nat.reduceAdd,h0,h3,h4]
  have hge:p.length≤L.length:=by simp at hb;omega
  exact ⟨fun _=>True,L,ordi_full hO hge,hu.ints (by simp;omega)⟩
end
end Hx
end
section
namespace Hx
open Go
noncomputable section
theorem par_mem {m:Causal}(hck:S.check m=true){i:Nat}{x:Mech}(hx:m.nodes[i]?=some x)(q:Nat):(Par (S.pars m) i).testBit q=true↔(q:Int)∈x.frm:=by
 have hpm:=check_pl hck (List.mem_of_getElem? hx)
 have h5:=(check_facts hck).1.nodes
 rw[show Par (S.pars m) i=S.mask x.frm by simp[Par,S.pars,hx],mask_tb (n:=m.nodes.length) (by omega) (places_mem hpm.1),List.contains_iff_mem]
theorem par_rank {m:Causal}(hck:S.check m=true){r:Nat→Nat}(hr:∀(i:Nat)(x:Mech),m.nodes[i]?=some x→∀q∈x.frm,r q.toNat<r i) :
  ∀v,v<(S.pars m).length→∀q,(Par (S.pars m) v).testBit q=true→q<(S.pars m).length∧r q<r v:=fun v hv q hq=>by
 have hpl:(S.pars m).length=m.nodes.length:=by simp[S.pars]
 rw[hpl] at hv ⊢
 have hx:=List.getElem?_eq_getElem hv
 have hm:=(par_mem hck hx q).1 hq
 have h1:=places_mem (check_pl hck (List.getElem_mem hv)).1 _ hm
 have h2:=hr v _ hx _ hm
 rw[Int.toNat_natCast] at h2
 exact ⟨by omega,h2⟩
section
variable {d k:Nat}{m:Causal}{a b:AV}{al:List Int}{hh:Int}
theorem rrun_b0 {cs vs:List Int}{t:T}{g:G}{Q:QT}{act' w u o9 rt:AV}{iv:Int}(hc:∀c∈cs,1≤c∧c≤4)(hl:cs.length≤13)(hin:InC cs vs){u12 u15:AV}{bo:Nat}(h12:Own g bo u12 1 (vs.map ci))(h15:IT 0 cs u15)
  (ht:St t [(2,act'),(3,.hptr 0 0 0 0),(7,rt),(8,o9),(9,w),(11,.int .i64 iv),(12,u12),(13,.int .i64 0),(14,.int .i64 1),(15,u15)]) (h10:tat t 10=u) (hi:tat t 16=.int .i64 ((cs.length:Int) - 1))
  (fin:∀t,St t [(2,act'),(3,.hptr 0 0 0 0),(7,rt),(8,o9),(9,w),(11,.int .i64 iv),(13,.int .i64 (S.idx cs vs))]→tat t 10=u→Q (.exit 2) t [] g) :
  wpL (wp C0 d none f_ref33_Run_b0) Q t [] g:=by
 have hvl:=hin.len
 simp only[f_ref33_Run_b0]
 refine wpL_down (m:=cs.length) (by omega) (fun j t df g'=>df=[]∧g'=g∧tat t 10=u∧St t [(2,act'),(3,.hptr 0 0 0 0),(7,rt),(8,o9),(9,w),(11,.int .i64 iv),(12,u12),(13,.int .i64 (S.idx (cs.drop j) (vs.drop j))),(14,.int .i64 (S.prod (cs.drop j))),(15,u15)])
  ⟨rfl,rfl,h10,?_⟩ hi (by decide) (by rintro j t df g v s (rfl | rfl | rfl | rfl | rfl)<;>simp[sx,St]) ?_ ?_
 ·have e1:cs.drop cs.length=[]:=List.drop_length
  have e2:vs.drop cs.length=[]:=by rw[←hvl];exact List.drop_length
  rw[e1,e2];exact ht
 ·rintro j t df g' hj ⟨rfl,rfl,h10,⟨h2,h3,h7,h8,h9,h11,h12',h13,h14,h15',-⟩⟩ h16
  obtain ⟨c,hcj,-,hm⟩:=take_next (l:=cs) (j:=j) hj
  obtain ⟨x,hxj,-,-⟩:=take_next (l:=vs) (j:=j) (by omega)
  have dc:cs.drop j=c::cs.drop (j+1):=by
   rw[List.drop_eq_getElem_cons hj];rw[List.getElem?_eq_getElem hj] at hcj;injection hcj with hcj;rw[hcj]
  have dv:vs.drop j=x::vs.drop (j+1):=by
   rw[List.drop_eq_getElem_cons (by omega)];rw[List.getElem?_eq_getElem (by omega)] at hxj;injection hxj with hxj;rw[hxj]
  have hd0:=hin.drop j
  have hcd:∀y∈cs.drop j,1≤y∧y≤4:=fun y hy=>hc y (List.mem_of_mem_drop hy)
  have hb0:=idx_bound hcd hd0
  obtain ⟨p1,p2⟩:=prod_bound hcd
  have hb1:=idx_bound (fun y hy=>hc y (List.mem_of_mem_drop hy)) (hin.drop (j+1))
  obtain ⟨q1,q2⟩:=prod_bound (l:=cs.drop (j+1)) fun y hy=>hc y (List.mem_of_mem_drop hy)
  have pw1:=pow4_13 (n:=(cs.drop j).length) (by simp;omega)
  rw[dc,dv] at hb0 hd0
  rw[dc] at p1 p2 pw1
  have hx0:0≤x∧x<c:=hd0.1
  have hmul:0≤x*S.prod (cs.drop (j+1)):=Int.mul_nonneg hx0.1 (by omega)
  rw[prod_cons] at hb0 p1 p2
  have hb0:0≤x*S.prod (cs.drop (j+1))+S.idx (cs.drop (j+1)) (vs.drop (j+1))∧x*S.prod (cs.drop (j+1))+S.idx (cs.drop (j+1)) (vs.drop (j+1))<c*S.prod (cs.drop (j+1)):=hb0
  have hlm:j<(cs.map ci).length:=by simpa using hj
  have hlv:j<(vs.map ci).length:=by rw[List.length_map];omega
  have hcl:(cs.map ci)[j]?=some (ci c):=by rw[List.getElem?_map,hcj];rfl
  have hxl:(vs.map ci)[j]?=some (ci x):=by rw[List.getElem?_map,hxj];rfl
  have hcm:S.prod (cs.drop (j+1))*c=c*S.prod (cs.drop (j+1)):=Int.mul_comm _ _
  simp only[sx,sy,SO.run,↓reduceIte,Nat.reduceEqDiff,h2,h3,h7,h8,h9,h10,h11,h12',h13,h14,h15',h16,h12.rows,h15.rows,hcl,hlm,hlv,hxl,ci,Option.isSome_some,Option.getD_some,
   wrap64 (show -9223372036854775808≤x*S.prod (cs.drop (j+1)) by omega) (show x*S.prod (cs.drop (j+1))<9223372036854775808 by omega),
   wrap64 (show -9223372036854775808≤S.idx (cs.drop (j+1)) (vs.drop (j+1))+x*S.prod (cs.drop (j+1)) by omega) (show S.idx (cs.drop (j+1)) (vs.drop (j+1))+x*S.prod (cs.drop (j+1))<9223372036854775808 by omega),
   wrap64 (show -9223372036854775808≤S.prod (cs.drop (j+1))*c by omega) (show S.prod (cs.drop (j+1))*c<9223372036854775808 by omega),St,true_and,and_true]
  refine ⟨?_,?_⟩
  ·rw[dc,dv]
   show AV.int .i64 (_+_)=AV.int .i64 (x*S.prod (cs.drop (j+1))+S.idx _ _)
   rw[Int.add_comm]
  ·rw[dc,prod_cons,hcm]
 ·rintro t df g' ⟨rfl,rfl,h10,⟨h2,h3,h7,h8,h9,h11,h12',h13,h14,h15',-⟩⟩
  rw[List.drop_zero,List.drop_zero] at h13
  exact fin t ⟨h2,h3,h7,h8,h9,h11,h13,trivial⟩ h10
theorem rrun_ok {P Pa:Nat→Prop}{ka:Nat}{g:G}{v av:AV}(hd:0<d)(hm:Agg m P k g.h v)(hav:SlR Pa ka g.h al av)(hck:S.check m=true)(hac:S.act m al=true)(hh0:0≤hh∧hh<9223372036854775808) :
  ∃r,callV C0 d N.ref33_Run [v,.int .i64 hh,av] g=.val r∧IT 0 (S.run m (S.values (S.lens m) hh) al) r:=by
 obtain ⟨v',e,cs,rfl,hc⟩:=arg_of (snb_agg m) (by decide) d hm
 obtain ⟨a,b,rfl,hR,hN⟩:=rp_causal.1 hc
 obtain ⟨av',e2,ra⟩:=arg_sl hav d
 obtain ⟨hs,hgr,hn1,hro,hno⟩:=check_facts hck
 have hr8:=hs.roots
 have hn5:=hs.nodes
 have hal:=act_at hac
 have hms:∀g:G,Agg m NoP (max k d) g.h (.agg [.int .i64 m.grain,a,b]):=fun g=>⟨_,rfl,rp_causal.2 ⟨a,b,rfl,hR.tree (Nat.le_refl _),hN.tree (Nat.le_refl _)⟩⟩
 obtain ⟨rows,r1,r2,r3,r4⟩:=hN.all
 have r1:∀h',rowsOf h' 4 b=some rows:=r1
 have hry:=r4 (by omega)
 have hvi:=values_inC (l:=S.lens m) (h:=hh) (fun c hc=>by have:=lens_bound hs c hc;omega) hh0.1
 have hV:=sol_V hck (S.values (S.lens m) hh) al
 have hVb:=sol_bound hck hvi hac hV
 obtain ⟨rk,hrk⟩:=ranks hck
 have hpl:(S.pars m).length=m.nodes.length:=by simp[S.pars]
 rw[call_ref33_Run]
 refine iso_run eq_ref33_Run (xs:=[.agg [.int .i64 m.grain,a,b],.int .i64 hh,av']) (by simp only[mapO,e,e2,arg_int 0]) (by simp[f_ref33_Run]) (snb_one _) (by decide) hd ?_
 simp only[f_ref33_Run,f_ref33_Run_r,sx,sy,SO.run,↓reduceIte,Nat.reduceEqDiff,Nat.reduceAdd,Nat.reduceLeDiff]
 refine sat_ex (lengths_ok (Nat.succ_pos d) (hms _) (by omega)) fun r hr=>?_
 simp only[sx,sy,SO.run,↓reduceIte,Nat.reduceEqDiff,Nat.reduceAdd,Nat.reduceLeDiff]
 refine sat_ex (values_ok (l:=S.lens m) (Nat.succ_pos d) (hr.sl _) (by rw[lens_len];omega) (fun c hc=>by have:=lens_bound hs c hc;omega) hh0) fun rt hrt=>?_
 simp only[sx,sy,SO.run,↓reduceIte,Nat.reduceEqDiff,Nat.reduceAdd,Nat.reduceLeDiff,hN.len]
 refine mks_own (b:=1) (n:=m.nodes.length) (by simp[room];omega) (by simp[room];omega) (by simp[sx]) fun o g1 ho n1 fr1 v1=>?_
 have e0:g1.h.get 0=.cells 3 [[.int .i64 m.grain,a,b]] 0 false false:=by rw[fr1 0 (by simp[sx])];simp[sx,H.get_put]
 simp only[sx,sy,SO.run,↓reduceIte,Nat.reduceEqDiff,Nat.reduceAdd,Nat.reduceLeDiff,e0]
 refine sat_ex (parents_ok (Nat.succ_pos d) (hms _) (by omega) fun x hx y hy=>by have:=places_mem (check_pl hck hx).1 y hy;omega) fun pr hpr=>?_
 simp only[sx,sy,SO.run,↓reduceIte,Nat.reduceEqDiff,Nat.reduceAdd,Nat.reduceLeDiff]
 refine sat_ex (order_ok (p:=S.pars m) (r:=rk) (Nat.succ_pos d) (hpr.sl _) (by omega) (par_rank hck hrk)) fun od hod=>?_
 obtain ⟨L,hL,hod⟩:=hod
 have hod:IT 0 (L.map fun i:Nat=>(i:Int)) od:=hod
 simp only[sx,sy,SO.run,↓reduceIte,Nat.reduceEqDiff,Nat.reduceAdd,Nat.reduceLeDiff]
 have hLl:L.length<9223372036854775808:=by have:=hod.lt;simpa using this
 have hrow:∀(X:List Int) (i:Nat),i<X.length→∃y,(X.map ci)[i]?=some (ci y)∧X[i]?=some y:=fun X i hi=>⟨X[i],by rw[List.getElem?_map,List.getElem?_eq_getElem hi];rfl,List.getElem?_eq_getElem hi⟩
 have hsetX:∀(X:List Int) (i w:Nat) (y:Int),i<X.length→(X.set i y)[w]?.getD 0=if i=w then y else X[w]?.getD 0:=fun X i w y hi=>by
  rw[List.getElem?_set]
  by_cases e:i=w
  ·subst e;rw[if_pos rfl,if_pos rfl,if_pos hi];rfl
  ·rw[if_neg e,if_neg e]
 simp only[f_ref33_Run_b3,f_ref33_Run_k2]
 refine wpL_len (m:=L.length) hLl (fun g=>by rw[hod.len];simp) (fun j t df g=>df=[]∧St t [(2,av'),(3,.hptr 0 0 0 0),(7,rt),(8,o)]∧g.h.get 0=.cells 3 [[.int .i64 m.grain,a,b]] 0 false false∧1≤g.nx ∧
   ∃X:List Int,X.length=m.nodes.length∧Own g 1 o 1 (X.map ci)∧∀v∈L.take j,X[v]?.getD 0=S.V m (S.values (S.lens m) hh) al v)
  ⟨rfl,by simp[sx,St],e0,by omega,List.replicate m.nodes.length 0,by simp,by rw[List.map_replicate];exact ho,by simp⟩ (by simp[sx]) (by simp[sx]) (by decide) (by rintro j t df g v s (rfl | rfl | rfl | rfl | rfl | rfl | rfl)<;>simp[sx,St]) ?_ ?_
 ·rintro j t df g hj ⟨rfl,⟨h2,h3,h7,h8,-⟩,hg,hnx,X,hX,ho,hXv⟩ h10 h9
  obtain ⟨vv,hvv,htk,-⟩:=take_next hj
  obtain ⟨hvn,hvp⟩:=hL.2 j vv hvv
  rw[hpl] at hvn
  obtain ⟨x,hx,-,hxm⟩:=take_next hvn
  obtain ⟨hpf,hpn,hpo,hpc⟩:=check_pl hck hxm
  obtain ⟨row,q1,q2⟩:=r3 vv x hx
  obtain ⟨fa,fb,fc,rfl,hfa,hfb,hfc⟩:=rp_mech.1 q2
  have hlt:vv<rows.length:=by omega
  have hol:j<((L.map fun i:Nat=>(i:Int)).map ci).length:=by simpa using hj
  have hor:((L.map fun i:Nat=>(i:Int)).map ci)[j]?=some (ci (vv:Int)):=by rw[List.getElem?_map,List.getElem?_map,hvv];rfl
  obtain ⟨ac,ha1,ha2⟩:=hrow al vv (by omega)
  have ha3:vv<(al.map ci).length:=by rw[List.length_map];omega
  obtain ⟨xo,hx1,hx2⟩:=hrow X vv (by omega)
  have hx3:vv<(X.map ci).length:=by rw[List.length_map];omega
  have hVx:=hV vv x hx
  rw[S.eqn,ha2,Option.getD_some] at hVx
  simp only[sx,sy,SO.run,↓reduceIte,Nat.reduceEqDiff,Nat.reduceAdd,Nat.reduceLeDiff,h2,h3,h7,h8,h9,h10,hod.rows,hol,hor,(ra g.h).ints,ha1,ha3,ci,Option.isSome_some,Option.getD_some]
  refine bifP_mk (fun hb=>?_) (fun hb=>?_)
  ·have hge:0≤ac:=by simpa using hb
   rw[if_pos hge] at hVx
   simp only[sx,sy,SO.run,↓reduceIte,Nat.reduceEqDiff,Nat.reduceAdd,Nat.reduceLeDiff,h2,h3,h7,h8,h9,h10,ho.rows,hx1,hx3,(ra g.h).ints,ha1,ha3,ci,Option.isSome_some,Option.getD_some]
   refine store_own (row:=ci xo) (row':=ci ac) ho hx1 rfl rfl rfl fun g2 o2 n2 f2=>?_
   rw[←List.map_set] at o2
   simp only[sx,sy,SO.run,↓reduceIte,Nat.reduceEqDiff,Nat.reduceAdd,Nat.reduceLeDiff,h2,h3,h7,h8,h9,h10,kR_exit,St,true_and,and_true]
   refine ⟨by rw[f2 0 (fun e=>by have:=(ho.lt e).1;omega),hg],by omega,X.set vv ac,by simpa using hX,o2,fun w hw=>?_⟩
   rw[hsetX X vv w ac (by omega)]
   split
   ·rename_i e;subst e;exact hVx.symm
   ·rename_i e
    rw[htk,List.mem_append,List.mem_singleton] at hw
    rcases hw with hw | hw
    ·exact hXv w hw
    ·exact absurd hw.symm e
  ·have hlt0:¬0≤ac:=by simpa using hb
   rw[if_neg hlt0] at hVx
   simp only[wp_skip,kS_norm]
   have hpar:∀q∈x.frm,X[q.toNat]?.getD 0=S.V m (S.values (S.lens m) hh) al q.toNat:=fun q hq=>by
    have:=places_mem hpf q hq
    exact hXv _ (hvp q.toNat ((par_mem hck hx q.toNat).2 (by rw[Int.toNat_of_nonneg this.1];exact hq)))
   have hrtl:(S.values (S.lens m) hh).length=m.roots.length:=by simp[S.values,lens_len]
   refine cutG (P:=fun t df g2=>df=[]∧St t [(2,av'),(3,.hptr 0 0 0 0),(7,rt),(8,o),(9,od),(10,.int .i64 (j:Int)),(11,.int .i64 (vv:Int))]∧g2.h.get 0=.cells 3 [[.int .i64 m.grain,a,b]] 0 false false∧1≤g2.nx∧Own g2 1 o 1 (X.map ci) ∧
    ∃u12,tat t 12=u12∧Own g2 1 u12 1 ((S.inVals x (S.values (S.lens m) hh) (S.V m (S.values (S.lens m) hh) al)).map ci)) ?_ ?_
   ·simp only[sx,sy,sf,SO.run,foot_ref02_At,↓reduceIte,Nat.reduceEqDiff,Nat.reduceAdd,Nat.reduceLeDiff,h2,h3,h7,h8,h9,h10,hg,r1,hlt,q1,hry,Option.isSome_some,Option.getD_some,refIds_rptr hry,refIds_hptr,hN.refs]
    refine at_ok (l:=X) (p:=x.frm) (fun g' fr=>(ho.fr (g':=g') (by have:=fr.1;simp at this;omega) fun i hi=>by have:=fr.2 i (by have:=(ho.lt hi).2;simp;omega);simpa using this).rows) (fun g' _=>(hfa.tree (Nat.le_refl _)).ints) (by have:=places_len hpf;omega) (fun z hz=>by have:=places_mem hpf z hz;omega) fun u g1 hu fr1 lg1=>?_
    simp only[sx,sy] at fr1 lg1
    have hg1:g1.h.get 0=.cells 3 [[.int .i64 m.grain,a,b]] 0 false false:=by rw[fr1.2 0 (by simp<;>omega)];simpa using hg
    have ho1:Own g1 1 o 1 (X.map ci):=ho.fr (by have:=fr1.1;simp at this;omega) fun i hi=>by have:=fr1.2 i (by have:=(ho.lt hi).2;simp;omega);simpa using this
    simp only[sx,sy,sf,SO.run,foot_ref02_At,↓reduceIte,Nat.reduceEqDiff,Nat.reduceAdd,Nat.reduceLeDiff,h2,h3,h7,h8,h9,h10,hg1,r1,hlt,q1,hry,Option.isSome_some,Option.getD_some,refIds_rptr hry,refIds_hptr,hN.refs]
    refine at_ok (l:=S.values (S.lens m) hh) (p:=x.noise) (fun g' _=>hrt.rows _) (fun g' _=>(hfb.tree (Nat.le_refl _)).ints) (by have:=places_len hpn;omega) (fun z hz=>by have:=places_mem hpn z hz;omega) fun w g2 hw fr2 lg2=>?_
    simp only[sx,sy] at fr2 lg2
    have hg2:g2.h.get 0=.cells 3 [[.int .i64 m.grain,a,b]] 0 false false:=by rw[fr2.2 0 (by simp<;>omega)];simpa using hg1
    have ho2:Own g2 1 o 1 (X.map ci):=ho1.fr (by have:=fr2.1;simp at this;omega) fun i hi=>by have:=fr2.2 i (by have:=(ho1.lt hi).2;simp;omega);simpa using this
    simp only[sx,sy,sf,SO.run,↓reduceIte,Nat.reduceEqDiff,Nat.reduceAdd,Nat.reduceLeDiff]
    have m1:∀i∈g1.lg,1≤i:=fun i hi=>by
     rcases lg1 i hi with h | h
     ·simp at h
     ·omega
    have hu2:Own (setLog (bumpG g2 (g2.lg++(g1.lg++g.lg))) []) 1 u 1 ((x.frm.map fun z=>X[z.toNat]?.getD 0).map ci):=by
     rcases hu with h | ⟨id,ep,lo,p1,p2,rfl,p3⟩
     ·exact .inl h
     ·refine .inr ⟨id,ep,lo,?_,?_,rfl,?_⟩
      ·simp at p1;omega
      ·have:=fr2.1;simp at this ⊢;omega
      ·have:=fr2.2 id (by simp;omega);simp only[bumpG_h,setLog_h] at this ⊢;rw[this,p3]
    have ho3:Own (setLog (bumpG g2 (g2.lg++(g1.lg++g.lg))) []) 1 o 1 (X.map ci):=ho2.fr (by simp) fun i _=>by simp
    have hsep:∀i,vid u=some i→vid o≠some i:=fun i hi e=>by
     have h1:=(hu.lt hi).1
     have h2:=(ho.lt e).2
     simp at h1
     omega
    refine append_own (new:=(x.noise.map fun z=>(S.values (S.lens m) hh)[z.toNat]?.getD 0).map ci) hu2 (by have:=hw.rows;simpa using this) (by simp) (by simp[room];have:=places_len hpf;have:=places_len hpn;omega) fun z g3 hz n3 f3 _ l3=>?_
    simp only[sx,sy,sf,SO.run,↓reduceIte,Nat.reduceEqDiff,Nat.reduceAdd,Nat.reduceLeDiff,h2,h3,h7,h8,h9,h10,St,true_and,and_true]
    have hnx3:1≤g3.nx:=by simp at n3;omega
    refine ⟨?_,?_,?_,z,rfl,?_⟩
    ·simp only[List.reverse_cons,List.reverse_nil,List.nil_append,List.cons_append]
     refine footsOk_mk [false,false,false,false,false,false,false,true,false,false,false,false,false,false,false,true,true,false] [(7,8),(7,9),(7,10),(7,11),(7,12),(7,13),(7,14)] (by simp[All2,rdLook,noLook,bigLook]) (by decide) ?_
     rintro p hp x y hx hy
     simp only[List.mem_cons,List.not_mem_nil,or_false] at hp
     rcases hp with rfl | rfl | rfl | rfl | rfl | rfl | rfl<;>(simp at hx hy;subst hx;subst hy;exact apart_fresh (b:=1) (fun i hi=>m1 i hi) rfl rfl (by simp[rdLook,noLook]) rfl)
    ·have:=f3 0 (by simp<;>omega) (fun e=>by have:=(hu2.lt e).1;omega)
     simp only[bumpG_h,setLog_h] at this ⊢;rw[this,hg2]
    ·exact ho3.fr (by simp at n3 ⊢;omega) fun i hi=>by
      have:=f3 i (ho3.lt hi).2 (fun e=>hsep i e hi)
      simp only[bumpG_h,setLog_h] at this ⊢;exact this
    ·have e:(x.frm.map fun z=>X[z.toNat]?.getD 0).map ci++(x.noise.map fun z=>(S.values (S.lens m) hh)[z.toNat]?.getD 0).map ci=(S.inVals x (S.values (S.lens m) hh) (S.V m (S.values (S.lens m) hh) al)).map ci:=by
      rw[S.inVals,List.map_append,List.map_congr_left hpar]
     rw[e] at hz
     exact hz.fr (by simp;omega) fun i _=>by simp
   ·rintro t df g2 ⟨rfl,⟨h2,h3,h7,h8,h9,h10,h11,-⟩,hg2,hnx2,ho2,u12,h12,hu12⟩
    have hin:=sizes_inC hck hvi (V:=S.V m (S.values (S.lens m) hh) al) hxm fun q hq=>by
     have hql:=places_mem hpf q hq
     have hq2:q.toNat<m.nodes.length:=by omega
     have:=hVb q.toNat _ (List.getElem?_eq_getElem hq2)
     have hc:S.cardAt m q=(m.nodes[q.toNat]).card:=by simp[S.cardAt,List.getElem?_eq_getElem hq2]
     rw[hc];exact this
    have hsb:=sizes_bound hck hxm
    have hvl:(S.inVals x (S.values (S.lens m) hh) (S.V m (S.values (S.lens m) hh) al)).length=(S.sizes m x).length:=hin.len
    have hul:∀g,lenF .slice u12 g=.val (.int .i64 ((S.sizes m x).length:Int)):=fun g=>by rw[len_rows' hu12.rows,List.length_map,hvl]
    simp only[sx,sy,SO.run,↓reduceIte,Nat.reduceEqDiff,Nat.reduceAdd,Nat.reduceLeDiff,h2,h3,h7,h8,h9,h10,h11,h12,hg2]
    refine sat_ex (rsizes_ok (Nat.succ_pos d) (hms _) hx hn5 hr8 hpf hpn) fun u15 h15=>?_
    simp only[sx,sy,SO.run,↓reduceIte,Nat.reduceEqDiff,Nat.reduceAdd,Nat.reduceLeDiff,h2,h3,h7,h8,h9,h10,h11,h12,hul,wrap64 (show -9223372036854775808≤((S.sizes m x).length:Int) - 1 by omega) (show ((S.sizes m x).length:Int) - 1<9223372036854775808 by omega)]
    refine rrun_b0 (u:=.int .i64 (j:Int)) (act':=av') (w:=od) (o9:=o) (rt:=rt) (iv:=(vv:Int)) hsb.1 hsb.2 hin hu12 h15 (by simp[sx,St,h2,h3,h7,h8,h9,h11,h12]) (by simp[sx,h10]) (by simp[sx]) fun t ht h10=>?_
    obtain ⟨h2,h3,h7,h8,h9,h11,h13,-⟩:=ht
    have hib:=idx_bound hsb.1 hin
    rw[←hpo] at hib
    obtain ⟨z,hz⟩:=Int.eq_ofNat_of_zero_le hib.1
    have hzl:z<x.out.length:=by omega
    rw[hz] at hVx h13
    have hVx:S.V m (S.values (S.lens m) hh) al vv=x.out[z]:=by
     rw[hVx];show (x.out[z]?).getD 0=_
     rw[List.getElem?_eq_getElem hzl];rfl
    obtain ⟨oy,ho1,ho1'⟩:=hrow x.out z hzl
    have hoy:oy=S.V m (S.values (S.lens m) hh) al vv:=by
     rw[List.getElem?_eq_getElem hzl] at ho1';injection ho1' with ho1';rw[hVx,ho1']
    have hol3:z<(x.out.map ci).length:=by rw[List.length_map];exact hzl
    simp only[f_ref33_Run_k1,sx,sy,SO.run,↓reduceIte,Nat.reduceEqDiff,Nat.reduceAdd,Nat.reduceLeDiff,h2,h3,h7,h8,h9,h10,h11,h13,hg2,r1,hlt,q1,hry,(hfc.tree (h':=g2.h) (Nat.le_refl _)).ints,ho1,hol3,ho2.rows,hx1,hx3,ci,Option.isSome_some,Option.getD_some]
    refine store_own (row:=ci xo) (row':=ci oy) ho2 hx1 rfl rfl rfl fun g3 o3 n3 f3=>?_
    rw[←List.map_set] at o3
    simp only[sx,sy,SO.run,↓reduceIte,Nat.reduceEqDiff,Nat.reduceAdd,Nat.reduceLeDiff,h2,h3,h7,h8,h9,h10,kR_norm,St,true_and,and_true]
    refine ⟨by rw[f3 0 (fun e=>by have:=(ho2.lt e).1;omega),hg2],by omega,X.set vv oy,by simpa using hX,o3,fun w hw=>?_⟩
    rw[hsetX X vv w oy (by omega)]
    split
    ·rename_i e;subst e;exact hoy
    ·rename_i e
     rw[htk,List.mem_append,List.mem_singleton] at hw
     rcases hw with hw | hw
     ·exact hXv w hw
     ·exact absurd hw.symm e
 ·rintro t df g ⟨rfl,⟨h2,h3,h7,h8,-⟩,hg,hnx,X,hX,ho,hXv⟩ -
  simp only[f_ref33_Run_k4,sx,sy,SO.run,↓reduceIte,Nat.reduceEqDiff,Nat.reduceAdd,Nat.reduceLeDiff,h8]
  have eX:X=S.run m (S.values (S.lens m) hh) al:=by
   refine List.ext_getElem (by simp[S.run,hX]) fun i h1 h2=>?_
   have:=hXv i (by rw[List.take_length];exact hL.1 i (by omega))
   rw[List.getElem?_eq_getElem h1,Option.getD_some] at this
   rw[this];simp[S.run]
  rw[eX] at ho
  exact ⟨fun _=>True,ho.ints (by simp[S.run];omega)⟩
end
end
end Hx
end
section
namespace Hx
open Go
noncomputable section
section
variable {d k:Nat}{m:Causal}{al:List Int}
theorem rtable_ok {P Pa:Nat→Prop}{ka:Nat}{g:G}{v av:AV}(hd:0<d)(hm:Agg m P k g.h v)(hav:SlR Pa ka g.h al av)(hck:S.check m=true)(hac:S.act m al=true) :
  ∃r,callV C0 d N.ref33_Table [v,av] g=.val r∧Agg (S.table m al) NoP 0 .nil r:=by
 obtain ⟨v',e,cs,rfl,hc⟩:=arg_of (snb_agg m) (by decide) d hm
 obtain ⟨a,b,rfl,hR,hN⟩:=rp_causal.1 hc
 obtain ⟨av',e2,ra⟩:=arg_sl hav d
 obtain ⟨hs,hgr,hn1,hro,hno⟩:=check_facts hck
 have hr8:=hs.roots
 have hn5:=hs.nodes
 have hms:∀g:G,Agg m NoP (max k d) g.h (.agg [.int .i64 m.grain,a,b]):=fun g=>⟨_,rfl,rp_causal.2 ⟨a,b,rfl,hR.tree (Nat.le_refl _),hN.tree (Nat.le_refl _)⟩⟩
 have hhb:=hidden_bound hs m.roots.length
 rw[List.take_length] at hhb
 have hhb:1≤S.hidden m∧S.hidden m≤4 ^ 8:=hhb
 have hhn:((S.hidden m).toNat:Int)=S.hidden m:=Int.toNat_of_nonneg (by omega)
 have hcm:=cards_max hck
 obtain ⟨sz,hsz⟩:=Int.eq_ofNat_of_zero_le (show 0≤S.cards m by omega)
 have hcl:(m.nodes.map (·.card)).length=m.nodes.length:=by simp
 rw[call_ref33_Table]
 refine iso_run eq_ref33_Table (xs:=[.agg [.int .i64 m.grain,a,b],av']) (by simp only[mapO,e,e2]) (by simp[f_ref33_Table]) (snb_agg _) (by decide) hd ?_
 simp only[f_ref33_Table,f_ref33_Table_r,sx,sy,SO.run,↓reduceIte,Nat.reduceEqDiff,Nat.reduceAdd,Nat.reduceLeDiff,H.get_put]
 refine sat_ex (cards_ok (Nat.succ_pos d) (hms _) (by omega)) fun cv hcv=>?_
 simp only[sx,sy,SO.run,↓reduceIte,Nat.reduceEqDiff,Nat.reduceAdd,Nat.reduceLeDiff,H.get_put,hcv.cells,hcv.tup]
 generalize hg0:(((G.empty.new (AObj.cells 3 [[AV.int IntKind.i64 m.grain,a,b]] 0 false false)).new (AObj.cells 3 [[AV.nils,AV.nils,AV.nils]] 0 false false)).new (AObj.cells 3 [[AV.nils,AV.nils,AV.nils]] 0 false false)).put 2 (AObj.cells 3 [[AV.nils,cv,AV.nils]] 0 false false)=g0
 have f0:g0.h.get 0=.cells 3 [[.int .i64 m.grain,a,b]] 0 false false:=by rw[←hg0];simp[sx,H.get_put]
 have f1:g0.h.get 1=.cells 3 [[.nils,.nils,.nils]] 0 false false:=by rw[←hg0];simp[sx,H.get_put]
 have f2:g0.h.get 2=.cells 3 [[.nils,cv,.nils]] 0 false false:=by rw[←hg0];simp[sx,H.get_put]
 have fn:g0.nx=3:=by rw[←hg0];simp[sx]
 clear hg0
 simp only[f_ref33_Table_b0]
 refine wpL_cnt m.nodes.length (by omega) (fun j t df g=>df=[]∧St t [(1,av'),(2,.hptr 0 0 0 0),(4,.hptr 1 0 0 0),(5,.hptr 2 0 0 0)]∧g.h.get 0=.cells 3 [[.int .i64 m.grain,a,b]] 0 false false∧g.h.get 1=.cells 3 [[.nils,.nils,.nils]] 0 false false∧3≤g.nx ∧
   ∃u,g.h.get 2=.cells 3 [[u,cv,.nils]] 0 false false∧Own g 3 u 1 (((List.range j).map fun i:Nat=>(i:Int)).map ci))
  ⟨rfl,by simp[sx,St],f0,f1,by omega,.nils,f2,.inl ⟨rfl,rfl⟩⟩ (by simp[sx]) (by decide) (by rintro j t df g v s (rfl | rfl | rfl)<;>simp[sx,St]) ?_ ?_ ?_
 ·rintro j t df g hj ⟨rfl,⟨h1,h2,h4,h5,-⟩,e0,e1,hnx,u,e2,hu⟩ h6
  simp only[sx,sy,SO.run,↓reduceIte,Nat.reduceEqDiff,Nat.reduceAdd,h1,h2,h4,h5,h6,e0,hN.len,St,true_and,and_true]
  exact ⟨e1,hnx,u,e2,hu⟩
 ·rintro j t df g hj ⟨rfl,⟨h1,h2,h4,h5,-⟩,e0,e1,hnx,u,e2,hu⟩ h6
  simp only[sx,sy,SO.run,↓reduceIte,Nat.reduceEqDiff,Nat.reduceAdd,h1,h2,h4,h5,h6,e2]
  refine append_own (new:=[ci (j:Int)]) (hu.step (Fr.new _ _)) (by simp[sx,sy,ci]) (by simp;omega) (by simp[room];omega) fun u2 g2 hu2 n2 fr2 vid2 _=>?_
  have hc2:=hu2.cell
  have ge:∀i,i<3→g2.h.get i=g.h.get i:=fun i hi=>by
   rw[fr2 i (by simp;omega) (fun e=>by have:=(hu.lt e).1;omega),G.new_h,get_put_ne _ _ _ (by omega)]
  simp only[sx,sy,SO.run,↓reduceIte,Nat.reduceEqDiff,Nat.reduceAdd,Nat.reduceLeDiff,h1,h2,h4,h5,h6,ge 2 (by omega),ge 0 (by omega),ge 1 (by omega),e0,e1,e2,hc2.1,hc2.2,H.get_put,St,true_and,and_true]
  have hn2:g.nx+1≤g2.nx:=by simpa using n2
  refine ⟨by omega,u2,rfl,?_⟩
  have:=hu2.fr (g':=g2.put 2 (AObj.cells 3 [[u2,cv,AV.nils]] 0 false false)) (by simp) fun i hi=>by simp[H.get_put,show ¬i=2 by have:=(hu2.lt hi).1;omega]
  rw[List.range_succ]
  simpa [ci] using this
 ·rintro t df g ⟨rfl,⟨h1,h2,h4,h5,-⟩,e0,e1,hnx,u,e2,hu⟩
  have hcvi:isInts g.h cv:=isInts_of (hcv.rows _)
  have hcvl:ints g.h cv=m.nodes.map (·.card):=by unfold ints;rw[hcv.rows];simp[ci,Function.comp_def]
  simp only[f_ref33_Table_k3,sx,sy,SO.run,↓reduceIte,Nat.reduceEqDiff,Nat.reduceAdd,Nat.reduceLeDiff,h1,h2,h4,h5,e2]
  rw[size_ok (Nat.succ_pos d) hcvi (by rw[hcvl,hcl];omega),hcvl,size_prod (card_bound hck) (by rw[hcl];omega)]
  have hsz':S.prod (m.nodes.map (·.card))=(sz:Int):=hsz
  simp only[sx,sy,SO.run,↓reduceIte,Nat.reduceEqDiff,Nat.reduceAdd,Nat.reduceLeDiff,h1,h2,h4,h5,hsz']
  refine mks_own (b:=3) (n:=sz) (by simp[room];omega) (by simp[room];omega) (by omega) fun w g4 hw n4 fr4 v4=>?_
  have hc3:=hw.cell
  simp only[sx,sy,SO.run,↓reduceIte,Nat.reduceEqDiff,Nat.reduceAdd,Nat.reduceLeDiff,h1,h2,h4,h5,fr4 2 (by omega),e2,hc3.1,hc3.2]
  have hsep:∀i,vid u=some i→vid w≠some i:=fun i hi e=>by
   have:=(hu.lt hi).2;rw[v4] at e;injection e with e;omega
  have hul:=fun i hi=>hu.lt (i:=i) hi
  simp only[f_ref33_Table_b1]
  refine wpL_cnt (S.hidden m).toNat (by omega) (fun j t df g=>df=[]∧St t [(1,av'),(2,.hptr 0 0 0 0),(4,.hptr 1 0 0 0),(5,.hptr 2 0 0 0)]∧g.h.get 0=.cells 3 [[.int .i64 m.grain,a,b]] 0 false false∧g.h.get 1=.cells 3 [[.nils,.nils,.nils]] 0 false false ∧
    g.h.get 2=.cells 3 [[u,cv,w]] 0 false false∧Own g 3 u 1 (((List.range m.nodes.length).map fun i:Nat=>(i:Int)).map ci)∧Own g 3 w 1 ((S.tabW m al j).map ci))
   ⟨rfl,by simp[sx,St,h1,h2,h4,h5],?_,?_,?_,?_,?_⟩ (by simp[sx]) (by decide) (by rintro j t df g v s (rfl | rfl | rfl)<;>simp[sx,St]) ?_ ?_ ?_
  ·simp[H.get_put];rw[fr4 0 (by omega),e0]
  ·simp[H.get_put];rw[fr4 1 (by omega),e1]
  ·simp[H.get_put]
  ·exact hu.fr (by simp;omega) fun i hi=>by
    have:=hul i hi
    simp[H.get_put,show ¬i=2 by omega]
    exact fr4 i this.2
  ·rw[S.tabW,show S.cards m=(sz:Int) from hsz,Int.toNat_natCast,List.map_replicate]
   exact hw.fr (by simp) fun i hi=>by have:=(hw.lt hi).1;simp[H.get_put,show ¬i=2 by omega]
  ·rintro j t df g hj ⟨rfl,⟨h1,h2,h4,h5,-⟩,e0,e1,e2,hu,hw⟩ h7
   simp only[sx,sy,SO.run,↓reduceIte,Nat.reduceEqDiff,Nat.reduceAdd,Nat.reduceLeDiff,h1,h2,h4,h5,h7,e0,hidden_ok (Nat.succ_pos d) (hms _) hs,hhn,St,true_and,and_true]
   exact ⟨e1,e2,hu,hw⟩
  ·rintro j t df g hj ⟨rfl,⟨h1,h2,h4,h5,-⟩,e0,e1,e2,hu,hw⟩ h7
   have hti:=tab_idx (al:=al) hck hac (Int.natCast_nonneg j)
   obtain ⟨z,hz⟩:=Int.eq_ofNat_of_zero_le hti.1
   have hvi:=values_inC (l:=S.lens m) (h:=(j:Int)) (fun c hc=>by have:=lens_bound hs c hc;omega) (Int.natCast_nonneg j)
   have hri:=run_inC (al:=al) hck hvi hac
   have hzl:z<(S.tabW m al j).length:=by rw[tabW_len];omega
   obtain ⟨y,hy⟩:∃y,(S.tabW m al j)[z]?=some y:=⟨_,List.getElem?_eq_getElem hzl⟩
   have hry:((S.tabW m al j).map ci)[z]?=some (ci y):=by rw[List.getElem?_map,hy];rfl
   have hrl:z<((S.tabW m al j).map ci).length:=by rw[List.length_map];exact hzl
   have hT:S.tabW m al (j+1)=(S.tabW m al j).set z (IntKind.wrap .i64 (y+S.weight m (j:Int))):=by
    rw[S.tabW,hz];show (S.tabW m al j).set (Int.toNat (z:Int)) (IntKind.wrap .i64 ((S.tabW m al j)[Int.toNat (z:Int)]?.getD 0+_))=_
    rw[Int.toNat_natCast,hy];rfl
   have ids0:∀g:G,snapIds g.h depthA (.agg [.int .i64 m.grain,a,b])=[]:=fun g=>agg_ids (h:=g.h) (rp_causal.2 ⟨a,b,rfl,hR.tree (Nat.le_refl _),hN.tree (Nat.le_refl _)⟩)
   simp only[sx,sy,SO.run,↓reduceIte,Nat.reduceEqDiff,Nat.reduceAdd,Nat.reduceLeDiff,h1,h2,h4,h5,h7,e0,e2]
   refine sat_ex (rrun_ok (P:=NoP) (Pa:=NoP) (k:=max k d) (ka:=max ka d) (hh:=(j:Int)) (Nat.succ_pos d) (hms _) (ra _) hck hac ⟨Int.natCast_nonneg j,by omega⟩) fun rr hrr=>?_
   simp only[sx,sy,SO.run,↓reduceIte,Nat.reduceEqDiff,Nat.reduceAdd,Nat.reduceLeDiff,h1,h2,h4,h5,h7]
   rw[index_ok (P:=NoP) (P2:=NoP) (k:=0) (k2:=0) (Nat.succ_pos d) (hcv.sl _) (hrr.sl _) (by rw[hcl];omega) (card_bound hck) hri,hz]
   simp only[sx,sy,sf,SO.run,↓reduceIte,Nat.reduceEqDiff,Nat.reduceAdd,Nat.reduceLeDiff,h1,h2,h4,h5,h7,e0,e2,hw.rows,hrl,hry,ci,Option.isSome_some,Option.getD_some,true_and,and_true,
    weight_ok (P:=NoP) (k:=max k d) (h:=(j:Int)) (Nat.succ_pos d) (hms _) hck ⟨Int.natCast_nonneg j,by omega⟩,foot_ref33_Weight,ids0]
   refine store_ownL (b:=3) (v:=w) (sz:=1) (n:=1) (off:=0) (x:=.int .i64 (IntKind.wrap .i64 (y+S.weight m (j:Int)))) (row:=ci y) (row':=ci (IntKind.wrap .i64 (y+S.weight m (j:Int)))) ?_ hry rfl rfl rfl fun g3 o3 n3 f3 l3=>?_
   ·exact hw.fr (by simp;omega) fun i _=>by simp
   rw[←List.map_set,←hT] at o3
   have hwl:=fun i hi=>hw.lt (i:=i) hi
   have ff:∀i,i<3→g3.h.get i=g.h.get i:=fun i hi=>by rw[f3 i (fun e=>by have:=hwl _ e;omega)];simp
   simp only[sx,sy,sf,SO.run,↓reduceIte,Nat.reduceEqDiff,Nat.reduceAdd,Nat.reduceLeDiff,h1,h2,h4,h5,h7,St,true_and,and_true,bumpG_h,ff 0 (by omega),ff 1 (by omega),ff 2 (by omega),e0,e1,e2]
   refine ⟨?_,?_,?_⟩
   ·simp only[List.reverse_cons,List.reverse_nil,List.nil_append,List.cons_append]
    exact footsOk_mk [false,false,false,false,false,false,false,false,false,false,false,false,false,true] [] (by simp[All2,rdLook,noLook,bigLook,foot_ref33_Weight]) (by decide) (by simp)
   ·exact hu.fr (by rw[bumpG_nx,n3];simp;omega) fun i hi=>by rw[bumpG_h,f3 i (hsep i hi)];simp
   ·exact o3.fr (by simp) fun i _=>by simp
  ·rintro t df g ⟨rfl,⟨h1,h2,h4,h5,-⟩,e0,e1,e2,hu,hw⟩
   simp only[f_ref33_Table_k2,sx,sy,SO.run,↓reduceIte,Nat.reduceEqDiff,Nat.reduceAdd,Nat.reduceLeDiff,h1,h2,h4,h5,e1,e2,H.get_put]
   have key:∀(hh:H) (L:List Int) (z:AV),(∀i,3≤i→hh.get i=g.h.get i)→Own g 3 z 1 (L.map ci)→L.length<9223372036854775808→SlR (fun _=>True) 0 hh L z:=fun hh L z he ho hl =>
    Own.sl (α:=Int) (g:=⟨hh,g.nx,[]⟩) (ho.fr (Nat.le_refl _) fun i hi=>he i (ho.lt hi).1) hl (All2.of_map (fun a=>rp_int.2 rfl) _) fun _ _=>trivial
   refine ⟨fun _=>True,_,rfl,rp_factor.2 ⟨u,cv,w,rfl,?_,?_,?_⟩⟩
   ·exact key _ _ _ (fun i h1=>by simp[H.get_put,show ¬i=1 by omega]) hu (by simp[S.table];omega)
   ·exact (hcv.sl .nil).wide (Nat.le_refl _)
   ·exact key _ _ _ (fun i h1=>by simp[H.get_put,show ¬i=1 by omega]) hw (by show (S.tabW m al (S.hidden m).toNat).length<_;rw[tabW_len];omega)
end
end
end Hx
end
section
namespace Hx
open Go
noncomputable section
theorem fsame_ok {d k k2:Nat}{g:G}{P P2:Nat→Prop}{v w:AV}{x y:Factor}(hd:0<d)(hv:Agg x P k g.h v)(hw:Agg y P2 k2 g.h w)(he:x=y) :
  callV C0 d N.ref03_Same [v,w] g=.val (.bool true):=by
 subst he
 obtain ⟨v',e,cs,rfl,hc⟩:=arg_of (snb_agg x) (by decide) d hv
 obtain ⟨w',e2,cs2,rfl,hc2⟩:=arg_of (snb_agg x) (by decide) d hw
 obtain ⟨a1,a2,a3,rfl,h1,h2,h3⟩:=rp_factor.1 hc
 obtain ⟨b1,b2,b3,rfl,q1,q2,q3⟩:=rp_factor.1 hc2
 rw[call_ref03_Same]
 refine iso_bool eq_ref03_Same (xs:=[.agg [a1,a2,a3],.agg [b1,b2,b3]]) (by simp only[mapO,e,e2]) (by simp[f_ref03_Same]) hd ?_
 have s1:∀g,callV C0 (d+1) N.ref02_Same [a1,b1] g=.val (.bool true):=fun g=>by rw[same_ok (P:=NoP) (P2:=NoP) (k:=max k d) (k2:=max k2 d) (l:=x.vars) (p:=x.vars) (Nat.succ_pos d) (h1.tree (Nat.le_refl _)) (q1.tree (Nat.le_refl _))];simp
 have s2:∀g,callV C0 (d+1) N.ref02_Same [a2,b2] g=.val (.bool true):=fun g=>by rw[same_ok (P:=NoP) (P2:=NoP) (k:=max k d) (k2:=max k2 d) (l:=x.cards) (p:=x.cards) (Nat.succ_pos d) (h2.tree (Nat.le_refl _)) (q2.tree (Nat.le_refl _))];simp
 have s3:∀g,callV C0 (d+1) N.ref02_Same [a3,b3] g=.val (.bool true):=fun g=>by rw[same_ok (P:=NoP) (P2:=NoP) (k:=max k d) (k2:=max k2 d) (l:=x.w) (p:=x.w) (Nat.succ_pos d) (h3.tree (Nat.le_refl _)) (q3.tree (Nat.le_refl _))];simp
 simp only[f_ref03_Same,f_ref03_Same_r,sx,sy,SO.run,↓reduceIte,Nat.reduceEqDiff,Nat.reduceAdd,Nat.reduceLeDiff,H.get_put,s1,s2,s3]
end
end Hx
end
section
namespace Hx
open Go
set_option maxRecDepth 100000
noncomputable section
def f_law33_TwinRuns_k0:SC:=.seq (.ops [o 101 (.load true 3 (.t 16)),o 102 (.mv (.t 25)),o 103 (.mv (.t 18)),o 104 (.call N.twin_Run [.t 101,.t 102,.t 103]),o 100 (.mv (.t 104)),o 105 (.ext (.t 100) 0),o 106 (.ext (.t 100) 1),o 27 (.mv (.t 105)),o 28 (.mv (.t 106))]) (.seq (.ops [o 107 (.mv (.t 28)),o 108 (.mv (.t 26)),o 109 (.bin .neq (.t 107) (.t 108)),o 110 (.mv (.t 109)),og 111 110 false (.mv (.t 26)),og 112 110 false (.bin .neq (.t 111) (.k (.int .i64 0))),og 113 110 false (.mv (.t 112)),og 114 113 true (.mv (.t 27)),og 115 113 true (.len .slice (.t 114)),og 116 113 true (.bin .neq (.t 115) (.k (.int .i64 0))),og 117 110 false (.pick (.t 113) (.t 116) (.k (.bool false))),o 118 (.pick (.t 110) (.k (.bool true)) (.t 117)),o 119 (.mv (.t 118)),og 120 119 false (.mv (.t 26)),og 121 119 false (.bin .eql (.t 120) (.k (.int .i64 0))),og 122 119 false (.mv (.t 121)),og 123 122 true (.mv (.t 27)),og 124 122 true (.load true 3 (.t 16)),og 125 122 true (.mv (.t 25)),og 126 122 true (.mv (.t 18)),og 127 122 true (.call N.ref33_Run [.t 124,.t 125,.t 126]),og 128 122 true (.call N.ref02_Same [.t 123,.t 127]),og 129 122 true (.not (.t 128)),og 130 119 false (.pick (.t 122) (.t 129) (.k (.bool false))),o 131 (.pick (.t 119) (.k (.bool true)) (.t 130))]) (.cond (.t 131) (.seq (.ops [o 14 (.mv (.k (.bool false)))]) (.ret)) (.skip)))
def f_law33_TwinRuns_k1:SC:=.ops [o 132 (.bin .add (.t 85) (.k (.int .i64 1))),o 85 (.mv (.t 132))]
def f_law33_TwinRuns_b2:SC:=.seq (.ops [o 86 (.bin .lss (.t 85) (.k (.int .i64 2)))]) (.seq (.cond (.t 86) (.skip) (.exit 4)) (.seq (.blk 5 (.seq (.ops [o 87 (.ix false 2 1 (.t 84) (.t 85)),o 25 (.mv (.t 87))]) (.seq (.ops [o 88 (.mv (.t 19)),o 26 (.mv (.t 88))]) (.seq (.seq (.ops [o 89 (.mv (.t 26)),o 90 (.bin .eql (.t 89) (.k (.int .i64 0))),o 91 (.mv (.t 90)),og 92 91 true (.mv (.t 25)),og 93 91 true (.bin .lss (.t 92) (.k (.int .i64 0))),og 94 91 true (.mv (.t 93)),og 95 94 false (.mv (.t 25)),og 96 94 false (.mv (.t 20)),og 97 94 false (.bin .geq (.t 95) (.t 96)),og 98 91 true (.pick (.t 94) (.k (.bool true)) (.t 97)),o 99 (.pick (.t 91) (.t 98) (.k (.bool false)))]) (.cond (.t 99) (.ops [o 26 (.mv (.k (.int .i64 2)))]) (.skip))) f_law33_TwinRuns_k0)))) f_law33_TwinRuns_k1))
def f_law33_TwinRuns_k3:SC:=.seq (.seq (.ops [o 70 (.mv (.t 22)),o 71 (.mv (.t 19)),o 72 (.bin .neq (.t 70) (.t 71)),o 73 (.mv (.t 72)),og 74 73 false (.load true 3 (.t 21)),og 75 73 false (.load true 3 (.t 23)),og 76 73 false (.call N.ref03_Same [.t 74,.t 75]),og 77 73 false (.not (.t 76)),o 78 (.pick (.t 73) (.k (.bool true)) (.t 77))]) (.cond (.t 78) (.seq (.ops [o 14 (.mv (.k (.bool false)))]) (.ret)) (.skip))) (.seq (.ops [o 79 (.mv (.t 5)),o 80 (.mv (.t 6)),o 81 (.conv .i64 (.t 80)),o 82 (.mv (.t 20)),o 83 (.bin .rem (.t 81) (.t 82)),o 84 (.build [.int .i64 0,.int .i64 0] [(0,1),(1,1)] [.t 79,.t 83]),o 85 (.mv (.k (.int .i64 0)))]) (.blk 4 (.loop f_law33_TwinRuns_b2)))
def f_law33_TwinRuns_k4:SC:=.seq (.ops [o 60 (.load true 3 (.t 16)),o 61 (.mv (.t 18)),o 62 (.call N.twin_Table [.t 60,.t 61]),o 59 (.mv (.t 62)),o 63 (.ext (.t 59) 0),o 64 (.ext (.t 59) 1),o 21 (.alloc [.nils,.nils,.nils]),oz (.store 3 (.t 21) (.t 63)),o 22 (.mv (.t 64))]) (.seq (.ops [o 23 (.alloc [.nils,.nils,.nils])]) (.seq (.seq (.ops [o 65 (.mv (.t 19)),o 66 (.bin .eql (.t 65) (.k (.int .i64 0)))]) (.cond (.t 66) (.ops [o 67 (.load true 3 (.t 16)),o 68 (.mv (.t 18)),o 69 (.call N.ref33_Table [.t 67,.t 68]),oz (.store 3 (.t 23) (.t 69))]) (.skip))) f_law33_TwinRuns_k3))
def f_law33_TwinRuns_k5:SC:=.ops [o 133 (.bin .add (.t 48) (.k (.int .i64 1))),o 48 (.mv (.t 133))]
def f_law33_TwinRuns_b6:SC:=.seq (.ops [o 49 (.bin .lss (.t 48) (.k (.int .i64 2)))]) (.seq (.cond (.t 49) (.skip) (.exit 2)) (.seq (.blk 3 (.seq (.ops [o 50 (.ix false 2 1 (.t 47) (.t 48)),o 18 (.mv (.t 50))]) (.seq (.ops [o 51 (.load true 3 (.t 16)),o 52 (.mv (.t 18)),o 53 (.bsl 1 1 [.nils] [0] [.t 52]),o 54 (.call N.law33_refused [.t 51,.t 53]),o 19 (.mv (.t 54))]) (.seq (.ops [o 20 (.mv (.k (.int .i64 1)))]) (.seq (.seq (.ops [o 55 (.mv (.t 19)),o 56 (.bin .eql (.t 55) (.k (.int .i64 0)))]) (.cond (.t 56) (.ops [o 57 (.load true 3 (.t 16)),o 58 (.call N.ref33_Hidden [.t 57]),o 20 (.mv (.t 58))]) (.skip))) f_law33_TwinRuns_k4))))) f_law33_TwinRuns_k5))
def f_law33_TwinRuns_k7:SC:=.ops [o 134 (.bin .add (.t 35) (.k (.int .i64 1))),o 35 (.mv (.t 134))]
def f_law33_TwinRuns_b8:SC:=.seq (.ops [o 36 (.bin .lss (.t 35) (.k (.int .i64 3)))]) (.seq (.cond (.t 36) (.skip) (.exit 0)) (.seq (.blk 1 (.seq (.ops [o 37 (.ix true 3 3 (.t 34) (.t 35)),o 16 (.alloc [.int .i64 0,.nils,.nils]),oz (.store 3 (.t 16) (.t 37))]) (.seq (.seq (.quiet [o 38 (.load true 3 (.t 16)),o 39 (.call N.twin_Check [.t 38]),o 40 (.load true 3 (.t 16)),o 41 (.call N.law33_refused [.t 40,.k (.nils)]),o 42 (.bin .neq (.t 39) (.t 41))]) (.cond (.t 42) (.seq (.ops [o 14 (.mv (.k (.bool false)))]) (.ret)) (.skip))) (.seq (.quiet [o 43 (.load true 5 (.t 7)),o 44 (.call N.ref33_Draft_Model [.t 43]),o 45 (.mv (.t 3)),o 46 (.load true 5 (.t 11)),o 47 (.call N.law33_lists [.t 44,.t 45,.t 46]),o 48 (.mv (.k (.int .i64 0)))]) (.blk 2 (.loop f_law33_TwinRuns_b6)))))) f_law33_TwinRuns_k7))
def f_law33_TwinRuns_k9:SC:=.seq (.ops [o 14 (.mv (.k (.bool true)))]) (.ret)
def f_law33_TwinRuns_r:SC:=.seq (.seq (.ops [o 29 (.call N.law33_works []),o 30 (.not (.t 29))]) (.cond (.t 30) (.seq (.ops [o 14 (.mv (.k (.bool false)))]) (.ret)) (.skip))) (.seq (.seq (.ops [o 31 (.load true 5 (.t 7)),o 32 (.load true 4 (.t 8)),o 33 (.load true 4 (.t 9)),o 34 (.call N.law33_models [.t 31,.t 32,.t 33]),o 35 (.mv (.k (.int .i64 0)))]) (.blk 0 (.loop f_law33_TwinRuns_b8))) f_law33_TwinRuns_k9)
def f_law33_TwinRuns:SF:=⟨135,[.tm 14],.seq (.ops [o 7 (.box (.t 0)),o 8 (.box (.t 1)),o 9 (.box (.t 2)),o 11 (.box (.t 4)),o 14 (.mv (.k (.bool false)))]) f_law33_TwinRuns_r⟩
theorem eq_law33_TwinRuns:nFn C0 N.law33_TwinRuns=some f_law33_TwinRuns:=by kernel_rfl
end
end Hx
end
section
namespace Hx
open Go
noncomputable section
def LR (w:AV)(hid kk:Int)(p:Nat)(c9 v35:AV):List (Nat×AV):=[(3,w),(5,.int .i64 hid),(6,.int .u16 kk),(7,.hptr 0 0 0 0),(11,.hptr 3 0 0 0),(34,c9),(16,.hptr p 0 0 0),(35,v35)]
def LA (w:AV)(hid kk:Int)(p:Nat)(c9 v35 ls v48 l:AV)(E cnt:Int):List (Nat×AV):=[(3,w),(5,.int .i64 hid),(6,.int .u16 kk),(7,.hptr 0 0 0 0),(11,.hptr 3 0 0 0),(34,c9),(16,.hptr p 0 0 0),(35,v35),(47,ls),(48,v48),(18,l),(19,.int .i64 E),(20,.int .i64 cnt)]
theorem runs_h {m:Causal}{c1 c2 l w c9 v35 ls v48:AV}{al:List Int}{hid kk hv h2:Int}{p j:Nat}{Q:QT}(hm:∀h,Agg m NoP 0 h (.agg [.int .i64 m.grain,c1,c2]))(hl:SlR NoP 0 .nil al l){t:T}{g:G}
  (ht:St t (LA w hid kk p c9 v35 ls v48 l (S.readE m [al]) (if S.readE m [al]=0 then S.hidden m else 1))) (h84:tat t 84=.agg [.int .i64 hid,.int .i64 h2]) (h85:tat t 85=.int .i64 (j:Int)) (hj:(j=0∧hv=hid)∨(j=1∧hv=h2))
  (hb:hv<9223372036854775808) (hg:g.h.get p=.cells 3 [[.int .i64 m.grain,c1,c2]] 0 false false)
  (fin:∀t,St t (LA w hid kk p c9 v35 ls v48 l (S.readE m [al]) (if S.readE m [al]=0 then S.hidden m else 1))→tat t 84=.agg [.int .i64 hid,.int .i64 h2]→tat t 85=.int .i64 (j:Int)→Q .norm t [] g) :
  wp C0 1 none (.seq (.ops [o 87 (.ix false 2 1 (.t 84) (.t 85)),o 25 (.mv (.t 87))]) (.seq (.ops [o 88 (.mv (.t 19)),o 26 (.mv (.t 88))]) (.seq (.seq (.ops [o 89 (.mv (.t 26)),o 90 (.bin .eql (.t 89) (.k (.int .i64 0))),o 91 (.mv (.t 90)),og 92 91 true (.mv (.t 25)),og 93 91 true (.bin .lss (.t 92) (.k (.int .i64 0))),og 94 91 true (.mv (.t 93)),og 95 94 false (.mv (.t 25)),og 96 94 false (.mv (.t 20)),og 97 94 false (.bin .geq (.t 95) (.t 96)),og 98 91 true (.pick (.t 94) (.k (.bool true)) (.t 97)),o 99 (.pick (.t 91) (.t 98) (.k (.bool false)))]) (.cond (.t 99) (.ops [o 26 (.mv (.k (.int .i64 2)))]) (.skip))) f_law33_TwinRuns_k0))) Q t [] g:=by
 obtain ⟨h3,h5,h6,h7,h11,h34,h16,h35,h47,h48,h18,h19,h20,-⟩:=ht
 have hix:ixV false 2 1 (tat t 84) (tat t 85)=.val (.int .i64 hv):=by
  rcases hj with ⟨rfl,rfl⟩ | ⟨rfl,rfl⟩<;>rw[h84,h85]<;>rfl
 refine seq_cut (P:=fun t' df g'=>df=[]∧g'=g∧St t' (LA w hid kk p c9 v35 ls v48 l (S.readE m [al]) (if S.readE m [al]=0 then S.hidden m else 1))∧tat t' 84=.agg [.int .i64 hid,.int .i64 h2]∧tat t' 85=.int .i64 (j:Int)∧tat t' 25=.int .i64 hv) ?_ ?_
 ·simp only[sx,sy,SO.run,↓reduceIte,Nat.reduceEqDiff,hix]
  simp[St,LA,sx,h3,h5,h6,h7,h11,h34,h16,h35,h47,h48,h18,h19,h20,h84,h85]
 clear hix h3 h5 h6 h7 h11 h34 h16 h35 h47 h48 h18 h19 h20 h84 h85
 rintro t df g ⟨rfl,rfl,ht,h84,h85,h25⟩
 refine cutG (P:=fun t' df g'=>df=[]∧g'=g∧St t' (LA w hid kk p c9 v35 ls v48 l (S.readE m [al]) (if S.readE m [al]=0 then S.hidden m else 1))∧tat t' 84=.agg [.int .i64 hid,.int .i64 h2]∧tat t' 85=.int .i64 (j:Int)∧tat t' 25=.int .i64 hv∧tat t' 26=.int .i64 (S.readE m [al])) ?_ ?_
 ·obtain ⟨h3,h5,h6,h7,h11,h34,h16,h35,h47,h48,h18,h19,h20,-⟩:=ht
  simp only[sx,sy,SO.run,↓reduceIte,Nat.reduceEqDiff,h19]
  simp[St,LA,sx,h3,h5,h6,h7,h11,h34,h16,h35,h47,h48,h18,h19,h20,h84,h85,h25]
 clear ht h84 h85 h25
 rintro t df g ⟨rfl,rfl,ht,h84,h85,h25,h26⟩
 refine cutG (P:=fun t' df g'=>df=[]∧g'=g∧St t' (LA w hid kk p c9 v35 ls v48 l (S.readE m [al]) (if S.readE m [al]=0 then S.hidden m else 1))∧tat t' 84=.agg [.int .i64 hid,.int .i64 h2]∧tat t' 85=.int .i64 (j:Int)∧tat t' 25=.int .i64 hv∧tat t' 26=.int .i64 (S.trunE m hv al)) ?_ ?_
 ·obtain ⟨h3,h5,h6,h7,h11,h34,h16,h35,h47,h48,h18,h19,h20,-⟩:=ht
  by_cases hE:S.readE m [al]=0
  ·rw[if_pos hE] at h20 ⊢
   rw[hE] at h26 h19 ⊢
   have hT:S.trunE m hv al=if hv<0∨S.hidden m≤hv then 2 else 0:=by rw[S.trunE,if_neg (by rw[hE];simp)]
   simp only[sx,sy,SO.run,↓reduceIte,Nat.reduceEqDiff,h25,h26,h20,decide_true]
   by_cases h0:hv<0
   ·simp only[sx,sy,SO.run,↓reduceIte,Nat.reduceEqDiff,h25,h26,h20,h0,decide_true]
    simp[St,LA,sx,h3,h5,h6,h7,h11,h34,h16,h35,h47,h48,h18,h19,h20,h84,h85,h25,hT,h0]
   ·simp only[sx,sy,SO.run,↓reduceIte,Nat.reduceEqDiff,h25,h26,h20,h0,decide_false]
    by_cases h1:S.hidden m≤hv
    ·simp only[sx,sy,SO.run,↓reduceIte,Nat.reduceEqDiff,h25,h26,h20,h1,decide_true]
     simp[St,LA,sx,h3,h5,h6,h7,h11,h34,h16,h35,h47,h48,h18,h19,h20,h84,h85,h25,hT,h1]
    ·simp only[sx,sy,SO.run,↓reduceIte,Nat.reduceEqDiff,h25,h26,h20,h1,decide_false]
     simp[St,LA,sx,h3,h5,h6,h7,h11,h34,h16,h35,h47,h48,h18,h19,h20,h84,h85,h25,h26,hT,h0,h1]
  ·rw[if_neg hE] at h20 ⊢
   have hT:S.trunE m hv al=S.readE m [al]:=by rw[S.trunE,if_pos hE]
   rw[hT]
   simp only[sx,sy,SO.run,↓reduceIte,Nat.reduceEqDiff,h25,h26,h20,hE,decide_false]
   simp[St,LA,sx,h3,h5,h6,h7,h11,h34,h16,h35,h47,h48,h18,h19,h20,h84,h85,h25,h26]
 clear ht h84 h85 h25 h26
 rintro t df g ⟨rfl,rfl,ht,h84,h85,h25,h26⟩
 obtain ⟨h3,h5,h6,h7,h11,h34,h16,h35,h47,h48,h18,h19,h20,-⟩:=ht
 have hrr:S.trunE m hv al=0→S.check m=true∧S.act m al=true∧0≤hv:=fun hT=>by
  have hE:S.readE m [al]=0:=by
   by_cases hE:S.readE m [al]=0
   ·exact hE
   ·rw[S.trunE,if_pos hE] at hT;exact absurd hT hE
  have hh:¬hv<0:=fun h=>by rw[S.trunE,if_neg (by rw[hE];simp),if_pos (.inl h)] at hT;cases hT
  rw[read_one'] at hE
  refine ⟨?_,?_,by omega⟩
  ·cases hc:S.check m with
   | true=>rfl
   | false=>rw[hc] at hE;simp at hE
  ·cases hc:S.act m al with
   | true=>rfl
   | false=>rw[hc] at hE;cases hk:S.check m<;>rw[hk] at hE<;>simp at hE
 simp only[f_law33_TwinRuns_k0]
 obtain ⟨r,er,ra,rb,rfl,hra,hrb⟩:=trun_ok (d:=1) (g:=g) (v:=.agg [.int .i64 m.grain,c1,c2]) (act:=l) (h:=hv) (by decide) (hm _) hl hb
 have hrb:=rp_int.1 hrb
 injection hrb with hrb
 subst hrb
 obtain ⟨_,e1,hra⟩:=rp_list.1 hra
 injection e1 with e1;subst e1
 refine seq_cut (P:=fun t' df g'=>df=[]∧g'=g∧St t' (LA w hid kk p c9 v35 ls v48 l (S.readE m [al]) (if S.readE m [al]=0 then S.hidden m else 1))∧tat t' 84=.agg [.int .i64 hid,.int .i64 h2]∧tat t' 85=.int .i64 (j:Int)∧tat t' 25=.int .i64 hv∧tat t' 26=.int .i64 (S.trunE m hv al)∧tat t' 27=ra∧tat t' 28=.int .i64 (S.trunE m hv al)) ?_ ?_
 ·simp only[sx,sy,SO.run,↓reduceIte,Nat.reduceEqDiff,Nat.reduceAdd,Nat.reduceLeDiff,h16,h18,h25,hg,er]
  simp[St,LA,sx,h3,h5,h6,h7,h11,h34,h16,h35,h47,h48,h18,h19,h20,h84,h85,h25,h26]
 clear er h3 h5 h6 h7 h11 h34 h16 h35 h47 h48 h18 h19 h20 h84 h85 h25 h26
 rintro t df g ⟨rfl,rfl,ht,h84,h85,h25,h26,h27,h28⟩
 refine seq_cut (P:=fun t' df g'=>df=[]∧g'=g∧St t' (LA w hid kk p c9 v35 ls v48 l (S.readE m [al]) (if S.readE m [al]=0 then S.hidden m else 1))∧tat t' 84=.agg [.int .i64 hid,.int .i64 h2]∧tat t' 85=.int .i64 (j:Int)∧tat t' 131=.bool false) ?_ ?_
 ·obtain ⟨h3,h5,h6,h7,h11,h34,h16,h35,h47,h48,h18,h19,h20,-⟩:=ht
  by_cases hT:S.trunE m hv al=0
  ·obtain ⟨hck,hac,hh⟩:=hrr hT
   rw[S.trun,if_pos hT] at hra
   simp only[sx,sy,SO.run,↓reduceIte,Nat.reduceEqDiff,Nat.reduceAdd,Nat.reduceLeDiff,h16,h18,h25,h26,h27,h28,hT,hg,decide_true,Bool.not_true,Bool.not_false]
   refine sat_ex (rrun_ok (P:=NoP) (Pa:=NoP) (k:=0) (ka:=0) (hh:=hv) (by decide) (hm _) (hl.tree (Nat.le_refl _)) hck hac ⟨hh,hb⟩) fun rr hrr=>?_
   simp only[sx,sy,SO.run,↓reduceIte,Nat.reduceEqDiff,Nat.reduceAdd,Nat.reduceLeDiff,h16,h18,h25,h26,h27,h28,hT,hg,decide_true,Bool.not_true,Bool.not_false,
    same_ok (d:=1) (P:=NoP) (P2:=NoP) (k:=0) (k2:=0) (by decide) (hra.tree (Nat.le_refl _)) (hrr.sl _)]
   simp[St,LA,sx,h3,h5,h6,h7,h11,h34,h16,h35,h47,h48,h18,h19,h20,h84,h85]
  ·rw[S.trun,if_neg hT] at hra
   have l1:∀g,lenF .slice ra g=.val (.int .i64 0):=fun g=>(hra.tree (h':=.nil) (Nat.le_refl 0)).len g
   simp only[sx,sy,SO.run,↓reduceIte,Nat.reduceEqDiff,Nat.reduceAdd,Nat.reduceLeDiff,h16,h18,h25,h26,h27,h28,hT,hg,l1,decide_true,decide_false,Bool.not_true,Bool.not_false]
   simp[St,LA,sx,h3,h5,h6,h7,h11,h34,h16,h35,h47,h48,h18,h19,h20,h84,h85]
 clear ht h84 h85 h25 h26 h27 h28
 rintro t df g ⟨rfl,rfl,ht,h84,h85,h131⟩
 simp only[wp_cond,get_t,h131,wpC_bool,bifP_false,wp_skip]
 exact fin t ht h84 h85
end
end Hx
end
section
namespace Hx
open Go
noncomputable section
theorem fr_of {g g':G}(hn:g.nx≤g'.nx)(h:∀i,i<g.nx→g'.h.get i=g.h.get i):Fr g g':=⟨hn,h⟩
theorem wpL_rangeK' {C:Cfg}{d:Nat}{rd:Option Nat}{body:SC}{c ti k B b:Nat}{Q:QT}{m:Nat}{lim:Int}(hlim:lim=(m:Int))(hm:m<9223372036854775808)(J:Nat→PT){t:T}{df:List ADf}{g:G}
  (h0:J 0 t df g) (hi:tat t ti=.int .i64 0) (hc:c≠ti∧b≠B)
  (hJ:∀j t df g v s,s=c∨s=ti∨s=k→J j t df g→J j (tset t s v) df g)
  (step:∀j t df g,j<m→J j t df g→tat t ti=.int .i64 (j:Int)→wp C d rd body (kR (fun t df g=>J (j+1) t df g∧tat t ti=.int .i64 (j:Int)) b Q) t df g)
  (fin:∀t df g,J m t df g→Q (.exit B) t df g) :
  wpL (wp C d rd (.seq (.ops [o c (.bin .lss (.t ti) (.k (.int .i64 lim)))]) (.seq (.cond (.t c) .skip (.exit B)) (.seq (.blk b body) (.ops [o k (.bin .add (.t ti) (.k (.int .i64 1))),o ti (.mv (.t k))]))))) Q t df g:=by
 subst hlim
 obtain ⟨c1,c5⟩:=hc
 refine wpL_mk (fun n t df g=>∃j:Nat,n=m - j∧j≤m∧J j t df g∧tat t ti=.int .i64 (j:Int)) m ⟨0,by omega,by omega,h0,hi⟩ ?_
 rintro n t df g ⟨j,rfl,hj,hjj,h1⟩
 simp only[sx,SO.run,↓reduceIte,h1]
 refine ⟨fun hq=>?_,fun hq=>?_⟩
 ·have hlt:j<m:=by simpa using hq
  simp only[sx]
  refine wp_mono _ (step j _ df g hlt (hJ _ _ _ _ _ _ (.inl rfl) hjj) (by simp only[tat_tset];rw[if_neg (Ne.symm c1),h1])) fun e t df g h=>?_
  have key:J (j+1) t df g∧tat t ti=.int .i64 (j:Int)→wp C d rd (.ops [o k (.bin .add (.t ti) (.k (.int .i64 1))),o ti (.mv (.t k))])
    (kL (fun n t df g=>∃j:Nat,n=m - j∧j≤m∧J j t df g∧tat t ti=.int .i64 (j:Int)) (m - j) Q) t df g:=by
   rintro ⟨a1,a2⟩
   simp only[sx,SO.run,a2,↓reduceIte]
   refine ⟨_,?_,j+1,rfl,by omega,hJ _ _ _ _ _ _ (.inr (.inl rfl)) (hJ _ _ _ _ _ _ (.inr (.inr rfl)) a1),?_⟩
   ·omega
   ·rw[wrap64 (by omega) (by omega)];rfl
  cases e with
  | norm=>exact key h
  | ret=>exact h
  | exit x =>
   rw[kR_exit] at h
   rw[kB_exit]
   split at h
   ·rename_i e;rw[if_pos e];exact key h
   ·rename_i e;rw[if_neg e];exact h
 ·have:j=m:=by simp at hq;omega
  subst this
  simp only[sx]
  exact fin _ _ _ (hJ _ _ _ _ _ _ (.inl rfl) hjj)
section
variable {m:Causal}{c1 c2 l w c9 v35 ls v48:AV}{al:List Int}{hid kk:Int}{p:Nat}
theorem runs_b2 {Q:QT}{h2:Int}(hm:∀h,Agg m NoP 0 h (.agg [.int .i64 m.grain,c1,c2]))(hl:SlR NoP 0 .nil al l){t:T}{g:G}(hb1:hid<9223372036854775808)(hb2:h2<9223372036854775808)
  (ht:St t (LA w hid kk p c9 v35 ls v48 l (S.readE m [al]) (if S.readE m [al]=0 then S.hidden m else 1))) (h84:tat t 84=.agg [.int .i64 hid,.int .i64 h2]) (h85:tat t 85=.int .i64 0) (hg:g.h.get p=.cells 3 [[.int .i64 m.grain,c1,c2]] 0 false false)
  (fin:∀t,St t (LA w hid kk p c9 v35 ls v48 l (S.readE m [al]) (if S.readE m [al]=0 then S.hidden m else 1))→Q (.exit 4) t [] g) :
  wpL (wp C0 1 none f_law33_TwinRuns_b2) Q t [] g:=by
 simp only[f_law33_TwinRuns_b2,f_law33_TwinRuns_k1]
 refine wpL_rangeK' (m:=2) rfl (by omega) (fun j t df g'=>df=[]∧g'=g∧St t (LA w hid kk p c9 v35 ls v48 l (S.readE m [al]) (if S.readE m [al]=0 then S.hidden m else 1))∧tat t 84=.agg [.int .i64 hid,.int .i64 h2])
  ⟨rfl,rfl,ht,h84⟩ h85 (by decide) (by rintro j t df g v s (rfl | rfl | rfl)<;>simp[LA,St,sx]) ?_ ?_
 ·rintro j t df g' hj ⟨rfl,rfl,h1,h2⟩ h3
  have hj2:j=0∨j=1:=by omega
  rcases hj2 with rfl | rfl
  ·refine runs_h hm hl h1 h2 h3 (.inl ⟨rfl,rfl⟩) hb1 hg fun t a1 a2 a3=>?_
   rw[kR_norm]
   exact ⟨⟨rfl,rfl,a1,a2⟩,a3⟩
  ·refine runs_h hm hl h1 h2 h3 (.inr ⟨rfl,rfl⟩) hb2 hg fun t a1 a2 a3=>?_
   rw[kR_norm]
   exact ⟨⟨rfl,rfl,a1,a2⟩,a3⟩
 ·rintro t df g' ⟨rfl,rfl,h1,h2⟩
  exact fin t h1
theorem runs_k4 {Q:QT}(hm:∀h,Agg m NoP 0 h (.agg [.int .i64 m.grain,c1,c2]))(hl:SlR NoP 0 .nil al l){t:T}{g:G}(hb1:hid<9223372036854775808)(hk:0≤kk∧kk<65536)(hp:p<g.nx)
  (ht:St t (LA w hid kk p c9 v35 ls v48 l (S.readE m [al]) (if S.readE m [al]=0 then S.hidden m else 1))) (hg:g.h.get p=.cells 3 [[.int .i64 m.grain,c1,c2]] 0 false false)
  (fin:∀t g',St t (LA w hid kk p c9 v35 ls v48 l (S.readE m [al]) (if S.readE m [al]=0 then S.hidden m else 1))→Fr g g'→Q .norm t [] g') :
  wp C0 1 none f_law33_TwinRuns_k4 Q t [] g:=by
 obtain ⟨r,er,ra,rb,rfl,⟨rc,rfl,hrc⟩,hrb⟩:=ttable_ok (d:=1) (g:=g) (v:=.agg [.int .i64 m.grain,c1,c2]) (act:=l) (by decide) (hm _) hl
 have hrb:=rp_int.1 hrb
 injection hrb with hrb
 subst hrb
 obtain ⟨a1,a2,a3,rfl,ha1,ha2,ha3⟩:=rp_factor.1 hrc
 have hfc:∀h,Agg (S.ttable m al) NoP 0 h (.agg [a1,a2,a3]):=fun h=>⟨_,rfl,Rp.tree hrc (Nat.le_refl _)⟩
 have hfr:S.readE m [al]=0→S.check m=true∧S.act m al=true:=fun hE=>by
  rw[read_one'] at hE
  refine ⟨?_,?_⟩
  ·cases hc:S.check m with
   | true=>rfl
   | false=>rw[hc] at hE;simp at hE
  ·cases hc:S.act m al with
   | true=>rfl
   | false=>rw[hc] at hE;cases hk:S.check m<;>rw[hk] at hE<;>simp at hE
 simp only[f_law33_TwinRuns_k4]
 refine seq_cut (P:=fun t' df g'=>df=[]∧St t' (LA w hid kk p c9 v35 ls v48 l (S.readE m [al]) (if S.readE m [al]=0 then S.hidden m else 1))∧tat t' 21=.hptr g.nx 0 0 0∧tat t' 22=.int .i64 (S.readE m [al])∧Fr g g'∧g'.nx=g.nx+1∧g'.h.get g.nx=.cells 3 [[a1,a2,a3]] 0 false false) ?_ ?_
 ·obtain ⟨h3,h5,h6,h7,h11,h34,h16,h35,h47,h48,h18,h19,h20,-⟩:=ht
  simp only[sx,sy,SO.run,↓reduceIte,Nat.reduceEqDiff,Nat.reduceAdd,Nat.reduceLeDiff,h16,h18,hg,er]
  simp[St,LA,sx,h3,h5,h6,h7,h11,h34,h16,h35,h47,h48,h18,h19,h20,H.get_put]
  exact fr_of (by simp) fun i hi=>by simp[H.get_put,show ¬i=g.nx by omega]
 clear er ht
 rintro t df g1 ⟨rfl,ht,h21,h22,fr1,n1,k1⟩
 refine seq_cut (P:=fun t' df g'=>df=[]∧St t' (LA w hid kk p c9 v35 ls v48 l (S.readE m [al]) (if S.readE m [al]=0 then S.hidden m else 1))∧tat t' 21=.hptr g.nx 0 0 0∧tat t' 22=.int .i64 (S.readE m [al])∧tat t' 23=.hptr (g.nx+1) 0 0 0∧Fr g g'∧g'.nx=g.nx+2∧g'.h.get g.nx=.cells 3 [[a1,a2,a3]] 0 false false∧g'.h.get (g.nx+1)=.cells 3 [[.nils,.nils,.nils]] 0 false false) ?_ ?_
 ·obtain ⟨h3,h5,h6,h7,h11,h34,h16,h35,h47,h48,h18,h19,h20,-⟩:=ht
  simp only[sx,sy,SO.run,↓reduceIte,Nat.reduceEqDiff,Nat.reduceAdd,Nat.reduceLeDiff]
  simp[St,LA,sx,h3,h5,h6,h7,h11,h34,h16,h35,h47,h48,h18,h19,h20,h21,h22,H.get_put,n1,k1]
  exact fr1.trans (fr_of (by simp) fun i hi=>by simp[H.get_put,show ¬i=g1.nx by omega])
 clear ht h21 h22 fr1 n1 k1
 rintro t df g2 ⟨rfl,ht,h21,h22,h23,fr2,n2,k1,k2⟩
 refine cutG (P:=fun t' df g'=>df=[]∧St t' (LA w hid kk p c9 v35 ls v48 l (S.readE m [al]) (if S.readE m [al]=0 then S.hidden m else 1))∧tat t' 21=.hptr g.nx 0 0 0∧tat t' 22=.int .i64 (S.readE m [al])∧tat t' 23=.hptr (g.nx+1) 0 0 0∧Fr g g'∧g'.h.get g.nx=.cells 3 [[a1,a2,a3]] 0 false false ∧
  ∃b1 b2 b3,(∀h,Agg (S.ttable m al) NoP 0 h (.agg [b1,b2,b3]))∧g'.h.get (g.nx+1)=.cells 3 [[b1,b2,b3]] 0 false false) ?_ ?_
 ·have hgp:g2.h.get p=.cells 3 [[.int .i64 m.grain,c1,c2]] 0 false false:=by rw[fr2.2 p hp,hg]
  obtain ⟨h3,h5,h6,h7,h11,h34,h16,h35,h47,h48,h18,h19,h20,-⟩:=ht
  by_cases hE:S.readE m [al]=0
  ·obtain ⟨hck,hac⟩:=hfr hE
   have hT:S.ttable m al=S.table m al:=by rw[S.ttable,if_pos hE]
   simp only[sx,sy,SO.run,↓reduceIte,Nat.reduceEqDiff,Nat.reduceAdd,Nat.reduceLeDiff,h19,hE,decide_true,h16,h18,hgp]
   refine sat_ex (rtable_ok (P:=NoP) (Pa:=NoP) (k:=0) (ka:=0) (by decide) (hm _) (hl.tree (Nat.le_refl _)) hck hac) fun rr hrr=>?_
   obtain ⟨rc2,rfl,hrc2⟩:=hrr
   obtain ⟨b1,b2,b3,rfl,hb1,hb2,hb3⟩:=rp_factor.1 hrc2
   simp only[sx,sy,SO.run,↓reduceIte,Nat.reduceEqDiff,Nat.reduceAdd,Nat.reduceLeDiff,h23,k2]
   rw[if_pos hE] at h20
   rw[hE] at h19 h22
   simp[St,LA,sx,h3,h5,h6,h7,h11,h34,h16,h35,h47,h48,h18,h19,h20,h21,h22,h23,H.get_put,k1,hE]
   refine ⟨fr_of (by simpa using fr2.1) fun i hi=>?_,b1,b2,b3,fun h=>?_,rfl,rfl,rfl⟩
   ·simp[H.get_put,show ¬i=g.nx+1 by omega];exact fr2.2 i hi
   ·rw[hT];exact ⟨_,rfl,Rp.tree hrc2 (Nat.le_refl _)⟩
  ·have hT:S.ttable m al=⟨[],[],[]⟩:=by rw[S.ttable,if_neg hE]
   rw[if_neg hE] at h20
   simp only[sx,sy,SO.run,↓reduceIte,Nat.reduceEqDiff,Nat.reduceAdd,Nat.reduceLeDiff,h19,hE,decide_false]
   simp[St,LA,sx,h3,h5,h6,h7,h11,h34,h16,h35,h47,h48,h18,h19,h20,h21,h22,h23,k1,k2,hE]
   refine ⟨fr2,.nils,.nils,.nils,fun h=>?_,rfl,rfl,rfl⟩
   rw[hT];exact ⟨_,rfl,rp_factor.2 ⟨.nils,.nils,.nils,rfl,⟨by decide,rfl⟩,⟨by decide,rfl⟩,⟨by decide,rfl⟩⟩⟩
 clear ht h21 h22 h23 fr2 n2 k1 k2
 rintro t df g3 ⟨rfl,ht,h21,h22,h23,fr3,k1,b1,b2,b3,hB,k2⟩
 simp only[f_law33_TwinRuns_k3]
 have hsame:∀g,callV C0 1 N.ref03_Same [.agg [a1,a2,a3],.agg [b1,b2,b3]] g=.val (.bool true):=fun g=>fsame_ok (P:=NoP) (P2:=NoP) (k:=0) (k2:=0) (by decide) (hfc _) (hB _) rfl
 refine cutG (P:=fun t' df g'=>df=[]∧g'=g3∧St t' (LA w hid kk p c9 v35 ls v48 l (S.readE m [al]) (if S.readE m [al]=0 then S.hidden m else 1))) ?_ ?_
 ·refine seq_cut (P:=fun t' df g'=>df=[]∧g'=g3∧St t' (LA w hid kk p c9 v35 ls v48 l (S.readE m [al]) (if S.readE m [al]=0 then S.hidden m else 1))∧tat t' 78=.bool false) ?_ ?_
  ·obtain ⟨h3,h5,h6,h7,h11,h34,h16,h35,h47,h48,h18,h19,h20,-⟩:=ht
   simp only[sx,sy,SO.run,↓reduceIte,Nat.reduceEqDiff,Nat.reduceAdd,Nat.reduceLeDiff,h19,h21,h22,h23,k1,k2,hsame,decide_true,Bool.not_true,Bool.not_false]
   simp[St,LA,sx,h3,h5,h6,h7,h11,h34,h16,h35,h47,h48,h18,h19,h20]
  rintro t df g' ⟨rfl,rfl,ht,h78⟩
  simp only[wp_cond,get_t,h78,wpC_bool,bifP_false,wp_skip]
  exact ⟨trivial,trivial,trivial,ht⟩
 clear ht h21 h22 h23 k1 k2
 rintro t df g4 ⟨rfl,rfl,ht⟩
 have hgp:g4.h.get p=.cells 3 [[.int .i64 m.grain,c1,c2]] 0 false false:=by rw[fr3.2 p hp,hg]
 obtain ⟨cnt,hcnt,hc0,hc1⟩:∃cnt:Int,(if S.readE m [al]=0 then S.hidden m else 1)=cnt∧0<cnt∧cnt≤65536:=by
  refine ⟨_,rfl,?_⟩
  split
  ·rename_i hE
   have hs:=(check_facts (hfr hE).1).1
   have hhb:=hidden_bound hs m.roots.length
   rw[List.take_length] at hhb
   have hhb:1≤S.hidden m∧S.hidden m≤4 ^ 8:=hhb
   omega
  ·decide
 have hrem:=Int.emod_lt_of_pos kk hc0
 have hrem0:=Int.emod_nonneg kk (show cnt≠0 by omega)
 refine seq_cut (P:=fun t' df g'=>df=[]∧g'=g4∧St t' (LA w hid kk p c9 v35 ls v48 l (S.readE m [al]) (if S.readE m [al]=0 then S.hidden m else 1))∧tat t' 84=.agg [.int .i64 hid,.int .i64 (kk % cnt)]∧tat t' 85=.int .i64 0) ?_ ?_
 ·obtain ⟨h3,h5,h6,h7,h11,h34,h16,h35,h47,h48,h18,h19,h20,-⟩:=ht
  rw[hcnt] at h20 ⊢
  simp only[sx,sy,SO.run,↓reduceIte,Nat.reduceEqDiff,Nat.reduceAdd,Nat.reduceLeDiff,h5,h6,h20,wrap64 (show -9223372036854775808≤kk by omega) (show kk<9223372036854775808 by omega),bin_rem .i64 hk.1 hc0]
  simp[St,LA,sx,h3,h5,h6,h7,h11,h34,h16,h35,h47,h48,h18,h19,h20]
 clear ht
 rintro t df g5 ⟨rfl,rfl,ht,h84,h85⟩
 simp only[wp_blk,wp_loop]
 refine runs_b2 hm hl hb1 (by omega) ht h84 h85 hgp fun t ht=>?_
 simp only[kB_exit,if_true]
 exact fin t g5 ht fr3
theorem runs_act {l1 l2:AV}{j:Nat}{Q:QT}(hm:∀h,Agg m NoP 0 h (.agg [.int .i64 m.grain,c1,c2]))(hl:SlR NoP 0 .nil al l){t:T}{g:G}(hb1:hid<9223372036854775808)(hk:0≤kk∧kk<65536)(hp:p<g.nx)
  (ht:St t (LR w hid kk p c9 v35)) (h47:tat t 47=.agg [l1,l2]) (h48:tat t 48=.int .i64 (j:Int)) (hj:(j=0∧l=l1)∨(j=1∧l=l2)) (hg:g.h.get p=.cells 3 [[.int .i64 m.grain,c1,c2]] 0 false false)
  (fin:∀t g',St t (LR w hid kk p c9 v35)→tat t 47=.agg [l1,l2]→tat t 48=.int .i64 (j:Int)→Fr g g'→Q .norm t [] g') :
  wp C0 1 none (.seq (.ops [o 50 (.ix false 2 1 (.t 47) (.t 48)),o 18 (.mv (.t 50))]) (.seq (.ops [o 51 (.load true 3 (.t 16)),o 52 (.mv (.t 18)),o 53 (.bsl 1 1 [.nils] [0] [.t 52]),o 54 (.call N.law33_refused [.t 51,.t 53]),o 19 (.mv (.t 54))]) (.seq (.ops [o 20 (.mv (.k (.int .i64 1)))]) (.seq (.seq (.ops [o 55 (.mv (.t 19)),o 56 (.bin .eql (.t 55) (.k (.int .i64 0)))]) (.cond (.t 56) (.ops [o 57 (.load true 3 (.t 16)),o 58 (.call N.ref33_Hidden [.t 57]),o 20 (.mv (.t 58))]) (.skip))) f_law33_TwinRuns_k4)))) Q t [] g:=by
 have hix:ixV false 2 1 (tat t 47) (tat t 48)=.val l:=by
  rcases hj with ⟨rfl,rfl⟩ | ⟨rfl,rfl⟩<;>rw[h47,h48]<;>rfl
 obtain ⟨h3,h5,h6,h7,h11,h34,h16,h35,-⟩:=ht
 refine seq_cut (P:=fun t' df g'=>df=[]∧g'=g∧St t' (LR w hid kk p c9 v35)∧tat t' 47=.agg [l1,l2]∧tat t' 48=.int .i64 (j:Int)∧tat t' 18=l) ?_ ?_
 ·simp only[sx,sy,SO.run,↓reduceIte,Nat.reduceEqDiff,hix]
  simp[St,LR,sx,h3,h5,h6,h7,h11,h34,h16,h35,h47,h48]
 clear hix h3 h5 h6 h7 h11 h34 h16 h35 h47 h48
 rintro t df g ⟨rfl,rfl,⟨h3,h5,h6,h7,h11,h34,h16,h35,-⟩,h47,h48,h18⟩
 have hrf:=refused_ok (g:=g.new (.cells 1 [[l]] 0 false false)) (d:=1) (P:=NoP) (P2:=fun _=>True) (k:=0) (k2:=0) (m:=m) (ls:=[al]) (w:=.hsl g.nx 0 0 1 none) (by decide) (hm _) (one_lst hl (by simp[H.get_put]))
 refine seq_cut (P:=fun t' df g'=>df=[]∧g'=g.new (.cells 1 [[l]] 0 false false)∧St t' (LR w hid kk p c9 v35)∧tat t' 47=.agg [l1,l2]∧tat t' 48=.int .i64 (j:Int)∧tat t' 18=l∧tat t' 19=.int .i64 (S.readE m [al])) ?_ ?_
 ·simp only[sx,sy,SO.run,↓reduceIte,Nat.reduceEqDiff,Nat.reduceAdd,Nat.reduceLeDiff,h16,h18,hg]
  rw[bsl_one 1 [.nils] l _ (by rw[hl.cell.1];rfl) hl.cell.2,hl.cell.1]
  simp only[sx,sy,SO.run,↓reduceIte,Nat.reduceEqDiff,Nat.reduceAdd,Nat.reduceLeDiff,hrf]
  simp[St,LR,sx,h3,h5,h6,h7,h11,h34,h16,h35,h47,h48,h18]
 clear h3 h5 h6 h7 h11 h34 h16 h35 h47 h48 h18
 rintro t df g1 ⟨rfl,hg1,⟨h3,h5,h6,h7,h11,h34,h16,h35,-⟩,h47,h48,h18,h19⟩
 have fr1:Fr g g1:=by rw[hg1];exact Fr.new _ _
 have hgp:g1.h.get p=.cells 3 [[.int .i64 m.grain,c1,c2]] 0 false false:=by rw[fr1.2 p hp,hg]
 clear hg1 hrf
 refine seq_cut (P:=fun t' df g'=>df=[]∧g'=g1∧St t' (LR w hid kk p c9 v35)∧tat t' 47=.agg [l1,l2]∧tat t' 48=.int .i64 (j:Int)∧tat t' 18=l∧tat t' 19=.int .i64 (S.readE m [al])∧tat t' 20=.int .i64 1) ?_ ?_
 ·simp only[sx,sy,SO.run,↓reduceIte,Nat.reduceEqDiff]
  simp[St,LR,sx,h3,h5,h6,h7,h11,h34,h16,h35,h47,h48,h18,h19]
 clear h3 h5 h6 h7 h11 h34 h16 h35 h47 h48 h18 h19
 rintro t df g1 ⟨rfl,rfl,⟨h3,h5,h6,h7,h11,h34,h16,h35,-⟩,h47,h48,h18,h19,h20⟩
 refine cutG (P:=fun t' df g'=>df=[]∧g'=g1∧St t' (LA w hid kk p c9 v35 (.agg [l1,l2]) (.int .i64 (j:Int)) l (S.readE m [al]) (if S.readE m [al]=0 then S.hidden m else 1))) ?_ ?_
 ·by_cases hE:S.readE m [al]=0
  ·have hs:S.Small m:=by
    rw[read_one'] at hE
    refine (check_facts (m:=m) ?_).1
    cases hc:S.check m with
    | true=>rfl
    | false=>rw[hc] at hE;simp at hE
   rw[if_pos hE]
   rw[hE] at h19 ⊢
   simp only[sx,sy,SO.run,↓reduceIte,Nat.reduceEqDiff,Nat.reduceAdd,Nat.reduceLeDiff,h19,h16,hgp,decide_true,hidden_ok (d:=1) (P:=NoP) (k:=0) (by decide) (hm _) hs]
   simp[St,LA,sx,h3,h5,h6,h7,h11,h34,h16,h35,h47,h48,h18,h19]
  ·rw[if_neg hE]
   simp only[sx,sy,SO.run,↓reduceIte,Nat.reduceEqDiff,Nat.reduceAdd,Nat.reduceLeDiff,h19,hE,decide_false]
   simp[St,LA,sx,h3,h5,h6,h7,h11,h34,h16,h35,h47,h48,h18,h19,h20]
 clear h3 h5 h6 h7 h11 h34 h16 h35 h47 h48 h18 h19 h20
 rintro t df g1 ⟨rfl,rfl,ht⟩
 refine runs_k4 hm hl hb1 hk (Nat.lt_of_lt_of_le hp fr1.1) ht hgp fun t g2 ht fr2=>?_
 obtain ⟨h3,h5,h6,h7,h11,h34,h16,h35,h47,h48,h18,h19,h20,-⟩:=ht
 exact fin t g2 ⟨h3,h5,h6,h7,h11,h34,h16,h35,trivial⟩ h47 h48 (fr1.trans fr2)
theorem runs_b6 {l1 l2:AV}{A1 A2:List Int}{Q:QT}(hm:∀h,Agg m NoP 0 h (.agg [.int .i64 m.grain,c1,c2]))(hl1:SlR NoP 0 .nil A1 l1)(hl2:SlR NoP 0 .nil A2 l2){t:T}{g:G}(hb1:hid<9223372036854775808)(hk:0≤kk∧kk<65536)(hp:p<g.nx)
  (ht:St t (LR w hid kk p c9 v35)) (h47:tat t 47=.agg [l1,l2]) (h48:tat t 48=.int .i64 0) (hg:g.h.get p=.cells 3 [[.int .i64 m.grain,c1,c2]] 0 false false)
  (fin:∀t g',St t (LR w hid kk p c9 v35)→Fr g g'→Q (.exit 2) t [] g') :
  wpL (wp C0 1 none f_law33_TwinRuns_b6) Q t [] g:=by
 simp only[f_law33_TwinRuns_b6,f_law33_TwinRuns_k5]
 refine wpL_rangeK' (m:=2) rfl (by omega) (fun j t df g'=>df=[]∧St t (LR w hid kk p c9 v35)∧tat t 47=.agg [l1,l2]∧Fr g g') ⟨rfl,ht,h47,Fr.refl _⟩ h48 (by decide) (by rintro j t df g v s (rfl | rfl | rfl)<;>simp[LR,St,sx]) ?_ ?_
 ·rintro j t df g' hj ⟨rfl,h1,h2,hfr⟩ h3
  have hp':p<g'.nx:=Nat.lt_of_lt_of_le hp hfr.1
  have hg':g'.h.get p=.cells 3 [[.int .i64 m.grain,c1,c2]] 0 false false:=by rw[hfr.2 p hp,hg]
  have hj2:j=0∨j=1:=by omega
  rcases hj2 with rfl | rfl
  ·refine runs_act hm hl1 hb1 hk hp' h1 h2 h3 (.inl ⟨rfl,rfl⟩) hg' fun t g2 a1 a2 a3 a4=>?_
   rw[kR_norm]
   exact ⟨⟨rfl,a1,a2,hfr.trans a4⟩,a3⟩
  ·refine runs_act hm hl2 hb1 hk hp' h1 h2 h3 (.inr ⟨rfl,rfl⟩) hg' fun t g2 a1 a2 a3 a4=>?_
   rw[kR_norm]
   exact ⟨⟨rfl,a1,a2,hfr.trans a4⟩,a3⟩
 ·rintro t df g' ⟨rfl,h1,h2,hfr⟩
  exact fin t g' h1 hfr
end
end
end Hx
end
