/- A part of the proof: an interpreter over abstract values, shown right against the model, and what the functions of the chapter compute on it. -/
import Derived.Test.YtaebcalnodgpnaaHx9
set_option linter.unusedVariables false
set_option linter.unusedSimpArgs false
set_option linter.unnecessarySimpa false
section
namespace Hx
open Go
noncomputable section
structure KnownM where
 m:Causal
 hidden:Int
instance : Rp KnownM:=Rp.via fun x:KnownM=>(x.m,x.hidden)
theorem rp_known {P:Nat→Prop}{k:Nat}{h:H}{x:KnownM}{cs:List AV}:Rp.rp P k h x cs↔∃a b,cs=[.int .i64 x.m.grain,a,b,.int .i64 x.hidden]∧SlR P k h x.m.roots a∧SlR P k h x.m.nodes b:=by
 constructor
 ·rintro ⟨c1,c2,rfl,h1,h2⟩
  obtain ⟨a,b,rfl,h3,h4⟩:=rp_causal.1 h1
  rw[rp_int.1 h2];exact ⟨a,b,rfl,h3,h4⟩
 ·rintro ⟨a,b,rfl,h3,h4⟩
  exact ⟨[.int .i64 x.m.grain,a,b],[.int .i64 x.hidden],rfl,rp_causal.2 ⟨a,b,rfl,h3,h4⟩,rp_int.2 rfl⟩
def S.actAt (m:Causal)(l:List Int)(i:Nat):Bool:=decide (-1≤l[i]?.getD 0)&&decide (l[i]?.getD 0≤S.cardAt m i - 1)
def S.act (m:Causal)(l:List Int):Bool:=decide (l.length=m.nodes.length)&&(List.range l.length).all (S.actAt m l)
def S.hidden (m:Causal):Int:=S.prod (m.roots.map fun r=>(r.length:Int))
def S.zeroK:KnownM:=⟨⟨0,[],[]⟩,0⟩
def S.readE (m:Causal)(ls:List (List Int)):Int:=if S.check m then (if ls.all (S.act m) then 0 else 2) else 330
def S.read (m:Causal)(ls:List (List Int)):KnownM:=if S.readE m ls=0 then ⟨m,S.hidden m⟩ else S.zeroK
theorem check_facts {m:Causal}(h:S.check m=true):S.Small m∧(1≤m.grain∧m.grain≤12)∧1≤m.nodes.length∧S.rootsOk m=true∧S.nodesOk m=true:=by
 simp only[S.check,Bool.and_eq_true,decide_eq_true_eq] at h
 obtain ⟨⟨⟨⟨⟨⟨⟨⟨a1,a2⟩,a3⟩,a4⟩,a5⟩,hro⟩,hc⟩,hno⟩,hac⟩:=h
 exact ⟨small_of a3 a5 hro fun x hx=>by have:=List.all_eq_true.1 hc x hx;simpa using this,⟨a1,a2⟩,a4,hro,hno⟩
theorem hidden_bound {m:Causal}(hs:S.Small m)(j:Nat):1≤S.prod ((m.roots.take j).map fun r=>(r.length:Int))∧S.prod ((m.roots.take j).map fun r=>(r.length:Int))≤4 ^ 8:=by
 have:=prod_bound (l:=(m.roots.take j).map fun r=>(r.length:Int)) (by
  intro y hy
  obtain ⟨r,hr,rfl⟩:=List.mem_map.1 hy
  have:=hs.len r (List.mem_of_mem_take hr)
  omega)
 exact ⟨this.1,Int.le_trans this.2 (pow4_mono (by have:=hs.roots;simp;omega))⟩
theorem read_ok {d k k2:Nat}{g:G}{P2:Nat→Prop}{v w:AV}{m:Causal}{ls:List (List Int)}(hd:0<d)(hk:k<d)(hm:Agg m NoP k g.h v)(hw:SlR P2 k2 g.h ls w) :
  ∃r,callV C0 d N.twin_read [v,w] g=.val r∧Tup2 (Agg (S.read m ls)) (One (S.readE m ls)) NoP k .nil r:=by
 have e:=agg_same d hm
 obtain ⟨cs,rfl,hc⟩:=hm
 obtain ⟨a,b,rfl,hR,hN⟩:=rp_causal.1 hc
 obtain ⟨w',e2,hl⟩:=arg_sl hw d
 obtain ⟨rows,r1,r2,r3,r4⟩:=hN.all
 have r1:∀h',rowsOf h' 4 b=some rows:=r1
 obtain ⟨lrows,l1,l2,l3,l4⟩:=(hl .nil).all
 have l1:∀h',rowsOf h' 1 w'=some lrows:=l1
 obtain ⟨rrows,p1,p2,p3,p4⟩:=hR.all
 have p1:∀h',rowsOf h' 1 a=some rrows:=p1
 have hms:∀g:G,Agg m NoP k g.h (.agg [.int .i64 m.grain,a,b]):=fun g=>⟨_,rfl,rp_causal.2 ⟨a,b,rfl,hR.tree (Nat.le_refl _),hN.tree (Nat.le_refl _)⟩⟩
 rw[call_twin_read]
 refine iso_run eq_twin_read (xs:=[.agg [.int .i64 m.grain,a,b],w']) (by simp only[mapO,e,e2]) (by simp[f_twin_read]) (snb_tup2 (m:=2) (snb_agg _) (snb_one _) (by decide) (by decide)) (by decide) hk ?_
 simp only[f_twin_read,sx,sy,SO.run,↓reduceIte,Nat.reduceEqDiff,Nat.reduceAdd]
 generalize hg0:(G.empty.new (AObj.cells 3 [[AV.int IntKind.i64 m.grain,a,b]] 0 false false)).new (AObj.cells 4 [[AV.int IntKind.i64 0,AV.nils,AV.nils,AV.int IntKind.i64 0]] 0 false false)=g0
 have f0:g0.h.get 0=.cells 3 [[.int .i64 m.grain,a,b]] 0 false false:=by rw[←hg0];simp[sx,H.get_put]
 have f1:g0.h.get 1=.cells 4 [[.int .i64 0,.nils,.nils,.int .i64 0]] 0 false false:=by rw[←hg0];simp[sx,H.get_put]
 have f2:2≤g0.nx:=by rw[←hg0];simp[sx]
 clear hg0
 have bad:∀(hh:H) (z:Int),S.readE m ls=z→z≠0→∃P,Tup2 (Agg (S.read m ls)) (One (S.readE m ls)) P k hh (.tup [.agg [.int .i64 0,.nils,.nils,.int .i64 0],.int .i64 z]):=fun hh z hz h=>by
  subst hz
  have:S.read m ls=S.zeroK:=by rw[S.read,if_neg h]
  rw[this]
  exact ⟨NoP,_,_,rfl,⟨_,rfl,rp_known.2 ⟨.nils,.nils,rfl,⟨by decide,rfl⟩,⟨by decide,rfl⟩⟩⟩,rp_int.2 rfl⟩
 simp only[f_twin_read_r,sx,sy,SO.run,↓reduceIte,Nat.reduceEqDiff,Nat.reduceAdd,Nat.reduceLeDiff,f0,check_ok (Nat.succ_pos d) (hms _)]
 cases hck:S.check m with
 | false =>
  refine bifP_mk (fun hb=>?_) (fun hb=>by simp at hb)
  simp only[sx,sy,SO.run,↓reduceIte,Nat.reduceEqDiff,Nat.reduceAdd,Nat.reduceLeDiff,f1,reduceCtorEq]
  exact bad _ 330 (by simp[S.readE,hck]) (by decide)
 | true =>
  refine bifP_mk (fun hb=>by simp at hb) (fun hb=>?_)
  obtain ⟨hs,hgr,hn1,hro,hno⟩:=check_facts hck
  simp only[sx,sy,SO.run,↓reduceIte,Nat.reduceEqDiff,Nat.reduceAdd,Nat.reduceLeDiff,(hl .nil).len]
  refine wpL_range hw.1 (fun j t df g=>df=[]∧St t [(1,w'),(2,.hptr 0 0 0 0),(4,.hptr 1 0 0 0),(20,w')]∧g.h.get 0=.cells 3 [[.int .i64 m.grain,a,b]] 0 false false∧g.h.get 1=.cells 4 [[.int .i64 0,.nils,.nils,.int .i64 0]] 0 false false∧2≤g.nx∧(ls.take j).all (S.act m)=true)
   ⟨rfl,by simp[St,sx],f0,f1,f2,rfl⟩ (by simp[sx]) (by simp[sx]) (by decide) (by rintro j t df g v s (rfl | rfl | rfl)<;>simp[St,sx]) ?_ ?_
  ·rintro j t df g hj ⟨rfl,⟨h1,h2,h4,h20,-⟩,hg,hg1,hnx,hwa⟩ h22 h21
   obtain ⟨l,hx,htk,hm⟩:=take_next hj
   obtain ⟨row,q1,q2⟩:=l3 j l hx
   obtain ⟨u,rfl,hu⟩:=rp_list.1 q2
   have hlt:j<lrows.length:=by omega
   have badl:S.act m l=false→S.readE m ls=2:=fun h=>by
    rw[S.readE,if_pos hck,if_neg]
    intro h2
    have:=List.all_eq_true.1 h2 l hm
    rw[h] at this;cases this
   simp only[sx,sy,SO.run,↓reduceIte,Nat.reduceEqDiff,Nat.reduceAdd,Nat.reduceLeDiff,h2,h20,h21,h22,hg,l1,hlt,q1,Option.isSome_some,Option.getD_some,hu.len,hN.len]
   refine bifP_mk (fun hb=>?_) (fun hb=>?_)
   ·simp only[sx,sy,SO.run,↓reduceIte,Nat.reduceEqDiff,Nat.reduceAdd,Nat.reduceLeDiff,h4,hg1]
    exact bad _ 2 (badl (by simp at hb;simp[S.act];intro h;omega)) (by decide)
   ·have hll:l.length=m.nodes.length:=by simp at hb;omega
    simp only[sx,sy,SO.run,↓reduceIte,Nat.reduceEqDiff,hu.len]
    refine wpL_range (m:=l.length) (by have:=hs.nodes;omega) (fun i t df g=>df=[]∧St t [(1,w'),(2,.hptr 0 0 0 0),(4,.hptr 1 0 0 0),(20,w'),(21,.int .i64 ls.length),(22,.int .i64 j),(33,u)]∧g.h.get 0=.cells 3 [[.int .i64 m.grain,a,b]] 0 false false∧g.h.get 1=.cells 4 [[.int .i64 0,.nils,.nils,.int .i64 0]] 0 false false∧2≤g.nx∧(List.range i).all (S.actAt m l)=true)
     ⟨rfl,by simp[St,sx,h1,h2,h4,h20,h21,h22],hg,hg1,hnx,rfl⟩ (by simp[sx]) (by simp[sx]) (by decide) (by rintro j t df g v s (rfl | rfl | rfl)<;>simp[St,sx]) ?_ ?_
    ·rintro i t df g hi ⟨rfl,⟨h1,h2,h4,h20,h21,h22,h33,-⟩,hg,hg1,hnx,hwi⟩ h35 h34
     obtain ⟨y,hy,-,-⟩:=take_next hi
     obtain ⟨x,hxn,-,hmn⟩:=take_next (l:=m.nodes) (j:=i) (by omega)
     obtain ⟨row,q3,q4⟩:=r3 i x hxn
     obtain ⟨fa,fb,fc,rfl,hfa,hfb,hfc⟩:=rp_mech.1 q4
     have hlt2:i<rows.length:=by omega
     have hry:=r4 (by omega)
     have hcd:=hs.card x hmn
     have hca:S.cardAt m (i:Int)=x.card:=by simp[S.cardAt,hxn]
     simp only[sx,sy,SO.run,↓reduceIte,Nat.reduceEqDiff,Nat.reduceAdd,Nat.reduceLeDiff,h2,h33,h34,h35,hg,r1,hlt2,q3,hry,Option.isSome_some,Option.getD_some,(hu.tree (h':=g.h) (Nat.le_refl _)).ints,hi,hy,List.length_map,List.getElem?_map,Option.map_some,ci,
      wrap64 (show -9223372036854775808≤x.card - 1 by omega) (show x.card - 1<9223372036854775808 by omega),within_lit (Nat.succ_pos d)]
     have e0:(g.new (AObj.cells 1 [[AV.int IntKind.i64 y]] 0 false false)).h.get 0=.cells 3 [[.int .i64 m.grain,a,b]] 0 false false:=by rw[G.new_h,get_put_ne _ _ _ (by omega),hg]
     have e1:(g.new (AObj.cells 1 [[AV.int IntKind.i64 y]] 0 false false)).h.get 1=.cells 4 [[.int .i64 0,.nils,.nils,.int .i64 0]] 0 false false:=by rw[G.new_h,get_put_ne _ _ _ (by omega),hg1]
     have e2:2≤(g.new (AObj.cells 1 [[AV.int IntKind.i64 y]] 0 false false)).nx:=by simp;omega
     have hat:S.actAt m l i=(decide (-1≤y)&&decide (y≤x.card - 1)):=by simp[S.actAt,hy,hca]
     rw[←hat]
     generalize g.new (AObj.cells 1 [[AV.int IntKind.i64 y]] 0 false false)=g5 at *
     cases hac:S.actAt m l i with
     | false =>
      simp only[sx,sy,SO.run,↓reduceIte,Nat.reduceEqDiff,Nat.reduceAdd,Nat.reduceLeDiff,Bool.not_false,h4,e1]
      exact bad _ 2 (badl (by rw[S.act,all_range_false hi hac,Bool.and_false])) (by decide)
     | true =>
      simp only[sx,sy,SO.run,↓reduceIte,Nat.reduceEqDiff,Bool.not_true,St,h1,h2,h4,h20,h21,h22,h33,h34,h35,e0,e1]
      refine ⟨e2,?_⟩
      rw[all_range_succ,hwi,hac];rfl
    ·rintro t df g ⟨rfl,⟨h1,h2,h4,h20,h21,h22,h33,-⟩,hg,hg1,hnx,hwi⟩
     simp only[f_twin_read_k1,sx,sy,↓reduceIte,Nat.reduceEqDiff,St,h1,h2,h4,h20,h21,h22,hg,hg1]
     refine ⟨hnx,?_⟩
     rw[htk,List.all_append,hwa]
     simp[S.act,hll]
     rw[←hll]
     exact fun z hz=>List.all_eq_true.1 hwi z (List.mem_range.2 hz)
  ·rintro t df g ⟨rfl,⟨h1,h2,h4,h20,-⟩,hg,hg1,hnx,hwa⟩
   rw[List.take_length] at hwa
   have hE:S.readE m ls=0:=by rw[S.readE,if_pos hck,if_pos hwa]
   have hK:S.read m ls=⟨m,S.hidden m⟩:=by rw[S.read,if_pos hE]
   have hne1:¬(1=g.nx):=by omega
   have hne0:¬(0=g.nx):=by omega
   simp only[f_twin_read_k5,sx,sy,SO.run,↓reduceIte,Nat.reduceEqDiff,Nat.reduceAdd,Nat.reduceLeDiff,h2,hg,hne0,hne1,hR.len]
   refine wpL_range (m:=m.roots.length) (by have:=hs.roots;omega) (fun i t df g'=>df=[]∧St t [(4,.hptr 1 0 0 0),(11,.hptr g.nx 0 0 0),(57,a)]∧g'.h.get 1=.cells 4 [[.int .i64 0,.nils,.nils,.int .i64 0]] 0 false false∧g'.h.get g.nx=.cells 4 [[.int .i64 m.grain,a,b,.int .i64 (S.prod ((m.roots.take i).map fun r=>(r.length:Int)))]] 0 false false∧g'.nx=g.nx+1)
    ⟨rfl,by simp[St,sx,h4],by simp[H.get_put,hne1,hg1],by simp[H.get_put,S.prod],by simp⟩ (by simp[sx]) (by simp[sx]) (by decide) (by rintro j t df g v s (rfl | rfl | rfl)<;>simp[St,sx]) ?_ ?_
   ·rintro i t df g' hi ⟨rfl,⟨h4,h11,h57,-⟩,hg1,hgn,hn'⟩ h59 h58
    obtain ⟨x,hx,htk,hm⟩:=take_next hi
    obtain ⟨row,q1,q2⟩:=p3 i x hx
    obtain ⟨u,rfl,hu⟩:=rp_list.1 q2
    have hlt:i<rrows.length:=by omega
    have b1:=hidden_bound hs i
    have b2:=hs.len x hm
    have b3:=Int.mul_le_mul b1.2 (show (x.length:Int)≤4 by omega) (by omega) (by decide)
    have b4:=Int.mul_nonneg (show 0≤S.prod ((m.roots.take i).map fun r=>(r.length:Int)) by omega) (show (0:Int)≤x.length by omega)
    simp only[sx,sy,SO.run,↓reduceIte,Nat.reduceEqDiff,Nat.reduceAdd,Nat.reduceLeDiff,h4,h11,h57,h58,h59,hgn,p1,hlt,q1,Option.isSome_some,Option.getD_some,hu.len,St,hne1,hg1,hn',
     wrap64 (show -9223372036854775808≤S.prod ((m.roots.take i).map fun r=>(r.length:Int))*(x.length:Int) by omega) (show S.prod ((m.roots.take i).map fun r=>(r.length:Int))*(x.length:Int)<9223372036854775808 by omega)]
    rw[htk,List.map_append,List.map_singleton,prod_snoc]
   ·rintro t df g' ⟨rfl,⟨h4,h11,h57,-⟩,hg1,hgn,hn'⟩
    rw[List.take_length] at hgn
    simp only[f_twin_read_k4,sx,sy,SO.run,↓reduceIte,Nat.reduceEqDiff,Nat.reduceAdd,Nat.reduceLeDiff,h4,h11,hgn,hg1]
    rw[hE,hK]
    exact ⟨NoP,_,_,rfl,⟨_,rfl,rp_known.2 ⟨a,b,rfl,hR.tree (Nat.le_refl _),hN.tree (Nat.le_refl _)⟩⟩,rp_int.2 rfl⟩
end
end Hx
end
section
namespace Hx
open Go
noncomputable section
def S.cards (m:Causal):Int:=S.prod (m.nodes.map (·.card))
theorem cards_bound {m:Causal}(hs:S.Small m)(j:Nat):1≤S.prod ((m.nodes.take j).map (·.card))∧S.prod ((m.nodes.take j).map (·.card))≤4 ^ 5:=by
 have:=prod_bound (l:=(m.nodes.take j).map (·.card)) (by
  intro y hy
  obtain ⟨r,hr,rfl⟩:=List.mem_map.1 hy
  exact hs.card r (List.mem_of_mem_take hr))
 exact ⟨this.1,Int.le_trans this.2 (pow4_mono (by have:=hs.nodes;simp;omega))⟩
end
end Hx
end
section
namespace Hx
open Go
def Sub (a s:Nat):Prop:=∀v,a.testBit v=true→s.testBit v=true
theorem isIn_eq (s v:Nat):S.isIn s v=s.testBit v:=by
 rw[Nat.testBit_eq_decide_div_mod_eq,S.isIn,Nat.and_one_is_mod]
 rw[Bool.eq_iff_iff,beq_iff_eq,decide_eq_true_iff]
theorem diff_zero {a s:Nat}:S.diff a s=0↔Sub a s:=by
 constructor
 ·intro h v hv
  have:=congrArg (·.testBit v) h
  simp[S.diff,hv] at this
  exact this
 ·intro h
  refine Nat.eq_of_testBit_eq fun v=>?_
  have:=h v
  simp only[S.diff,Nat.testBit_xor,Nat.testBit_and,Nat.zero_testBit]
  cases ha:a.testBit v
  ·rfl
  ·rw[this ha];rfl
theorem or_tb (a b v:Nat):(a ||| b).testBit v=(a.testBit v || b.testBit v):=Nat.testBit_or a b v
theorem bit_tb {n:Nat}(h:n<64)(v:Nat):(S.bit n).testBit v=decide (n=v):=by rw[bit_eq h,Nat.testBit_two_pow]
section
variable {p:List Nat}
def Par (p:List Nat)(v:Nat):Nat:=p[v]?.getD 0
def Cl (p:List Nat)(s:Nat):Prop:=∀v,v<p.length→s.testBit v=true→Sub (Par p v) s
theorem upRow_sub {s t:Nat}(hc:Cl p t)(h:Sub s t):∀j,j≤p.length→Sub (S.upRow p s j) t
 | 0,_=>h
 | j+1,hj=>by
  have ih:=upRow_sub hc h j (by omega)
  rw[upRow_succ]
  split
  ·rename_i hb
   rw[isIn_eq] at hb
   intro v hv
   rw[or_tb,Bool.or_eq_true] at hv
   rcases hv with hv | hv
   ·exact ih v hv
   ·exact hc j (by omega) (ih j hb) v hv
  ·exact ih
theorem up_sub {s t:Nat}(hc:Cl p t)(h:Sub s t):∀j,Sub (S.up p s j) t
 | 0=>h
 | j+1=>by rw[up_succ];exact upRow_sub hc (up_sub hc h j) _ (Nat.le_refl _)
def Good (p:List Nat)(s:Nat):Prop:=Cl p s∧∀v,v<p.length→s.testBit v=true→(S.up p (Par p v) p.length).testBit v=false
theorem good_round (hn:p.length≤5){s:Nat}(h:Good p s):∀j,j≤p.length→Good p (S.roundA p s j)
 | 0,_=>h
 | j+1,hj=>by
  have ih:=good_round hn h j (by omega)
  rw[roundA_succ]
  split
  ·rename_i hd
   have hd:Sub (Par p j) (S.roundA p s j):=diff_zero.1 hd
   generalize S.roundA p s j=q at *
   refine ⟨fun v hv hb=>?_,fun v hv hb=>?_⟩
   ·intro u hu
    rw[or_tb,bit_tb (by omega),Bool.or_eq_true,decide_eq_true_eq] at hb
    rw[or_tb,Bool.or_eq_true]
    rcases hb with hb | hb
    ·exact .inl (ih.1 v hv hb u hu)
    ·subst hb;exact .inl (hd u hu)
   ·rw[or_tb,bit_tb (by omega),Bool.or_eq_true,decide_eq_true_eq] at hb
    cases hq:q.testBit v
    ·rw[hq] at hb
     simp at hb
     subst hb
     rw[←Bool.not_eq_true]
     intro hu
     have:=up_sub ih.1 hd p.length j hu
     rw[hq] at this;cases this
    ·exact ih.2 v hv hq
  ·exact ih
theorem good_placed (hn:p.length≤5):∀j,Good p (S.placed p j)
 | 0=>⟨fun v _ hb=>by simp[S.placed] at hb,fun v _ hb=>by simp[S.placed] at hb⟩
 | j+1=>by rw[placed_succ];exact good_round hn (good_placed hn j) _ (Nat.le_refl _)
theorem acyc_iff:S.acyc p=true↔∀v,v<p.length→(S.up p (Par p v) p.length).testBit v=false:=by
 unfold S.acyc
 rw[List.all_eq_true]
 constructor
 ·intro h v hv
  have:=h v (List.mem_range.2 hv)
  rw[isIn_eq] at this
  simpa [Par] using this
 ·intro h v hv
  have:=h v (List.mem_range.1 hv)
  rw[isIn_eq]
  simpa [Par] using this
theorem full_tb {n v:Nat}(h:v<n):(2 ^ n - 1).testBit v=true:=by rw[Nat.testBit_two_pow_sub_one];simpa using h
theorem acyc_of_placed (hn:p.length≤5)(h:S.placed p p.length=2 ^ p.length - 1):S.acyc p=true:=by
 rw[acyc_iff]
 intro v hv
 exact (good_placed hn p.length).2 v hv (by rw[h];exact full_tb hv)
def bct (s:Nat):Nat→Nat
 | 0=>0
 | n+1=>bct s n+(if s.testBit n then 1 else 0)
theorem bct_le (s:Nat):∀n,bct s n≤n
 | 0=>Nat.le_refl _
 | n+1=>by have:=bct_le s n;unfold bct;split<;>omega
theorem bct_mono {a s:Nat}(h:Sub a s):∀n,bct a n≤bct s n
 | 0=>Nat.le_refl _
 | n+1=>by
  have:=bct_mono h n
  unfold bct
  split
  ·rename_i hb;rw[if_pos (h n hb)];omega
  ·split<;>omega
theorem bct_lt {a s:Nat}(h:Sub a s){v:Nat}(hv:s.testBit v=true)(ha:a.testBit v=false):∀n,v<n→bct a n<bct s n
 | 0,h0=>by omega
 | n+1,hn=>by
  unfold bct
  by_cases hvn:v=n
  ·subst hvn
   have:=bct_mono h v
   rw[if_pos hv,ha];simp;omega
  ·have:=bct_lt h hv ha n (by omega)
   split
   ·rename_i hb;rw[if_pos (h n hb)];omega
   ·split<;>omega
theorem bct_full {s:Nat}:∀n,bct s n=n→∀v,v<n→s.testBit v=true
 | 0,_,v,h=>by omega
 | n+1,h,v,hv=>by
  unfold bct at h
  have:=bct_le s n
  split at h
  ·rename_i hb
   by_cases e:v=n
   ·subst e;exact hb
   ·exact bct_full n (by omega) v (by omega)
  ·omega
theorem sub_antisymm {a s:Nat}(h:Sub a s)(h':Sub s a):a=s:=Nat.eq_of_testBit_eq fun v=>by
 cases ha:a.testBit v
 ·cases hs:s.testBit v
  ·rfl
  ·rw[h' v hs] at ha;cases ha
 ·rw[h v ha]
theorem sub_le {a s:Nat}(h:Sub a s):a≤s:=by
 have:a ||| s=s:=Nat.eq_of_testBit_eq fun v=>by
  rw[or_tb]
  cases ha:a.testBit v
  ·simp
  ·rw[h v ha];rfl
 rw[←this];exact Nat.left_le_or
theorem roundA_mono (s:Nat):∀j,Sub s (S.roundA p s j)
 | 0=>fun _ h=>h
 | j+1=>by
  have ih:=roundA_mono s j
  rw[roundA_succ]
  split
  ·intro v hv;rw[or_tb,ih v hv];rfl
  ·exact ih
theorem upRow_mono (s:Nat):∀j,Sub s (S.upRow p s j)
 | 0=>fun _ h=>h
 | j+1=>by
  have ih:=upRow_mono s j
  rw[upRow_succ]
  split
  ·intro v hv;rw[or_tb,ih v hv];rfl
  ·exact ih
theorem roundA_step {s:Nat}{j k:Nat}(h:j≤k):Sub (S.roundA p s j) (S.roundA p s k):=by
 induction h with
 | refl=>exact fun _ h=>h
 | step _ ih =>
  rw[roundA_succ]
  split
  ·intro v hv;rw[or_tb,ih v hv];rfl
  ·exact ih
theorem upRow_step {s:Nat}{j k:Nat}(h:j≤k):Sub (S.upRow p s j) (S.upRow p s k):=by
 induction h with
 | refl=>exact fun _ h=>h
 | step _ ih =>
  rw[upRow_succ]
  split
  ·intro v hv;rw[or_tb,ih v hv];rfl
  ·exact ih
theorem stuck_of {s:Nat}(hn:p.length≤5)(h:S.roundA p s p.length=s){v:Nat}(hv:v<p.length)(hb:s.testBit v=false):¬Sub (Par p v) s:=by
 intro hs
 have h1:Sub (Par p v) (S.roundA p s v):=fun u hu=>roundA_mono s v u (hs u hu)
 have h2:(S.roundA p s (v+1)).testBit v=true:=by
  rw[roundA_succ,if_pos (show S.diff (p[v]?.getD 0) (S.roundA p s v)=0 from diff_zero.2 h1),or_tb,bit_tb (by omega)];simp
 have:=roundA_step (p:=p) (s:=s) (show v+1≤p.length by omega) v h2
 rw[h,hb] at this;cases this
theorem closed_of {s:Nat}(h:S.upRow p s p.length=s):Cl p s:=by
 intro v hv hb u hu
 have h1:(S.upRow p s v).testBit v=true:=upRow_mono s v v hb
 have h2:(S.upRow p s (v+1)).testBit u=true:=by
  rw[upRow_succ,isIn_eq,h1,if_pos rfl,or_tb]
  have:(p[v]?.getD 0).testBit u=true:=hu
  rw[this];simp
 have:=upRow_step (p:=p) (s:=s) (show v+1≤p.length by omega) u h2
 rwa [h] at this
theorem tb_lt {s n v:Nat}(h:s<2 ^ n)(hv:s.testBit v=true):v<n:=by
 rcases Nat.lt_or_ge v n with h1 | h1
 ·exact h1
 ·rw[Nat.testBit_lt_two_pow (Nat.lt_of_lt_of_le h (Nat.pow_le_pow_right (by decide) h1))] at hv;cases hv
theorem still {f:Nat→Nat}{n:Nat}(hm:∀j,Sub (f j) (f (j+1)))(hb:∀j,f j<2 ^ n)(hs:∀j,f (j+1)=f j→f (j+2)=f (j+1)):f (n+1)=f n:=by
 have key:∀j,j≤bct (f j) n∨f (j+1)=f j:=by
  intro j
  induction j with
  | zero=>exact .inl (Nat.zero_le _)
  | succ j ih =>
   rcases ih with ih | ih
   ·by_cases e:f (j+1)=f j
    ·exact .inr (hs j e)
    ·left
     have:∃v,(f (j+1)).testBit v=true∧(f j).testBit v=false:=by
      apply Classical.byContradiction
      intro hno
      apply e
      refine sub_antisymm (fun v hv=>?_) (hm j)
      cases hc:(f j).testBit v
      ·exact absurd ⟨v,hv,hc⟩ hno
      ·rfl
     obtain ⟨v,h1,h2⟩:=this
     have:=bct_lt (hm j) h1 h2 n (tb_lt (hb _) h1)
     omega
   ·exact .inr (hs j ih)
 rcases key n with h | h
 ·have hc:bct (f n) n=n:=by have:=bct_le (f n) n;omega
  refine sub_antisymm (fun v hv=>?_) (hm n)
  exact bct_full n hc v (tb_lt (hb _) hv)
 ·exact h
theorem or_lt2 {a b n:Nat}(h:a<2 ^ n)(h':b<2 ^ n):a ||| b<2 ^ n:=Nat.or_lt_two_pow h h'
theorem roundA_lt2 (hn:p.length≤5){s:Nat}(hs:s<2 ^ p.length):∀j,j≤p.length→S.roundA p s j<2 ^ p.length
 | 0,_=>hs
 | j+1,hj=>by
  have ih:=roundA_lt2 hn hs j (by omega)
  rw[roundA_succ]
  split
  ·exact or_lt2 ih (by rw[bit_eq (by omega)];exact Nat.pow_lt_pow_right (by decide) hj)
  ·exact ih
theorem placed_lt2 (hn:p.length≤5):∀j,S.placed p j<2 ^ p.length
 | 0=>Nat.pow_pos (by decide)
 | j+1=>by rw[placed_succ];exact roundA_lt2 hn (placed_lt2 hn j) _ (Nat.le_refl _)
theorem par_lt {v:Nat}(hp:∀x∈p,x<2 ^ p.length):Par p v<2 ^ p.length:=by
 unfold Par
 cases h:p[v]? with
 | none=>exact Nat.pow_pos (by decide)
 | some x=>exact hp x (List.mem_of_getElem? h)
theorem upRow_lt2 (hp:∀x∈p,x<2 ^ p.length){s:Nat}(hs:s<2 ^ p.length):∀j,S.upRow p s j<2 ^ p.length
 | 0=>hs
 | j+1=>by
  have ih:=upRow_lt2 hp hs j
  rw[upRow_succ]
  split
  ·exact or_lt2 ih (par_lt hp)
  ·exact ih
theorem up_lt2 (hp:∀x∈p,x<2 ^ p.length){s:Nat}(hs:s<2 ^ p.length):∀j,S.up p s j<2 ^ p.length
 | 0=>hs
 | j+1=>by rw[up_succ];exact upRow_lt2 hp (up_lt2 hp hs j) _
theorem up_closed (hp:∀x∈p,x<2 ^ p.length){s:Nat}(hs:s<2 ^ p.length):Cl p (S.up p s p.length):=by
 apply closed_of
 rw[←up_succ]
 exact still (f:=fun j=>S.up p s j) (fun j=>by rw[up_succ];exact upRow_mono _ _) (fun j=>up_lt2 hp hs j) (fun j e=>by
  have e:S.up p s (j+1)=S.up p s j:=e
  show S.up p s (j+1+1)=S.up p s (j+1)
  rw[up_succ,e,←up_succ,e])
theorem up_self {s:Nat}:∀j,Sub s (S.up p s j)
 | 0=>fun _ h=>h
 | j+1=>fun v hv=>by rw[up_succ];exact upRow_mono _ _ v (up_self j v hv)
theorem placed_of_acyc (hn:p.length≤5)(hp:∀x∈p,x<2 ^ p.length)(h:S.acyc p=true):S.placed p p.length=2 ^ p.length - 1:=by
 rw[acyc_iff] at h
 have hst:S.roundA p (S.placed p p.length) p.length=S.placed p p.length:=by
  rw[←placed_succ]
  exact still (f:=fun j=>S.placed p j) (fun j=>by rw[placed_succ];exact roundA_mono _ _) (fun j=>placed_lt2 hn j) (fun j e=>by
   have e:S.placed p (j+1)=S.placed p j:=e
   show S.placed p (j+1+1)=S.placed p (j+1)
   rw[placed_succ,e,←placed_succ,e])
 generalize hT:S.placed p p.length=T at hst
 have hTl:T<2 ^ p.length:=by rw[←hT];exact placed_lt2 hn _
 have none:∀r v,v<p.length→T.testBit v=false→S.up p (Par p v) p.length=r→False:=by
  intro r
  induction r using Nat.strongRecOn with
  | _ r ih =>
   intro v hv hb hr
   have hns:=stuck_of hn hst hv hb
   have:∃u,(Par p v).testBit u=true∧T.testBit u=false:=by
    apply Classical.byContradiction
    intro hno
    apply hns
    intro u hu
    cases hc:T.testBit u
    ·exact absurd ⟨u,hu,hc⟩ hno
    ·rfl
   obtain ⟨u,hu,hub⟩:=this
   have hul:u<p.length:=tb_lt (par_lt hp) hu
   have hcl:=up_closed hp (s:=Par p v) (par_lt hp)
   have hin:(S.up p (Par p v) p.length).testBit u=true:=up_self _ u hu
   have hsub:Sub (S.up p (Par p u) p.length) (S.up p (Par p v) p.length):=up_sub hcl (hcl u hul hin) _
   have hlt:S.up p (Par p u) p.length<S.up p (Par p v) p.length:=by
    refine Nat.lt_of_le_of_ne (sub_le hsub) fun e=>?_
    have:=h u hul
    rw[e,hin] at this;cases this
   exact ih _ (by omega) u hul hub rfl
 refine sub_antisymm (fun v hv=>full_tb (tb_lt hTl hv)) fun v hv=>?_
 have hvl:v<p.length:=tb_lt (by have:=Nat.pow_pos (n:=p.length) (show 0<2 by decide);omega) hv
 cases hc:T.testBit v
 ·exact (none _ v hvl hc rfl).elim
 ·rfl
end
end Hx
end
section
namespace Hx
open Go
theorem mask_tb {l:List Int}{n:Nat}(hn:n≤64)(h:∀x∈l,0≤x∧x<n)(v:Nat):(S.mask l).testBit v=l.contains (v:Int):=by
 have:∀(l:List Int) (s:Nat),(∀x∈l,0≤x∧x<n)→(l.foldl (fun s x=>s ||| S.bit x.toNat) s).testBit v=(s.testBit v || l.contains (v:Int)):=by
  intro l
  induction l with
  | nil=>intro s _;simp
  | cons a l ih =>
   intro s h
   obtain ⟨h1,h2⟩:=h a (by simp)
   rw[List.foldl_cons,ih _ (fun x hx=>h x (by simp[hx])),or_tb,bit_tb (by omega)]
   rw[Bool.eq_iff_iff]
   simp only[Bool.or_eq_true,decide_eq_true_eq,List.contains_cons,beq_iff_eq]
   constructor
   ·rintro ((h | h) | h)
    ·exact .inl h
    ·exact .inr (.inl (by omega))
    ·exact .inr (.inr h)
   ·rintro (h | h | h)
    ·exact .inl (.inl h)
    ·exact .inl (.inr (by omega))
    ·exact .inr h
 have:=this l 0 h
 rw[Nat.zero_testBit,Bool.false_or] at this
 exact this
theorem mask_lt2 {l:List Int}{n:Nat}(hn:n≤64)(h:∀x∈l,0≤x∧x<n):S.mask l<2 ^ n:=by
 apply Nat.lt_pow_two_of_testBit
 intro v hv
 rw[mask_tb hn h]
 rw[←Bool.not_eq_true,List.contains_iff_mem]
 intro hm
 have:=(h _ hm).2
 omega
theorem check_right (m:Causal):S.check m=S.right m:=by
 have h0:∀{b c:Bool},(b=true→c=true)→(c=true→b=true)→b=c:=fun h h'=>by
  rename_i b c
  cases b<;>cases c<;>simp_all
 have hpl:(S.pars m).length=m.nodes.length:=by simp[S.pars]
 have plt:m.nodes.length≤5→(∀x∈m.nodes,S.places x.frm m.nodes.length=true)→∀q∈S.pars m,q<2 ^ (S.pars m).length:=fun h5 h q hq=>by
  obtain ⟨x,hx,rfl⟩:=List.mem_map.1 hq
  rw[hpl]
  exact mask_lt2 (by omega) (places_mem (h x hx))
 apply h0
 ·intro h
  simp only[S.check,Bool.and_eq_true,decide_eq_true_eq] at h
  obtain ⟨⟨⟨⟨⟨⟨⟨⟨a1,a2⟩,a3⟩,a4⟩,a5⟩,hro⟩,hc⟩,hno⟩,hac⟩:=h
  simp only[S.rootsOk,Bool.and_eq_true,decide_eq_true_eq] at hro
  have hno':=hno
  simp only[S.nodesOk,Bool.and_eq_true,decide_eq_true_eq] at hno
  have hnode:∀x∈m.nodes,S.places x.frm m.nodes.length=true∧S.places x.noise m.roots.length=true∧(x.out.length:Int)=S.above m x*S.beside m x∧S.within 0 (x.card - 1) x.out=true:=fun x hx=>by
   obtain ⟨i,hi,rfl⟩:=List.mem_iff_getElem.1 hx
   have:=nodesOk_mem hno' (List.getElem?_eq_getElem hi)
   simp only[S.nodeOk,Bool.and_eq_true,decide_eq_true_eq] at this
   exact ⟨this.1.1.1.1,this.1.1.1.2,this.1.2,this.2⟩
  have hcard:∀x∈m.nodes,1≤x.card∧x.card≤4:=fun x hx=>by have:=List.all_eq_true.1 hc x hx;simpa using this
  simp only[S.tacyc,decide_eq_true_eq] at hac
  rw[←hpl] at hac
  have:=acyc_of_placed (by rw[hpl];exact a5) hac
  simp only[S.right,Bool.and_eq_true,decide_eq_true_eq]
  refine ⟨⟨⟨⟨⟨⟨⟨⟨⟨⟨a1,a2⟩,a3⟩,a4⟩,a5⟩,hro.1⟩,?_⟩,hro.2⟩,hno.2⟩,this⟩,?_⟩
  ·rw[List.all_eq_true]
   intro x hx
   obtain ⟨p1,p2,-,-⟩:=hnode x hx
   have:=hcard x hx
   simp[S.nodeR,p1,p2,this]
  ·rw[List.all_eq_true]
   intro x hx
   obtain ⟨-,-,p3,p4⟩:=hnode x hx
   simp[S.outR,p4,prod_sizes,p3]
 ·intro h
  simp only[S.right,Bool.and_eq_true,decide_eq_true_eq] at h
  obtain ⟨⟨⟨⟨⟨⟨⟨⟨⟨⟨a1,a2⟩,a3⟩,a4⟩,a5⟩,hro⟩,hno⟩,hp1⟩,hp2⟩,hac⟩,hou⟩:=h
  have hnode:∀x∈m.nodes,(1≤x.card∧x.card≤4)∧S.places x.frm m.nodes.length=true∧S.places x.noise m.roots.length=true:=fun x hx=>by
   have:=List.all_eq_true.1 hno x hx
   simp only[S.nodeR,Bool.and_eq_true,decide_eq_true_eq] at this
   exact ⟨this.1.1,this.1.2,this.2⟩
  have hout:∀x∈m.nodes,(x.out.length:Int)=S.above m x*S.beside m x∧S.within 0 (x.card - 1) x.out=true:=fun x hx=>by
   have:=List.all_eq_true.1 hou x hx
   simp only[S.outR,Bool.and_eq_true,decide_eq_true_eq,prod_sizes] at this
   exact this
  have hpl2:=placed_of_acyc (by rw[hpl];exact a5) (plt a5 fun x hx=>(hnode x hx).2.1) hac
  have hself:∀(i:Nat) (x:Mech),m.nodes[i]?=some x→x.frm.contains (i:Int)=false:=by
   intro i x hx
   have hi:=(List.getElem?_eq_some_iff.1 hx).1
   have hm:=List.mem_of_getElem? hx
   have h1:=acyc_iff.1 hac i (by rw[hpl];exact hi)
   have hpar:Par (S.pars m) i=S.mask x.frm:=by simp[Par,S.pars,hx]
   rw[hpar] at h1
   rw[←Bool.not_eq_true]
   intro hcn
   rw[←mask_tb (n:=m.nodes.length) (by omega) (places_mem (hnode x hm).2.1)] at hcn
   rw[up_self _ i hcn] at h1;cases h1
  simp only[S.check,Bool.and_eq_true,decide_eq_true_eq]
  refine ⟨⟨⟨⟨⟨⟨⟨⟨a1,a2⟩,a3⟩,a4⟩,a5⟩,?_⟩,?_⟩,?_⟩,?_⟩
  ·simp only[S.rootsOk,Bool.and_eq_true,decide_eq_true_eq];exact ⟨hro,hp1⟩
  ·rw[List.all_eq_true];intro x hx;simpa using (hnode x hx).1
  ·simp only[S.nodesOk,Bool.and_eq_true,decide_eq_true_eq]
   refine ⟨?_,hp2⟩
   rw[List.all_eq_true]
   intro i hi
   have hi:=List.mem_range.1 hi
   rw[List.getElem?_eq_getElem hi]
   have hm:=List.getElem_mem hi
   simp only[Option.map_some,Option.getD_some,S.nodeOk,(hnode _ hm).2.1,(hnode _ hm).2.2,hself i _ (List.getElem?_eq_getElem hi),(hout _ hm).1,(hout _ hm).2,Bool.not_false,decide_true,Bool.and_self]
  ·simp only[S.tacyc,decide_eq_true_eq];rw[←hpl];exact hpl2
end Hx
end
section
namespace Hx
open Go
noncomputable section
theorem meets_none {a b:List Nat}(h:∀i∈a,∀j∈b,i≠j):meets a b=false:=by
 simp only[meets,List.any_eq_false]
 intro i hi hc
 exact h i hi i (List.contains_iff_mem.1 hc) rfl
theorem apart_mk {x y:Foot}(hb:x.lk.big=false)(hb2:y.lk.big=false)(hs:x.lk.sr=[])(hs2:y.lk.sr=[])(h1:∀i∈x.wr,∀j∈y.wr,i≠j)(h2:∀i∈x.wr,∀j∈y.lk.rd,i≠j)(h3:∀i∈y.wr,∀j∈x.lk.rd,i≠j) :
  footsApart x y=true:=by
 have m1:=meets_none h1
 have m2:=meets_none h2
 have m3:=meets_none h3
 have m4:meets y.wr x.wr=false:=meets_none fun i hi j hj e=>h1 j hj i hi e.symm
 have m5:∀l:List Nat,meets l []=false:=fun l=>by simp[meets]
 simp only[footsApart,footFree,footFreeS,hb,hb2,hs,hs2,m1,m2,m3,m4,m5,fst1,List.map_nil,Bool.not_false,Bool.and_self,Bool.and_true,Bool.true_or]
 split<;>split<;>rfl
instance : DecidableEq Node:=fun x y=>if h:x.card=y.card∧x.parents=y.parents∧x.rows=y.rows then .isTrue (by cases x;cases y;obtain ⟨h1,h2,h3⟩:=h;dsimp only at h1 h2 h3;subst h1;subst h2;subst h3;rfl) else .isFalse (fun e=>h (by subst e;exact ⟨rfl,rfl,rfl⟩))
instance : DecidableEq Net:=fun x y=>if h:x.grain=y.grain∧x.nodes=y.nodes then .isTrue (by cases x;cases y;obtain ⟨h1,h2⟩:=h;dsimp only at h1 h2;subst h1;subst h2;rfl) else .isFalse (fun e=>h (by subst e;exact ⟨rfl,rfl⟩))
end
end Hx
end
section
namespace Hx
open Go
noncomputable section
def S.nm (m:Causal)(i:Nat):Nat:=S.mask ((m.nodes[i]?.map (·.noise)).getD [])
def S.linked (m:Causal)(i j:Nat):Bool:=!decide (i=j)&&!decide (S.nm m i &&& S.nm m j=0)
def S.joinRow (m:Causal)(i j:Nat):Nat:=(List.range j).foldl (fun s w=>s ||| if S.linked m i w then S.bit w else 0) 0
def S.joinMat (m:Causal)(i j:Nat):List Nat:=(List.range m.nodes.length).map fun a=>if a<i then S.joinRow m a m.nodes.length else if a=i then S.joinRow m i j else 0
def S.joined (m:Causal):List Nat:=(List.range m.nodes.length).map fun a=>S.joinRow m a m.nodes.length
theorem joinRow_succ (m:Causal)(i j:Nat):S.joinRow m i (j+1)=S.joinRow m i j ||| (if S.linked m i j then S.bit j else 0):=by
 rw[S.joinRow,List.range_succ,List.foldl_append];rfl
theorem joinRow_lt (m:Causal)(i j:Nat):S.joinRow m i j<18446744073709551616:=foldl_or_lt _ (fun a=>by split;exact bit_lt _;decide) _ 0 (by decide)
theorem joinMat_get {m:Causal}{i:Nat}(hi:i<m.nodes.length)(j:Nat):(S.joinMat m i j)[i]?=some (S.joinRow m i j):=by
 simp[S.joinMat,hi]
theorem joinMat_len (m:Causal)(i j:Nat):(S.joinMat m i j).length=m.nodes.length:=by simp[S.joinMat]
theorem joinMat_set {m:Causal}{i:Nat}(j j':Nat):(S.joinMat m i j).set i (S.joinRow m i j')=S.joinMat m i j':=by
 refine List.ext_getElem (by simp[S.joinMat]) fun a h1 h2=>?_
 simp only[List.getElem_set,S.joinMat,List.getElem_map,List.getElem_range]
 by_cases h:i=a
 ·subst h;simp
 ·have h':¬a=i:=fun e=>h e.symm
  rw[if_neg h,if_neg h',if_neg h']
theorem joinMat_next (m:Causal)(i:Nat):S.joinMat m i m.nodes.length=S.joinMat m (i+1) 0:=by
 refine List.ext_getElem (by simp[S.joinMat]) fun a h1 h2=>?_
 simp only[S.joinMat,List.getElem_map,List.getElem_range]
 by_cases h:a<i
 ·rw[if_pos h,if_pos (by omega)]
 ·by_cases h2:a=i
  ·subst h2;rw[if_neg h,if_pos rfl,if_pos (by omega)]
  ·rw[if_neg h,if_neg h2,if_neg (by omega)]
   split<;>rfl
theorem joinMat_start (m:Causal):S.joinMat m 0 0=List.replicate m.nodes.length 0:=by
 refine List.ext_getElem (by simp[S.joinMat]) fun a h1 h2=>?_
 simp only[S.joinMat,List.getElem_map,List.getElem_range,List.getElem_replicate]
 rw[if_neg (by omega)];split<;>rfl
theorem joinMat_end (m:Causal):S.joinMat m m.nodes.length 0=S.joined m:=by
 refine List.ext_getElem (by simp[S.joinMat,S.joined]) fun a h1 h2=>?_
 simp only[S.joinMat,S.joined,List.getElem_map,List.getElem_range]
 rw[if_pos (by simpa [S.joinMat] using h1)]
end
end Hx
end
section
namespace Hx
open Go
noncomputable section
theorem mks_ownL {g:G}{b sz bytes:Nat}{zero:List AV}{k1 k2:IntKind}{n:Nat}{K:AV→G→Prop}{D:ADf→Prop}(hn:n≤room)(hb:n*bytes≤room)(hg:b≤g.nx)
  (k:∀v' g',Own g' b v' sz (List.replicate n zero)→g'.nx=g.nx+1→(∀i,i<g.nx→g'.h.get i=g.h.get i)→vid v'=some g.nx→g'.lg=g.nx::g.lg→K v' g') :
  (mksV sz bytes zero (.int k1 (n:Int)) (.int k2 (n:Int)) g).sat K g D:=by
 show (match natOf room (.int k2 (.ofNat n)) with
  | some cn=>match natOf cn (.int k1 (.ofNat n)) with
   | some ln=>bif' (Nat.ble (cn*bytes) room) (OR.upd (.hsl g.nx 0 0 ln none) (g.new (.cells sz (repl cn zero) 0 false false))) .fail
   | none=>.fail
  | none=>.fail).sat K g D
 simp only[natOf,bif'_eq,Nat.ble_eq,if_pos hn,Nat.le_refl,if_pos hb,if_true]
 refine k _ _ (.inr ⟨g.nx,0,false,hg,by simp,by simp,by simp[get_put_eq,repl]⟩) (by simp) (fun i hi=>?_) rfl (by simp)
 rw[G.new_h,get_put_ne _ _ _ (by omega)]
def S.graphE (m:Causal):Int:=if S.check m then 0 else 330
def S.gpar (m:Causal):List Nat:=if S.check m then m.nodes.map fun x=>S.mask x.frm else []
def S.gjoin (m:Causal):List Nat:=if S.check m then S.joined m else []
def S.pre (f:Nat→Nat)(n i:Nat):List Nat:=(List.range n).map fun a=>if a<i then f a else 0
theorem pre_get {f:Nat→Nat}{n i:Nat}(hi:i<n):(S.pre f n i)[i]?=some 0:=by simp[S.pre,hi]
theorem pre_len (f:Nat→Nat)(n i:Nat):(S.pre f n i).length=n:=by simp[S.pre]
theorem pre_set (f:Nat→Nat)(n i:Nat):(S.pre f n i).set i (f i)=S.pre f n (i+1):=by
 refine List.ext_getElem (by simp[S.pre]) fun a h1 h2=>?_
 simp only[List.getElem_set,S.pre,List.getElem_map,List.getElem_range]
 by_cases h:i=a
 ·subst h;rw[if_pos rfl,if_pos (by omega)]
 ·rw[if_neg h]
  by_cases h2:a<i
  ·rw[if_pos h2,if_pos (by omega)]
  ·rw[if_neg h2,if_neg (by omega)]
theorem pre_zero (f:Nat→Nat)(n:Nat):S.pre f n 0=List.replicate n 0:=by
 refine List.ext_getElem (by simp[S.pre]) fun a h1 h2=>?_
 simp[S.pre]
theorem pre_end (f:Nat→Nat)(n:Nat):S.pre f n n=(List.range n).map f:=by
 refine List.ext_getElem (by simp[S.pre]) fun a h1 h2=>?_
 simp only[S.pre,List.getElem_map,List.getElem_range]
 rw[if_pos (by simpa [S.pre] using h1)]
def S.pm (m:Causal)(i:Nat):Nat:=S.mask ((m.nodes[i]?.map (·.frm)).getD [])
theorem range_pm (m:Causal):(List.range m.nodes.length).map (S.pm m)=m.nodes.map fun x=>S.mask x.frm:=by
 refine List.ext_getElem (by simp) fun a h1 h2=>?_
 have:a<m.nodes.length:=by simpa using h1
 simp[S.pm,this]
theorem graph_ok {d k:Nat}{g:G}{P:Nat→Prop}{v:AV}{m:Causal}(hd:0<d)(hm:Agg m P k g.h v) :
  ∃r,callV C0 d N.twin_Graph [v] g=.val r∧Tup3 (One (S.gpar m)) (One (S.gjoin m)) (One (S.graphE m)) NoP 0 .nil r:=by
 obtain ⟨v',e,cs,rfl,hc⟩:=arg_of (snb_agg m) (by decide) d hm
 obtain ⟨a,b,rfl,hR,hN⟩:=rp_causal.1 hc
 obtain ⟨rows,r1,r2,r3,r4⟩:=hN.all
 have r1:∀h',rowsOf h' 4 b=some rows:=r1
 have hms:∀g:G,Agg m NoP (max k d) g.h (.agg [.int .i64 m.grain,a,b]):=fun g=>⟨_,rfl,rp_causal.2 ⟨a,b,rfl,hR.tree (Nat.le_refl _),hN.tree (Nat.le_refl _)⟩⟩
 rw[call_twin_Graph]
 refine iso_run eq_twin_Graph (xs:=[.agg [.int .i64 m.grain,a,b]]) (by simp only[mapO,e]) (by simp[f_twin_Graph]) (snb_tup3 (m:=1) (snb_one _) (snb_one _) (snb_one _) (by decide) (by decide) (by decide)) (by decide) hd ?_
 simp only[f_twin_Graph,sx,sy,SO.run,↓reduceIte,Nat.reduceEqDiff,Nat.reduceAdd]
 generalize hg0:(G.empty.new (AObj.cells 3 [[AV.int IntKind.i64 m.grain,a,b]] 0 false false))=g0
 have f0:g0.h.get 0=.cells 3 [[.int .i64 m.grain,a,b]] 0 false false:=by rw[←hg0];simp[sx]
 have f1:1≤g0.nx:=by rw[←hg0];simp[sx]
 clear hg0
 simp only[f_twin_Graph_r,sx,sy,SO.run,↓reduceIte,Nat.reduceEqDiff,Nat.reduceAdd,Nat.reduceLeDiff,f0,check_ok (Nat.succ_pos d) (hms _)]
 cases hck:S.check m with
 | false =>
  refine bifP_mk (fun hb=>?_) (fun hb=>by simp at hb)
  simp only[sx,sy,SO.run,↓reduceIte,Nat.reduceEqDiff,Nat.reduceAdd,Nat.reduceLeDiff,reduceCtorEq]
  refine ⟨NoP,_,_,_,rfl,?_,?_,?_⟩
  ·rw[S.gpar,hck,if_neg (by decide)];exact ⟨_,rfl,by decide,rfl⟩
  ·rw[S.gjoin,hck,if_neg (by decide)];exact ⟨_,rfl,by decide,rfl⟩
  ·rw[S.graphE,hck];exact rp_int.2 rfl
 | true =>
  refine bifP_mk (fun hb=>by simp at hb) (fun hb=>?_)
  obtain ⟨hs,hgr,hn1,hro,hno⟩:=check_facts hck
  have hn5:=hs.nodes
  have hpl:∀x∈m.nodes,S.places x.frm m.nodes.length=true∧S.places x.noise m.roots.length=true:=fun x hx=>by
   have hr:S.right m=true:=by rw[←check_right];exact hck
   simp only[S.right,Bool.and_eq_true] at hr
   have:=List.all_eq_true.1 hr.1.1.1.1.2 x hx
   simp only[S.nodeR,Bool.and_eq_true] at this
   exact ⟨this.1.2,this.2⟩
  simp only[sx,sy,sf,SO.run,↓reduceIte,Nat.reduceEqDiff,Nat.reduceAdd,Nat.reduceLeDiff,f0,hN.len]
  refine mks_ownL (b:=1) (n:=m.nodes.length) (by simp[room];omega) (by simp[room];omega) (by simp) fun w g1 hw n1 fr1 v1 lg1=>?_
  have e0:g1.h.get 0=.cells 3 [[.int .i64 m.grain,a,b]] 0 false false:=by rw[fr1 0 (by simp)];simpa using f0
  simp only[sx,sy,sf,SO.run,↓reduceIte,Nat.reduceEqDiff,Nat.reduceAdd,Nat.reduceLeDiff,e0,hN.len]
  refine mks_ownL (b:=1) (n:=m.nodes.length) (by simp[room];omega) (by simp[room];omega) (by simp) fun w2 g2 hw2 n2 fr2 v2 lg2=>?_
  have e1:g2.h.get 0=.cells 3 [[.int .i64 m.grain,a,b]] 0 false false:=by rw[fr2 0 (by simp)];simpa using e0
  simp only[sx,sy] at n1 n2 v1 v2 lg1 lg2 fr1 fr2
  simp only[sx,sy,sf,SO.run,↓reduceIte,Nat.reduceEqDiff,Nat.reduceAdd,Nat.reduceLeDiff,e1,hN.len,hN.refs]
  refine ⟨?_,?_⟩
  ·simp only[List.reverse_cons,List.reverse_nil,List.nil_append,List.cons_append,lg1,lg2]
   refine footsOk_mk [false,false,false,true,false,false,false,true,false,false] [(3,4),(3,5),(3,6),(3,7),(0,7),(1,7),(2,7),(7,8)] (by simp[All2,rdLook,noLook,bigLook]) (by decide) ?_
   rintro p hp x y hx hy
   simp only[List.mem_cons,List.not_mem_nil,or_false] at hp
   rcases hp with rfl | rfl | rfl | rfl | rfl | rfl | rfl | rfl<;>(simp at hx hy;subst hx;subst hy;refine apart_mk rfl rfl rfl rfl ?_ ?_ ?_<;>simp[rdLook,noLook,refIds]<;>omega)
  refine mks_own (b:=1) (n:=m.nodes.length) (by simp[room];omega) (by simp[room];omega) (by simp) fun w3 g3 hw3 n3 fr3 v3=>?_
  simp only[sx,sy] at n3 fr3 v3
  obtain ⟨q1,hq1⟩:∃q,q=g0.nx+1+1+1:=⟨_,rfl⟩
  have d1:vid w≠vid w2:=by rw[v1,v2];intro h;injection h;omega
  have d2:vid w≠vid w3:=by rw[v1,v3];intro h;injection h;omega
  have d3:vid w2≠vid w3:=by rw[v2,v3];intro h;injection h;omega
  have e2:g3.h.get 0=.cells 3 [[.int .i64 m.grain,a,b]] 0 false false:=by rw[fr3 0 (by omega),e1]
  have hw2:Own g3 1 w2 1 ((S.joinMat m 0 0).map cu):=by
   rw[joinMat_start,List.map_replicate]
   exact hw2.fr (by omega) fun i hi=>by rw[fr3 i (by have:=(hw2.lt hi).2;omega)]
  have hw:Own g3 1 w 1 ((S.pre (S.pm m) m.nodes.length 0).map cu):=by
   rw[pre_zero,List.map_replicate]
   exact hw.fr (by omega) fun i hi=>by have:=(hw.lt hi).2;rw[fr3 i (by omega),fr2 i (by omega)]
  have hw3:Own g3 1 w3 1 ((S.pre (S.nm m) m.nodes.length 0).map cu):=by
   rw[pre_zero,List.map_replicate];exact hw3
  have hnx3:1≤g3.nx:=by omega
  clear fr1 fr2 fr3 lg1 lg2 n1 n2 n3 v1 v2 v3 hq1 q1 e0 e1
  simp only[sx,sy,sf,SO.run,↓reduceIte,Nat.reduceEqDiff,Nat.reduceAdd,Nat.reduceLeDiff,e2,hN.len]
  refine wpL_range (m:=m.nodes.length) (by omega) (fun i t df g=>df=[]∧St t [(2,w),(3,w2),(6,w3),(29,b)]∧1≤g.nx∧Own g 1 w 1 ((S.pre (S.pm m) m.nodes.length i).map cu)∧Own g 1 w2 1 ((S.joinMat m 0 0).map cu)∧Own g 1 w3 1 ((S.pre (S.nm m) m.nodes.length i).map cu))
   ⟨rfl,by simp[St,sx],hnx3,hw,hw2,hw3⟩ (by simp[sx]) (by simp[sx]) (by decide) (by rintro j t df g v s (rfl | rfl | rfl)<;>simp[St,sx]) ?_ ?_
  ·rintro i t df g hi ⟨rfl,⟨h2,h3,h6,h29,-⟩,hnx,u1,u2,u3⟩ h31 h30
   obtain ⟨x,hx,htk,hm⟩:=take_next hi
   obtain ⟨row,z1,z2⟩:=r3 i x hx
   obtain ⟨fa,fb,fc,rfl,hfa,hfb,hfc⟩:=rp_mech.1 z2
   have hlt:i<rows.length:=by omega
   have hry:=r4 (by omega)
   have ia:∀g:G,callV C0 (d+1) N.twin_setOf [fa] g=.val (.int .u64 (S.pm m i:Int)):=fun g=>by
    rw[setOf_ok (Nat.succ_pos d) (hfa.tree (h':=g.h) (Nat.le_refl _)) fun y hy=>(places_mem (hpl x hm).1 y hy).1,S.pm,hx];rfl
   have ib:∀g:G,callV C0 (d+1) N.twin_setOf [fb] g=.val (.int .u64 (S.nm m i:Int)):=fun g=>by
    rw[setOf_ok (Nat.succ_pos d) (hfb.tree (h':=g.h) (Nat.le_refl _)) fun y hy=>(places_mem (hpl x hm).2 y hy).1,S.nm,hx];rfl
   have l1:i<((S.pre (S.pm m) m.nodes.length i).map cu).length:=by rw[List.length_map,pre_len];exact hi
   have l3:i<((S.pre (S.nm m) m.nodes.length i).map cu).length:=by rw[List.length_map,pre_len];exact hi
   have k1:((S.pre (S.pm m) m.nodes.length i).map cu)[i]?=some (cu 0):=by rw[List.getElem?_map,pre_get hi];rfl
   have k3:((S.pre (S.nm m) m.nodes.length i).map cu)[i]?=some (cu 0):=by rw[List.getElem?_map,pre_get hi];rfl
   simp only[sx,sy,SO.run,↓reduceIte,Nat.reduceEqDiff,Nat.reduceAdd,Nat.reduceLeDiff,h2,h3,h6,h29,h30,h31,r1,hlt,z1,hry,Option.isSome_some,Option.getD_some]
   generalize hg1:(g.new (AObj.cells 4 [[AV.int IntKind.i64 0,AV.nils,AV.nils,AV.nils]] 0 false false)).put g.nx (AObj.cells 4 [[AV.int IntKind.i64 x.card,fa,fb,fc]] 0 false false)=g4
   have c0:g4.h.get g.nx=.cells 4 [[.int .i64 x.card,fa,fb,fc]] 0 false false:=by rw[←hg1];simp[H.get_put]
   have c1:g4.nx=g.nx+1:=by rw[←hg1];simp
   have c2:∀i,i<g.nx→g4.h.get i=g.h.get i:=fun i hi=>by rw[←hg1,G.put_h,get_put_ne _ _ _ (by omega),G.new_h,get_put_ne _ _ _ (by omega)]
   have nw1:vid w≠some g.nx:=fun e=>by have:=(u1.lt e).2;omega
   have u1:=u1.fr (g':=g4) (by omega) fun i hi=>c2 i (u1.lt hi).2
   have u2:=u2.fr (g':=g4) (by omega) fun i hi=>c2 i (u2.lt hi).2
   have u3:=u3.fr (g':=g4) (by omega) fun i hi=>c2 i (u3.lt hi).2
   simp only[sx,sy,SO.run,↓reduceIte,Nat.reduceEqDiff,Nat.reduceAdd,Nat.reduceLeDiff,c0,ia,u1.rows,l1,Option.isSome_some,Option.getD_some]
   refine store_own (row:=cu 0) (row':=cu (S.pm m i)) u1 k1 rfl rfl rfl fun g5 x1 n5 fr5=>?_
   rw[←List.map_set,pre_set] at x1
   have c0:g5.h.get g.nx=.cells 4 [[.int .i64 x.card,fa,fb,fc]] 0 false false:=by rw[fr5 _ nw1,c0]
   have u2:=u2.fr (g':=g5) (by omega) fun i hi=>fr5 i (fun h=>d1 (by rw[h,hi]))
   have u3:=u3.fr (g':=g5) (by omega) fun i hi=>fr5 i (fun h=>d2 (by rw[h,hi]))
   simp only[sx,sy,SO.run,↓reduceIte,Nat.reduceEqDiff,Nat.reduceAdd,Nat.reduceLeDiff,h6,c0,ib,u3.rows,l3,Option.isSome_some,Option.getD_some]
   refine store_own (row:=cu 0) (row':=cu (S.nm m i)) u3 k3 rfl rfl rfl fun g6 x3 n6 fr6=>?_
   rw[←List.map_set,pre_set] at x3
   have u2:=u2.fr (g':=g6) (by omega) fun i hi=>fr6 i (fun h=>d3 (by rw[h,hi]))
   have x1:=x1.fr (g':=g6) (by omega) fun i hi=>fr6 i (fun h=>d2 (by rw[h,hi]))
   simp only[sx,sy,SO.run,↓reduceIte,Nat.reduceEqDiff,Nat.reduceAdd,Nat.reduceLeDiff,h2,h3,h6,h29,h30,h31,St]
   exact ⟨by omega,x1,u2,x3⟩
  ·rintro t df g ⟨rfl,⟨h2,h3,h6,h29,-⟩,hnx,u1,u2,u3⟩
   rw[pre_end] at u1 u3
   have lg:∀{j:Nat},j<m.nodes.length→j<(((List.range m.nodes.length).map (S.nm m)).map cu).length∧(((List.range m.nodes.length).map (S.nm m)).map cu)[j]?=some (cu (S.nm m j)):=fun {j} hj=>⟨by simpa using hj,by simp[hj]⟩
   have l3:∀g,lenF .slice w3 g=.val (.int .i64 (m.nodes.length:Int)):=fun g=>by rw[len_rows' u3.rows];simp
   simp only[f_twin_Graph_k6,sx,sy,SO.run,↓reduceIte,Nat.reduceEqDiff,Nat.reduceAdd,Nat.reduceLeDiff,h6,l3]
   refine wpL_range (m:=m.nodes.length) (by omega) (fun i t df g=>df=[]∧St t [(2,w),(3,w2),(6,w3)]∧1≤g.nx∧Own g 1 w 1 (((List.range m.nodes.length).map (S.pm m)).map cu)∧Own g 1 w2 1 ((S.joinMat m i 0).map cu)∧Own g 1 w3 1 (((List.range m.nodes.length).map (S.nm m)).map cu))
    ⟨rfl,by simp[St,sx,h2,h3,h6],hnx,u1,u2,u3⟩ (by simp[sx]) (by simp[sx]) (by decide) (by rintro j t df g v s (rfl | rfl | rfl)<;>simp[St,sx]) ?_ ?_
   ·rintro i t df g hi ⟨rfl,⟨h2,h3,h6,-⟩,hnx,u1,u2,u3⟩ h51 h50
    simp only[sx,sy,SO.run,↓reduceIte,Nat.reduceEqDiff,Nat.reduceAdd,Nat.reduceLeDiff,h51,h6,l3]
    refine wpL_range (m:=m.nodes.length) (by omega) (fun j t df g=>df=[]∧St t [(2,w),(3,w2),(6,w3),(9,.int .i64 i),(50,.int .i64 m.nodes.length),(51,.int .i64 i)]∧1≤g.nx∧Own g 1 w 1 (((List.range m.nodes.length).map (S.pm m)).map cu)∧Own g 1 w2 1 ((S.joinMat m i j).map cu)∧Own g 1 w3 1 (((List.range m.nodes.length).map (S.nm m)).map cu))
     ⟨rfl,by simp[St,sx,h2,h3,h6,h50,h51],hnx,u1,u2,u3⟩ (by simp[sx]) (by simp[sx]) (by decide) (by rintro j t df g v s (rfl | rfl | rfl)<;>simp[St,sx]) ?_ ?_
    ·rintro j t df g hj ⟨rfl,⟨h2,h3,h6,h9,h50,h51,-⟩,hnx,u1,u2,u3⟩ h56 h55
     have hlt:i<((S.joinMat m i j).map cu).length:=by rw[List.length_map,joinMat_len];exact hi
     have hrow:((S.joinMat m i j).map cu)[i]?=some (cu (S.joinRow m i j)):=by rw[List.getElem?_map,joinMat_get hi];rfl
     have skip:S.linked m i j=false→S.joinMat m i (j+1)=S.joinMat m i j:=fun h=>by
      rw[←joinMat_set (m:=m) (i:=i) j (j+1),joinRow_succ,h,if_neg (by simp),Nat.or_zero,joinMat_set]
     have nmlt:∀i,S.nm m i<18446744073709551616:=fun i=>mask_lt _
     by_cases hij:i=j
     ·have hij':((i:Nat):Int)=(j:Int):=by omega
      simp only[sx,sy,SO.run,↓reduceIte,Nat.reduceEqDiff,Nat.reduceAdd,Nat.reduceLeDiff,h2,h3,h6,h9,h50,h51,h55,h56,hij',decide_true,Bool.not_true,St]
      rw[skip (by simp[S.linked,hij])]
      exact ⟨hnx,u1,u2,u3⟩
     ·have hij':¬((i:Nat):Int)=(j:Int):=by omega
      by_cases hz:S.nm m i &&& S.nm m j=0
      ·simp only[sx,sy,SO.run,↓reduceIte,Nat.reduceEqDiff,Nat.reduceAdd,Nat.reduceLeDiff,h2,h3,h6,h9,h50,h51,h55,h56,hij',decide_true,decide_false,Bool.not_true,Bool.not_false,u3.rows,(lg hi).1,(lg hi).2,(lg hj).1,(lg hj).2,cu,Option.isSome_some,Option.getD_some,bin_and _ _ (nmlt _) (nmlt _),hz,St,Int.natCast_zero]
       rw[skip (by simp[S.linked,hz])]
       exact ⟨hnx,u1,u2,u3⟩
      ·have hz':¬((S.nm m i &&& S.nm m j:Nat):Int)=0:=by omega
       simp only[sx,sy,sf,SO.run,↓reduceIte,Nat.reduceEqDiff,Nat.reduceAdd,Nat.reduceLeDiff,h2,h3,h6,h9,h50,h51,h55,h56,hij',decide_true,decide_false,Bool.not_true,Bool.not_false,u3.rows,u2.rows,hlt,hrow,(lg hi).1,(lg hi).2,(lg hj).1,(lg hj).2,cu,Option.isSome_some,Option.getD_some,bin_and _ _ (nmlt _) (nmlt _),hz',bin_one_shl,bin_or _ _ (joinRow_lt _ _ _) (bit_lt _)]
       refine store_own (row:=cu (S.joinRow m i j)) (row':=cu (S.joinRow m i (j+1))) (u2.fr (by simp;omega) (fun _ _=>by simp)) hrow rfl rfl (by rw[joinRow_succ,if_pos (by simp[S.linked,hij,hz])];rfl) fun g2 x2 n2 f2=>?_
       rw[←List.map_set,joinMat_set] at x2
       simp only[sx,sy] at n2 f2
       simp only[sx,sy,sf,SO.run,↓reduceIte,Nat.reduceEqDiff,Nat.reduceAdd,Nat.reduceLeDiff]
       refine ⟨?_,?_⟩
       ·simp only[List.reverse_cons,List.reverse_nil,List.nil_append,List.cons_append]
        exact footsOk_mk [false,false,false,false,false,false,false,false,true] [] (by simp[All2,rdLook,noLook,bigLook]) (by decide) (by simp)
       ·have x1:=u1.fr (g':=g2) (by omega) fun i hi=>f2 i (fun h=>d1 (by rw[h,hi]))
        have x3:=u3.fr (g':=g2) (by omega) fun i hi=>f2 i (fun h=>d3 (by rw[h,hi]))
        simp only[sx,sy,SO.run,↓reduceIte,Nat.reduceEqDiff,h2,h3,h6,h9,h50,h51,h55,h56,St]
        refine ⟨?_,?_,?_⟩
        ·exact x1.fr (by simp) (fun _ _=>by simp)
        ·exact x2.fr (by simp) (fun _ _=>by simp)
        ·exact x3.fr (by simp) (fun _ _=>by simp)
    ·rintro t df g ⟨rfl,⟨h2,h3,h6,h9,h50,h51,-⟩,hnx,u1,u2,u3⟩
     simp only[f_twin_Graph_k3,sx,sy,SO.run,↓reduceIte,Nat.reduceEqDiff,h2,h3,h6,h50,h51,St]
     rw[←joinMat_next]
     exact ⟨hnx,u1,u2,u3⟩
   ·rintro t df g ⟨rfl,⟨h2,h3,h6,-⟩,hnx,u1,u2,u3⟩
    simp only[f_twin_Graph_k5,sx,sy,SO.run,↓reduceIte,Nat.reduceEqDiff,h2,h3]
    rw[joinMat_end] at u2
    rw[range_pm] at u1
    refine ⟨fun _=>True,_,_,_,rfl,?_,?_,?_⟩
    ·rw[S.gpar,if_pos hck]
     exact u1.nats (by simp;omega) fun x hx=>by obtain ⟨y,-,rfl⟩:=List.mem_map.1 hx;exact mask_lt _
    ·rw[S.gjoin,if_pos hck]
     exact u2.nats (by simp[S.joined];omega) fun x hx=>by obtain ⟨y,-,rfl⟩:=List.mem_map.1 hx;exact joinRow_lt _ _ _
    ·rw[S.graphE,if_pos hck];exact rp_int.2 rfl
end
end Hx
end
section
namespace Hx
open Go
noncomputable section
theorem ixa_h (n sz id ep i off:Nat)(k:IntKind){j:Nat}(h:j<n):ixaV n sz (.hptr id ep i off) (.int k (j:Int))=.val (.hptr id ep i (off+j*sz)):=by
 show bif' (Nat.blt j n) (OR.val (.hptr id ep i (off+j*sz))) .fail=_
 rw[bif'_eq,if_pos (by simpa using h)]
def u8v (x:UInt8):AV:=.int .u8 (x.toNat:Int)
theorem snap_u8s (l:List UInt8)(h:H)(d:Nat):snap h d depthA (.agg (l.map u8v))=some (.agg (l.map u8v)):=by
 have:∀l:List UInt8,mapO (Hx.snap h d 23) (l.map u8v)=some (l.map u8v):=fun l=>by
  induction l with
  | nil=>rfl
  | cons x l ih =>
   simp only[List.map_cons,mapO,ih,show Hx.snap h d 23 (u8v x)=some (u8v x) from rfl]
 show (match mapO (Hx.snap h d 23) (l.map u8v) with | some ys=>some (AV.agg ys) | none=>none)=_
 rw[this]
def S.knownOf (vs:List UInt8)(m:Causal):List Int:=(List.range m.nodes.length).map fun j=>if ((vs[j]?.map UInt8.toNat).getD 0:Nat) % 3=0 then (((vs[j]?.map UInt8.toNat).getD 0 / 3:Nat):Int) % ((m.nodes[j]?.map (·.card)).getD 0) else -1
theorem knownOf_ok {d k:Nat}{g:G}{P:Nat→Prop}{w:AV}{m:Causal}{vs:List UInt8}(hd:0<d)(hv:vs.length=5)(hm:Agg m P k g.h w)(hn:m.nodes.length≤5)(hc:∀x∈m.nodes,0<x.card) :
  ∃r,callV C0 d N.ref33_Known_Of [.agg (vs.map u8v),w] g=.val r∧IT 0 (S.knownOf vs m) r:=by
 obtain ⟨v',e,cs,rfl,hcs⟩:=arg_of (snb_agg m) (by decide) d hm
 obtain ⟨a,b,rfl,hR,hN⟩:=rp_causal.1 hcs
 obtain ⟨rows,r1,r2,r3,r4⟩:=hN.all
 have r1:∀h',rowsOf h' 4 b=some rows:=r1
 rw[call_ref33_Known_Of]
 obtain ⟨L,hLd⟩:∃L,L=S.knownOf vs m:=⟨_,rfl⟩
 rw[←hLd]
 have Ll:L.length=m.nodes.length:=by rw[hLd];simp[S.knownOf]
 have Lget:∀{j:Nat},j<m.nodes.length→L.take (j+1)=L.take j++[if ((vs[j]?.map UInt8.toNat).getD 0:Nat) % 3=0 then (((vs[j]?.map UInt8.toNat).getD 0 / 3:Nat):Int) % ((m.nodes[j]?.map (·.card)).getD 0) else -1]:=fun {j} hj=>by
  rw[List.take_add_one];congr 1;rw[hLd];simp only[S.knownOf,List.getElem?_map,List.getElem?_range hj,Option.map_some,Option.toList_some]
 refine iso_run eq_ref33_Known_Of (xs:=[.agg (vs.map u8v),.agg [.int .i64 m.grain,a,b]]) (by simp only[mapO,e,snap_u8s]) (by simp[f_ref33_Known_Of]) (snb_one _) (by decide) hd ?_
 obtain ⟨cu8,hcu⟩:∃c,c=vs.map u8v:=⟨_,rfl⟩
 have hcl:cu8.length=5:=by rw[hcu,List.length_map,hv]
 simp only[f_ref33_Known_Of,sx,sy,SO.run,↓reduceIte,Nat.reduceEqDiff,Nat.reduceAdd,←hcu]
 generalize hg0:((G.empty.new (AObj.cells cu8.length [cu8] 0 false false)).new (AObj.cells 3 [[AV.int IntKind.i64 m.grain,a,b]] 0 false false))=g0
 have f0:g0.h.get 0=.cells 5 [cu8] 0 false false:=by rw[←hg0,hcl];simp[sx,H.get_put]
 have f1:g0.h.get 1=.cells 3 [[.int .i64 m.grain,a,b]] 0 false false:=by rw[←hg0];simp[sx,H.get_put]
 have f2:2≤g0.nx:=by rw[←hg0];simp[sx]
 clear hg0
 simp only[f_ref33_Known_Of_r,sx,sy,SO.run,↓reduceIte,Nat.reduceEqDiff,Nat.reduceAdd]
 refine wpL_cnt m.nodes.length (by omega) (fun j t df g=>df=[]∧St t [(2,.hptr 0 0 0 0),(3,.hptr 1 0 0 0)]∧g.h.get 0=.cells 5 [cu8] 0 false false∧g.h.get 1=.cells 3 [[.int .i64 m.grain,a,b]] 0 false false∧2≤g.nx∧∃u,tat t 5=u∧Own g 2 u 1 ((L.take j).map ci))
  ⟨rfl,by simp[sx,St],f0,f1,f2,_,rfl,.inl ⟨by simp[sx],rfl⟩⟩ (by simp[sx]) (by decide) (by rintro j t df g v s (rfl | rfl | rfl)<;>simp[sx,St]) ?_ ?_ ?_
 ·rintro j t df g hj ⟨rfl,⟨h2,h3,-⟩,e0,e1,hnx,u,h5,hu⟩ h6
  simp only[sx,sy,SO.run,↓reduceIte,Nat.reduceEqDiff,h2,h3,h6,e0,e1,hN.len,St]
  exact ⟨hnx,u,h5,hu⟩
 ·rintro j t df g hj ⟨rfl,⟨h2,h3,-⟩,e0,e1,hnx,u,h5,hu⟩ h6
  obtain ⟨x,hx,htk,hm⟩:=take_next hj
  obtain ⟨row,z1,z2⟩:=r3 j x hx
  obtain ⟨fa,fb,fc,rfl,-⟩:=rp_mech.1 z2
  have hlt:j<rows.length:=by omega
  have hry:=r4 (by omega)
  have hj5:j<5:=by omega
  obtain ⟨y,hy⟩:∃y,vs[j]?=some y:=⟨_,List.getElem?_eq_getElem (by omega)⟩
  have hcy:cu8[j]?=some (.int .u8 (y.toNat:Int)):=by rw[hcu,List.getElem?_map,hy];rfl
  have hy8:y.toNat<256:=y.toNat_lt
  have hL:=Lget hj
  rw[hy,hx] at hL
  simp only[Option.map_some,Option.getD_some] at hL
  have hcx:=hc x hm
  simp only[sx,sy,SO.run,↓reduceIte,Nat.reduceEqDiff,Nat.reduceAdd,h2,h3,h6,e0,ixa_h 5 1 _ _ _ _ _ hj5,Nat.mul_one,Nat.zero_add,hcy,bin_rem .u8 (show (0:Int)≤(y.toNat:Int) by omega) (show (0:Int)<3 by decide)]
  have w8:IntKind.wrap .u8 ((y.toNat:Int) / 3)=(y.toNat:Int) / 3:=wrapu8 (by omega) (by omega)
  refine bifP_mk (fun hb=>?_) (fun hb=>?_)
  ·have hz:y.toNat % 3=0:=by simp at hb;omega
   rw[if_pos hz] at hL
   simp only[sx,sy,SO.run,↓reduceIte,Nat.reduceEqDiff,Nat.reduceAdd,Nat.reduceLeDiff,h2,h3,h5,h6,e0,e1,ixa_h 5 1 _ _ _ _ _ hj5,Nat.mul_one,Nat.zero_add,hcy,bin_quo .u8 (show (0:Int)≤(y.toNat:Int) by omega) (show (0:Int)<3 by decide),w8,wrap64 (show -9223372036854775808≤(y.toNat:Int) / 3 by omega) (show (y.toNat:Int) / 3<9223372036854775808 by omega),r1,hlt,z1,hry,Option.isSome_some,Option.getD_some,bin_rem .i64 (show 0≤(y.toNat:Int) / 3 by omega) hcx,f_ref33_Known_Of_k0]
   refine append_own (new:=[ci ((y.toNat:Int) / 3 % x.card)]) (hu.step (Fr.new _ _)) (by simp[sx,sy,ci]) (by simp[Ll];omega) (by simp[room,Ll];omega) fun v2 g2 hv2 n2 f2 _ l2=>?_
   simp only[f_ref33_Known_Of_k1,sx,sy,SO.run,↓reduceIte,Nat.reduceEqDiff,h2,h3,h6,St]
   refine ⟨?_,?_,?_,_,rfl,?_⟩
   ·rw[f2 0 (by simp) (fun e=>by have:=(hu.lt e).1;omega),G.new_h,get_put_ne _ _ _ (by omega),e0]
   ·rw[f2 1 (by simp;omega) (fun e=>by have:=(hu.lt e).1;omega),G.new_h,get_put_ne _ _ _ (by omega),e1]
   ·simp at n2;omega
   ·rw[hL]
    simpa [ci] using hv2
  ·have hz:¬y.toNat % 3=0:=by simp at hb;omega
   rw[if_neg hz] at hL
   simp only[sx,sy,SO.run,↓reduceIte,Nat.reduceEqDiff,h5,f_ref33_Known_Of_k0]
   refine append_own (new:=[ci (-1)]) (hu.step (Fr.new _ _)) (by simp[sx,sy,ci]) (by simp[Ll];omega) (by simp[room,Ll];omega) fun v2 g2 hv2 n2 f2 _ l2=>?_
   simp only[f_ref33_Known_Of_k1,sx,sy,SO.run,↓reduceIte,Nat.reduceEqDiff,h2,h3,h6,St]
   refine ⟨?_,?_,?_,_,rfl,?_⟩
   ·rw[f2 0 (by simp) (fun e=>by have:=(hu.lt e).1;omega),G.new_h,get_put_ne _ _ _ (by omega),e0]
   ·rw[f2 1 (by simp;omega) (fun e=>by have:=(hu.lt e).1;omega),G.new_h,get_put_ne _ _ _ (by omega),e1]
   ·simp at n2;omega
   ·rw[hL]
    simpa [ci] using hv2
 ·rintro t df g ⟨rfl,⟨h2,h3,-⟩,e0,e1,hnx,u,h5,hu⟩
  rw[List.take_of_length_le (by simp[Ll])] at hu
  simp only[f_ref33_Known_Of_k3,sx,sy,SO.run,↓reduceIte,Nat.reduceEqDiff,h5]
  exact ⟨_,hu.ints (by simp[Ll];omega)⟩
end
end Hx
end
section
namespace Hx
open Go
noncomputable section
theorem bsl_two (z:AV)(k k':IntKind)(x y:Int)(g:G):bslV 1 2 [z] [0,1] [.int k x,.int k' y] g=.upd (.hsl g.nx 0 0 2 none) (g.new (.cells 1 [[.int k x],[.int k' y]] 0 false false)):=rfl
theorem bsl_three (z:AV)(k k' k2:IntKind)(x y w:Int)(g:G):bslV 1 3 [z] [0,1,2] [.int k x,.int k' y,.int k2 w] g=.upd (.hsl g.nx 0 0 3 none) (g.new (.cells 1 [[.int k x],[.int k' y],[.int k2 w]] 0 false false)):=rfl
def S.weights (gr card n:Int):List Int :=
 if card=2 then [1+n % (gr - 1),gr - (1+n % (gr - 1))]
 else [1+n % (gr - 1),n / 12 % (gr - (1+n % (gr - 1))+1),gr - (1+n % (gr - 1)) - n / 12 % (gr - (1+n % (gr - 1))+1)]
theorem weights_ok {d:Nat}{g:G}{gr card n:Int}(hd:0<d)(h1:2≤gr)(h2:gr≤12)(h3:0≤n)(h4:n<256) :
  ∃r,callV C0 d N.ref33_weights [.int .i64 gr,.int .i64 card,.int .u8 n] g=.val r∧IT 0 (S.weights gr card n) r:=by
 rw[call_ref33_weights]
 refine iso_run eq_ref33_weights (xs:=[.int .i64 gr,.int .i64 card,.int .u8 n]) (by simp only[mapO,arg_int 0]) (by simp[f_ref33_weights]) (snb_one _) (by decide) hd ?_
 have b1:=Int.emod_nonneg n (show gr - 1≠0 by omega)
 have b2:=Int.emod_lt_of_pos n (show 0<gr - 1 by omega)
 have b3:=Int.emod_nonneg (n / 12) (show gr - (1+n % (gr - 1))+1≠0 by omega)
 have b4:=Int.emod_lt_of_pos (n / 12) (show 0<gr - (1+n % (gr - 1))+1 by omega)
 generalize hA:n % (gr - 1)=A at *
 generalize hB:n / 12 % (gr - (1+A)+1)=B at *
 simp only[f_ref33_weights,sx,sy,SO.run,↓reduceIte,Nat.reduceEqDiff,Nat.reduceAdd,
  wrap64 (show -9223372036854775808≤n by omega) (show n<9223372036854775808 by omega),
  wrap64 (show -9223372036854775808≤gr - 1 by omega) (show gr - 1<9223372036854775808 by omega),
  bin_rem .i64 h3 (show 0<gr - 1 by omega),hA,
  wrap64 (show -9223372036854775808≤1+A by omega) (show 1+A<9223372036854775808 by omega)]
 refine bifP_mk (fun hb=>?_) (fun hb=>?_)
 ·have hc:card=2:=by simpa using hb
  simp only[sx,sy,SO.run,↓reduceIte,Nat.reduceEqDiff,Nat.reduceAdd,
   wrap64 (show -9223372036854775808≤gr - (1+A) by omega) (show gr - (1+A)<9223372036854775808 by omega)]
  simp only[bsl_two,sx,sy,SO.run,↓reduceIte,Nat.reduceEqDiff,Nat.reduceAdd]
  have ho:Own ((G.empty).new (.cells 1 [[.int .i64 (1+A)],[.int .i64 (gr - (1+A))]] 0 false false)) 0 (.hsl G.empty.nx 0 0 2 none) 1 ([1+A,gr - (1+A)].map ci):=.inr ⟨_,0,false,Nat.zero_le _,by simp,rfl,by simp[get_put_eq,ci]⟩
  rw[S.weights,if_pos hc,hA]
  exact ⟨_,ho.ints (by simp)⟩
 ·have hc:¬card=2:=by simpa using hb
  simp only[sx,sy,SO.run,↓reduceIte,Nat.reduceEqDiff,Nat.reduceAdd,
   bin_quo .u8 h3 (show (0:Int)<12 by decide),wrapu8 (show 0≤n / 12 by omega) (show n / 12<256 by omega),
   wrap64 (show -9223372036854775808≤n / 12 by omega) (show n / 12<9223372036854775808 by omega),
   wrap64 (show -9223372036854775808≤gr - (1+A) by omega) (show gr - (1+A)<9223372036854775808 by omega),
   wrap64 (show -9223372036854775808≤gr - (1+A)+1 by omega) (show gr - (1+A)+1<9223372036854775808 by omega),
   bin_rem .i64 (show 0≤n / 12 by omega) (show 0<gr - (1+A)+1 by omega),hB,
   wrap64 (show -9223372036854775808≤gr - (1+A) - B by omega) (show gr - (1+A) - B<9223372036854775808 by omega)]
  simp only[bsl_three,sx,sy,SO.run,↓reduceIte,Nat.reduceEqDiff,Nat.reduceAdd]
  have ho:Own ((G.empty).new (.cells 1 [[.int .i64 (1+A)],[.int .i64 B],[.int .i64 (gr - (1+A) - B)]] 0 false false)) 0 (.hsl G.empty.nx 0 0 3 none) 1 ([1+A,B,gr - (1+A) - B].map ci):=.inr ⟨_,0,false,Nat.zero_le _,by simp,rfl,by simp[get_put_eq,ci]⟩
  rw[S.weights,if_neg hc,hA,hB]
  exact ⟨_,ho.ints (by simp)⟩
end
end Hx
end
section
namespace Hx
open Go
noncomputable section
theorem nilc_hptr (id ep i off:Nat):nilcV (.hptr id ep i off)=.val (.hptr id ep i off):=rfl
theorem next_ok {d:Nat}{g:G}{p:Nat}{l:AV}{us:List UInt8}{c:Int}{K:AV→G→Prop}{D:ADf→Prop}(hg:g.h.get p=.cells 2 [[l,.int .i64 c]] 0 false false)(hl:SlR NoP 0 .nil us l)(h0:0≤c)(h1:c<4611686018427387904)
  (kk:∀(z c':Int) (g':G),0≤z→z<256→0≤c'→c'≤c+1→g'.h.get p=.cells 2 [[l,.int .i64 c']] 0 false false→g'.nx=g.nx→(∀i,i≠p→g'.h.get i=g.h.get i)→(∀i∈g'.lg,i=p∨i∈g.lg)→K (.int .u8 z) g') :
  (callV C0 d N.ref33_numbers_next [.hptr p 0 0 0] g).sat K g D:=by
 obtain ⟨rows,r1,r2,r3,r4⟩:=hl.all
 have r1:∀h',rowsOf h' 1 l=some rows:=r1
 rw[call_ref33_numbers_next]
 refine dir_run eq_ref33_numbers_next (by simp[f_ref33_numbers_next]) ?_
 simp only[f_ref33_numbers_next,sx,sy,SO.run,↓reduceIte,Nat.reduceEqDiff,Nat.reduceAdd,hg,hl.len,nilc_hptr]
 refine bifP_mk (fun hb=>?_) (fun hb=>?_)
 ·simp only[sx,sy,SO.run,↓reduceIte,Nat.reduceEqDiff,Nat.reduceAdd]
  exact kk 0 c g (by decide) (by decide) h0 (by omega) hg rfl (fun _ _=>rfl) (fun i hi=>.inr hi)
 ·have hp:0<us.length:=by simp at hb;cases us with | nil=>simp at hb | cons a b=>simp
  have hm1:=Int.emod_nonneg (c+1) (show (us.length:Int)≠0 by omega)
  have hm2:=Int.emod_lt_of_pos (c+1) (show 0<(us.length:Int) by omega)
  obtain ⟨j,hj⟩:=Int.eq_ofNat_of_zero_le hm1
  have hjl:j<us.length:=by omega
  obtain ⟨y,hy⟩:∃y,us[j]?=some y:=⟨_,List.getElem?_eq_getElem hjl⟩
  obtain ⟨row,z1,z2⟩:=r3 j y hy
  rw[rp_u8.1 z2] at z1
  have hy8:y.toNat<256:=y.toNat_lt
  have hlt:j<rows.length:=by omega
  simp only[sx,sy,SO.run,↓reduceIte,Nat.reduceEqDiff,Nat.reduceAdd,Nat.reduceLeDiff,Nat.le_refl,hg,nilc_hptr,hl.len,bin_rem .i64 (show 0≤c+1 by omega) (show 0<(us.length:Int) by omega),hj,r1,hlt,z1,Option.isSome_some,Option.getD_some,wrap64 (show -9223372036854775808≤c+1 by omega) (show c+1<9223372036854775808 by omega)]
  refine kk _ (c+1) _ (by omega) (by omega) (by omega) (by omega) (by simp[H.get_put]) (by simp) (fun i hi=>by simp[H.get_put];intro e;exact absurd e hi) (fun i hi=>by simpa using hi)
end
end Hx
end
section
namespace Hx
open Go
noncomputable section
abbrev Draft2:Type:=List UInt8×UInt16×List UInt8
def S.dcards (us:List UInt8):List Int:=(us.take 5).map fun u=>1+(u.toNat:Int) % 4
theorem rp_u16 {P:Nat→Prop}{k:Nat}{h:H}{x:UInt16}{cs:List AV}:Rp.rp P k h x cs↔cs=[.int .u16 (x.toNat:Int)]:=by simp[Rp.rp]
theorem rp_draft2 {P:Nat→Prop}{k:Nat}{h:H}{x:Draft2}{cs:List AV}:Rp.rp P k h x cs↔∃a b,cs=[a,.int .u16 (x.2.1.toNat:Int),b]∧SlR P k h x.1 a∧SlR P k h x.2.2 b:=by
 constructor
 ·rintro ⟨c1,c2,rfl,⟨a,rfl,h1⟩,c3,c4,rfl,h2,⟨b,rfl,h3⟩⟩
  rw[rp_u16.1 h2];exact ⟨a,b,rfl,h1,h3⟩
 ·rintro ⟨a,b,rfl,h1,h2⟩
  exact ⟨[a],[_,b],rfl,⟨a,rfl,h1⟩,[_],[b],rfl,rp_u16.2 rfl,⟨b,rfl,h2⟩⟩
theorem dcards_ok {d k:Nat}{g:G}{P:Nat→Prop}{v:AV}{x:Draft2}(hd:0<d)(hm:Agg x P k g.h v) :
  ∃r,callV C0 d N.ref02_Draft_Cards [v] g=.val r∧IT 0 (S.dcards x.1) r:=by
 obtain ⟨v',e,cs,rfl,hc⟩:=arg_of (snb_agg x) (by decide) d hm
 obtain ⟨a,b,rfl,hA,hB⟩:=rp_draft2.1 hc
 obtain ⟨rows,r1,r2,r3,r4⟩:=hA.all
 have r1:∀h',rowsOf h' 1 a=some rows:=r1
 rw[call_ref02_Draft_Cards]
 refine iso_run eq_ref02_Draft_Cards (xs:=[.agg [a,.int .u16 (x.2.1.toNat:Int),b]]) (by simp only[mapO,e]) (by simp[f_ref02_Draft_Cards]) (snb_one _) (by decide) hd ?_
 have hL:(S.dcards x.1).length=min x.1.length 5:=by simp[S.dcards];omega
 simp only[f_ref02_Draft_Cards,f_ref02_Draft_Cards_r,sx,sy,SO.run,↓reduceIte,Nat.reduceEqDiff,Nat.reduceAdd]
 refine wpL_cnt (min x.1.length 5) (by omega) (fun j t df g=>df=[]∧tat t 1=.hptr 0 0 0 0∧g.h.get 0=.cells 3 [[a,.int .u16 (x.2.1.toNat:Int),b]] 0 false false∧1≤g.nx∧∃u,tat t 3=u∧Own g 1 u 1 (((S.dcards x.1).take j).map ci))
  ⟨rfl,by simp[sx],by simp[sx],by simp[sx],_,rfl,.inl ⟨by simp[sx],rfl⟩⟩ (by simp[sx]) (by decide)
  (by rintro j t df g v s (rfl | rfl | rfl)<;>simp[sx]) ?_ ?_ ?_
 ·rintro j t df g hj ⟨rfl,h1,hg,hnx,u,h3,hu⟩ h4
  by_cases hlt:(j:Int)<(x.1.length:Int)
  ·have:decide ((j:Int)<((min x.1.length 5:Nat):Int))=decide ((j:Int)<5):=by congr 1;apply propext;omega
   simp only[sx,sy,SO.run,↓reduceIte,Nat.reduceEqDiff,h1,h4,hg,hA.len,hlt,decide_true,true_and,and_true,this]
   exact ⟨hnx,u,h3,hu⟩
  ·have:decide ((j:Int)<((min x.1.length 5:Nat):Int))=false:=decide_eq_false (by omega)
   simp only[sx,sy,SO.run,↓reduceIte,Nat.reduceEqDiff,h1,h4,hg,hA.len,hlt,decide_false,true_and,and_true,this]
   exact ⟨hnx,u,h3,hu⟩
 ·rintro j t df g hj ⟨rfl,h1,hg,hnx,u,h3,hu⟩ h4
  obtain ⟨y,hy,-,-⟩:=take_next (l:=x.1) (j:=j) (by omega)
  obtain ⟨z,hz,htk,-⟩:=take_next (l:=S.dcards x.1) (j:=j) (by omega)
  have hzy:z=1+(y.toNat:Int) % 4:=by
   have:(S.dcards x.1)[j]?=some (1+(y.toNat:Int) % 4):=by simp[S.dcards,List.getElem?_take,show j<5 by omega,hy]
   rw[this] at hz;injection hz with hz;exact hz.symm
  obtain ⟨row,z1,z2⟩:=r3 j y hy
  rw[rp_u8.1 z2] at z1
  have hlt:j<rows.length:=by omega
  have hy8:y.toNat<256:=y.toNat_lt
  have m1:0≤(y.toNat:Int) % 4:=by omega
  have m2:(y.toNat:Int) % 4<4:=by omega
  simp only[sx,sy,SO.run,↓reduceIte,Nat.reduceEqDiff,h1,h3,h4,hg,r1,hlt,z1,Option.isSome_some,Option.getD_some,bin_rem .u8 (show (0:Int)≤(y.toNat:Int) by omega) (show (0:Int)<4 by decide),
   wrap64 (show -9223372036854775808≤(y.toNat:Int) % 4 by omega) (show (y.toNat:Int) % 4<9223372036854775808 by omega),
   wrap64 (show -9223372036854775808≤1+(y.toNat:Int) % 4 by omega) (show 1+(y.toNat:Int) % 4<9223372036854775808 by omega)]
  refine append_own (new:=[ci (1+(y.toNat:Int) % 4)]) (hu.step (Fr.new _ _)) (by simp[sx,sy,ci]) (by simp) (by simp[room];omega) fun v2 g2 hv2 n2 f2 _ l2=>?_
  simp only[sx,sy,SO.run,↓reduceIte,Nat.reduceEqDiff,h1,h4,and_true,true_and]
  refine ⟨?_,?_,_,rfl,?_⟩
  ·rw[f2 0 (by simp) (fun e=>by have:=(hu.lt e).1;omega),G.new_h,get_put_ne _ _ _ (by omega),hg]
  ·simp at n2;omega
  ·rw[htk,hzy]
   simpa [ci] using hv2
 ·rintro t df g ⟨rfl,h1,hg,hnx,u,h3,hu⟩
  rw[List.take_of_length_le (by omega)] at hu
  simp only[f_ref02_Draft_Cards_k1,sx,sy,SO.run,↓reduceIte,Nat.reduceEqDiff,h3]
  exact ⟨_,hu.ints (by omega)⟩
end
end Hx
end
section
namespace Hx
open Go
noncomputable section
theorem slc_own_hi {g:G}{b sz:Nat}{u:AV}{rows:List (List AV)}(hu:Own g b u sz rows){n:Nat}(hn:n≤rows.length) :
  ∃y,slcV sz u none (some (.int .i64 (n:Int))) g=.val y∧rowsOf g.h sz y=some (rows.take n):=by
 rcases hu with ⟨rfl,rfl⟩ | ⟨id,ep,lo,h1,h2,rfl,h3⟩
 ·have:n=0:=by simpa using hn
  subst this
  exact ⟨.nils,rfl,rfl⟩
 ·simp only[slcV,sliceA,h3,Nat.beq_refl,Nat.beq_refl,Bool.true_and,lenR_eq,Nat.zero_add,bif'_eq,Nat.ble_eq,Nat.le_refl,if_true,boundOf,Option.getD_none,Nat.sub_zero]
  simp only[natOf]
  rw[show bif' (n.ble rows.length) (some n) none=some n from by rw[bif'_eq,if_pos (by simpa using hn)]]
  dsimp only
  by_cases h0:rows=[]
  ·subst h0
   have:n=0:=by simpa using hn
   subst this
   cases lo
   ·exact ⟨_,rfl,rfl⟩
   ·exact ⟨_,rfl,rowsOf_tsl _ _ _ _⟩
  ·have hb:rows.length.beq 0=false:=by cases rows with | nil=>exact absurd rfl h0 | cons a l=>rfl
   rw[hb]
   refine ⟨_,rfl,?_⟩
   rw[rowsOf_hsl,h3,hslRows_cells,if_pos (by omega),List.drop_zero]
theorem slc_own_lo {g:G}{b sz:Nat}{u:AV}{rows:List (List AV)}(hu:Own g b u sz rows){n:Nat}(hn:n≤rows.length) :
  ∃y,slcV sz u (some (.int .i64 (n:Int))) none g=.val y∧rowsOf g.h sz y=some (rows.drop n):=by
 rcases hu with ⟨rfl,rfl⟩ | ⟨id,ep,lo,h1,h2,rfl,h3⟩
 ·have:n=0:=by simpa using hn
  subst this
  exact ⟨.nils,rfl,rfl⟩
 ·simp only[slcV,sliceA,h3,Nat.beq_refl,Nat.beq_refl,Bool.true_and,lenR_eq,Nat.zero_add,bif'_eq,Nat.ble_eq,Nat.le_refl,if_true,boundOf,Option.getD_none,Nat.sub_zero]
  simp only[natOf]
  rw[show bif' (n.ble rows.length) (some n) none=some n from by rw[bif'_eq,if_pos (by simpa using hn)]]
  dsimp only
  by_cases h0:rows.length=n
  ·subst h0
   rw[if_pos (Nat.beq_refl _),List.drop_length]
   cases lo
   ·exact ⟨_,rfl,rfl⟩
   ·exact ⟨_,rfl,rowsOf_tsl _ _ _ _⟩
  ·rw[if_neg (fun e=>h0 (Nat.eq_of_beq_eq_true e))]
   refine ⟨_,rfl,?_⟩
   rw[rowsOf_hsl,h3,hslRows_cells,if_pos (by omega),List.take_of_length_le (by simp)]
def S.permAt (os:List UInt8)(k:Nat):Nat:=if k<os.length then ((os[k]?.map UInt8.toNat).getD 0) % (k+1) else 0
def S.perm (os:List UInt8):Nat→List Int
 | 0=>[]
 | k+1=>(S.perm os k).take (S.permAt os k)++(k:Int)::(S.perm os k).drop (S.permAt os k)
theorem perm_len (os:List UInt8):∀k,(S.perm os k).length=k
 | 0=>rfl
 | k+1=>by simp only[S.perm,List.length_append,List.length_cons,List.length_take,List.length_drop,perm_len os k];omega
theorem perm_perm (os:List UInt8):∀k,(S.perm os k).Perm ((List.range k).map fun i:Nat=>(i:Int))
 | 0=>.refl _
 | k+1=>by
  rw[List.range_succ,List.map_append,S.perm]
  refine List.perm_middle.trans ?_
  rw[List.take_append_drop]
  exact ((perm_perm os k).cons _).trans (List.perm_append_comm (l₁:=[(k:Int)]))
theorem permutation_ok {d k:Nat}{g:G}{P:Nat→Prop}{v:AV}{x:Draft2}(hd:0<d)(hm:Agg x P k g.h v) :
  ∃r,callV C0 d N.ref02_Draft_Permutation [v] g=.val r∧IT 0 (S.perm x.2.2 (min x.1.length 5)) r:=by
 obtain ⟨v',e,cs,rfl,hc⟩:=arg_of (snb_agg x) (by decide) d hm
 obtain ⟨a,b,rfl,hA,hB⟩:=rp_draft2.1 hc
 have hms:∀g:G,Agg x NoP (max k d) g.h (.agg [a,.int .u16 (x.2.1.toNat:Int),b]):=fun g=>⟨_,rfl,rp_draft2.2 ⟨a,b,rfl,hA.tree (Nat.le_refl _),hB.tree (Nat.le_refl _)⟩⟩
 obtain ⟨rows,r1,r2,r3,r4⟩:=hB.all
 have r1:∀h',rowsOf h' 1 b=some rows:=r1
 rw[call_ref02_Draft_Permutation]
 refine iso_run eq_ref02_Draft_Permutation (xs:=[.agg [a,.int .u16 (x.2.1.toNat:Int),b]]) (by simp only[mapO,e]) (by simp[f_ref02_Draft_Permutation]) (snb_one _) (by decide) hd ?_
 have hL:(S.dcards x.1).length=min x.1.length 5:=by simp[S.dcards];omega
 simp only[f_ref02_Draft_Permutation,f_ref02_Draft_Permutation_r,sx,sy,SO.run,↓reduceIte,Nat.reduceEqDiff,Nat.reduceAdd]
 refine wpL_cnt (min x.1.length 5) (by omega) (fun j t df g=>df=[]∧tat t 1=.hptr 0 0 0 0∧g.h.get 0=.cells 3 [[a,.int .u16 (x.2.1.toNat:Int),b]] 0 false false∧1≤g.nx∧∃u,tat t 3=u∧Own g 1 u 1 ((S.perm x.2.2 j).map ci))
  ⟨rfl,by simp[sx],by simp[sx],by simp[sx],_,rfl,.inl ⟨by simp[sx],rfl⟩⟩ (by simp[sx]) (by decide)
  (by rintro j t df g v s (rfl | rfl | rfl)<;>simp[sx]) ?_ ?_ ?_
 ·rintro j t df g hj ⟨rfl,h1,hg,hnx,u,h3,hu⟩ h4
  simp only[sx,sy,SO.run,↓reduceIte,Nat.reduceEqDiff,Nat.reduceAdd,Nat.reduceLeDiff,h1,h4,hg]
  refine sat_ex (dcards_ok (Nat.succ_pos d) (hms _)) fun r hr=>?_
  simp only[sx,sy,SO.run,↓reduceIte,Nat.reduceEqDiff,Nat.reduceAdd,h1,h4,hg,(hr.sl .nil).len,hL]
  exact ⟨hnx,u,h3,hu⟩
 ·rintro j t df g hj ⟨rfl,h1,hg,hnx,u,h3,hu⟩ h4
  have hpl:((S.perm x.2.2 j).map ci).length=j:=by rw[List.length_map,perm_len]
  have hle:S.permAt x.2.2 j≤j:=by
   unfold S.permAt;split
   ·have:=Nat.mod_lt (((x.2.2)[j]?.map UInt8.toNat).getD 0) (show 0<j+1 by omega);omega
   ·omega
  have key:∀(t:T) (Q:QT),tat t 1=.hptr 0 0 0 0→tat t 3=u→tat t 4=.int .i64 (j:Int)→tat t 5=.int .i64 (S.permAt x.2.2 j:Int) →
    (∀(t':T) (g':G),tat t' 1=.hptr 0 0 0 0→tat t' 4=.int .i64 (j:Int)→g'.h.get 0=.cells 3 [[a,.int .u16 (x.2.1.toNat:Int),b]] 0 false false→1≤g'.nx→(∃u,tat t' 3=u∧Own g' 1 u 1 ((S.perm x.2.2 (j+1)).map ci))→Q .norm t' [] g') →
    wp C0 (d+1) none f_ref02_Draft_Permutation_k0 Q t [] g:=by
   intro t Q h1 h3 h4 h5 kk
   obtain ⟨y1,s1,w1⟩:=slc_own_hi hu (n:=S.permAt x.2.2 j) (by omega)
   simp only[f_ref02_Draft_Permutation_k0,sx,sy,SO.run,↓reduceIte,Nat.reduceEqDiff,h1,h3,h4,h5,hg,List.head?_nil,List.head?_cons,s1]
   refine append_own (rows:=[]) (b:=1) (.inl ⟨rfl,rfl⟩) w1 hnx (by simp[room];omega) fun v1 g1 hv1 n1 f1 vid1 _=>?_
   simp only[sx,sy,SO.run,↓reduceIte,Nat.reduceEqDiff,h1,h3,h4,h5]
   refine append_own (new:=[ci (j:Int)]) (hv1.step (Fr.new _ _)) (by simp[sx,sy,ci]) (by simp) (by simp[room,perm_len];omega) fun v2 g2 hv2 n2 f2 vid2 _=>?_
   have hu1:Own g1 1 u 1 ((S.perm x.2.2 j).map ci):=hu.fr n1 fun i hi=>f1 i (hu.lt hi).2 (by simp[vid])
   have hnv:∀i,i<g.nx→vid v1≠some i:=fun i hi e=>by
    rcases vid1 with h | ⟨i',h,hi'⟩
    ·rw[h] at e;cases e
    ·rw[h] at e;injection e with e;omega
   have hu2:Own g2 1 u 1 ((S.perm x.2.2 j).map ci):=hu1.fr (by simp at n2;omega) fun i hi=>by
    have hlt:=(hu.lt hi).2
    rw[f2 i (by simp;omega) (hnv i hlt),G.new_h,get_put_ne _ _ _ (by omega)]
   obtain ⟨y2,s2,w2⟩:=slc_own_lo hu2 (n:=S.permAt x.2.2 j) (by omega)
   simp only[sx,sy,SO.run,↓reduceIte,Nat.reduceEqDiff,h1,h3,h4,h5,List.head?_nil,List.head?_cons,s2]
   refine append_own hv2 w2 (by simp at n2;omega) (by simp[room,perm_len];omega) fun v3 g3 hv3 n3 f3 _ _=>?_
   simp only[sx,sy,SO.run,↓reduceIte,Nat.reduceEqDiff]
   refine kk _ _ (by simp[sx,h1]) (by simp[sx,h4]) ?_ (by simp at n2;omega) ⟨_,rfl,?_⟩
   ·rw[f3 0 (by simp at n2;omega) (fun e=>by have:=(hv2.lt e).1;omega),f2 0 (by simp) (hnv 0 (by omega)),G.new_h,get_put_ne _ _ _ (by omega),f1 0 (by omega) (by simp[vid]),hg]
   ·simp only[sx,↓reduceIte]
    simpa [S.perm,List.map_take,List.map_drop] using hv3
  simp only[sx,sy,SO.run,↓reduceIte,Nat.reduceEqDiff,h1,h3,h4,hg,hB.len]
  refine bifP_mk (fun hb=>?_) (fun hb=>?_)
  ·have hjo:j<x.2.2.length:=by simp at hb;omega
   obtain ⟨y,hy⟩:∃y,x.2.2[j]?=some y:=⟨_,List.getElem?_eq_getElem hjo⟩
   obtain ⟨row,z1,z2⟩:=r3 j y hy
   rw[rp_u8.1 z2] at z1
   have hy8:y.toNat<256:=y.toNat_lt
   have hlt:j<rows.length:=by omega
   have hat:((S.permAt x.2.2 j:Nat):Int)=(y.toNat:Int) % ((j:Int)+1):=by
    unfold S.permAt;rw[if_pos hjo,hy];simp
   simp only[sx,sy,SO.run,↓reduceIte,Nat.reduceEqDiff,h1,h4,hg,r1,hlt,z1,Option.isSome_some,Option.getD_some,
    wrap64 (show -9223372036854775808≤(y.toNat:Int) by omega) (show (y.toNat:Int)<9223372036854775808 by omega),
    wrap64 (show -9223372036854775808≤(j:Int)+1 by omega) (show (j:Int)+1<9223372036854775808 by omega),
    bin_rem .i64 (show (0:Int)≤(y.toNat:Int) by omega) (show 0<(j:Int)+1 by omega)]
   refine key _ _ (by simp[sx,h1]) (by simp[sx,h3]) (by simp[sx,h4]) (by simp[sx,hat]) fun t' g' e1 e4 e0 en eu=>?_
   simp only[f_ref02_Draft_Permutation_k1,sx,sy,SO.run,↓reduceIte,Nat.reduceEqDiff,e1,e4,e0]
   exact ⟨en,eu⟩
  ·have hat:S.permAt x.2.2 j=0:=by unfold S.permAt;rw[if_neg];simp at hb;omega
   simp only[sx,sy,SO.run,↓reduceIte,Nat.reduceEqDiff]
   refine key _ _ (by simp[sx,h1]) (by simp[sx,h3]) (by simp[sx,h4]) (by simp[sx,hat]) fun t' g' e1 e4 e0 en eu=>?_
   simp only[f_ref02_Draft_Permutation_k1,sx,sy,SO.run,↓reduceIte,Nat.reduceEqDiff,e1,e4,e0]
   exact ⟨en,eu⟩
 ·rintro t df g ⟨rfl,h1,hg,hnx,u,h3,hu⟩
  simp only[f_ref02_Draft_Permutation_k3,sx,sy,SO.run,↓reduceIte,Nat.reduceEqDiff,h3]
  exact ⟨_,hu.ints (by rw[perm_len];omega)⟩
end
end Hx
end
section
namespace Hx
open Go
noncomputable section
def S.nextFrom (cards:List Int):List Int→Nat→List Int×Bool
 | vals,0=>(vals,false)
 | vals,k+1=>if (vals[k]?.getD 0)+1<(cards[k]?.getD 0) then (vals.set k ((vals[k]?.getD 0)+1),true) else S.nextFrom cards (vals.set k 0) k
def S.next (cards vals:List Int):List Int×Bool:=S.nextFrom cards vals vals.length
theorem rnext_ok {d k k2:Nat}{g:G}{P P2:Nat→Prop}{v w:AV}{cards vals:List Int}(hd:0<d)(hv:SlR P k g.h cards v)(hw:SlR P2 k2 g.h vals w)(hl:cards.length=vals.length)(hn:vals.length≤64)
  (hb:∀x∈vals,0≤x∧x<4294967296) :
  ∃r,callV C0 d N.ref02_Next [v,w] g=.val r∧Tup2 (One (S.next cards vals).1) (One (S.next cards vals).2) NoP 0 .nil r:=by
 obtain ⟨v',e,r1⟩:=arg_sl hv d
 obtain ⟨w',e2,r2⟩:=arg_sl hw d
 rw[call_ref02_Next]
 refine iso_run eq_ref02_Next (xs:=[v',w']) (by simp only[mapO,e,e2]) (by simp[f_ref02_Next]) (snb_tup2 (m:=1) (snb_one _) (snb_one _) (by decide) (by decide)) (by decide) hd ?_
 simp only[f_ref02_Next,sx,sy,SO.run,↓reduceIte,Nat.reduceEqDiff,Nat.reduceAdd]
 refine append_own (rows:=[]) (b:=0) (new:=vals.map ci) (.inl ⟨rfl,rfl⟩) (r2 _).ints (by simp) (by simp[room];omega) fun u g1 hu n1 f1 _ _=>?_
 simp only[List.nil_append] at hu
 have ul:∀g,lenF .slice u g=.val (.int .i64 (vals.length:Int)):=fun g=>by rw[len_rows' hu.rows,List.length_map]
 simp only[sx,sy,SO.run,↓reduceIte,Nat.reduceEqDiff,Nat.reduceAdd,ul,wrap64 (show -9223372036854775808≤(vals.length:Int) - 1 by omega) (show (vals.length:Int) - 1<9223372036854775808 by omega)]
 refine wpL_down (m:=vals.length) (by omega) (fun j t df g=>df=[]∧St t [(0,v'),(6,u)]∧∃l:List Int,l.length=vals.length∧(∀x∈l,0≤x∧x<4294967296)∧S.next cards vals=S.nextFrom cards l j∧Own g 0 u 1 (l.map ci))
  ⟨rfl,by simp[sx,St],vals,rfl,hb,rfl,hu⟩ (by simp[sx]) (by decide) (by rintro j t df g v s (rfl | rfl | rfl | rfl | rfl)<;>simp[sx,St]) ?_ ?_
 ·rintro j t df g hj ⟨rfl,⟨h0,h6,-⟩,l,hll,hbl,hnx,ho⟩ h7
  obtain ⟨x,hx,-,hm⟩:=take_next (l:=l) (j:=j) (by omega)
  obtain ⟨c,hc,-,hmc⟩:=take_next (l:=cards) (j:=j) (by omega)
  have hxb:=hbl x hm
  have hlt:j<(l.map ci).length:=by rw[List.length_map];omega
  have hlc:j<cards.length:=by omega
  have hrow:(l.map ci)[j]?=some (ci x):=by rw[List.getElem?_map,hx];rfl
  simp only[sx,sy,SO.run,↓reduceIte,Nat.reduceEqDiff,h0,h6,h7,ho.rows,hlt,hrow,ci,Option.isSome_some,Option.getD_some,wrap64 (show -9223372036854775808≤x+1 by omega) (show x+1<9223372036854775808 by omega)]
  refine store_own (row:=ci x) (row':=ci (x+1)) ho hrow rfl rfl rfl fun g2 o2 n2 f2=>?_
  rw[←List.map_set] at o2
  have hlt2:j<((l.set j (x+1)).map ci).length:=by rw[List.length_map,List.length_set];omega
  have hrow2:((l.set j (x+1)).map ci)[j]?=some (ci (x+1)):=by rw[List.getElem?_map,List.getElem?_set_self (by omega)];rfl
  have hlcm:j<(cards.map ci).length:=by rw[List.length_map];exact hlc
  have hcl:(cards.map ci)[j]?=some (ci c):=by rw[List.getElem?_map,hc];rfl
  simp only[sx,sy,SO.run,↓reduceIte,Nat.reduceEqDiff,h0,h6,h7,o2.rows,hlt2,hrow2,(r1 g2.h).ints,hcl,hlcm,ci,Option.isSome_some,Option.getD_some]
  refine bifP_mk (fun hq=>?_) (fun hq=>?_)
  ·simp only[sx,sy,SO.run,↓reduceIte,Nat.reduceEqDiff,h0,h6,h7]
   have hq:x+1<c:=by simpa using hq
   have:S.next cards vals=(l.set j (x+1),true):=by rw[hnx,S.nextFrom,hx,hc];simp[hq]
   rw[this]
   exact ⟨fun _=>True,_,_,rfl,o2.ints (by simp;omega),rp_bool.2 rfl⟩
  ·simp only[sx,sy,SO.run,↓reduceIte,Nat.reduceEqDiff,h0,h6,h7,o2.rows,hlt2,Option.isSome_some,Option.getD_some]
   have hq:¬x+1<c:=by simpa using hq
   refine store_own (row:=ci (x+1)) (row':=ci 0) o2 hrow2 rfl rfl rfl fun g3 o3 n3 f3=>?_
   rw[←List.map_set,List.set_set] at o3
   simp only[sx,sy,SO.run,↓reduceIte,Nat.reduceEqDiff,h0,h6,h7,St]
   refine ⟨l.set j 0,by simp[hll],fun y hy=>?_,?_,o3⟩
   ·rcases List.mem_or_eq_of_mem_set hy with h | h
    ·exact hbl y h
    ·subst h;decide
   ·rw[hnx,S.nextFrom,hx,hc];simp[hq]
 ·rintro t df g ⟨rfl,⟨h0,h6,-⟩,l,hll,hbl,hnx,ho⟩
  simp only[f_ref02_Next_k1,sx,sy,SO.run,↓reduceIte,Nat.reduceEqDiff,h6]
  rw[hnx,S.nextFrom]
  exact ⟨fun _=>True,_,_,rfl,ho.ints (by omega),rp_bool.2 rfl⟩
end
end Hx
end
section
namespace Hx
open Go
noncomputable section
def S.rank:List Int→List Int→Int
 | _::cs,v::vs=>v*S.prod cs+S.rank cs vs
 | _,_=>0
def S.combo (cards vals:List Int):Prop:=cards.length=vals.length∧∀(i:Nat) (c v:Int),cards[i]?=some c→vals[i]?=some v→0≤v∧v<c
theorem rank_set:∀{cards l:List Int} {k:Nat} {v:Int} (x:Int),cards.length=l.length→l[k]?=some v→S.rank cards (l.set k x)=S.rank cards l+(x - v)*S.prod (cards.drop (k+1))
 | [],[],k,v,x,_,h=>by simp at h
 | [],a::l,k,v,x,hl,_=>by simp at hl
 | c::cs,[],k,v,x,hl,_=>by simp at hl
 | c::cs,a::l,0,v,x,hl,h=>by
  injection h with h;subst h
  simp only[List.set_cons_zero,S.rank,List.drop_succ_cons,List.drop_zero]
  rw[Int.sub_mul];omega
 | c::cs,a::l,k+1,v,x,hl,h=>by
  simp only[List.set_cons_succ,S.rank,List.drop_succ_cons]
  rw[rank_set (cards:=cs) x (by simpa using hl) (by simpa using h),Int.add_assoc]
theorem combo_set {cards l:List Int}(h:S.combo cards l){k:Nat}{c x:Int}(hc:cards[k]?=some c)(h0:0≤x)(h1:x<c):S.combo cards (l.set k x):=by
 refine ⟨by simpa using h.1,fun i c' v hi hv=>?_⟩
 by_cases e:k=i
 ·subst e
  have hk:k<l.length:=by have:=(List.getElem?_eq_some_iff.1 hc).1;have:=h.1;omega
  rw[List.getElem?_set_self hk] at hv
  injection hv with hv;subst hv
  rw[hc] at hi;injection hi with hi;subst hi
  exact ⟨h0,h1⟩
 ·rw[List.getElem?_set_ne e] at hv
  exact h.2 i c' v hi hv
theorem rank_bound:∀{cards l:List Int},S.combo cards l→0≤S.rank cards l∧S.rank cards l<S.prod cards
 | [],[],_=>by simp[S.rank,S.prod]
 | [],a::l,h=>by have:=h.1;simp at this
 | c::cs,[],h=>by have:=h.1;simp at this
 | c::cs,a::l,h=>by
  have ih:=rank_bound (cards:=cs) (l:=l) ⟨by have:=h.1;simpa using this,fun i c v hc hv=>h.2 (i+1) c v (by simpa using hc) (by simpa using hv)⟩
  have ha:=h.2 0 c a rfl rfl
  simp only[S.rank,prod_cons]
  have m1:=Int.mul_nonneg ha.1 (show 0≤S.prod cs by omega)
  have m2:=Int.mul_le_mul_of_nonneg_right (show a+1≤c by omega) (show 0≤S.prod cs by omega)
  rw[Int.add_mul,Int.one_mul] at m2
  omega
theorem nextFrom_rank {cards:List Int}:∀{k:Nat} {l:List Int},S.combo cards l→k≤l.length→(S.nextFrom cards l k).2=true→S.rank cards (S.nextFrom cards l k).1=S.rank cards l+S.prod (cards.drop k)∧S.combo cards (S.nextFrom cards l k).1
 | 0,l,_,_,h=>by simp[S.nextFrom] at h
 | k+1,l,hco,hk,h=>by
  obtain ⟨v,hv⟩:∃v,l[k]?=some v:=⟨_,List.getElem?_eq_getElem (by omega)⟩
  obtain ⟨c,hc⟩:∃c,cards[k]?=some c:=⟨_,List.getElem?_eq_getElem (by have:=hco.1;omega)⟩
  have hb:=hco.2 k c v hc hv
  simp only[S.nextFrom,hv,hc,Option.getD_some] at h ⊢
  split
  ·rename_i hq
   refine ⟨?_,combo_set hco hc (by omega) hq⟩
   rw[rank_set (v+1) hco.1 hv,show v+1 - v=1 by omega,Int.one_mul]
  ·rename_i hq
   rw[if_neg hq] at h
   have hco2:=combo_set hco hc (show (0:Int)≤0 by omega) (show (0:Int)<c by omega)
   obtain ⟨r1,r2⟩:=nextFrom_rank hco2 (by simp;omega) h
   refine ⟨?_,r2⟩
   rw[r1,rank_set 0 hco.1 hv]
   have hd:cards.drop k=c::cards.drop (k+1):=by
    obtain ⟨hk2,e⟩:=List.getElem?_eq_some_iff.1 hc
    rw[←e];exact List.drop_eq_getElem_cons hk2
   have e:c=v+1:=by omega
   rw[hd,prod_cons,e,Int.add_mul,Int.one_mul,Int.sub_mul,Int.zero_mul]
   omega
theorem next_rank {cards l:List Int}(h:S.combo cards l)(hn:(S.next cards l).2=true):S.rank cards (S.next cards l).1=S.rank cards l+1∧S.combo cards (S.next cards l).1:=by
 obtain ⟨r1,r2⟩:=nextFrom_rank h (Nat.le_refl _) hn
 refine ⟨?_,r2⟩
 show S.rank cards (S.nextFrom cards l l.length).1=_
 rw[r1,←h.1,List.drop_length];rfl
end
end Hx
end
section
namespace Hx
open Go
noncomputable section
def S.allF (cards:List Int):Nat→List Int→List (List Int)
 | 0,_=>[]
 | f+1,v=>v::(if (S.next cards v).2 then S.allF cards f (S.next cards v).1 else [])
def S.all (cards:List Int):List (List Int):=S.allF cards (S.prod cards).toNat (List.replicate cards.length 0)
theorem combo_zero {cards:List Int}(h:∀c∈cards,1≤c):S.combo cards (List.replicate cards.length 0):=by
 refine ⟨by simp,fun i c v hc hv=>?_⟩
 rw[List.getElem?_replicate] at hv
 split at hv
 ·injection hv with hv;subst hv
  have:=h c (List.mem_of_getElem? hc)
  omega
 ·cases hv
theorem allF_combo {cards:List Int}:∀{f:Nat} {v:List Int},S.combo cards v→∀x∈S.allF cards f v,S.combo cards x
 | 0,v,h,x,hx=>by simp[S.allF] at hx
 | f+1,v,h,x,hx=>by
  simp only[S.allF,List.mem_cons] at hx
  rcases hx with rfl | hx
  ·exact h
  ·split at hx
   ·rename_i hn;exact allF_combo (next_rank h hn).2 x hx
   ·simp at hx
theorem all_combo {cards:List Int}(h:∀c∈cards,1≤c):∀x∈S.all cards,S.combo cards x:=allF_combo (combo_zero h)
theorem rank_zero:∀{cards:List Int},S.rank cards (List.replicate cards.length 0)=0
 | []=>rfl
 | c::cs=>by simp only[List.length_cons,List.replicate_succ,S.rank,Int.zero_mul,Int.zero_add,rank_zero]
theorem all_ok {d k:Nat}{g:G}{P:Nat→Prop}{v:AV}{cards:List Int}(hd:0<d)(hv:SlR P k g.h cards v)(hc:∀c∈cards,1≤c∧c<4294967296)(hn:cards.length≤64)(hp:S.prod cards<1048576) :
  ∃r,callV C0 d N.ref02_All [v] g=.val r∧One (S.all cards) NoP 0 .nil r:=by
 obtain ⟨v',e,r1⟩:=arg_sl hv d
 rw[call_ref02_All]
 refine iso_run eq_ref02_All (xs:=[v']) (by simp only[mapO,e]) (by simp[f_ref02_All]) (snb_one _) (by decide) hd ?_
 simp only[f_ref02_All,sx,sy,SO.run,↓reduceIte,Nat.reduceEqDiff,Nat.reduceAdd,(r1 .nil).len]
 refine mks_own (b:=0) (n:=cards.length) (by simp[room];omega) (by simp[room];omega) (by simp) fun w g1 hw n1 fr1 v1=>?_
 simp only[sx,sy,SO.run,↓reduceIte,Nat.reduceEqDiff]
 refine wpL_mk (fun n t df g=>df=[]∧tat t 0=v'∧∃u done,tat t 3=u∧OwnT g 0 0 u done ∧
   ((tat t 5=.bool false∧n=0∧S.all cards=done∧(done.length:Int)≤S.prod cards) ∨
    (tat t 5=.bool true∧∃(vals:List Int) (y:AV),tat t 4=y∧SlR (Els g 0 u) 0 g.h vals y∧S.combo cards vals∧n=(S.prod cards - S.rank cards vals).toNat∧(done.length:Int)=S.rank cards vals∧S.all cards=done++S.allF cards n vals)))
  (S.prod cards).toNat ⟨rfl,by simp[sx],.nils,[],by simp[sx],.nils,.inr ⟨by simp[sx],List.replicate cards.length 0,w,by simp[sx],?_,combo_zero (fun c h=>(hc c h).1),by rw[rank_zero];simp,by rw[rank_zero];rfl,rfl⟩⟩ ?_
 ·refine Own.sl (α:=Int) hw (by simp;omega) ?_ fun i hi=>⟨Nat.zero_le _,(hw.lt hi).2,by simp[vid]⟩
  have:=All2.repl (R:=Rp.rp (Els g1 0 .nils) 0 g1.h) (a:=(0:Int)) (b:=[AV.int .i64 0]) (rp_int.2 rfl) cards.length
  exact this
 ·rintro n t df g ⟨rfl,h0,u,done,h3,hu,⟨h5,rfl,hall,hdl⟩ | ⟨h5,vals,y,h4,hy,hco,hnn,hdl,hall⟩⟩
  ·simp only[f_ref02_All_b0,sx,sy,SO.run,↓reduceIte,Nat.reduceEqDiff,h5]
   simp only[f_ref02_All_k1,sx,sy,SO.run,↓reduceIte,Nat.reduceEqDiff,h3]
   rw[hall]
   exact ⟨_,u,rfl,hu.sl (by omega)⟩
  ·simp only[f_ref02_All_b0,sx,sy,SO.run,↓reduceIte,Nat.reduceEqDiff,h0,h3,h4,h5]
   have yc:y.cells=[y]∧y.isTup=false:=by
    have:=hy.2;unfold SlV at this
    split at this<;>first | exact ⟨rfl,rfl⟩ | exact this.elim
   have hrb:=rank_bound hco
   have hlen:vals.length=cards.length:=hco.1.symm
   rw[bsl_one 1 [.nils] y g (by rw[yc.1];rfl) yc.2,yc.1]
   simp only[sx,sy,SO.run,↓reduceIte,Nat.reduceEqDiff]
   have hy1:Rp.rp (Els (g.new (.cells 1 [[y]] 0 false false)) 0 u) 0 (g.new (.cells 1 [[y]] 0 false false)).h vals [y] :=
    Rp.mono (show Rp.rp (Els g 0 u) 0 g.h vals [y] from ⟨y,rfl,hy⟩) (fun i hi=>⟨⟨hi.1,by have:=hi.2.1;simp;omega,hi.2.2⟩,by have:=hi.2.1;rw[G.new_h,get_put_ne _ _ _ (by omega)]⟩) (Nat.le_refl _)
   refine append_ownT (α:=List Int) (b:=0) (k:=0) (l:=done) (y:=vals) (cs:=[y]) (hu.step (Fr.new _ _)) (by simp[sy,H.get_put,Rp.sz]) hy1 (Nat.zero_le _) (by simp[room];omega) fun v2 g2 hv2 n2 f2 vid2 lg2=>?_
   simp only[sx,sy,SO.run,↓reduceIte,Nat.reduceEqDiff,h0,h4]
   have hy2:Rp.rp (fun _=>True) 0 g2.h vals [y] :=
    Rp.mono hy1 (fun i hi=>⟨trivial,by rw[f2 i hi.2.1 hi.2.2]⟩) (Nat.le_refl _)
   obtain ⟨y',hyy,hy2⟩:=hy2
   injection hyy with hyy;subst hyy
   refine sat_ex (rnext_ok (Nat.succ_pos d) (r1 g2.h) hy2 (by omega) (by omega) fun x hx=>?_) fun r hr=>?_
   ·obtain ⟨i,hi,e⟩:=List.mem_iff_getElem.1 hx
    obtain ⟨c,hcc⟩:∃c,cards[i]?=some c:=⟨_,List.getElem?_eq_getElem (by omega)⟩
    have:=hco.2 i c x hcc (by rw[List.getElem?_eq_getElem hi,e])
    have:=hc c (List.mem_of_getElem? hcc)
    omega
   ·obtain ⟨ra,rb,rfl,hra,hrb2⟩:=hr
    obtain ⟨rw',e',hra⟩:=hra
    injection e' with e';subst e'
    have e'':=rp_bool.1 hrb2
    injection e'' with e''
    subst e''
    simp only[sx,sy,SO.run,↓reduceIte,Nat.reduceEqDiff]
    obtain ⟨f,hf⟩:∃f,n=f+1:=⟨n - 1,by omega⟩
    rw[hf,S.allF] at hall
    cases hnx:(S.next cards vals).2 with
    | false =>
     rw[hnx,if_neg (by decide)] at hall
     refine ⟨0,by omega,h0,v2,done++[vals],rfl,hv2,.inl ⟨rfl,rfl,hall,by simp;omega⟩⟩
    | true =>
     rw[hnx,if_pos rfl] at hall
     obtain ⟨k1,k2⟩:=next_rank hco hnx
     refine ⟨f,by omega,h0,v2,done++[vals],rfl,hv2,.inr ⟨rfl,_,_,rfl,?_,k2,by omega,by simp;omega,by rw[hall,List.append_assoc];rfl⟩⟩
     have:=Rp.mono (P':=Els g2 0 v2) (h':=g2.h) (show Rp.rp NoP 0 .nil (S.next cards vals).1 [ra] from ⟨ra,rfl,hra⟩) (fun i hi=>hi.elim) (Nat.le_refl 0)
     obtain ⟨z,ez,q⟩:=this
     injection ez with ez;subst ez;exact q
end
end Hx
end
section
namespace Hx
open Go
noncomputable section
theorem listed_ok {d:Nat}{g:G}{l:AV}{us:List UInt8}{K:AV→G→Prop}{D:ADf→Prop}(hl:SlR NoP 0 .nil us l)
  (kk:∀g',g'.h.get g.nx=.cells 2 [[l,.int .i64 0]] 0 false false→g'.nx=g.nx+1→FrW g.nx g g'→K (.hptr g.nx 0 0 0) g') :
  (callV C0 d N.ref33_listed [l] g).sat K g D:=by
 have lc:l.cells=[l]∧l.isTup=false:=by
  have:=hl.2;unfold SlV at this
  split at this<;>first | exact ⟨rfl,rfl⟩ | exact this.elim
 rw[call_ref33_listed]
 refine dir_run eq_ref33_listed (by simp[f_ref33_listed]) ?_
 simp only[f_ref33_listed,sx,sy,SO.run,↓reduceIte,Nat.reduceEqDiff,Nat.reduceAdd,Nat.reduceLeDiff,lc.1,lc.2]
 refine kk _ ?_ ?_ ?_
 ·simp[H.get_put]
 ·simp
 ·exact FrW.new _ (Nat.le_refl _)
end
end Hx
end
section
namespace Hx
open Go
noncomputable section
abbrev Piece:Type:=UInt8×UInt8×UInt8×List UInt8
abbrev DraftM:Type:=UInt8×List Piece×List (UInt8×UInt8)×List UInt8×List UInt8
theorem rp_piece {P:Nat→Prop}{k:Nat}{h:H}{x:Piece}{cs:List AV}:Rp.rp P k h x cs↔∃a,cs=[u8v x.1,u8v x.2.1,u8v x.2.2.1,a]∧SlR P k h x.2.2.2 a:=by
 constructor
 ·rintro ⟨c1,c2,rfl,h1,c3,c4,rfl,h2,c5,c6,rfl,h3,⟨a,rfl,h4⟩⟩
  rw[rp_u8.1 h1,rp_u8.1 h2,rp_u8.1 h3];exact ⟨a,rfl,h4⟩
 ·rintro ⟨a,rfl,h4⟩
  exact ⟨[_],[_,_,a],rfl,rp_u8.2 rfl,[_],[_,a],rfl,rp_u8.2 rfl,[_],[a],rfl,rp_u8.2 rfl,⟨a,rfl,h4⟩⟩
theorem rp_two {P:Nat→Prop}{k:Nat}{h:H}{x:UInt8×UInt8}{cs:List AV}:Rp.rp P k h x cs↔cs=[u8v x.1,u8v x.2]:=by
 constructor
 ·rintro ⟨c1,c2,rfl,h1,h2⟩
  rw[rp_u8.1 h1,rp_u8.1 h2];rfl
 ·rintro rfl
  exact ⟨[_],[_],rfl,rp_u8.2 rfl,rp_u8.2 rfl⟩
theorem rp_draftM {P:Nat→Prop}{k:Nat}{h:H}{x:DraftM}{cs:List AV}:Rp.rp P k h x cs↔∃a b c e,cs=[u8v x.1,a,b,c,e]∧SlR P k h x.2.1 a∧SlR P k h x.2.2.1 b∧SlR P k h x.2.2.2.1 c∧SlR P k h x.2.2.2.2 e:=by
 constructor
 ·rintro ⟨c1,c2,rfl,h1,c3,c4,rfl,⟨a,rfl,ha⟩,c5,c6,rfl,⟨b,rfl,hb⟩,c7,c8,rfl,⟨c,rfl,hc⟩,⟨e,rfl,he⟩⟩
  rw[rp_u8.1 h1];exact ⟨a,b,c,e,rfl,ha,hb,hc,he⟩
 ·rintro ⟨a,b,c,e,rfl,ha,hb,hc,he⟩
  exact ⟨[_],[a,b,c,e],rfl,rp_u8.2 rfl,[a],[b,c,e],rfl,⟨a,rfl,ha⟩,[b],[c,e],rfl,⟨b,rfl,hb⟩,[c],[e],rfl,⟨c,rfl,hc⟩,⟨e,rfl,he⟩⟩
end
end Hx
end
section
namespace Hx
open Go
noncomputable section
theorem I_code_ok {C:Cfg}{nt d:Nat}{rd:Option Nat}{c:Code}{t:T}{df:List ADf}{g:G}{Q:QT}(h:wp C d rd (nCode C nt c) Q t df g):((I C).code nt d rd c t df g).sat Q:=by
 rw[I_code];exact wp_ok _ _ _ _ _ h
theorem round_ok {C:Cfg}{d id nt:Nat}{t:T}{ps:List Nat}{assign body:Code}{a b:SC}{dfr:Nat}{args:List AV}{g:G}{K:AV→G→Prop}{D:ADf→Prop}{t':T}
  (hg:g.h.get id=.loop nt t ps assign body dfr .ready none) (ha:nCode C nt assign=a) (hb:nCode C nt body=b) (hp:setParams t nt ps args=some t')
  (h:wp C d (some id) a (fun e t1 df g1=>e=.norm∧df=[]∧g1=g ∧
   wp C d (some id) b (fun e _ df g2=>e=.norm∧df=[]∧g2.h.get id=.loop nt t ps assign body dfr .busy none∧K (.bool true) (g2.put id (.loop nt t ps assign body dfr .ready none))) t1 [] (g.put id (.loop nt t ps assign body dfr .busy none))) t' [] g) :
  (roundA (I C) d id args g).sat K g D:=by
 subst ha;subst hb
 unfold roundA
 rw[show g.get id=_ from hg]
 dsimp only
 rw[hp]
 dsimp only
 have h1:=I_code_ok h
 cases hc:(I C).code nt d (some id) assign t' [] g with
 | fail=>rw[hc] at h1;exact h1.elim
 | ok e t1 df g1 =>
  rw[hc] at h1
  obtain ⟨rfl,rfl,rfl,h2⟩:=h1
  dsimp only
  rw[show g1.get id=_ from hg]
  dsimp only
  have h3:=I_code_ok h2
  cases hc2:(I C).code nt d (some id) body t1 [] (g1.put id (.loop nt t ps assign body dfr .busy none)) with
  | fail=>rw[hc2] at h3;exact h3.elim
  | ok e t2 df2 g2 =>
   rw[hc2] at h3
   obtain ⟨rfl,rfl,h4,h5⟩:=h3
   dsimp only
   rw[show g2.get id=_ from h4]
   exact h5
theorem wp_rng_ok {C:Cfg}{d nt:Nat}{f:Od}{ps:List Nat}{a b:SC}{Q:QT}{t:T}{df:List ADf}{g:G}{fn:Nat}{first cap:List AV}{s:SF}(hv:f.get t=.clo fn first cap)(he:C.ext fn=none)(hs:nFn C fn=some s)
  (hl:(first++(.yld (g.nx+1)::cap)).length≤s.nt)
  (h:∀assign body,nCode C nt assign=a→nCode C nt body=b →
   wp C d none s.code (fnQ C d s.res fun _ g2=>∃nt' t' ps' as' bd' dfr',g2.h.get (g.nx+1)=.loop nt' t' ps' as' bd' dfr' .ready none ∧
    Q .norm t (.mark g.nx::df) (g2.put (g.nx+1) (.loop nt' t' ps' as' bd' dfr' .exhausted none)))
    (ofArgs 0 (first++(.yld (g.nx+1)::cap)) .nil) [] ((g.new (.dfr true)).new (.loop nt t ps assign body g.nx .ready none))) :
  wp C d none (.rng nt f ps a b) Q t df g:=by
 intro assign body ha hb
 have h:=call_ok hs hl (h assign body ha hb)
 show (rangeCall C (I C) nt d none (f.get t) ps assign body t (.mark g.nx::df) g.nx (g.new (.dfr true))).sat Q
 rw[hv]
 unfold rangeCall
 dsimp only
 rw[he]
 show (match (I C).call d fn (first++(AV.yld (g.nx+1)::cap)) ((g.new (.dfr true)).new (.loop nt t ps assign body g.nx .ready none)) with
  | .ok _ g2=>rangeEnd (I C) nt d none (g.nx+1) t (.mark g.nx::df) g2
  | .fail=>.fail).sat Q
 cases hc:(I C).call d fn (first++(AV.yld (g.nx+1)::cap)) ((g.new (.dfr true)).new (.loop nt t ps assign body g.nx .ready none)) with
 | fail=>rw[hc] at h;exact h.elim
 | ok v g2 =>
  rw[hc] at h
  obtain ⟨nt',t',ps',as',bd',dfr',h1,h2⟩:=h
  show (rangeEnd (I C) nt d none (g.nx+1) t (.mark g.nx::df) g2).sat Q
  unfold rangeEnd
  rw[show g2.get (g.nx+1)=_ from h1]
  exact h2
end
end Hx
end
section
namespace Hx
open Go
noncomputable section
def S.quot (l:List Int)(h:Int):Int:=l.foldr (fun c q=>q / c) h
def S.digit (l:List Int)(h:Int)(i:Nat):Int:=S.quot (l.drop (i+1)) h % l[i]?.getD 1
def S.values (l:List Int)(h:Int):List Int:=(List.range l.length).map (S.digit l h)
theorem quot_nn {l:List Int}{h:Int}(hl:∀c∈l,0<c)(hh:0≤h):0≤S.quot l h∧S.quot l h≤h:=by
 induction l with
 | nil=>exact ⟨hh,Int.le_refl _⟩
 | cons c l ih =>
  obtain ⟨a,b⟩:=ih fun x hx=>hl x (by simp[hx])
  have hc:=hl c (by simp)
  show 0≤S.quot l h / c∧S.quot l h / c≤h
  exact ⟨Int.ediv_nonneg a (by omega),Int.le_trans (Int.ediv_le_self _ a) b⟩
end
end Hx
end
section
namespace Hx
open Go
noncomputable section
def S.idx:List Int→List Int→Int
 | _::cs,v::vs=>v*S.prod cs+S.idx cs vs
 | _,_=>0
def InC (cards vals:List Int):Prop:=All2 (fun c v=>(0:Int)≤v∧v<c) cards vals
theorem idx_bound:∀{cards vals:List Int},(∀c∈cards,1≤c∧c≤4)→InC cards vals→0≤S.idx cards vals∧S.idx cards vals<S.prod cards
 | [],[],_,_=>⟨Int.le_refl _,by decide⟩
 | c::cs,v::vs,hc,h=>by
  obtain ⟨a,b⟩:=idx_bound (cards:=cs) (vals:=vs) (fun x hx=>hc x (by simp[hx])) h.2
  obtain ⟨p1,-⟩:=prod_bound (l:=cs) fun x hx=>hc x (by simp[hx])
  have hv:=h.1
  rw[prod_cons]
  show 0≤v*S.prod cs+S.idx cs vs∧v*S.prod cs+S.idx cs vs<c*S.prod cs
  have h1:0≤v*S.prod cs:=Int.mul_nonneg hv.1 (by omega)
  have h2:(v+1)*S.prod cs≤c*S.prod cs:=Int.mul_le_mul_of_nonneg_right (by omega) (by omega)
  rw[Int.add_mul,Int.one_mul] at h2
  omega
 | [],_::_,_,h=>h.elim
 | _::_,[],_,h=>h.elim
theorem InC.drop:∀{cards vals:List Int} (j:Nat),InC cards vals→InC (cards.drop j) (vals.drop j)
 | _,_,0,h=>h
 | [],[],j+1,_=>trivial
 | _::_,_::_,j+1,h=>InC.drop j h.2
 | [],_::_,_,h=>h.elim
 | _::_,[],_,h=>h.elim
theorem InC.len {cards vals:List Int}(h:InC cards vals):vals.length=cards.length:=(All2.len h).symm
end
end Hx
end
section
namespace Hx
open Go
noncomputable section
def S.lens (m:Causal):List Int:=m.roots.map fun r=>(r.length:Int)
def S.wAt (m:Causal)(h:Int)(r:Nat):Int:=(m.roots[r]?.getD [])[(S.digit (S.lens m) h r).toNat]?.getD 0
def S.weight (m:Causal)(h:Int):Int:=S.prod ((List.range m.roots.length).map (S.wAt m h))
theorem prod_bound12:∀{l:List Int},(∀x∈l,0≤x∧x≤12)→0≤S.prod l∧S.prod l≤12 ^ l.length
 | [],_=>⟨by decide,by decide⟩
 | a::l,h=>by
  obtain ⟨h1,h2⟩:=prod_bound12 (l:=l) fun x hx=>h x (by simp[hx])
  obtain ⟨h3,h4⟩:=h a (by simp)
  rw[prod_cons,List.length_cons,Int.pow_succ,Int.mul_comm (12 ^ l.length)]
  exact ⟨Int.mul_nonneg h3 h1,Int.mul_le_mul h4 h2 h1 (by decide)⟩
theorem digit_bound {l:List Int}(hl:∀c∈l,0<c){h:Int}(hh:0≤h){i:Nat}(hi:i<l.length):0≤S.digit l h i∧S.digit l h i<l[i]:=by
 have hc:=hl _ (List.getElem_mem hi)
 unfold S.digit
 rw[List.getElem?_eq_getElem hi]
 exact ⟨Int.emod_nonneg _ (by show l[i]≠0;omega),Int.emod_lt_of_pos _ hc⟩
theorem lens_bound {m:Causal}(hs:S.Small m):∀c∈S.lens m,1≤c∧c≤4:=fun c hc=>by
 obtain ⟨x,hx,rfl⟩:=List.mem_map.1 hc;have:=hs.len x hx;omega
theorem lens_len (m:Causal):(S.lens m).length=m.roots.length:=by simp[S.lens]
theorem wAt_bound {m:Causal}(hck:S.check m=true){h:Int}(hh:0≤h){r:Nat}(hr:r<m.roots.length):0≤S.wAt m h r∧S.wAt m h r≤12:=by
 obtain ⟨hs,hgr,hn1,hro,hno⟩:=check_facts hck
 simp only[S.rootsOk,Bool.and_eq_true] at hro
 have hx:=List.all_eq_true.1 hro.1 m.roots[r] (List.getElem_mem hr)
 simp only[S.rootOk,Bool.and_eq_true] at hx
 have hw:=hx.1.2
 have hb:=digit_bound (l:=S.lens m) (fun c hc=>by have:=lens_bound hs c hc;omega) hh (i:=r) (by rw[lens_len];exact hr)
 simp only[S.lens,List.getElem_map] at hb
 obtain ⟨n,hn⟩:=Int.eq_ofNat_of_zero_le hb.1
 have hn':S.digit (S.lens m) h r=(n:Int):=hn
 have hl:n<m.roots[r].length:=by unfold S.lens at hn';omega
 unfold S.wAt
 rw[hn',List.getElem?_eq_getElem hr,Option.getD_some,Int.toNat_natCast,List.getElem?_eq_getElem hl,Option.getD_some]
 have:=List.all_eq_true.1 hw _ (List.getElem_mem hl)
 simp at this
 omega
theorem pow12 {n:Nat}(h:n≤8):(12:Int) ^ n≤429981696:=by
 match n,h with
 | 0,_=>decide
 | 1,_=>decide
 | 2,_=>decide
 | 3,_=>decide
 | 4,_=>decide
 | 5,_=>decide
 | 6,_=>decide
 | 7,_=>decide
 | 8,_=>decide
 | n+9,h=>omega
theorem wprod_bound {m:Causal}(hck:S.check m=true){h:Int}(hh:0≤h){l:List Nat}(hl:∀r∈l,r<m.roots.length)(hn:l.length≤8):0≤S.prod (l.map (S.wAt m h))∧S.prod (l.map (S.wAt m h))≤429981696:=by
 have:=prod_bound12 (l:=l.map (S.wAt m h)) fun x hx=>by obtain ⟨r,hr,rfl⟩:=List.mem_map.1 hx;exact wAt_bound hck hh (hl r hr)
 rw[List.length_map] at this
 exact ⟨this.1,Int.le_trans this.2 (pow12 hn)⟩
end
end Hx
end
section
namespace Hx
open Go
theorem check_pl {m:Causal}(hck:S.check m=true){x:Mech}(hx:x∈m.nodes):S.places x.frm m.nodes.length=true∧S.places x.noise m.roots.length=true∧(x.out.length:Int)=S.prod (S.sizes m x)∧(∀y∈x.out,0≤y∧y<x.card):=by
 have hr:S.right m=true:=by rw[←check_right];exact hck
 simp only[S.right,Bool.and_eq_true] at hr
 have h1:=List.all_eq_true.1 hr.1.1.1.1.2 x hx
 simp only[S.nodeR,Bool.and_eq_true] at h1
 have h2:=List.all_eq_true.1 hr.2 x hx
 simp only[S.outR,Bool.and_eq_true,decide_eq_true_eq] at h2
 refine ⟨h1.1.2,h1.2,h2.1,fun y hy=>?_⟩
 have:=List.all_eq_true.1 h2.2 y hy
 simp at this
 omega
def Rk (p:List Nat)(s:Nat)(r:Nat→Nat)(B:Nat):Prop:=∀v,s.testBit v=true→r v<B∧∀q,(Par p v).testBit q=true→s.testBit q=true∧r q<r v
theorem rk_round {p:List Nat}(hn:p.length≤5){s:Nat}(h:∃r B,Rk p s r B):∀j,j≤p.length→∃r B,Rk p (S.roundA p s j) r B
 | 0,_=>h
 | j+1,hj=>by
  obtain ⟨r,B,h⟩:=rk_round hn h j (by omega)
  rw[roundA_succ]
  split
  ·rename_i hd
   have hsub:=diff_zero.1 hd
   generalize S.roundA p s j=s at h hsub
   by_cases hb:s.testBit j=true
   ·refine ⟨r,B,fun v hv=>?_⟩
    have key:∀u,(s ||| S.bit j).testBit u=s.testBit u:=fun u=>by
     rw[or_tb,bit_tb (by omega)]
     by_cases e:j=u
     ·subst e;rw[hb];rfl
     ·simp[e]
    rw[key] at hv
    obtain ⟨h1,h2⟩:=h v hv
    exact ⟨h1,fun q hq=>by rw[key];exact h2 q hq⟩
   ·refine ⟨fun x=>if x=j then B else r x,B+1,fun v hv=>?_⟩
    have key:∀u,(s ||| S.bit j).testBit u=(s.testBit u || decide (j=u)):=fun u=>by rw[or_tb,bit_tb (by omega)]
    rw[key,Bool.or_eq_true,decide_eq_true_eq] at hv
    have keep:∀q,s.testBit q=true→q≠j:=fun q hq e=>hb (e ▸ hq)
    rcases hv with hv | rfl
    ·obtain ⟨h1,h2⟩:=h v hv
     dsimp only
     rw[if_neg (keep v hv)]
     refine ⟨by omega,fun q hq=>?_⟩
     obtain ⟨h3,h4⟩:=h2 q hq
     rw[key,h3,if_neg (keep q h3)]
     exact ⟨rfl,h4⟩
    ·dsimp only
     rw[if_pos rfl]
     refine ⟨by omega,fun q hq=>?_⟩
     have h3:=hsub q hq
     rw[key,h3,if_neg (keep q h3)]
     exact ⟨rfl,(h q h3).1⟩
  ·exact ⟨r,B,h⟩
theorem rk_placed {p:List Nat}(hn:p.length≤5):∀j,∃r B,Rk p (S.placed p j) r B
 | 0=>⟨fun _=>0,0,fun v hv=>by simp[S.placed] at hv⟩
 | j+1=>by rw[placed_succ];exact rk_round hn (rk_placed hn j) _ (Nat.le_refl _)
theorem ranks {m:Causal}(hck:S.check m=true):∃r:Nat→Nat,∀(i:Nat) (x:Mech),m.nodes[i]?=some x→∀q∈x.frm,r q.toNat<r i:=by
 have hs:=(check_facts hck).1
 have hac:S.tacyc m=true:=by
  simp only[S.check,Bool.and_eq_true] at hck;exact hck.2
 have hpl:(S.pars m).length=m.nodes.length:=by simp[S.pars]
 have h5:=hs.nodes
 obtain ⟨r,B,h⟩:=rk_placed (p:=S.pars m) (by omega) (S.pars m).length
 simp only[S.tacyc,decide_eq_true_eq] at hac
 rw[←hpl] at hac
 rw[hac] at h
 refine ⟨r,fun i x hx q hq=>?_⟩
 have hi:=(List.getElem?_eq_some_iff.1 hx).1
 have hpm:=check_pl hck (List.mem_of_getElem? hx)
 have hq':=places_mem hpm.1 q hq
 refine ((h i (full_tb (by omega))).2 q.toNat ?_).2
 rw[show Par (S.pars m) i=S.mask x.frm by simp[Par,S.pars,hx],mask_tb (n:=m.nodes.length) (by omega) (places_mem hpm.1),List.contains_iff_mem,Int.toNat_of_nonneg hq'.1]
 exact hq
def S.inVals (x:Mech)(roots:List Int)(V:Nat→Int):List Int:=(x.frm.map fun q=>V q.toNat)++(x.noise.map fun r=>roots[r.toNat]?.getD 0)
def S.eqn (m:Causal)(roots act:List Int)(V:Nat→Int)(i:Nat)(x:Mech):Int:=if 0≤act[i]?.getD 0 then act[i]?.getD 0 else x.out[(S.idx (S.sizes m x) (S.inVals x roots V)).toNat]?.getD 0
def Sol (m:Causal)(roots act:List Int)(V:Nat→Int):Prop:=∀(i:Nat) (x:Mech),m.nodes[i]?=some x→V i=S.eqn m roots act V i x
def valF (m:Causal)(roots act:List Int):Nat→Nat→Int
 | 0,_=>0
 | f+1,i=>match m.nodes[i]? with | some x=>S.eqn m roots act (valF m roots act f) i x | none=>0
theorem eqn_congr {m:Causal}{roots act:List Int}{V W:Nat→Int}{i:Nat}{x:Mech}(h:∀q∈x.frm,V q.toNat=W q.toNat):S.eqn m roots act V i x=S.eqn m roots act W i x:=by
 have:S.inVals x roots V=S.inVals x roots W:=by
  unfold S.inVals
  rw[List.map_congr_left h]
 unfold S.eqn
 rw[this]
theorem valF_stable {m:Causal}(hck:S.check m=true){roots act:List Int}{r:Nat→Nat}(hr:∀(i:Nat) (x:Mech),m.nodes[i]?=some x→∀q∈x.frm,r q.toNat<r i) :
  ∀n i f f',r i≤n→r i<f→r i<f'→valF m roots act f i=valF m roots act f' i:=by
 intro n
 induction n with
 | zero =>
  intro i f f' h0 h1 h2
  obtain ⟨f,rfl⟩:∃q,f=q+1:=⟨f - 1,by omega⟩
  obtain ⟨f',rfl⟩:∃q,f'=q+1:=⟨f' - 1,by omega⟩
  unfold valF
  split
  ·rename_i x hx
   exact eqn_congr fun q hq=>by have:=hr i x hx q hq;omega
  ·rfl
 | succ n ih =>
  intro i f f' h0 h1 h2
  obtain ⟨f,rfl⟩:∃q,f=q+1:=⟨f - 1,by omega⟩
  obtain ⟨f',rfl⟩:∃q,f'=q+1:=⟨f' - 1,by omega⟩
  unfold valF
  split
  ·rename_i x hx
   exact eqn_congr fun q hq=>by have:=hr i x hx q hq;exact ih _ _ _ (by omega) (by omega) (by omega)
  ·rfl
theorem sol_ex {m:Causal}(hck:S.check m=true)(roots act:List Int):∃V,Sol m roots act V:=by
 obtain ⟨r,hr⟩:=ranks hck
 refine ⟨fun i=>valF m roots act (r i+1) i,fun i x hx=>?_⟩
 show valF m roots act (r i+1) i=_
 rw[valF,hx]
 exact eqn_congr fun q hq=>valF_stable hck hr (r q.toNat) _ _ _ (Nat.le_refl _) (hr i x hx q hq) (Nat.lt_succ_self _)
noncomputable def S.V (m:Causal)(roots act:List Int):Nat→Int:=Classical.epsilon (Sol m roots act)
theorem sol_V {m:Causal}(hck:S.check m=true)(roots act:List Int):Sol m roots act (S.V m roots act):=Classical.epsilon_spec (sol_ex hck roots act)
noncomputable def S.run (m:Causal)(roots act:List Int):List Int:=(List.range m.nodes.length).map (S.V m roots act)
theorem act_at {m:Causal}{l:List Int}(h:S.act m l=true):l.length=m.nodes.length∧∀(i:Nat) (x:Mech),m.nodes[i]?=some x→-1≤l[i]?.getD 0∧l[i]?.getD 0<x.card:=by
 simp only[S.act,Bool.and_eq_true,decide_eq_true_eq] at h
 refine ⟨h.1,fun i x hx=>?_⟩
 have hi:=(List.getElem?_eq_some_iff.1 hx).1
 have:=List.all_eq_true.1 h.2 i (List.mem_range.2 (by omega))
 simp only[S.actAt,Bool.and_eq_true,decide_eq_true_eq] at this
 have hc:S.cardAt m (i:Int)=x.card:=by simp[S.cardAt,hx]
 rw[hc] at this
 omega
theorem inC_of {cards vals:List Int}(hl:cards.length=vals.length)(h:∀(i:Nat) c v,cards[i]?=some c→vals[i]?=some v→0≤v∧v<c):InC cards vals:=by
 induction cards generalizing vals with
 | nil=>cases vals with
  | nil=>trivial
  | cons v vals=>simp at hl
 | cons c cards ih=>cases vals with
  | nil=>simp at hl
  | cons v vals=>exact ⟨h 0 c v rfl rfl,ih (by simpa using hl) fun i c' v' h1 h2=>h (i+1) c' v' (by simpa using h1) (by simpa using h2)⟩
theorem InC.get {cards vals:List Int}(h:InC cards vals){i:Nat}{c:Int}(hc:cards[i]?=some c):∃v,vals[i]?=some v∧0≤v∧v<c:=All2.get h hc
theorem sizes_inC {m:Causal}(hck:S.check m=true){roots:List Int}(hroots:InC (S.lens m) roots){V:Nat→Int}{x:Mech}(hx:x∈m.nodes)(hV:∀q∈x.frm,0≤V q.toNat∧V q.toNat<S.cardAt m q) :
  InC (S.sizes m x) (S.inVals x roots V):=by
 obtain ⟨h1,h2,-,-⟩:=check_pl hck hx
 unfold S.sizes S.inVals
 refine All2.append ?_ ?_
 ·clear h1
  generalize x.frm=l at hV
  induction l with
  | nil=>trivial
  | cons q l ih=>exact ⟨hV q (by simp),ih fun q hq=>hV q (by simp[hq])⟩
 ·have hm:=places_mem h2
  clear h2
  generalize x.noise=l at hm
  induction l with
  | nil=>trivial
  | cons q l ih =>
   refine ⟨?_,ih fun q hq=>hm q (by simp[hq])⟩
   have hq:=hm q (by simp)
   have hc:(S.lens m)[q.toNat]?=some (S.lenAt m q):=by
    have hql:q.toNat<m.roots.length:=by omega
    simp only[S.lens,S.lenAt,List.getElem?_map,List.getElem?_eq_getElem hql,Option.map_some,Option.getD_some]
   obtain ⟨v,e,hv⟩:=hroots.get hc
   show 0≤roots[q.toNat]?.getD 0∧roots[q.toNat]?.getD 0<_
   rw[e];exact hv
theorem sizes_bound {m:Causal}(hck:S.check m=true){x:Mech}(hx:x∈m.nodes):(∀c∈S.sizes m x,1≤c∧c≤4)∧(S.sizes m x).length≤13:=by
 obtain ⟨h1,h2,-,-⟩:=check_pl hck hx
 have hs:=(check_facts hck).1
 have a:=places_len h1
 have b:=places_len h2
 have:=hs.nodes
 have:=hs.roots
 refine ⟨fun c hc=>?_,by simp[S.sizes];omega⟩
 unfold S.sizes at hc
 rcases List.mem_append.1 hc with hc | hc
 ·obtain ⟨q,hq,rfl⟩:=List.mem_map.1 hc
  exact cardAt_bound hs (places_mem h1 q hq)
 ·obtain ⟨q,hq,rfl⟩:=List.mem_map.1 hc
  exact lenAt_bound hs (places_mem h2 q hq)
theorem sol_bound {m:Causal}(hck:S.check m=true){roots act:List Int}(hroots:InC (S.lens m) roots)(ha:S.act m act=true){V:Nat→Int}(hV:Sol m roots act V) :
  ∀(i:Nat) (x:Mech),m.nodes[i]?=some x→0≤V i∧V i<x.card:=by
 obtain ⟨r,hr⟩:=ranks hck
 have key:∀n i x,r i≤n→m.nodes[i]?=some x→0≤V i∧V i<x.card:=by
  intro n
  induction n with
  | zero =>
   intro i x hn hx
   have hxm:=List.mem_of_getElem? hx
   rw[hV i x hx,S.eqn]
   split
   ·rename_i h;exact ⟨h,((act_at ha).2 i x hx).2⟩
   ·obtain ⟨h1,h2,h3,h4⟩:=check_pl hck hxm
    have hb:=idx_bound (sizes_bound hck hxm).1 (sizes_inC hck hroots (V:=V) hxm fun q hq=>by have:=hr i x hx q hq;omega)
    rw[←h3] at hb
    obtain ⟨k,hk⟩:=Int.eq_ofNat_of_zero_le hb.1
    rw[hk]
    have hkl:k<x.out.length:=by omega
    show 0≤(x.out[k]?).getD 0∧(x.out[k]?).getD 0<_
    rw[List.getElem?_eq_getElem hkl]
    exact h4 _ (List.getElem_mem hkl)
  | succ n ih =>
   intro i x hn hx
   have hxm:=List.mem_of_getElem? hx
   rw[hV i x hx,S.eqn]
   split
   ·rename_i h;exact ⟨h,((act_at ha).2 i x hx).2⟩
   ·obtain ⟨h1,h2,h3,h4⟩:=check_pl hck hxm
    have hb:=idx_bound (sizes_bound hck hxm).1 (sizes_inC hck hroots (V:=V) hxm fun q hq=>by
     have hrq:=hr i x hx q hq
     have hql:=places_mem h1 q hq
     have hq2:q.toNat<m.nodes.length:=by omega
     have:=ih q.toNat _ (by omega) (List.getElem?_eq_getElem hq2)
     have hc:S.cardAt m q=(m.nodes[q.toNat]).card:=by simp[S.cardAt,List.getElem?_eq_getElem hq2]
     rw[hc];exact this)
    rw[←h3] at hb
    obtain ⟨k,hk⟩:=Int.eq_ofNat_of_zero_le hb.1
    rw[hk]
    have hkl:k<x.out.length:=by omega
    show 0≤(x.out[k]?).getD 0∧(x.out[k]?).getD 0<_
    rw[List.getElem?_eq_getElem hkl]
    exact h4 _ (List.getElem_mem hkl)
 exact fun i x hx=>key (r i) i x (Nat.le_refl _) hx
def S.horner (cs vs:List Int)(a:Int):Int:=(cs.zip vs).foldl (fun a p=>a*p.1+p.2) a
theorem horner_idx:∀(cs vs:List Int) (a:Int),cs.length=vs.length→S.horner cs vs a=a*S.prod cs+S.idx cs vs
 | [],[],a,_=>by simp[S.horner,S.prod,S.idx]
 | c::cs,v::vs,a,h=>by
  show S.horner cs vs (a*c+v)=_
  rw[horner_idx cs vs _ (by simpa using h),prod_cons]
  show _=_+(v*S.prod cs+S.idx cs vs)
  rw[Int.add_mul,Int.mul_assoc,Int.add_assoc]
 | [],_::_,_,h=>by simp at h
 | _::_,[],_,h=>by simp at h
end Hx
end
