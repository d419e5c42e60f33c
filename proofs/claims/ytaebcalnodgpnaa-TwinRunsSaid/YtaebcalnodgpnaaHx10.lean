/- A part of the proof: an interpreter over abstract values, shown right against the model, and what the functions of the chapter compute on it. -/
import Derived.Test.YtaebcalnodgpnaaHx9
set_option linter.unusedVariables false
set_option linter.unusedSimpArgs false
set_option linter.unnecessarySimpa false
section
namespace Hx
open Go
noncomputable section
theorem take_next {α:Type}{l:List α}{j:Nat}(h:j<l.length):∃x,l[j]?=some x∧l.take (j+1)=l.take j++[x]∧x∈l :=
 ⟨l[j],List.getElem?_eq_getElem h,by rw[List.take_add_one,List.getElem?_eq_getElem h];rfl,List.getElem_mem h⟩
def S.within (lo hi:Int)(l:List Int):Bool:=l.all fun x=>decide (lo≤x)&&decide (x≤hi)
theorem within_ok {d:Nat}{g:G}{lo hi:Int}{v:AV}(hd:0<d)(hv:isInts g.h v)(hl:(ints g.h v).length<9223372036854775808) :
  callV C0 d N.twin_within [.int .i64 lo,.int .i64 hi,v] g=.val (.bool (S.within lo hi (ints g.h v))):=by
 obtain ⟨v',e,hr,hlen⟩:=arg_ints hv hl d
 generalize ints g.h v=l at hr hlen hl ⊢
 rw[call_twin_within]
 refine iso_bool eq_twin_within (xs:=[.int .i64 lo,.int .i64 hi,v']) (by simp only[mapO,arg_int 0,e]) (by simp[f_twin_within]) hd ?_
 simp only[f_twin_within,sx,SO.run,↓reduceIte,Nat.reduceEqDiff,hlen]
 refine wpL_range hl (fun j t df g=>df=[]∧St t [(0,.int .i64 lo),(1,.int .i64 hi),(9,v')]∧S.within lo hi (l.take j)=true)
  ⟨rfl,by simp[St,sx],rfl⟩ (by simp[sx]) (by simp[sx]) (by decide) (by rintro j t df g v s (rfl | rfl | rfl)<;>simp[St,sx]) ?_ ?_
 ·rintro j t df g hj ⟨rfl,⟨h0,h1,h9,-⟩,hw⟩ h11 h10
  obtain ⟨x,hx,htk,hm⟩:=take_next hj
  simp only[sx,sy,SO.run,↓reduceIte,Nat.reduceEqDiff,hr,h0,h1,h9,h10,h11,hx,hj,Option.isSome_some,Option.getD_some,List.length_map,List.getElem?_map,Option.map_some,ci]
  have bad:(x<lo∨hi<x)→S.within lo hi l=false:=fun h=>by simp only[S.within,List.all_eq_false];exact ⟨x,hm,by simp;omega⟩
  refine bifP_mk (fun hb=>?_) (fun hb=>?_)
  ·simp only[sx,sy,SO.run,↓reduceIte,Nat.reduceEqDiff,hb]
   rw[bad (.inl (by simpa using hb))]
  ·simp only[sx,sy,SO.run,↓reduceIte,Nat.reduceEqDiff,hb,h1]
   refine bifP_mk (fun hc=>?_) (fun hc=>?_)
   ·simp only[sx,sy,SO.run,↓reduceIte,Nat.reduceEqDiff]
    rw[bad (.inr (by simpa using hc))]
   ·simp only[sx,sy,SO.run,↓reduceIte,Nat.reduceEqDiff,h10,h11,St,h0,h1,h9,htk,and_true,true_and]
    simp[S.within] at *
    exact ⟨hw,by omega⟩
 ·rintro t df g ⟨rfl,-,hw⟩
  rw[List.take_length] at hw
  simp only[f_twin_within_k1,sx,sy,SO.run,↓reduceIte,Nat.reduceEqDiff,hw]
def S.size (l:List Int):Int:=l.foldl (fun s x=>IntKind.wrap .i64 (s*x)) 1
theorem size_ok {d:Nat}{g:G}{v:AV}(hd:0<d)(hv:isInts g.h v)(hl:(ints g.h v).length<9223372036854775808) :
  callV C0 d N.ref02_Size [v] g=.val (.int .i64 (S.size (ints g.h v))):=by
 obtain ⟨v',e,hr,hlen⟩:=arg_ints hv hl d
 generalize ints g.h v=l at hr hlen hl ⊢
 rw[call_ref02_Size]
 refine iso_int eq_ref02_Size (xs:=[v']) (by simp only[mapO,e]) (by simp[f_ref02_Size]) hd ?_
 simp only[f_ref02_Size,sx,SO.run,↓reduceIte,Nat.reduceEqDiff]
 refine wpL_len hl hlen (fun j t df g=>df=[]∧tat t 3=.int .i64 (S.size (l.take j))) ⟨rfl,by simp[sx,S.size]⟩ (by simp[sx]) (by simp[sx]) (by decide)
  (by rintro j t df g v s (rfl | rfl | rfl | rfl | rfl | rfl | rfl)<;>simp[sx]) ?_ ?_
 ·rintro j t df g hj ⟨rfl,h3⟩ h4 h0
  obtain ⟨x,hx,htk,hm⟩:=take_next hj
  simp only[sx,sy,SO.run,↓reduceIte,Nat.reduceEqDiff,hr,h0,h3,h4,hx,hj,Option.isSome_some,Option.getD_some,List.length_map,List.getElem?_map,Option.map_some,ci,htk,S.size,List.foldl_append,List.foldl_cons,List.foldl_nil,and_true,true_and]
 ·rintro t df g ⟨rfl,h3⟩ -
  rw[List.take_length] at h3
  simp only[f_ref02_Size_k1,sx,sy,SO.run,↓reduceIte,Nat.reduceEqDiff,h3]
theorem at_ok {d:Nat}{g:G}{v w:AV}{l p:List Int}{K:AV→G→Prop}{D:ADf→Prop}(hv:∀g',Fr g g'→rowsOf g'.h 1 v=some (l.map ci))(hw:∀g',Fr g g'→rowsOf g'.h 1 w=some (p.map ci))(hp:p.length<1073741824)
  (hin:∀x∈p,0≤x∧x<l.length) (k:∀r g',Own g' g.nx r 1 ((p.map fun x=>l[x.toNat]?.getD 0).map ci)→Fr g g'→(∀i∈g'.lg,i∈g.lg∨g.nx≤i)→K r g'):(callV C0 d N.ref02_At [v,w] g).sat K g D:=by
 rw[call_ref02_At]
 refine dir_run eq_ref02_At (by simp[f_ref02_At]) ?_
 simp only[f_ref02_At,sx,SO.run,↓reduceIte,Nat.reduceEqDiff]
 have hlen2:∀g,lenF .slice w g=.val (.int .i64 (p.length:Int)):=fun g'=>by rw[len_rows' (hw g (Fr.refl g)),List.length_map]
 refine wpL_len (by omega) hlen2 (fun j t df g'=>df=[]∧(Fr g g'∧∀i∈g'.lg,i∈g.lg∨g.nx≤i)∧tat t 0=v∧∃u,tat t 5=u∧Own g' g.nx u 1 (((p.take j).map fun x=>l[x.toNat]?.getD 0).map ci)) ⟨rfl,⟨Fr.refl g,fun i hi=>.inl hi⟩,by simp[sx],_,rfl,.inl ⟨by simp[sx],rfl⟩⟩ (by simp[sx]) (by simp[sx]) (by decide)
  (by rintro j t df g v s (rfl | rfl | rfl | rfl | rfl | rfl | rfl)<;>simp[sx]) ?_ ?_
 ·rintro j t df g1 hj ⟨rfl,⟨hf,hlg⟩,h0,u,h5,hu⟩ h6 h1
  obtain ⟨x,hx,htk,hm⟩:=take_next hj
  obtain ⟨hx0,hxl⟩:=hin x hm
  obtain ⟨n,rfl⟩:=Int.eq_ofNat_of_zero_le hx0
  have hn:n<l.length:=by omega
  simp only[sx,sy,SO.run,↓reduceIte,Nat.reduceEqDiff,hv g1 hf,hw g1 hf,h0,h1,h5,h6,hx,hj,hn,Option.isSome_some,Option.getD_some,List.length_map,List.getElem?_map,Option.map_some,ci,List.getElem?_eq_getElem hn]
  refine append_own (new:=[ci l[n]]) (hu.step (Fr.new _ _)) (by simp[sx,sy,ci]) (by have:=hf.1;simp;omega) (by simp[room];omega) fun v2 g2 hv2 n2 f2 _ l2=>?_
  have hf2:Fr g g2:=by
   refine ⟨Nat.le_trans hf.1 (Nat.le_trans (by simp) n2),fun i hi=>?_⟩
   have:=hf.1
   rw[f2 i (by simp;omega) (fun e=>by have:=(hu.lt e).1;omega),G.new_h,get_put_ne _ _ _ (by omega),hf.2 i hi]
  simp only[sx,sy,SO.run,↓reduceIte,Nat.reduceEqDiff,h0,h1,h6,and_true,true_and]
  refine ⟨⟨hf2,fun i hi=>?_⟩,_,rfl,?_⟩
  ·rcases l2 i hi with h | h
   ·simp at h
    rcases h with rfl | h
    ·exact .inr hf.1
    ·exact hlg i h
   ·exact .inr h
  rw[htk]
  simpa [hn,ci] using hv2
 ·rintro t df g1 ⟨rfl,⟨hf,hlg⟩,h0,u,h5,hu⟩ -
  rw[List.take_length] at hu
  simp only[f_ref02_At_k1,sx,sy,SO.run,↓reduceIte,Nat.reduceEqDiff,h5]
  exact k _ _ hu hf hlg
end
end Hx
end
section
namespace Hx
open Go
noncomputable section
structure Mech where
 card:Int
 frm:List Int
 noise:List Int
 out:List Int
structure Causal where
 grain:Int
 roots:List (List Int)
 nodes:List Mech
structure Node where
 card:Int
 parents:List Int
 rows:List (List Int)
structure Net where
 grain:Int
 nodes:List Node
structure Factor where
 vars:List Int
 cards:List Int
 w:List Int
instance : Rp Mech:=Rp.via fun m:Mech=>(m.card,m.frm,m.noise,m.out)
instance : Rp Causal:=Rp.via fun m:Causal=>(m.grain,m.roots,m.nodes)
instance : Rp Node:=Rp.via fun m:Node=>(m.card,m.parents,m.rows)
instance : Rp Net:=Rp.via fun m:Net=>(m.grain,m.nodes)
instance : Rp Factor:=Rp.via fun m:Factor=>(m.vars,m.cards,m.w)
section
variable {P:Nat→Prop}{k:Nat}{h:H}{cs:List AV}
theorem rp_mech {m:Mech}:Rp.rp P k h m cs↔∃a b c,cs=[.int .i64 m.card,a,b,c]∧SlR P k h m.frm a∧SlR P k h m.noise b∧SlR P k h m.out c:=by
 constructor
 ·rintro ⟨c1,c2,rfl,h1,d1,d2,rfl,⟨a,rfl,h2⟩,e1,e2,rfl,⟨b,rfl,h3⟩,⟨c,rfl,h4⟩⟩
  rw[rp_int.1 h1];exact ⟨a,b,c,rfl,h2,h3,h4⟩
 ·rintro ⟨a,b,c,rfl,h2,h3,h4⟩
  exact ⟨[.int .i64 m.card],[a,b,c],rfl,rp_int.2 rfl,[a],[b,c],rfl,⟨a,rfl,h2⟩,[b],[c],rfl,⟨b,rfl,h3⟩,⟨c,rfl,h4⟩⟩
theorem rp_causal {m:Causal}:Rp.rp P k h m cs↔∃a b,cs=[.int .i64 m.grain,a,b]∧SlR P k h m.roots a∧SlR P k h m.nodes b:=by
 constructor
 ·rintro ⟨c1,c2,rfl,h1,d1,d2,rfl,⟨a,rfl,h2⟩,⟨b,rfl,h3⟩⟩
  rw[rp_int.1 h1];exact ⟨a,b,rfl,h2,h3⟩
 ·rintro ⟨a,b,rfl,h2,h3⟩
  exact ⟨[.int .i64 m.grain],[a,b],rfl,rp_int.2 rfl,[a],[b],rfl,⟨a,rfl,h2⟩,⟨b,rfl,h3⟩⟩
theorem rp_factor {m:Factor}:Rp.rp P k h m cs↔∃a b c,cs=[a,b,c]∧SlR P k h m.vars a∧SlR P k h m.cards b∧SlR P k h m.w c:=by
 constructor
 ·rintro ⟨c1,c2,rfl,⟨a,rfl,h2⟩,e1,e2,rfl,⟨b,rfl,h3⟩,⟨c,rfl,h4⟩⟩
  exact ⟨a,b,c,rfl,h2,h3,h4⟩
 ·rintro ⟨a,b,c,rfl,h2,h3,h4⟩
  exact ⟨[a],[b,c],rfl,⟨a,rfl,h2⟩,[b],[c],rfl,⟨b,rfl,h3⟩,⟨c,rfl,h4⟩⟩
end
theorem SlR.get {α:Type} [Rp α]{P:Nat→Prop}{k:Nat}{h:H}{l:List α}{v:AV}(r:SlR P k h l v){i:Nat}{x:α}(hi:l[i]?=some x) :
  ∃rows row,rowsOf h (Rp.sz α) v=some rows∧rows.length=l.length∧rows[i]?=some row∧Rp.rp P k h x row:=by
 obtain ⟨rows,h1,h2⟩:=r.rows
 obtain ⟨row,h3,h4⟩:=h2.get hi
 exact ⟨rows,row,h1,h2.len.symm,h3,h4⟩
theorem SlR.len {α:Type} [Rp α]{P:Nat→Prop}{k:Nat}{h:H}{l:List α}{v:AV}(r:SlR P k h l v)(g:G):lenF .slice v g=.val (.int .i64 (l.length:Int)):=by
 obtain ⟨rows,h1,h2⟩:=r.rows
 rw[len_rows' h1,h2.len]
theorem SlR.tree {α:Type} [Rp α]{k k':Nat}{h h':H}{l:List α}{v:AV}(r:SlR NoP k h l v)(hk:k≤k'):SlR NoP k' h' l v:=by
 obtain ⟨w,hw,q⟩:=Rp.tree (P:=NoP) (k':=k') (h':=h') (show Rp.rp NoP k h l [v] from ⟨v,rfl,r⟩) hk
 injection hw with hw;subst hw;exact q
theorem arg_sl {α:Type} [Rp α]{P:Nat→Prop}{k:Nat}{h:H}{l:List α}{v:AV}(r:SlR P k h l v)(d:Nat)(hd:Rp.dp (List α)≤20:=by decide) :
  ∃v',Hx.snap h d depthA v=some v'∧∀h',SlR NoP (max k d) h' l v':=by
 obtain ⟨v',e,w,hw,q⟩:=arg_of (snb_one l hd) (by decide) d (show One l P k h v from ⟨v,rfl,r⟩)
 injection hw with hw;subst hw
 exact ⟨v',e,fun h'=>q.tree (Nat.le_refl _)⟩
theorem SlR.all {α:Type} [Rp α]{k:Nat}{h:H}{l:List α}{v:AV}(r:SlR NoP k h l v) :
  ∃rows:List (List AV),(∀h',rowsOf h' (Rp.sz α) v=some rows)∧rows.length=l.length∧(∀(i:Nat) (x:α),l[i]?=some x→∃row,rows[i]?=some row∧Rp.rp NoP k .nil x row)∧(0<l.length→rowy v=true):=by
 have r0:=(r.tree (h':=.nil) (Nat.le_refl _))
 obtain ⟨rows,h1,h2⟩:=r0.rows
 refine ⟨rows,fun h'=>?_,h2.len.symm,fun i x hi=>h2.get hi,fun hl=>rowy_of h1 (i:=0) (by rw[←h2.len];exact hl)⟩
 rw[←h1]
 exact rowsOf_heap fun id ep off len lim e=>by subst e;exact r.2.1.elim
theorem IT.mk {k:Nat}{l:List Int}{r:AV}(h:SlR NoP k .nil l r):IT k l r:=⟨r,rfl,h⟩
abbrev UT (k:Nat)(l:List Nat)(r:AV):Prop:=One l NoP k .nil r
theorem UT.sl {k:Nat}{l:List Nat}{r:AV}(h:UT k l r)(h':H):SlR NoP k h' l r:=by
 obtain ⟨w,hw,q⟩:=h
 injection hw with hw;subst hw;exact q.tree (Nat.le_refl _)
theorem all_lt_of_sl {P:Nat→Prop}{k:Nat}{h:H}{l:List Nat}{v:AV}(r:SlR P k h l v):∀x∈l,x<18446744073709551616:=by
 obtain ⟨rows,h1,h2⟩:=r.rows
 intro x hx
 obtain ⟨i,hi,e⟩:=List.mem_iff_getElem.1 hx
 obtain ⟨row,h3,h4⟩:=h2.get (i:=i) (a:=x) (by rw[List.getElem?_eq_getElem hi,e])
 exact (rp_nat.1 h4).2
theorem Own.nats {g:G}{b:Nat}{v:AV}{l:List Nat}{k:Nat}(h:Own g b v 1 (l.map cu))(hl:l.length<9223372036854775808)(hb:∀x∈l,x<18446744073709551616):One l (fun _=>True) k g.h v:=by
 refine ⟨v,rfl,Own.sl (α:=Nat) h hl ?_ fun _ _=>trivial⟩
 clear h hl
 induction l with
 | nil=>trivial
 | cons a l ih=>exact ⟨rp_nat.2 ⟨rfl,hb a (by simp)⟩,ih fun x hx=>hb x (by simp[hx])⟩
theorem all_range_succ (p:Nat→Bool)(j:Nat):(List.range (j+1)).all p=((List.range j).all p&&p j):=by rw[List.range_succ,List.all_append];simp
theorem all_range_false {p:Nat→Bool}{j n:Nat}(h:j<n)(hp:p j=false):(List.range n).all p=false:=by
 rw[List.all_eq_false];exact ⟨j,List.mem_range.2 h,by rw[hp];decide⟩
end
end Hx
end
section
namespace Hx
open Go
noncomputable section
theorem cards_ok {d k:Nat}{g:G}{P:Nat→Prop}{v:AV}{m:Causal}(hd:0<d)(hm:Agg m P k g.h v)(hn:m.nodes.length<1073741824) :
  ∃r,callV C0 d N.ref33_Cards [v] g=.val r∧IT 0 (m.nodes.map (·.card)) r:=by
 obtain ⟨v',e,cs,rfl,hc⟩:=arg_of (snb_agg m) (by decide) d hm
 obtain ⟨a,b,rfl,hR,hN⟩:=rp_causal.1 hc
 rw[call_ref33_Cards]
 refine iso_run eq_ref33_Cards (xs:=[.agg [.int .i64 m.grain,a,b]]) (by simp only[mapO,e]) (by simp[f_ref33_Cards]) (snb_one _) (by decide) hd ?_
 simp only[f_ref33_Cards,f_ref33_Cards_r,sx,sy,SO.run,↓reduceIte,Nat.reduceEqDiff,Nat.reduceAdd]
 refine wpL_cnt m.nodes.length (by omega) (fun j t df g=>df=[]∧tat t 1=.hptr 0 0 0 0∧g.h.get 0=.cells 3 [[.int .i64 m.grain,a,b]] 0 false false∧1≤g.nx∧∃u,tat t 3=u∧Own g 1 u 1 (((m.nodes.take j).map (·.card)).map ci))
  ⟨rfl,by simp[sx],by simp[sx],by simp[sx],_,rfl,.inl ⟨by simp[sx],rfl⟩⟩ (by simp[sx]) (by decide)
  (by rintro j t df g v s (rfl | rfl | rfl)<;>simp[sx]) ?_ ?_ ?_
 ·rintro j t df g hj ⟨rfl,h1,hg,hnx,u,h3,hu⟩ h4
  simp only[sx,sy,SO.run,↓reduceIte,Nat.reduceEqDiff,h1,h4,hg,hN.len,true_and,and_true]
  exact ⟨hnx,u,h3,hu⟩
 ·rintro j t df g hj ⟨rfl,h1,hg,hnx,u,h3,hu⟩ h4
  obtain ⟨x,hx,htk,hm⟩:=take_next hj
  obtain ⟨rows,row,r1,r2,r3,r4⟩:=(hN.tree (h':=g.h) (Nat.le_refl _)).get hx
  obtain ⟨a',b',c',rfl,-⟩:=rp_mech.1 r4
  have hlt:j<rows.length:=by omega
  simp only[sx,sy,SO.run,↓reduceIte,Nat.reduceEqDiff,h1,h3,h4,hg,show rowsOf g.h 4 b=some rows from r1,hlt,r3,Option.isSome_some,Option.getD_some,rowy_of r1 hlt]
  refine append_own (new:=[ci x.card]) (hu.step (Fr.new _ _)) (by simp[sx,sy,ci]) (by simp) (by simp[room];omega) fun v2 g2 hv2 n2 f2 _ l2=>?_
  simp only[sx,sy,SO.run,↓reduceIte,Nat.reduceEqDiff,h1,h4,and_true,true_and]
  refine ⟨?_,?_,_,rfl,?_⟩
  ·rw[f2 0 (by simp) (fun e=>by have:=(hu.lt e).1;omega),G.new_h,get_put_ne _ _ _ (by omega),hg]
  ·simp at n2;omega
  ·rw[htk]
   simpa [ci] using hv2
 ·rintro t df g ⟨rfl,h1,hg,hnx,u,h3,hu⟩
  rw[List.take_length] at hu
  simp only[f_ref33_Cards_k1,sx,sy,SO.run,↓reduceIte,Nat.reduceEqDiff,h3]
  exact ⟨_,hu.ints (by simp;omega)⟩
theorem lengths_ok {d k:Nat}{g:G}{P:Nat→Prop}{v:AV}{m:Causal}(hd:0<d)(hm:Agg m P k g.h v)(hn:m.roots.length<1073741824) :
  ∃r,callV C0 d N.ref33_Lengths [v] g=.val r∧IT 0 (m.roots.map fun r=>(r.length:Int)) r:=by
 obtain ⟨v',e,cs,rfl,hc⟩:=arg_of (snb_agg m) (by decide) d hm
 obtain ⟨a,b,rfl,hR,hN⟩:=rp_causal.1 hc
 rw[call_ref33_Lengths]
 refine iso_run eq_ref33_Lengths (xs:=[.agg [.int .i64 m.grain,a,b]]) (by simp only[mapO,e]) (by simp[f_ref33_Lengths]) (snb_one _) (by decide) hd ?_
 simp only[f_ref33_Lengths,f_ref33_Lengths_r,sx,sy,SO.run,↓reduceIte,Nat.reduceEqDiff,Nat.reduceAdd]
 refine wpL_cnt m.roots.length (by omega) (fun j t df g=>df=[]∧tat t 1=.hptr 0 0 0 0∧g.h.get 0=.cells 3 [[.int .i64 m.grain,a,b]] 0 false false∧1≤g.nx∧∃u,tat t 3=u∧Own g 1 u 1 (((m.roots.take j).map fun r=>(r.length:Int)).map ci))
  ⟨rfl,by simp[sx],by simp[sx],by simp[sx],_,rfl,.inl ⟨by simp[sx],rfl⟩⟩ (by simp[sx]) (by decide)
  (by rintro j t df g v s (rfl | rfl | rfl)<;>simp[sx]) ?_ ?_ ?_
 ·rintro j t df g hj ⟨rfl,h1,hg,hnx,u,h3,hu⟩ h4
  simp only[sx,sy,SO.run,↓reduceIte,Nat.reduceEqDiff,h1,h4,hg,hR.len,true_and,and_true]
  exact ⟨hnx,u,h3,hu⟩
 ·rintro j t df g hj ⟨rfl,h1,hg,hnx,u,h3,hu⟩ h4
  obtain ⟨x,hx,htk,hm⟩:=take_next hj
  obtain ⟨rows,row,r1,r2,r3,r4⟩:=(hR.tree (h':=g.h) (Nat.le_refl _)).get hx
  obtain ⟨u',rfl,hu'⟩:=rp_list.1 r4
  have hlt:j<rows.length:=by omega
  simp only[sx,sy,SO.run,↓reduceIte,Nat.reduceEqDiff,h1,h3,h4,hg,show rowsOf g.h 1 a=some rows from r1,hu'.len,hlt,r3,Option.isSome_some,Option.getD_some,rowy_of r1 hlt]
  refine append_own (new:=[ci x.length]) (hu.step (Fr.new _ _)) (by simp[sx,sy,ci]) (by simp) (by simp[room];omega) fun v2 g2 hv2 n2 f2 _ l2=>?_
  simp only[sx,sy,SO.run,↓reduceIte,Nat.reduceEqDiff,h1,h4,and_true,true_and]
  refine ⟨?_,?_,_,rfl,?_⟩
  ·rw[f2 0 (by simp) (fun e=>by have:=(hu.lt e).1;omega),G.new_h,get_put_ne _ _ _ (by omega),hg]
  ·simp at n2;omega
  ·rw[htk]
   simpa [ci] using hv2
 ·rintro t df g ⟨rfl,h1,hg,hnx,u,h3,hu⟩
  rw[List.take_length] at hu
  simp only[f_ref33_Lengths_k1,sx,sy,SO.run,↓reduceIte,Nat.reduceEqDiff,h3]
  exact ⟨_,hu.ints (by simp;omega)⟩
theorem same_ok {d k k2:Nat}{g:G}{P P2:Nat→Prop}{v w:AV}{l p:List Int}(hd:0<d)(hv:SlR P k g.h l v)(hw:SlR P2 k2 g.h p w) :
  callV C0 d N.ref02_Same [v,w] g=.val (.bool (decide (l=p))):=by
 obtain ⟨v',e,r1⟩:=arg_sl hv d
 obtain ⟨w',e2,r2⟩:=arg_sl hw d
 rw[call_ref02_Same]
 refine iso_bool eq_ref02_Same (xs:=[v',w']) (by simp only[mapO,e,e2]) (by simp[f_ref02_Same]) hd ?_
 simp only[f_ref02_Same,sx,sy,SO.run,↓reduceIte,Nat.reduceEqDiff,(r1 .nil).len,(r2 .nil).len]
 refine bifP_mk (fun hb=>?_) (fun hb=>?_)
 ·simp only[sx,sy,SO.run,↓reduceIte,Nat.reduceEqDiff]
  have:l≠p:=fun e=>by subst e;simp at hb
  simp[this]
 ·have hl:l.length=p.length:=by simp at hb;omega
  simp only[sx,sy,SO.run,↓reduceIte,Nat.reduceEqDiff]
  refine wpL_len hv.1 (r1 .nil).len (fun j t df g=>df=[]∧tat t 1=w'∧l.take j=p.take j) ⟨rfl,by simp[sx],by simp⟩ (by simp[sx]) (by simp[sx]) (by decide)
   (by rintro j t df g v s (rfl | rfl | rfl | rfl | rfl | rfl | rfl)<;>simp[sx]) ?_ ?_
  ·rintro j t df g hj ⟨rfl,h1,ht⟩ h5 h0
   obtain ⟨x,hx,htk,hm⟩:=take_next hj
   obtain ⟨y,hy,htk2,hm2⟩:=take_next (l:=p) (j:=j) (by omega)
   have hj2:j<p.length:=by omega
   simp only[sx,sy,SO.run,↓reduceIte,Nat.reduceEqDiff,(r1 g.h).ints,(r2 g.h).ints,h0,h1,h5,hx,hy,hj,hj2,Option.isSome_some,Option.getD_some,List.length_map,List.getElem?_map,Option.map_some,ci,true_and]
   refine bifP_mk (fun hb=>?_) (fun hb=>?_)
   ·simp only[sx,sy,SO.run,↓reduceIte,Nat.reduceEqDiff]
    have:l≠p:=fun e=>by subst e;rw[hx] at hy;injection hy with hy;subst hy;simp at hb
    simp[this]
   ·simp only[sx,sy,SO.run,↓reduceIte,Nat.reduceEqDiff,h0,h1,h5,htk,htk2,ht,true_and,and_true]
    have:x=y:=by simpa using hb
    rw[this]
  ·rintro t df g ⟨rfl,h1,ht⟩ -
   simp only[f_ref02_Same_k1,sx,sy,SO.run,↓reduceIte,Nat.reduceEqDiff]
   rw[List.take_length,hl,List.take_length] at ht
   simp[ht]
def S.placeAt (l:List Int)(n:Int)(i:Nat):Bool:=decide (0≤l[i]?.getD 0)&&decide (l[i]?.getD 0<n)&&(i == 0 || decide (l[i - 1]?.getD 0<l[i]?.getD 0))
def S.places (l:List Int)(n:Int):Bool:=(List.range l.length).all (S.placeAt l n)
theorem increasing_ok {d k:Nat}{g:G}{P:Nat→Prop}{v:AV}{l:List Int}{n:Int}(hd:0<d)(hv:SlR P k g.h l v) :
  callV C0 d N.twin_increasing [v,.int .i64 n] g=.val (.bool (S.places l n)):=by
 obtain ⟨v',e,r1⟩:=arg_sl hv d
 rw[call_twin_increasing]
 refine iso_bool eq_twin_increasing (xs:=[v',.int .i64 n]) (by simp only[mapO,arg_int 0,e]) (by simp[f_twin_increasing]) hd ?_
 simp only[f_twin_increasing,sx,sy,SO.run,↓reduceIte,Nat.reduceEqDiff,(r1 .nil).len]
 have hl:=hv.1
 refine wpL_range hl (fun j t df g=>df=[]∧St t [(0,v'),(1,.int .i64 n),(7,v')]∧(List.range j).all (S.placeAt l n)=true)
  ⟨rfl,by simp[St,sx],rfl⟩ (by simp[sx]) (by simp[sx]) (by decide) (by rintro j t df g v s (rfl | rfl | rfl)<;>simp[St,sx]) ?_ ?_
 ·rintro j t df g hj ⟨rfl,⟨h0,h1,h7,-⟩,hw⟩ h9 h8
  obtain ⟨x,hx,htk,hm⟩:=take_next hj
  have bad:S.placeAt l n j=false→S.places l n=false:=fun h=>all_range_false hj h
  simp only[sx,sy,SO.run,↓reduceIte,Nat.reduceEqDiff,(r1 g.h).ints,h0,h1,h7,h8,h9,hx,hj,Option.isSome_some,Option.getD_some,List.length_map,List.getElem?_map,Option.map_some,ci]
  refine bifP_mk (fun hb=>?_) (fun hb=>?_)
  ·simp only[sx,sy,SO.run,↓reduceIte,Nat.reduceEqDiff,hb]
   rw[bad (by simp[S.placeAt,hx] at *;omega)]
  ·simp only[sx,sy,SO.run,↓reduceIte,Nat.reduceEqDiff,hb,h1]
   refine bifP_mk (fun hc=>?_) (fun hc=>?_)
   ·simp only[sx,sy,SO.run,↓reduceIte,Nat.reduceEqDiff,hc]
    rw[bad (by simp[S.placeAt,hx] at *;omega)]
   ·simp only[sx,sy,SO.run,↓reduceIte,Nat.reduceEqDiff,hc]
    refine bifP_mk (fun hd=>?_) (fun hd=>?_)
    ·obtain ⟨i,rfl⟩:∃i,j=i+1:=⟨j - 1,by simp at hd;omega⟩
     obtain ⟨y,hy,-,-⟩:=take_next (l:=l) (j:=i) (by omega)
     have hi:i<l.length:=by omega
     have e:IntKind.wrap .i64 (((i+1:Nat):Int) - 1)=(i:Int):=by rw[wrap64 (by omega) (by omega)];omega
     simp only[sx,sy,SO.run,↓reduceIte,Nat.reduceEqDiff,(r1 g.h).ints,hd,e,h0,hy,hi,Option.isSome_some,Option.getD_some,List.length_map,List.getElem?_map,Option.map_some,ci]
     refine bifP_mk (fun he=>?_) (fun he=>?_)
     ·simp only[sx,sy,SO.run,↓reduceIte,Nat.reduceEqDiff]
      rw[bad (by simp[S.placeAt,hx,hy] at *;omega)]
     ·simp only[sx,sy,SO.run,↓reduceIte,Nat.reduceEqDiff,St,h0,h1,h7,h8,h9,true_and,and_true]
      rw[all_range_succ,hw]
      simp[S.placeAt,hx,hy] at *;omega
    ·have:j=0:=by simp at hd;omega
     subst this
     simp only[sx,sy,SO.run,↓reduceIte,Nat.reduceEqDiff,hd,St,h0,h1,h7,h8,h9,true_and,and_true]
     simp[S.placeAt,hx] at *;omega
 ·rintro t df g ⟨rfl,-,hw⟩
  simp only[f_twin_increasing_k1,sx,sy,SO.run,↓reduceIte,Nat.reduceEqDiff]
  rw[S.places,hw]
end
end Hx
end
section
namespace Hx
open Go
noncomputable section
def S.bit (n:Nat):Nat:=1*2 ^ n % 18446744073709551616
def S.mask (l:List Int):Nat:=l.foldl (fun s x=>s ||| S.bit x.toNat) 0
theorem bit_lt (n:Nat):S.bit n<18446744073709551616:=Nat.mod_lt _ (by decide)
theorem foldl_or_lt {α:Type}(f:α→Nat)(hf:∀a,f a<18446744073709551616):∀(l:List α)(s:Nat),s<18446744073709551616→l.foldl (fun s x=>s ||| f x) s<18446744073709551616
 | [],_,h=>h
 | a::l,s,h=>foldl_or_lt f hf l _ (or_lt h (hf a))
theorem mask_lt (l:List Int):S.mask l<18446744073709551616:=foldl_or_lt _ (fun a=>bit_lt _) l 0 (by decide)
theorem mask_snoc (l:List Int)(x:Int):S.mask (l++[x])=S.mask l ||| S.bit x.toNat:=by simp[S.mask]
theorem bin_one_shl (k':IntKind)(n:Nat):binV .shl (.int .u64 1) (.int k' (n:Int))=.val (.int .u64 (S.bit n:Int)):=bin_shl k' 1 n
theorem setOf_ok {d k:Nat}{g:G}{P:Nat→Prop}{v:AV}{l:List Int}(hd:0<d)(hv:SlR P k g.h l v)(hp:∀x∈l,0≤x) :
  callV C0 d N.twin_setOf [v] g=.val (.int .u64 (S.mask l:Int)):=by
 obtain ⟨v',e,r1⟩:=arg_sl hv d
 rw[call_twin_setOf]
 refine iso_int eq_twin_setOf (xs:=[v']) (by simp only[mapO,e]) (by simp[f_twin_setOf]) hd ?_
 simp only[f_twin_setOf,sx,sy,SO.run,↓reduceIte,Nat.reduceEqDiff,(r1 .nil).len]
 refine wpL_range hv.1 (fun j t df g=>df=[]∧St t [(6,v'),(3,.int .u64 (S.mask (l.take j):Int))])
  ⟨rfl,by simp[St,sx,S.mask]⟩ (by simp[sx]) (by simp[sx]) (by decide) (by rintro j t df g v s (rfl | rfl | rfl)<;>simp[St,sx]) ?_ ?_
 ·rintro j t df g hj ⟨rfl,h6,h3,-⟩ h8 h7
  obtain ⟨x,hx,htk,hm⟩:=take_next hj
  obtain ⟨n,rfl⟩:=Int.eq_ofNat_of_zero_le (hp x hm)
  simp only[sx,sy,SO.run,↓reduceIte,Nat.reduceEqDiff,(r1 g.h).ints,h3,h6,h7,h8,hx,hj,Option.isSome_some,Option.getD_some,List.length_map,List.getElem?_map,Option.map_some,ci,bin_one_shl,bin_or _ _ (mask_lt _) (bit_lt _),St,true_and,and_true]
  rw[htk,mask_snoc];rfl
 ·rintro t df g ⟨rfl,h6,h3,-⟩
  rw[List.take_length] at h3
  simp only[f_twin_setOf_k1,sx,sy,SO.run,↓reduceIte,Nat.reduceEqDiff,h3]
end
end Hx
end
section
namespace Hx
open Go
noncomputable section
theorem parents_ok {d k:Nat}{g:G}{P:Nat→Prop}{v:AV}{m:Causal}(hd:0<d)(hm:Agg m P k g.h v)(hn:m.nodes.length<1073741824)(hp:∀x∈m.nodes,∀y∈x.frm,0≤y∧y<18446744073709551616) :
  ∃r,callV C0 d N.ref33_Parents [v] g=.val r∧UT 0 (m.nodes.map fun x=>S.mask x.frm) r:=by
 obtain ⟨v',e,cs,rfl,hc⟩:=arg_of (snb_agg m) (by decide) d hm
 obtain ⟨a,b,rfl,hR,hN⟩:=rp_causal.1 hc
 obtain ⟨rows,r1,r2,r3,r4⟩:=hN.all
 have r1:∀h',rowsOf h' 4 b=some rows:=r1
 rw[call_ref33_Parents]
 refine iso_run eq_ref33_Parents (xs:=[.agg [.int .i64 m.grain,a,b]]) (by simp only[mapO,e]) (by simp[f_ref33_Parents]) (snb_one _) (by decide) hd ?_
 simp only[f_ref33_Parents,f_ref33_Parents_r,sx,sy,SO.run,↓reduceIte,Nat.reduceEqDiff,Nat.reduceAdd]
 refine wpL_cnt m.nodes.length (by omega) (fun j t df g=>df=[]∧tat t 1=.hptr 0 0 0 0∧g.h.get 0=.cells 3 [[.int .i64 m.grain,a,b]] 0 false false∧1≤g.nx∧∃u,tat t 3=u∧Own g 1 u 1 (((m.nodes.take j).map fun x=>S.mask x.frm).map cu))
  ⟨rfl,by simp[sx],by simp[sx],by simp[sx],_,rfl,.inl ⟨by simp[sx],rfl⟩⟩ (by simp[sx]) (by decide)
  (by rintro j t df g v s (rfl | rfl | rfl)<;>simp[sx]) ?_ ?_ ?_
 ·rintro j t df g hj ⟨rfl,h1,hg,hnx,u,h3,hu⟩ h4
  simp only[sx,sy,SO.run,↓reduceIte,Nat.reduceEqDiff,h1,h4,hg,hN.len,true_and,and_true]
  exact ⟨hnx,u,h3,hu⟩
 ·rintro j t df g hj ⟨rfl,h1,hg,hnx,u,h3,hu⟩ h4
  obtain ⟨x,hx,htk,hm⟩:=take_next hj
  obtain ⟨row,q1,q2⟩:=r3 j x hx
  obtain ⟨a',b',c',rfl,ha',-,-⟩:=rp_mech.1 q2
  have hlt:j<rows.length:=by omega
  have hry:=r4 (by omega)
  simp only[sx,sy,SO.run,↓reduceIte,Nat.reduceEqDiff]
  refine wpL_cnt x.frm.length ha'.1 (fun i t df g'=>df=[]∧St t [(1,.hptr 0 0 0 0),(4,.int .i64 j),(3,u),(5,.int .u64 (S.mask (x.frm.take i):Int))]∧g'=g)
   ⟨rfl,by simp[sx,St,S.mask,h1,h3,h4],rfl⟩ (by simp[sx]) (by decide)
   (by rintro j t df g v s (rfl | rfl | rfl)<;>simp[sx,St]) ?_ ?_ ?_
  ·rintro i t df g' hi ⟨rfl,⟨h1,h4,h3,h5,-⟩,rfl⟩ h6
   simp only[sx,sy,SO.run,↓reduceIte,Nat.reduceEqDiff,h1,h3,h4,h5,h6,hg,r1,hlt,q1,hry,Option.isSome_some,Option.getD_some,ha'.len,St,true_and,and_true]
  ·rintro i t df g' hi ⟨rfl,⟨h1,h4,h3,h5,-⟩,rfl⟩ h6
   obtain ⟨y,hy,htk2,hm2⟩:=take_next hi
   obtain ⟨hy0,hy1⟩:=hp x hm y hm2
   obtain ⟨n,rfl⟩:=Int.eq_ofNat_of_zero_le hy0
   simp only[sx,sy,SO.run,↓reduceIte,Nat.reduceEqDiff,h1,h3,h4,h5,h6,hg,r1,hlt,q1,hry,Option.isSome_some,Option.getD_some,(ha'.tree (h':=g'.h) (Nat.le_refl _)).ints,hi,hy,List.length_map,List.getElem?_map,Option.map_some,ci,wrapu64 hy0 hy1,bin_one_shl,bin_or _ _ (mask_lt _) (bit_lt _),St,true_and,and_true]
   rw[htk2,mask_snoc];rfl
  ·rintro t df g' ⟨rfl,⟨h1,h4,h3,h5,-⟩,rfl⟩
   rw[List.take_length] at h5
   simp only[f_ref33_Parents_k1,sx,sy,SO.run,↓reduceIte,Nat.reduceEqDiff,h1,h3,h4,h5]
   refine append_own (new:=[cu (S.mask x.frm)]) (hu.step (Fr.new _ _)) (by simp[sx,sy,cu]) (by simp) (by simp[room];omega) fun v2 g2 hv2 n2 f2 _ l2=>?_
   simp only[sx,sy,SO.run,↓reduceIte,Nat.reduceEqDiff,h1,h4,and_true,true_and]
   refine ⟨?_,?_,_,rfl,?_⟩
   ·rw[f2 0 (by simp) (fun e=>by have:=(hu.lt e).1;omega),G.new_h,get_put_ne _ _ _ (by omega),hg]
   ·simp at n2;omega
   ·rw[htk]
    simpa [cu] using hv2
 ·rintro t df g ⟨rfl,h1,hg,hnx,u,h3,hu⟩
  rw[List.take_length] at hu
  simp only[f_ref33_Parents_k4,sx,sy,SO.run,↓reduceIte,Nat.reduceEqDiff,h3]
  exact ⟨_,hu.nats (by simp;omega) (by simp only[List.mem_map];rintro x ⟨y,-,rfl⟩;exact mask_lt _)⟩
def S.isIn (s v:Nat):Bool:=s / 2 ^ v &&& 1 == 1
theorem in_ok {d:Nat}{g:G}{s v:Nat}(hd:0<d)(hs:s<18446744073709551616)(hv:v<9223372036854775808) :
  callV C0 d N.ref05_In [.int .u64 (s:Int),.int .i64 (v:Int)] g=.val (.bool (S.isIn s v)):=by
 rw[call_ref05_In]
 refine iso_bool eq_ref05_In (xs:=[.int .u64 (s:Int),.int .i64 (v:Int)]) (by simp only[mapO,arg_int 0]) (by simp[f_ref05_In]) hd ?_
 have h1:s / 2 ^ v<18446744073709551616:=Nat.lt_of_le_of_lt (Nat.div_le_self _ _) hs
 have h2:binV .and (.int .u64 ((s / 2 ^ v:Nat):Int)) (.int .u64 1)=.val (.int .u64 ((s / 2 ^ v &&& 1:Nat):Int)):=bin_and (s / 2 ^ v) 1 h1 (by decide)
 simp only[f_ref05_In,sx,sy,SO.run,↓reduceIte,Nat.reduceEqDiff,wrapu64 (show (0:Int)≤(v:Int) by omega) (by omega),bin_shr _ _ _ hs,h2,S.isIn]
 congr 1
 generalize s / 2 ^ v &&& 1=z
 rw[Bool.eq_iff_iff,decide_eq_true_iff,beq_iff_eq];omega
def S.upRow (p:List Nat)(s:Nat)(j:Nat):Nat:=(List.range j).foldl (fun s v=>if S.isIn s v then s ||| p[v]?.getD 0 else s) s
def S.up (p:List Nat)(s:Nat)(j:Nat):Nat:=(List.range j).foldl (fun s _=>S.upRow p s p.length) s
theorem upRow_lt {p:List Nat}(hp:∀x∈p,x<18446744073709551616){s:Nat}(hs:s<18446744073709551616):∀j,S.upRow p s j<18446744073709551616:=by
 intro j
 induction j with
 | zero=>exact hs
 | succ j ih =>
  unfold S.upRow at ih ⊢
  rw[List.range_succ,List.foldl_append]
  simp only[List.foldl_cons,List.foldl_nil]
  split
  ·refine or_lt ih ?_
   cases h:p[j]? with
   | none=>decide
   | some x=>exact hp x (List.mem_of_getElem? h)
  ·exact ih
theorem upRow_succ (p:List Nat)(s j:Nat):S.upRow p s (j+1)=if S.isIn (S.upRow p s j) j then S.upRow p s j ||| p[j]?.getD 0 else S.upRow p s j:=by
 unfold S.upRow
 rw[List.range_succ,List.foldl_append];rfl
theorem up_lt {p:List Nat}(hp:∀x∈p,x<18446744073709551616){s:Nat}(hs:s<18446744073709551616):∀j,S.up p s j<18446744073709551616:=by
 intro j
 induction j with
 | zero=>exact hs
 | succ j ih =>
  unfold S.up at ih ⊢
  rw[List.range_succ,List.foldl_append]
  exact upRow_lt hp ih _
theorem up_succ (p:List Nat)(s j:Nat):S.up p s (j+1)=S.upRow p (S.up p s j) p.length:=by
 unfold S.up
 rw[List.range_succ,List.foldl_append];rfl
theorem up_ok {d k:Nat}{g:G}{P:Nat→Prop}{v:AV}{p:List Nat}{s:Nat}(hd:0<d)(hv:SlR P k g.h p v)(hs:s<18446744073709551616) :
  callV C0 d N.ref05_Up [v,.int .u64 (s:Int)] g=.val (.int .u64 (S.up p s p.length:Int)):=by
 obtain ⟨v',e,r1⟩:=arg_sl hv d
 have hp:=all_lt_of_sl hv
 have hl:=hv.1
 rw[call_ref05_Up]
 refine iso_int eq_ref05_Up (xs:=[v',.int .u64 (s:Int)]) (by simp only[mapO,e,arg_int 0]) (by simp[f_ref05_Up]) hd ?_
 simp only[f_ref05_Up,sx,sy,SO.run,↓reduceIte,Nat.reduceEqDiff]
 refine wpL_len hl (r1 .nil).len (fun j t df g=>df=[]∧tat t 1=.int .u64 (S.up p s j:Int)) ⟨rfl,by simp[sx,S.up]⟩ (by simp[sx]) (by simp[sx]) (by decide)
  (by rintro j t df g v s (rfl | rfl | rfl | rfl | rfl | rfl | rfl)<;>simp[sx]) ?_ ?_
 ·rintro j t df g hj ⟨rfl,h1⟩ h5 h0
  simp only[sx,sy,SO.run,↓reduceIte,Nat.reduceEqDiff]
  have hu:=up_lt hp hs j
  refine wpL_len hl (r1 .nil).len (fun i t df g=>df=[]∧tat t 5=.int .i64 (j:Int)∧tat t 1=.int .u64 (S.upRow p (S.up p s j) i:Int)) ⟨rfl,by simp[sx,h5],by simp[sx,S.upRow,h1]⟩ (by simp[sx]) (by simp[sx,h0]) (by decide)
   (by rintro j t df g v s (rfl | rfl | rfl | rfl | rfl | rfl | rfl)<;>simp[sx]) ?_ ?_
  ·rintro i t df g hi ⟨rfl,h5,h1⟩ h6 h0
   have hr:=upRow_lt hp hu i
   obtain ⟨x,hx,-,hm⟩:=take_next hi
   simp only[sx,sy,SO.run,↓reduceIte,Nat.reduceEqDiff,h0,h1,h5,h6,in_ok (Nat.succ_pos d) hr (show i<9223372036854775808 by omega)]
   refine bifP_mk (fun hb=>?_) (fun hb=>?_)
   ·simp only[sx,sy,SO.run,↓reduceIte,Nat.reduceEqDiff,h0,h1,h5,h6,(r1 g.h).nats,hi,hx,Option.isSome_some,Option.getD_some,List.length_map,List.getElem?_map,Option.map_some,cu,bin_or _ _ hr (hp x hm),true_and,and_true]
    rw[upRow_succ,hb,hx];rfl
   ·simp only[sx,sy,SO.run,↓reduceIte,Nat.reduceEqDiff,h0,h1,h5,h6,true_and,and_true]
    rw[upRow_succ,hb];rfl
  ·rintro t df g ⟨rfl,h5,h1⟩ h0
   simp only[f_ref05_Up_k0,sx,sy,↓reduceIte,Nat.reduceEqDiff,h0,h5,h1,true_and,and_true]
   rw[up_succ]
 ·rintro t df g ⟨rfl,h1⟩ -
  simp only[f_ref05_Up_k4,sx,sy,SO.run,↓reduceIte,Nat.reduceEqDiff,h1]
def S.acyc (p:List Nat):Bool:=(List.range p.length).all fun v=>!S.isIn (S.up p (p[v]?.getD 0) p.length) v
theorem racyclic_ok {d k:Nat}{g:G}{P:Nat→Prop}{v:AV}{p:List Nat}(hd:0<d)(hv:SlR P k g.h p v) :
  callV C0 d N.ref05_Acyclic [v] g=.val (.bool (S.acyc p)):=by
 obtain ⟨v',e,r1⟩:=arg_sl hv d
 have hp:=all_lt_of_sl hv
 have hl:=hv.1
 rw[call_ref05_Acyclic]
 refine iso_bool eq_ref05_Acyclic (xs:=[v']) (by simp only[mapO,e]) (by simp[f_ref05_Acyclic]) hd ?_
 simp only[f_ref05_Acyclic,sx,sy,SO.run,↓reduceIte,Nat.reduceEqDiff]
 refine wpL_len hl (r1 .nil).len (fun j t df g=>df=[]∧(List.range j).all (fun v=>!S.isIn (S.up p (p[v]?.getD 0) p.length) v)=true) ⟨rfl,rfl⟩ (by simp[sx]) (by simp[sx]) (by decide)
  (by rintro j t df g v s (rfl | rfl | rfl | rfl | rfl | rfl | rfl)<;>simp[sx]) ?_ ?_
 ·rintro j t df g hj ⟨rfl,hw⟩ h3 h0
  obtain ⟨x,hx,-,hm⟩:=take_next hj
  have hx':=hp x hm
  simp only[sx,sy,SO.run,↓reduceIte,Nat.reduceEqDiff,h0,h3,(r1 g.h).nats,hj,hx,Option.isSome_some,Option.getD_some,List.length_map,List.getElem?_map,Option.map_some,cu,up_ok (Nat.succ_pos d) (r1 g.h) hx',in_ok (Nat.succ_pos d) (up_lt hp hx' _) (show j<9223372036854775808 by omega)]
  refine bifP_mk (fun hb=>?_) (fun hb=>?_)
  ·simp only[sx,sy,SO.run,↓reduceIte,Nat.reduceEqDiff]
   rw[S.acyc,all_range_false hj (by rw[hx];simp[hb])]
  ·simp only[sx,sy,SO.run,↓reduceIte,Nat.reduceEqDiff,h0,h3,true_and,and_true]
   rw[all_range_succ,hw,hx];simp[hb]
 ·rintro t df g ⟨rfl,hw⟩ h0
  simp only[f_ref05_Acyclic_k1,sx,sy,SO.run,↓reduceIte,Nat.reduceEqDiff]
  rw[S.acyc,hw]
end
end Hx
end
section
namespace Hx
open Go
noncomputable section
theorem within_lit {d:Nat}(hd:0<d)(g:G)(lo hi x:Int) :
  callV C0 d N.twin_within [.int .i64 lo,.int .i64 hi,.hsl g.nx 0 0 1 none] (g.new (.cells 1 [[.int .i64 x]] 0 false false))=.val (.bool (decide (lo≤x)&&decide (x≤hi))):=by
 have hr:rowsOf (g.new (.cells 1 [[.int .i64 x]] 0 false false)).h 1 (.hsl g.nx 0 0 1 none)=some ([x].map ci):=by simp[sx,sy,ci]
 rw[within_ok hd (isInts_of hr) (by rw[ints_of hr];simp),ints_of hr]
 simp[S.within]
theorem within_sl {d k:Nat}{P:Nat→Prop}(hd:0<d){g:G}{lo hi:Int}{v:AV}{l:List Int}(hv:SlR P k g.h l v) :
  callV C0 d N.twin_within [.int .i64 lo,.int .i64 hi,v] g=.val (.bool (S.within lo hi l)):=by
 rw[within_ok hd (isInts_of hv.ints) (by rw[ints_of hv.ints];exact hv.1),ints_of hv.ints]
def S.rootOk (gr:Int)(r:List Int):Bool:=decide (1≤(r.length:Int))&&decide ((r.length:Int)≤4)&&S.within 0 gr r&&decide (r.sum=gr)
def S.prod (l:List Int):Int:=l.foldl (·*·) 1
def S.rootsOk (m:Causal):Bool:=m.roots.all (S.rootOk m.grain)&&decide (S.prod (m.roots.map fun r=>(r.length:Int))≤1024)
theorem prod_snoc (l:List Int)(x:Int):S.prod (l++[x])=S.prod l*x:=by simp[S.prod]
theorem pow4_mono {a b:Nat}(h:a≤b):(4:Int) ^ a≤4 ^ b:=by
 obtain ⟨c,rfl⟩:∃c,b=a+c:=⟨b - a,by omega⟩
 induction c with
 | zero=>exact Int.le_refl _
 | succ c ih =>
  have:=ih (by omega)
  rw[show a+(c+1)=(a+c)+1 from rfl,Int.pow_succ]
  have h0:(0:Int)≤4 ^ (a+c):=Int.le_of_lt (Int.pow_pos (by decide))
  omega
theorem prod_cons (a:Int)(l:List Int):S.prod (a::l)=a*S.prod l:=by
 have:∀(l:List Int) (s:Int),l.foldl (·*·) s=s*l.foldl (·*·) 1:=by
  intro l
  induction l with
  | nil=>intro s;simp
  | cons x l ih=>intro s;rw[List.foldl_cons,ih,List.foldl_cons,ih (1*x),Int.one_mul,Int.mul_assoc]
 unfold S.prod
 rw[List.foldl_cons,this,Int.one_mul]
theorem prod_bound:∀{l:List Int},(∀x∈l,1≤x∧x≤4)→1≤S.prod l∧S.prod l≤4 ^ l.length
 | [],_=>⟨by decide,by decide⟩
 | a::l,h=>by
  obtain ⟨h1,h2⟩:=prod_bound (l:=l) fun x hx=>h x (by simp[hx])
  obtain ⟨h3,h4⟩:=h a (by simp)
  rw[prod_cons,List.length_cons,Int.pow_succ,Int.mul_comm (4 ^ l.length)]
  constructor
  ·have:=Int.mul_le_mul h3 h1 (by decide) (by omega)
   simpa using this
  ·exact Int.mul_le_mul h4 h2 (by omega) (by decide)
theorem sum_bound {b:Int}(hb:0≤b):∀{l:List Int},(∀x∈l,0≤x∧x≤b)→0≤l.sum∧l.sum≤b*l.length
 | [],_=>by simp
 | a::l,h=>by
  obtain ⟨h1,h2⟩:=sum_bound hb (l:=l) fun x hx=>h x (by simp[hx])
  obtain ⟨h3,h4⟩:=h a (by simp)
  rw[List.sum_cons,List.length_cons]
  have:b*((l.length+1:Nat):Int)=b*(l.length:Int)+b:=by rw[Int.natCast_add,Int.mul_add];simp
  omega
theorem sum_snoc (l:List Int)(x:Int):(l++[x]).sum=l.sum+x:=by simp
theorem within_iff {lo hi:Int}{l:List Int}:S.within lo hi l=true↔∀x∈l,lo≤x∧x≤hi:=by simp[S.within]
theorem rootsRight_ok {d k:Nat}{g:G}{P:Nat→Prop}{v:AV}{m:Causal}(hd:0<d)(hm:Agg m P k g.h v)(hg1:1≤m.grain)(hg2:m.grain≤12)(hn:m.roots.length≤8) :
  callV C0 d N.twin_rootsRight [v] g=.val (.bool (S.rootsOk m)):=by
 obtain ⟨v',e,cs,rfl,hc⟩:=arg_of (snb_agg m) (by decide) d hm
 obtain ⟨a,b,rfl,hR,hN⟩:=rp_causal.1 hc
 obtain ⟨rows,r1,r2,r3,r4⟩:=hR.all
 have r1:∀h',rowsOf h' 1 a=some rows:=r1
 rw[call_twin_rootsRight]
 refine iso_bool eq_twin_rootsRight (xs:=[.agg [.int .i64 m.grain,a,b]]) (by simp only[mapO,e]) (by simp[f_twin_rootsRight]) hd ?_
 simp only[f_twin_rootsRight,f_twin_rootsRight_r,sx,sy,SO.run,↓reduceIte,Nat.reduceEqDiff,Nat.reduceAdd,hR.len]
 have fin:∀(q:Bool) (t:T) (g:G),tat t 3=.int .i64 (S.prod (m.roots.map fun r=>(r.length:Int)))∨q=false→tat t 4=.bool q →
   wp C0 (d+1) none f_twin_rootsRight_k4 (fnQ C0 (d+1) [SR.tm 2] fun v x=>v=AV.bool (q&&decide (S.prod (m.roots.map fun r=>(r.length:Int))≤1024))) t [] g:=by
  intro q t g h3 h4
  simp only[f_twin_rootsRight_k4,sx,sy,SO.run,↓reduceIte,Nat.reduceEqDiff,h4]
  refine bifP_mk (fun hb=>?_) (fun hb=>?_)
  ·subst hb
   rcases h3 with h3 | h3
   ·simp only[sx,sy,SO.run,↓reduceIte,Nat.reduceEqDiff,h3,Bool.true_and]
   ·cases h3
  ·subst hb
   simp only[sx,sy,SO.run,↓reduceIte,Nat.reduceEqDiff,Bool.false_and]
 refine wpL_range (m:=m.roots.length) (by omega) (fun j t df g=>df=[]∧St t [(1,.hptr 0 0 0 0),(11,a),(3,.int .i64 (S.prod ((m.roots.take j).map fun r=>(r.length:Int)))),(4,.bool true)]∧g.h.get 0=.cells 3 [[.int .i64 m.grain,a,b]] 0 false false∧1≤g.nx∧(m.roots.take j).all (S.rootOk m.grain)=true)
  ⟨rfl,by simp[St,sx,S.prod],by simp[sx],by simp[sx],rfl⟩ (by simp[sx]) (by simp[sx]) (by decide) (by rintro j t df g v s (rfl | rfl | rfl)<;>simp[St,sx]) ?_ ?_
 ·rintro j t df g hj ⟨rfl,⟨h1,h11,h3,h4,-⟩,hg,hnx,hw⟩ h13 h12
  obtain ⟨x,hx,htk,hm⟩:=take_next hj
  obtain ⟨row,q1,q2⟩:=r3 j x hx
  obtain ⟨u,rfl,hu⟩:=rp_list.1 q2
  have hlt:j<rows.length:=by omega
  have bad:S.rootOk m.grain x=false→S.rootsOk m=false:=fun h=>by
   rw[S.rootsOk,Bool.and_eq_false_iff];left;rw[List.all_eq_false];exact ⟨x,hm,by simp[h]⟩
  have hbad:∀(t:T) (g:G),S.rootOk m.grain x=false→tat t 4=.bool false→wp C0 (d+1) none f_twin_rootsRight_k4 (fnQ C0 (d+1) [SR.tm 2] fun v x=>v=AV.bool (S.rootsOk m)) t [] g:=fun t g h1 h2=>by
   rw[bad h1];exact fin false t g (.inr rfl) h2
  have hlen:((m.roots.take j).map fun r=>(r.length:Int)).length≤8:=by simp;omega
  have hpb:1≤S.prod ((m.roots.take j).map fun r=>(r.length:Int))∧S.prod ((m.roots.take j).map fun r=>(r.length:Int))≤4 ^ 8:=by
   have:=prod_bound (l:=(m.roots.take j).map fun r=>(r.length:Int)) (by
    intro y hy
    obtain ⟨r,hr,rfl⟩:=List.mem_map.1 hy
    have:=List.all_eq_true.1 hw r hr
    simp[S.rootOk] at this
    omega)
   exact ⟨this.1,Int.le_trans this.2 (pow4_mono hlen)⟩
  simp only[sx,sy,SO.run,↓reduceIte,Nat.reduceEqDiff,h1,h3,h4,h11,h12,h13,hg,r1,hlt,q1,Option.isSome_some,Option.getD_some,hu.len,within_lit (Nat.succ_pos d)]
  refine bifP_mk (fun hb=>?_) (fun hb=>?_)
  ·simp only[sx,sy,SO.run,↓reduceIte,Nat.reduceEqDiff,hb]
   exact hbad _ _ (by simp[S.rootOk] at *;omega) (by simp only[sx,↓reduceIte])
  ·have hg':(g.new (AObj.cells 1 [[AV.int IntKind.i64 ↑x.length]] 0 false false)).h.get 0=.cells 3 [[.int .i64 m.grain,a,b]] 0 false false:=by
    rw[G.new_h,get_put_ne _ _ _ (by omega),hg]
   have hb':1≤x.length∧x.length≤4:=by simp at hb;omega
   have hnx':1≤(g.new (AObj.cells 1 [[AV.int IntKind.i64 ↑x.length]] 0 false false)).nx:=by simp
   generalize g.new (AObj.cells 1 [[AV.int IntKind.i64 ↑x.length]] 0 false false)=g' at *
   simp only[sx,sy,SO.run,↓reduceIte,Nat.reduceEqDiff,hb,h1,hg']
   rw[within_sl (Nat.succ_pos d) (hu.tree (h':=g'.h) (Nat.le_refl _))]
   simp only[sx,sy,SO.run,↓reduceIte,Nat.reduceEqDiff]
   cases hwi:S.within 0 m.grain x with
   | false =>
    simp only[sx,sy,SO.run,↓reduceIte,Nat.reduceEqDiff,Bool.not_false]
    exact hbad _ _ (by simp only[S.rootOk,hwi,Bool.and_false,Bool.false_and]) (by simp only[sx,↓reduceIte,Nat.reduceEqDiff])
   | true =>
    have hwx:=within_iff.1 hwi
    simp only[sx,sy,SO.run,↓reduceIte,Nat.reduceEqDiff,Bool.not_true,h3,hu.len,wrap64 (show -9223372036854775808≤S.prod ((m.roots.take j).map fun r=>(r.length:Int))*(x.length:Int) by
      have:=Int.mul_nonneg (show 0≤S.prod ((m.roots.take j).map fun r=>(r.length:Int)) by omega) (show (0:Int)≤x.length by omega);omega)
     (show S.prod ((m.roots.take j).map fun r=>(r.length:Int))*(x.length:Int)<9223372036854775808 by
      have:=Int.mul_le_mul (show S.prod ((m.roots.take j).map fun r=>(r.length:Int))≤65536 from hpb.2) (show (x.length:Int)≤4 by omega) (by omega) (by decide);omega)]
    refine wpL_range hu.1 (fun i t df g''=>df=[]∧g''=g'∧St t [(1,.hptr 0 0 0 0),(11,a),(12,.int .i64 m.roots.length),(13,.int .i64 j),(33,u),(3,.int .i64 (S.prod ((m.roots.take j).map fun r=>(r.length:Int))*(x.length:Int))),(4,.bool true),(7,.int .i64 ((x.take i).sum))])
     ⟨rfl,rfl,by simp[St,sx,h1,h11,h12,h13,h4]⟩ (by simp[sx]) (by simp[sx]) (by decide) (by rintro j t df g v s (rfl | rfl | rfl)<;>simp[St,sx]) ?_ ?_
    ·rintro i t df g'' hi ⟨rfl,rfl,h1,h11,h12,h13,h33,h3,h4,h7,-⟩ h35 h34
     obtain ⟨y,hy,htk2,hm2⟩:=take_next hi
     obtain ⟨s1,s2⟩:=sum_bound (b:=m.grain) (by omega) (l:=x.take i) fun z hz=>hwx z (List.mem_of_mem_take hz)
     have hyb:=hwx y hm2
     have s3:(x.take i).sum≤12*4:=Int.le_trans s2 (Int.mul_le_mul hg2 (by simp;omega) (by omega) (by decide))
     simp only[sx,sy,SO.run,↓reduceIte,Nat.reduceEqDiff,h1,h3,h4,h7,h11,h12,h13,h33,h34,h35,(hu.tree (h':=g''.h) (Nat.le_refl _)).ints,hi,hy,Option.isSome_some,Option.getD_some,List.length_map,List.getElem?_map,Option.map_some,ci,St,true_and,and_true,wrap64 (show -9223372036854775808≤(x.take i).sum+y by omega) (show (x.take i).sum+y<9223372036854775808 by omega)]
     rw[htk2,sum_snoc]
    ·rintro t df g'' ⟨rfl,rfl,h1,h11,h12,h13,h33,h3,h4,h7,-⟩
     rw[List.take_length] at h7
     simp only[f_twin_rootsRight_k1,sx,sy,SO.run,↓reduceIte,Nat.reduceEqDiff,h1,h7,hg']
     refine bifP_mk (fun hs=>?_) (fun hs=>?_)
     ·simp only[sx,sy,SO.run,↓reduceIte,Nat.reduceEqDiff]
      exact hbad _ _ (by simp at hs;simp[S.rootOk,hs]) (by simp only[sx,↓reduceIte])
     ·have hs:x.sum=m.grain:=by simpa using hs
      simp only[sx,sy,SO.run,↓reduceIte,Nat.reduceEqDiff,St,h1,h3,h4,h11,h12,h13,hg',true_and,and_true]
      refine ⟨?_,hnx',?_⟩
      ·rw[htk,List.map_append,List.map_singleton,prod_snoc]
      ·rw[htk,List.all_append,hw]
       simp[S.rootOk,hwi,hs,hb'];omega
 ·rintro t df g ⟨rfl,⟨h1,h11,h3,h4,-⟩,hg,hnx,hw⟩
  rw[List.take_length] at hw h3
  simp only[sx,sy,↓reduceIte,Nat.reduceEqDiff]
  have:=fin true t g (.inl h3) h4
  rw[S.rootsOk,hw];exact this
end
end Hx
end
section
namespace Hx
open Go
noncomputable section
theorem placeAt_of {l:List Int}{n:Int}(h:S.places l n=true){i:Nat}(hi:i<l.length):S.placeAt l n i=true:=by
 have:=List.all_eq_true.1 h i (List.mem_range.2 hi);exact this
theorem places_mem {l:List Int}{n:Int}(h:S.places l n=true):∀x∈l,0≤x∧x<n:=by
 intro x hx
 obtain ⟨i,hi,rfl⟩:=List.mem_iff_getElem.1 hx
 have:=placeAt_of h hi
 simp[S.placeAt,List.getElem?_eq_getElem hi] at this
 omega
theorem places_ge {l:List Int}{n:Int}(h:S.places l n=true):∀(i:Nat)(hi:i<l.length),(i:Int)≤l[i]:=by
 intro i
 induction i with
 | zero=>intro hi;have:=(places_mem h l[0] (List.getElem_mem hi)).1;simpa using this
 | succ i ih =>
  intro hi
  have h1:=ih (by omega)
  have:=placeAt_of h hi
  simp[S.placeAt,List.getElem?_eq_getElem hi,List.getElem?_eq_getElem (show i<l.length by omega)] at this
  omega
theorem places_len {l:List Int}{n:Nat}(h:S.places l (n:Int)=true):l.length≤n:=by
 rcases Nat.eq_zero_or_pos l.length with h0 | h0
 ·omega
 ·have h1:=places_ge h (l.length - 1) (by omega)
  have h2:=(places_mem h l[l.length - 1] (List.getElem_mem (by omega))).2
  omega
def S.cardAt (m:Causal)(p:Int):Int:=(m.nodes[p.toNat]?.map (·.card)).getD 0
def S.lenAt (m:Causal)(r:Int):Int:=(m.roots[r.toNat]?.map fun r=>(r.length:Int)).getD 0
def S.above (m:Causal)(x:Mech):Int:=S.prod (x.frm.map (S.cardAt m))
def S.beside (m:Causal)(x:Mech):Int:=S.prod (x.noise.map (S.lenAt m))
structure S.Small (m:Causal):Prop where
 nodes:m.nodes.length≤5
 roots:m.roots.length≤8
 card:∀x∈m.nodes,1≤x.card∧x.card≤4
 len:∀r∈m.roots,1≤r.length∧r.length≤4
theorem cardAt_bound {m:Causal}(hs:S.Small m){p:Int}(h:0≤p∧p<m.nodes.length):1≤S.cardAt m p∧S.cardAt m p≤4:=by
 unfold S.cardAt
 rw[List.getElem?_eq_getElem (show p.toNat<m.nodes.length by omega)]
 exact hs.card _ (List.getElem_mem _)
theorem lenAt_bound {m:Causal}(hs:S.Small m){p:Int}(h:0≤p∧p<m.roots.length):1≤S.lenAt m p∧S.lenAt m p≤4:=by
 unfold S.lenAt
 rw[List.getElem?_eq_getElem (show p.toNat<m.roots.length by omega)]
 have:=hs.len _ (List.getElem_mem (show p.toNat<m.roots.length by omega))
 simp;omega
theorem prod_map_bound {f:Int→Int}{l:List Int}{n:Nat}(hf:∀x∈l,1≤f x∧f x≤4)(hl:l.length≤n):1≤S.prod (l.map f)∧S.prod (l.map f)≤4 ^ n:=by
 have:=prod_bound (l:=l.map f) (by intro y hy;obtain ⟨x,hx,rfl⟩:=List.mem_map.1 hy;exact hf x hx)
 exact ⟨this.1,Int.le_trans this.2 (pow4_mono (by simpa using hl))⟩
theorem sizes_ok {d k k2:Nat}{g:G}{P P2:Nat→Prop}{v w:AV}{m:Causal}{x:Mech}(hd:0<d)(hm:Agg m P k g.h v)(hx:Agg x P2 k2 g.h w)(hs:S.Small m)
  (hf:S.places x.frm m.nodes.length=true) (hn:S.places x.noise m.roots.length=true) :
  callV C0 d N.twin_sizes [v,w] g=.val (.tup [.int .i64 (S.above m x),.int .i64 (S.beside m x)]):=by
 obtain ⟨v',e,cs,rfl,hc⟩:=arg_of (snb_agg m) (by decide) d hm
 obtain ⟨a,b,rfl,hR,hN⟩:=rp_causal.1 hc
 obtain ⟨w',e2,cs2,rfl,hc2⟩:=arg_of (snb_agg x) (by decide) d hx
 obtain ⟨fa,fb,fc,rfl,hfa,hfb,hfc⟩:=rp_mech.1 hc2
 obtain ⟨rows,r1,r2,r3,r4⟩:=hN.all
 have r1:∀h',rowsOf h' 4 b=some rows:=r1
 obtain ⟨rows',r1',r2',r3',r4'⟩:=hR.all
 have r1':∀h',rowsOf h' 1 a=some rows':=r1'
 have hfm:=places_mem hf
 have hnm:=places_mem hn
 rw[call_twin_sizes]
 suffices hh:∃r,isoCall (I C0) d g N.twin_sizes [v,w]=.val r∧Tup2 (One (S.above m x)) (One (S.beside m x)) NoP 0 .nil r by
  obtain ⟨r,hr,ra,rb,rfl,h1,h2⟩:=hh
  have h1:=rp_int.1 h1
  have h2:=rp_int.1 h2
  injection h1 with h1;injection h2 with h2
  rw[hr,h1,h2]
 refine iso_run eq_twin_sizes (xs:=[.agg [.int .i64 m.grain,a,b],.agg [.int .i64 x.card,fa,fb,fc]]) (by simp only[mapO,e,e2]) (by simp[f_twin_sizes]) (snb_tup2 (m:=1) (snb_one _) (snb_one _) (by decide) (by decide)) (by decide) hd ?_
 simp only[f_twin_sizes,f_twin_sizes_r,sx,sy,SO.run,↓reduceIte,Nat.reduceEqDiff,Nat.reduceAdd,hfa.len]
 let B:H→Prop:=fun h=>h.get 0=.cells 3 [[.int .i64 m.grain,a,b]] 0 false false∧h.get 1=.cells 4 [[.int .i64 x.card,fa,fb,fc]] 0 false false
 refine wpL_range hfa.1 (fun j t df g=>df=[]∧St t [(2,.hptr 0 0 0 0),(3,.hptr 1 0 0 0),(11,fa),(4,.int .i64 (S.prod ((x.frm.take j).map (S.cardAt m)))),(5,.int .i64 1)]∧B g.h)
  ⟨rfl,by simp[St,sx,S.prod],by simp[B,sx,sy]⟩ (by simp[sx]) (by simp[sx]) (by decide) (by rintro j t df g v s (rfl | rfl | rfl)<;>simp[St,sx]) ?_ ?_
 ·rintro j t df g hj ⟨rfl,⟨h2,h3,h11,h4,h5,-⟩,hB0,hB1⟩ h13 h12
  obtain ⟨p,hp,htk,hm⟩:=take_next hj
  obtain ⟨hp0,hp1⟩:=hfm p hm
  obtain ⟨q,rfl⟩:=Int.eq_ofNat_of_zero_le hp0
  have hq:q<m.nodes.length:=by omega
  obtain ⟨y,hy,-,-⟩:=take_next hq
  obtain ⟨row,q1,q2⟩:=r3 q y hy
  obtain ⟨ya,yb,yc,rfl,-⟩:=rp_mech.1 q2
  have hlt:q<rows.length:=by omega
  have hry:=r4 (by omega)
  have b1:=prod_map_bound (f:=S.cardAt m) (l:=x.frm.take j) (n:=5) (fun z hz=>cardAt_bound hs (hfm z (List.mem_of_mem_take hz))) (by have:=places_len hf;have:=hs.nodes;simp;omega)
  have b2:=cardAt_bound hs ⟨hp0,hp1⟩
  have hc:S.cardAt m (q:Int)=y.card:=by simp[S.cardAt,hy]
  rw[hc] at b2
  have b3:=Int.mul_le_mul b1.2 b2.2 (by omega) (by decide)
  have b4:=Int.mul_nonneg (show 0≤S.prod ((x.frm.take j).map (S.cardAt m)) by omega) (show 0≤y.card by omega)
  simp only[sx,sy,SO.run,↓reduceIte,Nat.reduceEqDiff,h2,h3,h4,h5,h11,h12,h13,(hfa.tree (h':=g.h) (Nat.le_refl _)).ints,hj,hp,hB0,hB1,r1,hlt,q1,hry,Option.isSome_some,Option.getD_some,List.length_map,List.getElem?_map,Option.map_some,ci,St,B,true_and,and_true,
   wrap64 (show -9223372036854775808≤S.prod ((x.frm.take j).map (S.cardAt m))*y.card by omega) (show S.prod ((x.frm.take j).map (S.cardAt m))*y.card<9223372036854775808 by omega)]
  rw[htk,List.map_append,List.map_singleton,prod_snoc,hc]
 ·rintro t df g ⟨rfl,⟨h2,h3,h11,h4,h5,-⟩,hB0,hB1⟩
  rw[List.take_length] at h4
  simp only[f_twin_sizes_k3,sx,sy,SO.run,↓reduceIte,Nat.reduceEqDiff,h3,hB1,hfb.len]
  refine wpL_range hfb.1 (fun j t df g=>df=[]∧St t [(2,.hptr 0 0 0 0),(27,fb),(4,.int .i64 (S.above m x)),(5,.int .i64 (S.prod ((x.noise.take j).map (S.lenAt m))))]∧B g.h)
   ⟨rfl,by simp[St,sx,S.prod,h2,h4,h5,S.above],by simp[B,hB0,hB1]⟩ (by simp[sx]) (by simp[sx]) (by decide) (by rintro j t df g v s (rfl | rfl | rfl)<;>simp[St,sx]) ?_ ?_
  ·rintro j t df g hj ⟨rfl,⟨h2,h27,h4,h5,-⟩,hB0,hB1⟩ h29 h28
   obtain ⟨p,hp,htk,hm⟩:=take_next hj
   obtain ⟨hp0,hp1⟩:=hnm p hm
   obtain ⟨q,rfl⟩:=Int.eq_ofNat_of_zero_le hp0
   have hq:q<m.roots.length:=by omega
   obtain ⟨y,hy,-,-⟩:=take_next hq
   obtain ⟨row,q1,q2⟩:=r3' q y hy
   obtain ⟨u,rfl,hu⟩:=rp_list.1 q2
   have hlt:q<rows'.length:=by omega
   have b1:=prod_map_bound (f:=S.lenAt m) (l:=x.noise.take j) (n:=8) (fun z hz=>lenAt_bound hs (hnm z (List.mem_of_mem_take hz))) (by have:=places_len hn;have:=hs.roots;simp;omega)
   have b2:=lenAt_bound hs ⟨hp0,hp1⟩
   have hc:S.lenAt m (q:Int)=y.length:=by simp[S.lenAt,hy]
   rw[hc] at b2
   have b3:=Int.mul_le_mul b1.2 b2.2 (by omega) (by decide)
   have b4:=Int.mul_nonneg (show 0≤S.prod ((x.noise.take j).map (S.lenAt m)) by omega) (show 0≤(y.length:Int) by omega)
   simp only[sx,sy,SO.run,↓reduceIte,Nat.reduceEqDiff,h2,h4,h5,h27,h28,h29,(hfb.tree (h':=g.h) (Nat.le_refl _)).ints,hj,hp,hB0,hB1,r1',hlt,q1,hu.len,Option.isSome_some,Option.getD_some,List.length_map,List.getElem?_map,Option.map_some,ci,St,B,true_and,and_true,
    wrap64 (show -9223372036854775808≤S.prod ((x.noise.take j).map (S.lenAt m))*(y.length:Int) by omega) (show S.prod ((x.noise.take j).map (S.lenAt m))*(y.length:Int)<9223372036854775808 by omega)]
   rw[htk,List.map_append,List.map_singleton,prod_snoc,hc]
  ·rintro t df g ⟨rfl,⟨h2,h27,h4,h5,-⟩,hB0,hB1⟩
   rw[List.take_length] at h5
   simp only[f_twin_sizes_k2,sx,sy,SO.run,↓reduceIte,Nat.reduceEqDiff,h4,h5]
   exact ⟨NoP,_,_,rfl,rp_int.2 rfl,rp_int.2 rfl⟩
end
end Hx
end
section
namespace Hx
open Go
noncomputable section
def S.nodeOk (m:Causal)(i:Nat)(x:Mech):Bool :=
 S.places x.frm m.nodes.length&&S.places x.noise m.roots.length&&!x.frm.contains (i:Int)&&decide ((x.out.length:Int)=S.above m x*S.beside m x)&&S.within 0 (x.card - 1) x.out
def S.nodesOk (m:Causal):Bool:=(List.range m.nodes.length).all (fun i=>(m.nodes[i]?.map (S.nodeOk m i)).getD true)&&decide (S.prod (m.nodes.map (·.card))≤1024)
theorem nodesRight_ok {d k:Nat}{g:G}{P:Nat→Prop}{v:AV}{m:Causal}(hd:0<d)(hm:Agg m P k g.h v)(hs:S.Small m) :
  callV C0 d N.twin_nodesRight [v] g=.val (.bool (S.nodesOk m)):=by
 obtain ⟨v',e,cs,rfl,hc⟩:=arg_of (snb_agg m) (by decide) d hm
 obtain ⟨a,b,rfl,hR,hN⟩:=rp_causal.1 hc
 obtain ⟨rows,r1,r2,r3,r4⟩:=hN.all
 have r1:∀h',rowsOf h' 4 b=some rows:=r1
 rw[call_twin_nodesRight]
 refine iso_bool eq_twin_nodesRight (xs:=[.agg [.int .i64 m.grain,a,b]]) (by simp only[mapO,e]) (by simp[f_twin_nodesRight]) hd ?_
 simp only[f_twin_nodesRight,f_twin_nodesRight_r,sx,sy,SO.run,↓reduceIte,Nat.reduceEqDiff,Nat.reduceAdd,hN.len]
 refine wpL_range (m:=m.nodes.length) (by have:=hs.nodes;omega) (fun j t df g=>df=[]∧St t [(1,.hptr 0 0 0 0),(11,b),(3,.int .i64 (S.prod ((m.nodes.take j).map (·.card))))]∧g.h.get 0=.cells 3 [[.int .i64 m.grain,a,b]] 0 false false∧1≤g.nx∧(List.range j).all (fun i=>(m.nodes[i]?.map (S.nodeOk m i)).getD true)=true)
  ⟨rfl,by simp[St,sx,S.prod],by simp[sx],by simp[sx],rfl⟩ (by simp[sx]) (by simp[sx]) (by decide) (by rintro j t df g v s (rfl | rfl | rfl)<;>simp[St,sx]) ?_ ?_
 ·rintro j t df g hj ⟨rfl,⟨h1,h11,h3,-⟩,hg,hnx,hw⟩ h13 h12
  obtain ⟨x,hx,htk,hm⟩:=take_next hj
  obtain ⟨row,q1,q2⟩:=r3 j x hx
  obtain ⟨fa,fb,fc,rfl,hfa,hfb,hfc⟩:=rp_mech.1 q2
  have hlt:j<rows.length:=by omega
  have hry:=r4 (by omega)
  have bad:S.nodeOk m j x=false→S.nodesOk m=false:=fun h=>by
   rw[S.nodesOk,all_range_false hj (by rw[hx];simp[h])];rfl
  have b1:=prod_map_bound (f:=fun x=>x) (l:=(m.nodes.take j).map (·.card)) (n:=5) (fun z hz=>by obtain ⟨y,hy,rfl⟩:=List.mem_map.1 hz;exact hs.card y (List.mem_of_mem_take hy)) (by have:=hs.nodes;simp;omega)
  rw[List.map_id'] at b1
  have b2:=hs.card x hm
  have b3:=Int.mul_le_mul b1.2 b2.2 (by omega) (by decide)
  have b4:=Int.mul_nonneg (show 0≤S.prod ((m.nodes.take j).map (·.card)) by omega) (show 0≤x.card by omega)
  have hne:¬(0=g.nx):=by omega
  have ia:∀(g:G) (n:Int),callV C0 (d+1) N.twin_increasing [fa,.int .i64 n] g=.val (.bool (S.places x.frm n)):=fun g n=>increasing_ok (Nat.succ_pos d) (hfa.tree (h':=g.h) (Nat.le_refl _))
  have ib:∀(g:G) (n:Int),callV C0 (d+1) N.twin_increasing [fb,.int .i64 n] g=.val (.bool (S.places x.noise n)):=fun g n=>increasing_ok (Nat.succ_pos d) (hfb.tree (h':=g.h) (Nat.le_refl _))
  simp only[sx,sy,SO.run,↓reduceIte,Nat.reduceEqDiff,Nat.reduceAdd,h1,h3,h11,h12,h13,hg,r1,hlt,q1,hry,Option.isSome_some,Option.getD_some,Nat.reduceLeDiff,hne,hN.len,ia,
   wrap64 (show -9223372036854775808≤S.prod ((m.nodes.take j).map (·.card))*x.card by omega) (show S.prod ((m.nodes.take j).map (·.card))*x.card<9223372036854775808 by omega)]
  cases hpf:S.places x.frm m.nodes.length with
  | false =>
   simp only[sx,sy,SO.run,↓reduceIte,Nat.reduceEqDiff,Bool.not_false]
   rw[bad (by simp only[S.nodeOk,hpf,Bool.false_and])]
  | true =>
   simp only[sx,sy,SO.run,↓reduceIte,Nat.reduceEqDiff,Nat.reduceAdd,Bool.not_true,h1,hg,hne,Option.isSome_some,Option.getD_some,hR.len,ib]
   cases hpn:S.places x.noise m.roots.length with
   | false =>
    simp only[sx,sy,SO.run,↓reduceIte,Nat.reduceEqDiff,Bool.not_false]
    rw[bad (by simp only[S.nodeOk,hpn,Bool.and_false,Bool.false_and])]
   | true =>
    simp only[sx,sy,SO.run,↓reduceIte,Nat.reduceEqDiff,Nat.reduceAdd,Bool.not_true,hfa.len]
    obtain ⟨g1,hg1⟩:∃g1,g1=(g.new (AObj.cells 4 [[AV.int IntKind.i64 0,AV.nils,AV.nils,AV.nils]] 0 false false)).put g.nx (AObj.cells 4 [[AV.int IntKind.i64 x.card,fa,fb,fc]] 0 false false):=⟨_,rfl⟩
    have f0:g1.h.get 0=.cells 3 [[.int .i64 m.grain,a,b]] 0 false false:=by rw[hg1];simp[H.get_put,hne,hg]
    have f1:g1.h.get g.nx=.cells 4 [[.int .i64 x.card,fa,fb,fc]] 0 false false:=by rw[hg1];simp[H.get_put]
    have f2:g1.nx=g.nx+1:=by rw[hg1];simp
    rw[←hg1]
    clear hg1
    generalize g.nx=q at *
    refine wpL_range hfa.1 (fun i t df g'=>df=[]∧g'=g1∧St t [(1,.hptr 0 0 0 0),(11,b),(12,.int .i64 m.nodes.length),(13,.int .i64 j),(3,.int .i64 (S.prod ((m.nodes.take j).map (·.card))*x.card)),(4,.int .i64 j),(5,.hptr q 0 0 0),(39,fa)]∧(x.frm.take i).contains (j:Int)=false)
     ⟨rfl,rfl,by simp[St,sx,h1,h11,h12,h13],by simp⟩ (by simp[sx]) (by simp[sx]) (by decide) (by rintro j t df g v s (rfl | rfl | rfl)<;>simp[St,sx]) ?_ ?_
    ·rintro i t df g' hi ⟨rfl,rfl,⟨h1,h11,h12,h13,h3,h4,h5,h39,-⟩,hcn⟩ h41 h40
     obtain ⟨p,hp,htk2,hm2⟩:=take_next hi
     simp only[sx,sy,SO.run,↓reduceIte,Nat.reduceEqDiff,h1,h3,h4,h5,h11,h12,h13,h39,h40,h41,(hfa.tree (h':=g'.h) (Nat.le_refl _)).ints,hi,hp,Option.isSome_some,Option.getD_some,List.length_map,List.getElem?_map,Option.map_some,ci]
     refine bifP_mk (fun hb=>?_) (fun hb=>?_)
     ·simp only[sx,sy,SO.run,↓reduceIte,Nat.reduceEqDiff]
      have hb:p=j:=by simpa using hb
      subst hb
      rw[bad (by simp[S.nodeOk,hm2])]
     ·simp only[sx,sy,SO.run,↓reduceIte,Nat.reduceEqDiff,St,h1,h3,h4,h5,h11,h12,h13,h39,h40,h41,true_and,and_true]
      have hb:p≠j:=by simpa using hb
      rw[htk2]
      simp at hcn ⊢
      exact ⟨hcn,fun e=>hb e.symm⟩
    ·rintro t df g' ⟨rfl,rfl,⟨h1,h11,h12,h13,h3,h4,h5,h39,-⟩,hcn⟩
     rw[List.take_length] at hcn
     have hms:Agg m NoP (max k d) g'.h (.agg [.int .i64 m.grain,a,b]):=⟨_,rfl,rp_causal.2 ⟨a,b,rfl,hR.tree (Nat.le_refl _),hN.tree (Nat.le_refl _)⟩⟩
     have hxs:Agg x NoP (max k d) g'.h (.agg [.int .i64 x.card,fa,fb,fc]):=⟨_,rfl,rp_mech.2 ⟨fa,fb,fc,rfl,hfa.tree (Nat.le_refl _),hfb.tree (Nat.le_refl _),hfc.tree (Nat.le_refl _)⟩⟩
     have c1:=prod_map_bound (f:=S.cardAt m) (l:=x.frm) (n:=5) (fun z hz=>cardAt_bound hs (places_mem hpf z hz)) (by have:=places_len hpf;have:=hs.nodes;omega)
     have c2:=prod_map_bound (f:=S.lenAt m) (l:=x.noise) (n:=8) (fun z hz=>lenAt_bound hs (places_mem hpn z hz)) (by have:=places_len hpn;have:=hs.roots;omega)
     have c3:=Int.mul_le_mul c1.2 c2.2 (by omega) (by decide)
     have c4:=Int.mul_nonneg (show 0≤S.prod (x.frm.map (S.cardAt m)) by omega) (show 0≤S.prod (x.noise.map (S.lenAt m)) by omega)
     change S.above m x*S.beside m x≤_ at c3
     change 0≤S.above m x*S.beside m x at c4
     simp only[f_twin_nodesRight_k1,sx,sy,SO.run,↓reduceIte,Nat.reduceEqDiff,Nat.reduceAdd,Nat.reduceLeDiff,h1,h3,h4,h5,h11,h12,h13,f0,f1,sizes_ok (Nat.succ_pos d) hms hxs hs hpf hpn,Option.isSome_some,Option.getD_some,hfc.len,
      wrap64 (show -9223372036854775808≤S.above m x*S.beside m x by omega) (show S.above m x*S.beside m x<9223372036854775808 by omega)]
     refine bifP_mk (fun hb=>?_) (fun hb=>?_)
     ·simp only[sx,sy,SO.run,↓reduceIte,Nat.reduceEqDiff,hb]
      rw[bad (by simp at hb;simp[S.nodeOk,hb])]
     ·have ho:(x.out.length:Int)=S.above m x*S.beside m x:=by simpa using hb
      simp only[sx,sy,SO.run,↓reduceIte,Nat.reduceEqDiff,Nat.reduceAdd,hb,h5,f1,wrap64 (show -9223372036854775808≤x.card - 1 by omega) (show x.card - 1<9223372036854775808 by omega),within_sl (Nat.succ_pos d) (hfc.tree (h':=g'.h) (Nat.le_refl _))]
      cases hwi:S.within 0 (x.card - 1) x.out with
      | false =>
       simp only[sx,sy,SO.run,↓reduceIte,Nat.reduceEqDiff,Bool.not_false]
       rw[bad (by simp only[S.nodeOk,hwi,Bool.and_false])]
      | true =>
       simp only[f_twin_nodesRight_k2,sx,sy,SO.run,↓reduceIte,Nat.reduceEqDiff,Bool.not_true,St,h1,h3,h11,h12,h13,f0,true_and,and_true]
       refine ⟨?_,by omega,?_⟩
       ·rw[htk,List.map_append,List.map_singleton,prod_snoc]
       ·rw[all_range_succ,hw,hx]
        simp only[Option.map_some,Option.getD_some,S.nodeOk,hpf,hpn,hcn,ho,hwi,Bool.true_and,Bool.not_false,decide_true,Bool.and_self]
 ·rintro t df g ⟨rfl,⟨h1,h11,h3,-⟩,hg,hnx,hw⟩
  rw[List.take_length] at h3
  simp only[sx,sy,SO.run,↓reduceIte,Nat.reduceEqDiff,f_twin_nodesRight_k4,h3]
  rw[S.nodesOk,hw];rfl
end
end Hx
end
section
namespace Hx
open Go
noncomputable section
def S.diff (a b:Nat):Nat:=a ^^^ (a &&& b)
def S.roundA (p:List Nat)(s:Nat)(j:Nat):Nat:=(List.range j).foldl (fun s v=>if S.diff (p[v]?.getD 0) s=0 then s ||| S.bit v else s) s
def S.placed (p:List Nat)(j:Nat):Nat:=(List.range j).foldl (fun s _=>S.roundA p s p.length) 0
theorem roundA_succ (p:List Nat)(s j:Nat):S.roundA p s (j+1)=if S.diff (p[j]?.getD 0) (S.roundA p s j)=0 then S.roundA p s j ||| S.bit j else S.roundA p s j:=by
 unfold S.roundA
 rw[List.range_succ,List.foldl_append];rfl
theorem roundA_lt {p:List Nat}{s:Nat}(hs:s<18446744073709551616):∀j,S.roundA p s j<18446744073709551616
 | 0=>hs
 | j+1=>by
  rw[roundA_succ]
  split
  ·exact or_lt (roundA_lt hs j) (bit_lt _)
  ·exact roundA_lt hs j
theorem placed_succ (p:List Nat)(j:Nat):S.placed p (j+1)=S.roundA p (S.placed p j) p.length:=by
 unfold S.placed
 rw[List.range_succ,List.foldl_append];rfl
theorem placed_lt {p:List Nat}:∀j,S.placed p j<18446744073709551616
 | 0=>by simp[S.placed]
 | j+1=>by rw[placed_succ];exact roundA_lt (placed_lt j) _
def S.pars (m:Causal):List Nat:=m.nodes.map fun x=>S.mask x.frm
def S.tacyc (m:Causal):Bool:=decide (S.placed (S.pars m) m.nodes.length=2 ^ m.nodes.length - 1)
theorem bit_eq {n:Nat}(h:n<64):S.bit n=2 ^ n:=by
 unfold S.bit
 rw[Nat.one_mul,Nat.mod_eq_of_lt]
 exact Nat.pow_lt_pow_right (a:=2) (by decide) h
theorem acyclic_ok {d k:Nat}{g:G}{P:Nat→Prop}{v:AV}{m:Causal}(hd:0<d)(hm:Agg m P k g.h v)(hn5:m.nodes.length≤5)(hf:∀x∈m.nodes,∀p∈x.frm,0≤p) :
  callV C0 d N.twin_acyclic [v] g=.val (.bool (S.tacyc m)):=by
 obtain ⟨v',e,cs,rfl,hc⟩:=arg_of (snb_agg m) (by decide) d hm
 obtain ⟨a,b,rfl,hR,hN⟩:=rp_causal.1 hc
 obtain ⟨rows,r1,r2,r3,r4⟩:=hN.all
 have r1:∀h',rowsOf h' 4 b=some rows:=r1
 have hpl:(S.pars m).length=m.nodes.length:=by simp[S.pars]
 rw[call_twin_acyclic]
 refine iso_bool eq_twin_acyclic (xs:=[.agg [.int .i64 m.grain,a,b]]) (by simp only[mapO,e]) (by simp[f_twin_acyclic]) hd ?_
 simp only[f_twin_acyclic,f_twin_acyclic_r,sx,sy,SO.run,↓reduceIte,Nat.reduceEqDiff,Nat.reduceAdd,hN.len]
 refine wpL_range (m:=m.nodes.length) (by omega) (fun j t df g=>df=[]∧St t [(1,.hptr 0 0 0 0),(3,.int .u64 (S.placed (S.pars m) j:Int))]∧g.h.get 0=.cells 3 [[.int .i64 m.grain,a,b]] 0 false false∧1≤g.nx)
  ⟨rfl,by simp[St,sx,S.placed],by simp[sx],by simp[sx]⟩ (by simp[sx]) (by simp[sx]) (by decide) (by rintro j t df g v s (rfl | rfl | rfl)<;>simp[St,sx]) ?_ ?_
 ·rintro j t df g hj ⟨rfl,⟨h1,h3,-⟩,hg,hnx⟩ h9 h8
  simp only[sx,sy,SO.run,↓reduceIte,Nat.reduceEqDiff,Nat.reduceAdd,h1,hg,hN.len]
  refine wpL_range (m:=m.nodes.length) (by omega) (fun i t df g=>df=[]∧St t [(1,.hptr 0 0 0 0),(8,.int .i64 m.nodes.length),(9,.int .i64 j),(12,b),(3,.int .u64 (S.roundA (S.pars m) (S.placed (S.pars m) j) i:Int))]∧g.h.get 0=.cells 3 [[.int .i64 m.grain,a,b]] 0 false false∧1≤g.nx)
   ⟨rfl,by simp[St,sx,S.roundA,h1,h3,h8,h9],hg,hnx⟩ (by simp[sx]) (by simp[sx]) (by decide) (by rintro j t df g v s (rfl | rfl | rfl)<;>simp[St,sx]) ?_ ?_
  ·rintro i t df g hi ⟨rfl,⟨h1,h8,h9,h12,h3,-⟩,hg,hnx⟩ h14 h13
   obtain ⟨x,hx,htk,hm⟩:=take_next hi
   obtain ⟨row,q1,q2⟩:=r3 i x hx
   obtain ⟨fa,fb,fc,rfl,hfa,hfb,hfc⟩:=rp_mech.1 q2
   have hlt:i<rows.length:=by omega
   have hry:=r4 (by omega)
   have hne:¬(0=g.nx):=by omega
   have hpi:(S.pars m)[i]?.getD 0=S.mask x.frm:=by simp[S.pars,hx]
   have sa:∀(g:G),callV C0 (d+1) N.twin_setOf [fa] g=.val (.int .u64 (S.mask x.frm:Int)):=fun g=>setOf_ok (Nat.succ_pos d) (hfa.tree (h':=g.h) (Nat.le_refl _)) (hf x hm)
   have hlr:=roundA_lt (p:=S.pars m) (placed_lt (p:=S.pars m) j) i
   simp only[sx,sy,SO.run,↓reduceIte,Nat.reduceEqDiff,Nat.reduceAdd,Nat.reduceLeDiff,h1,h3,h8,h9,h12,h13,h14,hg,r1,hlt,q1,hry,hne,Option.isSome_some,Option.getD_some,sa,bin_andNot _ _ (mask_lt _) hlr]
   refine bifP_mk (fun hb=>?_) (fun hb=>?_)
   ·have hb:S.diff (S.mask x.frm) (S.roundA (S.pars m) (S.placed (S.pars m) j) i)=0:=by unfold S.diff;simp only[decide_eq_true_eq] at hb;omega
    simp only[f_twin_acyclic_k0,sx,sy,SO.run,↓reduceIte,Nat.reduceEqDiff,h1,h3,h8,h9,h12,h13,h14,bin_one_shl,bin_or _ _ hlr (bit_lt _),St,hg,hne,true_and,and_true]
    refine ⟨?_,by omega⟩
    rw[roundA_succ,hpi,if_pos hb]
   ·have hb:¬S.diff (S.mask x.frm) (S.roundA (S.pars m) (S.placed (S.pars m) j) i)=0:=by unfold S.diff;simp only[decide_eq_false_iff_not] at hb;omega
    simp only[f_twin_acyclic_k0,sx,sy,SO.run,↓reduceIte,Nat.reduceEqDiff,h1,h3,h8,h9,h12,h13,h14,St,hg,hne,true_and,and_true]
    refine ⟨?_,by omega⟩
    rw[roundA_succ,hpi,if_neg hb]
  ·rintro t df g ⟨rfl,⟨h1,h8,h9,h12,h3,-⟩,hg,hnx⟩
   simp only[f_twin_acyclic_k2,sx,sy,SO.run,↓reduceIte,Nat.reduceEqDiff,h1,h3,h8,h9,St,hg,hnx,true_and,and_true]
   rw[placed_succ,hpl]
 ·rintro t df g ⟨rfl,⟨h1,h3,-⟩,hg,hnx⟩
  have hp2:2 ^ m.nodes.length≤2 ^ 5:=Nat.pow_le_pow_right (by decide) hn5
  have hp1:0<2 ^ m.nodes.length:=Nat.pow_pos (by decide)
  simp only[f_twin_acyclic_k4,sx,sy,SO.run,↓reduceIte,Nat.reduceEqDiff,h1,h3,hg,hN.len,bin_one_shl,bit_eq (show m.nodes.length<64 by omega),wrapu64 (show (0:Int)≤((2 ^ m.nodes.length:Nat):Int) - 1 by omega) (show ((2 ^ m.nodes.length:Nat):Int) - 1<18446744073709551616 by omega)]
  unfold S.tacyc
  congr 1
  rw[Bool.eq_iff_iff,decide_eq_true_iff,decide_eq_true_iff];omega
def S.check (m:Causal):Bool :=
 decide (1≤m.grain)&&decide (m.grain≤12)&&decide (m.roots.length≤8)&&decide (1≤m.nodes.length)&&decide (m.nodes.length≤5)&&S.rootsOk m&&(m.nodes.all fun x=>decide (1≤x.card)&&decide (x.card≤4))&&S.nodesOk m&&S.tacyc m
theorem small_of {m:Causal}(h1:m.roots.length≤8)(h2:m.nodes.length≤5)(h3:S.rootsOk m=true)(h4:∀x∈m.nodes,1≤x.card∧x.card≤4):S.Small m :=
 ⟨h2,h1,h4,fun r hr=>by
  have:=(Bool.and_eq_true _ _ ▸ h3:_∧_).1
  have:=List.all_eq_true.1 this r hr
  simp[S.rootOk] at this
  omega⟩
theorem nodesOk_mem {m:Causal}(h:S.nodesOk m=true){i:Nat}{x:Mech}(hx:m.nodes[i]?=some x):S.nodeOk m i x=true:=by
 have:=(Bool.and_eq_true _ _ ▸ h:_∧_).1
 have:=List.all_eq_true.1 this i (List.mem_range.2 (List.getElem?_eq_some_iff.1 hx).1)
 simpa [hx] using this
theorem nodesOk_frm {m:Causal}(h:S.nodesOk m=true):∀x∈m.nodes,∀p∈x.frm,0≤p∧p<m.nodes.length:=by
 intro x hx p hp
 obtain ⟨i,hi,rfl⟩:=List.mem_iff_getElem.1 hx
 have:=nodesOk_mem h (List.getElem?_eq_getElem hi)
 simp only[S.nodeOk,Bool.and_eq_true] at this
 exact places_mem this.1.1.1.1 p hp
theorem check_ok {d k:Nat}{g:G}{P:Nat→Prop}{v:AV}{m:Causal}(hd:0<d)(hm:Agg m P k g.h v) :
  callV C0 d N.twin_Check [v] g=.val (.int .i64 (if S.check m then 0 else 330)):=by
 obtain ⟨v',e,cs,rfl,hc⟩:=arg_of (snb_agg m) (by decide) d hm
 obtain ⟨a,b,rfl,hR,hN⟩:=rp_causal.1 hc
 obtain ⟨rows,r1,r2,r3,r4⟩:=hN.all
 have r1:∀h',rowsOf h' 4 b=some rows:=r1
 have hms:∀g:G,Agg m NoP (max k d) g.h (.agg [.int .i64 m.grain,a,b]):=fun g=>⟨_,rfl,rp_causal.2 ⟨a,b,rfl,hR.tree (Nat.le_refl _),hN.tree (Nat.le_refl _)⟩⟩
 rw[call_twin_Check]
 refine iso_int eq_twin_Check (xs:=[.agg [.int .i64 m.grain,a,b]]) (by simp only[mapO,e]) (by simp[f_twin_Check]) hd ?_
 simp only[f_twin_Check,sx,sy,SO.run,↓reduceIte,Nat.reduceEqDiff,Nat.reduceAdd]
 have bad':¬(S.check m=true)→AV.int IntKind.i64 330=AV.int IntKind.i64 (if S.check m=true then 0 else 330):=fun h=>by rw[if_neg h]
 generalize hg0:(G.empty.new (AObj.cells 3 [[AV.int IntKind.i64 m.grain,a,b]] 0 false false))=g0
 have f0:g0.h.get 0=.cells 3 [[.int .i64 m.grain,a,b]] 0 false false:=by rw[←hg0];simp[sx]
 have f1:1≤g0.nx:=by rw[←hg0];simp[sx]
 clear hg0
 simp only[f_twin_Check_r,sx,sy,SO.run,↓reduceIte,Nat.reduceEqDiff,Nat.reduceAdd,Nat.reduceLeDiff,f0,within_lit (Nat.succ_pos d)]
 cases c1:(decide (1≤m.grain)&&decide (m.grain≤12)) with
 | false =>
  simp only[sx,sy,SO.run,↓reduceIte,Nat.reduceEqDiff,Bool.not_false]
  simp only[S.check,c1,Bool.false_and,Bool.false_eq_true,if_false]
 | true =>
  obtain ⟨g1,hg1⟩:∃g1,g1=g0.new (AObj.cells 1 [[AV.int IntKind.i64 m.grain]] 0 false false):=⟨_,rfl⟩
  have e0:g1.h.get 0=.cells 3 [[.int .i64 m.grain,a,b]] 0 false false:=by rw[hg1,G.new_h,get_put_ne _ _ _ (by omega),f0]
  have e1:1≤g1.nx:=by rw[hg1];simp
  rw[←hg1];clear hg1
  simp only[sx,sy,SO.run,↓reduceIte,Nat.reduceEqDiff,Nat.reduceAdd,Bool.not_true,e0,hR.len,within_lit (Nat.succ_pos d)]
  cases c2:(decide (0≤(m.roots.length:Int))&&decide ((m.roots.length:Int)≤8)) with
  | false =>
   simp only[sx,sy,SO.run,↓reduceIte,Nat.reduceEqDiff,Bool.not_false]
   have:decide (m.roots.length≤8)=false:=by simp at c2 ⊢;omega
   simp only[S.check,this,Bool.false_and,Bool.and_false,Bool.false_eq_true,if_false]
  | true =>
   obtain ⟨g2,hg2⟩:∃g2,g2=g1.new (AObj.cells 1 [[AV.int IntKind.i64 m.roots.length]] 0 false false):=⟨_,rfl⟩
   have d0:g2.h.get 0=.cells 3 [[.int .i64 m.grain,a,b]] 0 false false:=by rw[hg2,G.new_h,get_put_ne _ _ _ (by omega),e0]
   have d1:1≤g2.nx:=by rw[hg2];simp
   rw[←hg2];clear hg2
   simp only[sx,sy,SO.run,↓reduceIte,Nat.reduceEqDiff,Nat.reduceAdd,Bool.not_true,d0,hN.len,within_lit (Nat.succ_pos d)]
   cases c3:(decide (1≤(m.nodes.length:Int))&&decide ((m.nodes.length:Int)≤5)) with
   | false =>
    simp only[sx,sy,SO.run,↓reduceIte,Nat.reduceEqDiff,Bool.not_false]
    exact bad' (fun h=>by simp[S.check] at h;simp at c3;omega)
   | true =>
    obtain ⟨g3,hg3⟩:∃g3,g3=g2.new (AObj.cells 1 [[AV.int IntKind.i64 m.nodes.length]] 0 false false):=⟨_,rfl⟩
    have b0:g3.h.get 0=.cells 3 [[.int .i64 m.grain,a,b]] 0 false false:=by rw[hg3,G.new_h,get_put_ne _ _ _ (by omega),d0]
    have b1:1≤g3.nx:=by rw[hg3];simp
    rw[←hg3];clear hg3
    have q1:1≤m.grain∧m.grain≤12:=by simpa using c1
    have q2:m.roots.length≤8:=by simp at c2;omega
    have q3:1≤m.nodes.length∧m.nodes.length≤5:=by simp at c3;omega
    simp only[sx,sy,SO.run,↓reduceIte,Nat.reduceEqDiff,Nat.reduceAdd,Nat.reduceLeDiff,Bool.not_true,b0,rootsRight_ok (Nat.succ_pos d) (hms _) q1.1 q1.2 q2]
    cases c4:S.rootsOk m with
    | false =>
     simp only[sx,sy,SO.run,↓reduceIte,Nat.reduceEqDiff,Bool.not_false]
     exact bad' (fun h=>by simp[S.check,c4] at h)
    | true =>
     simp only[sx,sy,SO.run,↓reduceIte,Nat.reduceEqDiff,Nat.reduceAdd,Bool.not_true,b0,hN.len]
     refine wpL_range (m:=m.nodes.length) (by omega) (fun j t df g=>df=[]∧St t [(1,.hptr 0 0 0 0),(30,b)]∧g.h.get 0=.cells 3 [[.int .i64 m.grain,a,b]] 0 false false∧1≤g.nx∧(m.nodes.take j).all (fun x=>decide (1≤x.card)&&decide (x.card≤4))=true)
      ⟨rfl,by simp[St,sx],b0,b1,rfl⟩ (by simp[sx]) (by simp[sx]) (by decide) (by rintro j t df g v s (rfl | rfl | rfl)<;>simp[St,sx]) ?_ ?_
     ·rintro j t df g hj ⟨rfl,⟨h1,h30,-⟩,hg,hnx,hw⟩ h32 h31
      obtain ⟨x,hx,htk,hm⟩:=take_next hj
      obtain ⟨row,p1,p2⟩:=r3 j x hx
      obtain ⟨fa,fb,fc,rfl,hfa,hfb,hfc⟩:=rp_mech.1 p2
      have hlt:j<rows.length:=by omega
      have hry:=r4 (by omega)
      have hne:¬(0=g.nx):=by omega
      simp only[sx,sy,SO.run,↓reduceIte,Nat.reduceEqDiff,Nat.reduceAdd,Nat.reduceLeDiff,h1,h30,h31,h32,hg,r1,hlt,p1,hry,hne,Option.isSome_some,Option.getD_some]
      obtain ⟨g4,hg4⟩:∃g4,g4=(g.new (AObj.cells 4 [[AV.int IntKind.i64 0,AV.nils,AV.nils,AV.nils]] 0 false false)).put g.nx (AObj.cells 4 [[AV.int IntKind.i64 x.card,fa,fb,fc]] 0 false false):=⟨_,rfl⟩
      have a0:g4.h.get 0=.cells 3 [[.int .i64 m.grain,a,b]] 0 false false:=by rw[hg4];simp[H.get_put,hne,hg]
      have a2:g4.nx=g.nx+1:=by rw[hg4];simp
      rw[←hg4];clear hg4
      rw[show AV.hsl (g.nx+1) 0 0 1 none=AV.hsl g4.nx 0 0 1 none by rw[a2]]
      simp only[sx,sy,SO.run,↓reduceIte,Nat.reduceEqDiff,Nat.reduceAdd,within_lit (Nat.succ_pos d)]
      cases c5:(decide (1≤x.card)&&decide (x.card≤4)) with
      | false =>
       simp only[sx,sy,SO.run,↓reduceIte,Nat.reduceEqDiff,Bool.not_false]
       refine bad' (fun h=>?_)
       simp only[S.check,Bool.and_eq_true] at h
       have:=List.all_eq_true.1 h.1.1.2 x hm
       rw[c5] at this;cases this
      | true =>
       simp only[sx,sy,SO.run,↓reduceIte,Nat.reduceEqDiff,Bool.not_true,St,h1,h30,h31,h32,true_and,and_true]
       refine ⟨?_,by simp,?_⟩
       ·rw[if_neg (by omega),a0]
       ·rw[htk,List.all_append,hw]
        simp only[List.all_cons,List.all_nil,c5];rfl
     ·rintro t df g ⟨rfl,⟨h1,h30,-⟩,hg,hnx,hw⟩
      rw[List.take_length] at hw
      have hcard:∀x∈m.nodes,1≤x.card∧x.card≤4:=fun x hx=>by have:=List.all_eq_true.1 hw x hx;simpa using this
      have hs:=small_of q2 q3.2 c4 hcard
      simp only[f_twin_Check_k1,sx,sy,SO.run,↓reduceIte,Nat.reduceEqDiff,Nat.reduceAdd,Nat.reduceLeDiff,h1,hg,nodesRight_ok (Nat.succ_pos d) (hms _) hs]
      cases c6:S.nodesOk m with
      | false =>
       simp only[sx,sy,SO.run,↓reduceIte,Nat.reduceEqDiff,Bool.not_false]
       exact bad' (fun h=>by simp[S.check,c6] at h)
      | true =>
       simp only[sx,sy,SO.run,↓reduceIte,Nat.reduceEqDiff,Nat.reduceAdd,Nat.reduceLeDiff,Bool.not_true,h1,hg,acyclic_ok (Nat.succ_pos d) (hms _) q3.2 (fun x hx p hp=>(nodesOk_frm c6 x hx p hp).1)]
       cases c7:S.tacyc m with
       | false =>
        simp only[sx,sy,SO.run,↓reduceIte,Nat.reduceEqDiff,Bool.not_false]
        exact bad' (fun h=>by simp[S.check,c7] at h)
       | true =>
        simp only[sx,sy,SO.run,↓reduceIte,Nat.reduceEqDiff,Bool.not_true]
        rw[if_pos]
        simp[S.check,c4,c6,c7,q1,q2,q3]
        exact hcard
end
end Hx
end
section
namespace Hx
open Go
noncomputable section
theorem allPairsFrom_of {α:Type}{f:Nat→α→Nat→α→Bool}{i:Nat}{x:α}:∀{l:List α}{j:Nat},(∀b y,l[b]?=some y→f i x (j+b) y=true)→allPairsFrom f i x j l=true
 | [],_,_=>rfl
 | y::r,j,h=>by
  simp only[allPairsFrom,Bool.and_eq_true]
  refine ⟨by simpa using h 0 y rfl,allPairsFrom_of fun b z hb=>?_⟩
  have:=h (b+1) z (by simpa using hb)
  rwa [show j+(b+1)=j+1+b by omega] at this
theorem allPairs_of {α:Type}{f:Nat→α→Nat→α→Bool}:∀{l:List α}{i:Nat},(∀a b x y,a<b→l[a]?=some x→l[b]?=some y→f (i+a) x (i+b) y=true)→allPairs f i l=true
 | [],_,_=>rfl
 | x::r,i,h=>by
  simp only[allPairs,Bool.and_eq_true]
  refine ⟨allPairsFrom_of fun b y hb=>?_,allPairs_of fun a b x' y hab ha hb=>?_⟩
  ·have:=h 0 (b+1) x y (by omega) rfl (by simpa using hb)
   rwa [Nat.add_zero,show i+(b+1)=i+1+b by omega] at this
  ·have:=h (a+1) (b+1) x' y (by omega) (by simpa using ha) (by simpa using hb)
   rwa [show i+(a+1)=i+1+a by omega,show i+(b+1)=i+1+b by omega] at this
theorem softOnce_of {pm:List Nat}:∀{l:List Foot}{i:Nat},(∀f∈l,f.lk.sr=[])→softOnce pm i l=true
 | [],_,_=>rfl
 | x::r,i,h=>by
  simp only[softOnce,h x (by simp),bif'_eq,if_true]
  exact softOnce_of fun f hf=>h f (by simp[hf])
def pairOk (pm:List Nat)(ws:List Bool)(L:List (Nat×Nat))(i j:Nat):Bool:=(pm.getD j 0).testBit i || (!(ws.getD i false)&&!(ws.getD j false)) || L.contains (i,j)
def pairsOk (pm:List Nat)(ws:List Bool)(L:List (Nat×Nat)):Bool:=(List.range ws.length).all fun j=>(List.range j).all fun i=>pairOk pm ws L i j
theorem footsOk_mk {pm:List Nat}{fs:List Foot}(ws:List Bool)(L:List (Nat×Nat))(hw:All2 (fun (f:Foot)(w:Bool)=>f.lk.sr=[]∧(w=false→f.wr=[])) fs ws)(hd:pairsOk pm ws L=true)
  (hL:∀p∈L,∀x y,fs[p.1]?=some x→fs[p.2]?=some y→footsApart x y=true):footsOk pm fs=true:=by
 unfold footsOk
 rw[bif'_eq,if_pos]
 ·exact softOnce_of fun f hf=>by
   obtain ⟨i,hi,rfl⟩:=List.mem_iff_getElem.1 hf
   obtain ⟨w,-,h⟩:=hw.get (List.getElem?_eq_getElem hi)
   exact h.1
 ·refine allPairs_of fun a b x y hab ha hb=>?_
  simp only[Nat.zero_add]
  obtain ⟨wa,hwa,ka⟩:=hw.get ha
  obtain ⟨wb,hwb,kb⟩:=hw.get hb
  have hbl:=(List.getElem?_eq_some_iff.1 hwb).1
  have:=List.all_eq_true.1 (List.all_eq_true.1 hd b (List.mem_range.2 hbl)) a (List.mem_range.2 hab)
  simp only[pairOk,Bool.or_eq_true] at this
  rcases this with (h | h) | h
  ·rw[h,Bool.true_or]
  ·simp only[List.getD_eq_getElem?_getD,hwa,hwb,Option.getD_some,Bool.and_eq_true,Bool.not_eq_true'] at h
   have ex:=ka.2 h.1
   have ey:=kb.2 h.2
   simp only[footsApart,footFree,footFreeS,ex,ey,Bool.and_self,Bool.or_true]
  ·rw[hL (a,b) (List.contains_iff_mem.1 h) x y ha hb,Bool.or_true]
theorem apart_fresh {x y:Foot}{b:Nat}(hx:∀i∈x.wr,b≤i)(hy:y.wr=[])(hb:y.lk.big=false)(hr:∀i∈y.lk.rd,i<b)(hs:y.lk.sr=[]):footsApart x y=true:=by
 have m1:meets x.wr []=false:=by simp[meets]
 have m2:meets x.wr y.lk.rd=false:=by
  simp only[meets,List.any_eq_false]
  intro i hi h
  have h1:=hx i hi
  have h2:=hr i (List.contains_iff_mem.1 h)
  omega
 simp only[footsApart,footFree,footFreeS,hy,hb,hs,m1,m2,fst1,List.map_nil,Bool.not_false,Bool.and_self,Bool.and_true]
 split<;>rfl
end
end Hx
end
section
namespace Hx
open Go
noncomputable section
theorem rplaces_ok {d k:Nat}{g:G}{P:Nat→Prop}{v:AV}{l:List Int}{n:Int}(hd:0<d)(hv:SlR P k g.h l v) :
  callV C0 d N.ref02_Places [v,.int .i64 n] g=.val (.bool (S.places l n)):=by
 obtain ⟨v',e,r1⟩:=arg_sl hv d
 rw[call_ref02_Places]
 refine iso_bool eq_ref02_Places (xs:=[v',.int .i64 n]) (by simp only[mapO,arg_int 0,e]) (by simp[f_ref02_Places]) hd ?_
 simp only[f_ref02_Places,sx,sy,SO.run,↓reduceIte,Nat.reduceEqDiff,(r1 .nil).len]
 have hl:=hv.1
 refine wpL_len hl (r1 .nil).len (fun j t df g=>df=[]∧tat t 1=.int .i64 n∧(List.range j).all (S.placeAt l n)=true)
  ⟨rfl,by simp[sx],rfl⟩ (by simp[sx]) (by simp[sx]) (by decide) (by rintro j t df g v s (rfl | rfl | rfl | rfl | rfl | rfl | rfl)<;>simp[sx]) ?_ ?_
 ·rintro j t df g hj ⟨rfl,h1,hw⟩ h5 h0
  obtain ⟨x,hx,htk,hm⟩:=take_next hj
  have bad:S.placeAt l n j=false→S.places l n=false:=fun h=>all_range_false hj h
  have rr:=(r1 g.h).ints
  simp only[sx,sy,SO.run,↓reduceIte,Nat.reduceEqDiff,rr,h0,h1,h5,hx,hj,Option.isSome_some,Option.getD_some,List.length_map,List.getElem?_map,Option.map_some,ci]
  refine bifP_mk (fun hb=>?_) (fun hb=>?_)
  ·simp only[sx,sy,SO.run,↓reduceIte,Nat.reduceEqDiff,hb,true_and]
   rw[bad (by simp[S.placeAt,hx] at *;omega)]
  ·simp only[sx,sy,SO.run,↓reduceIte,Nat.reduceEqDiff,rr,hb,h0,h1,h5,hx,hj,Option.isSome_some,Option.getD_some,List.length_map,List.getElem?_map,Option.map_some,ci]
   refine bifP_mk (fun hc=>?_) (fun hc=>?_)
   ·simp only[sx,sy,SO.run,↓reduceIte,Nat.reduceEqDiff,hc,true_and]
    rw[bad (by simp[S.placeAt,hx] at *;omega)]
   ·simp only[sx,sy,SO.run,↓reduceIte,Nat.reduceEqDiff,hc,h5]
    refine bifP_mk (fun hd=>?_) (fun hd=>?_)
    ·obtain ⟨i,rfl⟩:∃i,j=i+1:=⟨j - 1,by simp at hd;omega⟩
     obtain ⟨y,hy,-,-⟩:=take_next (l:=l) (j:=i) (by omega)
     have hi:i<l.length:=by omega
     have e:IntKind.wrap .i64 (((i+1:Nat):Int) - 1)=(i:Int):=by rw[wrap64 (by omega) (by omega)];omega
     simp only[sx,sy,SO.run,↓reduceIte,Nat.reduceEqDiff,rr,hd,e,h0,h5,hx,hj,hy,hi,Option.isSome_some,Option.getD_some,List.length_map,List.getElem?_map,Option.map_some,ci]
     refine bifP_mk (fun he=>?_) (fun he=>?_)
     ·simp only[sx,sy,SO.run,↓reduceIte,Nat.reduceEqDiff,true_and]
      rw[bad (by simp[S.placeAt,hx,hy] at *;omega)]
     ·simp only[sx,sy,SO.run,↓reduceIte,Nat.reduceEqDiff,h0,h1,h5,true_and,and_true]
      rw[all_range_succ,hw]
      simp[S.placeAt,hx,hy] at *;omega
    ·have:j=0:=by simp at hd;omega
     subst this
     simp only[sx,sy,SO.run,↓reduceIte,Nat.reduceEqDiff,hd,h0,h1,h5,true_and,and_true]
     simp[S.placeAt,hx] at *;omega
 ·rintro t df g ⟨rfl,-,hw⟩ -
  simp only[f_ref02_Places_k1,sx,sy,SO.run,↓reduceIte,Nat.reduceEqDiff]
  rw[S.places,hw]
def S.sizes (m:Causal)(x:Mech):List Int:=x.frm.map (S.cardAt m)++x.noise.map (S.lenAt m)
theorem rsizes_ok {d k:Nat}{g:G}{P:Nat→Prop}{v:AV}{m:Causal}{i:Nat}{x:Mech}(hd:0<d)(hm:Agg m P k g.h v)(hx:m.nodes[i]?=some x)(hn5:m.nodes.length≤5)(hn8:m.roots.length≤8)
  (hf:S.places x.frm m.nodes.length=true) (hn:S.places x.noise m.roots.length=true) :
  ∃r,callV C0 d N.ref33_sizes [v,.int .i64 (i:Int)] g=.val r∧IT 0 (S.sizes m x) r:=by
 obtain ⟨v',e,cs,rfl,hc⟩:=arg_of (snb_agg m) (by decide) d hm
 obtain ⟨a,b,rfl,hR,hN⟩:=rp_causal.1 hc
 obtain ⟨rows,r1,r2,r3,r4⟩:=hN.all
 have r1:∀h',rowsOf h' 4 b=some rows:=r1
 obtain ⟨row,q1,q2⟩:=r3 i x hx
 obtain ⟨fa,fb,fc,rfl,hfa,hfb,hfc⟩:=rp_mech.1 q2
 have hi:=(List.getElem?_eq_some_iff.1 hx).1
 have hlt:i<rows.length:=by omega
 have hry:=r4 (by omega)
 have hms:∀g:G,Agg m NoP (max k d) g.h (.agg [.int .i64 m.grain,a,b]):=fun g=>⟨_,rfl,rp_causal.2 ⟨a,b,rfl,hR.tree (Nat.le_refl _),hN.tree (Nat.le_refl _)⟩⟩
 rw[call_ref33_sizes]
 refine iso_run eq_ref33_sizes (xs:=[.agg [.int .i64 m.grain,a,b],.int .i64 i]) (by simp only[mapO,e,arg_int 0]) (by simp[f_ref33_sizes]) (snb_one _) (by decide) hd ?_
 simp only[f_ref33_sizes,sx,sy,SO.run,↓reduceIte,Nat.reduceEqDiff,Nat.reduceAdd]
 generalize hg0:(G.empty.new (AObj.cells 3 [[AV.int IntKind.i64 m.grain,a,b]] 0 false false))=g0
 have f0:g0.h.get 0=.cells 3 [[.int .i64 m.grain,a,b]] 0 false false:=by rw[←hg0];simp[sx]
 have f1:1≤g0.nx:=by rw[←hg0];simp[sx]
 clear hg0
 have ids0:∀g:G,snapIds g.h depthA (.agg [.int .i64 m.grain,a,b])=[]:=fun g=>agg_ids (h:=g.h) (rp_causal.2 ⟨a,b,rfl,hR.tree (Nat.le_refl _),hN.tree (Nat.le_refl _)⟩)
 simp only[f_ref33_sizes_r,sx,sy,sf,SO.run,foot_ref33_Cards,ids0,↓reduceIte,Nat.reduceEqDiff,Nat.reduceAdd,Nat.reduceLeDiff,f0]
 refine sat_ex (cards_ok (Nat.succ_pos d) (hms _) (by omega)) fun r hr=>?_
 simp only[sx,sy,sf,SO.run,foot_ref02_At,↓reduceIte,Nat.reduceEqDiff,Nat.reduceAdd,Nat.reduceLeDiff,f0,r1,hlt,q1,hry,Option.isSome_some,Option.getD_some,refIds_rptr hry,refIds_hptr,hN.refs]
 have hcl:(m.nodes.map (·.card)).length=m.nodes.length:=by simp
 refine at_ok (l:=m.nodes.map (·.card)) (p:=x.frm) (fun g' _=>hr.rows _) (fun g' _=>(hfa.tree (Nat.le_refl _)).ints) (by have:=places_len hf;omega) (fun z hz=>by rw[hcl];exact places_mem hf z hz) fun u g1 hu fr1 lg1=>?_
 simp only[sx,sy] at fr1 lg1
 have e0:g1.h.get 0=.cells 3 [[.int .i64 m.grain,a,b]] 0 false false:=by rw[fr1.2 0 (by simp)];simpa using f0
 simp only[sx,sy,sf,SO.run,foot_ref33_Lengths,ids0,↓reduceIte,Nat.reduceEqDiff,Nat.reduceAdd,Nat.reduceLeDiff,e0]
 refine sat_ex (lengths_ok (Nat.succ_pos d) (hms _) (by omega)) fun r' hr'=>?_
 simp only[sx,sy,sf,SO.run,foot_ref02_At,↓reduceIte,Nat.reduceEqDiff,Nat.reduceAdd,Nat.reduceLeDiff,e0,r1,hlt,q1,hry,Option.isSome_some,Option.getD_some,refIds_rptr hry,refIds_hptr,hN.refs]
 have hrl:(m.roots.map fun r=>(r.length:Int)).length=m.roots.length:=by simp
 refine at_ok (l:=m.roots.map fun r=>(r.length:Int)) (p:=x.noise) (fun g' _=>hr'.rows _) (fun g' _=>(hfb.tree (Nat.le_refl _)).ints) (by have:=places_len hn;omega) (fun z hz=>by rw[hrl];exact places_mem hn z hz) fun w g2 hw fr2 lg2=>?_
 simp only[sx,sy] at fr2 lg2
 simp only[sx,sy,sf,SO.run,↓reduceIte,Nat.reduceEqDiff,Nat.reduceAdd,Nat.reduceLeDiff]
 have m1:∀i∈g1.lg,0<i:=fun i hi=>by rcases lg1 i hi with h | h;simp at h;omega
 have hu2:Own (setLog (bumpG g2 (g2.lg++(g1.lg++g0.lg))) []) 1 u 1 ((x.frm.map fun z=>(m.nodes.map (·.card))[z.toNat]?.getD 0).map ci):=by
  rcases hu with h | ⟨id,ep,lo,p1,p2,rfl,p3⟩
  ·exact .inl h
  ·refine .inr ⟨id,ep,lo,?_,?_,rfl,?_⟩
   ·simp at p1;omega
   ·have:=fr2.1;simp at this ⊢;omega
   ·have:=fr2.2 id (by simp;omega);simp only[bumpG_h,setLog_h] at this ⊢;rw[this,p3]
 refine append_own (new:=(x.noise.map fun z=>(m.roots.map fun r=>(r.length:Int))[z.toNat]?.getD 0).map ci) hu2 (by have:=hw.rows;simpa using this) (by simp) (by simp[room];have:=places_len hf;have:=places_len hn;omega) fun z g3 hz n3 f3 _ l3=>?_
 simp only[sx,sy,sf,SO.run,↓reduceIte,Nat.reduceEqDiff,Nat.reduceAdd,Nat.reduceLeDiff]
 refine ⟨?_,?_⟩
 ·simp only[List.reverse_cons,List.reverse_nil,List.nil_append,List.cons_append]
  refine footsOk_mk [false,false,false,false,false,false,false,false,true,false,false,false,false,false,false,false,false,true,true,false] [(8,9),(8,11),(8,12),(8,13),(8,14),(8,15),(8,16)] (by simp[All2,rdLook,noLook,bigLook]) (by decide) ?_
  rintro p hp x y hx hy
  simp only[List.mem_cons,List.not_mem_nil,or_false] at hp
  rcases hp with rfl | rfl | rfl | rfl | rfl | rfl | rfl<;>(simp at hx hy;subst hx;subst hy;exact apart_fresh (b:=1) (fun i hi=>m1 i hi) rfl rfl (by simp[rdLook,noLook]) rfl)
 ·refine ⟨fun _=>True,?_⟩
  have e:(x.frm.map fun z=>(m.nodes.map (·.card))[z.toNat]?.getD 0).map ci++(x.noise.map fun z=>(m.roots.map fun r=>(r.length:Int))[z.toNat]?.getD 0).map ci=(S.sizes m x).map ci:=by
   simp only[List.getElem?_map];rw[S.sizes,List.map_append];rfl
  rw[e] at hz
  have:=hz.ints (k:=0) (by simp[S.sizes];have:=places_len hf;have:=places_len hn;omega)
  simpa using this
end
end Hx
end
section
namespace Hx
open Go
noncomputable section
def S.nodeR (m:Causal)(x:Mech):Bool:=decide (1≤x.card)&&decide (x.card≤4)&&S.places x.frm m.nodes.length&&S.places x.noise m.roots.length
def S.outR (m:Causal)(x:Mech):Bool:=decide ((x.out.length:Int)=S.prod (S.sizes m x))&&S.within 0 (x.card - 1) x.out
def S.right (m:Causal):Bool :=
 decide (1≤m.grain)&&decide (m.grain≤12)&&decide (m.roots.length≤8)&&decide (1≤m.nodes.length)&&decide (m.nodes.length≤5)&&m.roots.all (S.rootOk m.grain)&&m.nodes.all (S.nodeR m) &&
  decide (S.prod (m.roots.map fun r=>(r.length:Int))≤1024)&&decide (S.prod (m.nodes.map (·.card))≤1024)&&S.acyc (S.pars m)&&m.nodes.all (S.outR m)
theorem prod_append (l p:List Int):S.prod (l++p)=S.prod l*S.prod p:=by
 induction l with
 | nil=>simp[S.prod]
 | cons a l ih=>rw[List.cons_append,prod_cons,prod_cons,ih,Int.mul_assoc]
theorem prod_sizes (m:Causal)(x:Mech):S.prod (S.sizes m x)=S.above m x*S.beside m x:=by rw[S.sizes,prod_append];rfl
section
variable {d k:Nat}{m:Causal}{a b:AV}
theorem right_k11 (hR:SlR NoP k .nil m.roots a)(hN:SlR NoP k .nil m.nodes b)(hs:S.Small m)(hg:1≤m.grain∧m.grain≤12)(h1n:1≤m.nodes.length)(hro:m.roots.all (S.rootOk m.grain)=true)(hno:m.nodes.all (S.nodeR m)=true)
  (t:T) (g:G) (h1:tat t 1=.hptr 0 0 0 0) (hg0:g.h.get 0=.cells 3 [[.int .i64 m.grain,a,b]] 0 false false) (hnx:1≤g.nx)
  (h3:tat t 3=.int .i64 (S.prod (m.roots.map fun r=>(r.length:Int)))) (h4:tat t 4=.int .i64 (S.prod (m.nodes.map (·.card)))) :
  wp C0 (d+1) none f_ref33_Right_k11 (fnQ C0 (d+1) [SR.tm 2] fun v _=>v=.bool (S.right m)) t [] g:=by
 obtain ⟨rows,r1,r2,r3,r4⟩:=hN.all
 have r1:∀h',rowsOf h' 4 b=some rows:=r1
 have hms:∀g:G,Agg m NoP k g.h (.agg [.int .i64 m.grain,a,b]):=fun g=>⟨_,rfl,rp_causal.2 ⟨a,b,rfl,hR.tree (Nat.le_refl _),hN.tree (Nat.le_refl _)⟩⟩
 have hpl:∀x∈m.nodes,S.places x.frm m.nodes.length=true∧S.places x.noise m.roots.length=true:=fun x hx=>by
  have:=List.all_eq_true.1 hno x hx
  simp only[S.nodeR,Bool.and_eq_true] at this
  exact ⟨this.1.2,this.2⟩
 have bad:¬S.right m=true→AV.bool false=AV.bool (S.right m):=fun h=>by rw[Bool.not_eq_true] at h;rw[h]
 simp only[f_ref33_Right_k11,sx,sy,SO.run,↓reduceIte,Nat.reduceEqDiff,h1,h3,h4]
 refine bifP_mk (fun hb=>?_) (fun hb=>?_)
 ·simp only[sx,sy,SO.run,↓reduceIte,Nat.reduceEqDiff,hb]
  exact bad fun h=>by simp only[S.right,Bool.and_eq_true,decide_eq_true_eq] at h;simp at hb;omega
 ·have c1:S.prod (m.roots.map fun r=>(r.length:Int))≤1024:=by simp at hb;omega
  simp only[sx,sy,SO.run,↓reduceIte,Nat.reduceEqDiff,hb,h4]
  refine bifP_mk (fun hb=>?_) (fun hb=>?_)
  ·simp only[sx,sy,SO.run,↓reduceIte,Nat.reduceEqDiff,hb]
   exact bad fun h=>by simp only[S.right,Bool.and_eq_true,decide_eq_true_eq] at h;simp at hb;omega
  ·have c2:S.prod (m.nodes.map (·.card))≤1024:=by simp at hb;omega
   simp only[sx,sy,SO.run,↓reduceIte,Nat.reduceEqDiff,Nat.reduceAdd,Nat.reduceLeDiff,hb,h1,hg0]
   refine sat_ex (parents_ok (Nat.succ_pos d) (hms g) (by have:=hs.nodes;omega) fun x hx y hy=>?_) fun r hr=>?_
   ·have:=places_mem (hpl x hx).1 y hy;have:=hs.nodes;omega
   simp only[sx,sy,SO.run,↓reduceIte,Nat.reduceEqDiff,Nat.reduceAdd,Nat.reduceLeDiff,racyclic_ok (Nat.succ_pos d) (hr.sl g.h)]
   cases hac:S.acyc (m.nodes.map fun x=>S.mask x.frm) with
   | false =>
    simp only[sx,sy,SO.run,↓reduceIte,Nat.reduceEqDiff,Bool.not_false]
    exact bad fun h=>by
     simp only[S.right,Bool.and_eq_true] at h
     have:=h.1.2;rw[S.pars,hac] at this;cases this
   | true =>
    simp only[sx,sy,SO.run,↓reduceIte,Nat.reduceEqDiff,Bool.not_true]
    refine wpL_cnt m.nodes.length (by have:=hs.nodes;omega) (fun j t df g=>df=[]∧tat t 1=.hptr 0 0 0 0∧g.h.get 0=.cells 3 [[.int .i64 m.grain,a,b]] 0 false false∧1≤g.nx∧(m.nodes.take j).all (S.outR m)=true)
     ⟨rfl,by simp[sx,h1],hg0,hnx,rfl⟩ (by simp[sx]) (by decide) (by rintro j t df g v s (rfl | rfl | rfl)<;>simp[sx]) ?_ ?_ ?_
    ·rintro j t df g hj ⟨rfl,h1,hg,hnx,hw⟩ h10
     simp only[sx,sy,SO.run,↓reduceIte,Nat.reduceEqDiff,h1,h10,hg,hN.len]
     exact ⟨hnx,hw⟩
    ·rintro j t df g hj ⟨rfl,h1,hg,hnx,hw⟩ h10
     obtain ⟨x,hx,htk,hm⟩:=take_next hj
     obtain ⟨row,q1,q2⟩:=r3 j x hx
     obtain ⟨fa,fb,fc,rfl,hfa,hfb,hfc⟩:=rp_mech.1 q2
     have hlt:j<rows.length:=by omega
     have hry:=r4 (by omega)
     have hne:¬(0=g.nx):=by omega
     have bado:S.outR m x=false→AV.bool false=AV.bool (S.right m):=fun h=>bad fun h2=>by
      simp only[S.right,Bool.and_eq_true] at h2
      have:=List.all_eq_true.1 h2.2 x hm
      rw[h] at this;cases this
     simp only[sx,sy,SO.run,↓reduceIte,Nat.reduceEqDiff,Nat.reduceAdd,Nat.reduceLeDiff,h1,h10,hg,r1,hlt,q1,hry,hne,Option.isSome_some,Option.getD_some]
     obtain ⟨g1,hg1⟩:∃g1,g1=(g.new (AObj.cells 4 [[AV.int IntKind.i64 0,AV.nils,AV.nils,AV.nils]] 0 false false)).put g.nx (AObj.cells 4 [[AV.int IntKind.i64 x.card,fa,fb,fc]] 0 false false):=⟨_,rfl⟩
     have f0:g1.h.get 0=.cells 3 [[.int .i64 m.grain,a,b]] 0 false false:=by rw[hg1];simp[H.get_put,hne,hg]
     have f1:g1.h.get g.nx=.cells 4 [[.int .i64 x.card,fa,fb,fc]] 0 false false:=by rw[hg1];simp[H.get_put]
     have f2:1≤g1.nx:=by rw[hg1];simp
     rw[←hg1];clear hg1
     generalize g.nx=q at *
     obtain ⟨hpf,hpn⟩:=hpl x hm
     refine sat_ex (rsizes_ok (Nat.succ_pos d) (hms g1) hx hs.nodes hs.roots hpf hpn) fun r' hr'=>?_
     simp only[sx,sy,SO.run,↓reduceIte,Nat.reduceEqDiff]
     have hb4:∀z∈S.sizes m x,1≤z∧z≤4:=by
      intro z hz
      rcases List.mem_append.1 hz with hz | hz
      ·obtain ⟨y,hy,rfl⟩:=List.mem_map.1 hz;exact cardAt_bound hs (places_mem hpf y hy)
      ·obtain ⟨y,hy,rfl⟩:=List.mem_map.1 hz;exact lenAt_bound hs (places_mem hpn y hy)
     have hl13:(S.sizes m x).length≤13:=by have:=places_len hpf;have:=places_len hpn;have:=hs.nodes;have:=hs.roots;simp[S.sizes];omega
     refine wpL_len (by omega) hr'.len (fun i t df g=>df=[]∧g=g1∧St t [(1,.hptr 0 0 0 0),(10,.int .i64 j),(11,.hptr q 0 0 0),(12,.int .i64 (S.prod ((S.sizes m x).take i)))])
      ⟨rfl,rfl,by simp[St,sx,S.prod,h1,h10]⟩ (by simp[sx]) (by simp[sx]) (by decide) (by rintro j t df g v s (rfl | rfl | rfl | rfl | rfl | rfl | rfl)<;>simp[St,sx]) ?_ ?_
     ·rintro i t df g hi ⟨rfl,rfl,h1,h10,h11,h12,-⟩ h14 h13
      obtain ⟨y,hy,htk2,hm2⟩:=take_next hi
      have b1:=prod_bound (l:=(S.sizes m x).take i) fun z hz=>hb4 z (List.mem_of_mem_take hz)
      have b1':=Int.le_trans b1.2 (pow4_mono (show ((S.sizes m x).take i).length≤13 by simp;omega))
      have b2:=hb4 y hm2
      have b3:=Int.mul_le_mul b1' b2.2 (by omega) (by decide)
      have b4:=Int.mul_nonneg (show 0≤S.prod ((S.sizes m x).take i) by omega) (show 0≤y by omega)
      simp only[sx,sy,SO.run,↓reduceIte,Nat.reduceEqDiff,h1,h10,h11,h12,h13,h14,hr'.rows,hi,hy,Option.isSome_some,Option.getD_some,List.length_map,List.getElem?_map,Option.map_some,ci,St,
       wrap64 (show -9223372036854775808≤S.prod ((S.sizes m x).take i)*y by omega) (show S.prod ((S.sizes m x).take i)*y<9223372036854775808 by omega)]
      rw[htk2,prod_snoc]
     ·rintro t df g ⟨rfl,rfl,h1,h10,h11,h12,-⟩ h13
      rw[List.take_length] at h12
      simp only[f_ref33_Right_k7,sx,sy,SO.run,↓reduceIte,Nat.reduceEqDiff,h11,h12,f1,hfc.len]
      refine bifP_mk (fun hb=>?_) (fun hb=>?_)
      ·simp only[sx,sy,SO.run,↓reduceIte,Nat.reduceEqDiff]
       exact bado (by simp at hb;simp[S.outR,hb])
      ·have ho:(x.out.length:Int)=S.prod (S.sizes m x):=by simpa using hb
       simp only[sx,sy,SO.run,↓reduceIte,Nat.reduceEqDiff]
       refine wpL_cnt x.out.length hfc.1 (fun i t df g'=>df=[]∧g'=g∧St t [(1,.hptr 0 0 0 0),(10,.int .i64 j),(11,.hptr q 0 0 0)]∧S.within 0 (x.card - 1) (x.out.take i)=true)
        ⟨rfl,rfl,by simp[St,sx,h1,h10,h11],rfl⟩ (by simp[sx]) (by decide) (by rintro j t df g v s (rfl | rfl | rfl)<;>simp[St,sx]) ?_ ?_ ?_
       ·rintro i t df g' hi ⟨rfl,rfl,⟨h1,h10,h11,-⟩,hwi⟩ h15
        simp only[sx,sy,SO.run,↓reduceIte,Nat.reduceEqDiff,h1,h10,h11,h15,f1,hfc.len,St]
        exact hwi
       ·rintro i t df g' hi ⟨rfl,rfl,⟨h1,h10,h11,-⟩,hwi⟩ h15
        obtain ⟨y,hy,htk2,hm2⟩:=take_next hi
        simp only[sx,sy,SO.run,↓reduceIte,Nat.reduceEqDiff,h1,h10,h11,h15,f1,(hfc.tree (h':=g'.h) (Nat.le_refl _)).ints,hi,hy,Option.isSome_some,Option.getD_some,List.length_map,List.getElem?_map,Option.map_some,ci]
        have badw:¬(0≤y∧y≤x.card - 1)→AV.bool false=AV.bool (S.right m):=fun h=>bado (by
         rw[S.outR,Bool.and_eq_false_iff];right
         rw[←Bool.not_eq_true,within_iff]
         exact fun h2=>h (h2 y hm2))
        refine bifP_mk (fun hb=>?_) (fun hb=>?_)
        ·simp only[sx,sy,SO.run,↓reduceIte,Nat.reduceEqDiff,hb]
         exact badw (by simp at hb;omega)
        ·simp only[sx,sy,SO.run,↓reduceIte,Nat.reduceEqDiff,hb,h1,h10,h11,h15,f1,(hfc.tree (h':=g'.h) (Nat.le_refl _)).ints,hi,hy,Option.isSome_some,Option.getD_some,List.length_map,List.getElem?_map,Option.map_some,ci]
         refine bifP_mk (fun hc=>?_) (fun hc=>?_)
         ·simp only[sx,sy,SO.run,↓reduceIte,Nat.reduceEqDiff]
          exact badw (by simp at hc;omega)
         ·simp only[sx,sy,SO.run,↓reduceIte,Nat.reduceEqDiff,h1,h10,h11,h15,St]
          rw[htk2]
          simp[S.within] at *
          exact ⟨hwi,by omega⟩
       ·rintro t df g' ⟨rfl,rfl,⟨h1,h10,h11,-⟩,hwi⟩
        rw[List.take_length] at hwi
        simp only[f_ref33_Right_k8,sx,sy,SO.run,↓reduceIte,Nat.reduceEqDiff,h1,h10,f0]
        refine ⟨f2,?_⟩
        rw[htk,List.all_append,hw]
        simp[S.outR,ho,hwi]
    ·rintro t df g ⟨rfl,h1,hg,hnx,hw⟩
     rw[List.take_length] at hw
     simp only[f_ref33_Right_k10,sx,sy,SO.run,↓reduceIte,Nat.reduceEqDiff]
     have e1:=hs.nodes
     have e2:=hs.roots
     have e3:=hg
     congr 1
     simp only[S.right,hro,hno,hw,S.pars,hac,c1,c2,e1,e2,h1n,decide_true,Bool.and_self]
     simp[*]
end
end
end Hx
end
section
namespace Hx
open Go
noncomputable section
variable {d k:Nat}{m:Causal}{a b:AV}
theorem right_k12 (hR:SlR NoP k .nil m.roots a)(hN:SlR NoP k .nil m.nodes b)(hg:1≤m.grain∧m.grain≤12)(h8:m.roots.length≤8)(h1n:1≤m.nodes.length)(h5:m.nodes.length≤5)(hro:m.roots.all (S.rootOk m.grain)=true)
  (t:T) (g:G) (h1:tat t 1=.hptr 0 0 0 0) (hg0:g.h.get 0=.cells 3 [[.int .i64 m.grain,a,b]] 0 false false) (hnx:1≤g.nx)
  (h3:tat t 3=.int .i64 (S.prod (m.roots.map fun r=>(r.length:Int)))) (h4:tat t 4=.int .i64 1) :
  wp C0 (d+1) none f_ref33_Right_k12 (fnQ C0 (d+1) [SR.tm 2] fun v _=>v=.bool (S.right m)) t [] g:=by
 obtain ⟨rows,r1,r2,r3,r4⟩:=hN.all
 have r1:∀h',rowsOf h' 4 b=some rows:=r1
 have bad:¬S.right m=true→AV.bool false=AV.bool (S.right m):=fun h=>by rw[Bool.not_eq_true] at h;rw[h]
 have hlen:∀r∈m.roots,1≤r.length∧r.length≤4:=fun r hr=>by
  have:=List.all_eq_true.1 hro r hr
  simp[S.rootOk] at this
  omega
 simp only[f_ref33_Right_k12,sx,sy,SO.run,↓reduceIte,Nat.reduceEqDiff]
 refine wpL_cnt m.nodes.length (by omega) (fun j t df g=>df=[]∧St t [(1,.hptr 0 0 0 0),(3,.int .i64 (S.prod (m.roots.map fun r=>(r.length:Int)))),(4,.int .i64 (S.prod ((m.nodes.take j).map (·.card))))]∧g.h.get 0=.cells 3 [[.int .i64 m.grain,a,b]] 0 false false∧1≤g.nx∧(m.nodes.take j).all (S.nodeR m)=true)
  ⟨rfl,by simp[sx,St,S.prod,h1,h3,h4] ,hg0,hnx,rfl⟩ (by simp[sx]) (by decide) (by rintro j t df g v s (rfl | rfl | rfl)<;>simp[sx,St]) ?_ ?_ ?_
 ·rintro j t df g hj ⟨rfl,⟨h1,h3,h4,-⟩,hg,hnx,hw⟩ h8
  simp only[sx,sy,SO.run,↓reduceIte,Nat.reduceEqDiff,h1,h3,h4,h8,hg,hN.len,St]
  exact ⟨hnx,hw⟩
 ·rintro j t df g hj ⟨rfl,⟨h1,h3,h4,-⟩,hg,hnx,hw⟩ h8'
  obtain ⟨x,hx,htk,hm⟩:=take_next hj
  obtain ⟨row,q1,q2⟩:=r3 j x hx
  obtain ⟨fa,fb,fc,rfl,hfa,hfb,hfc⟩:=rp_mech.1 q2
  have hlt:j<rows.length:=by omega
  have hry:=r4 (by omega)
  have hne:¬(0=g.nx):=by omega
  have badn:¬S.nodeR m x=true→AV.bool false=AV.bool (S.right m):=fun h=>bad fun h2=>by
   simp only[S.right,Bool.and_eq_true] at h2
   exact h (List.all_eq_true.1 h2.1.1.1.1.2 x hm)
  have ia:∀(g:G) (n:Int),callV C0 (d+1) N.ref02_Places [fa,.int .i64 n] g=.val (.bool (S.places x.frm n)):=fun g n=>rplaces_ok (Nat.succ_pos d) (hfa.tree (h':=g.h) (Nat.le_refl _))
  have ib:∀(g:G) (n:Int),callV C0 (d+1) N.ref02_Places [fb,.int .i64 n] g=.val (.bool (S.places x.noise n)):=fun g n=>rplaces_ok (Nat.succ_pos d) (hfb.tree (h':=g.h) (Nat.le_refl _))
  simp only[sx,sy,SO.run,↓reduceIte,Nat.reduceEqDiff,Nat.reduceAdd,Nat.reduceLeDiff,h1,h8',hg,r1,hlt,q1,hry,hne,Option.isSome_some,Option.getD_some]
  obtain ⟨g1,hg1⟩:∃g1,g1=(g.new (AObj.cells 4 [[AV.int IntKind.i64 0,AV.nils,AV.nils,AV.nils]] 0 false false)).put g.nx (AObj.cells 4 [[AV.int IntKind.i64 x.card,fa,fb,fc]] 0 false false):=⟨_,rfl⟩
  have f0:g1.h.get 0=.cells 3 [[.int .i64 m.grain,a,b]] 0 false false:=by rw[hg1];simp[H.get_put,hne,hg]
  have f1:g1.h.get g.nx=.cells 4 [[.int .i64 x.card,fa,fb,fc]] 0 false false:=by rw[hg1];simp[H.get_put]
  have f2:1≤g1.nx:=by rw[hg1];simp
  rw[←hg1];clear hg1
  generalize g.nx=q at *
  refine bifP_mk (fun hb=>?_) (fun hb=>?_)
  ·simp only[sx,sy,SO.run,↓reduceIte,Nat.reduceEqDiff,hb]
   exact badn fun h=>by simp[S.nodeR] at h;simp at hb;omega
  ·simp only[sx,sy,SO.run,↓reduceIte,Nat.reduceEqDiff,hb,f1]
   refine bifP_mk (fun hc=>?_) (fun hc=>?_)
   ·simp only[sx,sy,SO.run,↓reduceIte,Nat.reduceEqDiff,hc]
    exact badn fun h=>by simp[S.nodeR] at h;simp at hc;omega
   ·have hcard:1≤x.card∧x.card≤4:=by simp at hb hc;omega
    simp only[sx,sy,SO.run,↓reduceIte,Nat.reduceEqDiff,hc,h1,f0,f1,hN.len,ia]
    cases hpf:S.places x.frm m.nodes.length with
    | false =>
     simp only[sx,sy,SO.run,↓reduceIte,Nat.reduceEqDiff,Bool.not_false]
     exact badn fun h=>by simp[S.nodeR,hpf] at h
    | true =>
     simp only[sx,sy,SO.run,↓reduceIte,Nat.reduceEqDiff,Bool.not_true,h1,f0,f1,hR.len,ib]
     cases hpn:S.places x.noise m.roots.length with
     | false =>
      simp only[sx,sy,SO.run,↓reduceIte,Nat.reduceEqDiff,Bool.not_false]
      exact badn fun h=>by simp[S.nodeR,hpn] at h
     | true =>
      have b1:=prod_map_bound (f:=fun x=>x) (l:=(m.nodes.take j).map (·.card)) (n:=5) (fun z hz=>by
       obtain ⟨y,hy,rfl⟩:=List.mem_map.1 hz
       have:=List.all_eq_true.1 hw y hy
       simp[S.nodeR] at this
       omega) (by simp;omega)
      rw[List.map_id'] at b1
      have b3:=Int.mul_le_mul b1.2 hcard.2 (by omega) (by decide)
      have b4:=Int.mul_nonneg (show 0≤S.prod ((m.nodes.take j).map (·.card)) by omega) (show 0≤x.card by omega)
      simp only[sx,sy,SO.run,↓reduceIte,Nat.reduceEqDiff,Bool.not_true,h1,h3,h4,h8',f0,f1,St,wrap64 (show -9223372036854775808≤S.prod ((m.nodes.take j).map (·.card))*x.card by omega) (show S.prod ((m.nodes.take j).map (·.card))*x.card<9223372036854775808 by omega)]
      refine ⟨?_,f2,?_⟩
      ·rw[htk,List.map_append,List.map_singleton,prod_snoc]
      ·rw[htk,List.all_append,hw]
       simp[S.nodeR,hpf,hpn,hcard]
 ·rintro t df g ⟨rfl,⟨h1,h3,h4,-⟩,hg',hnx,hw⟩
  rw[List.take_length] at hw h4
  have hs:S.Small m:=⟨h5,h8,fun x hx=>by
   have:=List.all_eq_true.1 hw x hx
   simp[S.nodeR] at this
   omega,hlen⟩
  simp only[sx,sy]
  exact right_k11 hR hN hs hg h1n hro hw t g h1 hg' hnx h3 h4
theorem sum_take_le {gr:Int}{l:List Int}(h:∀x∈l,0≤x∧x≤gr)(i:Nat):(l.take i).sum≤l.sum:=by
 have e:l.sum=(l.take i).sum+(l.drop i).sum:=by rw[←List.sum_append,List.take_append_drop]
 have:0≤(l.drop i).sum:=by
  cases hl:l.drop i with
  | nil=>simp
  | cons y r =>
   have hy:=h y (List.mem_of_mem_drop (by rw[hl];simp))
   have:=(sum_bound (b:=gr) (by omega) (l:=l.drop i) fun z hz=>h z (List.mem_of_mem_drop hz)).1
   rw[hl] at this;exact this
 omega
theorem right_ok {g:G}{P:Nat→Prop}{v:AV}(hd:0<d)(hm:Agg m P k g.h v):callV C0 d N.ref33_Right [v] g=.val (.bool (S.right m)):=by
 obtain ⟨v',e,cs,rfl,hc⟩:=arg_of (snb_agg m) (by decide) d hm
 obtain ⟨a,b,rfl,hR,hN⟩:=rp_causal.1 hc
 obtain ⟨rows,r1,r2,r3,r4⟩:=hR.all
 have r1:∀h',rowsOf h' 1 a=some rows:=r1
 have bad:¬S.right m=true→AV.bool false=AV.bool (S.right m):=fun h=>by rw[Bool.not_eq_true] at h;rw[h]
 rw[call_ref33_Right]
 refine iso_bool eq_ref33_Right (xs:=[.agg [.int .i64 m.grain,a,b]]) (by simp only[mapO,e]) (by simp[f_ref33_Right]) hd ?_
 simp only[f_ref33_Right,sx,sy,SO.run,↓reduceIte,Nat.reduceEqDiff,Nat.reduceAdd]
 generalize hg0:(G.empty.new (AObj.cells 3 [[AV.int IntKind.i64 m.grain,a,b]] 0 false false))=g0
 have f0:g0.h.get 0=.cells 3 [[.int .i64 m.grain,a,b]] 0 false false:=by rw[←hg0];simp[sx]
 have f1:1≤g0.nx:=by rw[←hg0];simp[sx]
 clear hg0
 simp only[f_ref33_Right_r,sx,sy,SO.run,↓reduceIte,Nat.reduceEqDiff,f0]
 refine bifP_mk (fun hb=>?_) (fun hb=>?_)
 ·simp only[sx,sy,SO.run,↓reduceIte,Nat.reduceEqDiff,hb]
  exact bad fun h=>by simp only[S.right,Bool.and_eq_true,decide_eq_true_eq] at h;simp at hb;omega
 simp only[sx,sy,SO.run,↓reduceIte,Nat.reduceEqDiff,hb,f0]
 refine bifP_mk (fun hc=>?_) (fun hc=>?_)
 ·simp only[sx,sy,SO.run,↓reduceIte,Nat.reduceEqDiff,hc]
  exact bad fun h=>by simp only[S.right,Bool.and_eq_true,decide_eq_true_eq] at h;simp at hc;omega
 simp only[sx,sy,SO.run,↓reduceIte,Nat.reduceEqDiff,hc,f0,hR.len]
 refine bifP_mk (fun hd=>?_) (fun hd=>?_)
 ·simp only[sx,sy,SO.run,↓reduceIte,Nat.reduceEqDiff,hd]
  exact bad fun h=>by simp only[S.right,Bool.and_eq_true,decide_eq_true_eq] at h;simp at hd;omega
 simp only[sx,sy,SO.run,↓reduceIte,Nat.reduceEqDiff,hd,f0,hN.len]
 refine bifP_mk (fun he=>?_) (fun he=>?_)
 ·simp only[sx,sy,SO.run,↓reduceIte,Nat.reduceEqDiff,he]
  exact bad fun h=>by simp only[S.right,Bool.and_eq_true,decide_eq_true_eq] at h;simp at he;omega
 simp only[sx,sy,SO.run,↓reduceIte,Nat.reduceEqDiff,he,f0,hN.len]
 refine bifP_mk (fun hf=>?_) (fun hf=>?_)
 ·simp only[sx,sy,SO.run,↓reduceIte,Nat.reduceEqDiff]
  exact bad fun h=>by simp only[S.right,Bool.and_eq_true,decide_eq_true_eq] at h;simp at hf;omega
 have q1:1≤m.grain∧m.grain≤12:=by simp at hb hc;omega
 have q2:m.roots.length≤8:=by simp at hd;omega
 have q3:1≤m.nodes.length∧m.nodes.length≤5:=by simp at he hf;omega
 simp only[sx,sy,SO.run,↓reduceIte,Nat.reduceEqDiff]
 refine wpL_cnt m.roots.length (by omega) (fun j t df g=>df=[]∧g=g0∧St t [(1,.hptr 0 0 0 0),(3,.int .i64 (S.prod ((m.roots.take j).map fun r=>(r.length:Int)))),(4,.int .i64 1)]∧(m.roots.take j).all (S.rootOk m.grain)=true)
  ⟨rfl,rfl,by simp[sx,St,S.prod],rfl⟩ (by simp[sx]) (by decide) (by rintro j t df g v s (rfl | rfl | rfl)<;>simp[sx,St]) ?_ ?_ ?_
 ·rintro j t df g hj ⟨rfl,rfl,⟨h1,h3,h4,-⟩,hw⟩ h5
  simp only[sx,sy,SO.run,↓reduceIte,Nat.reduceEqDiff,h1,h3,h4,h5,f0,hR.len,St]
  exact hw
 ·rintro j t df g hj ⟨rfl,rfl,⟨h1,h3,h4,-⟩,hw⟩ h5
  obtain ⟨x,hx,htk,hm⟩:=take_next hj
  obtain ⟨row,q1',q2'⟩:=r3 j x hx
  obtain ⟨u,rfl,hu⟩:=rp_list.1 q2'
  have hlt:j<rows.length:=by omega
  have badr:¬S.rootOk m.grain x=true→AV.bool false=AV.bool (S.right m):=fun h=>bad fun h2=>by
   simp only[S.right,Bool.and_eq_true] at h2
   exact h (List.all_eq_true.1 h2.1.1.1.1.1.2 x hm)
  simp only[sx,sy,SO.run,↓reduceIte,Nat.reduceEqDiff,h1,h5,f0,r1,hlt,q1',Option.isSome_some,Option.getD_some,hu.len]
  refine bifP_mk (fun hb=>?_) (fun hb=>?_)
  ·simp only[sx,sy,SO.run,↓reduceIte,Nat.reduceEqDiff,hb]
   exact badr fun h=>by simp[S.rootOk] at h;simp at hb;omega
  simp only[sx,sy,SO.run,↓reduceIte,Nat.reduceEqDiff,h1,h5,f0,r1,hlt,q1',Option.isSome_some,Option.getD_some,hu.len,hb]
  refine bifP_mk (fun hc=>?_) (fun hc=>?_)
  ·simp only[sx,sy,SO.run,↓reduceIte,Nat.reduceEqDiff]
   exact badr fun h=>by simp[S.rootOk] at h;simp at hc;omega
  have hxl:1≤x.length∧x.length≤4:=by simp at hb hc;omega
  simp only[sx,sy,SO.run,↓reduceIte,Nat.reduceEqDiff,h1,f0]
  refine wpL_cnt x.length (by omega) (fun i t df g'=>df=[]∧g'=g∧St t [(1,.hptr 0 0 0 0),(3,.int .i64 (S.prod ((m.roots.take j).map fun r=>(r.length:Int)))),(4,.int .i64 1),(5,.int .i64 j),(6,.int .i64 (m.grain - (x.take i).sum))]∧(∀y∈x.take i,0≤y∧y≤m.grain)∧(x.take i).sum≤m.grain)
   ⟨rfl,rfl,by simp[sx,St,h1,h3,h4,h5],by simp,by simp;omega⟩ (by simp[sx]) (by decide) (by rintro j t df g v s (rfl | rfl | rfl)<;>simp[sx,St]) ?_ ?_ ?_
  ·rintro i t df g' hi ⟨rfl,rfl,⟨h1,h3,h4,h5,h6,-⟩,hw1,hw2⟩ h7
   simp only[sx,sy,SO.run,↓reduceIte,Nat.reduceEqDiff,h1,h3,h4,h5,h6,h7,f0,r1,hlt,q1',Option.isSome_some,Option.getD_some,hu.len,St]
   exact ⟨hw1,hw2⟩
  ·rintro i t df g' hi ⟨rfl,rfl,⟨h1,h3,h4,h5,h6,-⟩,hw1,hw2⟩ h7
   obtain ⟨y,hy,htk2,hm2⟩:=take_next hi
   have hs0:=(sum_bound (b:=m.grain) (by omega) hw1).1
   simp only[sx,sy,SO.run,↓reduceIte,Nat.reduceEqDiff,h1,h5,h6,h7,f0,r1,hlt,q1',(hu.tree (h':=g'.h) (Nat.le_refl _)).ints,hi,hy,Option.isSome_some,Option.getD_some,List.length_map,List.getElem?_map,Option.map_some,ci]
   refine bifP_mk (fun hb=>?_) (fun hb=>?_)
   ·simp only[sx,sy,SO.run,↓reduceIte,Nat.reduceEqDiff,hb]
    exact badr fun h=>by
     simp only[S.rootOk,Bool.and_eq_true] at h
     have:=within_iff.1 h.1.2 y hm2
     simp at hb;omega
   simp only[sx,sy,SO.run,↓reduceIte,Nat.reduceEqDiff,hb,h1,h5,h6,h7,f0,r1,hlt,q1',(hu.tree (h':=g'.h) (Nat.le_refl _)).ints,hi,hy,Option.isSome_some,Option.getD_some,List.length_map,List.getElem?_map,Option.map_some,ci]
   refine bifP_mk (fun hc=>?_) (fun hc=>?_)
   ·simp only[sx,sy,SO.run,↓reduceIte,Nat.reduceEqDiff]
    exact badr fun h=>by
     simp only[S.rootOk,Bool.and_eq_true,decide_eq_true_eq] at h
     have:=sum_take_le (within_iff.1 h.1.2) (i+1)
     rw[htk2,sum_snoc] at this
     simp at hc;omega
   have hyb:0≤y∧y≤m.grain - (x.take i).sum:=by simp at hb hc;omega
   simp only[sx,sy,SO.run,↓reduceIte,Nat.reduceEqDiff,h1,h3,h4,h5,h6,h7,f0,r1,hlt,q1',(hu.tree (h':=g'.h) (Nat.le_refl _)).ints,hi,hy,Option.isSome_some,Option.getD_some,List.length_map,List.getElem?_map,Option.map_some,ci,St,
    wrap64 (show -9223372036854775808≤m.grain - (x.take i).sum - y by omega) (show m.grain - (x.take i).sum - y<9223372036854775808 by omega)]
   rw[htk2,sum_snoc]
   refine ⟨by congr 1;omega,fun z hz=>?_,by omega⟩
   rcases List.mem_append.1 hz with hz | hz
   ·exact hw1 z hz
   ·simp at hz;subst hz;omega
  ·rintro t df g' ⟨rfl,rfl,⟨h1,h3,h4,h5,h6,-⟩,hw1,hw2⟩
   rw[List.take_length] at h6 hw1 hw2
   simp only[f_ref33_Right_k1,f_ref33_Right_k2,sx,sy,SO.run,↓reduceIte,Nat.reduceEqDiff,h6]
   refine bifP_mk (fun hb=>?_) (fun hb=>?_)
   ·simp only[sx,sy,SO.run,↓reduceIte,Nat.reduceEqDiff]
    exact badr fun h=>by simp only[S.rootOk,Bool.and_eq_true,decide_eq_true_eq] at h;simp at hb;omega
   have hs:x.sum=m.grain:=by simp at hb;omega
   have hlen:((m.roots.take j).map fun r=>(r.length:Int)).length≤8:=by simp;omega
   have b1:=prod_bound (l:=(m.roots.take j).map fun r=>(r.length:Int)) (by
    intro y hy
    obtain ⟨r,hr,rfl⟩:=List.mem_map.1 hy
    have:=List.all_eq_true.1 hw r hr
    simp[S.rootOk] at this
    omega)
   have b2:=Int.le_trans b1.2 (pow4_mono hlen)
   have b3:=Int.mul_le_mul b2 (show (x.length:Int)≤4 by omega) (by omega) (by decide)
   have b4:=Int.mul_nonneg (show 0≤S.prod ((m.roots.take j).map fun r=>(r.length:Int)) by omega) (show (0:Int)≤x.length by omega)
   simp only[sx,sy,SO.run,↓reduceIte,Nat.reduceEqDiff,h1,h3,h4,h5,f0,r1,hlt,q1',Option.isSome_some,Option.getD_some,hu.len,St,
    wrap64 (show -9223372036854775808≤S.prod ((m.roots.take j).map fun r=>(r.length:Int))*(x.length:Int) by omega) (show S.prod ((m.roots.take j).map fun r=>(r.length:Int))*(x.length:Int)<9223372036854775808 by omega)]
   rw[htk,List.map_append,List.map_singleton,prod_snoc,List.all_append,hw]
   refine ⟨rfl,?_⟩
   have:=within_iff.2 hw1
   simp[S.rootOk,this,hs];omega
 ·rintro t df g ⟨rfl,rfl,⟨h1,h3,h4,-⟩,hw⟩
  rw[List.take_length] at hw h3
  simp only[sx,sy]
  exact right_k12 hR hN q1 q2 q3.1 q3.2 hw t g h1 f0 f1 h3 h4
end
end Hx
end
