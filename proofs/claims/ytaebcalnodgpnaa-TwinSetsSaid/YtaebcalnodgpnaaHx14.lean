/- A part of the proof: an interpreter over abstract values, shown right against the model, and what the functions of the chapter compute on it. -/
import Derived.OpenShut
import Derived.DataReads
import Derived.Test.YtaebcalnodgpnaaHx13
set_option linter.unusedVariables false
set_option linter.unusedSimpArgs false
set_option linter.unnecessarySimpa false
section
namespace Hx
open Go
noncomputable section
theorem bit_zero (tc j:Nat):decide (((tc / 2 ^ j &&& 1:Nat):Int)=0) = !tc.testBit j:=by
 rw[←isIn_eq,S.isIn,Nat.and_one_is_mod]
 have:=Nat.mod_lt (tc / 2 ^ j) (show 0<2 by decide)
 generalize tc / 2 ^ j % 2=z at *
 have hz:z=0∨z=1:=by omega
 rcases hz with rfl | rfl<;>rfl
def LW (nn av:AV)(vv tc:Nat):List (Nat×AV):=[(2,.int .u8 (vv:Int)),(7,.hptr 2 0 0 0),(8,av),(9,nn),(15,.int .u64 (tc:Int))]
theorem world_loop {m:Causal}{a b nn av l o':AV}{vv tc h hh:Nat}{al X Y:List Int}{Q:QT}{t:T}{g:G}(hN:SlR NoP 0 .nil m.nodes b)(hn5:m.nodes.length≤5)(hav:SlR NoP 0 .nil al av)(hal:al.length=m.nodes.length)
  (hX:SlR NoP 0 .nil X l) (hY:SlR NoP 0 .nil Y o') (hXl:X.length=m.nodes.length) (hYl:Y.length=m.nodes.length) (hT:tc<18446744073709551616)
  (f1:∀(j:Nat) x y z,j<m.nodes.length→al[j]?=some x→X[j]?=some y→Y[j]?=some z→(0≤x→y=x)∧(tc.testBit j=false→y=z)∧0≤y∧∀nd:Mech,m.nodes[j]?=some nd→y<nd.card)
  (g2:g.h.get 2=.cells 3 [[.int .i64 m.grain,a,b]] 0 false false)
  (ht:St t (LW nn av vv tc)) (h24:tat t 24=l) (h26:tat t 26=o') (h129:tat t 129=.int .i64 (hh:Int)) (h130:tat t 130=.int .i64 (h:Int)) (h167:tat t 167=av) (h168:tat t 168=.int .i64 (m.nodes.length:Int)) (h169:tat t 169=.int .i64 0)
  (fin:∀t,St t (LW nn av vv tc)→tat t 129=.int .i64 (hh:Int)→tat t 130=.int .i64 (h:Int)→Q (.exit 10) t [] g):wpL (wp C0 1 none f_law33_TwinSets_b7) Q t [] g:=by
 obtain ⟨rows,r1,r2,r3,r4⟩:=hN.all
 have r1:∀h',rowsOf h' 4 b=some rows:=r1
 simp only[f_law33_TwinSets_b7]
 refine wpL_range (m:=m.nodes.length) (by omega) (fun j t df g'=>df=[]∧g'=g∧St t (LW nn av vv tc)∧tat t 24=l∧tat t 26=o'∧tat t 129=.int .i64 (hh:Int)∧tat t 130=.int .i64 (h:Int)∧tat t 167=av)
  ⟨rfl,rfl,ht,h24,h26,h129,h130,h167⟩ h169 h168 (by decide) (by rintro j t df g v s (rfl | rfl | rfl)<;>simp[St,LW,sx]) ?_ ?_
 ·clear ht h24 h26 h129 h130 h167 h168 h169
  rintro j t df g' hj ⟨rfl,rfl,⟨h2,h7,h8,h9,h15,-⟩,h24,h26,h129,h130,h167⟩ h169 h168
  obtain ⟨x,hx,-,-⟩:=take_next (l:=al) (j:=j) (by omega)
  obtain ⟨y,hy,-,-⟩:=take_next (l:=X) (j:=j) (by omega)
  obtain ⟨z,hz,-,-⟩:=take_next (l:=Y) (j:=j) (by omega)
  obtain ⟨nd,hnd⟩:∃y,m.nodes[j]?=some y:=⟨_,List.getElem?_eq_getElem hj⟩
  obtain ⟨c1,c2,c3,c4⟩:=f1 j x y z hj hx hy hz
  have c4:=c4 nd hnd
  obtain ⟨row,z1,z2⟩:=r3 j nd hnd
  obtain ⟨fa,fb,fc,rfl,-⟩:=rp_mech.1 z2
  have hlt:j<rows.length:=by omega
  have hry:=r4 (by omega)
  have q1:j<(al.map ci).length:=by rw[List.length_map];omega
  have q2:(al.map ci)[j]?=some (ci x):=by rw[List.getElem?_map,hx];rfl
  have q3:j<(X.map ci).length:=by rw[List.length_map];omega
  have q4:(X.map ci)[j]?=some (ci y):=by rw[List.getElem?_map,hy];rfl
  have q5:j<(Y.map ci).length:=by rw[List.length_map];omega
  have q6:(Y.map ci)[j]?=some (ci z):=by rw[List.getElem?_map,hz];rfl
  have ra:∀h',rowsOf h' 1 av=some (al.map ci):=fun h'=>(hav.tree (h':=h') (Nat.le_refl _)).ints
  have rx:∀h',rowsOf h' 1 l=some (X.map ci):=fun h'=>(hX.tree (h':=h') (Nat.le_refl _)).ints
  have ry:∀h',rowsOf h' 1 o'=some (Y.map ci):=fun h'=>(hY.tree (h':=h') (Nat.le_refl _)).ints
  have n1:¬y<0:=by omega
  have n2:¬nd.card≤y:=by omega
  have hz1:tc / 2 ^ j<18446744073709551616:=Nat.lt_of_le_of_lt (Nat.div_le_self _ _) hT
  have hb2:binV .and (.int .u64 ((tc / 2 ^ j:Nat):Int)) (.int .u64 1)=.val (.int .u64 ((tc / 2 ^ j &&& 1:Nat):Int)):=bin_and (tc / 2 ^ j) 1 hz1 (by decide)
  have hbz:=bit_zero tc j
  rw[wp_seq]
  refine seq_cut (P:=fun t' df g''=>df=[]∧g''=g'∧St t' (LW nn av vv tc)∧tat t' 24=l∧tat t' 26=o'∧tat t' 129=.int .i64 (hh:Int)∧tat t' 130=.int .i64 (h:Int)∧tat t' 167=av∧tat t' 28=.int .i64 (j:Int)∧tat t' 29=.int .i64 x∧tat t' 169=.int .i64 (j:Int)∧tat t' 168=.int .i64 (m.nodes.length:Int)) ?_ ?_
  ·simp only[sx,sy,SO.run,↓reduceIte,Nat.reduceEqDiff,h167,h169,ra,q1,q2,ci,Option.isSome_some,Option.getD_some]
   simp[St,LW,sx,h2,h7,h8,h9,h15,h24,h26,h129,h130,h167,h168,h169]
  clear h2 h7 h8 h9 h15 h24 h26 h129 h130 h167 h168 h169
  rintro t df g3 ⟨rfl,rfl,⟨h2,h7,h8,h9,h15,-⟩,h24,h26,h129,h130,h167,h28,h29,h169,h168⟩
  refine cutG (P:=fun t' df g''=>df=[]∧g''=g3∧St t' (LW nn av vv tc)∧tat t' 24=l∧tat t' 26=o'∧tat t' 129=.int .i64 (hh:Int)∧tat t' 130=.int .i64 (h:Int)∧tat t' 167=av∧tat t' 169=.int .i64 (j:Int)∧tat t' 168=.int .i64 (m.nodes.length:Int)∧tat t' 221=.bool false) ?_ ?_
  ·by_cases hx0:0≤x
   ·have e:=c1 hx0
    subst e
    cases hb:tc.testBit j with
    | true =>
     rw[hb,Bool.not_true] at hbz
     simp only[sx,sy,SO.run,↓reduceIte,Nat.reduceEqDiff,h7,h15,h24,h26,h28,h29,g2,r1,hlt,z1,hry,rx,ry,q3,q4,q5,q6,ci,Option.isSome_some,Option.getD_some,hx0,decide_true,decide_false,Bool.not_true,bin_shr _ _ _ hT,hb2,hbz,n1,n2]
     simp[St,LW,sx,h2,h7,h8,h9,h15,h24,h26,h129,h130,h167,h168,h169]
    | false =>
     rw[hb,Bool.not_false] at hbz
     have e:=c2 hb
     subst e
     simp only[sx,sy,SO.run,↓reduceIte,Nat.reduceEqDiff,h7,h15,h24,h26,h28,h29,g2,r1,hlt,z1,hry,rx,ry,q3,q4,q5,q6,ci,Option.isSome_some,Option.getD_some,hx0,decide_true,decide_false,Bool.not_true,bin_shr _ _ _ hT,hb2,hbz,n1,n2]
     simp[St,LW,sx,h2,h7,h8,h9,h15,h24,h26,h129,h130,h167,h168,h169]
   ·cases hb:tc.testBit j with
    | true =>
     rw[hb,Bool.not_true] at hbz
     simp only[sx,sy,SO.run,↓reduceIte,Nat.reduceEqDiff,h7,h15,h24,h26,h28,h29,g2,r1,hlt,z1,hry,rx,ry,q3,q4,q5,q6,ci,Option.isSome_some,Option.getD_some,hx0,decide_true,decide_false,Bool.not_true,bin_shr _ _ _ hT,hb2,hbz,n1,n2]
     simp[St,LW,sx,h2,h7,h8,h9,h15,h24,h26,h129,h130,h167,h168,h169]
    | false =>
     rw[hb,Bool.not_false] at hbz
     have e:=c2 hb
     subst e
     simp only[sx,sy,SO.run,↓reduceIte,Nat.reduceEqDiff,h7,h15,h24,h26,h28,h29,g2,r1,hlt,z1,hry,rx,ry,q3,q4,q5,q6,ci,Option.isSome_some,Option.getD_some,hx0,decide_true,decide_false,Bool.not_true,bin_shr _ _ _ hT,hb2,hbz,n1,n2]
     simp[St,LW,sx,h2,h7,h8,h9,h15,h24,h26,h129,h130,h167,h168,h169]
  clear h2 h7 h8 h9 h15 h24 h26 h129 h130 h167 h168 h169 h28 h29
  rintro t df g5 ⟨rfl,rfl,⟨h2,h7,h8,h9,h15,-⟩,h24,h26,h129,h130,h167,h169,h168,h221⟩
  simp only[sx,sy,SO.run,↓reduceIte,Nat.reduceEqDiff,h221,St,LW,h2,h7,h8,h9,h15,h24,h26,h129,h130,h167,h168,h169,true_and,and_true]
 ·rintro t df g' ⟨rfl,rfl,ht,-,-,h129,h130,-⟩
  exact fin t ht h129 h130
end
end Hx
end
section
namespace Hx
open Go
noncomputable section
theorem trun_h {m:Causal}{v act:AV}{al:List Int}(hck:S.check m=true)(hm:∀h,Agg m NoP 0 h v)(ha:SlR NoP 0 .nil al act)(haa:S.act m al=true){j:Nat}(hj:(j:Int)<S.hidden m) :
  ∃l,(∀g,g.h=g.h→callV C0 1 N.twin_Run [v,.int .i64 (j:Int),act] g=.val (.tup [l,.int .i64 0]))∧SlR NoP 0 .nil (S.run m (S.values (S.lens m) (j:Int)) al) l:=by
 have hhb:=hidden_le hck
 have hE:S.trunE m (j:Int) al=0:=by
  rw[S.trunE,if_neg (by rw[readE_ok hck (by simp[haa])];simp),if_neg (by omega)]
 obtain ⟨r,h1,ra,rb,rfl,h2,h3⟩:=trun_ok (d:=1) (g:=G.empty) (h:=(j:Int)) (by decide) (hm _) ha (by omega)
 have h3:=rp_int.1 h3
 injection h3 with h3
 obtain ⟨l,e,hX⟩:=rp_list.1 h2
 injection e with e;subst e
 rw[S.trun,if_pos hE] at hX
 refine ⟨ra,fun g _=>?_,hX⟩
 rw[h3,hE] at h1
 rw[call_twin_Run] at h1 ⊢
 exact iso_args (xs:=[v,.int .i64 (j:Int),act]) (by simp only[mapO,agg_same 1 (hm _),arg_int 0,sl_same 1 (ha.tree (h':=g.h) (Nat.le_refl 0))]) (by simp only[mapO,agg_same 1 (hm _),arg_int 0,sl_same 1 (ha.tree (h':=G.empty.h) (Nat.le_refl 0))]) h1
theorem runs_loop {m:Causal}{a b nn av:AV}{vv tc:Nat}{al:List Int}{Q:QT}{t:T}{g:G}(hck:S.check m=true)(hm:∀h,Agg m NoP 0 h (.agg [.int .i64 m.grain,a,b]))(hN:SlR NoP 0 .nil m.nodes b)(hnn:IT 0 (S.none m) nn)
  (hav:SlR NoP 0 .nil al av) (haa:S.act m al=true) (hT:tc<18446744073709551616) (hset:∀u,u<m.nodes.length→0≤al[u]?.getD 0→tc.testBit u=true)
  (hcl:∀(u:Nat) (x:Mech),m.nodes[u]?=some x→S.mask x.frm &&& tc≠0→tc.testBit u=true)
  (g2:g.h.get 2=.cells 3 [[.int .i64 m.grain,a,b]] 0 false false) (ht:St t (LW nn av vv tc)) (h129:tat t 129=.int .i64 (S.hidden m)) (h130:tat t 130=.int .i64 0)
  (fin:∀t,St t (LW nn av vv tc)→Q (.exit 8) t [] g):wpL (wp C0 1 none f_law33_TwinSets_b9) Q t [] g:=by
 have hn5:=(check_facts hck).1.nodes
 have hhb:=hidden_le hck
 have hna:=act_none (check_facts hck).1
 have hal:=(act_at haa).1
 obtain ⟨hid,hh⟩:=Int.eq_ofNat_of_zero_le (show 0≤S.hidden m by omega)
 have hh:S.hidden m=(hid:Int):=hh
 rw[hh] at h129
 simp only[f_law33_TwinSets_b9,f_law33_TwinSets_k8]
 refine wpL_range (m:=hid) (by omega) (fun j t df g'=>df=[]∧g'=g∧St t (LW nn av vv tc)) ⟨rfl,rfl,ht⟩ h130 h129 (by decide) (by rintro j t df g v s (rfl | rfl | rfl)<;>simp[St,LW,sx]) ?_ ?_
 ·clear ht h129 h130
  rintro j t df g' hj ⟨rfl,rfl,ht⟩ h130 h129
  have hjh:(j:Int)<S.hidden m:=by omega
  obtain ⟨l,el,hX⟩:=trun_h hck hm hav haa hjh
  obtain ⟨o',eo,hY⟩:=trun_h hck hm (hnn.sl .nil) hna hjh
  have el:=fun g=>el g rfl
  have eo:=fun g=>eo g rfl
  rw[wp_seq]
  refine seq_cut (P:=fun t' df g''=>df=[]∧g''=g'∧St t' (LW nn av vv tc)∧tat t' 23=.int .i64 (j:Int)∧tat t' 130=.int .i64 (j:Int)∧tat t' 129=.int .i64 (hid:Int)) ?_ ?_
  ·obtain ⟨h2,h7,h8,h9,h15,-⟩:=ht
   simp only[sx,sy,SO.run,↓reduceIte,Nat.reduceEqDiff,h130]
   simp[St,LW,sx,h2,h7,h8,h9,h15,h129,h130]
  clear ht h129 h130
  rintro t df g1 ⟨rfl,rfl,ht,h23,h130,h129⟩
  refine seq_cut (P:=fun t' df g''=>df=[]∧g''=g1∧St t' (LW nn av vv tc)∧tat t' 23=.int .i64 (j:Int)∧tat t' 130=.int .i64 (j:Int)∧tat t' 129=.int .i64 (hid:Int)∧tat t' 24=l∧tat t' 25=.int .i64 0) ?_ ?_
  ·obtain ⟨h2,h7,h8,h9,h15,-⟩:=ht
   simp only[sx,sy,SO.run,↓reduceIte,Nat.reduceEqDiff,Nat.reduceAdd,Nat.reduceLeDiff,h7,h8,h23,g2,el]
   simp[St,LW,sx,h2,h7,h8,h9,h15,h23,h129,h130]
  clear ht h129 h130 h23
  rintro t df g1 ⟨rfl,rfl,ht,h23,h130,h129,h24,h25⟩
  refine seq_cut (P:=fun t' df g''=>df=[]∧g''=g1∧St t' (LW nn av vv tc)∧tat t' 130=.int .i64 (j:Int)∧tat t' 129=.int .i64 (hid:Int)∧tat t' 24=l∧tat t' 25=.int .i64 0∧tat t' 26=o'∧tat t' 27=.int .i64 0) ?_ ?_
  ·obtain ⟨h2,h7,h8,h9,h15,-⟩:=ht
   simp only[sx,sy,SO.run,↓reduceIte,Nat.reduceEqDiff,Nat.reduceAdd,Nat.reduceLeDiff,h7,h9,h23,g2,eo]
   simp[St,LW,sx,h2,h7,h8,h9,h15,h24,h25,h129,h130]
  clear ht h129 h130 h23 h24 h25
  rintro t df g1 ⟨rfl,rfl,ht,h130,h129,h24,h25,h26,h27⟩
  have lX:(S.run m (S.values (S.lens m) (j:Int)) al).length=m.nodes.length:=by simp[S.run]
  have lY:(S.run m (S.values (S.lens m) (j:Int)) (S.none m)).length=m.nodes.length:=by simp[S.run]
  refine cutG (P:=fun t' df g''=>df=[]∧g''=g1∧St t' (LW nn av vv tc)∧tat t' 130=.int .i64 (j:Int)∧tat t' 129=.int .i64 (hid:Int)∧tat t' 24=l∧tat t' 26=o') ?_ ?_
  ·obtain ⟨h2,h7,h8,h9,h15,-⟩:=ht
   have n1:lenF .slice l g1=.val (.int .i64 (m.nodes.length:Int)):=by rw[hX.len,lX]
   have n2:lenF .slice o' g1=.val (.int .i64 (m.nodes.length:Int)):=by rw[hY.len,lY]
   have n3:lenF .slice av g1=.val (.int .i64 (m.nodes.length:Int)):=by rw[hav.len,hal]
   simp only[sx,sy,SO.run,↓reduceIte,Nat.reduceEqDiff,Nat.reduceAdd,Nat.reduceLeDiff,h8,h24,h25,h26,h27,n1,n2,n3,decide_true,Bool.not_true]
   simp[St,LW,sx,h2,h7,h8,h9,h15,h24,h26,h129,h130]
  clear ht h129 h130 h24 h25 h26 h27
  rintro t df g1 ⟨rfl,rfl,ht,h130,h129,h24,h26⟩
  refine seq_cut (P:=fun t' df g''=>df=[]∧g''=g1∧St t' (LW nn av vv tc)∧tat t' 130=.int .i64 (j:Int)∧tat t' 129=.int .i64 (hid:Int)∧tat t' 24=l∧tat t' 26=o'∧tat t' 167=av∧tat t' 168=.int .i64 (m.nodes.length:Int)∧tat t' 169=.int .i64 0) ?_ ?_
  ·obtain ⟨h2,h7,h8,h9,h15,-⟩:=ht
   have n3:lenF .slice av g1=.val (.int .i64 (m.nodes.length:Int)):=by rw[hav.len,hal]
   simp only[sx,sy,SO.run,↓reduceIte,Nat.reduceEqDiff,Nat.reduceAdd,Nat.reduceLeDiff,h8,n3]
   simp[St,LW,sx,h2,h7,h8,h9,h15,h24,h26,h129,h130]
  clear ht h129 h130 h24 h26
  rintro t df g1 ⟨rfl,rfl,ht,h130,h129,h24,h26,h167,h168,h169⟩
  simp only[wp_blk,wp_loop]
  refine world_loop (hh:=hid) (h:=j) hN hn5 hav hal hX hY lX lY hT (fun i x y z hi hx hy hz=>?_) g2 ht h24 h26 h129 h130 h167 h168 h169 fun t ht h129 h130=>?_
  ·have ey:y=S.V m (S.values (S.lens m) (j:Int)) al i:=by
    have:=run_at (m:=m) (roots:=S.values (S.lens m) (j:Int)) (act:=al) hi
    rw[hy] at this;exact this
   have ez:z=S.V m (S.values (S.lens m) (j:Int)) (S.none m) i:=by
    have:=run_at (m:=m) (roots:=S.values (S.lens m) (j:Int)) (act:=S.none m) hi
    rw[hz] at this;exact this
   have ex:al[i]?.getD 0=x:=by rw[hx];rfl
   refine ⟨fun h0=>?_,fun hb=>?_,?_,fun nd hnd=>?_⟩
   ·rw[ey,V_set hck hi (by omega),ex]
   ·rw[ey,ez];exact untouched hck hset hcl i hi hb
   ·rw[ey];exact (V_bound hck haa (List.getElem?_eq_getElem hi) j).1
   ·rw[ey];exact (V_bound hck haa hnd j).2
  ·obtain ⟨h2,h7,h8,h9,h15,-⟩:=ht
   simp only[sx,sy,SO.run,↓reduceIte,Nat.reduceEqDiff,h129,h130,St,LW,h2,h7,h8,h9,h15,true_and,and_true]
 ·rintro t df g' ⟨rfl,rfl,ht⟩
  exact fin t ht
end
end Hx
end
section
namespace Hx
open Go
noncomputable section
theorem s14_ok {m:Causal}{a b nn av:AV}{vv tc:Nat}{al:List Int}{Q:QT}{t:T}{g:G}(hmade:Made m)(hm:∀h,Agg m NoP 0 h (.agg [.int .i64 m.grain,a,b]))(hR:SlR NoP 0 .nil m.roots a)(hN:SlR NoP 0 .nil m.nodes b)(hnn:IT 0 (S.none m) nn)
  (hav:SlR NoP 0 .nil al av) (haa:S.act m al=true) (hT:tc<18446744073709551616) (hset:∀u,u<m.nodes.length→0≤al[u]?.getD 0→tc.testBit u=true)
  (hcl:∀(u:Nat) (x:Mech),m.nodes[u]?=some x→S.mask x.frm &&& tc≠0→tc.testBit u=true) (hv:vv<256)
  (g2:g.h.get 2=.cells 3 [[.int .i64 m.grain,a,b]] 0 false false) (hnx:2<g.nx) (ht:St t (LW nn av vv tc))
  (fin:∀t g',tat t 6=.bool true→Q .ret t [] g'):wp C0 1 none f_law33_TwinSets_k14 Q t [] g:=by
 have hck:=made_right hmade
 have hs:=(check_facts hck).1
 have hr8:=hs.roots
 simp only[f_law33_TwinSets_k14,f_law33_TwinSets_k13]
 refine seq_cut (P:=fun t' df g'=>df=[]∧g'=g∧St t' (LW nn av vv tc)∧tat t' 20=.int .i64 1) ?_ ?_
 ·obtain ⟨h2,h7,h8,h9,h15,-⟩:=ht
  simp only[sx,sy,SO.run,↓reduceIte,Nat.reduceEqDiff]
  simp[St,LW,sx,h2,h7,h8,h9,h15]
 clear ht
 rintro t df g1 ⟨rfl,rfl,ht,h20⟩
 refine cutG (P:=fun t' df g'=>df=[]∧g'=g1∧St t' (LW nn av vv tc)∧tat t' 20=.int .i64 (S.hidden m)) ?_ ?_
 ·refine seq_cut (P:=fun t' df g'=>df=[]∧g'=g1∧St t' (LW nn av vv tc)∧tat t' 20=.int .i64 1∧tat t' 118=a∧tat t' 119=.int .i64 (m.roots.length:Int)∧tat t' 120=.int .i64 0) ?_ ?_
  ·obtain ⟨h2,h7,h8,h9,h15,-⟩:=ht
   have hlen:∀g,lenF .slice a g=.val (.int .i64 (m.roots.length:Int)):=fun g=>hR.len g
   simp only[sx,sy,SO.run,↓reduceIte,Nat.reduceEqDiff,Nat.reduceAdd,Nat.reduceLeDiff,h7,g2,hlen]
   simp[St,LW,sx,h2,h7,h8,h9,h15,h20]
  clear ht h20
  rintro t df g2' ⟨rfl,rfl,ht,h20,h118,h119,h120⟩
  simp only[wp_blk,wp_loop,f_law33_TwinSets_b6]
  obtain ⟨rows,r1,r2,r3,r4⟩:=hR.all
  have r1:∀h',rowsOf h' 1 a=some rows:=r1
  refine wpL_range (m:=m.roots.length) (by omega) (fun j t df g=>df=[]∧g=g2'∧St t (LW nn av vv tc)∧tat t 118=a∧tat t 20=.int .i64 (S.prod ((m.roots.take j).map fun r=>(r.length:Int))))
   ⟨rfl,rfl,ht,h118,h20⟩ h120 h119 (by decide) (by rintro j t df g v s (rfl | rfl | rfl)<;>simp[St,LW,sx]) ?_ ?_
  ·clear ht h20 h118 h119 h120
   rintro j t df g hj ⟨rfl,rfl,⟨h2,h7,h8,h9,h15,-⟩,h118,h20⟩ h120 h119
   obtain ⟨ws,hx,htk,hmm⟩:=take_next hj
   obtain ⟨row,q1,q2⟩:=r3 j ws hx
   obtain ⟨u,rfl,hu⟩:=rp_list.1 q2
   have hlt:j<rows.length:=by omega
   have hwl:=hs.len ws hmm
   have hul:∀g,lenF .slice u g=.val (.int .i64 (ws.length:Int)):=fun g=>(hu.tree (h':=.nil) (Nat.le_refl _)).len g
   have hpb:=hidden_bound hs j
   have hpb2:=hidden_bound hs (j+1)
   have p8:(4:Int) ^ 8=65536:=by decide
   rw[htk,List.map_append,List.map_singleton,prod_snoc] at hpb2
   have hw64:IntKind.wrap .i64 (S.prod (List.map (fun r=>(r.length:Int)) (List.take j m.roots))*(ws.length:Int))=S.prod (List.map (fun r=>(r.length:Int)) (List.take (j+1) m.roots)):=by
    rw[htk,List.map_append,List.map_singleton,prod_snoc]
    exact wrap64 (by omega) (by omega)
   simp only[sx,sy,SO.run,↓reduceIte,Nat.reduceEqDiff,Nat.reduceAdd,Nat.reduceLeDiff,h118,h120,h20,r1,hlt,q1,hul,hw64,Option.isSome_some,Option.getD_some]
   simp[St,LW,sx,h2,h7,h8,h9,h15,h118,h119,h120]
  ·rintro t df g ⟨rfl,rfl,ht,-,h20⟩
   rw[List.take_length] at h20
   simp only[kB_exit,if_true]
   exact ⟨trivial,trivial,trivial,ht,h20⟩
 clear ht h20
 rintro t df g3 ⟨rfl,rfl,ht,h20⟩
 refine cutG (P:=fun t' df g'=>df=[]∧g'=g3∧St t' (LW nn av vv tc)) ?_ ?_
 ·refine seq_cut (P:=fun t' df g'=>df=[]∧g'=g3∧St t' (LW nn av vv tc)∧tat t' 129=.int .i64 (S.hidden m)∧tat t' 130=.int .i64 0) ?_ ?_
  ·obtain ⟨h2,h7,h8,h9,h15,-⟩:=ht
   simp only[sx,sy,SO.run,↓reduceIte,Nat.reduceEqDiff,h20]
   simp[St,LW,sx,h2,h7,h8,h9,h15]
  clear ht h20
  rintro t df g4 ⟨rfl,rfl,ht,h129,h130⟩
  simp only[wp_blk,wp_loop]
  refine runs_loop hck hm hN hnn hav haa hT hset hcl g2 ht h129 h130 fun t ht=>?_
  simp only[kB_exit,if_true]
  exact ⟨trivial,trivial,trivial,ht⟩
 clear ht h20
 rintro t df g4 ⟨rfl,rfl,h2,h7,h8,h9,h15,-⟩
 exact s12_ok hmade hm hN hnn hav haa hv g2 hnx ⟨h2,h7,h8,h9,trivial⟩ fin
theorem round_loop {nn av pv:AV}{vv tc n r:Nat}{p:List Nat}{Q:QT}{t:T}{g:G}(hn:p.length≤5)(hpv:SlR NoP 0 .nil p pv)(hpb:∀x∈p,x<18446744073709551616)(hT:tc<2 ^ p.length)
  (ht:St t [(2,.int .u8 (vv:Int)),(7,.hptr 2 0 0 0),(8,av),(9,nn),(10,pv),(15,.int .u64 (tc:Int)),(97,.int .i64 (n:Int)),(98,.int .i64 (r:Int))]) (h100:tat t 100=pv) (h101:tat t 101=.int .i64 (p.length:Int)) (h102:tat t 102=.int .i64 0)
  (fin:∀t,St t [(2,.int .u8 (vv:Int)),(7,.hptr 2 0 0 0),(8,av),(9,nn),(10,pv),(15,.int .u64 (S.tround p tc p.length:Int)),(97,.int .i64 (n:Int)),(98,.int .i64 (r:Int))]→Q (.exit 4) t [] g):wpL (wp C0 1 none f_law33_TwinSets_b3) Q t [] g:=by
 have p5:2 ^ p.length≤2 ^ 5:=Nat.pow_le_pow_right (by decide) hn
 simp only[f_law33_TwinSets_b3,f_law33_TwinSets_k2]
 refine wpL_range (m:=p.length) (by omega) (fun j t df g'=>df=[]∧g'=g∧St t [(2,.int .u8 (vv:Int)),(7,.hptr 2 0 0 0),(8,av),(9,nn),(10,pv),(15,.int .u64 (S.tround p tc j:Int)),(97,.int .i64 (n:Int)),(98,.int .i64 (r:Int))]∧tat t 100=pv)
  ⟨rfl,rfl,ht,h100⟩ h102 h101 (by decide) (by rintro j t df g v s (rfl | rfl | rfl)<;>simp[St,sx]) ?_ ?_
 ·clear ht h100 h101 h102
  rintro j t df g' hj ⟨rfl,rfl,⟨h2,h7,h8,h9,h10,h15,h97,h98,-⟩,h100⟩ h102 h101
  obtain ⟨x,hx⟩:∃x,p[j]?=some x:=⟨_,List.getElem?_eq_getElem hj⟩
  have q1:j<(p.map cu).length:=by rw[List.length_map];omega
  have q2:(p.map cu)[j]?=some (cu x):=by rw[List.getElem?_map,hx];rfl
  have ri:rowsOf g'.h 1 pv=some (p.map cu):=(hpv.tree (h':=g'.h) (Nat.le_refl _)).nats
  have hxb:=hpb x (List.mem_of_getElem? hx)
  have hlt:=tround_lt (p:=p) hn hT j (by omega)
  have hb1:=bin_and x (S.tround p tc j) hxb (by omega)
  have hb2:=bin_or (S.tround p tc j) (S.bit j) (by omega) (bit_lt j)
  have hst:S.tround p tc (j+1)=if x &&& S.tround p tc j=0 then S.tround p tc j else S.tround p tc j ||| S.bit j:=by rw[tround_succ,S.tstep,hx];rfl
  by_cases hz:x &&& S.tround p tc j=0
  ·rw[if_pos hz] at hst
   have hd:decide (((x &&& S.tround p tc j:Nat):Int)=0)=true:=by rw[hz];rfl
   simp only[sx,sy,SO.run,↓reduceIte,Nat.reduceEqDiff,h15,h100,h102,ri,q1,q2,cu,hb1,hd,Option.isSome_some,Option.getD_some,Bool.not_true]
   rw[hst]
   simp[St,sx,h2,h7,h8,h9,h10,h15,h97,h98,h100,h101,h102]
  ·rw[if_neg hz] at hst
   have hd:decide (((x &&& S.tround p tc j:Nat):Int)=0)=false:=by simp;omega
   simp only[sx,sy,SO.run,↓reduceIte,Nat.reduceEqDiff,h15,h100,h102,ri,q1,q2,cu,hb1,hd,Option.isSome_some,Option.getD_some,Bool.not_false,bin_one_shl,hb2]
   rw[hst]
   simp[St,sx,h2,h7,h8,h9,h10,h97,h98,h100,h101,h102]
 ·rintro t df g' ⟨rfl,rfl,ht,-⟩
  exact fin t ht
end
end Hx
end
section
namespace Hx
open Go
noncomputable section
theorem s15_ok {m:Causal}{a b nn av pv:AV}{vv tc:Nat}{al:List Int}{Q:QT}{t:T}{g:G}(hmade:Made m)(hm:∀h,Agg m NoP 0 h (.agg [.int .i64 m.grain,a,b]))(hR:SlR NoP 0 .nil m.roots a)(hN:SlR NoP 0 .nil m.nodes b)(hnn:IT 0 (S.none m) nn)
  (hav:SlR NoP 0 .nil al av) (haa:S.act m al=true) (hpv:SlR NoP 0 .nil (m.nodes.map fun x=>S.mask x.frm) pv) (htc:tc=S.tset al m.nodes.length) (hv:vv<256)
  (g2:g.h.get 2=.cells 3 [[.int .i64 m.grain,a,b]] 0 false false) (hnx:2<g.nx) (ht:St t [(2,.int .u8 (vv:Int)),(7,.hptr 2 0 0 0),(8,av),(9,nn),(10,pv),(15,.int .u64 (tc:Int))])
  (fin:∀t g',tat t 6=.bool true→Q .ret t [] g'):wp C0 1 none f_law33_TwinSets_k15 Q t [] g:=by
 have hck:=made_right hmade
 have hn5:=(check_facts hck).1.nodes
 have hal:=(act_at haa).1
 obtain ⟨p,hp⟩:∃p,p=m.nodes.map fun x=>S.mask x.frm:=⟨_,rfl⟩
 rw[←hp] at hpv
 have hpl:p.length=m.nodes.length:=by rw[hp];simp
 have hpb:∀x∈p,x<18446744073709551616:=fun x hx=>by rw[hp] at hx;obtain ⟨y,-,rfl⟩:=List.mem_map.1 hx;exact mask_lt _
 have hT0:tc<2 ^ p.length:=by rw[htc,hpl];exact tset_lt hn5 _ (Nat.le_refl _)
 have p5:2 ^ p.length≤2 ^ 5:=Nat.pow_le_pow_right (by decide) (by omega)
 simp only[f_law33_TwinSets_k15]
 refine cutG (P:=fun t' df g'=>df=[]∧g'=g∧St t' (LW nn av vv (S.tch p tc p.length))) ?_ ?_
 ·refine seq_cut (P:=fun t' df g'=>df=[]∧g'=g∧St t' [(2,.int .u8 (vv:Int)),(7,.hptr 2 0 0 0),(8,av),(9,nn),(10,pv),(15,.int .u64 (tc:Int))]∧tat t' 97=.int .i64 (p.length:Int)∧tat t' 98=.int .i64 0) ?_ ?_
  ·obtain ⟨h2,h7,h8,h9,h10,h15,-⟩:=ht
   have hlen:∀g,lenF .slice pv g=.val (.int .i64 (p.length:Int)):=fun g=>hpv.len g
   simp only[sx,sy,SO.run,↓reduceIte,Nat.reduceEqDiff,h10,hlen]
   simp[St,sx,h2,h7,h8,h9,h10,h15]
  clear ht
  rintro t df g1 ⟨rfl,rfl,ht,h97,h98⟩
  simp only[wp_blk,wp_loop,f_law33_TwinSets_b5,f_law33_TwinSets_k4]
  refine wpL_range (m:=p.length) (by omega) (fun r t df g'=>df=[]∧g'=g1∧St t [(2,.int .u8 (vv:Int)),(7,.hptr 2 0 0 0),(8,av),(9,nn),(10,pv),(15,.int .u64 (S.tch p tc r:Int))])
   ⟨rfl,rfl,ht⟩ h98 h97 (by decide) (by rintro j t df g v s (rfl | rfl | rfl)<;>simp[St,sx]) ?_ ?_
  ·clear ht h97 h98
   rintro r t df g' hr ⟨rfl,rfl,ht⟩ h98 h97
   rw[wp_seq]
   refine seq_cut (P:=fun t' df g''=>df=[]∧g''=g'∧St t' [(2,.int .u8 (vv:Int)),(7,.hptr 2 0 0 0),(8,av),(9,nn),(10,pv),(15,.int .u64 (S.tch p tc r:Int)),(97,.int .i64 (p.length:Int)),(98,.int .i64 (r:Int))]∧tat t' 100=pv∧tat t' 101=.int .i64 (p.length:Int)∧tat t' 102=.int .i64 0) ?_ ?_
   ·obtain ⟨h2,h7,h8,h9,h10,h15,-⟩:=ht
    have hlen:∀g,lenF .slice pv g=.val (.int .i64 (p.length:Int)):=fun g=>hpv.len g
    simp only[sx,sy,SO.run,↓reduceIte,Nat.reduceEqDiff,h10,hlen]
    simp[St,sx,h2,h7,h8,h9,h10,h15,h97,h98]
   clear ht h97 h98
   rintro t df g3 ⟨rfl,rfl,ht,h100,h101,h102⟩
   simp only[wp_blk,wp_loop]
   refine round_loop (by omega) hpv hpb (tch_lt (by omega) hT0 r) ht h100 h101 h102 fun t ht=>?_
   obtain ⟨h2,h7,h8,h9,h10,h15,h97,h98,-⟩:=ht
   have h15:tat t 15=.int .u64 (S.tch p tc (r+1):Int):=h15
   simp only[sx,sy,SO.run,↓reduceIte,Nat.reduceEqDiff,h97,h98,St,h2,h7,h8,h9,h10,h15,true_and,and_true]
  ·rintro t df g' ⟨rfl,rfl,h2,h7,h8,h9,h10,h15,-⟩
   simp only[kB_exit,if_true]
   exact ⟨trivial,trivial,trivial,h2,h7,h8,h9,h15,trivial⟩
 clear ht
 rintro t df g1 ⟨rfl,rfl,ht⟩
 have hlt:=tch_lt (p:=p) (T:=tc) (by omega) hT0 p.length
 refine s14_ok hmade hm hR hN hnn hav haa (by omega) (fun u hu h0=>?_) (fun u x hx hne=>?_) hv g2 hnx ht fin
 ·exact tch_sub p tc p.length u (by rw[htc];exact tset_tb _ u (by omega) hu h0)
 ·have hi:=(List.getElem?_eq_some_iff.1 hx).1
  refine tch_closed (by omega) hT0 (by omega) ?_
  have:p[u]?.getD 0=S.mask x.frm:=by rw[hp,List.getElem?_map,hx];rfl
  rw[this];exact hne
theorem set_loop {nn av pv:AV}{vv:Nat}{al:List Int}{Q:QT}{t:T}{g:G}(hn:al.length≤5)(hav:SlR NoP 0 .nil al av)
  (ht:St t [(2,.int .u8 (vv:Int)),(7,.hptr 2 0 0 0),(8,av),(9,nn),(10,pv),(15,.int .u64 0)]) (h82:tat t 82=av) (h83:tat t 83=.int .i64 (al.length:Int)) (h84:tat t 84=.int .i64 0)
  (fin:∀t,St t [(2,.int .u8 (vv:Int)),(7,.hptr 2 0 0 0),(8,av),(9,nn),(10,pv),(15,.int .u64 (S.tset al al.length:Int))]→Q (.exit 0) t [] g):wpL (wp C0 1 none f_law33_TwinSets_b1) Q t [] g:=by
 have p5:2 ^ al.length≤2 ^ 5:=Nat.pow_le_pow_right (by decide) hn
 simp only[f_law33_TwinSets_b1,f_law33_TwinSets_k0]
 refine wpL_range (m:=al.length) (by omega) (fun j t df g'=>df=[]∧g'=g∧St t [(2,.int .u8 (vv:Int)),(7,.hptr 2 0 0 0),(8,av),(9,nn),(10,pv),(15,.int .u64 (S.tset al j:Int))]∧tat t 82=av)
  ⟨rfl,rfl,ht,h82⟩ h84 h83 (by decide) (by rintro j t df g v s (rfl | rfl | rfl)<;>simp[St,sx]) ?_ ?_
 ·clear ht h82 h83 h84
  rintro j t df g' hj ⟨rfl,rfl,⟨h2,h7,h8,h9,h10,h15,-⟩,h82⟩ h84 h83
  obtain ⟨x,hx,-,-⟩:=take_next hj
  have q1:j<(al.map ci).length:=by rw[List.length_map];omega
  have q2:(al.map ci)[j]?=some (ci x):=by rw[List.getElem?_map,hx];rfl
  have ri:rowsOf g'.h 1 av=some (al.map ci):=(hav.tree (h':=g'.h) (Nat.le_refl _)).ints
  have hlt:=tset_lt (act:=al) hn j (by omega)
  have hb2:=bin_or (S.tset al j) (S.bit j) (by omega) (bit_lt j)
  have hst:S.tset al (j+1)=if 0≤x then S.tset al j ||| S.bit j else S.tset al j:=by rw[tset_succ,hx];rfl
  by_cases hz:0≤x
  ·rw[if_pos hz] at hst
   simp only[sx,sy,SO.run,↓reduceIte,Nat.reduceEqDiff,h15,h82,h84,ri,q1,q2,ci,hz,decide_true,Option.isSome_some,Option.getD_some,bin_one_shl,hb2]
   rw[hst]
   simp[St,sx,h2,h7,h8,h9,h10,h82,h83,h84]
  ·rw[if_neg hz] at hst
   simp only[sx,sy,SO.run,↓reduceIte,Nat.reduceEqDiff,h15,h82,h84,ri,q1,q2,ci,hz,decide_false,Option.isSome_some,Option.getD_some]
   rw[hst]
   simp[St,sx,h2,h7,h8,h9,h10,h15,h82,h83,h84]
 ·rintro t df g' ⟨rfl,rfl,ht,-⟩
  exact fin t ht
end
end Hx
end
section
namespace Hx
open Go
noncomputable section
abbrev P3:Nat→Prop:=fun i=>3≤i
theorem BD.sl {K R n:Nat}{g:G}{V:Ky→AV}{E:Ky→En}{Rt:Nat→List Int}{c:Nat→Int}{F:Nat→Nat→List Int}(hD:BD K R n V E Rt c F)(hH:Hp g 3 (LB R n) V E)(hK:K≤2000000)(hR:R≤K)(hn:n≤K) :
  SlR P3 0 g.h ((List.range R).map Rt) (V (4,0))∧SlR P3 0 g.h ((List.range n).map fun i=>(⟨c i,F 1 i,F 2 i,F 3 i⟩:Mech)) (V (4,1))∧∀gr,Bnd K ⟨gr,(List.range R).map Rt,(List.range n).map fun i=>(⟨c i,F 1 i,F 2 i,F 3 i⟩:Mech)⟩:=by
 have p3:∀{k:Ky} {sz:Nat} {rows:List (List AV)},Own g 3 (V k) sz rows→∀i,vid (V k)=some i→P3 i:=fun h i hi=>(h.lt hi).1
 have sl1:∀{k:Ky} {l:List Int},Own g 3 (V k) 1 (l.map ci)→l.length≤K→SlR P3 0 g.h l (V k):=fun h hl=>Own.sl (α:=Int) h (by omega) (All2.of_map (fun a=>rp_int.2 rfl) _) (p3 h)
 refine ⟨?_,?_,fun gr=>⟨by simpa using hR,fun x hx=>?_,by simpa using hn,fun x hx=>?_⟩⟩
 ·have:=hH.own (k:=(4,0)) (by simp[LB]) hD.rs
  refine Own.sl (α:=List Int) this (by simp;omega) (all2_maps fun i hi=>?_) (p3 this)
  have hi:=List.mem_range.1 hi
  obtain ⟨q1,q2⟩:=hD.r i hi
  exact ⟨_,rfl,sl1 (hH.own (k:=(0,i)) (.inl ⟨rfl,hi⟩) q1) q2⟩
 ·have:=hH.own (k:=(4,1)) (by simp[LB]) hD.ns
  refine Own.sl (α:=Mech) this (by simp;omega) (all2_maps fun i hi=>?_) (p3 this)
  have hi:=List.mem_range.1 hi
  obtain ⟨q1,q2⟩:=hD.f 1 i (by omega) (by omega) hi
  obtain ⟨q3,q4⟩:=hD.f 2 i (by omega) (by omega) hi
  obtain ⟨q5,q6⟩:=hD.f 3 i (by omega) (by omega) hi
  exact rp_mech.2 ⟨_,_,_,rfl,sl1 (hH.own (k:=(1,i)) (.inr (.inl ⟨by simp,by simp,hi⟩)) q1) q2,sl1 (hH.own (k:=(2,i)) (.inr (.inl ⟨by simp,by simp,hi⟩)) q3) q4,sl1 (hH.own (k:=(3,i)) (.inr (.inl ⟨by simp,by simp,hi⟩)) q5) q6⟩
 ·obtain ⟨i,hi,rfl⟩:=List.mem_map.1 hx
  exact (hD.r i (List.mem_range.1 hi)).2
 ·obtain ⟨i,hi,rfl⟩:=List.mem_map.1 hx
  have hi:=List.mem_range.1 hi
  exact ⟨(hD.f 1 i (by omega) (by omega) hi).2,(hD.f 2 i (by omega) (by omega) hi).2,(hD.f 3 i (by omega) (by omega) hi).2⟩
theorem BD.up {K K' R n:Nat}{V:Ky→AV}{E:Ky→En}{Rt:Nat→List Int}{c:Nat→Int}{F:Nat→Nat→List Int}(h:BD K R n V E Rt c F)(hK:K≤K'):BD K' R n V E Rt c F :=
 ⟨fun i hi=>⟨(h.r i hi).1,by have:=(h.r i hi).2;omega⟩,fun q i a b hi=>⟨(h.f q i a b hi).1,by have:=(h.f q i a b hi).2;omega⟩,h.rs,h.ns⟩
theorem SlR.heap {α:Type} [Rp α]{P:Nat→Prop}{k:Nat}{h h':H}{l:List α}{v:AV}(r:SlR P k h l v)(hf:h'=h):SlR P k h' l v:=by subst hf;exact r
end
end Hx
end
section
namespace Hx
open Go
noncomputable section
theorem made_len {m:Causal}(h:Made m):(1≤m.nodes.length∧m.nodes.length≤4)∧(∀x∈m.nodes,x.card=2∨x.card=3)∧Bnd 20000 m:=by
 obtain ⟨e,c,R,F,N,O,num,rfl,hn,hg,hF,hR,hN,hlt,hinj,hsur,hnd⟩:=h.ex
 refine ⟨by simpa [mkM] using hn,fun x hx=>?_,?_⟩
 ·obtain ⟨i,hi,rfl⟩:=List.mem_map.1 hx
  exact hF.card i (List.mem_range.1 hi)
 ·refine ⟨by show R.length≤_;omega,fun r hr=>?_,by simp[mkM];omega,fun x hx=>?_⟩
  ·obtain ⟨q,z,-,-,-,rfl⟩:=hF.roots r hr
   have:=weights_len e.gr q z
   omega
  ·obtain ⟨i,hi,rfl⟩:=List.mem_map.1 hx
   have hi:=List.mem_range.1 hi
   obtain ⟨k,hk,rfl⟩:=hsur i hi
   refine ⟨by have:=(hnd k hk).len;show (F (num k)).length≤_;omega,by have:=hN (num k);show (N (num k)).length≤_;omega,?_⟩
   show (O (num k)).length≤_
   rw[(hnd k hk).outs]
   refine Nat.le_trans allF_len ?_
   have hb:=szs_bound hF (hnd k hk).places (hF.inc _ hi)
   have:=prod_bound (l:=szs c R (F (num k)) (N (num k))) fun y hy=>by have:=hb y hy;omega
   have hl4:(szs c R (F (num k)) (N (num k))).length≤7:=by have:=(hnd k hk).len;have:=hN (num k);simp[szs];omega
   have:=pow4_mono hl4
   have:(4:Int) ^ 7=16384:=by decide
   omega
theorem Bnd.up {K K':Nat}{m:Causal}(h:Bnd K m)(hk:K≤K'):Bnd K' m :=
 ⟨by have:=h.r;omega,fun x hx=>by have:=h.rr x hx;omega,by have:=h.n;omega,fun x hx=>by have:=h.f x hx;omega⟩
end
end Hx
end
section
namespace Hx
open Go
noncomputable section
theorem works_call' (g:G):callV C0 1 N.law33_works [] g=.val (.bool true):=by kernel_rfl
end
end Hx
end
section
namespace Hx
open Go
noncomputable section
theorem foot_rep (t:T)(g:G)(xs:List Od):SO.foot C0 t g (.call N.slices_Repeatintint xs)=rdLook ((gets t xs).flatMap (snapIds g.h depthA)):=by kernel_rfl
theorem ids_u8s (h:H)(l:List UInt8):snapIds h depthA (.agg (l.map u8v))=[]:=by
 show (l.map u8v).flatMap (snapIds h 23)=[]
 induction l with
 | nil=>rfl
 | cons x l ih=>rw[List.map_cons,List.flatMap_cons,ih];rfl
theorem TwinSets_call {x:DraftM}{u1:AV}{vs:List UInt8}{vv:Nat}(hx:Agg x NoP 0 .nil u1)(hvs:vs.length=5)(hv:vv<256) :
  ∃g',(I C0).call 1 N.law33_TwinSets [u1,.agg (vs.map u8v),.int .u8 (vv:Int)] G.empty=.ok (.bool true) g':=by
 obtain ⟨xs,rfl,qx⟩:=hx
 have hx':∀h,Agg x NoP 0 h (.agg xs):=fun h=>⟨_,rfl,Rp.tree qx (Nat.le_refl _)⟩
 obtain ⟨a1,a2,a3,a4,e1,-⟩:=rp_draftM.1 qx
 have hxl:xs.length=5:=by rw[e1];rfl
 clear e1 a1 a2 a3 a4
 have hyl:(vs.map u8v).length=5:=by simpa using hvs
 have key:=call_ok (C:=C0) (d:=1) (f:=N.law33_TwinSets) («as»:=[.agg xs,.agg (vs.map u8v),.int .u8 (vv:Int)]) (g:=G.empty) (K:=fun v g'=>v=.bool true) eq_law33_TwinSets (by simp[f_law33_TwinSets]) ?_
 ·cases hc:(I C0).call 1 N.law33_TwinSets [.agg xs,.agg (vs.map u8v),.int .u8 (vv:Int)] G.empty with
  | fail=>rw[hc] at key;exact key.elim
  | ok v g'=>rw[hc] at key;exact ⟨g',by rw[show v=.bool true from key]⟩
 clear qx
 simp only[f_law33_TwinSets,sx,sy,sf,SO.run,↓reduceIte,Nat.reduceEqDiff,Nat.reduceAdd,Nat.reduceLeDiff]
 obtain ⟨g0,hg0⟩:∃g0,g0=((G.empty.new (AObj.cells xs.length [xs] 0 false false)).new (AObj.cells (vs.map u8v).length [vs.map u8v] 0 false false)):=⟨_,rfl⟩
 rw[←hg0]
 have f0:g0.h.get 0=.cells 5 [xs] 0 false false:=by rw[hg0,hxl];simp[sx,H.get_put]
 have f1:g0.h.get 1=.cells 5 [vs.map u8v] 0 false false:=by rw[hg0,hyl];simp[sx,H.get_put]
 have f4:g0.nx=2:=by rw[hg0];simp[sx]
 clear hg0
 have ld0:hptrLoad (.cells 5 [xs] 0 false false) 0 0 true 5 0=.val (.agg xs):=by
  match xs,hxl with
  | [a,b,c,d,e],_=>rfl
 have ld1:hptrLoad (.cells 5 [vs.map u8v] 0 false false) 0 0 true 5 0=.val (.agg (vs.map u8v)):=by
  match vs,hvs with
  | [a,b,c,d,e],_=>rfl
 obtain ⟨rm,em,m,hmade,cm,rfl,hcm⟩:=model_ok (g:=g0) (d:=1) (by decide) (hx' _)
 obtain ⟨hml,hmc,-⟩:=made_len hmade
 have hck:=made_right hmade
 obtain ⟨a,b,rfl,hR,hN⟩:=rp_causal.1 hcm
 have hm:∀h,Agg m NoP 0 h (.agg [.int .i64 m.grain,a,b]):=fun h=>⟨_,rfl,Rp.tree hcm (Nat.le_refl _)⟩
 have idm:∀h,snapIds h depthA (.agg [.int .i64 m.grain,a,b])=[]:=fun h=>agg_ids (h:=h) (rp_causal.2 ⟨a,b,rfl,hR.tree (Nat.le_refl _),hN.tree (Nat.le_refl _)⟩)
 have hcp:∀x∈m.nodes,0<x.card:=fun x hx=>by rcases hmc x hx with h | h<;>omega
 simp only[f_law33_TwinSets_r]
 refine cutG (P:=fun t' df g'=>df=[]∧g'=g0∧St t' [(2,.int .u8 (vv:Int)),(3,.hptr 0 0 0 0),(4,.hptr 1 0 0 0)]) ?_ ?_
 ·simp only[sx,sy,sf,SO.run,↓reduceIte,Nat.reduceEqDiff,Nat.reduceAdd,Nat.reduceLeDiff,works_call',Bool.not_true]
  simp[St,sx]
 rintro t df g1 ⟨rfl,rfl,h2,h3,h4,-⟩
 refine seq_cut (P:=fun t' df g'=>df=[]∧St t' [(2,.int .u8 (vv:Int)),(4,.hptr 1 0 0 0),(7,.hptr 2 0 0 0)]∧g'.nx=3∧g'.h.get 1=.cells 5 [vs.map u8v] 0 false false∧g'.h.get 2=.cells 3 [[.int .i64 m.grain,a,b]] 0 false false) ?_ ?_
 ·simp only[sx,sy,sf,SO.run,↓reduceIte,Nat.reduceEqDiff,Nat.reduceAdd,Nat.reduceLeDiff,h3,f0,ld0,em]
  simp[St,sx,h2,h4,f4,H.get_put,f1]
 clear h2 h3 h4 f0 f1 f4 em ld0
 rintro t df g2 ⟨rfl,⟨h2,h4,h7,-⟩,n2,f1,f2⟩
 refine cutG (P:=fun t' df g'=>df=[]∧∃nn av,IT 0 (S.none m) nn∧IT 0 (S.knownOf vs m) av∧St t' [(2,.int .u8 (vv:Int)),(7,.hptr 2 0 0 0),(8,av),(9,nn)]∧2<g'.nx∧g'.h.get 2=.cells 3 [[.int .i64 m.grain,a,b]] 0 false false) ?_ ?_
 ·have hb:∀g,bslV 1 1 [.int .i64 0] [0] [.int .i64 (-1)] g=.upd (.hsl g.nx 0 0 1 none) (g.new (.cells 1 [[.int .i64 (-1)]] 0 false false)):=fun g=>by kernel_rfl
  simp only[sx,sy,sf,SO.run,↓reduceIte,Nat.reduceEqDiff,Nat.reduceAdd,Nat.reduceLeDiff,h4,h7,f1,f2,ld1]
  refine sat_ex (knownOf_ok (d:=1) (w:=.agg [.int .i64 m.grain,a,b]) (by decide) hvs (hm _) (by omega) hcp) fun av hav=>?_
  simp only[sx,sy,sf,SO.run,↓reduceIte,Nat.reduceEqDiff,Nat.reduceAdd,Nat.reduceLeDiff,h4,h7,hb,f2,hN.len,H.get_put,n2]
  refine sat_ex (rep_ok (n:=m.nodes.length) (by omega) (by omega) (by simp[H.get_put,n2])) fun nn hnn=>?_
  simp only[sx,sy,sf,SO.run,↓reduceIte,Nat.reduceEqDiff,Nat.reduceAdd,Nat.reduceLeDiff,foot_rep,foot_ref33_Known_Of]
  refine ⟨?_,?_⟩
  ·simp only[List.reverse_cons,List.reverse_nil,List.nil_append,List.cons_append]
   refine footsOk_mk [false,false,false,true,false,false,false,false,false,false] [(0,3),(1,3),(2,3),(3,4),(3,5),(3,6)] (by simp[All2,rdLook,noLook,bigLook]) (by decide) ?_
   rintro p hp x y hx hy
   simp only[List.mem_cons,List.not_mem_nil,or_false] at hp
   rcases hp with rfl | rfl | rfl | rfl | rfl | rfl <;>
    (simp at hx hy;subst hx;subst hy;refine apart_mk rfl rfl rfl rfl ?_ ?_ ?_<;>simp[rdLook,noLook,refIds,gets_cons,gets_nil,get_t,get_k,sx,h4,h7,n2,ids_u8s,idm])
  ·refine ⟨nn,av,hnn,hav,?_,?_,?_⟩
   ·simp[St,sx,h2,h7]
   ·simp
   ·simp[H.get_put,n2,f2]
 clear h2 h4 h7 f1 f2 n2 ld1
 rintro t df g3 ⟨rfl,nn,av,hnn,hav,ht,hn3,f2⟩
 have haa:=act_known hck vs
 have hal:=(act_at haa).1
 have hE:=readE_ok hck (ls:=[S.knownOf vs m]) (by simp[haa])
 refine seq_cut (P:=fun t' df g'=>df=[]∧g'=g3∧∃pv,SlR NoP 0 .nil (m.nodes.map fun x=>S.mask x.frm) pv∧St t' [(2,.int .u8 (vv:Int)),(7,.hptr 2 0 0 0),(8,av),(9,nn),(10,pv),(12,.int .i64 0)]) ?_ ?_
 ·obtain ⟨h2,h7,h8,h9,-⟩:=ht
  simp only[sx,sy,sf,SO.run,↓reduceIte,Nat.reduceEqDiff,Nat.reduceAdd,Nat.reduceLeDiff,h7,f2]
  refine sat_ex (graph_ok (d:=1) (by decide) (hm _)) fun r hr=>?_
  obtain ⟨ra,rb,rc,rfl,q1,q2,q3⟩:=hr
  have q3:=rp_int.1 q3
  injection q3 with q3
  obtain ⟨pv,e,q1⟩:=rp_list.1 q1
  injection e with e
  rw[S.gpar,if_pos hck,←e] at q1
  have hge:S.graphE m=0:=by rw[S.graphE,if_pos hck]
  rw[hge] at q3
  simp only[sx,sy,sf,SO.run,↓reduceIte,Nat.reduceEqDiff,Nat.reduceAdd,Nat.reduceLeDiff,q3]
  refine ⟨ra,q1,?_⟩
  simp[St,sx,h2,h7,h8,h9]
 clear ht
 rintro t df g4 ⟨rfl,rfl,pv,hpv,ht⟩
 refine seq_cut (P:=fun t' df g'=>df=[]∧Fr g4 g'∧∃c1 c2 c3 W,SlR NoP 0 .nil W c3∧1≤(W:List Int).length∧St t' [(2,.int .u8 (vv:Int)),(7,.hptr 2 0 0 0),(8,av),(9,nn),(10,pv),(12,.int .i64 0),(13,.hptr g4.nx 0 0 0),(14,.int .i64 0)]∧g'.h.get g4.nx=.cells 3 [[c1,c2,c3]] 0 false false) ?_ ?_
 ·obtain ⟨h2,h7,h8,h9,h10,h12,-⟩:=ht
  simp only[sx,sy,sf,SO.run,↓reduceIte,Nat.reduceEqDiff,Nat.reduceAdd,Nat.reduceLeDiff,h7,h8,f2]
  refine sat_ex (ttable_ok (d:=1) (by decide) (hm _) (hav.sl .nil)) fun r hr=>?_
  obtain ⟨ra,rb,rfl,⟨cs,rfl,q1⟩,q2⟩:=hr
  have q2:=rp_int.1 q2
  injection q2 with q2
  rw[hE] at q2
  have hT:S.ttable m (S.knownOf vs m)=S.table m (S.knownOf vs m):=by rw[S.ttable,if_pos hE]
  rw[hT] at q1
  obtain ⟨c1,c2,c3,rfl,-,-,hw⟩:=rp_factor.1 q1
  simp only[sx,sy,sf,SO.run,↓reduceIte,Nat.reduceEqDiff,Nat.reduceAdd,Nat.reduceLeDiff,q2,H.get_put]
  refine ⟨?_,c1,c2,c3,_,hw,?_,?_,?_⟩
  ·exact fr_of (by simp) fun i hi=>by simp[H.get_put,show ¬i=g4.nx by omega]
  ·show 1≤(S.tabW m (S.knownOf vs m) (S.hidden m).toNat).length
   rw[tabW_len]
   have:=prod_pos (l:=m.nodes.map (·.card)) fun y hy=>by obtain ⟨z,hz,rfl⟩:=List.mem_map.1 hy;exact hcp z hz
   unfold S.cards;omega
  ·simp[St,sx,h2,h7,h8,h9,h10,h12]
  ·simp[H.get_put]
 clear ht
 rintro t df g5 ⟨rfl,fr5,c1,c2,c3,W,hW,hW1,ht,f13⟩
 have f2:g5.h.get 2=.cells 3 [[.int .i64 m.grain,a,b]] 0 false false:=by rw[fr5.2 2 hn3,f2]
 have hn5:2<g5.nx:=by have:=fr5.1;omega
 refine cutG (P:=fun t' df g'=>df=[]∧g'=g5∧St t' [(2,.int .u8 (vv:Int)),(7,.hptr 2 0 0 0),(8,av),(9,nn),(10,pv)]) ?_ ?_
 ·obtain ⟨h2,h7,h8,h9,h10,h12,h13,h14,-⟩:=ht
  have n1:∀g,lenF .slice pv g=.val (.int .i64 (m.nodes.length:Int)):=fun g=>by rw[hpv.len,List.length_map]
  have n2:∀g,lenF .slice b g=.val (.int .i64 (m.nodes.length:Int)):=fun g=>hN.len g
  have n3:∀g,lenF .slice c3 g=.val (.int .i64 (W.length:Int)):=fun g=>hW.len g
  have n4:¬(W.length:Int)<1:=by omega
  simp only[sx,sy,sf,SO.run,↓reduceIte,Nat.reduceEqDiff,Nat.reduceAdd,Nat.reduceLeDiff,h7,h10,h12,h13,h14,f2,f13,n1,n2,n3,n4,decide_true,decide_false,Bool.not_true]
  simp[St,sx,h2,h7,h8,h9,h10]
 clear ht
 rintro t df g6 ⟨rfl,rfl,ht⟩
 refine seq_cut (P:=fun t' df g'=>df=[]∧g'=g6∧St t' [(2,.int .u8 (vv:Int)),(7,.hptr 2 0 0 0),(8,av),(9,nn),(10,pv),(15,.int .u64 0)]) ?_ ?_
 ·obtain ⟨h2,h7,h8,h9,h10,-⟩:=ht
  simp only[sx,sy,sf,SO.run,↓reduceIte,Nat.reduceEqDiff]
  simp[St,sx,h2,h7,h8,h9,h10]
 clear ht
 rintro t df g7 ⟨rfl,rfl,ht⟩
 refine cutG (P:=fun t' df g'=>df=[]∧g'=g7∧St t' [(2,.int .u8 (vv:Int)),(7,.hptr 2 0 0 0),(8,av),(9,nn),(10,pv),(15,.int .u64 (S.tset (S.knownOf vs m) m.nodes.length:Int))]) ?_ ?_
 ·refine seq_cut (P:=fun t' df g'=>df=[]∧g'=g7∧St t' [(2,.int .u8 (vv:Int)),(7,.hptr 2 0 0 0),(8,av),(9,nn),(10,pv),(15,.int .u64 0)]∧tat t' 82=av∧tat t' 83=.int .i64 ((S.knownOf vs m).length:Int)∧tat t' 84=.int .i64 0) ?_ ?_
  ·obtain ⟨h2,h7,h8,h9,h10,h15,-⟩:=ht
   have n1:∀g,lenF .slice av g=.val (.int .i64 ((S.knownOf vs m).length:Int)):=fun g=>(hav.sl .nil).len g
   simp only[sx,sy,sf,SO.run,↓reduceIte,Nat.reduceEqDiff,h8,n1]
   simp[St,sx,h2,h7,h8,h9,h10,h15]
  clear ht
  rintro t df g8 ⟨rfl,rfl,ht,h82,h83,h84⟩
  simp only[wp_blk,wp_loop]
  refine set_loop (by omega) (hav.sl .nil) ht h82 h83 h84 fun t ht=>?_
  rw[hal] at ht
  simp only[kB_exit,if_true]
  exact ⟨trivial,trivial,trivial,ht⟩
 clear ht
 rintro t df g8 ⟨rfl,rfl,ht⟩
 exact s15_ok hmade hm (hR.tree (Nat.le_refl _)) (hN.tree (Nat.le_refl _)) hnn (hav.sl .nil) haa hpv rfl hv f2 hn5 ht fun t g' h=>by simp only[sx,sy,SO.run,h]
end
end Hx
end
section
namespace Hx
open Go Go.RowKit Go.ChangeShapes Go.WideShapes
def contig (P:Program):List Field→Nat→Option Nat
 | [],k=>some k
 | f::fs,k=>if f.offset=k then contig P fs (k+P.cellsOf f.type) else none
def plainT (P:Program):Nat→TypeId→Bool
 | 0,_=>false
 | n+1,t=>match P.underlying t with
  | some .bool=>true
  | some (.int _)=>true
  | some (.slice e)=>decide (0<P.cellsOf e)&&plainT P n e
  | some (.struct fs)=>(contig P fs.toList 0 == some (P.cellsOf t))&&fs.toList.all (fun f=>plainT P n f.type)
  | some (.array m e)=>decide (m*P.cellsOf e=P.cellsOf t)&&plainT P n e
  | _=>false
def Sh (P:Program):Nat→TypeId→List AV→Prop
 | 0,_,_=>False
 | n+1,t,xs=>match P.underlying t with
  | some .bool=>∃b,xs=[.bool b]
  | some (.int k)=>∃z,xs=[.int k z]∧(Lit.int k z).wf=true
  | some (.slice e)=>xs=[.nils]∨∃rows,xs=[.tsl 0 (P.cellsOf e) rows]∧rows.length<9223372036854775808∧∀row∈rows,Sh P n e row
  | some (.struct fs)=>∃xss,xs=xss.flatten∧All2 (fun (f:Field) ys=>Sh P n f.type ys) fs.toList xss
  | some (.array m e)=>∃xss:List (List AV),xs=xss.flatten∧xss.length=m∧∀ys∈xss,Sh P n e ys
  | _=>False
def GoodC (P:Program)(w:World)(n:Nat)(t:TypeId)(xs:List AV)(cs:List Value):Prop :=
 RVs0 w xs cs∧(∀y∈xs,y.one=true∧Closed y)∧Sh P n t xs
theorem RVs0.append {w:World}{xs ys:List AV}{cs ds:List Value}(h:RVs0 w xs cs)(h':RVs0 w ys ds):RVs0 w (xs++ys) (cs++ds):=by
 refine ⟨by rw[List.length_append,List.length_append,h.1,h'.1],fun i x v hx hv=>?_⟩
 rcases Nat.lt_or_ge i xs.length with hi | hi
 ·rw[List.getElem?_append_left hi] at hx
  rw[List.getElem?_append_left (by rw[←h.1];exact hi)] at hv
  exact h.2 i x v hx hv
 ·rw[List.getElem?_append_right hi] at hx
  rw[List.getElem?_append_right (by rw[←h.1];exact hi),←h.1] at hv
  exact h'.2 _ x v hx hv
theorem add_adr (b o n:Nat):(⟨b,o,none⟩:Addr).add n=adr b (o+n):=by
 unfold Addr.add
 split
 ·rename_i h;subst h;rfl
 ·rfl
variable {H:Type}{enc:TypeId×Value→H}{P:Program}{w:World}
theorem contig_le:∀{fl:List Field} {k K:Nat},contig P fl k=some K→k≤K
 | [],k,K,h=>by injection h with h;omega
 | f::fl,k,K,h=>by
  unfold contig at h
  split at h
  ·have:=contig_le h;omega
  ·cases h
theorem pieces {n:Nat}{cs:List Value}:∀{fl:List Field} {k K:Nat},contig P fl k=some K →
  (∀f∈fl,∃xs,GoodC P w n f.type xs ((cs.drop f.offset).take (P.cellsOf f.type))) →
  ∃xss,All2 (fun (f:Field) ys=>Sh P n f.type ys) fl xss∧RVs0 w xss.flatten ((cs.drop k).take (K - k))∧∀y∈xss.flatten,y.one=true∧Closed y
 | [],k,K,h,_=>by
  injection h with h;subst h
  exact ⟨[],trivial,by rw[Nat.sub_self,List.take_zero];exact ⟨rfl,fun i x v hx=>by simp at hx⟩,fun y hy=>by simp at hy⟩
 | f::fl,k,K,h,hg=>by
  unfold contig at h
  split at h
  ·rename_i ho
   subst ho
   obtain ⟨xs,h1,h2,h3⟩:=hg f (by simp)
   obtain ⟨xss,a1,a2,a3⟩:=pieces h fun f' hf'=>hg f' (by simp[hf'])
   have hle:=contig_le h
   refine ⟨xs::xss,⟨h3,a1⟩,?_,fun y hy=>?_⟩
   ·have e:(cs.drop f.offset).take (K - f.offset)=(cs.drop f.offset).take (P.cellsOf f.type)++(cs.drop (f.offset+P.cellsOf f.type)).take (K - (f.offset+P.cellsOf f.type)):=by
     rw[show K - f.offset=P.cellsOf f.type+(K - (f.offset+P.cellsOf f.type)) by omega,List.take_add,List.drop_drop]
    rw[e,List.flatten_cons]
    exact h1.append a2
   ·rw[List.flatten_cons,List.mem_append] at hy
    rcases hy with hy | hy
    ·exact h2 y hy
    ·exact a3 y hy
  ·cases h
theorem apieces {n:Nat}{e:TypeId}{cs:List Value}:∀{m k:Nat},
  (∀i,i<m→∃xs,GoodC P w n e xs ((cs.drop ((k+i)*P.cellsOf e)).take (P.cellsOf e))) →
  ∃xss:List (List AV),xss.length=m∧(∀ys∈xss,Sh P n e ys)∧RVs0 w xss.flatten ((cs.drop (k*P.cellsOf e)).take (m*P.cellsOf e))∧∀y∈xss.flatten,y.one=true∧Closed y
 | 0,k,_=>⟨[],rfl,fun y hy=>by simp at hy,by rw[Nat.zero_mul,List.take_zero];exact ⟨rfl,fun i x v hx=>by simp at hx⟩,fun y hy=>by simp at hy⟩
 | m+1,k,hg=>by
  obtain ⟨xs,h1,h2,h3⟩:=hg 0 (by omega)
  rw[Nat.add_zero] at h1
  obtain ⟨xss,a0,a1,a2,a3⟩:=apieces (m:=m) (k:=k+1) fun i hi=>by
   have:=hg (i+1) (by omega)
   rwa [show k+(i+1)=k+1+i by omega] at this
  refine ⟨xs::xss,by simp[a0],fun ys hy=>?_,?_,fun y hy=>?_⟩
  ·rcases List.mem_cons.1 hy with rfl | hy
   ·exact h3
   ·exact a1 ys hy
  ·have e:(cs.drop (k*P.cellsOf e)).take ((m+1)*P.cellsOf e)=(cs.drop (k*P.cellsOf e)).take (P.cellsOf e)++(cs.drop ((k+1)*P.cellsOf e)).take (m*P.cellsOf e):=by
    rw[show (m+1)*P.cellsOf e=P.cellsOf e+m*P.cellsOf e by rw[Nat.add_mul];omega,List.take_add,List.drop_drop,Nat.add_mul,Nat.one_mul]
   rw[e,List.flatten_cons]
   exact h1.append a2
  ·rw[List.flatten_cons,List.mem_append] at hy
   rcases hy with hy | hy
   ·exact h2 y hy
   ·exact a3 y hy
theorem in_cells:∀(n:Nat) (t:TypeId),plainT P n t=true→∀(fuel:Nat) (cs:List Value) (x:DataW H×List MemPlace),DataW.trod enc P w 0 (fun _=>true) true fuel t cs=some x→∃xs,GoodC P w n t xs cs:=by
 intro n
 induction n with
 | zero=>intro t h;simp[plainT] at h
 | succ n ih =>
  intro t h fuel cs x hx
  unfold plainT at h
  split at h
  ·rename_i hu
   obtain ⟨b,rfl,-⟩:=DataW.trod_bool hu hx
   refine ⟨[.bool b],⟨rfl,fun i x v h1 h2=>?_⟩,fun y hy=>?_,?_⟩
   ·cases i with
    | zero=>simp at h1 h2;subst h1;subst h2;exact .bool _ _
    | succ i=>simp at h1
   ·simp at hy;subst hy;exact ⟨rfl,.bool _⟩
   ·unfold Sh;rw[hu];exact ⟨b,rfl⟩
  ·rename_i k hu
   obtain ⟨z,rfl,-,hwf⟩:=DataW.trod_int hu hx
   refine ⟨[.int k z],⟨rfl,fun i x v h1 h2=>?_⟩,fun y hy=>?_,?_⟩
   ·cases i with
    | zero=>simp at h1 h2;subst h1;subst h2;exact .int _ _ _
    | succ i=>simp at h1
   ·simp at hy;subst hy;exact ⟨rfl,.int _ _⟩
   ·unfold Sh;rw[hu];exact ⟨z,rfl,hwf⟩
  ·rename_i e hu
   rw[Bool.and_eq_true,decide_eq_true_eq] at h
   obtain ⟨hpos,hp⟩:=h
   rcases DataW.trod_slice hu hx with ⟨rfl,-⟩ | ⟨a,len,cap,elems,rest,m,-,rfl,-,-,hlc,hcm,hlen,hel,-,-⟩
   ·refine ⟨[.nils],⟨rfl,fun i x v h1 h2=>?_⟩,fun y hy=>?_,?_⟩
    ·cases i with
     | zero=>simp at h1 h2;subst h1;subst h2;exact .nils _
     | succ i=>simp at h1
    ·simp at hy;subst hy;exact ⟨rfl,.nils⟩
    ·unfold Sh;rw[hu];exact .inl rfl
   ·have each:∀i,i<len→∃xs vs,w.cells? 0 (a.add (i*P.cellsOf e)) (P.cellsOf e)=some vs∧GoodC P w n e xs vs:=by
     intro i hi
     have:=hel i hi
     rw[List.getElem?_eq_getElem (show i<elems.length by omega),Option.bind_eq_some_iff] at this
     obtain ⟨vs,h1,h2⟩:=this
     obtain ⟨xs,hg⟩:=ih e hp _ _ _ h2
     exact ⟨xs,vs,h1,hg⟩
    let rowf:Nat→List AV:=fun i=>if hi:i<len then Classical.choose (each i hi) else []
    let valf:Nat→List Value:=fun i=>if hi:i<len then Classical.choose (Classical.choose_spec (each i hi)) else []
    have hrow:∀i,i<len→w.cells? 0 (a.add (i*P.cellsOf e)) (P.cellsOf e)=some (valf i)∧GoodC P w n e (rowf i) (valf i):=by
     intro i hi
     have:=Classical.choose_spec (Classical.choose_spec (each i hi))
     simpa only[rowf,valf,dif_pos hi] using this
    have hget:∀(i:Nat) (row:List AV),((List.range len).map rowf)[i]?=some row→i<len∧row=rowf i:=by
     intro i row h1
     rw[List.getElem?_map] at h1
     rcases Nat.lt_or_ge i len with hi | hi
     ·rw[List.getElem?_range hi] at h1
      injection h1 with h1
      exact ⟨hi,h1.symm⟩
     ·rw[List.getElem?_eq_none (by simpa using hi)] at h1;cases h1
    refine ⟨[.tsl 0 (P.cellsOf e) ((List.range len).map rowf)],⟨rfl,fun i x v h1 h2=>?_⟩,fun y hy=>?_,?_⟩
    ·cases i with
     | succ i=>simp at h1
     | zero =>
      simp at h1 h2;subst h1;subst h2
      rcases Nat.eq_zero_or_pos len with h0 | h0
      ·subst h0
       exact .tnil 0 0 _ a cap (Nat.le_refl _)
      ·obtain ⟨b,o,spot⟩:=a
       have hc0:=World.cells?_some (hrow 0 h0).1
       have hv0:(valf 0)[0]?=some (valf 0)[0]:=List.getElem?_eq_getElem (by rw[hc0.2.1];exact hpos)
       have h00:=hc0.2.2 0 hpos
       rw[hv0] at h00
       have hspot:spot=none:=by simpa [Addr.add] using World.cell?_spot h00
       subst hspot
       have cellat:∀i j row x,((List.range len).map rowf)[i]?=some row→row[j]?=some x→∃v,(valf i)[j]?=some v∧w.cell? (adr b (o+i*P.cellsOf e+j))=some v∧RV w gm0 av0 0 x v:=by
        intro i j row x hr hxj
        obtain ⟨hi,rfl⟩:=hget i row hr
        obtain ⟨q1,q2⟩:=hrow i hi
        have hj:j<(rowf i).length:=(List.getElem?_eq_some_iff.1 hxj).1
        have hj':j<(valf i).length:=by rw[←q2.1.1];exact hj
        have hcs:=World.cells?_some q1
        have hcell:=hcs.2.2 j (by rw[←hcs.2.1];exact hj')
        rw[List.getElem?_eq_getElem hj'] at hcell
        refine ⟨_,List.getElem?_eq_getElem hj',?_,q2.1.2 j x _ hxj (List.getElem?_eq_getElem hj')⟩
        rw[add_adr,show adr b (o+i*P.cellsOf e)=(⟨b,o+i*P.cellsOf e,none⟩:Addr) from rfl,add_adr] at hcell
        exact hcell
       have hb:b<w.heap.size:=by
        have:=lt_of_cell h00
        simpa [Addr.add] using this
       have hrl:((List.range len).map rowf).length=len:=by simp
       have key:=RV.tsl (w:=w) (γ:=gm0) (A:=av0) 0 0 (P.cellsOf e) ((List.range len).map rowf) b o cap (fun i j=>(valf i)[j]?.getD undef) (Nat.le_refl _) (by rw[hrl];exact hlc) hb (mut0 b) (fun h=>h)
        (fun i row hr=>by
         obtain ⟨hi,rfl⟩:=hget i row hr
         obtain ⟨q1,q2⟩:=hrow i hi
         rw[q2.1.1,(World.cells?_some q1).2.1])
        (fun i j row x hr hxj=>by
         obtain ⟨hi,rfl⟩:=hget i row hr
         exact ((hrow i hi).2.2.1 x (List.mem_of_getElem? hxj)).1)
        (fun i j row x hr hxj=>by
         obtain ⟨v,v1,v2,v3⟩:=cellat i j row x hr hxj
         rw[v2,v1];rfl)
        (fun i j row x hr hxj=>by
         obtain ⟨v,v1,v2,v3⟩:=cellat i j row x hr hxj
         rw[v1];exact v3)
        (fun row hr x hx=>by
         obtain ⟨i,hi⟩:=List.getElem?_of_mem hr
         obtain ⟨hi2,rfl⟩:=hget i row hi
         exact ((hrow i hi2).2.2.1 x hx).2)
       rw[hrl] at key
       exact key
    ·simp only[List.mem_singleton] at hy;subst hy
     refine ⟨rfl,.tsl _ _ _ fun row hr x hx=>?_⟩
     obtain ⟨i,hi⟩:=List.getElem?_of_mem hr
     obtain ⟨hi2,rfl⟩:=hget i row hi
     exact ((hrow i hi2).2.2.1 x hx).2
    ·unfold Sh;rw[hu]
     refine .inr ⟨_,rfl,?_,fun row hr=>?_⟩
     ·rw[List.length_map,List.length_range]
      have:maxLen<9223372036854775808:=by decide
      omega
     ·obtain ⟨i,hi⟩:=List.getElem?_of_mem hr
      obtain ⟨hi2,rfl⟩:=hget i row hi
      exact (hrow i hi2).2.2.2
  ·rename_i fs hu
   rw[Bool.and_eq_true] at h
   obtain ⟨hc,hp⟩:=h
   have hc:contig P fs.toList 0=some (P.cellsOf t):=eq_of_beq hc
   obtain ⟨ys,m,-,-,hl,hyl,hel⟩:=DataW.trod_struct hu hx
   obtain ⟨xss,a1,a2,a3⟩:=pieces (w:=w) (n:=n) (cs:=cs) hc fun f hf=>by
    obtain ⟨i,hi,e⟩:=List.mem_iff_getElem.1 hf
    have hfi:fs[i]?=some f:=by rw[←Array.getElem?_toList,List.getElem?_eq_getElem hi,e]
    have:=hel i f hfi
    rw[List.getElem?_eq_getElem (show i<ys.length by rw[hyl];simpa using hi)] at this
    exact ih f.type (List.all_eq_true.1 hp f hf) _ _ _ this
   rw[List.drop_zero,Nat.sub_zero,←hl,List.take_length] at a2
   refine ⟨xss.flatten,a2,a3,?_⟩
   unfold Sh;rw[hu];exact ⟨xss,rfl,a1⟩
  ·rename_i m e hu
   rw[Bool.and_eq_true,decide_eq_true_eq] at h
   obtain ⟨hc,hp⟩:=h
   obtain ⟨ys,q,-,-,hl,hyl,hel⟩:=DataW.trod_array hu hx
   obtain ⟨xss,a0,a1,a2,a3⟩:=apieces (w:=w) (n:=n) (e:=e) (cs:=cs) (m:=m) (k:=0) fun i hi=>by
    have:=hel i hi
    rw[List.getElem?_eq_getElem (show i<ys.length by omega)] at this
    rw[Nat.zero_add]
    exact ih e hp _ _ _ this
   rw[Nat.zero_mul,List.drop_zero,hc,←hl,List.take_length] at a2
   refine ⟨xss.flatten,a2,a3,?_⟩
   unfold Sh;rw[hu];exact ⟨xss,rfl,a0,a1⟩
  ·cases h
theorem sh_u8 {n:Nat}{t:TypeId}{xs:List AV}(hu:P.underlying t=some (.int .u8))(h:Sh P n t xs):∃x:UInt8,Rp.rp NoP 0 .nil x xs:=by
 cases n with
 | zero=>exact h.elim
 | succ n =>
  unfold Sh at h;rw[hu] at h
  obtain ⟨z,rfl,hw⟩:=h
  simp only[Lit.wf,IntKind.min,IntKind.max,IntKind.signed,IntKind.bits,Bool.and_eq_true,decide_eq_true_eq] at hw
  refine ⟨UInt8.ofNat z.toNat,rp_u8.2 ?_⟩
  have h1:0≤z:=by simpa using hw.1
  have h2:z≤255:=by simpa using hw.2
  have h3:(UInt8.ofNat z.toNat).toNat=z.toNat:=UInt8.toNat_ofNat_of_lt' (by show z.toNat<256;omega)
  rw[h3,Int.toNat_of_nonneg h1]
theorem sh_list {α:Type} [Rp α]{n:Nat}{t e:TypeId}{xs:List AV}(hu:P.underlying t=some (.slice e))(hsz:P.cellsOf e=Rp.sz α)(hel:∀ys,Sh P n e ys→∃y:α,Rp.rp NoP 0 .nil y ys)(h:Sh P (n+1) t xs) :
  ∃l:List α,Rp.rp NoP 0 .nil l xs:=by
 unfold Sh at h;rw[hu] at h
 rcases h with rfl | ⟨rows,rfl,hl,hr⟩
 ·exact ⟨[],.nils,rfl,by simp,rfl⟩
 ·have:∀rows:List (List AV),(∀row∈rows,Sh P n e row)→∃l:List α,All2 (Rp.rp NoP 0 .nil) l rows:=by
   intro rows
   induction rows with
   | nil=>intro _;exact ⟨[],trivial⟩
   | cons r rows ih =>
    intro h
    obtain ⟨y,hy⟩:=hel r (h r (by simp))
    obtain ⟨l,hl⟩:=ih fun row hrow=>h row (by simp[hrow])
    exact ⟨y::l,hy,hl⟩
  obtain ⟨l,ha⟩:=this rows hr
  exact ⟨l,_,rfl,by rw[ha.len];exact hl,Nat.le_refl _,.inl hsz,ha⟩
theorem sh_array {n m:Nat}{t e:TypeId}{xs:List AV}(hu:P.underlying t=some (.array m e))(h:Sh P (n+1) t xs):∃xss:List (List AV),xs=xss.flatten∧xss.length=m∧∀ys∈xss,Sh P n e ys:=by
 unfold Sh at h;rw[hu] at h;exact h
theorem sh_struct {n:Nat}{t:TypeId}{fs:Array Field}{xs:List AV}(hu:P.underlying t=some (.struct fs))(h:Sh P (n+1) t xs):∃xss,xs=xss.flatten∧All2 (fun (f:Field) ys=>Sh P n f.type ys) fs.toList xss:=by
 unfold Sh at h;rw[hu] at h;exact h
end Hx
end
