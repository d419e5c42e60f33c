/- A part of the proof: an interpreter over abstract values, shown right against the model, and what the functions of the chapter compute on it. -/
import Derived.OpenShut
import Derived.DataReads
import Derived.Test.YtaebcalnodgpnaaHx12
set_option linter.unusedVariables false
set_option linter.unusedSimpArgs false
set_option linter.unnecessarySimpa false
section
namespace Hx
open Go
noncomputable section
theorem hidden_le {m:Causal}(hck:S.check m=true):1≤S.hidden m∧S.hidden m≤65536:=by
 have hs:=(check_facts hck).1
 have hhb:=hidden_bound hs m.roots.length
 rw[List.take_length] at hhb
 exact hhb
theorem teffect_ok {d kk:Nat}{g:G}{v act q:AV}{m:Causal}{al ql:List Int}(hd:0<d)(hm:Agg m NoP 0 g.h v)(ha:SlR NoP kk .nil al act)(hq:SlR NoP kk .nil ql q) :
  callV C0 d N.twin_Effect [v,act,q] g=.val (.tup [.agg [.int .i64 (S.teffect m al ql).1,.int .i64 (S.teffect m al ql).2],.int .i64 (S.readE m [al,ql])]):=by
 have key:∃r,callV C0 d N.twin_Effect [v,act,q] g=.val r∧Tup2 (Agg (S.teffect m al ql)) (One (S.readE m [al,ql])) NoP 0 .nil r:=by
  have e0:=agg_same d hm
  have e1:=sl_same (h:=g.h) d (ha.tree (h':=g.h) (Nat.le_refl kk))
  have e2:=sl_same (h:=g.h) d (hq.tree (h':=g.h) (Nat.le_refl kk))
  obtain ⟨cs,rfl,hc⟩:=hm
  obtain ⟨a,b,rfl,hR,hN⟩:=rp_causal.1 hc
  have hms:∀h,Agg m NoP 0 h (.agg [.int .i64 m.grain,a,b]):=fun h=>⟨_,rfl,Rp.tree hc (Nat.le_refl _)⟩
  rw[call_twin_Effect]
  refine iso_run eq_twin_Effect (xs:=[.agg [.int .i64 m.grain,a,b],act,q]) (by simp only[mapO,e0,e1,e2]) (by simp[f_twin_Effect]) (snb_tup2 (m:=2) (snb_agg _) (snb_one _) (by decide) (by decide)) (by decide) hd ?_
  simp only[f_twin_Effect,sx,sy,SO.run,↓reduceIte,Nat.reduceEqDiff,Nat.reduceAdd,ha.cell.1,ha.cell.2,hq.cell.1,hq.cell.2]
  obtain ⟨g0,hg0⟩:∃g0,g0=(((G.empty.new (AObj.cells 3 [[AV.int IntKind.i64 m.grain,a,b]] 0 false false)).new (AObj.cells 1 [[act]] 0 false false)).new (AObj.cells 1 [[q]] 0 false false)).new (AObj.cells 2 [[.int .i64 0,.int .i64 0]] 0 false false):=⟨_,rfl⟩
  rw[←hg0]
  have f0:g0.h.get 0=.cells 3 [[.int .i64 m.grain,a,b]] 0 false false:=by rw[hg0];simp[sx,H.get_put]
  have f1:g0.h.get 1=.cells 1 [[act]] 0 false false:=by rw[hg0];simp[sx,H.get_put]
  have f2:g0.h.get 2=.cells 1 [[q]] 0 false false:=by rw[hg0];simp[sx,H.get_put]
  have f3:g0.h.get 3=.cells 2 [[.int .i64 0,.int .i64 0]] 0 false false:=by rw[hg0];simp[sx,H.get_put]
  have fn:g0.nx=4:=by rw[hg0];simp[sx]
  clear hg0
  simp only[f_twin_Effect_r,sx,sy,SO.run,↓reduceIte,Nat.reduceEqDiff,Nat.reduceAdd,Nat.reduceLeDiff,f0,f1,f2]
  rw[fillRows_two ha.cell.1 ha.cell.2 hq.cell.1 hq.cell.2]
  simp only[sx,sy,SO.run,↓reduceIte,Nat.reduceEqDiff,Nat.reduceAdd,Nat.reduceLeDiff,fn]
  have hls:SlR (fun _=>True) kk (g0.new (.cells 1 [[act],[q]] 0 false false)).h [al,ql] (.hsl 4 0 0 2 none):=two_lst ha hq (by simp[fn,H.get_put])
  refine sat_ex (read_ok (ls:=[al,ql]) (Nat.succ_pos d) (Nat.succ_pos d) (hms _) hls) fun r hr=>?_
  obtain ⟨ra,rb,rfl,hra,hrb⟩:=hr
  have hrb:=rp_int.1 hrb
  injection hrb with hrb
  subst hrb
  obtain ⟨kc,rfl,hkc⟩:=hra
  obtain ⟨k1,k2,rfl,hk1,hk2⟩:=rp_known.1 hkc
  simp only[sx,sy,SO.run,↓reduceIte,Nat.reduceEqDiff,Nat.reduceAdd,Nat.reduceLeDiff,fn,H.get_put]
  refine bifP_mk (fun hb=>?_) (fun hb=>?_)
  ·have hne:S.readE m [al,ql]≠0:=by simpa using hb
   simp only[sx,sy,SO.run,↓reduceIte,Nat.reduceEqDiff,Nat.reduceAdd,Nat.reduceLeDiff,f3,fn,H.get_put]
   have:S.teffect m al ql=(0,0):=by rw[S.teffect,if_neg hne]
   rw[this]
   exact ⟨NoP,_,_,rfl,agg_q.2 rfl,rp_int.2 rfl⟩
  ·have hE:S.readE m [al,ql]=0:=by simpa using hb
   obtain ⟨hck,hall⟩:=read_all hE
   have hac:=hall al (by simp)
   have hqc:=hall ql (by simp)
   have hrd:S.read m [al,ql]=⟨m,S.hidden m⟩:=by unfold S.read;rw[if_pos hE]
   rw[hrd] at hkc hk1 hk2
   simp only[hrd] at *
   have hhb:=hidden_le hck
   have hks:∀h,Agg (⟨m,S.hidden m⟩:KnownM) NoP 0 h (.agg [.int .i64 m.grain,k1,k2,.int .i64 (S.hidden m)]):=fun h=>⟨_,rfl,Rp.tree hkc (Nat.le_refl _)⟩
   simp only[wp_skip,kS_norm]
   refine seq_cut (P:=fun t df g1=>df=[]∧St t [(4,.hptr 1 0 0 0),(5,.hptr 2 0 0 0),(6,.hptr 3 0 0 0),(8,.hptr 5 0 0 0),(10,.hptr 6 0 0 0),(11,.hptr 7 0 0 0)]∧EI m k1 k2 act q g1.h 0 0∧g1.nx=8) ?_ ?_
   ·simp[sx,sy,SO.run,St,EI,H.get_put,fn,f1,f2,f3]
   rintro t df g1 ⟨rfl,⟨h4,h5,h6,h8,h10,h11,-⟩,hI,hn⟩
   obtain ⟨wcs,hw,hwr⟩:=worlds_ok (g:=g1) (Nat.succ_pos d) (hks _)
   simp only[sx,sy,SO.run,↓reduceIte,Nat.reduceEqDiff,Nat.reduceAdd,Nat.reduceLeDiff,h8,hI.2.2.2.1,hw]
   refine rng_worlds (d:=d+1) hck hwr (by simp[sx]) (by decide) (by decide) (fun j h=>EI m k1 k2 act q h (S.sumW m (S.mw m al ql) j) (S.sumW m (fun _=>true) j)) ?_ hI ?_ ?_
   ·rintro j h h' hh ⟨i1,i2,i3,i5,i6,i7⟩
    rw[hn] at hh
    exact ⟨by rw[hh _ (by omega),i1],by rw[hh _ (by omega),i2],by rw[hh _ (by omega),i3],by rw[hh _ (by omega),i5],by rw[hh _ (by omega),i6],by rw[hh _ (by omega),i7]⟩
   ·intro j u g6 hj hJ hn6 hu
    have hJ:EI m k1 k2 act q g6.h (S.sumW m (S.mw m al ql) j) (S.sumW m (fun _=>true) j):=hJ
    simp only[f_twin_Effect_a0,sx,sy,SO.run,↓reduceIte,Nat.reduceEqDiff,Nat.reduceAdd,Nat.reduceLeDiff,true_and]
    intro g7 hn7 hf7
    have hJ7:EI m k1 k2 act q g7.h (S.sumW m (S.mw m al ql) j) (S.sumW m (fun _=>true) j):=by
     obtain ⟨i1,i2,i3,i5,i6,i7⟩:=hJ
     exact ⟨by rw[hf7 _ (by omega),i1],by rw[hf7 _ (by omega),i2],by rw[hf7 _ (by omega),i3],by rw[hf7 _ (by omega),i5],by rw[hf7 _ (by omega),i6],by rw[hf7 _ (by omega),i7]⟩
    have hu7:SlR (fun i=>8≤i) 0 g7.h (S.values (S.lens m) (j:Int)) u:=by
     obtain ⟨w,e,z⟩:=Rp.mono (P':=fun i=>8≤i) (k':=0) (h':=g7.h) (show Rp.rp (fun i=>g1.nx+2≤i) 0 g6.h (S.values (S.lens m) (j:Int)) [u] from ⟨u,rfl,hu⟩) (fun i hi=>⟨by omega,hf7 i (by omega)⟩) (Nat.le_refl _)
     injection e with e;subst e;exact z
    refine wp_mono _ (effect_body (d:=d+1) (rd:=some (g1.nx+1)) (j:=j) (al:=al) (ql:=ql) (Nat.succ_pos d) hck hac hqc hks ha hq hu7 hj (by simp[St,sx,h4,h5,h8,h10,h11]) hJ7) ?_
    rintro e t' df g8 ⟨rfl,rfl,b1,b2,b3⟩
    exact ⟨rfl,rfl,b1,by omega,fun i h1 h2=>b3 i (by omega)⟩
   ·intro g9 hJ hn9 hdf
    obtain ⟨i1,i2,i3,i5,i6,i7⟩:EI m k1 k2 act q g9.h (S.sumW m (S.mw m al ql) (S.hidden m).toNat) (S.sumW m (fun _=>true) (S.hidden m).toNat):=hJ
    have hb1:=whole_bound hck (S.mw m al ql)
    have hb2:=whole_bound hck (fun _=>true)
    have hwp:=whole_pos hck
    have e6:S.sumW m (S.mw m al ql) (S.hidden m).toNat=((S.effS m al ql).toNat:Int):=by rw[S.effS,Int.toNat_of_nonneg hb1.1]
    have e7:S.sumW m (fun _=>true) (S.hidden m).toNat=((S.whole m).toNat:Int):=by rw[S.whole,Int.toNat_of_nonneg hb2.1]
    rw[e6] at i6 hb1
    rw[e7] at i7 hb2
    have hT:S.teffect m al ql=S.low (S.effS m al ql).toNat (S.whole m).toNat:=by rw[S.teffect,if_pos hE]
    have hmk:∀g,callV C0 (d+1) N.frac_Make [.int .i64 ((S.effS m al ql).toNat:Int),.int .i64 ((S.whole m).toNat:Int)] g=.val (.tup [.agg [.int .i64 (S.teffect m al ql).1,.int .i64 (S.teffect m al ql).2],.int .i64 0]):=fun g=>by
     rw[hT];exact fmake_ok (Nat.succ_pos d) (by omega) (by omega) (by omega)
    simp only[f_twin_Effect_k2,sx,sy,SO.run,↓reduceIte,Nat.reduceEqDiff,Nat.reduceAdd,Nat.reduceLeDiff,h4,h5,h6,h8,h10,h11,i3,i6,i7,hmk,H.get_put]
    rw[hn] at hdf ⊢
    refine endP_mark (by simp[H.get_put,hdf]) ?_
    simp only[sx,sy,SO.run,↓reduceIte,Nat.reduceEqDiff,Nat.reduceAdd,Nat.reduceLeDiff,h6,H.get_put]
    rw[hE]
    exact ⟨NoP,_,_,rfl,agg_q.2 rfl,rp_int.2 rfl⟩
 obtain ⟨r,h1,a,b,rfl,h2,h3⟩:=key
 have h3:=rp_int.1 h3
 injection h3 with h3
 rw[h1,agg_q.1 h2,h3]
end
end Hx
end
section
namespace Hx
open Go
noncomputable section
def S.none (m:Causal):List Int:=List.replicate m.nodes.length (-1)
theorem act_none {m:Causal}(h:S.Small m):S.act m (S.none m)=true:=by
 simp only[S.act,S.none,List.length_replicate,decide_true,Bool.true_and,List.all_eq_true,List.mem_range]
 intro i hi
 simp only[S.actAt,List.getElem?_replicate,if_pos hi,Option.getD_some,Bool.and_eq_true,decide_eq_true_eq]
 have:=h.card _ (List.getElem_mem hi)
 refine ⟨Int.le_refl _,?_⟩
 have e:S.cardAt m i=(m.nodes[i]).card:=by unfold S.cardAt;rw[Int.toNat_natCast,List.getElem?_eq_getElem hi];rfl
 rw[e];omega
def S.cw (m:Causal)(e act q:List Int)(j:Nat):Bool:=S.mw m (S.none m) e j&&S.mw m act q j
def S.seen (m:Causal)(e:List Int):Int:=S.sumW m (S.mw m (S.none m) e) (S.hidden m).toNat
def S.cntS (m:Causal)(e act q:List Int):Int:=S.sumW m (S.cw m e act q) (S.hidden m).toNat
def S.tcounterE (m:Causal)(e act q:List Int):Int:=if S.readE m [e,act,q]≠0 then S.readE m [e,act,q] else if S.seen m e=0 then 7 else 0
def S.tcounter (m:Causal)(e act q:List Int):QI:=if S.tcounterE m e act q=0 then S.low (S.cntS m e act q).toNat (S.seen m e).toNat else (0,0)
def CI (m:Causal)(k1 k2 el act q f:AV)(h:H)(s w:Int):Prop:=h.get 1=.cells 1 [[el]] 0 false false∧h.get 2=.cells 1 [[act]] 0 false false∧h.get 3=.cells 1 [[q]] 0 false false∧h.get 4=.cells 2 [[.int .i64 0,.int .i64 0]] 0 false false ∧
 h.get 6=.cells 4 [[.int .i64 m.grain,k1,k2,.int .i64 (S.hidden m)]] 0 false false∧h.get 7=.cells 1 [[.int .i64 s]] 0 false false∧h.get 8=.cells 1 [[.int .i64 w]] 0 false false∧h.get 9=.cells 1 [[f]] 0 false false
theorem CI.fr {m:Causal}{k1 k2 el act q f:AV}{h h':H}{s w:Int}(hI:CI m k1 k2 el act q f h s w)(hh:∀i,i<10→h'.get i=h.get i):CI m k1 k2 el act q f h' s w:=by
 obtain ⟨i1,i2,i3,i4,i6,i7,i8,i9⟩:=hI
 exact ⟨by rw[hh _ (by omega),i1],by rw[hh _ (by omega),i2],by rw[hh _ (by omega),i3],by rw[hh _ (by omega),i4],by rw[hh _ (by omega),i6],by rw[hh _ (by omega),i7],by rw[hh _ (by omega),i8],by rw[hh _ (by omega),i9]⟩
theorem counter_body {d kk:Nat}{rd:Option Nat}{m:Causal}{t:T}{g:G}{j:Nat}{ee al ql:List Int}{k1 k2 el act q f u:AV}(hd:0<d)(hck:S.check m=true)(hec:S.act m ee=true)(hac:S.act m al=true)(hqc:S.act m ql=true)
  (hks:∀h,Agg (⟨m,S.hidden m⟩:KnownM) NoP 0 h (.agg [.int .i64 m.grain,k1,k2,.int .i64 (S.hidden m)])) (he:SlR NoP kk .nil ee el) (ha:SlR NoP kk .nil al act) (hq:SlR NoP kk .nil ql q) (hf:SlR NoP 0 .nil (S.none m) f)
  (hu:SlR (fun i=>10≤i) 0 g.h (S.values (S.lens m) (j:Int)) u) (hj:(j:Int)<S.hidden m)
  (ht:St t [(5,.hptr 1 0 0 0),(6,.hptr 2 0 0 0),(7,.hptr 3 0 0 0),(10,.hptr 6 0 0 0),(12,.hptr 7 0 0 0),(13,.hptr 8 0 0 0),(14,.hptr 9 0 0 0),(15,u),(16,.int .i64 (S.weight m (j:Int)))])
  (hI:CI m k1 k2 el act q f g.h (S.sumW m (S.cw m ee al ql) j) (S.sumW m (S.mw m (S.none m) ee) j)) :
  wp C0 d rd f_twin_Counter_b1 (fun e _ df g3=>e=.norm∧df=[]∧CI m k1 k2 el act q f g3.h (S.sumW m (S.cw m ee al ql) (j+1)) (S.sumW m (S.mw m (S.none m) ee) (j+1))∧g3.nx=g.nx∧∀i,10≤i→g3.h.get i=g.h.get i) t [] g:=by
 obtain ⟨hs,hgr,hn1,hro,hno⟩:=check_facts hck
 have hhb:=hidden_le hck
 have hnc:=act_none hs
 have hvi:=values_inC (l:=S.lens m) (h:=(j:Int)) (fun c hc=>by have:=lens_bound hs c hc;omega) (Int.natCast_nonneg j)
 have hrl:(S.run m (S.values (S.lens m) (j:Int)) al).length=ql.length:=by simp[S.run];rw[(act_at hqc).1]
 have hrl2:(S.run m (S.values (S.lens m) (j:Int)) (S.none m)).length=ee.length:=by simp[S.run];rw[(act_at hec).1]
 obtain ⟨h5,h6,h7,h10,h12,h13,h14,h15,h16,-⟩:=ht
 obtain ⟨i1,i2,i3,i4,i6,i7,i8,i9⟩:=hI
 have b0:=weight_bound hck j
 have b1:=sumW_bound hck (S.cw m ee al ql) j
 have b2:=sumW_bound hck (S.mw m (S.none m) ee) j
 simp only[f_twin_Counter_b1,sx,sy,SO.run,↓reduceIte,Nat.reduceEqDiff,Nat.reduceAdd,Nat.reduceLeDiff,h5,h6,h7,h10,h12,h13,h14,h15,h16,i6,i9,H.get_put]
 refine sat_ex (run_ok (P:=NoP) (k:=0) (Pa:=NoP) (ka:=0) hd (hks _) (hu.far8 fun i (hi:10≤i)=>by simp) (hf.tree (Nat.le_refl _)) hck hvi hnc) fun r hr=>?_
 have hmat:∀g:G,callV C0 d N.twin_matches [r,el] g=.val (.bool (S.mw m (S.none m) ee j)):=fun g=>matches_ok (P:=NoP) (P2:=NoP) (k:=0) (k2:=kk) hd (hr.sl _) (he.tree (Nat.le_refl _)) hrl2
 simp only[sx,sy,SO.run,↓reduceIte,Nat.reduceEqDiff,Nat.reduceAdd,Nat.reduceLeDiff,h5,h6,h7,h10,h12,h13,h14,h15,h16,i1,H.get_put,hmat,true_and]
 cases hmw:S.mw m (S.none m) ee j with
 | false =>
  have w1:S.sumW m (S.cw m ee al ql) (j+1)=S.sumW m (S.cw m ee al ql) j:=by rw[S.sumW,S.cw,hmw];simp
  have w2:S.sumW m (S.mw m (S.none m) ee) (j+1)=S.sumW m (S.mw m (S.none m) ee) j:=by rw[S.sumW,hmw];simp
  simp only[sx,sy,SO.run,↓reduceIte,Nat.reduceEqDiff,Nat.reduceAdd,Nat.reduceLeDiff,w1,w2,Bool.not_false,true_and]
  exact ⟨⟨i1,i2,i3,i4,i6,i7,i8,i9⟩,fun i hi=>trivial⟩
 | true =>
  have w2:S.sumW m (S.mw m (S.none m) ee) (j+1)=S.sumW m (S.mw m (S.none m) ee) j+S.weight m (j:Int):=by rw[S.sumW,hmw];simp
  simp only[sx,sy,SO.run,↓reduceIte,Nat.reduceEqDiff,Nat.reduceAdd,Nat.reduceLeDiff,h5,h6,h7,h10,h12,h13,h14,h15,h16,i2,i6,i8,H.get_put,←w2,
   wrap64 (show -9223372036854775808≤S.sumW m (S.mw m (S.none m) ee) (j+1) by omega) (show S.sumW m (S.mw m (S.none m) ee) (j+1)<9223372036854775808 by omega),Bool.not_true,true_and]
  refine sat_ex (run_ok (P:=NoP) (k:=0) (Pa:=NoP) (ka:=kk) hd (hks _) (hu.far8 fun i (hi:10≤i)=>by simp[H.get_put,show ¬i=8 by omega]) (ha.tree (Nat.le_refl _)) hck hvi hac) fun r2 hr2=>?_
  have hmat2:∀g:G,callV C0 d N.twin_matches [r2,q] g=.val (.bool (S.mw m al ql j)):=fun g=>matches_ok (P:=NoP) (P2:=NoP) (k:=0) (k2:=kk) hd (hr2.sl _) (hq.tree (Nat.le_refl _)) hrl
  simp only[sx,sy,SO.run,↓reduceIte,Nat.reduceEqDiff,Nat.reduceAdd,Nat.reduceLeDiff,h5,h6,h7,h10,h12,h13,h14,h15,h16,i3,H.get_put,hmat2,true_and]
  cases hmw2:S.mw m al ql j with
  | true =>
   have w1:S.sumW m (S.cw m ee al ql) (j+1)=S.sumW m (S.cw m ee al ql) j+S.weight m (j:Int):=by rw[S.sumW,S.cw,hmw,hmw2];simp
   simp only[sx,sy,SO.run,↓reduceIte,Nat.reduceEqDiff,Nat.reduceAdd,Nat.reduceLeDiff,h5,h6,h7,h10,h12,h13,h14,h15,h16,i7,H.get_put,←w1,
    wrap64 (show -9223372036854775808≤S.sumW m (S.cw m ee al ql) (j+1) by omega) (show S.sumW m (S.cw m ee al ql) (j+1)<9223372036854775808 by omega),true_and]
   refine ⟨⟨?_,?_,?_,?_,?_,?_,?_,?_⟩,fun i hi=>?_⟩
   ·simp[H.get_put,i1]
   ·simp[H.get_put,i2]
   ·simp[H.get_put,i3]
   ·simp[H.get_put,i4]
   ·simp[H.get_put,i6]
   ·simp[H.get_put]
   ·simp[H.get_put]
   ·simp[H.get_put,i9]
   ·simp[H.get_put,show ¬i=7 by omega,show ¬i=8 by omega]
  | false =>
   have w1:S.sumW m (S.cw m ee al ql) (j+1)=S.sumW m (S.cw m ee al ql) j:=by rw[S.sumW,S.cw,hmw,hmw2];simp
   simp only[sx,sy,SO.run,↓reduceIte,Nat.reduceEqDiff,Nat.reduceAdd,Nat.reduceLeDiff,w1,true_and]
   refine ⟨⟨?_,?_,?_,?_,?_,?_,?_,?_⟩,fun i hi=>?_⟩
   ·simp[H.get_put,i1]
   ·simp[H.get_put,i2]
   ·simp[H.get_put,i3]
   ·simp[H.get_put,i4]
   ·simp[H.get_put,i6]
   ·simp[H.get_put,i7]
   ·simp[H.get_put]
   ·simp[H.get_put,i9]
   ·simp[H.get_put,show ¬i=8 by omega]
theorem tcounter_ok {d kk:Nat}{g:G}{v el act q:AV}{m:Causal}{ee al ql:List Int}(hd:0<d)(hm:Agg m NoP 0 g.h v)(he:SlR NoP kk .nil ee el)(ha:SlR NoP kk .nil al act)(hq:SlR NoP kk .nil ql q) :
  callV C0 d N.twin_Counter [v,el,act,q] g=.val (.tup [.agg [.int .i64 (S.tcounter m ee al ql).1,.int .i64 (S.tcounter m ee al ql).2],.int .i64 (S.tcounterE m ee al ql)]):=by
 have key:∃r,callV C0 d N.twin_Counter [v,el,act,q] g=.val r∧Tup2 (Agg (S.tcounter m ee al ql)) (One (S.tcounterE m ee al ql)) NoP 0 .nil r:=by
  have e0:=agg_same d hm
  have e1:=sl_same (h:=g.h) d (ha.tree (h':=g.h) (Nat.le_refl kk))
  have e2:=sl_same (h:=g.h) d (hq.tree (h':=g.h) (Nat.le_refl kk))
  have e3:=sl_same (h:=g.h) d (he.tree (h':=g.h) (Nat.le_refl kk))
  obtain ⟨cs,rfl,hc⟩:=hm
  obtain ⟨a,b,rfl,hR,hN⟩:=rp_causal.1 hc
  have hms:∀h,Agg m NoP 0 h (.agg [.int .i64 m.grain,a,b]):=fun h=>⟨_,rfl,Rp.tree hc (Nat.le_refl _)⟩
  rw[call_twin_Counter]
  refine iso_run eq_twin_Counter (xs:=[.agg [.int .i64 m.grain,a,b],el,act,q]) (by simp only[mapO,e0,e1,e2,e3]) (by simp[f_twin_Counter]) (snb_tup2 (m:=2) (snb_agg _) (snb_one _) (by decide) (by decide)) (by decide) hd ?_
  simp only[f_twin_Counter,sx,sy,SO.run,↓reduceIte,Nat.reduceEqDiff,Nat.reduceAdd,he.cell.1,he.cell.2,ha.cell.1,ha.cell.2,hq.cell.1,hq.cell.2]
  obtain ⟨g0,hg0⟩:∃g0,g0=((((G.empty.new (AObj.cells 3 [[AV.int IntKind.i64 m.grain,a,b]] 0 false false)).new (AObj.cells 1 [[el]] 0 false false)).new (AObj.cells 1 [[act]] 0 false false)).new (AObj.cells 1 [[q]] 0 false false)).new (AObj.cells 2 [[.int .i64 0,.int .i64 0]] 0 false false):=⟨_,rfl⟩
  rw[←hg0]
  have f0:g0.h.get 0=.cells 3 [[.int .i64 m.grain,a,b]] 0 false false:=by rw[hg0];simp[sx,H.get_put]
  have f1:g0.h.get 1=.cells 1 [[el]] 0 false false:=by rw[hg0];simp[sx,H.get_put]
  have f2:g0.h.get 2=.cells 1 [[act]] 0 false false:=by rw[hg0];simp[sx,H.get_put]
  have f3:g0.h.get 3=.cells 1 [[q]] 0 false false:=by rw[hg0];simp[sx,H.get_put]
  have f4:g0.h.get 4=.cells 2 [[.int .i64 0,.int .i64 0]] 0 false false:=by rw[hg0];simp[sx,H.get_put]
  have fn:g0.nx=5:=by rw[hg0];simp[sx]
  clear hg0
  simp only[f_twin_Counter_r,sx,sy,SO.run,↓reduceIte,Nat.reduceEqDiff,Nat.reduceAdd,Nat.reduceLeDiff,f0,f1,f2,f3]
  rw[fillRows_three he.cell.1 he.cell.2 ha.cell.1 ha.cell.2 hq.cell.1 hq.cell.2]
  simp only[sx,sy,SO.run,↓reduceIte,Nat.reduceEqDiff,Nat.reduceAdd,Nat.reduceLeDiff,fn]
  have hls:SlR (fun _=>True) kk (g0.new (.cells 1 [[el],[act],[q]] 0 false false)).h [ee,al,ql] (.hsl 5 0 0 3 none):=three_lst he ha hq (by simp[fn,H.get_put])
  refine sat_ex (read_ok (ls:=[ee,al,ql]) (Nat.succ_pos d) (Nat.succ_pos d) (hms _) hls) fun r hr=>?_
  obtain ⟨ra,rb,rfl,hra,hrb⟩:=hr
  have hrb:=rp_int.1 hrb
  injection hrb with hrb
  subst hrb
  obtain ⟨kc,rfl,hkc⟩:=hra
  obtain ⟨k1,k2,rfl,hk1,hk2⟩:=rp_known.1 hkc
  simp only[sx,sy,SO.run,↓reduceIte,Nat.reduceEqDiff,Nat.reduceAdd,Nat.reduceLeDiff,fn,H.get_put]
  refine bifP_mk (fun hb=>?_) (fun hb=>?_)
  ·have hne:S.readE m [ee,al,ql]≠0:=by simpa using hb
   simp only[sx,sy,SO.run,↓reduceIte,Nat.reduceEqDiff,Nat.reduceAdd,Nat.reduceLeDiff,f4,fn,H.get_put]
   have hTE:S.tcounterE m ee al ql=S.readE m [ee,al,ql]:=by rw[S.tcounterE,if_pos hne]
   have:S.tcounter m ee al ql=(0,0):=by rw[S.tcounter,hTE,if_neg hne]
   rw[this,hTE]
   exact ⟨NoP,_,_,rfl,agg_q.2 rfl,rp_int.2 rfl⟩
  ·have hE:S.readE m [ee,al,ql]=0:=by simpa using hb
   obtain ⟨hck,hall⟩:=read_all hE
   have hec:=hall ee (by simp)
   have hac:=hall al (by simp)
   have hqc:=hall ql (by simp)
   have hrd:S.read m [ee,al,ql]=⟨m,S.hidden m⟩:=by unfold S.read;rw[if_pos hE]
   rw[hrd] at hkc hk1 hk2
   simp only[hrd] at *
   have hhb:=hidden_le hck
   have hn5:=(check_facts hck).1.nodes
   have hks:∀h,Agg (⟨m,S.hidden m⟩:KnownM) NoP 0 h (.agg [.int .i64 m.grain,k1,k2,.int .i64 (S.hidden m)]):=fun h=>⟨_,rfl,Rp.tree hkc (Nat.le_refl _)⟩
   simp only[wp_skip,kS_norm]
   refine seq_cut (P:=fun t df g1=>df=[]∧St t [(5,.hptr 1 0 0 0),(6,.hptr 2 0 0 0),(7,.hptr 3 0 0 0),(8,.hptr 4 0 0 0),(10,.hptr 6 0 0 0),(12,.hptr 7 0 0 0),(13,.hptr 8 0 0 0)]∧g1.h.get 1=.cells 1 [[el]] 0 false false∧g1.h.get 2=.cells 1 [[act]] 0 false false ∧
    g1.h.get 3=.cells 1 [[q]] 0 false false∧g1.h.get 4=.cells 2 [[.int .i64 0,.int .i64 0]] 0 false false∧g1.h.get 6=.cells 4 [[.int .i64 m.grain,k1,k2,.int .i64 (S.hidden m)]] 0 false false∧g1.h.get 7=.cells 1 [[.int .i64 0]] 0 false false∧g1.h.get 8=.cells 1 [[.int .i64 0]] 0 false false∧g1.nx=9) ?_ ?_
   ·simp[sx,sy,SO.run,St,H.get_put,fn,f1,f2,f3,f4]
   rintro t df g1 ⟨rfl,⟨h5,h6,h7,h8,h10,h12,h13,-⟩,p1,p2,p3,p4,p6,p7,p8,hn⟩
   refine seq_cut (P:=fun t df g2=>df=[]∧St t [(5,.hptr 1 0 0 0),(6,.hptr 2 0 0 0),(7,.hptr 3 0 0 0),(8,.hptr 4 0 0 0),(10,.hptr 6 0 0 0),(12,.hptr 7 0 0 0),(13,.hptr 8 0 0 0),(14,.hptr 9 0 0 0)]∧g2.nx=10∧∃f,SlR NoP 0 .nil (S.none m) f∧CI m k1 k2 el act q f g2.h 0 0) ?_ ?_
   ·simp only[sx,sy,SO.run,↓reduceIte,Nat.reduceEqDiff,Nat.reduceAdd,Nat.reduceLeDiff,h10,p6]
    refine sat_ex (free_ok (x:=⟨m,S.hidden m⟩) (Nat.succ_pos d) (hks _) (by simpa using hn5)) fun f hf=>?_
    have hf:IT 0 (S.none m) f:=hf
    simp only[sx,sy,SO.run,↓reduceIte,Nat.reduceEqDiff,Nat.reduceAdd,Nat.reduceLeDiff,hf.cells,hf.tup,hn,H.get_put,h5,h6,h7,h8,h10,h12,h13,St,true_and,and_true]
    refine ⟨f,hf.sl _,?_,?_,?_,?_,?_,?_,?_,?_⟩<;>simp[H.get_put,p1,p2,p3,p4,p6,p7,p8]
   clear h5 h6 h7 h8 h10 h12 h13 p1 p2 p3 p4 p6 p7 p8 hn
   rintro t df g1 ⟨rfl,⟨h5,h6,h7,h8,h10,h12,h13,h14,-⟩,hn,f,hf,hI⟩
   obtain ⟨wcs,hw,hwr⟩:=worlds_ok (g:=g1) (Nat.succ_pos d) (hks _)
   simp only[sx,sy,SO.run,↓reduceIte,Nat.reduceEqDiff,Nat.reduceAdd,Nat.reduceLeDiff,h10,hI.2.2.2.2.1,hw]
   refine rng_worlds (d:=d+1) hck hwr (by simp[sx]) (by decide) (by decide) (fun j h=>CI m k1 k2 el act q f h (S.sumW m (S.cw m ee al ql) j) (S.sumW m (S.mw m (S.none m) ee) j)) ?_ hI ?_ ?_
   ·intro j h h' hh hI
    rw[hn] at hh
    exact CI.fr hI hh
   ·intro j u g6 hj hJ hn6 hu
    have hJ:CI m k1 k2 el act q f g6.h (S.sumW m (S.cw m ee al ql) j) (S.sumW m (S.mw m (S.none m) ee) j):=hJ
    simp only[f_twin_Counter_a0,sx,sy,SO.run,↓reduceIte,Nat.reduceEqDiff,Nat.reduceAdd,Nat.reduceLeDiff,true_and]
    intro g7 hn7 hf7
    have hJ7:CI m k1 k2 el act q f g7.h (S.sumW m (S.cw m ee al ql) j) (S.sumW m (S.mw m (S.none m) ee) j):=hJ.fr fun i hi=>hf7 i (by omega)
    have hu7:SlR (fun i=>10≤i) 0 g7.h (S.values (S.lens m) (j:Int)) u:=by
     obtain ⟨w,e,z⟩:=Rp.mono (P':=fun i=>10≤i) (k':=0) (h':=g7.h) (show Rp.rp (fun i=>g1.nx+2≤i) 0 g6.h (S.values (S.lens m) (j:Int)) [u] from ⟨u,rfl,hu⟩) (fun i hi=>⟨by omega,hf7 i (by omega)⟩) (Nat.le_refl _)
     injection e with e;subst e;exact z
    refine wp_mono _ (counter_body (d:=d+1) (rd:=some (g1.nx+1)) (j:=j) (ee:=ee) (al:=al) (ql:=ql) (Nat.succ_pos d) hck hec hac hqc hks he ha hq hf hu7 hj (by simp[St,sx,h5,h6,h7,h10,h12,h13,h14]) hJ7) ?_
    rintro e t' df g8 ⟨rfl,rfl,b1,b2,b3⟩
    exact ⟨rfl,rfl,b1,by omega,fun i h1 h2=>b3 i (by omega)⟩
   ·intro g9 hJ hn9 hdf
    obtain ⟨i1,i2,i3,i4,i6,i7,i8,i9⟩:CI m k1 k2 el act q f g9.h (S.sumW m (S.cw m ee al ql) (S.hidden m).toNat) (S.sumW m (S.mw m (S.none m) ee) (S.hidden m).toNat):=hJ
    have hb1:=whole_bound hck (S.cw m ee al ql)
    have hb2:=whole_bound hck (S.mw m (S.none m) ee)
    have e7:S.sumW m (S.cw m ee al ql) (S.hidden m).toNat=((S.cntS m ee al ql).toNat:Int):=by rw[S.cntS,Int.toNat_of_nonneg hb1.1]
    have e8:S.sumW m (S.mw m (S.none m) ee) (S.hidden m).toNat=((S.seen m ee).toNat:Int):=by rw[S.seen,Int.toNat_of_nonneg hb2.1]
    have hse:S.seen m ee=((S.seen m ee).toNat:Int):=by rw[S.seen];exact e8
    rw[e7] at i7 hb1
    rw[e8] at i8 hb2
    rw[hn] at hdf ⊢
    simp only[f_twin_Counter_k2,sx,sy,SO.run,↓reduceIte,Nat.reduceEqDiff,Nat.reduceAdd,Nat.reduceLeDiff,h5,h6,h7,h8,h10,h12,h13,h14,i4,i7,i8,H.get_put]
    refine bifP_mk (fun hb=>?_) (fun hb=>?_)
    ·have h0:S.seen m ee=0:=by simp at hb;omega
     have hTE:S.tcounterE m ee al ql=7:=by rw[S.tcounterE,if_neg (by rw[hE];simp),if_pos h0]
     have:S.tcounter m ee al ql=(0,0):=by rw[S.tcounter,hTE,if_neg (by decide)]
     simp only[sx,sy,SO.run,↓reduceIte,Nat.reduceEqDiff,Nat.reduceAdd,Nat.reduceLeDiff,h8,i4,H.get_put]
     refine endP_mark (by simp[H.get_put,hdf]) ?_
     simp only[sx,sy,SO.run,↓reduceIte,Nat.reduceEqDiff,Nat.reduceAdd,Nat.reduceLeDiff,h8,H.get_put]
     rw[this,hTE]
     exact ⟨NoP,_,_,rfl,agg_q.2 rfl,rp_int.2 rfl⟩
    ·have h0:¬S.seen m ee=0:=by simp at hb;omega
     have hTE:S.tcounterE m ee al ql=0:=by rw[S.tcounterE,if_neg (by rw[hE];simp),if_neg h0]
     have hT:S.tcounter m ee al ql=S.low (S.cntS m ee al ql).toNat (S.seen m ee).toNat:=by rw[S.tcounter,if_pos hTE]
     have hmk:∀g,callV C0 (d+1) N.frac_Make [.int .i64 ((S.cntS m ee al ql).toNat:Int),.int .i64 ((S.seen m ee).toNat:Int)] g=.val (.tup [.agg [.int .i64 (S.tcounter m ee al ql).1,.int .i64 (S.tcounter m ee al ql).2],.int .i64 0]):=fun g=>by
      rw[hT];exact fmake_ok (Nat.succ_pos d) (by omega) (by omega) (by omega)
     simp only[sx,sy,SO.run,↓reduceIte,Nat.reduceEqDiff,Nat.reduceAdd,Nat.reduceLeDiff,h8,h12,h13,i4,i7,i8,hmk,H.get_put]
     refine endP_mark (by simp[H.get_put,hdf]) ?_
     simp only[sx,sy,SO.run,↓reduceIte,Nat.reduceEqDiff,Nat.reduceAdd,Nat.reduceLeDiff,h8,H.get_put]
     rw[hTE]
     exact ⟨NoP,_,_,rfl,agg_q.2 rfl,rp_int.2 rfl⟩
 obtain ⟨r,h1,a,b,rfl,h2,h3⟩:=key
 have h3:=rp_int.1 h3
 injection h3 with h3
 rw[h1,agg_q.1 h2,h3]
end
end Hx
end
section
namespace Hx
open Go
noncomputable section
theorem act_intro {m:Causal}{l:List Int}(hl:l.length=m.nodes.length)(h:∀(i:Nat)(x:Mech),m.nodes[i]?=some x→-1≤l[i]?.getD 0∧l[i]?.getD 0<x.card):S.act m l=true:=by
 simp only[S.act,Bool.and_eq_true,decide_eq_true_eq,List.all_eq_true,List.mem_range]
 refine ⟨hl,fun i hi=>?_⟩
 have hi':i<m.nodes.length:=by omega
 have:=h i _ (List.getElem?_eq_getElem hi')
 have e:S.cardAt m i=(m.nodes[i]).card:=by unfold S.cardAt;rw[Int.toNat_natCast,List.getElem?_eq_getElem hi'];rfl
 simp only[S.actAt,Bool.and_eq_true,decide_eq_true_eq,e]
 omega
theorem act_known {m:Causal}(hck:S.check m=true)(vs:List UInt8):S.act m (S.knownOf vs m)=true:=by
 refine act_intro (by simp[S.knownOf]) fun i x hx=>?_
 have hi:=(List.getElem?_eq_some_iff.1 hx).1
 have hc:=(check_facts hck).1.card x (List.mem_of_getElem? hx)
 have e:(S.knownOf vs m)[i]?.getD 0=if ((vs[i]?.map UInt8.toNat).getD 0:Nat) % 3=0 then (((vs[i]?.map UInt8.toNat).getD 0 / 3:Nat):Int) % x.card else -1:=by
  simp only[S.knownOf,List.getElem?_map,List.getElem?_range hi,Option.map_some,Option.getD_some,hx]
 rw[e]
 split
 ·have h1:=Int.emod_nonneg (((vs[i]?.map UInt8.toNat).getD 0 / 3:Nat):Int) (show x.card≠0 by omega)
  have h2:=Int.emod_lt_of_pos (((vs[i]?.map UInt8.toNat).getD 0 / 3:Nat):Int) (show 0<x.card by omega)
  omega
 ·omega
theorem mat_iff {vals e:List Int}:S.matches vals e=true↔∀i,i<e.length→e[i]?.getD 0<0∨e[i]?.getD 0=vals[i]?.getD 0:=by
 simp only[S.matches,List.all_eq_true,List.mem_range,S.matchAt,Bool.or_eq_true,decide_eq_true_eq]
theorem mw_none (m:Causal)(act:List Int)(j:Nat):S.mw m act (S.none m) j=true:=by
 unfold S.mw
 rw[mat_iff]
 intro i hi
 left
 have hi:i<m.nodes.length:=by simpa [S.none] using hi
 simp[S.none,hi]
theorem seen_none (m:Causal):S.seen m (S.none m)=S.whole m:=by
 unfold S.seen S.whole
 exact sumW_congr fun j _=>mw_none m _ j
theorem cntS_none (m:Causal)(act q:List Int):S.cntS m (S.none m) act q=S.effS m act q:=by
 unfold S.cntS S.effS
 exact sumW_congr fun j _=>by rw[S.cw,mw_none,Bool.true_and]
theorem readE_ok {m:Causal}(hck:S.check m=true){ls:List (List Int)}(h:∀l∈ls,S.act m l=true):S.readE m ls=0:=by
 unfold S.readE
 rw[if_pos hck,if_pos (List.all_eq_true.2 h)]
theorem teffect_eq {m:Causal}(hck:S.check m=true){act q:List Int}(ha:S.act m act=true)(hq:S.act m q=true):S.readE m [act,q]=0∧S.teffect m act q=S.low (S.effS m act q).toNat (S.whole m).toNat:=by
 have h:S.readE m [act,q]=0:=readE_ok hck (by simp[ha,hq])
 exact ⟨h,by rw[S.teffect,if_pos h]⟩
theorem tcounter_eq {m:Causal}(hck:S.check m=true){e act q:List Int}(he:S.act m e=true)(ha:S.act m act=true)(hq:S.act m q=true)(h0:S.seen m e≠0) :
  S.tcounterE m e act q=0∧S.tcounter m e act q=S.low (S.cntS m e act q).toNat (S.seen m e).toNat:=by
 have h:S.readE m [e,act,q]=0:=readE_ok hck (by simp[he,ha,hq])
 have h1:S.tcounterE m e act q=0:=by rw[S.tcounterE,if_neg (by simp[h]),if_neg h0]
 exact ⟨h1,by rw[S.tcounter,if_pos h1]⟩
theorem tcounter_zero {m:Causal}(hck:S.check m=true){e act q:List Int}(he:S.act m e=true)(ha:S.act m act=true)(hq:S.act m q=true)(h0:S.seen m e=0):S.tcounterE m e act q=7:=by
 have h:S.readE m [e,act,q]=0:=readE_ok hck (by simp[he,ha,hq])
 rw[S.tcounterE,if_neg (by simp[h]),if_pos h0]
theorem low_zero (w:Nat)(h:0<w):S.low 0 w=(0,1):=by
 simp[S.low,Nat.gcd_zero_left,Nat.div_self h]
theorem low_self (w:Nat)(h:0<w):S.low w w=(1,1):=by
 simp[S.low,Nat.gcd_self,Nat.div_self h]
theorem low_num {n w:Nat}(h:0<w):(S.low n w).1=0↔n=0:=by
 simp only[S.low]
 constructor
 ·intro e
  have hg:0<Nat.gcd n w:=Nat.gcd_pos_of_pos_right _ h
  have h1:n / Nat.gcd n w=0:=by omega
  rcases (Nat.div_eq_zero_iff).1 h1 with h2 | h2
  ·omega
  ·by_cases hn:n=0
   ·exact hn
   ·have:=Nat.le_of_dvd (by omega) (Nat.gcd_dvd_left n w)
    omega
 ·rintro rfl;simp
def S.wth (s q:List Int):List Int:=(List.range s.length).map fun i=>max (s[i]?.getD 0) (q[i]?.getD 0)
def S.clashAt (s q:List Int)(i:Nat):Bool:=decide (0≤q[i]?.getD 0)&&decide (0≤s[i]?.getD 0)&&decide (q[i]?.getD 0≠s[i]?.getD 0)
def S.clash (s q:List Int):Bool:=(List.range s.length).any (S.clashAt s q)
def S.same (s a:List Int):List Int:=(List.range s.length).map fun i=>if a[i]?.getD 0<0 then -1 else s[i]?.getD 0
theorem wth_at {s q:List Int}{i:Nat}(h:i<s.length):(S.wth s q)[i]?.getD 0=max (s[i]?.getD 0) (q[i]?.getD 0):=by simp[S.wth,h]
theorem same_at {s a:List Int}{i:Nat}(h:i<s.length):(S.same s a)[i]?.getD 0=if a[i]?.getD 0<0 then -1 else s[i]?.getD 0:=by simp[S.same,h]
theorem act_wth {m:Causal}{s q:List Int}(hs:S.act m s=true)(hq:S.act m q=true):S.act m (S.wth s q)=true:=by
 obtain ⟨l1,a1⟩:=act_at hs
 obtain ⟨l2,a2⟩:=act_at hq
 refine act_intro (by simp[S.wth,l1]) fun i x hx=>?_
 have hi:=(List.getElem?_eq_some_iff.1 hx).1
 rw[wth_at (by omega)]
 have:=a1 i x hx;have:=a2 i x hx
 omega
theorem act_same {m:Causal}{s a:List Int}(hck:S.check m=true)(hs:S.act m s=true):S.act m (S.same s a)=true:=by
 obtain ⟨l1,a1⟩:=act_at hs
 refine act_intro (by simp[S.same,l1]) fun i x hx=>?_
 have hi:=(List.getElem?_eq_some_iff.1 hx).1
 have hc:=(check_facts hck).1.card x (List.mem_of_getElem? hx)
 rw[same_at (by omega)]
 have:=a1 i x hx
 split<;>omega
theorem mw_wth {m:Causal}{s q a:List Int}(hs:S.act m s=true)(hq:S.act m q=true)(hc:S.clash s q=false)(j:Nat):S.mw m a (S.wth s q) j=(S.mw m a s j&&S.mw m a q j):=by
 obtain ⟨l1,a1⟩:=act_at hs
 obtain ⟨l2,a2⟩:=act_at hq
 unfold S.mw
 generalize S.run m (S.values (S.lens m) (j:Int)) a=V
 rw[Bool.eq_iff_iff,Bool.and_eq_true,mat_iff,mat_iff,mat_iff]
 have hw:(S.wth s q).length=s.length:=by simp[S.wth]
 have hno:∀i,i<s.length→¬(0≤q[i]?.getD 0∧0≤s[i]?.getD 0∧q[i]?.getD 0≠s[i]?.getD 0):=fun i hi h=>by
  have:S.clash s q=true:=List.any_eq_true.2 ⟨i,List.mem_range.2 hi,by simp only[S.clashAt,Bool.and_eq_true,decide_eq_true_eq];exact ⟨⟨h.1,h.2.1⟩,h.2.2⟩⟩
  rw[hc] at this;cases this
 constructor
 ·intro h
  refine ⟨fun i hi=>?_,fun i hi=>?_⟩
  ·have:=h i (by omega);rw[wth_at hi] at this;have:=hno i hi;omega
  ·have:=h i (by omega);rw[wth_at (by omega)] at this;have:=hno i (by omega);omega
 ·rintro ⟨h1,h2⟩ i hi
  rw[wth_at (by omega)]
  have:=h1 i (by omega);have:=h2 i (by omega);have:=hno i (by omega)
  omega
theorem cnt_wth {m:Causal}{s q:List Int}(hs:S.act m s=true)(hq:S.act m q=true)(hc:S.clash s q=false):S.effS m (S.none m) (S.wth s q)=S.cntS m s (S.none m) q:=by
 unfold S.effS S.cntS
 exact sumW_congr fun j _=>by rw[mw_wth hs hq hc,S.cw]
theorem cnt_clash {m:Causal}(hck:S.check m=true){s q:List Int}(hs:S.act m s=true)(hq:S.act m q=true)(hc:S.clash s q=true):S.cntS m s (S.none m) q=0:=by
 obtain ⟨i,hi,h⟩:=List.any_eq_true.1 hc
 have hi:=List.mem_range.1 hi
 simp only[S.clashAt,Bool.and_eq_true,decide_eq_true_eq] at h
 obtain ⟨l1,a1⟩:=act_at hs
 obtain ⟨l2,a2⟩:=act_at hq
 have hf:∀j,S.cw m s (S.none m) q j=false:=fun j=>by
  rw[Bool.eq_false_iff]
  intro hh
  rw[S.cw,Bool.and_eq_true] at hh
  unfold S.mw at hh
  rw[mat_iff,mat_iff] at hh
  have:=hh.1 i hi;have:=hh.2 i (by omega)
  omega
 unfold S.cntS
 have:∀n,S.sumW m (S.cw m s (S.none m) q) n=0:=fun n=>by
  induction n with
  | zero=>rfl
  | succ n ih=>rw[S.sumW,ih,hf];rfl
 exact this _
theorem run_at {m:Causal}{roots act:List Int}{i:Nat}(h:i<m.nodes.length):(S.run m roots act)[i]?.getD 0=S.V m roots act i:=by simp[S.run,h]
theorem cnt_same {m:Causal}(hck:S.check m=true){s a:List Int}(hs:S.act m s=true):S.cntS m s (S.same s a) s=S.seen m s:=by
 obtain ⟨l1,a1⟩:=act_at hs
 unfold S.cntS S.seen
 refine sumW_congr fun j _=>?_
 rw[S.cw]
 cases hm:S.mw m (S.none m) s j with
 | false=>rfl
 | true =>
  rw[Bool.true_and]
  unfold S.mw at hm ⊢
  rw[mat_iff] at hm
  have hV:=sol_V hck (S.values (S.lens m) (j:Int)) (S.none m)
  have hsol:Sol m (S.values (S.lens m) (j:Int)) (S.same s a) (S.V m (S.values (S.lens m) (j:Int)) (S.none m)):=fun i x hx=>by
   have hi:=(List.getElem?_eq_some_iff.1 hx).1
   have h1:=hm i (by omega)
   rw[run_at hi] at h1
   have h2:=hV i x hx
   have h3:(S.none m)[i]?.getD 0 = -1:=by simp[S.none,hi]
   unfold S.eqn at h2 ⊢
   rw[h3,if_neg (by decide)] at h2
   rw[same_at (by omega)]
   by_cases ha:a[i]?.getD 0<0
   ·rw[if_pos ha,if_neg (by decide)];exact h2
   ·rw[if_neg ha]
    by_cases h0:0≤s[i]?.getD 0
    ·rw[if_pos h0];omega
    ·rw[if_neg h0];exact h2
  have hu:=sol_unique hck (sol_V hck (S.values (S.lens m) (j:Int)) (S.same s a)) hsol
  rw[mat_iff]
  intro i hi
  rw[run_at (by omega),hu i (by omega)]
  have:=hm i hi
  rwa [run_at (by omega)] at this
end
end Hx
end
section
namespace Hx
open Go
noncomputable section
theorem fr_of {g g':G}(hn:g.nx≤g'.nx)(h:∀i,i<g.nx→g'.h.get i=g.h.get i):Fr g g':=⟨hn,h⟩
section
variable {m:Causal}{c1 c2 l w c9 v35 ls v48:AV}{al:List Int}{hid kk:Int}{p:Nat}
end
end
end Hx
end
section
namespace Hx
open Go
noncomputable section
theorem teffect_h {d:Nat}{g:G}{v act q:AV}{m:Causal}{al ql:List Int}{P1 P2:Nat→Prop}(hd:0<d)(hm:∀h,Agg m NoP 0 h v)(ha:SlR P1 0 g.h al act)(hq:SlR P2 0 g.h ql q) :
  callV C0 d N.twin_Effect [v,act,q] g=.val (.tup [.agg [.int .i64 (S.teffect m al ql).1,.int .i64 (S.teffect m al ql).2],.int .i64 (S.readE m [al,ql])]):=by
 obtain ⟨a',e1,r1⟩:=arg_sl ha d
 obtain ⟨q',e2,r2⟩:=arg_sl hq d
 have h:=teffect_ok (d:=d) (g:=G.empty) (kk:=max 0 d) hd (hm _) (r1 .nil) (r2 .nil)
 rw[call_twin_Effect] at h ⊢
 exact iso_args (by simp only[mapO,agg_same d (hm _),e1,e2]) (by simp only[mapO,agg_same d (hm _),sl_same d (r1 _),sl_same d (r2 _)]) h
theorem tcounter_h {d:Nat}{g:G}{v el act q:AV}{m:Causal}{ee al ql:List Int}{P0 P1 P2:Nat→Prop}(hd:0<d)(hm:∀h,Agg m NoP 0 h v)(he:SlR P0 0 g.h ee el)(ha:SlR P1 0 g.h al act)(hq:SlR P2 0 g.h ql q) :
  callV C0 d N.twin_Counter [v,el,act,q] g=.val (.tup [.agg [.int .i64 (S.tcounter m ee al ql).1,.int .i64 (S.tcounter m ee al ql).2],.int .i64 (S.tcounterE m ee al ql)]):=by
 obtain ⟨e',e0,r0⟩:=arg_sl he d
 obtain ⟨a',e1,r1⟩:=arg_sl ha d
 obtain ⟨q',e2,r2⟩:=arg_sl hq d
 have h:=tcounter_ok (d:=d) (g:=G.empty) (kk:=max 0 d) hd (hm _) (r0 .nil) (r1 .nil) (r2 .nil)
 rw[call_twin_Counter] at h ⊢
 exact iso_args (by simp only[mapO,agg_same d (hm _),e0,e1,e2]) (by simp only[mapO,agg_same d (hm _),sl_same d (r0 _),sl_same d (r1 _),sl_same d (r2 _)]) h
def S.prf (n j:Nat)(f s:Nat→Int):List Int:=(List.range n).map fun i=>if i<j then f i else s i
theorem prf_len (n j:Nat)(f s:Nat→Int):(S.prf n j f s).length=n:=by simp[S.prf]
theorem prf_get {n j i:Nat}{f s:Nat→Int}(h:i<n):(S.prf n j f s)[i]?=some (if i<j then f i else s i):=by simp[S.prf,h]
theorem prf_at {n j:Nat}{f s:Nat→Int}(h:j<n):(S.prf n j f s)[j]?=some (s j):=by rw[prf_get h,if_neg (Nat.lt_irrefl _)]
theorem prf_step {n j:Nat}{f s:Nat→Int}{x:Int}(h:j<n)(hx:x=f j):(S.prf n j f s).set j x=S.prf n (j+1) f s:=by
 subst hx
 refine List.ext_getElem (by simp[S.prf]) fun i h1 h2=>?_
 have hi:i<n:=by simpa [S.prf] using h2
 rw[List.getElem_set]
 by_cases e:j=i
 ·subst e;simp[S.prf]
 ·rw[if_neg e]
  simp only[S.prf,List.getElem_map,List.getElem_range]
  by_cases h3:i<j
  ·rw[if_pos h3,if_pos (by omega)]
  ·rw[if_neg h3,if_neg (by omega)]
theorem prf_keep {n j:Nat}{f s:Nat→Int}(h:j<n)(hx:s j=f j):S.prf n j f s=S.prf n (j+1) f s:=by
 rw[←prf_step h hx]
 refine List.ext_getElem (by simp[S.prf]) fun i h1 h2=>?_
 rw[List.getElem_set]
 by_cases e:j=i
 ·subst e;simp[S.prf]
 ·rw[if_neg e]
theorem prf_zero (l:List Int)(f:Nat→Int):S.prf l.length 0 f (fun i=>l[i]?.getD 0)=l:=by
 refine List.ext_getElem (by simp[S.prf]) fun i h1 h2=>?_
 simp[S.prf,h2]
theorem prf_end (n:Nat)(f s:Nat→Int):S.prf n n f s=(List.range n).map f:=by
 refine List.ext_getElem (by simp[S.prf]) fun i h1 h2=>?_
 have hi:i<n:=by simpa using h2
 simp[S.prf,hi]
theorem map_set_ci (l:List Int)(j:Nat)(x:Int):(l.map ci).set j (ci x)=(l.set j x).map ci:=by rw[List.map_set]
def Kp (u:AV)(gb g:G):Prop:=g.nx=gb.nx∧∀i,vid u≠some i→g.h.get i=gb.h.get i
def L1 (nn sv av qv u:AV)(c:Nat):List (Nat×AV):=[(5,.hptr 2 0 0 0),(6,nn),(7,sv),(8,av),(9,qv),(12,.hptr c 0 0 0),(16,u)]
theorem same_loop {nn sv av qv u:AV}{c nb:Nat}{sl al:List Int}{Q:QT}{t:T}{g:G}(hl:al.length=sl.length)(hn:sl.length≤5)(ha:SlR NoP 0 .nil al av)(hu:Own g nb u 1 (sl.map ci))
  (ht:St t (L1 nn sv av qv u c)) (h98:tat t 98=.int .i64 0) (h97:tat t 97=.int .i64 (sl.length:Int))
  (fin:∀t g',St t (L1 nn sv av qv u c)→Kp u g g'→Own g' nb u 1 ((S.same sl al).map ci)→Q (.exit 0) t [] g'):wpL (wp C0 1 none f_law33_TwinKnows_b1) Q t [] g:=by
 have ai:=ha.ints
 simp only[f_law33_TwinKnows_b1,f_law33_TwinKnows_k0]
 refine wpL_range (m:=sl.length) (by omega) (fun j t df g'=>df=[]∧St t (L1 nn sv av qv u c)∧Kp u g g'∧Own g' nb u 1 ((S.prf sl.length j (fun i=>if al[i]?.getD 0<0 then -1 else sl[i]?.getD 0) (fun i=>sl[i]?.getD 0)).map ci))
  ⟨rfl,ht,⟨rfl,fun i hi=>rfl⟩,by rw[prf_zero];exact hu⟩ h98 h97 (by decide) (by rintro j t df g v s (rfl | rfl | rfl)<;>simp[St,L1,sx]) ?_ ?_
 ·rintro j t df g1 hj ⟨rfl,⟨h5,h6,h7,h8,h9,h12,h16,-⟩,⟨hn1,hk⟩,hu⟩ h98 h97
  obtain ⟨x,hx,-,-⟩:=take_next (l:=al) (j:=j) (by omega)
  have q1:j<(al.map ci).length:=by rw[List.length_map];omega
  have q2:(al.map ci)[j]?=some (ci x):=by rw[List.getElem?_map,hx];rfl
  have ai:rowsOf g1.h 1 av=some (al.map ci):=(ha.tree (h':=g1.h) (Nat.le_refl _)).ints
  have ur:=hu.rows
  have q3:j<((S.prf sl.length j (fun i=>if al[i]?.getD 0<0 then -1 else sl[i]?.getD 0) (fun i=>sl[i]?.getD 0)).map ci).length:=by rw[List.length_map,prf_len];exact hj
  have q4:((S.prf sl.length j (fun i=>if al[i]?.getD 0<0 then -1 else sl[i]?.getD 0) (fun i=>sl[i]?.getD 0)).map ci)[j]?=some (ci (sl[j]?.getD 0)):=by rw[List.getElem?_map,prf_at hj];rfl
  by_cases hx0:x<0
  ·simp only[sx,sy,SO.run,↓reduceIte,Nat.reduceEqDiff,h8,h16,h98,ai,q1,q2,ur,q3,q4,ci,Option.isSome_some,Option.getD_some,hx0,decide_true]
   refine store_own (v:=u) (sz:=1) (n:=1) (i:=j) (off:=0) (x:=.int .i64 (-1)) (row':=ci (-1)) hu q4 rfl rfl rfl fun g2 hu2 n2 f2=>?_
   rw[map_set_ci,prf_step hj (by rw[hx];simp[hx0])] at hu2
   simp only[sx,sy,SO.run,↓reduceIte,Nat.reduceEqDiff]
   refine ⟨⟨?_,⟨by omega,fun i hi=>by rw[f2 i hi,hk i hi]⟩,hu2⟩,?_⟩
   ·simp[St,L1,sx,h5,h6,h7,h8,h9,h12,h16]
   ·simp[sx,h98,h97]
  ·simp only[sx,sy,SO.run,↓reduceIte,Nat.reduceEqDiff,h8,h16,h98,ai,q1,q2,ur,q3,q4,ci,Option.isSome_some,Option.getD_some,hx0,decide_false]
   rw[prf_keep hj (by rw[hx];simp[hx0])] at hu
   refine ⟨⟨?_,⟨hn1,hk⟩,hu⟩,?_⟩
   ·simp[St,L1,sx,h5,h6,h7,h8,h9,h12,h16]
   ·simp[sx,h98,h97]
 ·rintro t df g' ⟨rfl,ht,hk,hu⟩
  rw[prf_end] at hu
  exact fin t g' ht hk hu
end
end Hx
end
section
namespace Hx
open Go
noncomputable section
def L2 (nn sv qv u w e:AV)(c c8:Nat):List (Nat×AV):=[(5,.hptr 2 0 0 0),(6,nn),(7,sv),(12,.hptr c 0 0 0),(16,u),(18,.hptr c8 0 0 0),(19,e),(20,w),(120,qv)]
theorem any_range_succ (f:Nat→Bool)(j:Nat):(List.range (j+1)).any f=((List.range j).any f || f j):=by simp[List.range_succ]
theorem with_loop {nn sv qv u w e:AV}{c c8 nb:Nat}{sl ql:List Int}{Q:QT}{t:T}{g:G}(hl:ql.length=sl.length)(hn:sl.length≤5)(hs:SlR NoP 0 .nil sl sv)(hq:SlR NoP 0 .nil ql qv)(hu:Own g nb w 1 (sl.map ci))
  (ht:St t (L2 nn sv qv u w e c c8)) (h21:tat t 21=.bool false) (h122:tat t 122=.int .i64 0) (h121:tat t 121=.int .i64 (sl.length:Int))
  (fin:∀t g',St t (L2 nn sv qv u w e c c8)→tat t 21=.bool (S.clash sl ql)→Kp w g g'→Own g' nb w 1 ((S.wth sl ql).map ci)→Q (.exit 2) t [] g'):wpL (wp C0 1 none f_law33_TwinKnows_b2) Q t [] g:=by
 simp only[f_law33_TwinKnows_b2]
 refine wpL_range (m:=sl.length) (by omega) (fun j t df g'=>df=[]∧St t (L2 nn sv qv u w e c c8)∧tat t 21=.bool ((List.range j).any (S.clashAt sl ql))∧Kp w g g'∧Own g' nb w 1 ((S.prf sl.length j (fun i=>max (sl[i]?.getD 0) (ql[i]?.getD 0)) (fun i=>sl[i]?.getD 0)).map ci))
  ⟨rfl,ht,h21,⟨rfl,fun i hi=>rfl⟩,by rw[prf_zero];exact hu⟩ h122 h121 (by decide) (by rintro j t df g v s (rfl | rfl | rfl)<;>simp[St,L2,sx]) ?_ ?_
 ·clear h21 h122 h121 ht
  rintro j t df g1 hj ⟨rfl,ht,h21,⟨hn1,hk⟩,hu⟩ h122 h121
  obtain ⟨x,hx,-,-⟩:=take_next (l:=ql) (j:=j) (by omega)
  obtain ⟨y,hy,-,-⟩:=take_next (l:=sl) (j:=j) (by omega)
  have q1:j<(ql.map ci).length:=by rw[List.length_map];omega
  have q2:(ql.map ci)[j]?=some (ci x):=by rw[List.getElem?_map,hx];rfl
  have q5:j<(sl.map ci).length:=by rw[List.length_map];omega
  have q6:(sl.map ci)[j]?=some (ci y):=by rw[List.getElem?_map,hy];rfl
  have hat:S.clashAt sl ql j=(decide (0≤x)&&decide (0≤y)&&decide (x≠y)):=by simp[S.clashAt,hx,hy]
  have qi:rowsOf g1.h 1 qv=some (ql.map ci):=(hq.tree (h':=g1.h) (Nat.le_refl _)).ints
  have si:rowsOf g1.h 1 sv=some (sl.map ci):=(hs.tree (h':=g1.h) (Nat.le_refl _)).ints
  have ur:=hu.rows
  have q3:j<((S.prf sl.length j (fun i=>max (sl[i]?.getD 0) (ql[i]?.getD 0)) (fun i=>sl[i]?.getD 0)).map ci).length:=by rw[List.length_map,prf_len];exact hj
  have q4:((S.prf sl.length j (fun i=>max (sl[i]?.getD 0) (ql[i]?.getD 0)) (fun i=>sl[i]?.getD 0)).map ci)[j]?=some (ci y):=by rw[List.getElem?_map,prf_at hj,hy];rfl
  rw[wp_seq]
  refine seq_cut (P:=fun t' df g'=>df=[]∧g'=g1∧St t' (L2 nn sv qv u w e c c8)∧tat t' 21=.bool ((List.range j).any (S.clashAt sl ql))∧tat t' 22=.int .i64 (j:Int)∧tat t' 23=.int .i64 x∧tat t' 122=.int .i64 (j:Int)∧tat t' 121=.int .i64 (sl.length:Int)) ?_ ?_
  ·obtain ⟨h5,h6,h7,h12,h16,h18,h19,h20,h120,-⟩:=ht
   simp only[sx,sy,SO.run,↓reduceIte,Nat.reduceEqDiff,h120,h122,qi,q1,q2,ci,Option.isSome_some,Option.getD_some]
   simp[St,L2,sx,h5,h6,h7,h12,h16,h18,h19,h20,h120,h21,h121,h122]
  clear ht h21 h122 h121
  rintro t df g2 ⟨rfl,rfl,ht,h21,h22,h23,h122,h121⟩
  refine seq_cut (P:=fun t' df g'=>df=[]∧g'=g2∧St t' (L2 nn sv qv u w e c c8)∧tat t' 21=.bool ((List.range (j+1)).any (S.clashAt sl ql))∧tat t' 22=.int .i64 (j:Int)∧tat t' 23=.int .i64 x∧tat t' 122=.int .i64 (j:Int)∧tat t' 121=.int .i64 (sl.length:Int)) ?_ ?_
  ·obtain ⟨h5,h6,h7,h12,h16,h18,h19,h20,h120,-⟩:=ht
   rw[any_range_succ]
   cases hB:(List.range j).any (S.clashAt sl ql) with
   | true =>
    rw[hB] at h21
    simp only[sx,sy,SO.run,↓reduceIte,Nat.reduceEqDiff,h21,h22,h23]
    simp[St,L2,sx,h5,h6,h7,h12,h16,h18,h19,h20,h120,h21,h22,h23,h121,h122]
   | false =>
    rw[hB] at h21
    by_cases hx0:0≤x
    ·by_cases hy0:0≤y
     ·simp only[sx,sy,SO.run,↓reduceIte,Nat.reduceEqDiff,h7,h21,h22,h23,si,q5,q6,ci,Option.isSome_some,Option.getD_some,hx0,hy0,decide_true]
      simp[St,L2,sx,h5,h6,h7,h12,h16,h18,h19,h20,h120,h21,h22,h23,h121,h122,hat,hx0,hy0]
     ·simp only[sx,sy,SO.run,↓reduceIte,Nat.reduceEqDiff,h7,h21,h22,h23,si,q5,q6,ci,Option.isSome_some,Option.getD_some,hx0,hy0,decide_true,decide_false]
      simp[St,L2,sx,h5,h6,h7,h12,h16,h18,h19,h20,h120,h21,h22,h23,h121,h122,hat,hx0,hy0]
    ·simp only[sx,sy,SO.run,↓reduceIte,Nat.reduceEqDiff,h7,h21,h22,h23,si,q5,q6,ci,Option.isSome_some,Option.getD_some,hx0,decide_false]
     simp[St,L2,sx,h5,h6,h7,h12,h16,h18,h19,h20,h120,h21,h22,h23,h121,h122,hat,hx0]
  clear ht h21 h22 h23 h122 h121
  rintro t df g3 ⟨rfl,rfl,⟨h5,h6,h7,h12,h16,h18,h19,h20,h120,-⟩,h21,h22,h23,h122,h121⟩
  have hmx:∀a b:Int,mxV (.int .i64 a) (.int .i64 b)=.val (.int .i64 (max a b)):=fun a b=>by
   show bif' true (OR.val (.int .i64 (bif' (iltb a b) b a))) .fail=_
   rw[bif'_eq,if_pos rfl,bif'_eq]
   have:iltb a b=decide (a<b):=iltb_eq a b
   rw[this]
   congr 2
   by_cases hab:a<b
   ·rw[if_pos (by simp[hab])];omega
   ·rw[if_neg (by simp[hab])];omega
  simp only[sx,sy,SO.run,↓reduceIte,Nat.reduceEqDiff,h20,h22,h23,ur,q3,q4,ci,Option.isSome_some,Option.getD_some,hmx]
  refine store_own (v:=w) (sz:=1) (n:=1) (i:=j) (off:=0) (x:=.int .i64 (max y x)) (row':=ci (max y x)) hu q4 rfl rfl rfl fun g4 hu2 n2 f2=>?_
  rw[map_set_ci,prf_step hj (by simp[hx,hy])] at hu2
  simp only[sx,sy,SO.run,↓reduceIte,Nat.reduceEqDiff]
  refine ⟨⟨?_,?_,⟨by omega,fun i hi=>by rw[f2 i hi,hk i hi]⟩,hu2⟩,?_⟩
  ·simp[St,L2,sx,h5,h6,h7,h12,h16,h18,h19,h20,h120]
  ·simp[sx,h21]
  ·simp[sx,h122,h121]
 ·rintro t df g' ⟨rfl,ht,h21,hk,hu⟩
  rw[prf_end] at hu
  exact fin t g' ht h21 hk hu
end
end Hx
end
section
namespace Hx
open Go
noncomputable section
theorem k3_ok {m:Causal}{a b sv u:AV}{c c8 c24 nb n s w:Nat}{sl al:List Int}{Q:QT}{t:T}{g:G}(hck:S.check m=true)(hm:∀h,Agg m NoP 0 h (.agg [.int .i64 m.grain,a,b]))
  (hn:n≤4611686018427387903) (hs0:0<s) (hs:s≤4611686018427387903) (hw0:0<w) (hw:w≤4611686018427387903) (hsv:SlR NoP 0 .nil sl sv) (hsa:S.act m sl=true) (hss:(S.seen m sl).toNat=s)
  (hu:Own g nb u 1 ((S.same sl al).map ci)) (g2:g.h.get 2=.cells 3 [[.int .i64 m.grain,a,b]] 0 false false) (gc:g.h.get c=.cells 2 [[.int .i64 (S.low s w).1,.int .i64 (S.low s w).2]] 0 false false)
  (gc8:g.h.get c8=.cells 2 [[.int .i64 (S.low n s).1,.int .i64 (S.low n s).2]] 0 false false) (g24:g.h.get c24=.cells 2 [[.int .i64 (S.low n w).1,.int .i64 (S.low n w).2]] 0 false false) (hnx:2<g.nx)
  (ht:St t [(5,.hptr 2 0 0 0),(7,sv),(12,.hptr c 0 0 0),(16,u),(18,.hptr c8 0 0 0),(19,.int .i64 0),(24,.hptr c24 0 0 0),(25,.int .i64 0)])
  (fin:∀t g',tat t 4=.bool true→Q .ret t [] g'):wp C0 1 none f_law33_TwinKnows_k3 Q t [] g:=by
 obtain ⟨h5,h7,h12,h16,h18,h19,h24,h25,-⟩:=ht
 have his:=fun g (n m:Int)=>is_ok (d:=1) (g:=g) (n:=n) (m:=m) (by decide)
 have hmul:=fun g=>fmul_ok (d:=1) (g:=g) (c:=n) (s:=s) (w:=w) (by decide) hn hs0 hs hw0 hw
 have hsl:=(act_at hsa).1
 have hn5:=(check_facts hck).1.nodes
 simp only[f_law33_TwinKnows_k3,sx,sy,sf,SO.run,↓reduceIte,Nat.reduceEqDiff,Nat.reduceAdd,Nat.reduceLeDiff,h5,h7,h12,h16,h18,h19,h24,h25,g2,gc,gc8,g24,his,hmul,decide_true]
 refine is1_ok fun g1 f1 l1=>?_
 have f1:Fr g g1:=⟨by have:=f1.1;simp at this;omega,fun i hi=>by rw[f1.2 i (by simp;omega)];simp⟩
 have e2:g1.h.get 2=.cells 3 [[.int .i64 m.grain,a,b]] 0 false false:=by rw[f1.2 2 hnx,g2]
 have hu1:Own g1 nb u 1 ((S.same sl al).map ci):=hu.step f1
 have hcn:(S.seen m sl)≠0:=by omega
 have hc:∀g',g'.h=g1.h→callV C0 1 N.twin_Counter [.agg [.int .i64 m.grain,a,b],sv,u,sv] g'=.val (.tup [.agg [.int .i64 1,.int .i64 1],.int .i64 0]):=fun g' e=>by
  obtain ⟨u',e1,hu2⟩:=hu1.ints (k:=0) (by simp[S.same];omega)
  injection e1 with e1;subst e1
  rw[tcounter_h (m:=m) (ee:=sl) (al:=S.same sl al) (ql:=sl) (by decide) hm (hsv.tree (h':=g'.h) (Nat.le_refl 0)) (by rw[e];exact hu2) (hsv.tree (h':=g'.h) (Nat.le_refl 0))]
  obtain ⟨t1,t2⟩:=tcounter_eq hck hsa (act_same (a:=al) hck hsa) hsa hcn
  rw[t1,t2,cnt_same hck hsa,low_self _ (by omega)]
 simp only[sx,sy,sf,SO.run,↓reduceIte,Nat.reduceEqDiff,Nat.reduceAdd,Nat.reduceLeDiff,h5,h7,h12,h16,h18,h19,h24,h25,e2,his,hc,decide_true]
 refine is1_ok fun g3 f3 l3=>?_
 simp only[sx,sy,sf,SO.run,↓reduceIte,Nat.reduceEqDiff,Nat.reduceAdd,Nat.reduceLeDiff,foot_law33_is,foot_twin_Counter,foot_frac_Mul]
 refine ⟨?_,?_⟩
 ·simp only[List.reverse_cons,List.reverse_nil,List.nil_append,List.cons_append]
  exact footsOk_mk [false,false,false,false,false,false,false,false,false,false,false,false,false,false,false,false,false,true,false,false,false,false,false,false,false,false,false,false,true,false,false] [] (by simp[All2,rdLook,noLook,bigLook,dyn_sr]) (by decide) (by simp)
 ·exact fin _ _ (by simp[sx])
end
end Hx
end
section
namespace Hx
open Go
noncomputable section
theorem k4_ok {m:Causal}{a b nn sv qv u wv:AV}{c c8 nb nb2 n s w:Nat}{sl al ql:List Int}{Q:QT}{t:T}{g:G}(hck:S.check m=true)(hm:∀h,Agg m NoP 0 h (.agg [.int .i64 m.grain,a,b]))(hnn:IT 0 (S.none m) nn)
  (hn:n≤4611686018427387903) (hs0:0<s) (hs:s≤4611686018427387903) (hw0:0<w) (hw:w≤4611686018427387903) (hsv:SlR NoP 0 .nil sl sv) (hsa:S.act m sl=true) (hqa:S.act m ql=true)
  (hss:(S.seen m sl).toNat=s) (hww:(S.whole m).toNat=w) (hcn:(S.cntS m sl (S.none m) ql).toNat=n)
  (hu:Own g nb u 1 ((S.same sl al).map ci)) (hu2:Own g nb2 wv 1 ((S.wth sl ql).map ci)) (g2:g.h.get 2=.cells 3 [[.int .i64 m.grain,a,b]] 0 false false) (gc:g.h.get c=.cells 2 [[.int .i64 (S.low s w).1,.int .i64 (S.low s w).2]] 0 false false)
  (gc8:g.h.get c8=.cells 2 [[.int .i64 (S.low n s).1,.int .i64 (S.low n s).2]] 0 false false) (hnx:2<g.nx) (hc:c<g.nx) (hc8:c8<g.nx)
  (ht:St t (L2 nn sv qv u wv (.int .i64 0) c c8)) (h21:tat t 21=.bool (S.clash sl ql))
  (fin:∀t g',tat t 4=.bool true→Q .ret t [] g'):wp C0 1 none f_law33_TwinKnows_k4 Q t [] g:=by
 have hsl:=(act_at hsa).1
 have hn5:=(check_facts hck).1.nodes
 have hna:=act_none (check_facts hck).1
 obtain ⟨t1,t2⟩:=teffect_eq hck hna (act_wth hsa hqa)
 have he:callV C0 1 N.twin_Effect [.agg [.int .i64 m.grain,a,b],nn,wv] g=.val (.tup [.agg [.int .i64 (S.teffect m (S.none m) (S.wth sl ql)).1,.int .i64 (S.teffect m (S.none m) (S.wth sl ql)).2],.int .i64 0]):=by
  obtain ⟨u',e1,hu3⟩:=hu2.ints (k:=0) (by simp[S.wth];omega)
  injection e1 with e1;subst e1
  rw[teffect_h (m:=m) (al:=S.none m) (ql:=S.wth sl ql) (by decide) hm (hnn.sl g.h) hu3,t1]
 obtain ⟨T,hT⟩:∃T,T=S.teffect m (S.none m) (S.wth sl ql):=⟨_,rfl⟩
 rw[←hT] at he t2
 simp only[f_law33_TwinKnows_k4]
 refine seq_cut (P:=fun t' df g'=>df=[]∧St t' (L2 nn sv qv u wv (.int .i64 0) c c8)∧tat t' 21=.bool (S.clash sl ql)∧tat t' 24=.hptr g.nx 0 0 0∧tat t' 25=.int .i64 0∧Fr g g'∧g.nx<g'.nx∧g'.h.get g.nx=.cells 2 [[.int .i64 T.1,.int .i64 T.2]] 0 false false) ?_ ?_
 ·obtain ⟨h5,h6,h7,h12,h16,h18,h19,h20,h120,-⟩:=ht
  simp only[sx,sy,sf,SO.run,↓reduceIte,Nat.reduceEqDiff,Nat.reduceAdd,Nat.reduceLeDiff,h5,h6,h20,g2,he,H.get_put]
  refine ⟨?_,?_,?_,?_⟩
  ·simp[St,L2,sx,h5,h6,h7,h12,h16,h18,h19,h20,h120]
  ·simp[sx,h21]
  ·exact fr_of (by simp) fun i hi=>by simp[H.get_put,show ¬i=g.nx by omega]
  ·simp
 clear ht h21 he
 rintro t df g1 ⟨rfl,ht,h21,h24,h25,fr,n1,g24⟩
 refine cutG (P:=fun t' df g'=>df=[]∧St t' (L2 nn sv qv u wv (.int .i64 0) c c8)∧tat t' 24=.hptr g.nx 0 0 0∧tat t' 25=.int .i64 0∧Fr g g'∧g.nx<g'.nx∧g'.h.get g.nx=.cells 2 [[.int .i64 (S.low n w).1,.int .i64 (S.low n w).2]] 0 false false) ?_ ?_
 ·cases hcl:S.clash sl ql with
  | false =>
   rw[hcl] at h21
   rw[cnt_wth hsa hqa hcl,hcn,hww] at t2
   simp only[sx,sy,sf,SO.run,↓reduceIte,Nat.reduceEqDiff,h21]
   rw[t2] at g24
   refine ⟨?_,?_,?_,fr,n1,g24⟩
   ·obtain ⟨h5,h6,h7,h12,h16,h18,h19,h20,h120,-⟩:=ht
    simp[St,L2,sx,h5,h6,h7,h12,h16,h18,h19,h20,h120]
   ·simp[sx,h24]
   ·simp[sx,h25]
  | true =>
   rw[hcl] at h21
   have h0:n=0:=by rw[cnt_clash hck hsa hqa hcl] at hcn;omega
   have hlz:S.low n w=(0,1):=by rw[h0];exact low_zero w hw0
   simp only[sx,sy,sf,SO.run,↓reduceIte,Nat.reduceEqDiff,Nat.reduceAdd,Nat.reduceLeDiff,List.length_cons,List.length_nil,List.take_succ_cons,List.take_zero,List.drop_succ_cons,List.drop_zero,List.drop_nil,List.cons_append,List.nil_append,h21,h24,g24]
   rw[hlz]
   refine ⟨?_,?_,?_,?_,?_⟩
   ·obtain ⟨h5,h6,h7,h12,h16,h18,h19,h20,h120,-⟩:=ht
    simp[St,L2,sx,h5,h6,h7,h12,h16,h18,h19,h20,h120]
   ·simp[sx,h25]
   ·exact fr_of (by have:=fr.1;simp;omega) fun i hi=>by simp[H.get_put,show ¬i=g.nx by omega,fr.2 i hi]
   ·simpa using n1
   ·simp[H.get_put]
 clear ht h21 h24 h25 g24 fr n1
 rintro t df g3 ⟨rfl,⟨h5,h6,h7,h12,h16,h18,h19,h20,h120,-⟩,h24,h25,fr,n1,g24⟩
 exact k3_ok hck hm hn hs0 hs hw0 hw hsv hsa hss (hu.step fr) (by rw[fr.2 2 hnx,g2]) (by rw[fr.2 c hc,gc]) (by rw[fr.2 c8 hc8,gc8]) g24 (by omega) ⟨h5,h7,h12,h16,h18,h19,h24,h25,trivial⟩ fin
theorem k5_ok {m:Causal}{a b nn sv av qv u:AV}{c nb s w:Nat}{sl al ql:List Int}{Q:QT}{t:T}{g:G}(hck:S.check m=true)(hm:∀h,Agg m NoP 0 h (.agg [.int .i64 m.grain,a,b]))(hnn:IT 0 (S.none m) nn)
  (hs0:0<s) (hs:s≤4611686018427387903) (hw0:0<w) (hw:w≤4611686018427387903) (hsv:SlR NoP 0 .nil sl sv) (hqv:SlR NoP 0 .nil ql qv) (hsa:S.act m sl=true) (hqa:S.act m ql=true)
  (hss:(S.seen m sl).toNat=s) (hww:(S.whole m).toNat=w) (hu:Own g nb u 1 ((S.same sl al).map ci)) (g2:g.h.get 2=.cells 3 [[.int .i64 m.grain,a,b]] 0 false false) (gc:g.h.get c=.cells 2 [[.int .i64 (S.low s w).1,.int .i64 (S.low s w).2]] 0 false false)
  (hnx:2<g.nx) (hc:c<g.nx) (ht:St t (L1 nn sv av qv u c))
  (fin:∀t g',tat t 4=.bool true→Q .ret t [] g'):wp C0 1 none f_law33_TwinKnows_k5 Q t [] g:=by
 have hsl:=(act_at hsa).1
 have hql:=(act_at hqa).1
 have hnl:=(check_facts hck).2.2.1
 have hn5:=(check_facts hck).1.nodes
 have hna:=act_none (check_facts hck).1
 obtain ⟨n,hcn⟩:∃n,(S.cntS m sl (S.none m) ql).toNat=n:=⟨_,rfl⟩
 have hb1:=whole_bound hck (S.cw m sl (S.none m) ql)
 have hn:n≤4611686018427387903:=by unfold S.cntS at hcn;omega
 obtain ⟨t1,t2⟩:=tcounter_eq hck hsa hna hqa (by omega)
 rw[hcn,hss] at t2
 have he:=tcounter_h (g:=g) (m:=m) (ee:=sl) (al:=S.none m) (ql:=ql) (d:=1) (by decide) hm (hsv.tree (h':=g.h) (Nat.le_refl 0)) (hnn.sl g.h) (hqv.tree (h':=g.h) (Nat.le_refl 0))
 rw[t1,t2] at he
 simp only[f_law33_TwinKnows_k5]
 refine seq_cut (P:=fun t' df g'=>df=[]∧St t' (L1 nn sv av qv u c)∧tat t' 18=.hptr g.nx 0 0 0∧tat t' 19=.int .i64 0∧Fr g g'∧g.nx<g'.nx∧g'.h.get g.nx=.cells 2 [[.int .i64 (S.low n s).1,.int .i64 (S.low n s).2]] 0 false false) ?_ ?_
 ·obtain ⟨h5,h6,h7,h8,h9,h12,h16,-⟩:=ht
  simp only[sx,sy,sf,SO.run,↓reduceIte,Nat.reduceEqDiff,Nat.reduceAdd,Nat.reduceLeDiff,h5,h6,h7,h9,g2,he,H.get_put]
  refine ⟨?_,?_,?_⟩
  ·simp[St,L1,sx,h5,h6,h7,h8,h9,h12,h16]
  ·exact fr_of (by simp) fun i hi=>by simp[H.get_put,show ¬i=g.nx by omega]
  ·simp
 clear ht he
 rintro t df g1 ⟨rfl,ht,h18,h19,fr,n1,g18⟩
 refine seq_cut (P:=fun t' df g'=>df=[]∧St t' (L1 nn sv av qv u c)∧tat t' 18=.hptr g.nx 0 0 0∧tat t' 19=.int .i64 0∧Fr g1 g'∧∃wv,tat t' 20=wv∧Own g' g1.nx wv 1 (sl.map ci)) ?_ ?_
 ·obtain ⟨h5,h6,h7,h8,h9,h12,h16,-⟩:=ht
  simp only[sx,sy,sf,SO.run,↓reduceIte,Nat.reduceEqDiff,Nat.reduceAdd,Nat.reduceLeDiff,h7]
  refine clone_ok hsv (by omega) (by omega) fun wv g' ho f=>?_
  simp only[sx,sy,sf,SO.run,↓reduceIte,Nat.reduceEqDiff,Nat.reduceAdd,Nat.reduceLeDiff]
  refine ⟨?_,?_,?_,f,wv,?_,ho⟩
  ·simp[St,L1,sx,h5,h6,h7,h8,h9,h12,h16]
  ·simp[sx,h18]
  ·simp[sx,h19]
  ·simp[sx]
 clear ht h18 h19
 rintro t df g3 ⟨rfl,ht,h18,h19,fr3,wv,h20,ho⟩
 refine seq_cut (P:=fun t' df g'=>df=[]∧g'=g3∧St t' (L1 nn sv av qv u c)∧tat t' 18=.hptr g.nx 0 0 0∧tat t' 19=.int .i64 0∧tat t' 20=wv∧tat t' 21=.bool false) ?_ ?_
 ·obtain ⟨h5,h6,h7,h8,h9,h12,h16,-⟩:=ht
  simp only[sx,sy,sf,SO.run,↓reduceIte,Nat.reduceEqDiff,Nat.reduceAdd,Nat.reduceLeDiff]
  simp[St,L1,sx,h5,h6,h7,h8,h9,h12,h16,h18,h19,h20]
 clear ht h18 h19 h20
 rintro t df g4 ⟨rfl,rfl,ht,h18,h19,h20,h21⟩
 refine cutG (P:=fun t' df g'=>df=[]∧St t' (L2 nn sv qv u wv (.int .i64 0) c g.nx)∧tat t' 21=.bool (S.clash sl ql)∧Kp wv g4 g'∧Own g' g1.nx wv 1 ((S.wth sl ql).map ci)) ?_ ?_
 ·refine seq_cut (P:=fun t' df g'=>df=[]∧g'=g4∧St t' (L2 nn sv qv u wv (.int .i64 0) c g.nx)∧tat t' 21=.bool false∧tat t' 121=.int .i64 (sl.length:Int)∧tat t' 122=.int .i64 0) ?_ ?_
  ·obtain ⟨h5,h6,h7,h8,h9,h12,h16,-⟩:=ht
   have hlen:lenF .slice qv g4=.val (.int .i64 (sl.length:Int)):=by rw[(hqv.tree (h':=.nil) (Nat.le_refl 0)).len,hql,hsl]
   simp only[sx,sy,sf,SO.run,↓reduceIte,Nat.reduceEqDiff,Nat.reduceAdd,Nat.reduceLeDiff,h9,hlen]
   simp[St,L2,sx,h5,h6,h7,h8,h9,h12,h16,h18,h19,h20,h21]
  clear ht h18 h19 h20 h21
  rintro t df g5 ⟨rfl,rfl,ht,h21,h121,h122⟩
  simp only[wp_blk,wp_loop]
  refine with_loop (by omega) (by omega) hsv hqv ho ht h21 h122 h121 fun t g6 ht h21 hk hu=>?_
  simp only[kB_exit,if_true]
  exact ⟨trivial,trivial,ht,h21,hk,hu⟩
 clear ht h18 h19 h20 h21
 rintro t df g7 ⟨rfl,ht,h21,⟨k1,k2⟩,hu2⟩
 have low:∀i,i<g1.nx→g7.h.get i=g1.h.get i:=fun i hi=>by
  rw[k2 i (fun e=>by have:=(ho.lt e).1;omega),fr3.2 i hi]
 have hn7:g1.nx≤g7.nx:=by have:=fr3.1;omega
 have frx:Fr g g7:=⟨by omega,fun i hi=>by rw[low i (by omega),fr.2 i hi]⟩
 exact k4_ok hck hm hnn hn hs0 hs hw0 hw hsv hsa hqa hss hww hcn (hu.step frx) hu2 (by rw[frx.2 2 hnx,g2]) (by rw[frx.2 c hc,gc]) (by rw[low _ n1,g18]) (by have:=frx.1;omega) (by have:=frx.1;omega) (by omega) ht h21 fin
end
end Hx
end
section
namespace Hx
open Go
noncomputable section
abbrev P3:Nat→Prop:=fun i=>3≤i
theorem BD.sl {K R n:Nat}{g:G}{V:Ky→AV}{E:Ky→En}{Rt:Nat→List Int}{c:Nat→Int}{F:Nat→Nat→List Int}(hD:BD K R n V E Rt c F)(hH:Hp g 3 (LB R n) V E)(hK:K≤2000000)(hR:R≤K)(hn:n≤K) :
  SlR P3 0 g.h ((List.range R).map Rt) (V (4,0))∧SlR P3 0 g.h ((List.range n).map fun i=>(⟨c i,F 1 i,F 2 i,F 3 i⟩:Mech)) (V (4,1))∧∀gr,Bnd K ⟨gr,(List.range R).map Rt,(List.range n).map fun i=>(⟨c i,F 1 i,F 2 i,F 3 i⟩:Mech)⟩:=by
 have p3:∀{k:Ky} {sz:Nat} {rows:List (List AV)},Own g 3 (V k) sz rows→∀i,vid (V k)=some i→P3 i:=fun h i hi=>(h.lt hi).1
 have sl1:∀{k:Ky} {l:List Int},Own g 3 (V k) 1 (l.map ci)→l.length≤K→SlR P3 0 g.h l (V k):=fun h hl=>Own.sl (α:=Int) h (by omega) (All2.of_map (fun a=>rp_int.2 rfl) _) (p3 h)
 refine ⟨?_,?_,fun gr=>⟨by simpa using hR,fun x hx=>?_,by simpa using hn,fun x hx=>?_⟩⟩
 ·have:=hH.own (k:=(4,0)) (by simp[LB]) hD.rs
  refine Own.sl (α:=List Int) this (by simp;omega) (all2_maps fun i hi=>?_) (p3 this)
  have hi:=List.mem_range.1 hi
  obtain ⟨q1,q2⟩:=hD.r i hi
  exact ⟨_,rfl,sl1 (hH.own (k:=(0,i)) (.inl ⟨rfl,hi⟩) q1) q2⟩
 ·have:=hH.own (k:=(4,1)) (by simp[LB]) hD.ns
  refine Own.sl (α:=Mech) this (by simp;omega) (all2_maps fun i hi=>?_) (p3 this)
  have hi:=List.mem_range.1 hi
  obtain ⟨q1,q2⟩:=hD.f 1 i (by omega) (by omega) hi
  obtain ⟨q3,q4⟩:=hD.f 2 i (by omega) (by omega) hi
  obtain ⟨q5,q6⟩:=hD.f 3 i (by omega) (by omega) hi
  exact rp_mech.2 ⟨_,_,_,rfl,sl1 (hH.own (k:=(1,i)) (.inr (.inl ⟨by simp,by simp,hi⟩)) q1) q2,sl1 (hH.own (k:=(2,i)) (.inr (.inl ⟨by simp,by simp,hi⟩)) q3) q4,sl1 (hH.own (k:=(3,i)) (.inr (.inl ⟨by simp,by simp,hi⟩)) q5) q6⟩
 ·obtain ⟨i,hi,rfl⟩:=List.mem_map.1 hx
  exact (hD.r i (List.mem_range.1 hi)).2
 ·obtain ⟨i,hi,rfl⟩:=List.mem_map.1 hx
  have hi:=List.mem_range.1 hi
  exact ⟨(hD.f 1 i (by omega) (by omega) hi).2,(hD.f 2 i (by omega) (by omega) hi).2,(hD.f 3 i (by omega) (by omega) hi).2⟩
theorem BD.up {K K' R n:Nat}{V:Ky→AV}{E:Ky→En}{Rt:Nat→List Int}{c:Nat→Int}{F:Nat→Nat→List Int}(h:BD K R n V E Rt c F)(hK:K≤K'):BD K' R n V E Rt c F :=
 ⟨fun i hi=>⟨(h.r i hi).1,by have:=(h.r i hi).2;omega⟩,fun q i a b hi=>⟨(h.f q i a b hi).1,by have:=(h.f q i a b hi).2;omega⟩,h.rs,h.ns⟩
theorem SlR.heap {α:Type} [Rp α]{P:Nat→Prop}{k:Nat}{h h':H}{l:List α}{v:AV}(r:SlR P k h l v)(hf:h'=h):SlR P k h' l v:=by subst hf;exact r
end
end Hx
end
section
namespace Hx
open Go
noncomputable section
theorem made_len {m:Causal}(h:Made m):(1≤m.nodes.length∧m.nodes.length≤4)∧(∀x∈m.nodes,x.card=2∨x.card=3)∧Bnd 20000 m:=by
 obtain ⟨e,c,R,F,N,O,num,rfl,hn,hg,hF,hR,hN,hlt,hinj,hsur,hnd⟩:=h.ex
 refine ⟨by simpa [mkM] using hn,fun x hx=>?_,?_⟩
 ·obtain ⟨i,hi,rfl⟩:=List.mem_map.1 hx
  exact hF.card i (List.mem_range.1 hi)
 ·refine ⟨by show R.length≤_;omega,fun r hr=>?_,by simp[mkM];omega,fun x hx=>?_⟩
  ·obtain ⟨q,z,-,-,-,rfl⟩:=hF.roots r hr
   have:=weights_len e.gr q z
   omega
  ·obtain ⟨i,hi,rfl⟩:=List.mem_map.1 hx
   have hi:=List.mem_range.1 hi
   obtain ⟨k,hk,rfl⟩:=hsur i hi
   refine ⟨by have:=(hnd k hk).len;show (F (num k)).length≤_;omega,by have:=hN (num k);show (N (num k)).length≤_;omega,?_⟩
   show (O (num k)).length≤_
   rw[(hnd k hk).outs]
   refine Nat.le_trans allF_len ?_
   have hb:=szs_bound hF (hnd k hk).places (hF.inc _ hi)
   have:=prod_bound (l:=szs c R (F (num k)) (N (num k))) fun y hy=>by have:=hb y hy;omega
   have hl4:(szs c R (F (num k)) (N (num k))).length≤7:=by have:=(hnd k hk).len;have:=hN (num k);simp[szs];omega
   have:=pow4_mono hl4
   have:(4:Int) ^ 7=16384:=by decide
   omega
theorem Bnd.up {K K':Nat}{m:Causal}(h:Bnd K m)(hk:K≤K'):Bnd K' m :=
 ⟨by have:=h.r;omega,fun x hx=>by have:=h.rr x hx;omega,by have:=h.n;omega,fun x hx=>by have:=h.f x hx;omega⟩
end
end Hx
end
section
namespace Hx
open Go
noncomputable section
theorem works_call' (g:G):callV C0 1 N.law33_works [] g=.val (.bool true):=by kernel_rfl
end
end Hx
end
section
namespace Hx
open Go
noncomputable section
def L0 (nn sv av qv:AV):List (Nat×AV):=[(5,.hptr 2 0 0 0),(6,nn),(7,sv),(8,av),(9,qv)]
def kTail:SC:=.seq (.ops [o 48 (.load true 3 (.t 5)),o 49 (.mv (.t 8)),o 50 (.mv (.t 9)),o 51 (.call N.twin_Effect [.t 48,.t 49,.t 50]),o 47 (.mv (.t 51)),o 52 (.ext (.t 47) 0),o 53 (.ext (.t 47) 1),o 10 (.alloc [.int .i64 0,.int .i64 0]),oz (.store 2 (.t 10) (.t 52)),o 11 (.mv (.t 53))]) (.seq (.seq (.feet [0,1,3,7,15,7,39,127,7,7,7,7,4095,8191,8191,32767,65535,131071] [o 54 (.mv (.t 11)),o 55 (.bin .neq (.t 54) (.k (.int .i64 0))),o 56 (.mv (.t 55)),og 57 56 false (.fad 0 (.t 10)),og 58 56 false (.load false 1 (.t 57)),og 59 56 false (.fad 1 (.t 10)),og 60 56 false (.load false 1 (.t 59)),og 61 56 false (.call N.law33_is [.t 58,.t 60]),og 62 56 false (.load true 3 (.t 5)),og 63 56 false (.mv (.t 6)),og 64 56 false (.mv (.t 8)),og 65 56 false (.mv (.t 9)),og 66 56 false (.call N.twin_Counter [.t 62,.t 63,.t 64,.t 65]),og 67 56 false (.ext (.t 66) 0),og 68 56 false (.ext (.t 66) 1),og 69 56 false (.dyn (.t 61) [.t 67,.t 68]),og 70 56 false (.not (.t 69)),o 71 (.pick (.t 56) (.k (.bool true)) (.t 70))]) (.cond (.t 71) (.seq (.ops [o 4 (.mv (.k (.bool false)))]) (.ret)) (.skip))) (.seq (.ops [o 73 (.load true 3 (.t 5)),o 74 (.mv (.t 6)),o 75 (.mv (.t 7)),o 76 (.call N.twin_Effect [.t 73,.t 74,.t 75]),o 72 (.mv (.t 76)),o 77 (.ext (.t 72) 0),o 78 (.ext (.t 72) 1),o 12 (.alloc [.int .i64 0,.int .i64 0]),oz (.store 2 (.t 12) (.t 77)),o 13 (.mv (.t 78))]) (.seq (.seq (.ops [o 79 (.mv (.t 13)),o 80 (.bin .neq (.t 79) (.k (.int .i64 0)))]) (.cond (.t 80) (.seq (.ops [o 4 (.mv (.k (.bool false)))]) (.ret)) (.skip))) (.seq (.seq (.ops [o 81 (.fad 0 (.t 12)),o 82 (.load false 1 (.t 81)),o 83 (.bin .eql (.t 82) (.k (.int .i64 0)))]) (.cond (.t 83) (.seq (.ops [o 85 (.load true 3 (.t 5)),o 86 (.mv (.t 7)),o 87 (.mv (.t 8)),o 88 (.mv (.t 9)),o 89 (.call N.twin_Counter [.t 85,.t 86,.t 87,.t 88]),o 84 (.mv (.t 89)),o 90 (.ext (.t 84) 0),o 91 (.ext (.t 84) 1),o 14 (.alloc [.int .i64 0,.int .i64 0]),oz (.store 2 (.t 14) (.t 90)),o 15 (.mv (.t 91))]) (.seq (.ops [o 92 (.mv (.t 15)),o 93 (.bin .eql (.t 92) (.k (.int .i64 7))),o 4 (.mv (.t 93))]) (.ret))) (.skip))) (.seq (.ops [o 94 (.mv (.t 7)),o 95 (.call N.slices_Cloneintint [.t 94]),o 16 (.mv (.t 95))]) (.seq (.seq (.ops [o 96 (.mv (.t 16)),o 97 (.len .slice (.t 96)),o 98 (.mv (.k (.int .i64 0)))]) (.blk 0 (.loop f_law33_TwinKnows_b1))) f_law33_TwinKnows_k5))))))
theorem knows_tail {m:Causal}{a b nn sv av qv:AV}{sl al ql:List Int}{Q:QT}{t:T}{g:G}(hck:S.check m=true)(hm:∀h,Agg m NoP 0 h (.agg [.int .i64 m.grain,a,b]))(hnn:IT 0 (S.none m) nn)
  (hsv:SlR NoP 0 .nil sl sv) (hav:SlR NoP 0 .nil al av) (hqv:SlR NoP 0 .nil ql qv) (hsa:S.act m sl=true) (haa:S.act m al=true) (hqa:S.act m ql=true)
  (g2:g.h.get 2=.cells 3 [[.int .i64 m.grain,a,b]] 0 false false) (hnx:2<g.nx) (ht:St t (L0 nn sv av qv))
  (fin:∀t g',tat t 4=.bool true→Q .ret t [] g'):wp C0 1 none kTail Q t [] g:=by
 have hsl:=(act_at hsa).1
 have hal:=(act_at haa).1
 have hnl:=(check_facts hck).2.2.1
 have hn5:=(check_facts hck).1.nodes
 have hna:=act_none (check_facts hck).1
 have hwp:=whole_pos hck
 have hwb:=whole_bound hck (fun _=>true)
 have hsb:=whole_bound hck (S.mw m (S.none m) sl)
 obtain ⟨w,hww⟩:∃w,(S.whole m).toNat=w:=⟨_,rfl⟩
 obtain ⟨s,hss⟩:∃s,(S.seen m sl).toNat=s:=⟨_,rfl⟩
 have hw0:0<w:=by omega
 have hw:w≤4611686018427387903:=by unfold S.whole at hww;omega
 have hs:s≤4611686018427387903:=by unfold S.seen at hss;omega
 have his:=fun g (n m:Int)=>is_ok (d:=1) (g:=g) (n:=n) (m:=m) (by decide)
 obtain ⟨e1,e2⟩:=teffect_eq hck haa hqa
 have he1:∀g,callV C0 1 N.twin_Effect [.agg [.int .i64 m.grain,a,b],av,qv] g=.val (.tup [.agg [.int .i64 (S.teffect m al ql).1,.int .i64 (S.teffect m al ql).2],.int .i64 0]):=fun g=>by
  rw[teffect_h (g:=g) (m:=m) (al:=al) (ql:=ql) (by decide) hm (hav.tree (h':=g.h) (Nat.le_refl 0)) (hqv.tree (h':=g.h) (Nat.le_refl 0)),e1]
 obtain ⟨c1,c2⟩:=tcounter_eq (e:=S.none m) hck hna haa hqa (by rw[seen_none];omega)
 rw[cntS_none,seen_none,←e2] at c2
 have hc1:∀g,callV C0 1 N.twin_Counter [.agg [.int .i64 m.grain,a,b],nn,av,qv] g=.val (.tup [.agg [.int .i64 (S.teffect m al ql).1,.int .i64 (S.teffect m al ql).2],.int .i64 0]):=fun g=>by
  rw[tcounter_h (g:=g) (m:=m) (ee:=S.none m) (al:=al) (ql:=ql) (by decide) hm (hnn.sl g.h) (hav.tree (h':=g.h) (Nat.le_refl 0)) (hqv.tree (h':=g.h) (Nat.le_refl 0)),c1,c2]
 obtain ⟨f1,f2⟩:=teffect_eq hck hna hsa
 rw[show S.effS m (S.none m) sl=S.seen m sl from rfl,hss,hww] at f2
 have he2:∀g,callV C0 1 N.twin_Effect [.agg [.int .i64 m.grain,a,b],nn,sv] g=.val (.tup [.agg [.int .i64 (S.low s w).1,.int .i64 (S.low s w).2],.int .i64 0]):=fun g=>by
  rw[teffect_h (g:=g) (m:=m) (al:=S.none m) (ql:=sl) (by decide) hm (hnn.sl g.h) (hsv.tree (h':=g.h) (Nat.le_refl 0)),f1,f2]
 obtain ⟨E,hE⟩:∃E,E=S.teffect m al ql:=⟨_,rfl⟩
 rw[←hE] at he1 hc1
 clear e1 e2 c1 c2 f1 f2 hE
 unfold kTail
 refine seq_cut (P:=fun t' df g'=>df=[]∧St t' (L0 nn sv av qv)∧tat t' 10=.hptr g.nx 0 0 0∧tat t' 11=.int .i64 0∧Fr g g'∧g'.h.get g.nx=.cells 2 [[.int .i64 E.1,.int .i64 E.2]] 0 false false) ?_ ?_
 ·obtain ⟨h5,h6,h7,h8,h9,-⟩:=ht
  simp only[sx,sy,sf,SO.run,↓reduceIte,Nat.reduceEqDiff,Nat.reduceAdd,Nat.reduceLeDiff,h5,h8,h9,g2,he1,H.get_put]
  refine ⟨?_,?_⟩
  ·simp[St,L0,sx,h5,h6,h7,h8,h9]
  ·exact fr_of (by simp) fun i hi=>by simp[H.get_put,show ¬i=g.nx by omega]
 clear ht he1
 rintro t df g1 ⟨rfl,ht,h10,h11,fr,g10⟩
 have g2:g1.h.get 2=.cells 3 [[.int .i64 m.grain,a,b]] 0 false false:=by rw[fr.2 2 hnx,g2]
 have hnx:2<g1.nx:=by have:=fr.1;omega
 refine cutG (P:=fun t' df g'=>df=[]∧St t' (L0 nn sv av qv)∧Fr g1 g') ?_ ?_
 ·refine cutG (P:=fun t' df g'=>df=[]∧St t' (L0 nn sv av qv)∧Fr g1 g'∧tat t' 71=.bool false) ?_ ?_
  ·obtain ⟨h5,h6,h7,h8,h9,-⟩:=ht
   simp only[sx,sy,sf,SO.run,↓reduceIte,Nat.reduceEqDiff,Nat.reduceAdd,Nat.reduceLeDiff,h5,h6,h7,h8,h9,h10,h11,g2,g10,his,hc1,decide_true,decide_false,Bool.not_true]
   refine is1_ok fun g3 f3 l3=>?_
   simp only[sx,sy,sf,SO.run,↓reduceIte,Nat.reduceEqDiff,Nat.reduceAdd,Nat.reduceLeDiff,foot_law33_is,foot_twin_Counter,Bool.not_true]
   refine ⟨?_,?_⟩
   ·simp only[List.reverse_cons,List.reverse_nil,List.nil_append,List.cons_append]
    exact footsOk_mk [false,false,false,false,false,false,false,false,false,false,false,false,false,false,false,true,false,false] [] (by simp[All2,rdLook,noLook,bigLook,dyn_sr]) (by decide) (by simp)
   ·refine ⟨?_,?_⟩
    ·simp[St,L0,sx,h5,h6,h7,h8,h9]
    ·exact fr_of (by have:=f3.1;simp at this ⊢;omega) fun i hi=>by have:=f3.2 i (by simp;omega);simpa using this
  clear ht
  rintro t df g3 ⟨rfl,ht,fr,h71⟩
  simp only[wp_cond,get_t,h71,wpC_bool,bifP_false,wp_skip]
  exact ⟨trivial,trivial,ht,fr⟩
 clear ht h10 h11 g10 hc1
 rintro t df g3 ⟨rfl,ht,fr3⟩
 have g2:g3.h.get 2=.cells 3 [[.int .i64 m.grain,a,b]] 0 false false:=by rw[fr3.2 2 hnx,g2]
 have hnx:2<g3.nx:=by have:=fr3.1;omega
 refine seq_cut (P:=fun t' df g'=>df=[]∧St t' (L0 nn sv av qv)∧tat t' 12=.hptr g3.nx 0 0 0∧tat t' 13=.int .i64 0∧Fr g3 g'∧g3.nx<g'.nx∧g'.h.get g3.nx=.cells 2 [[.int .i64 (S.low s w).1,.int .i64 (S.low s w).2]] 0 false false) ?_ ?_
 ·obtain ⟨h5,h6,h7,h8,h9,-⟩:=ht
  simp only[sx,sy,sf,SO.run,↓reduceIte,Nat.reduceEqDiff,Nat.reduceAdd,Nat.reduceLeDiff,h5,h6,h7,g2,he2,H.get_put]
  refine ⟨?_,?_,?_⟩
  ·simp[St,L0,sx,h5,h6,h7,h8,h9]
  ·exact fr_of (by simp) fun i hi=>by simp[H.get_put,show ¬i=g3.nx by omega]
  ·simp
 clear ht he2 fr fr3
 rintro t df g4 ⟨rfl,ht,h12,h13,fr4,n4,g12⟩
 have g2:g4.h.get 2=.cells 3 [[.int .i64 m.grain,a,b]] 0 false false:=by rw[fr4.2 2 hnx,g2]
 have hnx:2<g4.nx:=by have:=fr4.1;omega
 refine cutG (P:=fun t' df g'=>df=[]∧St t' (L0 nn sv av qv)∧tat t' 12=.hptr g3.nx 0 0 0∧g'=g4) ?_ ?_
 ·obtain ⟨h5,h6,h7,h8,h9,-⟩:=ht
  simp only[sx,sy,sf,SO.run,↓reduceIte,Nat.reduceEqDiff,Nat.reduceAdd,Nat.reduceLeDiff,h13]
  simp[St,L0,sx,h5,h6,h7,h8,h9,h12]
 clear ht h12 h13
 rintro t df g5 ⟨rfl,ht,h12,rfl⟩
 by_cases hs0:s=0
 ·have hz:(S.low s w).1=0:=(low_num hw0).2 hs0
  have hce:∀g,∃p q,callV C0 1 N.twin_Counter [.agg [.int .i64 m.grain,a,b],sv,av,qv] g=.val (.tup [.agg [.int .i64 p,.int .i64 q],.int .i64 7]):=fun g=>by
   rw[tcounter_h (g:=g) (m:=m) (ee:=sl) (al:=al) (ql:=ql) (by decide) hm (hsv.tree (h':=g.h) (Nat.le_refl 0)) (hav.tree (h':=g.h) (Nat.le_refl 0)) (hqv.tree (h':=g.h) (Nat.le_refl 0)),tcounter_zero hck hsa haa hqa (by unfold S.seen at hss ⊢;omega)]
   exact ⟨_,_,rfl⟩
  obtain ⟨p,q,hce⟩:=hce g5
  obtain ⟨h5,h6,h7,h8,h9,-⟩:=ht
  rw[wp_seq]
  simp only[sx,sy,sf,SO.run,↓reduceIte,Nat.reduceEqDiff,Nat.reduceAdd,Nat.reduceLeDiff,h5,h6,h7,h8,h9,h12,g12,g2,hz,hce,decide_true]
  exact fin _ _ (by simp[sx])
 refine cutG (P:=fun t' df g'=>df=[]∧St t' (L0 nn sv av qv)∧tat t' 12=.hptr g3.nx 0 0 0∧g'=g5) ?_ ?_
 ·have hz:¬(S.low s w).1=0:=fun e=>hs0 ((low_num hw0).1 e)
  obtain ⟨h5,h6,h7,h8,h9,-⟩:=ht
  simp only[sx,sy,sf,SO.run,↓reduceIte,Nat.reduceEqDiff,Nat.reduceAdd,Nat.reduceLeDiff,h12,g12,hz,decide_false]
  simp[St,L0,sx,h5,h6,h7,h8,h9,h12]
 clear ht h12
 rintro t df g6 ⟨rfl,ht,h12,rfl⟩
 refine seq_cut (P:=fun t' df g'=>df=[]∧∃u,St t' (L1 nn sv av qv u g3.nx)∧Own g' g6.nx u 1 (sl.map ci)∧Fr g6 g') ?_ ?_
 ·obtain ⟨h5,h6,h7,h8,h9,-⟩:=ht
  simp only[sx,sy,sf,SO.run,↓reduceIte,Nat.reduceEqDiff,Nat.reduceAdd,Nat.reduceLeDiff,h7]
  refine clone_ok hsv (by omega) (by omega) fun u g' ho f=>?_
  simp only[sx,sy,sf,SO.run,↓reduceIte,Nat.reduceEqDiff,Nat.reduceAdd,Nat.reduceLeDiff]
  refine ⟨u,?_,ho,f⟩
  simp[St,L1,sx,h5,h6,h7,h8,h9,h12]
 clear ht h12
 rintro t df g7 ⟨rfl,u,ht,ho,fr7⟩
 refine cutG (P:=fun t' df g'=>df=[]∧St t' (L1 nn sv av qv u g3.nx)∧Kp u g7 g'∧Own g' g6.nx u 1 ((S.same sl al).map ci)) ?_ ?_
 ·refine seq_cut (P:=fun t' df g'=>df=[]∧g'=g7∧St t' (L1 nn sv av qv u g3.nx)∧tat t' 97=.int .i64 (sl.length:Int)∧tat t' 98=.int .i64 0) ?_ ?_
  ·obtain ⟨h5,h6,h7,h8,h9,h12,h16,-⟩:=ht
   have hlen:lenF .slice u g7=.val (.int .i64 (sl.length:Int)):=by rw[len_rows' ho.rows,List.length_map]
   simp only[sx,sy,sf,SO.run,↓reduceIte,Nat.reduceEqDiff,Nat.reduceAdd,Nat.reduceLeDiff,h16,hlen]
   simp[St,L1,sx,h5,h6,h7,h8,h9,h12,h16]
  clear ht
  rintro t df g8 ⟨rfl,rfl,ht,h97,h98⟩
  simp only[wp_blk,wp_loop]
  refine same_loop (by omega) (by omega) hav ho ht h98 h97 fun t g9 ht hk hu=>?_
  simp only[kB_exit,if_true]
  exact ⟨trivial,trivial,ht,hk,hu⟩
 clear ht
 rintro t df g9 ⟨rfl,ht,⟨k1,k2⟩,hu⟩
 have frx:Fr g6 g9:=⟨by have:=fr7.1;omega,fun i hi=>by rw[k2 i (fun e=>by have:=(ho.lt e).1;omega),fr7.2 i hi]⟩
 exact k5_ok hck hm hnn (by omega) hs hw0 hw hsv hqv hsa hqa hss hww hu (by rw[frx.2 2 hnx,g2]) (by rw[frx.2 _ n4,g12]) (by have:=frx.1;omega) (by have:=frx.1;omega) ht fin
end
end Hx
end
section
namespace Hx
open Go
noncomputable section
theorem ld15 {c1 c2 c3:List AV}(h1:c1.length=5)(h2:c2.length=5)(h3:c3.length=5):hptrLoad (.cells 15 [c1++(c2++c3)] 0 false false) 0 0 true 5 0=.val (.agg c1)∧hptrLoad (.cells 15 [c1++(c2++c3)] 0 false false) 0 0 true 5 5=.val (.agg c2) ∧
  hptrLoad (.cells 15 [c1++(c2++c3)] 0 false false) 0 0 true 5 10=.val (.agg c3):=by
 match c1,c2,c3,h1,h2,h3 with
 | [_,_,_,_,_],[_,_,_,_,_],[_,_,_,_,_],_,_,_=>exact ⟨rfl,rfl,rfl⟩
theorem ixa35 (id:Nat):ixaV 3 5 (.hptr id 0 0 0) (.int .i64 0)=.val (.hptr id 0 0 0)∧ixaV 3 5 (.hptr id 0 0 0) (.int .i64 1)=.val (.hptr id 0 0 5)∧ixaV 3 5 (.hptr id 0 0 0) (.int .i64 2)=.val (.hptr id 0 0 10):=by
 refine ⟨?_,?_,?_⟩
 ·exact ixa_h 3 5 id 0 0 0 .i64 (j:=0) (by decide)
 ·exact ixa_h 3 5 id 0 0 0 .i64 (j:=1) (by decide)
 ·exact ixa_h 3 5 id 0 0 0 .i64 (j:=2) (by decide)
theorem TwinKnows_call {x:DraftM}{u1:AV}{v1 v2 v3:List UInt8}(hx:Agg x NoP 0 .nil u1)(hv1:v1.length=5)(hv2:v2.length=5)(hv3:v3.length=5) :
  ∃g',(I C0).call 1 N.law33_TwinKnows [u1,.agg (v1.map u8v++(v2.map u8v++v3.map u8v))] G.empty=.ok (.bool true) g':=by
 obtain ⟨xs,rfl,qx⟩:=hx
 have hx':∀h,Agg x NoP 0 h (.agg xs):=fun h=>⟨_,rfl,Rp.tree qx (Nat.le_refl _)⟩
 obtain ⟨a1,a2,a3,a4,e1,-⟩:=rp_draftM.1 qx
 have hxl:xs.length=5:=by rw[e1];rfl
 clear e1 a1 a2 a3 a4
 obtain ⟨ys,hys⟩:∃ys,ys=v1.map u8v++(v2.map u8v++v3.map u8v):=⟨_,rfl⟩
 have hyl:ys.length=15:=by rw[hys];simp[hv1,hv2,hv3]
 have hld:=ld15 (c1:=v1.map u8v) (c2:=v2.map u8v) (c3:=v3.map u8v) (by simpa using hv1) (by simpa using hv2) (by simpa using hv3)
 rw[←hys] at hld ⊢
 obtain ⟨ld1,ld2,ld3⟩:=hld
 have key:=call_ok (C:=C0) (d:=1) (f:=N.law33_TwinKnows) («as»:=[.agg xs,.agg ys]) (g:=G.empty) (K:=fun v g'=>v=.bool true) eq_law33_TwinKnows (by simp[f_law33_TwinKnows]) ?_
 ·cases hc:(I C0).call 1 N.law33_TwinKnows [.agg xs,.agg ys] G.empty with
  | fail=>rw[hc] at key;exact key.elim
  | ok v g'=>rw[hc] at key;exact ⟨g',by rw[show v=.bool true from key]⟩
 clear qx hys
 simp only[f_law33_TwinKnows,sx,sy,sf,SO.run,↓reduceIte,Nat.reduceEqDiff,Nat.reduceAdd,Nat.reduceLeDiff]
 obtain ⟨g0,hg0⟩:∃g0,g0=((G.empty.new (AObj.cells xs.length [xs] 0 false false)).new (AObj.cells ys.length [ys] 0 false false)):=⟨_,rfl⟩
 rw[←hg0]
 have f0:g0.h.get 0=.cells 5 [xs] 0 false false:=by rw[hg0,hxl];simp[sx,H.get_put]
 have f1:g0.h.get 1=.cells 15 [ys] 0 false false:=by rw[hg0,hyl];simp[sx,H.get_put]
 have f4:g0.nx=2:=by rw[hg0];simp[sx]
 clear hg0
 have ld0:hptrLoad (.cells 5 [xs] 0 false false) 0 0 true 5 0=.val (.agg xs):=by
  match xs,hxl with
  | [a,b,c,d,e],_=>rfl
 obtain ⟨rm,em,m,hmade,cm,rfl,hcm⟩:=model_ok (g:=g0) (d:=1) (by decide) (hx' _)
 obtain ⟨hml,hmc,-⟩:=made_len hmade
 have hck:=made_right hmade
 obtain ⟨a,b,rfl,hR,hN⟩:=rp_causal.1 hcm
 have hm:∀h,Agg m NoP 0 h (.agg [.int .i64 m.grain,a,b]):=fun h=>⟨_,rfl,Rp.tree hcm (Nat.le_refl _)⟩
 simp only[f_law33_TwinKnows_r]
 refine cutG (P:=fun t' df g'=>df=[]∧g'=g0∧St t' [(2,.hptr 0 0 0 0),(3,.hptr 1 0 0 0)]) ?_ ?_
 ·simp only[sx,sy,sf,SO.run,↓reduceIte,Nat.reduceEqDiff,Nat.reduceAdd,Nat.reduceLeDiff,works_call',Bool.not_true]
  simp[St,sx]
 rintro t df g1 ⟨rfl,rfl,h2,h3,-⟩
 refine seq_cut (P:=fun t' df g'=>df=[]∧St t' [(3,.hptr 1 0 0 0),(5,.hptr 2 0 0 0)]∧g'.nx=3∧g'.h.get 1=.cells 15 [ys] 0 false false∧g'.h.get 2=.cells 3 [[.int .i64 m.grain,a,b]] 0 false false) ?_ ?_
 ·simp only[sx,sy,sf,SO.run,↓reduceIte,Nat.reduceEqDiff,Nat.reduceAdd,Nat.reduceLeDiff,h2,h3,f0,ld0,em]
  simp[St,sx,h2,h3,f4,H.get_put,f1]
 clear h2 h3 f0 f1 f4 em ld0
 rintro t df g2 ⟨rfl,⟨h3,h5,-⟩,n2,f1,f2⟩
 refine seq_cut (P:=fun t' df g'=>df=[]∧∃nn,IT 0 (S.none m) nn∧St t' [(3,.hptr 1 0 0 0),(5,.hptr 2 0 0 0),(6,nn)]∧g'.nx=4∧g'.h.get 1=.cells 15 [ys] 0 false false∧g'.h.get 2=.cells 3 [[.int .i64 m.grain,a,b]] 0 false false) ?_ ?_
 ·have hb:∀g,bslV 1 1 [.int .i64 0] [0] [.int .i64 (-1)] g=.upd (.hsl g.nx 0 0 1 none) (g.new (.cells 1 [[.int .i64 (-1)]] 0 false false)):=fun g=>by kernel_rfl
  simp only[sx,sy,sf,SO.run,↓reduceIte,Nat.reduceEqDiff,Nat.reduceAdd,Nat.reduceLeDiff,h3,h5,hb,f2,hN.len,H.get_put,n2]
  refine sat_ex (rep_ok (n:=m.nodes.length) (id:=3) (by omega) (by omega) (by simp[H.get_put,n2])) fun nn hnn=>?_
  simp only[sx,sy,sf,SO.run,↓reduceIte,Nat.reduceEqDiff,Nat.reduceAdd,Nat.reduceLeDiff]
  refine ⟨nn,hnn,?_,?_,?_,?_⟩
  ·simp[St,sx,h3,h5]
  ·simp[n2]
  ·simp[H.get_put,n2,f1]
  ·simp[H.get_put,n2,f2]
 clear h3 h5 f1 f2 n2
 rintro t df g3 ⟨rfl,nn,hnn,⟨h3,h5,h6,-⟩,n3,f1,f2⟩
 have hcp:∀x∈m.nodes,0<x.card:=fun x hx=>by rcases hmc x hx with h | h<;>omega
 obtain ⟨sv,es,hsv⟩:=knownOf_ok (d:=1) (g:=setLog g3 []) (w:=.agg [.int .i64 m.grain,a,b]) (by decide) hv1 (hm _) (by omega) hcp
 obtain ⟨av,ea,hav⟩:=knownOf_ok (d:=1) (g:=setLog g3 []) (w:=.agg [.int .i64 m.grain,a,b]) (by decide) hv2 (hm _) (by omega) hcp
 obtain ⟨qv,eq,hqv⟩:=knownOf_ok (d:=1) (g:=setLog g3 []) (w:=.agg [.int .i64 m.grain,a,b]) (by decide) hv3 (hm _) (by omega) hcp
 obtain ⟨i0,i1,i2⟩:=ixa35 1
 refine cutG (P:=fun t' df g'=>df=[]∧St t' (L0 nn sv av qv)∧g'.h.get 2=.cells 3 [[.int .i64 m.grain,a,b]] 0 false false∧2<g'.nx) ?_ ?_
 ·simp only[sx,sy,sf,SO.run,↓reduceIte,Nat.reduceEqDiff,Nat.reduceAdd,Nat.reduceLeDiff,h3,h5,i0,i1,i2,f1,f2,ld1,ld2,ld3,es,ea,eq]
  simp[St,L0,sx,h5,h6,f2,n3]
 clear h3 h5 h6 n3 f1 f2 es ea eq
 rintro t df g4 ⟨rfl,ht,f2,hn⟩
 exact knows_tail hck hm hnn (hsv.sl .nil) (hav.sl .nil) (hqv.sl .nil) (act_known hck v1) (act_known hck v2) (act_known hck v3) f2 hn ht fun t g' h=>by simp only[sx,sy,SO.run,h]
end
end Hx
end
section
namespace Hx
open Go Go.RowKit Go.ChangeShapes Go.WideShapes
def contig (P:Program):List Field→Nat→Option Nat
 | [],k=>some k
 | f::fs,k=>if f.offset=k then contig P fs (k+P.cellsOf f.type) else none
def plainT (P:Program):Nat→TypeId→Bool
 | 0,_=>false
 | n+1,t=>match P.underlying t with
  | some .bool=>true
  | some (.int _)=>true
  | some (.slice e)=>decide (0<P.cellsOf e)&&plainT P n e
  | some (.struct fs)=>(contig P fs.toList 0 == some (P.cellsOf t))&&fs.toList.all (fun f=>plainT P n f.type)
  | some (.array m e)=>decide (m*P.cellsOf e=P.cellsOf t)&&plainT P n e
  | _=>false
def Sh (P:Program):Nat→TypeId→List AV→Prop
 | 0,_,_=>False
 | n+1,t,xs=>match P.underlying t with
  | some .bool=>∃b,xs=[.bool b]
  | some (.int k)=>∃z,xs=[.int k z]∧(Lit.int k z).wf=true
  | some (.slice e)=>xs=[.nils]∨∃rows,xs=[.tsl 0 (P.cellsOf e) rows]∧rows.length<9223372036854775808∧∀row∈rows,Sh P n e row
  | some (.struct fs)=>∃xss,xs=xss.flatten∧All2 (fun (f:Field) ys=>Sh P n f.type ys) fs.toList xss
  | some (.array m e)=>∃xss:List (List AV),xs=xss.flatten∧xss.length=m∧∀ys∈xss,Sh P n e ys
  | _=>False
def GoodC (P:Program)(w:World)(n:Nat)(t:TypeId)(xs:List AV)(cs:List Value):Prop :=
 RVs0 w xs cs∧(∀y∈xs,y.one=true∧Closed y)∧Sh P n t xs
theorem RVs0.append {w:World}{xs ys:List AV}{cs ds:List Value}(h:RVs0 w xs cs)(h':RVs0 w ys ds):RVs0 w (xs++ys) (cs++ds):=by
 refine ⟨by rw[List.length_append,List.length_append,h.1,h'.1],fun i x v hx hv=>?_⟩
 rcases Nat.lt_or_ge i xs.length with hi | hi
 ·rw[List.getElem?_append_left hi] at hx
  rw[List.getElem?_append_left (by rw[←h.1];exact hi)] at hv
  exact h.2 i x v hx hv
 ·rw[List.getElem?_append_right hi] at hx
  rw[List.getElem?_append_right (by rw[←h.1];exact hi),←h.1] at hv
  exact h'.2 _ x v hx hv
theorem add_adr (b o n:Nat):(⟨b,o,none⟩:Addr).add n=adr b (o+n):=by
 unfold Addr.add
 split
 ·rename_i h;subst h;rfl
 ·rfl
variable {H:Type}{enc:TypeId×Value→H}{P:Program}{w:World}
theorem contig_le:∀{fl:List Field}{k K:Nat},contig P fl k=some K→k≤K
 | [],k,K,h=>by injection h with h;omega
 | f::fl,k,K,h=>by
  unfold contig at h
  split at h
  ·have:=contig_le h;omega
  ·cases h
theorem pieces {n:Nat}{cs:List Value}:∀{fl:List Field}{k K:Nat},contig P fl k=some K →
  (∀f∈fl,∃xs,GoodC P w n f.type xs ((cs.drop f.offset).take (P.cellsOf f.type))) →
  ∃xss,All2 (fun (f:Field) ys=>Sh P n f.type ys) fl xss∧RVs0 w xss.flatten ((cs.drop k).take (K - k))∧∀y∈xss.flatten,y.one=true∧Closed y
 | [],k,K,h,_=>by
  injection h with h;subst h
  exact ⟨[],trivial,by rw[Nat.sub_self,List.take_zero];exact ⟨rfl,fun i x v hx=>by simp at hx⟩,fun y hy=>by simp at hy⟩
 | f::fl,k,K,h,hg=>by
  unfold contig at h
  split at h
  ·rename_i ho
   subst ho
   obtain ⟨xs,h1,h2,h3⟩:=hg f (by simp)
   obtain ⟨xss,a1,a2,a3⟩:=pieces h fun f' hf'=>hg f' (by simp[hf'])
   have hle:=contig_le h
   refine ⟨xs::xss,⟨h3,a1⟩,?_,fun y hy=>?_⟩
   ·have e:(cs.drop f.offset).take (K - f.offset)=(cs.drop f.offset).take (P.cellsOf f.type)++(cs.drop (f.offset+P.cellsOf f.type)).take (K - (f.offset+P.cellsOf f.type)):=by
     rw[show K - f.offset=P.cellsOf f.type+(K - (f.offset+P.cellsOf f.type)) by omega,List.take_add,List.drop_drop]
    rw[e,List.flatten_cons]
    exact h1.append a2
   ·rw[List.flatten_cons,List.mem_append] at hy
    rcases hy with hy | hy
    ·exact h2 y hy
    ·exact a3 y hy
  ·cases h
theorem apieces {n:Nat}{e:TypeId}{cs:List Value}:∀{m k:Nat},
  (∀i,i<m→∃xs,GoodC P w n e xs ((cs.drop ((k+i)*P.cellsOf e)).take (P.cellsOf e))) →
  ∃xss:List (List AV),xss.length=m∧(∀ys∈xss,Sh P n e ys)∧RVs0 w xss.flatten ((cs.drop (k*P.cellsOf e)).take (m*P.cellsOf e))∧∀y∈xss.flatten,y.one=true∧Closed y
 | 0,k,_=>⟨[],rfl,fun y hy=>by simp at hy,by rw[Nat.zero_mul,List.take_zero];exact ⟨rfl,fun i x v hx=>by simp at hx⟩,fun y hy=>by simp at hy⟩
 | m+1,k,hg=>by
  obtain ⟨xs,h1,h2,h3⟩:=hg 0 (by omega)
  rw[Nat.add_zero] at h1
  obtain ⟨xss,a0,a1,a2,a3⟩:=apieces (m:=m) (k:=k+1) fun i hi=>by
   have:=hg (i+1) (by omega)
   rwa [show k+(i+1)=k+1+i by omega] at this
  refine ⟨xs::xss,by simp[a0],fun ys hy=>?_,?_,fun y hy=>?_⟩
  ·rcases List.mem_cons.1 hy with rfl | hy
   ·exact h3
   ·exact a1 ys hy
  ·have e:(cs.drop (k*P.cellsOf e)).take ((m+1)*P.cellsOf e)=(cs.drop (k*P.cellsOf e)).take (P.cellsOf e)++(cs.drop ((k+1)*P.cellsOf e)).take (m*P.cellsOf e):=by
    rw[show (m+1)*P.cellsOf e=P.cellsOf e+m*P.cellsOf e by rw[Nat.add_mul];omega,List.take_add,List.drop_drop,Nat.add_mul,Nat.one_mul]
   rw[e,List.flatten_cons]
   exact h1.append a2
  ·rw[List.flatten_cons,List.mem_append] at hy
   rcases hy with hy | hy
   ·exact h2 y hy
   ·exact a3 y hy
theorem in_cells:∀(n:Nat)(t:TypeId),plainT P n t=true→∀(fuel:Nat)(cs:List Value)(x:DataW H×List MemPlace),DataW.trod enc P w 0 (fun _=>true) true fuel t cs=some x→∃xs,GoodC P w n t xs cs:=by
 intro n
 induction n with
 | zero=>intro t h;simp[plainT] at h
 | succ n ih =>
  intro t h fuel cs x hx
  unfold plainT at h
  split at h
  ·rename_i hu
   obtain ⟨b,rfl,-⟩:=DataW.trod_bool hu hx
   refine ⟨[.bool b],⟨rfl,fun i x v h1 h2=>?_⟩,fun y hy=>?_,?_⟩
   ·cases i with
    | zero=>simp at h1 h2;subst h1;subst h2;exact .bool _ _
    | succ i=>simp at h1
   ·simp at hy;subst hy;exact ⟨rfl,.bool _⟩
   ·unfold Sh;rw[hu];exact ⟨b,rfl⟩
  ·rename_i k hu
   obtain ⟨z,rfl,-,hwf⟩:=DataW.trod_int hu hx
   refine ⟨[.int k z],⟨rfl,fun i x v h1 h2=>?_⟩,fun y hy=>?_,?_⟩
   ·cases i with
    | zero=>simp at h1 h2;subst h1;subst h2;exact .int _ _ _
    | succ i=>simp at h1
   ·simp at hy;subst hy;exact ⟨rfl,.int _ _⟩
   ·unfold Sh;rw[hu];exact ⟨z,rfl,hwf⟩
  ·rename_i e hu
   rw[Bool.and_eq_true,decide_eq_true_eq] at h
   obtain ⟨hpos,hp⟩:=h
   rcases DataW.trod_slice hu hx with ⟨rfl,-⟩ | ⟨a,len,cap,elems,rest,m,-,rfl,-,-,hlc,hcm,hlen,hel,-,-⟩
   ·refine ⟨[.nils],⟨rfl,fun i x v h1 h2=>?_⟩,fun y hy=>?_,?_⟩
    ·cases i with
     | zero=>simp at h1 h2;subst h1;subst h2;exact .nils _
     | succ i=>simp at h1
    ·simp at hy;subst hy;exact ⟨rfl,.nils⟩
    ·unfold Sh;rw[hu];exact .inl rfl
   ·have each:∀i,i<len→∃xs vs,w.cells? 0 (a.add (i*P.cellsOf e)) (P.cellsOf e)=some vs∧GoodC P w n e xs vs:=by
     intro i hi
     have:=hel i hi
     rw[List.getElem?_eq_getElem (show i<elems.length by omega),Option.bind_eq_some_iff] at this
     obtain ⟨vs,h1,h2⟩:=this
     obtain ⟨xs,hg⟩:=ih e hp _ _ _ h2
     exact ⟨xs,vs,h1,hg⟩
    let rowf:Nat→List AV:=fun i=>if hi:i<len then Classical.choose (each i hi) else []
    let valf:Nat→List Value:=fun i=>if hi:i<len then Classical.choose (Classical.choose_spec (each i hi)) else []
    have hrow:∀i,i<len→w.cells? 0 (a.add (i*P.cellsOf e)) (P.cellsOf e)=some (valf i)∧GoodC P w n e (rowf i) (valf i):=by
     intro i hi
     have:=Classical.choose_spec (Classical.choose_spec (each i hi))
     simpa only[rowf,valf,dif_pos hi] using this
    have hget:∀(i:Nat) (row:List AV),((List.range len).map rowf)[i]?=some row→i<len∧row=rowf i:=by
     intro i row h1
     rw[List.getElem?_map] at h1
     rcases Nat.lt_or_ge i len with hi | hi
     ·rw[List.getElem?_range hi] at h1
      injection h1 with h1
      exact ⟨hi,h1.symm⟩
     ·rw[List.getElem?_eq_none (by simpa using hi)] at h1;cases h1
    refine ⟨[.tsl 0 (P.cellsOf e) ((List.range len).map rowf)],⟨rfl,fun i x v h1 h2=>?_⟩,fun y hy=>?_,?_⟩
    ·cases i with
     | succ i=>simp at h1
     | zero =>
      simp at h1 h2;subst h1;subst h2
      rcases Nat.eq_zero_or_pos len with h0 | h0
      ·subst h0
       exact .tnil 0 0 _ a cap (Nat.le_refl _)
      ·obtain ⟨b,o,spot⟩:=a
       have hc0:=World.cells?_some (hrow 0 h0).1
       have hv0:(valf 0)[0]?=some (valf 0)[0]:=List.getElem?_eq_getElem (by rw[hc0.2.1];exact hpos)
       have h00:=hc0.2.2 0 hpos
       rw[hv0] at h00
       have hspot:spot=none:=by simpa [Addr.add] using World.cell?_spot h00
       subst hspot
       have cellat:∀i j row x,((List.range len).map rowf)[i]?=some row→row[j]?=some x→∃v,(valf i)[j]?=some v∧w.cell? (adr b (o+i*P.cellsOf e+j))=some v∧RV w gm0 av0 0 x v:=by
        intro i j row x hr hxj
        obtain ⟨hi,rfl⟩:=hget i row hr
        obtain ⟨q1,q2⟩:=hrow i hi
        have hj:j<(rowf i).length:=(List.getElem?_eq_some_iff.1 hxj).1
        have hj':j<(valf i).length:=by rw[←q2.1.1];exact hj
        have hcs:=World.cells?_some q1
        have hcell:=hcs.2.2 j (by rw[←hcs.2.1];exact hj')
        rw[List.getElem?_eq_getElem hj'] at hcell
        refine ⟨_,List.getElem?_eq_getElem hj',?_,q2.1.2 j x _ hxj (List.getElem?_eq_getElem hj')⟩
        rw[add_adr,show adr b (o+i*P.cellsOf e)=(⟨b,o+i*P.cellsOf e,none⟩:Addr) from rfl,add_adr] at hcell
        exact hcell
       have hb:b<w.heap.size:=by
        have:=lt_of_cell h00
        simpa [Addr.add] using this
       have hrl:((List.range len).map rowf).length=len:=by simp
       have key:=RV.tsl (w:=w) (γ:=gm0) (A:=av0) 0 0 (P.cellsOf e) ((List.range len).map rowf) b o cap (fun i j=>(valf i)[j]?.getD undef) (Nat.le_refl _) (by rw[hrl];exact hlc) hb (mut0 b) (fun h=>h)
        (fun i row hr=>by
         obtain ⟨hi,rfl⟩:=hget i row hr
         obtain ⟨q1,q2⟩:=hrow i hi
         rw[q2.1.1,(World.cells?_some q1).2.1])
        (fun i j row x hr hxj=>by
         obtain ⟨hi,rfl⟩:=hget i row hr
         exact ((hrow i hi).2.2.1 x (List.mem_of_getElem? hxj)).1)
        (fun i j row x hr hxj=>by
         obtain ⟨v,v1,v2,v3⟩:=cellat i j row x hr hxj
         rw[v2,v1];rfl)
        (fun i j row x hr hxj=>by
         obtain ⟨v,v1,v2,v3⟩:=cellat i j row x hr hxj
         rw[v1];exact v3)
        (fun row hr x hx=>by
         obtain ⟨i,hi⟩:=List.getElem?_of_mem hr
         obtain ⟨hi2,rfl⟩:=hget i row hi
         exact ((hrow i hi2).2.2.1 x hx).2)
       rw[hrl] at key
       exact key
    ·simp only[List.mem_singleton] at hy;subst hy
     refine ⟨rfl,.tsl _ _ _ fun row hr x hx=>?_⟩
     obtain ⟨i,hi⟩:=List.getElem?_of_mem hr
     obtain ⟨hi2,rfl⟩:=hget i row hi
     exact ((hrow i hi2).2.2.1 x hx).2
    ·unfold Sh;rw[hu]
     refine .inr ⟨_,rfl,?_,fun row hr=>?_⟩
     ·rw[List.length_map,List.length_range]
      have:maxLen<9223372036854775808:=by decide
      omega
     ·obtain ⟨i,hi⟩:=List.getElem?_of_mem hr
      obtain ⟨hi2,rfl⟩:=hget i row hi
      exact (hrow i hi2).2.2.2
  ·rename_i fs hu
   rw[Bool.and_eq_true] at h
   obtain ⟨hc,hp⟩:=h
   have hc:contig P fs.toList 0=some (P.cellsOf t):=eq_of_beq hc
   obtain ⟨ys,m,-,-,hl,hyl,hel⟩:=DataW.trod_struct hu hx
   obtain ⟨xss,a1,a2,a3⟩:=pieces (w:=w) (n:=n) (cs:=cs) hc fun f hf=>by
    obtain ⟨i,hi,e⟩:=List.mem_iff_getElem.1 hf
    have hfi:fs[i]?=some f:=by rw[←Array.getElem?_toList,List.getElem?_eq_getElem hi,e]
    have:=hel i f hfi
    rw[List.getElem?_eq_getElem (show i<ys.length by rw[hyl];simpa using hi)] at this
    exact ih f.type (List.all_eq_true.1 hp f hf) _ _ _ this
   rw[List.drop_zero,Nat.sub_zero,←hl,List.take_length] at a2
   refine ⟨xss.flatten,a2,a3,?_⟩
   unfold Sh;rw[hu];exact ⟨xss,rfl,a1⟩
  ·rename_i m e hu
   rw[Bool.and_eq_true,decide_eq_true_eq] at h
   obtain ⟨hc,hp⟩:=h
   obtain ⟨ys,q,-,-,hl,hyl,hel⟩:=DataW.trod_array hu hx
   obtain ⟨xss,a0,a1,a2,a3⟩:=apieces (w:=w) (n:=n) (e:=e) (cs:=cs) (m:=m) (k:=0) fun i hi=>by
    have:=hel i hi
    rw[List.getElem?_eq_getElem (show i<ys.length by omega)] at this
    rw[Nat.zero_add]
    exact ih e hp _ _ _ this
   rw[Nat.zero_mul,List.drop_zero,hc,←hl,List.take_length] at a2
   refine ⟨xss.flatten,a2,a3,?_⟩
   unfold Sh;rw[hu];exact ⟨xss,rfl,a0,a1⟩
  ·cases h
theorem sh_u8 {n:Nat}{t:TypeId}{xs:List AV}(hu:P.underlying t=some (.int .u8))(h:Sh P n t xs):∃x:UInt8,Rp.rp NoP 0 .nil x xs:=by
 cases n with
 | zero=>exact h.elim
 | succ n =>
  unfold Sh at h;rw[hu] at h
  obtain ⟨z,rfl,hw⟩:=h
  simp only[Lit.wf,IntKind.min,IntKind.max,IntKind.signed,IntKind.bits,Bool.and_eq_true,decide_eq_true_eq] at hw
  refine ⟨UInt8.ofNat z.toNat,rp_u8.2 ?_⟩
  have h1:0≤z:=by simpa using hw.1
  have h2:z≤255:=by simpa using hw.2
  have h3:(UInt8.ofNat z.toNat).toNat=z.toNat:=UInt8.toNat_ofNat_of_lt' (by show z.toNat<256;omega)
  rw[h3,Int.toNat_of_nonneg h1]
theorem sh_list {α:Type} [Rp α]{n:Nat}{t e:TypeId}{xs:List AV}(hu:P.underlying t=some (.slice e))(hsz:P.cellsOf e=Rp.sz α)(hel:∀ys,Sh P n e ys→∃y:α,Rp.rp NoP 0 .nil y ys)(h:Sh P (n+1) t xs) :
  ∃l:List α,Rp.rp NoP 0 .nil l xs:=by
 unfold Sh at h;rw[hu] at h
 rcases h with rfl | ⟨rows,rfl,hl,hr⟩
 ·exact ⟨[],.nils,rfl,by simp,rfl⟩
 ·have:∀rows:List (List AV),(∀row∈rows,Sh P n e row)→∃l:List α,All2 (Rp.rp NoP 0 .nil) l rows:=by
   intro rows
   induction rows with
   | nil=>intro _;exact ⟨[],trivial⟩
   | cons r rows ih =>
    intro h
    obtain ⟨y,hy⟩:=hel r (h r (by simp))
    obtain ⟨l,hl⟩:=ih fun row hrow=>h row (by simp[hrow])
    exact ⟨y::l,hy,hl⟩
  obtain ⟨l,ha⟩:=this rows hr
  exact ⟨l,_,rfl,by rw[ha.len];exact hl,Nat.le_refl _,.inl hsz,ha⟩
theorem sh_array {n m:Nat}{t e:TypeId}{xs:List AV}(hu:P.underlying t=some (.array m e))(h:Sh P (n+1) t xs):∃xss:List (List AV),xs=xss.flatten∧xss.length=m∧∀ys∈xss,Sh P n e ys:=by
 unfold Sh at h;rw[hu] at h;exact h
theorem sh_struct {n:Nat}{t:TypeId}{fs:Array Field}{xs:List AV}(hu:P.underlying t=some (.struct fs))(h:Sh P (n+1) t xs):∃xss,xs=xss.flatten∧All2 (fun (f:Field) ys=>Sh P n f.type ys) fs.toList xss:=by
 unfold Sh at h;rw[hu] at h;exact h
end Hx
end
