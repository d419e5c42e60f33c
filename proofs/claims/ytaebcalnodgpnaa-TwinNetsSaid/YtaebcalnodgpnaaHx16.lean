/- A part of the proof: an interpreter over abstract values, shown right against the model, and what the functions of the chapter compute on it. -/
import Derived.OpenShut
import Derived.DataReads
import Derived.Test.YtaebcalnodgpnaaHx15
set_option linter.unusedVariables false
set_option linter.unusedSimpArgs false
set_option linter.unnecessarySimpa false
section
namespace Hx
open Go
noncomputable section
theorem wpL_rangeK {C:Cfg}{d:Nat}{rd:Option Nat}{body:SC}{c ti k B b:Nat}{Q:QT}{m:Nat}{lim:Int}(hlim:lim=(m:Int))(hm:m<9223372036854775808)(J:Nat→PT){t:T}{df:List ADf}{g:G}
  (h0:J 0 t df g) (hi:tat t ti=.int .i64 0) (hc:c≠ti∧b≠B)
  (hJ:∀j t df g v s,s=c∨s=ti∨s=k→J j t df g→J j (tset t s v) df g)
  (step:∀j t df g,j<m→J j t df g→tat t ti=.int .i64 (j:Int)→wp C d rd body (kR (fun t df g=>J (j+1) t df g∧tat t ti=.int .i64 (j:Int)) b Q) t df g)
  (fin:∀t df g,J m t df g→Q (.exit B) t df g) :
  wpL (wp C d rd (.seq (.ops [o c (.bin .lss (.t ti) (.k (.int .i64 lim)))]) (.seq (.cond (.t c) .skip (.exit B)) (.seq (.blk b body) (.ops [o k (.bin .add (.t ti) (.k (.int .i64 1))),o ti (.mv (.t k))]))))) Q t df g:=by
 subst hlim
 obtain ⟨c1,c5⟩:=hc
 refine wpL_mk (fun n t df g=>∃j:Nat,n=m - j∧j≤m∧J j t df g∧tat t ti=.int .i64 (j:Int)) m ⟨0,by omega,by omega,h0,hi⟩ ?_
 rintro n t df g ⟨j,rfl,hj,hjj,h1⟩
 simp only[sx,SO.run,↓reduceIte,h1]
 refine ⟨fun hq=>?_,fun hq=>?_⟩
 ·have hlt:j<m:=by simpa using hq
  simp only[sx]
  refine wp_mono _ (step j _ df g hlt (hJ _ _ _ _ _ _ (.inl rfl) hjj) (by simp only[tat_tset];rw[if_neg (Ne.symm c1),h1])) fun e t df g h=>?_
  have key:J (j+1) t df g∧tat t ti=.int .i64 (j:Int)→wp C d rd (.ops [o k (.bin .add (.t ti) (.k (.int .i64 1))),o ti (.mv (.t k))])
    (kL (fun n t df g=>∃j:Nat,n=m - j∧j≤m∧J j t df g∧tat t ti=.int .i64 (j:Int)) (m - j) Q) t df g:=by
   rintro ⟨a1,a2⟩
   simp only[sx,SO.run,a2,↓reduceIte]
   refine ⟨_,?_,j+1,rfl,by omega,hJ _ _ _ _ _ _ (.inr (.inl rfl)) (hJ _ _ _ _ _ _ (.inr (.inr rfl)) a1),?_⟩
   ·omega
   ·rw[wrap64 (by omega) (by omega)];rfl
  cases e with
  | norm=>exact key h
  | ret=>exact h
  | exit x =>
   rw[kR_exit] at h
   rw[kB_exit]
   split at h
   ·rename_i e;rw[if_pos e];exact key h
   ·rename_i e;rw[if_neg e];exact h
 ·have:j=m:=by simp at hq;omega
  subst this
  simp only[sx]
  exact fin _ _ _ (hJ _ _ _ _ _ _ (.inl rfl) hjj)
theorem works_call (g:G):callV C0 1 N.law33_works [] g=.val (.bool true):=by kernel_rfl
theorem tnetE_eq (m:Causal):S.tnetE m=S.netE m (S.readE m []) 1:=by
 unfold S.tnetE S.netE;rw[read_nil];cases S.check m<;>simp
theorem ttwinE_eq (m:Causal)(al:List Int):S.ttwinE m al=S.netE m (S.readE m [al]) 2:=by
 unfold S.ttwinE S.netE;rw[read_one];cases S.check m<;>cases S.act m al<;>simp
theorem graphE_eq (m:Causal):S.graphE m=S.readE m []:=by unfold S.graphE;rw[read_nil]
def LS (w:AV)(p:Nat)(cs v29:AV):List (Nat×AV):=[(3,w),(5,.hptr 0 0 0 0),(6,.hptr 1 0 0 0),(7,.hptr 2 0 0 0),(9,.hptr 3 0 0 0),(28,cs),(12,.hptr p 0 0 0),(29,v29)]
theorem twinnet_call {m:Causal}{c1 c2 l ns:AV}{al:List Int}(hm:∀h,Agg m NoP 0 h (.agg [.int .i64 m.grain,c1,c2]))(hl:SlR NoP 0 .nil al l)(hr:∀h,Agg (S.ttwin m al) NoP 0 h (.agg [.int .i64 (S.ttwin m al).grain,ns]))(g:G) :
  callV C0 1 N.law33_network [.agg [.int .i64 (S.ttwin m al).grain,ns],.int .i64 (S.ttwinE m al),.int .i64 (S.readE m [al]),.agg [.int .i64 m.grain,c1,c2],l,.bool true] g=.val (.bool true):=by
 have h:=lnetwork_ok (d:=1) (both:=true) (no:=S.readE m [al]) (al:=al) (act:=l) (g:=g) (x:=S.ttwin m al) (by decide) (hm _) (fun h0=>?_) (fun h d=>sl_same (h:=h) d (hl.tree (h':=h) (Nat.le_refl 0))) (hr _) ?_
 ·rw[ttwinE_eq];exact h
 ·rw[read_one] at h0
  have h1:S.check m=true:=by
   cases hc:S.check m with
   | true=>rfl
   | false=>rw[hc] at h0;simp at h0
  have h2:S.act m al=true:=by
   cases hc:S.act m al with
   | true=>rfl
   | false=>rw[h1,hc] at h0;simp at h0
  exact ⟨h1,fun _=>⟨hl,h2⟩⟩
 ·have e:=ttwinE_eq m al
  unfold S.ttwin S.netX
  simp only[if_true]
  rw[e]
theorem one_list {al:List Int}{l:AV}{q:Nat}{h:H}(hl:SlR NoP 0 .nil al l)(hq:h.get q=.cells 1 [[l]] 0 false false):SlR (fun _=>True) 0 h [al] (.hsl q 0 0 1 none):=by
 refine ⟨by show 1<_;decide,trivial,[[l]],?_,?_,trivial⟩
 ·show rowsOf h 1 _=_
  simp only[rowsOf,hq];rfl
 ·exact rp_list.2 ⟨l,rfl,hl.wide (Nat.le_refl _)⟩
theorem law3_act {m:Causal}{c1 c2 l1 l2 l w cs v29:AV}{al:List Int}{p:Nat}{j:Nat}{Q:QT}(hm:∀h,Agg m NoP 0 h (.agg [.int .i64 m.grain,c1,c2]))(hl:SlR NoP 0 .nil al l){t:T}{g:G}
  (ht:St t (LS w p cs v29)) (h90:tat t 90=.agg [l1,l2]) (h91:tat t 91=.int .i64 (j:Int)) (hj:(j=0∧l=l1)∨(j=1∧l=l2)) (hp:p<g.nx) (hg:g.h.get p=.cells 3 [[.int .i64 m.grain,c1,c2]] 0 false false)
  (fin:∀t g',St t (LS w p cs v29)→tat t 90=.agg [l1,l2]→tat t 91=.int .i64 (j:Int)→Fr g g'→Q .norm t [] g') :
  wp C0 1 none (.seq (.ops [o 93 (.ix false 2 1 (.t 90) (.t 91)),o 20 (.mv (.t 93))]) (.seq (.ops [o 95 (.load true 3 (.t 12)),o 96 (.mv (.t 20)),o 97 (.call N.twin_Twin [.t 95,.t 96]),o 94 (.mv (.t 97)),o 98 (.ext (.t 94) 0),o 99 (.ext (.t 94) 1),o 21 (.alloc [.int .i64 0,.nils]),oz (.store 2 (.t 21) (.t 98)),o 22 (.mv (.t 99))]) (.seq (.feet [0,0,0,0,8,28,0,0,255,511] [o 100 (.load true 2 (.t 21)),o 101 (.mv (.t 22)),o 102 (.load true 3 (.t 12)),o 103 (.mv (.t 20)),o 104 (.bsl 1 1 [.nils] [0] [.t 103]),o 105 (.call N.law33_refused [.t 102,.t 104]),o 106 (.load true 3 (.t 12)),o 107 (.mv (.t 20)),o 108 (.call N.law33_network [.t 100,.t 101,.t 105,.t 106,.t 107,.k (.bool true)]),o 109 (.not (.t 108))]) (.cond (.t 109) (.seq (.ops [o 10 (.mv (.k (.bool false)))]) (.ret)) (.skip))))) Q t [] g:=by
 obtain ⟨h3,h5,h6,h7,h9,h28,h12,h29,-⟩:=ht
 have hix:ixV false 2 1 (tat t 90) (tat t 91)=.val l:=by
  rcases hj with ⟨rfl,rfl⟩ | ⟨rfl,rfl⟩<;>rw[h90,h91]<;>rfl
 have hpn:¬p=g.nx:=by omega
 simp only[sx,sy,SO.run,↓reduceIte,Nat.reduceEqDiff,Nat.reduceAdd,Nat.reduceLeDiff,hix,h12,hg]
 refine sat_ex (twin_ok (by decide) (hm _) hl) fun r hr=>?_
 obtain ⟨ra,rb,rfl,⟨rc,rfl,hrc⟩,hrb⟩:=hr
 have hrb:=rp_int.1 hrb
 injection hrb with hrb
 subst hrb
 obtain ⟨rn,rfl,hrn⟩:=rp_net.1 hrc
 have hrs:∀h,Agg (S.ttwin m al) NoP 0 h (.agg [.int .i64 (S.ttwin m al).grain,rn]):=fun h=>⟨_,rfl,Rp.tree hrc (Nat.le_refl _)⟩
 simp only[sx,sy,sf,SO.run,↓reduceIte,Nat.reduceEqDiff,Nat.reduceAdd,Nat.reduceLeDiff,hix,h12,hg,H.get_put,if_neg hpn]
 rw[bsl_one 1 [.nils] l _ (by rw[hl.cell.1];rfl) hl.cell.2,hl.cell.1]
 have hts:∀h,Hx.snap h 1 depthA l=some l:=fun h=>sl_same (h:=h) 1 (hl.tree (h':=h) (Nat.le_refl 0))
 have hpn2:¬p=g.nx+1+1+1+1+1:=by omega
 have hnet:=fun g=>twinnet_call hm hl hrs g
 simp only[sx,sy,sf,SO.run,↓reduceIte,Nat.reduceEqDiff,Nat.reduceAdd,Nat.reduceLeDiff,hix,h12,hg,H.get_put,if_neg hpn,if_neg hpn2]
 rw[refused_ok (P:=NoP) (P2:=fun _=>True) (k:=0) (k2:=0) (m:=m) (ls:=[al]) (by decide) (hm _) (one_list hl (by simp[H.get_put]))]
 simp only[sx,sy,sf,SO.run,↓reduceIte,Nat.reduceEqDiff,Nat.reduceAdd,Nat.reduceLeDiff,hix,h12,hg,H.get_put,if_neg hpn,if_neg hpn2,hnet,foot_law33_refused,foot_law33_network]
 refine ⟨?_,?_⟩
 ·simp only[List.reverse_cons,List.reverse_nil,List.nil_append,List.cons_append,foot_law33_refused,foot_law33_network]
  refine footsOk_mk [false,false,false,false,true,false,false,false,false,false] [(0,4),(1,4),(2,4),(4,6),(4,7)] (by simp[All2,rdLook,noLook,bigLook]) (by decide) ?_
  rintro p hp x y hx hy
  simp only[List.mem_cons,List.not_mem_nil,or_false] at hp
  rcases hp with rfl | rfl | rfl | rfl | rfl<;>(simp at hx hy;subst hx;subst hy;refine apart_mk rfl rfl rfl rfl ?_ ?_ ?_<;>simp[rdLook,noLook,refIds]<;>omega)
 simp only[Bool.not_true,sx,sy,sf,SO.run,↓reduceIte,Nat.reduceEqDiff,Nat.reduceAdd,Nat.reduceLeDiff]
 refine fin _ _ (by simp[St,LS,sx,h3,h5,h6,h7,h9,h12,h28,h29]) (by simp[sx,h90]) (by simp[sx,h91]) ⟨by simp;omega,fun i hi=>?_⟩
 simp only[sx,sy,H.get_put,bumpG_h,setLog_h]
 rw[if_neg (by omega)]
 repeat rw[if_neg (by omega)]
theorem law3_b0 {m:Causal}{c1 c2 l1 l2 w cs v29:AV}{a1 a2:List Int}{p:Nat}{Q:QT}(hm:∀h,Agg m NoP 0 h (.agg [.int .i64 m.grain,c1,c2]))(hl1:SlR NoP 0 .nil a1 l1)(hl2:SlR NoP 0 .nil a2 l2){t:T}{g:G}
  (ht:St t (LS w p cs v29)) (h90:tat t 90=.agg [l1,l2]) (h91:tat t 91=.int .i64 0) (hp:p<g.nx) (hg:g.h.get p=.cells 3 [[.int .i64 m.grain,c1,c2]] 0 false false)
  (fin:∀t g',St t (LS w p cs v29)→Fr g g'→Q (.exit 2) t [] g') :
  wpL (wp C0 1 none f_law33_TwinNets_b0) Q t [] g:=by
 simp only[f_law33_TwinNets_b0]
 refine wpL_rangeK (m:=2) rfl (by omega) (fun j t df g'=>df=[]∧St t (LS w p cs v29)∧tat t 90=.agg [l1,l2]∧Fr g g') ⟨rfl,ht,h90,Fr.refl _⟩ h91 (by decide) (by rintro j t df g v s (rfl | rfl | rfl)<;>simp[LS,St,sx]) ?_ ?_
 ·rintro j t df g' hj ⟨rfl,h1,h2,hfr⟩ h3
  have hp':p<g'.nx:=Nat.lt_of_lt_of_le hp hfr.1
  have hg':g'.h.get p=.cells 3 [[.int .i64 m.grain,c1,c2]] 0 false false:=by rw[hfr.2 p hp,hg]
  have hj2:j=0∨j=1:=by omega
  rcases hj2 with rfl | rfl
  ·refine law3_act hm hl1 h1 h2 h3 (.inl ⟨rfl,rfl⟩) hp' hg' fun t g2 a1 a2 a3 a4=>?_
   rw[kR_norm]
   exact ⟨⟨rfl,a1,a2,hfr.trans a4⟩,a3⟩
  ·refine law3_act hm hl2 h1 h2 h3 (.inr ⟨rfl,rfl⟩) hp' hg' fun t g2 a1 a2 a3 a4=>?_
   rw[kR_norm]
   exact ⟨⟨rfl,a1,a2,hfr.trans a4⟩,a3⟩
 ·rintro t df g' ⟨rfl,h1,h2,hfr⟩
  exact fin t g' h1 hfr
end
end Hx
end
section
namespace Hx
open Go
noncomputable section
theorem check_places {m:Causal}(hck:S.check m=true):∀x∈m.nodes,S.places x.frm m.nodes.length=true∧S.places x.noise m.roots.length=true:=fun x hx=>by
 have hr:S.right m=true:=by rw[←check_right];exact hck
 simp only[S.right,Bool.and_eq_true] at hr
 have:=List.all_eq_true.1 hr.1.1.1.1.2 x hx
 simp only[S.nodeR,Bool.and_eq_true] at this
 exact ⟨this.1.2,this.2⟩
theorem law3_cond {m:Causal}{c1 c2 u1 u2 w cs v29:AV}{p:Nat}{K:PT}(hm:∀h,Agg m NoP 0 h (.agg [.int .i64 m.grain,c1,c2]))(hu1:SlR NoP 0 .nil (S.gpar m) u1)(hu2:SlR NoP 0 .nil (S.gjoin m) u2){t:T}{g:G}
  (ht:St t (LS w p cs v29)) (h13:tat t 13=.int .i64 (S.readE m [])) (h14:tat t 14=u1) (h15:tat t 15=u2) (h16:tat t 16=.int .i64 (S.graphE m)) (hg:g.h.get p=.cells 3 [[.int .i64 m.grain,c1,c2]] 0 false false)
  (fin:∀t,St t (LS w p cs v29)→tat t 13=.int .i64 (S.readE m [])→tat t 74=.bool false→K t [] g) :
  wpO C0 1 none [o 40 (.mv (.t 16)),o 41 (.mv (.t 13)),o 42 (.bin .neq (.t 40) (.t 41)),o 43 (.mv (.t 42)),og 44 43 false (.mv (.t 13)),og 45 43 false (.bin .neq (.t 44) (.k (.int .i64 0))),og 46 43 false (.mv (.t 45)),og 47 46 true (.mv (.t 14)),og 48 46 true (.len .slice (.t 47)),og 49 46 true (.bin .neq (.t 48) (.k (.int .i64 0))),og 50 46 true (.mv (.t 49)),og 51 50 false (.mv (.t 15)),og 52 50 false (.len .slice (.t 51)),og 53 50 false (.bin .neq (.t 52) (.k (.int .i64 0))),og 54 46 true (.pick (.t 50) (.k (.bool true)) (.t 53)),og 55 43 false (.pick (.t 46) (.t 54) (.k (.bool false))),o 56 (.pick (.t 43) (.k (.bool true)) (.t 55)),o 57 (.mv (.t 56)),og 58 57 false (.mv (.t 13)),og 59 57 false (.bin .eql (.t 58) (.k (.int .i64 0))),og 60 57 false (.mv (.t 59)),og 61 60 true (.mv (.t 14)),og 62 60 true (.load true 3 (.t 12)),og 63 60 true (.call N.ref33_Parents [.t 62]),og 64 60 true (.call N.ref05_Sets [.t 61,.t 63]),og 65 60 true (.not (.t 64)),og 66 60 true (.mv (.t 65)),og 67 66 false (.mv (.t 15)),og 68 66 false (.load true 3 (.t 12)),og 69 66 false (.call N.ref33_Joined [.t 68]),og 70 66 false (.call N.ref05_Sets [.t 67,.t 69]),og 71 66 false (.not (.t 70)),og 72 60 true (.pick (.t 66) (.k (.bool true)) (.t 71)),og 73 57 false (.pick (.t 60) (.t 72) (.k (.bool false))),o 74 (.pick (.t 57) (.k (.bool true)) (.t 73))] K t [] g:=by
 obtain ⟨h3,h5,h6,h7,h9,h28,h12,h29,-⟩:=ht
 have hE:S.graphE m=S.readE m []:=graphE_eq m
 have hR:S.readE m []=if S.check m=true then 0 else 330:=read_nil m
 rw[hE] at h16
 cases hck:S.check m with
 | true =>
  obtain ⟨hs,hgr,hn1,hro,hno⟩:=check_facts hck
  have hpl:=check_places hck
  have hn5:=hs.nodes
  have hr8:=hs.roots
  rw[hck,if_pos rfl] at hR
  rw[hR] at h13 h16 fin
  rw[S.gpar,if_pos hck] at hu1
  rw[S.gjoin,if_pos hck] at hu2
  simp only[sx,sy,sf,SO.run,↓reduceIte,Nat.reduceEqDiff,Nat.reduceAdd,Nat.reduceLeDiff,h13,h14,h15,h16,h12,hg,decide_true,decide_false,ne_eq,not_true_eq_false,Bool.not_true,Bool.not_false]
  refine sat_ex (parents_ok (by decide) (hm _) (by omega) fun x hx y hy=>by have:=places_mem (hpl x hx).1 y hy;omega) fun r hr=>?_
  simp only[sx,sy,sf,SO.run,↓reduceIte,Nat.reduceEqDiff,Nat.reduceAdd,Nat.reduceLeDiff,h13,h14,h15,h16,h12,hg,decide_true,decide_false,ne_eq,not_true_eq_false,Bool.not_true,Bool.not_false]
  rw[sets_ok (by decide) (hu1.tree (Nat.le_refl _)) (hr.sl _)]
  simp only[sx,sy,sf,SO.run,↓reduceIte,Nat.reduceEqDiff,Nat.reduceAdd,Nat.reduceLeDiff,h13,h14,h15,h16,h12,hg,decide_true,decide_false,ne_eq,not_true_eq_false,Bool.not_true,Bool.not_false]
  refine sat_ex (joined_ok (by decide) (hm _) (by omega) fun x hx y hy=>by have:=places_mem (hpl x hx).2 y hy;omega) fun r2 hr2=>?_
  simp only[sx,sy,sf,SO.run,↓reduceIte,Nat.reduceEqDiff,Nat.reduceAdd,Nat.reduceLeDiff,h13,h14,h15,h16,h12,hg,decide_true,decide_false,ne_eq,not_true_eq_false,Bool.not_true,Bool.not_false]
  rw[sets_ok (by decide) (hu2.tree (Nat.le_refl _)) (hr2.sl _)]
  simp only[sx,sy,sf,SO.run,↓reduceIte,Nat.reduceEqDiff,Nat.reduceAdd,Nat.reduceLeDiff,h13,h14,h15,h16,h12,hg,decide_true,decide_false,ne_eq,not_true_eq_false,Bool.not_true,Bool.not_false]
  exact fin _ (by simp[St,LS,sx,h3,h5,h6,h7,h9,h12,h28,h29]) (by simp[sx,h13]) (by simp[sx])
 | false =>
  rw[hck,if_neg (by decide)] at hR
  rw[hR] at h13 h16 fin
  rw[S.gpar,hck,if_neg (by decide)] at hu1
  rw[S.gjoin,hck,if_neg (by decide)] at hu2
  have l1:∀g,lenF .slice u1 g=.val (.int .i64 0):=fun g=>(hu1.tree (h':=.nil) (Nat.le_refl 0)).len g
  have l2:∀g,lenF .slice u2 g=.val (.int .i64 0):=fun g=>(hu2.tree (h':=.nil) (Nat.le_refl 0)).len g
  have d330:decide ((330:Int)=0)=false:=by decide
  simp only[sx,sy,sf,SO.run,↓reduceIte,Nat.reduceEqDiff,Nat.reduceAdd,Nat.reduceLeDiff,h13,h14,h15,h16,h12,hg,l1,l2,d330,decide_true,decide_false,ne_eq,not_true_eq_false,Bool.not_true,Bool.not_false,List.length_nil]
  exact fin _ (by simp[St,LS,sx,h3,h5,h6,h7,h9,h12,h28,h29]) (by simp[sx,h13]) (by simp[sx])
theorem law3_model {m:Causal}{c1 c2 w:AV}{cs9 v29:AV}{x:DraftM}{dcs:List AV}{raw:List Int}{vs:List UInt8}{Q:QT}(hm:∀h,Agg m NoP 0 h (.agg [.int .i64 m.grain,c1,c2]))(hx:∀h,Agg x NoP 0 h (.agg dcs))(hdl:dcs.length=5)
  (hw:SlR NoP 0 .nil raw w) (hraw:Raw w) (hvs:vs.length=5) {t:T} {g:G}
  (h3:tat t 3=w) (h5:tat t 5=.hptr 0 0 0 0) (h6:tat t 6=.hptr 1 0 0 0) (h7:tat t 7=.hptr 2 0 0 0) (h9:tat t 9=.hptr 3 0 0 0) (h28:tat t 28=cs9) (h29:tat t 29=v29)
  (hix:ixV true 3 3 cs9 v29=.val (.agg [.int .i64 m.grain,c1,c2])) (g0:g.h.get 0=.cells 5 [dcs] 0 false false) (g3:g.h.get 3=.cells 5 [vs.map u8v] 0 false false) (hnx:4≤g.nx)
  (fin:∀t g',tat t 3=w→tat t 5=.hptr 0 0 0 0→tat t 6=.hptr 1 0 0 0→tat t 7=.hptr 2 0 0 0→tat t 9=.hptr 3 0 0 0→tat t 28=cs9→tat t 29=v29→Fr g g'→Q .norm t [] g') :
  wp C0 1 none (.seq (.ops [o 31 (.ix true 3 3 (.t 28) (.t 29)),o 12 (.alloc [.int .i64 0,.nils,.nils]),oz (.store 3 (.t 12) (.t 31))]) (.seq (.ops [o 32 (.load true 3 (.t 12)),o 33 (.call N.law33_refused [.t 32,.k (.nils)]),o 13 (.mv (.t 33))]) (.seq (.ops [o 35 (.load true 3 (.t 12)),o 36 (.call N.twin_Graph [.t 35]),o 34 (.mv (.t 36)),o 37 (.ext (.t 34) 0),o 38 (.ext (.t 34) 1),o 39 (.ext (.t 34) 2),o 14 (.mv (.t 37)),o 15 (.mv (.t 38)),o 16 (.mv (.t 39))]) (.seq (.seq (.ops [o 40 (.mv (.t 16)),o 41 (.mv (.t 13)),o 42 (.bin .neq (.t 40) (.t 41)),o 43 (.mv (.t 42)),og 44 43 false (.mv (.t 13)),og 45 43 false (.bin .neq (.t 44) (.k (.int .i64 0))),og 46 43 false (.mv (.t 45)),og 47 46 true (.mv (.t 14)),og 48 46 true (.len .slice (.t 47)),og 49 46 true (.bin .neq (.t 48) (.k (.int .i64 0))),og 50 46 true (.mv (.t 49)),og 51 50 false (.mv (.t 15)),og 52 50 false (.len .slice (.t 51)),og 53 50 false (.bin .neq (.t 52) (.k (.int .i64 0))),og 54 46 true (.pick (.t 50) (.k (.bool true)) (.t 53)),og 55 43 false (.pick (.t 46) (.t 54) (.k (.bool false))),o 56 (.pick (.t 43) (.k (.bool true)) (.t 55)),o 57 (.mv (.t 56)),og 58 57 false (.mv (.t 13)),og 59 57 false (.bin .eql (.t 58) (.k (.int .i64 0))),og 60 57 false (.mv (.t 59)),og 61 60 true (.mv (.t 14)),og 62 60 true (.load true 3 (.t 12)),og 63 60 true (.call N.ref33_Parents [.t 62]),og 64 60 true (.call N.ref05_Sets [.t 61,.t 63]),og 65 60 true (.not (.t 64)),og 66 60 true (.mv (.t 65)),og 67 66 false (.mv (.t 15)),og 68 66 false (.load true 3 (.t 12)),og 69 66 false (.call N.ref33_Joined [.t 68]),og 70 66 false (.call N.ref05_Sets [.t 67,.t 69]),og 71 66 false (.not (.t 70)),og 72 60 true (.pick (.t 66) (.k (.bool true)) (.t 71)),og 73 57 false (.pick (.t 60) (.t 72) (.k (.bool false))),o 74 (.pick (.t 57) (.k (.bool true)) (.t 73))]) (.cond (.t 74) (.seq (.ops [o 10 (.mv (.k (.bool false)))]) (.ret)) (.skip))) (.seq (.ops [o 76 (.load true 3 (.t 12)),o 77 (.call N.twin_Net [.t 76]),o 75 (.mv (.t 77)),o 78 (.ext (.t 75) 0),o 79 (.ext (.t 75) 1),o 17 (.alloc [.int .i64 0,.nils]),oz (.store 2 (.t 17) (.t 78)),o 18 (.mv (.t 79))]) (.seq (.seq (.ops [o 80 (.load true 2 (.t 17)),o 81 (.mv (.t 18)),o 82 (.mv (.t 13)),o 83 (.load true 3 (.t 12)),o 84 (.call N.law33_network [.t 80,.t 81,.t 82,.t 83,.k (.nils),.k (.bool false)]),o 85 (.not (.t 84))]) (.cond (.t 85) (.seq (.ops [o 10 (.mv (.k (.bool false)))]) (.ret)) (.skip))) (.seq (.quiet [o 86 (.load true 5 (.t 5)),o 87 (.call N.ref33_Draft_Model [.t 86]),o 88 (.mv (.t 3)),o 89 (.load true 5 (.t 9)),o 90 (.call N.law33_lists [.t 87,.t 88,.t 89]),o 91 (.mv (.k (.int .i64 0)))]) (.blk 2 (.loop f_law33_TwinNets_b0))))))))) Q t [] g:=by
 refine seq_cut (P:=fun t' df g'=>df=[]∧St t' (LS w g.nx cs9 v29)∧g'=(g.new (.cells 3 [[.int .i64 0,.nils,.nils]] 0 false false)).put g.nx (.cells 3 [[.int .i64 m.grain,c1,c2]] 0 false false)) ?_ ?_
 ·simp only[sx,sy,sf,SO.run,↓reduceIte,Nat.reduceEqDiff,Nat.reduceAdd,Nat.reduceLeDiff,h28,h29,hix]
  simp[St,LS,sx,h3,h5,h6,h7,h9,h28,h29]
 clear h3 h5 h6 h7 h9 h28 h29
 rintro t df g1 ⟨rfl,hst,hg1⟩
 have k0:g1.h.get g.nx=.cells 3 [[.int .i64 m.grain,c1,c2]] 0 false false:=by rw[hg1];simp[H.get_put]
 have fr1:Fr g g1:=by rw[hg1];exact ⟨by simp,fun i hi=>by simp only[sx,H.get_put];repeat rw[if_neg (by omega)]⟩
 have n1:g.nx<g1.nx:=by rw[hg1];simp
 clear hg1
 refine seq_cut (P:=fun t' df g'=>df=[]∧St t' (LS w g.nx cs9 v29)∧g'=g1∧tat t' 13=.int .i64 (S.readE m [])) ?_ ?_
 ·obtain ⟨h3,h5,h6,h7,h9,h28,h12,h29,-⟩:=hst
  have hrf:=refused_ok (g:=g1) (d:=1) (P:=NoP) (P2:=NoP) (k:=0) (k2:=0) (m:=m) (ls:=[]) (by decide) (hm _) (w:=.nils) ⟨by decide,rfl⟩
  simp only[sx,sy,sf,SO.run,↓reduceIte,Nat.reduceEqDiff,Nat.reduceAdd,Nat.reduceLeDiff,h12,k0,hrf]
  simp[St,LS,sx,h3,h5,h6,h7,h9,h12,h28,h29]
 clear hst
 rintro t df g2 ⟨rfl,hst,rfl,h13⟩
 obtain ⟨rg,eg,rga,rgb,rgc,rfl,hga,hgb,hgc⟩:=graph_ok (g:=g2) (d:=1) (by decide) (hm g2.h)
 have hgc:=rp_int.1 hgc
 injection hgc with hgc
 subst hgc
 obtain ⟨_,e1,hga⟩:=rp_list.1 hga
 injection e1 with e1;subst e1
 obtain ⟨_,e1,hgb⟩:=rp_list.1 hgb
 injection e1 with e1;subst e1
 refine seq_cut (P:=fun t' df g'=>df=[]∧St t' (LS w g.nx cs9 v29)∧g'=g2∧tat t' 13=.int .i64 (S.readE m [])∧tat t' 14=rga∧tat t' 15=rgb∧tat t' 16=.int .i64 (S.graphE m)) ?_ ?_
 ·obtain ⟨h3,h5,h6,h7,h9,h28,h12,h29,-⟩:=hst
  simp only[sx,sy,sf,SO.run,↓reduceIte,Nat.reduceEqDiff,Nat.reduceAdd,Nat.reduceLeDiff,h12,k0,eg]
  simp[St,LS,sx,h3,h5,h6,h7,h9,h12,h13,h28,h29]
 clear hst h13
 rintro t df g3 ⟨rfl,hst,rfl,h13,h14,h15,h16⟩
 rw[wp_seq]
 refine seq_cut (P:=fun t' df g'=>df=[]∧St t' (LS w g.nx cs9 v29)∧g'=g3∧tat t' 13=.int .i64 (S.readE m [])∧tat t' 74=.bool false) ?_ ?_
 ·refine law3_cond hm hga hgb hst h13 h14 h15 h16 k0 fun t a b c=>?_
  exact ⟨rfl,a,rfl,b,c⟩
 clear hst h13 h14 h15 h16
 rintro t df g4 ⟨rfl,hst,rfl,h13,h74⟩
 simp only[wp_cond,get_t,h74,wpC_bool,bifP_false,wp_skip,kS_norm]
 obtain ⟨rn,en,rna,rnb,rfl,hna,hnb⟩:=net_ok (g:=g4) (d:=1) (by decide) (hm g4.h)
 have hnb:=rp_int.1 hnb
 injection hnb with hnb
 subst hnb
 obtain ⟨rc,rfl,hrc⟩:=hna
 obtain ⟨rns,rfl,hrn⟩:=rp_net.1 hrc
 have hrs:∀h,Agg (S.tnet m) NoP 0 h (.agg [.int .i64 (S.tnet m).grain,rns]):=fun h=>⟨_,rfl,Rp.tree hrc (Nat.le_refl _)⟩
 have hnet:∀g,callV C0 1 N.law33_network [.agg [.int .i64 (S.tnet m).grain,rns],.int .i64 (S.tnetE m),.int .i64 (S.readE m []),.agg [.int .i64 m.grain,c1,c2],.nils,.bool false] g=.val (.bool true):=fun g=>by
  have h:=lnetwork_ok (d:=1) (both:=false) (no:=S.readE m []) (al:=[]) (act:=.nils) (g:=g) (x:=S.tnet m) (by decide) (hm _) (fun h0=>?_) (fun h d=>by rfl) (hrs _) ?_
  ·rw[tnetE_eq];exact h
  ·rw[read_nil] at h0
   refine ⟨?_,fun h=>by cases h⟩
   cases hc:S.check m with
   | true=>rfl
   | false=>rw[hc] at h0;simp at h0
  ·have e:=tnetE_eq m
   unfold S.tnet S.netX
   simp only[if_neg (show ¬(false=true) by decide)]
   rw[e]
 refine seq_cut (P:=fun t' df g'=>df=[]∧St t' (LS w g.nx cs9 v29)∧g'=(g4.new (.cells 2 [[.int .i64 0,.nils]] 0 false false)).put g4.nx (.cells 2 [[.int .i64 (S.tnet m).grain,rns]] 0 false false)∧tat t' 13=.int .i64 (S.readE m [])∧tat t' 17=.hptr g4.nx 0 0 0∧tat t' 18=.int .i64 (S.tnetE m)) ?_ ?_
 ·obtain ⟨h3,h5,h6,h7,h9,h28,h12,h29,-⟩:=hst
  simp only[sx,sy,sf,SO.run,↓reduceIte,Nat.reduceEqDiff,Nat.reduceAdd,Nat.reduceLeDiff,h12,k0,en]
  simp[St,LS,sx,h3,h5,h6,h7,h9,h12,h13,h28,h29]
 clear hst h13 h74
 rintro t df g5 ⟨rfl,hst,hg5,h13,h17,h18⟩
 have fr5:Fr g4 g5:=by rw[hg5];exact ⟨by simp,fun i hi=>by simp only[sx,H.get_put];repeat rw[if_neg (by omega)]⟩
 have k1:g5.h.get g4.nx=.cells 2 [[.int .i64 (S.tnet m).grain,rns]] 0 false false:=by rw[hg5];simp[H.get_put]
 have k0':g5.h.get g.nx=.cells 3 [[.int .i64 m.grain,c1,c2]] 0 false false:=by rw[fr5.2 _ n1,k0]
 have fr2:=fr1.trans fr5
 clear hg5 k0
 rw[wp_seq]
 refine seq_cut (P:=fun t' df g'=>df=[]∧St t' (LS w g.nx cs9 v29)∧g'=g5∧tat t' 85=.bool false) ?_ ?_
 ·obtain ⟨h3,h5,h6,h7,h9,h28,h12,h29,-⟩:=hst
  simp only[sx,sy,sf,SO.run,↓reduceIte,Nat.reduceEqDiff,Nat.reduceAdd,Nat.reduceLeDiff,h12,h13,h17,h18,k0',k1,hnet,Bool.not_true]
  simp[St,LS,sx,h3,h5,h6,h7,h9,h12,h13,h28,h29]
 clear hst h13 h17 h18
 rintro t df g6 ⟨rfl,hst,rfl,h85⟩
 simp only[wp_cond,get_t,h85,wpC_bool,bifP_false,wp_skip,kS_norm]
 obtain ⟨rm,em,m0,hmade,cm,rfl,hcm⟩:=model_ok (g:=setLog g6 []) (d:=1) (by decide) (hx _)
 obtain ⟨hml,hmc,-⟩:=made_len hmade
 obtain ⟨rl,el,cl,rfl,hcl⟩:=lists_ok (g:=setLog g6 []) (d:=1) (P:=NoP) (k:=0) (m:=m0) (raw:=raw) (vs:=vs) (v:=.agg cm) (w:=w) (by decide) ⟨cm,rfl,Rp.tree hcm (Nat.le_refl _)⟩ hw hraw hvs (by omega) (fun x hx=>by rcases hmc x hx with h | h<;>omega)
 obtain ⟨cl1,cl2,rfl,hl1,hl2⟩:=rp_pair.1 hcl
 obtain ⟨l1,rfl,hq1⟩:=rp_list.1 hl1
 obtain ⟨l2,rfl,hq2⟩:=rp_list.1 hl2
 have g60:g6.h.get 0=.cells 5 [dcs] 0 false false:=by rw[fr2.2 0 (by omega),g0]
 have g63:g6.h.get 3=.cells 5 [vs.map u8v] 0 false false:=by rw[fr2.2 3 (by omega),g3]
 have ld0:hptrLoad (.cells 5 [dcs] 0 false false) 0 0 true 5 0=.val (.agg dcs):=by
  match dcs,hdl with
  | [a,b,c,d,e],_=>rfl
 have ld3:hptrLoad (.cells 5 [vs.map u8v] 0 false false) 0 0 true 5 0=.val (.agg (vs.map u8v)):=by
  match vs,hvs with
  | [a,b,c,d,e],_=>rfl
 refine seq_cutG (P:=fun t' df g'=>df=[]∧St t' (LS w g.nx cs9 v29)∧g'=g6∧tat t' 90=.agg [l1,l2]∧tat t' 91=.int .i64 0) ?_ ?_
 ·obtain ⟨h3,h5,h6,h7,h9,h28,h12,h29,-⟩:=hst
  simp only[sx,sy,sf,SO.run,↓reduceIte,Nat.reduceEqDiff,Nat.reduceAdd,Nat.reduceLeDiff,h3,h5,h9,g60,g63,ld0,ld3,em,el]
  simp[St,LS,sx,h3,h5,h6,h7,h9,h12,h28,h29]
 clear hst h85
 rintro t df g7 ⟨rfl,hst,rfl,h90,h91⟩
 simp only[wp_blk,wp_loop]
 refine law3_b0 (a1:=raw.take 7) (a2:=S.knownOf vs m0) hm hq1 hq2 hst h90 h91 (Nat.lt_of_lt_of_le n1 fr5.1) k0' fun t g8 hst hfr=>?_
 obtain ⟨h3,h5,h6,h7,h9,h28,h12,h29,-⟩:=hst
 simp only[kB_exit,if_true]
 exact fin t g8 h3 h5 h6 h7 h9 h28 h29 (fr2.trans hfr)
theorem TwinNets_call {x:DraftM}{y z:BendM}{u1 u2 u3 w:AV}{raw:List Int}{vs:List UInt8}(hx:Agg x NoP 0 .nil u1)(hy:Agg y NoP 0 .nil u2)(hz:Agg z NoP 0 .nil u3)
  (hw:SlR NoP 0 .nil raw w) (hraw:Raw w) (hvs:vs.length=5):∃g',(I C0).call 1 N.law33_TwinNets [u1,u2,u3,w,.agg (vs.map u8v)] G.empty=.ok (.bool true) g':=by
 obtain ⟨xs,rfl,qx⟩:=hx
 obtain ⟨ys,rfl,qy⟩:=hy
 obtain ⟨zs,rfl,qz⟩:=hz
 have hx':∀h,Agg x NoP 0 h (.agg xs):=fun h=>⟨_,rfl,Rp.tree qx (Nat.le_refl _)⟩
 have hy':∀h,Agg y NoP 0 h (.agg ys):=fun h=>⟨_,rfl,Rp.tree qy (Nat.le_refl _)⟩
 have hz':∀h,Agg z NoP 0 h (.agg zs):=fun h=>⟨_,rfl,Rp.tree qz (Nat.le_refl _)⟩
 obtain ⟨a1,a2,a3,a4,e1,-⟩:=rp_draftM.1 qx
 have hxl:xs.length=5:=by rw[e1];rfl
 have hyl:ys.length=4:=by rw[rp_bendM.1 qy];rfl
 have hzl:zs.length=4:=by rw[rp_bendM.1 qz];rfl
 clear e1 a1 a2 a3 a4
 have key:=call_ok (C:=C0) (d:=1) (f:=N.law33_TwinNets) («as»:=[.agg xs,.agg ys,.agg zs,w,.agg (vs.map u8v)]) (g:=G.empty) (K:=fun v g'=>v=.bool true) eq_law33_TwinNets (by simp[f_law33_TwinNets]) ?_
 ·cases hc:(I C0).call 1 N.law33_TwinNets [.agg xs,.agg ys,.agg zs,w,.agg (vs.map u8v)] G.empty with
  | fail=>rw[hc] at key;exact key.elim
  | ok v g'=>rw[hc] at key;exact ⟨g',by rw[show v=.bool true from key]⟩
 clear qx qy qz
 have vs5:(vs.map u8v).length=5:=by simpa using hvs
 simp only[f_law33_TwinNets,ofArgs_5,sx,sy,sf,SO.run,↓reduceIte,Nat.reduceEqDiff,Nat.reduceAdd,Nat.reduceLeDiff]
 obtain ⟨g0,hg0⟩:∃g0,g0=(((G.empty.new (AObj.cells xs.length [xs] 0 false false)).new (AObj.cells ys.length [ys] 0 false false)).new (AObj.cells zs.length [zs] 0 false false)).new (AObj.cells (vs.map u8v).length [vs.map u8v] 0 false false):=⟨_,rfl⟩
 rw[←hg0]
 have f0:g0.h.get 0=.cells 5 [xs] 0 false false:=by rw[hg0,hxl];simp[sx,H.get_put]
 have f1:g0.h.get 1=.cells 4 [ys] 0 false false:=by rw[hg0,hyl];simp[sx,H.get_put]
 have f2:g0.h.get 2=.cells 4 [zs] 0 false false:=by rw[hg0,hzl];simp[sx,H.get_put]
 have f3:g0.h.get 3=.cells 5 [vs.map u8v] 0 false false:=by rw[hg0,vs5];simp[sx,H.get_put]
 have f4:g0.nx=4:=by rw[hg0];simp[sx]
 clear hg0
 have ld0:hptrLoad (.cells 5 [xs] 0 false false) 0 0 true 5 0=.val (.agg xs):=by
  match xs,hxl with
  | [a,b,c,d,e],_=>rfl
 have ld1:∀ws:List AV,ws.length=4→hptrLoad (.cells 4 [ws] 0 false false) 0 0 true 4 0=.val (.agg ws):=fun ws h=>by
  match ws,h with
  | [a,b,c,d],_=>rfl
 obtain ⟨r,er,m1,m2,m3,-,-,-,cs,rfl,hcs⟩:=models_ok (g:=g0) (d:=1) (by decide) (hx' _) (hy' _) (hz' _)
 obtain ⟨ca,cb,rfl,hca,hcb⟩:=rp_pair.1 hcs
 obtain ⟨cc,cd,rfl,hcc,hcd⟩:=rp_pair.1 hcb
 obtain ⟨p1,p2,rfl,-,-⟩:=rp_causal.1 hca
 obtain ⟨q1,q2,rfl,-,-⟩:=rp_causal.1 hcc
 obtain ⟨s1,s2,rfl,-,-⟩:=rp_causal.1 hcd
 have hA:∀h,Agg m1 NoP 0 h (.agg [.int .i64 m1.grain,p1,p2]):=fun h=>⟨_,rfl,Rp.tree hca (Nat.le_refl _)⟩
 have hB:∀h,Agg m2 NoP 0 h (.agg [.int .i64 m2.grain,q1,q2]):=fun h=>⟨_,rfl,Rp.tree hcc (Nat.le_refl _)⟩
 have hC:∀h,Agg m3 NoP 0 h (.agg [.int .i64 m3.grain,s1,s2]):=fun h=>⟨_,rfl,Rp.tree hcd (Nat.le_refl _)⟩
 clear hcs hcb hca hcc hcd
 obtain ⟨c9,hc9⟩:∃c,c=AV.agg ([AV.int .i64 m1.grain,p1,p2]++([AV.int .i64 m2.grain,q1,q2]++[AV.int .i64 m3.grain,s1,s2])):=⟨_,rfl⟩
 rw[←hc9] at er
 refine seq_cutG (P:=fun t' df g'=>df=[]∧g'=g0∧St t' [(3,w),(5,.hptr 0 0 0 0),(6,.hptr 1 0 0 0),(7,.hptr 2 0 0 0),(9,.hptr 3 0 0 0)]) ?_ ?_
 ·simp only[sx,sy,sf,SO.run,↓reduceIte,Nat.reduceEqDiff,Nat.reduceAdd,Nat.reduceLeDiff,works_call,Bool.not_true]
  simp[St,sx]
 rintro t df g1 ⟨rfl,rfl,h3,h5,h6,h7,h9,-⟩
 rw[wp_seq]
 refine seq_cut (P:=fun t' df g'=>df=[]∧g'=g1∧St t' [(3,w),(5,.hptr 0 0 0 0),(6,.hptr 1 0 0 0),(7,.hptr 2 0 0 0),(9,.hptr 3 0 0 0),(28,c9),(29,.int .i64 0)]) ?_ ?_
 ·simp only[sx,sy,sf,SO.run,↓reduceIte,Nat.reduceEqDiff,Nat.reduceAdd,Nat.reduceLeDiff,h5,h6,h7,f0,f1,f2,ld0,ld1 _ hyl,ld1 _ hzl,er]
  simp[St,sx,h3,h5,h6,h7,h9]
 clear h3 h5 h6 h7 h9
 rintro t df g2 ⟨rfl,rfl,h3,h5,h6,h7,h9,h28,h29,-⟩
 simp only[wp_blk,wp_loop,f_law33_TwinNets_b2,f_law33_TwinNets_k1]
 refine wpL_rangeK (m:=3) rfl (by omega) (fun j t df g=>df=[]∧St t [(3,w),(5,.hptr 0 0 0 0),(6,.hptr 1 0 0 0),(7,.hptr 2 0 0 0),(9,.hptr 3 0 0 0),(28,c9)]∧g.h.get 0=.cells 5 [xs] 0 false false∧g.h.get 3=.cells 5 [vs.map u8v] 0 false false∧4≤g.nx)
  ⟨rfl,⟨h3,h5,h6,h7,h9,h28,trivial⟩,f0,f3,by omega⟩ h29 (by decide) (by rintro j t df g v s (rfl | rfl | rfl)<;>simp[St,sx]) ?_ ?_
 ·clear h3 h5 h6 h7 h9 h28 h29 er
  rintro j t df g hj ⟨rfl,⟨h3,h5,h6,h7,h9,h28,-⟩,e0,e3,hn⟩ h29
  have fin:∀t g',tat t 3=w→tat t 5=.hptr 0 0 0 0→tat t 6=.hptr 1 0 0 0→tat t 7=.hptr 2 0 0 0→tat t 9=.hptr 3 0 0 0→tat t 28=c9→tat t 29=.int .i64 (j:Int)→Fr g g' →
    (([]:List ADf)=[]∧St t [(3,w),(5,.hptr 0 0 0 0),(6,.hptr 1 0 0 0),(7,.hptr 2 0 0 0),(9,.hptr 3 0 0 0),(28,c9)]∧g'.h.get 0=.cells 5 [xs] 0 false false∧g'.h.get 3=.cells 5 [vs.map u8v] 0 false false∧4≤g'.nx)∧tat t 29=.int .i64 (j:Int):=fun t g' a1 a2 a3 a4 a5 a6 a7 a8 =>
   ⟨⟨rfl,⟨a1,a2,a3,a4,a5,a6,trivial⟩,by rw[a8.2 0 (by omega),e0],by rw[a8.2 3 (by omega),e3],Nat.le_trans hn a8.1⟩,a7⟩
  have hj3:j=0∨j=1∨j=2:=by omega
  rcases hj3 with rfl | rfl | rfl
  ·exact law3_model hA hx' hxl hw hraw hvs h3 h5 h6 h7 h9 h28 h29 (by rw[hc9];rfl) e0 e3 hn fin
  ·exact law3_model hB hx' hxl hw hraw hvs h3 h5 h6 h7 h9 h28 h29 (by rw[hc9];rfl) e0 e3 hn fin
  ·exact law3_model hC hx' hxl hw hraw hvs h3 h5 h6 h7 h9 h28 h29 (by rw[hc9];rfl) e0 e3 hn fin
 ·rintro t df g ⟨rfl,-,-⟩
  simp only[f_law33_TwinNets_k3,sx,sy,sf,SO.run,↓reduceIte,Nat.reduceEqDiff,Nat.reduceAdd,Nat.reduceLeDiff]
end
end Hx
end
section
namespace Hx
open Go Go.RowKit Go.ChangeShapes Go.WideShapes
def contig (P:Program):List Field→Nat→Option Nat
 | [],k=>some k
 | f::fs,k=>if f.offset=k then contig P fs (k+P.cellsOf f.type) else none
def plainT (P:Program):Nat→TypeId→Bool
 | 0,_=>false
 | n+1,t=>match P.underlying t with
  | some .bool=>true
  | some (.int _)=>true
  | some (.slice e)=>decide (0<P.cellsOf e)&&plainT P n e
  | some (.struct fs)=>(contig P fs.toList 0 == some (P.cellsOf t))&&fs.toList.all (fun f=>plainT P n f.type)
  | some (.array m e)=>decide (m*P.cellsOf e=P.cellsOf t)&&plainT P n e
  | _=>false
def Sh (P:Program):Nat→TypeId→List AV→Prop
 | 0,_,_=>False
 | n+1,t,xs=>match P.underlying t with
  | some .bool=>∃b,xs=[.bool b]
  | some (.int k)=>∃z,xs=[.int k z]∧(Lit.int k z).wf=true
  | some (.slice e)=>xs=[.nils]∨∃rows,xs=[.tsl 0 (P.cellsOf e) rows]∧rows.length<9223372036854775808∧∀row∈rows,Sh P n e row
  | some (.struct fs)=>∃xss,xs=xss.flatten∧All2 (fun (f:Field) ys=>Sh P n f.type ys) fs.toList xss
  | some (.array m e)=>∃xss:List (List AV),xs=xss.flatten∧xss.length=m∧∀ys∈xss,Sh P n e ys
  | _=>False
def GoodC (P:Program)(w:World)(n:Nat)(t:TypeId)(xs:List AV)(cs:List Value):Prop :=
 RVs0 w xs cs∧(∀y∈xs,y.one=true∧Closed y)∧Sh P n t xs
theorem RVs0.append {w:World}{xs ys:List AV}{cs ds:List Value}(h:RVs0 w xs cs)(h':RVs0 w ys ds):RVs0 w (xs++ys) (cs++ds):=by
 refine ⟨by rw[List.length_append,List.length_append,h.1,h'.1],fun i x v hx hv=>?_⟩
 rcases Nat.lt_or_ge i xs.length with hi | hi
 ·rw[List.getElem?_append_left hi] at hx
  rw[List.getElem?_append_left (by rw[←h.1];exact hi)] at hv
  exact h.2 i x v hx hv
 ·rw[List.getElem?_append_right hi] at hx
  rw[List.getElem?_append_right (by rw[←h.1];exact hi),←h.1] at hv
  exact h'.2 _ x v hx hv
theorem add_adr (b o n:Nat):(⟨b,o,none⟩:Addr).add n=adr b (o+n):=by
 unfold Addr.add
 split
 ·rename_i h;subst h;rfl
 ·rfl
variable {H:Type}{enc:TypeId×Value→H}{P:Program}{w:World}
theorem contig_le:∀{fl:List Field}{k K:Nat},contig P fl k=some K→k≤K
 | [],k,K,h=>by injection h with h;omega
 | f::fl,k,K,h=>by
  unfold contig at h
  split at h
  ·have:=contig_le h;omega
  ·cases h
theorem pieces {n:Nat}{cs:List Value}:∀{fl:List Field}{k K:Nat},contig P fl k=some K →
  (∀f∈fl,∃xs,GoodC P w n f.type xs ((cs.drop f.offset).take (P.cellsOf f.type))) →
  ∃xss,All2 (fun (f:Field) ys=>Sh P n f.type ys) fl xss∧RVs0 w xss.flatten ((cs.drop k).take (K - k))∧∀y∈xss.flatten,y.one=true∧Closed y
 | [],k,K,h,_=>by
  injection h with h;subst h
  exact ⟨[],trivial,by rw[Nat.sub_self,List.take_zero];exact ⟨rfl,fun i x v hx=>by simp at hx⟩,fun y hy=>by simp at hy⟩
 | f::fl,k,K,h,hg=>by
  unfold contig at h
  split at h
  ·rename_i ho
   subst ho
   obtain ⟨xs,h1,h2,h3⟩:=hg f (by simp)
   obtain ⟨xss,a1,a2,a3⟩:=pieces h fun f' hf'=>hg f' (by simp[hf'])
   have hle:=contig_le h
   refine ⟨xs::xss,⟨h3,a1⟩,?_,fun y hy=>?_⟩
   ·have e:(cs.drop f.offset).take (K - f.offset)=(cs.drop f.offset).take (P.cellsOf f.type)++(cs.drop (f.offset+P.cellsOf f.type)).take (K - (f.offset+P.cellsOf f.type)):=by
     rw[show K - f.offset=P.cellsOf f.type+(K - (f.offset+P.cellsOf f.type)) by omega,List.take_add,List.drop_drop]
    rw[e,List.flatten_cons]
    exact h1.append a2
   ·rw[List.flatten_cons,List.mem_append] at hy
    rcases hy with hy | hy
    ·exact h2 y hy
    ·exact a3 y hy
  ·cases h
theorem apieces {n:Nat}{e:TypeId}{cs:List Value}:∀{m k:Nat},
  (∀i,i<m→∃xs,GoodC P w n e xs ((cs.drop ((k+i)*P.cellsOf e)).take (P.cellsOf e))) →
  ∃xss:List (List AV),xss.length=m∧(∀ys∈xss,Sh P n e ys)∧RVs0 w xss.flatten ((cs.drop (k*P.cellsOf e)).take (m*P.cellsOf e))∧∀y∈xss.flatten,y.one=true∧Closed y
 | 0,k,_=>⟨[],rfl,fun y hy=>by simp at hy,by rw[Nat.zero_mul,List.take_zero];exact ⟨rfl,fun i x v hx=>by simp at hx⟩,fun y hy=>by simp at hy⟩
 | m+1,k,hg=>by
  obtain ⟨xs,h1,h2,h3⟩:=hg 0 (by omega)
  rw[Nat.add_zero] at h1
  obtain ⟨xss,a0,a1,a2,a3⟩:=apieces (m:=m) (k:=k+1) fun i hi=>by
   have:=hg (i+1) (by omega)
   rwa [show k+(i+1)=k+1+i by omega] at this
  refine ⟨xs::xss,by simp[a0],fun ys hy=>?_,?_,fun y hy=>?_⟩
  ·rcases List.mem_cons.1 hy with rfl | hy
   ·exact h3
   ·exact a1 ys hy
  ·have e:(cs.drop (k*P.cellsOf e)).take ((m+1)*P.cellsOf e)=(cs.drop (k*P.cellsOf e)).take (P.cellsOf e)++(cs.drop ((k+1)*P.cellsOf e)).take (m*P.cellsOf e):=by
    rw[show (m+1)*P.cellsOf e=P.cellsOf e+m*P.cellsOf e by rw[Nat.add_mul];omega,List.take_add,List.drop_drop,Nat.add_mul,Nat.one_mul]
   rw[e,List.flatten_cons]
   exact h1.append a2
  ·rw[List.flatten_cons,List.mem_append] at hy
   rcases hy with hy | hy
   ·exact h2 y hy
   ·exact a3 y hy
theorem in_cells:∀(n:Nat)(t:TypeId),plainT P n t=true→∀(fuel:Nat)(cs:List Value)(x:DataW H×List MemPlace),DataW.trod enc P w 0 (fun _=>true) true fuel t cs=some x→∃xs,GoodC P w n t xs cs:=by
 intro n
 induction n with
 | zero=>intro t h;simp[plainT] at h
 | succ n ih =>
  intro t h fuel cs x hx
  unfold plainT at h
  split at h
  ·rename_i hu
   obtain ⟨b,rfl,-⟩:=DataW.trod_bool hu hx
   refine ⟨[.bool b],⟨rfl,fun i x v h1 h2=>?_⟩,fun y hy=>?_,?_⟩
   ·cases i with
    | zero=>simp at h1 h2;subst h1;subst h2;exact .bool _ _
    | succ i=>simp at h1
   ·simp at hy;subst hy;exact ⟨rfl,.bool _⟩
   ·unfold Sh;rw[hu];exact ⟨b,rfl⟩
  ·rename_i k hu
   obtain ⟨z,rfl,-,hwf⟩:=DataW.trod_int hu hx
   refine ⟨[.int k z],⟨rfl,fun i x v h1 h2=>?_⟩,fun y hy=>?_,?_⟩
   ·cases i with
    | zero=>simp at h1 h2;subst h1;subst h2;exact .int _ _ _
    | succ i=>simp at h1
   ·simp at hy;subst hy;exact ⟨rfl,.int _ _⟩
   ·unfold Sh;rw[hu];exact ⟨z,rfl,hwf⟩
  ·rename_i e hu
   rw[Bool.and_eq_true,decide_eq_true_eq] at h
   obtain ⟨hpos,hp⟩:=h
   rcases DataW.trod_slice hu hx with ⟨rfl,-⟩ | ⟨a,len,cap,elems,rest,m,-,rfl,-,-,hlc,hcm,hlen,hel,-,-⟩
   ·refine ⟨[.nils],⟨rfl,fun i x v h1 h2=>?_⟩,fun y hy=>?_,?_⟩
    ·cases i with
     | zero=>simp at h1 h2;subst h1;subst h2;exact .nils _
     | succ i=>simp at h1
    ·simp at hy;subst hy;exact ⟨rfl,.nils⟩
    ·unfold Sh;rw[hu];exact .inl rfl
   ·have each:∀i,i<len→∃xs vs,w.cells? 0 (a.add (i*P.cellsOf e)) (P.cellsOf e)=some vs∧GoodC P w n e xs vs:=by
     intro i hi
     have:=hel i hi
     rw[List.getElem?_eq_getElem (show i<elems.length by omega),Option.bind_eq_some_iff] at this
     obtain ⟨vs,h1,h2⟩:=this
     obtain ⟨xs,hg⟩:=ih e hp _ _ _ h2
     exact ⟨xs,vs,h1,hg⟩
    let rowf:Nat→List AV:=fun i=>if hi:i<len then Classical.choose (each i hi) else []
    let valf:Nat→List Value:=fun i=>if hi:i<len then Classical.choose (Classical.choose_spec (each i hi)) else []
    have hrow:∀i,i<len→w.cells? 0 (a.add (i*P.cellsOf e)) (P.cellsOf e)=some (valf i)∧GoodC P w n e (rowf i) (valf i):=by
     intro i hi
     have:=Classical.choose_spec (Classical.choose_spec (each i hi))
     simpa only[rowf,valf,dif_pos hi] using this
    have hget:∀(i:Nat) (row:List AV),((List.range len).map rowf)[i]?=some row→i<len∧row=rowf i:=by
     intro i row h1
     rw[List.getElem?_map] at h1
     rcases Nat.lt_or_ge i len with hi | hi
     ·rw[List.getElem?_range hi] at h1
      injection h1 with h1
      exact ⟨hi,h1.symm⟩
     ·rw[List.getElem?_eq_none (by simpa using hi)] at h1;cases h1
    refine ⟨[.tsl 0 (P.cellsOf e) ((List.range len).map rowf)],⟨rfl,fun i x v h1 h2=>?_⟩,fun y hy=>?_,?_⟩
    ·cases i with
     | succ i=>simp at h1
     | zero =>
      simp at h1 h2;subst h1;subst h2
      rcases Nat.eq_zero_or_pos len with h0 | h0
      ·subst h0
       exact .tnil 0 0 _ a cap (Nat.le_refl _)
      ·obtain ⟨b,o,spot⟩:=a
       have hc0:=World.cells?_some (hrow 0 h0).1
       have hv0:(valf 0)[0]?=some (valf 0)[0]:=List.getElem?_eq_getElem (by rw[hc0.2.1];exact hpos)
       have h00:=hc0.2.2 0 hpos
       rw[hv0] at h00
       have hspot:spot=none:=by simpa [Addr.add] using World.cell?_spot h00
       subst hspot
       have cellat:∀i j row x,((List.range len).map rowf)[i]?=some row→row[j]?=some x→∃v,(valf i)[j]?=some v∧w.cell? (adr b (o+i*P.cellsOf e+j))=some v∧RV w gm0 av0 0 x v:=by
        intro i j row x hr hxj
        obtain ⟨hi,rfl⟩:=hget i row hr
        obtain ⟨q1,q2⟩:=hrow i hi
        have hj:j<(rowf i).length:=(List.getElem?_eq_some_iff.1 hxj).1
        have hj':j<(valf i).length:=by rw[←q2.1.1];exact hj
        have hcs:=World.cells?_some q1
        have hcell:=hcs.2.2 j (by rw[←hcs.2.1];exact hj')
        rw[List.getElem?_eq_getElem hj'] at hcell
        refine ⟨_,List.getElem?_eq_getElem hj',?_,q2.1.2 j x _ hxj (List.getElem?_eq_getElem hj')⟩
        rw[add_adr,show adr b (o+i*P.cellsOf e)=(⟨b,o+i*P.cellsOf e,none⟩:Addr) from rfl,add_adr] at hcell
        exact hcell
       have hb:b<w.heap.size:=by
        have:=lt_of_cell h00
        simpa [Addr.add] using this
       have hrl:((List.range len).map rowf).length=len:=by simp
       have key:=RV.tsl (w:=w) (γ:=gm0) (A:=av0) 0 0 (P.cellsOf e) ((List.range len).map rowf) b o cap (fun i j=>(valf i)[j]?.getD undef) (Nat.le_refl _) (by rw[hrl];exact hlc) hb (mut0 b) (fun h=>h)
        (fun i row hr=>by
         obtain ⟨hi,rfl⟩:=hget i row hr
         obtain ⟨q1,q2⟩:=hrow i hi
         rw[q2.1.1,(World.cells?_some q1).2.1])
        (fun i j row x hr hxj=>by
         obtain ⟨hi,rfl⟩:=hget i row hr
         exact ((hrow i hi).2.2.1 x (List.mem_of_getElem? hxj)).1)
        (fun i j row x hr hxj=>by
         obtain ⟨v,v1,v2,v3⟩:=cellat i j row x hr hxj
         rw[v2,v1];rfl)
        (fun i j row x hr hxj=>by
         obtain ⟨v,v1,v2,v3⟩:=cellat i j row x hr hxj
         rw[v1];exact v3)
        (fun row hr x hx=>by
         obtain ⟨i,hi⟩:=List.getElem?_of_mem hr
         obtain ⟨hi2,rfl⟩:=hget i row hi
         exact ((hrow i hi2).2.2.1 x hx).2)
       rw[hrl] at key
       exact key
    ·simp only[List.mem_singleton] at hy;subst hy
     refine ⟨rfl,.tsl _ _ _ fun row hr x hx=>?_⟩
     obtain ⟨i,hi⟩:=List.getElem?_of_mem hr
     obtain ⟨hi2,rfl⟩:=hget i row hi
     exact ((hrow i hi2).2.2.1 x hx).2
    ·unfold Sh;rw[hu]
     refine .inr ⟨_,rfl,?_,fun row hr=>?_⟩
     ·rw[List.length_map,List.length_range]
      have:maxLen<9223372036854775808:=by decide
      omega
     ·obtain ⟨i,hi⟩:=List.getElem?_of_mem hr
      obtain ⟨hi2,rfl⟩:=hget i row hi
      exact (hrow i hi2).2.2.2
  ·rename_i fs hu
   rw[Bool.and_eq_true] at h
   obtain ⟨hc,hp⟩:=h
   have hc:contig P fs.toList 0=some (P.cellsOf t):=eq_of_beq hc
   obtain ⟨ys,m,-,-,hl,hyl,hel⟩:=DataW.trod_struct hu hx
   obtain ⟨xss,a1,a2,a3⟩:=pieces (w:=w) (n:=n) (cs:=cs) hc fun f hf=>by
    obtain ⟨i,hi,e⟩:=List.mem_iff_getElem.1 hf
    have hfi:fs[i]?=some f:=by rw[←Array.getElem?_toList,List.getElem?_eq_getElem hi,e]
    have:=hel i f hfi
    rw[List.getElem?_eq_getElem (show i<ys.length by rw[hyl];simpa using hi)] at this
    exact ih f.type (List.all_eq_true.1 hp f hf) _ _ _ this
   rw[List.drop_zero,Nat.sub_zero,←hl,List.take_length] at a2
   refine ⟨xss.flatten,a2,a3,?_⟩
   unfold Sh;rw[hu];exact ⟨xss,rfl,a1⟩
  ·rename_i m e hu
   rw[Bool.and_eq_true,decide_eq_true_eq] at h
   obtain ⟨hc,hp⟩:=h
   obtain ⟨ys,q,-,-,hl,hyl,hel⟩:=DataW.trod_array hu hx
   obtain ⟨xss,a0,a1,a2,a3⟩:=apieces (w:=w) (n:=n) (e:=e) (cs:=cs) (m:=m) (k:=0) fun i hi=>by
    have:=hel i hi
    rw[List.getElem?_eq_getElem (show i<ys.length by omega)] at this
    rw[Nat.zero_add]
    exact ih e hp _ _ _ this
   rw[Nat.zero_mul,List.drop_zero,hc,←hl,List.take_length] at a2
   refine ⟨xss.flatten,a2,a3,?_⟩
   unfold Sh;rw[hu];exact ⟨xss,rfl,a0,a1⟩
  ·cases h
theorem sh_int {n:Nat}{t:TypeId}{xs:List AV}(hu:P.underlying t=some (.int .i64))(h:Sh P n t xs):∃x:Int,Rp.rp NoP 0 .nil x xs:=by
 cases n with
 | zero=>exact h.elim
 | succ n =>
  unfold Sh at h;rw[hu] at h
  obtain ⟨z,rfl,-⟩:=h
  exact ⟨z,rp_int.2 rfl⟩
theorem sh_u8 {n:Nat}{t:TypeId}{xs:List AV}(hu:P.underlying t=some (.int .u8))(h:Sh P n t xs):∃x:UInt8,Rp.rp NoP 0 .nil x xs:=by
 cases n with
 | zero=>exact h.elim
 | succ n =>
  unfold Sh at h;rw[hu] at h
  obtain ⟨z,rfl,hw⟩:=h
  simp only[Lit.wf,IntKind.min,IntKind.max,IntKind.signed,IntKind.bits,Bool.and_eq_true,decide_eq_true_eq] at hw
  refine ⟨UInt8.ofNat z.toNat,rp_u8.2 ?_⟩
  have h1:0≤z:=by simpa using hw.1
  have h2:z≤255:=by simpa using hw.2
  have h3:(UInt8.ofNat z.toNat).toNat=z.toNat:=UInt8.toNat_ofNat_of_lt' (by show z.toNat<256;omega)
  rw[h3,Int.toNat_of_nonneg h1]
theorem sh_list {α:Type} [Rp α]{n:Nat}{t e:TypeId}{xs:List AV}(hu:P.underlying t=some (.slice e))(hsz:P.cellsOf e=Rp.sz α)(hel:∀ys,Sh P n e ys→∃y:α,Rp.rp NoP 0 .nil y ys)(h:Sh P (n+1) t xs) :
  ∃l:List α,Rp.rp NoP 0 .nil l xs:=by
 unfold Sh at h;rw[hu] at h
 rcases h with rfl | ⟨rows,rfl,hl,hr⟩
 ·exact ⟨[],.nils,rfl,by simp,rfl⟩
 ·have:∀rows:List (List AV),(∀row∈rows,Sh P n e row)→∃l:List α,All2 (Rp.rp NoP 0 .nil) l rows:=by
   intro rows
   induction rows with
   | nil=>intro _;exact ⟨[],trivial⟩
   | cons r rows ih =>
    intro h
    obtain ⟨y,hy⟩:=hel r (h r (by simp))
    obtain ⟨l,hl⟩:=ih fun row hrow=>h row (by simp[hrow])
    exact ⟨y::l,hy,hl⟩
  obtain ⟨l,ha⟩:=this rows hr
  exact ⟨l,_,rfl,by rw[ha.len];exact hl,Nat.le_refl _,.inl hsz,ha⟩
theorem sh_array {n m:Nat}{t e:TypeId}{xs:List AV}(hu:P.underlying t=some (.array m e))(h:Sh P (n+1) t xs):∃xss:List (List AV),xs=xss.flatten∧xss.length=m∧∀ys∈xss,Sh P n e ys:=by
 unfold Sh at h;rw[hu] at h;exact h
theorem sh_struct {n:Nat}{t:TypeId}{fs:Array Field}{xs:List AV}(hu:P.underlying t=some (.struct fs))(h:Sh P (n+1) t xs):∃xss,xs=xss.flatten∧All2 (fun (f:Field) ys=>Sh P n f.type ys) fs.toList xss:=by
 unfold Sh at h;rw[hu] at h;exact h
end Hx
end
