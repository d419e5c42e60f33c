/- A part of the proof: an interpreter over abstract values, shown right against the model, and what the functions of the chapter compute on it. -/
import Derived.Test.YtaebcalnodgpnaaHx11
set_option linter.unusedVariables false
set_option linter.unusedSimpArgs false
set_option linter.unnecessarySimpa false
section
namespace Hx
open Go
noncomputable section
theorem all2_maps {α β γ:Type}{R:β→γ→Prop}{f:α→β}{h:α→γ}:∀{l:List α},(∀x∈l,R (f x) (h x))→All2 R (l.map f) (l.map h)
 | [],_=>trivial
 | a::l,hl=>⟨hl a (by simp),all2_maps fun x hx=>hl x (by simp[hx])⟩
def mkM (e:ME)(c:Nat→Int)(R:List (List Int))(F N O:Nat→List Int):Causal:=⟨e.gr,R,(List.range e.n).map fun i=>⟨c i,F i,N i,O i⟩⟩
theorem mkM_get {e:ME}{c:Nat→Int}{R:List (List Int)}{F N O:Nat→List Int}{i:Nat}(h:i<e.n):(mkM e c R F N O).nodes[i]?=some ⟨c i,F i,N i,O i⟩:=by simp[mkM,h]
theorem MI.agg {e:ME}{g:G}{V:Nat→AV}{W:Nat→List (List AV)}{c:Nat→Int}{ow:List Bool}{cap:Nat}{R:List (List Int)}{F N O:Nat→List Int}(h:MI e g V W c ow cap)(he:e.Ok)(hD:MD e W R F N O)
  (hR:R.length≤1000) (hl:∀i,i<e.n→(F i).length≤1000000000∧(N i).length≤1000000000∧(O i).length≤1000000000):Agg (mkM e c R F N O) (fun i=>1<i) 0 g.h (.agg [.int .i64 e.gr,V 0,e.nv]):=by
 have hn:=he.n1
 have hoo:=he.ord
 refine ⟨_,rfl,rp_causal.2 ⟨V 0,e.nv,rfl,?_,?_⟩⟩
 ·exact Own.sl (α:=List Int) (h.fam.1 0 (by omega)) (by show R.length<_;omega) (hD.r.mono fun a b r=>Rp.tree r (Nat.le_refl _)) fun i hi=>by have:=((h.fam.1 0 (by omega)).lt hi).1;omega
 ·refine Own.sl (α:=Mech) h.hN (by simp[mkM];omega) ?_ fun i hi=>by have:=vid_inj he.vn hi;omega
  refine all2_maps fun i hi=>?_
  have hi:i<e.n:=List.mem_range.1 hi
  obtain ⟨l1,l2,l3⟩:=hl i hi
  refine rp_mech.2 ⟨_,_,_,rfl,?_,?_,?_⟩
  ·have:=h.fam.1 (3*i+1) (by omega)
   rw[hD.f i hi] at this
   exact Own.sl (α:=Int) this (by show (F i).length<_;omega) (All2.of_map (fun a=>rp_int.2 rfl) _) fun i hi=>by have:=(this.lt hi).1;omega
  ·have:=h.fam.1 (3*i+2) (by omega)
   rw[hD.n i hi] at this
   exact Own.sl (α:=Int) this (by show (N i).length<_;omega) (All2.of_map (fun a=>rp_int.2 rfl) _) fun i hi=>by have:=(this.lt hi).1;omega
  ·have:=h.fam.1 (3*i+3) (by omega)
   rw[hD.o i hi] at this
   exact Own.sl (α:=Int) this (by show (O i).length<_;omega) (All2.of_map (fun a=>rp_int.2 rfl) _) fun i hi=>by have:=(this.lt hi).1;omega
def MSt3 (e:ME)(r6 r18:AV)(i v:Nat)(t:T):Prop :=
 St t [(1,.hptr 0 0 0 0),(2,.hptr 1 0 0 0),(3,.int .i64 (e.n:Int)),(4,.hptr e.p4 0 0 0),(5,e.w5),(6,r6),(7,.hptr e.p7 0 0 0),(9,e.w9),(14,.int .i64 (i:Int)),(15,.int .i64 (v:Int)),(18,r18)]
theorem m_b10 {d:Nat}{e:ME}{r6 r18 xr:AV}{i v cc:Nat}{fst:Int}{x:List Int}{lrows:List (List AV)}{Q:QT}(hd:0<d)(hr:∀h',rowsOf h' 1 r18=some lrows)(hc:lrows[cc]?=some [xr])(hx:IT 0 x xr)(hx6:x.length≤12)(hxv:∀y∈x,0≤y∧y<4)
  {t:T} {g:G} {B:Int} (ht:MSt3 e r6 r18 i v t) (h19:tat t 19=.int .i64 (cc:Int)) (h20:tat t 20=.int .i64 B) (h21:tat t 21=.int .i64 fst) (h22:tat t 22=.int .i64 0) (h23:tat t 23=.int .i64 0)
  (fin:∀t key,MSt3 e r6 r18 i v t→tat t 19=.int .i64 (cc:Int)→tat t 20=.int .i64 B→tat t 21=.int .i64 fst→tat t 22=.int .i64 key→0≤key→key<4 ^ 12→Q (.exit 14) t [] g) :
  wpL (wp C0 d none f_ref33_Draft_Model_b10) Q t [] g:=by
 have hcl:cc<lrows.length:=(List.getElem?_eq_some_iff.1 hc).1
 simp only[f_ref33_Draft_Model_b10,f_ref33_Draft_Model_k9]
 refine wpL_cnt x.length (by omega) (fun k t df g'=>df=[]∧g'=g∧MSt3 e r6 r18 i v t∧tat t 19=.int .i64 (cc:Int)∧tat t 20=.int .i64 B∧tat t 21=.int .i64 fst∧∃key,tat t 22=.int .i64 key∧0≤key∧key<4 ^ k)
  ⟨rfl,rfl,ht,h19,h20,h21,0,h22,by decide,by decide⟩ h23 (by decide) (by rintro j t df g v s (rfl | rfl | rfl)<;>simp[MSt3,St,sx]) ?_ ?_ ?_
 ·rintro j t df g' hj ⟨rfl,rfl,⟨h1,h2,h3,h4,h5,h6,h7,h9,h14,h15,h18,-⟩,h19,h20,h21,hx2⟩ h23
  simp only[sx,sy,SO.run,↓reduceIte,Nat.reduceEqDiff,h1,h2,h3,h4,h5,h6,h7,h9,h14,h15,h18,h19,h20,h21,h23,hr,hcl,hc,hx.len,Option.isSome_some,Option.getD_some,MSt3,St]
  exact hx2
 ·rintro j t df g' hj ⟨rfl,rfl,⟨h1,h2,h3,h4,h5,h6,h7,h9,h14,h15,h18,-⟩,h19,h20,h21,key,h22,k0,k1⟩ h23
  obtain ⟨y,hy,-,hm⟩:=take_next hj
  obtain ⟨y0,y1⟩:=hxv y hm
  have hp:(4:Int) ^ j≤4 ^ 12:=pow4_mono (by omega)
  have hp2:(4:Int) ^ 12=16777216:=by decide
  have hp3:(4:Int) ^ (j+1)=4 ^ j*4:=Int.pow_succ ..
  have xr:=hx.rows
  simp only[sx,sy,SO.run,↓reduceIte,Nat.reduceEqDiff,h21,h23]
  refine bifP_mk (fun hb=>?_) (fun hb=>?_)
  ·simp only[sx,sy,SO.run,↓reduceIte,Nat.reduceEqDiff,h1,h2,h3,h4,h5,h6,h7,h9,h14,h15,h18,h19,h20,h21,h22,h23,hr,hcl,hc,xr,hj,hy,ci,List.length_map,List.getElem?_map,Option.map_some,Option.isSome_some,Option.getD_some,MSt3,St,
    wrap64 (show -9223372036854775808≤3*key by omega) (show 3*key<9223372036854775808 by omega),wrap64 (show -9223372036854775808≤3*key+y by omega) (show 3*key+y<9223372036854775808 by omega)]
   exact ⟨_,rfl,by omega,by omega⟩
  ·simp only[sx,sy,SO.run,↓reduceIte,Nat.reduceEqDiff,h1,h2,h3,h4,h5,h6,h7,h9,h14,h15,h18,h19,h20,h21,h22,h23,MSt3,St]
   exact ⟨key,rfl,k0,by omega⟩
 ·rintro t df g' ⟨rfl,rfl,ht,h19,h20,h21,key,h22,k0,k1⟩
  have hp:(4:Int) ^ x.length≤4 ^ 12:=pow4_mono (by omega)
  exact fin t key ht h19 h20 h21 h22 k0 (by omega)
theorem m_k13 {d:Nat}{e:ME}{r6 r18:AV}{i v cc cap:Nat}{Q:QT}(he:e.Ok)(hv:v<e.n)
  {t:T} {g:G} {V:Nat→AV} {W:Nat→List (List AV)} {c:Nat→Int} {ow:List Bool} {R:List (List Int)} {F N O:Nat→List Int} {l:List Int} {B:Int} (ht:MSt3 e r6 r18 i v t) (h19:tat t 19=.int .i64 (cc:Int)) (h20:tat t 20=.int .i64 B)
  (hB0:0≤B) (hcv:c v=2∨c v=3) (hI:MI e g V W c ow cap) (hD:MD e W R F N (updf O v l)) (hlO:l.length≤1000000)
  (fin:∀t g V W,MSt3 e r6 r18 i v t→tat t 19=.int .i64 (cc:Int)→MI e g V W c ow cap→MD e W R F N (updf O v (l++[B % c v]))→Q .norm t [] g) :
  wp C0 d none f_ref33_Draft_Model_k13 Q t [] g:=by
 have hoo:=he.ord
 have hn1:=he.n1
 have ryn:=rowy_vid he.vn
 have hrem:=bin_rem .i64 hB0 (show 0<c v by omega)
 have hlO:(updf O v l v).length≤1000000:=by rw[updf_self];exact hlO
 obtain ⟨h1,h2,h3,h4,h5,h6,h7,h9,h14,h15,h18,-⟩:=ht
 simp only[f_ref33_Draft_Model_k13]
 have hNr:=hI.hN.rows
 have hrf:=refs_some hI.hN he.vn
 have hbb:=hI.nx
 have hlb:=hlO
 have hO:=hI.fam.1 (3*v+3) (by omega)
 simp only[sx,sy,sf,SO.run,↓reduceIte,Nat.reduceEqDiff,Nat.reduceAdd,Nat.reduceLeDiff,h4,h15,h20,hrem,hI.h4,hNr,rowsN_len,hv,ryn,rowsN_get c (V) hv,rowN,Option.isSome_some,Option.getD_some]
 refine append_own (b:=e.b) (rows:=(W) (3*v+3)) (new:=[[.int .i64 (B % c v)]]) (hO.fr (by simp;omega) (fun i' hi'=>?_)) (by simp[sx,sy,H.get_put]) (by simp;omega) (by rw[hD.o v hv];simp[room];omega) fun v1 ga hv1 n1 f1 vid1 lg1=>?_
 ·have:=(hO.lt hi').2
  simp[H.get_put];omega
 simp only[sx,sy] at n1 f1 vid1 lg1
 have hP:=hI.grow (g':=ga) (k:=3*v+3) (rows':=(W) (3*v+3)++[[.int .i64 (B % c v)]]) he (by omega) hv1 (by omega) (fun i' hi' hne=>by rw[f1 i' (by omega) hne,if_neg (by omega)]) (by rcases vid1 with h | ⟨i',h,hi'⟩;exact .inl h;exact .inr ⟨i',h,by omega⟩)
 have hNr2:=hP.hN.rows
 have hrf2:=refs_some hP.hN he.vn
 simp only[sx,sy,sf,SO.run,↓reduceIte,Nat.reduceEqDiff,Nat.reduceAdd,Nat.reduceLeDiff,h4,h15,h20,hrem,hP.h4,hNr2,rowsN_len,hv,ryn,Option.isSome_some,Option.getD_some]
 refine store_own (row:=rowN c (V) v) (row':=rowN c (updf (V) (3*v+3) v1) v) (hP.same he (by simp) (by simp;omega)).hN (rowsN_get _ _ hv) (by rw[hv1.cell.1];rfl) hv1.cell.2 ?_ fun g1 x2 n2 f2=>?_
 ·simp only[rowN,hv1.cell.1,putCells_eq,sx,sy,↓reduceIte,Nat.reduceAdd,Nat.reduceLeDiff,updf_self,updf_ne (V) (k:=3*v+3) (j:=3*v+1) _ (by omega),updf_ne (V) (k:=3*v+3) (j:=3*v+2) _ (by omega)]
 rw[rowsN_set rfl (fun i' hi'=>rowN_ne (by omega) hi')] at x2
 simp only[sx,sy] at n2 f2
 have hI1:=hP.node (g':=g1) he x2 (updf_ne _ _ (by omega)) (by omega) f2
 have hI1D:=hD.setO v (((updf O v l)) v++[B % c v])
 rw[List.map_append,←hD.o v hv] at hI1D
 simp only[List.map_cons,List.map_nil,ci] at hI1D
 simp only[sx,sy,sf,SO.run,↓reduceIte,Nat.reduceEqDiff,Nat.reduceAdd,Nat.reduceLeDiff,h4,h15,h20,hrem]
 refine ⟨?_,?_⟩
 ·simp only[List.reverse_cons,List.reverse_nil,List.nil_append,List.cons_append,hrf,hrf2]
  refine footsOk_mk [false,false,false,false,false,false,false,false,false,false,false,false,false,false,false,false,false,true,true,false,false,true] [(0,17),(1,17),(2,17),(3,17),(4,17),(5,17),(6,17),(7,17),(8,17),(0,18),(1,18),(2,18)] (by simp[All2,rdLook,noLook,bigLook]) (by decide) ?_
  rintro p hp x y hx hy
  simp only[List.mem_cons,List.not_mem_nil,or_false] at hp
  rcases hp with rfl | rfl | rfl | rfl | rfl | rfl | rfl | rfl | rfl | rfl | rfl | rfl<;>(simp at hx hy;subst hx;subst hy;refine apart_mk rfl rfl rfl rfl ?_ ?_ ?_<;>simp[rdLook,noLook,refIds_hptr,hrf,refIds_rptr ryn]<;>first | omega | (intro i' hi';rcases lg1 i' hi' with h | h<;>first | omega | simp at h) | skip)
 clear hNr hrf hbb hO hP hNr2 hrf2 x2 f2 n2 f1 n1 vid1 lg1 hlb
 rw[updf_updf,updf_self] at hI1D
 exact fin _ _ _ _ (by simp[sx,MSt3,St,h1,h2,h3,h4,h5,h6,h7,h9,h14,h15,h18]) (by simp[sx,h19]) (hI1.same he (by simp) (by simp)) hI1D
theorem m_b16 {d:Nat}{e:ME}{r6 r18:AV}{i v cap:Nat}{cards:List Int}{Q:QT}(hd:0<d)(he:e.Ok)(hpr:MPr e)(hi:i<e.n)(hv:v<e.n)(hr18:One (S.all cards) NoP 0 .nil r18)(hc1:∀x∈cards,1≤x∧x≤4)(hc6:cards.length≤12)(hlen:(S.all cards).length≤1000000)
  {t:T} {g:G} {V:Nat→AV} {W:Nat→List (List AV)} {c:Nat→Int} {ow:List Bool} {R:List (List Int)} {F N O:Nat→List Int} (ht:MSt3 e r6 r18 i v t) (h19:tat t 19=.int .i64 0)
  (hcv:c v=2∨c v=3) (hol:ow.length=e.n) (hon:ow[v]?=some true→(F v).length<cards.length) (hFl:(F v).length≤100)
  (hI:MI e g V W c ow cap) (hD:MD e W R F N O) (hOv:O v=[])
  (fin:∀t g V W l,MSt3 e r6 r18 i v t→MI e g V W c ow cap→MD e W R F N (updf O v l)→l.length=(S.all cards).length→(∀x∈l,0≤x∧x<c v)→Q (.exit 12) t [] g) :
  wpL (wp C0 d none f_ref33_Draft_Model_b16) Q t [] g:=by
 have hoo:=he.ord
 have hn1:=he.n1
 have ryn:=rowy_vid he.vn
 have ry5:=rowy_vid he.v5
 obtain ⟨z18,ez,hs18⟩:=hr18
 injection ez with ez;subst ez
 obtain ⟨lrows,r1,r2,r3,r4⟩:=hs18.all
 have r1:∀h',rowsOf h' 1 r18=some lrows:=r1
 simp only[f_ref33_Draft_Model_b16,f_ref33_Draft_Model_k15]
 refine wpL_cnt (S.all cards).length (by omega) (fun k t df g=>df=[]∧MSt3 e r6 r18 i v t∧∃V W l,MI e g V W c ow cap∧MD e W R F N (updf O v l)∧l.length=k∧∀x∈l,0≤x∧x<c v)
  ⟨rfl,ht,V,W,[],hI,by rw[updf_eq hOv];exact hD,rfl,by simp⟩ h19 (by decide) (by rintro j t df g v s (rfl | rfl | rfl)<;>simp[MSt3,St,sx]) ?_ ?_ ?_
 ·rintro j t df g hj ⟨rfl,⟨h1,h2,h3,h4,h5,h6,h7,h9,h14,h15,h18,-⟩,hx⟩ h19
  simp only[sx,sy,SO.run,↓reduceIte,Nat.reduceEqDiff,h1,h2,h3,h4,h5,h6,h7,h9,h14,h15,h18,h19,hs18.len,MSt3,St]
  exact hx
 ·clear ht h19 hI hD
  rintro j t df g hj ⟨rfl,⟨h1,h2,h3,h4,h5,h6,h7,h9,h14,h15,h18,-⟩,V,W,l,hI,hD,hl1,hl2⟩ h19
  obtain ⟨x,hx,-,hm⟩:=take_next hj
  obtain ⟨row,q1,q2⟩:=r3 j x hx
  obtain ⟨xr,rfl,hxr⟩:=rp_list.1 q2
  have hxr:IT 0 x xr:=⟨xr,rfl,hxr⟩
  have hjr:j<lrows.length:=by omega
  have hco:=all_combo (fun c h=>(hc1 c h).1) x hm
  have hxl:x.length=cards.length:=hco.1.symm
  have hxv:∀y∈x,0≤y∧y<4:=fun y hy=>by
   obtain ⟨k,hk,rfl⟩:=List.mem_iff_getElem.1 hy
   obtain ⟨cd,hcd⟩:∃cd,cards[k]?=some cd:=⟨_,List.getElem?_eq_getElem (by omega)⟩
   have:=hco.2 k cd _ hcd (List.getElem?_eq_getElem hk)
   have:=hc1 cd (List.mem_of_getElem? hcd)
   omega
  obtain ⟨y,oa,hy,hoa⟩:=hpr.2 i hi
  have hip:i<e.prow.length:=by rw[hpr.1];exact hi
  obtain ⟨orows,o1,o2,o3,o4⟩:=hoa.all
  have o1:∀h',rowsOf h' 1 oa=some orows:=o1
  have hin:∀k:Nat,0<y.2.2.2.length→∃z:UInt8,orows[k % y.2.2.2.length]?=some [u8v z]∧k % y.2.2.2.length<orows.length:=fun k hk=>by
   have hlt:=Nat.mod_lt k hk
   obtain ⟨z,hz⟩:∃z,y.2.2.2[k % y.2.2.2.length]?=some z:=⟨_,List.getElem?_eq_getElem hlt⟩
   obtain ⟨row,w1,w2⟩:=o3 _ z hz
   rw[rp_u8.1 w2] at w1
   exact ⟨z,w1,by omega⟩
  have last:∀(t:T) (B:Int),MSt3 e r6 r18 i v t→tat t 19=.int .i64 (j:Int)→tat t 20=.int .i64 B→0≤B →
    wp C0 d none f_ref33_Draft_Model_k13 (kR (fun t df g=>(df=[]∧MSt3 e r6 r18 i v t∧∃V W l,MI e g V W c ow cap∧MD e W R F N (updf O v l)∧l.length=j+1∧∀x∈l,0≤x∧x<c v)∧tat t 19=.int .i64 (j:Int)) 13 Q) t [] g:=fun t B ht h19 h20 hB =>
   m_k13 he hv ht h19 h20 hB hcv hI hD (by omega) fun t g V W ht h19 hI hD=>by
    rw[kR_norm]
    refine ⟨⟨rfl,ht,V,W,_,hI,hD,by simp[hl1],fun x hx=>?_⟩,h19⟩
    rcases List.mem_append.1 hx with h | h
    ·exact hl2 x h
    ·simp at h;subst h
     exact ⟨Int.emod_nonneg _ (by omega),Int.emod_lt_of_pos _ (by omega)⟩
  have mid:∀(t:T) (B:Int),MSt3 e r6 r18 i v t→tat t 19=.int .i64 (j:Int)→tat t 20=.int .i64 B→0≤B→B<1000000 →
    wp C0 d none f_ref33_Draft_Model_k14 (kR (fun t df g=>(df=[]∧MSt3 e r6 r18 i v t∧∃V W l,MI e g V W c ow cap∧MD e W R F N (updf O v l)∧l.length=j+1∧∀x∈l,0≤x∧x<c v)∧tat t 19=.int .i64 (j:Int)) 13 Q) t [] g:=by
   rintro t B ⟨h1,h2,h3,h4,h5,h6,h7,h9,h14,h15,h18,-⟩ h19 h20 hB hBB
   have hvo:v<(ow.map fun x=>[AV.bool x]).length:=by rw[List.length_map,hol];exact hv
   have hvo2:v<ow.length:=by omega
   have hrow:(ow.map fun x=>[AV.bool x])[v]?=some [.bool ow[v]]:=by rw[List.getElem?_map,List.getElem?_eq_getElem hvo2];rfl
   simp only[f_ref33_Draft_Model_k14,sx,sy,SO.run,↓reduceIte,Nat.reduceEqDiff,h9,h15,hI.h9.rows,hvo,hrow,Option.isSome_some,Option.getD_some]
   refine bifP_mk (fun hb=>?_) (fun hb=>?_)
   ·have hfl:=hon (by rw[List.getElem?_eq_getElem hvo2,hb])
    have hOw:=hI.fam.1 (3*v+1) (by omega)
    rw[hD.f v hv] at hOw
    have lF:=len_rows' hOw.rows
    rw[List.length_map] at lF
    simp only[sx,sy,SO.run,↓reduceIte,Nat.reduceEqDiff,Nat.reduceAdd,h4,h15,hI.h4,hI.hN.rows,rowsN_len,hv,ryn,rowsN_get c V hv,rowN,lF,Option.isSome_some,Option.getD_some]
    refine m_b10 (B:=B) (cc:=j) (x:=x) (xr:=xr) (fst:=((F v).length:Int)) (e:=e) (r6:=r6) (r18:=r18) (i:=i) (v:=v) hd r1 q1 hxr (by omega) hxv (by simp[sx,MSt3,St,h1,h2,h3,h4,h5,h6,h7,h9,h14,h15,h18]) (by simp[sx,h19]) (by simp[sx,h20]) (by simp[sx]) (by simp[sx]) (by simp[sx]) ?_
    rintro t key ⟨h1,h2,h3,h4,h5,h6,h7,h9,h14,h15,h18,-⟩ h19 h20 h21 h22 k0 k1
    have hp2:(4:Int) ^ 12=16777216:=by decide
    obtain ⟨kk,rfl⟩:=Int.eq_ofNat_of_zero_le k0
    simp only[f_ref33_Draft_Model_k12,sx,sy,SO.run,↓reduceIte,Nat.reduceEqDiff,Nat.reduceAdd,h5,h14,hI.h5.rows,hip,hy,ry5,hoa.len,Option.isSome_some,Option.getD_some]
    have fin2:∀(t:T) (B:Int),MSt3 e r6 r18 i v t→tat t 19=.int .i64 (j:Int)→tat t 20=.int .i64 B→tat t 21=.int .i64 ((F v).length:Int)→0≤B→B<1000000 →
      wp C0 d none f_ref33_Draft_Model_k11 (kS (wp C0 d none f_ref33_Draft_Model_k13 (kR (fun t df g=>(df=[]∧MSt3 e r6 r18 i v t∧∃V W l,MI e g V W c ow cap∧MD e W R F N (updf O v l)∧l.length=j+1∧∀x∈l,0≤x∧x<c v)∧tat t 19=.int .i64 (j:Int)) 13 Q))
       (kR (fun t df g=>(df=[]∧MSt3 e r6 r18 i v t∧∃V W l,MI e g V W c ow cap∧MD e W R F N (updf O v l)∧l.length=j+1∧∀x∈l,0≤x∧x<c v)∧tat t 19=.int .i64 (j:Int)) 13 Q)) t [] g:=by
     rintro t B ⟨h1,h2,h3,h4,h5,h6,h7,h9,h14,h15,h18,-⟩ h19 h20 h21 hB hB2
     have hfx:(F v).length<x.length:=by omega
     obtain ⟨z,hz,-,hzm⟩:=take_next hfx
     obtain ⟨z0,z1⟩:=hxv z hzm
     simp only[f_ref33_Draft_Model_k11,sx,sy,SO.run,↓reduceIte,Nat.reduceEqDiff,Nat.reduceAdd,h18,h19,h20,h21,r1,hjr,q1,hxr.rows,hfx,hz,ci,List.length_map,List.getElem?_map,Option.map_some,Option.isSome_some,Option.getD_some,
      wrap64 (show -9223372036854775808≤B+z by omega) (show B+z<9223372036854775808 by omega)]
     exact last _ (B+z) (by simp[sx,MSt3,St,h1,h2,h3,h4,h5,h6,h7,h9,h14,h15,h18]) (by simp[sx,h19]) (by simp[sx]) (by omega)
    refine bifP_mk (fun hb=>?_) (fun hb=>?_)
    ·have hpos:0<y.2.2.2.length:=by simpa using hb
     obtain ⟨z,hz,hzl⟩:=hin kk hpos
     have z8:z.toNat<256:=z.toNat_lt
     have em:((kk:Int) % (y.2.2.2.length:Int))=((kk % y.2.2.2.length:Nat):Int):=by omega
     simp only[sx,sy,SO.run,↓reduceIte,Nat.reduceEqDiff,Nat.reduceAdd,h5,h14,h22,hI.h5.rows,hip,hy,ry5,hoa.len,o1,hzl,hz,u8v,em,Option.isSome_some,Option.getD_some,bin_rem .i64 (show (0:Int)≤(kk:Int) by omega) (show 0<(y.2.2.2.length:Int) by omega),
      wrap64 (show -9223372036854775808≤(z.toNat:Int) by omega) (show (z.toNat:Int)<9223372036854775808 by omega)]
     exact fin2 _ (z.toNat:Int) (by simp[sx,MSt3,St,h1,h2,h3,h4,h5,h6,h7,h9,h14,h15,h18]) (by simp[sx,h19]) (by simp[sx]) (by simp[sx,h21]) (by omega) (by omega)
    ·simp only[sx]
     exact fin2 _ B (by simp[sx,MSt3,St,h1,h2,h3,h4,h5,h6,h7,h9,h14,h15,h18]) (by simp[sx,h19]) (by simp[sx,h20]) (by simp[sx,h21]) hB hBB
   ·simp only[sx]
    exact last _ B (by simp[sx,MSt3,St,h1,h2,h3,h4,h5,h6,h7,h9,h14,h15,h18]) (by simp[sx,h19]) (by simp[sx,h20]) hB
  simp only[sx,sy,SO.run,↓reduceIte,Nat.reduceEqDiff,Nat.reduceAdd,h5,h14,hI.h5.rows,hip,hy,ry5,hoa.len,Option.isSome_some,Option.getD_some]
  refine bifP_mk (fun hb=>?_) (fun hb=>?_)
  ·have hpos:0<y.2.2.2.length:=by simpa using hb
   obtain ⟨z,hz,hzl⟩:=hin j hpos
   have z8:z.toNat<256:=z.toNat_lt
   have em:((j:Int) % (y.2.2.2.length:Int))=((j % y.2.2.2.length:Nat):Int):=by omega
   simp only[sx,sy,SO.run,↓reduceIte,Nat.reduceEqDiff,Nat.reduceAdd,h5,h14,h19,hI.h5.rows,hip,hy,ry5,hoa.len,o1,hzl,hz,u8v,em,Option.isSome_some,Option.getD_some,bin_rem .i64 (show (0:Int)≤(j:Int) by omega) (show 0<(y.2.2.2.length:Int) by omega),
    wrap64 (show -9223372036854775808≤(z.toNat:Int) by omega) (show (z.toNat:Int)<9223372036854775808 by omega)]
   exact mid _ (z.toNat:Int) (by simp[sx,MSt3,St,h1,h2,h3,h4,h5,h6,h7,h9,h14,h15,h18]) (by simp[sx,h19]) (by simp[sx]) (by omega) (by omega)
  ·simp only[sx]
   exact mid _ 0 (by simp[sx,MSt3,St,h1,h2,h3,h4,h5,h6,h7,h9,h14,h15,h18]) (by simp[sx,h19]) (by simp[sx]) (by omega) (by omega)
 ·rintro t df g ⟨rfl,ht,V,W,l,hI,hD,hl1,hl2⟩
  exact fin t g V W l ht hI hD hl1 hl2
end
end Hx
end
section
namespace Hx
open Go
noncomputable section
def szs (c:Nat→Int)(R:List (List Int))(l p:List Int):List Int:=l.map (fun x=>c x.toNat)++p.map fun x=>(R[x.toNat]?.map fun r=>(r.length:Int)).getD 0
theorem sizes_mkM {e:ME}{c:Nat→Int}{R:List (List Int)}{F N O:Nat→List Int}{l p q:List Int}{k:Int}(hl:S.places l e.n=true):S.sizes (mkM e c R F N O) ⟨k,l,p,q⟩=szs c R l p:=by
 unfold S.sizes szs
 congr 1
 refine List.map_congr_left fun x hx=>?_
 have:=places_mem hl x hx
 unfold S.cardAt
 rw[mkM_get (by omega)]
 rfl
theorem weights_len (gr q z:Int):(S.weights gr q z).length=2∨(S.weights gr q z).length=3:=by
 unfold S.weights;split
 ·exact .inl rfl
 ·exact .inr rfl
theorem szs_bound {e:ME}{c:Nat→Int}{R:List (List Int)}{N:Nat→List Int}{l p:List Int}(hF:MF e c R N)(hl:S.places l e.n=true)(hp:S.places p R.length=true):∀x∈szs c R l p,2≤x∧x≤3:=by
 intro x hx
 rcases List.mem_append.1 hx with h | h
 ·obtain ⟨y,hy,rfl⟩:=List.mem_map.1 h
  have:=places_mem hl y hy
  have:=hF.card y.toNat (by omega)
  omega
 ·obtain ⟨y,hy,rfl⟩:=List.mem_map.1 h
  have:=places_mem hp y hy
  have hlt:y.toNat<R.length:=by omega
  rw[List.getElem?_eq_getElem hlt]
  obtain ⟨q,z,-,-,-,hr⟩:=hF.roots _ (List.getElem_mem hlt)
  have:=weights_len e.gr q z
  rw[←hr] at this
  show 2≤((R[y.toNat]).length:Int)∧((R[y.toNat]).length:Int)≤3
  omega
structure MNd (e:ME) (c:Nat→Int) (R:List (List Int)) (F N O:Nat→List Int) (num:Nat→Nat) (k:Nat):Prop where
 places:S.places (F (num k)) e.n=true
 down:∀x∈F (num k),∃k',k'<k∧x=(num k':Int)
 len:(F (num k)).length≤4
 outs:(O (num k)).length=(S.all (szs c R (F (num k)) (N (num k)))).length
 out:∀x∈O (num k),0≤x∧x<c (num k)
theorem allF_len {cards:List Int}:∀{f:Nat} {v:List Int},(S.allF cards f v).length≤f
 | 0,v=>Nat.le_refl _
 | f+1,v=>by
  simp only[S.allF,List.length_cons]
  split
  ·have:=allF_len (cards:=cards) (f:=f) (v:=(S.next cards v).1);omega
  ·simp
theorem m_b19 {d:Nat}{e:ME}{r6:AV}{pl:List Int}{num:Nat→Nat}{cap:Nat}{Q:QT}(hd:0<d)(he:e.Ok)(hpr:MPr e)(hp:MN e r6 pl num)
  {t:T} {g:G} {V:Nat→AV} {W:Nat→List (List AV)} {c:Nat→Int} {ow:List Bool} {R:List (List Int)} {N:Nat→List Int} (ht:MSt e r6 t) (h14:tat t 14=.int .i64 0)
  (hI:MI e g V W c ow cap) (hD:MD e W R (fun _=>[]) N (fun _=>[])) (hF:MF e c R N) (hol:ow.length=e.n) (hon:∀i,i<e.n→ow[i]?=some true→N i≠[]) (hR6:R.length≤6) (hN3:∀i,(N i).length≤3)
  (fin:∀t g V W F O,MSt e r6 t→MI e g V W c ow cap→MD e W R F N O→(∀k,k<e.n→MNd e c R F N O num k)→Q (.exit 6) t [] g) :
  wpL (wp C0 d none f_ref33_Draft_Model_b19) Q t [] g:=by
 have hoo:=he.ord
 have hn1:=he.n1
 simp only[f_ref33_Draft_Model_b19,f_ref33_Draft_Model_k18]
 refine wpL_cnt e.n (by omega) (fun i t df g=>df=[]∧MSt e r6 t∧∃V W F O,MI e g V W c ow cap∧MD e W R F N O∧(∀k,i≤k→k<e.n→F (num k)=[]∧O (num k)=[])∧∀k,k<i→MNd e c R F N O num k)
  ⟨rfl,ht,V,W,_,_,hI,hD,fun k _ _=>⟨rfl,rfl⟩,fun k hk=>by omega⟩ h14 (by decide) (by rintro j t df g v s (rfl | rfl | rfl)<;>simp[MSt,St,sx]) ?_ ?_ ?_
 ·rintro j t df g hj ⟨rfl,⟨h1,h2,h3,h4,h5,h6,h7,h9,-⟩,hx⟩ h14
  simp only[sx,sy,SO.run,↓reduceIte,Nat.reduceEqDiff,h1,h2,h3,h4,h5,h6,h7,h9,h14,MSt,St]
  exact hx
 ·clear ht h14 hI hD
  rintro i t df g hi ⟨rfl,⟨h1,h2,h3,h4,h5,h6,h7,h9,-⟩,V,W,F,O,hI,hD,hz,hk⟩ h14
  have hil:i<pl.length:=(List.getElem?_eq_some_iff.1 (hp.at_ i hi)).1
  have hni:=hp.at_ i hi
  have hv:=hp.lt i hi
  obtain ⟨hFv,hOv⟩:=hz i (Nat.le_refl _) hi
  have hpr6:=hp.r.rows
  simp only[sx,sy,SO.run,↓reduceIte,Nat.reduceEqDiff,h6,h14,hpr6,hil,hni,ci,List.length_map,List.getElem?_map,Option.map_some,Option.isSome_some,Option.getD_some]
  generalize hve:num i=v at *
  refine m_b8 (i:=i) (v:=v) hd he hpr hp hi hv (by simp[sx,MSt2,St,h1,h2,h3,h4,h5,h6,h7,h9,h14]) (by simp[sx]) hI hD hFv ?_
  clear h1 h2 h3 h4 h5 h6 h7 h9 h14 hI hD
  rintro t g V W l ⟨h1,h2,h3,h4,h5,h6,h7,h9,h14,h15,-⟩ hI hD hl1 hl2 hl3
  have hFlen:∀i',i'<e.n→(updf F v l i').length≤4:=fun i' hi'=>by
   by_cases e1:i'=v
   ·subst e1;rw[updf_self];exact hl3
   ·rw[updf_ne _ _ e1]
    obtain ⟨k,hk1,rfl⟩:=hp.sur i' hi'
    by_cases e2:k<i
    ·exact (hk k e2).len
    ·rw[(hz k (by omega) hk1).1];simp
  have hOlen:∀i',i'<e.n→(O i').length≤1000000:=fun i' hi'=>by
   obtain ⟨k,hk1,rfl⟩:=hp.sur i' hi'
   by_cases e2:k<i
   ·rw[(hk k e2).outs]
    refine Nat.le_trans allF_len ?_
    have hb:=szs_bound hF (hk k e2).places (hF.inc _ hi')
    have:=prod_bound (l:=szs c R (F (num k)) (N (num k))) fun y hy=>by have:=hb y hy;omega
    have hl4:(szs c R (F (num k)) (N (num k))).length≤7:=by have:=(hk k e2).len;have:=hN3 (num k);simp[szs];omega
    have:=pow4_mono hl4
    have:(4:Int) ^ 7=16384:=by decide
    omega
   ·rw[(hz k (by omega) hk1).2];simp
  have hA:=hI.agg he hD (by omega) fun i' hi'=>⟨by have:=hFlen i' hi';omega,by have:=hN3 i';omega,by have:=hOlen i' hi';omega⟩
  have hb:=szs_bound hF hl1 (hF.inc v hv)
  have hll:(szs c R l (N v)).length≤7:=by have:=hN3 v;simp[szs];omega
  have hpb:=prod_bound (l:=szs c R l (N v)) fun y hy=>by have:=hb y hy;omega
  have:=pow4_mono hll
  have h47:(4:Int) ^ 7=16384:=by decide
  simp only[sx,sy,SO.run,↓reduceIte,Nat.reduceEqDiff,Nat.reduceAdd,Nat.reduceLeDiff,f_ref33_Draft_Model_k17,h4,h15,hI.h4]
  refine sat_ex (rsizes_ok (i:=v) (x:=⟨c v,l,N v,O v⟩) hd hA (by rw[mkM_get hv,updf_self]) (by simp[mkM];omega) (by simp[mkM];omega) (by simpa [mkM] using hl1) (by simpa [mkM] using hF.inc v hv)) fun r hr=>?_
  rw[sizes_mkM hl1] at hr
  simp only[sx,sy,SO.run,↓reduceIte,Nat.reduceEqDiff,Nat.reduceAdd,Nat.reduceLeDiff]
  refine sat_ex (all_ok hd (hr.sl _) (fun x hx=>by have:=hb x hx;omega) (by omega) (by omega)) fun r18 hr18=>?_
  simp only[sx,sy,SO.run,↓reduceIte,Nat.reduceEqDiff,Nat.reduceAdd,Nat.reduceLeDiff]
  refine m_b16 (e:=e) (r6:=r6) (r18:=r18) (i:=i) (v:=v) (cards:=szs c R l (N v)) (F:=updf F v l) hd he hpr hi hv hr18 (fun x hx=>by have:=hb x hx;omega) (by omega) (Nat.le_trans allF_len (by omega)) (by simp[sx,MSt3,St,h1,h2,h3,h4,h5,h6,h7,h9,h14,h15]) (by simp[sx]) (hF.card v hv) hol (fun h=>?_) (by rw[updf_self];omega) hI hD hOv ?_
  ·rw[updf_self]
   have:=List.length_pos_iff.2 (hon v hv h)
   simp[szs];omega
  clear h1 h2 h3 h4 h5 h6 h7 h9 h14 h15 hI hD hA
  rintro t g V W lo ⟨h1,h2,h3,h4,h5,h6,h7,h9,h14,h15,h18,-⟩ hI hD hlo1 hlo2
  simp only[sx,↓reduceIte,h14]
  refine ⟨⟨rfl,by simp[sx,MSt,St,h1,h2,h3,h4,h5,h6,h7,h9],V,W,_,_,hI,hD,fun k hk1 hk2=>?_,fun k hk1=>?_⟩,by simp[sx,h14]⟩
  ·have hne:num k≠v:=fun e1=>by have:=hp.inj k i hk2 hi (by rw[e1,hve]);omega
   rw[updf_ne _ _ hne,updf_ne _ _ hne]
   exact hz k (by omega) hk2
  ·by_cases e1:k=i
   ·subst e1
    exact ⟨by rw[hve,updf_self];exact hl1,by rw[hve,updf_self];exact hl2,by rw[hve,updf_self];exact hl3,by rw[hve,updf_self,updf_self];exact hlo1,by rw[hve,updf_self];exact hlo2⟩
   ·have hne:num k≠v:=fun e2=>e1 (hp.inj k i (by omega) hi (by rw[e2,hve]))
    have hkk:=hk k (by omega)
    exact ⟨by rw[updf_ne _ _ hne];exact hkk.places,by rw[updf_ne _ _ hne];exact hkk.down,by rw[updf_ne _ _ hne];exact hkk.len,by rw[updf_ne _ _ hne,updf_ne _ _ hne];exact hkk.outs,by rw[updf_ne _ _ hne];exact hkk.out⟩
 ·rintro t df g ⟨rfl,ht,V,W,F,O,hI,hD,hz,hk⟩
  exact fin t g V W F O ht hI hD hk
end
end Hx
end
section
namespace Hx
open Go
noncomputable section
structure Made (m:Causal):Prop where
 ex:∃(e:ME) (c:Nat→Int) (R:List (List Int)) (F N O:Nat→List Int) (num:Nat→Nat),m=mkM e c R F N O∧(1≤e.n∧e.n≤4)∧(2≤e.gr∧e.gr≤12)∧MF e c R N∧R.length≤6∧(∀i,(N i).length≤3) ∧
  (∀k,k<e.n→num k<e.n)∧(∀i j,i<e.n→j<e.n→num i=num j→i=j)∧(∀u,u<e.n→∃k,k<e.n∧num k=u)∧∀k,k<e.n→MNd e c R F N O num k
def MadeV:VS:=fun P k h v=>∃m,Made m∧Agg m P k h v
theorem snb_made:Snb MadeV 1:=by
 refine ⟨fun {P k h v n} d r hn=>?_,fun {k h v n} r hn=>?_⟩
 ·obtain ⟨m,hm,r⟩:=r
  obtain ⟨v',e,r'⟩:=(snb_agg m).snap d r hn
  exact ⟨v',e,m,hm,r'⟩
 ·obtain ⟨m,hm,r⟩:=r
  exact (snb_agg m).tag r hn
theorem perm_num (os:List UInt8)(n:Nat):∃num:Nat→Nat,(∀k,k<n→(S.perm os n)[k]?=some (num k:Int))∧(∀k,k<n→num k<n)∧(∀i j,i<n→j<n→num i=num j→i=j)∧∀u,u<n→∃k,k<n∧num k=u:=by
 have hp:=perm_perm os n
 have hl:=perm_len os n
 have hmem:∀x∈S.perm os n,0≤x∧x<n:=fun x hx=>by
  have:=hp.mem_iff.1 hx
  simp at this
  obtain ⟨a,ha,rfl⟩:=this
  omega
 have hnd:(S.perm os n).Nodup:=by
  rw[hp.nodup_iff]
  exact List.Pairwise.map _ (fun a b h e=>h (by omega)) (List.nodup_range (n:=n))
 have hat:∀k,k<n→(S.perm os n)[k]?=some ((((S.perm os n)[k]?.getD 0).toNat:Nat):Int):=fun k hk=>by
  have hk2:k<(S.perm os n).length:=by omega
  rw[List.getElem?_eq_getElem hk2,Option.getD_some]
  have:=hmem _ (List.getElem_mem hk2)
  congr 1;omega
 refine ⟨fun k=>((S.perm os n)[k]?.getD 0).toNat,hat,fun k hk=>?_,fun i j hi hj e=>?_,fun u hu=>?_⟩
 ·have hk2:k<(S.perm os n).length:=by omega
  have:=hmem _ (List.getElem_mem hk2)
  simp only[List.getElem?_eq_getElem hk2,Option.getD_some]
  omega
 ·have hi2:i<(S.perm os n).length:=by omega
  have hj2:j<(S.perm os n).length:=by omega
  have h1:=hmem _ (List.getElem_mem hi2)
  have h2:=hmem _ (List.getElem_mem hj2)
  simp only[List.getElem?_eq_getElem hi2,List.getElem?_eq_getElem hj2,Option.getD_some] at e
  have e2:(S.perm os n)[i]=(S.perm os n)[j]:=by omega
  rcases Nat.lt_trichotomy i j with h | h | h
  ·exact absurd e2 (List.pairwise_iff_getElem.1 hnd i j hi2 hj2 h)
  ·exact h
  ·exact absurd e2.symm (List.pairwise_iff_getElem.1 hnd j i hj2 hi2 h)
 ·have:((u:Nat):Int)∈S.perm os n:=hp.mem_iff.2 (List.mem_map.2 ⟨u,List.mem_range.2 hu,rfl⟩)
  obtain ⟨k,hk,hk2⟩:=List.mem_iff_getElem.1 this
  refine ⟨k,by omega,?_⟩
  simp only[List.getElem?_eq_getElem hk,Option.getD_some,hk2]
  omega
theorem cpy_own {g:G}{b sz:Nat}{v x:AV}{rows src:List (List AV)}{K:AV→G→Prop}{D:ADf→Prop}(hv:Own g b v sz rows)(hne:rows≠[])(hx:rowsOf g.h sz x=some src)
  (k:∀g' z,Own g' b v sz (src.take rows.length++rows.drop src.length)→g'.nx=g.nx→(∀i,vid v≠some i→g'.h.get i=g.h.get i)→K (.int .i64 z) g'):(copyA sz v x g).sat K g D:=by
 unfold copyA
 rw[hx]
 rcases hv with ⟨rfl,rfl⟩ | ⟨id,ep,lo,h1,h2,rfl,h3⟩
 ·exact absurd rfl hne
 ·dsimp only
  simp only[G.get_eq,h3,bif'_eq,show Nat.beq ep ep=true from Nat.beq_refl ep,show Nat.beq sz sz=true from Nat.beq_refl sz,lenR_eq,Bool.true_and,notb_eq,Bool.not_false,Bool.and_true,Nat.ble_eq,Nat.zero_add,Nat.le_refl,if_true]
  refine k _ _ (.inr ⟨id,ep,lo,h1,by simpa using h2,?_,?_⟩) (by simp) (fun i hi=>?_)
  ·congr 1
   simp;omega
  ·simp only[G.put_h,get_put_eq,takeR_eq]
   congr 1
   have hmin:Nat.min src.length rows.length=min src.length rows.length:=rfl
   have key:(List.take (Nat.min src.length rows.length) src).length=min src.length rows.length:=by rw[List.length_take,hmin];omega
   have e1:putRows rows 0 (List.take (Nat.min src.length rows.length) src)=(List.take (Nat.min src.length rows.length) src)++rows.drop (min src.length rows.length):=by
    unfold putRows
    split
    ·rename_i r hr
     rw[hr,setR_eq]
     rw[hr] at key
     cases rows with
     | nil=>exact absurd rfl hne
     | cons a l =>
      have:min src.length (a::l).length=1:=by rw[←key];rfl
      rw[this];rfl
    ·rw[takeR_eq,dropR_eq,lenR_eq,key];simp
   rw[e1]
   by_cases h:src.length≤rows.length
   ·rw[hmin,Nat.min_eq_left h,List.take_of_length_le (Nat.le_refl _),List.take_of_length_le h]
   ·rw[hmin,Nat.min_eq_right (by omega),List.drop_length,List.drop_of_length_le (by omega)]
  ·rw[G.put_h,get_put_ne _ _ _ (fun e=>hi (by rw[e];rfl))]
end
end Hx
end
section
namespace Hx
open Go
noncomputable section
theorem SlR.wide {α:Type} [Rp α]{P:Nat→Prop}{k k':Nat}{h h':H}{l:List α}{v:AV}(r:SlR NoP k h l v)(hk:k≤k'):SlR P k' h' l v:=by
 obtain ⟨w,hw,q⟩:=Rp.tree (P:=P) (k':=k') (h':=h') (show Rp.rp NoP k h l [v] from ⟨v,rfl,r⟩) hk
 injection hw with hw;subst hw;exact q
theorem Own.lower {g:G}{b b':Nat}{v:AV}{sz:Nat}{rows:List (List AV)}(h:Own g b v sz rows)(hb:b'≤b):Own g b' v sz rows:=by
 rcases h with h | ⟨id,ep,lo,h1,h2,h3,h4⟩
 ·exact .inl h
 ·exact .inr ⟨id,ep,lo,by omega,h2,h3,h4⟩
structure M0 (n p4 q i5 p7:Nat) (nv w5 cl:AV) (row0:List AV) (prow:List (List AV)) (gr:Int) (g:G) (cf:Nat→Int):Prop where
 h0:g.h.get 0=.cells 5 [row0] 0 false false
 h1:g.h.get 1=.cells 3 [[.int .i64 0,.nils,.nils]] 0 false false
 hN:Own g 2 nv 4 (rowsN n cf fun _=>.nils)
 h4:g.h.get p4=.cells 3 [[.int .i64 gr,.nils,nv]] 0 false false
 h5:Own g 2 w5 4 prow
 h7:g.h.get p7=.cells 2 [[cl,.int .i64 0]] 0 false false
 nx:p7<g.nx
section
variable {n p4 q i5 p7:Nat}{nv w5 cl:AV}{row0:List AV}{prow:List (List AV)}{gr:Int}{g g':G}{cf cf':Nat→Int}
theorem M0.node (h:M0 n p4 q i5 p7 nv w5 cl row0 prow gr g cf)(ho:1<q∧q<p4∧p4<i5∧i5<p7)(v5:vid w5=some i5)(vn:vid nv=some q)(hN:Own g' 2 nv 4 (rowsN n cf' fun _=>.nils))(hn:g.nx≤g'.nx)
  (hf:∀i,vid nv≠some i→g'.h.get i=g.h.get i):M0 n p4 q i5 p7 nv w5 cl row0 prow gr g' cf':=by
 have hf':∀i,i≠q→g'.h.get i=g.h.get i:=fun i hi=>hf i (by rw[vn];intro e;injection e with e;exact hi e.symm)
 have:=h.nx
 exact { h0:=by rw[hf' 0 (by omega),h.h0],h1:=by rw[hf' 1 (by omega),h.h1],hN:=hN,h4:=by rw[hf' _ (by omega),h.h4]
         h5:=h.h5.fr hn fun i hi=>hf' i (by have:=vid_inj v5 hi;omega),h7:=by rw[hf' _ (by omega),h.h7],nx:=by omega }
theorem M0.same (h:M0 n p4 q i5 p7 nv w5 cl row0 prow gr g cf)(hf:g'.h=g.h)(hn:g.nx≤g'.nx):M0 n p4 q i5 p7 nv w5 cl row0 prow gr g' cf :=
 { h0:=by rw[hf,h.h0],h1:=by rw[hf,h.h1],hN:=h.hN.fr hn fun i _=>by rw[hf],h4:=by rw[hf,h.h4],h5:=h.h5.fr hn fun i _=>by rw[hf],h7:=by rw[hf,h.h7],nx:=by have:=h.nx;omega }
end
theorem model_ok {d:Nat}{g:G}{x:DraftM}{v:AV}(hd:0<d)(hm:Agg x NoP 0 g.h v):∃r,callV C0 d N.ref33_Draft_Model [v] g=.val r∧MadeV NoP 0 .nil r:=by
 have e0:=agg_same d hm
 obtain ⟨cs,rfl,hc⟩:=hm
 obtain ⟨a,b,c,e,rfl,ha,hb,hcc,hee⟩:=rp_draftM.1 hc
 rw[call_ref33_Draft_Model]
 refine iso_run eq_ref33_Draft_Model (xs:=[.agg [u8v x.1,a,b,c,e]]) (by simp only[mapO,e0]) (by simp[f_ref33_Draft_Model]) snb_made (by decide) hd ?_
 clear e0 hc
 have ha:=ha.tree (h':=.nil) (Nat.le_refl _)
 have hb:=hb.tree (h':=.nil) (Nat.le_refl _)
 have hcc:=hcc.tree (h':=.nil) (Nat.le_refl _)
 have hee:=hee.tree (h':=.nil) (Nat.le_refl _)
 have x8:x.1.toNat<256:=x.1.toNat_lt
 obtain ⟨n,hn⟩:∃n,n=min (max x.2.1.length 1) 4:=⟨_,rfl⟩
 have hn1:1≤n∧n≤4:=by omega
 have hnI:min (max ((x.2.1.length:Nat):Int) 1) 4=(n:Int):=by omega
 obtain ⟨gr,hgr⟩:∃gr:Int,gr=2+(x.1.toNat:Int) % 11:=⟨_,rfl⟩
 have hg1:2≤gr∧gr≤12:=by omega
 simp only[f_ref33_Draft_Model,sx,sy,SO.run,↓reduceIte,Nat.reduceEqDiff,Nat.reduceAdd]
 generalize hg0:((G.empty.new (AObj.cells 5 [[u8v x.fst,a,b,c,e]] 0 false false)).new (AObj.cells 3 [[AV.int IntKind.i64 0,AV.nils,AV.nils]] 0 false false))=g0
 have f0:g0.h.get 0=.cells 5 [[u8v x.1,a,b,c,e]] 0 false false:=by rw[←hg0];simp[sx,H.get_put]
 have f1:g0.h.get 1=.cells 3 [[.int .i64 0,.nils,.nils]] 0 false false:=by rw[←hg0];simp[sx,H.get_put]
 have f2:g0.nx=2:=by rw[←hg0];simp[sx]
 clear hg0
 simp only[f_ref33_Draft_Model_r,sx,sy,sf,SO.run,↓reduceIte,Nat.reduceEqDiff,Nat.reduceAdd,Nat.reduceLeDiff,f0,ha.len,hnI,u8v,bin_rem .u8 (show (0:Int)≤(x.1.toNat:Int) by omega) (show (0:Int)<11 by decide),
  wrap64 (show -9223372036854775808≤(x.1.toNat:Int) % 11 by omega) (show (x.1.toNat:Int) % 11<9223372036854775808 by omega),wrap64 (show -9223372036854775808≤2+(x.1.toNat:Int) % 11 by omega) (show 2+(x.1.toNat:Int) % 11<9223372036854775808 by omega),←hgr,wrap64 (show -9223372036854775808≤gr by omega) (show gr<9223372036854775808 by omega)]
 refine mks_ownL (b:=2) (n:=n) (by simp[room];omega) (by simp[room];omega) (by simp[f2]) fun nv g1 hnv n1 fr1 v1 lg1=>?_
 simp only[sx,sy] at n1 fr1 v1 lg1
 have f0':g1.h.get 0=.cells 5 [[u8v x.1,a,b,c,e]] 0 false false:=by rw[fr1 0 (by omega),f0]
 have f1':g1.h.get 1=.cells 3 [[.int .i64 0,.nils,.nils]] 0 false false:=by rw[fr1 1 (by omega),f1]
 simp only[sx,sy,sf,SO.run,↓reduceIte,Nat.reduceEqDiff,Nat.reduceAdd,Nat.reduceLeDiff,hnv.cell.1,hnv.cell.2]
 refine ⟨?_,?_⟩
 ·simp only[List.reverse_cons,List.reverse_nil,List.nil_append,List.cons_append,lg1]
  refine footsOk_mk [false,false,false,false,false,false,true,false,true,true] [(0,6),(1,6),(2,6),(3,6),(4,6),(0,8),(1,8),(2,8),(3,8),(4,8),(5,8),(6,8),(7,8)] (by simp[All2,rdLook,noLook,bigLook]) (by decide) ?_
  rintro p hp x y hx hy
  simp only[List.mem_cons,List.not_mem_nil,or_false] at hp
  rcases hp with rfl | rfl | rfl | rfl | rfl | rfl | rfl | rfl | rfl | rfl | rfl | rfl | rfl<;>(simp at hx hy;subst hx;subst hy;refine apart_mk rfl rfl rfl rfl ?_ ?_ ?_<;>simp[rdLook,noLook,refIds]<;>omega)
 refine mks_own (b:=2) (n:=n) (by simp[room];omega) (by simp[room];omega) (by simp;try omega) fun w5 g2 hw5 n2 fr2 v2=>?_
 simp only[sx,sy] at n2 fr2 v2
 obtain ⟨p4,hp4⟩:∃p4,p4=g1.nx+1+1:=⟨_,rfl⟩
 rw[←hp4] at n2 fr2 v2
 have k0:g2.h.get 0=.cells 5 [[u8v x.1,a,b,c,e]] 0 false false:=by rw[fr2 0 (by omega),if_neg (by omega),if_neg (by omega),f0']
 have k1:g2.h.get 1=.cells 3 [[.int .i64 0,.nils,.nils]] 0 false false:=by rw[fr2 1 (by omega),if_neg (by omega),if_neg (by omega),f1']
 have k4:g2.h.get p4=.cells 3 [[.int .i64 gr,.nils,nv]] 0 false false:=by rw[fr2 p4 (by omega),if_pos rfl]
 have kN:Own g2 2 nv 4 (List.replicate n [AV.int IntKind.i64 0,AV.nils,AV.nils,AV.nils]):=hnv.fr (by omega) fun i hi=>by have:=vid_inj v1 hi;rw[fr2 i (by omega),if_neg (by omega),if_neg (by omega)]
 simp only[←hp4,sx,sy,sf,SO.run,↓reduceIte,Nat.reduceEqDiff,Nat.reduceAdd,Nat.reduceLeDiff,k0]
 have rA:=ha.rows
 obtain ⟨arows,ra1,ra2⟩:=rA
 have ra1:∀h',rowsOf h' 4 a=some arows:=fun h'=>by
  obtain ⟨rr,q1,-⟩:=ha.all
  have q1:∀h',rowsOf h' 4 a=some rr:=q1
  have:=(q1 .nil).symm.trans ra1
  injection this with this;subst this;exact q1 h'
 refine cpy_own hw5 (by intro h;have:=congrArg List.length h;simp at this;omega) (ra1 _) fun g3 z x5 n3 fr3=>?_
 have k0:g3.h.get 0=.cells 5 [[u8v x.1,a,b,c,e]] 0 false false:=by rw[fr3 0 (by rw[v2];intro h;injection h;omega),k0]
 have k1:g3.h.get 1=.cells 3 [[.int .i64 0,.nils,.nils]] 0 false false:=by rw[fr3 1 (by rw[v2];intro h;injection h;omega),k1]
 have k4:g3.h.get p4=.cells 3 [[.int .i64 gr,.nils,nv]] 0 false false:=by rw[fr3 p4 (by rw[v2];intro h;injection h;omega),k4]
 have kN:Own g3 2 nv 4 (List.replicate n [AV.int IntKind.i64 0,AV.nils,AV.nils,AV.nils]):=kN.fr (by omega) fun i hi=>by have:=vid_inj v1 hi;rw[fr3 i (by rw[v2];intro h;injection h;omega)]
 simp only[sx,sy,sf,SO.run,↓reduceIte,Nat.reduceEqDiff,Nat.reduceAdd,Nat.reduceLeDiff,k0]
 refine mks_ownL (b:=2) (n:=n) (by simp[room];omega) (by simp[room];omega) (by simp;omega) fun w6 g4 hw6 n4 fr4 v4 lg4=>?_
 simp only[sx,sy] at n4 fr4 v4 lg4
 have k0:g4.h.get 0=.cells 5 [[u8v x.1,a,b,c,e]] 0 false false:=by rw[fr4 0 (by omega),k0]
 have hn5:vid w5=some (p4+1+1+1):=by rw[v2]
 have k1:g4.h.get 1=.cells 3 [[.int .i64 0,.nils,.nils]] 0 false false:=by rw[fr4 1 (by omega),k1]
 have k4:g4.h.get p4=.cells 3 [[.int .i64 gr,.nils,nv]] 0 false false:=by rw[fr4 p4 (by omega),k4]
 have kN:Own g4 2 nv 4 (List.replicate n [AV.int IntKind.i64 0,AV.nils,AV.nils,AV.nils]):=kN.fr (by omega) fun i hi=>by have:=vid_inj v1 hi;rw[fr4 i (by omega)]
 have k5:=x5.fr (g':=g4) (by omega) fun i hi=>by have:=vid_inj v2 hi;rw[fr4 i (by omega)]
 simp only[sx,sy,sf,SO.run,↓reduceIte,Nat.reduceEqDiff,Nat.reduceAdd,Nat.reduceLeDiff,k0,hw6.cell.1,hw6.cell.2,hee.cell.1,hee.cell.2]
 refine sat_ex (permutation_ok (P:=fun _=>True) (k:=0) (x:=(List.replicate n (0:UInt8),(0:UInt16),x.2.2.2.2)) (Nat.succ_pos d) ⟨_,rfl,rp_draft2.2 ⟨w6,e,rfl,?_,hee.wide (Nat.le_refl _)⟩⟩) fun r6 hr6=>?_
 ·refine Own.sl (α:=UInt8) (hw6.fr (by simp;omega) fun _ _=>by simp) (by simp;omega) ?_ fun _ _=>trivial
  have:=All2.repl (R:=Rp.rp (fun _=>True) 0 g4.h) (a:=(0:UInt8)) (b:=[AV.int IntKind.u8 0]) (rp_u8.2 rfl) n
  simpa using this
 simp only[sx,sy,sf,SO.run,↓reduceIte,Nat.reduceEqDiff,Nat.reduceAdd,Nat.reduceLeDiff,foot_ref02_Draft_Permutation]
 refine ⟨?_,?_⟩
 ·simp only[List.reverse_cons,List.reverse_nil,List.nil_append,List.cons_append,lg4]
  refine footsOk_mk [false,true,false,false,false,false,false] [(1,2),(1,3)] (by simp[All2,rdLook,noLook,bigLook]) (by decide) ?_
  rintro p hp x y hx hy
  simp only[List.mem_cons,List.not_mem_nil,or_false] at hp
  rcases hp with rfl | rfl<;>(simp at hx hy;subst hx;subst hy;refine apart_mk rfl rfl rfl rfl ?_ ?_ ?_<;>simp[rdLook,noLook,refIds])
 have hpl:=hr6
 simp only[List.length_replicate,show min n 5=n by omega] at hr6
 clear hpl
 simp only[sx,sy,SO.run,↓reduceIte,Nat.reduceEqDiff,Nat.reduceAdd,Nat.reduceLeDiff,k0]
 refine listed_ok (us:=x.2.2.2.1) hcc fun g5 z5 n5 fr5=>?_
 have fr5:=fr5.2.1
 simp only[sx,sy] at z5 n5 fr5
 obtain ⟨p7,hp7⟩:∃p7,p7=g4.nx+1+1+1+1+1+1:=⟨_,rfl⟩
 rw[←hp7] at z5 n5 fr5
 simp only[←hp7,sx,sy,SO.run,↓reduceIte,Nat.reduceEqDiff,Nat.reduceAdd,Nat.reduceLeDiff]
 obtain ⟨prow,hprow⟩:∃p,p=(List.take (List.replicate n [AV.int IntKind.u8 0,AV.int IntKind.u8 0,AV.int IntKind.u8 0,AV.nils]).length arows++List.drop arows.length (List.replicate n [AV.int IntKind.u8 0,AV.int IntKind.u8 0,AV.int IntKind.u8 0,AV.nils])):=⟨_,rfl⟩
 rw[←hprow] at k5
 obtain ⟨num,hnum1,hnum2,hnum3,hnum4⟩:=perm_num x.2.2.2.2 n
 obtain ⟨q,hq⟩:∃q,q=g0.nx+1+1+1+1+1+1:=⟨_,rfl⟩
 rw[←hq] at v1 n1
 obtain ⟨i5,hi5⟩:∃i5,i5=p4+1+1+1:=⟨_,rfl⟩
 rw[←hi5] at hn5
 have ho:1<q∧q<p4∧p4<i5∧i5<p7:=by omega
 have hM:M0 n p4 q i5 p7 nv w5 c [u8v x.1,a,b,c,e] prow gr g5 (fun _=>0) :=
  { h0:=by rw[fr5 0 (by omega),k0],h1:=by rw[fr5 1 (by omega),k1],h4:=by rw[fr5 p4 (by omega),k4],h5:=k5.fr (by omega) fun i hi=>by have:=vid_inj hn5 hi;rw[fr5 i (by omega)]
    hN:=by
     have:rowsN n (fun _=>0) (fun _=>AV.nils)=List.replicate n [AV.int IntKind.i64 0,AV.nils,AV.nils,AV.nils]:=by
      show List.map (fun _=>[AV.int IntKind.i64 0,AV.nils,AV.nils,AV.nils]) (List.range n)=_
      rw[List.map_const',List.length_range]
     rw[this]
     exact kN.fr (by omega) fun i hi=>by have:=vid_inj v1 hi;rw[fr5 i (by omega)]
    h7:=z5,nx:=by omega }
 have hr6r:=hr6.rows
 have hpl:=perm_len x.2.2.2.2 n
 generalize hpp:S.perm x.2.2.2.2 n=pl at *
 have ryn:=rowy_vid v1
 have ry5:=rowy_vid hn5
 have hrow5:∀i,i<n→∃(y:Piece) (oa:AV),prow[i]?=some [u8v y.1,u8v y.2.1,u8v y.2.2.1,oa]∧SlR NoP 0 .nil y.2.2.2 oa:=fun i hi=>by
  by_cases hia:i<arows.length
  ·have hxl:=ra2.len
   obtain ⟨y,hy⟩:∃y,x.2.1[i]?=some y:=⟨_,List.getElem?_eq_getElem (by omega)⟩
   obtain ⟨row,w1,w2⟩:=ra2.get hy
   obtain ⟨oa,rfl,hoa⟩:=rp_piece.1 w2
   refine ⟨y,oa,?_,hoa.tree (Nat.le_refl _)⟩
   rw[hprow,List.length_replicate,List.getElem?_append_left (by rw[List.length_take];omega),List.getElem?_take_of_lt hi,w1]
  ·refine ⟨(0,0,0,[]),.nils,?_,by decide,rfl⟩
   rw[hprow,List.length_replicate,List.getElem?_append_right (by rw[List.length_take];omega),List.getElem?_drop,List.getElem?_replicate,if_pos (by rw[List.length_take];omega)]
   rfl
 have hprl:prow.length=n:=by
  rw[hprow,List.length_append,List.length_take,List.length_drop,List.length_replicate];omega
 simp only[f_ref33_Draft_Model_b0]
 refine wpL_cnt n (by omega) (fun j t df g=>df=[]∧St t [(1,.hptr 0 0 0 0),(2,.hptr 1 0 0 0),(3,.int .i64 (n:Int)),(4,.hptr p4 0 0 0),(5,w5),(6,r6),(7,.hptr p7 0 0 0)]∧∃cf,M0 n p4 q i5 p7 nv w5 c [u8v x.1,a,b,c,e] prow gr g cf∧∀k,k<j→cf (num k)=2)
  ⟨rfl,by simp[St,sx,hp4],_,hM,fun k hk=>by omega⟩ (by simp[sx]) (by decide) (by rintro j t df g v s (rfl | rfl | rfl)<;>simp[St,sx]) ?_ ?_ ?_
 ·rintro j t df g hj ⟨rfl,⟨h1,h2,h3,h4,h5,h6,h7,-⟩,hx⟩ h8
  simp only[sx,sy,SO.run,↓reduceIte,Nat.reduceEqDiff,h1,h2,h3,h4,h5,h6,h7,h8,St]
  exact hx
 ·clear hM
  rintro j t df g hj ⟨rfl,⟨h1,h2,h3,h4,h5,h6,h7,-⟩,cf,hM,hcf⟩ h8
  have hlt:j<pl.length:=by omega
  have hj1:=hnum1 j hj
  have hj2:=hnum2 j hj
  simp only[sx,sy,sf,SO.run,↓reduceIte,Nat.reduceEqDiff,Nat.reduceAdd,Nat.reduceLeDiff,h4,h6,h8,hM.h4,hr6r,hlt,hj1,hM.hN.rows,rowsN_len,hj2,ryn,ci,List.length_map,List.getElem?_map,Option.map_some,Option.isSome_some,Option.getD_some]
  refine store_own (row:=rowN cf (fun _=>.nils) (num j)) (row':=rowN (updf cf (num j) 2) (fun _=>.nils) (num j)) (hM.same (by simp) (by simp;omega)).hN (rowsN_get _ _ hj2) rfl rfl (by simp only[rowN,updf_self];rfl) fun g2 x2 n2 f2=>?_
  rw[rowsN_set rfl (fun i hi=>by unfold rowN;rw[updf_ne _ _ hi])] at x2
  simp only[sx,sy] at n2 f2
  have hM2:=hM.node ho hn5 v1 x2 (by omega) f2
  simp only[sx,sy,sf,SO.run,↓reduceIte,Nat.reduceEqDiff,Nat.reduceAdd,Nat.reduceLeDiff]
  refine ⟨?_,?_⟩
  ·simp only[List.reverse_cons,List.reverse_nil,List.nil_append,List.cons_append]
   exact footsOk_mk [false,false,false,false,false,false,false,false,true] [] (by simp[All2,rdLook,noLook,bigLook]) (by decide) (by simp)
  ·simp only[sx,sy,SO.run,↓reduceIte,Nat.reduceEqDiff,h1,h2,h3,h4,h5,h6,h7,h8,St]
   refine ⟨_,hM2.same (by simp) (by simp),fun k hk=>?_⟩
   by_cases e1:num k=num j
   ·rw[e1,updf_self]
   ·rw[updf_ne _ _ e1]
    exact hcf k (by have:k≠j:=fun e2=>e1 (by rw[e2]);omega)
 ·clear hM
  rintro t df g ⟨rfl,⟨h1,h2,h3,h4,h5,h6,h7,-⟩,cf,hM,hcf⟩
  have hcf2:∀i,i<n→cf i=2:=fun i hi=>by obtain ⟨k,hk,rfl⟩:=hnum4 i hi;exact hcf k hk
  have rest:∀(t:T) (g:G) (cf:Nat→Int),St t [(1,.hptr 0 0 0 0),(2,.hptr 1 0 0 0),(3,.int .i64 (n:Int)),(4,.hptr p4 0 0 0),(5,w5),(6,r6),(7,.hptr p7 0 0 0)]→M0 n p4 q i5 p7 nv w5 c [u8v x.1,a,b,c,e] prow gr g cf→(∀i,i<n→cf i=2∨cf i=3) →
    wp C0 (d+1) none f_ref33_Draft_Model_k23 (fnQ C0 (d+1) [SR.cell true 3 2] fun v g'=>∃P,MadeV P 0 g'.h v) t [] g:=by
   clear h1 h2 h3 h4 h5 h6 h7 hM hcf hcf2
   rintro t g cf ⟨h1,h2,h3,h4,h5,h6,h7,-⟩ hM hcf
   simp only[f_ref33_Draft_Model_k23,sx,sy,SO.run,↓reduceIte,Nat.reduceEqDiff,Nat.reduceAdd,h3]
   have hnx:=hM.nx
   refine mks_own (b:=g.nx) (n:=n) (by simp[room];omega) (by simp[room];omega) (Nat.le_refl _) fun w9 ga hw9 n9 fr9 v9=>?_
   obtain ⟨em,hem⟩:∃em:ME,em=⟨n,p4,q,i5,p7,g.nx,g.nx+1,nv,w5,w9,c,gr,[u8v x.1,a,b,c,e],prow,x.2.2.2.1⟩:=⟨_,rfl⟩
   have e_n:em.n=n:=by rw[hem]
   have e_gr:em.gr=gr:=by rw[hem]
   have he:em.Ok:=by
    rw[hem]
    exact { ord:=⟨ho.1,ho.2.1,ho.2.2.1,ho.2.2.2,hnx,Nat.lt_succ_self _⟩,n1:=hn1,g1:=hg1,vn:=v1,v5:=hn5,v9:=v9,l7:=hcc }
   have hpr:MPr em:=by rw[hem];exact ⟨hprl,hrow5⟩
   have hN:MN em r6 pl num:=by rw[hem];exact ⟨hr6,hnum1,hnum2,hnum3,hnum4⟩
   have hI:MI em ga (fun _=>.nils) (fun _=>[]) cf (List.replicate em.n false) 0:=by
    rw[hem]
    exact { h0:=by rw[fr9 0 (by omega),hM.h0],h1:=by rw[fr9 1 (by omega),hM.h1],h4:=by show ga.h.get p4=_;rw[fr9 p4 (by omega),hM.h4]
            h5:=(hM.h5.fr (by omega) fun i hi=>fr9 i (hM.h5.lt hi).2).lower (Nat.zero_le _),hN:=(hM.hN.fr (by omega) fun i hi=>fr9 i (hM.hN.lt hi).2).lower (Nat.zero_le _)
            h7:=⟨0,Int.le_refl _,Int.le_refl _,by show ga.h.get p7=_;rw[fr9 p7 (by omega),hM.h7]⟩
            h9:=by rw[List.map_replicate];exact hw9.lower (Nat.zero_le _)
            fam:=⟨fun k _=>.inl ⟨rfl,rfl⟩,fun k l _ _ _ id h=>by cases h⟩,nx:=by show g.nx+1≤ga.nx;omega }
   have hD:MD em (fun _=>[]) [] (fun _=>[]) (fun _=>[]) (fun _=>[]):=⟨trivial,fun _ _=>rfl,fun _ _=>rfl,fun _ _=>rfl⟩
   simp only[sx,sy,SO.run,↓reduceIte,Nat.reduceEqDiff,Nat.reduceAdd]
   refine m_b2 (r6:=r6) (Nat.succ_pos d) he hpr (by simp[MSt,St,sx,hem,h1,h2,h3,h4,h5,h6,h7]) (by simp[sx]) hI hD (by rw[e_n];exact hcf) ?_
   clear hI hD h1 h2 h3 h4 h5 h6 h7
   intro t g V W ow R N ht hI hD hF hol hon hR4 hN1
   obtain ⟨h1,h2,h3,h4,h5,h6,h7,h9,-⟩:=ht
   simp only[f_ref33_Draft_Model_k22,sx,sy,SO.run,↓reduceIte,Nat.reduceEqDiff,Nat.reduceAdd]
   refine m_b4 (r6:=r6) (us:=x.2.2.1) (Nat.succ_pos d) he (g0:=u8v x.1) (x0:=a) (b1:=b) (c0:=c) (e0:=e) (by rw[hem]) hb (by simp[MSt,St,sx,h1,h2,h3,h4,h5,h6,h7,h9]) (by simp[sx]) hI hD hF hon hR4 hN1 ?_
   clear hI hD hF hon h1 h2 h3 h4 h5 h6 h7 h9 hN1
   intro t g V W R N ht hI hD hF hon hR6 hN3
   obtain ⟨h1,h2,h3,h4,h5,h6,h7,h9,-⟩:=ht
   simp only[f_ref33_Draft_Model_k21,sx,sy,SO.run,↓reduceIte,Nat.reduceEqDiff,Nat.reduceAdd]
   refine m_b19 (r6:=r6) (Nat.succ_pos d) he hpr hN (by simp[MSt,St,sx,h1,h2,h3,h4,h5,h6,h7,h9]) (by simp[sx]) hI hD hF hol hon hR6 hN3 ?_
   clear hI hD h1 h2 h3 h4 h5 h6 h7 h9
   intro t g V W F O ht hI hD hnd
   obtain ⟨h1,h2,h3,h4,h5,h6,h7,h9,-⟩:=ht
   have hA:=hI.agg he hD (by omega) fun i hi=>by
    obtain ⟨k,hk,rfl⟩:=hN.sur i hi
    refine ⟨by have:=(hnd k hk).len;omega,by have:=hN3 (num k);omega,?_⟩
    rw[(hnd k hk).outs]
    refine Nat.le_trans allF_len ?_
    have hb:=szs_bound hF (hnd k hk).places (hF.inc _ hi)
    have:=prod_bound (l:=szs cf R (F (num k)) (N (num k))) fun y hy=>by have:=hb y hy;omega
    have hl4:(szs cf R (F (num k)) (N (num k))).length≤7:=by have:=(hnd k hk).len;have:=hN3 (num k);simp[szs];omega
    have:=pow4_mono hl4
    have:(4:Int) ^ 7=16384:=by decide
    omega
   have hbb:=hI.nx
   simp only[f_ref33_Draft_Model_k20,sx,sy,SO.run,↓reduceIte,Nat.reduceEqDiff,Nat.reduceAdd,Nat.reduceLeDiff,h2,h4,hI.h4,hI.h1]
   refine ⟨fun i=>1<i,_,⟨em,cf,R,F,N,O,num,rfl,he.n1,he.g1,hF,hR6,hN3,hN.lt,hN.inj,hN.sur,hnd⟩,?_⟩
   obtain ⟨cs,hcs,hA⟩:=hA
   exact ⟨cs,hcs,Rp.mono hA (fun i hi=>⟨hi,by rw[get_put_ne _ _ _ (by omega)]⟩) (Nat.le_refl _)⟩
  obtain ⟨y,oa,hy,hoa⟩:=hrow5 0 (by omega)
  have hjp:0<prow.length:=by omega
  have z0:=hnum1 0 (by omega)
  have z1:=hnum2 0 (by omega)
  have hlt:0<pl.length:=by omega
  have ix5:∀g':G,(rowsOf g'.h 4 w5).isSome=true→0<((rowsOf g'.h 4 w5).getD []).length→ixsV 4 w5 (.int .i64 0) g'=.val (rptr 4 w5 0 0):=fun g' q1 q2=>ixs_nat (i:=0) q1 q2
  have ix6:∀g':G,(rowsOf g'.h 1 r6).isSome=true→0<((rowsOf g'.h 1 r6).getD []).length→ixsV 1 r6 (.int .i64 0) g'=.val (rptr 1 r6 0 0):=fun g' q1 q2=>ixs_nat (i:=0) q1 q2
  simp only[f_ref33_Draft_Model_k24,sx,sy,SO.run,↓reduceIte,Nat.reduceEqDiff,Nat.reduceAdd,h5,ix5,hM.h5.rows,hjp,hy,ry5,u8v,Option.isSome_some,Option.getD_some,bin_rem .u8 (show (0:Int)≤(y.1.toNat:Int) by omega) (show (0:Int)<3 by decide)]
  refine bifP_mk (fun hb=>?_) (fun hb=>?_)
  ·simp only[sx,sy,sf,SO.run,↓reduceIte,Nat.reduceEqDiff,Nat.reduceAdd,Nat.reduceLeDiff,h4,h6,ix6,hM.h4,hr6r,hlt,z0,hM.hN.rows,rowsN_len,z1,ryn,ci,List.length_map,List.getElem?_map,Option.map_some,Option.isSome_some,Option.getD_some]
   refine store_own (row:=rowN cf (fun _=>.nils) (num 0)) (row':=rowN (updf cf (num 0) 3) (fun _=>.nils) (num 0)) (hM.same (by simp) (by simp;omega)).hN (rowsN_get _ _ z1) rfl rfl (by simp only[rowN,updf_self];rfl) fun g2 x2 n2 f2=>?_
   rw[rowsN_set rfl (fun i hi=>by unfold rowN;rw[updf_ne _ _ hi])] at x2
   simp only[sx,sy] at n2 f2
   have hM2:=hM.node ho hn5 v1 x2 (by omega) f2
   simp only[sx,sy,sf,SO.run,↓reduceIte,Nat.reduceEqDiff,Nat.reduceAdd,Nat.reduceLeDiff]
   refine ⟨?_,?_⟩
   ·simp only[List.reverse_cons,List.reverse_nil,List.nil_append,List.cons_append]
    exact footsOk_mk [false,false,false,false,false,false,false,true] [] (by simp[All2,rdLook,noLook,bigLook]) (by decide) (by simp)
   ·refine rest _ _ _ (by simp[St,sx,h1,h2,h3,h4,h5,h6,h7]) (hM2.same (by simp) (by simp)) fun i hi=>?_
    by_cases e1:i=num 0
    ·subst e1;rw[updf_self];exact .inr rfl
    ·rw[updf_ne _ _ e1];exact .inl (hcf2 i hi)
  ·simp only[sx]
   exact rest _ _ cf (by simp[St,sx,h1,h2,h3,h4,h5,h6,h7]) hM fun i hi=>.inl (hcf2 i hi)
end
end Hx
end
section
namespace Hx
open Go
noncomputable section
def eid:AV→Option Nat
 | .hsl id _ _ _ _=>some id
 | .hptr id _ _ _=>some id
 | _=>none
def Bx (g:G)(b:Nat)(v:AV)(row:List AV):Prop:=∃id,b≤id∧id<g.nx∧v=.hptr id 0 0 0∧g.h.get id=.cells row.length [row] 0 false false
inductive En where
 | sl (sz:Nat) (rows:List (List AV))
 | bx (row:List AV)
def En.ok (g:G)(b:Nat)(v:AV):En→Prop
 | .sl sz rows=>Own g b v sz rows
 | .bx row=>Bx g b v row
theorem eid_own {g:G}{b:Nat}{v:AV}{sz:Nat}{rows:List (List AV)}(h:Own g b v sz rows):eid v=vid v:=by
 rcases h with ⟨rfl,-⟩ | ⟨id,ep,lo,h1,h2,rfl,h3⟩<;>rfl
theorem En.lt {g:G}{b:Nat}{v:AV}{e:En}(h:e.ok g b v){i:Nat}(hi:eid v=some i):b≤i∧i<g.nx:=by
 cases e with
 | sl sz rows =>
  have h:Own g b v sz rows:=h
  rw[eid_own h] at hi;exact h.lt hi
 | bx row =>
  obtain ⟨id,h1,h2,rfl,h3⟩:=h
  injection hi with hi;subst hi;exact ⟨h1,h2⟩
theorem En.fr {g g':G}{b:Nat}{v:AV}{e:En}(h:e.ok g b v)(hn:g.nx≤g'.nx)(hf:∀i,eid v=some i→g'.h.get i=g.h.get i):e.ok g' b v:=by
 cases e with
 | sl sz rows =>
  have h:Own g b v sz rows:=h
  exact h.fr hn fun i hi=>hf i (by rw[eid_own h];exact hi)
 | bx row =>
  obtain ⟨id,h1,h2,rfl,h3⟩:=h
  exact ⟨id,h1,by omega,rfl,by rw[hf id rfl,h3]⟩
section
variable {κ:Type}
structure Hp (g:G) (b:Nat) (L:κ→Prop) (V:κ→AV) (E:κ→En):Prop where
 ok:∀k,L k→(E k).ok g b (V k)
 sep:∀k l,L k→L l→k≠l→∀id,eid (V k)=some id→eid (V l)≠some id
 nx:b≤g.nx
variable {g g':G}{b:Nat}{L L':κ→Prop}{V:κ→AV}{E:κ→En}{k:κ}
theorem Hp.sub (h:Hp g b L V E)(hl:∀k,L' k→L k):Hp g b L' V E:=⟨fun k hk=>h.ok k (hl k hk),fun k l hk hl2=>h.sep k l (hl k hk) (hl l hl2),h.nx⟩
theorem Hp.step (h:Hp g b L V E)(hn:g.nx≤g'.nx)(hf:∀i,b≤i→i<g.nx→g'.h.get i=g.h.get i):Hp g' b L V E :=
 ⟨fun k hk=>En.fr (h.ok k hk) hn fun i hi=>hf i (En.lt (h.ok k hk) hi).1 (En.lt (h.ok k hk) hi).2,h.sep,Nat.le_trans h.nx hn⟩
theorem Hp.same (h:Hp g b L V E)(hf:g'.h=g.h)(hn:g.nx≤g'.nx):Hp g' b L V E:=h.step hn fun i _ _=>by rw[hf]
theorem Hp.own (h:Hp g b L V E)(hk:L k){sz:Nat}{rows:List (List AV)}(he:E k=.sl sz rows):Own g b (V k) sz rows:=by
 have:=h.ok k hk;rw[he] at this;exact this
theorem Hp.box (h:Hp g b L V E)(hk:L k){row:List AV}(he:E k=.bx row):Bx g b (V k) row:=by
 have:=h.ok k hk;rw[he] at this;exact this
end
section
variable {κ:Type} [DecidableEq κ]
def ups {α:Type}(f:κ→α)(k:κ)(x:α):κ→α:=fun j=>if j=k then x else f j
theorem ups_self {α:Type}(f:κ→α)(k:κ)(x:α):ups f k x k=x:=if_pos rfl
theorem ups_ne {α:Type}(f:κ→α){k j:κ}(x:α)(h:j≠k):ups f k x j=f j:=if_neg h
theorem ups_eq {α:Type}{f:κ→α}{k:κ}{x:α}(h:f k=x):ups f k x=f:=by
 funext j;by_cases e:j=k
 ·subst e;rw[ups_self,h]
 ·exact ups_ne _ _ e
variable {g g':G}{b:Nat}{L L':κ→Prop}{V:κ→AV}{E:κ→En}{k:κ}
theorem Hp.set (h:Hp g b L V E){v':AV}{e':En}(hk:L k)(ho:e'.ok g' b v')(hn:g.nx≤g'.nx)(hf:∀i,b≤i→i<g.nx→eid (V k)≠some i→g'.h.get i=g.h.get i)
  (hv:eid v'=eid (V k)∨∃i,eid v'=some i∧g.nx≤i):Hp g' b L (ups V k v') (ups E k e'):=by
 refine ⟨fun j hj=>?_,fun j l hj hl hne id e1 e2=>?_,Nat.le_trans h.nx hn⟩
 ·by_cases e:j=k
  ·subst e;rw[ups_self,ups_self];exact ho
  ·rw[ups_ne _ _ e,ups_ne _ _ e]
   exact En.fr (h.ok j hj) hn fun i hi=>hf i (En.lt (h.ok j hj) hi).1 (En.lt (h.ok j hj) hi).2 fun e2=>h.sep j k hj hk e i hi e2
 ·have key:∀j,L j→j≠k→∀id,eid (V j)=some id→eid v'≠some id:=fun j hj hne id e1 e2=>by
   rcases hv with hv | ⟨i,hv,hi⟩
   ·exact h.sep j k hj hk hne id e1 (hv ▸ e2)
   ·rw[hv] at e2;injection e2 with e2;have:=(En.lt (h.ok j hj) e1).2;omega
  by_cases a:j=k
  ·subst a
   rw[ups_self] at e1
   rw[ups_ne _ _ (Ne.symm hne)] at e2
   exact key l hl (Ne.symm hne) id e2 e1
  ·rw[ups_ne _ _ a] at e1
   by_cases c:l=k
   ·subst c;rw[ups_self] at e2;exact key j hj a id e1 e2
   ·rw[ups_ne _ _ c] at e2;exact h.sep j l hj hl hne id e1 e2
theorem Hp.add (h:Hp g b L V E){v':AV}{e':En}(hk:¬L k)(ho:e'.ok g' b v')(hn:g.nx≤g'.nx)(hf:∀i,b≤i→i<g.nx→g'.h.get i=g.h.get i)
  (hv:∀i,eid v'=some i→g.nx≤i) (hl:∀j,L' j→L j∨j=k):Hp g' b L' (ups V k v') (ups E k e'):=by
 refine ⟨fun j hj=>?_,fun j l hj hl2 hne id e1 e2=>?_,Nat.le_trans h.nx hn⟩
 ·rcases hl j hj with hj | rfl
  ·have e:j≠k:=fun e=>hk (e ▸ hj)
   rw[ups_ne _ _ e,ups_ne _ _ e]
   exact En.fr (h.ok j hj) hn fun i hi=>hf i (En.lt (h.ok j hj) hi).1 (En.lt (h.ok j hj) hi).2
  ·rw[ups_self,ups_self];exact ho
 ·have key:∀j,L j→∀id,eid (V j)=some id→eid v'≠some id:=fun j hj id e1 e2=>by
   have:=hv id e2;have:=(En.lt (h.ok j hj) e1).2;omega
  rcases hl j hj with hj | rfl
  ·have e:j≠k:=fun e=>hk (e ▸ hj)
   rw[ups_ne _ _ e] at e1
   rcases hl l hl2 with hl2 | rfl
   ·have e':l≠k:=fun e=>hk (e ▸ hl2)
    rw[ups_ne _ _ e'] at e2
    exact h.sep j l hj hl2 hne id e1 e2
   ·rw[ups_self] at e2;exact key j hj id e1 e2
  ·rw[ups_self] at e1
   rcases hl l hl2 with hl2 | rfl
   ·have e':l≠j:=fun e=>hne e.symm
    rw[ups_ne _ _ e'] at e2
    exact key l hl2 id e2 e1
   ·exact hne rfl
theorem Own.new {g:G}{b:Nat}(hb:b≤g.nx)(sz:Nat)(rows:List (List AV)):Own (g.new (.cells sz rows 0 false false)) b (.hsl g.nx 0 0 rows.length none) sz rows :=
 .inr ⟨g.nx,0,false,hb,by simp,rfl,by simp[get_put_eq]⟩
theorem Hp.app (h:Hp g b L V E)(hk:L k){sz bytes:Nat}{rows new:List (List AV)}(he:E k=.sl sz rows){x:AV}{K:AV→G→Prop}{D:ADf→Prop}(hx:rowsOf g.h sz x=some new)
  (hr:(rows.length+new.length)*bytes≤room)
  (kk:∀v' g',Hp g' b L (ups V k v') (ups E k (.sl sz (rows++new)))→g.nx≤g'.nx→(∀i,i<b→g'.h.get i=g.h.get i)→(∀i,i<g.nx→eid (V k)≠some i→g'.h.get i=g.h.get i)→(∀i∈g'.lg,i∈g.lg∨b≤i)→v'.cells=[v']→v'.isTup=false→K v' g') :
  (appendA sz bytes (V k) x g).sat K g D:=by
 have ho:=h.own hk he
 refine append_own ho hx h.nx hr fun v' g' hv' hn hf hvid hlg=>?_
 refine kk v' g' (h.set hk (e':=.sl sz (rows++new)) hv' hn (fun i _ hi hne=>hf i hi (by rw[←eid_own ho];exact hne)) ?_) hn (fun i hi=>hf i (Nat.lt_of_lt_of_le hi h.nx) fun e=>by have:=(ho.lt e).1;omega)
  (fun i hi hne=>hf i hi (by rw[←eid_own ho];exact hne)) hlg hv'.cell.1 hv'.cell.2
 rw[eid_own hv',eid_own ho];exact hvid
theorem Hp.put (h:Hp g b L V E)(hk:L k){sz n i off:Nat}{rows:List (List AV)}{row row':List AV}(he:E k=.sl sz rows){x:AV}{K:AV→G→Prop}{D:ADf→Prop}(hr:rows[i]?=some row)
  (hl:x.cells.length=n) (ht:x.isTup=false) (hp:putCells row off x.cells=some row')
  (kk:∀g',Hp g' b L V (ups E k (.sl sz (rows.set i row')))→g'.nx=g.nx→(∀i,i<b→g'.h.get i=g.h.get i)→(∀i,eid (V k)≠some i→g'.h.get i=g.h.get i)→K .undef g'):(storeV n (rptr sz (V k) i off) x g).sat K g D:=by
 have ho:=h.own hk he
 refine store_own ho hr hl ht hp fun g' hv' hn hf=>?_
 have:=h.set hk (e':=.sl sz (rows.set i row')) hv' (by omega) (fun i _ hi hne=>hf i (by rw[←eid_own ho];exact hne)) (.inl rfl)
 rw[ups_eq (f:=V) rfl] at this
 exact kk g' this hn (fun i hi=>hf i fun e=>by have:=(ho.lt e).1;omega) fun i hne=>hf i (by rw[←eid_own ho];exact hne)
end
end
end Hx
end
section
namespace Hx
open Go
noncomputable section
theorem seq_cut {C:Cfg}{d:Nat}{rd:Option Nat}{l:List SI}{b:SC}{Q:QT}{t:T}{df:List ADf}{g:G}{P:PT}(h1:wpO C d rd l P t df g)(h2:∀t df g,P t df g→wp C d rd b Q t df g):wp C d rd (.seq (.ops l) b) Q t df g:=by
 rw[wp_seq]
 have:wp C d rd (.ops l) (fun e t df g=>e=.norm∧P t df g) t df g:=by rw[wp_ops];simpa using h1
 refine wp_mono _ this ?_
 rintro e t df g ⟨rfl,h⟩
 exact h2 t df g h
structure Bnd (K:Nat) (m:Causal):Prop where
 r:m.roots.length≤K
 rr:∀x∈m.roots,x.length≤K
 n:m.nodes.length≤K
 f:∀x∈m.nodes,x.frm.length≤K∧x.noise.length≤K∧x.out.length≤K
abbrev Ky:Type:=Nat×Nat
def LB (R n:Nat):Ky→Prop:=fun k=>(k.1=0∧k.2<R)∨(1≤k.1∧k.1≤3∧k.2<n)∨k=(4,0)∨k=(4,1)
structure BD (K R n:Nat) (V:Ky→AV) (E:Ky→En) (Rt:Nat→List Int) (c:Nat→Int) (F:Nat→Nat→List Int):Prop where
 r:∀i,i<R→E (0,i)=.sl 1 ((Rt i).map ci)∧(Rt i).length≤K
 f:∀q i,1≤q→q≤3→i<n→E (q,i)=.sl 1 ((F q i).map ci)∧(F q i).length≤K
 rs:E (4,0)=.sl 1 ((List.range R).map fun i=>[V (0,i)])
 ns:E (4,1)=.sl 4 ((List.range n).map fun i=>[.int .i64 (c i),V (1,i),V (2,i),V (3,i)])
def BB (g:G)(brow:List AV)(gr:Int)(a b:AV):Prop:=g.h.get 0=.cells 4 [brow] 0 false false∧g.h.get 1=.cells 3 [[.int .i64 gr,a,b]] 0 false false∧g.h.get 2=.cells 3 [[.int .i64 0,.nils,.nils]] 0 false false
theorem BB.fr {g g':G}{brow:List AV}{gr:Int}{a b:AV}(h:BB g brow gr a b)(hf:∀i,i<3→g'.h.get i=g.h.get i):BB g' brow gr a b :=
 ⟨by rw[hf 0 (by omega),h.1],by rw[hf 1 (by omega),h.2.1],by rw[hf 2 (by omega),h.2.2]⟩
def LX (R j:Nat):Ky→Prop:=fun k=>LB R j k∨k=(5,0)∨k=(1,j)∨k=(2,j)∨k=(3,j)
structure NB (R j p:Nat) (g:G) (brow:List AV) (gr:Int) (a b:AV) (V0:Ky→AV) (E0:Ky→En) (card:Int) (f1 f2 f3:List Int) (V:Ky→AV) (E:Ky→En) (K:Nat):Prop where
 hp:Hp g 3 (LX R j) V E
 bb:BB g brow gr a b
 vb:V (5,0)=.hptr p 0 0 0
 bx:E (5,0)=.bx [.int .i64 card,V (1,j),V (2,j),V (3,j)]
 e1:E (1,j)=.sl 1 (f1.map ci)
 e2:E (2,j)=.sl 1 (f2.map ci)
 e3:E (3,j)=.sl 1 (f3.map ci)
 old:∀k,LB R j k→V k=V0 k∧E k=E0 k
 len:f1.length≤K∧f2.length≤K∧f3.length≤K
end
end Hx
end
section
namespace Hx
open Go
noncomputable section
def upto (f:Nat→Int)(n i:Nat):List Int:=(List.range n).map fun j=>if j<i then f j else 0
theorem upto_len (f:Nat→Int)(n i:Nat):(upto f n i).length=n:=by simp[upto]
theorem upto_zero (f:Nat→Int)(n:Nat):upto f n 0=List.replicate n 0:=by
 refine List.ext_getElem (by simp[upto]) fun i h1 h2=>by simp[upto]
theorem upto_all (f:Nat→Int)(n:Nat):upto f n n=(List.range n).map f:=by
 refine List.ext_getElem (by simp[upto]) fun i h1 h2=>?_
 have:i<n:=by simpa [upto] using h1
 simp[upto,this]
theorem upto_set {f:Nat→Int}{n i:Nat}:(upto f n i).set i (f i)=upto f n (i+1):=by
 refine List.ext_getElem (by simp[upto]) fun j h1 h2=>?_
 rw[List.getElem_set]
 simp only[upto,List.getElem_map,List.getElem_range]
 split
 ·rename_i e;subst e;rw[if_pos (by omega)]
 ·rename_i e
  by_cases h:j<i
  ·rw[if_pos h,if_pos (by omega)]
  ·rw[if_neg h,if_neg (by omega)]
theorem upto_row {f:Nat→Int}{n i j:Nat}(hj:j<n):∃y,((upto f n i).map ci)[j]?=some (ci y) :=
 ⟨(upto f n i)[j]'(by rw[upto_len];exact hj),by rw[List.getElem?_map,List.getElem?_eq_getElem (by rw[upto_len];exact hj)];rfl⟩
def S.tabW (m:Causal)(al:List Int):Nat→List Int
 | 0=>List.replicate (S.cards m).toNat 0
 | j+1=>(S.tabW m al j).set (S.idx (m.nodes.map (·.card)) (S.run m (S.values (S.lens m) (j:Int)) al)).toNat
   (IntKind.wrap .i64 ((S.tabW m al j)[(S.idx (m.nodes.map (·.card)) (S.run m (S.values (S.lens m) (j:Int)) al)).toNat]?.getD 0+S.weight m (j:Int)))
theorem tabW_len (m:Causal)(al:List Int):∀j,(S.tabW m al j).length=(S.cards m).toNat
 | 0=>by simp[S.tabW]
 | j+1=>by simp[S.tabW,tabW_len m al j]
def S.table (m:Causal)(al:List Int):Factor:=⟨(List.range m.nodes.length).map (fun i:Nat=>(i:Int)),m.nodes.map (·.card),S.tabW m al (S.hidden m).toNat⟩
def S.ttable (m:Causal)(al:List Int):Factor:=if S.readE m [al]=0 then S.table m al else ⟨[],[],[]⟩
theorem run_inC {m:Causal}{al roots:List Int}(hck:S.check m=true)(hr:InC (S.lens m) roots)(ha:S.act m al=true):InC (m.nodes.map (·.card)) (S.run m roots al):=by
 refine inC_of (by simp[S.run]) fun i c v hc hv=>?_
 have hi:i<m.nodes.length:=by have:=(List.getElem?_eq_some_iff.1 hc).1;simpa using this
 have hx:=List.getElem?_eq_getElem hi
 rw[List.getElem?_map,hx] at hc
 rw[S.run,List.getElem?_map,List.getElem?_range hi] at hv
 injection hc with hc;injection hv with hv
 rw[←hc,←hv]
 exact sol_bound hck hr ha (sol_V hck roots al) i _ hx
theorem card_bound {m:Causal}(hck:S.check m=true):∀c∈m.nodes.map (·.card),1≤c∧c≤4:=fun c hc=>by
 obtain ⟨x,hx,rfl⟩:=List.mem_map.1 hc;exact (check_facts hck).1.card x hx
theorem cards_max {m:Causal}(hck:S.check m=true):1≤S.cards m∧S.cards m≤1024:=by
 obtain ⟨hs,hgr,hn1,hro,hno⟩:=check_facts hck
 have hb:=prod_bound (card_bound hck)
 simp only[S.nodesOk,Bool.and_eq_true,decide_eq_true_eq] at hno
 exact ⟨hb.1,hno.2⟩
theorem tab_idx {m:Causal}{al:List Int}(hck:S.check m=true)(ha:S.act m al=true){j:Int}(hj:0≤j) :
  0≤S.idx (m.nodes.map (·.card)) (S.run m (S.values (S.lens m) j) al)∧S.idx (m.nodes.map (·.card)) (S.run m (S.values (S.lens m) j) al)<S.cards m :=
 idx_bound (card_bound hck) (run_inC hck (values_inC (fun c hc=>by have:=lens_bound (check_facts hck).1 c hc;omega) hj) ha)
structure TI (g:G) (q:Nat) (m:Causal) (k1 k2 act u1 u2 u3:AV) (A B W:List Int):Prop where
 a1:g.h.get 1=.cells 1 [[act]] 0 false false
 a2:g.h.get 2=.cells 3 [[.nils,.nils,.nils]] 0 false false
 a4:g.h.get 4=.cells 4 [[.int .i64 m.grain,k1,k2,.int .i64 (S.hidden m)]] 0 false false
 bq:g.h.get q=.cells 3 [[u1,u2,u3]] 0 false false
 o1:Own g 5 u1 1 (A.map ci)
 o2:Own g 5 u2 1 (B.map ci)
 o3:Own g 5 u3 1 (W.map ci)
 q5:5≤q∧q<g.nx
 n1:∀i,vid u1=some i→i≠q∧vid u2≠some i∧vid u3≠some i
 n2:∀i,vid u2=some i→i≠q∧vid u3≠some i
 n3:∀i,vid u3=some i→i≠q
section
variable {g g':G}{q:Nat}{m:Causal}{k1 k2 act u1 u2 u3:AV}{A B W:List Int}
theorem TI.fr (h:TI g q m k1 k2 act u1 u2 u3 A B W)(hn:g.nx≤g'.nx)(hf:∀i,i<g.nx→g'.h.get i=g.h.get i):TI g' q m k1 k2 act u1 u2 u3 A B W:=by
 have q5:=h.q5
 exact ⟨by rw[hf _ (by omega),h.a1],by rw[hf _ (by omega),h.a2],by rw[hf _ (by omega),h.a4],by rw[hf _ (by omega),h.bq],h.o1.fr hn fun i hi=>hf i (h.o1.lt hi).2,h.o2.fr hn fun i hi=>hf i (h.o2.lt hi).2,
  h.o3.fr hn fun i hi=>hf i (h.o3.lt hi).2,by omega,h.n1,h.n2,h.n3⟩
theorem TI.set1 (h:TI g q m k1 k2 act u1 u2 u3 A B W){A':List Int}(o:Own g' 5 u1 1 (A'.map ci))(hn:g.nx≤g'.nx)(hf:∀i,i<g.nx→vid u1≠some i→g'.h.get i=g.h.get i):TI g' q m k1 k2 act u1 u2 u3 A' B W:=by
 have q5:=h.q5
 have lt:=fun i hi=>h.o1.lt (i:=i) hi
 exact ⟨by rw[hf _ (by omega) (fun e=>by have:=lt _ e;omega),h.a1],by rw[hf _ (by omega) (fun e=>by have:=lt _ e;omega),h.a2],by rw[hf _ (by omega) (fun e=>by have:=lt _ e;omega),h.a4],by rw[hf _ (by omega) (fun e=>(h.n1 _ e).1 rfl),h.bq],o,
  h.o2.fr hn fun i hi=>hf i (h.o2.lt hi).2 fun e=>(h.n1 _ e).2.1 hi,h.o3.fr hn fun i hi=>hf i (h.o3.lt hi).2 fun e=>(h.n1 _ e).2.2 hi,by omega,h.n1,h.n2,h.n3⟩
theorem TI.set2 (h:TI g q m k1 k2 act u1 u2 u3 A B W){B':List Int}(o:Own g' 5 u2 1 (B'.map ci))(hn:g.nx≤g'.nx)(hf:∀i,i<g.nx→vid u2≠some i→g'.h.get i=g.h.get i):TI g' q m k1 k2 act u1 u2 u3 A B' W:=by
 have q5:=h.q5
 have lt:=fun i hi=>h.o2.lt (i:=i) hi
 exact ⟨by rw[hf _ (by omega) (fun e=>by have:=lt _ e;omega),h.a1],by rw[hf _ (by omega) (fun e=>by have:=lt _ e;omega),h.a2],by rw[hf _ (by omega) (fun e=>by have:=lt _ e;omega),h.a4],by rw[hf _ (by omega) (fun e=>(h.n2 _ e).1 rfl),h.bq],
  h.o1.fr hn fun i hi=>hf i (h.o1.lt hi).2 fun e=>(h.n1 _ hi).2.1 e,o,h.o3.fr hn fun i hi=>hf i (h.o3.lt hi).2 fun e=>(h.n2 _ e).2 hi,by omega,h.n1,h.n2,h.n3⟩
theorem TI.set3 (h:TI g q m k1 k2 act u1 u2 u3 A B W){W':List Int}(o:Own g' 5 u3 1 (W'.map ci))(hn:g.nx≤g'.nx)(hf:∀i,i<g.nx→vid u3≠some i→g'.h.get i=g.h.get i):TI g' q m k1 k2 act u1 u2 u3 A B W':=by
 have q5:=h.q5
 have lt:=fun i hi=>h.o3.lt (i:=i) hi
 exact ⟨by rw[hf _ (by omega) (fun e=>by have:=lt _ e;omega),h.a1],by rw[hf _ (by omega) (fun e=>by have:=lt _ e;omega),h.a2],by rw[hf _ (by omega) (fun e=>by have:=lt _ e;omega),h.a4],by rw[hf _ (by omega) (fun e=>h.n3 _ e rfl),h.bq],
  h.o1.fr hn fun i hi=>hf i (h.o1.lt hi).2 fun e=>(h.n1 _ hi).2.2 e,h.o2.fr hn fun i hi=>hf i (h.o2.lt hi).2 fun e=>(h.n2 _ hi).2 e,o,by omega,h.n1,h.n2,h.n3⟩
theorem table_b0 {d:Nat}{t:T}{Q:QT}(hck:S.check m=true)(hN:SlR NoP 0 .nil m.nodes k2)(hI:TI g q m k1 k2 act u1 u2 u3 (upto (fun i=>(i:Int)) m.nodes.length 0) (upto (fun i=>S.cardAt m (i:Int)) m.nodes.length 0) W)
  (ht:St t [(3,.hptr 1 0 0 0),(4,.hptr 2 0 0 0),(6,.hptr 4 0 0 0),(9,.hptr q 0 0 0),(41,k2),(8,.int .i64 1)]) (h43:tat t 43=.int .i64 0) (h42:tat t 42=.int .i64 (m.nodes.length:Int))
  (fin:∀t g',St t [(3,.hptr 1 0 0 0),(4,.hptr 2 0 0 0),(6,.hptr 4 0 0 0),(9,.hptr q 0 0 0),(41,k2),(8,.int .i64 (S.cards m))]→TI g' q m k1 k2 act u1 u2 u3 (upto (fun i=>(i:Int)) m.nodes.length m.nodes.length) (upto (fun i=>S.cardAt m (i:Int)) m.nodes.length m.nodes.length) W→Q (.exit 0) t [] g') :
  wpL (wp C0 d none f_twin_Table_b0) Q t [] g:=by
 obtain ⟨hs,hgr,hn1,hro,hno⟩:=check_facts hck
 have hn5:=hs.nodes
 obtain ⟨rows,r1,r2,r3,r4⟩:=hN.all
 have r1:∀h',rowsOf h' 4 k2=some rows:=r1
 simp only[f_twin_Table_b0]
 refine wpL_range (m:=m.nodes.length) (by omega) (fun j t df g'=>df=[]∧St t [(3,.hptr 1 0 0 0),(4,.hptr 2 0 0 0),(6,.hptr 4 0 0 0),(9,.hptr q 0 0 0),(41,k2),(8,.int .i64 (S.prod ((m.nodes.take j).map (·.card))))] ∧
   TI g' q m k1 k2 act u1 u2 u3 (upto (fun i=>(i:Int)) m.nodes.length j) (upto (fun i=>S.cardAt m (i:Int)) m.nodes.length j) W)
  ⟨rfl,ht,hI⟩ h43 h42 (by decide) (by rintro j t df g v s (rfl | rfl | rfl)<;>simp[St,sx]) ?_ ?_
 ·rintro j t df g' hj ⟨rfl,⟨h3,h4,h6,h9,h41,h8,-⟩,hI⟩ h43 h42
  obtain ⟨x,hx,htk,hm⟩:=take_next hj
  obtain ⟨row,q1,q2⟩:=r3 j x hx
  obtain ⟨fa,fb,fc,rfl,-,-,-⟩:=rp_mech.1 q2
  have hlt:j<rows.length:=by omega
  have hq:=hI.q5
  have hqn:¬q=g'.nx:=by omega
  have hca:S.cardAt m (j:Int)=x.card:=by simp[S.cardAt,hx]
  have hb1:=cards_bound hs j
  have hb2:=cards_bound hs (j+1)
  rw[htk,List.map_append,List.map_singleton,prod_snoc] at hb2
  obtain ⟨y1,hy1⟩:=upto_row (f:=fun i=>(i:Int)) (n:=m.nodes.length) (i:=j) (j:=j) hj
  obtain ⟨y2,hy2⟩:=upto_row (f:=fun i=>S.cardAt m (i:Int)) (n:=m.nodes.length) (i:=j) (j:=j) hj
  have hl1:j<((upto (fun i=>(i:Int)) m.nodes.length j).map ci).length:=by rw[List.length_map,upto_len];exact hj
  have hl2:j<((upto (fun i=>S.cardAt m (i:Int)) m.nodes.length j).map ci).length:=by rw[List.length_map,upto_len];exact hj
  refine seq_cut (P:=fun t df g1=>df=[]∧St t [(3,.hptr 1 0 0 0),(4,.hptr 2 0 0 0),(6,.hptr 4 0 0 0),(9,.hptr q 0 0 0),(41,k2),(42,.int .i64 (m.nodes.length:Int)),(43,.int .i64 (j:Int)),(8,.int .i64 (S.prod ((m.nodes.take j).map (·.card)))),(10,.int .i64 (j:Int)),(11,.hptr g'.nx 0 0 0)] ∧
   TI g1 q m k1 k2 act u1 u2 u3 (upto (fun i=>(i:Int)) m.nodes.length j) (upto (fun i=>S.cardAt m (i:Int)) m.nodes.length j) W∧g1.h.get g'.nx=.cells 4 [[.int .i64 x.card,fa,fb,fc]] 0 false false∧g'.nx<g1.nx) ?_ ?_
  ·simp only[sx,sy,SO.run,↓reduceIte,Nat.reduceEqDiff,Nat.reduceAdd,Nat.reduceLeDiff,h3,h4,h6,h8,h9,h41,h42,h43,r1,hlt,q1,Option.isSome_some,Option.getD_some,St,true_and,and_true]
   exact ⟨hI.fr (by simp) fun i hi=>by simp[H.get_put,show ¬i=g'.nx by omega],by omega⟩
  rintro t df g1 ⟨rfl,⟨h3,h4,h6,h9,h41,h42,h43,h8,h10,h11,-⟩,hI1,hx1,hxn⟩
  have hry1:rowy u1=true:=rowy_of hI1.o1.rows hl1
  have hry2:rowy u2=true:=rowy_of hI1.o2.rows hl2
  simp only[sx,sy,sf,SO.run,↓reduceIte,Nat.reduceEqDiff,Nat.reduceAdd,Nat.reduceLeDiff,h9,h10,h11,hI1.bq,hx1,hI1.o1.rows,hl1,hy1,Option.isSome_some,Option.getD_some]
  refine store_ownL (b:=5) (v:=u1) (sz:=1) (n:=1) (off:=0) (x:=.int .i64 (j:Int)) (row:=ci y1) (row':=ci (j:Int)) ?_ hy1 rfl rfl rfl fun g2 o2 n2 f2 l2=>?_
  ·exact hI1.o1.fr (by simp;omega) fun i _=>by simp
  rw[←List.map_set,upto_set (f:=fun i=>(i:Int))] at o2
  have hI2:TI g2 q m k1 k2 act u1 u2 u3 (upto (fun i=>(i:Int)) m.nodes.length (j+1)) (upto (fun i=>S.cardAt m (i:Int)) m.nodes.length j) W :=
   hI1.set1 o2 (by rw[n2];simp;omega) fun i _ hne=>by rw[f2 i hne];simp
  have hx2:g2.h.get g'.nx=.cells 4 [[.int .i64 x.card,fa,fb,fc]] 0 false false:=by rw[f2 _ (fun e=>by have:=(hI.o1.lt e).2;omega)];simpa using hx1
  simp only[sx,sy,sf,SO.run,↓reduceIte,Nat.reduceEqDiff,Nat.reduceAdd,Nat.reduceLeDiff,h9,h10,h11,hI2.bq,hx2,hI2.o2.rows,hl2,hy2,Option.isSome_some,Option.getD_some]
  refine store_ownL (b:=5) (v:=u2) (sz:=1) (n:=1) (off:=0) (x:=.int .i64 x.card) (row:=ci y2) (row':=ci x.card) ?_ hy2 rfl rfl rfl fun g3 o3 n3 f3 l3=>?_
  ·exact hI2.o2.fr (by simp;omega) fun i _=>by simp
  rw[←hca,←List.map_set,upto_set (f:=fun i=>S.cardAt m (i:Int))] at o3
  have hI3:TI g3 q m k1 k2 act u1 u2 u3 (upto (fun i=>(i:Int)) m.nodes.length (j+1)) (upto (fun i=>S.cardAt m (i:Int)) m.nodes.length (j+1)) W :=
   hI2.set2 o3 (by rw[n3];simp;omega) fun i _ hne=>by rw[f3 i hne];simp
  have hx3:g3.h.get g'.nx=.cells 4 [[.int .i64 x.card,fa,fb,fc]] 0 false false:=by rw[f3 _ (fun e=>by have:=(hI.o2.lt e).2;omega)];simpa using hx2
  have lg2:∀i∈g2.lg,vid u1=some i:=fun i hi=>by rcases l2 i hi with h | h;simp at h;exact h
  simp only[sx,sy,sf,SO.run,↓reduceIte,Nat.reduceEqDiff,Nat.reduceAdd,Nat.reduceLeDiff,h3,h4,h6,h8,h9,h10,h11,h41,h42,h43,hx3,bumpG_h,
   wrap64 (show -9223372036854775808≤S.prod ((m.nodes.take j).map (·.card))*x.card by omega) (show S.prod ((m.nodes.take j).map (·.card))*x.card<9223372036854775808 by omega),St,true_and,and_true]
  refine ⟨?_,?_⟩
  ·simp only[List.reverse_cons,List.reverse_nil,List.nil_append,List.cons_append]
   refine footsOk_mk [false,false,false,false,false,false,false,false,false,false,true,false,true] [(3,10),(4,10),(5,10),(7,10),(8,10)] (by simp[All2,rdLook,noLook,bigLook]) (by decide) ?_
   rintro p hp x y hx hy
   simp only[List.mem_cons,List.not_mem_nil,or_false] at hp
   rcases hp with rfl | rfl | rfl | rfl | rfl<;>(simp at hx hy;subst hx;subst hy;refine apart_mk rfl rfl rfl rfl ?_ ?_ ?_)<;>simp[rdLook,noLook,refIds]
   ·intro i hi e;subst e;exact (hI.n1 _ (lg2 _ hi)).1 rfl
   ·intro i hi e;subst e;have:=(hI.o1.lt (lg2 _ hi)).2;omega
  ·rw[htk,List.map_append,List.map_singleton,prod_snoc]
   exact ⟨rfl,hI3.fr (by simp) fun i _=>by simp⟩
 ·rintro t df g' ⟨rfl,ht,hI⟩
  rw[List.take_length] at ht
  exact fin t g' ht hI
end
end
end Hx
end
section
namespace Hx
open Go
noncomputable section
theorem cards_upto (m:Causal):upto (fun i=>S.cardAt m (i:Int)) m.nodes.length m.nodes.length=m.nodes.map (·.card):=by
 rw[upto_all]
 refine List.ext_getElem (by simp) fun i h1 h2=>?_
 have:i<m.nodes.length:=by simpa using h2
 simp[S.cardAt,List.getElem?_eq_getElem this]
theorem table_body {d:Nat}{rd:Option Nat}{m:Causal}{t:T}{g:G}{q j:Nat}{al A:List Int}{k1 k2 act u1 u2 u3 u:AV}{P:Nat→Prop}(hd:0<d)(hck:S.check m=true)(hac:S.act m al=true)
  (hks:∀h,Agg (⟨m,S.hidden m⟩:KnownM) NoP 0 h (.agg [.int .i64 m.grain,k1,k2,.int .i64 (S.hidden m)])) (ha:SlR NoP 0 .nil al act) (hu:SlR P 0 g.h (S.values (S.lens m) (j:Int)) u)
  (ht:St t [(3,.hptr 1 0 0 0),(6,.hptr 4 0 0 0),(9,.hptr q 0 0 0),(12,u),(13,.int .i64 (S.weight m (j:Int)))]) (hI:TI g q m k1 k2 act u1 u2 u3 A (m.nodes.map (·.card)) (S.tabW m al j)) :
  wp C0 d rd f_twin_Table_b4 (fun e _ df g3=>e=.norm∧df=[]∧TI g3 q m k1 k2 act u1 u2 u3 A (m.nodes.map (·.card)) (S.tabW m al (j+1))∧g3.nx=g.nx∧∀i,vid u3≠some i→g3.h.get i=g.h.get i) t [] g:=by
 obtain ⟨hs,hgr,hn1,hro,hno⟩:=check_facts hck
 have hn5:=hs.nodes
 have hvi:=values_inC (l:=S.lens m) (h:=(j:Int)) (fun c hc=>by have:=lens_bound hs c hc;omega) (Int.natCast_nonneg j)
 have hri:=run_inC (al:=al) hck hvi hac
 have hcl:(m.nodes.map (·.card)).length=m.nodes.length:=by simp
 have hrl:(S.run m (S.values (S.lens m) (j:Int)) al).length=m.nodes.length:=by simp[S.run]
 obtain ⟨h3,h6,h9,h12,h13,-⟩:=ht
 simp only[f_twin_Table_b4,sx,sy,SO.run,↓reduceIte,Nat.reduceEqDiff,Nat.reduceAdd,Nat.reduceLeDiff,h3,h6,h9,h12,h13,hI.a1,hI.a4]
 refine sat_ex (run_ok (P:=NoP) (k:=0) (Pa:=NoP) (ka:=0) hd (hks _) hu (ha.tree (Nat.le_refl _)) hck hvi hac) fun r hr=>?_
 simp only[sx,sy,SO.run,↓reduceIte,Nat.reduceEqDiff,Nat.reduceAdd,Nat.reduceLeDiff,h3,h6,h9,h12,h13,hr.len,hrl]
 simp only[f_twin_Table_b2]
 refine wpL_range (m:=m.nodes.length) (by omega) (fun i t df g'=>df=[]∧g'=g∧St t [(9,.hptr q 0 0 0),(13,.int .i64 (S.weight m (j:Int))),(74,r),(14,.int .i64 (hz (m.nodes.map (·.card)) (S.run m (S.values (S.lens m) (j:Int)) al) i))])
  ⟨rfl,rfl,by simp[St,sx,h9,h13,hz_zero]⟩ (by simp[sx]) (by simp[sx]) (by decide) (by rintro j t df g v s (rfl | rfl | rfl)<;>simp[St,sx]) ?_ ?_
 ·rintro i t df g' hi ⟨rfl,rfl,⟨h9,h13,h74,h14,-⟩⟩ h76 h75
  obtain ⟨c,hc,-,-⟩:=take_next (l:=m.nodes.map (·.card)) (j:=i) (by omega)
  obtain ⟨v,hv,hv0⟩:=hri.get hc
  have hlc:i<((m.nodes.map (·.card)).map ci).length:=by rw[List.length_map];omega
  have hlv:i<((S.run m (S.values (S.lens m) (j:Int)) al).map ci).length:=by rw[List.length_map];omega
  have hrc:((m.nodes.map (·.card)).map ci)[i]?=some (ci c):=by rw[List.getElem?_map,hc];rfl
  have hrv:((S.run m (S.values (S.lens m) (j:Int)) al).map ci)[i]?=some (ci v):=by rw[List.getElem?_map,hv];rfl
  have hb:=hz_bound (card_bound hck) (by omega) hri i
  have hb2:=hz_bound (card_bound hck) (by omega) hri (i+1)
  have hcb:=card_bound hck c (List.mem_of_getElem? hc)
  have hsuc:=hz_succ hc hv
  have hmul:0≤hz (m.nodes.map (·.card)) (S.run m (S.values (S.lens m) (j:Int)) al) i*c:=Int.mul_nonneg hb.1 (by omega)
  have hmul2:hz (m.nodes.map (·.card)) (S.run m (S.values (S.lens m) (j:Int)) al) i*c≤67108864*4:=Int.mul_le_mul hb.2 hcb.2 (by omega) (by decide)
  simp only[sx,sy,SO.run,↓reduceIte,Nat.reduceEqDiff,Nat.reduceAdd,Nat.reduceLeDiff,h9,h13,h14,h74,h75,h76,hI.bq,hI.o2.rows,hr.rows,hlc,hlv,hrc,hrv,ci,Option.isSome_some,Option.getD_some,
   wrap64 (show -9223372036854775808≤hz (m.nodes.map (·.card)) (S.run m (S.values (S.lens m) (j:Int)) al) i*c by omega) (show hz (m.nodes.map (·.card)) (S.run m (S.values (S.lens m) (j:Int)) al) i*c<9223372036854775808 by omega),←hsuc,
   wrap64 (show -9223372036854775808≤hz (m.nodes.map (·.card)) (S.run m (S.values (S.lens m) (j:Int)) al) (i+1) by omega) (show hz (m.nodes.map (·.card)) (S.run m (S.values (S.lens m) (j:Int)) al) (i+1)<9223372036854775808 by omega),St,true_and,and_true]
 ·rintro t df g' ⟨rfl,rfl,⟨h9,h13,h74,h14,-⟩⟩
  rw[←hcl,hz_all (by omega)] at h14
  have hti:=tab_idx (al:=al) hck hac (Int.natCast_nonneg j)
  obtain ⟨z,hz⟩:=Int.eq_ofNat_of_zero_le hti.1
  have hcm:=cards_max hck
  have hzl:z<(S.tabW m al j).length:=by rw[tabW_len];omega
  obtain ⟨y,hy⟩:∃y,(S.tabW m al j)[z]?=some y:=⟨_,List.getElem?_eq_getElem hzl⟩
  have hry:((S.tabW m al j).map ci)[z]?=some (ci y):=by rw[List.getElem?_map,hy];rfl
  have hrl:z<((S.tabW m al j).map ci).length:=by rw[List.length_map];exact hzl
  have hT:S.tabW m al (j+1)=(S.tabW m al j).set z (IntKind.wrap .i64 (y+S.weight m (j:Int))):=by
   rw[S.tabW,hz];show (S.tabW m al j).set (Int.toNat (z:Int)) (IntKind.wrap .i64 ((S.tabW m al j)[Int.toNat (z:Int)]?.getD 0+_))=_
   rw[Int.toNat_natCast,hy];rfl
  rw[hz] at h14
  simp only[f_twin_Table_k3,sx,sy,SO.run,↓reduceIte,Nat.reduceEqDiff,Nat.reduceAdd,Nat.reduceLeDiff,h9,h13,h14,hI.bq,hI.o3.rows,hrl,hry,ci,Option.isSome_some,Option.getD_some]
  refine store_own (row:=ci y) (row':=ci (IntKind.wrap .i64 (y+S.weight m (j:Int)))) hI.o3 hry rfl rfl rfl fun g3 o3 n3 f3=>?_
  rw[←List.map_set,←hT] at o3
  simp only[sx,sy,SO.run,↓reduceIte,Nat.reduceEqDiff]
  exact ⟨hI.set3 o3 (by omega) fun i _ hne=>f3 i hne,n3,f3⟩
theorem cutG {C:Cfg}{d:Nat}{rd:Option Nat}{a b:SC}{Q:QT}{t:T}{df:List ADf}{g:G}{P:PT}(h1:wp C d rd a (fun e t df g=>e=.norm∧P t df g) t df g)(h2:∀t df g,P t df g→wp C d rd b Q t df g):wp C d rd (.seq a b) Q t df g:=by
 rw[wp_seq]
 refine wp_mono _ h1 ?_
 rintro e t df g ⟨rfl,h⟩
 exact h2 t df g h
theorem ttable_ok {d:Nat}{g:G}{v act:AV}{m:Causal}{al:List Int}(hd:0<d)(hm:Agg m NoP 0 g.h v)(ha:SlR NoP 0 .nil al act) :
  ∃r,callV C0 d N.twin_Table [v,act] g=.val r∧Tup2 (Agg (S.ttable m al)) (One (S.readE m [al])) NoP 0 .nil r:=by
 have e0:=agg_same d hm
 have e1:=sl_same (h:=g.h) d (ha.tree (h':=g.h) (Nat.le_refl 0))
 obtain ⟨cs,rfl,hc⟩:=hm
 obtain ⟨a,b,rfl,hR,hN⟩:=rp_causal.1 hc
 have hms:∀h,Agg m NoP 0 h (.agg [.int .i64 m.grain,a,b]):=fun h=>⟨_,rfl,Rp.tree hc (Nat.le_refl _)⟩
 rw[call_twin_Table]
 refine iso_run eq_twin_Table (xs:=[.agg [.int .i64 m.grain,a,b],act]) (by simp only[mapO,e0,e1]) (by simp[f_twin_Table]) (snb_tup2 (m:=2) (snb_agg _) (snb_one _) (by decide) (by decide)) (by decide) hd ?_
 simp only[f_twin_Table,sx,sy,SO.run,↓reduceIte,Nat.reduceEqDiff,Nat.reduceAdd,ha.cell.1,ha.cell.2]
 obtain ⟨g0,hg0⟩:∃g0,g0=((G.empty.new (AObj.cells 3 [[AV.int IntKind.i64 m.grain,a,b]] 0 false false)).new (AObj.cells 1 [[act]] 0 false false)).new (AObj.cells 3 [[.nils,.nils,.nils]] 0 false false):=⟨_,rfl⟩
 rw[←hg0]
 have f0:g0.h.get 0=.cells 3 [[.int .i64 m.grain,a,b]] 0 false false:=by rw[hg0];simp[sx,H.get_put]
 have f1:g0.h.get 1=.cells 1 [[act]] 0 false false:=by rw[hg0];simp[sx,H.get_put]
 have f2:g0.h.get 2=.cells 3 [[.nils,.nils,.nils]] 0 false false:=by rw[hg0];simp[sx,H.get_put]
 have fn:g0.nx=3:=by rw[hg0];simp[sx]
 clear hg0
 simp only[f_twin_Table_r,sx,sy,SO.run,↓reduceIte,Nat.reduceEqDiff,Nat.reduceAdd,Nat.reduceLeDiff,f0,f1]
 rw[bsl_one 1 [.nils] act _ (by rw[ha.cell.1];rfl) ha.cell.2,ha.cell.1]
 simp only[sx,sy,SO.run,↓reduceIte,Nat.reduceEqDiff,Nat.reduceAdd,Nat.reduceLeDiff,fn]
 have hls:SlR (fun _=>True) 0 (g0.new (.cells 1 [[act]] 0 false false)).h [al] (.hsl 3 0 0 1 none):=one_lst ha (by simp[fn,H.get_put])
 refine sat_ex (read_ok (ls:=[al]) (Nat.succ_pos d) (Nat.succ_pos d) (hms _) hls) fun r hr=>?_
 obtain ⟨ra,rb,rfl,hra,hrb⟩:=hr
 have hrb:=rp_int.1 hrb
 injection hrb with hrb
 subst hrb
 obtain ⟨kc,rfl,hkc⟩:=hra
 obtain ⟨k1,k2,rfl,hk1,hk2⟩:=rp_known.1 hkc
 simp only[sx,sy,SO.run,↓reduceIte,Nat.reduceEqDiff,Nat.reduceAdd,Nat.reduceLeDiff,fn,H.get_put]
 refine bifP_mk (fun hb=>?_) (fun hb=>?_)
 ·have hne:S.readE m [al]≠0:=by simpa using hb
  simp only[sx,sy,SO.run,↓reduceIte,Nat.reduceEqDiff,Nat.reduceAdd,Nat.reduceLeDiff,f2,fn,H.get_put]
  have:S.ttable m al=⟨[],[],[]⟩:=by rw[S.ttable,if_neg hne]
  rw[this]
  exact ⟨NoP,_,_,rfl,⟨_,rfl,rp_factor.2 ⟨.nils,.nils,.nils,rfl,⟨by decide,rfl⟩,⟨by decide,rfl⟩,⟨by decide,rfl⟩⟩⟩,rp_int.2 rfl⟩
 ·have hE:S.readE m [al]=0:=by simpa using hb
  have hE':=hE
  rw[read_one'] at hE'
  have hck:S.check m=true:=by
   cases hc:S.check m with
   | true=>rfl
   | false=>rw[hc] at hE';simp at hE'
  have hac:S.act m al=true:=by
   cases hc:S.act m al with
   | true=>rfl
   | false=>rw[hck,hc] at hE';simp at hE'
  have hrd:S.read m [al]=⟨m,S.hidden m⟩:=by unfold S.read;rw[if_pos hE]
  rw[hrd] at hkc hk1 hk2
  simp only[hrd] at *
  obtain ⟨hs,hgr,hn1,hro,hno⟩:=check_facts hck
  have hr8:=hs.roots
  have hn5:=hs.nodes
  have hks:∀h,Agg (⟨m,S.hidden m⟩:KnownM) NoP 0 h (.agg [.int .i64 m.grain,k1,k2,.int .i64 (S.hidden m)]):=fun h=>⟨_,rfl,Rp.tree hkc (Nat.le_refl _)⟩
  simp only[wp_skip,kS_norm]
  refine seq_cut (P:=fun t df g1=>df=[]∧St t [(3,.hptr 1 0 0 0),(4,.hptr 2 0 0 0),(6,.hptr 4 0 0 0),(8,.int .i64 1)]∧g1.h.get 1=.cells 1 [[act]] 0 false false∧g1.h.get 2=.cells 3 [[.nils,.nils,.nils]] 0 false false ∧
   g1.h.get 4=.cells 4 [[.int .i64 m.grain,k1,k2,.int .i64 (S.hidden m)]] 0 false false∧g1.nx=5) ?_ ?_
  ·simp[sx,sy,SO.run,St,H.get_put,fn,f1,f2]
  rintro t df g1 ⟨rfl,⟨h3,h4,h6,h8,-⟩,e1,e2,e4,en⟩
  refine cutG (P:=fun t df g2=>df=[]∧St t [(3,.hptr 1 0 0 0),(4,.hptr 2 0 0 0),(6,.hptr 4 0 0 0),(8,.int .i64 1)]∧∃q u1 u2,tat t 9=.hptr q 0 0 0∧TI g2 q m k1 k2 act u1 u2 .nils (upto (fun i=>(i:Int)) m.nodes.length 0) (upto (fun i=>S.cardAt m (i:Int)) m.nodes.length 0) []) ?_ ?_
  ·simp only[sx,sy,sf,SO.run,↓reduceIte,Nat.reduceEqDiff,Nat.reduceAdd,Nat.reduceLeDiff,H.get_put,h6,e4,hk2.len]
   refine mks_ownL (b:=5) (n:=m.nodes.length) (by simp[room];omega) (by simp[room];omega) (by simp[en]) fun u1 g2 hu1 n2 fr2 v2 l2=>?_
   have c4:g2.h.get 4=.cells 4 [[.int .i64 m.grain,k1,k2,.int .i64 (S.hidden m)]] 0 false false:=by rw[fr2 4 (by simp[en])];simpa using e4
   simp only[sx,sy,sf,SO.run,↓reduceIte,Nat.reduceEqDiff,Nat.reduceAdd,Nat.reduceLeDiff,H.get_put,h6,c4,hk2.len]
   refine mks_ownL (b:=5) (n:=m.nodes.length) (by simp[room];omega) (by simp[room];omega) (by simp[n2,en]) fun u2 g3 hu2 n3 fr3 v3 l3=>?_
   have hc1:=hu1.cell
   have hc2:=hu2.cell
   simp only[sx,sy,sf,SO.run,↓reduceIte,Nat.reduceEqDiff,Nat.reduceAdd,Nat.reduceLeDiff,H.get_put,h3,h4,h6,h8,hc1.1,hc1.2,hc2.1,hc2.2,St,true_and,and_true]
   simp only[bumpG_nx,setLog_nx,setLog_lg,en,Nat.reduceAdd] at n2 v2 l2
   simp only[bumpG_nx,setLog_nx,setLog_lg,n2,Nat.reduceAdd] at n3 v3 l3
   have d1:g3.h.get 1=.cells 1 [[act]] 0 false false:=by rw[fr3 1 (by simp[n2])];simp;rw[fr2 1 (by simp[en])];simpa using e1
   have d2:g3.h.get 2=.cells 3 [[.nils,.nils,.nils]] 0 false false:=by rw[fr3 2 (by simp[n2])];simp;rw[fr2 2 (by simp[en])];simpa using e2
   have d4:g3.h.get 4=.cells 4 [[.int .i64 m.grain,k1,k2,.int .i64 (S.hidden m)]] 0 false false:=by rw[fr3 4 (by simp[n2])];simpa using c4
   have o1:Own g3 5 u1 1 ((upto (fun i=>(i:Int)) m.nodes.length 0).map ci):=by
    rw[upto_zero,List.map_replicate]
    exact hu1.fr (by omega) fun i hi=>by rw[v2] at hi;injection hi with hi;subst hi;rw[fr3 9 (by simp[n2])];simp
   have o2:Own g3 5 u2 1 ((upto (fun i=>S.cardAt m (i:Int)) m.nodes.length 0).map ci):=by
    rw[upto_zero,List.map_replicate];exact hu2
   refine ⟨?_,_,u1,u2,rfl,?_⟩
   ·simp only[List.reverse_cons,List.reverse_nil,List.nil_append,List.cons_append,l2,l3,n3]
    refine footsOk_mk [false,false,false,false,true,false,false,false,false,true,false,true,true] [(4,5),(4,6),(4,7),(4,8),(4,9),(4,11),(0,9),(1,9),(2,9),(3,9),(0,11),(1,11),(2,11),(3,11),(5,11),(6,11),(7,11),(8,11),(9,11),(10,11)] (by simp[All2,rdLook,noLook,bigLook]) (by decide) ?_
    rintro p hp x y hx hy
    simp only[List.mem_cons,List.not_mem_nil,or_false] at hp
    rcases hp with rfl | rfl | rfl | rfl | rfl | rfl | rfl | rfl | rfl | rfl | rfl | rfl | rfl | rfl | rfl | rfl | rfl | rfl | rfl | rfl<;>(simp at hx hy;subst hx;subst hy;refine apart_mk rfl rfl rfl rfl ?_ ?_ ?_<;>simp[rdLook,noLook,refIds,n3])
   ·refine ⟨?_,?_,?_,?_,?_,?_,.inl ⟨rfl,rfl⟩,?_,?_,?_,fun i hi=>by cases hi⟩
    ·simp[H.get_put,n3,d1]
    ·simp[H.get_put,n3,d2]
    ·simp[H.get_put,n3,d4]
    ·simp[H.get_put,n3]
    ·exact o1.fr (by simp;omega) fun i hi=>by rw[v2] at hi;injection hi with hi;subst hi;simp[H.get_put,n3]
    ·exact o2.fr (by simp;omega) fun i hi=>by rw[v3] at hi;injection hi with hi;subst hi;simp[H.get_put,n3]
    ·simp[n3]
    ·intro i hi;rw[v2] at hi;injection hi with hi;subst hi
     exact ⟨by omega,by rw[v3];simp,by simp[vid]⟩
    ·intro i hi;rw[v3] at hi;injection hi with hi;subst hi
     exact ⟨by omega,by simp[vid]⟩
  ·rintro t df g2 ⟨rfl,⟨h3,h4,h6,h8,-⟩,q,u1,u2,h9,hI⟩
   have hq5:=hI.q5
   simp only[sx,sy,SO.run,↓reduceIte,Nat.reduceEqDiff,Nat.reduceAdd,Nat.reduceLeDiff,h3,h4,h6,h8,h9,hI.a4,hk2.len]
   refine table_b0 (d:=d+1) hck hk2 hI (by simp[St,sx,h3,h4,h6,h8,h9]) (by simp[sx]) (by simp[sx]) fun t g3 ht hI3=>?_
   obtain ⟨h3,h4,h6,h9,h41,h8,-⟩:=ht
   have hcm:=cards_max hck
   obtain ⟨sz,hsz⟩:=Int.eq_ofNat_of_zero_le (show 0≤S.cards m by omega)
   rw[hsz] at h8
   rw[cards_upto] at hI3
   have hq5:=hI3.q5
   simp only[f_twin_Table_k6,sx,sy,SO.run,↓reduceIte,Nat.reduceEqDiff,Nat.reduceAdd,Nat.reduceLeDiff,h3,h4,h6,h8,h9]
   refine mks_own (b:=5) (n:=sz) (by simp[room];omega) (by simp[room];omega) (by omega) fun u3 g4 hu3 n4 fr4 v4=>?_
   have hI4:TI g4 q m k1 k2 act u1 u2 .nils (upto (fun i=>(i:Int)) m.nodes.length m.nodes.length) (m.nodes.map (·.card)) []:=hI3.fr (by omega) fr4
   have hc3:=hu3.cell
   have hq4:¬4=q:=by omega
   have hI5:TI (g4.put q (.cells 3 [[u1,u2,u3]] 0 false false)) q m k1 k2 act u1 u2 u3 (upto (fun i=>(i:Int)) m.nodes.length m.nodes.length) (m.nodes.map (·.card)) (S.tabW m al 0):=by
    have v1:=fun i hi=>hI3.o1.lt (i:=i) hi
    have v2:=fun i hi=>hI3.o2.lt (i:=i) hi
    refine ⟨?_,?_,?_,?_,?_,?_,?_,by simp;omega,?_,?_,?_⟩
    ·simp[H.get_put,show ¬1=q by omega,hI4.a1]
    ·simp[H.get_put,show ¬2=q by omega,hI4.a2]
    ·simp[H.get_put,hq4,hI4.a4]
    ·simp[H.get_put]
    ·exact hI4.o1.fr (by simp) fun i hi=>by simp[H.get_put,(hI4.n1 i hi).1]
    ·exact hI4.o2.fr (by simp) fun i hi=>by simp[H.get_put,(hI4.n2 i hi).1]
    ·rw[S.tabW,hsz,Int.toNat_natCast,List.map_replicate]
     exact hu3.fr (by simp) fun i hi=>by rw[v4] at hi;injection hi with hi;subst hi;simp[H.get_put,show ¬g3.nx=q by omega]
    ·exact fun i hi=>⟨(hI4.n1 i hi).1,(hI4.n1 i hi).2.1,by rw[v4];intro e;injection e with e;have:=v1 i hi;omega⟩
    ·exact fun i hi=>⟨(hI4.n2 i hi).1,by rw[v4];intro e;injection e with e;have:=v2 i hi;omega⟩
    ·exact fun i hi=>by rw[v4] at hi;injection hi with hi;omega
   simp only[sx,sy,SO.run,↓reduceIte,Nat.reduceEqDiff,Nat.reduceAdd,Nat.reduceLeDiff,h3,h4,h6,h8,h9,hI4.bq,hI4.a4,hq4,hc3.1,hc3.2,H.get_put]
   obtain ⟨wcs,hw,hwr⟩:=worlds_ok (g:=g4.put q (.cells 3 [[u1,u2,u3]] 0 false false)) (Nat.succ_pos d) (hks _)
   rw[hw]
   simp only[sx,sy,SO.run,↓reduceIte,Nat.reduceEqDiff,Nat.reduceAdd,Nat.reduceLeDiff]
   generalize g4.put q (.cells 3 [[u1,u2,u3]] 0 false false)=g5 at hI5
   refine rng_worlds (d:=d+1) hck hwr (by simp[sx]) (by decide) (by decide) (fun j h=>TI ⟨h,g5.nx,[]⟩ q m k1 k2 act u1 u2 u3 (upto (fun i=>(i:Int)) m.nodes.length m.nodes.length) (m.nodes.map fun x:Mech=>x.card) (S.tabW m al j)) ?_ (hI5.fr (Nat.le_refl _) fun _ _=>rfl) ?_ ?_
   ·exact fun j h h' hh hI=>hI.fr (Nat.le_refl _) hh
   ·intro j u g6 hj hJ hn hu
    have hJ:TI ⟨g6.h,g5.nx,[]⟩ q m k1 k2 act u1 u2 u3 (upto (fun i=>(i:Int)) m.nodes.length m.nodes.length) (m.nodes.map (·.card)) (S.tabW m al j):=hJ
    simp only[f_twin_Table_a1,sx,sy,SO.run,↓reduceIte,Nat.reduceEqDiff,Nat.reduceAdd,Nat.reduceLeDiff,true_and]
    intro g7 hn7 hf7
    have v3:=fun i hi=>hJ.o3.lt (i:=i) hi
    have hJ7:TI g7 q m k1 k2 act u1 u2 u3 (upto (fun i=>(i:Int)) m.nodes.length m.nodes.length) (m.nodes.map (·.card)) (S.tabW m al j):=hJ.fr (by show g5.nx≤g7.nx;omega) fun i hi=>hf7 i (by have hi:i<g5.nx:=hi;omega)
    have hu7:SlR (fun i=>g5.nx+2≤i) 0 g7.h (S.values (S.lens m) (j:Int)) u:=by
     obtain ⟨w,e,q⟩:=Rp.mono (P':=fun i=>g5.nx+2≤i) (k':=0) (h':=g7.h) (show Rp.rp (fun i=>g5.nx+2≤i) 0 g6.h (S.values (S.lens m) (j:Int)) [u] from ⟨u,rfl,hu⟩) (fun i hi=>⟨hi,hf7 i (by omega)⟩) (Nat.le_refl _)
     injection e with e;subst e;exact q
    refine wp_mono _ (table_body (d:=d+1) (rd:=some (g5.nx+1)) (j:=j) (al:=al) (Nat.succ_pos d) hck hac hks ha hu7 (by simp[St,sx,h3,h6,h9]) hJ7) ?_
    rintro e t' df g8 ⟨rfl,rfl,b1,b2,b3⟩
    have v3':∀i,vid u3=some i→i<g5.nx:=fun i hi=>(v3 i hi).2
    refine ⟨rfl,rfl,?_,by omega,fun i h1 h2=>b3 i fun e=>by have:=v3' i e;omega⟩
    have b4:∀i,vid u3=some i→i<g5.nx:=v3'
    exact ⟨b1.a1,b1.a2,b1.a4,b1.bq,by
     rcases b1.o1 with h | ⟨id,ep,lo,c1,c2,c3,c4⟩
     ·exact .inl h
     ·exact .inr ⟨id,ep,lo,c1,(hJ.o1.lt (i:=id) (by rw[c3];rfl)).2,c3,c4⟩,by
     rcases b1.o2 with h | ⟨id,ep,lo,c1,c2,c3,c4⟩
     ·exact .inl h
     ·exact .inr ⟨id,ep,lo,c1,(hJ.o2.lt (i:=id) (by rw[c3];rfl)).2,c3,c4⟩,by
     rcases b1.o3 with h | ⟨id,ep,lo,c1,c2,c3,c4⟩
     ·exact .inl h
     ·exact .inr ⟨id,ep,lo,c1,(hJ.o3.lt (i:=id) (by rw[c3];rfl)).2,c3,c4⟩,hJ.q5,b1.n1,b1.n2,b1.n3⟩
   ·intro g9 hJ hn hdf
    have hJ:TI ⟨g9.h,g5.nx,[]⟩ q m k1 k2 act u1 u2 u3 (upto (fun i=>(i:Int)) m.nodes.length m.nodes.length) (m.nodes.map (·.card)) (S.tabW m al (S.hidden m).toNat):=hJ
    have hq5:=hJ.q5
    have hq5:5≤q∧q<g5.nx:=hq5
    have j2:g9.h.get 2=.cells 3 [[.nils,.nils,.nils]] 0 false false:=hJ.a2
    have jq:g9.h.get q=.cells 3 [[u1,u2,u3]] 0 false false:=hJ.bq
    simp only[f_twin_Table_k5,sx,sy,SO.run,↓reduceIte,Nat.reduceEqDiff,Nat.reduceAdd,Nat.reduceLeDiff,h3,h4,h6,h8,h9,j2,jq]
    refine endP_mark (by simp[H.get_put,hdf,show ¬g5.nx=2 by omega]) ?_
    simp only[sx,sy,SO.run,↓reduceIte,Nat.reduceEqDiff,Nat.reduceAdd,Nat.reduceLeDiff,h4,H.get_put,show ¬2=g5.nx by omega]
    have hT:S.ttable m al=S.table m al:=by rw[S.ttable,if_pos hE]
    rw[hT,hE]
    have key:∀(hh:H) (L:List Int) (z:AV),(∀i,5≤i→i<g5.nx→hh.get i=g9.h.get i)→Own ⟨g9.h,g5.nx,[]⟩ 5 z 1 (L.map ci)→L.length<9223372036854775808→SlR (fun _=>True) 0 hh L z:=fun hh L z he ho hl =>
     Own.sl (α:=Int) (g:=⟨hh,g5.nx,[]⟩) (ho.fr (Nat.le_refl _) fun i hi=>he i (ho.lt hi).1 (ho.lt hi).2) hl (All2.of_map (fun a=>rp_int.2 rfl) _) fun _ _=>trivial
    refine ⟨fun _=>True,_,_,rfl,⟨_,rfl,rp_factor.2 ⟨u1,u2,u3,rfl,?_,?_,?_⟩⟩,rp_int.2 rfl⟩
    ·have h1:=hJ.o1
     rw[upto_all] at h1
     exact key _ _ _ (fun i h1 h2=>by simp[H.get_put,show ¬i=g5.nx by omega,show ¬i=2 by omega]) h1 (by simp[S.table];omega)
    ·exact key _ _ _ (fun i h1 h2=>by simp[H.get_put,show ¬i=g5.nx by omega,show ¬i=2 by omega]) hJ.o2 (by simp[S.table];omega)
    ·exact key _ _ _ (fun i h1 h2=>by simp[H.get_put,show ¬i=g5.nx by omega,show ¬i=2 by omega]) hJ.o3 (by show (S.tabW m al (S.hidden m).toNat).length<_;rw[tabW_len];omega)
end
end Hx
end
section
namespace Hx
open Go
noncomputable section
abbrev QI:=Int×Int
theorem agg_q {x:QI}{P:Nat→Prop}{k:Nat}{h:H}{v:AV}:Agg x P k h v↔v=.agg [.int .i64 x.1,.int .i64 x.2]:=by
 constructor
 ·rintro ⟨cs,rfl,hc⟩
  obtain ⟨a,b,rfl,h1,h2⟩:=rp_pair.1 hc
  rw[rp_int.1 h1,rp_int.1 h2];rfl
 ·rintro rfl
  exact ⟨_,rfl,rp_pair.2 ⟨[.int .i64 x.1],[.int .i64 x.2],rfl,rp_int.2 rfl,rp_int.2 rfl⟩⟩
theorem common_ok {d:Nat}{g:G}{a b:Nat}(hd:0<d)(ha:a<18446744073709551616)(hb:b<18446744073709551616) :
  callV C0 d N.frac_common [.int .u64 (a:Int),.int .u64 (b:Int)] g=.val (.int .u64 (Nat.gcd a b:Int)):=by
 rw[call_frac_common]
 refine iso_int eq_frac_common (xs:=[.int .u64 (a:Int),.int .u64 (b:Int)]) (by simp only[mapO,arg_int 0]) (by simp[f_frac_common]) hd ?_
 simp only[f_frac_common,sx,sy,SO.run,↓reduceIte,Nat.reduceEqDiff]
 refine wpL_mk (fun k t df g=>df=[]∧∃x y:Nat,x<18446744073709551616∧y<18446744073709551616∧k=y∧Nat.gcd x y=Nat.gcd a b∧St t [(0,.int .u64 (x:Int)),(1,.int .u64 (y:Int))]) b
  ⟨rfl,a,b,ha,hb,rfl,rfl,by simp[sx,St]⟩ ?_
 rintro y t df g ⟨rfl,x,y',hx,hy,rfl,hg,h0,h1,-⟩
 simp only[f_frac_common_b0,sx,sy,SO.run,↓reduceIte,Nat.reduceEqDiff,h0,h1]
 refine bifP_mk (fun hq=>?_) (fun hq=>?_)
 ·have hy0:0<y:=by simp at hq;omega
  have hm:=Nat.mod_lt x hy0
  simp only[sx,sy,SO.run,↓reduceIte,Nat.reduceEqDiff,h0,h1,bin_rem .u64 (show (0:Int)≤(x:Int) by omega) (show (0:Int)<(y:Int) by omega),true_and]
  exact ⟨x % y,hm,y,x % y,hy,by omega,rfl,by rw[←hg,Nat.gcd_comm y,←Nat.gcd_rec,Nat.gcd_comm],by simp[St,sx]⟩
 ·have hy0:y=0:=by simp at hq;omega
  subst hy0
  rw[Nat.gcd_zero_right] at hg
  simp only[f_frac_common_k1,sx,sy,SO.run,↓reduceIte,Nat.reduceEqDiff,h0,hg]
theorem fsize_ok {d:Nat}{g:G}{a:Int}(hd:0<d)(ha:0≤a∧a<9223372036854775808):callV C0 d N.frac_size [.int .i64 a] g=.val (.int .u64 a):=by
 rw[call_frac_size]
 refine iso_int eq_frac_size (xs:=[.int .i64 a]) (by simp only[mapO,arg_int 0]) (by simp[f_frac_size]) hd ?_
 simp only[f_frac_size,sx,sy,SO.run,↓reduceIte,Nat.reduceEqDiff]
 refine bifP_mk (fun hq=>?_) (fun hq=>?_)
 ·simp at hq;omega
 ·simp only[sx,sy,SO.run,↓reduceIte,Nat.reduceEqDiff,wrapu64 ha.1 (show a<18446744073709551616 by omega)]
theorem fit_ok {d:Nat}{g:G}{x y:Nat}(hd:0<d)(hx:x≤4611686018427387903)(hy:y≤4611686018427387903) :
  callV C0 d N.frac_fit [.bool false,.agg [.int .u64 0,.int .u64 (x:Int)],.agg [.int .u64 0,.int .u64 (y:Int)]] g=.val (.agg [.int .i64 (x:Int),.int .i64 (y:Int)]):=by
 have key:∃r,callV C0 d N.frac_fit [.bool false,.agg [.int .u64 0,.int .u64 (x:Int)],.agg [.int .u64 0,.int .u64 (y:Int)]] g=.val r∧Agg (((x:Int),(y:Int)):QI) NoP 0 .nil r:=by
  rw[call_frac_fit]
  refine iso_run eq_frac_fit (xs:=[.bool false,.agg [.int .u64 0,.int .u64 (x:Int)],.agg [.int .u64 0,.int .u64 (y:Int)]]) rfl (by simp[f_frac_fit]) (snb_agg _) (by decide) hd ?_
  have z0:∀id,ixaV 2 1 (.hptr id 0 0 0) (.int .i64 0)=.val (.hptr id 0 0 0):=fun id=>ixa_h 2 1 id 0 0 0 .i64 (j:=0) (by decide)
  have z1:∀id,ixaV 2 1 (.hptr id 0 0 0) (.int .i64 1)=.val (.hptr id 0 0 1):=fun id=>ixa_h 2 1 id 0 0 0 .i64 (j:=1) (by decide)
  have hx':decide ((4611686018427387903:Int)<(x:Int))=false:=by simp;omega
  have hy':decide ((4611686018427387903:Int)<(y:Int))=false:=by simp;omega
  simp only[f_frac_fit,f_frac_fit_r,sx,sy,SO.run,↓reduceIte,Nat.reduceEqDiff,Nat.reduceAdd,Nat.reduceLeDiff,z0,z1,hx',hy',H.get_put,decide_true,Bool.not_true]
  simp only[f_frac_fit_k0,sx,sy,SO.run,↓reduceIte,Nat.reduceEqDiff,Nat.reduceAdd,Nat.reduceLeDiff,z0,z1,H.get_put,wrap64 (show -9223372036854775808≤(x:Int) by omega) (show (x:Int)<9223372036854775808 by omega),wrap64 (show -9223372036854775808≤(y:Int) by omega) (show (y:Int)<9223372036854775808 by omega)]
  exact ⟨NoP,agg_q.2 rfl⟩
 obtain ⟨r,h1,h2⟩:=key
 rw[h1,agg_q.1 h2]
def S.low (n d:Nat):QI:=(((n / Nat.gcd n d:Nat):Int),((d / Nat.gcd n d:Nat):Int))
end
end Hx
end
section
namespace Hx
open Go
noncomputable section
theorem sat_dfr (a:ADf)(K:AV→G→Prop)(g:G)(D:ADf→Prop):(OR.dfr a).sat K g D=D a:=rfl
theorem kD_none (W:PT)(t:T)(df:List ADf)(g:G)(a:ADf):kD W none t df g a=W t (a::df) g:=rfl
theorem run_defer {C:Cfg}{d n:Nat}{t:T}{g:G}{f:Nat}{first cap:List AV}(h:tat t n=.clo f first cap):SO.run C d none t g (.raw (.defer ⟨.value (.tmp n),#[],#[]⟩))=.dfr (.call (.clo f [] cap) (first++[])):=by
 have:(gp AV.undef n).run t=.clo f first cap:=by rw[gp_run];exact h
 simp only[SO.run,cOpT,cOp,cRho,cRhos,this]
theorem run_defer' {C:Cfg}{d n:Nat}{t:T}{g:G}{f:Nat}{first cap:List AV}(h:tat t n=.clo f first cap):(cOpT C (.defer ⟨.value (.tmp n),#[],#[]⟩)).run (I C) d none t g=.dfr (.call (.clo f [] cap) (first++[])):=run_defer h
theorem endP_call {C:Cfg}{d:Nat}{r:List SR}{t:T}{g g':G}{K:AV→G→Prop}{f:Nat}{cap:List AV}{v:AV}(hc:(I C).call d f cap g=.ok v g')(h:resP r t g' fun vs=>K (oneOrTup vs) g'):endP C d r t [.call (.clo f [] cap) []] g K:=by
 unfold endP
 have:runDf (I C) d [.call (.clo f [] cap) []] g=some g':=by
  simp only[runDf,List.nil_append,hc]
 rw[this];exact h
theorem run_recover {C:Cfg}{d:Nat}{rd:Option Nat}{t:T}{g:G}:SO.run C d rd t g (.raw (.call ⟨.builtin .recover,#[],#[]⟩))=.val .nili:=rfl
theorem guard1_ok (d:Nat)(a b:AV)(g:G):∃v,(I C0).call d N.frac_guardapi_Q_1 [a,b] g=.ok v g:=by
 have key:=call_ok (C:=C0) (d:=d) (f:=N.frac_guardapi_Q_1) («as»:=[a,b]) (g:=g) (K:=fun v g'=>g'=g) eq_frac_guardapi_Q_1 (by simp[f_frac_guardapi_Q_1]) ?_
 ·cases hc:(I C0).call d N.frac_guardapi_Q_1 [a,b] g with
  | fail=>rw[hc] at key;exact key.elim
  | ok v g'=>rw[hc] at key;exact ⟨v,by rw[show g'=g from key]⟩
 have e:eqlV true (.iface true) .nili .nili=.val (.bool false):=rfl
 simp only[f_frac_guardapi_Q_1,sx,sy,run_recover]
 simp only[SO.run,sx,sy,↓reduceIte,Nat.reduceEqDiff,e]
theorem guard_ok {d:Nat}{g:G}{fn:Nat}{a a':List AV}{x:QI}(hd:0<d)(hs:Hx.snap g.h d depthA (.clo fn [] a)=some (.clo fn [] a'))(hc:∀(g:G) (K:AV→G→Prop) (D:ADf→Prop),(∀g',Fr g g'→K (.agg [.int .i64 x.1,.int .i64 x.2]) g')→(callF C0 (I C0) (d+1) (.clo fn [] a') [] g).sat K g D) :
  callV C0 d N.frac_guardapi_Q [.clo fn [] a] g=.val (.tup [.agg [.int .i64 x.1,.int .i64 x.2],.int .i64 0]):=by
 have key:∃r,callV C0 d N.frac_guardapi_Q [.clo fn [] a] g=.val r∧Tup2 (Agg x) (One (0:Int)) NoP 0 .nil r:=by
  rw[call_frac_guardapi_Q]
  refine iso_run eq_frac_guardapi_Q (xs:=[.clo fn [] a']) (by simp only[mapO,hs]) (by simp[f_frac_guardapi_Q]) (snb_tup2 (m:=2) (snb_agg _) (snb_one _) (by decide) (by decide)) (by decide) hd ?_
  simp only[f_frac_guardapi_Q,f_frac_guardapi_Q_r,sx,sy,SO.run,↓reduceIte,Nat.reduceEqDiff,Nat.reduceAdd,Nat.reduceLeDiff]
  rw[run_defer' (f:=N.frac_guardapi_Q_1) (first:=[]) (cap:=[.hptr 0 0 0 0,.hptr 1 0 0 0]) (by simp[sx])]
  simp only[sat_dfr,kD_none,sx,sy,SO.run,↓reduceIte,Nat.reduceEqDiff,Nat.reduceAdd,Nat.reduceLeDiff,H.get_put]
  refine hc _ _ _ fun g2 fr2=>?_
  have k0:g2.h.get 0=.cells 2 [[.int .i64 0,.int .i64 0]] 0 false false:=by rw[fr2.2 0 (by simp[sx])];simp[sx,H.get_put]
  have k1:g2.h.get 1=.cells 1 [[.int .i64 0]] 0 false false:=by rw[fr2.2 1 (by simp[sx])];simp[sx,H.get_put]
  simp only[sx,sy,SO.run,↓reduceIte,Nat.reduceEqDiff,Nat.reduceAdd,Nat.reduceLeDiff,H.get_put,k0,k1]
  obtain ⟨v,hg1⟩:=guard1_ok (d+1) (.hptr 0 0 0 0) (.hptr 1 0 0 0) ((g2.put 0 (.cells 2 [[.int .i64 x.1,.int .i64 x.2]] 0 false false)).put 1 (.cells 1 [[.int .i64 0]] 0 false false))
  refine endP_call hg1 ?_
  simp only[sx,sy,↓reduceIte,Nat.reduceEqDiff,Nat.reduceAdd,Nat.reduceLeDiff,H.get_put]
  exact ⟨NoP,_,_,rfl,agg_q.2 rfl,rp_int.2 rfl⟩
 obtain ⟨r,h1,a,b,rfl,h2,h3⟩:=key
 have h3:=rp_int.1 h3
 injection h3 with h3
 rw[h1,agg_q.1 h2,h3]
end
end Hx
end
section
namespace Hx
open Go
noncomputable section
theorem dyn_Make_1 (d:Nat)(a b:AV)(g:G):callF C0 (I C0) d (.clo N.frac_Make_1 [] [a,b]) [] g=orF ((I C0).call d N.frac_Make_1 [a,b] g):=by kernel_rfl
theorem snap_num {h:H}{id:Nat}{n:Int}(d k:Nat)(hg:h.get id=.cells 1 [[.int .i64 n]] 0 false false):Hx.snap h d (k+3) (.hptr id 0 0 0)=some (.tptr (Nat.max d 0) 1 [[.int .i64 n]] 0 0):=by
 simp only[Hx.snap,hg,show Nat.beq 0 0=true from rfl,bif'_true,mapO]
 rfl
theorem snap_clo2 {h:H}{d f:Nat}{a b a' b':AV}(ha:Hx.snap h d 23 a=some a')(hb:Hx.snap h d 23 b=some b'):Hx.snap h d depthA (.clo f [] [a,b])=some (.clo f [] [a',b']):=by
 show (match mapO (Hx.snap h d 23) [],mapO (Hx.snap h d 23) [a,b] with | some as',some cs=>some (AV.clo f as' cs) | _,_=>none)=_
 simp only[mapO,ha,hb]
theorem eq_ff:eqlV true .bool (.bool false) (.bool false)=.val (.bool false):=rfl
theorem make1_ok {d:Nat}{g:G}{n m z:Nat}{K:AV→G→Prop}{D:ADf→Prop}(hd:0<d)(hn:n≤4611686018427387903)(hm0:0<m)(hm:m≤4611686018427387903)
  (kk:∀g',Fr g g'→K (.agg [.int .i64 (S.low n m).1,.int .i64 (S.low n m).2]) g') :
  (callF C0 (I C0) d (.clo N.frac_Make_1 [] [.tptr z 1 [[.int .i64 (n:Int)]] 0 0,.tptr z 1 [[.int .i64 (m:Int)]] 0 0]) [] g).sat K g D:=by
 have hg0:0<Nat.gcd n m:=Nat.gcd_pos_of_pos_right n hm0
 have q1:n / Nat.gcd n m≤n:=Nat.div_le_self _ _
 have q2:m / Nat.gcd n m≤m:=Nat.div_le_self _ _
 have e1:∀g,callV C0 d N.frac_size [.int .i64 (n:Int)] g=.val (.int .u64 (n:Int)):=fun g=>fsize_ok hd ⟨by omega,by omega⟩
 have e2:∀g,callV C0 d N.frac_size [.int .i64 (m:Int)] g=.val (.int .u64 (m:Int)):=fun g=>fsize_ok hd ⟨by omega,by omega⟩
 have e3:∀g,callV C0 d N.frac_common [.int .u64 (n:Int),.int .u64 (m:Int)] g=.val (.int .u64 (Nat.gcd n m:Int)):=fun g=>common_ok hd (by omega) (by omega)
 have l1:decide ((n:Int)<0)=false:=by simp
 have l2:decide ((m:Int)<0)=false:=by simp
 have wq:∀x:Nat,x≤4611686018427387903→∀y:Nat,0<y→binV .quo (.int .u64 (x:Int)) (.int .u64 (y:Int))=.val (.int .u64 ((x / y:Nat):Int)):=fun x hx y hy=>by
  have hle:x / y≤x:=Nat.div_le_self _ _
  rw[bin_quo .u64 (Int.natCast_nonneg x) (by omega),←Int.natCast_ediv]
  generalize x / y=z at hle
  rw[wrapu64 (by omega) (by omega)]
 have e4:∀g,callV C0 d N.frac_fit [.bool false,.agg [.int .u64 0,.int .u64 ((n / Nat.gcd n m:Nat):Int)],.agg [.int .u64 0,.int .u64 ((m / Nat.gcd n m:Nat):Int)]] g=.val (.agg [.int .i64 ((n / Nat.gcd n m:Nat):Int),.int .i64 ((m / Nat.gcd n m:Nat):Int)]):=fun g=>fit_ok hd (by omega) (by omega)
 rw[dyn_Make_1]
 refine dir_run eq_frac_Make_1 (by simp[f_frac_Make_1]) ?_
 simp only[f_frac_Make_1,f_frac_Make_1_r,sx,sy,sf,SO.run,↓reduceIte,Nat.reduceEqDiff,Nat.reduceAdd,Nat.reduceLeDiff,load_tptr,e1,e2,e3,l1,l2,eq_ff,wq n hn _ hg0,wq m hm _ hg0,e4,H.get_put,true_and]
 refine ⟨?_,kk _ ⟨by simp;omega,fun i hi=>?_⟩⟩
 ·simp only[List.reverse_cons,List.reverse_nil,List.nil_append,List.cons_append]
  exact footsOk_mk [false,false,false,false,false,false,false,false,false,false,false,false,false,false,false,false,true] [] (by simp[All2,rdLook,noLook,bigLook,foot_frac_size,foot_frac_fit]) (by decide) (by simp)
 ·simp[H.get_put,show ¬i=g.nx by omega]
theorem fmake_ok {d:Nat}{g:G}{n m:Nat}(hd:0<d)(hn:n≤4611686018427387903)(hm0:0<m)(hm:m≤4611686018427387903) :
  callV C0 d N.frac_Make [.int .i64 (n:Int),.int .i64 (m:Int)] g=.val (.tup [.agg [.int .i64 (S.low n m).1,.int .i64 (S.low n m).2],.int .i64 0]):=by
 have key:∃r,callV C0 d N.frac_Make [.int .i64 (n:Int),.int .i64 (m:Int)] g=.val r∧Tup2 (Agg (S.low n m)) (One (0:Int)) NoP 0 .nil r:=by
  rw[call_frac_Make]
  refine iso_run eq_frac_Make (xs:=[.int .i64 (n:Int),.int .i64 (m:Int)]) rfl (by simp[f_frac_Make]) (snb_tup2 (m:=2) (snb_agg _) (snb_one _) (by decide) (by decide)) (by decide) hd ?_
  have l1:decide ((m:Int)=0)=false:=by simp;omega
  simp only[f_frac_Make,f_frac_Make_r,sx,sy,SO.run,↓reduceIte,Nat.reduceEqDiff,Nat.reduceAdd,Nat.reduceLeDiff,H.get_put,l1]
  rw[guard_ok (x:=S.low n m) (a':=[.tptr (Nat.max (d+1) 0) 1 [[.int .i64 (n:Int)]] 0 0,.tptr (Nat.max (d+1) 0) 1 [[.int .i64 (m:Int)]] 0 0]) (Nat.succ_pos d) ?_ (fun g K D kk=>make1_ok (Nat.succ_pos _) hn hm0 hm kk)]
  ·simp only[sx,sy,SO.run,↓reduceIte,Nat.reduceEqDiff,Nat.reduceAdd,Nat.reduceLeDiff,H.get_put]
   exact ⟨NoP,_,_,rfl,agg_q.2 rfl,rp_int.2 rfl⟩
  ·rw[snap_clo2 (a':=.tptr (Nat.max (d+1) 0) 1 [[.int .i64 (n:Int)]] 0 0) (b':=.tptr (Nat.max (d+1) 0) 1 [[.int .i64 (m:Int)]] 0 0) (snap_num (n:=(n:Int)) (d+1) 20 (by simp[sx,H.get_put])) (snap_num (n:=(m:Int)) (d+1) 20 (by simp[sx,H.get_put]))]
 obtain ⟨r,h1,a,b,rfl,h2,h3⟩:=key
 have h3:=rp_int.1 h3
 injection h3 with h3
 rw[h1,agg_q.1 h2,h3]
end
end Hx
end
section
namespace Hx
open Go
noncomputable section
theorem and_mask (m:Nat)(h:m<18446744073709551616):binV .and (.int .u64 (m:Int)) (.int .u64 4294967295)=.val (.int .u64 ((m % 4294967296:Nat):Int)):=by
 have:=bin_and m 4294967295 h (by decide)
 have e:m &&& 4294967295=m % 4294967296:=Nat.and_two_pow_sub_one_eq_mod m 32
 rw[e] at this
 exact this
theorem shr_32 (m:Nat)(h:m<18446744073709551616):binV .shr (.int .u64 (m:Int)) (.int .u64 32)=.val (.int .u64 ((m / 4294967296:Nat):Int)):=bin_shr .u64 m 32 h
theorem mul_u64 {a b:Nat}(h:a*b<18446744073709551616):binV .mul (.int .u64 (a:Int)) (.int .u64 (b:Int))=.val (.int .u64 ((a*b:Nat):Int)):=by
 rw[bin_mul,←Int.natCast_mul]
 generalize a*b=z at h
 rw[wrapu64 (by omega) (by omega)]
theorem add_u64 {a b:Nat}(h:a+b<18446744073709551616):binV .add (.int .u64 (a:Int)) (.int .u64 (b:Int))=.val (.int .u64 ((a+b:Nat):Int)):=by
 rw[bin_add,←Int.natCast_add,wrapu64 (by omega) (by omega)]
theorem mul_parts {x y:Nat}(h:x*y<18446744073709551616):∃x0 x1 y0 y1 p qa qb:Nat,x / 4294967296=x1∧x % 4294967296=x0∧y / 4294967296=y1∧y % 4294967296=y0∧x1*y1=0∧x0*y0=p∧x1*y0=qa∧x0*y1=qb ∧
  p<18446744073709551616∧qa<4294967296∧qb<4294967296∧(qa+p / 4294967296) / 4294967296=0∧((qa+p / 4294967296) % 4294967296+qb) / 4294967296=0:=by
 obtain ⟨B,hB⟩:∃B:Nat,B=4294967296:=⟨_,rfl⟩
 have dx:=Nat.div_add_mod x B
 have dy:=Nat.div_add_mod y B
 have mx:=Nat.mod_lt x (show 0<B by omega)
 have my:=Nat.mod_lt y (show 0<B by omega)
 rw[←hB]
 refine ⟨_,_,_,_,_,_,_,rfl,rfl,rfl,rfl,?_,rfl,rfl,rfl,?_⟩
 ·generalize x / B=x1 at *
  generalize x % B=x0 at *
  generalize y / B=y1 at *
  generalize y % B=y0 at *
  rcases Nat.eq_zero_or_pos (x1*y1) with h0 | h0
  ·exact h0
  ·exfalso
   have e1:B*x1*(B*y1)=B*B*(x1*y1):=Nat.mul_mul_mul_comm _ _ _ _
   have e4:B*x1*(B*y1)≤x*y:=Nat.mul_le_mul (by omega) (by omega)
   have e5:B*B*1≤B*B*(x1*y1):=Nat.mul_le_mul_left _ h0
   have e6:B*B=18446744073709551616:=by rw[hB]
   omega
 ·generalize x / B=x1 at *
  generalize x % B=x0 at *
  generalize y / B=y1 at *
  generalize y % B=y0 at *
  have e2:B*x1*y0=B*(x1*y0):=Nat.mul_assoc _ _ _
  have e3:x0*(B*y1)=B*(x0*y1):=Nat.mul_left_comm _ _ _
  have exy:x*y=B*x1*(B*y1)+B*(x1*y0)+(B*(x0*y1)+x0*y0):=by
   rw[←dx,←dy,Nat.mul_add,Nat.add_mul,Nat.add_mul,e2,e3];omega
  have hp:x0*y0≤(B - 1)*(B - 1):=Nat.mul_le_mul (by omega) (by omega)
  generalize x1*y0=qa at *
  generalize x0*y1=qb at *
  generalize x0*y0=p at *
  generalize B*x1*(B*y1)=z at *
  generalize x*y=w at *
  subst hB
  have hp2:p≤18446744065119617025:=hp
  clear hp mx my dx dy
  have k1:4294967296*qa+(4294967296*qb+p)<18446744073709551616:=by omega
  refine ⟨by omega,by omega,by omega,by omega,by omega⟩
theorem mul64_ok {d:Nat}{g:G}{x y:Nat}(hd:0<d)(h:x*y<18446744073709551616)(hx:x<18446744073709551616)(hy:y<18446744073709551616) :
  callV C0 d N.mathbits_Mul64 [.int .u64 (x:Int),.int .u64 (y:Int)] g=.val (.tup [.int .u64 0,.int .u64 ((x*y:Nat):Int)]):=by
 have key:∃r,callV C0 d N.mathbits_Mul64 [.int .u64 (x:Int),.int .u64 (y:Int)] g=.val r∧Tup2 (One (0:Nat)) (One (x*y:Nat)) NoP 0 .nil r:=by
  rw[call_mathbits_Mul64]
  refine iso_run eq_mathbits_Mul64 (xs:=[.int .u64 (x:Int),.int .u64 (y:Int)]) (by simp only[mapO,arg_int 0]) (by simp[f_mathbits_Mul64]) (snb_tup2 (m:=1) (snb_one _) (snb_one _) (by decide) (by decide)) (by decide) hd ?_
  obtain ⟨x0,x1,y0,y1,p,qa,qb,hx1,hx0,hy1,hy0,h11,hP,hA,hB,lp,la,lb,z2,z3⟩:=mul_parts h
  have m1:=mul_u64 (a:=x0) (b:=y0) (by rw[hP];exact lp)
  have m2:=mul_u64 (a:=x1) (b:=y0) (by rw[hA];omega)
  have m3:=mul_u64 (a:=x0) (b:=y1) (by rw[hB];omega)
  have m4:=mul_u64 (a:=x1) (b:=y1) (by rw[h11];omega)
  have m5:=mul_u64 h
  rw[hP] at m1;rw[hA] at m2;rw[hB] at m3;rw[h11] at m4
  have s1:=shr_32 p lp
  have a1:=add_u64 (a:=qa) (b:=p / 4294967296) (by omega)
  have n1:=and_mask (qa+p / 4294967296) (by omega)
  have s2:=shr_32 (qa+p / 4294967296) (by omega)
  have a2:=add_u64 (a:=(qa+p / 4294967296) % 4294967296) (b:=qb) (by omega)
  rw[z2] at s2
  have a3:binV .add (.int .u64 ((0:Nat):Int)) (.int .u64 ((0:Nat):Int))=.val (.int .u64 ((0:Nat):Int)):=rfl
  have s3:=shr_32 ((qa+p / 4294967296) % 4294967296+qb) (by omega)
  rw[z3] at s3
  have nx:=and_mask x hx
  have ny:=and_mask y hy
  have sx':=shr_32 x hx
  have sy':=shr_32 y hy
  rw[hx0] at nx;rw[hy0] at ny;rw[hx1] at sx';rw[hy1] at sy'
  clear z2 z3 lp la lb h11 hP hA hB
  simp only[f_mathbits_Mul64,sx,SO.run,get_t,get_k,↓reduceIte,Nat.reduceEqDiff,nx,ny,sx',sy',m1,m2,m3,m4,m5,s1,s2,s3,n1,a1,a2,a3,fnQ_ret,endP_nil,resP_tm,resP_nil,oneOrTup_two]
  exact ⟨NoP,_,_,rfl,rp_nat.2 ⟨rfl,by decide⟩,rp_nat.2 ⟨rfl,h⟩⟩
 obtain ⟨r,h1,a,b,rfl,h2,h3⟩:=key
 have h2:=(rp_nat.1 h2).1
 have h3:=(rp_nat.1 h3).1
 injection h2 with h2
 injection h3 with h3
 rw[h1,h2,h3];rfl
end
end Hx
end
