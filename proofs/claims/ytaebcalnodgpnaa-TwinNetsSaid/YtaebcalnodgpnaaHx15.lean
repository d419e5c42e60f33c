/- A part of the proof: an interpreter over abstract values, shown right against the model, and what the functions of the chapter compute on it. -/
import Derived.KernelRfl
import Derived.Test.YtaebcalnodgpnaaHx14
set_option linter.unusedVariables false
set_option linter.unusedSimpArgs false
set_option linter.unnecessarySimpa false
section
namespace Hx
open Go
noncomputable section
theorem copyTo_succ (m:Causal)(first:Int)(act:List Int)(j:Nat):S.copyTo m first act (j+1)=S.copyTo m first act j++[S.copyAt m first act j]:=by
 simp[S.copyTo,List.range_succ]
theorem copyTo_len (m:Causal)(first:Int)(act:List Int)(j:Nat):(S.copyTo m first act j).length=j:=by simp[S.copyTo]
theorem seq_cutG {C:Cfg}{d:Nat}{rd:Option Nat}{a b:SC}{Q:QT}{t:T}{df:List ADf}{g:G}{P:PT}(h1:wp C d rd a (fun e t df g=>e=.norm∧P t df g) t df g)(h2:∀t df g,P t df g→wp C d rd b Q t df g):wp C d rd (.seq a b) Q t df g:=by
 rw[wp_seq]
 refine wp_mono _ h1 ?_
 rintro e t df g ⟨rfl,h⟩
 exact h2 t df g h
theorem add_ok {d:Nat}{g:G}{x:KnownM}{v act w:AV}{al:List Int}{p b:Nat}{nds:List Node}{K:AV→G→Prop}{D:ADf→Prop}(hd:0<d)(hm:Agg x NoP 0 g.h v)(hck:S.check x.m=true)(ha:SlR NoP 0 .nil al act)(hact:S.act x.m al=true)
  (hp:g.h.get p=.cells 2 [[.int .i64 x.m.grain,w]] 0 false false) (hpn:p<g.nx) (hb:b≤g.nx) (hW:OwnX p g b 0 w nds) (hn:nds.length≤1000)
  (kk:∀z g' w',g'.h.get p=.cells 2 [[.int .i64 x.m.grain,w']] 0 false false→OwnX p g' b 0 w' (nds++S.copy x.m nds.length al)→(∀i,i<b→i≠p→g'.h.get i=g.h.get i)→g.nx≤g'.nx→K z g') :
  (callV C0 d N.twin_known_add [v,.hptr p 0 0 0,act] g).sat K g D:=by
 obtain ⟨hs,hgr,hn1,hro,hno⟩:=check_facts hck
 have hn5:=hs.nodes
 simp only[S.act,Bool.and_eq_true,decide_eq_true_eq] at hact
 obtain ⟨hall,hact⟩:=hact
 obtain ⟨cs,rfl,hc⟩:=hm
 obtain ⟨ra,na,rfl,hR,hN⟩:=rp_known.1 hc
 have hms:∀h,Agg x NoP 0 h (.agg [.int .i64 x.m.grain,ra,na,.int .i64 x.hidden]):=fun h=>⟨_,rfl,Rp.tree hc (Nat.le_refl _)⟩
 have hmc:∀h,Agg x.m NoP 0 h (.agg [.int .i64 x.m.grain,ra,na]):=fun h=>⟨_,rfl,rp_causal.2 ⟨ra,na,rfl,hR.tree (Nat.le_refl _),hN.tree (Nat.le_refl _)⟩⟩
 obtain ⟨rows,r1,r2,r3,r4⟩:=hN.all
 have r1:∀h',rowsOf h' 4 na=some rows:=r1
 rw[call_twin_known_add]
 refine dir_run eq_twin_known_add (by simp[f_twin_known_add]) ?_
 have hwl:=hW.len
 simp only[f_twin_known_add,f_twin_known_add_r,sx,sy,SO.run,↓reduceIte,Nat.reduceEqDiff,Nat.reduceAdd,Nat.reduceLeDiff,H.get_put,show ¬p=g.nx by omega,hp,hwl,hN.len,nilc_hptr]
 obtain ⟨k0,hk0⟩:∃k0,k0=g.nx:=⟨_,rfl⟩
 rw[←hk0]
 refine wpL_range (m:=x.m.nodes.length) (by omega) (fun j t df g'=>df=[]∧St t [(1,.hptr p 0 0 0),(2,act),(3,.hptr k0 0 0 0),(6,.int .i64 (nds.length:Int)),(23,na)]∧k0<g'.nx∧g'.h.get k0=.cells 4 [[.int .i64 x.m.grain,ra,na,.int .i64 x.hidden]] 0 false false ∧
   (∀i,i<b→i≠p→g'.h.get i=g.h.get i)∧∃w,g'.h.get p=.cells 2 [[.int .i64 x.m.grain,w]] 0 false false∧OwnX p g' b 0 w (nds++S.copyTo x.m nds.length al j)∧vid w≠some k0)
  ⟨rfl,by simp[St,sx],by simp[hk0],by simp[H.get_put,hk0],fun i hi _=>by simp[H.get_put];omega,w,by simp[H.get_put,hp];omega,?_,fun e=>by have:=(hW.lt e).2;omega⟩ (by simp[sx]) (by simp[sx]) (by decide) (by rintro j t df g v s (rfl | rfl | rfl)<;>simp[St,sx]) ?_ ?_
 ·have:S.copyTo x.m nds.length al 0=[]:=rfl
  rw[this,List.append_nil]
  exact hW.step (Fr.new _ _)
 ·rintro i t df g1 hi ⟨rfl,⟨h1,h2,h3,h6,h23,-⟩,hkn,hkg,hfr,w1,hp1,hW1,hvk⟩ h25 h24
  obtain ⟨y,hy,-,hym⟩:=take_next hi
  obtain ⟨row,q1,q2⟩:=r3 i y hy
  obtain ⟨fa,fb,fc,rfl,hfa,hfb,hfc⟩:=rp_mech.1 q2
  have hlt:i<rows.length:=by omega
  have hry:=r4 (by omega)
  have hnode:=nodesOk_mem hno hy
  simp only[S.nodeOk,Bool.and_eq_true,decide_eq_true_eq] at hnode
  obtain ⟨⟨⟨⟨pl1,pl2⟩,-⟩,hol⟩,hwi⟩:=hnode
  obtain ⟨hc1,hc4⟩:=hs.card y hym
  obtain ⟨cN,hcN⟩:=Int.eq_ofNat_of_zero_le (show 0≤y.card by omega)
  have hai:i<al.length:=by omega
  obtain ⟨a,hal⟩:∃a,al[i]?=some a:=⟨_,List.getElem?_eq_getElem hai⟩
  have haa:=List.all_eq_true.1 hact i (List.mem_range.2 hai)
  simp only[S.actAt,hal,Option.getD_some,Bool.and_eq_true,decide_eq_true_eq,S.cardAt,Int.toNat_natCast,hy,Option.map_some] at haa
  obtain ⟨a0,a1⟩:=haa
  have hcopy:S.copyAt x.m nds.length al i=S.nodeOf x.m.grain (S.above x.m y).toNat (S.beside x.m y).toNat nds.length a y:=by
   unfold S.copyAt;rw[hy,hal];rfl
  obtain ⟨q,hq⟩:∃q,q=g1.nx:=⟨_,rfl⟩
  rw[hcN] at q1
  refine seq_cut (P:=fun t df g'=>df=[]∧St t [(1,.hptr p 0 0 0),(2,act),(3,.hptr k0 0 0 0),(6,.int .i64 (nds.length:Int)),(23,na),(24,.int .i64 (x.m.nodes.length:Int)),(25,.int .i64 (i:Int)),(7,.int .i64 (i:Int)),(8,.hptr q 0 0 0)] ∧
   g'=(g1.new (.cells 4 [[.int .i64 0,.nils,.nils,.nils]] 0 false false)).put q (.cells 4 [[.int .i64 (cN:Int),fa,fb,fc]] 0 false false)) ?_ ?_
  ·simp only[sx,sy,SO.run,↓reduceIte,Nat.reduceEqDiff,Nat.reduceAdd,Nat.reduceLeDiff,h1,h2,h3,h6,h23,h24,h25,r1,hlt,q1,hry,Option.isSome_some,Option.getD_some,St,hq]
  clear h1 h2 h3 h6 h23 h24 h25
  rintro t df g2 ⟨rfl,⟨h1,h2,h3,h6,h23,h24,h25,h7,h8,-⟩,hg2⟩
  have b8:g2.h.get q=.cells 4 [[.int .i64 (cN:Int),fa,fb,fc]] 0 false false:=by rw[hg2];simp[H.get_put]
  have n2:g2.nx=q+1:=by rw[hg2,hq];simp
  have f2:∀i,i<q→g2.h.get i=g1.h.get i:=fun i hi=>by rw[hg2,G.put_h,get_put_ne _ _ _ (by omega),G.new_h,get_put_ne _ _ _ (by omega)]
  clear hg2
  refine seq_cut (P:=fun t df g'=>df=[]∧St t [(1,.hptr p 0 0 0),(2,act),(3,.hptr k0 0 0 0),(6,.int .i64 (nds.length:Int)),(23,na),(24,.int .i64 (x.m.nodes.length:Int)),(25,.int .i64 (i:Int)),(7,.int .i64 (i:Int)),(8,.hptr q 0 0 0),(9,.hptr (q+2) 0 0 0)] ∧
   g'=((g2.new (.cells 1 [] 0 false false)).new (.cells 3 [[.int .i64 0,.nils,.nils]] 0 false false)).put (q+2) (.cells 3 [[.int .i64 (cN:Int),.hsl (q+1) 0 0 0 none,.nils]] 0 false false)) ?_ ?_
  ·simp only[sx,sy,SO.run,↓reduceIte,Nat.reduceEqDiff,Nat.reduceAdd,Nat.reduceLeDiff,h1,h2,h3,h6,h7,h8,h23,h24,h25,b8,n2,St]
  clear h1 h2 h3 h6 h23 h24 h25 h7 h8
  rintro t df g3 ⟨rfl,⟨h1,h2,h3,h6,h23,h24,h25,h7,h8,h9,-⟩,hg3⟩
  have hA:AS q q (q+2) cN fa fb fc g1 g3 (fun k=>if k=0 then .hptr (q+2) 0 0 0 else if k=1 then .hsl (q+1) 0 0 0 none else if k=2 then .nils else .hptr q 0 0 0)
    (fun k=>if k=0 then .bx [.int .i64 (cN:Int),.hsl (q+1) 0 0 0 none,.nils] else if k=1 then .sl 1 [] else if k=2 then .sl 1 [] else .bx [.int .i64 (cN:Int),fa,fb,fc]) [] []:=by
   have k3:g3.h.get q=.cells 4 [[.int .i64 (cN:Int),fa,fb,fc]] 0 false false:=by rw[hg3];simp[H.get_put,n2,b8];omega
   have k0':g3.h.get (q+2)=.cells 3 [[.int .i64 (cN:Int),.hsl (q+1) 0 0 0 none,.nils]] 0 false false:=by rw[hg3];simp[H.get_put]
   have k1:g3.h.get (q+1)=.cells 1 [] 0 false false:=by rw[hg3];simp[H.get_put,n2]
   have n3:g3.nx=q+3:=by rw[hg3];simp[n2]
   refine ⟨⟨by omega,fun i hi=>?_⟩,hq.symm,⟨fun k hk=>?_,fun k l hk hl hne id e1 e2=>?_,by omega⟩,rfl,rfl,rfl,⟨[],rfl,trivial⟩,rfl,rfl⟩
   ·rw[←hq] at hi
    rw[hg3,G.put_h,get_put_ne _ _ _ (by omega),G.new_h,get_put_ne _ _ _ (by simp[n2];omega),G.new_h,get_put_ne _ _ _ (by omega),f2 i hi]
   ·have:k=0∨k=1∨k=2∨k=3:=by omega
    rcases this with rfl | rfl | rfl | rfl
    ·exact ⟨q+2,by omega,by omega,rfl,k0'⟩
    ·exact .inr ⟨q+1,0,false,by omega,by omega,rfl,k1⟩
    ·exact .inl ⟨rfl,rfl⟩
    ·exact ⟨q,by omega,by omega,rfl,k3⟩
   ·have hk':k=0∨k=1∨k=2∨k=3:=by omega
    have hl':l=0∨l=1∨l=2∨l=3:=by omega
    rcases hk' with rfl | rfl | rfl | rfl<;>rcases hl' with rfl | rfl | rfl | rfl<;>simp[eid] at e1 e2 hne<;>omega
  clear hg3 b8 n2 f2
  generalize (fun k=>if k=0 then AV.hptr (q+2) 0 0 0 else if k=1 then .hsl (q+1) 0 0 0 none else if k=2 then .nils else .hptr q 0 0 0:Nat→AV)=V at hA
  generalize (fun k=>if k=0 then En.bx [.int .i64 (cN:Int),.hsl (q+1) 0 0 0 none,.nils] else if k=1 then .sl 1 [] else if k=2 then .sl 1 [] else .bx [.int .i64 (cN:Int),fa,fb,fc]:Nat→En)=E at hA
  have hkq:k0<q:=by omega
  have hbq:b≤q:=by omega
  have hck4:cN≤4:=by omega
  have last:∀(t':T) (g':G) (w':AV),St t' [(1,.hptr p 0 0 0),(2,act),(3,.hptr k0 0 0 0),(6,.int .i64 (nds.length:Int)),(9,.hptr (q+2) 0 0 0),(23,na),(24,.int .i64 (x.m.nodes.length:Int)),(25,.int .i64 (i:Int))]→g'.h.get p=.cells 2 [[.int .i64 x.m.grain,w']] 0 false false →
    OwnX p g' b 0 w' (nds++S.copyTo x.m nds.length al i++[S.copyAt x.m nds.length al i])→(∀i,i<q→i≠p→vid w1≠some i→g'.h.get i=g1.h.get i)→q≤g'.nx→(vid w'=vid w1∨∃i,vid w'=some i∧q≤i) →
    (([]:List ADf)=[]∧St t' [(1,.hptr p 0 0 0),(2,act),(3,.hptr k0 0 0 0),(6,.int .i64 (nds.length:Int)),(23,na)]∧k0<g'.nx∧g'.h.get k0=.cells 4 [[.int .i64 x.m.grain,ra,na,.int .i64 x.hidden]] 0 false false ∧
    (∀i,i<b→i≠p→g'.h.get i=g.h.get i)∧∃w,g'.h.get p=.cells 2 [[.int .i64 x.m.grain,w]] 0 false false∧OwnX p g' b 0 w (nds++S.copyTo x.m nds.length al (i+1))∧vid w≠some k0)∧tat t' 25=.int .i64 (i:Int)∧tat t' 24=.int .i64 (x.m.nodes.length:Int):=by
   rintro t' g' w' ⟨h1,h2,h3,h6,h9,h23,h24,h25,-⟩ hp' hW' hf' hq' hv'
   refine ⟨⟨rfl,⟨h1,h2,h3,h6,h23,trivial⟩,by omega,by rw[hf' k0 hkq (by omega) hvk,hkg],fun i' hi' hne=>by rw[hf' i' (by omega) hne (fun e=>by have:=(hW1.lt e).1;omega),hfr i' hi' hne],w',hp',by rw[copyTo_succ,←List.append_assoc];exact hW',?_⟩,h25,h24⟩
   rcases hv' with h | ⟨j,h,hj⟩
   ·rw[h];exact hvk
   ·rw[h];intro e;injection e;omega
  have hyf:=places_len pl1
  have hyn:=places_len pl2
  have hnr:=hs.roots
  have hfm:=places_mem pl1
  have bk:g3.h.get k0=.cells 4 [[.int .i64 x.m.grain,ra,na,.int .i64 x.hidden]] 0 false false:=by rw[hA.fr.2 k0 (by omega),hkg]
  have hkk1:g1.h.get k0=.cells 4 [[.int .i64 x.m.grain,ra,na,.int .i64 x.hidden]] 0 false false:=hkg
  have hnl2:(nds++S.copyTo x.m nds.length al i).length≤1000000:=by rw[List.length_append,copyTo_len];omega
  rw[wp_seq]
  refine seq_cut (P:=fun t df g'=>df=[]∧g'=g3∧tat t 38=.bool (decide (0≤a))∧ASt p k0 q (q+2) act na nds.length x.m.nodes.length i t) ?_ ?_
  ·simp only[sx,sy,SO.run,↓reduceIte,Nat.reduceEqDiff,Nat.reduceAdd,Nat.reduceLeDiff,h1,h2,h3,h6,h7,h8,h9,h23,h24,h25,(ha.tree (h':=g3.h) (Nat.le_refl 0)).ints,hai,hal,ci,List.length_map,List.getElem?_map,Option.map_some,Option.isSome_some,Option.getD_some,ASt,St]
  clear h1 h2 h3 h6 h23 h24 h25 h7 h8 h9
  rintro t df g' ⟨rfl,rfl,h38,h1,h2,h3,h6,h9,h23,h24,h25,h7,h8,-⟩
  obtain ⟨b9,c1,c2⟩:=hA.b9
  have b8:=hA.b8
  have hnx3:=hA.hp.nx
  by_cases h0:0≤a
  ·obtain ⟨aN,rfl⟩:=Int.eq_ofNat_of_zero_le h0
   have hd38:decide ((0:Int)≤(aN:Int))=true:=by simp
   rw[wp_cond]
   simp only[get_t,h38,hd38,wpC_bool,bifP_true]
   refine seq_cutG (P:=fun t df g'=>df=[]∧ASt p k0 q (q+2) act na nds.length x.m.nodes.length i t∧∃V' E',AS q q (q+2) cN fa fb fc g1 g' V' E' [] [S.row x.m.grain cN aN]) ?_ ?_
   ·simp only[sx,sy,sf,SO.run,↓reduceIte,Nat.reduceEqDiff,Nat.reduceAdd,Nat.reduceLeDiff,h1,h2,h3,h6,h7,h8,h9,bk,b8,(ha.tree (h':=g'.h) (Nat.le_refl 0)).ints,hai,hal,ci,List.length_map,List.getElem?_map,Option.map_some,Option.isSome_some,Option.getD_some]
    refine sat_ex (row_ok (c:=cN) (i:=aN) hd (hms _) hck4 (by omega)) fun r hr2=>?_
    simp only[sx,sy,sf,SO.run,↓reduceIte,Nat.reduceEqDiff,Nat.reduceAdd,Nat.reduceLeDiff]
    rw[bsl_one 1 [.nils] r _ (by rw[hr2.cells];rfl) hr2.tup,hr2.cells]
    have e9:¬(q+2=g'.nx+1+1+1+1+1+1+1+1):=by omega
    obtain ⟨S0,hS0⟩:∃S0:G,S0=G.mk g'.h (g'.nx+1+1+1+1+1+1+1+1) []:=⟨_,rfl⟩
    have sh:S0.h=g'.h:=by rw[hS0]
    have sn:S0.nx=g'.nx+1+1+1+1+1+1+1+1:=by rw[hS0]
    have hAS:=hA.same (ga:=S0) sh (by omega)
    have hH2:=hAS.hp.set (k:=2) (g':=S0.new (.cells 1 [[r]] 0 false false)) (v':=.hsl S0.nx 0 0 1 none) (e':=.sl 1 [[r]]) (by decide) (own_one (by omega) _) (by simp) (fun i' _ hi' _=>by rw[G.new_h,get_put_ne _ _ _ (by omega)]) (.inr ⟨S0.nx,rfl,Nat.le_refl _⟩)
    have hA2:=hAS.row hH2 (rws':=[S.row x.m.grain cN aN]) ⟨hr2,trivial⟩ (fun i' hi'=>by rw[G.new_h,get_put_ne _ _ _ (by omega)]) (by simp)
    simp only[sx,sy,sf,SO.run,↓reduceIte,Nat.reduceEqDiff,Nat.reduceAdd,Nat.reduceLeDiff,h1,h2,h3,h6,h7,h8,h9,h23,h24,h25,H.get_put,e9,b9,foot_twin_known_row,ASt,St]
    refine ⟨?_,_,_,hA2.same (by simp[sh,sn]) (by simp[sn])⟩
    simp only[List.reverse_cons,List.reverse_nil,List.nil_append,List.cons_append]
    exact footsOk_mk [false,false,false,false,false,false,false,false,true,false,true] [] (by simp[All2,rdLook,noLook,bigLook]) (by decide) (by simp)
   ·rintro t df g4 ⟨rfl,⟨h1,h2,h3,h6,h9,h23,h24,h25,h7,h8,-⟩,V',E',hA'⟩
    obtain ⟨rr,e2,hrr⟩:=hA'.e2
    rw[wp_seq]
    refine made49 (V:=V') (E:=E') (L:=(·<4)) (g0:=g1) (q:=q) (b:=b) (w:=w1) (nds:=nds++S.copyTo x.m nds.length al i) (ps:=[]) (rws:=[S.row x.m.grain cN aN]) (rr:=rr) (gr:=x.m.grain) (card:=cN) (by simp[St,h1,h2,h3,h6,h9,h23,h24,h25,hA'.v0];exact ⟨rfl,rfl,rfl,rfl,rfl,rfl⟩) hA'.fr hA'.hp hA'.q0 (by decide) (by decide) (by decide) hA'.e0 hA'.e1 e2 hrr (by simp) (by simp) hW1 hnl2 hp1 (by omega) hbq ?_
    intro t' g5 w' ht' hp' hW' hf' hq' hv'
    rw[hA'.v0] at ht'
    rw[kS_norm,wp_exit,kS_exit,kR_exit,if_pos rfl]
    refine last t' g5 w' ht' hp' ?_ hf' hq' hv'
    rw[hcopy,S.nodeOf,if_pos h0,hcN,Int.toNat_natCast,Int.toNat_natCast]
    exact hW'
  ·have hd38:decide ((0:Int)≤a)=false:=by simp;omega
   rw[wp_cond]
   simp only[get_t,h38,hd38,wpC_bool,bifP_false,wp_skip,kS_norm]
   refine seq_cut (P:=fun t df g'=>df=[]∧ASt p k0 q (q+2) act na nds.length x.m.nodes.length i t∧∃V' E',AS q q (q+2) cN fa fb fc g1 g' V' E' y.noise []) ?_ ?_
   ·simp only[sx,sy,SO.run,↓reduceIte,Nat.reduceEqDiff,Nat.reduceAdd,Nat.reduceLeDiff,h1,h2,h3,h6,h7,h8,h9,b8,b9]
    refine hA.hp.app (k:=1) (by decide) hA.e1 (new:=y.noise.map ci) (hfb.tree (h':=g'.h) (Nat.le_refl 0)).ints (by simp[room];omega) fun v1 ga hHa na' fra _ _ vca vta=>?_
    have b9a:ga.h.get (q+2)=.cells 3 [[.int .i64 (cN:Int),V 1,V 2]] 0 false false:=by
     obtain ⟨i,a,b,c,e⟩:=hHa.box (k:=0) (by decide) (by rw[ups_ne _ _ (by decide)];exact hA.e0)
     rw[ups_ne _ _ (by decide),hA.v0] at c;injection c with c;subst c
     exact e
    have hA2:=hA.par (ps':=y.noise) hHa fra na'
    simp only[sx,sy,SO.run,↓reduceIte,Nat.reduceEqDiff,Nat.reduceAdd,Nat.reduceLeDiff,h1,h2,h3,h6,h7,h8,h9,h23,h24,h25,b9a,vca,vta,ASt,St]
    exact ⟨_,_,hA2⟩
   rintro t df g4 ⟨rfl,⟨h1,h2,h3,h6,h9,h23,h24,h25,h7,h8,-⟩,V',E',hA'⟩
   have b8:=hA'.b8
   simp only[sx,sy,SO.run,↓reduceIte,Nat.reduceEqDiff,Nat.reduceAdd,Nat.reduceLeDiff,h8,b8,hfa.len]
   refine add_b0 (p:=p) (k0:=k0) (i8:=q) (act:=act) (bb:=na) (first:=nds.length) (nn:=x.m.nodes.length) (i:=i) hfa (by omega) (fun z hz=>by have:=hfm z hz;omega) (by omega) hn (by simp[ASt,St,sx,h1,h2,h3,h6,h7,h8,h9,h23,h24,h25]) (by simp[sx]) (by simp[sx]) (by simp[sx]) hA' ?_
   clear h1 h2 h3 h6 h9 h23 h24 h25 h7 h8 b8 hA'
   rintro t g5 V' E' ⟨h1,h2,h3,h6,h9,h23,h24,h25,h7,h8,-⟩ hA'
   have b8:=hA'.b8
   have bk5:g5.h.get k0=.cells 4 [[.int .i64 x.m.grain,ra,na,.int .i64 x.hidden]] 0 false false:=by rw[hA'.fr.2 k0 (by omega),hkg]
   have hy8:∀h,Agg y NoP 0 h (.agg [.int .i64 (cN:Int),fa,fb,fc]):=fun h=>⟨_,rfl,rp_mech.2 ⟨fa,fb,fc,by rw[hcN],hfa.tree (Nat.le_refl _),hfb.tree (Nat.le_refl _),hfc.tree (Nat.le_refl _)⟩⟩
   have ab1:=prod_map_bound (f:=S.cardAt x.m) (l:=y.frm) (n:=5) (fun z hz=>cardAt_bound hs (hfm z hz)) (by omega)
   have be1:=prod_map_bound (f:=S.lenAt x.m) (l:=y.noise) (n:=8) (fun z hz=>lenAt_bound hs (places_mem pl2 z hz)) (by omega)
   have p5:(4:Int) ^ 5=1024:=by decide
   have p8:(4:Int) ^ 8=65536:=by decide
   obtain ⟨ab,hab⟩:=Int.eq_ofNat_of_zero_le (show 0≤S.above x.m y by unfold S.above;omega)
   obtain ⟨be,hbe⟩:=Int.eq_ofNat_of_zero_le (show 0≤S.beside x.m y by unfold S.beside;omega)
   have hab2:ab≤1024:=by have:S.above x.m y≤1024:=by unfold S.above;omega
                         omega
   have hbe2:be≤65536:=by have:S.beside x.m y≤65536:=by unfold S.beside;omega
                          omega
   have hmul:ab*be≤1024*65536:=Nat.mul_le_mul hab2 hbe2
   rw[hab,hbe] at hol
   have hol2:y.out.length=ab*be:=by have:((y.out.length:Nat):Int)=((ab*be:Nat):Int):=by rw[hol];simp
                                    omega
   have hwi2:=within_iff.1 hwi
   simp only[f_twin_known_add_k5,sx,sy,SO.run,↓reduceIte,Nat.reduceEqDiff,Nat.reduceAdd,Nat.reduceLeDiff,h3,h8,b8,bk5,sizes_ok hd (hmc _) (hy8 _) hs pl1 pl2,hab,hbe]
   refine add_b3 (p:=p) (k0:=k0) (i8:=q) (act:=act) (bb:=na) (first:=nds.length) (nn:=x.m.nodes.length) (i:=i) (ab:=ab) (be:=be) (x:=x) hd hms hkk1 hkq hck4 hfc hol2 (by omega) (by omega) (fun z hz=>by have:=hwi2 z hz;omega) (by simp[ASt2,St,sx,h1,h2,h3,h6,h7,h8,h9,h23,h24,h25]) (by simp[sx]) (by simp[sx]) hA' ?_
   clear h1 h2 h3 h6 h9 h23 h24 h25 h7 h8 b8 hA' bk5
   rintro t g6 V' E' ⟨h1,h2,h3,h6,h9,h23,h24,h25,h7,h8,h12,h13,-⟩ hA'
   obtain ⟨rr,e2,hrr⟩:=hA'.e2
   have hrl:(S.rowsTo x.m.grain cN ab be y.out be).length=be*ab:=by
    have:∀j,(S.rowsTo x.m.grain cN ab be y.out j).length=j*ab:=fun j=>by
     induction j with
     | zero=>simp[S.rowsTo]
     | succ j ih =>
      have:S.rowsTo x.m.grain cN ab be y.out (j+1)=S.rowsTo x.m.grain cN ab be y.out j++(List.range ab).map fun i=>S.row x.m.grain cN (y.out[i*be+j]?.getD 0).toNat:=by simp[S.rowsTo,List.range_succ]
      rw[this,List.length_append,ih,List.length_map,List.length_range,Nat.add_mul,Nat.one_mul]
    exact this be
   rw[Nat.mul_comm] at hrl
   rw[kB_same,kS_norm]
   simp only[f_twin_known_add_k4]
   refine made116 (V:=V') (E:=E') (L:=(·<4)) (g0:=g1) (q:=q) (b:=b) (w:=w1) (nds:=nds++S.copyTo x.m nds.length al i) (ps:=y.noise++y.frm.map ((nds.length:Int)+·)) (rws:=S.rowsTo x.m.grain cN ab be y.out be) (rr:=rr) (gr:=x.m.grain) (card:=cN) (by simp[St,h1,h2,h3,h6,h9,h23,h24,h25,hA'.v0];exact ⟨rfl,rfl,rfl,rfl,rfl,rfl⟩) hA'.fr hA'.hp hA'.q0 (by decide) (by decide) (by decide) hA'.e0 hA'.e1 e2 hrr (by simp;omega) (by rw[hrl];omega) hW1 hnl2 hp1 (by omega) hbq ?_
   intro t' g7 w' ht' hp' hW' hf' hq' hv'
   rw[hA'.v0] at ht'
   rw[kR_norm]
   refine last t' g7 w' ht' hp' ?_ hf' hq' hv'
   rw[hcopy,S.nodeOf,if_neg h0,hab,hbe,hcN,Int.toNat_natCast,Int.toNat_natCast,Int.toNat_natCast]
   exact hW'
 ·rintro t df g1 ⟨rfl,⟨h1,h2,h3,h6,h23,-⟩,hkn,hkg,hfr,w1,hp1,hW1,hvk⟩
  simp only[sx,sy,SO.run,↓reduceIte,Nat.reduceEqDiff,Nat.reduceAdd,Nat.reduceLeDiff]
  exact kk _ _ w1 hp1 hW1 hfr (by omega)
end
end Hx
end
section
namespace Hx
open Go
noncomputable section
theorem SlR.wider {α:Type} [Rp α]{P P':Nat→Prop}{k:Nat}{h:H}{l:List α}{v:AV}(r:SlR P k h l v)(hf:∀i,P i→P' i):SlR P' k h l v:=by
 obtain ⟨w,hw,q⟩:=Rp.mono (P':=P') (h':=h) (show Rp.rp P k h l [v] from ⟨v,rfl,r⟩) (fun i hi=>⟨hf i hi,rfl⟩) (Nat.le_refl _)
 injection hw with hw;subst hw;exact q
def S.free (m:Causal):List Int:=List.replicate m.nodes.length (-1)
def S.tnetE (m:Causal):Int:=if S.check m then (if S.fits m 1 then 0 else 6) else 330
def S.netOf (m:Causal):Net:=⟨m.grain,m.roots.map S.rootNode++S.copy m (m.roots.length:Nat) (S.free m)⟩
def S.tnet (m:Causal):Net:=if S.tnetE m=0 then S.netOf m else ⟨0,[]⟩
theorem act_free {m:Causal}(h:S.Small m):S.act m (S.free m)=true:=by
 simp only[S.act,S.free,List.length_replicate,decide_true,Bool.true_and,List.all_eq_true,List.mem_range]
 intro i hi
 simp only[S.actAt,List.getElem?_replicate,if_pos hi,Option.getD_some,Bool.and_eq_true,decide_eq_true_eq]
 have:=h.card _ (List.getElem_mem hi)
 refine ⟨Int.le_refl _,?_⟩
 have e:S.cardAt m i=(m.nodes[i]).card:=by unfold S.cardAt;rw[Int.toNat_natCast,List.getElem?_eq_getElem hi];rfl
 rw[e];omega
theorem read_nil (m:Causal):S.readE m []=if S.check m then 0 else 330:=by unfold S.readE;simp
theorem free_len (m:Causal):(S.free m).length=m.nodes.length:=by simp[S.free]
theorem copy_len (m:Causal)(f:Int)(l:List Int):(S.copy m f l).length=m.nodes.length:=by simp[S.copy,S.copyTo]
theorem net_ok {d:Nat}{g:G}{v:AV}{m:Causal}(hd:0<d)(hm:Agg m NoP 0 g.h v) :
  ∃r,callV C0 d N.twin_Net [v] g=.val r∧Tup2 (Agg (S.tnet m)) (One (S.tnetE m)) NoP 0 .nil r:=by
 have e0:=agg_same d hm
 obtain ⟨cs,rfl,hc⟩:=hm
 obtain ⟨a,b,rfl,hR,hN⟩:=rp_causal.1 hc
 have hms:∀h,Agg m NoP 0 h (.agg [.int .i64 m.grain,a,b]):=fun h=>⟨_,rfl,Rp.tree hc (Nat.le_refl _)⟩
 rw[call_twin_Net]
 refine iso_run eq_twin_Net (xs:=[.agg [.int .i64 m.grain,a,b]]) (by simp only[mapO,e0]) (by simp[f_twin_Net]) (snb_tup2 (m:=2) (snb_agg _) (snb_one _) (by decide) (by decide)) (by decide) hd ?_
 simp only[f_twin_Net,sx,sy,SO.run,↓reduceIte,Nat.reduceEqDiff,Nat.reduceAdd]
 obtain ⟨g0,hg0⟩:∃g0,g0=(G.empty.new (AObj.cells 3 [[AV.int IntKind.i64 m.grain,a,b]] 0 false false)).new (AObj.cells 2 [[AV.int IntKind.i64 0,AV.nils]] 0 false false):=⟨_,rfl⟩
 rw[←hg0]
 have f0:g0.h.get 0=.cells 3 [[.int .i64 m.grain,a,b]] 0 false false:=by rw[hg0];simp[sx,H.get_put]
 have f1:g0.h.get 1=.cells 2 [[.int .i64 0,.nils]] 0 false false:=by rw[hg0];simp[sx,H.get_put]
 have f2:g0.nx=2:=by rw[hg0];simp[sx]
 clear hg0
 simp only[f_twin_Net_r,sx,sy,SO.run,↓reduceIte,Nat.reduceEqDiff,Nat.reduceAdd,Nat.reduceLeDiff,f0]
 refine sat_ex (read_ok (ls:=[]) (P2:=NoP) (k2:=0) (Nat.succ_pos d) (Nat.succ_pos d) (hms _) ⟨by decide,rfl⟩) fun r hr=>?_
 obtain ⟨ra,rb,rfl,hra,hrb⟩:=hr
 have hrb:=rp_int.1 hrb
 injection hrb with hrb
 subst hrb
 obtain ⟨kc,rfl,hkc⟩:=hra
 obtain ⟨k1,k2,rfl,hk1,hk2⟩:=rp_known.1 hkc
 simp only[sx,sy,SO.run,↓reduceIte,Nat.reduceEqDiff,Nat.reduceAdd,Nat.reduceLeDiff,f2,read_nil]
 cases hck:S.check m with
 | false =>
  refine bifP_mk (fun hb=>?_) (fun hb=>by simp at hb)
  simp only[sx,sy,SO.run,↓reduceIte,Nat.reduceEqDiff,Nat.reduceAdd,Nat.reduceLeDiff,reduceCtorEq,Bool.false_eq_true,f1,f2,H.get_put]
  refine ⟨NoP,_,_,rfl,⟨_,rfl,?_⟩,?_⟩
  ·have:S.tnet m=⟨0,[]⟩:=by unfold S.tnet S.tnetE;simp[hck]
   rw[this];exact rp_net.2 ⟨_,rfl,by decide,rfl⟩
  ·have:S.tnetE m=330:=by unfold S.tnetE;simp[hck]
   rw[this];exact rp_int.2 rfl
 | true =>
  obtain ⟨hs,hgr,hn1,hro,hno⟩:=check_facts hck
  have hrd:S.read m []=⟨m,S.hidden m⟩:=by unfold S.read;rw[read_nil,hck];rfl
  rw[hrd] at hkc hk1 hk2
  simp only[hrd] at *
  have hks:∀h,Agg (⟨m,S.hidden m⟩:KnownM) NoP 0 h (.agg [.int .i64 m.grain,k1,k2,.int .i64 (S.hidden m)]):=fun h=>⟨_,rfl,Rp.tree hkc (Nat.le_refl _)⟩
  have hf1:∀g:G,callV C0 (d+1) N.twin_known_fits [.agg [.int .i64 m.grain,k1,k2,.int .i64 (S.hidden m)],.int .i64 1] g=.val (.bool (S.fits m 1)):=fun g=>fits_ok (c:=1) (Nat.succ_pos d) (hks _) hck (by decide)
  simp only[sx,sy,SO.run,↓reduceIte,Nat.reduceEqDiff,Nat.reduceAdd,Nat.reduceLeDiff,decide_true,Bool.not_true,hf1]
  cases hfit:S.fits m 1 with
  | false =>
   simp only[sx,sy,SO.run,↓reduceIte,Nat.reduceEqDiff,Nat.reduceAdd,Nat.reduceLeDiff,Bool.not_false,H.get_put,f1,f2]
   refine ⟨NoP,_,_,rfl,⟨_,rfl,?_⟩,?_⟩
   ·have:S.tnet m=⟨0,[]⟩:=by unfold S.tnet S.tnetE;simp[hck,hfit]
    rw[this];exact rp_net.2 ⟨_,rfl,by decide,rfl⟩
   ·have:S.tnetE m=6:=by unfold S.tnetE;simp[hck,hfit]
    rw[this];exact rp_int.2 rfl
  | true =>
   simp only[sx,sy,SO.run,↓reduceIte,Nat.reduceEqDiff,Nat.reduceAdd,Nat.reduceLeDiff,Bool.not_true]
   refine start_ok (hks _) hs.roots (fun r hr=>(hs.len r hr).2) fun w g1 hw fw=>?_
   have n1:=fw.1
   have fr1:=fw.2.1
   simp only[sx,sy,f2,Nat.reduceAdd] at n1 fr1 hw
   have b1:g1.h.get 1=.cells 2 [[.int .i64 0,.nils]] 0 false false:=by rw[fr1 1 (by omega),if_neg (by omega),if_neg (by omega),f1]
   have b2:g1.h.get 2=.cells 4 [[.int .i64 m.grain,k1,k2,.int .i64 (S.hidden m)]] 0 false false:=by rw[fr1 2 (by omega),if_pos rfl]
   have p1:¬(1=g1.nx):=by omega
   have p2:¬(2=g1.nx):=by omega
   have hn5:=hs.nodes
   have hr8:=hs.roots
   simp only[sx,sy,sf,SO.run,↓reduceIte,Nat.reduceEqDiff,Nat.reduceAdd,Nat.reduceLeDiff,b2,p2,H.get_put,hw.cell.1,hw.cell.2]
   refine sat_ex (free_ok (x:=⟨m,S.hidden m⟩) (Nat.succ_pos d) (hks _) (by simpa using hs.nodes)) fun rf hrf=>?_
   simp only[sx,sy,sf,SO.run,↓reduceIte,Nat.reduceEqDiff,Nat.reduceAdd,Nat.reduceLeDiff]
   refine add_ok (x:=⟨m,S.hidden m⟩) (p:=g1.nx) (b:=4) (w:=w) (al:=S.free m) (nds:=m.roots.map S.rootNode) (Nat.succ_pos d) (hks _) hck (hrf.sl _) (act_free hs) (by simp[H.get_put]) (by simp<;>omega) (by simp<;>omega)
    (hw.x (by simp<;>omega) (Nat.le_refl _) fun i _ hi=>by simp only[sx,sy];rw[if_neg (by omega),if_neg (by omega)]) (by simp<;>omega) fun z g2 w' c1 c2 c3 c4=>?_
   simp only[sx,sy] at c1 c3 c4
   have d1:g2.h.get 1=.cells 2 [[.int .i64 0,.nils]] 0 false false:=by rw[c3 1 (by omega) (by omega),if_neg p1,if_neg p1,b1]
   simp only[sx,sy,sf,SO.run,↓reduceIte,Nat.reduceEqDiff,Nat.reduceAdd,Nat.reduceLeDiff,c1,d1,foot_twin_known_free,foot_twin_known_add,H.get_put]
   refine ⟨?_,?_⟩
   ·simp only[List.reverse_cons,List.reverse_nil,List.nil_append,List.cons_append]
    exact footsOk_mk [false,false,false,true] [] (by simp[All2,rdLook,noLook,bigLook]) (by decide) (by simp)
   ·have hE:S.tnetE m=0:=by unfold S.tnetE;simp[hck,hfit]
    refine ⟨fun i=>4≤i,_,_,rfl,⟨_,rfl,?_⟩,?_⟩
    ·rw[S.tnet,if_pos hE]
     refine rp_net.2 ⟨w',rfl,?_⟩
     have:=c2.sl (by simp[S.free,copy_len];omega)
     have e:(m.roots.map S.rootNode).length=m.roots.length:=by simp
     rw[e] at this
     exact (this.wider (P':=fun i=>4≤i) fun i hi=>hi.1).far fun i hi=>by rw[get_put_ne _ _ _ (by have:4≤i:=hi;omega)]
    ·rw[hE];exact rp_int.2 rfl
end
end Hx
end
section
namespace Hx
open Go
noncomputable section
def S.ttwinE (m:Causal)(al:List Int):Int:=if S.check m then (if S.act m al then (if S.fits m 2 then 0 else 6) else 2) else 330
def S.twinOf (m:Causal)(al:List Int):Net:=⟨m.grain,m.roots.map S.rootNode++S.copy m (m.roots.length:Nat) (S.free m)++S.copy m ((m.roots.length+m.nodes.length:Nat)) al⟩
def S.ttwin (m:Causal)(al:List Int):Net:=if S.ttwinE m al=0 then S.twinOf m al else ⟨0,[]⟩
theorem read_one (m:Causal)(al:List Int):S.readE m [al]=if S.check m then (if S.act m al then 0 else 2) else 330:=by unfold S.readE;simp
theorem twin_ok {d:Nat}{g:G}{v act:AV}{m:Causal}{al:List Int}(hd:0<d)(hm:Agg m NoP 0 g.h v)(ha:SlR NoP 0 .nil al act) :
  ∃r,callV C0 d N.twin_Twin [v,act] g=.val r∧Tup2 (Agg (S.ttwin m al)) (One (S.ttwinE m al)) NoP 0 .nil r:=by
 have e0:=agg_same d hm
 have e1:=sl_same (h:=g.h) d (ha.tree (h':=g.h) (Nat.le_refl 0))
 obtain ⟨cs,rfl,hc⟩:=hm
 obtain ⟨a,b,rfl,hR,hN⟩:=rp_causal.1 hc
 have hms:∀h,Agg m NoP 0 h (.agg [.int .i64 m.grain,a,b]):=fun h=>⟨_,rfl,Rp.tree hc (Nat.le_refl _)⟩
 rw[call_twin_Twin]
 refine iso_run eq_twin_Twin (xs:=[.agg [.int .i64 m.grain,a,b],act]) (by simp only[mapO,e0,e1]) (by simp[f_twin_Twin]) (snb_tup2 (m:=2) (snb_agg _) (snb_one _) (by decide) (by decide)) (by decide) hd ?_
 simp only[f_twin_Twin,sx,sy,SO.run,↓reduceIte,Nat.reduceEqDiff,Nat.reduceAdd]
 obtain ⟨g0,hg0⟩:∃g0,g0=(G.empty.new (AObj.cells 3 [[AV.int IntKind.i64 m.grain,a,b]] 0 false false)).new (AObj.cells 2 [[AV.int IntKind.i64 0,AV.nils]] 0 false false):=⟨_,rfl⟩
 rw[←hg0]
 have f0:g0.h.get 0=.cells 3 [[.int .i64 m.grain,a,b]] 0 false false:=by rw[hg0];simp[sx,H.get_put]
 have f1:g0.h.get 1=.cells 2 [[.int .i64 0,.nils]] 0 false false:=by rw[hg0];simp[sx,H.get_put]
 have f2:g0.nx=2:=by rw[hg0];simp[sx]
 clear hg0
 simp only[f_twin_Twin_r,sx,sy,SO.run,↓reduceIte,Nat.reduceEqDiff,Nat.reduceAdd,Nat.reduceLeDiff,f0]
 rw[bsl_one 1 [.nils] act _ (by rw[ha.cell.1];rfl) ha.cell.2,ha.cell.1]
 simp only[sx,sy,SO.run,↓reduceIte,Nat.reduceEqDiff,Nat.reduceAdd,Nat.reduceLeDiff,f2]
 have hls:SlR (fun _=>True) 0 (g0.new (.cells 1 [[act]] 0 false false)).h [al] (.hsl 2 0 0 1 none):=by
  have:=Own.new (g:=g0) (b:=0) (Nat.zero_le _) 1 [[act]]
  rw[f2] at this
  exact Own.sl (α:=List Int) this (by simp) ⟨⟨act,rfl,ha.wide (Nat.le_refl _)⟩,trivial⟩ fun _ _=>trivial
 refine sat_ex (read_ok (ls:=[al]) (Nat.succ_pos d) (Nat.succ_pos d) (hms _) hls) fun r hr=>?_
 obtain ⟨ra,rb,rfl,hra,hrb⟩:=hr
 have hrb:=rp_int.1 hrb
 injection hrb with hrb
 subst hrb
 obtain ⟨kc,rfl,hkc⟩:=hra
 obtain ⟨k1,k2,rfl,hk1,hk2⟩:=rp_known.1 hkc
 simp only[sx,sy,SO.run,↓reduceIte,Nat.reduceEqDiff,Nat.reduceAdd,Nat.reduceLeDiff,f2,read_one]
 cases hck:S.check m with
 | false =>
  refine bifP_mk (fun hb=>?_) (fun hb=>by simp at hb)
  simp only[sx,sy,SO.run,↓reduceIte,Nat.reduceEqDiff,Nat.reduceAdd,Nat.reduceLeDiff,reduceCtorEq,Bool.false_eq_true,f1,f2,H.get_put]
  refine ⟨NoP,_,_,rfl,⟨_,rfl,?_⟩,?_⟩
  ·have:S.ttwin m al=⟨0,[]⟩:=by unfold S.ttwin S.ttwinE;simp[hck]
   rw[this];exact rp_net.2 ⟨_,rfl,by decide,rfl⟩
  ·have:S.ttwinE m al=330:=by unfold S.ttwinE;simp[hck]
   rw[this];exact rp_int.2 rfl
 | true =>
  cases hac:S.act m al with
  | false =>
   refine bifP_mk (fun hb=>?_) (fun hb=>by simp at hb)
   simp only[sx,sy,SO.run,↓reduceIte,Nat.reduceEqDiff,Nat.reduceAdd,Nat.reduceLeDiff,reduceCtorEq,Bool.false_eq_true,f1,f2,H.get_put]
   refine ⟨NoP,_,_,rfl,⟨_,rfl,?_⟩,?_⟩
   ·have:S.ttwin m al=⟨0,[]⟩:=by unfold S.ttwin S.ttwinE;simp[hck,hac]
    rw[this];exact rp_net.2 ⟨_,rfl,by decide,rfl⟩
   ·have:S.ttwinE m al=2:=by unfold S.ttwinE;simp[hck,hac]
    rw[this];exact rp_int.2 rfl
  | true =>
  obtain ⟨hs,hgr,hn1,hro,hno⟩:=check_facts hck
  have hrd:S.read m [al]=⟨m,S.hidden m⟩:=by unfold S.read;rw[read_one,hck,hac];rfl
  rw[hrd] at hkc hk1 hk2
  simp only[hrd] at *
  have hks:∀h,Agg (⟨m,S.hidden m⟩:KnownM) NoP 0 h (.agg [.int .i64 m.grain,k1,k2,.int .i64 (S.hidden m)]):=fun h=>⟨_,rfl,Rp.tree hkc (Nat.le_refl _)⟩
  have hf1:∀g:G,callV C0 (d+1) N.twin_known_fits [.agg [.int .i64 m.grain,k1,k2,.int .i64 (S.hidden m)],   .int .i64 2] g=.val (.bool (S.fits m 2)):=fun g=>fits_ok (c:=2) (Nat.succ_pos d) (hks _) hck (by decide)
  simp only[sx,sy,SO.run,↓reduceIte,Nat.reduceEqDiff,Nat.reduceAdd,Nat.reduceLeDiff,decide_true,Bool.not_true,hf1]
  cases hfit:S.fits m 2 with
  | false =>
   simp only[sx,sy,SO.run,↓reduceIte,Nat.reduceEqDiff,Nat.reduceAdd,Nat.reduceLeDiff,Bool.not_false,H.get_put,f1,f2]
   refine ⟨NoP,_,_,rfl,⟨_,rfl,?_⟩,?_⟩
   ·have:S.ttwin m al=⟨0,[]⟩:=by unfold S.ttwin S.ttwinE;simp[hck,hac,hfit]
    rw[this];exact rp_net.2 ⟨_,rfl,by decide,rfl⟩
   ·have:S.ttwinE m al=6:=by unfold S.ttwinE;simp[hck,hac,hfit]
    rw[this];exact rp_int.2 rfl
  | true =>
   simp only[sx,sy,SO.run,↓reduceIte,Nat.reduceEqDiff,Nat.reduceAdd,Nat.reduceLeDiff,Bool.not_true]
   refine start_ok (hks _) hs.roots (fun r hr=>(hs.len r hr).2) fun w g1 hw fw=>?_
   have n1:=fw.1
   have fr1:=fw.2.1
   simp only[sx,sy,f2,Nat.reduceAdd] at n1 fr1 hw
   have b1:g1.h.get 1=.cells 2 [[.int .i64 0,.nils]] 0 false false:=by rw[fr1 1 (by omega),if_neg (by omega),if_neg (by omega),if_neg (by omega),f1]
   have b2:g1.h.get 3=.cells 4 [[.int .i64 m.grain,k1,k2,.int .i64 (S.hidden m)]] 0 false false:=by rw[fr1 3 (by omega),if_pos rfl]
   have p1:¬(1=g1.nx):=by omega
   have p2:¬(3=g1.nx):=by omega
   have hn5:=hs.nodes
   have hr8:=hs.roots
   simp only[sx,sy,sf,SO.run,↓reduceIte,Nat.reduceEqDiff,Nat.reduceAdd,Nat.reduceLeDiff,b2,p2,H.get_put,hw.cell.1,hw.cell.2]
   refine sat_ex (free_ok (x:=⟨m,S.hidden m⟩) (Nat.succ_pos d) (hks _) (by simpa using hs.nodes)) fun rf hrf=>?_
   simp only[sx,sy,sf,SO.run,↓reduceIte,Nat.reduceEqDiff,Nat.reduceAdd,Nat.reduceLeDiff]
   refine add_ok (x:=⟨m,S.hidden m⟩) (p:=g1.nx) (b:=5) (w:=w) (al:=S.free m) (nds:=m.roots.map S.rootNode) (Nat.succ_pos d) (hks _) hck (hrf.sl _) (act_free hs) (by simp[H.get_put]) (by simp<;>omega) (by simp<;>omega)
    (hw.x (by simp<;>omega) (Nat.le_refl _) fun i _ hi=>by simp only[sx,sy];rw[if_neg (by omega),if_neg (by omega)]) (by simp<;>omega) fun z g2 w' c1 c2 c3 c4=>?_
   simp only[sx,sy] at c1 c3 c4
   have d1:g2.h.get 1=.cells 2 [[.int .i64 0,.nils]] 0 false false:=by rw[c3 1 (by omega) (by omega),if_neg p1,if_neg p1,b1]
   have d3:g2.h.get 3=.cells 4 [[.int .i64 m.grain,k1,k2,.int .i64 (S.hidden m)]] 0 false false:=by rw[c3 3 (by omega) (by omega),if_neg p2,if_neg p2,b2]
   simp only[sx,sy,sf,SO.run,↓reduceIte,Nat.reduceEqDiff,Nat.reduceAdd,Nat.reduceLeDiff,c1,d1,d3,foot_twin_known_free,foot_twin_known_add,H.get_put]
   refine ⟨?_,?_⟩
   ·simp only[List.reverse_cons,List.reverse_nil,List.nil_append,List.cons_append]
    exact footsOk_mk [false,false,false,true] [] (by simp[All2,rdLook,noLook,bigLook]) (by decide) (by simp)
   ·refine add_ok (x:=⟨m,S.hidden m⟩) (p:=g1.nx) (b:=5) (w:=w') (al:=al) (nds:=m.roots.map S.rootNode++S.copy m (m.roots.map S.rootNode).length (S.free m)) (Nat.succ_pos d) (hks _) hck ha hac (by simpa using c1) (by simp;omega) (by simp;omega)
     (c2.fr (by simp) fun i _ _ _=>by simp) (by simp[copy_len];omega) fun z g3 w'' c1 c2 c3 c4=>?_
    simp only[sx,sy] at c1 c3 c4
    have d1:g3.h.get 1=.cells 2 [[.int .i64 0,.nils]] 0 false false:=by rw[c3 1 (by omega) (by omega),d1]
    simp only[sx,sy,sf,SO.run,↓reduceIte,Nat.reduceEqDiff,Nat.reduceAdd,Nat.reduceLeDiff,c1,d1]
    have hE:S.ttwinE m al=0:=by unfold S.ttwinE;simp[hck,hac,hfit]
    refine ⟨fun i=>5≤i,_,_,rfl,⟨_,rfl,?_⟩,?_⟩
    ·rw[S.ttwin,if_pos hE]
     refine rp_net.2 ⟨w'',rfl,?_⟩
     have:=c2.sl (by simp[copy_len];omega)
     have e:(m.roots.map S.rootNode).length=m.roots.length:=by simp
     rw[List.length_append,e,copy_len] at this
     exact (this.wider (P':=fun i=>5≤i) fun i hi=>hi.1).far fun i hi=>by rw[get_put_ne _ _ _ (by have:5≤i:=hi;omega)]
    ·rw[hE];exact rp_int.2 rfl
end
end Hx
end
section
namespace Hx
open Go
noncomputable section
def NBx (g:G)(gr:Int)(a b w:AV):Prop:=g.h.get 0=.cells 3 [[.int .i64 gr,a,b]] 0 false false∧g.h.get 1=.cells 2 [[.int .i64 0,.nils]] 0 false false∧g.h.get 2=.cells 2 [[.int .i64 gr,w]] 0 false false∧3≤g.nx
def NSt (act:AV)(both:Bool)(t:T):Prop:=St t [(1,act),(2,.bool both),(3,.hptr 0 0 0 0),(6,.hptr 1 0 0 0),(8,.hptr 2 0 0 0)]
theorem rp_root {P:Nat→Prop}{g2 gx:G}{ws:List Int}{v2:AV}{A b:Nat}(hv2:Own g2 b v2 1 (ws.map ci))(hA:gx.h.get A=.cells 1 [[v2]] 0 false false)(hf:∀i,vid v2=some i→gx.h.get i=g2.h.get i)(hn:g2.nx≤gx.nx)
  (hP:∀i,vid v2=some i→P i) (hPA:P A) (hl:ws.length<9223372036854775808):Rp.rp P 0 gx.h (S.rootNode ws) [.int .i64 ws.length,.nils,.hsl A 0 0 1 none]:=by
 have h1:SlR P 0 gx.h ws v2:=Own.sl (α:=Int) (hv2.fr hn hf) hl (All2.of_map (fun a=>rp_int.2 rfl) _) hP
 refine rp_node.2 ⟨_,_,rfl,⟨by simp[S.rootNode],rfl⟩,⟨by simp[S.rootNode],hPA,[[v2]],?_,⟨v2,rfl,h1⟩,trivial⟩⟩
 show rowsOf gx.h 1 (.hsl A 0 0 1 none)=some [[v2]]
 rw[rowsOf_hsl,hA]
 exact hslRows_all 1 [[v2]] 0 false false
theorem nw_b0 {d:Nat}{m:Causal}{act a b:AV}{both:Bool}{Q:QT}(hR:SlR NoP 0 .nil m.roots a)(hs:S.Small m){t:T}{g:G}(ht:NSt act both t)(h9:tat t 9=.int .i64 1)(h10:tat t 10=.int .i64 0)(hB:NBx g m.grain a b .nils)
  (fin:∀t g w,NSt act both t→tat t 9=.int .i64 (S.hidden m)→NBx g m.grain a b w→OwnT g 3 0 w (m.roots.map S.rootNode)→Q (.exit 0) t [] g) :
  wpL (wp C0 d none f_ref33_Network_b0) Q t [] g:=by
 obtain ⟨rows,r1,r2,r3,r4⟩:=hR.all
 have r1:∀h',rowsOf h' 1 a=some rows:=r1
 have hr8:=hs.roots
 simp only[f_ref33_Network_b0]
 refine wpL_cnt m.roots.length (by omega) (fun j t df g=>df=[]∧NSt act both t∧tat t 9=.int .i64 (S.prod ((m.roots.take j).map fun r=>(r.length:Int)))∧∃w,NBx g m.grain a b w∧OwnT g 3 0 w ((m.roots.take j).map S.rootNode))
  ⟨rfl,ht,h9,.nils,hB,OwnT.nils⟩ h10 (by decide) (by rintro j t df g v s (rfl | rfl | rfl)<;>simp[NSt,St,sx]) ?_ ?_ ?_
 ·rintro j t df g hj ⟨rfl,⟨h1,h2,h3,h6,h8,-⟩,h9,w,hB,hw⟩ h10
  simp only[sx,sy,SO.run,↓reduceIte,Nat.reduceEqDiff,Nat.reduceAdd,Nat.reduceLeDiff,h1,h2,h3,h6,h8,h9,h10,hB.1,hR.len,NSt,St]
  exact ⟨w,hB,hw⟩
 ·clear ht h9 h10 hB
  rintro j t df g1 hj ⟨rfl,⟨h1,h2,h3,h6,h8,-⟩,h9,w,hB,hw⟩ h10
  obtain ⟨ws,hx,htk,hm⟩:=take_next hj
  obtain ⟨row,q1,q2⟩:=r3 j ws hx
  obtain ⟨u,rfl,hu⟩:=rp_list.1 q2
  have hlt:j<rows.length:=by omega
  have hwl:=hs.len ws hm
  obtain ⟨b0,b1,b2,hnx⟩:=hB
  have hul:=hu.len
  have hpb:=hidden_bound hs j
  have hpb2:=hidden_bound hs (j+1)
  have p8:(4:Int) ^ 8=65536:=by decide
  simp only[sx,sy,sf,SO.run,↓reduceIte,Nat.reduceEqDiff,Nat.reduceAdd,Nat.reduceLeDiff,h3,h8,h10,b0,b2,r1,hlt,q1,hul,Option.isSome_some,Option.getD_some]
  refine append_own (b:=3) (rows:=[]) (new:=ws.map ci) (.inl ⟨rfl,rfl⟩) (by simpa using (hu.tree (h':=g1.h) (Nat.le_refl _)).ints) (by simp<;>omega) (by simp[room];omega) fun v2 g2 hv2 n2 fr2 vid2 lg2=>?_
  simp only[sx,sy,SO.run,↓reduceIte,Nat.reduceEqDiff,Nat.reduceAdd,Nat.reduceLeDiff] at hv2 n2 fr2 vid2 lg2
  have fr2:∀i,i<g1.nx→g2.h.get i=g1.h.get i:=fun i hi=>fr2 i (by omega) (by simp[vid])
  have hvid:∀i,vid v2=some i→g1.nx≤i∧i<g2.nx:=fun i hi=>⟨by
   rcases vid2 with h | ⟨j,h,hj⟩
   ·rw[h] at hi;cases hi
   ·rw[h] at hi;injection hi with hi;omega,(hv2.lt hi).2⟩
  have hw2:OwnT g2 3 0 w ((m.roots.take j).map S.rootNode):=hw.fr (by omega) fun i _ hi=>fr2 i hi
  simp only[sx,sy,sf,SO.run,↓reduceIte,Nat.reduceEqDiff,Nat.reduceAdd,Nat.reduceLeDiff,h3,h8,h10,hv2.cell.1,hv2.cell.2,List.map_nil]
  have ne1:¬(g2.nx+1=g2.nx+1+1+1+1):=by omega
  refine append_ownT (α:=Node) (b:=3) (k:=0) (l:=(m.roots.take j).map S.rootNode) (y:=S.rootNode ws) (cs:=[.int .i64 ws.length,.nils,.hsl (g2.nx+1) 0 0 1 none]) (hw2.step ⟨by simp;omega,fun i hi=>?_⟩) (by simp[sy,H.get_put,Rp.sz]) ?_ (by simp<;>omega) (by simp[room];omega) fun v3 g3 hv3 n3 fr3 vid3 lg3=>?_
  ·simp only[sx,sy,SO.run,↓reduceIte,Nat.reduceEqDiff,Nat.reduceAdd,Nat.reduceLeDiff]
   rw[if_neg (by omega),if_neg (by omega)]
  ·refine rp_root hv2 (by simp only[sx,sy,SO.run,↓reduceIte,Nat.reduceEqDiff,Nat.reduceAdd,Nat.reduceLeDiff];rw[if_neg (by omega)]) (fun i hi=>?_) (by simp<;>omega) (fun i hi=>?_) ?_ (by omega)
   ·have:=hvid i hi
    simp only[sx,sy,SO.run,↓reduceIte,Nat.reduceEqDiff,Nat.reduceAdd,Nat.reduceLeDiff];rw[if_neg (by omega),if_neg (by omega)]
   ·have:=hvid i hi
    exact ⟨by omega,by simp<;>omega,fun e=>by have:=(hw.lt e).2;omega⟩
   ·exact ⟨by omega,by simp<;>omega,fun e=>by have:=(hw.lt e).2;omega⟩
  simp only[sx,sy,SO.run,↓reduceIte,Nat.reduceEqDiff,Nat.reduceAdd,Nat.reduceLeDiff] at n3 fr3 lg3
  have wlt:∀i,vid w=some i→3≤i:=fun i hi=>(hw.lt hi).1
  have c:∀i,i<3→g3.h.get i=g1.h.get i:=fun i hi=>by rw[fr3 i (by omega) (fun e=>by have:=wlt i e;omega),if_neg (by omega),if_neg (by omega),fr2 i (by omega)]
  have c0:g3.h.get 0=.cells 3 [[.int .i64 m.grain,a,b]] 0 false false:=by rw[c 0 (by omega),b0]
  have c1:g3.h.get 1=.cells 2 [[.int .i64 0,.nils]] 0 false false:=by rw[c 1 (by omega),b1]
  have c2:g3.h.get 2=.cells 2 [[.int .i64 m.grain,w]] 0 false false:=by rw[c 2 (by omega),b2]
  have hra:refIds a=[]:=hR.refs
  have hrya:=rowy_of (r1 .nil) hlt
  rw[htk,List.map_append,List.map_singleton,prod_snoc] at hpb2
  have hw64:IntKind.wrap .i64 (S.prod (List.map (fun r=>(r.length:Int)) (List.take j m.roots))*(ws.length:Int))=S.prod (List.map (fun r=>(r.length:Int)) (List.take (j+1) m.roots)):=by
   rw[htk,List.map_append,List.map_singleton,prod_snoc]
   exact wrap64 (by omega) (by omega)
  simp only[sx,sy,sf,SO.run,↓reduceIte,Nat.reduceEqDiff,Nat.reduceAdd,Nat.reduceLeDiff,h1,h2,h3,h6,h8,h9,h10,c0,c2,hv3.cell.1,hv3.cell.2,r1,hlt,q1,hul,Option.isSome_some,Option.getD_some,H.get_put,hw64,NSt,St]
  refine ⟨?_,v3,⟨?_,?_,?_,?_⟩,?_⟩
  ·simp only[List.reverse_cons,List.reverse_nil,List.nil_append,List.cons_append,hra,refIds_rptr hrya]
   refine footsOk_mk [false,false,false,false,false,false,false,false,false,false,false,false,false,false,true,true,false,true,true,false,true] [(0,14),(1,14),(2,14),(3,14),(4,14),(5,14),(6,14),(7,14),(0,15),(1,15),(2,15),(3,15),(4,15),(5,15),(6,15),(7,15),(0,17),(1,17)] (by simp[All2,rdLook,noLook,bigLook]) (by decide) ?_
   rintro p hp x y hx hy
   simp only[List.mem_cons,List.not_mem_nil,or_false] at hp
   rcases hp with rfl | rfl | rfl | rfl | rfl | rfl | rfl | rfl | rfl | rfl | rfl | rfl | rfl | rfl | rfl | rfl | rfl | rfl<;>(simp at hx hy;subst hx;subst hy;refine apart_mk rfl rfl rfl rfl ?_ ?_ ?_<;>simp[rdLook,noLook,refIds]<;>first | omega | (intro i' hi';rcases lg2 i' hi' with h | h<;>first | omega | simp at h) | skip)
  ·simp[H.get_put,c0]
  ·simp[H.get_put,c1]
  ·simp[H.get_put]
  ·simp<;>omega
  ·rw[htk,List.map_append,List.map_singleton]
   exact hv3.fr (by simp<;>omega) fun i hi _=>by simp[H.get_put];omega
 ·rintro t df g ⟨rfl,ht,h9,w,hB,hw⟩
  rw[List.take_length] at h9 hw
  exact fin t g w ht h9 hB hw
end
end Hx
end
section
namespace Hx
open Go
noncomputable section
def N2St (act:AV)(both:Bool)(first wv cp vv:Int)(i8 i9:Nat)(t:T):Prop :=
 St t [(1,act),(2,.bool both),(3,.hptr 0 0 0 0),(6,.hptr 1 0 0 0),(8,.hptr 2 0 0 0),(9,.int .i64 wv),(12,.int .i64 cp),(13,.int .i64 first),(14,.int .i64 vv),(15,.hptr i8 0 0 0),(16,.hptr i9 0 0 0)]
theorem nw_b1 {d q i8 i9:Nat}{act fa fb fc:AV}{both:Bool}{wv cp vv card:Int}{first:Nat}{frm noise:List Int}{rws:List (List Int)}{Q:QT}{t:T}{g g0:G}{V:Nat→AV}{E:Nat→En}(hfa:SlR NoP 0 .nil frm fa)(hf:frm.length≤100)(hfn:∀y∈frm,0≤y∧y<100)(hno:noise.length≤100)(hfi:first≤1000)
  (ht:N2St act both first wv cp vv i8 i9 t) (h18:tat t 18=.int .i64 0) (hA:AS q i8 i9 card fa fb fc g0 g V E noise rws) (hV:V 2=.nils)
  (fin:∀t g V E,N2St act both first wv cp vv i8 i9 t→V 2=.nils→AS q i8 i9 card fa fb fc g0 g V E (noise++frm.map ((first:Int)+·)) rws→Q (.exit 6) t [] g) :
  wpL (wp C0 d none f_ref33_Network_b1) Q t [] g:=by
 simp only[f_ref33_Network_b1]
 refine wpL_cnt frm.length (by omega) (fun j t df g=>df=[]∧N2St act both first wv cp vv i8 i9 t∧∃V E,V 2=.nils∧AS q i8 i9 card fa fb fc g0 g V E (noise++(frm.take j).map ((first:Int)+·)) rws)
  ⟨rfl,ht,V,E,hV,by simpa using hA⟩ h18 (by decide) (by rintro j t df g v s (rfl | rfl | rfl)<;>simp[N2St,St,sx]) ?_ ?_ ?_
 ·rintro j t df g hj ⟨rfl,⟨h1,h2,h3,h6,h8,h9,h12,h13,h14,h15,h16,-⟩,V,E,hV,hA⟩ h18
  have b8:=hA.b8
  simp only[sx,sy,SO.run,↓reduceIte,Nat.reduceEqDiff,Nat.reduceAdd,Nat.reduceLeDiff,h1,h2,h3,h6,h8,h9,h12,h13,h14,h15,h16,h18,b8,hfa.len,N2St,St]
  exact ⟨V,E,hV,hA⟩
 ·clear ht h18 hA hV
  rintro j t df g hj ⟨rfl,⟨h1,h2,h3,h6,h8,h9,h12,h13,h14,h15,h16,-⟩,V,E,hV,hA⟩ h18
  obtain ⟨y,hy,htk,hm⟩:=take_next hj
  have hyb:=hfn y hm
  have hr:=(hfa.tree (h':=g.h) (Nat.le_refl _)).ints
  obtain ⟨b9,c1,c2⟩:=hA.b9
  have b8:=hA.b8
  have hnx:=hA.hp.nx
  simp only[sx,sy,sf,SO.run,↓reduceIte,Nat.reduceEqDiff,Nat.reduceAdd,Nat.reduceLeDiff,h13,h15,h16,h18,b8,hr,hj,hy,ci,List.length_map,List.getElem?_map,Option.map_some,Option.isSome_some,Option.getD_some,b9,wrap64 (show -9223372036854775808≤(first:Int)+y by omega) (show (first:Int)+y<9223372036854775808 by omega)]
  refine Hp.app (k:=1) (hA.hp.step (by simp;omega) (fun i' _ hi'=>?_)) (by decide) hA.e1 (new:=[[.int .i64 ((first:Int)+y)]]) (by simp[sx,sy,H.get_put]) (by simp[room];omega) fun v1 ga hHa na fra _ lga vca vta=>?_
  ·simp only[sx,sy,SO.run,↓reduceIte,Nat.reduceEqDiff,Nat.reduceAdd,Nat.reduceLeDiff];rw[if_neg (by omega)]
  simp only[sx,sy] at na fra lga
  have e:(List.map ci (noise++(frm.take j).map ((first:Int)+·))++[[AV.int .i64 ((first:Int)+y)]])=List.map ci (noise++(frm.take (j+1)).map ((first:Int)+·)):=by rw[htk];simp[ci]
  rw[e] at hHa
  have hA2:=hA.par hHa (fun i' hi'=>by rw[fra i' hi',if_neg (by omega)]) (by omega)
  have b9a:ga.h.get i9=.cells 3 [[.int .i64 card,V 1,V 2]] 0 false false:=by
   obtain ⟨i,a,b,c,e⟩:=hHa.box (k:=0) (by decide) (by rw[ups_ne _ _ (by decide)];exact hA.e0)
   rw[ups_ne _ _ (by decide),hA.v0] at c;injection c with c;subst c
   exact e
  have ro:=(hA.hp.own (k:=1) (by decide) hA.e1).refs_lt
  have rfa:refIds fa=[]:=hfa.refs
  simp only[sx,sy,sf,SO.run,↓reduceIte,Nat.reduceEqDiff,Nat.reduceAdd,Nat.reduceLeDiff,h1,h2,h3,h6,h8,h9,h12,h13,h14,h15,h16,h18,b9a,vca,vta,N2St,St]
  refine ⟨?_,_,_,by rw[ups_ne _ _ (by decide)];exact hV,hA2.same (by simp) (by simp<;>omega)⟩
  simp only[List.reverse_cons,List.reverse_nil,List.nil_append,List.cons_append]
  refine footsOk_mk [false,false,false,false,false,false,false,false,false,true,true,false,true] [(0,9),(1,9)] (by simp[All2,rdLook,noLook,bigLook]) (by decide) ?_
  rintro p hp x y hx hy
  simp only[List.mem_cons,List.not_mem_nil,or_false] at hp
  rcases hp with rfl | rfl<;>(simp at hx hy;subst hx;subst hy;refine apart_mk rfl rfl rfl rfl ?_ ?_ ?_<;>simp[rdLook,noLook,refIds]<;>omega)
 ·rintro t df g ⟨rfl,ht,V,E,hV,hA⟩
  rw[List.take_length] at hA
  exact fin t g V E ht hV hA
structure RS (q2 i9:Nat) (card:Int) (v1:AV) (gA g:G) (v2:AV) (rws:List (List Int)):Prop where
 b9:g.h.get i9=.cells 3 [[.int .i64 card,v1,v2]] 0 false false
 fr:∀i,i<q2→i≠i9→g.h.get i=gA.h.get i
 nx:q2≤g.nx
 lt:i9<q2
 own:OwnT g q2 0 v2 rws
theorem RS.same {q2 i9:Nat}{card:Int}{v1:AV}{gA g ga:G}{v2:AV}{rws:List (List Int)}(h:RS q2 i9 card v1 gA g v2 rws)(hf:ga.h=g.h)(hn:g.nx≤ga.nx):RS q2 i9 card v1 gA ga v2 rws :=
 ⟨by rw[hf,h.b9],fun i a b=>by rw[hf,h.fr i a b],by have:=h.nx;omega,h.lt,h.own.fr hn fun i _ _=>by rw[hf]⟩
theorem nw_b2 {d q2 i8 i9 ab be aa:Nat}{act fa fb fc u1 u2 v1 a b w:AV}{both:Bool}{gr wv cp vv:Int}{first:Int}{cN:Nat}{out:List Int}{k1 k2:List Int}{R0:List (List Int)}{Q:QT}{t:T}{g gA:G}{v2:AV}(hd:0<d)
  (hfc:SlR NoP 0 .nil out fc) (hol:out.length=ab*be) (hob:ab*be≤100000000) (hov:∀y∈out,0≤y∧y<(cN:Int)) (hc4:cN≤4) (haa:aa<be) (hR:R0.length≤100000000)
  (u1o:∀g':G,(∀i,i<q2→i≠i9→g'.h.get i=gA.h.get i)→q2≤g'.nx→SlR (fun _=>True) 0 g'.h k1 u1) (u2o:∀g':G,(∀i,i<q2→i≠i9→g'.h.get i=gA.h.get i)→q2≤g'.nx→SlR (fun _=>True) 0 g'.h k2 u2) (p1:S.wprod k1=(be:Int)) (p2:S.wprod k2=(ab:Int))
  (i8lt:i8<q2) (i8ne:i8≠i9) (b8:gA.h.get i8=.cells 4 [[.int .i64 (cN:Int),fa,fb,fc]] 0 false false) (b0:gA.h.get 0=.cells 3 [[.int .i64 gr,a,b]] 0 false false) (q20:0<q2) (i90:i9≠0)
  (ht:N2St act both first wv cp vv i8 i9 t) (h19:tat t 19=u1) (h20:tat t 20=u2) (h21:tat t 21=.int .i64 (aa:Int)) (h22:tat t 22=.int .i64 0) (hA:RS q2 i9 cN v1 gA g v2 R0)
  (fin:∀t g v2,N2St act both first wv cp vv i8 i9 t→tat t 19=u1→tat t 20=u2→tat t 21=.int .i64 (aa:Int)→RS q2 i9 cN v1 gA g v2 (R0++(List.range ab).map fun i=>S.row gr cN (out[i*be+aa]?.getD 0).toNat)→Q (.exit 10) t [] g) :
  wpL (wp C0 d none f_ref33_Network_b2) Q t [] g:=by
 have hbe:be≤100000000∨ab=0:=by
  by_cases h:ab=0
  ·exact .inr h
  ·exact .inl (Nat.le_trans (Nat.le_mul_of_pos_left be (by omega)) hob)
 have hab:ab≤100000000:=Nat.le_trans (Nat.le_mul_of_pos_right ab (by omega)) hob
 simp only[f_ref33_Network_b2]
 refine wpL_cnt ab (by omega) (fun j t df g=>df=[]∧N2St act both first wv cp vv i8 i9 t∧tat t 19=u1∧tat t 20=u2∧tat t 21=.int .i64 (aa:Int)∧∃v2,RS q2 i9 cN v1 gA g v2 (R0++(List.range j).map fun i=>S.row gr cN (out[i*be+aa]?.getD 0).toNat))
  ⟨rfl,ht,h19,h20,h21,v2,by simpa using hA⟩ h22 (by decide) (by rintro j t df g v s (rfl | rfl | rfl)<;>simp[N2St,St,sx]) ?_ ?_ ?_
 ·rintro j t df g hj ⟨rfl,⟨h1,h2,h3,h6,h8,h9,h12,h13,h14,h15,h16,-⟩,h19,h20,h21,v2,hA⟩ h22
  have pk:∀g':G,g'.h=g.h→g.nx≤g'.nx→callV C0 d N.ref33_product [u2] g'=.val (.int .i64 (ab:Int)):=fun g' e n=>by
   rw[product_ok hd (u2o g' (fun i x y=>by rw[e,hA.fr i x y]) (by have:=hA.nx;omega)),p2]
  simp only[sx,sy,SO.run,↓reduceIte,Nat.reduceEqDiff,Nat.reduceAdd,Nat.reduceLeDiff,h1,h2,h3,h6,h8,h9,h12,h13,h14,h15,h16,h19,h20,h21,h22,pk g rfl (Nat.le_refl _),N2St,St]
  exact ⟨v2,hA⟩
 ·clear ht h19 h20 h21 h22 hA
  rintro j t df g hj ⟨rfl,⟨h1,h2,h3,h6,h8,h9,h12,h13,h14,h15,h16,-⟩,h19,h20,h21,v2,hA⟩ h22
  have hlt:j*be+aa<ab*be:=by
   have:(j+1)*be≤ab*be:=Nat.mul_le_mul_right be (by omega)
   rw[Nat.add_mul,Nat.one_mul] at this;omega
  have hlt2:j*be+aa<out.length:=by omega
  obtain ⟨y,hy⟩:∃y,out[j*be+aa]?=some y:=⟨_,List.getElem?_eq_getElem hlt2⟩
  obtain ⟨y0,y1⟩:=hov y (List.mem_of_getElem? hy)
  obtain ⟨yN,rfl⟩:=Int.eq_ofNat_of_zero_le y0
  have b8g:g.h.get i8=.cells 4 [[.int .i64 (cN:Int),fa,fb,fc]] 0 false false:=by rw[hA.fr i8 i8lt i8ne,b8]
  have b0g:g.h.get 0=.cells 3 [[.int .i64 gr,a,b]] 0 false false:=by rw[hA.fr 0 q20 (Ne.symm i90),b0]
  have hnx:=hA.nx
  have hi9:=hA.lt
  simp only[sx,sy,SO.run,↓reduceIte,Nat.reduceEqDiff,Nat.reduceAdd,Nat.reduceLeDiff,h15,b8g]
  refine mks_own (b:=q2) (n:=cN) (by simp[room];omega) (by simp[room];omega) hnx fun vr g1 hvr n1 fr1 vv1=>?_
  have b8h:g1.h.get i8=.cells 4 [[.int .i64 (cN:Int),fa,fb,fc]] 0 false false:=by rw[fr1 i8 (by omega),b8g]
  have b0h:g1.h.get 0=.cells 3 [[.int .i64 gr,a,b]] 0 false false:=by rw[fr1 0 (by omega),b0g]
  have hmul:(j:Int)*(be:Int)=((j*be:Nat):Int):=by simp
  have hadd:((j*be:Nat):Int)+(aa:Int)=((j*be+aa:Nat):Int):=by simp
  have pk:∀g':G,g'.h=g1.h→g1.nx≤g'.nx→callV C0 d N.ref33_product [u1] g'=.val (.int .i64 (be:Int)):=fun g' e n=>by
   rw[product_ok hd (u1o g' (fun i x y=>by rw[e,fr1 i (by omega),hA.fr i x y]) (by omega)),p1]
  have hr:=(hfc.tree (h':=g1.h) (Nat.le_refl _)).ints
  have hvl:yN<(List.replicate cN [AV.int IntKind.i64 0]).length:=by simp;omega
  have hvrr:=hvr.rows
  have pk2:∀l1 l2 l3 l4 l5,callV C0 d N.ref33_product [u1] (setLog (bumpG (setLog (bumpG (setLog (bumpG (setLog (bumpG (setLog (bumpG (setLog g1 []) l1) []) l2) []) l3) []) l4) []) l5) [])=.val (.int .i64 (be:Int)):=fun l1 l2 l3 l4 l5=>pk _ (by simp) (by simp<;>omega)
  simp only[sx,sy,sf,SO.run,↓reduceIte,Nat.reduceEqDiff,Nat.reduceAdd,Nat.reduceLeDiff,h3,h15,h19,h21,h22,b8h,b0h,pk2,hmul,hadd,wrap64 (show -9223372036854775808≤((j*be:Nat):Int) by omega) (show ((j*be:Nat):Int)<9223372036854775808 by omega),wrap64 (show -9223372036854775808≤((j*be+aa:Nat):Int) by omega) (show ((j*be+aa:Nat):Int)<9223372036854775808 by omega),hr,hlt2,hy,ci,List.length_map,List.getElem?_map,Option.map_some,Option.isSome_some,Option.getD_some,hvrr,hvl]
  refine store_own (row:=ci 0) (row':=ci gr) (hvr.fr (by simp<;>omega) fun _ _=>by simp) (by rw[List.getElem?_replicate,if_pos (by omega)];rfl) rfl rfl rfl fun g2 x2 n2 f2=>?_
  have erow:(List.replicate cN [AV.int IntKind.i64 0]).set yN (ci gr)=(S.row gr cN yN).map ci:=by simp[S.row,List.map_set,ci]
  rw[erow] at x2
  simp only[sx,sy] at n2 f2
  have hvn:∀i,vid vr=some i→i=g.nx:=fun i hi=>by rw[vv1] at hi;injection hi with hi;omega
  have b9g:g2.h.get i9=.cells 3 [[.int .i64 (cN:Int),v1,v2]] 0 false false:=by rw[f2 i9 (fun e=>by have:=hvn _ e;omega),fr1 i9 (by omega),hA.b9]
  simp only[sx,sy,sf,SO.run,↓reduceIte,Nat.reduceEqDiff,Nat.reduceAdd,Nat.reduceLeDiff,foot_ref33_product]
  refine ⟨?_,?_⟩
  ·simp only[List.reverse_cons,List.reverse_nil,List.nil_append,List.cons_append]
   exact footsOk_mk [false,false,false,false,false,false,false,false,false,false,false,false,false,false,true] [] (by simp[All2,rdLook,noLook,bigLook]) (by decide) (by simp)
  have hown2:OwnT g2 q2 0 v2 (R0++(List.range j).map fun i=>S.row gr cN (out[i*be+aa]?.getD 0).toNat):=hA.own.fr (by omega) fun i _ hi=>by rw[f2 i (fun e=>by have:=hvn _ e;omega),fr1 i (by omega)]
  simp only[sx,sy,SO.run,↓reduceIte,Nat.reduceEqDiff,Nat.reduceAdd,Nat.reduceLeDiff,h1,h2,h3,h6,h8,h9,h12,h13,h14,h15,h16,h19,h20,h21,h22,b9g,x2.cell.1,x2.cell.2]
  refine append_ownT (α:=List Int) (b:=q2) (k:=0) (l:=R0++(List.range j).map fun i=>S.row gr cN (out[i*be+aa]?.getD 0).toNat) (y:=S.row gr cN yN) (cs:=[vr]) (hown2.fr (by simp<;>omega) fun i _ hi=>?_) (by simp[sy,H.get_put,Rp.sz]) ?_ (by simp<;>omega) (by simp[room];omega) fun v3 g3 hv3 n3 fr3 vid3 lg3=>?_
  ·simp only[sx,sy,SO.run,↓reduceIte,Nat.reduceEqDiff,Nat.reduceAdd,Nat.reduceLeDiff];rw[if_neg (by omega)]
  ·refine ⟨vr,rfl,Own.sl (α:=Int) (x2.fr (by simp<;>omega) fun i hi=>?_) (by simp[S.row];omega) (All2.of_map (fun a=>rp_int.2 rfl) _) fun i hi=>?_⟩
   ·have:=hvn i hi
    simp only[sx,sy,SO.run,↓reduceIte,Nat.reduceEqDiff,Nat.reduceAdd,Nat.reduceLeDiff];rw[if_neg (by omega)]
   ·have:=hvn i hi
    exact ⟨by omega,by simp<;>omega,fun e=>by have:=(hA.own.lt e).2;omega⟩
  simp only[sx,sy,SO.run,↓reduceIte,Nat.reduceEqDiff,Nat.reduceAdd,Nat.reduceLeDiff] at n3 fr3
  have wne:vid v2≠some i9:=fun e=>by have:=(hA.own.lt e).1;omega
  have b9h:g3.h.get i9=.cells 3 [[.int .i64 (cN:Int),v1,v2]] 0 false false:=by rw[fr3 i9 (by omega) wne,if_neg (by omega),b9g]
  simp only[sx,sy,SO.run,↓reduceIte,Nat.reduceEqDiff,Nat.reduceAdd,Nat.reduceLeDiff,h1,h2,h3,h6,h8,h9,h12,h13,h14,h15,h16,h19,h20,h21,h22,b9h,hv3.cell.1,hv3.cell.2,N2St,St]
  refine ⟨v3,by simp[H.get_put],fun i hi hne=>?_,by simp<;>omega,hi9,?_⟩
  ·simp only[sx,sy,SO.run,↓reduceIte,Nat.reduceEqDiff,Nat.reduceAdd,Nat.reduceLeDiff]
   rw[if_neg hne,fr3 i (by omega) (fun e=>by have:=(hA.own.lt e).1;omega),if_neg (by omega),f2 i (fun e=>by have:=hvn _ e;omega),fr1 i (by omega),hA.fr i hi hne]
  ·have:(R0++(List.range (j+1)).map fun i=>S.row gr cN (out[i*be+aa]?.getD 0).toNat)=(R0++(List.range j).map fun i=>S.row gr cN (out[i*be+aa]?.getD 0).toNat)++[S.row gr cN yN]:=by
    rw[List.range_succ,List.map_append,←List.append_assoc,List.map_singleton,hy];rfl
   rw[this]
   exact hv3.fr (by simp) fun i hi _=>by simp only[sx,sy,SO.run,↓reduceIte,Nat.reduceEqDiff,Nat.reduceAdd,Nat.reduceLeDiff];rw[if_neg (by omega)]
 ·rintro t df g ⟨rfl,ht,h19,h20,h21,v2,hA⟩
  exact fin t g v2 ht h19 h20 h21 hA
theorem nw_b4 {d q2 i8 i9 ab be:Nat}{act fa fb fc u1 u2 v1 a b:AV}{both:Bool}{gr wv cp vv:Int}{first:Int}{cN:Nat}{out:List Int}{k1 k2:List Int}{Q:QT}{t:T}{g gA:G}(hd:0<d)
  (hfc:SlR NoP 0 .nil out fc) (hol:out.length=ab*be) (hob:ab*be≤100000000) (hbe:be≤100000000) (hov:∀y∈out,0≤y∧y<(cN:Int)) (hc4:cN≤4)
  (u1o:∀g':G,(∀i,i<q2→i≠i9→g'.h.get i=gA.h.get i)→q2≤g'.nx→SlR (fun _=>True) 0 g'.h k1 u1) (u2o:∀g':G,(∀i,i<q2→i≠i9→g'.h.get i=gA.h.get i)→q2≤g'.nx→SlR (fun _=>True) 0 g'.h k2 u2) (p1:S.wprod k1=(be:Int)) (p2:S.wprod k2=(ab:Int))
  (i8lt:i8<q2) (i8ne:i8≠i9) (b8:gA.h.get i8=.cells 4 [[.int .i64 (cN:Int),fa,fb,fc]] 0 false false) (b0:gA.h.get 0=.cells 3 [[.int .i64 gr,a,b]] 0 false false) (q20:0<q2) (i90:i9≠0)
  (ht:N2St act both first wv cp vv i8 i9 t) (h19:tat t 19=u1) (h20:tat t 20=u2) (h21:tat t 21=.int .i64 0) (hA:RS q2 i9 cN v1 gA g .nils [])
  (fin:∀t g v2,N2St act both first wv cp vv i8 i9 t→RS q2 i9 cN v1 gA g v2 (S.rowsTo gr cN ab be out be)→Q (.exit 8) t [] g) :
  wpL (wp C0 d none f_ref33_Network_b4) Q t [] g:=by
 have hsucc:∀j,S.rowsTo gr cN ab be out (j+1)=S.rowsTo gr cN ab be out j++(List.range ab).map fun i=>S.row gr cN (out[i*be+j]?.getD 0).toNat:=fun j=>by simp[S.rowsTo,List.range_succ]
 have hlen:∀j,(S.rowsTo gr cN ab be out j).length=j*ab:=fun j=>by
  induction j with
  | zero=>simp[S.rowsTo]
  | succ j ih=>rw[hsucc,List.length_append,ih,List.length_map,List.length_range,Nat.add_mul,Nat.one_mul]
 simp only[f_ref33_Network_b4,f_ref33_Network_k3]
 refine wpL_cnt be (by omega) (fun j t df g=>df=[]∧N2St act both first wv cp vv i8 i9 t∧tat t 19=u1∧tat t 20=u2∧∃v2,RS q2 i9 cN v1 gA g v2 (S.rowsTo gr cN ab be out j))
  ⟨rfl,ht,h19,h20,.nils,by simpa [S.rowsTo] using hA⟩ h21 (by decide) (by rintro j t df g v s (rfl | rfl | rfl)<;>simp[N2St,St,sx]) ?_ ?_ ?_
 ·rintro j t df g hj ⟨rfl,⟨h1,h2,h3,h6,h8,h9,h12,h13,h14,h15,h16,-⟩,h19,h20,v2,hA⟩ h21
  have pk:∀g':G,g'.h=g.h→g.nx≤g'.nx→callV C0 d N.ref33_product [u1] g'=.val (.int .i64 (be:Int)):=fun g' e n=>by
   rw[product_ok hd (u1o g' (fun i x y=>by rw[e,hA.fr i x y]) (by have:=hA.nx;omega)),p1]
  simp only[sx,sy,SO.run,↓reduceIte,Nat.reduceEqDiff,Nat.reduceAdd,Nat.reduceLeDiff,h1,h2,h3,h6,h8,h9,h12,h13,h14,h15,h16,h19,h20,h21,pk g rfl (Nat.le_refl _),N2St,St]
  exact ⟨v2,hA⟩
 ·clear ht h19 h20 h21 hA
  rintro j t df g hj ⟨rfl,⟨h1,h2,h3,h6,h8,h9,h12,h13,h14,h15,h16,-⟩,h19,h20,v2,hA⟩ h21
  have hjl:j*ab≤ab*be:=by rw[Nat.mul_comm];exact Nat.mul_le_mul_left ab (by omega)
  simp only[sx,sy,SO.run,↓reduceIte,Nat.reduceEqDiff,Nat.reduceAdd,Nat.reduceLeDiff]
  refine nw_b2 (act:=act) (both:=both) (wv:=wv) (cp:=cp) (vv:=vv) (first:=first) (aa:=j) (a:=a) (b:=b) (w:=.nils) hd hfc hol hob hov hc4 hj (by rw[hlen];omega) u1o u2o p1 p2 i8lt i8ne b8 b0 q20 i90 (by simp[N2St,St,sx,h1,h2,h3,h6,h8,h9,h12,h13,h14,h15,h16]) (by simp[sx,h19]) (by simp[sx,h20]) (by simp[sx,h21]) (by simp[sx]) hA ?_
  intro t g v2 ht h19 h20 h21 hA
  simp only[sx,sy,SO.run,↓reduceIte,Nat.reduceEqDiff,Nat.reduceAdd,Nat.reduceLeDiff]
  refine ⟨⟨ht,h19,h20,v2,?_⟩,h21⟩
  rw[hsucc];exact hA
 ·rintro t df g ⟨rfl,ht,h19,h20,v2,hA⟩
  exact fin t g v2 ht hA
theorem wprod_eq:∀{l:List Int},(∀x∈l,1≤x∧x≤4)→l.length≤20→S.wprod l=S.prod l:=by
 have key:∀(l p:List Int),(∀x∈p++l,1≤x∧x≤4)→(p++l).length≤20→l.foldl (fun s x=>IntKind.wrap .i64 (s*x)) (S.prod p)=S.prod (p++l):=by
  intro l
  induction l with
  | nil=>intro p _ _;simp
  | cons a l ih =>
   intro p h hl
   have hb:=prod_bound (l:=p++[a]) (fun x hx=>h x (by simp at hx ⊢;rcases hx with hx | hx;exact .inl hx;exact .inr (.inl hx)))
   have h20:(p++[a]).length≤20:=by simp at hl ⊢;omega
   have:=pow4_mono h20
   have e20:(4:Int) ^ 20=1099511627776:=by decide
   rw[prod_snoc] at hb
   rw[List.foldl_cons,wrap64 (by omega) (by omega),←prod_snoc,ih (p++[a]) (by simpa using h) (by simpa using hl)]
   simp
 intro l h hl
 exact key l [] (by simpa using h) (by simpa using hl)
theorem AS.far {q i8 i9:Nat}{card:Int}{fa fb fc:AV}{g0 g ga:G}{V:Nat→AV}{E:Nat→En}{ps:List Int}{rws:List (List Int)}(h:AS q i8 i9 card fa fb fc g0 g V E ps rws)(hf:Fr g ga):AS q i8 i9 card fa fb fc g0 ga V E ps rws :=
 ⟨h.fr.trans hf,h.q0,h.hp.step hf.1 fun i _ hi=>hf.2 i hi,h.v0,h.e0,h.e1,h.e2,h.v3,h.e3⟩
theorem nmade118 {d i8 i9 q:Nat}{act a b v1 v2 w:AV}{both:Bool}{gr card wv cp vv first:Int}{nds:List Node}{ps:List Int}{rws:List (List Int)}{Q:QT}{t:T}{g:G}(ht:N2St act both first wv cp vv i8 i9 t)(b9:g.h.get i9=.cells 3 [[.int .i64 card,v1,v2]] 0 false false)(hB:NBx g gr a b w)(hW:OwnT g 3 0 w nds)(hnl:nds.length≤1000000)
  (s1:SlR (fun i=>q≤i∧i<g.nx) 0 g.h ps v1) (s2:SlR (fun i=>q≤i∧i<g.nx) 0 g.h rws v2) (hq:3≤q) (hwq:∀i,vid w=some i→i<q)
  (kk:∀t' g' w',N2St act both first wv cp vv i8 i9 t'→NBx g' gr a b w'→OwnT g' 3 0 w' (nds++[⟨card,ps,rws⟩])→Q .norm t' [] g') :
  wp C0 d none (.ops [o 118 (.fad 1 (.t 8)),o 119 (.load false 1 (.t 118)),o 120 (.load true 3 (.t 16)),o 121 (.bsl 3 1 [.int .i64 0,.nils,.nils] [0] [.t 120]),o 122 (.app 3 56 (.t 119) (.t 121)),o 123 (.fad 1 (.t 8)),oz (.store 1 (.t 123) (.t 122))]) Q t [] g:=by
 obtain ⟨h1,h2,h3,h6,h8,h9,h12,h13,h14,h15,h16,-⟩:=ht
 obtain ⟨b0,b1,b2,hnx⟩:=hB
 simp only[sx,sy,SO.run,↓reduceIte,Nat.reduceEqDiff,Nat.reduceAdd,Nat.reduceLeDiff,h8,h16,b2,b9]
 have up:∀{α:Type} [Rp α] {l:List α} {v:AV},SlR (fun i=>q≤i∧i<g.nx) 0 g.h l v→SlR (Els (g.new (.cells 3 [[.int .i64 card,v1,v2]] 0 false false)) 3 w) 0 (g.new (.cells 3 [[.int .i64 card,v1,v2]] 0 false false)).h l v:=fun {α} _ {l v} h=>by
  obtain ⟨z,hz,r⟩:=Rp.mono (P':=Els (g.new (.cells 3 [[.int .i64 card,v1,v2]] 0 false false)) 3 w) (h':=(g.new (.cells 3 [[.int .i64 card,v1,v2]] 0 false false)).h) (show Rp.rp _ 0 g.h l [v] from ⟨v,rfl,h⟩) (fun i hi=>⟨⟨by omega,by simp;omega,fun e=>by have:=hwq i e;omega⟩,by rw[G.new_h,get_put_ne _ _ _ (by omega)]⟩) (Nat.le_refl _)
  injection hz with hz;subst hz;exact r
 refine append_ownT (α:=Node) (b:=3) (k:=0) (l:=nds) (y:=⟨card,ps,rws⟩) (cs:=[.int .i64 card,v1,v2]) (hW.step (Fr.new _ _)) (by simp[sy,H.get_put,Rp.sz]) (rp_node.2 ⟨v1,v2,rfl,up s1,up s2⟩) (by simp;omega) (by simp[room];omega) fun w' g1 hw' n1 f1 vid1 lg1=>?_
 simp only[sx,sy,SO.run,↓reduceIte,Nat.reduceEqDiff,Nat.reduceAdd,Nat.reduceLeDiff] at n1 f1
 have wlt:∀i,vid w=some i→3≤i:=fun i hi=>(hW.lt hi).1
 have c:∀i,i<3→g1.h.get i=g.h.get i:=fun i hi=>by rw[f1 i (by omega) (fun e=>by have:=wlt i e;omega),if_neg (by omega)]
 have c2:g1.h.get 2=.cells 2 [[.int .i64 gr,w]] 0 false false:=by rw[c 2 (by omega),b2]
 simp only[sx,sy,SO.run,↓reduceIte,Nat.reduceEqDiff,Nat.reduceAdd,Nat.reduceLeDiff,h8,c2,hw'.cell.1,hw'.cell.2]
 refine kk _ _ w' (by simp[N2St,St,sx,h1,h2,h3,h6,h8,h9,h12,h13,h14,h15,h16]) ⟨?_,?_,?_,?_⟩ (hw'.fr (by simp) fun i hi _=>by simp only[sx,sy,SO.run,↓reduceIte,Nat.reduceEqDiff,Nat.reduceAdd,Nat.reduceLeDiff];rw[if_neg (by omega)])
 ·simp only[sx,sy,SO.run,↓reduceIte,Nat.reduceEqDiff,Nat.reduceAdd,Nat.reduceLeDiff];rw[c 0 (by omega),b0]
 ·simp only[sx,sy,SO.run,↓reduceIte,Nat.reduceEqDiff,Nat.reduceAdd,Nat.reduceLeDiff];rw[c 1 (by omega),b1]
 ·simp[H.get_put]
 ·simp;omega
theorem nmade194 {d i8 i9 q:Nat}{act a b v1 v2 w:AV}{both:Bool}{gr card wv cp vv first:Int}{nds:List Node}{ps:List Int}{rws:List (List Int)}{Q:QT}{t:T}{g:G}(ht:N2St act both first wv cp vv i8 i9 t)(b9:g.h.get i9=.cells 3 [[.int .i64 card,v1,v2]] 0 false false)(hB:NBx g gr a b w)(hW:OwnT g 3 0 w nds)(hnl:nds.length≤1000000)
  (s1:SlR (fun i=>q≤i∧i<g.nx) 0 g.h ps v1) (s2:SlR (fun i=>q≤i∧i<g.nx) 0 g.h rws v2) (hq:3≤q) (hwq:∀i,vid w=some i→i<q)
  (kk:∀t' g' w',N2St act both first wv cp vv i8 i9 t'→NBx g' gr a b w'→OwnT g' 3 0 w' (nds++[⟨card,ps,rws⟩])→Q .norm t' [] g') :
  wp C0 d none (.ops [o 194 (.fad 1 (.t 8)),o 195 (.load false 1 (.t 194)),o 196 (.load true 3 (.t 16)),o 197 (.bsl 3 1 [.int .i64 0,.nils,.nils] [0] [.t 196]),o 198 (.app 3 56 (.t 195) (.t 197)),o 199 (.fad 1 (.t 8)),oz (.store 1 (.t 199) (.t 198))]) Q t [] g:=by
 obtain ⟨h1,h2,h3,h6,h8,h9,h12,h13,h14,h15,h16,-⟩:=ht
 obtain ⟨b0,b1,b2,hnx⟩:=hB
 simp only[sx,sy,SO.run,↓reduceIte,Nat.reduceEqDiff,Nat.reduceAdd,Nat.reduceLeDiff,h8,h16,b2,b9]
 have up:∀{α:Type} [Rp α] {l:List α} {v:AV},SlR (fun i=>q≤i∧i<g.nx) 0 g.h l v→SlR (Els (g.new (.cells 3 [[.int .i64 card,v1,v2]] 0 false false)) 3 w) 0 (g.new (.cells 3 [[.int .i64 card,v1,v2]] 0 false false)).h l v:=fun {α} _ {l v} h=>by
  obtain ⟨z,hz,r⟩:=Rp.mono (P':=Els (g.new (.cells 3 [[.int .i64 card,v1,v2]] 0 false false)) 3 w) (h':=(g.new (.cells 3 [[.int .i64 card,v1,v2]] 0 false false)).h) (show Rp.rp _ 0 g.h l [v] from ⟨v,rfl,h⟩) (fun i hi=>⟨⟨by omega,by simp;omega,fun e=>by have:=hwq i e;omega⟩,by rw[G.new_h,get_put_ne _ _ _ (by omega)]⟩) (Nat.le_refl _)
  injection hz with hz;subst hz;exact r
 refine append_ownT (α:=Node) (b:=3) (k:=0) (l:=nds) (y:=⟨card,ps,rws⟩) (cs:=[.int .i64 card,v1,v2]) (hW.step (Fr.new _ _)) (by simp[sy,H.get_put,Rp.sz]) (rp_node.2 ⟨v1,v2,rfl,up s1,up s2⟩) (by simp;omega) (by simp[room];omega) fun w' g1 hw' n1 f1 vid1 lg1=>?_
 simp only[sx,sy,SO.run,↓reduceIte,Nat.reduceEqDiff,Nat.reduceAdd,Nat.reduceLeDiff] at n1 f1
 have wlt:∀i,vid w=some i→3≤i:=fun i hi=>(hW.lt hi).1
 have c:∀i,i<3→g1.h.get i=g.h.get i:=fun i hi=>by rw[f1 i (by omega) (fun e=>by have:=wlt i e;omega),if_neg (by omega)]
 have c2:g1.h.get 2=.cells 2 [[.int .i64 gr,w]] 0 false false:=by rw[c 2 (by omega),b2]
 simp only[sx,sy,SO.run,↓reduceIte,Nat.reduceEqDiff,Nat.reduceAdd,Nat.reduceLeDiff,h8,c2,hw'.cell.1,hw'.cell.2]
 refine kk _ _ w' (by simp[N2St,St,sx,h1,h2,h3,h6,h8,h9,h12,h13,h14,h15,h16]) ⟨?_,?_,?_,?_⟩ (hw'.fr (by simp) fun i hi _=>by simp only[sx,sy,SO.run,↓reduceIte,Nat.reduceEqDiff,Nat.reduceAdd,Nat.reduceLeDiff];rw[if_neg (by omega)])
 ·simp only[sx,sy,SO.run,↓reduceIte,Nat.reduceEqDiff,Nat.reduceAdd,Nat.reduceLeDiff];rw[c 0 (by omega),b0]
 ·simp only[sx,sy,SO.run,↓reduceIte,Nat.reduceEqDiff,Nat.reduceAdd,Nat.reduceLeDiff];rw[c 1 (by omega),b1]
 ·simp[H.get_put]
 ·simp;omega
end
end Hx
end
section
namespace Hx
open Go
noncomputable section
theorem apart_call2 {x y:Foot}(hy:y.wr=[])(hb:y.lk.big=false)(hs:y.lk.sr=[])(h:∀i∈x.wr,∀j∈y.lk.rd,i≠j):footsApart x y=true:=by
 have m:=meets_none h
 have m5:∀l:List Nat,meets l []=false:=fun l=>by simp[meets]
 simp only[footsApart,footFree,footFreeS,hy,hb,hs,m,m5,fst1,List.map_nil,Bool.not_false,Bool.and_self,Bool.and_true,Bool.true_or]
 split<;>rfl
theorem nw_b8 {d nn cp:Nat}{m:Causal}{act a b w:AV}{both:Bool}{al acts:List Int}{first:Nat}{W:Int}{nds:List Node}{Q:QT}(hd:0<d)(hck:S.check m=true)(hR:SlR NoP 0 .nil m.roots a)(hN:SlR NoP 0 .nil m.nodes b)
  (hcp:(cp=0∧acts=S.free m)∨(cp=1∧acts=al∧(both=true→SlR NoP 0 .nil al act∧S.act m al=true))) (hnn:nn=if cp=0∨both=true then m.nodes.length else 0) (hW:1≤W∧W≤1048576) (hfi:first≤1000) (hnl:nds.length≤1000) {t:T} {g:G}
  (ht:NSt act both t) (h9:tat t 9=.int .i64 W) (h12:tat t 12=.int .i64 (cp:Int)) (h13:tat t 13=.int .i64 (first:Int)) (h14:tat t 14=.int .i64 0) (hB:NBx g m.grain a b w) (hO:OwnT g 3 0 w nds)
  (fin:∀t g w,NSt act both t→tat t 9=.int .i64 (W*S.prod ((m.nodes.take nn).map (·.card)))→tat t 12=.int .i64 (cp:Int)→NBx g m.grain a b w→OwnT g 3 0 w (nds++S.copyTo m first acts nn)→Q (.exit 4) t [] g) :
  wpL (wp C0 d none f_ref33_Network_b8) Q t [] g:=by
 obtain ⟨hs,hgr,hn1,hro,hno⟩:=check_facts hck
 have hn5:=hs.nodes
 have hnnle:nn≤m.nodes.length:=by rw[hnn];split<;>omega
 obtain ⟨rows,r1,r2,r3,r4⟩:=hN.all
 have r1:∀h',rowsOf h' 4 b=some rows:=r1
 simp only[f_ref33_Network_b8,f_ref33_Network_k7]
 refine wpL_cnt nn (by omega) (fun j t df g=>df=[]∧NSt act both t∧tat t 9=.int .i64 (W*S.prod ((m.nodes.take j).map (·.card)))∧tat t 12=.int .i64 (cp:Int)∧tat t 13=.int .i64 (first:Int)∧∃w,NBx g m.grain a b w∧OwnT g 3 0 w (nds++S.copyTo m first acts j))
  ⟨rfl,ht,by simpa [S.prod] using h9,h12,h13,w,hB,by simpa [S.copyTo] using hO⟩ h14 (by decide) (by rintro j t df g v s (rfl | rfl | rfl)<;>simp[NSt,St,sx]) ?_ ?_ ?_
 ·rintro j t df g hj ⟨rfl,⟨h1,h2,h3,h6,h8,-⟩,h9,h12,h13,w,hB,hO⟩ h14
  have hl:=hN.len
  have key:∀q:Bool,q=decide (j<nn)→AV.bool q=AV.bool (decide ((j:Int)<(nn:Int))):=fun q h=>by rw[h];congr 1;simp
  by_cases hjn:j<m.nodes.length
  ·have hd1:decide ((j:Int)<(m.nodes.length:Int))=true:=by simp;omega
   rcases hcp with ⟨rfl,-⟩ | ⟨rfl,-,-⟩
   ·have e:nn=m.nodes.length:=by rw[hnn];simp
    have hd2:decide (((0:Nat):Int)=0)=true:=rfl
    simp only[sx,sy,SO.run,↓reduceIte,Nat.reduceEqDiff,Nat.reduceAdd,Nat.reduceLeDiff,h1,h2,h3,h6,h8,h9,h12,h13,h14,hB.1,hl,hd1,hd2,NSt,St]
    exact ⟨key _ (by simp;omega),w,hB,hO⟩
   ·have hd2:decide (((1:Nat):Int)=0)=false:=rfl
    simp only[sx,sy,SO.run,↓reduceIte,Nat.reduceEqDiff,Nat.reduceAdd,Nat.reduceLeDiff,h1,h2,h3,h6,h8,h9,h12,h13,h14,hB.1,hl,hd1,hd2,NSt,St]
    refine ⟨key _ ?_,w,hB,hO⟩
    cases both
    ·have e:nn=0:=by rw[hnn];simp
     simp;omega
    ·have e:nn=m.nodes.length:=by rw[hnn];simp
     simp;omega
  ·have hd1:decide ((j:Int)<(m.nodes.length:Int))=false:=by simp;omega
   simp only[sx,sy,SO.run,↓reduceIte,Nat.reduceEqDiff,Nat.reduceAdd,Nat.reduceLeDiff,h1,h2,h3,h6,h8,h9,h12,h13,h14,hB.1,hl,hd1,NSt,St]
   exact ⟨key _ (by simp;omega),w,hB,hO⟩
 ·clear ht h9 h12 h13 h14 hB hO
  rintro i t df g1 hi ⟨rfl,⟨h1,h2,h3,h6,h8,-⟩,h9,h12,h13,w1,hB,hW1⟩ h14
  have hi5:i<m.nodes.length:=by omega
  obtain ⟨y,hy,htk,hym⟩:=take_next hi5
  obtain ⟨row,q1,q2⟩:=r3 i y hy
  obtain ⟨fa,fb,fc,rfl,hfa,hfb,hfc⟩:=rp_mech.1 q2
  have hlt:i<rows.length:=by omega
  have hry:=r4 (by omega)
  have hnode:=nodesOk_mem hno hy
  simp only[S.nodeOk,Bool.and_eq_true,decide_eq_true_eq] at hnode
  obtain ⟨⟨⟨⟨pl1,pl2⟩,-⟩,hol⟩,hwi⟩:=hnode
  obtain ⟨hc1,hc4⟩:=hs.card y hym
  obtain ⟨cN,hcN⟩:=Int.eq_ofNat_of_zero_le (show 0≤y.card by omega)
  rw[hcN] at q1
  obtain ⟨b0,b1,b2,hnx⟩:=hB
  obtain ⟨q,hq⟩:∃q,q=g1.nx:=⟨_,rfl⟩
  have hcb:=cards_bound hs i
  have hcb2:=cards_bound hs (i+1)
  have p5:(4:Int) ^ 5=1024:=by decide
  have hW2:W*S.prod ((m.nodes.take i).map (·.card))≤1048576*1024:=Int.mul_le_mul hW.2 (by omega) (by omega) (by decide)
  have hW0:0≤W*S.prod ((m.nodes.take i).map (·.card)):=Int.mul_nonneg (by omega) (by omega)
  have hW3:W*S.prod ((m.nodes.take i).map (·.card))*(cN:Int)=W*S.prod ((m.nodes.take (i+1)).map (·.card)):=by rw[htk,List.map_append,List.map_singleton,prod_snoc,Int.mul_assoc,hcN]
  have hW4:W*S.prod ((m.nodes.take i).map (·.card))*(cN:Int)≤1048576*1024*4:=Int.mul_le_mul hW2 (by omega) (by omega) (by decide)
  have hW5:0≤W*S.prod ((m.nodes.take i).map (·.card))*(cN:Int):=Int.mul_nonneg hW0 (by omega)
  refine seq_cut (P:=fun t df g'=>df=[]∧NSt act both t∧St t [(9,.int .i64 (W*S.prod ((m.nodes.take i).map (·.card)))),(12,.int .i64 (cp:Int)),(13,.int .i64 (first:Int)),(14,.int .i64 (i:Int)),(15,.hptr q 0 0 0)] ∧
   g'=(g1.new (.cells 4 [[.int .i64 0,.nils,.nils,.nils]] 0 false false)).put q (.cells 4 [[.int .i64 (cN:Int),fa,fb,fc]] 0 false false)) ?_ ?_
  ·simp only[sx,sy,SO.run,↓reduceIte,Nat.reduceEqDiff,Nat.reduceAdd,Nat.reduceLeDiff,h1,h2,h3,h6,h8,h9,h12,h13,h14,b0,r1,hlt,q1,hry,Option.isSome_some,Option.getD_some,NSt,St,hq]
  clear h1 h2 h3 h6 h8 h9 h12 h13 h14
  rintro t df g2 ⟨rfl,⟨h1,h2,h3,h6,h8,-⟩,⟨h9,h12,h13,h14,h15,-⟩,hg2⟩
  have b8:g2.h.get q=.cells 4 [[.int .i64 (cN:Int),fa,fb,fc]] 0 false false:=by rw[hg2];simp[H.get_put]
  have n2:g2.nx=q+1:=by rw[hg2,hq];simp
  have f2:∀i,i<q→g2.h.get i=g1.h.get i:=fun i hi=>by rw[hg2,G.put_h,get_put_ne _ _ _ (by omega),G.new_h,get_put_ne _ _ _ (by omega)]
  clear hg2
  have hwr:IntKind.wrap .i64 (W*S.prod ((m.nodes.take (i+1)).map (·.card)))=W*S.prod ((m.nodes.take (i+1)).map (·.card)):=by rw[←hW3];exact wrap64 (by omega) (by omega)
  refine seq_cut (P:=fun t df g'=>df=[]∧g'=g2∧NSt act both t∧St t [(9,.int .i64 (W*S.prod ((m.nodes.take (i+1)).map (·.card)))),(12,.int .i64 (cp:Int)),(13,.int .i64 (first:Int)),(14,.int .i64 (i:Int)),(15,.hptr q 0 0 0)]) ?_ ?_
  ·simp only[sx,sy,SO.run,↓reduceIte,Nat.reduceEqDiff,Nat.reduceAdd,Nat.reduceLeDiff,h1,h2,h3,h6,h8,h9,h12,h13,h14,h15,b8,hW3,hwr,NSt,St]
  clear h1 h2 h3 h6 h8 h9 h12 h13 h14 h15
  rintro t df g' ⟨rfl,rfl,⟨h1,h2,h3,h6,h8,-⟩,⟨h9,h12,h13,h14,h15,-⟩⟩
  refine seq_cut (P:=fun t df gx=>df=[]∧N2St act both first (W*S.prod ((m.nodes.take (i+1)).map (·.card))) cp i q (q+1) t ∧
   gx=(g'.new (.cells 3 [[.int .i64 0,.nils,.nils]] 0 false false)).put (q+1) (.cells 3 [[.int .i64 (cN:Int),.nils,.nils]] 0 false false)) ?_ ?_
  ·simp only[sx,sy,SO.run,↓reduceIte,Nat.reduceEqDiff,Nat.reduceAdd,Nat.reduceLeDiff,h1,h2,h3,h6,h8,h9,h12,h13,h14,h15,b8,n2,N2St,St]
  clear h1 h2 h3 h6 h8 h9 h12 h13 h14 h15
  rintro t df g3 ⟨rfl,ht,hg3⟩
  have hA:AS q q (q+1) cN fa fb fc g1 g3 (fun k=>if k=0 then .hptr (q+1) 0 0 0 else if k=1 then .nils else if k=2 then .nils else .hptr q 0 0 0)
    (fun k=>if k=0 then .bx [.int .i64 (cN:Int),.nils,.nils] else if k=1 then .sl 1 [] else if k=2 then .sl 1 [] else .bx [.int .i64 (cN:Int),fa,fb,fc]) [] []:=by
   have k3:g3.h.get q=.cells 4 [[.int .i64 (cN:Int),fa,fb,fc]] 0 false false:=by rw[hg3];simp[H.get_put,n2,b8]
   have k0':g3.h.get (q+1)=.cells 3 [[.int .i64 (cN:Int),.nils,.nils]] 0 false false:=by rw[hg3];simp[H.get_put]
   have n3:g3.nx=q+2:=by rw[hg3];simp[n2]
   refine ⟨⟨by omega,fun i hi=>?_⟩,hq.symm,⟨fun k hk=>?_,fun k l hk hl hne id e1 e2=>?_,by omega⟩,rfl,rfl,rfl,⟨[],rfl,trivial⟩,rfl,rfl⟩
   ·rw[←hq] at hi
    rw[hg3,G.put_h,get_put_ne _ _ _ (by omega),G.new_h,get_put_ne _ _ _ (by omega),f2 i hi]
   ·have:k=0∨k=1∨k=2∨k=3:=by omega
    rcases this with rfl | rfl | rfl | rfl
    ·exact ⟨q+1,by omega,by omega,rfl,k0'⟩
    ·exact .inl ⟨rfl,rfl⟩
    ·exact .inl ⟨rfl,rfl⟩
    ·exact ⟨q,by omega,by omega,rfl,k3⟩
   ·have hk':k=0∨k=1∨k=2∨k=3:=by omega
    have hl':l=0∨l=1∨l=2∨l=3:=by omega
    rcases hk' with rfl | rfl | rfl | rfl<;>rcases hl' with rfl | rfl | rfl | rfl<;>simp[eid] at e1 e2 hne<;>omega
  have hV2:(fun k=>if k=0 then AV.hptr (q+1) 0 0 0 else if k=1 then .nils else if k=2 then .nils else .hptr q 0 0 0:Nat→AV) 2=.nils:=rfl
  clear hg3 b8 n2 f2
  generalize (fun k=>if k=0 then AV.hptr (q+1) 0 0 0 else if k=1 then .nils else if k=2 then .nils else .hptr q 0 0 0:Nat→AV)=V at hA hV2
  generalize (fun k=>if k=0 then En.bx [.int .i64 (cN:Int),.nils,.nils] else if k=1 then .sl 1 [] else if k=2 then .sl 1 [] else .bx [.int .i64 (cN:Int),fa,fb,fc]:Nat→En)=E at hA
  have hck4:cN≤4:=by omega
  have hnl2:(nds++S.copyTo m first acts i).length≤1000000:=by rw[List.length_append,copyTo_len];omega
  have hwq:∀i,vid w1=some i→i<q:=fun i hi=>by rw[hq];exact (hW1.lt hi).2
  have b03:g3.h.get 0=.cells 3 [[.int .i64 m.grain,a,b]] 0 false false:=by rw[hA.fr.2 0 (by omega),b0]
  have b13:g3.h.get 1=.cells 2 [[.int .i64 0,.nils]] 0 false false:=by rw[hA.fr.2 1 (by omega),b1]
  have b23:g3.h.get 2=.cells 2 [[.int .i64 m.grain,w1]] 0 false false:=by rw[hA.fr.2 2 (by omega),b2]
  have hal:acts.length=m.nodes.length:=by
   rcases hcp with ⟨-,rfl⟩ | ⟨hc,rfl,hb⟩
   ·exact free_len m
   ·have hbt:both=true:=by
     rw[hnn] at hi
     by_cases e:both=true
     ·exact e
     ·rw[if_neg (by rintro (h | h);omega;exact e h)] at hi;omega
    have:=(hb hbt).2
    simp only[S.act,Bool.and_eq_true,decide_eq_true_eq] at this
    exact this.1
  obtain ⟨av,hav⟩:∃av,acts[i]?=some av:=⟨_,List.getElem?_eq_getElem (by omega)⟩
  have hcopy:S.copyAt m first acts i=S.nodeOf m.grain (S.above m y).toNat (S.beside m y).toNat first av y:=by
   unfold S.copyAt;rw[hy,hav];rfl
  have last:∀(t':T) (g':G) (w':AV),N2St act both first (W*S.prod ((m.nodes.take (i+1)).map (·.card))) cp i q (q+1) t'→NBx g' m.grain a b w'→OwnT g' 3 0 w' (nds++S.copyTo m first acts i++[S.copyAt m first acts i]) →
    (([]:List ADf)=[]∧NSt act both t'∧tat t' 9=.int .i64 (W*S.prod ((m.nodes.take (i+1)).map (·.card)))∧tat t' 12=.int .i64 (cp:Int)∧tat t' 13=.int .i64 (first:Int)∧∃w,NBx g' m.grain a b w∧OwnT g' 3 0 w (nds++S.copyTo m first acts (i+1)))∧tat t' 14=.int .i64 (i:Int):=by
   rintro t' g' w' ⟨h1,h2,h3,h6,h8,h9,h12,h13,h14,h15,h16,-⟩ hB' hW'
   exact ⟨⟨rfl,⟨h1,h2,h3,h6,h8,trivial⟩,h9,h12,h13,w',hB',by rw[copyTo_succ,←List.append_assoc];exact hW'⟩,h14⟩
  rw[wp_seq]
  refine seq_cut (P:=fun t df g'=>df=[]∧g'=g3∧N2St act both first (W*S.prod ((m.nodes.take (i+1)).map (·.card))) cp i q (q+1) t∧tat t 103=.bool (decide (0≤av))∧(0≤av→cp=1∧both=true)) ?_ ?_
  ·obtain ⟨h1,h2,h3,h6,h8,h9,h12,h13,h14,h15,h16,-⟩:=ht
   rcases hcp with ⟨rfl,rfl⟩ | ⟨rfl,rfl,hb⟩
   ·have hd1:decide (((0:Nat):Int)=1)=false:=rfl
    have hav1:av = -1:=by
     rw[S.free,List.getElem?_replicate,if_pos hi5] at hav
     injection hav with hav;exact hav.symm
    simp only[sx,sy,SO.run,↓reduceIte,Nat.reduceEqDiff,Nat.reduceAdd,Nat.reduceLeDiff,h1,h2,h3,h6,h8,h9,h12,h13,h14,h15,h16,hd1,N2St,St,hav1]
    exact ⟨rfl,by intro h;omega⟩
   ·have hbt:both=true:=by
     rw[hnn] at hi
     by_cases e:both=true
     ·exact e
     ·rw[if_neg (by rintro (h | h);omega;exact e h)] at hi;omega
    have hsl:=(hb hbt).1
    have hil:i<acts.length:=by omega
    have hd1:decide (((1:Nat):Int)=1)=true:=rfl
    simp only[sx,sy,SO.run,↓reduceIte,Nat.reduceEqDiff,Nat.reduceAdd,Nat.reduceLeDiff,h1,h2,h3,h6,h8,h9,h12,h13,h14,h15,h16,hd1,(hsl.tree (h':=g3.h) (Nat.le_refl 0)).ints,hil,hav,ci,List.length_map,List.getElem?_map,Option.map_some,Option.isSome_some,Option.getD_some,N2St,St]
    exact fun _=>hbt
  clear ht
  rintro t df g' ⟨rfl,hgg,⟨h1,h2,h3,h6,h8,h9,h12,h13,h14,h15,h16,-⟩,h103,hpos⟩
  rw[hgg]
  clear hgg g'
  obtain ⟨b9,c1,c2⟩:=hA.b9
  have b8:=hA.b8
  have hnx3:=hA.hp.nx
  by_cases h0:0≤av
  ·obtain ⟨aN,rfl⟩:=Int.eq_ofNat_of_zero_le h0
   obtain ⟨hcp1,hbt⟩:=hpos h0
   obtain ⟨rfl,hsl,hbact⟩:acts=al∧SlR NoP 0 .nil al act∧S.act m al=true:=by
    rcases hcp with ⟨h,-⟩ | ⟨-,h,hb⟩
    ·omega
    ·exact ⟨h,hb hbt⟩
   simp only[S.act,Bool.and_eq_true,decide_eq_true_eq] at hbact
   have hil:i<acts.length:=by omega
   have haa:=List.all_eq_true.1 hbact.2 i (List.mem_range.2 hil)
   simp only[S.actAt,hav,Option.getD_some,Bool.and_eq_true,decide_eq_true_eq,S.cardAt,Int.toNat_natCast,hy,Option.map_some] at haa
   have haN:aN<cN:=by omega
   have hdec:decide ((0:Int)≤(aN:Int))=true:=by simp
   rw[wp_cond]
   simp only[get_t,h103,hdec,wpC_bool,bifP_true]
   refine seq_cut (P:=fun t df g'=>df=[]∧N2St act both first (W*S.prod ((m.nodes.take (i+1)).map (·.card))) cp i q (q+1) t∧∃vr,tat t 17=vr∧Own g' g3.nx vr 1 (List.replicate cN [AV.int IntKind.i64 0])∧(∀i,i<g3.nx→g'.h.get i=g3.h.get i)∧g3.nx≤g'.nx) ?_ ?_
   ·simp only[sx,sy,SO.run,↓reduceIte,Nat.reduceEqDiff,Nat.reduceAdd,Nat.reduceLeDiff,h15,b8]
    refine mks_own (b:=g3.nx) (n:=cN) (by simp[room];omega) (by simp[room];omega) (Nat.le_refl _) fun vr g4 hvr n4 fr4 vv4=>?_
    simp only[sx,sy,SO.run,↓reduceIte,Nat.reduceEqDiff,Nat.reduceAdd,Nat.reduceLeDiff,h1,h2,h3,h6,h8,h9,h12,h13,h14,h15,h16,N2St,St]
    exact ⟨vr,rfl,hvr,fr4,by omega⟩
   clear h1 h2 h3 h6 h8 h9 h12 h13 h14 h15 h16 h103
   rintro t df g4 ⟨rfl,⟨h1,h2,h3,h6,h8,h9,h12,h13,h14,h15,h16,-⟩,vr,h17,hvr,fr4,n4⟩
   have b04:g4.h.get 0=.cells 3 [[.int .i64 m.grain,a,b]] 0 false false:=by rw[fr4 0 (by omega),b03]
   refine seq_cutG (P:=fun t df g'=>df=[]∧N2St act both first (W*S.prod ((m.nodes.take (i+1)).map (·.card))) cp i q (q+1) t∧tat t 17=vr∧Own g' g3.nx vr 1 ((S.row m.grain cN aN).map ci)∧(∀i,i<g3.nx→g'.h.get i=g3.h.get i)∧g3.nx≤g'.nx) ?_ ?_
   ·have hvl:aN<(List.replicate cN [AV.int IntKind.i64 0]).length:=by simpa using haN
    have hvrr:=hvr.rows
    simp only[sx,sy,sf,SO.run,↓reduceIte,Nat.reduceEqDiff,Nat.reduceAdd,Nat.reduceLeDiff,h1,h3,h14,h17,b04,(hsl.tree (h':=g4.h) (Nat.le_refl 0)).ints,hil,hav,ci,List.length_map,List.getElem?_map,Option.map_some,Option.isSome_some,Option.getD_some,hvrr,hvl]
    refine store_own (row:=ci 0) (row':=ci m.grain) (hvr.fr (by simp<;>omega) fun _ _=>by simp) (by rw[List.getElem?_replicate,if_pos haN];rfl) rfl rfl rfl fun g5 x5 n5 f5=>?_
    have erow:(List.replicate cN [AV.int IntKind.i64 0]).set aN (ci m.grain)=(S.row m.grain cN aN).map ci:=by simp[S.row,List.map_set,ci]
    rw[erow] at x5
    simp only[sx,sy] at n5 f5
    simp only[sx,sy,sf,SO.run,↓reduceIte,Nat.reduceEqDiff,Nat.reduceAdd,Nat.reduceLeDiff,h1,h2,h3,h6,h8,h9,h12,h13,h14,h15,h16,h17,N2St,St]
    refine ⟨?_,x5.fr (by simp) (fun _ _=>by simp),fun i hi=>?_,by omega⟩
    ·simp only[List.reverse_cons,List.reverse_nil,List.nil_append,List.cons_append]
     exact footsOk_mk [false,false,false,false,false,false,false,false,true] [] (by simp[All2,rdLook,noLook,bigLook]) (by decide) (by simp)
    ·rw[f5 i (fun e=>by have:=(hvr.lt e).1;omega),fr4 i hi]
   clear h1 h2 h3 h6 h8 h9 h12 h13 h14 h15 h16 h17 hvr fr4 n4 b04
   rintro t df g5 ⟨rfl,⟨h1,h2,h3,h6,h8,h9,h12,h13,h14,h15,h16,-⟩,h17,hvr,fr5,n5⟩
   have b95:g5.h.get (q+1)=.cells 3 [[.int .i64 (cN:Int),V 1,V 2]] 0 false false:=by rw[fr5 _ (by omega),b9]
   refine seq_cut (P:=fun t df g'=>df=[]∧N2St act both first (W*S.prod ((m.nodes.take (i+1)).map (·.card))) cp i q (q+1) t∧g'=(g5.new (.cells 1 [[vr]] 0 false false)).put (q+1) (.cells 3 [[.int .i64 (cN:Int),V 1,.hsl g5.nx 0 0 1 none]] 0 false false)) ?_ ?_
   ·simp only[sx,sy,SO.run,↓reduceIte,Nat.reduceEqDiff,Nat.reduceAdd,Nat.reduceLeDiff,h1,h2,h3,h6,h8,h9,h12,h13,h14,h15,h16,h17,hvr.cell.1,hvr.cell.2,b95,H.get_put,show ¬(q+1=g5.nx) by omega,N2St,St]
   clear h1 h2 h3 h6 h8 h9 h12 h13 h14 h15 h16 h17
   rintro t df g6 ⟨rfl,ht,hg6⟩
   have n6:g6.nx=g5.nx+1:=by rw[hg6];simp
   have k9:g6.h.get (q+1)=.cells 3 [[.int .i64 (cN:Int),V 1,.hsl g5.nx 0 0 1 none]] 0 false false:=by rw[hg6];simp[H.get_put]
   have kn:g6.h.get g5.nx=.cells 1 [[vr]] 0 false false:=by rw[hg6,G.put_h,get_put_ne _ _ _ (by omega),G.new_h,get_put_eq]
   have k6:∀i,i<g5.nx→i≠q+1→g6.h.get i=g5.h.get i:=fun i hi hne=>by rw[hg6,G.put_h,get_put_ne _ _ _ hne,G.new_h,get_put_ne _ _ _ (by omega)]
   have o1:=hA.hp.own (k:=1) (by decide) hA.e1
   rw[wp_seq]
   refine nmade118 (i8:=q) (i9:=q+1) (q:=q) (a:=a) (b:=b) (w:=w1) (nds:=nds++S.copyTo m first acts i) (ps:=[]) (rws:=[S.row m.grain cN aN]) (gr:=m.grain) (card:=cN) ht k9 ⟨by rw[k6 0 (by omega) (by omega),fr5 0 (by omega),b03],by rw[k6 1 (by omega) (by omega),fr5 1 (by omega),b13],by rw[k6 2 (by omega) (by omega),fr5 2 (by omega),b23],by omega⟩
    (hW1.fr (by omega) fun i _ hi=>by rw[k6 i (by omega) (by omega),fr5 i (by omega),hA.fr.2 i hi]) hnl2 ?_ ?_ (by omega) hwq ?_
   ·have:=o1.fr (g':=g6) (by omega) fun i hi=>by
     have hlt:=o1.lt hi
     have hne:i≠q+1:=fun e=>hA.hp.sep 1 0 (by decide) (by decide) (by decide) i (by rw[eid_own o1];exact hi) (by rw[hA.v0,e];rfl)
     rw[k6 i (by omega) hne,fr5 i hlt.2]
    exact Own.sl (α:=Int) this (by decide) trivial fun i hi=>by have:=o1.lt hi;omega
   ·refine ⟨by simp,⟨by omega,by omega⟩,[[vr]],?_,⟨vr,rfl,Own.sl (α:=Int) (hvr.fr (by omega) fun i hi=>?_) (by simp[S.row];omega) (All2.of_map (fun a=>rp_int.2 rfl) _) fun i hi=>by have:=hvr.lt hi;omega⟩,trivial⟩
    ·show rowsOf g6.h 1 (.hsl g5.nx 0 0 1 none)=some [[vr]]
     rw[rowsOf_hsl,kn]
     exact hslRows_all 1 [[vr]] 0 false false
    ·have:=hvr.lt hi
     rw[k6 i (by omega) (by omega)]
   ·intro t' g7 w' ht' hB' hW'
    rw[kS_norm,wp_exit,kS_exit,kR_exit,if_pos rfl]
    refine last t' g7 w' ht' hB' ?_
    rw[hcopy,S.nodeOf,if_pos h0,hcN,Int.toNat_natCast,Int.toNat_natCast]
    exact hW'
  ·have hdec:decide (0≤av)=false:=by simp;omega
   rw[wp_cond]
   simp only[get_t,h103,hdec,wpC_bool,bifP_false,wp_skip,kS_norm]
   refine seq_cut (P:=fun t df g'=>df=[]∧N2St act both first (W*S.prod ((m.nodes.take (i+1)).map (·.card))) cp i q (q+1) t∧∃V' E',V' 2=.nils∧AS q q (q+1) cN fa fb fc g1 g' V' E' y.noise []) ?_ ?_
   ·simp only[sx,sy,SO.run,↓reduceIte,Nat.reduceEqDiff,Nat.reduceAdd,Nat.reduceLeDiff,h1,h2,h3,h6,h8,h15,h16,b8,b9]
    refine hA.hp.app (k:=1) (by decide) hA.e1 (new:=y.noise.map ci) (hfb.tree (h':=g3.h) (Nat.le_refl 0)).ints (by have:=places_len pl2;have:=hs.roots;simp[room];omega) fun v1 ga hHa na' fra _ _ vca vta=>?_
    have b9a:ga.h.get (q+1)=.cells 3 [[.int .i64 (cN:Int),V 1,V 2]] 0 false false:=by
     obtain ⟨i,a,b,c,e⟩:=hHa.box (k:=0) (by decide) (by rw[ups_ne _ _ (by decide)];exact hA.e0)
     rw[ups_ne _ _ (by decide),hA.v0] at c;injection c with c;subst c
     exact e
    have hA2:=hA.par (ps':=y.noise) hHa fra na'
    simp only[sx,sy,SO.run,↓reduceIte,Nat.reduceEqDiff,Nat.reduceAdd,Nat.reduceLeDiff,h1,h2,h3,h6,h8,h9,h12,h13,h14,h15,h16,b9a,vca,vta,N2St,St]
    exact ⟨_,_,by rw[ups_ne _ _ (by decide)];exact hV2,hA2⟩
   clear h1 h2 h3 h6 h8 h9 h12 h13 h14 h15 h16 h103 b9 c1 c2 b8 hnx3
   rintro t df g4 ⟨rfl,⟨h1,h2,h3,h6,h8,h9,h12,h13,h14,h15,h16,-⟩,V',E',hV',hA'⟩
   have hyf:=places_len pl1
   have hyn:=places_len pl2
   have hnr:=hs.roots
   have hfm:=places_mem pl1
   have hnm:=places_mem pl2
   simp only[sx,sy,SO.run,↓reduceIte,Nat.reduceEqDiff,Nat.reduceAdd,Nat.reduceLeDiff]
   refine nw_b1 (act:=act) (both:=both) (wv:=W*S.prod ((m.nodes.take (i+1)).map (·.card))) (cp:=cp) (vv:=i) (i8:=q) (first:=first) hfa (by omega) (fun z hz=>by have:=hfm z hz;omega) (by omega) hfi (by simp[N2St,St,sx,h1,h2,h3,h6,h8,h9,h12,h13,h14,h15,h16]) (by simp[sx]) hA' hV' ?_
   clear h1 h2 h3 h6 h8 h9 h12 h13 h14 h15 h16 hA' hV'
   rintro t g5 V' E' ⟨h1,h2,h3,h6,h8,h9,h12,h13,h14,h15,h16,-⟩ hV' hA'
   have b8:=hA'.b8
   have b05:g5.h.get 0=.cells 3 [[.int .i64 m.grain,a,b]] 0 false false:=by rw[hA'.fr.2 0 (by omega),b0]
   obtain ⟨b9,c1,c2⟩:=hA'.b9
   have hmc:∀h,Agg m NoP 0 h (.agg [.int .i64 m.grain,a,b]):=fun h=>⟨_,rfl,rp_causal.2 ⟨a,b,rfl,hR.tree (Nat.le_refl _),hN.tree (Nat.le_refl _)⟩⟩
   simp only[f_ref33_Network_k6,sx,sy,sf,SO.run,↓reduceIte,Nat.reduceEqDiff,Nat.reduceAdd,Nat.reduceLeDiff,h3,h15,b05,b8]
   refine sat_ex (lengths_ok hd (hmc _) (by omega)) fun rl hrl=>?_
   simp only[sx,sy,sf,SO.run,↓reduceIte,Nat.reduceEqDiff,Nat.reduceAdd,Nat.reduceLeDiff,h3,h15,b05,b8]
   refine at_ok (l:=m.roots.map fun r=>(r.length:Int)) (p:=y.noise) (fun g' _=>hrl.rows g'.h) (fun g' _=>(hfb.tree (h':=g'.h) (Nat.le_refl 0)).ints) (by omega) (fun x hx=>by have:=hnm x hx;simp;omega) fun u1 g6 hu1 fu1 lu1=>?_
   have fx1:Fr g5 g6:=⟨by have:=fu1.1;simp at this;omega,fun i hi=>by rw[fu1.2 i (by simp;omega)];simp⟩
   have n6:=fx1.1
   have b06:g6.h.get 0=.cells 3 [[.int .i64 m.grain,a,b]] 0 false false:=by rw[fx1.2 0 (by omega),b05]
   have b86:g6.h.get q=.cells 4 [[.int .i64 (cN:Int),fa,fb,fc]] 0 false false:=by rw[fx1.2 q (by omega),b8]
   simp only[sx,sy,sf,SO.run,↓reduceIte,Nat.reduceEqDiff,Nat.reduceAdd,Nat.reduceLeDiff,h3,h15,b06,b86]
   refine sat_ex (cards_ok hd (hmc _) (by omega)) fun rc hrc=>?_
   simp only[sx,sy,sf,SO.run,↓reduceIte,Nat.reduceEqDiff,Nat.reduceAdd,Nat.reduceLeDiff,h3,h15,b06,b86]
   refine at_ok (l:=m.nodes.map (·.card)) (p:=y.frm) (fun g' _=>hrc.rows g'.h) (fun g' _=>(hfa.tree (h':=g'.h) (Nat.le_refl 0)).ints) (by omega) (fun x hx=>by have:=hfm x hx;simp;omega) fun u2 g7 hu2 fu2 lu2=>?_
   have fx2:Fr g6 g7:=⟨by have:=fu2.1;simp at this;omega,fun i hi=>by rw[fu2.2 i (by simp;omega)];simp⟩
   have hu1b:∀i,vid u1=some i→g5.nx≤i∧i<g6.nx:=fun i hi=>by have:=hu1.lt hi;simp at this;omega
   have hu2b:∀i,vid u2=some i→g5.nx≤i∧i<g7.nx:=fun i hi=>by have:=hu2.lt hi;simp at this;omega
   have b97:g7.h.get (q+1)=.cells 3 [[.int .i64 (cN:Int),V' 1,.nils]] 0 false false:=by rw[fx2.2 _ (by omega),fx1.2 _ (by omega),b9,hV']
   have b87:g7.h.get q=.cells 4 [[.int .i64 (cN:Int),fa,fb,fc]] 0 false false:=by rw[fx2.2 _ (by omega),b86]
   have b07:g7.h.get 0=.cells 3 [[.int .i64 m.grain,a,b]] 0 false false:=by rw[fx2.2 _ (by omega),b06]
   have n7:=fx2.1
   have hu17:Own g7 g5.nx u1 1 (List.map ci (y.noise.map fun x=>(m.roots.map fun r=>(r.length:Int))[x.toNat]?.getD 0)):=(hu1.lower (by simp;omega)).fr n7 fun i hi=>fx2.2 i (hu1b i hi).2
   have hu27:Own g7 g5.nx u2 1 (List.map ci (y.frm.map fun x=>(m.nodes.map (·.card))[x.toNat]?.getD 0)):=hu2.lower (by simp;omega)
   have k1e:(y.noise.map fun x=>(m.roots.map fun r=>(r.length:Int))[x.toNat]?.getD 0)=y.noise.map (S.lenAt m):=List.map_congr_left fun x _=>by rw[List.getElem?_map];rfl
   have k2e:(y.frm.map fun x=>(m.nodes.map (·.card))[x.toNat]?.getD 0)=y.frm.map (S.cardAt m):=List.map_congr_left fun x _=>by rw[List.getElem?_map];rfl
   rw[k1e] at hu17
   rw[k2e] at hu27
   have ab1:=prod_map_bound (f:=S.cardAt m) (l:=y.frm) (n:=5) (fun z hz=>cardAt_bound hs (hfm z hz)) (by omega)
   have be1:=prod_map_bound (f:=S.lenAt m) (l:=y.noise) (n:=8) (fun z hz=>lenAt_bound hs (hnm z hz)) (by omega)
   have p8:(4:Int) ^ 8=65536:=by decide
   obtain ⟨ab,hab⟩:=Int.eq_ofNat_of_zero_le (show 0≤S.above m y by unfold S.above;omega)
   obtain ⟨be,hbe⟩:=Int.eq_ofNat_of_zero_le (show 0≤S.beside m y by unfold S.beside;omega)
   have hab2:ab≤1024:=by have:S.above m y≤1024:=by unfold S.above;omega
                         omega
   have hbe2:be≤65536:=by have:S.beside m y≤65536:=by unfold S.beside;omega
                          omega
   have hmul:ab*be≤1024*65536:=Nat.mul_le_mul hab2 hbe2
   rw[hab,hbe] at hol
   have hol2:y.out.length=ab*be:=by have:((y.out.length:Nat):Int)=((ab*be:Nat):Int):=by rw[hol];simp
                                    omega
   have hwi2:=within_iff.1 hwi
   have w1e:S.wprod (y.noise.map (S.lenAt m))=(be:Int):=by
    rw[wprod_eq (fun x hx=>by obtain ⟨z,hz,rfl⟩:=List.mem_map.1 hx;exact lenAt_bound hs (hnm z hz)) (by simp;omega),←hbe];rfl
   have w2e:S.wprod (y.frm.map (S.cardAt m))=(ab:Int):=by
    rw[wprod_eq (fun x hx=>by obtain ⟨z,hz,rfl⟩:=List.mem_map.1 hx;exact cardAt_bound hs (hfm z hz)) (by simp;omega),←hab];rfl
   simp only[sx,sy,sf,SO.run,↓reduceIte,Nat.reduceEqDiff,Nat.reduceAdd,Nat.reduceLeDiff,foot_ref33_Lengths,foot_ref02_At,foot_ref33_Cards,h1,h2,h3,h6,h8,h9,h12,h13,h14,h15,h16]
   refine ⟨?_,?_⟩
   ·simp only[List.reverse_cons,List.reverse_nil,List.nil_append,List.cons_append]
    refine footsOk_mk [false,false,false,false,true,false,false,false,false,true,false,false] [(4,5),(4,7),(4,8)] (by simp[All2,rdLook,noLook,bigLook]) (by decide) ?_
    rintro p hp x y hx hy
    simp only[List.mem_cons,List.not_mem_nil,or_false] at hp
    have hl:∀i∈g6.lg,g5.nx≤i:=fun i hi=>by
     rcases lu1 i hi with h | h
     ·simp at h
     ·simp at h;omega
    rcases hp with rfl | rfl | rfl<;>(simp at hx hy;subst hx;subst hy;refine apart_call2 rfl rfl rfl ?_;intro i hi j hj;(have:=hl i hi);simp[rdLook,noLook,refIds] at hj<;>omega)
   ·refine nw_b4 (q2:=g7.nx) (i8:=q) (i9:=q+1) (act:=act) (both:=both) (wv:=W*S.prod ((m.nodes.take (i+1)).map (·.card))) (cp:=cp) (vv:=i) (first:=first) (a:=a) (b:=b) (gr:=m.grain) (u1:=u1) (u2:=u2) (k1:=y.noise.map (S.lenAt m)) (k2:=y.frm.map (S.cardAt m)) (fa:=fa) (fb:=fb) (v1:=V' 1) (gA:=g7) hd hfc hol2 (by omega) (by omega) (fun z hz=>by have:=hwi2 z hz;omega) hck4 (fun gx hx nx=>?_) (fun gx hx nx=>?_) w1e w2e (by omega) (by omega) b87 b07 (by omega) (by omega) (by simp[N2St,St,sx,h1,h2,h3,h6,h8,h9,h12,h13,h14,h15,h16]) (by simp[sx]) (by simp[sx]) (by simp[sx]) ⟨by simpa using b97,fun i _ _=>by simp,by simp;omega,by omega,OwnT.nils⟩ ?_
    ·exact Own.sl (α:=Int) (hu17.fr nx fun i hi=>by have:=hu1b i hi;exact hx i (by omega) (by omega)) (by simp;omega) (All2.of_map (fun a=>rp_int.2 rfl) _) fun _ _=>trivial
    ·exact Own.sl (α:=Int) (hu27.fr nx fun i hi=>by have:=hu2b i hi;exact hx i (by omega) (by omega)) (by simp;omega) (All2.of_map (fun a=>rp_int.2 rfl) _) fun _ _=>trivial
    intro t g9 v2 ht hRS
    have n9:=hRS.nx
    have c9:∀i,i<q→g9.h.get i=g1.h.get i:=fun i hi=>by rw[hRS.fr i (by omega) (by omega),fx2.2 i (by omega),fx1.2 i (by omega),hA'.fr.2 i (by omega)]
    have o1:=hA'.hp.own (k:=1) (by decide) hA'.e1
    have hrl:(S.rowsTo m.grain cN ab be y.out be).length=be*ab:=by
     have:∀j,(S.rowsTo m.grain cN ab be y.out j).length=j*ab:=fun j=>by
      induction j with
      | zero=>simp[S.rowsTo]
      | succ j ih =>
       have:S.rowsTo m.grain cN ab be y.out (j+1)=S.rowsTo m.grain cN ab be y.out j++(List.range ab).map fun i=>S.row m.grain cN (y.out[i*be+j]?.getD 0).toNat:=by simp[S.rowsTo,List.range_succ]
       rw[this,List.length_append,ih,List.length_map,List.length_range,Nat.add_mul,Nat.one_mul]
     exact this be
    rw[Nat.mul_comm] at hrl
    rw[kB_same,kS_norm]
    simp only[f_ref33_Network_k5]
    refine nmade194 (i8:=q) (i9:=q+1) (q:=q) (a:=a) (b:=b) (w:=w1) (nds:=nds++S.copyTo m first acts i) (ps:=y.noise++y.frm.map ((first:Int)+·)) (rws:=S.rowsTo m.grain cN ab be y.out be) (gr:=m.grain) (card:=cN) ht hRS.b9 ⟨by rw[c9 0 (by omega),b0],by rw[c9 1 (by omega),b1],by rw[c9 2 (by omega),b2],by omega⟩
     (hW1.fr (by omega) fun i _ hi=>c9 i (by omega)) hnl2 ?_ ((hRS.own.sl (by rw[hrl];omega)).wider fun i hi=>⟨by omega,hi.2⟩) (by omega) hwq ?_
    ·refine Own.sl (α:=Int) (o1.fr (g':=g9) (by omega) fun i hi=>?_) (by simp;omega) (All2.of_map (fun a=>rp_int.2 rfl) _) fun i hi=>by have:=o1.lt hi;omega
     have hlt:=o1.lt hi
     have hne:i≠q+1:=fun e=>hA'.hp.sep 1 0 (by decide) (by decide) (by decide) i (by rw[eid_own o1];exact hi) (by rw[hA'.v0,e];rfl)
     rw[hRS.fr i (by omega) hne,fx2.2 i (by omega),fx1.2 i (by omega)]
    ·intro t' g10 w' ht' hB' hW'
     rw[kR_norm]
     refine last t' g10 w' ht' hB' ?_
     rw[hcopy,S.nodeOf,if_neg h0,hab,hbe,hcN,Int.toNat_natCast,Int.toNat_natCast,Int.toNat_natCast]
     exact hW'
 ·rintro t df g ⟨rfl,ht,h9,h12,h13,w,hB,hO⟩
  exact fin t g w ht h9 h12 hB hO
end
end Hx
end
section
namespace Hx
open Go
noncomputable section
def S.ndsC (m:Causal)(al:List Int)(both:Bool):Nat→List Node
 | 0=>m.roots.map S.rootNode
 | 1=>m.roots.map S.rootNode++S.copy m (m.roots.length:Nat) (S.free m)
 | _=>m.roots.map S.rootNode++S.copy m (m.roots.length:Nat) (S.free m)++if both=true then S.copy m ((m.roots.length+m.nodes.length:Nat)) al else []
def S.wC (m:Causal)(both:Bool):Nat→Int
 | 0=>S.hidden m
 | 1=>S.hidden m*S.cards m
 | _=>if both=true then S.hidden m*S.cards m*S.cards m else S.hidden m*S.cards m
theorem prod_nil:S.prod []=1:=rfl
theorem nw_b10 {d:Nat}{m:Causal}{act a b w:AV}{both:Bool}{al:List Int}{Q:QT}(hd:0<d)(hck:S.check m=true)(hR:SlR NoP 0 .nil m.roots a)(hN:SlR NoP 0 .nil m.nodes b)(ha:both=true→SlR NoP 0 .nil al act∧S.act m al=true){t:T}{g:G}
  (ht:NSt act both t) (h9:tat t 9=.int .i64 (S.hidden m)) (h12:tat t 12=.int .i64 0) (hB:NBx g m.grain a b w) (hO:OwnT g 3 0 w (m.roots.map S.rootNode))
  (fin:∀t g w,NSt act both t→tat t 9=.int .i64 (S.wC m both 2)→NBx g m.grain a b w→OwnT g 3 0 w (S.ndsC m al both 2)→Q (.exit 2) t [] g) :
  wpL (wp C0 d none f_ref33_Network_b10) Q t [] g:=by
 obtain ⟨hs,hgr,hn1,hro,hno⟩:=check_facts hck
 have hn5:=hs.nodes
 have hr8:=hs.roots
 have hcb:=cards_bound hs m.nodes.length
 rw[List.take_length] at hcb
 have hhb:1≤S.hidden m∧S.hidden m≤1024:=by
  have h1:=hidden_bound hs m.roots.length
  rw[List.take_length] at h1
  simp only[S.rootsOk,Bool.and_eq_true,decide_eq_true_eq] at hro
  exact ⟨h1.1,hro.2⟩
 have p5:(4:Int) ^ 5=1024:=by decide
 have hcb:1≤S.cards m∧S.cards m≤1024:=by unfold S.cards;omega
 have hw1:1≤S.hidden m*S.cards m∧S.hidden m*S.cards m≤1048576:=by
  have h1:=Int.mul_le_mul hhb.1 hcb.1 (by decide) (by omega)
  have h2:=Int.mul_le_mul hhb.2 hcb.2 (by omega) (by decide)
  omega
 simp only[f_ref33_Network_b10,f_ref33_Network_k9]
 refine wpL_cnt 2 (by omega) (fun j t df g=>df=[]∧NSt act both t∧tat t 9=.int .i64 (S.wC m both j)∧∃w,NBx g m.grain a b w∧OwnT g 3 0 w (S.ndsC m al both j))
  ⟨rfl,ht,h9,w,hB,hO⟩ h12 (by decide) (by rintro j t df g v s (rfl | rfl | rfl)<;>simp[NSt,St,sx]) ?_ ?_ ?_
 ·rintro j t df g hj ⟨rfl,⟨h1,h2,h3,h6,h8,-⟩,h9,w,hB,hO⟩ h12
  simp only[sx,sy,SO.run,↓reduceIte,Nat.reduceEqDiff,Nat.reduceAdd,Nat.reduceLeDiff,h1,h2,h3,h6,h8,h9,h12,NSt,St]
  exact ⟨rfl,w,hB,hO⟩
 ·clear ht h9 h12 hB hO
  rintro j t df g hj ⟨rfl,⟨h1,h2,h3,h6,h8,-⟩,h9,w,hB,hO⟩ h12
  have hl:=hO.len
  have b2:=hB.2.2.1
  simp only[sx,sy,SO.run,↓reduceIte,Nat.reduceEqDiff,Nat.reduceAdd,Nat.reduceLeDiff,h8,b2,hl]
  have hj2:j=0∨j=1:=by omega
  rcases hj2 with rfl | rfl
  ·refine nw_b8 (act:=act) (both:=both) (nn:=m.nodes.length) (cp:=0) (al:=al) (acts:=S.free m) (first:=(S.ndsC m al both 0).length) (W:=S.wC m both 0) (nds:=S.ndsC m al both 0) hd hck hR hN (.inl ⟨rfl,rfl⟩) (by simp) (by simp only[S.wC];omega) (by simp[S.ndsC];omega) (by simp[S.ndsC];omega) (by simp[NSt,St,sx,h1,h2,h3,h6,h8]) (by simp[sx,h9]) (by simp[sx,h12]) (by simp[sx]) (by simp[sx]) hB hO ?_
   intro t g w ht h9 h12 hB hO
   simp only[sx,sy,SO.run,↓reduceIte,Nat.reduceEqDiff,Nat.reduceAdd,Nat.reduceLeDiff]
   refine ⟨⟨ht,?_,w,hB,?_⟩,h12⟩
   ·rw[h9,List.take_length];rfl
   ·have e:(S.ndsC m al both 0).length=m.roots.length:=by simp[S.ndsC]
    rw[e] at hO
    exact hO
  ·refine nw_b8 (act:=act) (both:=both) (nn:=if both=true then m.nodes.length else 0) (cp:=1) (al:=al) (acts:=al) (first:=(S.ndsC m al both 1).length) (W:=S.wC m both 1) (nds:=S.ndsC m al both 1) hd hck hR hN (.inr ⟨rfl,rfl,ha⟩) (by simp) (by simp only[S.wC];omega) (by simp[S.ndsC,copy_len];omega) (by simp[S.ndsC,copy_len];omega) (by simp[NSt,St,sx,h1,h2,h3,h6,h8]) (by simp[sx,h9]) (by simp[sx,h12]) (by simp[sx]) (by simp[sx]) hB hO ?_
   intro t g w ht h9 h12 hB hO
   simp only[sx,sy,SO.run,↓reduceIte,Nat.reduceEqDiff,Nat.reduceAdd,Nat.reduceLeDiff]
   refine ⟨⟨ht,?_,w,hB,?_⟩,h12⟩
   ·rw[h9]
    cases both
    ·simp only[if_neg (show ¬(false=true) by decide),List.take_zero,List.map_nil,prod_nil,Int.mul_one];rfl
    ·show AV.int .i64 (S.wC m true 1*S.prod (List.map (fun x=>x.card) (List.take m.nodes.length m.nodes)))=_
     rw[List.take_length];rfl
   ·have e:(S.ndsC m al both 1).length=m.roots.length+m.nodes.length:=by simp[S.ndsC,copy_len]
    rw[e] at hO
    cases both
    ·simpa [S.ndsC,S.copyTo] using hO
    ·exact hO
 ·rintro t df g ⟨rfl,ht,h9,w,hB,hO⟩
  exact fin t g w ht h9 hB hO
theorem rnetwork_ok {d:Nat}{g:G}{v act:AV}{m:Causal}{al:List Int}{both:Bool}(hd:0<d)(hm:Agg m NoP 0 g.h v)(hck:S.check m=true)(ha:both=true→SlR NoP 0 .nil al act∧S.act m al=true)(hsn:Hx.snap g.h d depthA act=some act) :
  ∃r,callV C0 d N.ref33_Network [v,act,.bool both] g=.val r∧Tup2 (Agg (if both=true then S.twinOf m al else S.netOf m)) (One (S.fits m (if both=true then 2 else 1))) NoP 0 .nil r:=by
 have e0:=agg_same d hm
 obtain ⟨cs,rfl,hc⟩:=hm
 obtain ⟨a,b,rfl,hR,hN⟩:=rp_causal.1 hc
 have hR:=hR.tree (h':=.nil) (Nat.le_refl _)
 have hN:=hN.tree (h':=.nil) (Nat.le_refl _)
 obtain ⟨hs,hgr,hn1,hro,hno⟩:=check_facts hck
 have hn5:=hs.nodes
 have hr8:=hs.roots
 rw[call_ref33_Network]
 refine iso_run eq_ref33_Network (xs:=[.agg [.int .i64 m.grain,a,b],act,.bool both]) (by simp only[mapO,e0,hsn,arg_bool 0]) (by simp[f_ref33_Network]) (snb_tup2 (m:=2) (snb_agg _) (snb_one _) (by decide) (by decide)) (by decide) hd ?_
 simp only[f_ref33_Network,sx,sy,SO.run,↓reduceIte,Nat.reduceEqDiff,Nat.reduceAdd,Nat.reduceLeDiff]
 obtain ⟨g0,hg0⟩:∃g0,g0=(G.empty.new (AObj.cells 3 [[AV.int IntKind.i64 m.grain,a,b]] 0 false false)).new (AObj.cells 2 [[AV.int IntKind.i64 0,AV.nils]] 0 false false):=⟨_,rfl⟩
 rw[←hg0]
 have f0:g0.h.get 0=.cells 3 [[.int .i64 m.grain,a,b]] 0 false false:=by rw[hg0];simp[sx,H.get_put]
 have f1:g0.h.get 1=.cells 2 [[.int .i64 0,.nils]] 0 false false:=by rw[hg0];simp[sx,H.get_put]
 have f2:g0.nx=2:=by rw[hg0];simp[sx]
 clear hg0
 simp only[f_ref33_Network_r,sx,sy,SO.run,↓reduceIte,Nat.reduceEqDiff,Nat.reduceAdd,Nat.reduceLeDiff,f0,f2]
 refine nw_b0 (act:=act) (both:=both) (a:=a) (b:=b) hR hs (by simp[NSt,St,sx]) (by simp[sx]) (by simp[sx]) ⟨by simp[H.get_put,f2,f0],by simp[H.get_put,f2,f1],by simp[H.get_put],by simp[f2]⟩ ?_
 rintro t g w ⟨h1,h2,h3,h6,h8,-⟩ h9 hB hO
 simp only[f_ref33_Network_k12,sx,sy,SO.run,↓reduceIte,Nat.reduceEqDiff,Nat.reduceAdd,Nat.reduceLeDiff]
 refine nw_b10 (Nat.succ_pos d) hck hR hN ha (by simp[NSt,St,sx,h1,h2,h3,h6,h8]) (by simp[sx,h9]) (by simp[sx]) hB hO ?_
 clear h1 h2 h3 h6 h8 h9 hB hO
 rintro t g w ⟨h1,h2,h3,h6,h8,-⟩ h9 ⟨b0,b1,b2,hnx⟩ hO
 have hl:=hO.len
 have hln:((S.ndsC m al both 2).length:Int)=(m.roots.length:Int)+((if both=true then 2 else 1:Nat):Int)*(m.nodes.length:Int):=by
  cases both
  ·simp[S.ndsC,copy_len]<;>omega
  ·simp[S.ndsC,copy_len]<;>omega
 have hwe:S.wC m both 2=S.hidden m*S.cards m ^ (if both=true then 2 else 1:Nat):=by
  cases both
  ·simp[S.wC,Int.pow_succ]
  ·simp[S.wC,Int.pow_succ,Int.mul_assoc]
 have hnet:(⟨m.grain,S.ndsC m al both 2⟩:Net)=if both=true then S.twinOf m al else S.netOf m:=by
  cases both
  ·simp[S.ndsC,S.netOf]
  ·simp[S.ndsC,S.twinOf]
 have hsl:=hO.sl (by
  have:((S.ndsC m al both 2).length:Int)≤100:=by rw[hln];split<;>omega
  omega)
 have fin:∀q:Bool,q=S.fits m (if both=true then 2 else 1)→∀(h':H),(∀i,3≤i→h'.get i=g.h.get i)→∃P,Tup2 (Agg (if both=true then S.twinOf m al else S.netOf m)) (One (S.fits m (if both=true then 2 else 1))) P 0 h' (.tup [.agg [.int .i64 m.grain,w],.bool q]):=fun q hq h' hf =>
  ⟨fun i=>3≤i∧i<g.nx,_,_,rfl,⟨_,rfl,by rw[←hnet];exact rp_net.2 ⟨w,rfl,hsl.far fun i hi=>hf i hi.1⟩⟩,by rw[hq];exact rp_bool.2 rfl⟩
 have hfits:S.fits m (if both=true then 2 else 1)=(decide (((S.ndsC m al both 2).length:Int)≤8)&&decide (S.wC m both 2≤1024)):=by rw[hln,hwe];rfl
 have h3':∀i,3≤i→(g.h.put 1 (.cells 2 [[.int .i64 m.grain,w]] 0 false false)).get i=g.h.get i:=fun i hi=>by rw[get_put_ne _ _ _ (by omega)]
 by_cases hc:((S.ndsC m al both 2).length:Int)≤8
 ·have hd1:decide (((S.ndsC m al both 2).length:Int)≤8)=true:=by simpa using hc
  simp only[f_ref33_Network_k11,sx,sy,SO.run,↓reduceIte,Nat.reduceEqDiff,Nat.reduceAdd,Nat.reduceLeDiff,h1,h2,h3,h6,h8,h9,b1,b2,hl,hd1]
  exact fin _ (by rw[hfits,hd1];rfl) _ h3'
 ·have hd1:decide (((S.ndsC m al both 2).length:Int)≤8)=false:=by simp;omega
  simp only[f_ref33_Network_k11,sx,sy,SO.run,↓reduceIte,Nat.reduceEqDiff,Nat.reduceAdd,Nat.reduceLeDiff,h1,h2,h3,h6,h8,h9,b1,b2,hl,hd1]
  exact fin _ (by rw[hfits,hd1];rfl) _ h3'
end
end Hx
end
section
namespace Hx
open Go
noncomputable section
theorem ofArgs_5 (a b c e f:AV)(t:T):ofArgs 0 [a,b,c,e,f] t=tset (tset (tset (tset (tset t 0 a) 1 b) 2 c) 3 e) 4 f:=rfl
theorem ofArgs_6 (a b c e f i:AV)(t:T):ofArgs 0 [a,b,c,e,f,i] t=tset (tset (tset (tset (tset (tset t 0 a) 1 b) 2 c) 3 e) 4 f) 5 i:=rfl
def S.netX (m:Causal)(al:List Int)(both:Bool):Net:=if both=true then S.twinOf m al else S.netOf m
def S.netE (m:Causal)(no:Int)(c:Nat):Int:=if no=0 then (if S.fits m c then 0 else 6) else no
theorem lnetwork_ok {d k:Nat}{g:G}{P:Nat→Prop}{u v act:AV}{m:Causal}{x:Net}{al:List Int}{both:Bool}{no:Int}(hd:0<d)(hm:Agg m NoP 0 g.h v)(hno:no=0→S.check m=true∧(both=true→SlR NoP 0 .nil al act∧S.act m al=true))
  (hsn:∀h d,Hx.snap h d depthA act=some act)
  (hx:Agg x P k g.h u) (hxe:x=if S.netE m no (if both=true then 2 else 1)=0 then S.netX m al both else ⟨0,[]⟩) :
  callV C0 d N.law33_network [u,.int .i64 (S.netE m no (if both=true then 2 else 1)),.int .i64 no,v,act,.bool both] g=.val (.bool true):=by
 have e0:=agg_same d hm
 obtain ⟨u',e1,hu⟩:=arg_of (snb_agg x) (by decide) d hx
 obtain ⟨cs,rfl,hc⟩:=hm
 obtain ⟨a,b,rfl,hR,hN⟩:=rp_causal.1 hc
 have hms:∀h,Agg m NoP 0 h (.agg [.int .i64 m.grain,a,b]):=fun h=>⟨_,rfl,Rp.tree hc (Nat.le_refl _)⟩
 obtain ⟨cu,rfl,hcu⟩:=hu
 obtain ⟨un,rfl,hun⟩:=rp_net.1 hcu
 have hus:∀h,Agg x NoP (max k d) h (.agg [.int .i64 x.grain,un]):=fun h=>⟨_,rfl,Rp.tree hcu (Nat.le_refl _)⟩
 rw[call_law33_network]
 refine iso_bool eq_law33_network (xs:=[.agg [.int .i64 x.grain,un],.int .i64 (S.netE m no (if both=true then 2 else 1)),.int .i64 no,.agg [.int .i64 m.grain,a,b],act,.bool both]) (by simp only[mapO,e0,e1,hsn,arg_bool 0,arg_int 0]) (by simp[f_law33_network]) hd ?_
 generalize hE:S.netE m no (if both=true then 2 else 1)=E at *
 have hEd:E=if no=0 then (if S.fits m (if both=true then 2 else 1) then 0 else 6) else no:=by rw[←hE];rfl
 simp only[f_law33_network,f_law33_network_r,ofArgs_6,sx,sy,SO.run,↓reduceIte,Nat.reduceEqDiff,Nat.reduceAdd,Nat.reduceLeDiff]
 refine bifP_mk (fun hb=>?_) (fun hb=>?_)
 ·have hn0:no=0:=by simpa using hb
  obtain ⟨hck,hact⟩:=hno hn0
  simp only[sx,sy,SO.run,↓reduceIte,Nat.reduceEqDiff,Nat.reduceAdd,Nat.reduceLeDiff,H.get_put]
  refine sat_ex (rnetwork_ok (al:=al) (Nat.succ_pos d) (hms _) hck hact (hsn _ _)) fun r hr=>?_
  obtain ⟨ra,rb,rfl,⟨rc,rfl,hrc⟩,hrb⟩:=hr
  have hrb:=rp_bool.1 hrb
  injection hrb with hrb
  subst hrb
  obtain ⟨rn,rfl,hrn⟩:=rp_net.1 hrc
  have hrs:∀h,Agg (S.netX m al both) NoP 0 h (.agg [.int .i64 (S.netX m al both).grain,rn]):=fun h=>⟨_,rfl,Rp.tree hrc (Nat.le_refl _)⟩
  simp only[sx,sy,SO.run,↓reduceIte,Nat.reduceEqDiff,Nat.reduceAdd,Nat.reduceLeDiff,H.get_put]
  refine bifP_mk (fun hf=>?_) (fun hf=>?_)
  ·have hE0:E=0:=by rw[hEd,if_pos hn0,if_pos hf]
   have hx0:x=S.netX m al both:=by rw[hxe,if_pos hE0]
   have hs1:∀g:G,callV C0 (d+1) N.ref05_Same [.agg [.int .i64 x.grain,un],.agg [.int .i64 (S.netX m al both).grain,rn]] g=.val (.bool true):=fun g=>by
    rw[netsame_ok (Nat.succ_pos d) (hus g.h) (hrs g.h),hx0];simp
   have hs1:∀g:G,callV C0 (d+1) N.ref05_Same [.agg [.int .i64 x.grain,un],.agg [.int .i64 (if both=true then S.twinOf m al else S.netOf m).grain,rn]] g=.val (.bool true):=hs1
   simp only[f_law33_network_k0,sx,sy,SO.run,↓reduceIte,Nat.reduceEqDiff,Nat.reduceAdd,Nat.reduceLeDiff,H.get_put,hE0,hn0,decide_true,hs1]
  ·have hf':¬(S.fits m (if both=true then 2 else 1)=true):=by rw[hf];decide
   have hE0:E=6:=by rw[hEd,if_pos hn0,if_neg hf']
   have hx0:x=⟨0,[]⟩:=by rw[hxe,if_neg (by omega)]
   have hz:∀h,Agg (⟨0,[]⟩:Net) NoP 0 h (.agg [.int .i64 0,.nils]):=fun h=>⟨_,rfl,rp_net.2 ⟨_,rfl,by decide,rfl⟩⟩
   have hs1:∀g:G,callV C0 (d+1) N.ref05_Same [.agg [.int .i64 x.grain,un],.agg [.int .i64 0,.nils]] g=.val (.bool true):=fun g=>by
    rw[netsame_ok (Nat.succ_pos d) (hus g.h) (hz g.h),hx0];simp
   simp only[f_law33_network_k0,sx,sy,SO.run,↓reduceIte,Nat.reduceEqDiff,Nat.reduceAdd,Nat.reduceLeDiff,H.get_put,hE0,hn0,decide_true,hs1]
 ·have hn0:¬no=0:=by simpa using hb
  have hE0:E=no:=by rw[hEd,if_neg hn0]
  have hx0:x=⟨0,[]⟩:=by rw[hxe,if_neg (by omega)]
  have hz:∀h,Agg (⟨0,[]⟩:Net) NoP 0 h (.agg [.int .i64 0,.nils]):=fun h=>⟨_,rfl,rp_net.2 ⟨_,rfl,by decide,rfl⟩⟩
  have hs1:∀g:G,callV C0 (d+1) N.ref05_Same [.agg [.int .i64 x.grain,un],.agg [.int .i64 0,.nils]] g=.val (.bool true):=fun g=>by
   rw[netsame_ok (Nat.succ_pos d) (hus g.h) (hz g.h),hx0];simp
  simp only[f_law33_network_k0,sx,sy,SO.run,↓reduceIte,Nat.reduceEqDiff,Nat.reduceAdd,Nat.reduceLeDiff,H.get_put,hE0,decide_true,hs1]
end
end Hx
end
section
namespace Hx
open Go
set_option maxRecDepth 100000
noncomputable section
def f_law33_TwinNets_b0:SC:=.seq (.ops [o 92 (.bin .lss (.t 91) (.k (.int .i64 2)))]) (.seq (.cond (.t 92) (.skip) (.exit 2)) (.seq (.blk 3 (.seq (.ops [o 93 (.ix false 2 1 (.t 90) (.t 91)),o 20 (.mv (.t 93))]) (.seq (.ops [o 95 (.load true 3 (.t 12)),o 96 (.mv (.t 20)),o 97 (.call N.twin_Twin [.t 95,.t 96]),o 94 (.mv (.t 97)),o 98 (.ext (.t 94) 0),o 99 (.ext (.t 94) 1),o 21 (.alloc [.int .i64 0,.nils]),oz (.store 2 (.t 21) (.t 98)),o 22 (.mv (.t 99))]) (.seq (.feet [0,0,0,0,8,28,0,0,255,511] [o 100 (.load true 2 (.t 21)),o 101 (.mv (.t 22)),o 102 (.load true 3 (.t 12)),o 103 (.mv (.t 20)),o 104 (.bsl 1 1 [.nils] [0] [.t 103]),o 105 (.call N.law33_refused [.t 102,.t 104]),o 106 (.load true 3 (.t 12)),o 107 (.mv (.t 20)),o 108 (.call N.law33_network [.t 100,.t 101,.t 105,.t 106,.t 107,.k (.bool true)]),o 109 (.not (.t 108))]) (.cond (.t 109) (.seq (.ops [o 10 (.mv (.k (.bool false)))]) (.ret)) (.skip)))))) (.ops [o 110 (.bin .add (.t 91) (.k (.int .i64 1))),o 91 (.mv (.t 110))])))
def f_law33_TwinNets_k1:SC:=.ops [o 111 (.bin .add (.t 29) (.k (.int .i64 1))),o 29 (.mv (.t 111))]
def f_law33_TwinNets_b2:SC:=.seq (.ops [o 30 (.bin .lss (.t 29) (.k (.int .i64 3)))]) (.seq (.cond (.t 30) (.skip) (.exit 0)) (.seq (.blk 1 (.seq (.ops [o 31 (.ix true 3 3 (.t 28) (.t 29)),o 12 (.alloc [.int .i64 0,.nils,.nils]),oz (.store 3 (.t 12) (.t 31))]) (.seq (.ops [o 32 (.load true 3 (.t 12)),o 33 (.call N.law33_refused [.t 32,.k (.nils)]),o 13 (.mv (.t 33))]) (.seq (.ops [o 35 (.load true 3 (.t 12)),o 36 (.call N.twin_Graph [.t 35]),o 34 (.mv (.t 36)),o 37 (.ext (.t 34) 0),o 38 (.ext (.t 34) 1),o 39 (.ext (.t 34) 2),o 14 (.mv (.t 37)),o 15 (.mv (.t 38)),o 16 (.mv (.t 39))]) (.seq (.seq (.ops [o 40 (.mv (.t 16)),o 41 (.mv (.t 13)),o 42 (.bin .neq (.t 40) (.t 41)),o 43 (.mv (.t 42)),og 44 43 false (.mv (.t 13)),og 45 43 false (.bin .neq (.t 44) (.k (.int .i64 0))),og 46 43 false (.mv (.t 45)),og 47 46 true (.mv (.t 14)),og 48 46 true (.len .slice (.t 47)),og 49 46 true (.bin .neq (.t 48) (.k (.int .i64 0))),og 50 46 true (.mv (.t 49)),og 51 50 false (.mv (.t 15)),og 52 50 false (.len .slice (.t 51)),og 53 50 false (.bin .neq (.t 52) (.k (.int .i64 0))),og 54 46 true (.pick (.t 50) (.k (.bool true)) (.t 53)),og 55 43 false (.pick (.t 46) (.t 54) (.k (.bool false))),o 56 (.pick (.t 43) (.k (.bool true)) (.t 55)),o 57 (.mv (.t 56)),og 58 57 false (.mv (.t 13)),og 59 57 false (.bin .eql (.t 58) (.k (.int .i64 0))),og 60 57 false (.mv (.t 59)),og 61 60 true (.mv (.t 14)),og 62 60 true (.load true 3 (.t 12)),og 63 60 true (.call N.ref33_Parents [.t 62]),og 64 60 true (.call N.ref05_Sets [.t 61,.t 63]),og 65 60 true (.not (.t 64)),og 66 60 true (.mv (.t 65)),og 67 66 false (.mv (.t 15)),og 68 66 false (.load true 3 (.t 12)),og 69 66 false (.call N.ref33_Joined [.t 68]),og 70 66 false (.call N.ref05_Sets [.t 67,.t 69]),og 71 66 false (.not (.t 70)),og 72 60 true (.pick (.t 66) (.k (.bool true)) (.t 71)),og 73 57 false (.pick (.t 60) (.t 72) (.k (.bool false))),o 74 (.pick (.t 57) (.k (.bool true)) (.t 73))]) (.cond (.t 74) (.seq (.ops [o 10 (.mv (.k (.bool false)))]) (.ret)) (.skip))) (.seq (.ops [o 76 (.load true 3 (.t 12)),o 77 (.call N.twin_Net [.t 76]),o 75 (.mv (.t 77)),o 78 (.ext (.t 75) 0),o 79 (.ext (.t 75) 1),o 17 (.alloc [.int .i64 0,.nils]),oz (.store 2 (.t 17) (.t 78)),o 18 (.mv (.t 79))]) (.seq (.seq (.ops [o 80 (.load true 2 (.t 17)),o 81 (.mv (.t 18)),o 82 (.mv (.t 13)),o 83 (.load true 3 (.t 12)),o 84 (.call N.law33_network [.t 80,.t 81,.t 82,.t 83,.k (.nils),.k (.bool false)]),o 85 (.not (.t 84))]) (.cond (.t 85) (.seq (.ops [o 10 (.mv (.k (.bool false)))]) (.ret)) (.skip))) (.seq (.quiet [o 86 (.load true 5 (.t 5)),o 87 (.call N.ref33_Draft_Model [.t 86]),o 88 (.mv (.t 3)),o 89 (.load true 5 (.t 9)),o 90 (.call N.law33_lists [.t 87,.t 88,.t 89]),o 91 (.mv (.k (.int .i64 0)))]) (.blk 2 (.loop f_law33_TwinNets_b0)))))))))) f_law33_TwinNets_k1))
def f_law33_TwinNets_k3:SC:=.seq (.ops [o 10 (.mv (.k (.bool true)))]) (.ret)
def f_law33_TwinNets_r:SC:=.seq (.seq (.ops [o 23 (.call N.law33_works []),o 24 (.not (.t 23))]) (.cond (.t 24) (.seq (.ops [o 10 (.mv (.k (.bool false)))]) (.ret)) (.skip))) (.seq (.seq (.ops [o 25 (.load true 5 (.t 5)),o 26 (.load true 4 (.t 6)),o 27 (.load true 4 (.t 7)),o 28 (.call N.law33_models [.t 25,.t 26,.t 27]),o 29 (.mv (.k (.int .i64 0)))]) (.blk 0 (.loop f_law33_TwinNets_b2))) f_law33_TwinNets_k3)
def f_law33_TwinNets:SF:=⟨112,[.tm 10],.seq (.ops [o 5 (.box (.t 0)),o 6 (.box (.t 1)),o 7 (.box (.t 2)),o 9 (.box (.t 4)),o 10 (.mv (.k (.bool false)))]) f_law33_TwinNets_r⟩
theorem eq_law33_TwinNets:nFn C0 N.law33_TwinNets=some f_law33_TwinNets:=by kernel_rfl
end
end Hx
end
