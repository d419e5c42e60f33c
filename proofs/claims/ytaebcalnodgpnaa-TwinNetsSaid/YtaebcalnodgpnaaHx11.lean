/- A part of the proof: an interpreter over abstract values, shown right against the model, and what the functions of the chapter compute on it. -/
import Derived.Test.YtaebcalnodgpnaaHx10
set_option linter.unusedVariables false
set_option linter.unusedSimpArgs false
set_option linter.unnecessarySimpa false
section
namespace Hx
open Go
noncomputable section
def Els (g:G)(b:Nat)(v:AV):Nat→Prop:=fun i=>b≤i∧i<g.nx∧vid v≠some i
def OwnT {α:Type} [Rp α](g:G)(b:Nat)(k:Nat)(v:AV)(l:List α):Prop:=∃rows,Own g b v (Rp.sz α) rows∧All2 (Rp.rp (Els g b v) k g.h) l rows
variable {α:Type} [Rp α]{g g':G}{b k:Nat}{v:AV}{l:List α}
theorem OwnT.nils:OwnT g b k .nils ([]:List α):=⟨[],.inl ⟨rfl,rfl⟩,trivial⟩
theorem OwnT.sl (h:OwnT g b k v l)(hl:l.length<9223372036854775808):SlR (fun i=>b≤i∧i<g.nx) k g.h l v:=by
 obtain ⟨rows,h1,h2⟩:=h
 exact Own.sl h1 hl (h2.mono fun x cs r=>Rp.mono r (fun i hi=>⟨⟨hi.1,hi.2.1⟩,rfl⟩) (Nat.le_refl _)) fun i hi=>h1.lt hi
theorem OwnT.fr (h:OwnT g b k v l)(hn:g.nx≤g'.nx)(hf:∀i,b≤i→i<g.nx→g'.h.get i=g.h.get i):OwnT g' b k v l:=by
 obtain ⟨rows,h1,h2⟩:=h
 exact ⟨rows,h1.fr hn fun i hi=>hf i (h1.lt hi).1 (h1.lt hi).2,h2.mono fun x cs r=>Rp.mono r (fun i hi=>⟨⟨hi.1,Nat.lt_of_lt_of_le hi.2.1 hn,hi.2.2⟩,hf i hi.1 hi.2.1⟩) (Nat.le_refl _)⟩
theorem OwnT.step (h:OwnT g b k v l)(f:Fr g g'):OwnT g' b k v l:=h.fr f.1 fun i _ hi=>f.2 i hi
theorem OwnT.lt (h:OwnT g b k v l){i:Nat}(hi:vid v=some i):b≤i∧i<g.nx:=by obtain ⟨rows,h1,-⟩:=h;exact h1.lt hi
theorem OwnT.cell (h:OwnT g b k v l):v.cells=[v]∧v.isTup=false:=by obtain ⟨rows,h1,-⟩:=h;exact h1.cell
theorem OwnT.len (h:OwnT g b k v l)(g0:G):lenF .slice v g0=.val (.int .i64 (l.length:Int)):=by
 obtain ⟨rows,h1,h2⟩:=h
 rw[len_rows' h1.rows,h2.len]
theorem append_ownT {x:AV}{y:α}{cs:List AV}{bytes:Nat}{K:AV→G→Prop}{D:ADf→Prop}(hv:OwnT g b k v l)(hx:rowsOf g.h (Rp.sz α) x=some [cs])(hy:Rp.rp (Els g b v) k g.h y cs)(hb:b≤g.nx)
  (hr:(l.length+1)*bytes≤room)
  (kk:∀v' g',OwnT g' b k v' (l++[y])→g.nx≤g'.nx→(∀i,i<g.nx→vid v≠some i→g'.h.get i=g.h.get i)→(vid v'=vid v∨∃i,vid v'=some i∧g.nx≤i)→(∀i∈g'.lg,i∈g.lg∨b≤i)→K v' g') :
  (appendA (Rp.sz α) bytes v x g).sat K g D:=by
 obtain ⟨rows,h1,h2⟩:=hv
 refine append_own (new:=[cs]) h1 hx hb (by rw[←h2.len];exact hr) fun v' g' hv' hn hf hvid hlg=>kk v' g' ⟨rows++[cs],hv',?_⟩ hn hf hvid hlg
 have up:∀(z:α) (c:List AV),Rp.rp (Els g b v) k g.h z c→Rp.rp (Els g' b v') k g'.h z c:=fun z c r=>Rp.mono r (fun i hi=>⟨⟨hi.1,Nat.lt_of_lt_of_le hi.2.1 hn,fun e=>by
  rcases hvid with e2 | ⟨j,e2,hj⟩
  ·rw[e2] at e;exact hi.2.2 e
  ·rw[e2] at e;injection e with e;subst e;have:=hi.2.1;omega⟩,hf i hi.2.1 hi.2.2⟩) (Nat.le_refl _)
 exact (h2.mono up).append ⟨up y cs hy,trivial⟩
theorem OwnT.base {b':Nat}(h:OwnT g b k v l)(hb:b'≤b):OwnT g b' k v l:=by
 obtain ⟨rows,h1,h2⟩:=h
 refine ⟨rows,?_,h2.mono fun x cs r=>Rp.mono r (fun i hi=>⟨⟨by have:=hi.1;omega,hi.2⟩,rfl⟩) (Nat.le_refl _)⟩
 rcases h1 with h | ⟨id,ep,lo,p1,p2,p3,p4⟩
 ·exact .inl h
 ·exact .inr ⟨id,ep,lo,by omega,p2,p3,p4⟩
def FrW (b:Nat)(g g':G):Prop:=g.nx≤g'.nx∧(∀i,i<b→g'.h.get i=g.h.get i)∧∀i∈g'.lg,i∈g.lg∨b≤i
theorem FrW.refl (b:Nat)(g:G):FrW b g g:=⟨Nat.le_refl _,fun _ _=>rfl,fun _ h=>.inl h⟩
theorem FrW.trans {g1 g2 g3:G}(h:FrW b g1 g2)(h':FrW b g2 g3):FrW b g1 g3 :=
 ⟨Nat.le_trans h.1 h'.1,fun i hi=>by rw[h'.2.1 i hi,h.2.1 i hi],fun i hi=>by
  rcases h'.2.2 i hi with h1 | h1
  ·exact h.2.2 i h1
  ·exact .inr h1⟩
theorem FrW.new {g1:G}(o:AObj)(hb:b≤g1.nx):FrW b g1 (g1.new o) :=
 ⟨by simp,fun i hi=>by rw[G.new_h,get_put_ne _ _ _ (by omega)],fun i hi=>by
  simp at hi
  rcases hi with rfl | hi
  ·exact .inr hb
  ·exact .inl hi⟩
theorem FrW.put {g1:G}(id:Nat)(o:AObj)(hb:b≤id):FrW b g1 (g1.put id o) :=
 ⟨by simp,fun i hi=>by rw[G.put_h,get_put_ne _ _ _ (by omega)],fun i hi=>by
  simp at hi
  rcases hi with rfl | hi
  ·exact .inr hb
  ·exact .inl hi⟩
theorem FrW.fr {g1 g2:G}(h:FrW g1.nx g1 g2):Fr g1 g2:=⟨h.1,h.2.1⟩
theorem FrW.of_app {g1 g2:G}{v:AV}(hv:∀i,vid v=some i→b≤i)(hb:b≤g1.nx)(hn:g1.nx≤g2.nx)(hf:∀i,i<g1.nx→vid v≠some i→g2.h.get i=g1.h.get i)(hl:∀i∈g2.lg,i∈g1.lg∨b≤i):FrW b g1 g2 :=
 ⟨hn,fun i hi=>hf i (by omega) (fun e=>by have:=hv i e;omega),hl⟩
end
end Hx
end
section
namespace Hx
open Go
noncomputable section
structure KnownM where
 m:Causal
 hidden:Int
instance : Rp KnownM:=Rp.via fun x:KnownM=>(x.m,x.hidden)
theorem rp_known {P:Nat→Prop}{k:Nat}{h:H}{x:KnownM}{cs:List AV}:Rp.rp P k h x cs↔∃a b,cs=[.int .i64 x.m.grain,a,b,.int .i64 x.hidden]∧SlR P k h x.m.roots a∧SlR P k h x.m.nodes b:=by
 constructor
 ·rintro ⟨c1,c2,rfl,h1,h2⟩
  obtain ⟨a,b,rfl,h3,h4⟩:=rp_causal.1 h1
  rw[rp_int.1 h2];exact ⟨a,b,rfl,h3,h4⟩
 ·rintro ⟨a,b,rfl,h3,h4⟩
  exact ⟨[.int .i64 x.m.grain,a,b],[.int .i64 x.hidden],rfl,rp_causal.2 ⟨a,b,rfl,h3,h4⟩,rp_int.2 rfl⟩
def S.row (gr:Int)(card value:Nat):List Int:=(List.replicate card 0).set value gr
theorem row_ok {d k:Nat}{g:G}{P:Nat→Prop}{v:AV}{x:KnownM}{c i:Nat}(hd:0<d)(hm:Agg x P k g.h v)(hc:c≤4)(hi:i<c) :
  ∃r,callV C0 d N.twin_known_row [v,.int .i64 (c:Int),.int .i64 (i:Int)] g=.val r∧IT 0 (S.row x.m.grain c i) r:=by
 obtain ⟨v',e,cs,rfl,hcs⟩:=arg_of (snb_agg x) (by decide) d hm
 obtain ⟨a,b,rfl,hR,hN⟩:=rp_known.1 hcs
 rw[call_twin_known_row]
 refine iso_run eq_twin_known_row (xs:=[.agg [.int .i64 x.m.grain,a,b,.int .i64 x.hidden],.int .i64 c,.int .i64 i]) (by simp only[mapO,e,arg_int 0]) (by simp[f_twin_known_row]) (snb_one _) (by decide) hd ?_
 simp only[f_twin_known_row,sx,sy,SO.run,↓reduceIte,Nat.reduceEqDiff,Nat.reduceAdd]
 generalize hg0:(G.empty.new (AObj.cells 4 [[AV.int IntKind.i64 x.m.grain,a,b,AV.int IntKind.i64 x.hidden]] 0 false false))=g0
 have f0:g0.h.get 0=.cells 4 [[.int .i64 x.m.grain,a,b,.int .i64 x.hidden]] 0 false false:=by rw[←hg0];simp[sx]
 have f1:1≤g0.nx:=by rw[←hg0];simp[sx]
 clear hg0
 simp only[f_twin_known_row_r,sx,sy,SO.run,↓reduceIte,Nat.reduceEqDiff]
 refine mks_own (b:=1) (n:=c) (by simp[room];omega) (by simp[room];omega) f1 fun w g1 hw n1 fr1 v1=>?_
 have e0:g1.h.get 0=.cells 4 [[.int .i64 x.m.grain,a,b,.int .i64 x.hidden]] 0 false false:=by rw[fr1 0 (by omega),f0]
 have hlt:i<(List.replicate c [AV.int IntKind.i64 0]).length:=by simpa using hi
 simp only[sx,sy,SO.run,↓reduceIte,Nat.reduceEqDiff,e0,hw.rows,Option.isSome_some,Option.getD_some,hlt]
 refine store_own (row:=ci 0) (row':=ci x.m.grain) hw (by rw[List.getElem?_replicate,if_pos hi];rfl) rfl rfl rfl fun g2 hw2 n2 f2=>?_
 simp only[sx,sy,SO.run,↓reduceIte,Nat.reduceEqDiff]
 have e:(List.replicate c [AV.int IntKind.i64 0]).set i (ci x.m.grain)=(S.row x.m.grain c i).map ci:=by
  simp[S.row,List.map_set,ci]
 rw[e] at hw2
 exact ⟨_,hw2.ints (by simp[S.row];omega)⟩
theorem free_ok {d k:Nat}{g:G}{P:Nat→Prop}{v:AV}{x:KnownM}(hd:0<d)(hm:Agg x P k g.h v)(hn:x.m.nodes.length≤5) :
  ∃r,callV C0 d N.twin_known_free [v] g=.val r∧IT 0 (List.replicate x.m.nodes.length (-1)) r:=by
 obtain ⟨v',e,cs,rfl,hcs⟩:=arg_of (snb_agg x) (by decide) d hm
 obtain ⟨a,b,rfl,hR,hN⟩:=rp_known.1 hcs
 rw[call_twin_known_free]
 refine iso_run eq_twin_known_free (xs:=[.agg [.int .i64 x.m.grain,a,b,.int .i64 x.hidden]]) (by simp only[mapO,e]) (by simp[f_twin_known_free]) (snb_one _) (by decide) hd ?_
 simp only[f_twin_known_free,sx,sy,SO.run,↓reduceIte,Nat.reduceEqDiff,Nat.reduceAdd]
 generalize hg0:(G.empty.new (AObj.cells 4 [[AV.int IntKind.i64 x.m.grain,a,b,AV.int IntKind.i64 x.hidden]] 0 false false))=g0
 have f0:g0.h.get 0=.cells 4 [[.int .i64 x.m.grain,a,b,.int .i64 x.hidden]] 0 false false:=by rw[←hg0];simp[sx]
 have f1:1≤g0.nx:=by rw[←hg0];simp[sx]
 clear hg0
 simp only[f_twin_known_free_r,sx,sy,SO.run,↓reduceIte,Nat.reduceEqDiff,Nat.reduceAdd,f0,hN.len]
 refine mks_own (b:=1) (n:=x.m.nodes.length) (by simp[room];omega) (by simp[room];omega) f1 fun w g1 hw n1 fr1 v1=>?_
 have wl:∀g,lenF .slice w g=.val (.int .i64 (x.m.nodes.length:Int)):=fun g=>by rw[len_rows' hw.rows,List.length_replicate]
 simp only[sx,sy,SO.run,↓reduceIte,Nat.reduceEqDiff,wl]
 refine wpL_range (m:=x.m.nodes.length) (by omega) (fun j t df g=>df=[]∧tat t 3=w∧Own g 1 w 1 ((List.replicate j (-1)++List.replicate (x.m.nodes.length - j) 0:List Int).map ci))
  ⟨rfl,by simp[sx],by simpa [ci] using hw⟩ (by simp[sx]) (by simp[sx]) (by decide) (by rintro j t df g v s (rfl | rfl | rfl)<;>simp[sx]) ?_ ?_
 ·rintro j t df g hj ⟨rfl,h3,hu⟩ h12 h11
  have hlt:j<((List.replicate j (-1)++List.replicate (x.m.nodes.length - j) 0:List Int).map ci).length:=by rw[List.length_map,List.length_append,List.length_replicate,List.length_replicate];omega
  have hrow:((List.replicate j (-1)++List.replicate (x.m.nodes.length - j) 0:List Int).map ci)[j]?=some (ci 0):=by
   rw[List.getElem?_map,List.getElem?_append_right (by simp),List.length_replicate,Nat.sub_self,List.getElem?_replicate,if_pos (by omega)];rfl
  simp only[sx,sy,SO.run,↓reduceIte,Nat.reduceEqDiff,h3,h11,h12,hu.rows,Option.isSome_some,Option.getD_some,hlt]
  refine store_own (row:=ci 0) (row':=ci (-1)) hu hrow rfl rfl rfl fun g2 hw2 n2 f2=>?_
  simp only[sx,sy,SO.run,↓reduceIte,Nat.reduceEqDiff,h3,h11,h12]
  have e:((List.replicate j (-1)++List.replicate (x.m.nodes.length - j) 0:List Int).map ci).set j (ci (-1))=(List.replicate (j+1) (-1)++List.replicate (x.m.nodes.length - (j+1)) 0:List Int).map ci:=by
   rw[←List.map_set]
   congr 1
   obtain ⟨q,hq⟩:∃q,x.m.nodes.length - j=q+1:=⟨x.m.nodes.length - j - 1,by omega⟩
   rw[hq,show x.m.nodes.length - (j+1)=q by omega,List.set_append_right _ _ (by simp),List.length_replicate,Nat.sub_self,List.replicate_succ,List.set_cons_zero,List.replicate_succ',List.append_assoc]
   rfl
  rw[e] at hw2;exact hw2
 ·rintro t df g ⟨rfl,h3,hu⟩
  simp only[f_twin_known_free_k1,sx,sy,SO.run,↓reduceIte,Nat.reduceEqDiff,h3]
  rw[Nat.sub_self] at hu
  simp only[List.replicate_zero,List.append_nil] at hu
  exact ⟨_,hu.ints (by simp;omega)⟩
def S.actAt (m:Causal)(l:List Int)(i:Nat):Bool:=decide (-1≤l[i]?.getD 0)&&decide (l[i]?.getD 0≤S.cardAt m i - 1)
def S.act (m:Causal)(l:List Int):Bool:=decide (l.length=m.nodes.length)&&(List.range l.length).all (S.actAt m l)
def S.hidden (m:Causal):Int:=S.prod (m.roots.map fun r=>(r.length:Int))
def S.zeroK:KnownM:=⟨⟨0,[],[]⟩,0⟩
def S.readE (m:Causal)(ls:List (List Int)):Int:=if S.check m then (if ls.all (S.act m) then 0 else 2) else 330
def S.read (m:Causal)(ls:List (List Int)):KnownM:=if S.readE m ls=0 then ⟨m,S.hidden m⟩ else S.zeroK
theorem check_facts {m:Causal}(h:S.check m=true):S.Small m∧(1≤m.grain∧m.grain≤12)∧1≤m.nodes.length∧S.rootsOk m=true∧S.nodesOk m=true:=by
 simp only[S.check,Bool.and_eq_true,decide_eq_true_eq] at h
 obtain ⟨⟨⟨⟨⟨⟨⟨⟨a1,a2⟩,a3⟩,a4⟩,a5⟩,hro⟩,hc⟩,hno⟩,hac⟩:=h
 exact ⟨small_of a3 a5 hro fun x hx=>by have:=List.all_eq_true.1 hc x hx;simpa using this,⟨a1,a2⟩,a4,hro,hno⟩
theorem hidden_bound {m:Causal}(hs:S.Small m)(j:Nat):1≤S.prod ((m.roots.take j).map fun r=>(r.length:Int))∧S.prod ((m.roots.take j).map fun r=>(r.length:Int))≤4 ^ 8:=by
 have:=prod_bound (l:=(m.roots.take j).map fun r=>(r.length:Int)) (by
  intro y hy
  obtain ⟨r,hr,rfl⟩:=List.mem_map.1 hy
  have:=hs.len r (List.mem_of_mem_take hr)
  omega)
 exact ⟨this.1,Int.le_trans this.2 (pow4_mono (by have:=hs.roots;simp;omega))⟩
theorem read_ok {d k k2:Nat}{g:G}{P2:Nat→Prop}{v w:AV}{m:Causal}{ls:List (List Int)}(hd:0<d)(hk:k<d)(hm:Agg m NoP k g.h v)(hw:SlR P2 k2 g.h ls w) :
  ∃r,callV C0 d N.twin_read [v,w] g=.val r∧Tup2 (Agg (S.read m ls)) (One (S.readE m ls)) NoP k .nil r:=by
 have e:=agg_same d hm
 obtain ⟨cs,rfl,hc⟩:=hm
 obtain ⟨a,b,rfl,hR,hN⟩:=rp_causal.1 hc
 obtain ⟨w',e2,hl⟩:=arg_sl hw d
 obtain ⟨rows,r1,r2,r3,r4⟩:=hN.all
 have r1:∀h',rowsOf h' 4 b=some rows:=r1
 obtain ⟨lrows,l1,l2,l3,l4⟩:=(hl .nil).all
 have l1:∀h',rowsOf h' 1 w'=some lrows:=l1
 obtain ⟨rrows,p1,p2,p3,p4⟩:=hR.all
 have p1:∀h',rowsOf h' 1 a=some rrows:=p1
 have hms:∀g:G,Agg m NoP k g.h (.agg [.int .i64 m.grain,a,b]):=fun g=>⟨_,rfl,rp_causal.2 ⟨a,b,rfl,hR.tree (Nat.le_refl _),hN.tree (Nat.le_refl _)⟩⟩
 rw[call_twin_read]
 refine iso_run eq_twin_read (xs:=[.agg [.int .i64 m.grain,a,b],w']) (by simp only[mapO,e,e2]) (by simp[f_twin_read]) (snb_tup2 (m:=2) (snb_agg _) (snb_one _) (by decide) (by decide)) (by decide) hk ?_
 simp only[f_twin_read,sx,sy,SO.run,↓reduceIte,Nat.reduceEqDiff,Nat.reduceAdd]
 generalize hg0:(G.empty.new (AObj.cells 3 [[AV.int IntKind.i64 m.grain,a,b]] 0 false false)).new (AObj.cells 4 [[AV.int IntKind.i64 0,AV.nils,AV.nils,AV.int IntKind.i64 0]] 0 false false)=g0
 have f0:g0.h.get 0=.cells 3 [[.int .i64 m.grain,a,b]] 0 false false:=by rw[←hg0];simp[sx,H.get_put]
 have f1:g0.h.get 1=.cells 4 [[.int .i64 0,.nils,.nils,.int .i64 0]] 0 false false:=by rw[←hg0];simp[sx,H.get_put]
 have f2:2≤g0.nx:=by rw[←hg0];simp[sx]
 clear hg0
 have bad:∀(hh:H) (z:Int),S.readE m ls=z→z≠0→∃P,Tup2 (Agg (S.read m ls)) (One (S.readE m ls)) P k hh (.tup [.agg [.int .i64 0,.nils,.nils,.int .i64 0],.int .i64 z]):=fun hh z hz h=>by
  subst hz
  have:S.read m ls=S.zeroK:=by rw[S.read,if_neg h]
  rw[this]
  exact ⟨NoP,_,_,rfl,⟨_,rfl,rp_known.2 ⟨.nils,.nils,rfl,⟨by decide,rfl⟩,⟨by decide,rfl⟩⟩⟩,rp_int.2 rfl⟩
 simp only[f_twin_read_r,sx,sy,SO.run,↓reduceIte,Nat.reduceEqDiff,Nat.reduceAdd,Nat.reduceLeDiff,f0,check_ok (Nat.succ_pos d) (hms _)]
 cases hck:S.check m with
 | false =>
  refine bifP_mk (fun hb=>?_) (fun hb=>by simp at hb)
  simp only[sx,sy,SO.run,↓reduceIte,Nat.reduceEqDiff,Nat.reduceAdd,Nat.reduceLeDiff,f1,reduceCtorEq]
  exact bad _ 330 (by simp[S.readE,hck]) (by decide)
 | true =>
  refine bifP_mk (fun hb=>by simp at hb) (fun hb=>?_)
  obtain ⟨hs,hgr,hn1,hro,hno⟩:=check_facts hck
  simp only[sx,sy,SO.run,↓reduceIte,Nat.reduceEqDiff,Nat.reduceAdd,Nat.reduceLeDiff,(hl .nil).len]
  refine wpL_range hw.1 (fun j t df g=>df=[]∧St t [(1,w'),(2,.hptr 0 0 0 0),(4,.hptr 1 0 0 0),(20,w')]∧g.h.get 0=.cells 3 [[.int .i64 m.grain,a,b]] 0 false false∧g.h.get 1=.cells 4 [[.int .i64 0,.nils,.nils,.int .i64 0]] 0 false false∧2≤g.nx∧(ls.take j).all (S.act m)=true)
   ⟨rfl,by simp[St,sx],f0,f1,f2,rfl⟩ (by simp[sx]) (by simp[sx]) (by decide) (by rintro j t df g v s (rfl | rfl | rfl)<;>simp[St,sx]) ?_ ?_
  ·rintro j t df g hj ⟨rfl,⟨h1,h2,h4,h20,-⟩,hg,hg1,hnx,hwa⟩ h22 h21
   obtain ⟨l,hx,htk,hm⟩:=take_next hj
   obtain ⟨row,q1,q2⟩:=l3 j l hx
   obtain ⟨u,rfl,hu⟩:=rp_list.1 q2
   have hlt:j<lrows.length:=by omega
   have badl:S.act m l=false→S.readE m ls=2:=fun h=>by
    rw[S.readE,if_pos hck,if_neg]
    intro h2
    have:=List.all_eq_true.1 h2 l hm
    rw[h] at this;cases this
   simp only[sx,sy,SO.run,↓reduceIte,Nat.reduceEqDiff,Nat.reduceAdd,Nat.reduceLeDiff,h2,h20,h21,h22,hg,l1,hlt,q1,Option.isSome_some,Option.getD_some,hu.len,hN.len]
   refine bifP_mk (fun hb=>?_) (fun hb=>?_)
   ·simp only[sx,sy,SO.run,↓reduceIte,Nat.reduceEqDiff,Nat.reduceAdd,Nat.reduceLeDiff,h4,hg1]
    exact bad _ 2 (badl (by simp at hb;simp[S.act];intro h;omega)) (by decide)
   ·have hll:l.length=m.nodes.length:=by simp at hb;omega
    simp only[sx,sy,SO.run,↓reduceIte,Nat.reduceEqDiff,hu.len]
    refine wpL_range (m:=l.length) (by have:=hs.nodes;omega) (fun i t df g=>df=[]∧St t [(1,w'),(2,.hptr 0 0 0 0),(4,.hptr 1 0 0 0),(20,w'),(21,.int .i64 ls.length),(22,.int .i64 j),(33,u)]∧g.h.get 0=.cells 3 [[.int .i64 m.grain,a,b]] 0 false false∧g.h.get 1=.cells 4 [[.int .i64 0,.nils,.nils,.int .i64 0]] 0 false false∧2≤g.nx∧(List.range i).all (S.actAt m l)=true)
     ⟨rfl,by simp[St,sx,h1,h2,h4,h20,h21,h22],hg,hg1,hnx,rfl⟩ (by simp[sx]) (by simp[sx]) (by decide) (by rintro j t df g v s (rfl | rfl | rfl)<;>simp[St,sx]) ?_ ?_
    ·rintro i t df g hi ⟨rfl,⟨h1,h2,h4,h20,h21,h22,h33,-⟩,hg,hg1,hnx,hwi⟩ h35 h34
     obtain ⟨y,hy,-,-⟩:=take_next hi
     obtain ⟨x,hxn,-,hmn⟩:=take_next (l:=m.nodes) (j:=i) (by omega)
     obtain ⟨row,q3,q4⟩:=r3 i x hxn
     obtain ⟨fa,fb,fc,rfl,hfa,hfb,hfc⟩:=rp_mech.1 q4
     have hlt2:i<rows.length:=by omega
     have hry:=r4 (by omega)
     have hcd:=hs.card x hmn
     have hca:S.cardAt m (i:Int)=x.card:=by simp[S.cardAt,hxn]
     simp only[sx,sy,SO.run,↓reduceIte,Nat.reduceEqDiff,Nat.reduceAdd,Nat.reduceLeDiff,h2,h33,h34,h35,hg,r1,hlt2,q3,hry,Option.isSome_some,Option.getD_some,(hu.tree (h':=g.h) (Nat.le_refl _)).ints,hi,hy,List.length_map,List.getElem?_map,Option.map_some,ci,
      wrap64 (show -9223372036854775808≤x.card - 1 by omega) (show x.card - 1<9223372036854775808 by omega),within_lit (Nat.succ_pos d)]
     have e0:(g.new (AObj.cells 1 [[AV.int IntKind.i64 y]] 0 false false)).h.get 0=.cells 3 [[.int .i64 m.grain,a,b]] 0 false false:=by rw[G.new_h,get_put_ne _ _ _ (by omega),hg]
     have e1:(g.new (AObj.cells 1 [[AV.int IntKind.i64 y]] 0 false false)).h.get 1=.cells 4 [[.int .i64 0,.nils,.nils,.int .i64 0]] 0 false false:=by rw[G.new_h,get_put_ne _ _ _ (by omega),hg1]
     have e2:2≤(g.new (AObj.cells 1 [[AV.int IntKind.i64 y]] 0 false false)).nx:=by simp;omega
     have hat:S.actAt m l i=(decide (-1≤y)&&decide (y≤x.card - 1)):=by simp[S.actAt,hy,hca]
     rw[←hat]
     generalize g.new (AObj.cells 1 [[AV.int IntKind.i64 y]] 0 false false)=g5 at *
     cases hac:S.actAt m l i with
     | false =>
      simp only[sx,sy,SO.run,↓reduceIte,Nat.reduceEqDiff,Nat.reduceAdd,Nat.reduceLeDiff,Bool.not_false,h4,e1]
      exact bad _ 2 (badl (by rw[S.act,all_range_false hi hac,Bool.and_false])) (by decide)
     | true =>
      simp only[sx,sy,SO.run,↓reduceIte,Nat.reduceEqDiff,Bool.not_true,St,h1,h2,h4,h20,h21,h22,h33,h34,h35,e0,e1]
      refine ⟨e2,?_⟩
      rw[all_range_succ,hwi,hac];rfl
    ·rintro t df g ⟨rfl,⟨h1,h2,h4,h20,h21,h22,h33,-⟩,hg,hg1,hnx,hwi⟩
     simp only[f_twin_read_k1,sx,sy,↓reduceIte,Nat.reduceEqDiff,St,h1,h2,h4,h20,h21,h22,hg,hg1]
     refine ⟨hnx,?_⟩
     rw[htk,List.all_append,hwa]
     simp[S.act,hll]
     rw[←hll]
     exact fun z hz=>List.all_eq_true.1 hwi z (List.mem_range.2 hz)
  ·rintro t df g ⟨rfl,⟨h1,h2,h4,h20,-⟩,hg,hg1,hnx,hwa⟩
   rw[List.take_length] at hwa
   have hE:S.readE m ls=0:=by rw[S.readE,if_pos hck,if_pos hwa]
   have hK:S.read m ls=⟨m,S.hidden m⟩:=by rw[S.read,if_pos hE]
   have hne1:¬(1=g.nx):=by omega
   have hne0:¬(0=g.nx):=by omega
   simp only[f_twin_read_k5,sx,sy,SO.run,↓reduceIte,Nat.reduceEqDiff,Nat.reduceAdd,Nat.reduceLeDiff,h2,hg,hne0,hne1,hR.len]
   refine wpL_range (m:=m.roots.length) (by have:=hs.roots;omega) (fun i t df g'=>df=[]∧St t [(4,.hptr 1 0 0 0),(11,.hptr g.nx 0 0 0),(57,a)]∧g'.h.get 1=.cells 4 [[.int .i64 0,.nils,.nils,.int .i64 0]] 0 false false∧g'.h.get g.nx=.cells 4 [[.int .i64 m.grain,a,b,.int .i64 (S.prod ((m.roots.take i).map fun r=>(r.length:Int)))]] 0 false false∧g'.nx=g.nx+1)
    ⟨rfl,by simp[St,sx,h4],by simp[H.get_put,hne1,hg1],by simp[H.get_put,S.prod],by simp⟩ (by simp[sx]) (by simp[sx]) (by decide) (by rintro j t df g v s (rfl | rfl | rfl)<;>simp[St,sx]) ?_ ?_
   ·rintro i t df g' hi ⟨rfl,⟨h4,h11,h57,-⟩,hg1,hgn,hn'⟩ h59 h58
    obtain ⟨x,hx,htk,hm⟩:=take_next hi
    obtain ⟨row,q1,q2⟩:=p3 i x hx
    obtain ⟨u,rfl,hu⟩:=rp_list.1 q2
    have hlt:i<rrows.length:=by omega
    have b1:=hidden_bound hs i
    have b2:=hs.len x hm
    have b3:=Int.mul_le_mul b1.2 (show (x.length:Int)≤4 by omega) (by omega) (by decide)
    have b4:=Int.mul_nonneg (show 0≤S.prod ((m.roots.take i).map fun r=>(r.length:Int)) by omega) (show (0:Int)≤x.length by omega)
    simp only[sx,sy,SO.run,↓reduceIte,Nat.reduceEqDiff,Nat.reduceAdd,Nat.reduceLeDiff,h4,h11,h57,h58,h59,hgn,p1,hlt,q1,Option.isSome_some,Option.getD_some,hu.len,St,hne1,hg1,hn',
     wrap64 (show -9223372036854775808≤S.prod ((m.roots.take i).map fun r=>(r.length:Int))*(x.length:Int) by omega) (show S.prod ((m.roots.take i).map fun r=>(r.length:Int))*(x.length:Int)<9223372036854775808 by omega)]
    rw[htk,List.map_append,List.map_singleton,prod_snoc]
   ·rintro t df g' ⟨rfl,⟨h4,h11,h57,-⟩,hg1,hgn,hn'⟩
    rw[List.take_length] at hgn
    simp only[f_twin_read_k4,sx,sy,SO.run,↓reduceIte,Nat.reduceEqDiff,Nat.reduceAdd,Nat.reduceLeDiff,h4,h11,hgn,hg1]
    rw[hE,hK]
    exact ⟨NoP,_,_,rfl,⟨_,rfl,rp_known.2 ⟨a,b,rfl,hR.tree (Nat.le_refl _),hN.tree (Nat.le_refl _)⟩⟩,rp_int.2 rfl⟩
end
end Hx
end
section
namespace Hx
open Go
noncomputable section
def S.cards (m:Causal):Int:=S.prod (m.nodes.map (·.card))
def S.fits (m:Causal)(c:Nat):Bool:=decide ((m.roots.length:Int)+(c:Int)*(m.nodes.length:Int)≤8)&&decide (S.hidden m*S.cards m ^ c≤1024)
theorem cards_bound {m:Causal}(hs:S.Small m)(j:Nat):1≤S.prod ((m.nodes.take j).map (·.card))∧S.prod ((m.nodes.take j).map (·.card))≤4 ^ 5:=by
 have:=prod_bound (l:=(m.nodes.take j).map (·.card)) (by
  intro y hy
  obtain ⟨r,hr,rfl⟩:=List.mem_map.1 hy
  exact hs.card r (List.mem_of_mem_take hr))
 exact ⟨this.1,Int.le_trans this.2 (pow4_mono (by have:=hs.nodes;simp;omega))⟩
theorem fits_ok {d k:Nat}{g:G}{P:Nat→Prop}{v:AV}{m:Causal}{c:Nat}(hd:0<d)(hm:Agg (⟨m,S.hidden m⟩:KnownM) P k g.h v)(hck:S.check m=true)(hc:c≤2) :
  callV C0 d N.twin_known_fits [v,.int .i64 (c:Int)] g=.val (.bool (S.fits m c)):=by
 obtain ⟨v',e,cs,rfl,hcs⟩:=arg_of (snb_agg (⟨m,S.hidden m⟩:KnownM)) (by decide) d hm
 obtain ⟨a,b,rfl,hR,hN⟩:=rp_known.1 hcs
 obtain ⟨rows,r1,r2,r3,r4⟩:=hN.all
 have r1:∀h',rowsOf h' 4 b=some rows:=r1
 obtain ⟨hs,hgr,hn1,hro,hno⟩:=check_facts hck
 have hh:1≤S.hidden m∧S.hidden m≤1024:=by
  have:=hidden_bound hs m.roots.length
  rw[List.take_length] at this
  simp only[S.rootsOk,Bool.and_eq_true,decide_eq_true_eq] at hro
  exact ⟨this.1,hro.2⟩
 have hcd:1≤S.cards m∧S.cards m≤1024:=by
  have:=cards_bound hs m.nodes.length
  rw[List.take_length] at this
  exact ⟨this.1,this.2⟩
 have hN:SlR NoP (max k d) .nil m.nodes b:=hN
 have r2:rows.length=m.nodes.length:=r2
 have r3:∀(i:Nat) (x:Mech),m.nodes[i]?=some x→∃row,rows[i]?=some row∧Rp.rp NoP (max k d) .nil x row:=r3
 have r4:0<m.nodes.length→rowy b=true:=r4
 have hR:SlR NoP (max k d) .nil m.roots a:=hR
 rw[call_twin_known_fits]
 refine iso_bool eq_twin_known_fits (xs:=[.agg [.int .i64 m.grain,a,b,.int .i64 (S.hidden m)],.int .i64 c]) (by simp only[mapO,e,arg_int 0]) (by simp[f_twin_known_fits]) hd ?_
 simp only[f_twin_known_fits,sx,sy,SO.run,↓reduceIte,Nat.reduceEqDiff,Nat.reduceAdd]
 generalize hg0:(G.empty.new (AObj.cells 4 [[AV.int IntKind.i64 m.grain,a,b,AV.int IntKind.i64 (S.hidden m)]] 0 false false))=g0
 have f0:g0.h.get 0=.cells 4 [[.int .i64 m.grain,a,b,.int .i64 (S.hidden m)]] 0 false false:=by rw[←hg0];simp[sx]
 have f1:1≤g0.nx:=by rw[←hg0];simp[sx]
 clear hg0
 simp only[f_twin_known_fits_r,sx,sy,SO.run,↓reduceIte,Nat.reduceEqDiff,Nat.reduceAdd,f0]
 refine wpL_range (m:=c) (by omega) (fun j t df g=>df=[]∧St t [(1,.int .i64 c),(2,.hptr 0 0 0 0),(5,.int .i64 (S.hidden m*S.cards m ^ j))]∧g.h.get 0=.cells 4 [[.int .i64 m.grain,a,b,.int .i64 (S.hidden m)]] 0 false false∧1≤g.nx)
  ⟨rfl,by simp[St,sx],f0,f1⟩ (by simp[sx]) (by simp[sx]) (by decide) (by rintro j t df g v s (rfl | rfl | rfl)<;>simp[St,sx]) ?_ ?_
 ·rintro j t df g hj ⟨rfl,⟨h1,h2,h5,-⟩,hg,hnx⟩ h11 h10
  have pj:1≤S.cards m ^ j∧S.cards m ^ j≤1024:=by
   have:j=0∨j=1:=by omega
   rcases this with rfl | rfl
   ·simp
   ·rw[Int.pow_succ,Int.pow_zero,Int.one_mul];exact hcd
  have hb:=Int.mul_le_mul hh.2 pj.2 (by omega) (by decide)
  have hb1:=Int.mul_le_mul hh.1 pj.1 (by decide) (by omega)
  simp only[sx,sy,SO.run,↓reduceIte,Nat.reduceEqDiff,Nat.reduceAdd,h2,hg,hN.len]
  refine wpL_range (m:=m.nodes.length) (by have:=hs.nodes;omega) (fun i t df g=>df=[]∧St t [(1,.int .i64 c),(2,.hptr 0 0 0 0),(10,.int .i64 c),(11,.int .i64 j),(15,b),(5,.int .i64 (S.hidden m*S.cards m ^ j*S.prod ((m.nodes.take i).map (·.card))))]∧g.h.get 0=.cells 4 [[.int .i64 m.grain,a,b,.int .i64 (S.hidden m)]] 0 false false∧1≤g.nx)
   ⟨rfl,by simp[St,sx,h1,h2,h5,h10,h11,S.prod],hg,hnx⟩ (by simp[sx]) (by simp[sx]) (by decide) (by rintro j t df g v s (rfl | rfl | rfl)<;>simp[St,sx]) ?_ ?_
  ·rintro i t df g hi ⟨rfl,⟨h1,h2,h10,h11,h15,h5,-⟩,hg,hnx⟩ h17 h16
   obtain ⟨x,hx,htk,hm⟩:=take_next hi
   obtain ⟨row,q1,q2⟩:=r3 i x hx
   obtain ⟨fa,fb,fc,rfl,hfa,hfb,hfc⟩:=rp_mech.1 q2
   have hlt:i<rows.length:=by omega
   have hry:=r4 (by omega)
   have hne:¬(0=g.nx):=by omega
   have b1:=cards_bound hs i
   have b2:=hs.card x hm
   have b3:=Int.mul_le_mul hb b1.2 (by omega) (by decide)
   have b4:=Int.mul_le_mul b3 b2.2 (by omega) (by decide)
   have b5:=Int.mul_nonneg (Int.mul_nonneg (show 0≤S.hidden m*S.cards m ^ j by omega) (show 0≤S.prod ((m.nodes.take i).map (·.card)) by omega)) (show 0≤x.card by omega)
   simp only[sx,sy,SO.run,↓reduceIte,Nat.reduceEqDiff,Nat.reduceAdd,Nat.reduceLeDiff,h1,h2,h5,h10,h11,h15,h16,h17,hg,r1,hlt,q1,hry,hne,Option.isSome_some,Option.getD_some,St,
    wrap64 (show -9223372036854775808≤S.hidden m*S.cards m ^ j*S.prod ((m.nodes.take i).map (·.card))*x.card by omega) (show S.hidden m*S.cards m ^ j*S.prod ((m.nodes.take i).map (·.card))*x.card<9223372036854775808 by omega)]
   rw[htk,List.map_append,List.map_singleton,prod_snoc,Int.mul_assoc _ (S.prod _)]
  ·rintro t df g ⟨rfl,⟨h1,h2,h10,h11,h15,h5,-⟩,hg,hnx⟩
   rw[List.take_length] at h5
   simp only[f_twin_known_fits_k1,sx,sy,↓reduceIte,Nat.reduceEqDiff,St,h1,h2,h5,h10,h11,hg]
   refine ⟨?_,hnx⟩
   rw[Int.pow_succ,Int.mul_assoc];rfl
 ·rintro t df g ⟨rfl,⟨h1,h2,h5,-⟩,hg,hnx⟩
  have e1:=hs.nodes
  have e2:=hs.roots
  have e3:(c:Int)*(m.nodes.length:Int)≤2*5:=Int.mul_le_mul (by omega) (by omega) (by omega) (by decide)
  have e4:=Int.mul_nonneg (show (0:Int)≤c by omega) (show (0:Int)≤m.nodes.length by omega)
  simp only[f_twin_known_fits_k3,sx,sy,SO.run,↓reduceIte,Nat.reduceEqDiff,Nat.reduceAdd,h1,h2,h5,hg,hR.len,hN.len,
   wrap64 (show -9223372036854775808≤(c:Int)*(m.nodes.length:Int) by omega) (show (c:Int)*(m.nodes.length:Int)<9223372036854775808 by omega),
   wrap64 (show -9223372036854775808≤(m.roots.length:Int)+(c:Int)*(m.nodes.length:Int) by omega) (show (m.roots.length:Int)+(c:Int)*(m.nodes.length:Int)<9223372036854775808 by omega)]
  refine bifP_mk (fun hb=>?_) (fun hb=>?_)
  ·simp only[sx,sy,SO.run,↓reduceIte,Nat.reduceEqDiff,hb,h5]
   rw[S.fits,hb,Bool.true_and]
  ·simp only[sx,sy,SO.run,↓reduceIte,Nat.reduceEqDiff,hb]
   rw[S.fits,hb,Bool.false_and]
def S.rootNode (w:List Int):Node:=⟨w.length,[],[w]⟩
theorem start_ok {d k:Nat}{g:G}{x:KnownM}{v:AV}{K:AV→G→Prop}{D:ADf→Prop}(hm:Agg x NoP k g.h v)(hn:x.m.roots.length≤8)(hl:∀r∈x.m.roots,r.length≤4)
  (kk:∀w g',OwnT g' (g.nx+1) 0 w (x.m.roots.map S.rootNode)→FrW g.nx g g'→K (.agg [.int .i64 x.m.grain,w]) g'):(callV C0 d N.twin_known_start [v] g).sat K g D:=by
 obtain ⟨cs,rfl,hcs⟩:=hm
 obtain ⟨a,b,rfl,hR,hN⟩:=rp_known.1 hcs
 obtain ⟨rows,r1,r2,r3,r4⟩:=hR.all
 have r1:∀h',rowsOf h' 1 a=some rows:=r1
 rw[call_twin_known_start]
 refine dir_run eq_twin_known_start (by simp[f_twin_known_start]) ?_
 simp only[f_twin_known_start,sx,sy,SO.run,↓reduceIte,Nat.reduceEqDiff,Nat.reduceAdd]
 obtain ⟨q,hq⟩:∃q,q=g.nx:=⟨_,rfl⟩
 generalize hg0:(g.new (AObj.cells 4 [[AV.int IntKind.i64 x.m.grain,a,b,AV.int IntKind.i64 x.hidden]] 0 false false)).new (AObj.cells 2 [[AV.int IntKind.i64 0,AV.nils]] 0 false false)=g0
 have f0:g0.h.get q=.cells 4 [[.int .i64 x.m.grain,a,b,.int .i64 x.hidden]] 0 false false:=by rw[←hg0,hq];simp[sx,H.get_put]
 have f1:g0.h.get (q+1)=.cells 2 [[.int .i64 0,.nils]] 0 false false:=by rw[←hg0,hq];simp[sx,H.get_put]
 have f2:g0.nx=q+2:=by rw[←hg0,hq];simp[sx]
 have f3:FrW q g g0:=by rw[←hg0,hq];exact (FrW.new _ (Nat.le_refl _)).trans (FrW.new _ (by simp))
 clear hg0
 simp only[←hq]
 have ne1:¬(q=q+2):=by omega
 have ne2:¬(q+1=q+2):=by omega
 simp only[f_twin_known_start_r,sx,sy,SO.run,↓reduceIte,Nat.reduceEqDiff,Nat.reduceAdd,Nat.reduceLeDiff,f0,f2,hR.len,ne1]
 refine wpL_range (m:=x.m.roots.length) (by omega) (fun j t df g'=>df=[]∧St t [(2,.hptr (q+1) 0 0 0),(3,.hptr (q+2) 0 0 0),(13,a)]∧g'.h.get (q+1)=.cells 2 [[.int .i64 0,.nils]] 0 false false∧q+3≤g'.nx∧FrW q g g' ∧
   ∃w,g'.h.get (q+2)=.cells 2 [[.int .i64 x.m.grain,w]] 0 false false∧OwnT g' (q+3) 0 w ((x.m.roots.take j).map S.rootNode))
  ⟨rfl,by simp[St,sx],by simp[H.get_put,ne2,f1],by simp;omega,(f3.trans (FrW.new _ (by omega))).trans (FrW.put _ _ (by omega)),.nils,by simp[H.get_put],OwnT.nils⟩ (by simp[sx]) (by simp[sx]) (by decide) (by rintro j t df g v s (rfl | rfl | rfl)<;>simp[St,sx]) ?_ ?_
 ·rintro j t df g1 hj ⟨rfl,⟨h2,h3,h13,-⟩,e1,hnx,hfr,w,e2,hw⟩ h15 h14
  obtain ⟨ws,hx,htk,hm⟩:=take_next hj
  obtain ⟨row,q1,q2⟩:=r3 j ws hx
  obtain ⟨u,rfl,hu⟩:=rp_list.1 q2
  have hlt:j<rows.length:=by omega
  simp only[sx,sy,SO.run,↓reduceIte,Nat.reduceEqDiff,Nat.reduceAdd,Nat.reduceLeDiff,h13,h14,h15,r1,hlt,q1,Option.isSome_some,Option.getD_some]
  have hwl:=hl ws hm
  refine append_own (b:=q+3) (rows:=[]) (new:=ws.map ci) (.inr ⟨g1.nx,0,false,hnx,by simp,rfl,by simp[get_put_eq]⟩) (by simpa using (hu.tree (h':=(g1.new (AObj.cells 1 [] 0 false false)).h) (Nat.le_refl _)).ints) (by simp;omega) (by simp[room];omega) fun v2 g2 hv2 n2 fr2 vid2 lg2=>?_
  simp only[G.new_nx,G.new_h,G.new_lg,List.nil_append] at hv2 n2 fr2 vid2 lg2
  have hvid:∀i,vid v2=some i→g1.nx≤i∧i<g2.nx:=fun i hi=>⟨by
   rcases vid2 with h | ⟨j,h,hj⟩
   ·rw[h] at hi;injection hi with hi;omega
   ·rw[h] at hi;injection hi with hi;omega,(hv2.lt hi).2⟩
  have fw1:FrW q g1 g2:=(FrW.new _ (by omega)).trans (FrW.of_app (v:=.hsl g1.nx 0 0 0 none) (fun i hi=>by injection hi with hi;omega) (by simp;omega) (by simp;exact n2) (by simpa using fr2) (fun i hi=>by rcases lg2 i hi with h | h;exact .inl (by simpa using h);exact .inr (by omega)))
  have e2':g2.h.get (q+2)=.cells 2 [[.int .i64 x.m.grain,w]] 0 false false:=by rw[fr2 (q+2) (by omega) (by simp[vid];omega),get_put_ne _ _ _ (by omega),e2]
  have e1':g2.h.get (q+1)=.cells 2 [[.int .i64 0,.nils]] 0 false false:=by rw[fr2 (q+1) (by omega) (by simp[vid];omega),get_put_ne _ _ _ (by omega),e1]
  have hw2:OwnT g2 (q+3) 0 w ((x.m.roots.take j).map S.rootNode):=hw.fr (by omega) fun i hi hi2=>by rw[fr2 i (by omega) (by simp[vid];omega),get_put_ne _ _ _ (by omega)]
  have hv2l:∀g,lenF .slice v2 g=.val (.int .i64 (ws.length:Int)):=fun g=>by rw[len_rows' hv2.rows,List.length_map]
  simp only[sx,sy,SO.run,↓reduceIte,Nat.reduceEqDiff,Nat.reduceAdd,Nat.reduceLeDiff,h3,e2',hv2l,hv2.cell.1,hv2.cell.2]
  have nn:∀i,q+2≠g2.nx+i:=fun i=>by omega
  refine append_ownT (α:=Node) (b:=q+3) (k:=0) (l:=(x.m.roots.take j).map S.rootNode) (y:=S.rootNode ws) (cs:=[.int .i64 ws.length,.hsl g2.nx 0 0 0 none,.hsl (g2.nx+1) 0 0 1 none]) ?_ (by simp[sy,H.get_put,Rp.sz]) ?_ (by simp;omega) (by simp[room];omega) fun v3 g3 hv3 n3 fr3 vid3 lg3=>?_
  ·exact ((hw2.step (Fr.new _ _)).step (Fr.new _ _)).step (Fr.new _ _)
  ·have els:∀i,g1.nx≤i→i<g2.nx+3→Els (((g2.new (AObj.cells 1 [] 0 false false)).new (AObj.cells 1 [[v2]] 0 false false)).new (AObj.cells 3 [[.int .i64 ws.length,.hsl g2.nx 0 0 0 none,.hsl (g2.nx+1) 0 0 1 none]] 0 false false)) (q+3) w i:=fun i hi hi2 =>
    ⟨by omega,by simp;omega,fun e=>by have:=(hw.lt e).2;omega⟩
   refine rp_node.2 ⟨_,_,rfl,⟨by simp[S.rootNode],els _ (by omega) (by omega),[],by simp[sy,H.get_put,Rp.sz,show ¬(g2.nx=g2.nx+1+1) by omega],trivial⟩,⟨by simp[S.rootNode],els _ (by omega) (by omega),[[v2]],by simp[sy,H.get_put,Rp.sz],⟨v2,rfl,?_⟩,trivial⟩⟩
   exact Own.sl (α:=Int) (((hv2.step (Fr.new _ _)).step (Fr.new _ _)).step (Fr.new _ _)) hu.1 (All2.of_map (fun a=>rp_int.2 rfl) ws) fun i hi=>els i (hvid i hi).1 (by have:=(hvid i hi).2;omega)
  ·simp only[G.new_nx,G.new_h,G.new_lg] at n3 fr3 lg3
   have g3e:∀i,i<g2.nx→vid w≠some i→g3.h.get i=g2.h.get i:=fun i hi hne=>by
    rw[fr3 i (by omega) hne,get_put_ne _ _ _ (by omega),get_put_ne _ _ _ (by omega),get_put_ne _ _ _ (by omega)]
   have vw:∀i,vid w=some i→q+3≤i:=fun i hi=>(hw.lt hi).1
   have e2'':g3.h.get (q+2)=.cells 2 [[.int .i64 x.m.grain,w]] 0 false false:=by rw[g3e _ (by omega) (fun e=>by have:=vw _ e;omega),e2']
   have e1'':g3.h.get (q+1)=.cells 2 [[.int .i64 0,.nils]] 0 false false:=by rw[g3e _ (by omega) (fun e=>by have:=vw _ e;omega),e1']
   have fw3:FrW q g2 g3:=((((FrW.new _ (by omega)).trans (FrW.new _ (by simp;omega))).trans (FrW.new _ (by simp;omega)))).trans (FrW.of_app (v:=w) (fun i hi=>by have:=vw i hi;omega) (by simp;omega) (by simpa using n3) (by simpa using fr3) (fun i hi=>by rcases lg3 i hi with h | h;exact .inl (by simpa using h);exact .inr (by omega)))
   simp only[sx,sy,SO.run,↓reduceIte,Nat.reduceEqDiff,Nat.reduceAdd,Nat.reduceLeDiff,h2,h3,h13,h14,h15,e2'',e1'',hv3.cell.1,hv3.cell.2,St,ne2]
   refine ⟨by omega,(hfr.trans fw1).trans (fw3.trans (FrW.put _ _ (by omega))),v3,rfl,?_⟩
   rw[htk,List.map_append,List.map_singleton]
   exact hv3.fr (by simp) fun i hi _=>by rw[G.put_h,get_put_ne _ _ _ (by omega)]
 ·rintro t df g1 ⟨rfl,⟨h2,h3,h13,-⟩,e1,hnx,hfr,w,e2,hw⟩
  rw[List.take_length] at hw
  simp only[f_twin_known_start_k1,sx,sy,SO.run,↓reduceIte,Nat.reduceEqDiff,Nat.reduceAdd,Nat.reduceLeDiff,h2,h3,e2,e1]
  refine kk w _ ?_ ?_
  ·exact (hw.fr (by simp) fun i hi _=>by rw[G.put_h,get_put_ne _ _ _ (by omega)]).base (by omega)
  ·rw[←hq];exact hfr.trans (FrW.put _ _ (by omega))
end
end Hx
end
section
namespace Hx
open Go
def Sub (a s:Nat):Prop:=∀v,a.testBit v=true→s.testBit v=true
theorem isIn_eq (s v:Nat):S.isIn s v=s.testBit v:=by
 rw[Nat.testBit_eq_decide_div_mod_eq,S.isIn,Nat.and_one_is_mod]
 rw[Bool.eq_iff_iff,beq_iff_eq,decide_eq_true_iff]
theorem diff_zero {a s:Nat}:S.diff a s=0↔Sub a s:=by
 constructor
 ·intro h v hv
  have:=congrArg (·.testBit v) h
  simp[S.diff,hv] at this
  exact this
 ·intro h
  refine Nat.eq_of_testBit_eq fun v=>?_
  have:=h v
  simp only[S.diff,Nat.testBit_xor,Nat.testBit_and,Nat.zero_testBit]
  cases ha:a.testBit v
  ·rfl
  ·rw[this ha];rfl
theorem or_tb (a b v:Nat):(a ||| b).testBit v=(a.testBit v || b.testBit v):=Nat.testBit_or a b v
theorem bit_tb {n:Nat}(h:n<64)(v:Nat):(S.bit n).testBit v=decide (n=v):=by rw[bit_eq h,Nat.testBit_two_pow]
section
variable {p:List Nat}
def Par (p:List Nat)(v:Nat):Nat:=p[v]?.getD 0
def Cl (p:List Nat)(s:Nat):Prop:=∀v,v<p.length→s.testBit v=true→Sub (Par p v) s
theorem upRow_sub {s t:Nat}(hc:Cl p t)(h:Sub s t):∀j,j≤p.length→Sub (S.upRow p s j) t
 | 0,_=>h
 | j+1,hj=>by
  have ih:=upRow_sub hc h j (by omega)
  rw[upRow_succ]
  split
  ·rename_i hb
   rw[isIn_eq] at hb
   intro v hv
   rw[or_tb,Bool.or_eq_true] at hv
   rcases hv with hv | hv
   ·exact ih v hv
   ·exact hc j (by omega) (ih j hb) v hv
  ·exact ih
theorem up_sub {s t:Nat}(hc:Cl p t)(h:Sub s t):∀j,Sub (S.up p s j) t
 | 0=>h
 | j+1=>by rw[up_succ];exact upRow_sub hc (up_sub hc h j) _ (Nat.le_refl _)
def Good (p:List Nat)(s:Nat):Prop:=Cl p s∧∀v,v<p.length→s.testBit v=true→(S.up p (Par p v) p.length).testBit v=false
theorem good_round (hn:p.length≤5){s:Nat}(h:Good p s):∀j,j≤p.length→Good p (S.roundA p s j)
 | 0,_=>h
 | j+1,hj=>by
  have ih:=good_round hn h j (by omega)
  rw[roundA_succ]
  split
  ·rename_i hd
   have hd:Sub (Par p j) (S.roundA p s j):=diff_zero.1 hd
   generalize S.roundA p s j=q at *
   refine ⟨fun v hv hb=>?_,fun v hv hb=>?_⟩
   ·intro u hu
    rw[or_tb,bit_tb (by omega),Bool.or_eq_true,decide_eq_true_eq] at hb
    rw[or_tb,Bool.or_eq_true]
    rcases hb with hb | hb
    ·exact .inl (ih.1 v hv hb u hu)
    ·subst hb;exact .inl (hd u hu)
   ·rw[or_tb,bit_tb (by omega),Bool.or_eq_true,decide_eq_true_eq] at hb
    cases hq:q.testBit v
    ·rw[hq] at hb
     simp at hb
     subst hb
     rw[←Bool.not_eq_true]
     intro hu
     have:=up_sub ih.1 hd p.length j hu
     rw[hq] at this;cases this
    ·exact ih.2 v hv hq
  ·exact ih
theorem good_placed (hn:p.length≤5):∀j,Good p (S.placed p j)
 | 0=>⟨fun v _ hb=>by simp[S.placed] at hb,fun v _ hb=>by simp[S.placed] at hb⟩
 | j+1=>by rw[placed_succ];exact good_round hn (good_placed hn j) _ (Nat.le_refl _)
theorem acyc_iff:S.acyc p=true↔∀v,v<p.length→(S.up p (Par p v) p.length).testBit v=false:=by
 unfold S.acyc
 rw[List.all_eq_true]
 constructor
 ·intro h v hv
  have:=h v (List.mem_range.2 hv)
  rw[isIn_eq] at this
  simpa [Par] using this
 ·intro h v hv
  have:=h v (List.mem_range.1 hv)
  rw[isIn_eq]
  simpa [Par] using this
theorem full_tb {n v:Nat}(h:v<n):(2 ^ n - 1).testBit v=true:=by rw[Nat.testBit_two_pow_sub_one];simpa using h
theorem acyc_of_placed (hn:p.length≤5)(h:S.placed p p.length=2 ^ p.length - 1):S.acyc p=true:=by
 rw[acyc_iff]
 intro v hv
 exact (good_placed hn p.length).2 v hv (by rw[h];exact full_tb hv)
def bct (s:Nat):Nat→Nat
 | 0=>0
 | n+1=>bct s n+(if s.testBit n then 1 else 0)
theorem bct_le (s:Nat):∀n,bct s n≤n
 | 0=>Nat.le_refl _
 | n+1=>by have:=bct_le s n;unfold bct;split<;>omega
theorem bct_mono {a s:Nat}(h:Sub a s):∀n,bct a n≤bct s n
 | 0=>Nat.le_refl _
 | n+1=>by
  have:=bct_mono h n
  unfold bct
  split
  ·rename_i hb;rw[if_pos (h n hb)];omega
  ·split<;>omega
theorem bct_lt {a s:Nat}(h:Sub a s){v:Nat}(hv:s.testBit v=true)(ha:a.testBit v=false):∀n,v<n→bct a n<bct s n
 | 0,h0=>by omega
 | n+1,hn=>by
  unfold bct
  by_cases hvn:v=n
  ·subst hvn
   have:=bct_mono h v
   rw[if_pos hv,ha];simp;omega
  ·have:=bct_lt h hv ha n (by omega)
   split
   ·rename_i hb;rw[if_pos (h n hb)];omega
   ·split<;>omega
theorem bct_full {s:Nat}:∀n,bct s n=n→∀v,v<n→s.testBit v=true
 | 0,_,v,h=>by omega
 | n+1,h,v,hv=>by
  unfold bct at h
  have:=bct_le s n
  split at h
  ·rename_i hb
   by_cases e:v=n
   ·subst e;exact hb
   ·exact bct_full n (by omega) v (by omega)
  ·omega
theorem sub_antisymm {a s:Nat}(h:Sub a s)(h':Sub s a):a=s:=Nat.eq_of_testBit_eq fun v=>by
 cases ha:a.testBit v
 ·cases hs:s.testBit v
  ·rfl
  ·rw[h' v hs] at ha;cases ha
 ·rw[h v ha]
theorem sub_le {a s:Nat}(h:Sub a s):a≤s:=by
 have:a ||| s=s:=Nat.eq_of_testBit_eq fun v=>by
  rw[or_tb]
  cases ha:a.testBit v
  ·simp
  ·rw[h v ha];rfl
 rw[←this];exact Nat.left_le_or
theorem roundA_mono (s:Nat):∀j,Sub s (S.roundA p s j)
 | 0=>fun _ h=>h
 | j+1=>by
  have ih:=roundA_mono s j
  rw[roundA_succ]
  split
  ·intro v hv;rw[or_tb,ih v hv];rfl
  ·exact ih
theorem upRow_mono (s:Nat):∀j,Sub s (S.upRow p s j)
 | 0=>fun _ h=>h
 | j+1=>by
  have ih:=upRow_mono s j
  rw[upRow_succ]
  split
  ·intro v hv;rw[or_tb,ih v hv];rfl
  ·exact ih
theorem roundA_step {s:Nat}{j k:Nat}(h:j≤k):Sub (S.roundA p s j) (S.roundA p s k):=by
 induction h with
 | refl=>exact fun _ h=>h
 | step _ ih =>
  rw[roundA_succ]
  split
  ·intro v hv;rw[or_tb,ih v hv];rfl
  ·exact ih
theorem upRow_step {s:Nat}{j k:Nat}(h:j≤k):Sub (S.upRow p s j) (S.upRow p s k):=by
 induction h with
 | refl=>exact fun _ h=>h
 | step _ ih =>
  rw[upRow_succ]
  split
  ·intro v hv;rw[or_tb,ih v hv];rfl
  ·exact ih
theorem stuck_of {s:Nat}(hn:p.length≤5)(h:S.roundA p s p.length=s){v:Nat}(hv:v<p.length)(hb:s.testBit v=false):¬Sub (Par p v) s:=by
 intro hs
 have h1:Sub (Par p v) (S.roundA p s v):=fun u hu=>roundA_mono s v u (hs u hu)
 have h2:(S.roundA p s (v+1)).testBit v=true:=by
  rw[roundA_succ,if_pos (show S.diff (p[v]?.getD 0) (S.roundA p s v)=0 from diff_zero.2 h1),or_tb,bit_tb (by omega)];simp
 have:=roundA_step (p:=p) (s:=s) (show v+1≤p.length by omega) v h2
 rw[h,hb] at this;cases this
theorem closed_of {s:Nat}(h:S.upRow p s p.length=s):Cl p s:=by
 intro v hv hb u hu
 have h1:(S.upRow p s v).testBit v=true:=upRow_mono s v v hb
 have h2:(S.upRow p s (v+1)).testBit u=true:=by
  rw[upRow_succ,isIn_eq,h1,if_pos rfl,or_tb]
  have:(p[v]?.getD 0).testBit u=true:=hu
  rw[this];simp
 have:=upRow_step (p:=p) (s:=s) (show v+1≤p.length by omega) u h2
 rwa [h] at this
theorem tb_lt {s n v:Nat}(h:s<2 ^ n)(hv:s.testBit v=true):v<n:=by
 rcases Nat.lt_or_ge v n with h1 | h1
 ·exact h1
 ·rw[Nat.testBit_lt_two_pow (Nat.lt_of_lt_of_le h (Nat.pow_le_pow_right (by decide) h1))] at hv;cases hv
theorem still {f:Nat→Nat}{n:Nat}(hm:∀j,Sub (f j) (f (j+1)))(hb:∀j,f j<2 ^ n)(hs:∀j,f (j+1)=f j→f (j+2)=f (j+1)):f (n+1)=f n:=by
 have key:∀j,j≤bct (f j) n∨f (j+1)=f j:=by
  intro j
  induction j with
  | zero=>exact .inl (Nat.zero_le _)
  | succ j ih =>
   rcases ih with ih | ih
   ·by_cases e:f (j+1)=f j
    ·exact .inr (hs j e)
    ·left
     have:∃v,(f (j+1)).testBit v=true∧(f j).testBit v=false:=by
      apply Classical.byContradiction
      intro hno
      apply e
      refine sub_antisymm (fun v hv=>?_) (hm j)
      cases hc:(f j).testBit v
      ·exact absurd ⟨v,hv,hc⟩ hno
      ·rfl
     obtain ⟨v,h1,h2⟩:=this
     have:=bct_lt (hm j) h1 h2 n (tb_lt (hb _) h1)
     omega
   ·exact .inr (hs j ih)
 rcases key n with h | h
 ·have hc:bct (f n) n=n:=by have:=bct_le (f n) n;omega
  refine sub_antisymm (fun v hv=>?_) (hm n)
  exact bct_full n hc v (tb_lt (hb _) hv)
 ·exact h
theorem or_lt2 {a b n:Nat}(h:a<2 ^ n)(h':b<2 ^ n):a ||| b<2 ^ n:=Nat.or_lt_two_pow h h'
theorem roundA_lt2 (hn:p.length≤5){s:Nat}(hs:s<2 ^ p.length):∀j,j≤p.length→S.roundA p s j<2 ^ p.length
 | 0,_=>hs
 | j+1,hj=>by
  have ih:=roundA_lt2 hn hs j (by omega)
  rw[roundA_succ]
  split
  ·exact or_lt2 ih (by rw[bit_eq (by omega)];exact Nat.pow_lt_pow_right (by decide) hj)
  ·exact ih
theorem placed_lt2 (hn:p.length≤5):∀j,S.placed p j<2 ^ p.length
 | 0=>Nat.pow_pos (by decide)
 | j+1=>by rw[placed_succ];exact roundA_lt2 hn (placed_lt2 hn j) _ (Nat.le_refl _)
theorem par_lt {v:Nat}(hp:∀x∈p,x<2 ^ p.length):Par p v<2 ^ p.length:=by
 unfold Par
 cases h:p[v]? with
 | none=>exact Nat.pow_pos (by decide)
 | some x=>exact hp x (List.mem_of_getElem? h)
theorem upRow_lt2 (hp:∀x∈p,x<2 ^ p.length){s:Nat}(hs:s<2 ^ p.length):∀j,S.upRow p s j<2 ^ p.length
 | 0=>hs
 | j+1=>by
  have ih:=upRow_lt2 hp hs j
  rw[upRow_succ]
  split
  ·exact or_lt2 ih (par_lt hp)
  ·exact ih
theorem up_lt2 (hp:∀x∈p,x<2 ^ p.length){s:Nat}(hs:s<2 ^ p.length):∀j,S.up p s j<2 ^ p.length
 | 0=>hs
 | j+1=>by rw[up_succ];exact upRow_lt2 hp (up_lt2 hp hs j) _
theorem up_closed (hp:∀x∈p,x<2 ^ p.length){s:Nat}(hs:s<2 ^ p.length):Cl p (S.up p s p.length):=by
 apply closed_of
 rw[←up_succ]
 exact still (f:=fun j=>S.up p s j) (fun j=>by rw[up_succ];exact upRow_mono _ _) (fun j=>up_lt2 hp hs j) (fun j e=>by
  have e:S.up p s (j+1)=S.up p s j:=e
  show S.up p s (j+1+1)=S.up p s (j+1)
  rw[up_succ,e,←up_succ,e])
theorem up_self {s:Nat}:∀j,Sub s (S.up p s j)
 | 0=>fun _ h=>h
 | j+1=>fun v hv=>by rw[up_succ];exact upRow_mono _ _ v (up_self j v hv)
theorem placed_of_acyc (hn:p.length≤5)(hp:∀x∈p,x<2 ^ p.length)(h:S.acyc p=true):S.placed p p.length=2 ^ p.length - 1:=by
 rw[acyc_iff] at h
 have hst:S.roundA p (S.placed p p.length) p.length=S.placed p p.length:=by
  rw[←placed_succ]
  exact still (f:=fun j=>S.placed p j) (fun j=>by rw[placed_succ];exact roundA_mono _ _) (fun j=>placed_lt2 hn j) (fun j e=>by
   have e:S.placed p (j+1)=S.placed p j:=e
   show S.placed p (j+1+1)=S.placed p (j+1)
   rw[placed_succ,e,←placed_succ,e])
 generalize hT:S.placed p p.length=T at hst
 have hTl:T<2 ^ p.length:=by rw[←hT];exact placed_lt2 hn _
 have none:∀r v,v<p.length→T.testBit v=false→S.up p (Par p v) p.length=r→False:=by
  intro r
  induction r using Nat.strongRecOn with
  | _ r ih =>
   intro v hv hb hr
   have hns:=stuck_of hn hst hv hb
   have:∃u,(Par p v).testBit u=true∧T.testBit u=false:=by
    apply Classical.byContradiction
    intro hno
    apply hns
    intro u hu
    cases hc:T.testBit u
    ·exact absurd ⟨u,hu,hc⟩ hno
    ·rfl
   obtain ⟨u,hu,hub⟩:=this
   have hul:u<p.length:=tb_lt (par_lt hp) hu
   have hcl:=up_closed hp (s:=Par p v) (par_lt hp)
   have hin:(S.up p (Par p v) p.length).testBit u=true:=up_self _ u hu
   have hsub:Sub (S.up p (Par p u) p.length) (S.up p (Par p v) p.length):=up_sub hcl (hcl u hul hin) _
   have hlt:S.up p (Par p u) p.length<S.up p (Par p v) p.length:=by
    refine Nat.lt_of_le_of_ne (sub_le hsub) fun e=>?_
    have:=h u hul
    rw[e,hin] at this;cases this
   exact ih _ (by omega) u hul hub rfl
 refine sub_antisymm (fun v hv=>full_tb (tb_lt hTl hv)) fun v hv=>?_
 have hvl:v<p.length:=tb_lt (by have:=Nat.pow_pos (n:=p.length) (show 0<2 by decide);omega) hv
 cases hc:T.testBit v
 ·exact (none _ v hvl hc rfl).elim
 ·rfl
end
end Hx
end
section
namespace Hx
open Go
theorem mask_tb {l:List Int}{n:Nat}(hn:n≤64)(h:∀x∈l,0≤x∧x<n)(v:Nat):(S.mask l).testBit v=l.contains (v:Int):=by
 have:∀(l:List Int) (s:Nat),(∀x∈l,0≤x∧x<n)→(l.foldl (fun s x=>s ||| S.bit x.toNat) s).testBit v=(s.testBit v || l.contains (v:Int)):=by
  intro l
  induction l with
  | nil=>intro s _;simp
  | cons a l ih =>
   intro s h
   obtain ⟨h1,h2⟩:=h a (by simp)
   rw[List.foldl_cons,ih _ (fun x hx=>h x (by simp[hx])),or_tb,bit_tb (by omega)]
   rw[Bool.eq_iff_iff]
   simp only[Bool.or_eq_true,decide_eq_true_eq,List.contains_cons,beq_iff_eq]
   constructor
   ·rintro ((h | h) | h)
    ·exact .inl h
    ·exact .inr (.inl (by omega))
    ·exact .inr (.inr h)
   ·rintro (h | h | h)
    ·exact .inl (.inl h)
    ·exact .inl (.inr (by omega))
    ·exact .inr h
 have:=this l 0 h
 rw[Nat.zero_testBit,Bool.false_or] at this
 exact this
theorem mask_lt2 {l:List Int}{n:Nat}(hn:n≤64)(h:∀x∈l,0≤x∧x<n):S.mask l<2 ^ n:=by
 apply Nat.lt_pow_two_of_testBit
 intro v hv
 rw[mask_tb hn h]
 rw[←Bool.not_eq_true,List.contains_iff_mem]
 intro hm
 have:=(h _ hm).2
 omega
theorem check_right (m:Causal):S.check m=S.right m:=by
 have h0:∀{b c:Bool},(b=true→c=true)→(c=true→b=true)→b=c:=fun h h'=>by
  rename_i b c
  cases b<;>cases c<;>simp_all
 have hpl:(S.pars m).length=m.nodes.length:=by simp[S.pars]
 have plt:m.nodes.length≤5→(∀x∈m.nodes,S.places x.frm m.nodes.length=true)→∀q∈S.pars m,q<2 ^ (S.pars m).length:=fun h5 h q hq=>by
  obtain ⟨x,hx,rfl⟩:=List.mem_map.1 hq
  rw[hpl]
  exact mask_lt2 (by omega) (places_mem (h x hx))
 apply h0
 ·intro h
  simp only[S.check,Bool.and_eq_true,decide_eq_true_eq] at h
  obtain ⟨⟨⟨⟨⟨⟨⟨⟨a1,a2⟩,a3⟩,a4⟩,a5⟩,hro⟩,hc⟩,hno⟩,hac⟩:=h
  simp only[S.rootsOk,Bool.and_eq_true,decide_eq_true_eq] at hro
  have hno':=hno
  simp only[S.nodesOk,Bool.and_eq_true,decide_eq_true_eq] at hno
  have hnode:∀x∈m.nodes,S.places x.frm m.nodes.length=true∧S.places x.noise m.roots.length=true∧(x.out.length:Int)=S.above m x*S.beside m x∧S.within 0 (x.card - 1) x.out=true:=fun x hx=>by
   obtain ⟨i,hi,rfl⟩:=List.mem_iff_getElem.1 hx
   have:=nodesOk_mem hno' (List.getElem?_eq_getElem hi)
   simp only[S.nodeOk,Bool.and_eq_true,decide_eq_true_eq] at this
   exact ⟨this.1.1.1.1,this.1.1.1.2,this.1.2,this.2⟩
  have hcard:∀x∈m.nodes,1≤x.card∧x.card≤4:=fun x hx=>by have:=List.all_eq_true.1 hc x hx;simpa using this
  simp only[S.tacyc,decide_eq_true_eq] at hac
  rw[←hpl] at hac
  have:=acyc_of_placed (by rw[hpl];exact a5) hac
  simp only[S.right,Bool.and_eq_true,decide_eq_true_eq]
  refine ⟨⟨⟨⟨⟨⟨⟨⟨⟨⟨a1,a2⟩,a3⟩,a4⟩,a5⟩,hro.1⟩,?_⟩,hro.2⟩,hno.2⟩,this⟩,?_⟩
  ·rw[List.all_eq_true]
   intro x hx
   obtain ⟨p1,p2,-,-⟩:=hnode x hx
   have:=hcard x hx
   simp[S.nodeR,p1,p2,this]
  ·rw[List.all_eq_true]
   intro x hx
   obtain ⟨-,-,p3,p4⟩:=hnode x hx
   simp[S.outR,p4,prod_sizes,p3]
 ·intro h
  simp only[S.right,Bool.and_eq_true,decide_eq_true_eq] at h
  obtain ⟨⟨⟨⟨⟨⟨⟨⟨⟨⟨a1,a2⟩,a3⟩,a4⟩,a5⟩,hro⟩,hno⟩,hp1⟩,hp2⟩,hac⟩,hou⟩:=h
  have hnode:∀x∈m.nodes,(1≤x.card∧x.card≤4)∧S.places x.frm m.nodes.length=true∧S.places x.noise m.roots.length=true:=fun x hx=>by
   have:=List.all_eq_true.1 hno x hx
   simp only[S.nodeR,Bool.and_eq_true,decide_eq_true_eq] at this
   exact ⟨this.1.1,this.1.2,this.2⟩
  have hout:∀x∈m.nodes,(x.out.length:Int)=S.above m x*S.beside m x∧S.within 0 (x.card - 1) x.out=true:=fun x hx=>by
   have:=List.all_eq_true.1 hou x hx
   simp only[S.outR,Bool.and_eq_true,decide_eq_true_eq,prod_sizes] at this
   exact this
  have hpl2:=placed_of_acyc (by rw[hpl];exact a5) (plt a5 fun x hx=>(hnode x hx).2.1) hac
  have hself:∀(i:Nat) (x:Mech),m.nodes[i]?=some x→x.frm.contains (i:Int)=false:=by
   intro i x hx
   have hi:=(List.getElem?_eq_some_iff.1 hx).1
   have hm:=List.mem_of_getElem? hx
   have h1:=acyc_iff.1 hac i (by rw[hpl];exact hi)
   have hpar:Par (S.pars m) i=S.mask x.frm:=by simp[Par,S.pars,hx]
   rw[hpar] at h1
   rw[←Bool.not_eq_true]
   intro hcn
   rw[←mask_tb (n:=m.nodes.length) (by omega) (places_mem (hnode x hm).2.1)] at hcn
   rw[up_self _ i hcn] at h1;cases h1
  simp only[S.check,Bool.and_eq_true,decide_eq_true_eq]
  refine ⟨⟨⟨⟨⟨⟨⟨⟨a1,a2⟩,a3⟩,a4⟩,a5⟩,?_⟩,?_⟩,?_⟩,?_⟩
  ·simp only[S.rootsOk,Bool.and_eq_true,decide_eq_true_eq];exact ⟨hro,hp1⟩
  ·rw[List.all_eq_true];intro x hx;simpa using (hnode x hx).1
  ·simp only[S.nodesOk,Bool.and_eq_true,decide_eq_true_eq]
   refine ⟨?_,hp2⟩
   rw[List.all_eq_true]
   intro i hi
   have hi:=List.mem_range.1 hi
   rw[List.getElem?_eq_getElem hi]
   have hm:=List.getElem_mem hi
   simp only[Option.map_some,Option.getD_some,S.nodeOk,(hnode _ hm).2.1,(hnode _ hm).2.2,hself i _ (List.getElem?_eq_getElem hi),(hout _ hm).1,(hout _ hm).2,Bool.not_false,decide_true,Bool.and_self]
  ·simp only[S.tacyc,decide_eq_true_eq];rw[←hpl];exact hpl2
end Hx
end
section
namespace Hx
open Go
noncomputable section
def S.wprod (l:List Int):Int:=l.foldl (fun s x=>IntKind.wrap .i64 (s*x)) 1
theorem product_ok {d k:Nat}{g:G}{P:Nat→Prop}{v:AV}{l:List Int}(hd:0<d)(hv:SlR P k g.h l v):callV C0 d N.ref33_product [v] g=.val (.int .i64 (S.wprod l)):=by
 obtain ⟨v',e,r1⟩:=arg_sl hv d
 rw[call_ref33_product]
 refine iso_int eq_ref33_product (xs:=[v']) (by simp only[mapO,e]) (by simp[f_ref33_product]) hd ?_
 simp only[f_ref33_product,sx,sy,SO.run,↓reduceIte,Nat.reduceEqDiff]
 refine wpL_len hv.1 (r1 .nil).len (fun j t df g=>df=[]∧tat t 3=.int .i64 (S.wprod (l.take j))) ⟨rfl,by simp[sx,S.wprod]⟩ (by simp[sx]) (by simp[sx]) (by decide)
  (by rintro j t df g v s (rfl | rfl | rfl | rfl | rfl | rfl | rfl)<;>simp[sx]) ?_ ?_
 ·rintro j t df g hj ⟨rfl,h3⟩ h4 h0
  obtain ⟨x,hx,htk,hm⟩:=take_next hj
  simp only[sx,sy,SO.run,↓reduceIte,Nat.reduceEqDiff,(r1 g.h).ints,h0,h3,h4,hx,hj,Option.isSome_some,Option.getD_some,List.length_map,List.getElem?_map,Option.map_some,ci,htk,S.wprod,List.foldl_append,List.foldl_cons,List.foldl_nil]
 ·rintro t df g ⟨rfl,h3⟩ -
  rw[List.take_length] at h3
  simp only[f_ref33_product_k1,sx,sy,SO.run,↓reduceIte,Nat.reduceEqDiff,h3]
theorem sets_ok {d k k2:Nat}{g:G}{P P2:Nat→Prop}{v w:AV}{l p:List Nat}(hd:0<d)(hv:SlR P k g.h l v)(hw:SlR P2 k2 g.h p w) :
  callV C0 d N.ref05_Sets [v,w] g=.val (.bool (decide (l=p))):=by
 obtain ⟨v',e,r1⟩:=arg_sl hv d
 obtain ⟨w',e2,r2⟩:=arg_sl hw d
 rw[call_ref05_Sets]
 refine iso_bool eq_ref05_Sets (xs:=[v',w']) (by simp only[mapO,e,e2]) (by simp[f_ref05_Sets]) hd ?_
 simp only[f_ref05_Sets,sx,sy,SO.run,↓reduceIte,Nat.reduceEqDiff,(r1 .nil).len,(r2 .nil).len]
 refine bifP_mk (fun hb=>?_) (fun hb=>?_)
 ·simp only[sx,sy,SO.run,↓reduceIte,Nat.reduceEqDiff]
  have:l≠p:=fun e=>by subst e;simp at hb
  simp[this]
 ·have hl:l.length=p.length:=by simp at hb;omega
  simp only[sx,sy,SO.run,↓reduceIte,Nat.reduceEqDiff]
  refine wpL_len hv.1 (r1 .nil).len (fun j t df g=>df=[]∧tat t 1=w'∧l.take j=p.take j) ⟨rfl,by simp[sx],by simp⟩ (by simp[sx]) (by simp[sx]) (by decide)
   (by rintro j t df g v s (rfl | rfl | rfl | rfl | rfl | rfl | rfl)<;>simp[sx]) ?_ ?_
  ·rintro j t df g hj ⟨rfl,h1,ht⟩ h5 h0
   obtain ⟨x,hx,htk,hm⟩:=take_next hj
   obtain ⟨y,hy,htk2,hm2⟩:=take_next (l:=p) (j:=j) (by omega)
   have hj2:j<p.length:=by omega
   simp only[sx,sy,SO.run,↓reduceIte,Nat.reduceEqDiff,(r1 g.h).nats,(r2 g.h).nats,h0,h1,h5,hx,hy,hj,hj2,Option.isSome_some,Option.getD_some,List.length_map,List.getElem?_map,Option.map_some,cu]
   refine bifP_mk (fun hb=>?_) (fun hb=>?_)
   ·simp only[sx,sy,SO.run,↓reduceIte,Nat.reduceEqDiff]
    have:l≠p:=fun e=>by subst e;rw[hx] at hy;injection hy with hy;subst hy;simp at hb
    simp[this]
   ·simp only[sx,sy,SO.run,↓reduceIte,Nat.reduceEqDiff,h0,h1,h5,htk,htk2,ht]
    have:x=y:=by simp at hb;omega
    rw[this]
  ·rintro t df g ⟨rfl,h1,ht⟩ -
   simp only[f_ref05_Sets_k1,sx,sy,SO.run,↓reduceIte,Nat.reduceEqDiff]
   rw[List.take_length,hl,List.take_length] at ht
   simp[ht]
theorem act_ok {d k k2:Nat}{g:G}{P P2:Nat→Prop}{v w:AV}{m:Causal}{l:List Int}(hd:0<d)(hm:Agg m P k g.h v)(hw:SlR P2 k2 g.h l w)(hs:S.Small m) :
  callV C0 d N.ref33_Act [v,w] g=.val (.bool (S.act m l)):=by
 obtain ⟨v',e,cs,rfl,hc⟩:=arg_of (snb_agg m) (by decide) d hm
 obtain ⟨a,b,rfl,hR,hN⟩:=rp_causal.1 hc
 obtain ⟨rows,r1,r2,r3,r4⟩:=hN.all
 have r1:∀h',rowsOf h' 4 b=some rows:=r1
 obtain ⟨w',e2,hu⟩:=arg_sl hw d
 rw[call_ref33_Act]
 refine iso_bool eq_ref33_Act (xs:=[.agg [.int .i64 m.grain,a,b],w']) (by simp only[mapO,e,e2]) (by simp[f_ref33_Act]) hd ?_
 simp only[f_ref33_Act,sx,sy,SO.run,↓reduceIte,Nat.reduceEqDiff,Nat.reduceAdd]
 generalize hg0:(G.empty.new (AObj.cells 3 [[AV.int IntKind.i64 m.grain,a,b]] 0 false false))=g0
 have f0:g0.h.get 0=.cells 3 [[.int .i64 m.grain,a,b]] 0 false false:=by rw[←hg0];simp[sx]
 clear hg0
 simp only[f_ref33_Act_r,sx,sy,SO.run,↓reduceIte,Nat.reduceEqDiff,f0,(hu .nil).len,hN.len]
 refine bifP_mk (fun hb=>?_) (fun hb=>?_)
 ·simp only[sx,sy,SO.run,↓reduceIte,Nat.reduceEqDiff]
  have:S.act m l=false:=by simp at hb;simp[S.act];intro h;omega
  rw[this]
 ·have hl:l.length=m.nodes.length:=by simp at hb;omega
  simp only[sx,sy,SO.run,↓reduceIte,Nat.reduceEqDiff]
  refine wpL_len hw.1 (hu .nil).len (fun j t df g=>df=[]∧g=g0∧tat t 2=.hptr 0 0 0 0∧(List.range j).all (S.actAt m l)=true) ⟨rfl,rfl,by simp[sx],rfl⟩ (by simp[sx]) (by simp[sx]) (by decide)
   (by rintro j t df g v s (rfl | rfl | rfl | rfl | rfl | rfl | rfl)<;>simp[sx]) ?_ ?_
  ·rintro j t df g hj ⟨rfl,rfl,h2,hwi⟩ h5 h1
   obtain ⟨y,hy,-,-⟩:=take_next hj
   obtain ⟨x,hx,-,hm⟩:=take_next (l:=m.nodes) (j:=j) (by omega)
   obtain ⟨row,q1,q2⟩:=r3 j x hx
   obtain ⟨fa,fb,fc,rfl,-⟩:=rp_mech.1 q2
   have hlt:j<rows.length:=by omega
   have hry:=r4 (by omega)
   have hca:S.cardAt m (j:Int)=x.card:=by simp[S.cardAt,hx]
   have hat:S.actAt m l j=(decide (-1≤y)&&decide (y≤x.card - 1)):=by simp[S.actAt,hy,hca]
   have bad:S.actAt m l j=false→S.act m l=false:=fun h=>by rw[S.act,all_range_false hj h,Bool.and_false]
   simp only[sx,sy,SO.run,↓reduceIte,Nat.reduceEqDiff,h1,h2,h5,(hu g.h).ints,hj,hy,Option.isSome_some,Option.getD_some,List.length_map,List.getElem?_map,Option.map_some,ci]
   refine bifP_mk (fun hb=>?_) (fun hb=>?_)
   ·simp only[sx,sy,SO.run,↓reduceIte,Nat.reduceEqDiff,hb]
    rw[bad (by rw[hat];simp at hb ⊢;omega)]
   ·simp only[sx,sy,SO.run,↓reduceIte,Nat.reduceEqDiff,Nat.reduceLeDiff,hb,h1,h2,h5,f0,(hu g.h).ints,hj,hy,r1,hlt,q1,hry,Option.isSome_some,Option.getD_some,List.length_map,List.getElem?_map,Option.map_some,ci]
    refine bifP_mk (fun hc=>?_) (fun hc=>?_)
    ·simp only[sx,sy,SO.run,↓reduceIte,Nat.reduceEqDiff]
     rw[bad (by rw[hat];simp at hb hc ⊢;omega)]
    ·simp only[sx,sy,SO.run,↓reduceIte,Nat.reduceEqDiff,h1,h2,h5]
     rw[all_range_succ,hwi,hat]
     simp at hb hc ⊢;omega
  ·rintro t df g ⟨rfl,rfl,h2,hwi⟩ -
   simp only[f_ref33_Act_k1,sx,sy,SO.run,↓reduceIte,Nat.reduceEqDiff]
   rw[S.act,hwi,hl];simp
theorem refused_ok {d k k2:Nat}{g:G}{P P2:Nat→Prop}{v w:AV}{m:Causal}{ls:List (List Int)}(hd:0<d)(hm:Agg m P k g.h v)(hw:SlR P2 k2 g.h ls w) :
  callV C0 d N.law33_refused [v,w] g=.val (.int .i64 (S.readE m ls)):=by
 obtain ⟨v',e,cs,rfl,hc⟩:=arg_of (snb_agg m) (by decide) d hm
 obtain ⟨a,b,rfl,hR,hN⟩:=rp_causal.1 hc
 have hms:∀g:G,Agg m NoP (max k d) g.h (.agg [.int .i64 m.grain,a,b]):=fun g=>⟨_,rfl,rp_causal.2 ⟨a,b,rfl,hR.tree (Nat.le_refl _),hN.tree (Nat.le_refl _)⟩⟩
 obtain ⟨w',e2,hl⟩:=arg_sl hw d
 obtain ⟨lrows,l1,l2,l3,l4⟩:=(hl .nil).all
 have l1:∀h',rowsOf h' 1 w'=some lrows:=l1
 rw[call_law33_refused]
 refine iso_int eq_law33_refused (xs:=[.agg [.int .i64 m.grain,a,b],w']) (by simp only[mapO,e,e2]) (by simp[f_law33_refused]) hd ?_
 simp only[f_law33_refused,sx,sy,SO.run,↓reduceIte,Nat.reduceEqDiff,Nat.reduceAdd]
 generalize hg0:(G.empty.new (AObj.cells 3 [[AV.int IntKind.i64 m.grain,a,b]] 0 false false))=g0
 have f0:g0.h.get 0=.cells 3 [[.int .i64 m.grain,a,b]] 0 false false:=by rw[←hg0];simp[sx]
 clear hg0
 simp only[f_law33_refused_r,sx,sy,SO.run,↓reduceIte,Nat.reduceEqDiff,Nat.reduceAdd,Nat.reduceLeDiff,f0,right_ok (Nat.succ_pos d) (hms _)]
 rw[←check_right]
 cases hck:S.check m with
 | false =>
  simp only[sx,sy,SO.run,↓reduceIte,Nat.reduceEqDiff,Bool.not_false]
  simp[S.readE,hck]
 | true =>
  obtain ⟨hs,hgr,hn1,hro,hno⟩:=check_facts hck
  simp only[sx,sy,SO.run,↓reduceIte,Nat.reduceEqDiff,Bool.not_true,(hl .nil).len]
  refine wpL_range hw.1 (fun j t df g=>df=[]∧g=g0∧St t [(2,.hptr 0 0 0 0),(10,w')]∧(ls.take j).all (S.act m)=true)
   ⟨rfl,rfl,by simp[St,sx],rfl⟩ (by simp[sx]) (by simp[sx]) (by decide) (by rintro j t df g v s (rfl | rfl | rfl)<;>simp[St,sx]) ?_ ?_
  ·rintro j t df g hj ⟨rfl,rfl,⟨h2,h10,-⟩,hwa⟩ h12 h11
   obtain ⟨l,hx,htk,hm⟩:=take_next hj
   obtain ⟨row,q1,q2⟩:=l3 j l hx
   obtain ⟨u,rfl,hu⟩:=rp_list.1 q2
   have hlt:j<lrows.length:=by omega
   simp only[sx,sy,SO.run,↓reduceIte,Nat.reduceEqDiff,Nat.reduceAdd,Nat.reduceLeDiff,h2,h10,h11,h12,f0,l1,hlt,q1,Option.isSome_some,Option.getD_some,act_ok (Nat.succ_pos d) (hms g) (hu.tree (h':=g.h) (Nat.le_refl _)) hs]
   cases hac:S.act m l with
   | false =>
    simp only[sx,sy,SO.run,↓reduceIte,Nat.reduceEqDiff,Bool.not_false]
    rw[S.readE,if_pos hck,if_neg]
    intro h2
    have:=List.all_eq_true.1 h2 l hm
    rw[hac] at this;cases this
   | true =>
    simp only[sx,sy,SO.run,↓reduceIte,Nat.reduceEqDiff,Bool.not_true,h2,h10,h11,h12,St]
    rw[htk,List.all_append,hwa];simp[hac]
  ·rintro t df g ⟨rfl,rfl,-,hwa⟩
   rw[List.take_length] at hwa
   simp only[f_law33_refused_k1,sx,sy,SO.run,↓reduceIte,Nat.reduceEqDiff]
   simp[S.readE,hck]
   intro x hx
   exact List.all_eq_true.1 hwa x hx
end
end Hx
end
section
namespace Hx
open Go
noncomputable section
theorem meets_none {a b:List Nat}(h:∀i∈a,∀j∈b,i≠j):meets a b=false:=by
 simp only[meets,List.any_eq_false]
 intro i hi hc
 exact h i hi i (List.contains_iff_mem.1 hc) rfl
theorem apart_mk {x y:Foot}(hb:x.lk.big=false)(hb2:y.lk.big=false)(hs:x.lk.sr=[])(hs2:y.lk.sr=[])(h1:∀i∈x.wr,∀j∈y.wr,i≠j)(h2:∀i∈x.wr,∀j∈y.lk.rd,i≠j)(h3:∀i∈y.wr,∀j∈x.lk.rd,i≠j) :
  footsApart x y=true:=by
 have m1:=meets_none h1
 have m2:=meets_none h2
 have m3:=meets_none h3
 have m4:meets y.wr x.wr=false:=meets_none fun i hi j hj e=>h1 j hj i hi e.symm
 have m5:∀l:List Nat,meets l []=false:=fun l=>by simp[meets]
 simp only[footsApart,footFree,footFreeS,hb,hb2,hs,hs2,m1,m2,m3,m4,m5,fst1,List.map_nil,Bool.not_false,Bool.and_self,Bool.and_true,Bool.true_or]
 split<;>split<;>rfl
theorem gen_tg {A:PT}{t:T}{df:List ADf}{g:G}(p:T→G→Prop)(hp:p t g)(h:∀t1 g1,p t1 g1→A t1 df g1):A t df g:=h t g hp
instance : DecidableEq Node:=fun x y=>if h:x.card=y.card∧x.parents=y.parents∧x.rows=y.rows then .isTrue (by cases x;cases y;obtain ⟨h1,h2,h3⟩:=h;dsimp only at h1 h2 h3;subst h1;subst h2;subst h3;rfl) else .isFalse (fun e=>h (by subst e;exact ⟨rfl,rfl,rfl⟩))
instance : DecidableEq Net:=fun x y=>if h:x.grain=y.grain∧x.nodes=y.nodes then .isTrue (by cases x;cases y;obtain ⟨h1,h2⟩:=h;dsimp only at h1 h2;subst h1;subst h2;rfl) else .isFalse (fun e=>h (by subst e;exact ⟨rfl,rfl⟩))
theorem netsame_ok {d k k2:Nat}{g:G}{P P2:Nat→Prop}{v w:AV}{x y:Net}(hd:0<d)(hv:Agg x P k g.h v)(hw:Agg y P2 k2 g.h w) :
  callV C0 d N.ref05_Same [v,w] g=.val (.bool (decide (x=y))):=by
 obtain ⟨v',e,cs,rfl,hcs⟩:=arg_of (snb_agg x) (by decide) d hv
 obtain ⟨w',e2,cs2,rfl,hcs2⟩:=arg_of (snb_agg y) (by decide) d hw
 obtain ⟨a,rfl,hA⟩:=rp_net.1 hcs
 obtain ⟨b,rfl,hB⟩:=rp_net.1 hcs2
 obtain ⟨ra,a1,a2,a3,a4⟩:=hA.all
 obtain ⟨rb,b1,b2,b3,b4⟩:=hB.all
 have a1:∀h',rowsOf h' 3 a=some ra:=a1
 have b1:∀h',rowsOf h' 3 b=some rb:=b1
 have bad:x≠y→AV.bool false=AV.bool (decide (x=y)):=fun h=>by rw[decide_eq_false h]
 rw[call_ref05_Same]
 refine iso_bool eq_ref05_Same (xs:=[.agg [.int .i64 x.grain,a],.agg [.int .i64 y.grain,b]]) (by simp only[mapO,e,e2]) (by simp[f_ref05_Same]) hd ?_
 simp only[f_ref05_Same,sx,sy,SO.run,↓reduceIte,Nat.reduceEqDiff,Nat.reduceAdd]
 generalize hg0:((G.empty.new (AObj.cells 2 [[AV.int IntKind.i64 x.grain,a]] 0 false false)).new (AObj.cells 2 [[AV.int IntKind.i64 y.grain,b]] 0 false false))=g0
 have f0:g0.h.get 0=.cells 2 [[.int .i64 x.grain,a]] 0 false false:=by rw[←hg0];simp[sx,H.get_put]
 have f1:g0.h.get 1=.cells 2 [[.int .i64 y.grain,b]] 0 false false:=by rw[←hg0];simp[sx,H.get_put]
 have f2:2≤g0.nx:=by rw[←hg0];simp[sx]
 clear hg0
 simp only[f_ref05_Same_r,sx,sy,SO.run,↓reduceIte,Nat.reduceEqDiff,Nat.reduceAdd,f0,f1]
 by_cases hgr:x.grain=y.grain
 ·by_cases hln:x.nodes.length=y.nodes.length
  ·simp only[sx,sy,SO.run,↓reduceIte,Nat.reduceEqDiff,Nat.reduceAdd,f0,f1,hgr,hln,hA.len,hB.len,decide_true,decide_false,Bool.not_true,Bool.not_false]
   refine wpL_cnt x.nodes.length hA.1 (fun j t df g=>df=[]∧St t [(2,.hptr 0 0 0 0),(3,.hptr 1 0 0 0)]∧g.h.get 0=.cells 2 [[.int .i64 x.grain,a]] 0 false false∧g.h.get 1=.cells 2 [[.int .i64 y.grain,b]] 0 false false∧2≤g.nx∧x.nodes.take j=y.nodes.take j)
    ⟨rfl,by simp[sx,St],f0,f1,f2,by simp⟩ (by simp[sx]) (by decide) (by rintro j t df g v s (rfl | rfl | rfl)<;>simp[sx,St]) ?_ ?_ ?_
   ·rintro j t df g hj ⟨rfl,⟨h2,h3,-⟩,e0,e1,hnx,hw⟩ h5
    simp only[sx,sy,SO.run,↓reduceIte,Nat.reduceEqDiff,h2,h3,h5,e0,e1,hA.len,St]
    exact ⟨hnx,hw⟩
   ·rintro j t df g hj ⟨rfl,⟨h2,h3,-⟩,e0,e1,hnx,hw⟩ h5
    obtain ⟨u,hu,htk,hm⟩:=take_next hj
    obtain ⟨z,hz,htk2,hm2⟩:=take_next (l:=y.nodes) (j:=j) (by omega)
    obtain ⟨row,q1,q2⟩:=a3 j u hu
    obtain ⟨up,ur,rfl,hup,hur⟩:=rp_node.1 q2
    obtain ⟨row,q3,q4⟩:=b3 j z hz
    obtain ⟨zp,zr,rfl,hzp,hzr⟩:=rp_node.1 q4
    have hlt:j<ra.length:=by omega
    have hlt2:j<rb.length:=by omega
    have hry:=a4 (by omega)
    have hry2:=b4 (by omega)
    have hne:¬(0=g.nx):=by omega
    have hne1:¬(1=g.nx):=by omega
    have hne2:¬(0=g.nx+1):=by omega
    have hne3:¬(1=g.nx+1):=by omega
    have hne4:¬(g.nx=g.nx+2):=by omega
    have hne5:¬(g.nx+2=g.nx):=by omega
    have badn:u≠z→AV.bool false=AV.bool (decide (x=y)):=fun h=>bad fun h2=>h (by
     subst h2;rw[hu] at hz;injection hz)
    simp only[sx,sy,sf,SO.run,↓reduceIte,Nat.reduceEqDiff,Nat.reduceAdd,Nat.reduceLeDiff,h2,h3,h5,e0,e1,a1,b1,hlt,hlt2,q1,q3,hry,hry2,hne,hne1,hne2,hne3,hne4,hne5,Option.isSome_some,Option.getD_some,G.new_lg,G.put_lg,refIds_rptr hry,refIds_rptr hry2,hA.refs,hB.refs]
    refine ⟨?_,?_⟩
    ·simp only[List.reverse_cons,List.reverse_nil,List.nil_append,List.cons_append]
     refine footsOk_mk [false,false,false,false,false,false,false,false,false,false,true,true,true,true] ((List.range 10).map (·,10)++(List.range 11).map (·,11)++[(5,12),(6,12),(7,12),(8,12),(9,12)]) (by simp[All2,rdLook,noLook,bigLook]) (by decide) ?_
     rintro p hp x y hx hy
     have hp:p∈[(0,10),(1,10),(2,10),(3,10),(4,10),(5,10),(6,10),(7,10),(8,10),(9,10),(0,11),(1,11),(2,11),(3,11),(4,11),(5,11),(6,11),(7,11),(8,11),(9,11),(10,11),(5,12),(6,12),(7,12),(8,12),(9,12)]:=hp
     simp only[List.mem_cons,List.not_mem_nil,or_false] at hp
     rcases hp with rfl | rfl | rfl | rfl | rfl | rfl | rfl | rfl | rfl | rfl | rfl | rfl | rfl | rfl | rfl | rfl | rfl | rfl | rfl | rfl | rfl | rfl | rfl | rfl | rfl | rfl<;>(simp at hx hy;subst hx;subst hy;refine apart_mk rfl rfl rfl rfl ?_ ?_ ?_<;>simp[rdLook,noLook,refIds]<;>omega)
    refine gen_tg (A:=bifP _ _ _) (fun t g'=>∃q q',q≠0∧q≠1∧q'≠0∧q'≠1∧q≠q'∧St t [(2,.hptr 0 0 0 0),(3,.hptr 1 0 0 0),(5,.int .i64 j),(6,.hptr q 0 0 0),(7,.hptr q' 0 0 0),(45,.bool (!decide (u.card=z.card)))] ∧
     g'.h.get 0=.cells 2 [[.int .i64 x.grain,a]] 0 false false∧g'.h.get 1=.cells 2 [[.int .i64 y.grain,b]] 0 false false∧g'.h.get q=.cells 3 [[.int .i64 u.card,up,ur]] 0 false false∧g'.h.get q'=.cells 3 [[.int .i64 z.card,zp,zr]] 0 false false∧2≤g'.nx)
     ⟨g.nx+1+1+1+1+1+1+1+1+1+1,g.nx+1+1+1+1+1+1+1+1+1+1+1+1,by omega,by omega,by omega,by omega,by omega,by simp[St,sx,h2,h3,h5],?_,?_,?_,?_,?_⟩ ?_
    ·simp[H.get_put,hne,hne1,e0]
    ·simp[H.get_put,hne,hne1,e1]
    ·simp[H.get_put]
    ·simp[H.get_put]
    ·simp
    clear hne hne1 hne2 hne3 hne4 hne5 hnx e0 e1 h2 h3 h5
    rintro t g ⟨q,q',n1,n2,n3,n4,n5,⟨h2,h3,h5,h6,h7,h45,-⟩,e0,e1,e2,e3,hnx⟩
    have isame:∀(g:G),callV C0 (d+1) N.ref02_Same [up,zp] g=.val (.bool (decide (u.parents=z.parents))):=fun g=>same_ok (Nat.succ_pos d) (hup.tree (h':=g.h) (Nat.le_refl _)) (hzp.tree (h':=g.h) (Nat.le_refl _))
    by_cases hc:u.card=z.card
    ·by_cases hp:u.parents=z.parents
     ·by_cases hr:u.rows.length=z.rows.length
      ·simp only[sx,sy,SO.run,↓reduceIte,Nat.reduceEqDiff,hc,hp,hr,h5,h6,h7,h45,e2,e3,isame,hur.len,hzr.len,decide_true,decide_false,Bool.not_true,Bool.not_false]
       obtain ⟨lu,l1,l2,l3,l4⟩:=hur.all
       obtain ⟨lz,m1,m2,m3,m4⟩:=hzr.all
       have l1:∀h',rowsOf h' 1 ur=some lu:=l1
       have m1:∀h',rowsOf h' 1 zr=some lz:=m1
       refine wpL_cnt u.rows.length hur.1 (fun i t df g=>df=[]∧St t [(2,.hptr 0 0 0 0),(3,.hptr 1 0 0 0),(5,.int .i64 j),(6,.hptr q 0 0 0),(7,.hptr q' 0 0 0)] ∧
        g.h.get 0=.cells 2 [[.int .i64 x.grain,a]] 0 false false∧g.h.get 1=.cells 2 [[.int .i64 y.grain,b]] 0 false false∧g.h.get q=.cells 3 [[.int .i64 u.card,up,ur]] 0 false false∧g.h.get q'=.cells 3 [[.int .i64 z.card,zp,zr]] 0 false false∧2≤g.nx∧u.rows.take i=z.rows.take i)
        ⟨rfl,by simp[sx,St,h2,h3,h5,h6,h7],e0,e1,e2,e3,hnx,by simp⟩ (by simp[sx]) (by decide) (by rintro j t df g v s (rfl | rfl | rfl)<;>simp[sx,St]) ?_ ?_ ?_
       ·rintro i t df g hi ⟨rfl,⟨h2,h3,h5,h6,h7,-⟩,e0,e1,e2,e3,hnx,hw⟩ h8
        simp only[sx,sy,SO.run,↓reduceIte,Nat.reduceEqDiff,h2,h3,h5,h6,h7,h8,e0,e1,e2,e3,hur.len,St]
        exact ⟨hnx,hw⟩
       ·rintro i t df g hi ⟨rfl,⟨h2,h3,h5,h6,h7,-⟩,e0,e1,e2,e3,hnx,hw⟩ h8
        obtain ⟨p,hpi,ptk,pm⟩:=take_next hi
        obtain ⟨r,hri,rtk,rm⟩:=take_next (l:=z.rows) (j:=i) (by omega)
        obtain ⟨row,o1,o2⟩:=l3 i p hpi
        obtain ⟨up',rfl,hup'⟩:=rp_list.1 o2
        obtain ⟨row,o3,o4⟩:=m3 i r hri
        obtain ⟨zp',rfl,hzp'⟩:=rp_list.1 o4
        have hlt3:i<lu.length:=by omega
        have hlt4:i<lz.length:=by omega
        have isame2:∀(g:G),callV C0 (d+1) N.ref02_Same [up',zp'] g=.val (.bool (decide (p=r))):=fun g=>same_ok (Nat.succ_pos d) (hup'.tree (h':=g.h) (Nat.le_refl _)) (hzp'.tree (h':=g.h) (Nat.le_refl _))
        by_cases hpr:p=r
        ·simp only[sx,sy,SO.run,↓reduceIte,Nat.reduceEqDiff,Nat.reduceAdd,Nat.reduceLeDiff,h2,h3,h5,h6,h7,h8,e0,e1,e2,e3,l1,m1,hlt3,hlt4,o1,o3,isame2,decide_eq_true hpr,Option.isSome_some,Option.getD_some,Bool.not_true,St]
         refine ⟨hnx,?_⟩
         rw[ptk,rtk,hw,hpr]
        ·simp only[sx,sy,SO.run,↓reduceIte,Nat.reduceEqDiff,Nat.reduceAdd,Nat.reduceLeDiff,h2,h3,h5,h6,h7,h8,e0,e1,e2,e3,l1,m1,hlt3,hlt4,o1,o3,isame2,decide_eq_false hpr,Option.isSome_some,Option.getD_some,Bool.not_false]
         exact badn fun h=>hpr (by subst h;rw[hpi] at hri;injection hri)
       ·rintro t df g ⟨rfl,⟨h2,h3,h5,h6,h7,-⟩,e0,e1,e2,e3,hnx,hw'⟩
        rw[List.take_length,hr,List.take_length] at hw'
        have huz:u=z:=by cases u;cases z;simp at hc hp hw' ⊢;exact ⟨hc,hp,hw'⟩
        simp only[f_ref05_Same_k1,sx,sy,SO.run,↓reduceIte,Nat.reduceEqDiff,h2,h3,h5,e0,e1,St]
        refine ⟨hnx,?_⟩
        rw[htk,htk2,hw,huz]
      ·have hr':¬((u.rows.length:Int)=z.rows.length):=by omega
       simp only[sx,sy,SO.run,↓reduceIte,Nat.reduceEqDiff,hc,hp,hr',h5,h6,h7,h45,e2,e3,isame,hur.len,hzr.len,decide_true,decide_false,Bool.not_true,Bool.not_false]
       exact badn fun h=>hr (by rw[h])
     ·simp only[sx,sy,SO.run,↓reduceIte,Nat.reduceEqDiff,hc,hp,h5,h6,h7,h45,e2,e3,isame,hur.len,hzr.len,decide_true,decide_false,Bool.not_true,Bool.not_false]
      exact badn fun h=>hp (by rw[h])
    ·simp only[sx,sy,SO.run,↓reduceIte,Nat.reduceEqDiff,hc,h5,h6,h7,h45,e2,e3,isame,hur.len,hzr.len,decide_true,decide_false,Bool.not_true,Bool.not_false]
     exact badn fun h=>hc (by rw[h])
   ·rintro t df g ⟨rfl,-,-,-,-,hw⟩
    rw[List.take_length,hln,List.take_length] at hw
    simp only[f_ref05_Same_k3,sx,sy,SO.run,↓reduceIte,Nat.reduceEqDiff]
    rw[decide_eq_true (show x=y by cases x;cases y;simp at hgr hw ⊢;exact ⟨hgr,hw⟩)]
  ·have hln':¬((x.nodes.length:Int)=y.nodes.length):=by omega
   simp only[sx,sy,SO.run,↓reduceIte,Nat.reduceEqDiff,Nat.reduceAdd,f0,f1,hgr,hln',hA.len,hB.len,decide_true,decide_false,Bool.not_true,Bool.not_false]
   exact bad fun h=>hln (by rw[h])
 ·simp only[sx,sy,SO.run,↓reduceIte,Nat.reduceEqDiff,Nat.reduceAdd,f0,f1,hgr,decide_true,decide_false,Bool.not_true,Bool.not_false]
  exact bad fun h=>hgr (by rw[h])
end
end Hx
end
section
namespace Hx
open Go
noncomputable section
def S.nm (m:Causal)(i:Nat):Nat:=S.mask ((m.nodes[i]?.map (·.noise)).getD [])
def S.linked (m:Causal)(i j:Nat):Bool:=!decide (i=j)&&!decide (S.nm m i &&& S.nm m j=0)
def S.joinRow (m:Causal)(i j:Nat):Nat:=(List.range j).foldl (fun s w=>s ||| if S.linked m i w then S.bit w else 0) 0
def S.joinMat (m:Causal)(i j:Nat):List Nat:=(List.range m.nodes.length).map fun a=>if a<i then S.joinRow m a m.nodes.length else if a=i then S.joinRow m i j else 0
def S.joined (m:Causal):List Nat:=(List.range m.nodes.length).map fun a=>S.joinRow m a m.nodes.length
theorem joinRow_succ (m:Causal)(i j:Nat):S.joinRow m i (j+1)=S.joinRow m i j ||| (if S.linked m i j then S.bit j else 0):=by
 rw[S.joinRow,List.range_succ,List.foldl_append];rfl
theorem joinRow_lt (m:Causal)(i j:Nat):S.joinRow m i j<18446744073709551616:=foldl_or_lt _ (fun a=>by split;exact bit_lt _;decide) _ 0 (by decide)
theorem joinMat_get {m:Causal}{i:Nat}(hi:i<m.nodes.length)(j:Nat):(S.joinMat m i j)[i]?=some (S.joinRow m i j):=by
 simp[S.joinMat,hi]
theorem joinMat_len (m:Causal)(i j:Nat):(S.joinMat m i j).length=m.nodes.length:=by simp[S.joinMat]
theorem joinMat_set {m:Causal}{i:Nat}(j j':Nat):(S.joinMat m i j).set i (S.joinRow m i j')=S.joinMat m i j':=by
 refine List.ext_getElem (by simp[S.joinMat]) fun a h1 h2=>?_
 simp only[List.getElem_set,S.joinMat,List.getElem_map,List.getElem_range]
 by_cases h:i=a
 ·subst h;simp
 ·have h':¬a=i:=fun e=>h e.symm
  rw[if_neg h,if_neg h',if_neg h']
theorem joinMat_next (m:Causal)(i:Nat):S.joinMat m i m.nodes.length=S.joinMat m (i+1) 0:=by
 refine List.ext_getElem (by simp[S.joinMat]) fun a h1 h2=>?_
 simp only[S.joinMat,List.getElem_map,List.getElem_range]
 by_cases h:a<i
 ·rw[if_pos h,if_pos (by omega)]
 ·by_cases h2:a=i
  ·subst h2;rw[if_neg h,if_pos rfl,if_pos (by omega)]
  ·rw[if_neg h,if_neg h2,if_neg (by omega)]
   split<;>rfl
theorem joinMat_start (m:Causal):S.joinMat m 0 0=List.replicate m.nodes.length 0:=by
 refine List.ext_getElem (by simp[S.joinMat]) fun a h1 h2=>?_
 simp only[S.joinMat,List.getElem_map,List.getElem_range,List.getElem_replicate]
 rw[if_neg (by omega)];split<;>rfl
theorem joinMat_end (m:Causal):S.joinMat m m.nodes.length 0=S.joined m:=by
 refine List.ext_getElem (by simp[S.joinMat,S.joined]) fun a h1 h2=>?_
 simp only[S.joinMat,S.joined,List.getElem_map,List.getElem_range]
 rw[if_pos (by simpa [S.joinMat] using h1)]
theorem joined_ok {d k:Nat}{g:G}{P:Nat→Prop}{v:AV}{m:Causal}(hd:0<d)(hm:Agg m P k g.h v)(hn:m.nodes.length≤5)(hp:∀x∈m.nodes,∀y∈x.noise,0≤y∧y<18446744073709551616) :
  ∃r,callV C0 d N.ref33_Joined [v] g=.val r∧UT 0 (S.joined m) r:=by
 obtain ⟨v',e,cs,rfl,hc⟩:=arg_of (snb_agg m) (by decide) d hm
 obtain ⟨a,b,rfl,hR,hN⟩:=rp_causal.1 hc
 have hms:∀g:G,Agg m NoP (max k d) g.h (.agg [.int .i64 m.grain,a,b]):=fun g=>⟨_,rfl,rp_causal.2 ⟨a,b,rfl,hR.tree (Nat.le_refl _),hN.tree (Nat.le_refl _)⟩⟩
 have hnz:∀(g:G) (i:Nat),i<m.nodes.length→callV C0 (d+1) N.ref33_noise [.agg [.int .i64 m.grain,a,b],.int .i64 (i:Int)] g=.val (.int .u64 (S.nm m i:Int)):=fun g i hi=>by
  obtain ⟨x,hx,-,hmm⟩:=take_next hi
  rw[noise_ok (Nat.succ_pos d) (hms g) hx (hp x hmm),S.nm,hx];rfl
 rw[call_ref33_Joined]
 refine iso_run eq_ref33_Joined (xs:=[.agg [.int .i64 m.grain,a,b]]) (by simp only[mapO,e]) (by simp[f_ref33_Joined]) (snb_one _) (by decide) hd ?_
 simp only[f_ref33_Joined,sx,sy,SO.run,↓reduceIte,Nat.reduceEqDiff,Nat.reduceAdd]
 generalize hg0:(G.empty.new (AObj.cells 3 [[AV.int IntKind.i64 m.grain,a,b]] 0 false false))=g0
 have f0:g0.h.get 0=.cells 3 [[.int .i64 m.grain,a,b]] 0 false false:=by rw[←hg0];simp[sx]
 have f1:1≤g0.nx:=by rw[←hg0];simp[sx]
 clear hg0
 simp only[f_ref33_Joined_r,sx,sy,SO.run,↓reduceIte,Nat.reduceEqDiff,Nat.reduceAdd,f0,hN.len]
 refine mks_own (b:=1) (n:=m.nodes.length) (by simp[room];omega) (by simp[room];omega) f1 fun w g1 hw n1 fr1 v1=>?_
 have e0:g1.h.get 0=.cells 3 [[.int .i64 m.grain,a,b]] 0 false false:=by rw[fr1 0 (by omega),f0]
 have hw:Own g1 1 w 1 ((S.joinMat m 0 0).map cu):=by rw[joinMat_start,List.map_replicate];exact hw
 simp only[sx,sy,SO.run,↓reduceIte,Nat.reduceEqDiff]
 refine wpL_cnt m.nodes.length (by omega) (fun i t df g=>df=[]∧St t [(1,.hptr 0 0 0 0),(3,w)]∧g.h.get 0=.cells 3 [[.int .i64 m.grain,a,b]] 0 false false∧1≤g.nx∧Own g 1 w 1 ((S.joinMat m i 0).map cu))
  ⟨rfl,by simp[sx,St],e0,by omega,hw⟩ (by simp[sx]) (by decide) (by rintro j t df g v s (rfl | rfl | rfl)<;>simp[sx,St]) ?_ ?_ ?_
 ·rintro i t df g hi ⟨rfl,⟨h1,h3,-⟩,hg,hnx,hu⟩ h4
  simp only[sx,sy,SO.run,↓reduceIte,Nat.reduceEqDiff,h1,h3,h4,hg,hN.len,St]
  exact ⟨hnx,hu⟩
 ·rintro i t df g hi ⟨rfl,⟨h1,h3,-⟩,hg,hnx,hu⟩ h4
  simp only[sx,sy,SO.run,↓reduceIte,Nat.reduceEqDiff]
  refine wpL_cnt m.nodes.length (by omega) (fun j t df g=>df=[]∧St t [(1,.hptr 0 0 0 0),(3,w),(4,.int .i64 i)]∧g.h.get 0=.cells 3 [[.int .i64 m.grain,a,b]] 0 false false∧1≤g.nx∧Own g 1 w 1 ((S.joinMat m i j).map cu))
   ⟨rfl,by simp[sx,St,h1,h3,h4],hg,hnx,hu⟩ (by simp[sx]) (by decide) (by rintro j t df g v s (rfl | rfl | rfl)<;>simp[sx,St]) ?_ ?_ ?_
  ·rintro j t df g hj ⟨rfl,⟨h1,h3,h4,-⟩,hg,hnx,hu⟩ h5
   simp only[sx,sy,SO.run,↓reduceIte,Nat.reduceEqDiff,h1,h3,h4,h5,hg,hN.len,St]
   exact ⟨hnx,hu⟩
  ·rintro j t df g hj ⟨rfl,⟨h1,h3,h4,-⟩,hg,hnx,hu⟩ h5
   have hlt:i<((S.joinMat m i j).map cu).length:=by rw[List.length_map,joinMat_len];exact hi
   have hrow:((S.joinMat m i j).map cu)[i]?=some (cu (S.joinRow m i j)):=by rw[List.getElem?_map,joinMat_get hi];rfl
   have skip:S.linked m i j=false→S.joinMat m i (j+1)=S.joinMat m i j:=fun h=>by
    rw[←joinMat_set (m:=m) (i:=i) j (j+1),joinRow_succ,h,if_neg (by simp),Nat.or_zero,joinMat_set]
   by_cases hij:i=j
   ·have hij':((i:Nat):Int)=(j:Int):=by omega
    simp only[sx,sy,SO.run,↓reduceIte,Nat.reduceEqDiff,h1,h3,h4,h5,hij',decide_true,Bool.not_true,hg,f_ref33_Joined_k0,St]
    rw[skip (by simp[S.linked,hij])]
    exact ⟨hnx,hu⟩
   ·have hij':¬((i:Nat):Int)=(j:Int):=by omega
    have nmlt:∀i,S.nm m i<18446744073709551616:=fun i=>mask_lt _
    by_cases hz:S.nm m i &&& S.nm m j=0
    ·simp only[sx,sy,SO.run,↓reduceIte,Nat.reduceEqDiff,Nat.reduceAdd,Nat.reduceLeDiff,h1,h3,h4,h5,hij',decide_true,decide_false,Bool.not_true,Bool.not_false,hg,hnz _ _ hi,hnz _ _ hj,bin_and _ _ (nmlt _) (nmlt _),hz,f_ref33_Joined_k0,St,Int.natCast_zero]
     rw[skip (by simp[S.linked,hz])]
     exact ⟨hnx,hu⟩
    ·have hz':¬((S.nm m i &&& S.nm m j:Nat):Int)=0:=by omega
     simp only[sx,sy,SO.run,↓reduceIte,Nat.reduceEqDiff,Nat.reduceAdd,Nat.reduceLeDiff,h1,h3,h4,h5,hij',decide_true,decide_false,Bool.not_true,Bool.not_false,hg,hnz _ _ hi,hnz _ _ hj,bin_and _ _ (nmlt _) (nmlt _),hz',hlt,hu.rows,hrow,Option.isSome_some,Option.getD_some,cu,
      wrapu64 (show (0:Int)≤(j:Int) by omega) (show (j:Int)<18446744073709551616 by omega),bin_one_shl,bin_or _ _ (joinRow_lt _ _ _) (bit_lt _)]
     refine store_own (row:=cu (S.joinRow m i j)) (row':=cu (S.joinRow m i (j+1))) hu hrow rfl rfl (by rw[joinRow_succ,if_pos (by simp[S.linked,hij,hz])];rfl) fun g2 hw2 n2 f2=>?_
     have hvw:vid w≠some 0:=fun e=>by have:=(hu.lt e).1;omega
     simp only[sx,sy,SO.run,↓reduceIte,Nat.reduceEqDiff,h1,h3,h4,h5,f_ref33_Joined_k0,St]
     rw[←List.map_set,joinMat_set] at hw2
     exact ⟨by rw[f2 0 hvw,hg],by omega,hw2⟩
  ·rintro t df g ⟨rfl,⟨h1,h3,h4,-⟩,hg,hnx,hu⟩
   simp only[f_ref33_Joined_k2,sx,sy,SO.run,↓reduceIte,Nat.reduceEqDiff,h1,h3,h4,hg,St]
   rw[←joinMat_next]
   exact ⟨hnx,hu⟩
 ·rintro t df g ⟨rfl,⟨h1,h3,-⟩,hg,hnx,hu⟩
  simp only[f_ref33_Joined_k4,sx,sy,SO.run,↓reduceIte,Nat.reduceEqDiff,h3]
  rw[joinMat_end] at hu
  exact ⟨_,hu.nats (by simp[S.joined];omega) fun x hx=>by
   obtain ⟨y,-,rfl⟩:=List.mem_map.1 hx;exact joinRow_lt _ _ _⟩
end
end Hx
end
section
namespace Hx
open Go
noncomputable section
theorem mks_ownL {g:G}{b sz bytes:Nat}{zero:List AV}{k1 k2:IntKind}{n:Nat}{K:AV→G→Prop}{D:ADf→Prop}(hn:n≤room)(hb:n*bytes≤room)(hg:b≤g.nx)
  (k:∀v' g',Own g' b v' sz (List.replicate n zero)→g'.nx=g.nx+1→(∀i,i<g.nx→g'.h.get i=g.h.get i)→vid v'=some g.nx→g'.lg=g.nx::g.lg→K v' g') :
  (mksV sz bytes zero (.int k1 (n:Int)) (.int k2 (n:Int)) g).sat K g D:=by
 show (match natOf room (.int k2 (.ofNat n)) with
  | some cn=>match natOf cn (.int k1 (.ofNat n)) with
   | some ln=>bif' (Nat.ble (cn*bytes) room) (OR.upd (.hsl g.nx 0 0 ln none) (g.new (.cells sz (repl cn zero) 0 false false))) .fail
   | none=>.fail
  | none=>.fail).sat K g D
 simp only[natOf,bif'_eq,Nat.ble_eq,if_pos hn,Nat.le_refl,if_pos hb,if_true]
 refine k _ _ (.inr ⟨g.nx,0,false,hg,by simp,by simp,by simp[get_put_eq,repl]⟩) (by simp) (fun i hi=>?_) rfl (by simp)
 rw[G.new_h,get_put_ne _ _ _ (by omega)]
def S.graphE (m:Causal):Int:=if S.check m then 0 else 330
def S.gpar (m:Causal):List Nat:=if S.check m then m.nodes.map fun x=>S.mask x.frm else []
def S.gjoin (m:Causal):List Nat:=if S.check m then S.joined m else []
def S.pre (f:Nat→Nat)(n i:Nat):List Nat:=(List.range n).map fun a=>if a<i then f a else 0
theorem pre_get {f:Nat→Nat}{n i:Nat}(hi:i<n):(S.pre f n i)[i]?=some 0:=by simp[S.pre,hi]
theorem pre_len (f:Nat→Nat)(n i:Nat):(S.pre f n i).length=n:=by simp[S.pre]
theorem pre_set (f:Nat→Nat)(n i:Nat):(S.pre f n i).set i (f i)=S.pre f n (i+1):=by
 refine List.ext_getElem (by simp[S.pre]) fun a h1 h2=>?_
 simp only[List.getElem_set,S.pre,List.getElem_map,List.getElem_range]
 by_cases h:i=a
 ·subst h;rw[if_pos rfl,if_pos (by omega)]
 ·rw[if_neg h]
  by_cases h2:a<i
  ·rw[if_pos h2,if_pos (by omega)]
  ·rw[if_neg h2,if_neg (by omega)]
theorem pre_zero (f:Nat→Nat)(n:Nat):S.pre f n 0=List.replicate n 0:=by
 refine List.ext_getElem (by simp[S.pre]) fun a h1 h2=>?_
 simp[S.pre]
theorem pre_end (f:Nat→Nat)(n:Nat):S.pre f n n=(List.range n).map f:=by
 refine List.ext_getElem (by simp[S.pre]) fun a h1 h2=>?_
 simp only[S.pre,List.getElem_map,List.getElem_range]
 rw[if_pos (by simpa [S.pre] using h1)]
def S.pm (m:Causal)(i:Nat):Nat:=S.mask ((m.nodes[i]?.map (·.frm)).getD [])
theorem range_pm (m:Causal):(List.range m.nodes.length).map (S.pm m)=m.nodes.map fun x=>S.mask x.frm:=by
 refine List.ext_getElem (by simp) fun a h1 h2=>?_
 have:a<m.nodes.length:=by simpa using h1
 simp[S.pm,this]
theorem graph_ok {d k:Nat}{g:G}{P:Nat→Prop}{v:AV}{m:Causal}(hd:0<d)(hm:Agg m P k g.h v) :
  ∃r,callV C0 d N.twin_Graph [v] g=.val r∧Tup3 (One (S.gpar m)) (One (S.gjoin m)) (One (S.graphE m)) NoP 0 .nil r:=by
 obtain ⟨v',e,cs,rfl,hc⟩:=arg_of (snb_agg m) (by decide) d hm
 obtain ⟨a,b,rfl,hR,hN⟩:=rp_causal.1 hc
 obtain ⟨rows,r1,r2,r3,r4⟩:=hN.all
 have r1:∀h',rowsOf h' 4 b=some rows:=r1
 have hms:∀g:G,Agg m NoP (max k d) g.h (.agg [.int .i64 m.grain,a,b]):=fun g=>⟨_,rfl,rp_causal.2 ⟨a,b,rfl,hR.tree (Nat.le_refl _),hN.tree (Nat.le_refl _)⟩⟩
 rw[call_twin_Graph]
 refine iso_run eq_twin_Graph (xs:=[.agg [.int .i64 m.grain,a,b]]) (by simp only[mapO,e]) (by simp[f_twin_Graph]) (snb_tup3 (m:=1) (snb_one _) (snb_one _) (snb_one _) (by decide) (by decide) (by decide)) (by decide) hd ?_
 simp only[f_twin_Graph,sx,sy,SO.run,↓reduceIte,Nat.reduceEqDiff,Nat.reduceAdd]
 generalize hg0:(G.empty.new (AObj.cells 3 [[AV.int IntKind.i64 m.grain,a,b]] 0 false false))=g0
 have f0:g0.h.get 0=.cells 3 [[.int .i64 m.grain,a,b]] 0 false false:=by rw[←hg0];simp[sx]
 have f1:1≤g0.nx:=by rw[←hg0];simp[sx]
 clear hg0
 simp only[f_twin_Graph_r,sx,sy,SO.run,↓reduceIte,Nat.reduceEqDiff,Nat.reduceAdd,Nat.reduceLeDiff,f0,check_ok (Nat.succ_pos d) (hms _)]
 cases hck:S.check m with
 | false =>
  refine bifP_mk (fun hb=>?_) (fun hb=>by simp at hb)
  simp only[sx,sy,SO.run,↓reduceIte,Nat.reduceEqDiff,Nat.reduceAdd,Nat.reduceLeDiff,reduceCtorEq]
  refine ⟨NoP,_,_,_,rfl,?_,?_,?_⟩
  ·rw[S.gpar,hck,if_neg (by decide)];exact ⟨_,rfl,by decide,rfl⟩
  ·rw[S.gjoin,hck,if_neg (by decide)];exact ⟨_,rfl,by decide,rfl⟩
  ·rw[S.graphE,hck];exact rp_int.2 rfl
 | true =>
  refine bifP_mk (fun hb=>by simp at hb) (fun hb=>?_)
  obtain ⟨hs,hgr,hn1,hro,hno⟩:=check_facts hck
  have hn5:=hs.nodes
  have hpl:∀x∈m.nodes,S.places x.frm m.nodes.length=true∧S.places x.noise m.roots.length=true:=fun x hx=>by
   have hr:S.right m=true:=by rw[←check_right];exact hck
   simp only[S.right,Bool.and_eq_true] at hr
   have:=List.all_eq_true.1 hr.1.1.1.1.2 x hx
   simp only[S.nodeR,Bool.and_eq_true] at this
   exact ⟨this.1.2,this.2⟩
  simp only[sx,sy,sf,SO.run,↓reduceIte,Nat.reduceEqDiff,Nat.reduceAdd,Nat.reduceLeDiff,f0,hN.len]
  refine mks_ownL (b:=1) (n:=m.nodes.length) (by simp[room];omega) (by simp[room];omega) (by simp) fun w g1 hw n1 fr1 v1 lg1=>?_
  have e0:g1.h.get 0=.cells 3 [[.int .i64 m.grain,a,b]] 0 false false:=by rw[fr1 0 (by simp)];simpa using f0
  simp only[sx,sy,sf,SO.run,↓reduceIte,Nat.reduceEqDiff,Nat.reduceAdd,Nat.reduceLeDiff,e0,hN.len]
  refine mks_ownL (b:=1) (n:=m.nodes.length) (by simp[room];omega) (by simp[room];omega) (by simp) fun w2 g2 hw2 n2 fr2 v2 lg2=>?_
  have e1:g2.h.get 0=.cells 3 [[.int .i64 m.grain,a,b]] 0 false false:=by rw[fr2 0 (by simp)];simpa using e0
  simp only[sx,sy] at n1 n2 v1 v2 lg1 lg2 fr1 fr2
  simp only[sx,sy,sf,SO.run,↓reduceIte,Nat.reduceEqDiff,Nat.reduceAdd,Nat.reduceLeDiff,e1,hN.len,hN.refs]
  refine ⟨?_,?_⟩
  ·simp only[List.reverse_cons,List.reverse_nil,List.nil_append,List.cons_append,lg1,lg2]
   refine footsOk_mk [false,false,false,true,false,false,false,true,false,false] [(3,4),(3,5),(3,6),(3,7),(0,7),(1,7),(2,7),(7,8)] (by simp[All2,rdLook,noLook,bigLook]) (by decide) ?_
   rintro p hp x y hx hy
   simp only[List.mem_cons,List.not_mem_nil,or_false] at hp
   rcases hp with rfl | rfl | rfl | rfl | rfl | rfl | rfl | rfl<;>(simp at hx hy;subst hx;subst hy;refine apart_mk rfl rfl rfl rfl ?_ ?_ ?_<;>simp[rdLook,noLook,refIds]<;>omega)
  refine mks_own (b:=1) (n:=m.nodes.length) (by simp[room];omega) (by simp[room];omega) (by simp) fun w3 g3 hw3 n3 fr3 v3=>?_
  simp only[sx,sy] at n3 fr3 v3
  obtain ⟨q1,hq1⟩:∃q,q=g0.nx+1+1+1:=⟨_,rfl⟩
  have d1:vid w≠vid w2:=by rw[v1,v2];intro h;injection h;omega
  have d2:vid w≠vid w3:=by rw[v1,v3];intro h;injection h;omega
  have d3:vid w2≠vid w3:=by rw[v2,v3];intro h;injection h;omega
  have e2:g3.h.get 0=.cells 3 [[.int .i64 m.grain,a,b]] 0 false false:=by rw[fr3 0 (by omega),e1]
  have hw2:Own g3 1 w2 1 ((S.joinMat m 0 0).map cu):=by
   rw[joinMat_start,List.map_replicate]
   exact hw2.fr (by omega) fun i hi=>by rw[fr3 i (by have:=(hw2.lt hi).2;omega)]
  have hw:Own g3 1 w 1 ((S.pre (S.pm m) m.nodes.length 0).map cu):=by
   rw[pre_zero,List.map_replicate]
   exact hw.fr (by omega) fun i hi=>by have:=(hw.lt hi).2;rw[fr3 i (by omega),fr2 i (by omega)]
  have hw3:Own g3 1 w3 1 ((S.pre (S.nm m) m.nodes.length 0).map cu):=by
   rw[pre_zero,List.map_replicate];exact hw3
  have hnx3:1≤g3.nx:=by omega
  clear fr1 fr2 fr3 lg1 lg2 n1 n2 n3 v1 v2 v3 hq1 q1 e0 e1
  simp only[sx,sy,sf,SO.run,↓reduceIte,Nat.reduceEqDiff,Nat.reduceAdd,Nat.reduceLeDiff,e2,hN.len]
  refine wpL_range (m:=m.nodes.length) (by omega) (fun i t df g=>df=[]∧St t [(2,w),(3,w2),(6,w3),(29,b)]∧1≤g.nx∧Own g 1 w 1 ((S.pre (S.pm m) m.nodes.length i).map cu)∧Own g 1 w2 1 ((S.joinMat m 0 0).map cu)∧Own g 1 w3 1 ((S.pre (S.nm m) m.nodes.length i).map cu))
   ⟨rfl,by simp[St,sx],hnx3,hw,hw2,hw3⟩ (by simp[sx]) (by simp[sx]) (by decide) (by rintro j t df g v s (rfl | rfl | rfl)<;>simp[St,sx]) ?_ ?_
  ·rintro i t df g hi ⟨rfl,⟨h2,h3,h6,h29,-⟩,hnx,u1,u2,u3⟩ h31 h30
   obtain ⟨x,hx,htk,hm⟩:=take_next hi
   obtain ⟨row,z1,z2⟩:=r3 i x hx
   obtain ⟨fa,fb,fc,rfl,hfa,hfb,hfc⟩:=rp_mech.1 z2
   have hlt:i<rows.length:=by omega
   have hry:=r4 (by omega)
   have ia:∀g:G,callV C0 (d+1) N.twin_setOf [fa] g=.val (.int .u64 (S.pm m i:Int)):=fun g=>by
    rw[setOf_ok (Nat.succ_pos d) (hfa.tree (h':=g.h) (Nat.le_refl _)) fun y hy=>(places_mem (hpl x hm).1 y hy).1,S.pm,hx];rfl
   have ib:∀g:G,callV C0 (d+1) N.twin_setOf [fb] g=.val (.int .u64 (S.nm m i:Int)):=fun g=>by
    rw[setOf_ok (Nat.succ_pos d) (hfb.tree (h':=g.h) (Nat.le_refl _)) fun y hy=>(places_mem (hpl x hm).2 y hy).1,S.nm,hx];rfl
   have l1:i<((S.pre (S.pm m) m.nodes.length i).map cu).length:=by rw[List.length_map,pre_len];exact hi
   have l3:i<((S.pre (S.nm m) m.nodes.length i).map cu).length:=by rw[List.length_map,pre_len];exact hi
   have k1:((S.pre (S.pm m) m.nodes.length i).map cu)[i]?=some (cu 0):=by rw[List.getElem?_map,pre_get hi];rfl
   have k3:((S.pre (S.nm m) m.nodes.length i).map cu)[i]?=some (cu 0):=by rw[List.getElem?_map,pre_get hi];rfl
   simp only[sx,sy,SO.run,↓reduceIte,Nat.reduceEqDiff,Nat.reduceAdd,Nat.reduceLeDiff,h2,h3,h6,h29,h30,h31,r1,hlt,z1,hry,Option.isSome_some,Option.getD_some]
   generalize hg1:(g.new (AObj.cells 4 [[AV.int IntKind.i64 0,AV.nils,AV.nils,AV.nils]] 0 false false)).put g.nx (AObj.cells 4 [[AV.int IntKind.i64 x.card,fa,fb,fc]] 0 false false)=g4
   have c0:g4.h.get g.nx=.cells 4 [[.int .i64 x.card,fa,fb,fc]] 0 false false:=by rw[←hg1];simp[H.get_put]
   have c1:g4.nx=g.nx+1:=by rw[←hg1];simp
   have c2:∀i,i<g.nx→g4.h.get i=g.h.get i:=fun i hi=>by rw[←hg1,G.put_h,get_put_ne _ _ _ (by omega),G.new_h,get_put_ne _ _ _ (by omega)]
   have nw1:vid w≠some g.nx:=fun e=>by have:=(u1.lt e).2;omega
   have u1:=u1.fr (g':=g4) (by omega) fun i hi=>c2 i (u1.lt hi).2
   have u2:=u2.fr (g':=g4) (by omega) fun i hi=>c2 i (u2.lt hi).2
   have u3:=u3.fr (g':=g4) (by omega) fun i hi=>c2 i (u3.lt hi).2
   simp only[sx,sy,SO.run,↓reduceIte,Nat.reduceEqDiff,Nat.reduceAdd,Nat.reduceLeDiff,c0,ia,u1.rows,l1,Option.isSome_some,Option.getD_some]
   refine store_own (row:=cu 0) (row':=cu (S.pm m i)) u1 k1 rfl rfl rfl fun g5 x1 n5 fr5=>?_
   rw[←List.map_set,pre_set] at x1
   have c0:g5.h.get g.nx=.cells 4 [[.int .i64 x.card,fa,fb,fc]] 0 false false:=by rw[fr5 _ nw1,c0]
   have u2:=u2.fr (g':=g5) (by omega) fun i hi=>fr5 i (fun h=>d1 (by rw[h,hi]))
   have u3:=u3.fr (g':=g5) (by omega) fun i hi=>fr5 i (fun h=>d2 (by rw[h,hi]))
   simp only[sx,sy,SO.run,↓reduceIte,Nat.reduceEqDiff,Nat.reduceAdd,Nat.reduceLeDiff,h6,c0,ib,u3.rows,l3,Option.isSome_some,Option.getD_some]
   refine store_own (row:=cu 0) (row':=cu (S.nm m i)) u3 k3 rfl rfl rfl fun g6 x3 n6 fr6=>?_
   rw[←List.map_set,pre_set] at x3
   have u2:=u2.fr (g':=g6) (by omega) fun i hi=>fr6 i (fun h=>d3 (by rw[h,hi]))
   have x1:=x1.fr (g':=g6) (by omega) fun i hi=>fr6 i (fun h=>d2 (by rw[h,hi]))
   simp only[sx,sy,SO.run,↓reduceIte,Nat.reduceEqDiff,Nat.reduceAdd,Nat.reduceLeDiff,h2,h3,h6,h29,h30,h31,St]
   exact ⟨by omega,x1,u2,x3⟩
  ·rintro t df g ⟨rfl,⟨h2,h3,h6,h29,-⟩,hnx,u1,u2,u3⟩
   rw[pre_end] at u1 u3
   have lg:∀{j:Nat},j<m.nodes.length→j<(((List.range m.nodes.length).map (S.nm m)).map cu).length∧(((List.range m.nodes.length).map (S.nm m)).map cu)[j]?=some (cu (S.nm m j)):=fun {j} hj=>⟨by simpa using hj,by simp[hj]⟩
   have l3:∀g,lenF .slice w3 g=.val (.int .i64 (m.nodes.length:Int)):=fun g=>by rw[len_rows' u3.rows];simp
   simp only[f_twin_Graph_k6,sx,sy,SO.run,↓reduceIte,Nat.reduceEqDiff,Nat.reduceAdd,Nat.reduceLeDiff,h6,l3]
   refine wpL_range (m:=m.nodes.length) (by omega) (fun i t df g=>df=[]∧St t [(2,w),(3,w2),(6,w3)]∧1≤g.nx∧Own g 1 w 1 (((List.range m.nodes.length).map (S.pm m)).map cu)∧Own g 1 w2 1 ((S.joinMat m i 0).map cu)∧Own g 1 w3 1 (((List.range m.nodes.length).map (S.nm m)).map cu))
    ⟨rfl,by simp[St,sx,h2,h3,h6],hnx,u1,u2,u3⟩ (by simp[sx]) (by simp[sx]) (by decide) (by rintro j t df g v s (rfl | rfl | rfl)<;>simp[St,sx]) ?_ ?_
   ·rintro i t df g hi ⟨rfl,⟨h2,h3,h6,-⟩,hnx,u1,u2,u3⟩ h51 h50
    simp only[sx,sy,SO.run,↓reduceIte,Nat.reduceEqDiff,Nat.reduceAdd,Nat.reduceLeDiff,h51,h6,l3]
    refine wpL_range (m:=m.nodes.length) (by omega) (fun j t df g=>df=[]∧St t [(2,w),(3,w2),(6,w3),(9,.int .i64 i),(50,.int .i64 m.nodes.length),(51,.int .i64 i)]∧1≤g.nx∧Own g 1 w 1 (((List.range m.nodes.length).map (S.pm m)).map cu)∧Own g 1 w2 1 ((S.joinMat m i j).map cu)∧Own g 1 w3 1 (((List.range m.nodes.length).map (S.nm m)).map cu))
     ⟨rfl,by simp[St,sx,h2,h3,h6,h50,h51],hnx,u1,u2,u3⟩ (by simp[sx]) (by simp[sx]) (by decide) (by rintro j t df g v s (rfl | rfl | rfl)<;>simp[St,sx]) ?_ ?_
    ·rintro j t df g hj ⟨rfl,⟨h2,h3,h6,h9,h50,h51,-⟩,hnx,u1,u2,u3⟩ h56 h55
     have hlt:i<((S.joinMat m i j).map cu).length:=by rw[List.length_map,joinMat_len];exact hi
     have hrow:((S.joinMat m i j).map cu)[i]?=some (cu (S.joinRow m i j)):=by rw[List.getElem?_map,joinMat_get hi];rfl
     have skip:S.linked m i j=false→S.joinMat m i (j+1)=S.joinMat m i j:=fun h=>by
      rw[←joinMat_set (m:=m) (i:=i) j (j+1),joinRow_succ,h,if_neg (by simp),Nat.or_zero,joinMat_set]
     have nmlt:∀i,S.nm m i<18446744073709551616:=fun i=>mask_lt _
     by_cases hij:i=j
     ·have hij':((i:Nat):Int)=(j:Int):=by omega
      simp only[sx,sy,SO.run,↓reduceIte,Nat.reduceEqDiff,Nat.reduceAdd,Nat.reduceLeDiff,h2,h3,h6,h9,h50,h51,h55,h56,hij',decide_true,Bool.not_true,St]
      rw[skip (by simp[S.linked,hij])]
      exact ⟨hnx,u1,u2,u3⟩
     ·have hij':¬((i:Nat):Int)=(j:Int):=by omega
      by_cases hz:S.nm m i &&& S.nm m j=0
      ·simp only[sx,sy,SO.run,↓reduceIte,Nat.reduceEqDiff,Nat.reduceAdd,Nat.reduceLeDiff,h2,h3,h6,h9,h50,h51,h55,h56,hij',decide_true,decide_false,Bool.not_true,Bool.not_false,u3.rows,(lg hi).1,(lg hi).2,(lg hj).1,(lg hj).2,cu,Option.isSome_some,Option.getD_some,bin_and _ _ (nmlt _) (nmlt _),hz,St,Int.natCast_zero]
       rw[skip (by simp[S.linked,hz])]
       exact ⟨hnx,u1,u2,u3⟩
      ·have hz':¬((S.nm m i &&& S.nm m j:Nat):Int)=0:=by omega
       simp only[sx,sy,sf,SO.run,↓reduceIte,Nat.reduceEqDiff,Nat.reduceAdd,Nat.reduceLeDiff,h2,h3,h6,h9,h50,h51,h55,h56,hij',decide_true,decide_false,Bool.not_true,Bool.not_false,u3.rows,u2.rows,hlt,hrow,(lg hi).1,(lg hi).2,(lg hj).1,(lg hj).2,cu,Option.isSome_some,Option.getD_some,bin_and _ _ (nmlt _) (nmlt _),hz',bin_one_shl,bin_or _ _ (joinRow_lt _ _ _) (bit_lt _)]
       refine store_own (row:=cu (S.joinRow m i j)) (row':=cu (S.joinRow m i (j+1))) (u2.fr (by simp;omega) (fun _ _=>by simp)) hrow rfl rfl (by rw[joinRow_succ,if_pos (by simp[S.linked,hij,hz])];rfl) fun g2 x2 n2 f2=>?_
       rw[←List.map_set,joinMat_set] at x2
       simp only[sx,sy] at n2 f2
       simp only[sx,sy,sf,SO.run,↓reduceIte,Nat.reduceEqDiff,Nat.reduceAdd,Nat.reduceLeDiff]
       refine ⟨?_,?_⟩
       ·simp only[List.reverse_cons,List.reverse_nil,List.nil_append,List.cons_append]
        exact footsOk_mk [false,false,false,false,false,false,false,false,true] [] (by simp[All2,rdLook,noLook,bigLook]) (by decide) (by simp)
       ·have x1:=u1.fr (g':=g2) (by omega) fun i hi=>f2 i (fun h=>d1 (by rw[h,hi]))
        have x3:=u3.fr (g':=g2) (by omega) fun i hi=>f2 i (fun h=>d3 (by rw[h,hi]))
        simp only[sx,sy,SO.run,↓reduceIte,Nat.reduceEqDiff,h2,h3,h6,h9,h50,h51,h55,h56,St]
        refine ⟨?_,?_,?_⟩
        ·exact x1.fr (by simp) (fun _ _=>by simp)
        ·exact x2.fr (by simp) (fun _ _=>by simp)
        ·exact x3.fr (by simp) (fun _ _=>by simp)
    ·rintro t df g ⟨rfl,⟨h2,h3,h6,h9,h50,h51,-⟩,hnx,u1,u2,u3⟩
     simp only[f_twin_Graph_k3,sx,sy,SO.run,↓reduceIte,Nat.reduceEqDiff,h2,h3,h6,h50,h51,St]
     rw[←joinMat_next]
     exact ⟨hnx,u1,u2,u3⟩
   ·rintro t df g ⟨rfl,⟨h2,h3,h6,-⟩,hnx,u1,u2,u3⟩
    simp only[f_twin_Graph_k5,sx,sy,SO.run,↓reduceIte,Nat.reduceEqDiff,h2,h3]
    rw[joinMat_end] at u2
    rw[range_pm] at u1
    refine ⟨fun _=>True,_,_,_,rfl,?_,?_,?_⟩
    ·rw[S.gpar,if_pos hck]
     exact u1.nats (by simp;omega) fun x hx=>by obtain ⟨y,-,rfl⟩:=List.mem_map.1 hx;exact mask_lt _
    ·rw[S.gjoin,if_pos hck]
     exact u2.nats (by simp[S.joined];omega) fun x hx=>by obtain ⟨y,-,rfl⟩:=List.mem_map.1 hx;exact joinRow_lt _ _ _
    ·rw[S.graphE,if_pos hck];exact rp_int.2 rfl
end
end Hx
end
section
namespace Hx
open Go
noncomputable section
theorem ixa_h (n sz id ep i off:Nat)(k:IntKind){j:Nat}(h:j<n):ixaV n sz (.hptr id ep i off) (.int k (j:Int))=.val (.hptr id ep i (off+j*sz)):=by
 show bif' (Nat.blt j n) (OR.val (.hptr id ep i (off+j*sz))) .fail=_
 rw[bif'_eq,if_pos (by simpa using h)]
def u8v (x:UInt8):AV:=.int .u8 (x.toNat:Int)
theorem snap_u8s (l:List UInt8)(h:H)(d:Nat):snap h d depthA (.agg (l.map u8v))=some (.agg (l.map u8v)):=by
 have:∀l:List UInt8,mapO (Hx.snap h d 23) (l.map u8v)=some (l.map u8v):=fun l=>by
  induction l with
  | nil=>rfl
  | cons x l ih =>
   simp only[List.map_cons,mapO,ih,show Hx.snap h d 23 (u8v x)=some (u8v x) from rfl]
 show (match mapO (Hx.snap h d 23) (l.map u8v) with | some ys=>some (AV.agg ys) | none=>none)=_
 rw[this]
def S.knownOf (vs:List UInt8)(m:Causal):List Int:=(List.range m.nodes.length).map fun j=>if ((vs[j]?.map UInt8.toNat).getD 0:Nat) % 3=0 then (((vs[j]?.map UInt8.toNat).getD 0 / 3:Nat):Int) % ((m.nodes[j]?.map (·.card)).getD 0) else -1
theorem knownOf_ok {d k:Nat}{g:G}{P:Nat→Prop}{w:AV}{m:Causal}{vs:List UInt8}(hd:0<d)(hv:vs.length=5)(hm:Agg m P k g.h w)(hn:m.nodes.length≤5)(hc:∀x∈m.nodes,0<x.card) :
  ∃r,callV C0 d N.ref33_Known_Of [.agg (vs.map u8v),w] g=.val r∧IT 0 (S.knownOf vs m) r:=by
 obtain ⟨v',e,cs,rfl,hcs⟩:=arg_of (snb_agg m) (by decide) d hm
 obtain ⟨a,b,rfl,hR,hN⟩:=rp_causal.1 hcs
 obtain ⟨rows,r1,r2,r3,r4⟩:=hN.all
 have r1:∀h',rowsOf h' 4 b=some rows:=r1
 rw[call_ref33_Known_Of]
 obtain ⟨L,hLd⟩:∃L,L=S.knownOf vs m:=⟨_,rfl⟩
 rw[←hLd]
 have Ll:L.length=m.nodes.length:=by rw[hLd];simp[S.knownOf]
 have Lget:∀{j:Nat},j<m.nodes.length→L.take (j+1)=L.take j++[if ((vs[j]?.map UInt8.toNat).getD 0:Nat) % 3=0 then (((vs[j]?.map UInt8.toNat).getD 0 / 3:Nat):Int) % ((m.nodes[j]?.map (·.card)).getD 0) else -1]:=fun {j} hj=>by
  rw[List.take_add_one];congr 1;rw[hLd];simp only[S.knownOf,List.getElem?_map,List.getElem?_range hj,Option.map_some,Option.toList_some]
 refine iso_run eq_ref33_Known_Of (xs:=[.agg (vs.map u8v),.agg [.int .i64 m.grain,a,b]]) (by simp only[mapO,e,snap_u8s]) (by simp[f_ref33_Known_Of]) (snb_one _) (by decide) hd ?_
 obtain ⟨cu8,hcu⟩:∃c,c=vs.map u8v:=⟨_,rfl⟩
 have hcl:cu8.length=5:=by rw[hcu,List.length_map,hv]
 simp only[f_ref33_Known_Of,sx,sy,SO.run,↓reduceIte,Nat.reduceEqDiff,Nat.reduceAdd,←hcu]
 generalize hg0:((G.empty.new (AObj.cells cu8.length [cu8] 0 false false)).new (AObj.cells 3 [[AV.int IntKind.i64 m.grain,a,b]] 0 false false))=g0
 have f0:g0.h.get 0=.cells 5 [cu8] 0 false false:=by rw[←hg0,hcl];simp[sx,H.get_put]
 have f1:g0.h.get 1=.cells 3 [[.int .i64 m.grain,a,b]] 0 false false:=by rw[←hg0];simp[sx,H.get_put]
 have f2:2≤g0.nx:=by rw[←hg0];simp[sx]
 clear hg0
 simp only[f_ref33_Known_Of_r,sx,sy,SO.run,↓reduceIte,Nat.reduceEqDiff,Nat.reduceAdd]
 refine wpL_cnt m.nodes.length (by omega) (fun j t df g=>df=[]∧St t [(2,.hptr 0 0 0 0),(3,.hptr 1 0 0 0)]∧g.h.get 0=.cells 5 [cu8] 0 false false∧g.h.get 1=.cells 3 [[.int .i64 m.grain,a,b]] 0 false false∧2≤g.nx∧∃u,tat t 5=u∧Own g 2 u 1 ((L.take j).map ci))
  ⟨rfl,by simp[sx,St],f0,f1,f2,_,rfl,.inl ⟨by simp[sx],rfl⟩⟩ (by simp[sx]) (by decide) (by rintro j t df g v s (rfl | rfl | rfl)<;>simp[sx,St]) ?_ ?_ ?_
 ·rintro j t df g hj ⟨rfl,⟨h2,h3,-⟩,e0,e1,hnx,u,h5,hu⟩ h6
  simp only[sx,sy,SO.run,↓reduceIte,Nat.reduceEqDiff,h2,h3,h6,e0,e1,hN.len,St]
  exact ⟨hnx,u,h5,hu⟩
 ·rintro j t df g hj ⟨rfl,⟨h2,h3,-⟩,e0,e1,hnx,u,h5,hu⟩ h6
  obtain ⟨x,hx,htk,hm⟩:=take_next hj
  obtain ⟨row,z1,z2⟩:=r3 j x hx
  obtain ⟨fa,fb,fc,rfl,-⟩:=rp_mech.1 z2
  have hlt:j<rows.length:=by omega
  have hry:=r4 (by omega)
  have hj5:j<5:=by omega
  obtain ⟨y,hy⟩:∃y,vs[j]?=some y:=⟨_,List.getElem?_eq_getElem (by omega)⟩
  have hcy:cu8[j]?=some (.int .u8 (y.toNat:Int)):=by rw[hcu,List.getElem?_map,hy];rfl
  have hy8:y.toNat<256:=y.toNat_lt
  have hL:=Lget hj
  rw[hy,hx] at hL
  simp only[Option.map_some,Option.getD_some] at hL
  have hcx:=hc x hm
  simp only[sx,sy,SO.run,↓reduceIte,Nat.reduceEqDiff,Nat.reduceAdd,h2,h3,h6,e0,ixa_h 5 1 _ _ _ _ _ hj5,Nat.mul_one,Nat.zero_add,hcy,bin_rem .u8 (show (0:Int)≤(y.toNat:Int) by omega) (show (0:Int)<3 by decide)]
  have w8:IntKind.wrap .u8 ((y.toNat:Int) / 3)=(y.toNat:Int) / 3:=wrapu8 (by omega) (by omega)
  refine bifP_mk (fun hb=>?_) (fun hb=>?_)
  ·have hz:y.toNat % 3=0:=by simp at hb;omega
   rw[if_pos hz] at hL
   simp only[sx,sy,SO.run,↓reduceIte,Nat.reduceEqDiff,Nat.reduceAdd,Nat.reduceLeDiff,h2,h3,h5,h6,e0,e1,ixa_h 5 1 _ _ _ _ _ hj5,Nat.mul_one,Nat.zero_add,hcy,bin_quo .u8 (show (0:Int)≤(y.toNat:Int) by omega) (show (0:Int)<3 by decide),w8,wrap64 (show -9223372036854775808≤(y.toNat:Int) / 3 by omega) (show (y.toNat:Int) / 3<9223372036854775808 by omega),r1,hlt,z1,hry,Option.isSome_some,Option.getD_some,bin_rem .i64 (show 0≤(y.toNat:Int) / 3 by omega) hcx,f_ref33_Known_Of_k0]
   refine append_own (new:=[ci ((y.toNat:Int) / 3 % x.card)]) (hu.step (Fr.new _ _)) (by simp[sx,sy,ci]) (by simp[Ll];omega) (by simp[room,Ll];omega) fun v2 g2 hv2 n2 f2 _ l2=>?_
   simp only[f_ref33_Known_Of_k1,sx,sy,SO.run,↓reduceIte,Nat.reduceEqDiff,h2,h3,h6,St]
   refine ⟨?_,?_,?_,_,rfl,?_⟩
   ·rw[f2 0 (by simp) (fun e=>by have:=(hu.lt e).1;omega),G.new_h,get_put_ne _ _ _ (by omega),e0]
   ·rw[f2 1 (by simp;omega) (fun e=>by have:=(hu.lt e).1;omega),G.new_h,get_put_ne _ _ _ (by omega),e1]
   ·simp at n2;omega
   ·rw[hL]
    simpa [ci] using hv2
  ·have hz:¬y.toNat % 3=0:=by simp at hb;omega
   rw[if_neg hz] at hL
   simp only[sx,sy,SO.run,↓reduceIte,Nat.reduceEqDiff,h5,f_ref33_Known_Of_k0]
   refine append_own (new:=[ci (-1)]) (hu.step (Fr.new _ _)) (by simp[sx,sy,ci]) (by simp[Ll];omega) (by simp[room,Ll];omega) fun v2 g2 hv2 n2 f2 _ l2=>?_
   simp only[f_ref33_Known_Of_k1,sx,sy,SO.run,↓reduceIte,Nat.reduceEqDiff,h2,h3,h6,St]
   refine ⟨?_,?_,?_,_,rfl,?_⟩
   ·rw[f2 0 (by simp) (fun e=>by have:=(hu.lt e).1;omega),G.new_h,get_put_ne _ _ _ (by omega),e0]
   ·rw[f2 1 (by simp;omega) (fun e=>by have:=(hu.lt e).1;omega),G.new_h,get_put_ne _ _ _ (by omega),e1]
   ·simp at n2;omega
   ·rw[hL]
    simpa [ci] using hv2
 ·rintro t df g ⟨rfl,⟨h2,h3,-⟩,e0,e1,hnx,u,h5,hu⟩
  rw[List.take_of_length_le (by simp[Ll])] at hu
  simp only[f_ref33_Known_Of_k3,sx,sy,SO.run,↓reduceIte,Nat.reduceEqDiff,h5]
  exact ⟨_,hu.ints (by simp[Ll];omega)⟩
end
end Hx
end
section
namespace Hx
open Go
noncomputable section
def Raw (w:AV):Prop:=w=.nils∨∃rows,w=.tsl 0 1 rows
theorem slc_hi {w:AV}{l:List Int}(hw:SlR NoP 0 .nil l w)(hr:Raw w)(c:Nat) :
  ∃w',(∀g,slcV 1 w none (some (.int .i64 (min (l.length:Int) (c:Int)))) g=.val w')∧SlR NoP 0 .nil (l.take c) w':=by
 have hm:min (l.length:Int) (c:Int)=((min l.length c:Nat):Int):=by omega
 rw[hm]
 have hlt:(l.take c).length<9223372036854775808:=by have:=hw.1;rw[List.length_take];omega
 rcases hr with rfl | ⟨rows,rfl⟩
 ·have hl:l=[]:=hw.2
  subst hl
  refine ⟨.nils,fun g=>?_,hlt,by simp[SlV]⟩
  have:min ([]:List Int).length c=0:=by simp
  rw[this];rfl
 ·obtain ⟨h0,h1,h2⟩:=(show 0≤0∧(1=Rp.sz Int∨rows=[])∧All2 (Rp.rp NoP 0 .nil) l rows from hw.2)
  have hlen:=h2.len
  refine ⟨.tsl 0 1 (rows.take (min l.length c)),fun g=>?_,hlt,?_⟩
  ·show orV (match boundOf (lenR rows) (lenR rows) (some (.int .i64 (.ofNat (min l.length c)))) with
    | none=>none
    | some h=>match boundOf 0 h none with
     | none=>none
     | some l=>bif' (Nat.beq 1 1) (some (.tsl 0 1 (takeR (h - l) (dropR l rows)))) none)=_
   have:boundOf (lenR rows) (lenR rows) (some (.int .i64 (.ofNat (min l.length c))))=some (min l.length c):=by
    show bif' (Nat.ble (min l.length c) (lenR rows)) (some (min l.length c)) none=_
    rw[bif'_eq,if_pos]
    rw[lenR_eq,←hlen];simp;omega
   rw[this]
   show orV (bif' (Nat.beq 1 1) (some (AV.tsl 0 1 (takeR (min l.length c - 0) (dropR 0 rows)))) none)=_
   rw[show Nat.beq 1 1=true from rfl,bif'_true,takeR_eq,dropR_eq,List.drop_zero,Nat.sub_zero];rfl
  ·refine ⟨Nat.le_refl _,h1.elim .inl (fun h=>.inr (by rw[h];simp)),?_⟩
   have:=h2.take (min l.length c)
   rwa [show l.take (min l.length c)=l.take c by rw[Nat.min_comm,←List.take_take,List.take_length]] at this
theorem lists_ok {d:Nat}{g:G}{P:Nat→Prop}{k:Nat}{v w:AV}{m:Causal}{raw:List Int}{vs:List UInt8}(hd:0<d)(hm:Agg m P k g.h v)(hw:SlR NoP 0 .nil raw w)(hr:Raw w)
  (hv:vs.length=5) (hn:m.nodes.length≤5) (hc:∀x∈m.nodes,0<x.card) :
  ∃r,callV C0 d N.law33_lists [v,w,.agg (vs.map u8v)] g=.val r∧Agg ((raw.take 7,S.knownOf vs m):List Int×List Int) NoP 0 .nil r:=by
 obtain ⟨v',e,cs,rfl,hcs⟩:=arg_of (snb_agg m) (by decide) d hm
 obtain ⟨a,b,rfl,hR,hN⟩:=rp_causal.1 hcs
 have hms:∀g:G,Agg m NoP (max k d) g.h (.agg [.int .i64 m.grain,a,b]):=fun g=>⟨_,rfl,rp_causal.2 ⟨a,b,rfl,hR.tree (Nat.le_refl _),hN.tree (Nat.le_refl _)⟩⟩
 have e2:=sl_same d (hw.tree (k':=0) (h':=g.h) (Nat.le_refl _))
 rw[call_law33_lists]
 refine iso_run eq_law33_lists (xs:=[.agg [.int .i64 m.grain,a,b],w,.agg (vs.map u8v)]) (by simp only[mapO,e,e2,snap_u8s]) (by simp[f_law33_lists]) (snb_agg _) (by decide) hd ?_
 obtain ⟨cu8,hcu⟩:∃c,c=vs.map u8v:=⟨_,rfl⟩
 have hcl:cu8.length=5:=by rw[hcu,List.length_map,hv]
 simp only[f_law33_lists,sx,sy,SO.run,↓reduceIte,Nat.reduceEqDiff,Nat.reduceAdd,←hcu]
 generalize hg0:(((G.empty.new (AObj.cells 3 [[AV.int IntKind.i64 m.grain,a,b]] 0 false false)).new (AObj.cells cu8.length [cu8] 0 false false)).new (AObj.cells 2 [[AV.nils,AV.nils]] 0 false false))=g0
 have f0:g0.h.get 0=.cells 3 [[.int .i64 m.grain,a,b]] 0 false false:=by rw[←hg0];simp[sx,H.get_put]
 have f1:g0.h.get 1=.cells 5 [cu8] 0 false false:=by rw[←hg0,hcl];simp[sx,H.get_put]
 have f2:g0.h.get 2=.cells 2 [[.nils,.nils]] 0 false false:=by rw[←hg0];simp[sx,H.get_put]
 clear hg0
 obtain ⟨w',hslc,hw2⟩:=slc_hi hw hr 7
 have hslc:∀g:G,slcV 1 w none (some (.int .i64 (min (raw.length:Int) 7))) g=.val w':=hslc
 have hpa:getPart true 5 cu8 0=some (.agg cu8):=by rw[part_agg (by omega),List.drop_zero,List.take_of_length_le (by omega)]
 simp only[f_law33_lists_r,sx,sy,sf,SO.run,↓reduceIte,Nat.reduceEqDiff,Nat.reduceAdd,Nat.reduceLeDiff,hw.len,f0,f1,f2,List.head?_nil,List.head?_cons,hslc,hpa]
 refine sat_ex (hcu ▸ knownOf_ok (Nat.succ_pos d) hv (hms _) hn hc) fun r hr=>?_
 have sc:∀{l:List Int} {v:AV},SlR NoP 0 .nil l v→v.cells=[v]∧v.isTup=false:=fun {l v} h=>by
  have:=h.2;unfold SlV at this
  split at this<;>first | exact ⟨rfl,rfl⟩ | exact this.elim
 obtain ⟨w1,w2⟩:=sc hw2
 obtain ⟨r1,r2⟩:=sc (hr.sl .nil)
 simp only[sx,sy,sf,SO.run,↓reduceIte,Nat.reduceEqDiff,Nat.reduceAdd,Nat.reduceLeDiff,f2,foot_ref33_Known_Of,w1,w2,r1,r2]
 refine ⟨?_,?_⟩
 ·simp only[List.reverse_cons,List.reverse_nil,List.nil_append,List.cons_append]
  exact footsOk_mk [false,false,false,false,false,false,false,false,false,true] [] (by simp[All2,rdLook,noLook,bigLook]) (by decide) (by simp)
 ·exact ⟨NoP,_,rfl,[w'],[r],rfl,⟨w',rfl,hw2.tree (Nat.le_refl _)⟩,⟨r,rfl,hr.sl _⟩⟩
end
end Hx
end
section
namespace Hx
open Go
noncomputable section
theorem bsl_two (z:AV)(k k':IntKind)(x y:Int)(g:G):bslV 1 2 [z] [0,1] [.int k x,.int k' y] g=.upd (.hsl g.nx 0 0 2 none) (g.new (.cells 1 [[.int k x],[.int k' y]] 0 false false)):=rfl
theorem bsl_three (z:AV)(k k' k2:IntKind)(x y w:Int)(g:G):bslV 1 3 [z] [0,1,2] [.int k x,.int k' y,.int k2 w] g=.upd (.hsl g.nx 0 0 3 none) (g.new (.cells 1 [[.int k x],[.int k' y],[.int k2 w]] 0 false false)):=rfl
def S.weights (gr card n:Int):List Int :=
 if card=2 then [1+n % (gr - 1),gr - (1+n % (gr - 1))]
 else [1+n % (gr - 1),n / 12 % (gr - (1+n % (gr - 1))+1),gr - (1+n % (gr - 1)) - n / 12 % (gr - (1+n % (gr - 1))+1)]
theorem weights_ok {d:Nat}{g:G}{gr card n:Int}(hd:0<d)(h1:2≤gr)(h2:gr≤12)(h3:0≤n)(h4:n<256) :
  ∃r,callV C0 d N.ref33_weights [.int .i64 gr,.int .i64 card,.int .u8 n] g=.val r∧IT 0 (S.weights gr card n) r:=by
 rw[call_ref33_weights]
 refine iso_run eq_ref33_weights (xs:=[.int .i64 gr,.int .i64 card,.int .u8 n]) (by simp only[mapO,arg_int 0]) (by simp[f_ref33_weights]) (snb_one _) (by decide) hd ?_
 have b1:=Int.emod_nonneg n (show gr - 1≠0 by omega)
 have b2:=Int.emod_lt_of_pos n (show 0<gr - 1 by omega)
 have b3:=Int.emod_nonneg (n / 12) (show gr - (1+n % (gr - 1))+1≠0 by omega)
 have b4:=Int.emod_lt_of_pos (n / 12) (show 0<gr - (1+n % (gr - 1))+1 by omega)
 generalize hA:n % (gr - 1)=A at *
 generalize hB:n / 12 % (gr - (1+A)+1)=B at *
 simp only[f_ref33_weights,sx,sy,SO.run,↓reduceIte,Nat.reduceEqDiff,Nat.reduceAdd,
  wrap64 (show -9223372036854775808≤n by omega) (show n<9223372036854775808 by omega),
  wrap64 (show -9223372036854775808≤gr - 1 by omega) (show gr - 1<9223372036854775808 by omega),
  bin_rem .i64 h3 (show 0<gr - 1 by omega),hA,
  wrap64 (show -9223372036854775808≤1+A by omega) (show 1+A<9223372036854775808 by omega)]
 refine bifP_mk (fun hb=>?_) (fun hb=>?_)
 ·have hc:card=2:=by simpa using hb
  simp only[sx,sy,SO.run,↓reduceIte,Nat.reduceEqDiff,Nat.reduceAdd,
   wrap64 (show -9223372036854775808≤gr - (1+A) by omega) (show gr - (1+A)<9223372036854775808 by omega)]
  simp only[bsl_two,sx,sy,SO.run,↓reduceIte,Nat.reduceEqDiff,Nat.reduceAdd]
  have ho:Own ((G.empty).new (.cells 1 [[.int .i64 (1+A)],[.int .i64 (gr - (1+A))]] 0 false false)) 0 (.hsl G.empty.nx 0 0 2 none) 1 ([1+A,gr - (1+A)].map ci):=.inr ⟨_,0,false,Nat.zero_le _,by simp,rfl,by simp[get_put_eq,ci]⟩
  rw[S.weights,if_pos hc,hA]
  exact ⟨_,ho.ints (by simp)⟩
 ·have hc:¬card=2:=by simpa using hb
  simp only[sx,sy,SO.run,↓reduceIte,Nat.reduceEqDiff,Nat.reduceAdd,
   bin_quo .u8 h3 (show (0:Int)<12 by decide),wrapu8 (show 0≤n / 12 by omega) (show n / 12<256 by omega),
   wrap64 (show -9223372036854775808≤n / 12 by omega) (show n / 12<9223372036854775808 by omega),
   wrap64 (show -9223372036854775808≤gr - (1+A) by omega) (show gr - (1+A)<9223372036854775808 by omega),
   wrap64 (show -9223372036854775808≤gr - (1+A)+1 by omega) (show gr - (1+A)+1<9223372036854775808 by omega),
   bin_rem .i64 (show 0≤n / 12 by omega) (show 0<gr - (1+A)+1 by omega),hB,
   wrap64 (show -9223372036854775808≤gr - (1+A) - B by omega) (show gr - (1+A) - B<9223372036854775808 by omega)]
  simp only[bsl_three,sx,sy,SO.run,↓reduceIte,Nat.reduceEqDiff,Nat.reduceAdd]
  have ho:Own ((G.empty).new (.cells 1 [[.int .i64 (1+A)],[.int .i64 B],[.int .i64 (gr - (1+A) - B)]] 0 false false)) 0 (.hsl G.empty.nx 0 0 3 none) 1 ([1+A,B,gr - (1+A) - B].map ci):=.inr ⟨_,0,false,Nat.zero_le _,by simp,rfl,by simp[get_put_eq,ci]⟩
  rw[S.weights,if_neg hc,hA,hB]
  exact ⟨_,ho.ints (by simp)⟩
end
end Hx
end
