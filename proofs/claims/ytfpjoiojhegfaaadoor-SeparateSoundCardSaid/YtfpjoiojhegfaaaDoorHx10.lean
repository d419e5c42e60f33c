/- A part of the proof: an interpreter over abstract values, shown right against the model, and what the functions of the chapter compute on it. -/
import Derived.Test.YtfpjoiojhegfaaaDoorHx9
set_option linter.unusedVariables false
set_option linter.unusedSimpArgs false
set_option linter.unnecessarySimpa false
section
namespace Hx
open Go
noncomputable section
theorem wC {C:Cfg}{d id nt:Nat}{t:T}{ps:List Nat}{assign body:Code}{a b:SC}{dfr:Nat}{args:List AV}{g:G}{K:AV->G->Prop}{D:ADf->Prop}{t':T}
  (hg:g.h.get id=.loop nt t ps assign body dfr .ready none) (ha:dE C nt assign=a) (hb:dE C nt body=b) (hp:cG t nt ps args=some t')
  (h:wp C d (some id) a (fun e t1 df g1=>e=.norm/\df=[]/\g1=g /\
   wp C d (some id) b (fun e _ df g2=>df=[]/\g2.h.get id=.loop nt t ps assign body dfr .busy none/\((e=.norm/\K (.bool true) (g2.put id (.loop nt t ps assign body dfr .ready none)))\/(e=.ret/\K (.bool false) (g2.put id (.loop nt t ps assign body dfr .done (some .ret))))))
    t1 [] (g.put id (.loop nt t ps assign body dfr .busy none))) t' [] g) :
  (cj (I C) d id args g).sat K g D:=by
 subst ha;subst hb
 unfold cj
 rw[show g.get id=_ from hg]
 dsimp only
 rw[hp]
 dsimp only
 have h1:=pR h
 cases hc:(I C).code nt d (some id) assign t' [] g with
 | fail=>rw[hc] at h1;exact h1.elim
 | ok e t1 df g1 =>
  rw[hc] at h1
  obtain ⟨rfl,rfl,rfl,h2⟩:=h1
  dsimp only
  rw[show g1.get id=_ from hg]
  dsimp only
  have h3:=pR h2
  cases hc2:(I C).code nt d (some id) body t1 [] (g1.put id (.loop nt t ps assign body dfr .busy none)) with
  | fail=>rw[hc2] at h3;exact h3.elim
  | ok e t2 df2 g2 =>
   rw[hc2] at h3
   obtain ⟨rfl,h4,h5⟩:=h3
   dsimp only
   rw[show g2.get id=_ from h4]
   rcases h5 with ⟨rfl,h5⟩ | ⟨rfl,h5⟩<;>exact h5
theorem qQ {C:Cfg}{d nt:Nat}{f:Od}{ps:List Nat}{a b:SC}{Q:QT}{t:T}{df:List ADf}{g:G}{fn:Nat}{first cap:List AV}{s:SF}(hv:f.get t=.clo fn first cap)(he:C.ext fn=none)(hs:nFn C fn=some s)
  (hl:(first++(.yld (g.nx+1)::cap)).length<=s.nt)
  (h:∀assign body,dE C nt assign=a->dE C nt body=b ->
   wp C d none s.code (fnQ C d s.res fun _ g2=>∃nt' t' ps' as' bd' dfr',(g2.h.get (g.nx+1)=.loop nt' t' ps' as' bd' dfr' .ready none/\Q .norm t (.mark g.nx::df) (g2.put (g.nx+1) (.loop nt' t' ps' as' bd' dfr' .exhausted none))) \/
     (g2.h.get (g.nx+1)=.loop nt' t' ps' as' bd' dfr' .done (some .ret)/\Q .ret t (.mark g.nx::df) (g2.put (g.nx+1) (.loop nt' t' ps' as' bd' dfr' .exhausted (some .ret)))))
    (bY 0 (first++(.yld (g.nx+1)::cap)) .nil) [] ((g.new (.dfr true)).new (.loop nt t ps assign body g.nx .ready none))) :
  wp C d none (.rng nt f ps a b) Q t df g:=by
 intro assign body ha hb
 have h:=pG hs hl (h assign body ha hb)
 show (cp C (I C) nt d none (f.get t) ps assign body t (.mark g.nx::df) g.nx (g.new (.dfr true))).sat Q
 rw[hv]
 unfold cp
 dsimp only
 rw[he]
 show (match (I C).call d fn (first++(AV.yld (g.nx+1)::cap)) ((g.new (.dfr true)).new (.loop nt t ps assign body g.nx .ready none)) with
  | .ok _ g2=>cV (I C) nt d none (g.nx+1) t (.mark g.nx::df) g2
  | .fail=>.fail).sat Q
 cases hc:(I C).call d fn (first++(AV.yld (g.nx+1)::cap)) ((g.new (.dfr true)).new (.loop nt t ps assign body g.nx .ready none)) with
 | fail=>rw[hc] at h;exact h.elim
 | ok v g2 =>
  rw[hc] at h
  obtain ⟨nt',t',ps',as',bd',dfr',h⟩:=h
  show (cV (I C) nt d none (g.nx+1) t (.mark g.nx::df) g2).sat Q
  unfold cV
  rcases h with ⟨h1,h2⟩ | ⟨h1,h2⟩
  ·rw[show g2.get (g.nx+1)=_ from h1]
   exact h2
  ·rw[show g2.get (g.nx+1)=_ from h1]
   dsimp only
   rw[AT]
   exact h2
def RwV (x:Node):VS:=fun P k h v=>∃p,v=.clo N.ah [] [p] /\
 ((∃id cs,p=.hptr id 0 0 0/\P id/\h.get id=.cells 3 [cs] 0 false false/\Rp.rp P k h x cs)\/∃t cs,p=.tptr t 3 [cs] 0 0/\t<=k/\Rp.rp NoP k .nil x cs)
theorem Ki (x:Node):Snb (RwV x) 2:=by
 refine ⟨fun {P k h v n} d r hn=>?_,fun {k h v n} r hn=>?_⟩
 ·obtain ⟨p,rfl,r⟩:=r
  obtain ⟨n,rfl⟩:∃q,n=q+2:=⟨n - 2,by omega⟩
  rcases r with ⟨id,cs,rfl,-,hg,r⟩ | ⟨t,cs,rfl,ht,r⟩
  ·obtain ⟨cs',e,r'⟩:=Rp.snap (n:=n) d r (by show (_:Nat)<=n;exact Nat.le_trans (show Rp.dp Node<=20 by decide) (by omega)) (by decide)
   obtain ⟨m,e2,l2⟩:=Rp.tag (n:=ay) r' (by decide)
   refine ⟨.clo N.ah [] [.tptr (Nat.max d (Nat.max m 0)) 3 [cs'] 0 0],?_,_,rfl,.inr ⟨_,cs',rfl,?_,r'⟩⟩
   ·have:Hx.snap h d (n+1) (.hptr id 0 0 0)=some (.tptr (Nat.max d (Nat.max m 0)) 3 [cs'] 0 0):=by
     simp only[Hx.snap,hg,show Nat.beq 0 0=true from rfl,aG,e,eM,fS,e2]
    simp only[Hx.snap,aG] at this ⊢
    rw[this]
   ·show max d (max m 0)<=max k d
    omega
  ·refine ⟨.clo N.ah [] [.tptr t 3 [cs] 0 0],rfl,_,rfl,.inr ⟨t,cs,rfl,by omega,Rp.mono r (fun i hi=>hi.elim) (by omega)⟩⟩
 ·obtain ⟨p,rfl,r⟩:=r
  obtain ⟨n,rfl⟩:∃q,n=q+2:=⟨n - 2,by omega⟩
  rcases r with ⟨id,cs,rfl,hP,-⟩ | ⟨t,cs,rfl,ht,r⟩
  ·exact hP.elim
  ·exact ⟨Nat.max t 0,rfl,by show max t 0<=k;omega⟩
theorem ut {d:Nat}{g:G}{v:AV}{x:Node}(hd:0<d)(hm:Agg x NoP 0 g.h v) :
  ∃pa ra,aA C0 d N.ap [v] g=.val (.clo N.ah [] [.tptr 0 3 [[.int .i64 x.card,pa,ra]] 0 0])/\SlR NoP 0 .nil x.parents pa/\SlR NoP 0 .nil x.rows ra:=by
 have e0:=gU d hm
 obtain ⟨cs,rfl,hc⟩:=hm
 obtain ⟨a,b,rfl,hR,hN⟩:=eN.1 hc
 have key:∃r,aA C0 d N.ap [.agg [.int .i64 x.card,a,b]] g=.val r/\RwV x NoP 0 .nil r:=by
  rw[wc]
  refine bD zg (xs:=[.agg [.int .i64 x.card,a,b]]) (by simp only[aG,e0]) (by simp[qp]) (Ki x) (by decide) hd ?_
  simp only[sz,simprocAttr,qp,rJ]
  exact ⟨fun _=>True,_,rfl,.inl ⟨0,_,rfl,trivial,by simp[sx],Rp.tree hc (Nat.le_refl _)⟩⟩
 obtain ⟨r,h1,p,rfl,h2⟩:=key
 rcases h2 with ⟨id,cs,rfl,hP,-⟩ | ⟨t,cs,rfl,ht,hr⟩
 ·exact hP.elim
 ·have:t=0:=by omega
  subst this
  obtain ⟨a',b',rfl,hR',hN'⟩:=eN.1 hr
  exact ⟨a',b',h1,hR',hN'⟩
theorem rE (fo l sz i off:Nat)(rows:List (List AV)):EX fo (.tptr l sz rows i off)=.val (.tptr l sz rows i (off+fo)):=rfl
theorem Fu {d id:Nat}{c:Int}{pa ra:AV}{rws:List (List Int)}{g0:G}{K:AV->G->Prop}(hra:SlR NoP 0 .nil rws ra)(J:Nat->H->Prop)(E:G->Prop)
  (step:∀(j:Nat) (r:List Int) (z:AV) (g:G) (K':AV->G->Prop) (D:ADf->Prop),rws[j]?=some r->SlR NoP 0 .nil r z->g0.nx<=g.nx->J j g.h ->
   (∀g',J (j+1) g'.h->g.nx<=g'.nx->K' (.bool true) g')->(∀g',E g'->K' (.bool false) g')->(cj (I C0) d id [.int .i64 (j:Int),z] g).sat K' g D)
  (h0:J 0 g0.h) (fin:∀g',J rws.length g'.h->g0.nx<=g'.nx->K (.tup []) g') (finE:∀g',E g'->K (.tup []) g') :
  wp C0 d none eV.code (fnQ C0 d eV.res K) (bY 0 [.yld id,.tptr 0 3 [[.int .i64 c,pa,ra]] 0 0] .nil) [] g0:=by
 obtain ⟨rr,s1,s2,s3,s4⟩:=Bw hra
 simp only[sz,simprocAttr,eV,nX,rE,iC,hra.len]
 refine aS (m:=rws.length) hra.1 (fun j t df g=>df=[]/\St t [(0,.yld id),(6,ra)]/\J j g.h/\g0.nx<=g.nx) ⟨rfl,by simp[St,sx],h0,Nat.le_refl _⟩ (by simp[sx]) (by simp[sx]) (by decide) (by rintro j t df g v s (rfl | rfl | rfl)<;>simp[St,sx]) ?_ ?_
 ·rintro j t df g hj ⟨rfl,⟨h0,h6,-⟩,hJ,hn⟩ h8 h7
  obtain ⟨r,hr,-,-⟩:=aw hj
  obtain ⟨z,q2,q3,hz⟩:=s3 j r hr
  have hry:=s4 (by omega)
  simp only[sz,simprocAttr,h0,h6,h8,s1,q2,q3]
  show (cj (I C0) d id [.int .i64 (j:Int),z] g).sat _ _ _
  refine step j r z g _ _ hr hz hn hJ (fun g' hJ' hn'=>?_) fun g' hE=>?_
  ·simp only[sz,simprocAttr,h7,h8]
   simp[St,sx,h0,h6,hJ',Nat.le_trans hn hn']
  ·simp only[sz,simprocAttr]
   exact finE g' hE
 ·rintro t df g ⟨rfl,-,hJ,hn⟩
  simp only[sx,↓reduceIte]
  exact fin g hJ hn
theorem AW:C0.ext N.ah=none:=by kernel_rfl
structure RowQ (b:Nat) (g2 g3:G) (e:Ex) (A B:Prop):Prop where
 nx:g2.nx<=g3.nx
 fr:∀i,b<=i->i<g2.nx->g3.h.get i=g2.h.get i
 st:(e=.norm/\A)\/(e=.ret/\B)
theorem zk {d nt y p q:Nat}{c:Int}{pa ra:AV}{rws:List (List Int)}{ca cb:SC}{Q:QT}{t:T}{g:G}(hra:SlR NoP 0 .nil rws ra)(hv:tat t y=.clo N.ah [] [.tptr 0 3 [[.int .i64 c,pa,ra]] 0 0])(hp:p<nt)(hq:q<nt)
  (J:Nat->H->Prop) (E:H->Prop) (hJ:∀j h h',(∀i,i<g.nx->h'.get i=h.get i)->J j h->J j h') (hE:∀h h',(∀i,i<g.nx->h'.get i=h.get i)->E h->E h') (h0:J 0 g.h)
  (step:∀(j:Nat) (r:List Int) (z:AV) (g1:G),rws[j]?=some r->SlR NoP 0 .nil r z->J j g1.h->g.nx+2<=g1.nx ->
   wp C0 d (some (g.nx+1)) ca (fun e t1 df g1'=>e=.norm/\df=[]/\g1'=g1/\∀g2:G,g2.nx=g1.nx->(∀i,i≠g.nx+1->g2.h.get i=g1.h.get i) ->
    wp C0 d (some (g.nx+1)) cb (fun e _ df g3=>df=[]/\RowQ g.nx g2 g3 e (J (j+1) g3.h) (E g3.h)) t1 [] g2)
    (dW (dW t p (.int .i64 (j:Int))) q z) [] g1)
  (fin:∀g',J rws.length g'.h->g.nx+2<=g'.nx->g'.h.get g.nx=.dfr true->Q .norm t [.mark g.nx] g')
  (finE:∀g',E g'.h->g.nx+2<=g'.nx->g'.h.get g.nx=.dfr true->Q .ret t [.mark g.nx] g') :
  wp C0 d none (.rng nt (.t y) [p,q] ca cb) Q t [] g:=by
 refine qQ (fn:=N.ah) (first:=[]) (cap:=[.tptr 0 3 [[.int .i64 c,pa,ra]] 0 0]) (s:=eV) hv AW v7 (by simp[eV]) ?_
 intro assign body ha hb
 have e1:((g.new (.dfr true)).new (.loop nt t [p,q] assign body g.nx .ready none)).nx=g.nx+2:=by simp
 refine Fu (g0:=(g.new (.dfr true)).new (.loop nt t [p,q] assign body g.nx .ready none)) (id:=g.nx+1) hra
  (fun j h=>J j h/\h.get g.nx=.dfr true/\h.get (g.nx+1)=.loop nt t [p,q] assign body g.nx .ready none)
  (fun g'=>E g'.h/\g'.h.get g.nx=.dfr true/\g'.h.get (g.nx+1)=.loop nt t [p,q] assign body g.nx .done (some .ret)/\g.nx+2<=g'.nx) ?_ ?_ ?_ ?_
 ·rintro j r z g1 K' D hr hz hn ⟨a1,a2,a3⟩ kk kE
  rw[e1] at hn
  refine wC a3 ha hb (t':=dW (dW t p (.int .i64 (j:Int))) q z) ?_ ?_
  ·simp only[cG,aa,Nat.blt_eq,if_pos hp,if_pos hq];rfl
  ·refine cJ _ (step j r z g1 hr hz a1 (by omega)) ?_
   rintro e t1 df g1' ⟨rfl,rfl,rfl,h⟩
   refine ⟨rfl,rfl,rfl,?_⟩
   have hl:g.nx+1<g1'.nx:=by omega
   refine cJ _ (h (g1'.put (g.nx+1) (.loop nt t [p,q] assign body g.nx .busy none)) (by simp) (fun i hi=>by simp[H.get_put,hi])) ?_
   rintro e t2 df g3 ⟨rfl,⟨b2,b3,b1⟩⟩
   have b4:g3.h.get (g.nx+1)=.loop nt t [p,q] assign body g.nx .busy none:=by rw[b3 _ (by omega) (by simpa using hl)];simp[H.get_put]
   have b5:g3.h.get g.nx=.dfr true:=by
    rw[b3 _ (by omega) (by simp;omega)];simp[H.get_put,a2]
   refine ⟨rfl,b4,?_⟩
   rcases b1 with ⟨rfl,b1⟩ | ⟨rfl,b1⟩
   ·refine .inl ⟨rfl,kk _ ⟨hJ _ g3.h _ (fun i hi=>by simp[H.get_put,show ¬i=g.nx+1 by omega]) b1,?_,?_⟩ (by simpa using b2)⟩
    ·simp[H.get_put,b5]
    ·simp[H.get_put]
   ·refine .inr ⟨rfl,kE _ ⟨hE g3.h _ (fun i hi=>by simp[H.get_put,show ¬i=g.nx+1 by omega]) b1,?_,?_,?_⟩⟩
    ·simp[H.get_put,b5]
    ·simp[H.get_put]
    ·simp at b2 ⊢;omega
 ·refine ⟨hJ 0 g.h _ (fun i hi=>?_) h0,?_,?_⟩
  ·simp[H.get_put,show ¬i=g.nx+1 by omega,show ¬i=g.nx by omega]
  ·simp[H.get_put]
  ·simp[H.get_put]
 ·rintro g' ⟨a1,a2,a3⟩ hn
  rw[e1] at hn
  refine ⟨_,_,_,_,_,_,.inl ⟨a3,fin _ (hJ _ g'.h _ (fun i hi=>by simp[H.get_put,show ¬i=g.nx+1 by omega]) a1) (by simpa using hn) ?_⟩⟩
  simp[H.get_put,a2]
 ·rintro g' ⟨a1,a2,a3,hn⟩
  refine ⟨_,_,_,_,_,_,.inr ⟨a3,finE _ (hE g'.h _ (fun i hi=>by simp[H.get_put,show ¬i=g.nx+1 by omega]) a1) (by simpa using hn) ?_⟩⟩
  simp[H.get_put,a2]
abbrev NwM:Type:=Net×List Int×List Nat×List Int
theorem sN {P:Nat->Prop}{k:Nat}{h:H}{x:NwM}{cs:List AV}:Rp.rp P k h x cs↔∃a b c e,cs=[.int .i64 x.1.grain,a,b,c,e]/\SlR P k h x.1.nodes a/\SlR P k h x.2.1 b/\SlR P k h x.2.2.1 c/\SlR P k h x.2.2.2 e:=by
 constructor
 ·rintro ⟨c1,c2,rfl,h1,c3,c4,rfl,⟨b,rfl,hb⟩,c5,c6,rfl,⟨c,rfl,hc⟩,⟨e,rfl,he⟩⟩
  obtain ⟨a,rfl,ha⟩:=lT.1 h1
  exact ⟨a,b,c,e,rfl,ha,hb,hc,he⟩
 ·rintro ⟨a,b,c,e,rfl,ha,hb,hc,he⟩
  exact ⟨[_,a],[b,c,e],rfl,lT.2 ⟨a,rfl,ha⟩,[b],[c,e],rfl,⟨b,rfl,hb⟩,[c],[e],rfl,⟨c,rfl,hc⟩,⟨e,rfl,he⟩⟩
theorem yB:∀{l:List Int},(∀x∈l,0<=x)->0<=l.sum
 | [],_=>by simp
 | x::l,h=>by
  have:=yB (l:=l) fun y hy=>h y (by simp[hy])
  have:=h x (by simp)
  rw[List.sum_cons];omega
theorem yH {l:List Int}(h:∀x∈l,0<=x)(j:Nat):(l.take j).sum<=l.sum:=by
 have:=yB (l:=l.drop j) fun x hx=>h x (List.mem_of_mem_drop hx)
 have e:l.sum=(l.take j).sum+(l.drop j).sum:=by rw[<-List.sum_append,List.take_append_drop]
 omega
theorem vD:∀{l:List Int},(∀x∈l,0<=x)->∀x∈l,x<=l.sum
 | [],_,x,hx=>by simp at hx
 | y::l,h,x,hx=>by
  have h1:=yB (l:=l) fun z hz=>h z (by simp[hz])
  have h2:=h y (by simp)
  rw[List.sum_cons]
  rcases List.mem_cons.1 hx with rfl | hx
  ·omega
  ·have:=vD (l:=l) (fun z hz=>h z (by simp[hz])) x hx;omega
def S.aY (gr:Int)(cs:List Int)(x:Node):Bool:=decide ((x.rows.length:Int)=S.ae (S.af cs x.parents))&&x.rows.all (S.aU gr x.card)
structure FJ (gr:Int) (r:List Int) (z:AV) (j:Nat) (t:T):Prop where
 st:St t [(2,.hptr 0 0 0 0),(3,.hptr 1 0 0 0),(4,.hptr 2 0 0 0),(9,z),(40,z),(10,.int .i64 (gr - (r.take j).sum))]
 nn:∀x∈r.take j,0<=x
 le:(r.take j).sum<=gr
theorem Ei {d:Nat}{rd:Option Nat}{gr:Int}{r:List Int}{z:AV}{Q:QT}{t:T}{g:G}(hz:SlR NoP 0 .nil r z)(hg1:1<=gr/\gr<=60)
  (ht:St t [(2,.hptr 0 0 0 0),(3,.hptr 1 0 0 0),(4,.hptr 2 0 0 0),(9,z),(40,z),(10,.int .i64 gr)]) (h42:tat t 42=.int .i64 0) (h41:tat t 41=.int .i64 (r.length:Int)) (e2:g.h.get 2=.cells 1 [[.bool false]] 0 false false)
  (bad:∀t,(∀card,S.aU gr card r=false)->Q .ret t [] (g.put 2 (.cells 1 [[.bool false]] 0 false false)))
  (fin:∀t,(∀x∈r,0<=x)->r.sum<=gr->St t [(2,.hptr 0 0 0 0),(3,.hptr 1 0 0 0),(4,.hptr 2 0 0 0),(9,z),(10,.int .i64 (gr - r.sum))]->Q (.exit 4) t [] g) :
  wpL (wp C0 d rd dg) Q t [] g:=by
 have rz:=fun h=>(hz.tree (h':=h) (Nat.le_refl 0)).ints
 simp only[dg]
 refine aS (m:=r.length) hz.1 (fun j t df g'=>df=[]/\g'=g/\FJ gr r z j t) ⟨rfl,rfl,by simpa using ht,by simp,by simp;omega⟩ h42 h41 (by decide)
  (by rintro j t df g v s (rfl | rfl | rfl) ⟨a1,a2,⟨b1,b2,b3,b4,b5,b6,-⟩,b7,b8⟩<;>exact ⟨a1,a2,by simp[St,sx,b1,b2,b3,b4,b5,b6],b7,b8⟩) ?_ ?_
 ·rintro j t df g' hj ⟨rfl,rfl,⟨⟨h2,h3,h4,h9,h40,h10,-⟩,hnn,hle⟩⟩ h42 h41
  obtain ⟨y,hy,htk,hm⟩:=aw hj
  have u1:j<(r.map ci).length:=by simpa using hj
  have u2:(r.map ci)[j]?=some (ci y):=by rw[List.getElem?_map,hy];rfl
  have hs0:=yB hnn
  by_cases c1:y<0
  ·simp only[sz,simprocAttr,h4,h40,h42,rz,u1,u2,ci,c1,e2]
   exact bad _ (fun card=>by
    rw[<-Bool.not_eq_true,S.aU]
    simp only[Bool.and_eq_true,decide_eq_true_eq,List.all_eq_true]
    rintro ⟨⟨-,h⟩,-⟩
    have:=h y hm;omega)
  ·by_cases c2:gr - (r.take j).sum<y
   ·simp only[sz,simprocAttr,h4,h40,h10,h42,rz,u1,u2,ci,c1,c2,e2]
    exact bad _ (fun card=>by
     rw[<-Bool.not_eq_true,S.aU]
     simp only[Bool.and_eq_true,decide_eq_true_eq,List.all_eq_true]
     rintro ⟨⟨-,h⟩,hs⟩
     have h1:=yH (l:=r) (fun x hx=>(h x hx).1) (j+1)
     rw[htk,tW] at h1
     omega)
   ·have w1:IntKind.wrap .i64 (gr - (r.take j).sum - y)=gr - (r.take (j+1)).sum:=by
     rw[aH (by omega) (by omega),htk,tW];omega
    simp only[sz,simprocAttr,h40,h10,h42,h41,rz,u1,u2,ci,c1,c2,w1]
    refine ⟨by simp[St,sx,h2,h3,h4,h9,h40],fun x hx=>?_,by rw[htk,tW];omega⟩
    rw[htk] at hx
    rcases List.mem_append.1 hx with h | h
    ·exact hnn x h
    ·rw[List.mem_singleton.1 h];omega
 ·rintro t df g' ⟨rfl,rfl,⟨⟨h2,h3,h4,h9,h40,h10,-⟩,hnn,hle⟩⟩
  rw[List.take_length] at hnn hle h10
  exact fin t hnn hle ⟨h2,h3,h4,h9,h10,trivial⟩
structure FlJ (cs1 cs2:List AV) (gr card:Int) (rws:List (List Int)) (j:Nat) (h:H):Prop where
 a0:h.get 0=.cells 5 [cs1] 0 false false
 a1:h.get 1=.cells 3 [cs2] 0 false false
 a2:h.get 2=.cells 1 [[.bool false]] 0 false false
 all:∀r∈rws.take j,S.aU gr card r=true
structure FlE (gr card:Int) (rws:List (List Int)) (h:H):Prop where
 a2:h.get 2=.cells 1 [[.bool false]] 0 false false
 ex:∃r∈rws,S.aU gr card r=false
theorem DE {d k1 k2:Nat}{g:G}{P1 P2:Nat->Prop}{v w:AV}{m:NwM}{x:Node}(hd:0<d)(hm:Agg m P1 k1 g.h v)(hx:Agg x P2 k2 g.h w)(hk:k2=0/\P2=NoP)(hg1:1<=m.1.grain/\m.1.grain<=60)(hc:∀c∈m.2.1,1<=c/\c<=4)
  (hp:∀p∈x.parents,0<=p/\p<m.2.1.length) (hpl:x.parents.length<=8):aA C0 d N.aF [v,w] g=.val (.bool (S.aY m.1.grain m.2.1 x)):=by
 obtain ⟨rfl,rfl⟩:=hk
 obtain ⟨v',e1,cs,rfl,hcs⟩:=qv (gu m) (by decide) d hm
 obtain ⟨nb,cb,sb,ob,rfl,-,hcb,-,-⟩:=sN.1 hcs
 have e2:=gU d hx
 obtain ⟨cs2,rfl,hcs2⟩:=hx
 obtain ⟨pa,ra,rfl,hpa,hra⟩:=eN.1 hcs2
 have hcs2':∀h,Agg x NoP 0 h (.agg [.int .i64 x.card,pa,ra]):=fun h=>⟨_,rfl,Rp.tree hcs2 (Nat.le_refl _)⟩
 have hra:=hra.tree (h':=.nil) (Nat.le_refl 0)
 have rp:=fun h=>(hpa.tree (h':=h) (Nat.le_refl 0)).ints
 have rc:=fun h=>(hcb.tree (h':=h) (Nat.le_refl _)).ints
 have pl:=fun g=>(hpa.tree (h':=.nil) (Nat.le_refl 0)).len g
 have rl:=fun g=>hra.len g
 rw[mV]
 refine mP oa (xs:=[.agg [.int .i64 m.1.grain,nb,cb,sb,ob],.agg [.int .i64 x.card,pa,ra]]) (by simp only[aG,e1,e2]) (by simp[eL]) hd ?_
 simp only[sz,simprocAttr,eL]
 obtain ⟨g0,hg0⟩:∃g0,g0=((G.empty.new (.cells 5 [[.int .i64 m.1.grain,nb,cb,sb,ob]] 0 false false)).new (.cells 3 [[.int .i64 x.card,pa,ra]] 0 false false)).new (.cells 1 [[.bool false]] 0 false false):=⟨_,rfl⟩
 rw[<-hg0]
 have f0:g0.h.get 0=.cells 5 [[.int .i64 m.1.grain,nb,cb,sb,ob]] 0 false false:=by rw[hg0];simp[sx,H.get_put]
 have f1:g0.h.get 1=.cells 3 [[.int .i64 x.card,pa,ra]] 0 false false:=by rw[hg0];simp[sx,H.get_put]
 have f2:g0.h.get 2=.cells 1 [[.bool false]] 0 false false:=by rw[hg0];simp[sx]
 have f3:g0.nx=3:=by rw[hg0];simp[sx]
 clear hg0
 simp only[sz,simprocAttr,gF,f1,pl,gn]
 refine aS (m:=x.parents.length) (by omega) (fun j t df g=>df=[]/\g=g0/\St t [(2,.hptr 0 0 0 0),(3,.hptr 1 0 0 0),(4,.hptr 2 0 0 0),(14,pa),(5,.int .i64 (S.ae (S.af m.2.1 (x.parents.take j))))])
  ⟨rfl,rfl,by simp[St,sx,S.ae,S.af]⟩ (by simp[sx]) (by simp[sx]) (by decide) (by rintro j t df g v s (rfl | rfl | rfl)<;>simp[St,sx]) ?_ ?_
 ·rintro j t df g hj ⟨rfl,rfl,⟨h2,h3,h4,h14,h5,-⟩⟩ h16 h15
  obtain ⟨p,hpj,htk,hm2⟩:=aw hj
  obtain ⟨p0,p1⟩:=hp p hm2
  obtain ⟨p,rfl⟩:=Int.eq_ofNat_of_zero_le p0
  have hpl2:p<m.2.1.length:=by omega
  have u1:j<(x.parents.map ci).length:=by simpa using hj
  have u2:(x.parents.map ci)[j]?=some (ci (p:Int)):=by rw[List.getElem?_map,hpj];rfl
  have u3:p<(m.2.1.map ci).length:=by simpa using hpl2
  have u4:(m.2.1.map ci)[p]?=some (ci m.2.1[p]):=by rw[List.getElem?_map,List.getElem?_eq_getElem hpl2];rfl
  have e3:S.ae (S.af m.2.1 (x.parents.take (j+1)))=S.ae (S.af m.2.1 (x.parents.take j))*m.2.1[p]:=by
   rw[htk,cw,mK]
   congr 1
   simp[S.af,S.ae,List.getElem?_eq_getElem hpl2]
  have hpb:=bX (l:=S.af m.2.1 (x.parents.take (j+1))) (ba hc fun q hq=>hp q (List.mem_of_mem_take hq))
  have hp4:=dG (a:=(S.af m.2.1 (x.parents.take (j+1))).length) (b:=8) (by simp[S.af];omega)
  have h48:(4:Int) ^ 8=65536:=by decide
  have w1:IntKind.wrap .i64 (S.ae (S.af m.2.1 (x.parents.take j))*m.2.1[p])=S.ae (S.af m.2.1 (x.parents.take (j+1))):=by rw[<-e3,aH (by omega) (by omega)]
  simp only[sz,simprocAttr,h2,h14,h5,h16,h15,f0,rp,rc,u1,u2,u3,u4,ci,w1]
  simp[St,sx,h2,h3,h4,h14]
 rintro t df g ⟨rfl,rfl,⟨h2,h3,h4,h14,h5,-⟩⟩
 rw[List.take_length] at h5
 simp only[f_]
 by_cases c1:(x.rows.length:Int)=S.ae (S.af m.2.1 x.parents)
 ·obtain ⟨pa',ra',er,hpa',hra'⟩:=ut (d:=d+1) (g:=g) (Nat.succ_pos d) (hcs2' g.h)
  refine eU (P:=fun t' df g'=>df=[]/\g'=g/\St t' [(2,.hptr 0 0 0 0),(3,.hptr 1 0 0 0),(4,.hptr 2 0 0 0)]) ?_ ?_
  ·simp only[sz,simprocAttr,h3,h5,f1,rl,c1]
   simp[St,sx,h2,h3,h4]
  clear h2 h3 h4 h5 h14
  rintro t df g ⟨rfl,rfl,h2,h3,h4,-⟩
  rw[du,du]
  simp only[sz,simprocAttr,h3,f1,er]
  refine zk (c:=x.card) (pa:=pa') hra' (by simp[sx]) (by decide) (by decide)
   (FlJ [.int .i64 m.1.grain,nb,cb,sb,ob] [.int .i64 x.card,pa,ra] m.1.grain x.card x.rows)
   (FlE m.1.grain x.card x.rows) ?_ ?_ ⟨f0,f1,f2,by simp⟩ ?_ ?_ ?_
  ·rintro j h h' hh ⟨a0,a1,a2,a3⟩
   exact ⟨by rw[hh 0 (by omega),a0],by rw[hh 1 (by omega),a1],by rw[hh 2 (by omega),a2],a3⟩
  ·rintro h h' hh ⟨a2,a3⟩
   exact ⟨by rw[hh 2 (by omega),a2],a3⟩
  ·rintro j r z g1 hr hz ⟨a0,a1,a2,a3⟩ hn
   obtain ⟨r',hr',htk,hrm⟩:=aw (l:=x.rows) (j:=j) (List.getElem?_eq_some_iff.1 hr).1
   rw[hr] at hr';injection hr' with hr';subst hr'
   simp only[sz,simprocAttr,gc]
   intro g2 hg2n hg2
   have b0:g2.h.get 0=.cells 5 [[.int .i64 m.1.grain,nb,cb,sb,ob]] 0 false false:=by rw[hg2 0 (by omega),a0]
   have b1:g2.h.get 1=.cells 3 [[.int .i64 x.card,pa,ra]] 0 false false:=by rw[hg2 1 (by omega),a1]
   have b2:g2.h.get 2=.cells 1 [[.bool false]] 0 false false:=by rw[hg2 2 (by omega),a2]
   simp only[sz,simprocAttr,ge,h2,b0,hz.len]
   refine Ei (gr:=m.1.grain) (r:=r) (z:=z) hz hg1 (by simp[St,sx,h2,h3,h4]) (by simp[sx]) (by simp[sx]) b2 ?_ ?_
   ·rintro t hrow
    simp only[sx,sy]
    exact ⟨by simp,fun i h1 h2=>by simp[H.get_put,show ¬i=2 by omega],.inr ⟨rfl,by simp[H.get_put],r,hrm,hrow _⟩⟩
   ·rintro t hnn hle ⟨h2,h3,h4,h9,h10,-⟩
    have hzl:=fun g=>hz.len g
    by_cases c2:(r.length:Int)=x.card
    ·by_cases c3:m.1.grain - r.sum=0
     ·simp only[sz,simprocAttr,bO,h3,h9,h10,hzl,b1,c2,c3]
      refine ⟨Nat.le_refl _,fun i _ _=>rfl,.inl ⟨rfl,b0,b1,b2,fun y hy=>?_⟩⟩
      rw[htk] at hy
      rcases List.mem_append.1 hy with h | h
      ·exact a3 y h
      ·rw[List.mem_singleton.1 h,S.aU]
       simp only[Bool.and_eq_true,decide_eq_true_eq,List.all_eq_true]
       exact ⟨⟨c2,fun q hq=>⟨hnn q hq,by have:=vD hnn q hq;omega⟩⟩,by omega⟩
     ·have hro:S.aU m.1.grain x.card r=false:=by rw[S.aU];simp;intros;omega
      simp only[sz,simprocAttr,bO,h3,h4,h9,h10,hzl,b1,b2,c2,c3]
      exact ⟨by simp,fun i h1 h2=>by simp[H.get_put,show ¬i=2 by omega],.inr ⟨rfl,by simp[H.get_put],r,hrm,hro⟩⟩
    ·have hro:S.aU m.1.grain x.card r=false:=by rw[S.aU];simp[c2]
     simp only[sz,simprocAttr,bO,h3,h4,h9,hzl,b1,b2,c2]
     exact ⟨by simp,fun i h1 h2=>by simp[H.get_put,show ¬i=2 by omega],.inr ⟨rfl,by simp[H.get_put],r,hrm,hro⟩⟩
  ·rintro g' ⟨a0,a1,a2,a3⟩ hn hdf
   rw[List.take_length] at a3
   have hok:S.aY m.1.grain m.2.1 x=true:=by rw[S.aY,List.all_eq_true.2 a3];simp[c1]
   simp only[sz,simprocAttr,fV,h4,a2]
   refine jG (by simp[H.get_put,show ¬g.nx=2 by omega,hdf]) ?_
   simp only[sx,sy,↓reduceIte,Nat.reduceEqDiff,h4,hok]
   simp[show ¬(2=g.nx) by omega]
   rfl
  ·rintro g' ⟨a2,r,hr,hro⟩ hn hdf
   have hok:S.aY m.1.grain m.2.1 x=false:=by
    rw[S.aY]
    have:x.rows.all (S.aU m.1.grain x.card)=false:=by
     rw[<-Bool.not_eq_true,List.all_eq_true]
     intro h
     rw[h r hr] at hro;cases hro
    rw[this,Bool.and_false]
   simp only[sx]
   refine jG hdf ?_
   simp only[sx,sy,↓reduceIte,Nat.reduceEqDiff,h4,hok]
   rw[if_neg (by omega),a2]
   rfl
 ·simp only[sz,simprocAttr,h3,h4,h5,f1,f2,rl,c1]
  rw[S.aY];simp[c1]
theorem rL:∀{l:List Int} {v:Nat},(∀x∈l,0<=x/\x<64)->((S.ax l).testBit v=true↔(v:Int)∈l):=by
 have key:∀(l:List Int) (s v:Nat),(∀x∈l,0<=x/\x<64)->((l.foldl (fun s x=>s ||| S.au x.toNat) s).testBit v=true↔s.testBit v=true\/(v:Int)∈l):=by
  intro l
  induction l with
  | nil=>intro s v _;simp
  | cons x l ih =>
   intro s v h
   have hx:=h x (by simp)
   rw[List.foldl_cons,ih _ _ fun y hy=>h y (by simp[hy]),fY,ki (show x.toNat<64 by omega),Bool.or_eq_true,decide_eq_true_eq,List.mem_cons]
   constructor
   ·rintro ((h | h) | h)
    ·exact .inl h
    ·exact .inr (.inl (by omega))
    ·exact .inr (.inr h)
   ·rintro (h | h | h)
    ·exact .inl (.inl h)
    ·exact .inl (.inr (by omega))
    ·exact .inr h
 intro l v h
 have:=key l 0 v h
 simpa [S.ax] using this
theorem zD {l:List Int}{k:Nat}(hk:k<=64)(h:∀x∈l,0<=x/\x<k):S.ax l<2 ^ k:=by
 have hb:∀i,k<=i->(S.ax l).testBit i=false:=fun i hi=>by
  rw[<-Bool.not_eq_true,rL fun x hx=>by have:=h x hx;omega]
  intro hm
  have:=h _ hm
  omega
 exact Nat.lt_pow_two_of_testBit _ fun i hi=>hb i hi
structure RdH (n:Net) (b cv sv:AV) (q:Nat) (X:List Int) (Y:List Nat) (g:G):Prop where
 h0:g.h.get 0=.cells 2 [[.int .i64 n.grain,b]] 0 false false
 h1:g.h.get 1=.cells 5 [[.int .i64 0,.nils,.nils,.nils,.nils]] 0 false false
 hq:g.h.get q=.cells 5 [[.int .i64 n.grain,b,cv,sv,.nils]] 0 false false
 hc:Own g 2 cv 1 (X.map ci)
 hs:Own g 2 sv 1 (Y.map cu)
 q2:2<=q
 qn:q<g.nx
 d1:vid cv≠some q
 d2:vid sv≠some q
 d3:∀i,vid cv=some i->vid sv≠some i
theorem RdH.fr {n:Net}{b cv sv:AV}{q:Nat}{X:List Int}{Y:List Nat}{g g':G}(h:RdH n b cv sv q X Y g)(f:Fr g g'):RdH n b cv sv q X Y g' :=
 ⟨by rw[f.2 0 (by have:=h.qn;have:=h.q2;omega),h.h0],by rw[f.2 1 (by have:=h.qn;have:=h.q2;omega),h.h1],by rw[f.2 q h.qn,h.hq],h.hc.step f,h.hs.step f,h.q2,Nat.lt_of_lt_of_le h.qn f.1,h.d1,h.d2,h.d3⟩
def S.bK (n:Net)(o:List Int):NwM:=if S.aQ n then (n,S.aa n,S.ak n,o) else (⟨0,[]⟩,[],[],[])
def Ah (n:Net):VS:=fun P k h v=>∃o:List Int,True/\rA (Agg (S.bK n o)) (One (if S.aQ n then (0:Int) else 50)) P k h v
section
variable {d:Nat}{n:Net}{b cv sv:AV}{q:Nat}{rows:List (List AV)}
def LRd (q:Nat):List (Nat×AV):=[(1,.hptr 0 0 0 0),(2,.hptr 1 0 0 0),(4,.hptr q 0 0 0)]
theorem Kk {t:T}{g:G}(hn:¬NR n)(h1:g.h.get 1=.cells 5 [[.int .i64 0,.nils,.nils,.nils,.nils]] 0 false false)(t2:tat t 2=.hptr 1 0 0 0)(t3:tat t 3=.int .i64 50) :
  fnQ C0 d kV.res (fun v g'=>∃P,Ah n P 0 g'.h v) .ret t [] g:=by
 have hf:S.aQ n=false:=by
  cases h:S.aQ n with
  | false=>rfl
  | true=>exact absurd (fJ.1 h) hn
 simp only[kV,sx,sy,↓reduceIte,Nat.reduceAdd,Nat.reduceLeDiff,t2,t3,h1]
 refine ⟨fun _=>True,[],trivial,_,_,rfl,⟨_,rfl,?_⟩,?_⟩
 ·rw[S.bK,hf]
  exact sN.2 ⟨.nils,.nils,.nils,.nils,rfl,⟨by show 0<9223372036854775808;decide,rfl⟩,⟨by show 0<9223372036854775808;decide,rfl⟩,⟨by show 0<9223372036854775808;decide,rfl⟩,⟨by show 0<9223372036854775808;decide,rfl⟩⟩
 ·rw[hf];exact aX.2 rfl
structure Rd0 (n:Net) (b cv sv:AV) (q j:Nat) (t:T) (g:G):Prop where
 st:St t ((48,b)::(5,.int .i64 (S.ae ((S.aa n).take j)))::LRd q)
 hp:RdH n b cv sv q ((S.aa n).take j++List.replicate (n.nodes.length - j) 0) (List.replicate n.nodes.length 0) g
 ok:∀x∈n.nodes.take j,1<=x.card/\x.card<=4
theorem In {Q:QT}{t:T}{g:G}(hl:n.nodes.length<=8)(hN:SlR NoP 0 .nil n.nodes b)(r1:∀h,af h 3 b=some rows)(r2:rows.length=n.nodes.length)
  (r3:∀(i:Nat) (x:Node),n.nodes[i]?=some x->∃pa ra,rows[i]?=some [.int .i64 x.card,pa,ra]/\i<rows.length/\SlR NoP 0 .nil x.parents pa/\SlR NoP 0 .nil x.rows ra) (r4:0<n.nodes.length->ph b=true)
  (h0:Rd0 n b cv sv q 0 t g) (h50:tat t 50=.int .i64 0) (h49:tat t 49=.int .i64 (n.nodes.length:Int))
  (bad:∀t g,¬NR n->g.h.get 1=.cells 5 [[.int .i64 0,.nils,.nils,.nils,.nils]] 0 false false->tat t 2=.hptr 1 0 0 0->tat t 3=.int .i64 50->Q .ret t [] g)
  (fin:∀t g,Rd0 n b cv sv q n.nodes.length t g->Q (.exit 0) t [] g):wpL (wp C0 d none lY) Q t [] g:=by
 simp only[lY]
 refine aS (m:=n.nodes.length) (by omega) (fun j t df g=>df=[]/\Rd0 n b cv sv q j t g) ⟨rfl,h0⟩ h50 h49 (by decide)
  (by rintro j t df g v s (rfl | rfl | rfl) ⟨a1,⟨b1,b2,b3,b4,b5,-⟩,c1,c2⟩<;>exact ⟨a1,by simp[St,LRd,sx,b1,b2,b3,b4,b5],c1,c2⟩) ?_ ?_
 ·rintro j t df g hj ⟨rfl,⟨⟨h48,h5,h1,h2,h4,-⟩,hp,hok⟩⟩ h50 h49
  obtain ⟨x,hx,htk,hxm⟩:=aw hj
  obtain ⟨pa,ra,q1,hlt,hpa,hra⟩:=r3 j x hx
  have hry:=r4 (by omega)
  have q2:=hp.q2
  have qn:=hp.qn
  have hne1:¬(1=g.nx):=by omega
  have hneq:¬(q=g.nx):=by omega
  have f1:Fr g (g.new (.cells 3 [[.int .i64 0,.nils,.nils]] 0 false false)):=Fr.new _ _
  have badn:¬(1<=x.card/\x.card<=4)->¬NR n:=fun h hr=>h (hr.card x hxm)
  by_cases c1:x.card<1
  ·simp only[sz,simprocAttr,h2,h48,h50,r1,hlt,q1,hp.h1,hne1,c1]
   exact bad _ _ (badn (by omega)) (by simp[H.get_put]) (by simp[sx,h2]) (by simp[sx])
  ·by_cases c2:4<x.card
   ·simp only[sz,simprocAttr,h2,h48,h50,r1,hlt,q1,hp.h1,hne1,c1,c2]
    exact bad _ _ (badn (by omega)) (by simp[H.get_put]) (by simp[sx,h2]) (by simp[sx])
   ·have hall:∀y∈n.nodes.take (j+1),1<=y.card/\y.card<=4:=fun y hy=>by
     rw[htk] at hy
     rcases List.mem_append.1 hy with h | h
     ·exact hok y h
     ·rw[List.mem_singleton.1 h];omega
    have hcb:∀c∈(S.aa n).take (j+1),1<=c/\c<=4:=fun c hc=>by
     rw[S.aa,<-List.map_take] at hc
     obtain ⟨y,hy,rfl⟩:=List.mem_map.1 hc
     exact hall y hy
    have hpb:=bX hcb
    have hp4:=dG (a:=((S.aa n).take (j+1)).length) (b:=8) (by rw[List.length_take];omega)
    have h48':(4:Int) ^ 8=65536:=by decide
    have hcj:(S.aa n)[j]?=some x.card:=by simp[S.aa,hx]
    have ets:(S.aa n).take (j+1)=(S.aa n).take j++[x.card]:=by rw[List.take_add_one,hcj];rfl
    have e1:S.ae ((S.aa n).take (j+1))=S.ae ((S.aa n).take j)*x.card:=by rw[ets];exact mj _ _
    have w1:IntKind.wrap .i64 (S.ae ((S.aa n).take j)*x.card)=S.ae ((S.aa n).take (j+1)):=by rw[<-e1,aH (by omega) (by omega)]
    have hlj:((S.aa n).take j).length=j:=by rw[List.length_take,aM];omega
    have hXr:(((S.aa n).take j++List.replicate (n.nodes.length - j) 0).map ci)[j]?=some (ci 0):=by
     rw[List.getElem?_map,List.getElem?_append_right (by omega),hlj,Nat.sub_self,List.getElem?_replicate,if_pos (by omega)];rfl
    have hXl:j<(((S.aa n).take j++List.replicate (n.nodes.length - j) 0).map ci).length:=by simp[aM];omega
    have hXs:((S.aa n).take j++List.replicate (n.nodes.length - j) 0).set j x.card=(S.aa n).take (j+1)++List.replicate (n.nodes.length - (j+1)) 0:=by
     rw[List.set_append_right _ _ (by omega),hlj,Nat.sub_self,ets,show n.nodes.length - j=(n.nodes.length - (j+1))+1 by omega,List.replicate_succ,List.set_cons_zero,List.append_assoc];rfl
    have hp2:=hp.fr f1
    obtain ⟨g2,hg2⟩:∃g2,g2=(g.new (.cells 3 [[.int .i64 0,.nils,.nils]] 0 false false)).put g.nx (.cells 3 [[.int .i64 x.card,pa,ra]] 0 false false):=⟨_,rfl⟩
    have f2:Fr g g2:=by rw[hg2];exact Jt (by simp) fun i hi=>by simp[H.get_put,show ¬i=g.nx by omega]
    have hp3:=hp.fr f2
    have f7:g2.h.get g.nx=.cells 3 [[.int .i64 x.card,pa,ra]] 0 false false:=by rw[hg2];simp[H.get_put]
    refine bS (P:=fun t' df g'=>df=[]/\g'=g2/\St t' ((48,b)::(5,.int .i64 (S.ae ((S.aa n).take j)))::LRd q)/\tat t' 6=.int .i64 (j:Int)/\tat t' 7=.hptr g.nx 0 0 0/\tat t' 50=.int .i64 (j:Int)/\tat t' 49=.int .i64 (n.nodes.length:Int)) ?_ ?_
    ·simp only[sz,simprocAttr,h48,h49,h50,r1,hlt,q1]
     rw[hg2]
     simp[St,LRd,sx,h1,h2,h4,h5,h48]
    clear h1 h2 h4 h5 h48 h49 h50
    rintro t df g3 ⟨rfl,rfl,⟨h48,h5,h1,h2,h4,-⟩,h6,h7,h50,h49⟩
    have hcr:=hp3.hc.rows
    simp only[sz,simprocAttr,h4,h6,h7,f7,hp3.hq,hcr,hXl,c1,c2]
    refine cq (v:=cv) (sz:=1) (n:=1) (i:=j) (off:=0) (x:=.int .i64 x.card) (row':=ci x.card) hp3.hc hXr rfl rfl rfl fun g4 hu4 n4 f4=>?_
    rw[Br,hXs] at hu4
    have f74:g4.h.get g.nx=.cells 3 [[.int .i64 x.card,pa,ra]] 0 false false:=by rw[f4 _ fun e=>by have:=(hp.hc.lt e).2;omega,f7]
    simp only[sz,simprocAttr,h5,h7,h49,h50,f74,w1]
    refine ⟨by simp[St,LRd,sx,h1,h2,h4,h48],⟨?_,?_,?_,hu4,?_,q2,by rw[n4];exact hp3.qn,hp.d1,hp.d2,hp.d3⟩,hall⟩
    ·rw[f4 0 fun e=>by have:=(hp.hc.lt e).1;omega,hp3.h0]
    ·rw[f4 1 fun e=>by have:=(hp.hc.lt e).1;omega,hp3.h1]
    ·rw[f4 q hp.d1,hp3.hq]
    ·exact hp3.hs.fr (by omega) fun i hi=>f4 i fun e=>hp.d3 i e hi
 ·rintro t df g ⟨rfl,h⟩
  exact fin t g h
end
end
end Hx
end
section
namespace Hx
open Go
noncomputable section
def iD (ps:List Int)(i:Nat):Int:=if i=0 then -1 else ps[i - 1]?.getD 0
theorem s6 {ps:List Int}{i:Nat}{p:Int}(h:ps[i]?=some p):iD ps (i+1)=p:=by
 unfold iD;rw[if_neg (by omega),Nat.add_sub_cancel,h];rfl
structure PlI (ps:List Int) (k:Int) (v i:Nat):Prop where
 rng:∀(j:Nat) (p:Int),j<i->ps[j]?=some p->0<=p/\p<k/\p≠(v:Int)
 inc:∀(j:Nat) (p q:Int),j+1<i->ps[j]?=some p->ps[j+1]?=some q->p<q
theorem Gf {ps:List Int}{k:Int}{v i:Nat}{p:Int}(h:PlI ps k v i)(hp:ps[i]?=some p)(h1:iD ps i<p)(h2:p<k)(h3:p≠(v:Int)):PlI ps k v (i+1):=by
 refine ⟨fun j q hj hq=>?_,fun j a c hj ha hc=>?_⟩
 ·by_cases e:j=i
  ·subst e
   rw[hp] at hq
   injection hq with hq
   subst hq
   refine ⟨?_,h2,h3⟩
   by_cases e0:j=0
   ·subst e0;unfold iD at h1;simp at h1;omega
   ·have hj1:j - 1<ps.length:=by have:=(List.getElem?_eq_some_iff.1 hp).1;omega
    have:=h.rng (j - 1) ps[j - 1] (by omega) (List.getElem?_eq_getElem hj1)
    unfold iD at h1
    rw[if_neg e0,List.getElem?_eq_getElem hj1,Option.getD_some] at h1
    omega
  ·exact h.rng j q (by omega) hq
 ·by_cases e:j+1=i
  ·subst e
   rw[hp] at hc
   injection hc with hc
   subst hc
   rw[s6 ha] at h1
   exact h1
  ·exact h.inc j a c (by omega) ha hc
theorem AE {ps:List Int}{k:Int}{v:Nat}(h:PlI ps k v ps.length):S.bf ps k=true:=by
 unfold S.bf
 rw[List.all_eq_true]
 intro i hi
 have hi:=List.mem_range.1 hi
 have hp:ps[i]?=some ps[i]:=List.getElem?_eq_getElem hi
 obtain ⟨r1,r2,-⟩:=h.rng i _ hi hp
 by_cases e:i=0
 ·subst e
  simp only[S.bF,hp,Option.getD_some]
  simp;omega
 ·have hq:ps[i - 1]?=some ps[i - 1]:=List.getElem?_eq_getElem (by omega)
  have:=h.inc (i - 1) _ ps[i] (by omega) hq (by rw[show i - 1+1=i by omega];exact hp)
  simp only[S.bF,hp,hq,Option.getD_some]
  simp;omega
theorem NR.pl {n:Net}(h:NR n){v:Nat}{x:Node}(hx:n.nodes[v]?=some x){i:Nat}{p:Int}(hp:x.parents[i]?=some p):iD x.parents i<p/\p<n.nodes.length/\p≠(v:Int):=by
 have hm:=List.mem_of_getElem? hx
 have hpl:=h.places x hm
 have h1:=bU hpl p (List.mem_of_getElem? hp)
 have hl2:=h.l2
 refine ⟨?_,h1.2,fun e=>?_⟩
 ·unfold iD
  split
  ·omega
  ·rename_i e
   have hil:=(List.getElem?_eq_some_iff.1 hp).1
   have hq:x.parents[i - 1]?=some x.parents[i - 1]:=List.getElem?_eq_getElem (by omega)
   rw[hq,Option.getD_some]
   exact qG hpl hq (by rw[show i - 1+1=i by omega];exact hp)
 ·have hv:=(List.getElem?_eq_some_iff.1 hx).1
  have ha:=rx.1 h.acyc v (by simp[S.ak];exact hv)
  have hpar:Par (S.ak n) v=S.ax x.parents:=by simp[Par,S.ak,hx]
  have hb:(Par (S.ak n) v).testBit v=true:=by
   rw[hpar,rL fun y hy=>by have:=bU hpl y hy;omega,<-e]
   exact List.mem_of_getElem? hp
  have:=q9 (p:=S.ak n) (s:=Par (S.ak n) v) (S.ak n).length v hb
  rw[this] at ha;cases ha
section
variable {d:Nat}{n:Net}{b cv sv:AV}{q:Nat}{rows:List (List AV)}
def S.aL (n:Net)(j:Nat)(m:Nat):List Nat:=(S.ak n).take j++m::List.replicate (n.nodes.length - (j+1)) 0
structure Rd1 (n:Net) (x:Node) (b cv sv pa:AV) (q j p9 i:Nat) (t:T) (g:G):Prop where
 st:St t ((80,b)::(81,.int .i64 (n.nodes.length:Int))::(82,.int .i64 (j:Int))::(88,pa)::(8,.int .i64 (j:Int))::(9,.hptr p9 0 0 0)::(10,.int .i64 (iD x.parents i))::LRd q)
 hp:RdH n b cv sv q (S.aa n) (S.aL n j (S.ax (x.parents.take i))) g
 ok:PlI x.parents n.nodes.length j i
theorem Iw {Q:QT}{t:T}{g:G}{x:Node}{pa:AV}{j p9:Nat}{c9:List AV}(hl:n.nodes.length<=8)(hN:SlR NoP 0 .nil n.nodes b)(hx:n.nodes[j]?=some x)(hpa:SlR NoP 0 .nil x.parents pa)
  (h0:Rd1 n x b cv sv pa q j p9 0 t g) (h90:tat t 90=.int .i64 0) (h89:tat t 89=.int .i64 (x.parents.length:Int)) (e9:g.h.get p9=.cells 3 [c9] 0 false false) (p9s:vid sv≠some p9)
  (bad:∀t g,¬NR n->g.h.get 1=.cells 5 [[.int .i64 0,.nils,.nils,.nils,.nils]] 0 false false->tat t 2=.hptr 1 0 0 0->tat t 3=.int .i64 50->Q .ret t [] g)
  (fin:∀t g',Rd1 n x b cv sv pa q j p9 x.parents.length t g'->g'.h.get p9=.cells 3 [c9] 0 false false->g.nx<=g'.nx->Q (.exit 4) t [] g'):wpL (wp C0 d none lN) Q t [] g:=by
 have hjl:=(List.getElem?_eq_some_iff.1 hx).1
 have nl:=fun g=>hN.len g
 have rp:=fun h=>(hpa.tree (h':=h) (Nat.le_refl 0)).ints
 have hpsl:(S.ak n).length=n.nodes.length:=by simp[S.ak]
 have hypl:((S.ak n).take j).length=j:=by rw[List.length_take,hpsl];omega
 simp only[lN]
 refine aS (m:=x.parents.length) hpa.1 (fun i t df g'=>df=[]/\Rd1 n x b cv sv pa q j p9 i t g'/\g'.h.get p9=.cells 3 [c9] 0 false false/\g.nx<=g'.nx) ⟨rfl,h0,e9,Nat.le_refl _⟩ h90 h89 (by decide)
  (by rintro i t df g v s (rfl | rfl | rfl) ⟨a1,⟨⟨b1,b2,b3,b4,b5,b6,b7,b8,b9,b10,-⟩,c1,c2⟩,c3⟩<;>exact ⟨a1,⟨by simp[St,LRd,sx,b1,b2,b3,b4,b5,b6,b7,b8,b9,b10],c1,c2⟩,c3⟩) ?_ ?_
 ·rintro i t df g hi ⟨rfl,⟨⟨h80,h81,h82,h88,h8,h9,h10,h1,h2,h4,-⟩,hp,hok⟩,e9,en⟩ h90 h89
  obtain ⟨p,hpi,htk,-⟩:=aw hi
  have u1:i<(x.parents.map ci).length:=by simpa using hi
  have u2:(x.parents.map ci)[i]?=some (ci p):=by rw[List.getElem?_map,hpi];rfl
  have badn:¬(iD x.parents i<p/\p<n.nodes.length/\p≠(j:Int))->¬NR n:=fun h hr=>h (hr.pl hx hpi)
  have q2:=hp.q2
  by_cases c1:p<=iD x.parents i
  ·simp only[sz,simprocAttr,h2,h10,h88,h90,rp,u1,u2,ci,hp.h1,c1]
   exact bad _ _ (badn (by omega)) (by simp[H.get_put]) (by simp[sx,h2]) (by simp[sx])
  by_cases c2:(n.nodes.length:Int)<=p
  ·simp only[sz,simprocAttr,h2,h4,h10,h88,h90,rp,u1,u2,ci,hp.hq,nl,hp.h1,c1,c2]
   exact bad _ _ (badn (by omega)) (by simp[H.get_put]) (by simp[sx,h2]) (by simp[sx])
  by_cases c3:p=(j:Int)
  ·subst c3
   simp only[sz,simprocAttr,h2,h4,h8,h10,h88,h90,rp,u1,u2,ci,hp.hq,nl,hp.h1,c1,c2,eq_self]
   exact bad _ _ (badn (by omega)) (by simp[H.get_put]) (by simp[sx,h2]) (by simp[sx])
  have hok2:=Gf hok hpi (by omega) (by omega) c3
  obtain ⟨p0,-,-⟩:=hok2.rng i p (by omega) hpi
  obtain ⟨p,rfl⟩:=Int.eq_ofNat_of_zero_le p0
  have hYr:((S.aL n j (S.ax (x.parents.take i))).map cu)[j]?=some (cu (S.ax (x.parents.take i))):=by
   rw[List.getElem?_map,S.aL,List.getElem?_append_right (by omega),hypl,Nat.sub_self];rfl
  have hYl:j<((S.aL n j (S.ax (x.parents.take i))).map cu).length:=by simp[S.aL,hpsl];omega
  have hYs:(S.aL n j (S.ax (x.parents.take i))).set j (S.ax (x.parents.take (i+1)))=S.aL n j (S.ax (x.parents.take (i+1))):=by
   simp only[S.aL]
   rw[List.set_append_right _ _ (by omega),hypl,Nat.sub_self,List.set_cons_zero]
  have em:S.ax (x.parents.take (i+1))=S.ax (x.parents.take i) ||| S.au p:=by rw[htk,EH];rfl
  have hshl:bA .shl (.int .u64 1) (.int .i64 (p:Int))=.val (.int .u64 (S.au p:Int)):=gg .i64 p
  have hor:=gC (S.ax (x.parents.take i)) (S.au p) (tH _) (oR p)
  rw[<-em] at hor
  have hsr:=hp.hs.rows
  have hls:=s6 hpi
  refine eU (P:=fun t' df g'=>df=[]/\g'=g/\St t' ((80,b)::(81,.int .i64 (n.nodes.length:Int))::(82,.int .i64 (j:Int))::(88,pa)::(8,.int .i64 (j:Int))::(9,.hptr p9 0 0 0)::(10,.int .i64 (iD x.parents i))::LRd q)/\tat t' 12=.int .i64 (p:Int)/\tat t' 90=.int .i64 (i:Int)/\tat t' 89=.int .i64 (x.parents.length:Int)) ?_ ?_
  ·simp only[sz,simprocAttr,h88,h90,rp,u1,u2,ci]
   simp[St,LRd,sx,h1,h2,h4,h8,h9,h10,h80,h81,h82,h88,h89]
  clear h1 h2 h4 h8 h9 h10 h80 h81 h82 h88 h89 h90
  rintro t df g' ⟨rfl,rfl,⟨h80,h81,h82,h88,h8,h9,h10,h1,h2,h4,-⟩,h12,h90,h89⟩
  refine eU (P:=fun t' df g''=>df=[]/\g''=g'/\St t' ((80,b)::(81,.int .i64 (n.nodes.length:Int))::(82,.int .i64 (j:Int))::(88,pa)::(8,.int .i64 (j:Int))::(9,.hptr p9 0 0 0)::(10,.int .i64 (iD x.parents i))::LRd q)/\tat t' 12=.int .i64 (p:Int)/\tat t' 90=.int .i64 (i:Int)/\tat t' 89=.int .i64 (x.parents.length:Int)) ?_ ?_
  ·simp only[sz,simprocAttr,h4,h8,h10,h12,h89,h90,hp.hq,nl,c1,c2,c3]
   simp[St,LRd,sx,h1,h2,h4,h8,h9,h10,h80,h81,h82,h88]
  clear h1 h2 h4 h8 h9 h10 h12 h80 h81 h82 h88 h89 h90
  rintro t df g'' ⟨rfl,rfl,⟨h80,h81,h82,h88,h8,h9,h10,h1,h2,h4,-⟩,h12,h90,h89⟩
  simp only[sz,simprocAttr,sf,h4,h8,h12,hp.hq,hsr,hYl,hYr,cu,hshl,hor]
  refine cq (v:=sv) (sz:=1) (n:=1) (i:=j) (off:=0) (x:=.int .u64 (S.ax (x.parents.take (i+1)):Int)) (row':=cu (S.ax (x.parents.take (i+1)))) (hp.hs.fr (by simp;omega) fun i _=>by simp) hYr rfl rfl rfl fun g4 hu4 n4 f4=>?_
  rw[show (((S.aL n j (S.ax (x.parents.take i))).map cu).set j (cu (S.ax (x.parents.take (i+1)))))=(S.aL n j (S.ax (x.parents.take (i+1)))).map cu from by rw[<-List.map_set,hYs]] at hu4
  have f4':∀i,vid sv≠some i->g4.h.get i=g''.h.get i:=fun i hi=>by rw[f4 i hi];simp
  have n4':g''.nx<=g4.nx:=by rw[n4];simp;omega
  simp only[sx,sy,↓reduceIte,Nat.reduceEqDiff]
  refine ⟨?_,⟨⟨?_,⟨?_,?_,?_,?_,?_,q2,?_,hp.d1,hp.d2,hp.d3⟩,hok2⟩,?_,?_⟩,h90,h89⟩
  ·simp only[List.reverse_cons,List.reverse_nil,List.nil_append,List.cons_append]
   exact bj [false,false,false,false,false,false,false,false,false,true] [] (by simp[All2,am,aD]) (by decide) (by simp)
  ·rw[hls]
   simp[St,LRd,sx,h1,h2,h4,h8,h9,h80,h81,h82,h88]
  ·simp only[bumpG_h]
   rw[f4' 0 fun e=>by have:=(hp.hs.lt e).1;omega,hp.h0]
  ·simp only[bumpG_h]
   rw[f4' 1 fun e=>by have:=(hp.hs.lt e).1;omega,hp.h1]
  ·simp only[bumpG_h]
   rw[f4' q hp.d2,hp.hq]
  ·exact hp.hc.fr (by simp;omega) fun i hi=>by simp only[bumpG_h];exact f4' i (hp.d3 i hi)
  ·exact hu4.fr (by simp) fun i _=>by simp
  ·have:=hp.qn
   simp;omega
  ·rw[f4' p9 p9s,e9]
  ·omega
 ·rintro t df g' ⟨rfl,h,e9,en⟩
  exact fin t g' h e9 en
end
end
end Hx
end
section
namespace Hx
open Go
noncomputable section
section
variable {d:Nat}{n:Net}{b cv sv:AV}{q:Nat}{rows:List (List AV)}
structure Rd4 (n:Net) (b cv sv:AV) (q j:Nat) (t:T) (g:G):Prop where
 st:St t ((80,b)::LRd q)
 hp:RdH n b cv sv q (S.aa n) ((S.ak n).take j++List.replicate (n.nodes.length - j) 0) g
 ok:∀x∈n.nodes.take j,S.bf x.parents n.nodes.length=true/\S.aY n.grain (S.aa n) x=true
theorem IK (n:Net)(j m:Nat)(hm:m<18446744073709551616):∀y∈S.aL n j m,y<18446744073709551616:=fun y hy=>by
 simp only[S.aL,List.mem_append,List.mem_cons] at hy
 rcases hy with hy | rfl | hy
 ·obtain ⟨x,-,rfl⟩:=List.mem_map.1 (List.mem_of_mem_take hy)
  exact tH _
 ·exact hm
 ·rw[(List.mem_replicate.1 hy).2];decide
theorem Own.natsV {g:G}{b:Nat}{v:AV}{l:List Nat}(h:Own g b v 1 (l.map cu))(hl:l.length<9223372036854775808)(hb:∀y∈l,y<18446744073709551616):SlR (fun i=>vid v=some i) 0 g.h l v :=
 Own.sl (α:=Nat) h hl (by
  have:∀l:List Nat,(∀y∈l,y<18446744073709551616)->All2 (Rp.rp (α:=Nat) (fun i=>vid v=some i) 0 g.h) l (l.map cu):=fun l=>by
   induction l with
   | nil=>intro _;trivial
   | cons y l ih=>intro h;exact ⟨jU.2 ⟨rfl,h y (by simp)⟩,ih fun z hz=>h z (by simp[hz])⟩
  exact this l hb) fun _ h=>h
theorem Own.nats' {g:G}{b:Nat}{v:AV}{l:List Nat}(h:Own g b v 1 (l.map cu))(hl:l.length<9223372036854775808)(hb:∀y∈l,y<18446744073709551616):SlR (fun _=>True) 0 g.h l v :=
 (h.natsV hl hb).wd fun _ _=>⟨trivial,rfl⟩
theorem Own.intsV {g:G}{b:Nat}{v:AV}{l:List Int}(h:Own g b v 1 (l.map ci))(hl:l.length<9223372036854775808):SlR (fun i=>vid v=some i) 0 g.h l v :=
 Own.sl (α:=Int) h hl (All2.of_map (fun a=>aX.2 rfl) _) fun _ h=>h
theorem Il {n:Net}(h:NR n){x:Node}(hx:x∈n.nodes):S.aY n.grain (S.aa n) x=true:=by
 simp only[S.aY,S.aU,Bool.and_eq_true,decide_eq_true_eq,List.all_eq_true]
 exact ⟨h.rows x hx,fun r hr=>⟨⟨(h.row x hx r hr).1,(h.row x hx r hr).2.1⟩,(h.row x hx r hr).2.2⟩⟩
theorem HO {Q:QT}{t:T}{g:G}(hd:0<d)(hl:n.nodes.length<=8)(hg1:1<=n.grain/\n.grain<=60)(hcard:∀c∈S.aa n,1<=c/\c<=4)(hN:SlR NoP 0 .nil n.nodes b)(r1:∀h,af h 3 b=some rows)(r2:rows.length=n.nodes.length)
  (r3:∀(i:Nat) (x:Node),n.nodes[i]?=some x->∃pa ra,rows[i]?=some [.int .i64 x.card,pa,ra]/\i<rows.length/\SlR NoP 0 .nil x.parents pa/\SlR NoP 0 .nil x.rows ra) (r4:0<n.nodes.length->ph b=true)
  (h0:Rd4 n b cv sv q 0 t g) (h82:tat t 82=.int .i64 0) (h81:tat t 81=.int .i64 (n.nodes.length:Int))
  (bad:∀t g,¬NR n->g.h.get 1=.cells 5 [[.int .i64 0,.nils,.nils,.nils,.nils]] 0 false false->tat t 2=.hptr 1 0 0 0->tat t 3=.int .i64 50->Q .ret t [] g)
  (fin:∀t g,Rd4 n b cv sv q n.nodes.length t g->Q (.exit 2) t [] g):wpL (wp C0 d none lR) Q t [] g:=by
 simp only[lR,ql]
 refine aS (m:=n.nodes.length) (by omega) (fun j t df g=>df=[]/\Rd4 n b cv sv q j t g) ⟨rfl,h0⟩ h82 h81 (by decide)
  (by rintro j t df g v s (rfl | rfl | rfl) ⟨a1,⟨b1,b2,b3,b4,-⟩,c1,c2⟩<;>exact ⟨a1,by simp[St,LRd,sx,b1,b2,b3,b4],c1,c2⟩) ?_ ?_
 ·rintro j t df g hj ⟨rfl,⟨⟨h80,h1,h2,h4,-⟩,hp,hok⟩⟩ h82 h81
  obtain ⟨x,hx,htk,hxm⟩:=aw hj
  obtain ⟨pa,ra,q1,hlt,hpa,hra⟩:=r3 j x hx
  have hry:=r4 (by omega)
  have q2:=hp.q2
  have qn:=hp.qn
  have hpsl:(S.ak n).length=n.nodes.length:=by simp[S.ak]
  have hpj:(S.ak n)[j]?=some (S.ax x.parents):=by simp[S.ak,hx]
  obtain ⟨g2,hg2⟩:∃g2,g2=(g.new (.cells 3 [[.int .i64 0,.nils,.nils]] 0 false false)).put g.nx (.cells 3 [[.int .i64 x.card,pa,ra]] 0 false false):=⟨_,rfl⟩
  have f2:Fr g g2:=by rw[hg2];exact Jt (by simp) fun i hi=>by simp[H.get_put,show ¬i=g.nx by omega]
  have n2:g.nx<g2.nx:=by rw[hg2];simp
  have hp3:=hp.fr f2
  have f9:g2.h.get g.nx=.cells 3 [[.int .i64 x.card,pa,ra]] 0 false false:=by rw[hg2];simp[H.get_put]
  have eY:(S.ak n).take j++List.replicate (n.nodes.length - j) 0=S.aL n j (S.ax (x.parents.take 0)):=by
   rw[S.aL,show n.nodes.length - j=(n.nodes.length - (j+1))+1 by omega,List.replicate_succ];rfl
  have eY2:S.aL n j (S.ax x.parents)=(S.ak n).take (j+1)++List.replicate (n.nodes.length - (j+1)) 0:=by
   rw[S.aL,List.take_add_one,hpj,List.append_assoc];rfl
  rw[eY] at hp3
  refine bS (P:=fun t' df g'=>df=[]/\g'=g2/\St t' ((80,b)::(81,.int .i64 (n.nodes.length:Int))::(82,.int .i64 (j:Int))::(8,.int .i64 (j:Int))::(9,.hptr g.nx 0 0 0)::LRd q)) ?_ ?_
  ·simp only[sz,simprocAttr,h80,h82,r1,hlt,q1]
   rw[hg2]
   simp[St,LRd,sx,h1,h2,h4,h80,h81,h82]
  clear h1 h2 h4 h80 h81 h82
  rintro t df g3 ⟨rfl,rfl,⟨h80,h81,h82,h8,h9,h1,h2,h4,-⟩⟩
  have pl:=fun g=>hpa.len g
  simp only[sz,simprocAttr,h9,f9,pl]
  refine Iw (j:=j) (p9:=g.nx) (x:=x) (pa:=pa) (b:=b) (cv:=cv) (sv:=sv) (q:=q) hl hN hx hpa ⟨by simp[St,LRd,sx,iD,h1,h2,h4,h8,h9,h80,h81,h82],hp3,⟨fun i p hi=>by omega,fun i p r hi=>by omega⟩⟩ (by simp[sx]) (by simp[sx]) f9 (fun e=>by have:=(hp.hs.lt e).2;omega) ?_ ?_
  ·intro t g hn a1 a2 a3
   simp only[sx,sy]
   exact bad t g hn a1 a2 a3
  ·rintro t g4 ⟨⟨h80,h81,h82,h88,h8,h9,h10,h1,h2,h4,-⟩,hp4,hpl⟩ f94 n4
   rw[List.take_length] at hp4
   have hplc:=AE hpl
   have hpin:∀p∈x.parents,0<=p/\p<((S.aa n).length:Int):=fun p hp=>by rw[aM];exact bU hplc p hp
   have hpll:=nI hplc (by omega)
   have hyl:(S.aL n j (S.ax x.parents)).length<=8:=by simp[S.aL,hpsl];omega
   have hm:Agg ((n,S.aa n,S.aL n j (S.ax x.parents),[]):NwM) (fun _=>True) 0 g4.h (.agg [.int .i64 n.grain,b,cv,sv,.nils]) :=
    ⟨_,rfl,sN.2 ⟨b,cv,sv,.nils,rfl,hN.wide (Nat.le_refl 0),Own.sl (α:=Int) hp4.hc (by rw[aM];omega) (All2.of_map (fun a=>aX.2 rfl) _) fun _ _=>trivial,hp4.hs.nats' (by omega) (IK n j _ (tH _)),⟨by show 0<9223372036854775808;decide,rfl⟩⟩⟩
   have hxa:Agg x NoP 0 g4.h (.agg [.int .i64 x.card,pa,ra]):=⟨_,rfl,eN.2 ⟨pa,ra,rfl,hpa.tree (Nat.le_refl 0),hra.tree (Nat.le_refl 0)⟩⟩
   have hfl:=DE (d:=d) (g:=g4) hd hm hxa ⟨rfl,rfl⟩ hg1 hcard hpin (by omega)
   have hfl:aA C0 d N.aF [.agg [.int .i64 n.grain,b,cv,sv,.nils],.agg [.int .i64 x.card,pa,ra]] g4=.val (.bool (S.aY n.grain (S.aa n) x)):=hfl
   cases hf:S.aY n.grain (S.aa n) x with
   | false =>
    rw[hf] at hfl
    simp only[sz,simprocAttr,me,h2,h4,h9,hp4.hq,hp4.h1,f94,hfl]
    refine bad _ _ (fun hr=>?_) (by simp[H.get_put]) (by simp[sx,h2]) (by simp[sx])
    have:=Il hr hxm
    rw[hf] at this;cases this
   | true =>
    rw[hf] at hfl
    simp only[sz,simprocAttr,me,h4,h9,hp4.hq,f94,hfl]
    rw[eY2] at hp4
    refine ⟨⟨by simp[St,LRd,sx,h1,h2,h4,h80],hp4,fun y hy=>?_⟩,by simp[h82],by simp[h81]⟩
    rw[htk] at hy
    rcases List.mem_append.1 hy with h | h
    ·exact hok y h
    ·rw[List.mem_singleton.1 h];exact ⟨hplc,hf⟩
 ·rintro t df g ⟨rfl,h⟩
  exact fin t g h
end
theorem Fn (n:Net):Snb (Ah n) 2:=lB fun o=>eI (m:=2) (gu _) (bc _) (by decide) (by decide)
theorem x6 {d:Nat}{g:G}{v:AV}{n:Net}(hd:0<d)(hm:Agg n NoP 0 g.h v):∃r,aA C0 d N.aq [v] g=.val r/\Ah n NoP 0 .nil r:=by
 obtain ⟨b,rows,rfl,e,hm',hN,r1,r2,r3,r4⟩:=mJ d hm
 rw[vP]
 refine bD Ak (xs:=[.agg [.int .i64 n.grain,b]]) (by simp only[aG,e]) (by simp[kV]) (Fn n) (by decide) hd ?_
 have nl:=fun g=>hN.len g
 simp only[sz,simprocAttr,kV]
 obtain ⟨g0,hg0⟩:∃g0,g0=(G.empty.new (.cells 2 [[.int .i64 n.grain,b]] 0 false false)).new (.cells 5 [[.int .i64 0,.nils,.nils,.nils,.nils]] 0 false false):=⟨_,rfl⟩
 rw[<-hg0]
 have f0:g0.h.get 0=.cells 2 [[.int .i64 n.grain,b]] 0 false false:=by rw[hg0];simp[sx,H.get_put]
 have f1:g0.h.get 1=.cells 5 [[.int .i64 0,.nils,.nils,.nils,.nils]] 0 false false:=by rw[hg0];simp[sx]
 have f2:g0.nx=2:=by rw[hg0];simp[sx]
 clear hg0
 obtain ⟨Qf,hQf⟩:∃Qf,Qf=fnQ C0 (d+1) [SR.cell true 5 2,SR.tm 3] (fun v g'=>∃P,Ah n P 0 g'.h v):=⟨_,rfl⟩
 have bad:∀(t:T) (g:G),¬NR n->g.h.get 1=.cells 5 [[.int .i64 0,.nils,.nils,.nils,.nils]] 0 false false->tat t 2=.hptr 1 0 0 0->tat t 3=.int .i64 50->Qf .ret t [] g:=fun t g hn a1 a2 a3=>by
  rw[hQf];exact Kk hn a1 a2 a3
 rw[<-hQf]
 simp only[rF]
 by_cases c1:n.grain<1
 ·rw[du]
  simp only[sz,simprocAttr,f0,f1,c1]
  exact bad _ _ (fun h=>by have:=h.g1;omega) (by simp[H.get_put]) (by simp[sx]) (by simp[sx])
 by_cases c2:60<n.grain
 ·rw[du]
  simp only[sz,simprocAttr,f0,f1,c1,c2]
  exact bad _ _ (fun h=>by have:=h.g2;omega) (by simp[H.get_put]) (by simp[sx]) (by simp[sx])
 by_cases c3:(n.nodes.length:Int)<1
 ·rw[du]
  simp only[sz,simprocAttr,f0,f1,c1,c2,c3,nl]
  exact bad _ _ (fun h=>by have:=h.l1;omega) (by simp[H.get_put]) (by simp[sx]) (by simp[sx])
 by_cases c4:8<(n.nodes.length:Int)
 ·rw[du]
  simp only[sz,simprocAttr,f0,f1,c1,c2,c3,c4,nl]
  exact bad _ _ (fun h=>by have:=h.l2;omega) (by simp[H.get_put]) (by simp[sx]) (by simp[sx])
 refine eU (P:=fun t' df g'=>df=[]/\g'=g0/\St t' [(1,.hptr 0 0 0 0),(2,.hptr 1 0 0 0)]) ?_ ?_
 ·simp only[sz,simprocAttr,f0,c1,c2,c3,c4,nl]
  simp[St,sx]
 rintro t df g1 ⟨rfl,rfl,h1,h2,-⟩
 have hl8:n.nodes.length<=8:=by omega
 refine eU (P:=fun t' df g'=>df=[]/\∃cv sv q,St t' (LRd q)/\RdH n b cv sv q (List.replicate n.nodes.length 0) (List.replicate n.nodes.length 0) g') ?_ ?_
 ·simp only[sz,simprocAttr,sf,h1,f0,nl]
  refine mw (b:=2) (n:=n.nodes.length) (by unfold bh;omega) (by unfold bh;omega) (by first | (simp;done) | (simp;omega)) fun cv g2 hcv n2 fr2 v2 lg2=>?_
  simp only[sy] at n2 fr2 v2 lg2
  have k0:g2.h.get 0=.cells 2 [[.int .i64 n.grain,b]] 0 false false:=by rw[fr2 0 (by omega),f0]
  simp only[sz,simprocAttr,sf,h1,k0,nl,lg2]
  refine mw (b:=2) (n:=n.nodes.length) (by unfold bh;omega) (by unfold bh;omega) (by first | (simp;done) | (simp;omega)) fun sv g3 hsv n3 fr3 v3 lg3=>?_
  simp only[sy] at n3 fr3 v3 lg3
  simp only[sz,simprocAttr,sf,lg3,hcv.cell.1,hcv.cell.2,hsv.cell.1,hsv.cell.2]
  refine ⟨?_,cv,sv,g3.nx+1+1,?_,?_⟩
  ·simp only[List.reverse_cons,List.reverse_nil,List.nil_append,List.cons_append,G.new_lg,G.put_lg,setLog_lg]
   refine bj [false,false,false,false,true,false,false,false,true,false,true,true] [(0,4),(4,5),(4,6),(4,7),(0,8),(1,8),(2,8),(3,8),(4,8),(0,10),(1,10),(2,10),(3,10),(4,10),(5,10),(6,10),(7,10),(8,10),(9,10)] (by simp[All2,am,aD]) (by decide) ?_
   rintro p hp x y hx hy
   simp only[List.mem_cons,List.not_mem_nil,or_false] at hp
   rcases hp with rfl | rfl | rfl | rfl | rfl | rfl | rfl | rfl | rfl | rfl | rfl | rfl | rfl | rfl | rfl | rfl | rfl | rfl | rfl<;>(simp at hx hy;subst hx;subst hy;refine iT rfl rfl rfl rfl ?_ ?_ ?_<;>simp[am,aD,ae]<;>omega)
  ·simp[St,LRd,sx,h1,h2]
  ·have fa:∀i,i<g2.nx->g3.h.get i=g2.h.get i:=fun i hi=>by have:=fr3 i (by omega);simpa using this
   have fb:∀i,i<g1.nx->g2.h.get i=g1.h.get i:=fun i hi=>by have:=fr2 i (by omega);simpa using this
   have hcv':Own g2 2 cv 1 ((List.replicate n.nodes.length (0:Int)).map ci):=by simpa [ci] using hcv
   have hsv':Own g3 2 sv 1 ((List.replicate n.nodes.length (0:Nat)).map cu):=by simpa [cu] using hsv
   have hne:∀i,i<g3.nx->¬i=g3.nx+1+1:=fun i hi=>by omega
   refine ⟨?_,?_,?_,hcv'.fr (by simp;omega) fun i hi=>?_,hsv'.fr (by simp;omega) fun i hi=>?_,by omega,by first | (simp;done) | (simp;omega),fun e=>?_,fun e=>?_,fun i hi hi2=>?_⟩
   ·simp[H.get_put]
    rw[fa 0 (by omega),k0]
   ·simp[H.get_put]
    rw[fa 1 (by omega),fb 1 (by omega),f1]
   ·simp[H.get_put]
   ·have:=eW v2 hi
    simp[H.get_put,hne i (by omega)]
    rw[fa i (by omega)]
   ·have:=eW v3 hi
    simp[H.get_put,hne i (by omega)]
   ·have:=eW v2 e;omega
   ·have:=eW v3 e;omega
   ·have:=eW v2 hi
    have:=eW v3 hi2
    omega
 rintro t df g ⟨rfl,cv,sv,q,⟨h1,h2,h4,-⟩,hp⟩
 clear f0 f1 f2
 have nlen:=nl g
 simp only[sz,simprocAttr,h4,hp.hq,nl]
 refine In (b:=b) (cv:=cv) (sv:=sv) (q:=q) hl8 hN r1 r2 r3 r4 ⟨by simp[St,LRd,sx,S.ae,h1,h2,h4],by simpa using hp,by simp⟩ (by simp[sx]) (by simp[sx]) ?_ ?_
 ·intro t g hn a1 a2 a3
  simp only[sx]
  exact bad t g hn a1 a2 a3
 clear h1 h2 h4 hp nlen
 rintro t g ⟨⟨h48,h5,h1,h2,h4,-⟩,hp,hok⟩
 rw[List.take_of_length_le (by rw[aM];exact Nat.le_refl _)] at h5 hp
 rw[Nat.sub_self,List.replicate_zero,List.append_nil] at hp
 rw[List.take_length] at hok
 have hcb:∀c∈S.aa n,1<=c/\c<=4:=fun c hc=>by
  obtain ⟨y,hy,rfl⟩:=List.mem_map.1 hc
  exact hok y hy
 simp only[sz,simprocAttr,qc]
 by_cases d1:1024<S.ae (S.aa n)
 ·simp only[sz,simprocAttr,h2,h5,hp.h1,d1]
  exact bad _ _ (fun h=>by have:=h.worlds;omega) (by simp[H.get_put]) (by simp[sx,h2]) (by simp[sx])
 simp only[sz,simprocAttr,h4,h5,hp.hq,nl,d1]
 refine HO (b:=b) (cv:=cv) (sv:=sv) (q:=q) (Nat.succ_pos d) hl8 (by omega) hcb hN r1 r2 r3 r4 ⟨by simp[St,LRd,sx,h1,h2,h4],by simpa using hp,by simp⟩ (by simp[sx]) (by simp[sx]) ?_ ?_
 ·intro t g hn a1 a2 a3
  simp only[sx]
  exact bad t g hn a1 a2 a3
 clear h1 h2 h4 h48 h5 hp
 rintro t g ⟨⟨h80,h1,h2,h4,-⟩,hp,hok2⟩
 rw[List.take_of_length_le (by simp[S.ak])] at hp
 rw[Nat.sub_self,List.replicate_zero,List.append_nil] at hp
 rw[List.take_length] at hok2
 have hpsl:(S.ak n).length=n.nodes.length:=by simp[S.ak]
 have hplt:∀y∈S.ak n,y<18446744073709551616:=fun y hy=>by
  obtain ⟨x,-,rfl⟩:=List.mem_map.1 hy
  exact tH _
 have hplt2:∀y∈S.ak n,y<2 ^ (S.ak n).length:=fun y hy=>by
  obtain ⟨x,hx,rfl⟩:=List.mem_map.1 hy
  rw[hpsl]
  exact zD (by omega) fun z hz=>bU (hok2 x hx).1 z hz
 obtain ⟨z,ez,o,-,oz,az,rfl,hoz,haz⟩:=EJ (d:=d+1) (g:=g) (Nat.succ_pos d) (hp.hs.nats' (by omega) hplt) (by omega) hplt2
 have haz:=dU.1 haz
 injection haz with haz
 subst haz
 obtain ⟨_,e1,hoz⟩:=hoz
 injection e1 with e1;subst e1
 cases hac:S.aZ (S.ak n) with
 | false =>
  rw[hac] at ez
  simp only[sz,simprocAttr,lV,h2,h4,hp.hq,hp.h1,ez]
  exact bad _ _ (fun h=>by have:=h.acyc;rw[hac] at this;cases this) (by simp[H.get_put]) (by simp[sx,h2]) (by simp[sx])
 | true =>
  rw[hac] at ez
  have hnr:S.aQ n=true:=fJ.2 ⟨by omega,by omega,by omega,by omega,hok,fun x hx=>(hok2 x hx).1,by omega,hac,fun x hx=>by
   have:=(hok2 x hx).2
   simp only[S.aY,Bool.and_eq_true,decide_eq_true_eq] at this
   exact this.1,fun x hx r hr=>by
   have:=(hok2 x hx).2
   simp only[S.aY,S.aU,Bool.and_eq_true,decide_eq_true_eq,List.all_eq_true] at this
   have:=this.2 r hr
   exact ⟨this.1.1,this.1.2,this.2⟩⟩
  have q2:=hp.q2
  have hq1:¬(1=q):=by omega
  have hq0:¬(q=1):=by omega
  have oc:=hoz.cell
  rw[hQf]
  simp only[sz,simprocAttr,lV,h2,h4,hp.hq,hp.h1,ez,hq1,oc.1,oc.2]
  have fh:∀i,¬i=1->¬i=q->((g.h.put q (.cells 5 [[.int .i64 n.grain,b,cv,sv,oz]] 0 false false)).put 1 (.cells 5 [[.int .i64 n.grain,b,cv,sv,oz]] 0 false false)).get i=g.h.get i:=fun i hi hi2=>by simp[H.get_put,hi,hi2]
  refine ⟨fun _=>True,o,trivial,_,_,rfl,⟨_,rfl,?_⟩,?_⟩
  ·rw[S.bK,if_pos hnr]
   refine sN.2 ⟨b,cv,sv,oz,rfl,hN.wide (Nat.le_refl 0),(hp.hc.intsV (by rw[aM];omega)).wd fun i hi=>⟨trivial,fh i (by have:=(hp.hc.lt hi).1;omega) fun e=>hp.d1 (by rw[hi,e])⟩,(hp.hs.natsV (by omega) hplt).wd fun i hi=>⟨trivial,fh i (by have:=(hp.hs.lt hi).1;omega) fun e=>hp.d2 (by rw[hi,e])⟩,hoz.wide (Nat.le_refl 0)⟩
  ·rw[if_pos hnr];exact aX.2 rfl
end
end Hx
end
section
namespace Hx
open Go
noncomputable section
theorem AG {n:Net}{o:List Int}(h:S.aQ n=true):S.bK n o=(n,S.aa n,S.ak n,o):=by rw[S.bK,if_pos h]
theorem oJ {n:Net}{P:Nat->Prop}{k:Nat}{h:H}{v:AV}(hv:Ah n P k h v) :
  (S.aQ n=false/\∃cs,v=.tup [.agg cs,.int .i64 50]/\cs.length=5) \/
  (S.aQ n=true/\∃b cv sv oz o,v=.tup [.agg [.int .i64 n.grain,b,cv,sv,oz],.int .i64 0]/\SlR P k h n.nodes b/\SlR P k h (S.aa n) cv/\SlR P k h (S.ak n) sv/\SlR P k h (o:List Int) oz):=by
 obtain ⟨o,-,a,c,rfl,⟨cs,rfl,hc⟩,hi⟩:=hv
 have hi:=aX.1 hi
 injection hi with hi
 subst hi
 cases hn:S.aQ n with
 | false =>
  refine .inl ⟨rfl,cs,rfl,?_⟩
  obtain ⟨a,b,c,e,rfl,-⟩:=sN.1 hc
  rfl
 | true =>
  rw[AG hn] at hc
  obtain ⟨a,b,c,e,rfl,h1,h2,h3,h4⟩:=sN.1 hc
  exact .inr ⟨rfl,a,b,c,e,o,rfl,h1,h2,h3,h4⟩
theorem GZ {d k2:Nat}{g:G}{P2:Nat->Prop}{v w:AV}{n:Net}{e:List Int}(hd:0<d)(hm:Agg n NoP 0 g.h v)(he:SlR P2 k2 g.h e w):aA C0 d N.aS [v,w] g=.val (.int .i64 (S.a8 n e)):=by
 obtain ⟨w',e2,hw'⟩:=jM he d
 obtain ⟨b,rows,rfl,e1,hm',hN,r1,r2,r3,r4⟩:=mJ d hm
 have n2:=fun g=>(hw' .nil).len g
 have rb:=fun h=>(hw' h).ints
 rw[na]
 refine np oe (xs:=[.agg [.int .i64 n.grain,b],w']) (by simp only[aG,e1,e2]) (by simp[fp]) hd ?_
 have hle:=he.1
 simp only[sz,simprocAttr,fp,ic,gZ]
 obtain ⟨z,ez,hz⟩:=x6 (d:=d+1) (g:=G.empty.new (.cells 2 [[.int .i64 n.grain,b]] 0 false false)) (Nat.succ_pos d) (n:=n) (v:=.agg [.int .i64 n.grain,b]) (hm' _)
 rcases oJ hz with ⟨hn,cs,rfl,hcs⟩ | ⟨hn,b',cv,sv,oz,o,rfl,hb,hcv,-,-⟩
 ·have hs:S.a8 n e=50:=by rw[S.a8,hn];rfl
  obtain ⟨a1,a2,a3,a4,a5,rfl⟩:∃a1 a2 a3 a4 a5,cs=[a1,a2,a3,a4,a5]:=by
   match cs,hcs with
   | [a1,a2,a3,a4,a5],_=>exact ⟨a1,a2,a3,a4,a5,rfl⟩
  simp only[sz,simprocAttr,ez,hs,show ¬((50:Int)=0) from by decide]
 ·have nb:=fun g=>(hb.tree (h':=g) (Nat.le_refl 0)).len
  have hbl:=hb.1
  have rc:=fun h=>(hcv.tree (h':=h) (Nat.le_refl 0)).ints
  have hcl:=aM n
  by_cases hl:e.length=n.nodes.length
  ·have hl':(e.length:Int)=(n.nodes.length:Int):=by rw[hl]
   simp only[sz,simprocAttr,ez,n2,hb.len,hl]
   refine aS (m:=n.nodes.length) (by omega) (fun j t df g=>df=[]/\St t [(24,w'),(5,.hptr 1 0 0 0),(4,.int .i64 0)]/\g.h.get 1=.cells 5 [[.int .i64 n.grain,b',cv,sv,oz]] 0 false false/\((List.range j).all fun v=>decide (-1<=e[v]?.getD 0)&&decide (e[v]?.getD 0<(S.aa n)[v]?.getD 0))=true)
    ⟨rfl,by simp[St,sx],by simp[sx],by simp⟩ (by simp[sx]) (by simp[sx]) (by decide) (by rintro j t df g v s (rfl | rfl | rfl)<;>simp[St,sx]) ?_ ?_
   ·rintro j t df g hj ⟨rfl,⟨h24,h5,h4,-⟩,hg,ha⟩ h26 h25
    obtain ⟨y,hy,-,-⟩:=aw (l:=e) (j:=j) (by omega)
    obtain ⟨c,hc,-,-⟩:=aw (l:=S.aa n) (j:=j) (by omega)
    have u1:j<(e.map ci).length:=by simp;omega
    have u2:(e.map ci)[j]?=some (ci y):=by rw[List.getElem?_map,hy];rfl
    have u3:j<((S.aa n).map ci).length:=by simp;omega
    have u4:((S.aa n).map ci)[j]?=some (ci c):=by rw[List.getElem?_map,hc];rfl
    have hst:((List.range (j+1)).all fun v=>decide (-1<=e[v]?.getD 0)&&decide (e[v]?.getD 0<(S.aa n)[v]?.getD 0))=(decide (-1<=y)&&decide (y<c)):=by
     rw[List.range_succ,List.all_append,ha]
     simp[hy,hc]
    have bad:(decide (-1<=y)&&decide (y<c))=false->S.a8 n e=2:=fun h=>by
     have h1:S.bo n e=false:=by
      rw[S.bo]
      have:((List.range e.length).all fun v=>decide (-1<=e[v]?.getD 0)&&decide (e[v]?.getD 0<(S.aa n)[v]?.getD 0))=false:=by
       rw[<-Bool.not_eq_true,List.all_eq_true]
       intro h2
       have:=h2 j (List.mem_range.2 (by omega))
       rw[hy,hc,Option.getD_some,Option.getD_some,h] at this
       cases this
      rw[this,Bool.and_false]
     rw[S.a8,hn,h1];rfl
    by_cases c1:y < -1
    ·have:=bad (by simp;omega)
     simp only[sz,simprocAttr,h24,h26,rb,u1,u2,ci,c1,this]
    ·by_cases c2:c<=y
     ·have:=bad (by simp;omega)
      simp only[sz,simprocAttr,h24,h5,h26,hg,rb,rc,u1,u2,u3,u4,ci,c1,c2,this]
     ·have h3:((List.range (j+1)).all fun v=>decide (-1<=e[v]?.getD 0)&&decide (e[v]?.getD 0<(S.aa n)[v]?.getD 0))=true:=by rw[hst];simp;omega
      simp only[sz,simprocAttr,h24,h5,h4,h26,h25,hg,rb,rc,u1,u2,u3,u4,ci,c1,c2,St,h3]
   ·rintro t df g ⟨rfl,⟨h24,h5,h4,-⟩,hg,ha⟩
    have h1:S.bo n e=true:=by rw[S.bo,hl,decide_eq_true rfl,ha];rfl
    have hs:S.a8 n e=0:=by rw[S.a8,hn,h1];rfl
    simp only[sz,simprocAttr,gL,hs]
  ·have hl':¬((e.length:Int)=(n.nodes.length:Int)):=by omega
   have h1:S.bo n e=false:=by rw[S.bo,decide_eq_false hl];rfl
   have hs:S.a8 n e=2:=by rw[S.a8,hn,h1];rfl
   simp only[sz,simprocAttr,ez,n2,hb.len,hl',hs]
theorem HI {d:Nat}{g:G}{x:Int}(hd:0<d):aA C0 d N.ax [.int .i64 x] g=.val (.bool false):=by
 rw[qT]
 refine mP tA (xs:=[.int .i64 x]) (by simp only[aG,dT 0]) (by simp[kh]) hd ?_
 simp only[sz,simprocAttr,kh]
theorem HE {d:Nat}{g:G}{x:Int}(hd:0<d):aA C0 d N.aD [.int .i64 x] g=.val (.bool false):=by
 rw[pc]
 refine mP qo (xs:=[.int .i64 x]) (by simp only[aG,dT 0]) (by simp[gX]) hd ?_
 simp only[sz,simprocAttr,gX]
theorem HV {d:Nat}{g:G}{x y:Int}(hd:0<d):aA C0 d N.aP [.int .i64 x,.int .i64 y] g=.val (.bool (decide (x<y))):=by
 rw[sK]
 refine mP vz (xs:=[.int .i64 x,.int .i64 y]) (by simp only[aG,dT 0]) (by simp[lU]) hd ?_
 simp only[sz,simprocAttr,lU,HI (Nat.succ_pos d)]
theorem GR {i j:Nat}(h:i+j<9223372036854775808):bA .shr (.int .u64 ((i+j:Nat):Int)) (.int .u64 1)=.val (.int .u64 (((i+j) / 2:Nat):Int)):=bJ .u64 (i+j) 1 (by omega)
theorem Dr {d k:Nat}{g:G}{P:Nat->Prop}{v:AV}{l:List Int}{x:Int}(hd:0<d)(hv:SlR P k g.h l v)(hl:l.length<=1000):∃(p:Nat) (b:Bool),p<=l.length/\aA C0 d N.aA [v,.int .i64 x] g=.val (.tup [.int .i64 (p:Int),.bool b]):=by
 obtain ⟨v',e,hv'⟩:=jM hv d
 have nl:=fun g=>(hv' .nil).len g
 have rl:=fun h=>(hv' h).ints
 have key:∃r,aA C0 d N.aA [v,.int .i64 x] g=.val r/\(fun P k h v=>∃o:Nat×Bool,o.1<=l.length/\rA (One (o.1:Int)) (One o.2) P k h v) NoP 0 .nil r:=by
  rw[io]
  refine bD jj (xs:=[v',.int .i64 x]) (by simp only[aG,e,dT 0]) (by simp[ck]) (lB fun o=>eI (m:=1) (bc _) (bc _) (by decide) (by decide)) (by decide) hd ?_
  simp only[sz,simprocAttr,ck,nl]
  refine nH (fun m t df g=>df=[]/\∃i j:Nat,m=j - i/\i<=j/\j<=l.length/\St t [(0,v'),(1,.int .i64 x),(6,.int .i64 (l.length:Int)),(7,.int .i64 (i:Int)),(8,.int .i64 (j:Int))]) l.length
   ⟨rfl,0,l.length,rfl,Nat.zero_le _,Nat.le_refl _,by simp[St,sx]⟩ ?_
  rintro m t df g ⟨rfl,i,j,rfl,hij,hj,h0,h1,h6,h7,h8,-⟩
  simp only[sz,simprocAttr,di,h7,h8]
  refine jz (fun hb=>?_) (fun hb=>?_)
  ·have hb:i<j:=by simpa using hb
   have w1:IntKind.wrap .i64 ((i:Int)+(j:Int))=((i+j:Nat):Int):=by rw[aH (by omega) (by omega)];simp
   have w2:IntKind.wrap .u64 ((i+j:Nat):Int)=((i+j:Nat):Int):=lF (by omega) (by omega)
   have hm:(i+j) / 2<l.length:=by omega
   have hm1:i<=(i+j) / 2:=by omega
   have hm2:(i+j) / 2<j:=by omega
   have hsh:=GR (i:=i) (j:=j) (by omega)
   generalize (i+j) / 2=c at hm hm1 hm2 hsh
   have w3:IntKind.wrap .i64 (c:Int)=(c:Int):=aH (by omega) (by omega)
   have w4:IntKind.wrap .i64 ((c:Int)+1)=((c+1:Nat):Int):=by rw[aH (by omega) (by omega)];simp
   obtain ⟨y,hy,-,-⟩:=aw (l:=l) (j:=c) hm
   have u1:c<(l.map ci).length:=by simpa using hm
   have u2:(l.map ci)[c]?=some (ci y):=by rw[List.getElem?_map,hy];rfl
   simp only[sz,simprocAttr,h0,h1,h7,h8,w1,w2,hsh,w3,rl,u1,u2,ci,HV (Nat.succ_pos d)]
   refine jz (fun hb=>?_) (fun hb=>?_)
   ·simp only[sz,simprocAttr,w4]
    exact ⟨j - (c+1),by omega,c+1,j,rfl,by omega,hj,by simp[St,sx,h0,h1,h6,h8]⟩
   ·simp only[sz,simprocAttr]
    exact ⟨c - i,by omega,i,c,rfl,by omega,by omega,by simp[St,sx,h0,h1,h6,h7]⟩
  ·simp only[sz,simprocAttr,cS,h6,h7]
   have hil:i<=l.length:=by omega
   by_cases c1:i<l.length
   ·obtain ⟨y,hy,-,-⟩:=aw (l:=l) (j:=i) c1
    have u1:i<(l.map ci).length:=by simpa using c1
    have u2:(l.map ci)[i]?=some (ci y):=by rw[List.getElem?_map,hy];rfl
    have c2:(i:Int)<(l.length:Int):=by omega
    cases hq:decide (y=x) with
    | true =>
     simp only[sz,simprocAttr,h0,h1,h7,c2,rl,u1,u2,ci,hq]
     exact ⟨fun _=>True,(i,true),hil,_,_,rfl,aX.2 rfl,dU.2 rfl⟩
    | false =>
     simp only[sz,simprocAttr,h0,h1,h7,c2,rl,u1,u2,ci,hq,HE (Nat.succ_pos d)]
     exact ⟨fun _=>True,(i,false),hil,_,_,rfl,aX.2 rfl,dU.2 rfl⟩
   ·have c2:¬((i:Int)<(l.length:Int)):=by omega
    simp only[sz,simprocAttr,c2]
    exact ⟨fun _=>True,(i,false),hil,_,_,rfl,aX.2 rfl,dU.2 rfl⟩
 obtain ⟨r,hr,⟨p,b⟩,hp,a,c,rfl,ha,hc⟩:=key
 have ha:=aX.1 ha
 have hc:=dU.1 hc
 injection ha with ha
 injection hc with hc
 exact ⟨p,b,hp,by rw[hr,ha,hc]⟩
theorem l_ (d:Nat)(xs:List AV)(g:G):aA C0 d N.a8 xs g=iG d xs g:=by kernel_rfl
def CloneR (b:Nat)(l:List Int)(u:AV)(g:G):Prop:=(l=[]/\u=.nils)\/∃id lo,b<=id/\id<g.nx/\u=.hsl id 0 0 l.length none/\g.h.get id=.cells 1 (l.map ci) 0 lo false/\(0<l.length->lo=true)/\(l.length=0->lo=false)
theorem CloneR.fr {b:Nat}{l:List Int}{u:AV}{g g':G}(h:CloneR b l u g)(f:Fr g g'):CloneR b l u g':=by
 rcases h with h | ⟨id,lo,h1,h2,h3,h4,h5⟩
 ·exact .inl h
 ·exact .inr ⟨id,lo,h1,Nat.lt_of_lt_of_le h2 f.1,h3,by rw[f.2 id h2,h4],h5⟩
theorem x8 {g:G}{id:Nat}{x:AV}{l:List Int}{K:AV->G->Prop}{D:ADf->Prop}(hx:af g.h 1 x=some (l.map ci))(h3:g.h.get id=.cells 1 [] 0 false false)(hid:id<g.nx)(hr:l.length<=1000)
  (k:∀u g',CloneR id l u g'->Fr g g'->K u g'):(dq 1 8 (.hsl id 0 0 0 none) x g).sat K g D:=by
 unfold dq
 rw[hx]
 cases l with
 | nil =>
  simp only[aZ,G.get_eq,h3,an,aa,Nat.beq_refl,Bool.true_and,Nat.ble_eq,Bool.and_eq_true,List.map_nil,List.length_nil]
  rw[if_pos ⟨by simp,by simp⟩,if_pos (by simp)]
  exact k _ _ (.inr ⟨id,false,Nat.le_refl _,hid,rfl,by simpa using h3,by simp,by simp⟩) (Fr.refl g)
 | cons y l =>
  simp only[aZ,G.get_eq,h3,an,aa,Nat.beq_refl,Bool.true_and,Nat.ble_eq,Bool.and_eq_true,List.map_cons,List.length_cons,List.length_nil,List.length_map,Nat.zero_add,Option.getD_none,Nat.sub_zero]
  rw[if_pos ⟨by omega,by unfold bh;simp at hr;omega⟩,if_neg (by omega),if_pos (by rfl)]
  refine k _ _ (.inr ⟨g.nx,true,by omega,by simp,by simp,?_,by simp,by simp⟩) (Fr.new g _)
  simp[bf,aY,aW]
theorem Eh {d:Nat}{g:G}{l:List Int}{v:AV}{K:AV->G->Prop}{D:ADf->Prop}(hv:SlR NoP 0 .nil l v)(hl2:l.length<=1000)(kk:∀u g',CloneR g.nx l u g'->Fr g g'->K u g') :
  (aA C0 d N.aJ [v] g).sat K g D:=by
 rw[mH]
 refine Ge (K':=fun u g''=>CloneR g.nx l u g'') (D2:=fun _=>True) ?_ ?_ fun v g'' g' hv hf hn hg _=>kk v g' ?_ hf
 ·rw[List.flatMap_cons,Kp (hv.tree (h':=g.h) (Nat.le_refl 0))];rfl
 ·refine B4 m_ (by simp[cI]) ?_
  by_cases hn:v=.nils
  ·subst hn
   have hl:l=[]:=by
    have h:=hv.2
    unfold SlV at h
    exact h
   have hne:GM false .slice .nils .nils=.val (.bool true):=rfl
   simp only[sz,simprocAttr,cI,hne]
   exact .inl ⟨hl,rfl⟩
  ·have hne:GM false .slice v .nils=.val (.bool false):=by
    have h:=hv.2
    unfold SlV at h
    split at h
    ·exact absurd rfl hn
    ·rfl
    ·rfl
    ·exact h.1.elim
    ·exact h.elim
   simp only[sz,simprocAttr,cI,hne]
   refine x8 (l:=l) ((hv.tree (Nat.le_refl _)).ints) (by simp[H.get_put]) (by simp) hl2 fun u g1 hu f1=>?_
   simp only[sz,simprocAttr]
   exact hu
 ·rcases hv with h | ⟨id,lo,h1,h2,h3,h4,h5⟩
  ·exact .inl h
  ·exact .inr ⟨id,lo,h1,by omega,h3,by rw[hg id (by rw[h4];simp),h4],h5⟩
theorem pM (ps:List Int)(k:Nat)(v:Int)(hk:k<=ps.length):(S.aA ps k v).length=ps.length+1:=by simp[S.aA];omega
theorem AX {d b p id2 ep2:Nat}{g:G}{l:List Int}{u:AV}{x:Int}{lim:Option Nat}{lo fz:Bool}(hu:CloneR b l u g)(hl:l.length<=1000)(hp:p<=l.length)(h2:g.h.get id2=.cells 1 [ci x] ep2 lo fz)(hne:∀i,vid u=some i->i≠id2)(hb:b<=g.nx) :
  ∃w g',aA C0 d N.a8 [u,.int .i64 (p:Int),.hsl id2 ep2 0 1 lim] g=.upd w g'/\Own g' b w 1 ((S.aA l p x).map ci)/\g.nx<=g'.nx/\(∀i,i<g.nx->vid u≠some i->g'.h.get i=g.h.get i):=by
 rw[l_]
 have e0:iG d [u,.int .i64 (p:Int),.hsl id2 ep2 0 1 lim] g=tp id2 p u [ci x] g:=by
  show (match g.get id2 with
   | .cells sz2 vrows ep2' _ _=>ak ((((Nat.beq sz2 1&&Nat.beq ep2 ep2')&&Nat.beq 0 0)&&Nat.beq 1 (a9 vrows))&&Nat.ble 1 1) (tp id2 p u vrows g) .fail
   | _=>.fail)=_
  rw[G.get_eq,h2]
  dsimp only
  rw[aa,if_pos]
  simp[an]
 rw[e0]
 have hnew:p=0->l=[]->∃w g',nf p [ci x] g=.upd w g'/\Own g' b w 1 ((S.aA l p x).map ci)/\g.nx<=g'.nx/\(∀i,i<g.nx->vid u≠some i->g'.h.get i=g.h.get i):=fun h1 h2=>by
  subst h1;subst h2
  refine ⟨.hsl g.nx 0 0 1 none,g.new (.cells 1 [ci x] 0 true false),?_,.inr ⟨g.nx,0,true,hb,by simp,rfl,by simp[bf,S.aA]⟩,by simp,fun i hi _=>?_⟩
  ·unfold nf
   rw[aa,if_pos]
   ·rfl
   ·simp[an]
  ·rw[G.new_h,aU _ _ _ (by omega)]
 rcases hu with ⟨rfl,rfl⟩ | ⟨id,lo2,h3,h4,rfl,h5,h6,h7⟩
 ·exact hnew (by simpa using hp) rfl
 ·cases l with
  | nil =>
   have e1:tp id2 p (.hsl id 0 0 ([]:List Int).length none) [ci x] g=nf p [ci x] g:=by
    rw[h7 rfl] at h5
    simp only[tp,G.get_eq,h5,List.map_nil]
    rw[aa,if_pos]
    simp
   rw[e1]
   exact hnew (by simpa using hp) rfl
  | cons y l =>
   rw[h6 (by simp)] at h5
   have hid:=hne id rfl
   have e1:tp id2 p (.hsl id 0 0 (y::l).length none) [ci x] g=.upd (.hsl id 1 0 ((y::l).length+1) none) (g.put id (.cells 1 ((S.aA (y::l) p x).map ci) 1 true false)):=by
    simp only[tp,G.get_eq,h5,List.map_cons]
    rw[aa,if_pos]
    ·simp[an,aY,aW,S.aA]
    ·rw[show Nat.beq 1 1=true from rfl]
     have hb1:Nat.beq id id2=false:=by
      rw[<-Bool.not_eq_true,Nat.beq_eq];exact hid
     simp only[hb1,g8,an,Nat.beq_refl,Bool.and_eq_true,Nat.ble_eq,List.length_cons,List.length_map,List.length_nil,true_and,and_true]
     simp at hp hl
     (repeat' apply And.intro)<;>first | omega | (simp;done)
   rw[e1]
   refine ⟨_,_,rfl,.inr ⟨id,1,true,h3,by simpa using h4,?_,by simp[bf]⟩,by simp,fun i hi hv=>?_⟩
   ·rw[List.length_map,pM _ _ _ hp]
   ·rw[G.put_h,aU _ _ _ (fun e=>hv (by rw[e];rfl))]
structure FacH (bx nd:List AV) (w u:AV) (vars cards:List Int) (beh:Int) (q:Nat) (g:G):Prop where
 h0:g.h.get 0=.cells 5 [bx] 0 false false
 h1:g.h.get 1=.cells 3 [[.nils,.nils,.nils]] 0 false false
 h2:g.h.get 2=.cells 3 [nd] 0 false false
 h8:g.h.get q=.cells 3 [[w,u,.nils]] 0 false false
 h9:g.h.get (q+1)=.cells 1 [[.int .i64 beh]] 0 false false
 hw:Own g 3 w 1 (vars.map ci)
 hu:Own g (q+2) u 1 (cards.map ci)
 wq:∀i,vid w=some i->i<q
 q3:3<=q
 qn:q+2<=g.nx
def lK (q:Nat):List (Nat×AV):=[(2,.hptr 0 0 0 0),(4,.hptr 1 0 0 0),(5,.hptr 2 0 0 0),(8,.hptr q 0 0 0),(9,.hptr (q+1) 0 0 0)]
structure FacJ (gr:Int) (b cv sv oz:AV) (nd:List AV) (w:AV) (cs vars:List Int) (pl q j:Nat) (t:T) (g:G):Prop where
 st:St t ((38,w)::(6,.int .i64 (pl:Int))::lK q)
 hp:∃u,FacH [.int .i64 gr,b,cv,sv,oz] nd w u vars (S.af cs (vars.take j)) (S.ae (S.af cs ((vars.take j).drop (pl+1)))) q g
theorem vF {l:List Int}{j k:Nat}{p:Int}(hp:l.take (j+1)=l.take j++[p])(hj:j<l.length)(h:k<j):(l.take (j+1)).drop (k+1)=(l.take j).drop (k+1)++[p]:=by
 rw[hp,List.drop_append_of_le_length (by simp;omega)]
theorem tT {l:List Int}{j k:Nat}(h:j<=k):(l.take (j+1)).drop (k+1)=(l.take j).drop (k+1):=by
 rw[List.drop_of_length_le (by simp;omega),List.drop_of_length_le (by simp;omega)]
theorem JK {d pl q:Nat}{gr:Int}{b cv sv oz w:AV}{nd:List AV}{cs vars:List Int}{Q:QT}{t:T}{g:G}(rc:∀h,af h 1 cv=some (cs.map ci))(hvl:vars.length<=16)(hvp:∀p∈vars,0<=p/\p<cs.length)(hcb:∀c∈cs,1<=c/\c<=4)(hpl:pl<=1000)
  (h0:FacJ gr b cv sv oz nd w cs vars pl q 0 t g) (h40:tat t 40=.int .i64 0) (h39:tat t 39=.int .i64 (vars.length:Int))
  (fin:∀t g,FacJ gr b cv sv oz nd w cs vars pl q vars.length t g->Q (.exit 0) t [] g):wpL (wp C0 d none dc) Q t [] g:=by
 simp only[dc,gq]
 refine aS (m:=vars.length) (by omega) (fun j t df g=>df=[]/\FacJ gr b cv sv oz nd w cs vars pl q j t g) ⟨rfl,h0⟩ h40 h39 (by decide)
  (by rintro j t df g v s (rfl | rfl | rfl) ⟨a1,⟨b1,b2,b3,b4,b5,b6,b7,-⟩,c1⟩<;>exact ⟨a1,by simp[St,lK,sx,b1,b2,b3,b4,b5,b6,b7],c1⟩) ?_ ?_
 ·rintro j t df g hj ⟨rfl,⟨h38,h6,h2,h4,h5,h8,h9,-⟩,u,hp⟩ h40 h39
  obtain ⟨p,hpj,htk,hpm⟩:=aw hj
  obtain ⟨hp0,hpc⟩:=hvp p hpm
  obtain ⟨pn,rfl⟩:=Int.eq_ofNat_of_zero_le hp0
  have hpn:pn<cs.length:=by omega
  have hcp:cs[pn]?=some cs[pn]:=List.getElem?_eq_getElem hpn
  have hcb1:=hcb _ (List.getElem_mem hpn)
  generalize cs[pn]=c at hcp hcb1
  have u1:j<(vars.map ci).length:=by simpa using hj
  have u2:(vars.map ci)[j]?=some (ci (pn:Int)):=by rw[List.getElem?_map,hpj];rfl
  have u3:pn<(cs.map ci).length:=by simpa using hpn
  have u4:(cs.map ci)[pn]?=some (ci c):=by rw[List.getElem?_map,hcp];rfl
  have rw_:=hp.hw.rows
  have q3:=hp.q3
  have qn:=hp.qn
  have epc:S.af cs (vars.take (j+1))=S.af cs (vars.take j)++[c]:=by rw[htk,cw];simp[S.af,hcp]
  have hle:(S.af cs (vars.take j)).length<=16:=by simp[S.af];omega
  have nq1:¬q=q+1:=by omega
  have nq2:¬q+1=q:=by omega
  refine bS (P:=fun t' df g'=>df=[]/\g'=g/\St t' ((40,.int .i64 (j:Int))::(39,.int .i64 (vars.length:Int))::(10,.int .i64 (j:Int))::(11,.int .i64 (pn:Int))::(38,w)::(6,.int .i64 (pl:Int))::lK q)) ?_ ?_
  ·simp only[sz,simprocAttr,h38,h40,rw_,u1,u2,ci]
   simp[St,lK,sx,h38,h6,h2,h4,h5,h8,h9,h40,h39]
  clear h38 h6 h2 h4 h5 h8 h9 h40 h39
  rintro t df g1 ⟨rfl,rfl,⟨h40,h39,h10,h11,h38,h6,h2,h4,h5,h8,h9,-⟩⟩
  refine eU (P:=fun t' df g'=>df=[]/\St t' ((40,.int .i64 (j:Int))::(39,.int .i64 (vars.length:Int))::(10,.int .i64 (j:Int))::(11,.int .i64 (pn:Int))::(38,w)::(6,.int .i64 (pl:Int))::lK q) /\
   ∃u,FacH [.int .i64 gr,b,cv,sv,oz] nd w u vars (S.af cs (vars.take (j+1))) (S.ae (S.af cs ((vars.take j).drop (pl+1)))) q g') ?_ ?_
  ·simp only[sz,simprocAttr,sf,h8,h2,h11,hp.h8,hp.h0,rc,u3,u4,ci]
   refine fG (b:=q+2) (rows:=(S.af cs (vars.take j)).map ci) (new:=[[.int .i64 c]]) (hp.hu.fr (by simp;omega) fun i hi=>?_) (by simp[sx,sy]) (by simp;omega) (by unfold bh;simp;omega) fun u' ga hu' n1 f1 vid1 lg1=>?_
   ·have:=(hp.hu.lt hi).2
    simp[H.get_put];omega
   simp only[sx,sy] at n1 f1 vid1 lg1
   have hq8:ga.h.get q=.cells 3 [[w,u,.nils]] 0 false false:=by
    rw[f1 q (by omega) (fun e=>by have:=(hp.hu.lt e).1;omega),if_neg (by omega),hp.h8]
   simp only[sz,simprocAttr,sf,h8,hq8,hu'.cell.1,hu'.cell.2]
   refine ⟨?_,?_,u',?_⟩
   ·simp only[List.reverse_cons,List.reverse_nil,List.nil_append,List.cons_append]
    refine bj [false,false,false,false,false,false,false,true,true,false,true] [(0,7),(1,7)] (by simp[All2,am,aD]) (by decide) ?_
    rintro p hp' x y hx hy
    simp only[List.mem_cons,List.not_mem_nil,or_false] at hp'
    rcases hp' with rfl | rfl<;>(simp at hx hy;subst hx;subst hy;refine iT rfl rfl rfl rfl ?_ ?_ ?_<;>simp[am,aD,ae]<;>omega)
   ·simp[St,lK,sx,h38,h6,h2,h4,h5,h8,h9,h40,h39,h10,h11]
   ·have keep:∀i,i<q+2->i≠q->(ga.h.put q (.cells 3 [[w,u',.nils]] 0 false false)).get i=g1.h.get i:=fun i hi hne=>by
     simp only[H.get_put,if_neg hne]
     rw[f1 i (by omega) (fun e=>by have:=(hp.hu.lt e).1;omega),if_neg (by omega)]
    refine ⟨(keep 0 (by omega) (by omega)).trans hp.h0,(keep 1 (by omega) (by omega)).trans hp.h1,(keep 2 (by omega) (by omega)).trans hp.h2,by simp[H.get_put],(keep (q+1) (by omega) (by omega)).trans hp.h9,hp.hw.fr (by simp;omega) fun i hi=>keep i (by have:=hp.wq i hi;omega) (by have:=hp.wq i hi;omega),?_,hp.wq,q3,by simp;omega⟩
    rw[epc,List.map_append]
    exact hu'.fr (by simp;omega) fun i hi=>by have:=(hu'.lt hi).1;simp[H.get_put,show ¬i=q by omega]
  clear hp qn rw_ h40 h39 h10 h11 h38 h6 h2 h4 h5 h8 h9
  rintro t df g ⟨rfl,⟨h40,h39,h10,h11,h38,h6,h2,h4,h5,h8,h9,-⟩,u,hp⟩
  by_cases hk:pl<j
  ·have hk':(pl:Int)<(j:Int):=by omega
   have ed:S.ae (S.af cs ((vars.take (j+1)).drop (pl+1)))=S.ae (S.af cs ((vars.take j).drop (pl+1)))*c:=by
    rw[vF htk hj hk,cw,mK]
    simp[S.af,hcp,S.ae]
   have hpb:=bX (l:=S.af cs ((vars.take (j+1)).drop (pl+1))) (ba hcb fun p hp=>hvp p (List.mem_of_mem_take (List.mem_of_mem_drop hp)))
   have hp4:=dG (a:=(S.af cs ((vars.take (j+1)).drop (pl+1))).length) (b:=16) (by simp[S.af];omega)
   have h48:(4:Int) ^ 16=4294967296:=by decide
   have w1:IntKind.wrap .i64 (S.ae (S.af cs ((vars.take j).drop (pl+1)))*c)=S.ae (S.af cs ((vars.take (j+1)).drop (pl+1))):=by rw[<-ed,aH (by omega) (by omega)]
   simp only[sz,simprocAttr,sf,h10,h6,hk',h9,hp.h9,h2,hp.h0,h11,rc,u3,u4,ci,w1]
   refine ⟨?_,⟨?_,u,?_⟩,h40,h39⟩
   ·simp only[List.reverse_cons,List.reverse_nil,List.nil_append,List.cons_append]
    exact bj [false,false,false,false,false,false,false,true] [] (by simp[All2,am,aD]) (by decide) (by simp)
   ·simp[St,lK,sx,h38,h6,h2,h4,h5,h8,h9]
   ·have qn:=hp.qn
    have keep:∀i,i≠q+1->(g.h.put (q+1) (.cells 1 [[.int .i64 (S.ae (S.af cs ((vars.take (j+1)).drop (pl+1))))]] 0 false false)).get i=g.h.get i:=fun i hne=>by
     simp only[H.get_put,if_neg hne]
    exact ⟨(keep 0 (by omega)).trans hp.h0,(keep 1 (by omega)).trans hp.h1,(keep 2 (by omega)).trans hp.h2,(keep q (by omega)).trans hp.h8,by simp[H.get_put],hp.hw.fr (by simp;omega) fun i hi=>keep i (by have:=hp.wq i hi;omega),hp.hu.fr (by simp;omega) fun i hi=>keep i (by have:=(hp.hu.lt hi).1;omega),hp.wq,q3,by simp;omega⟩
  ·have hk':¬((pl:Int)<(j:Int)):=by omega
   have ed:(vars.take (j+1)).drop (pl+1)=(vars.take j).drop (pl+1):=tT (by omega)
   simp only[sz,simprocAttr,h10,h6,hk']
   refine ⟨⟨by simp[St,lK,sx,h38,h6,h2,h4,h5,h8,h9],u,?_⟩,h40,h39⟩
   rw[ed]
   exact hp
 ·rintro t df g ⟨rfl,h⟩
  exact fin t g h
def GH (h:H)(n:Nat):G:=⟨h,n,[]⟩
@[simp] theorem GH_h (h:H) (n:Nat):(GH h n).h=h:=rfl
@[simp] theorem GH_nx (h:H) (n:Nat):(GH h n).nx=n:=rfl
theorem Own.gh {g:G}{b sz i:Nat}{v:AV}{rows:List (List AV)}(h:Own g b v sz rows)(hv:vid v=some i):Own (GH g.h (i+1)) b v sz rows:=by
 rcases h with h | ⟨id,ep,lo,h1,h2,rfl,h3⟩
 ·exact .inl h
 ·injection hv with hv
  subst hv
  exact .inr ⟨id,ep,lo,h1,by simp,rfl,h3⟩
structure FacG (g0:G) (iw:Nat) (W:AV) (rws:List (List Int)) (B C t:Nat) (h:H):Prop where
 fr:∀i,i<g0.nx->i≠iw->h.get i=g0.h.get i
 ow:Own (GH h (iw+1)) 3 W 1 ((S.aK rws B C t).map ci)
theorem FacG.up {g0:G}{iw:Nat}{W:AV}{rws:List (List Int)}{B C t:Nat}{h h':H}(hf:FacG g0 iw W rws B C t h)(hv:vid W=some iw)(hi:iw<g0.nx)(hh:∀i,i<g0.nx->h'.get i=h.get i):FacG g0 iw W rws B C t h' :=
 ⟨fun i h1 h2=>by rw[hh i h1,hf.fr i h1 h2],hf.ow.fr (by simp) fun i h=>by rw[hv] at h;injection h with h;subst h;exact hh _ hi⟩
structure FacI (g0 g2:G) (iw:Nat) (W z:AV) (r:List Int) (rws:List (List Int)) (B C q j i:Nat) (t:T) (g:G):Prop where
 st:St t ((78,z)::(12,.int .i64 (j:Int))::lK q)
 hp:FacG g0 iw W rws B C (j*C+i) g.h
 nx:g2.nx<=g.nx
 fr:∀i,g0.nx<=i->i<g2.nx->g.h.get i=g2.h.get i
theorem Kw {d A B C q j iw:Nat}{w u W z:AV}{r:List Int}{rws:List (List Int)}{pa ra:AV}{rd:Option Nat}{Q:QT}{t:T}{g g0 g2:G}(hz:SlR NoP 0 .nil r z)(hr:rws[j]?=some r)(hrl:r.length=C)(hB:0<B)(hA:rws.length=A*B)(hsz:rws.length*C<=1000000)
  (e8:g0.h.get q=.cells 3 [[w,u,W]] 0 false false) (e2:g0.h.get 2=.cells 3 [[.int .i64 (C:Int),pa,ra]] 0 false false) (e9:g0.h.get (q+1)=.cells 1 [[.int .i64 (B:Int)]] 0 false false) (hq:q+1<g0.nx) (hq3:3<=q) (hiw:iw<g0.nx) (hvw:vid W=some iw) (hiq:q+1<iw) (hg2:g0.nx<=g2.nx)
  (h0:FacI g0 g2 iw W z r rws B C q j 0 t g) (h80:tat t 80=.int .i64 0) (h79:tat t 79=.int .i64 (r.length:Int))
  (fin:∀t g,FacI g0 g2 iw W z r rws B C q j r.length t g->Q (.exit 4) t [] g):wpL (wp C0 d rd c_) Q t [] g:=by
 simp only[c_]
 refine aS (m:=r.length) hz.1 (fun i t df g=>df=[]/\FacI g0 g2 iw W z r rws B C q j i t g) ⟨rfl,h0⟩ h80 h79 (by decide)
  (by rintro j t df g v s (rfl | rfl | rfl) ⟨a1,⟨b1,b2,b3,b4,b5,b6,b7,-⟩,c1,c2,c3⟩<;>exact ⟨a1,by simp[St,lK,sx,b1,b2,b3,b4,b5,b6,b7],c1,c2,c3⟩) ?_ ?_
 ·rintro i t df g hi ⟨rfl,⟨h78,h12,h2,h4,h5,h8,h9,-⟩,hp,hnx,hfr⟩ h80 h79
  obtain ⟨x,hx,-,-⟩:=aw hi
  have rz:=fun h=>(hz.tree (h':=h) (Nat.le_refl 0)).ints
  have u1:i<(r.map ci).length:=by simpa using hi
  have u2:(r.map ci)[i]?=some (ci x):=by rw[List.getElem?_map,hx];rfl
  have hj:=(List.getElem?_eq_some_iff.1 hr).1
  have hiC:i<C:=by omega
  have hpl:=yz (A:=A) (b:=B) (card:=C) (i:=j) (x:=i) hB (by omega) hiC
  rw[<-hA] at hpl
  have hst:=D8 (b:=B) (card:=C) (A:=A) (i:=j) (x:=i) hB hA hr hiC hx
  have k8:g.h.get q=.cells 3 [[w,u,W]] 0 false false:=by rw[hp.fr q (by omega) (by omega),e8]
  have k2:g.h.get 2=.cells 3 [[.int .i64 (C:Int),pa,ra]] 0 false false:=by rw[hp.fr 2 (by omega) (by omega),e2]
  have k9:g.h.get (q+1)=.cells 1 [[.int .i64 (B:Int)]] 0 false false:=by rw[hp.fr (q+1) (by omega) (by omega),e9]
  have hwr:=hp.ow.rows
  rw[GH_h] at hwr
  have hjl:j<1000001:=by
   have:rws.length*1<=rws.length*C:=Nat.mul_le_mul_left _ (by omega)
   omega
  have q1:=Ca (x:=j) (y:=B) (by omega) hB
  have q2:=CS (x:=j) (y:=B) hB
  have l1:j / B*C<=S.aE B C j i:=by
   unfold S.aE
   have:(j / B*C+i)*1<=(j / B*C+i)*B:=Nat.mul_le_mul_left _ hB
   omega
  have l2:(j / B*C+i)<=S.aE B C j i:=by
   unfold S.aE
   have:(j / B*C+i)*1<=(j / B*C+i)*B:=Nat.mul_le_mul_left _ hB
   omega
  have l3:(j / B*C+i)*B<=S.aE B C j i:=by unfold S.aE;omega
  have w1:IntKind.wrap .i64 (((j / B:Nat):Int)*(C:Int))=((j / B*C:Nat):Int):=by
   rw[<-Int.natCast_mul,aH (by omega) (by omega)]
  have w2:IntKind.wrap .i64 (((j / B*C:Nat):Int)+(i:Int))=((j / B*C+i:Nat):Int):=by
   rw[aH (by omega) (by omega)];simp
  have w3:IntKind.wrap .i64 (((j / B*C+i:Nat):Int)*(B:Int))=(((j / B*C+i)*B:Nat):Int):=by
   rw[<-Int.natCast_mul,aH (by omega) (by omega)]
  have w4:IntKind.wrap .i64 ((((j / B*C+i)*B:Nat):Int)+((j % B:Nat):Int))=((S.aE B C j i:Nat):Int):=by
   rw[<-Int.natCast_add]
   show IntKind.wrap .i64 ((S.aE B C j i:Nat):Int)=_
   rw[aH (by omega) (by omega)]
  have hfl:=yM rws B C (j*C+i)
  have u3:S.aE B C j i<((S.aK rws B C (j*C+i)).map ci).length:=by rw[List.length_map,hfl];exact hpl
  have u4:((S.aK rws B C (j*C+i)).map ci)[S.aE B C j i]?=some (((S.aK rws B C (j*C+i)).map ci)[S.aE B C j i]):=List.getElem?_eq_getElem u3
  have hone:∃y:Int,((S.aK rws B C (j*C+i)).map ci)[S.aE B C j i]=ci y:=⟨_,List.getElem_map ..⟩
  obtain ⟨y,hy⟩:=hone
  rw[hy] at u4
  have hge:g0.nx<=g.nx:=by omega
  refine bS (P:=fun t' df g'=>df=[]/\g'=g/\St t' ((80,.int .i64 (i:Int))::(79,.int .i64 (r.length:Int))::(14,.int .i64 (i:Int))::(15,.int .i64 x)::(78,z)::(12,.int .i64 (j:Int))::lK q)) ?_ ?_
  ·simp only[sz,simprocAttr,h78,h80,rz,u1,u2,ci]
   simp[St,lK,sx,h78,h12,h2,h4,h5,h8,h9,h80,h79]
  clear h78 h12 h2 h4 h5 h8 h9 h80 h79
  rintro t df g1 ⟨rfl,rfl,⟨h80,h79,h14,h15,h78,h12,h2,h4,h5,h8,h9,-⟩⟩
  simp only[sz,simprocAttr,sf,h8,h12,h9,h5,h14,h15,k8,k2,k9,q1,q2,w1,w2,w3,w4,hwr,u3]
  refine cq (v:=W) (sz:=1) (n:=1) (i:=S.aE B C j i) (off:=0) (x:=.int .i64 x) (row':=ci x) ((hp.ow.fr (g':=g1) (by simp;omega) fun i _=>rfl).fr (by simp;omega) fun i _=>by simp) u4 rfl rfl rfl fun g4 hu4 n4 f4=>?_
  rw[<-List.map_set,hst] at hu4
  have f4':∀i,i≠iw->g4.h.get i=g1.h.get i:=fun i hi=>by rw[f4 i (by rw[hvw];intro e;injection e with e;exact hi e.symm)];simp
  have n4':g1.nx<=g4.nx:=by rw[n4];simp;omega
  simp only[sx,sy,↓reduceIte,Nat.reduceEqDiff]
  refine ⟨?_,⟨?_,⟨fun i h1 h2=>?_,?_⟩,?_,fun i h1 h2=>?_⟩,h80,h79⟩
  ·simp only[List.reverse_cons,List.reverse_nil,List.nil_append,List.cons_append]
   exact bj [false,false,false,false,false,false,false,false,false,false,false,false,false,false,false,false,false,false,true] [] (by simp[All2,am,aD]) (by decide) (by simp)
  ·simp[St,lK,sx,h78,h12,h2,h4,h5,h8,h9]
  ·simp only[bumpG_h]
   rw[f4' i h2,hp.fr i h1 h2]
  ·exact hu4.gh hvw
  ·simp;omega
  ·simp only[bumpG_h]
   rw[f4' i (by omega),hfr i h1 h2]
 ·rintro t df g ⟨rfl,h⟩
  exact fin t g h
theorem Gn {d A B C q iw:Nat}{w u W pa ra pa' ra':AV}{rws:List (List Int)}{Q:QT}{t:T}{g0:G}(hra:SlR NoP 0 .nil rws ra')(hrl:∀r∈rws,r.length=C)(hB:0<B)(hA:rws.length=A*B)(hsz:rws.length*C<=1000000)
  (h75:tat t 75=.clo N.ah [] [.tptr 0 3 [[.int .i64 (C:Int),pa',ra']] 0 0])
  (e8:g0.h.get q=.cells 3 [[w,u,W]] 0 false false) (e2:g0.h.get 2=.cells 3 [[.int .i64 (C:Int),pa,ra]] 0 false false) (e9:g0.h.get (q+1)=.cells 1 [[.int .i64 (B:Int)]] 0 false false) (hq:q+1<g0.nx) (hq3:3<=q) (hiw:iw<g0.nx) (hvw:vid W=some iw) (hiq:q+1<iw)
  (ht:St t (lK q)) (hW:Own g0 3 W 1 ((List.replicate (rws.length*C) (0:Int)).map ci))
  (fin:∀g',FacG g0 iw W rws B C (rws.length*C) g'.h->g0.nx+2<=g'.nx->g'.h.get g0.nx=.dfr true->Q .norm t [.mark g0.nx] g') :
  wp C0 d none (.rng 105 (.t 75) [76,77] da cU) Q t [] g0:=by
 obtain ⟨h2,h4,h5,h8,h9,-⟩:=ht
 refine zk (c:=(C:Int)) (pa:=pa') hra h75 (by decide) (by decide) (fun j h=>FacG g0 iw W rws B C (j*C) h) (fun _=>False) ?_ ?_ ?_ ?_ fin ?_
 ·intro j h h' hh hf
  exact hf.up hvw hiw hh
 ·intro h h' _ hf
  exact hf
 ·refine ⟨fun i _ _=>rfl,?_⟩
  rw[Nat.zero_mul,DY]
  exact hW.gh hvw
 ·intro j r z g1 hr hz hf hn
  have hrm:=hrl r (List.mem_of_getElem? hr)
  simp only[sz,simprocAttr,da]
  intro g2 hg2n hg2
  have hf2:FacG g0 iw W rws B C (j*C) g2.h:=hf.up hvw hiw fun i hi=>hg2 i (by omega)
  simp only[sz,simprocAttr,cU,hz.len]
  refine Kw (g2:=g2) (A:=A) (q:=q) (iw:=iw) (w:=w) (u:=u) (W:=W) (z:=z) (r:=r) (rws:=rws) hz hr hrm hB hA hsz e8 e2 e9 hq hq3 hiw hvw hiq (by omega) ⟨by simp[St,lK,sx,h2,h4,h5,h8,h9],by simpa using hf2,Nat.le_refl _,fun _ _ _=>rfl⟩ (by simp[sx]) (by simp[sx]) ?_
  rintro t g ⟨-,hp,hnx,hfr⟩
  simp only[sx,sy,↓reduceIte]
  refine ⟨hnx,hfr,.inl ⟨rfl,?_⟩⟩
  rw[hrm,show j*C+C=(j+1)*C by rw[Nat.add_mul,Nat.one_mul]] at hp
  exact hp
 ·intro g' hf
  exact hf.elim
def S.aP (n:Net)(i:Nat)(x:Node)(p:Nat):Factor:=⟨S.aA x.parents p (i:Int),S.af (S.aa n) (S.aA x.parents p (i:Int)),S.bD x.rows (S.ae (S.af (S.aa n) (x.parents.drop p))).toNat x.card.toNat⟩
def KV (n:Net)(i:Nat)(x:Node):VS:=fun P k h v=>∃p:Nat,p<=x.parents.length/\Agg (S.aP n i x p) P k h v
theorem AZ {ps:List Int}{k:Nat}{v:Int}(hk:k<=ps.length):(S.aA ps k v).drop (k+1)=ps.drop k:=by
 have h1:S.aA ps k v=(ps.take k++[v])++ps.drop k:=by simp[S.aA]
 rw[h1,List.drop_left' (by simp;omega)]
theorem Own.low {g:G}{b b':Nat}{v:AV}{sz:Nat}{rows:List (List AV)}(h:Own g b v sz rows)(hb:b'<=b):Own g b' v sz rows:=by
 rcases h with h | ⟨id,ep,lo,h1,h2⟩
 ·exact .inl h
 ·exact .inr ⟨id,ep,lo,by omega,h2⟩
theorem E1 {w:AV}(h:w.cells=[w])(h2:w.isTup=false):dk [.nils,.nils,.nils] [((0,1),w)]=some [w,.nils,.nils]:=by
 simp[dk,h,h2,eC]
 rfl
theorem DH {d i:Nat}{g:G}{v:AV}{n:Net}{x:Node}{o:List Int}(hd:0<d)(hr:NR n)(hm:Agg ((n,S.aa n,S.ak n,o):NwM) NoP 0 g.h v)(hx:n.nodes[i]?=some x) :
  ∃r,aA C0 d N.aZ [v,.int .i64 (i:Int)] g=.val r/\KV n i x NoP 0 .nil r:=by
 have e0:=gU d hm
 obtain ⟨cs,rfl,hc⟩:=hm
 obtain ⟨b,cv,sv,oz,rfl,hN,hcv,-,-⟩:=sN.1 hc
 have hN:SlR NoP 0 .nil n.nodes b:=hN.tree (h':=.nil) (Nat.le_refl 0)
 have hcv:SlR NoP 0 .nil (S.aa n) cv:=hcv.tree (h':=.nil) (Nat.le_refl 0)
 obtain ⟨rows,r1,r2,r3,r4⟩:=hN.all
 obtain ⟨row,q1,q2⟩:=r3 i x hx
 obtain ⟨pa,ra,rfl,hpa,hra⟩:=eN.1 q2
 have hxm:=List.mem_of_getElem? hx
 have hil:=(List.getElem?_eq_some_iff.1 hx).1
 have hl8:=hr.l2
 have hlt:i<rows.length:=by omega
 have hry:=r4 (by omega)
 have hpl:=nI (hr.places x hxm) (by omega)
 have hpin:=hr.pin hxm
 have r1:∀h',af h' 3 b=some rows:=r1
 have rc:=fun h=>(hcv.tree (h':=h) (Nat.le_refl 0)).ints
 rw[mr]
 refine bD n_ (xs:=[.agg [.int .i64 n.grain,b,cv,sv,oz],.int .i64 (i:Int)]) (by simp only[aG,e0,dT 0]) (by simp[eD]) (lB fun o=>gu _) (by decide) hd ?_
 simp only[sz,simprocAttr,eD]
 obtain ⟨g0,hg0⟩:∃g0,g0=(G.empty.new (.cells 5 [[.int .i64 n.grain,b,cv,sv,oz]] 0 false false)).new (.cells 3 [[.nils,.nils,.nils]] 0 false false):=⟨_,rfl⟩
 rw[<-hg0]
 have f0:g0.h.get 0=.cells 5 [[.int .i64 n.grain,b,cv,sv,oz]] 0 false false:=by rw[hg0];simp[sx,H.get_put]
 have f1:g0.h.get 1=.cells 3 [[.nils,.nils,.nils]] 0 false false:=by rw[hg0];simp[sx]
 have f2:g0.nx=2:=by rw[hg0];simp[sx]
 clear hg0
 simp only[gM]
 refine eU (P:=fun t' df g'=>df=[]/\g'.nx=3/\g'.h.get 0=.cells 5 [[.int .i64 n.grain,b,cv,sv,oz]] 0 false false/\g'.h.get 1=.cells 3 [[.nils,.nils,.nils]] 0 false false/\g'.h.get 2=.cells 3 [[.int .i64 x.card,pa,ra]] 0 false false/\St t' [(1,.int .i64 (i:Int)),(2,.hptr 0 0 0 0),(4,.hptr 1 0 0 0),(5,.hptr 2 0 0 0)]) ?_ ?_
 ·simp only[sz,simprocAttr,f0,r1,hlt,q1]
  simp[St,sx,f1,f2]
 rintro t df g1 ⟨rfl,n1,k0,k1,k2,h1,h2,h4,h5,-⟩
 obtain ⟨p,sb,hp,es⟩:=Dr (d:=d+1) (g:=g1) (x:=(i:Int)) (Nat.succ_pos d) (hpa.tree (Nat.le_refl 0)) (by omega)
 refine eU (P:=fun t' df g'=>df=[]/\g'=g1/\St t' [(1,.int .i64 (i:Int)),(2,.hptr 0 0 0 0),(4,.hptr 1 0 0 0),(5,.hptr 2 0 0 0),(6,.int .i64 (p:Int))]) ?_ ?_
 ·simp only[sz,simprocAttr,h5,h1,k2,es]
  simp[St,sx,h1,h2,h4,h5]
 clear h1 h2 h4 h5
 rintro t df g2 ⟨rfl,rfl,h1,h2,h4,h5,h6,-⟩
 refine eU (P:=fun t' df g'=>df=[]/\∃w q,w.cells=[w]/\FacH [.int .i64 n.grain,b,cv,sv,oz] [.int .i64 x.card,pa,ra] w .nils (S.aA x.parents p (i:Int)) [] 1 q (g'.new (.cells 1 [[.int .i64 1]] 0 false false))/\g'.nx=q+1/\St t' [(2,.hptr 0 0 0 0),(4,.hptr 1 0 0 0),(5,.hptr 2 0 0 0),(6,.int .i64 (p:Int)),(8,.hptr q 0 0 0)]) ?_ ?_
 ·simp only[sz,simprocAttr,h5,k2]
  refine Eh (l:=x.parents) hpa (by omega) fun u ga hu fa=>?_
  simp only[sz,simprocAttr,h6,h1]
  have hun:∀i,vid u=some i->g2.nx<=i/\i<ga.nx:=fun i hi=>by
   rcases hu with ⟨-,rfl⟩ | ⟨id,lo,a1,a2,rfl,-⟩
   ·cases hi
   ·injection hi with hi;subst hi;exact ⟨a1,a2⟩
  have fa1:=fa.1
  obtain ⟨w,g3,e3,hw,n3,f3⟩:=AX (d:=d+1) (b:=g2.nx) (p:=p) (id2:=ga.nx) (ep2:=0) (x:=(i:Int)) (lim:=none) (hu.fr (Fr.new ga (.cells 1 [[.int .i64 (i:Int)]] 0 false false))) (by omega) hp (by simp[H.get_put];exact ⟨rfl,rfl,rfl⟩) (fun j hj=>by have:=hun j hj;omega) (by simp;omega)
  rw[e3]
  simp only[sz,simprocAttr,E1 hw.cell.1 hw.cell.2]
  have n3':ga.nx+1<=g3.nx:=by simpa using n3
  have keep:∀j,j<3->g3.h.get j=g2.h.get j:=fun j hj=>by
   rw[f3 j (by simp;omega) (fun e=>by have:=hun j e;omega),<-fa.2 j (by omega)]
   simp[H.get_put,show ¬j=ga.nx by omega]
  have hwl:∀j,vid w=some j->3<=j/\j<g3.nx:=fun j hj=>by have:=hw.lt hj;omega
  have ne1:∀j,j<g3.nx->¬j=g3.nx/\¬j=g3.nx+1:=fun j hj=>by omega
  refine ⟨w,g3.nx,hw.cell.1,⟨?_,?_,?_,?_,?_,?_,?_,?_,?_,?_⟩,?_,?_⟩
  ·simp[H.get_put,ne1 0 (by omega),keep 0 (by omega),k0,show ¬g3.nx=0 by omega]
  ·simp[H.get_put,ne1 1 (by omega),keep 1 (by omega),k1,show ¬g3.nx=0 by omega]
  ·simp[H.get_put,ne1 2 (by omega),keep 2 (by omega),k2]
  ·simp[H.get_put]
  ·simp[H.get_put]
  ·refine (Own.low hw (b':=3) (by omega)).fr (by simp;omega) fun j hj=>?_
   have:=ne1 j (hwl j hj).2
   simp[H.get_put,this]
  ·exact .inl ⟨rfl,rfl⟩
  ·exact fun j hj=>(hwl j hj).2
  ·omega
  ·simp
  ·simp
  ·simp[St,sx,h2,h4,h5,h6]
 clear h1 h2 h4 h5 h6 es
 rintro t df g3 ⟨rfl,w,q,hwc,hp3,hnq,h2,h4,h5,h6,h8,-⟩
 have hfl:=pM x.parents p (i:Int) hp
 have fa:=hp3.hw.rows
 refine eU (P:=fun t' df g'=>df=[]/\g'=(g3.new (.cells 1 [[.int .i64 0]] 0 false false)).put (q+1) (.cells 1 [[.int .i64 1]] 0 false false)/\St t' ((6,.int .i64 (p:Int))::lK q)) ?_ ?_
 ·simp only[sz,simprocAttr,hnq]
  simp[St,lK,sx,h2,h4,h5,h6,h8]
 clear h2 h4 h5 h6 h8
 rintro t df g4 ⟨rfl,hg4,h6,h2,h4,h5,h8,h9,-⟩
 have hp4:FacH [.int .i64 n.grain,b,cv,sv,oz] [.int .i64 x.card,pa,ra] w .nils (S.aA x.parents p (i:Int)) [] 1 q g4:=by
  have e:∀j,g4.h.get j=(g3.new (.cells 1 [[.int .i64 1]] 0 false false)).h.get j:=fun j=>by
   rw[hg4]
   by_cases hj:j=q+1<;>simp[H.get_put,hnq,hj]
  have en:g4.nx=(g3.new (.cells 1 [[.int .i64 1]] 0 false false)).nx:=by rw[hg4];simp
  exact ⟨by rw[e,hp3.h0],by rw[e,hp3.h1],by rw[e,hp3.h2],by rw[e,hp3.h8],by rw[e,hp3.h9],hp3.hw.fr (by omega) fun j _=>e j,hp3.hu.fr (by omega) fun j _=>e j,hp3.wq,hp3.q3,by rw[en];exact hp3.qn⟩
 clear hg4 hp3
 have hwl:∀g,gT .slice w g=.val (.int .i64 (((S.aA x.parents p (i:Int)).length:Nat):Int)):=fun g=>by
  rcases hp4.hw with ⟨-,e⟩ | ⟨id,ep,lo,-,-,rfl,-⟩
  ·have:((S.aA x.parents p (i:Int)).map ci).length=0:=by rw[e];rfl
   rw[List.length_map] at this;omega
  ·rw[List.length_map];rfl
 simp only[sz,simprocAttr,h8,hp4.h8,hwl]
 refine JK (gr:=n.grain) (b:=b) (cv:=cv) (sv:=sv) (oz:=oz) (nd:=[.int .i64 x.card,pa,ra]) (w:=w) (cs:=S.aa n) (vars:=S.aA x.parents p (i:Int)) (pl:=p) (q:=q) rc (by omega) ?_ hr.cs (by omega) ⟨by simp[St,lK,sx,h2,h4,h5,h6,h8,h9],.nils,by simpa [S.af,S.ae] using hp4⟩ (by simp[sx]) (by simp[sx]) ?_
 ·intro y hy
  simp only[S.aA,List.mem_append,List.mem_cons] at hy
  rcases hy with hy | rfl | hy
  ·exact hpin y (List.mem_of_mem_take hy)
  ·rw[aM];omega
  ·exact hpin y (List.mem_of_mem_drop hy)
 clear h2 h4 h5 h6 h8 h9 hp4
 rintro t g ⟨⟨h38,h6,h2,h4,h5,h8,h9,-⟩,u,hp5⟩
 rw[List.take_length,AZ hp] at hp5
 have hcx:=hr.card x hxm
 have hd1:∀c∈S.af (S.aa n) (x.parents.drop p),1<=c/\c<=4:=ba hr.cs fun p hp=>hpin p (List.mem_of_mem_drop hp)
 have ht1:∀c∈S.af (S.aa n) (x.parents.take p),1<=c/\c<=4:=ba hr.cs fun p hp=>hpin p (List.mem_of_mem_take hp)
 have er:(x.rows.length:Int)=S.ae (S.af (S.aa n) (x.parents.take p))*S.ae (S.af (S.aa n) (x.parents.drop p)):=by
  rw[hr.rows x hxm]
  conv=>lhs;rw[<-List.take_append_drop p x.parents,cw,mK]
 have hB1:=eT fun c hc=>(hd1 c hc).1
 have hA1:=eT fun c hc=>(ht1 c hc).1
 have hpb:=bX (l:=S.af (S.aa n) x.parents) (ba hr.cs hpin)
 have hp4:=dG (a:=(S.af (S.aa n) x.parents).length) (b:=8) (by simp[S.af];omega)
 have h48:(4:Int) ^ 8=65536:=by decide
 have hrows:=hr.rows x hxm
 obtain ⟨B,hB⟩:=Int.eq_ofNat_of_zero_le (show 0<=S.ae (S.af (S.aa n) (x.parents.drop p)) by omega)
 obtain ⟨A,hA⟩:=Int.eq_ofNat_of_zero_le (show 0<=S.ae (S.af (S.aa n) (x.parents.take p)) by omega)
 obtain ⟨C,hC⟩:=Int.eq_ofNat_of_zero_le (show 0<=x.card by omega)
 have hAB:x.rows.length=A*B:=by
  have:((x.rows.length:Nat):Int)=((A*B:Nat):Int):=by rw[er,Int.natCast_mul,hA,hB]
  omega
 have hsz:x.rows.length*C<=1000000:=by
  have h1:x.rows.length<=65536:=by omega
  have h2:C<=4:=by omega
  have:=Nat.mul_le_mul h1 h2
  omega
 have rl:=fun g=>(hra.tree (h':=g) (Nat.le_refl 0)).len
 have rl:=fun g=>(hra).len g
 have w1:IntKind.wrap .i64 ((x.rows.length:Int)*(C:Int))=((x.rows.length*C:Nat):Int):=by
  rw[<-Int.natCast_mul,aH (by omega) (by omega)]
 rw[hB] at hp5
 simp only[fT,hC] at hp5 ⊢
 obtain ⟨pa',ra',er',hpa',hra'⟩:=ut (d:=d+1) (g:=.empty) (x:=x) (v:=.agg [.int .i64 (C:Int),pa,ra]) (Nat.succ_pos d) ⟨_,rfl,eN.2 ⟨pa,ra,by rw[hC],hpa.tree (Nat.le_refl 0),hra.tree (Nat.le_refl 0)⟩⟩
 have q3:=hp5.q3
 have qn:=hp5.qn
 refine eU (P:=fun t' df g'=>df=[]/\∃W,vid W=some g.nx/\g'.nx=g.nx+1/\(∀i,i<g.nx->i≠q->g'.h.get i=g.h.get i)/\g'.h.get q=.cells 3 [[w,u,W]] 0 false false/\Own g' 3 W 1 ((List.replicate (x.rows.length*C) (0:Int)).map ci)/\St t' (lK q)) ?_ ?_
 ·simp only[sz,simprocAttr,h5,hp5.h2,rl,w1]
  refine q8 (b:=3) (n:=x.rows.length*C) (by unfold bh;omega) (by unfold bh;omega) (by omega) fun W g1 hW n1 f1 vW=>?_
  have k8:g1.h.get q=.cells 3 [[w,u,.nils]] 0 false false:=by rw[f1 q (by omega),hp5.h8]
  simp only[sz,simprocAttr,h8,k8,hW.cell.1,hW.cell.2]
  refine ⟨W,vW,by simpa using n1,fun i h1 h2=>?_,by simp[H.get_put],?_,by simp[St,lK,sx,h2,h4,h5,h8,h9]⟩
  ·simp[h2]
   exact f1 i h1
  ·have hW':Own g1 3 W 1 ((List.replicate (x.rows.length*C) (0:Int)).map ci):=by simpa [ci] using hW
   exact hW'.fr (by simp) fun i hi=>by
    have:=eW vW hi
    simp[H.get_put,show ¬i=q by omega]
 clear h38 h6 h2 h4 h5 h8 h9
 rintro t df g1 ⟨rfl,W,vW,n1,f1,k8,hW,h2,h4,h5,h8,h9,-⟩
 have k2:g1.h.get 2=.cells 3 [[.int .i64 (C:Int),pa,ra]] 0 false false:=by rw[f1 2 (by omega) (by omega),hp5.h2]
 have k9:g1.h.get (q+1)=.cells 1 [[.int .i64 (B:Int)]] 0 false false:=by rw[f1 (q+1) (by omega) (by omega),hp5.h9]
 have k1:g1.h.get 1=.cells 3 [[.nils,.nils,.nils]] 0 false false:=by rw[f1 1 (by omega) (by omega),hp5.h1]
 obtain ⟨pa',ra',er',hpa',hra'⟩:=ut (d:=d+1) (g:=g1) (x:=x) (v:=.agg [.int .i64 (C:Int),pa,ra]) (Nat.succ_pos d) ⟨_,rfl,eN.2 ⟨pa,ra,by rw[hC],hpa.tree (Nat.le_refl 0),hra.tree (Nat.le_refl 0)⟩⟩
 rw[hC] at er'
 rw[du,du]
 simp only[sz,simprocAttr,h5,k2,er']
 refine Gn (A:=A) (B:=B) (C:=C) (q:=q) (iw:=g.nx) (w:=w) (u:=u) (W:=W) (pa:=pa) (ra:=ra) (pa':=pa') hra' (fun r hrm=>by have:=(hr.row x hxm r hrm).1;omega) (by omega) hAB hsz (by simp[sx]) k8 k2 k9 (by omega) q3 (by omega) vW (by omega) (by simp[St,lK,sx,h2,h4,h5,h8,h9]) hW ?_
 intro g' hf hn hdf
 have k8':g'.h.get q=.cells 3 [[w,u,W]] 0 false false:=by rw[hf.fr q (by omega) (by omega),k8]
 have k1':g'.h.get 1=.cells 3 [[.nils,.nils,.nils]] 0 false false:=by rw[hf.fr 1 (by omega) (by omega),k1]
 simp only[sz,simprocAttr,fX,h8,k8',h4,k1']
 refine jG (by simp[H.get_put,show ¬g1.nx=1 by omega,hdf]) ?_
 simp only[sx,sy,↓reduceIte,Nat.reduceEqDiff,h4]
 rw[if_neg (by omega)]
 simp only[sx,sy,↓reduceIte,Nat.reduceAdd,Nat.reduceLeDiff]
 have lw:=hp5.hw
 have lu:=hp5.hu
 have lW:=hf.ow
 have hne:∀i,i<g1.nx->i≠1->((g'.h.put 1 (.cells 3 [[w,u,W]] 0 false false)).put g1.nx (.dfr false)).get i=g'.h.get i:=fun i h1 h2=>by
  simp[H.get_put,h2,show ¬i=g1.nx by omega]
 have oW:Own (GH ((g'.h.put 1 (.cells 3 [[w,u,W]] 0 false false)).put g1.nx (.dfr false)) (g.nx+1)) 3 W 1 ((S.aK x.rows B C (x.rows.length*C)).map ci):=lW.fr (by simp) fun i hi=>by
  have:=eW vW hi
  exact hne i (by omega) (by omega)
 have ow:Own (GH ((g'.h.put 1 (.cells 3 [[w,u,W]] 0 false false)).put g1.nx (.dfr false)) (g.nx+1)) 3 w 1 ((S.aA x.parents p (i:Int)).map ci):=lw.fr (by simp) fun j hj=>by
  have:=hp5.wq j hj
  have:=(lw.lt hj).1
  show ((g'.h.put 1 (.cells 3 [[w,u,W]] 0 false false)).put g1.nx (.dfr false)).get j=_
  rw[hne j (by omega) (by omega),hf.fr j (by omega) (by omega),f1 j (by omega) (by omega)]
 have ou:Own (GH ((g'.h.put 1 (.cells 3 [[w,u,W]] 0 false false)).put g1.nx (.dfr false)) (g.nx+1)) (q+2) u 1 ((S.af (S.aa n) (S.aA x.parents p (i:Int))).map ci):=lu.fr (by simp) fun j hj=>by
  have:=lu.lt hj
  show ((g'.h.put 1 (.cells 3 [[w,u,W]] 0 false false)).put g1.nx (.dfr false)).get j=_
  rw[hne j (by omega) (by omega),hf.fr j (by omega) (by omega),f1 j (by omega) (by omega)]
 have hfw:(S.aK x.rows B C (x.rows.length*C))=S.bD x.rows (S.ae (S.af (S.aa n) (x.parents.drop p))).toNat x.card.toNat:=by
  rw[hB,hC,Int.toNat_natCast,Int.toNat_natCast]
  exact FU (A:=A) (by omega) hAB
 refine ⟨fun _=>True,p,hp,_,rfl,mq.2 ⟨w,u,W,rfl,?_,?_,?_⟩⟩
 ·obtain ⟨_,e1,h⟩:=ow.ints (k:=0) (by omega);injection e1 with e1;subst e1;exact h
 ·obtain ⟨_,e1,h⟩:=ou.ints (k:=0) (by simp[S.af];omega);injection e1 with e1;subst e1;exact h
 ·rw[hfw] at oW
  obtain ⟨_,e1,h⟩:=oW.ints (k:=0) (by rw[<-hfw,yM];omega);injection e1 with e1;subst e1;exact h
def S.bS (n:Net)(l:List Factor):Prop:=∀(i:Nat) (x:Node),i<l.length->n.nodes[i]?=some x->∃p,p<=x.parents.length/\l[i]?=some (S.aP n i x p)
def KB (n:Net):VS:=fun P k h v=>∃l:List Factor,((S.aQ n=true->l.length=n.nodes.length)/\S.bS n l)/\rA (One l) (One (if S.aQ n then (0:Int) else 50)) P k h v
structure FasJ (n:Net) (W b cv sv oz:AV) (j:Nat) (t:T) (g:G):Prop where
 st:St t [(4,.hptr 1 0 0 0),(6,W)]
 hg:g.h.get 1=.cells 5 [[.int .i64 n.grain,b,cv,sv,oz]] 0 false false
 hW:∃(rows:List (List AV)) (l:List Factor),Own g 2 W 3 rows/\rows.length=n.nodes.length/\l.length=j/\All2 (Rp.rp NoP 0 .nil) l (rows.take j)/\S.bS n l/\∀i,j<=i->i<n.nodes.length->rows[i]?=some [.nils,.nils,.nils]
theorem II {d:Nat}{g:G}{v:AV}{n:Net}(hd:0<d)(hm:Agg n NoP 0 g.h v):∃r,aA C0 d N.aQ [v] g=.val r/\KB n NoP 0 .nil r:=by
 obtain ⟨b,rows,rfl,e1,hm',hN,r1,r2,r3,r4⟩:=mJ d hm
 rw[si]
 refine bD ve (xs:=[.agg [.int .i64 n.grain,b]]) (by simp only[aG,e1]) (by simp[l5]) (lB fun o=>eI (m:=2) (bc _) (bc _) (by decide) (by decide)) (by decide) hd ?_
 simp only[sz,simprocAttr,l5,nT]
 obtain ⟨z,ez,hz⟩:=x6 (d:=d+1) (g:=G.empty.new (.cells 2 [[.int .i64 n.grain,b]] 0 false false)) (Nat.succ_pos d) (n:=n) (v:=.agg [.int .i64 n.grain,b]) (hm' _)
 rcases oJ hz with ⟨hn,cs,rfl,hcs⟩ | ⟨hn,b',cv,sv,oz,o,rfl,hb,hcv,hsv,hoz⟩
 ·obtain ⟨a1,a2,a3,a4,a5,rfl⟩:∃a1 a2 a3 a4 a5,cs=[a1,a2,a3,a4,a5]:=by
   match cs,hcs with
   | [a1,a2,a3,a4,a5],_=>exact ⟨a1,a2,a3,a4,a5,rfl⟩
  simp only[sz,simprocAttr,ez,show ¬((50:Int)=0) from by decide]
  refine ⟨NoP,[],⟨fun h=>(by rw[hn] at h;cases h),fun i x hi=>(by simp at hi)⟩,_,_,rfl,⟨_,rfl,⟨by show 0<9223372036854775808;decide,rfl⟩⟩,?_⟩
  rw[hn];exact aX.2 rfl
 ·have hr:=fJ.1 hn
  have hl8:=hr.l2
  simp only[sz,simprocAttr,ez,hb.len]
  refine q8 (b:=2) (n:=n.nodes.length) (by unfold bh;omega) (by unfold bh;omega) (by simp) fun W g1 hW n1 f1 vW=>?_
  have k1:g1.h.get 1=.cells 5 [[.int .i64 n.grain,b',cv,sv,oz]] 0 false false:=by rw[f1 1 (by simp)];simp[H.get_put]
  have hWl:∀(g:G) (rows:List (List AV)),rows.length=n.nodes.length->Own g 2 W 3 rows->gT .slice W g=.val (.int .i64 (n.nodes.length:Int)):=fun g rows h1 h=>by
   rcases h with ⟨rfl,e⟩ | ⟨id,ep,lo,-,-,rfl,-⟩
   ·cases vW
   ·rw[h1];rfl
  have hlW:=hWl g1 _ (by simp) hW
  have hryW:ph W=true:=by
   rcases hW with ⟨rfl,e⟩ | ⟨id,ep,lo,-,-,rfl,-⟩
   ·cases vW
   ·rfl
  simp only[sz,simprocAttr,hlW]
  simp only[mQ]
  refine aS (m:=n.nodes.length) (by omega) (fun j t df g=>df=[]/\FasJ n W b' cv sv oz j t g) ⟨rfl,by simp[St,sx],k1,_,[],hW,by simp,rfl,trivial,fun i x hi=>(by simp at hi),fun i _ hi=>by simp[hi]⟩ (by simp[sx]) (by simp[sx]) (by decide)
   (by rintro j t df g v s (rfl | rfl | rfl) ⟨a1,⟨b1,b2,-⟩,c1,c2⟩<;>exact ⟨a1,by simp[St,sx,b1,b2],c1,c2⟩) ?_ ?_
  ·rintro j t df g hj ⟨rfl,⟨h4,h6,-⟩,hg,rows',l,hW,hrl,hll,hal,hfs,hnil⟩ h23 h22
   obtain ⟨x,hx,-,-⟩:=aw hj
   have hm5:Agg ((n,S.aa n,S.ak n,o):NwM) NoP 0 g.h (.agg [.int .i64 n.grain,b',cv,sv,oz]):=⟨_,rfl,sN.2 ⟨b',cv,sv,oz,rfl,hb.tree (Nat.le_refl 0),hcv.tree (Nat.le_refl 0),hsv.tree (Nat.le_refl 0),hoz.tree (Nat.le_refl 0)⟩⟩
   obtain ⟨f,ef,p,hp,cs,rfl,hcs⟩:=DH (d:=d+1) (g:=g) (i:=j) (Nat.succ_pos d) hr hm5 hx
   obtain ⟨a1,a2,a3,rfl,ha1,ha2,ha3⟩:=mq.1 hcs
   have hrj:=hnil j (Nat.le_refl _) hj
   have hWr:=hW.rows
   have hjr:j<rows'.length:=by omega
   simp only[sz,simprocAttr,h23,h6,h4,hg,ef,hWr,hjr]
   refine cq (v:=W) (sz:=3) (n:=3) (i:=j) (off:=0) (x:=.agg [a1,a2,a3]) (row':=[a1,a2,a3]) hW hrj (by rfl) rfl ?_ fun g4 hW4 n4 f4=>?_
   ·rfl
   have htk:(rows'.set j [a1,a2,a3]).take (j+1)=rows'.take j++[[a1,a2,a3]]:=by
    rw[List.take_add_one,List.take_set_of_le (Nat.le_refl _),List.getElem?_set_self hjr]
    rfl
   simp only[sx,sy,↓reduceIte,Nat.reduceEqDiff]
   refine ⟨⟨by simp[St,sx,h4,h6],?_,_,l++[S.aP n j x p],hW4,by simpa using hrl,by simp[hll],?_,?_,fun i h1 h2=>by rw[List.getElem?_set_ne (by omega),hnil i (by omega) h2]⟩,h23,h22⟩
   ·rw[f4 1 fun e=>by have:=(hW.lt e).1;omega,hg]
   ·rw[htk]
    exact hal.append ⟨mq.2 ⟨a1,a2,a3,rfl,ha1,ha2,ha3⟩,trivial⟩
   ·intro i y hi hy
    by_cases hij:i<l.length
    ·rw[List.getElem?_append_left hij]
     exact hfs i y hij hy
    ·have hi:i=j:=by simp at hi;omega
     subst hi
     rw[hx] at hy
     injection hy with hy
     subst hy
     exact ⟨p,hp,by rw[List.getElem?_append_right (by omega),hll];simp⟩
  ·rintro t df g ⟨rfl,⟨h4,h6,-⟩,hg,rows',l,hW,hrl,hll,hal,hfs,hnil⟩
   rw[List.take_of_length_le (by omega)] at hal
   simp only[sz,simprocAttr,mN,h6]
   refine ⟨fun _=>True,l,⟨fun _=>hll,hfs⟩,_,_,rfl,⟨W,rfl,Own.sl (α:=Factor) hW (by omega) (hal.mono fun a b r=>Rp.tree r (Nat.le_refl 0)) fun _ _=>trivial⟩,?_⟩
   rw[hn];exact aX.2 rfl
end
end Hx
end
