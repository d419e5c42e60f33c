/- A part of the proof: an interpreter over abstract values, shown right against the model, and what the functions of the chapter compute on it. -/
import Derived.Test.YtbejmpmoigmliaaGreatDoorHx9
set_option linter.unusedVariables false
set_option linter.unusedSimpArgs false
set_option linter.unnecessarySimpa false
section
namespace Hx
open Go
noncomputable section
theorem wE {C:Cfg}{d:Nat}{r:List SR}{t:T}{g:G}{K:AV->G->Prop}{i j:Nat}(hi:g.h.get i=.dfr true)(hj:g.h.get j=.dfr true)(hij:i≠j)(h:nh r t ((g.put i (.dfr false)).put j (.dfr false)) fun vs=>K (dS vs) ((g.put i (.dfr false)).put j (.dfr false))):mK C d r t [.mark i,.mark j] g K:=by
 unfold mK
 have:cJ (I C) d [.mark i,.mark j] g=some ((g.put i (.dfr false)).put j (.dfr false)):=by
  have hj':(g.put i (.dfr false)).h.get j=.dfr true:=by simp[H.get_put,show ¬j=i by omega,hj]
  simp only[cJ,G.get_eq,hi,hj']
 rw[this];exact h
def S.ak (s:Nat):List Nat:=(List.range 8).filter fun v=>s.testBit v
theorem zM:∀x:Nat,x<256->x≠0->S.ak x=S.tz x::S.ak (x &&& (x - 1))/\x &&& (x - 1)<256:=by decide +kernel
theorem ks {s v:Nat}(hs:s<256):v∈S.ak s↔s.testBit v=true:=by
 rw[S.ak,List.mem_filter,List.mem_range]
 exact ⟨fun h=>h.2,fun h=>⟨oV (n:=8) hs h,h⟩⟩
theorem ED {d x:Nat}{g:G}(hd:0<d)(hx:x<256)(h0:x≠0):ap C0 d N.aJ [.int .u64 (x:Int)] g=.val (.int .i64 (S.tz x:Int)):=by
 rw[gD]
 refine dZ iy (xs:=[.int .u64 (x:Int)]) (by simp only[az,aX 0]) (by simp[cd]) hd ?_
 have k:=fun g=>CX (d:=d+1) (g:=g) (Nat.succ_pos d) hx h0
 simp only[sz,simprocAttr,cd,k]
def MbV (s:Nat):VS:=fun P k h v=>∃p,v=.clo N.af [] [p]/\((∃id,p=.hptr id 0 0 0/\P id/\h.get id=.cells 1 [[.int .u64 (s:Int)]] 0 false false)\/∃t,p=.tptr t 1 [[.int .u64 (s:Int)]] 0 0/\t<=k)
theorem Dx {h:H}{id:Nat}{x:AV}{k:IntKind}{q:Int}(hx:x=.int k q)(d j:Nat)(hg:h.get id=.cells 1 [[x]] 0 false false):Hx.snap h d (j+3) (.hptr id 0 0 0)=some (.tptr (Nat.max d 0) 1 [[x]] 0 0):=by
 subst hx
 simp only[Hx.snap,hg,show Nat.beq 0 0=true from rfl,az]
 rfl
theorem ER (s:Nat):Snb (MbV s) 4:=by
 refine ⟨fun {P k h v j} d r hn=>?_,fun {k h v j} r hn=>?_⟩
 ·obtain ⟨p,rfl,r1⟩:=r
  obtain ⟨j,rfl⟩:∃i,j=i+4:=⟨j - 4,by omega⟩
  obtain ⟨p',e1,s1⟩:∃p',Hx.snap h d (j+3) p=some p'/\∃t,p'=.tptr t 1 [[.int .u64 (s:Int)]] 0 0/\t<=max k d:=by
   rcases r1 with ⟨id,rfl,-,hg⟩ | ⟨t,rfl,ht⟩
   ·exact ⟨_,Dx rfl d j hg,_,rfl,by show max d 0<=_;omega⟩
   ·exact ⟨_,rfl,_,rfl,by omega⟩
  refine ⟨.clo N.af [] [p'],?_,p',rfl,.inr s1⟩
  show (match az (Hx.snap h d (j+3)) [],az (Hx.snap h d (j+3)) [p] with | some as',some cs=>some (AV.clo N.af as' cs) | _,_=>none)=_
  simp only[az,e1]
 ·obtain ⟨p,rfl,r1⟩:=r
  obtain ⟨j,rfl⟩:∃i,j=i+4:=⟨j - 4,by omega⟩
  rcases r1 with ⟨id,rfl,hP,-⟩ | ⟨t,rfl,ht⟩
  ·exact hP.elim
  exact ⟨Nat.max t 0,rfl,by show max t 0<=k;omega⟩
def mbC (s:Nat):AV:=.clo N.af [] [.tptr 0 1 [[.int .u64 (s:Int)]] 0 0]
theorem jx {d s:Nat}{g:G}(hd:0<d):ap C0 d N.ae [.int .u64 (s:Int)] g=.val (mbC s):=by
 have key:∃r,ap C0 d N.ae [.int .u64 (s:Int)] g=.val r/\MbV s NoP 0 .nil r:=by
  rw[kf]
  refine eS lX (xs:=[.int .u64 (s:Int)]) rfl (by simp[eo]) (ER s) (by decide) hd ?_
  simp only[sz,simprocAttr,eo,f7]
  exact ⟨fun _=>True,_,rfl,.inl ⟨0,rfl,trivial,by simp[sx]⟩⟩
 obtain ⟨r,h1,p,rfl,h2⟩:=key
 rcases h2 with ⟨id,rfl,hP,-⟩ | ⟨t,rfl,ht⟩
 ·exact hP.elim
 rw[h1,show t=0 by omega];rfl
theorem Cx {d id s:Nat}{g0:G}{K:AV->G->Prop}(hd:0<d)(hs:s<256)(J:Nat->H->Prop)
  (step:∀(j v:Nat) (g:G) (K':AV->G->Prop) (D:ADf->Prop),(S.ak s)[j]?=some v->g0.nx<=g.nx->J j g.h ->
   (∀g',J (j+1) g'.h->g.nx<=g'.nx->K' (.bool true) g')->(cT (I C0) d id [.int .i64 (v:Int)] g).sat K' g D)
  (h0:J 0 g0.h) (fin:∀g',J (S.ak s).length g'.h->g0.nx<=g'.nx->K (.tup []) g') :
  wp C0 d none a9.code (fnQ C0 d a9.res K) (bB 0 [.yld id,.tptr 0 1 [[.int .u64 (s:Int)]] 0 0] .nil) [] g0:=by
 simp only[sz,simprocAttr,a9,z7]
 refine oO (fun n t df g=>df=[]/\∃j x:Nat,n=(S.ak s).length - j/\j<=(S.ak s).length/\x<256/\S.ak x=(S.ak s).drop j/\St t [(0,.yld id),(3,.int .u64 (x:Int))]/\J j g.h/\g0.nx<=g.nx) (S.ak s).length
  ⟨rfl,0,s,by omega,by omega,hs,by simp,by simp[St,sx],h0,Nat.le_refl _⟩ ?_
 rintro n t df g ⟨rfl,j,x,rfl,hj,hx,hm,⟨t0,t3,-⟩,hJ,hn⟩
 simp only[eB]
 by_cases hx0:x=0
 ·have hjl:j=(S.ak s).length:=by
   have:(S.ak x).length=0:=by rw[hx0];rfl
   rw[hm,List.length_drop] at this
   omega
  subst hx0
  simp only[sz,simprocAttr,t0,t3]
  rw[hjl] at hJ
  exact fin g hJ hn
 ·obtain ⟨e1,e2⟩:=zM x hx hx0
  have c0:¬(x:Int)=0:=by omega
  have k:=fun g=>ED (d:=d) (g:=g) hd hx hx0
  have hv:(S.ak s)[j]?=some (S.tz x):=by
   have:((S.ak s).drop j)[0]?=some (S.tz x):=by rw[<-hm,e1];rfl
   rwa [List.getElem?_drop] at this
  simp only[sz,simprocAttr,t0,t3,c0,k]
  show (cT (I C0) d id [.int .i64 (S.tz x:Int)] g).sat _ _ _
  refine step j (S.tz x) g _ _ hv hn hJ (fun g' hJ' hn'=>?_)
  have w1:IntKind.wrap .u64 ((x:Int) - 1)=((x - 1:Nat):Int):=by rw[bk (by omega) (by omega)];omega
  have w2:aS .and (.int .u64 (x:Int)) (.int .u64 ((x - 1:Nat):Int))=.val (.int .u64 ((x &&& (x - 1):Nat):Int)):=bj x (x - 1) (by omega) (by omega)
  simp only[sz,simprocAttr,t0,t3,w1,w2]
  have hjl:j<(S.ak s).length:=(List.getElem?_eq_some_iff.1 hv).1
  refine ⟨(S.ak s).length - (j+1),by omega,j+1,x &&& (x - 1),rfl,by omega,e2,?_,by simp[St,sx,t0],hJ',by omega⟩
  have h3:(S.ak x).tail=((S.ak s).drop j).tail:=by rw[hm]
  rw[e1,List.tail_drop] at h3
  exact h3
theorem zl:C0.ext N.af=none:=by kernel_rfl
theorem tV {d nt y p s:Nat}{ca cb:SC}{Q:QT}{t:T}{df:List ADf}{g:G}(hd:0<d)(hs:s<256)(hv:tat t y=mbC s)(hp:p<nt)
  (J:Nat->H->Prop) (hJ:∀j h h',(∀i,i<g.nx->h'.get i=h.get i)->J j h->J j h') (h0:J 0 g.h)
  (step:∀(j v:Nat) (g1:G),(S.ak s)[j]?=some v->J j g1.h->g.nx+2<=g1.nx ->
   wp C0 d (some (g.nx+1)) ca (fun e t1 df g1'=>e=.norm/\df=[]/\g1'=g1/\∀g2:G,g2.nx=g1.nx->(∀i,i≠g.nx+1->g2.h.get i=g1.h.get i) ->
    wp C0 d (some (g.nx+1)) cb (fun e _ df g3=>df=[]/\RowQ g.nx g2 g3 e (J (j+1) g3.h) False) t1 [] g2)
    (cg t p (.int .i64 (v:Int))) [] g1)
  (fin:∀g',J (S.ak s).length g'.h->g.nx+2<=g'.nx->g'.h.get g.nx=.dfr true->Q .norm t (.mark g.nx::df) g') :
  wp C0 d none (.rng nt (.t y) [p] ca cb) Q t df g:=by
 refine v7 (fn:=N.af) (first:=[]) (cap:=[.tptr 0 1 [[.int .u64 (s:Int)]] 0 0]) (s:=a9) hv zl kg (by simp[a9]) ?_
 intro assign body ha hb
 have e1:((g.new (.dfr true)).new (.loop nt t [p] assign body g.nx .ready none)).nx=g.nx+2:=by simp
 refine Cx (g0:=(g.new (.dfr true)).new (.loop nt t [p] assign body g.nx .ready none)) (id:=g.nx+1) hd hs
  (fun j h=>J j h/\h.get g.nx=.dfr true/\h.get (g.nx+1)=.loop nt t [p] assign body g.nx .ready none) ?_ ?_ ?_
 ·rintro j v g1 K' D hj hn ⟨a1,a2,a3⟩ kk
  rw[e1] at hn
  refine zO a3 ha hb (t':=cg t p (.int .i64 (v:Int))) ?_ ?_
  ·simp only[dC,aa,Nat.blt_eq,if_pos hp];rfl
  ·refine dD _ (step j v g1 hj a1 (by omega)) ?_
   rintro e t1 df g1' ⟨rfl,rfl,rfl,h⟩
   refine ⟨rfl,rfl,rfl,?_⟩
   have hl:g.nx+1<g1'.nx:=by omega
   refine dD _ (h (g1'.put (g.nx+1) (.loop nt t [p] assign body g.nx .busy none)) (by simp) (fun i hi=>by simp[H.get_put,hi])) ?_
   rintro e t2 df g3 ⟨rfl,⟨b2,b3,b1⟩⟩
   have b4:g3.h.get (g.nx+1)=.loop nt t [p] assign body g.nx .busy none:=by rw[b3 _ (by omega) (by simpa using hl)];simp[H.get_put]
   have b5:g3.h.get g.nx=.dfr true:=by
    rw[b3 _ (by omega) (by simp;omega)];simp[H.get_put,a2]
   refine ⟨rfl,b4,?_⟩
   rcases b1 with ⟨rfl,b1⟩ | ⟨rfl,b1⟩
   ·refine .inl ⟨rfl,kk _ ⟨hJ _ g3.h _ (fun i hi=>by simp[H.get_put,show ¬i=g.nx+1 by omega]) b1,?_,?_⟩ (by simpa using b2)⟩
    ·simp[H.get_put,b5]
    ·simp[H.get_put]
   ·exact b1.elim
 ·refine ⟨hJ 0 g.h _ (fun i hi=>?_) h0,?_,?_⟩
  ·simp[H.get_put,show ¬i=g.nx+1 by omega,show ¬i=g.nx by omega]
  ·simp[H.get_put]
  ·simp[H.get_put]
 ·rintro g' ⟨a1,a2,a3⟩ hn
  rw[e1] at hn
  refine ⟨_,_,_,_,_,_,.inl ⟨a3,fin _ (hJ _ g'.h _ (fun i hi=>by simp[H.get_put,show ¬i=g.nx+1 by omega]) a1) (by simpa using hn) ?_⟩⟩
  simp[H.get_put,a2]
section
variable {α:Type} [DecidableEq α]
end
theorem wY {C:Cfg}{ty kt et a b:Nat}{z:AV}{ok:Bool}(hu:C.P.underlying ty=some (.map kt et))(hz:l5 C.P et=some z)(d:Nat)(rd:Option Nat)(t:T)(g:G):(SO.raw (.lookup ty (.tmp a) (.tmp b) ok)).run C d rd t g=bE (bF C.P kt) z ok (fun t=>tat t a) (fun t=>tat t b) t g:=by
 obtain ⟨s1,e1,r1⟩:=aP (C:=C) (x:=.tmp a) (o:=.t a) rfl
 obtain ⟨s2,e2,r2⟩:=aP (C:=C) (x:=.tmp b) (o:=.t b) rfl
 show (bH C _).run (I C) d rd t g=_
 rw[a7 (s:=⟨bE (bF C.P kt) z ok s1.run s2.run⟩) rfl (by simp only[bw,e1,e2,hu,hz])]
 rw[show s1.run=fun t=>tat t a from funext r1,show s2.run=fun t=>tat t b from funext r2]
end
end Hx
end
section
namespace Hx
open Go
noncomputable section
def sk (s:Nat×Bool):AV:=.agg [.int .i64 (s.1:Int),.bool s.2]
theorem DT (a b:Nat×Bool):gY (sk a) (sk b)=some (decide (a=b)):=by
 obtain ⟨a1,a2⟩:=a
 obtain ⟨b1,b2⟩:=b
 have e:gY (sk (a1,a2)) (sk (b1,b2))=some (af (zd (a1:Int) (b1:Int)) (af (a2 == b2) true false) false):=by
  cases a2<;>cases b2<;>rfl
 rw[e,nO]
 by_cases h1:a1=b1
 ·subst h1
  cases a2<;>cases b2<;>simp[af]
 ·have:¬(a1:Int)=(b1:Int):=by omega
  simp[h1,this,af]
def bcl (L:List (Nat×Bool)):List (AV×AV):=L.map fun s=>(sk s,.bool true)
theorem x6 (s:Nat×Bool):∀L:List (Nat×Bool),gu (sk s) (bcl L)=some (if s∈L then some (.bool true) else none)
 | []=>rfl
 | a::r=>by
  rw[bcl,List.map_cons,gu,DT]
  by_cases e:s=a
  ·subst e;simp
  ·have ih:=x6 s r
   rw[bcl] at ih
   simp only[decide_eq_false e]
   rw[ih]
   simp[e]
theorem Cc {s:Nat×Bool}:∀{L:List (Nat×Bool)},s ∉ L->sY (sk s) (.bool true) (bcl L)=some (bcl (L++[s]))
 | [],_=>rfl
 | a::r,h=>by
  rw[bcl,List.map_cons,sY,DT]
  have e:s≠a:=fun e=>h (e ▸ List.mem_cons_self ..)
  have ih:=Cc (L:=r) fun h'=>h (List.mem_cons_of_mem _ h')
  rw[bcl] at ih
  rw[show decide (s=a)=false from decide_eq_false e]
  show (match sY (sk s) (AV.bool true) (List.map (fun s=>(sk s,AV.bool true)) r) with | some r=>some ((sk a,AV.bool true)::r) | none=>none)=_
  rw[ih]
  rfl
def ktS:Nat:=match C0.P.underlying 192 with | some (.map k _)=>k | _=>0
theorem D_:C0.P.underlying 192=some (.map ktS 4):=by kernel_rfl
theorem Fm (s:Nat×Bool):ib (bF C0.P ktS) (sk s)=true:=by
 have e:bF C0.P ktS=.flat [.int .i64,.bool]:=by kernel_rfl
 rw[e];rfl
theorem E1:l5 C0.P 4=some (.bool false):=by kernel_rfl
theorem EN (d:Nat)(rd:Option Nat)(t:T)(g:G):(bH C0 (.makeMap 192 none)).run (I C0) d rd t g=.upd (.hmap g.nx) (g.new (.map [])):=by kernel_rfl
theorem AR {d:Nat}{rd:Option Nat}{t:T}{g:G}{a b id:Nat}{s:Nat×Bool}{L:List (Nat×Bool)}(h1:tat t a=.hmap id)(h2:tat t b=sk s)(hg:g.h.get id=.map (bcl L)):(bH C0 (.lookup 192 (.tmp a) (.tmp b) false)).run (I C0) d rd t g=.val (.bool (decide (s∈L))):=by
 have:=wY (C:=C0) (a:=a) (b:=b) (ok:=false) D_ E1 d rd t g
 rw[show (SO.raw (.lookup 192 (.tmp a) (.tmp b) false)).run C0 d rd t g=(bH C0 (.lookup 192 (.tmp a) (.tmp b) false)).run (I C0) d rd t g from rfl] at this
 rw[this]
 unfold bE
 simp only[h1,h2,Fm,G.get_eq,hg,x6]
 by_cases h:s∈L
 ·simp[h,af]
 ·simp[h,af]
theorem BO {C:Cfg}{ty kt et a b:Nat}(hu:C.P.underlying ty=some (.map kt et))(d:Nat)(rd:Option Nat)(t:T)(g:G):(bH C (.mapUpdate ty (.tmp a) (.tmp b) (.const (.bool true)))).run (I C) d rd t g=bQ (bF C.P kt) (fun t=>tat t a) (fun t=>tat t b) (fun _=>.bool true) t g:=by
 obtain ⟨s1,e1,r1⟩:=aP (C:=C) (x:=.tmp a) (o:=.t a) rfl
 obtain ⟨s2,e2,r2⟩:=aP (C:=C) (x:=.tmp b) (o:=.t b) rfl
 obtain ⟨s3,e3,r3⟩:=aP (C:=C) (x:=.const (.bool true)) (o:=.k (.bool true)) rfl
 rw[a7 (s:=⟨bQ (bF C.P kt) s1.run s2.run s3.run⟩) rfl (by simp only[bw,e1,e2,e3,hu])]
 rw[show s1.run=fun t=>tat t a from funext r1,show s2.run=fun t=>tat t b from funext r2,show s3.run=fun _=>.bool true from funext r3]
theorem Fl {d:Nat}{rd:Option Nat}{t:T}{g:G}{a b id:Nat}{s:Nat×Bool}{L:List (Nat×Bool)}(h1:tat t a=.hmap id)(h2:tat t b=sk s)(hg:g.h.get id=.map (bcl L))(hs:s ∉ L):(bH C0 (.mapUpdate 192 (.tmp a) (.tmp b) (.const (.bool true)))).run (I C0) d rd t g=.upd .undef (g.put id (.map (bcl (L++[s])))):=by
 rw[BO D_]
 unfold bQ
 simp only[h1,h2,Fm,G.get_eq,hg,Cc hs]
def BQ:AV:=.clo N.aL [] [.hptr 5 0 0 0,.hptr 1 0 0 0,.hptr 4 0 0 0,.hptr 0 0 0 0,.hptr 6 0 0 0,.hptr 2 0 0 0]
structure GrI (p c:List Nat) (pa ch:AV) (Zs:Nat):Prop where
 hp:∀x∈p,x<2 ^ p.length
 n8:p.length<=8
 rp:∀h,aw h 1 pa=some (p.map cu)
 rc:∀h,aw h 1 ch=some (c.map cu)
 yp:0<p.length->p_ pa=true
 yc:0<p.length->p_ ch=true
 cl:c.length=p.length
 cb:∀v u,(c[v]?.getD 0).testBit u=true↔Eg p v u
 zs:Zs<2 ^ p.length
structure VI (p:List Nat) (pa ch:AV) (Zs:Nat) (L:List (Nat×Bool)) (h:H):Prop where
 g0:h.get 0=.cells 2 [[pa,ch]] 0 false false
 z:h.get 1=.cells 1 [[.int .u64 (Zs:Int)]] 0 false false
 a:h.get 2=.cells 1 [[.int .u64 (S.up p Zs p.length:Int)]] 0 false false
 m:h.get 3=.map (bcl L)
 r:h.get 4=.cells 1 [[.int .u64 (S.aa (jK (Bt Zs) L) p.length:Int)]] 0 false false
 p:h.get 5=.cells 1 [[.hmap 3]] 0 false false
 v:h.get 6=.cells 1 [[BQ]] 0 false false
theorem VI.fr {p:List Nat}{pa ch:AV}{Zs:Nat}{L:List (Nat×Bool)}{h h':H}(hi:VI p pa ch Zs L h)(hh:∀i,i<7->h'.get i=h.get i):VI p pa ch Zs L h' :=
 ⟨by rw[hh 0 (by omega),hi.g0],by rw[hh 1 (by omega),hi.z],by rw[hh 2 (by omega),hi.a],by rw[hh 3 (by omega),hi.m],by rw[hh 4 (by omega),hi.r],by rw[hh 5 (by omega),hi.p],by rw[hh 6 (by omega),hi.v]⟩
theorem GrI.cb8 {p c:List Nat}{pa ch:AV}{Zs:Nat}(h:GrI p c pa ch Zs)(v:Nat):c[v]?.getD 0<256:=by
 have:c[v]?.getD 0<2 ^ p.length:=Nat.lt_pow_two_of_testBit _ fun u hu=>by
  cases hb:(c[v]?.getD 0).testBit u with
  | false=>rfl
  | true =>
   have:=(kK h.hp ((h.cb v u).1 hb)).2
   omega
 have h2:=Nat.pow_le_pow_right (show 0<2 by decide) h.n8
 omega
theorem GrI.pb8 {p c:List Nat}{pa ch:AV}{Zs:Nat}(h:GrI p c pa ch Zs)(v:Nat):Par p v<256:=by
 have:=mL h.hp (v:=v)
 have h2:=Nat.pow_le_pow_right (show 0<2 by decide) h.n8
 omega
theorem CY (d:Nat)(s:AV)(g:G):fU C0 (I C0) d BQ [s] g=orF ((I C0).call d N.aL [s,.hptr 5 0 0 0,.hptr 1 0 0 0,.hptr 4 0 0 0,.hptr 0 0 0 0,.hptr 6 0 0 0,.hptr 2 0 0 0] g):=by kernel_rfl
abbrev RX (p:List Nat)(Zs:Nat):=Sx (Eg p) (Bt Zs) (An (Eg p) (Bt Zs))
def LVs (q:Nat):List (Nat×AV):=[(1,.hptr 5 0 0 0),(2,.hptr 1 0 0 0),(3,.hptr 4 0 0 0),(4,.hptr 0 0 0 0),(5,.hptr 6 0 0 0),(6,.hptr 2 0 0 0),(7,.hptr q 0 0 0)]
def uJ (p:List Nat)(pa ch:AV)(Zs:Nat)(Gd:Nat×Bool->Prop)(d k:Nat):Prop :=
 ∀(L:List (Nat×Bool)) (s:Nat×Bool) (g:G) (K:AV->G->Prop) (D:ADf->Prop),S.aL p.length L<=k->Gd s->(∀s∈L,Gd s)->7<=g.nx->VI p pa ch Zs L g.h ->
  (∀g' L',VI p pa ch Zs L' g'.h->g.nx<=g'.nx->(∀i,7<=i->i<g.nx->g'.h.get i=g.h.get i)->Dst (RX p Zs) Gd L L'->s∈L'->K (.tup []) g') ->
  (fU C0 (I C0) d BQ [sk s] g).sat K g D
structure VJ (p:List Nat) (pa ch:AV) (Zs:Nat) (Gd:Nat×Bool->Prop) (L:List (Nat×Bool)) (b:Bool) (l:List Nat) (g0:G) (j:Nat) (h:H):Prop where
 ex:∃L',VI p pa ch Zs L' h/\Dst (RX p Zs) Gd L L'/\∀i v,i<j->l[i]?=some v->(v,b)∈L'
 fr:∀i,7<=i->i<g0.nx->h.get i=g0.h.get i
theorem Bd {p:List Nat}{pa ch:AV}{Zs:Nat}{Gd:Nat×Bool->Prop}{d k q set:Nat}{L:List (Nat×Bool)}{Q:QT}{t:T}{df:List ADf}{g:G}(hd:0<d)(hv:uJ p pa ch Zs Gd d k)(hk:S.aL p.length L<=k)(hs:set<256)
  (hg:∀v∈S.ak set,Gd (v,true)) (hL:∀s∈L,Gd s) (hI:VI p pa ch Zs L g.h) (hn:7<=g.nx) (ht:St t (LVs q)) (hy:tat t 32=mbC set)
  (fin:∀g' L',VI p pa ch Zs L' g'.h->g.nx+2<=g'.nx->g'.h.get g.nx=.dfr true->(∀i,7<=i->i<g.nx->g'.h.get i=g.h.get i)->Dst (RX p Zs) Gd L L'->(∀v∈S.ak set,(v,true)∈L')->Q .norm t (.mark g.nx::df) g') :
  wp C0 d none (.rng 74 (.t 32) [33] bb a_) Q t df g:=by
 obtain ⟨h1,h2,h3,h4,h5,h6,h7,-⟩:=ht
 refine tV hd hs hy (by decide) (fun j h=>VJ p pa ch Zs Gd L true (S.ak set) g j h) ?_ ⟨⟨L,hI,Dst.refl hL,fun i v h=>absurd h (Nat.not_lt_zero i)⟩,fun _ _ _=>rfl⟩ ?_ ?_
 ·rintro j h h' hh ⟨⟨L1,i1,i2,i3⟩,f1⟩
  exact ⟨⟨L1,i1.fr fun i hi=>hh i (by omega),i2,i3⟩,fun i h1 h2=>by rw[hh i h2,f1 i h1 h2]⟩
 ·rintro j v g1 hj ⟨⟨L1,i1,i2,i3⟩,f1⟩ hn1
  simp only[sz,simprocAttr,bb]
  intro g2 hn2 hf2
  have i1':VI p pa ch Zs L1 g2.h:=i1.fr fun i hi=>hf2 i (by omega)
  simp only[sz,simprocAttr,a_,h5,i1'.v]
  refine hv L1 (v,true) g2 _ _ (Nat.le_trans (pK i2.pre) hk) (hg v (List.mem_of_getElem? hj)) i2.good (by omega) i1' fun g3 L2 j1 j2 j3 j4 j5=>?_
  simp only[sz,simprocAttr]
  refine ⟨j2,fun i a b=>j3 i (by omega) b,.inl ⟨rfl,⟨L2,j1,i2.tr j4,fun i u hi hu=>?_⟩,fun i a b=>?_⟩⟩
  ·by_cases e:i=j
   ·subst e
    rw[hj] at hu
    injection hu with hu
    subst hu
    exact j5
   ·exact j4.pre _ (i3 i u (by omega) hu)
  ·rw[j3 i a (by omega),hf2 i (by omega),f1 i a b]
 ·rintro g' ⟨⟨L1,i1,i2,i3⟩,f1⟩ hn' hdf
  refine fin g' L1 i1 hn' hdf f1 i2 fun v hv=>?_
  obtain ⟨i,hi,e⟩:=List.mem_iff_getElem.1 hv
  exact i3 i v hi (by rw[List.getElem?_eq_getElem hi,e])
theorem BI {p:List Nat}{pa ch:AV}{Zs:Nat}{Gd:Nat×Bool->Prop}{d k q set:Nat}{L:List (Nat×Bool)}{Q:QT}{t:T}{df:List ADf}{g:G}(hd:0<d)(hv:uJ p pa ch Zs Gd d k)(hk:S.aL p.length L<=k)(hs:set<256)
  (hg:∀v∈S.ak set,Gd (v,false)) (hL:∀s∈L,Gd s) (hI:VI p pa ch Zs L g.h) (hn:7<=g.nx) (ht:St t (LVs q)) (hy:tat t 68=mbC set)
  (fin:∀g' L',VI p pa ch Zs L' g'.h->g.nx+2<=g'.nx->g'.h.get g.nx=.dfr true->(∀i,7<=i->i<g.nx->g'.h.get i=g.h.get i)->Dst (RX p Zs) Gd L L'->(∀v∈S.ak set,(v,false)∈L')->Q .norm t (.mark g.nx::df) g') :
  wp C0 d none (.rng 74 (.t 68) [69] bc ba) Q t df g:=by
 obtain ⟨h1,h2,h3,h4,h5,h6,h7,-⟩:=ht
 refine tV hd hs hy (by decide) (fun j h=>VJ p pa ch Zs Gd L false (S.ak set) g j h) ?_ ⟨⟨L,hI,Dst.refl hL,fun i v h=>absurd h (Nat.not_lt_zero i)⟩,fun _ _ _=>rfl⟩ ?_ ?_
 ·rintro j h h' hh ⟨⟨L1,i1,i2,i3⟩,f1⟩
  exact ⟨⟨L1,i1.fr fun i hi=>hh i (by omega),i2,i3⟩,fun i h1 h2=>by rw[hh i h2,f1 i h1 h2]⟩
 ·rintro j v g1 hj ⟨⟨L1,i1,i2,i3⟩,f1⟩ hn1
  simp only[sz,simprocAttr,bc]
  intro g2 hn2 hf2
  have i1':VI p pa ch Zs L1 g2.h:=i1.fr fun i hi=>hf2 i (by omega)
  simp only[sz,simprocAttr,ba,h5,i1'.v]
  refine hv L1 (v,false) g2 _ _ (Nat.le_trans (pK i2.pre) hk) (hg v (List.mem_of_getElem? hj)) i2.good (by omega) i1' fun g3 L2 j1 j2 j3 j4 j5=>?_
  simp only[sz,simprocAttr]
  refine ⟨j2,fun i a b=>j3 i (by omega) b,.inl ⟨rfl,⟨L2,j1,i2.tr j4,fun i u hi hu=>?_⟩,fun i a b=>?_⟩⟩
  ·by_cases e:i=j
   ·subst e
    rw[hj] at hu
    injection hu with hu
    subst hu
    exact j5
   ·exact j4.pre _ (i3 i u (by omega) hu)
  ·rw[j3 i a (by omega),hf2 i (by omega),f1 i a b]
 ·rintro g' ⟨⟨L1,i1,i2,i3⟩,f1⟩ hn' hdf
  refine fin g' L1 i1 hn' hdf f1 i2 fun v hv=>?_
  obtain ⟨i,hi,e⟩:=List.mem_iff_getElem.1 hv
  exact i3 i v hi (by rw[List.getElem?_eq_getElem hi,e])
theorem Cm {s v:Nat}:decide (((s / 2 ^ v &&& 1:Nat):Int)=1)=s.testBit v:=by
 rw[Nat.and_one_is_mod,Nat.testBit_eq_decide_div_mod_eq]
 rw[Bool.eq_iff_iff,decide_eq_true_iff,decide_eq_true_iff]
 omega
theorem nC {s v:Nat}:decide (((s / 2 ^ v &&& 1:Nat):Int)=0) = !s.testBit v:=by
 rw[Nat.and_one_is_mod,Nat.testBit_eq_decide_div_mod_eq]
 have:=Nat.mod_lt (s / 2 ^ v) (show 0<2 by decide)
 by_cases h:s / 2 ^ v % 2=1
 ·rw[h];decide
 ·rw[show s / 2 ^ v % 2=0 by omega];decide
theorem oy {s v:Nat}(h:s<18446744073709551616):aS .and (.int .u64 ((s / 2 ^ v:Nat):Int)) (.int .u64 1)=.val (.int .u64 ((s / 2 ^ v &&& 1:Nat):Int)) :=
 bj (s / 2 ^ v) 1 (Nat.lt_of_le_of_lt (Nat.div_le_self _ _) h) (by decide)
theorem im {n:Nat}(h:n<=8):2 ^ n<=256:=by
 have:=Nat.pow_le_pow_right (show 0<2 by decide) h
 omega
theorem E0 {p c:List Nat}{pa ch:AV}{Zs:Nat}{Gd:Nat×Bool->Prop}{d k q v:Nat}{dn:Bool}{L:List (Nat×Bool)}{Q:QT}{t:T}{df:List ADf}{g:G}(hd:0<d)(hG:GrI p c pa ch Zs)(hv:uJ p pa ch Zs Gd d k)(hk:S.aL p.length L<=k)(hvn:v<p.length)
  (hg:∀u,RX p Zs (v,dn) (u,false)->Gd (u,false)) (hL:∀s∈L,Gd s) (hI:VI p pa ch Zs L g.h) (ht:St t (LVs q)) (hq:g.h.get q=.cells 2 [[.int .i64 (v:Int),.bool dn]] 0 false false) (hq7:7<=q) (hqn:q<g.nx)
  (fin:∀e t' df' g' L',(e=.ret\/e=.norm)->(df'=df\/∃m,df'=.mark m::df/\g'.h.get m=.dfr true/\g.nx<=m)->VI p pa ch Zs L' g'.h->g.nx<=g'.nx->(∀i,7<=i->i<g.nx->g'.h.get i=g.h.get i)->Dst (RX p Zs) Gd L L'->(∀u,RX p Zs (v,dn) (u,false)->(u,false)∈L')->Q e t' df' g') :
  wp C0 d none be Q t df g:=by
 obtain ⟨h1,h2,h3,h4,h5,h6,h7,-⟩:=ht
 have h256:=im hG.n8
 have hz:=hG.zs
 have hup:=td hG.hp hG.zs p.length
 have lq1:aL (.cells 2 [[.int .i64 (v:Int),.bool dn]] 0 false false) 0 0 false 1 0=.val (.int .i64 (v:Int)):=rfl
 have lq2:aL (.cells 2 [[.int .i64 (v:Int),.bool dn]] 0 false false) 0 0 false 1 1=.val (.bool dn):=rfl
 have lg1:aL (.cells 2 [[pa,ch]] 0 false false) 0 0 false 1 0=.val pa:=rfl
 have hpv:p[v]?=some (Par p v):=by simp[Par,List.getElem?_eq_getElem hvn]
 have u1:v<(p.map cu).length:=by simpa using hvn
 have u2:(p.map cu)[v]?=some (cu (Par p v)):=by rw[List.getElem?_map,hpv];rfl
 have hyp:=hG.yp (by omega)
 have kM:=fun g=>jx (d:=d) (s:=Par p v) (g:=g) hd
 obtain ⟨As,hAs⟩:∃As,As=S.up p Zs p.length:=⟨_,rfl⟩
 have hA:=hI.a
 rw[<-hAs] at hA hup
 have hAn:As.testBit v=true↔An (Eg p) (Bt Zs) v:=by rw[hAs];exact D5 hG.hp hG.zs v
 obtain ⟨stop,hstop,hst,hgo⟩:∃stop:Bool,(stop=if dn then !As.testBit v else Zs.testBit v)/\(stop=true->∀u,¬RX p Zs (v,dn) (u,false))/\(stop=false->∀u,Eg p u v->RX p Zs (v,dn) (u,false)):=by
  refine ⟨_,rfl,fun h u hr=>?_,fun h u hu=>?_⟩
  rotate_left
  ·refine .up (fun hd=>?_) (fun hd hz=>?_) hu
   ·rw[if_pos hd,Bool.not_eq_false'] at h
    exact hAn.1 h
   ·subst hd
    rw[if_neg (by decide)] at h
    have:Zs.testBit v=true:=hz
    rw[h] at this;cases this
  cases hr with
  | up a b e =>
   cases dn with
   | true =>
    rw[if_pos rfl,Bool.not_eq_true'] at h
    have:=hAn.2 (a rfl)
    rw[h] at this;cases this
   | false =>
    rw[if_neg (by decide)] at h
    exact b rfl h
 have rest:stop=false->∀t,St t (LVs q)->wp C0 d none (sQ [oF 61 0 4,oF 62 0 61,oL 63 62,oF 64 0 7,oL 65 64,oX 66 63 65,oL 67 66,o 68 (.call N.ae [.t 67])] (.blk 2 (.rng 74 (.t 68) [69] bc ba))) Q t df g:=by
  intro hns t ht
  obtain ⟨h1,h2,h3,h4,h5,h6,h7,-⟩:=ht
  simp only[sz,simprocAttr,h4,h7,hq,lq1,hI.g0,lg1,hG.rp,u1,u2,cu,hyp,kM]
  refine BI (q:=q) (L:=L) (set:=Par p v) hd hv hk (hG.pb8 v) (fun u hu=>?_) hL hI (by omega) (by simp[St,LVs,sx,h1,h2,h3,h4,h5,h6,h7]) (by simp[sx]) ?_
  ·exact hg u (hgo hns u ((ks (hG.pb8 v)).1 hu))
  ·intro g' L' hI' hn' hdf hfr hD hall
   simp only[sz,simprocAttr]
   exact fin .norm _ _ g' L' (.inr rfl) (.inr ⟨g.nx,rfl,hdf,Nat.le_refl _⟩) hI' (by omega) hfr hD fun u hu=>hall u ((ks (hG.pb8 v)).2 (by cases hu with | up _ _ e=>exact e))
 simp only[be]
 cases dn with
 | true =>
  rw[if_pos rfl] at hstop
  cases hb:As.testBit v with
  | false =>
   rw[hb] at hstop
   simp only[sz,simprocAttr,h2,h4,h6,h7,hq,lq1,lq2,hA,aH _ _ _ (show As<18446744073709551616 by omega),oy (show As<18446744073709551616 by omega),nC,hb]
   exact fin .ret _ df g L (.inl rfl) (.inl rfl) hI (Nat.le_refl _) (fun _ _ _=>rfl) (Dst.refl hL) fun u hu=>absurd hu (hst hstop u)
  | true =>
   rw[hb] at hstop
   refine yW (P:=fun t' df' g'=>df'=df/\g'=g/\St t' (LVs q)) ?_ ?_
   ·simp only[sz,simprocAttr,h2,h4,h6,h7,hq,lq1,lq2,hA,aH _ _ _ (show As<18446744073709551616 by omega),oy (show As<18446744073709551616 by omega),nC,hb]
    simp[St,LVs,sx,h1,h2,h3,h4,h5,h6,h7]
   ·rintro t df g ⟨rfl,rfl,ht⟩
    exact rest hstop t ht
 | false =>
  rw[if_neg (by decide)] at hstop
  cases hb:Zs.testBit v with
  | true =>
   rw[hb] at hstop
   simp only[sz,simprocAttr,h2,h4,h6,h7,hq,lq1,lq2,hI.z,aH _ _ _ (show Zs<18446744073709551616 by omega),oy (show Zs<18446744073709551616 by omega),Cm,hb]
   exact fin .ret _ df g L (.inl rfl) (.inl rfl) hI (Nat.le_refl _) (fun _ _ _=>rfl) (Dst.refl hL) fun u hu=>absurd hu (hst hstop u)
  | false =>
   rw[hb] at hstop
   refine yW (P:=fun t' df' g'=>df'=df/\g'=g/\St t' (LVs q)) ?_ ?_
   ·simp only[sz,simprocAttr,h2,h4,h6,h7,hq,lq1,lq2,hI.z,aH _ _ _ (show Zs<18446744073709551616 by omega),oy (show Zs<18446744073709551616 by omega),Cm,hb]
    simp[St,LVs,sx,h1,h2,h3,h4,h5,h6,h7]
   ·rintro t df g ⟨rfl,rfl,ht⟩
    exact rest hstop t ht
theorem oq {α:Type} [Rp α]{k:Nat}{l:List α}{v:AV}(hl:SlR NoP k .nil l v)(h0:0<l.length):p_ v=true:=by
 have h:=hl.2
 unfold SlV at h
 split at h
 ·rw[h] at h0;simp at h0
 ·rw[h] at h0;simp at h0
 ·rfl
 ·exact h.1.elim
 ·exact h.elim
def GrV (p:List Nat):VS:=wy (Agg (S.gr p)) (One (if S.az p then (0:Int) else 70))
structure GrB (pa cv:AV) (q:Nat) (Y:List Nat) (g:G):Prop where
 h0:g.h.get 0=.cells 2 [[.nils,.nils]] 0 false false
 hq:g.h.get q=.cells 2 [[pa,cv]] 0 false false
 hs:Own g 1 cv 1 (Y.map cu)
 q1:1<=q
 qn:q<g.nx
 d1:vid cv≠some q
def LRg (pa:AV)(q:Nat):List (Nat×AV):=[(0,pa),(2,.hptr 0 0 0 0),(4,.hptr q 0 0 0)]
section
variable {d:Nat}{p:List Nat}{pa cv:AV}{q:Nat}
theorem Bv {Q:QT}{t:T}{g:G}{j x:Nat}(n8:p.length<=8)(hx:p[j]?=some x)(hxl:x<18446744073709551616)
  (h0:GrB pa cv q (S.aw p j 0) g) (ht:St t ((28,pa)::(29,.int .i64 (p.length:Int))::(30,.int .i64 (j:Int))::(5,.int .i64 (j:Int))::(6,.int .u64 (x:Int))::LRg pa q)) (h43:tat t 43=.int .i64 0) (h42:tat t 42=.int .i64 (p.length:Int))
  (fin:∀t g',St t ((28,pa)::(29,.int .i64 (p.length:Int))::(30,.int .i64 (j:Int))::(5,.int .i64 (j:Int))::(6,.int .u64 (x:Int))::LRg pa q)->GrB pa cv q (S.aw p j p.length) g'->Q (.exit 2) t [] g'):wpL (wp C0 d none d_) Q t [] g:=by
 have hjl:=(List.getElem?_eq_some_iff.1 hx).1
 simp only[d_]
 refine bV (m:=p.length) (by omega) (fun i t df g'=>df=[]/\St t ((28,pa)::(29,.int .i64 (p.length:Int))::(30,.int .i64 (j:Int))::(5,.int .i64 (j:Int))::(6,.int .u64 (x:Int))::LRg pa q)/\GrB pa cv q (S.aw p j i) g') ⟨rfl,ht,h0⟩ h43 h42 (by decide)
  (by rintro i t df g v s (rfl | rfl | rfl) ⟨a1,⟨b1,b2,b3,b4,b5,b6,b7,b8,-⟩,c1⟩<;>exact ⟨a1,by simp[St,LRg,sx,b1,b2,b3,b4,b5,b6,b7,b8],c1⟩) ?_ ?_
 ·rintro i t df g hi ⟨rfl,⟨h28,h29,h30,h5,h6,h0,h2,h4,-⟩,hB⟩ h43 h42
  obtain ⟨old,hold⟩:∃old,old=S.aa (fun v=>Eg p i v/\(v<j\/v=j/\i<i)) p.length:=⟨_,rfl⟩
  have hst:=Ci hi hjl n8 hx
  have hYg:(S.aw p j i)[i]?=some old:=by rw[hold];exact nm hi
  rw[<-hold] at hst
  have hol:old<18446744073709551616:=by
   have:=iV (fun v=>Eg p i v/\(v<j\/v=j/\i<i)) p.length
   have:=im n8
   omega
  clear hold
  obtain ⟨ad,had⟩:∃ad,ad=(x / 2 ^ i &&& 1)*2 ^ j % 18446744073709551616:=⟨_,rfl⟩
  have hsl:=xN .i64 (x / 2 ^ i &&& 1) j
  have hadl:ad<18446744073709551616:=by rw[had];exact Nat.mod_lt _ (by decide)
  rw[<-had] at hst hsl
  clear had
  have hYr:((S.aw p j i).map cu)[i]?=some (cu old):=by rw[List.getElem?_map,hYg];rfl
  have hYl:i<((S.aw p j i).map cu).length:=by simp[nz,hi]
  have hsr:=hB.hs.rows
  have hor:=eY old ad hol hadl
  simp only[sz,simprocAttr,sf,h4,h5,h6,h43,hB.hq,hsr,hYl,hYr,cu,aH _ _ _ hxl,oy hxl,hsl,hor]
  refine lB (v:=cv) (sz:=1) (n:=1) (i:=i) (off:=0) (x:=.int .u64 ((old ||| ad:Nat):Int)) (row':=cu (old ||| ad)) (hB.hs.fr (by simp;omega) fun i _=>by simp) hYr rfl rfl rfl fun g4 hu4 n4 f4=>?_
  rw[show (((S.aw p j i).map cu).set i (cu (old ||| ad)))=(S.aw p j (i+1)).map cu from by rw[<-List.map_set,hst]] at hu4
  have f4':∀i,vid cv≠some i->g4.h.get i=g.h.get i:=fun i hi=>by rw[f4 i hi];simp
  have n4':g.nx<=g4.nx:=by rw[n4];simp;omega
  have q1:=hB.q1
  have qn:=hB.qn
  simp only[sx,sy,↓reduceIte,Nat.reduceEqDiff]
  refine ⟨?_,⟨by simp[St,LRg,sx,h0,h2,h4,h5,h6,h28,h29,h30],⟨?_,?_,?_,q1,?_,hB.d1⟩⟩,h43,h42⟩
  ·simp only[List.reverse_cons,List.reverse_nil,List.nil_append,List.cons_append]
   exact mS [false,false,false,false,false,false,false,false,false,false,false,false,false,true] [] (by simp[All2,au,aV]) (by decide) (by simp)
  ·simp only[bumpG_h]
   rw[f4' 0 fun e=>by have:=(hB.hs.lt e).1;omega,hB.h0]
  ·simp only[bumpG_h]
   rw[f4' q hB.d1,hB.hq]
  ·exact hu4.fr (by simp) fun i _=>by simp
  ·simp;omega
 ·rintro t df g ⟨rfl,ht,h⟩
  exact fin t g ht h
theorem sZ {h:H}(hn:¬GOk p):∃P,GrV p P 0 h (.tup [.agg [.nils,.nils],.int .i64 70]):=by
 have hf:=pW hn
 refine ⟨fun _=>True,_,_,rfl,⟨_,rfl,?_⟩,?_⟩
 ·rw[S.gr,hf]
  exact eK.2 ⟨_,_,rfl,aF.2 ⟨.nils,rfl,by show 0<9223372036854775808;decide,rfl⟩,aF.2 ⟨.nils,rfl,by show 0<9223372036854775808;decide,rfl⟩⟩
 ·rw[hf];exact bz.2 rfl
theorem BC {Q:QT}{t:T}{g:G}(n8:p.length<=8)(hlt:∀x∈p,x<18446744073709551616)(vl:∀g,dc .slice pa g=.val (.int .i64 (p.length:Int)))(rp:∀h,aw h 1 pa=some (p.map cu))(yp:p_ pa=true)
  (h0:GrB pa cv q (S.aw p 0 0) g) (ht:St t (LRg pa q)) (h28:tat t 28=pa) (h30:tat t 30=.int .i64 0) (h29:tat t 29=.int .i64 (p.length:Int))
  (bad:∀t g,¬GOk p->g.h.get 0=.cells 2 [[.nils,.nils]] 0 false false->tat t 2=.hptr 0 0 0 0->tat t 3=.int .i64 70->Q .ret t [] g)
  (fin:∀t g,St t (LRg pa q)->GrB pa cv q (S.aw p p.length 0) g->(∀x∈p,x<2 ^ p.length)->Q (.exit 0) t [] g):wpL (wp C0 d none ei) Q t [] g:=by
 simp only[ei,ii]
 refine bV (m:=p.length) (by omega) (fun j t df g'=>df=[]/\St t ((28,pa)::LRg pa q)/\GrB pa cv q (S.aw p j 0) g'/\∀x∈p.take j,x<2 ^ p.length) ⟨rfl,⟨h28,ht⟩,h0,by simp⟩ h30 h29 (by decide)
  (by rintro j t df g v s (rfl | rfl | rfl) ⟨a1,⟨b1,b2,b3,b4,-⟩,c1⟩<;>exact ⟨a1,by simp[St,LRg,sx,b1,b2,b3,b4],c1⟩) ?_ ?_
 ·rintro j t df g hj ⟨rfl,⟨h28,h0,h2,h4,-⟩,hB,hok⟩ h30 h29
  obtain ⟨x,hx,htk,hxm⟩:=bh hj
  have u1:j<(p.map cu).length:=by simpa using hj
  have u2:(p.map cu)[j]?=some (cu x):=by rw[List.getElem?_map,hx];rfl
  have hxl:=hlt x hxm
  by_cases c1:((x / 2 ^ p.length:Nat):Int)=0
  ·have hx2:x<2 ^ p.length:=by
    have h0:x / 2 ^ p.length=0:=by omega
    rcases Nat.div_eq_zero_iff.1 h0 with h | h
    ·exact absurd h (Nat.ne_of_gt (Nat.pow_pos (by decide)))
    ·exact h
   simp only[sz,simprocAttr,h28,h30,rp,u1,u2,cu,vl,h0,aH _ _ _ hxl,c1]
   refine Bv (pa:=pa) (cv:=cv) (q:=q) n8 hx hxl hB (by simp[St,LRg,sx,h0,h2,h4,h28,h29,h30]) (by simp[sx]) (by simp[sx]) ?_
   rintro t g' ⟨h28,h29,h30,h5,h6,h0,h2,h4,-⟩ hB
   simp only[sz,simprocAttr]
   refine ⟨⟨by simp[St,LRg,sx,h0,h2,h4,h28],by rw[<-Ao];exact hB,fun y hy=>?_⟩,h30,h29⟩
   rw[htk] at hy
   rcases List.mem_append.1 hy with h | h
   ·exact hok y h
   ·rw[List.mem_singleton.1 h];exact hx2
  ·simp only[sz,simprocAttr,h28,h30,h2,rp,u1,u2,cu,vl,h0,aH _ _ _ hxl,c1,hB.h0]
   refine bad _ _ (fun hG=>c1 ?_) (by simp[H.get_put]) (by simp[sx,h2]) (by simp[sx])
   rw[Nat.div_eq_of_lt (hG.hp x hxm)];rfl
 ·rintro t df g ⟨rfl,⟨h28,ht⟩,h,hok⟩
  rw[List.take_length] at hok
  exact fin t g ht h hok
end
end
end Hx
end
section
namespace Hx
open Go
noncomputable section
section
variable {d:Nat}{p:List Nat}{pa cv:AV}{q:Nat}
theorem Bk {Q:QT}{t:T}{g:G}{L:List Nat}{D j0:Nat}(n8:p.length<=8)(hlt:∀x∈p,x<18446744073709551616)(rp:∀h,aw h 1 pa=some (p.map cu))(hO:w8 p L)(hD:A9 D L)(hG:v8 p D)
  (ht:St t ((8,.int .u64 (D:Int))::(64,.int .i64 (p.length:Int))::(65,.int .i64 (j0:Int))::LRg pa q)) (h69:tat t 69=pa) (h71:tat t 71=.int .i64 0) (h70:tat t 70=.int .i64 (p.length:Int))
  (yes:∀t v,St t ((8,.int .u64 ((D ||| S.aF v:Nat):Int))::(64,.int .i64 (p.length:Int))::(65,.int .i64 (j0:Int))::LRg pa q)->w8 p (L++[v])->A9 (D ||| S.aF v) (L++[v])->v8 p (D ||| S.aF v)->Q (.exit 5) t [] g)
  (no:∀t,St t (LRg pa q)->(∀v,v<p.length->D.testBit v=true\/¬Sub (Par p v) D)->Q (.exit 6) t [] g):wpL (wp C0 d none eg) Q t [] g:=by
 simp only[eg]
 refine bV (m:=p.length) (by omega) (fun j t df g'=>df=[]/\g'=g/\St t ((69,pa)::(8,.int .u64 (D:Int))::(64,.int .i64 (p.length:Int))::(65,.int .i64 (j0:Int))::LRg pa q)/\∀v,v<j->D.testBit v=true\/¬Sub (Par p v) D)
  ⟨rfl,rfl,⟨h69,ht⟩,fun v hv=>by omega⟩ h71 h70 (by decide)
  (by rintro j t df g v s (rfl | rfl | rfl) ⟨a1,a2,⟨b1,b2,b3,b4,b5,b6,b7,-⟩,c1⟩<;>exact ⟨a1,a2,by simp[St,LRg,sx,b1,b2,b3,b4,b5,b6,b7],c1⟩) ?_ ?_
 ·rintro j t df g' hj ⟨rfl,rfl,⟨h69,h8,h64,h65,h0,h2,h4,-⟩,hall⟩ h71 h70
  obtain ⟨x,hx,-,hxm⟩:=bh hj
  have hpj:Par p j=x:=by simp[Par,hx]
  have hxl:=hlt x hxm
  have u1:j<(p.map cu).length:=by simpa using hj
  have u2:(p.map cu)[j]?=some (cu x):=by rw[List.getElem?_map,hx];rfl
  have b3:=aW x D hxl hD.1
  have next:(D.testBit j=true\/¬Sub (Par p j) D)->∀v,v<j+1->D.testBit v=true\/¬Sub (Par p v) D:=fun h v hv=>by
   by_cases e:v=j
   ·subst e;exact h
   ·exact hall v (by omega)
  cases hb:D.testBit j with
  | true =>
   simp only[sz,simprocAttr,h69,h71,h8,rp,u1,u2,cu,aH _ _ _ hD.1,oy hD.1,nC,hb]
   exact ⟨⟨by simp[St,LRg,sx,h0,h2,h4,h8,h64,h65,h69],next (.inl hb)⟩,h70⟩
  | false =>
   by_cases c2:((x ^^^ (x &&& D):Nat):Int)=0
   ·have hd0:S.aX x D=0:=by simpa [S.aX] using c2
    have hsub:=sA.1 hd0
    have hjL:j ∉ L:=fun h=>by
     have:=(hD.2 j).2 h
     rw[hb] at this;cases this
    have hone:aS .shl (.int .u64 1) (.int .i64 (j:Int))=.val (.int .u64 (S.aF j:Int)):=aI .i64 j
    simp only[sz,simprocAttr,h69,h71,h8,rp,u1,u2,cu,aH _ _ _ hD.1,oy hD.1,nC,hb,b3,c2,hone,eY _ _ hD.1 (tS j)]
    refine yes _ j (by simp[St,LRg,sx,h0,h2,h4,h64,h65]) (zF hO hjL hj fun u hu=>?_) (zw hD (by omega)) (BH hG (by omega) (by rw[hpj];exact hsub))
    rw[hpj] at hu;exact (hD.2 u).1 (hsub u hu)
   ·have hns:¬Sub (Par p j) D:=fun h=>c2 (by
     have:=sA.2 h
     rw[hpj] at this
     simp[S.aX] at this
     simp[this])
    simp only[sz,simprocAttr,h69,h71,h8,rp,u1,u2,cu,aH _ _ _ hD.1,oy hD.1,nC,hb,b3,c2]
    exact ⟨⟨by simp[St,LRg,sx,h0,h2,h4,h8,h64,h65,h69],next (.inr hns)⟩,h70⟩
 ·rintro t df g' ⟨rfl,rfl,⟨-,-,-,-,ht⟩,hall⟩
  exact no t ht hall
theorem Ad {Q:QT}{t:T}{g:G}(n8:p.length<=8)(hp:∀x∈p,x<2 ^ p.length)(hlt:∀x∈p,x<18446744073709551616)(vl:∀g,dc .slice pa g=.val (.int .i64 (p.length:Int)))(rp:∀h,aw h 1 pa=some (p.map cu))
  (hB:GrB pa cv q (S.aQ p) g) (ht:St t ((8,.int .u64 0)::LRg pa q)) (h65:tat t 65=.int .i64 0) (h64:tat t 64=.int .i64 (p.length:Int))
  (bad:∀t g,¬GOk p->g.h.get 0=.cells 2 [[.nils,.nils]] 0 false false->tat t 2=.hptr 0 0 0 0->tat t 3=.int .i64 70->Q .ret t [] g)
  (fin:∀t,St t (LRg pa q)->S.aG p=true->Q (.exit 4) t [] g):wpL (wp C0 d none ed) Q t [] g:=by
 simp only[ed,hQ]
 refine bV (m:=p.length) (by omega) (fun j t df g'=>df=[]/\g'=g/\∃(L:List Nat) (D:Nat),L.length=j/\w8 p L/\A9 D L/\v8 p D/\St t ((8,.int .u64 (D:Int))::LRg pa q))
  ⟨rfl,rfl,[],0,rfl,⟨by simp,by simp⟩,⟨by decide,by simp⟩,zn,ht⟩ h65 h64 (by decide)
  (by rintro j t df g v s (rfl | rfl | rfl) ⟨a1,a2,L,D,a3,a4,a5,a6,⟨b1,b2,b3,b4,-⟩⟩<;>exact ⟨a1,a2,L,D,a3,a4,a5,a6,by simp[St,LRg,sx,b1,b2,b3,b4]⟩) ?_ ?_
 ·rintro j t df g' hj ⟨rfl,rfl,L,D,hL,hO,hD,hG,h8,h0,h2,h4,-⟩ h65 h64
  have lg1:aL (.cells 2 [[pa,cv]] 0 false false) 0 0 false 1 0=.val pa:=rfl
  simp only[sz,simprocAttr,h4,hB.hq,lg1,vl]
  refine Bk (pa:=pa) (q:=q) (L:=L) (D:=D) (j0:=j) n8 hlt rp hO hD hG (by simp[St,LRg,sx,h0,h2,h4,h8,h64,h65]) (by simp[sx]) (by simp[sx]) (by simp[sx]) ?_ ?_
  ·rintro t v ⟨h8,h64,h65,ht⟩ hO2 hD2 hG2
   simp only[sz,simprocAttr]
   exact ⟨⟨L++[v],D ||| S.aF v,by simp[hL],hO2,hD2,hG2,h8,ht⟩,h65,h64⟩
  ·rintro t ⟨h0,h2,h4,-⟩ hall
   simp only[sz,simprocAttr,gX,h2,hB.h0]
   refine bad _ _ (fun hg=>?_) (by simp[H.get_put]) (by simp[sx,h2]) (by simp[sx])
   obtain ⟨v0,hv0,hv0'⟩:=Dm hO (by omega)
   have:=tv hp hg.ac (T:=D) (fun v hv hb=>by
    rcases hall v hv with h | h
    ·rw[h] at hb;cases hb
    ·exact h) v0 hv0
   exact hv0' ((hD.2 v0).1 this)
 ·rintro t df g' ⟨rfl,rfl,L,D,hL,hO,hD,hG,-,ht⟩
  have hfull:=yU hO (by omega)
  exact fin t ht (tk hG fun v hv=>(hD.2 v).2 (hfull.1 v hv))
theorem Dq {a b:AV}{i:Nat}(ha:p_ a=true)(hb:vid b=some i):fO [.nils,.nils] [((0,1),.agg [a]),((1,1),b)]=some [a,b]:=by
 cases b<;>first | rfl | cases hb
theorem vz {g:G}{v':AV}(hd:0<d)(hv:SlR NoP 0 .nil p v'):∃z,ap C0 d N.ax [v'] g=.val z/\GrV p NoP 0 .nil z:=by
 have r1:∀h,SlR NoP 0 h p v':=fun h=>hv.tree (Nat.le_refl 0)
 have e:=lJ (h:=g.h) d (r1 g.h)
 have hlt:=aZ hv
 rw[mG]
 refine eS oC (xs:=[v']) (by simp only[az,e]) (by simp[cK]) (nF (m:=2) (t_ _) (dE _) (by decide) (by decide)) (by decide) hd ?_
 have vl:∀g,dc .slice v' g=.val (.int .i64 (p.length:Int)):=fun g=>(r1 .nil).len g
 have ra:∀h,aw h 1 v'=some (p.map cu):=fun h=>(r1 h).nats
 by_cases c1:p.length<1
 ·simp only[sz,simprocAttr,cK,da,vl,show ((p.length:Int)<1) from by omega]
  exact sZ (fun h=>by have:=h.l1;omega)
 by_cases c2:8<p.length
 ·simp only[sz,simprocAttr,cK,da,vl,show ¬((p.length:Int)<1) from by omega,show ((8:Int)<p.length) from by omega]
  exact sZ (fun h=>by have:=h.l8;omega)
 have yp:p_ v'=true:=oq (r1 .nil) (by omega)
 have fl:fO [.nils] [((0,1),v')]=some [v']:=by cases v'<;>first | rfl | cases yp
 simp only[sz,simprocAttr,cK,da,vl,show ¬((p.length:Int)<1) from by omega,show ¬((8:Int)<p.length) from by omega,fl]
 refine yR (b:=1) (n:=p.length) (bytes:=8) (sz:=1) (zero:=[.int .u64 0]) (by unfold dB;omega) (by unfold dB;omega) ?_ fun cv g1 hu n1 f1 hvid=>?_
 ·simp
 have fl2:fO [.nils,.nils] [((0,1),.agg [v']),((1,1),cv)]=some [v',cv]:=Dq yp hvid
 have n1':g1.nx=2:=by rw[n1];rfl
 simp only[sz,simprocAttr,fl2,n1']
 have hB:GrB v' cv 2 (S.aw p 0 0) ((g1.new (.cells 2 [[.nils,.nils]] 0 false false)).put 2 (.cells 2 [[v',cv]] 0 false false)):=by
  have hne:vid cv≠some 2:=fun e=>by have:=(hu.lt e).2;omega
  refine ⟨?_,by simp[H.get_put],?_,by decide,by simp[n1'],hne⟩
  ·simp[H.get_put,n1']
   rw[f1 0 (by decide)];rfl
  ·rw[Bq,List.map_replicate]
   refine hu.fr (by simp) fun i hi=>?_
   have:=(hu.lt hi).2
   simp[H.get_put,n1',show ¬i=2 by omega]
 obtain ⟨g2,hg2⟩:∃g2,g2=((g1.new (.cells 2 [[.nils,.nils]] 0 false false)).put 2 (.cells 2 [[v',cv]] 0 false false)):=⟨_,rfl⟩
 rw[<-hg2] at hB ⊢
 clear hg2 hu f1 hvid n1' n1
 simp only[sz,simprocAttr,vl]
 refine BC (pa:=v') (cv:=cv) (q:=2) (by omega) hlt vl ra yp hB (by simp[St,LRg,sx]) (by simp[sx]) (by simp[sx]) (by simp[sx]) ?_ ?_
 ·intro t g hn a1 a2 a3
  simp only[sz,simprocAttr,a1,a2,a3]
  exact sZ hn
 ·rintro t g ⟨h0,h2,h4,-⟩ hB hp
  rw[CA] at hB
  have lg1:aL (.cells 2 [[v',cv]] 0 false false) 0 0 false 1 0=.val v':=rfl
  simp only[sz,simprocAttr,g9,h4,hB.hq,lg1,vl]
  refine Ad (pa:=v') (cv:=cv) (q:=2) (by omega) hp hlt vl ra hB (by simp[St,LRg,sx,h0,h2,h4]) (by simp[sx]) (by simp[sx]) ?_ ?_
  ·intro t g hn a1 a2 a3
   simp only[sz,simprocAttr,a1,a2,a3]
   exact sZ hn
  ·rintro t ⟨h0,h2,h4,-⟩ hac
   have hG:S.az p=true:=gF.2 ⟨by omega,by omega,hp,hac⟩
   have hs2:Own (g.put 0 (.cells 2 [[v',cv]] 0 false false)) 1 cv 1 ((S.aQ p).map cu):=hB.hs.fr (by simp) fun i hi=>by
    have:=(hB.hs.lt hi).1
    simp[H.get_put,show ¬i=0 by omega]
   have hsl:=hs2.nats' (by rw[tJ];omega) fun y hy=>by
    obtain ⟨u,-,rfl⟩:=List.mem_map.1 hy
    have:=iV (Eg p u) p.length
    have:=im (show p.length<=8 by omega)
    omega
   have hld:aL (.cells 2 [[v',cv]] 0 false false) 0 0 true 2 0=.val (.agg [v',cv]):=rfl
   simp only[sz,simprocAttr,ig,h2,h4,hB.hq,hB.h0,hld]
   refine ⟨fun _=>True,_,_,rfl,⟨_,rfl,?_⟩,?_⟩
   ·rw[S.gr,hG]
    exact eK.2 ⟨[v'],[cv],rfl,aF.2 ⟨v',rfl,(r1 .nil).wide (Nat.le_refl _)⟩,aF.2 ⟨cv,rfl,hsl⟩⟩
   ·rw[hG];exact bz.2 rfl
end
end
end Hx
end
section
namespace Hx
open Go
noncomputable section
theorem xH {d k:Nat}{g:G}{P:Nat->Prop}{v:AV}{p:List Nat}{s:Nat}(hd:0<d)(hv:SlR P k g.h p v)(n8:p.length<=8)(hs:s<2 ^ p.length) :
  ap C0 d N.ap [v,.int .u64 (s:Int)] g=.val (.int .u64 (S.dn p s p.length:Int)):=by
 obtain ⟨v',e,r1⟩:=bN hv d
 have hp:=aZ hv
 have hl:=hv.1
 have h256:=im n8
 rw[po]
 refine dZ rG (xs:=[v',.int .u64 (s:Int)]) (by simp only[az,e,aX 0]) (by simp[jH]) hd ?_
 simp only[sz,simprocAttr,jH]
 refine eW hl (r1 .nil).len (fun j t df g=>df=[]/\tat t 1=.int .u64 (S.dn p s j:Int)) ⟨rfl,by simp[sx,S.dn]⟩ (by simp[sx]) (by simp[sx]) (by decide)
  (by rintro j t df g v s (rfl | rfl | rfl | rfl | rfl | rfl | rfl)<;>simp[sx]) ?_ ?_
 ·rintro j t df g hj ⟨rfl,h1⟩ h5 h0
  simp only[sz,simprocAttr]
  have hu:=pU hs j
  refine eW hl (r1 .nil).len (fun i t df g=>df=[]/\tat t 5=.int .i64 (j:Int)/\tat t 1=.int .u64 (S.ah p (S.dn p s j) i:Int)) ⟨rfl,by simp[sx,h5],by simp[sx,S.ah,h1]⟩ (by simp[sx]) (by simp[sx,h0]) (by decide)
   (by rintro j t df g v s (rfl | rfl | rfl | rfl | rfl | rfl | rfl)<;>simp[sx]) ?_ ?_
  ·rintro i t df g hi ⟨rfl,h5,h1⟩ h6 h0
   have hr:=nf hu i (by omega)
   obtain ⟨x,hx,-,hm⟩:=bh hi
   have hpi:Par p i=x:=by simp[Par,hx]
   have hsh:aS .shl (.int .u64 1) (.int .u64 (i:Int))=.val (.int .u64 ((2 ^ i:Nat):Int)):=by rw[aI,cq (by omega)]
   have h2i:(2:Nat) ^ i<=2 ^ 8:=Nat.pow_le_pow_right (by decide) (by omega)
   by_cases c:((x &&& S.ah p (S.dn p s j) i:Nat):Int)=0
   ·simp only[sz,simprocAttr,h0,h1,h5,h6,(r1 g.h).nats,hi,hx,List.length_map,List.getElem?_map,Option.map_some,cu,bj _ _ (hp x hm) (show S.ah p (S.dn p s j) i<18446744073709551616 by omega),c]
    rw[S.ah,hpi,if_pos (by omega)]
   ·simp only[sz,simprocAttr,h0,h1,h5,h6,(r1 g.h).nats,hi,hx,List.length_map,List.getElem?_map,Option.map_some,cu,bj _ _ (hp x hm) (show S.ah p (S.dn p s j) i<18446744073709551616 by omega),c,bk (show (0:Int)<=(i:Int) by omega) (by omega),hsh,eY (S.ah p (S.dn p s j) i) (2 ^ i) (by omega) (by omega)]
    rw[S.ah,hpi,if_neg (by omega)]
  ·rintro t df g ⟨rfl,h5,h1⟩ h0
   simp only[sx,sy,↓reduceIte,h0,h5,h1]
   rw[S.dn]
 ·rintro t df g ⟨rfl,h1⟩ -
  simp only[sz,simprocAttr,j8,h1]
theorem sg {d k:Nat}{g:G}{P:Nat->Prop}{v:AV}{p:List Nat}(hd:0<d)(hv:SlR P k g.h p v) :
  ap C0 d N.am [v] g=.val (.bool (S.az p)):=by
 obtain ⟨v',e,r1⟩:=bN hv d
 have hlt:=aZ hv
 have hl:=hv.1
 rw[oQ]
 refine cL qi (xs:=[v']) (by simp only[az,e]) (by simp[dV]) hd ?_
 have vl:∀g,dc .slice v' g=.val (.int .i64 (p.length:Int)):=fun g=>(r1 .nil).len g
 by_cases c1:p.length<1
 ·simp only[sz,simprocAttr,dV,vl,show ((p.length:Int)<1) from by omega]
  rw[pW fun h=>by have:=h.l1;omega]
 by_cases c2:8<p.length
 ·simp only[sz,simprocAttr,dV,vl,show ¬((p.length:Int)<1) from by omega,show ((8:Int)<p.length) from by omega]
  rw[pW fun h=>by have:=h.l8;omega]
 simp only[sz,simprocAttr,dV,vl,show ¬((p.length:Int)<1) from by omega,show ¬((8:Int)<p.length) from by omega]
 simp only[ji]
 refine eW hl (r1 .nil).len (fun j t df g=>df=[]/\∀x∈p.take j,x<2 ^ p.length) ⟨rfl,by simp⟩ (by simp[sx]) (by simp[sx]) (by decide)
  (by rintro j t df g v s (rfl | rfl | rfl | rfl | rfl | rfl | rfl)<;>simp[sx]) ?_ ?_
 ·rintro j t df g hj ⟨rfl,hw⟩ h3 h0
  obtain ⟨x,hx,htk,hm⟩:=bh hj
  have hxl:=hlt x hm
  by_cases c:((x / 2 ^ p.length:Nat):Int)=0
  ·have hx2:x<2 ^ p.length:=by
    have h0:x / 2 ^ p.length=0:=by omega
    rcases Nat.div_eq_zero_iff.1 h0 with h | h
    ·exact absurd h (Nat.ne_of_gt (Nat.pow_pos (by decide)))
    ·exact h
   simp only[sz,simprocAttr,h0,h3,vl,(r1 g.h).nats,hj,hx,List.length_map,List.getElem?_map,Option.map_some,cu,bk (show (0:Int)<=(p.length:Int) by omega) (by omega),aH _ _ _ hxl,c]
   refine fun y hy=>?_
   rw[htk] at hy
   rcases List.mem_append.1 hy with h | h
   ·exact hw y h
   ·rw[List.mem_singleton.1 h];exact hx2
  ·simp only[sz,simprocAttr,h0,h3,vl,(r1 g.h).nats,hj,hx,List.length_map,List.getElem?_map,Option.map_some,cu,bk (show (0:Int)<=(p.length:Int) by omega) (by omega),aH _ _ _ hxl,c]
   rw[pW fun h=>c (by rw[Nat.div_eq_of_lt (h.hp x hm)];rfl)]
 ·rintro t df g ⟨rfl,hw⟩ h0
  rw[List.take_length] at hw
  have kA:=fun g=>uE (d:=d+1) (g:=g) (Nat.succ_pos d) (r1 g.h)
  simp only[sz,simprocAttr,jf,h0,kA]
  have:S.az p=S.aG p:=by
   cases h:S.aG p with
   | true=>exact gF.2 ⟨by omega,by omega,hw,h⟩
   | false=>exact pW fun h'=>by rw[h'.ac] at h;cases h
  rw[this]
def S.aD (n:Nat):List Nat->Nat->Bool
 | [],_=>true
 | x::l,a=>decide (x<2 ^ n)&&decide (x &&& a=0)&&S.aD n l (a ||| x)
theorem BZ {n x a:Nat}{l:List Nat}(h:¬x<2 ^ n):S.aD n (x::l) a=false:=by simp[S.aD,h]
theorem Br {n x a:Nat}{l:List Nat}(h:¬x &&& a=0):S.aD n (x::l) a=false:=by simp[S.aD,h]
theorem y0 {n x a:Nat}{l:List Nat}(h:x<2 ^ n)(h2:x &&& a=0):S.aD n (x::l) a=S.aD n l (a ||| x):=by simp[S.aD,h,h2]
theorem eV {x n:Nat}:((x / 2 ^ n:Nat):Int)=0↔x<2 ^ n:=by
 constructor
 ·intro h
  have h0:x / 2 ^ n=0:=by omega
  rcases Nat.div_eq_zero_iff.1 h0 with h | h
  ·exact absurd h (Nat.ne_of_gt (Nat.pow_pos (by decide)))
  ·exact h
 ·intro h
  rw[Nat.div_eq_of_lt h];rfl
theorem zb {α:Type}{l:List α}{j:Nat}{x:α}(h:l[j]?=some x):l.drop j=x::l.drop (j+1):=by
 obtain ⟨h1,rfl⟩:=List.getElem?_eq_some_iff.1 h
 exact List.drop_eq_getElem_cons h1
def S.aE (p l:List Nat):Int:=if S.az p then (if S.aD p.length l 0 then 0 else 2) else 70
theorem AL {d k:Nat}{g:G}{P:Nat->Prop}{v:AV}{p:List Nat}{x s:Nat}(hd:0<d)(hv:SlR P k g.h p v)(n8:p.length<=8)(hx:x<p.length)(hs:s<18446744073709551616) :
  ap C0 d N.ay [v,.int .i64 (x:Int),.int .u64 (s:Int)] g=.val (.int .u64 (S.dn (S.ct p s) (2 ^ x) p.length:Int)):=by
 obtain ⟨v',e,r1⟩:=bN hv d
 have hp:=aZ hv
 have hl:=hv.1
 have h256:=im n8
 have vl:∀g,dc .slice v' g=.val (.int .i64 (p.length:Int)):=fun g=>(r1 .nil).len g
 have rt:=fun h=>(r1 h).nats
 have hn:(S.ct p s).length=p.length:=Ab s
 have hx2:2 ^ x<2 ^ (S.ct p s).length:=by rw[hn];exact Nat.pow_lt_pow_right (by decide) hx
 have hsh:∀i,i<p.length->aS .shl (.int .u64 1) (.int .i64 (i:Int))=.val (.int .u64 ((2 ^ i:Nat):Int)):=fun i hi=>by rw[aI,cq (by omega)]
 rw[m_]
 refine dZ pr (xs:=[v',.int .i64 (x:Int),.int .u64 (s:Int)]) (by simp only[az,e,aX]) (by simp[ij]) hd ?_
 simp only[sz,simprocAttr,ij,vl,hsh x hx]
 simp only[iD]
 refine bV (m:=p.length) hl (fun j t df g=>df=[]/\St t [(0,v'),(2,.int .u64 (s:Int)),(7,.int .u64 (S.dn (S.ct p s) (2 ^ x) j:Int))]) ⟨rfl,by simp[St,sx,S.dn]⟩ (by simp[sx]) (by simp[sx]) (by decide)
  (by rintro j t df g v s (rfl | rfl | rfl)<;>simp[sx,St]) ?_ ?_
 ·rintro j t df g hj ⟨rfl,h0,h2,h7,-⟩ h14 h13
  have hu:=pU hx2 j
  obtain ⟨R,hR⟩:∃R,R=S.dn (S.ct p s) (2 ^ x) j:=⟨_,rfl⟩
  rw[<-hR] at h7 hu
  simp only[sz,simprocAttr,h0,vl,iG,iE]
  refine bV (m:=p.length) hl (fun i t df g=>df=[]/\St t [(0,v'),(2,.int .u64 (s:Int)),(13,.int .i64 (p.length:Int)),(14,.int .i64 (j:Int)),(16,v'),(7,.int .u64 (S.ah (S.ct p s) R i:Int))]) ⟨rfl,by simp[St,sx,S.ah,h0,h2,h7,h13,h14]⟩ (by simp[sx]) (by simp[sx]) (by decide)
   (by rintro j t df g v s (rfl | rfl | rfl)<;>simp[sx,St]) ?_ ?_
  ·rintro i t df g hi ⟨rfl,h0,h2,h13,h14,h16,h7,-⟩ h18 h17
   have hr:=nf hu i (by omega)
   rw[hn] at hr
   obtain ⟨y,hy,-,hm⟩:=bh hi
   have hyl:=hp y hm
   have z1:i<(p.map cu).length:=by simpa using hi
   have z2:(p.map cu)[i]?=some (cu y):=by rw[List.getElem?_map,hy];rfl
   have hpar:Par (S.ct p s) i=if s.testBit i then 0 else y:=by rw[Ez];simp[Par,hy]
   have h2i:(2:Nat) ^ i<=2 ^ 8:=Nat.pow_le_pow_right (by decide) (by omega)
   obtain ⟨r,hrr⟩:∃r,r=S.ah (S.ct p s) R i:=⟨_,rfl⟩
   have hnx:S.ah (S.ct p s) R (i+1)=if Par (S.ct p s) i &&& r=0 then r else r ||| 2 ^ i:=by rw[S.ah,hrr]
   rw[<-hrr] at h7 hr
   rw[hnx,hpar]
   by_cases c:y &&& r=0
   ·simp only[sz,simprocAttr,h0,h2,h7,h13,h14,h16,h17,h18,rt,z1,z2,cu,bj y r hyl (show r<18446744073709551616 by omega),c]
    have:(if (if s.testBit i=true then 0 else y) &&& r=0 then r else r ||| 2 ^ i)=r:=by
     rw[if_pos];cases s.testBit i<;>simp[c]
    rw[this]
    simp[St,sx,h0,h2,h7,h13,h14,h16,h17,h18]
   ·have c':¬((y &&& r:Nat):Int)=0:=by omega
    cases hb:s.testBit i with
    | true =>
     simp only[sz,simprocAttr,h0,h2,h7,h13,h14,h16,h17,h18,rt,z1,z2,cu,bj y r hyl (show r<18446744073709551616 by omega),c',aH _ _ _ hs,oy hs,nC,hb]
     simp[St,sx,h0,h2,h7,h13,h14,h16,h17,h18]
    | false =>
     simp only[sz,simprocAttr,h0,h2,h7,h13,h14,h16,h17,h18,rt,z1,z2,cu,bj y r hyl (show r<18446744073709551616 by omega),c',aH _ _ _ hs,oy hs,nC,hb,hsh i hi,eY r (2 ^ i) (show r<18446744073709551616 by omega) (show 2 ^ i<18446744073709551616 by omega),c]
     simp[St,sx,h0,h2,h7,h13,h14,h16,h17,h18]
  ·rintro t df g ⟨rfl,h0,h2,h13,h14,h16,h7,-⟩
   simp only[sz,simprocAttr,h14]
   rw[show S.dn (S.ct p s) (2 ^ x) (j+1)=S.ah (S.ct p s) R (S.ct p s).length from by rw[S.dn,hR],hn]
   simp[St,sx,h0,h2,h13,h14,h7]
 ·rintro t df g ⟨rfl,h0,h2,h7,-⟩
  simp only[sz,simprocAttr,iH,h7]
def WoV (p:List Nat)(s:Nat):VS:=fun P k h v=>One (S.wo p s) P k h v
theorem qO {m n:Nat}(h:m<18446744073709551616):m ^^^ (m &&& n)<18446744073709551616:=Nat.xor_lt_two_pow (n:=64) h (Nat.lt_of_le_of_lt Nat.and_le_left h)
def S.aI (p:List Nat)(s j:Nat):List Nat:=S.wo (p.take j) s++p.drop j
theorem AT (p:List Nat)(s:Nat):S.aI p s 0=p:=by simp[S.aI,S.wo]
theorem DH (p:List Nat)(s j:Nat):(S.aI p s j).length=p.length:=by simp[S.aI,S.wo];omega
theorem Do (p:List Nat)(s:Nat):S.aI p s p.length=S.wo p s:=by simp[S.aI]
theorem CB {p:List Nat}{s j y:Nat}(hy:p[j]?=some y):(S.aI p s j)[j]?=some y:=by
 have hj:=(List.getElem?_eq_some_iff.1 hy).1
 rw[S.aI,List.getElem?_append_right (by simp[S.wo];omega)]
 have:(S.wo (p.take j) s).length=j:=by simp[S.wo];omega
 rw[this,Nat.sub_self,List.getElem?_drop,Nat.add_zero,hy]
theorem DL {p:List Nat}{s j y:Nat}(hy:p[j]?=some y):(S.aI p s j).set j (y ^^^ (y &&& s))=S.aI p s (j+1):=by
 have hj:=(List.getElem?_eq_some_iff.1 hy).1
 have hl:(S.wo (p.take j) s).length=j:=by simp[S.wo];omega
 rw[S.aI,S.aI,List.set_append_right _ _ (by omega),hl,Nat.sub_self,List.drop_eq_getElem_cons hj,List.set_cons_zero,List.take_add_one,S.wo,S.wo,List.map_append,hy]
 simp
theorem wx {d k:Nat}{g:G}{P:Nat->Prop}{v:AV}{p:List Nat}{s:Nat}(hd:0<d)(hv:SlR P k g.h p v)(n8:p.length<=8)(n1:1<=p.length)(hs:s<18446744073709551616) :
  ∃r,ap C0 d N.aW [v,.int .u64 (s:Int)] g=.val r/\WoV p s NoP 0 .nil r:=by
 obtain ⟨v',e,r1⟩:=bN hv d
 have hp:=aZ hv
 have vl:∀g,dc .slice v' g=.val (.int .i64 (p.length:Int)):=fun g=>(r1 .nil).len g
 have rt:=fun h=>(r1 h).nats
 rw[lS]
 refine eS nq (xs:=[v',.int .u64 (s:Int)]) (by simp only[az,e,aX]) (by simp[fA]) (dE _) (by decide) hd ?_
 simp only[sz,simprocAttr,fA]
 refine bP (b:=0) (rows:=[]) (new:=p.map cu) (.inr ⟨0,0,false,Nat.le_refl 0,by simp,rfl,by simp[sx]⟩) (rt _) (Nat.zero_le _) (by rw[List.length_map,dB];simp;omega) fun u g0 hu _ _ _ _=>?_
 rw[List.nil_append] at hu
 have ul:∀g,dc .slice u g=.val (.int .i64 (p.length:Int)):=fun g=>by
  rcases hu with ⟨rfl,h⟩ | ⟨id,ep,lo,-,-,rfl,-⟩
  ·have:=congrArg List.length h
   rw[List.length_map,List.length_nil] at this;omega
  ·simp[dc]
 simp only[sz,simprocAttr,ul,gA]
 refine bV (m:=p.length) (by omega) (fun j t df g=>df=[]/\St t [(1,.int .u64 (s:Int)),(5,u)]/\Own g 0 u 1 ((S.aI p s j).map cu)) ⟨rfl,by simp[St,sx],by rw[AT];exact hu⟩ (by simp[sx]) (by simp[sx]) (by decide)
  (by rintro j t df g v s (rfl | rfl | rfl)<;>simp[sx,St]) ?_ ?_
 ·rintro j t df g hj ⟨rfl,⟨h1,h5,-⟩,hO⟩ h12 h11
  obtain ⟨y,hy,-,hm⟩:=bh hj
  have hyl:=hp y hm
  have z1:j<((S.aI p s j).map cu).length:=by rw[List.length_map,DH];exact hj
  have z2:((S.aI p s j).map cu)[j]?=some (cu y):=by rw[List.getElem?_map,CB hy];rfl
  have rO:=hO.rows
  simp only[sz,simprocAttr,h1,h5,h11,h12,rO,z1,z2,cu,aW y s hyl hs]
  refine lB (v:=u) (sz:=1) (n:=1) (i:=j) (off:=0) (x:=.int .u64 ((y ^^^ (y &&& s):Nat):Int)) (row':=cu (y ^^^ (y &&& s))) hO z2 rfl rfl rfl fun g4 hu4 n4 f4=>?_
  rw[<-List.map_set,DL hy] at hu4
  simp only[sz,simprocAttr,h12]
  exact ⟨⟨by simp[St,sx,h1,h5],hu4⟩,h11⟩
 ·rintro t df g ⟨rfl,⟨h1,h5,-⟩,hO⟩
  simp only[sz,simprocAttr,gw,h5]
  rw[Do] at hO
  exact ⟨_,aF.2 ⟨_,rfl,hO.natsV (by rw[mh];omega) fun y hy=>by
   obtain ⟨z,hz,rfl⟩:=List.mem_map.1 hy
   exact qO (hp z hz)⟩⟩
def cn (i:Nat):Int:=(i:Int)
theorem nY {l:List Nat}{i x:Nat}(h:l[i]?=some x):((l.map cn).map ci)[i]?=some (ci (x:Int)):=by rw[List.getElem?_map,List.getElem?_map,h];rfl
theorem me {s v:Nat}:S.aS s v=s.testBit v:=lK s v
theorem CL {d k k2:Nat}{g:G}{P P2:Nat->Prop}{v w:AV}{p tr:List Nat}{i a b c:Nat}(hd:0<d)(hv:SlR P k g.h p v)(hw:SlR P2 k2 g.h (tr.map cn) w)(hi:1<=i)(h1:tr[i - 1]?=some a)(h2:tr[i]?=some b)(h3:tr[i+1]?=some c)(hn:p.length<=8)(ha:a<p.length)(hb:b<p.length)(hc:c<p.length) :
  ap C0 d N.aH [v,w,.int .i64 (i:Int)] g=.val (.bool ((Par p b).testBit a&&(Par p b).testBit c)):=by
 obtain ⟨v',e,r1⟩:=bN hv d
 obtain ⟨w',e2,r2⟩:=bN hw d
 have hlt:=aZ hv
 have hl1:=hw.1
 rw[List.length_map] at hl1
 have l3:=(List.getElem?_eq_some_iff.1 h3).1
 rw[lV]
 refine cL mW (xs:=[v',w',.int .i64 (i:Int)]) (by simp only[az,e,e2,aX]) (by simp[fD]) hd ?_
 have hpb:p[b]?=some (Par p b):=by simp[Par,List.getElem?_eq_getElem hb]
 have hpl:=hlt _ (List.mem_of_getElem? hpb)
 have rp:=fun h=>(r1 h).nats
 have rt:=fun h=>(r2 h).ints
 have u1:b<(p.map cu).length:=by simpa using hb
 have u2:(p.map cu)[b]?=some (cu (Par p b)):=by rw[List.getElem?_map,hpb];rfl
 have q1:=nY h1
 have q2:=nY h2
 have q3:=nY h3
 have z1:i - 1<((tr.map cn).map ci).length:=by simp;omega
 have z2:i<((tr.map cn).map ci).length:=by simp;omega
 have z3:i+1<((tr.map cn).map ci).length:=by simp;omega
 have w1:IntKind.wrap .i64 ((i:Int) - 1)=((i - 1:Nat):Int):=by rw[dO (by omega) (by omega)];omega
 have w2:IntKind.wrap .i64 ((i:Int)+1)=((i+1:Nat):Int):=by rw[dO (by omega) (by omega)];omega
 have kI1:∀g,ap C0 (d+1) N.aa [.int .u64 (Par p b:Int),.int .i64 (a:Int)] g=.val (.bool ((Par p b).testBit a)):=fun g=>by rw[j7 (Nat.succ_pos d) hpl (by omega),me]
 have kI2:∀g,ap C0 (d+1) N.aa [.int .u64 (Par p b:Int),.int .i64 (c:Int)] g=.val (.bool ((Par p b).testBit c)):=fun g=>by rw[j7 (Nat.succ_pos d) hpl (by omega),me]
 simp only[sz,simprocAttr,sf,fD,rp,rt,u1,u2,q1,q2,q3,z1,z2,z3,w1,w2,cu,ci,kI1]
 cases (Par p b).testBit a with
 | true=>simp only[sz,simprocAttr,sf,rp,rt,u1,u2,q1,q2,q3,z1,z2,z3,w1,w2,cu,ci,kI2,Bool.true_and]
 | false=>simp only[sz,simprocAttr,sf,Bool.false_and]
def S.aW (p:List Nat)(zs:Nat)(tr:List Nat):Bool:=@decide (opL (Eg p) (Bt zs) tr.reverse) (Classical.propDecidable _)
theorem pB {p:List Nat}{zs:Nat}{tr:List Nat}:S.aW p zs tr=true↔opL (Eg p) (Bt zs) tr.reverse:=by
 rw[S.aW,@decide_eq_true_iff]
theorem EX {p:List Nat}{zs:Nat}{tr:List Nat}(h:¬opL (Eg p) (Bt zs) tr.reverse):S.aW p zs tr=false:=by
 cases e:S.aW p zs tr with
 | false=>rfl
 | true=>exact absurd (pB.1 e) h
theorem Cp {d k k2:Nat}{g:G}{P P2:Nat->Prop}{v w:AV}{p tr:List Nat}{zs:Nat}(hd:0<d)(hv:SlR P k g.h p v)(hw:SlR P2 k2 g.h (tr.map cn) w)(hp:∀x∈p,x<2 ^ p.length)(hn:p.length<=8)(ht:∀x∈tr,x<p.length)(hz:zs<2 ^ p.length) :
  ap C0 d N.aU [v,w,.int .u64 (zs:Int)] g=.val (.bool (S.aW p zs tr)):=by
 obtain ⟨v',e,r1⟩:=bN hv d
 obtain ⟨w',e2,r2⟩:=bN hw d
 have hl1:=hw.1
 rw[List.length_map] at hl1
 have h256:=im hn
 rw[px]
 refine cL rz (xs:=[v',w',.int .u64 (zs:Int)]) (by simp only[az,e,e2,aX]) (by simp[jE]) hd ?_
 have rt:=fun h=>(r2 h).ints
 have wl:∀g,dc .slice w' g=.val (.int .i64 (tr.length:Int)):=fun g=>by rw[(r2 .nil).len g,List.length_map]
 simp only[sz,simprocAttr,jE]
 refine oO (fun n t df g=>df=[]/\∃i:Nat,n=tr.length - i/\1<=i/\(i=1\/i+1<=tr.length)/\St t [(0,v'),(1,w'),(2,.int .u64 (zs:Int)),(7,.int .i64 (i:Int))]/\∀k u v w,1<=k->k<i->tr[k - 1]?=some u->tr[k]?=some v->tr[k+1]?=some w->okT (Eg p) (Bt zs) u v w) (tr.length - 1)
  ⟨rfl,1,rfl,by omega,by omega,by simp[St,sx],fun k u v w h1 h2=>by omega⟩ ?_
 rintro n t df g ⟨rfl,i,rfl,hi,hil,⟨h0,h1,h2,h7,-⟩,hall⟩
 have w2:IntKind.wrap .i64 ((i:Int)+1)=((i+1:Nat):Int):=by rw[dO (by omega) (by omega)];omega
 simp only[j_,j9]
 by_cases hlt:i+1<tr.length
 ·obtain ⟨a,ha⟩:∃a,tr[i - 1]?=some a:=⟨_,List.getElem?_eq_getElem (by omega)⟩
  obtain ⟨b,hb⟩:∃b,tr[i]?=some b:=⟨_,List.getElem?_eq_getElem (by omega)⟩
  obtain ⟨c,hc⟩:∃c,tr[i+1]?=some c:=⟨_,List.getElem?_eq_getElem (by omega)⟩
  have hal:=ht a (List.mem_of_getElem? ha)
  have hbl:=ht b (List.mem_of_getElem? hb)
  have hcl:=ht c (List.mem_of_getElem? hc)
  have q2:=nY hb
  have z2:i<((tr.map cn).map ci).length:=by simp;omega
  have c1:((i+1:Nat):Int)<(tr.length:Int):=by omega
  have kC:=fun g=>CL (d:=d+1) (g:=g) (Nat.succ_pos d) (r1 g.h) (r2 g.h) hi ha hb hc hn hal hbl hcl
  have h2b:(2:Nat) ^ b<2 ^ p.length:=Nat.pow_lt_pow_right (by decide) hbl
  have kD:=fun g=>xH (d:=d+1) (g:=g) (s:=2 ^ b) (Nat.succ_pos d) (r1 g.h) hn h2b
  have kI:∀g,ap C0 (d+1) N.aa [.int .u64 (zs:Int),.int .i64 (b:Int)] g=.val (.bool (zs.testBit b)):=fun g=>by rw[j7 (Nat.succ_pos d) (by omega) (by omega),me]
  have hsh:aS .shl (.int .u64 1) (.int .u64 (b:Int))=.val (.int .u64 ((2 ^ b:Nat):Int)):=by rw[aI,cq (by omega)]
  have hdl:=pU h2b p.length
  have hbp:p[b]?=some (Par p b):=by simp[Par,List.getElem?_eq_getElem hbl]
  have next:okT (Eg p) (Bt zs) a b c->∀k u v w,1<=k->k<i+1->tr[k - 1]?=some u->tr[k]?=some v->tr[k+1]?=some w->okT (Eg p) (Bt zs) u v w:=fun h k u v w a1 a2 e1 e2 e3=>by
   by_cases ek:k=i
   ·subst ek
    rw[ha] at e1;rw[hb] at e2;rw[hc] at e3
    injection e1 with e1;injection e2 with e2;injection e3 with e3
    subst e1 e2 e3
    exact h
   ·exact hall k u v w a1 (by omega) e1 e2 e3
  have fail:¬okT (Eg p) (Bt zs) a b c->S.aW p zs tr=false:=fun h=>EX fun ho=>h (A1.1 ho i a b c hi ha hb hc)
  have w1:IntKind.wrap .u64 (b:Int)=(b:Int):=bk (by omega) (by omega)
  cases hcol:(Par p b).testBit a&&(Par p b).testBit c with
  | true =>
   have hcc:Eg p a b/\Eg p c b:=by rwa [Bool.and_eq_true] at hcol
   rw[hcol] at kC
   have hand:=bj (S.dn p (2 ^ b) p.length) zs (by omega) (by omega)
   have hAn:S.dn p (2 ^ b) p.length &&& zs=0↔¬An (Eg p) (Bt zs) b:=by
    rw[<-Classical.not_not (a:=S.dn p (2 ^ b) p.length &&& zs=0)]
    refine not_congr ?_
    show _≠0↔_
    rw[sX]
    constructor
    ·rintro ⟨x,x1,x2⟩
     obtain ⟨u,u1,u2⟩:=(DS hp h2b x).1 x1
     rw[Nat.testBit_two_pow,decide_eq_true_iff] at u1
     subst u1
     exact ⟨x,x2,u2⟩
    ·rintro ⟨x,x1,x2⟩
     exact ⟨x,(DS hp h2b x).2 ⟨b,by rw[Nat.testBit_two_pow,decide_eq_true_iff],x2⟩,x1⟩
   by_cases c2:((S.dn p (2 ^ b) p.length &&& zs:Nat):Int)=0
   ·simp only[sz,simprocAttr,h0,h1,h2,h7,w1,w2,wl,c1,rt,z2,q2,ci,kC,hsh,kD,hand,c2]
    rw[fail fun h=>hAn.1 (by omega) (h.1 hcc)]
   ·simp only[sz,simprocAttr,h0,h1,h2,h7,w1,w2,wl,c1,rt,z2,q2,ci,kC,hsh,kD,hand,c2]
    refine ⟨_,?_,i+1,rfl,by omega,by omega,by simp[St,sx,h0,h1,h2],next ⟨fun _=>Classical.byContradiction fun h=>c2 (by have:=hAn.2 h;omega),fun h=>absurd hcc h⟩⟩
    omega
  | false =>
   have hcc:¬(Eg p a b/\Eg p c b):=fun h=>by
    have:((Par p b).testBit a&&(Par p b).testBit c)=true:=by rw[Bool.and_eq_true];exact h
    rw[hcol] at this;cases this
   rw[hcol] at kC
   cases hzb:zs.testBit b with
   | true =>
    rw[hzb] at kI
    simp only[sz,simprocAttr,h0,h1,h2,h7,w2,wl,c1,rt,z2,q2,ci,kC,kI]
    rw[fail fun h=>h.2 hcc hzb]
   | false =>
    rw[hzb] at kI
    simp only[sz,simprocAttr,h0,h1,h2,h7,w2,wl,c1,rt,z2,q2,ci,kC,kI]
    refine ⟨_,?_,i+1,rfl,by omega,by omega,by simp[St,sx,h0,h1,h2],next ⟨fun h=>absurd h hcc,fun _ h=>by have h:zs.testBit b=true:=h;rw[hzb] at h;cases h⟩⟩
    omega
 ·have c1:¬((i+1:Nat):Int)<(tr.length:Int):=by omega
  simp only[sz,simprocAttr,h1,h7,w2,wl,c1,jV]
  rw[pB.2 (A1.2 fun k u v w a1 e1 e2 e3=>hall k u v w a1 (by have:=(List.getElem?_eq_some_iff.1 e3).1;omega) e1 e2 e3)]
theorem Df {p:List Nat}{s j y:Nat}(hy:p[j]?=some y):S.wo (p.take (j+1)) s=S.wo (p.take j) s++[y ^^^ (y &&& s)]:=by
 rw[List.take_add_one,hy,S.wo,S.wo,List.map_append];rfl
theorem uv {d k:Nat}{g:G}{P:Nat->Prop}{v:AV}{p:List Nat}{s:Nat}(hd:0<d)(hv:SlR P k g.h p v)(n8:p.length<=8)(hs:s<18446744073709551616) :
  ∃r,ap C0 d N.aV [v,.int .u64 (s:Int)] g=.val r/\WoV p s NoP 0 .nil r:=by
 obtain ⟨v',e,r1⟩:=bN hv d
 have hp:=aZ hv
 have rt:=fun h=>(r1 h).nats
 rw[my]
 refine eS nW (xs:=[v',.int .u64 (s:Int)]) (by simp only[az,e,aX]) (by simp[ge]) (dE _) (by decide) hd ?_
 simp only[sz,simprocAttr,ge,g7]
 refine eW hv.1 (r1 .nil).len (fun j t df g=>df=[]/\tat t 1=.int .u64 (s:Int)/\∃u,tat t 5=u/\Own g 0 u 1 ((S.wo (p.take j) s).map cu)) ⟨rfl,by simp[sx],.nils,by simp[sx],.inl ⟨rfl,by simp[S.wo]⟩⟩ (by simp[sx]) (by simp[sx]) (by decide)
  (by rintro j t df g v s (rfl | rfl | rfl | rfl | rfl | rfl | rfl)<;>simp[sx]) ?_ ?_
 ·rintro j t df g hj ⟨rfl,h1,u,h5,hO⟩ h6 h0
  obtain ⟨y,hy,-,hm⟩:=bh hj
  have hyl:=hp y hm
  have z1:j<(p.map cu).length:=by simpa using hj
  have z2:(p.map cu)[j]?=some (cu y):=by rw[List.getElem?_map,hy];rfl
  simp only[sz,simprocAttr,h0,h1,h5,h6,rt,z1,z2,cu,aW y s hyl hs]
  refine bP (new:=[cu (y ^^^ (y &&& s))]) (hO.step (Fr.new _ _)) (by simp[sx,sy,cu]) (by simp) (by simp[dB,S.wo];omega) fun v2 g2 hv2 n2 f2 _ l2=>?_
  simp only[sz,simprocAttr,h0,h1,h6]
  exact ⟨_,rfl,by rw[Df hy,List.map_append];exact hv2⟩
 ·rintro t df g ⟨rfl,h1,u,h5,hO⟩ -
  simp only[sz,simprocAttr,g8,h5]
  rw[List.take_length] at hO
  exact ⟨_,aF.2 ⟨_,rfl,hO.natsV (by rw[mh];omega) fun y hy=>by
   obtain ⟨z,hz,rfl⟩:=List.mem_map.1 hy
   exact qO (hp z hz)⟩⟩
def S.aK (n:Nat)(x y:Int):Bool:=decide (0<=x/\x<n/\0<=y/\y<n/\x≠y)
theorem uo {d n:Nat}{g:G}{x y:Int}(hd:0<d):ap C0 d N.aM [.int .i64 (n:Int),.int .i64 x,.int .i64 y] g=.val (.bool (S.aK n x y)):=by
 rw[kv]
 refine cL mJ (xs:=[.int .i64 (n:Int),.int .i64 x,.int .i64 y]) (by simp only[az,aX]) (by simp[aY]) hd ?_
 have no:¬(0<=x/\x<n/\0<=y/\y<n/\x≠y)->S.aK n x y=false:=fun h=>decide_eq_false h
 by_cases c1:0<=x
 ·by_cases c2:x<n
  ·by_cases c3:0<=y
   ·by_cases c4:y<n
    ·by_cases c5:x=y
     ·have:=no (by omega)
      have c':decide (x=y)=true:=decide_eq_true c5
      simp only[sz,simprocAttr,aY,this,c1,c2,c3,c4,c']
     ·have:S.aK n x y=true:=decide_eq_true ⟨c1,c2,c3,c4,c5⟩
      simp only[sz,simprocAttr,aY,this,c1,c2,c3,c4,c5]
    ·have:=no (by omega)
     simp only[sz,simprocAttr,aY,this,c1,c2,c3,c4]
   ·have:=no (by omega)
    simp only[sz,simprocAttr,aY,this,c1,c2,c3]
  ·have:=no (by omega)
   simp only[sz,simprocAttr,aY,this,c1,c2]
 ·have:=no (by omega)
  simp only[sz,simprocAttr,aY,this,c1]
theorem Ax (a b c d e f g:AV):bB 0 [a,b,c,d,e,f,g] .nil=cg (cg (cg (cg (cg (cg (cg .nil 0 a) 1 b) 2 c) 3 d) 4 e) 5 f) 6 g:=rfl
theorem zg {C:Cfg}{d:Nat}{r:List SR}{t:T}{g:G}{K:AV->G->Prop}(h:nh r t g fun vs=>K (dS vs) g):mK C d r t [] g K:=by
 unfold mK
 have:cJ (I C) d [] g=some g:=rfl
 rw[this];exact h
theorem VI.put {p:List Nat}{pa ch:AV}{Zs:Nat}{L:List (Nat×Bool)}{g:G}{i:Nat}{o:AObj}(hi:VI p pa ch Zs L g.h)(h:7<=i):VI p pa ch Zs L (g.put i o).h :=
 hi.fr fun k hk=>by simp[H.get_put,show ¬k=i by omega]
def pQ:SC:=.seq (.feet [0,0,2,6,15,31] [oL 21 3,oF 22 0 7,oL 23 22,o 24 (.bin .shl (.k (.int .u64 1)) (.t 23)),o 25 (.bin .or (.t 21) (.t 24)),oz (.store 1 (.t 3) (.t 25))]) (sQ [oF 26 1 4,oL 27 26,oF 28 0 7,oL 29 28,oX 30 27 29,oL 31 30,o 32 (.call N.ae [.t 31])] (.blk 0 (.rng 74 (.t 32) [33] bb a_)))
theorem BT:dl=.seq (sQ [oL 10 1,o 11 (.load true 2 (.t 7)),o 12 (.raw (.lookup 192 (.tmp 10) (.tmp 11) false))] (.cond (.t 12) (.ret) (.skip))) (sQ [oL 13 1,o 14 (.load true 2 (.t 7)),oz (.raw (.mapUpdate 192 (.tmp 13) (.tmp 14) (.const (.bool true))))] (.seq (sQ [oL 15 2,oF 16 0 7,oL 17 16,o 18 (.bin .shr (.t 15) (.t 17)),o 19 (.bin .and (.t 18) (.k (.int .u64 1))),o 20 (.bin .eql (.t 19) (.k (.int .u64 0)))] (.cond (.t 20) pQ (.skip))) be)):=rfl
theorem E4 {p c:List Nat}{pa ch:AV}{Zs:Nat}{Gd:Nat×Bool->Prop}{d k q v:Nat}{dn:Bool}{L:List (Nat×Bool)}{Q:QT}{t:T}{g:G}(hd:0<d)(hG:GrI p c pa ch Zs)(hv:uJ p pa ch Zs Gd d k)(hk:S.aL p.length (L++[(v,dn)])<=k)(hvn:v<p.length)(hnz:¬Bt Zs v)
  (hg:∀u,Eg p v u->Gd (u,true)) (hL:∀s∈L++[(v,dn)],Gd s) (hX:∀h':H,(∀i,i<7->i≠4->h'.get i=g.h.get i)->h'.get 4=.cells 1 [[.int .u64 (S.aa (jK (Bt Zs) (L++[(v,dn)])) p.length:Int)]] 0 false false->VI p pa ch Zs (L++[(v,dn)]) h') (hr4:g.h.get 4=.cells 1 [[.int .u64 (S.aa (jK (Bt Zs) L) p.length:Int)]] 0 false false) (hg0:g.h.get 0=.cells 2 [[pa,ch]] 0 false false) (ht:St t (LVs q)) (hq:g.h.get q=.cells 2 [[.int .i64 (v:Int),.bool dn]] 0 false false) (hq7:7<=q) (hqn:q<g.nx)
  (fin:∀t' g' L' m,St t' (LVs q)->VI p pa ch Zs L' g'.h->g.nx<=g'.nx->g.nx<=m->m<g'.nx->g'.h.get m=.dfr true->(∀i,7<=i->i<g.nx->g'.h.get i=g.h.get i)->Dst (RX p Zs) Gd (L++[(v,dn)]) L'->(∀u,Eg p v u->(u,true)∈L')->Q .norm t' [.mark m] g'):wp C0 d none pQ Q t [] g:=by
 obtain ⟨h1,h2,h3,h4,h5,h6,h7,-⟩:=ht
 have h256:=im hG.n8
 have hn8:=hG.n8
 have lq1:aL (.cells 2 [[.int .i64 (v:Int),.bool dn]] 0 false false) 0 0 false 1 0=.val (.int .i64 (v:Int)):=rfl
 have lg2:aL (.cells 2 [[pa,ch]] 0 false false) 0 0 false 1 1=.val ch:=rfl
 have hR:=iV (jK (Bt Zs) L) p.length
 have hor:=eY (S.aa (jK (Bt Zs) L) p.length) (S.aF v) (by omega) (tS v)
 rw[cq (by omega),<-BX (d:=dn) hvn hnz] at hor
 have hsh:aS .shl (.int .u64 1) (.int .i64 (v:Int))=.val (.int .u64 ((2 ^ v:Nat):Int)):=by rw[aI,cq (by omega)]
 have hcv:c[v]?=some (c[v]?.getD 0):=by rw[List.getElem?_eq_getElem (by rw[hG.cl];exact hvn)];rfl
 have u1:v<(c.map cu).length:=by rw[List.length_map,hG.cl];exact hvn
 have u2:(c.map cu)[v]?=some (cu (c[v]?.getD 0)):=by rw[List.getElem?_map,hcv];rfl
 have hyc:=hG.yc (by omega)
 have kM:=fun g=>jx (d:=d) (s:=c[v]?.getD 0) (g:=g) hd
 have hcm:∀u,u∈S.ak (c[v]?.getD 0)↔Eg p v u:=fun u=>by rw[ks (hG.cb8 v),hG.cb v u]
 unfold pQ
 refine yW (P:=fun t' df' g'=>df'=[]/\g.nx<=g'.nx/\(∀i,i≠4->g'.h.get i=g.h.get i)/\g'.h.get 4=.cells 1 [[.int .u64 (S.aa (jK (Bt Zs) (L++[(v,dn)])) p.length:Int)]] 0 false false/\St t' (LVs q)) ?_ ?_
 ·simp only[sz,simprocAttr,sf,h3,h7,hq,lq1,hr4,hsh,hor]
  refine ⟨?_,by omega,fun i hi=>by simp[H.get_put,hi],by simp[St,LVs,sx,h1,h2,h3,h4,h5,h6,h7]⟩
  simp only[List.reverse_cons,List.reverse_nil,List.nil_append,List.cons_append]
  exact mS [false,false,false,false,false,true] [] (by simp[All2,au,aV]) (by decide) (by simp)
 clear h1 h2 h3 h4 h5 h6 h7
 rintro t df g1 ⟨rfl,n1,f1,r1,h1,h2,h3,h4,h5,h6,h7,-⟩
 have hI:=hX g1.h (fun i _ hi=>f1 i hi) r1
 have hq1:g1.h.get q=.cells 2 [[.int .i64 (v:Int),.bool dn]] 0 false false:=by rw[f1 q (by omega),hq]
 have g01:g1.h.get 0=.cells 2 [[pa,ch]] 0 false false:=by rw[f1 0 (by omega),hg0]
 simp only[sz,simprocAttr,h4,h7,g01,lg2,hq1,lq1,hG.rc,u1,u2,cu,hyc,kM]
 refine Bd (q:=q) (L:=L++[(v,dn)]) (set:=c[v]?.getD 0) hd hv hk (hG.cb8 v) (fun u hu=>hg u ((hcm u).1 hu)) hL hI (by omega) (by simp[St,LVs,sx,h1,h2,h3,h4,h5,h6,h7]) (by simp[sx]) ?_
 intro g' L' hI' hn' hdf hfr hD hall
 simp only[sz,simprocAttr]
 exact fin _ g' L' g1.nx (by simp[St,LVs,sx,h1,h2,h3,h4,h5,h6,h7]) hI' (by omega) n1 (by omega) hdf (fun i a b=>by rw[hfr i a (by omega),f1 i (by omega)]) hD fun u hu=>hall u ((hcm u).2 hu)
theorem AY {p c:List Nat}{pa ch:AV}{Zs:Nat}{Gd:Nat×Bool->Prop}{d:Nat}(hd:0<d)(hG:GrI p c pa ch Zs)(hgc:∀s t,Gd s->RX p Zs s t->Gd t)(hgl:∀s,Gd s->s.1<p.length):∀k,uJ p pa ch Zs Gd d k:=by
 intro k
 induction k using Nat.strongRecOn with
 | _ k ih =>
  rintro L ⟨v,dn⟩ g K D hk hs hL hn hI kk
  have hvn:v<p.length:=hgl _ hs
  have h256:=im hG.n8
  have hz:=hG.zs
  have hn8:=hG.n8
  rw[CY]
  refine Cq iB (by simp[cj]) ?_
  simp only[sz,simprocAttr,cj,sk,Ax]
  obtain ⟨g1,hg1⟩:∃g1,g1=g.new (.cells 2 [[.int .i64 (v:Int),.bool dn]] 0 false false):=⟨_,rfl⟩
  rw[<-hg1]
  have n1:g1.nx=g.nx+1:=by rw[hg1];simp
  have f1:∀i,i<g.nx->g1.h.get i=g.h.get i:=fun i hi=>by rw[hg1];simp[H.get_put,show ¬i=g.nx by omega]
  have hq:g1.h.get g.nx=.cells 2 [[.int .i64 (v:Int),.bool dn]] 0 false false:=by rw[hg1];simp[H.get_put]
  have hI1:VI p pa ch Zs L g1.h:=hI.fr fun i hi=>f1 i (by omega)
  clear hg1
  have lq:aL (.cells 2 [[.int .i64 (v:Int),.bool dn]] 0 false false) 0 0 true 2 0=.val (sk (v,dn)):=rfl
  have lq1:aL (.cells 2 [[.int .i64 (v:Int),.bool dn]] 0 false false) 0 0 false 1 0=.val (.int .i64 (v:Int)):=rfl
  have lg2:aL (.cells 2 [[pa,ch]] 0 false false) 0 0 false 1 1=.val ch:=rfl
  rw[BT]
  by_cases hin:(v,dn)∈L
  ·simp only[sz,simprocAttr,hI1.p,hq,lq]
   rw[AR (id:=3) (s:=(v,dn)) (L:=L) (by simp[sx]) (by simp[sx]) hI1.m,decide_eq_true hin]
   simp only[sz,simprocAttr]
   exact kk g1 L hI1 (by omega) (fun i _ hi=>f1 i hi) (Dst.refl hL) hin
  ·have hlt:=CJ (n:=p.length) hin hvn
   obtain ⟨L1,hL1⟩:∃L1,L1=L++[(v,dn)]:=⟨_,rfl⟩
   rw[<-hL1] at hlt
   have hgL1:∀s∈L1,Gd s:=fun s hs'=>by
    rw[hL1] at hs'
    rcases List.mem_append.1 hs' with h | h
    ·exact hL s h
    ·rw[List.mem_singleton.1 h];exact hs
   refine yW (P:=fun t' df' g'=>df'=[]/\g'=g1/\St t' (LVs g.nx)) ?_ ?_
   ·simp only[sz,simprocAttr,hI1.p,hq,lq]
    rw[AR (id:=3) (s:=(v,dn)) (L:=L) (by simp[sx]) (by simp[sx]) hI1.m,decide_eq_false hin]
    simp only[sz,simprocAttr]
    simp[St,LVs,sx]
   rintro t df g2 ⟨rfl,hg,h1,h2,h3,h4,h5,h6,h7,-⟩
   rw[hg];clear hg
   refine lE (P:=fun t' df' g'=>df'=[]/\g'.nx=g1.nx/\(∀i,i≠3->g'.h.get i=g1.h.get i)/\g'.h.get 3=.map (bcl L1)/\St t' (LVs g.nx)) ?_ ?_
   ·simp only[sz,simprocAttr,h1,h7,hI1.p,hq,lq]
    rw[Fl (id:=3) (s:=(v,dn)) (L:=L) (by simp[sx]) (by simp[sx]) hI1.m hin]
    simp only[sz,simprocAttr]
    exact ⟨fun i hi=>by simp[H.get_put,hi],by simp[H.get_put,hL1],by simp[St,LVs,sx,h1,h2,h3,h4,h5,h6,h7]⟩
   clear h1 h2 h3 h4 h5 h6 h7
   rintro t df g2 ⟨rfl,n2,f2,m2,h1,h2,h3,h4,h5,h6,h7,-⟩
   have f2':∀i,7<=i->i<g1.nx->g2.h.get i=g1.h.get i:=fun i a b=>f2 i (by omega)
   have hq2:g2.h.get g.nx=.cells 2 [[.int .i64 (v:Int),.bool dn]] 0 false false:=by rw[f2 _ (by omega),hq]
   have z2:g2.h.get 1=.cells 1 [[.int .u64 (Zs:Int)]] 0 false false:=by rw[f2 1 (by omega),hI1.z]
   have r2:g2.h.get 4=.cells 1 [[.int .u64 (S.aa (jK (Bt Zs) L) p.length:Int)]] 0 false false:=by rw[f2 4 (by omega),hI1.r]
   have hI2:S.aa (jK (Bt Zs) L) p.length=S.aa (jK (Bt Zs) L1) p.length->VI p pa ch Zs L1 g2.h:=fun e =>
    ⟨by rw[f2 0 (by omega),hI1.g0],z2,by rw[f2 2 (by omega),hI1.a],m2,by rw[<-e,r2],by rw[f2 5 (by omega),hI1.p],by rw[f2 6 (by omega),hI1.v]⟩
   have zq:Zs<18446744073709551616:=by omega
   refine yW (P:=fun t' df' g'=>(df'=[]\/∃m,df'=[.mark m]/\g'.h.get m=.dfr true/\g1.nx<=m/\m<g'.nx)/\St t' (LVs g.nx)/\g1.nx<=g'.nx/\(∀i,7<=i->i<g1.nx->g'.h.get i=g1.h.get i)/\∃L2,VI p pa ch Zs L2 g'.h/\Dst (RX p Zs) Gd L1 L2/\∀u,RX p Zs (v,dn) (u,true)->(u,true)∈L2) ?_ ?_
   ·cases hb:Zs.testBit v with
    | true =>
     have hI3:=hI2 (by rw[hL1,Cv (show Bt Zs v from hb)])
     simp only[sz,simprocAttr,h2,h7,hq2,lq1,z2,aH _ _ _ zq,oy zq,nC,hb]
     exact ⟨.inl trivial,by simp[St,LVs,sx,h1,h2,h3,h4,h5,h6,h7],by omega,f2',L1,hI3,Dst.refl hgL1,fun u hu=>by cases hu with | dn hz' _=>exact absurd hb hz'⟩
    | false =>
     have hnz:¬Bt Zs v:=fun h=>by have h:Zs.testBit v=true:=h;rw[hb] at h;cases h
     have hR:=iV (jK (Bt Zs) L) p.length
     have hor:=eY (S.aa (jK (Bt Zs) L) p.length) (S.aF v) (by omega) (tS v)
     rw[cq (by omega),<-BX (d:=dn) hvn hnz,<-hL1] at hor
     have hsh:aS .shl (.int .u64 1) (.int .i64 (v:Int))=.val (.int .u64 ((2 ^ v:Nat):Int)):=by rw[aI,cq (by omega)]
     have hcv:c[v]?=some (c[v]?.getD 0):=by rw[List.getElem?_eq_getElem (by rw[hG.cl];exact hvn)];rfl
     have u1:v<(c.map cu).length:=by rw[List.length_map,hG.cl];exact hvn
     have u2:(c.map cu)[v]?=some (cu (c[v]?.getD 0)):=by rw[List.getElem?_map,hcv];rfl
     have hyc:=hG.yc (by omega)
     have kM:=fun g=>jx (d:=d) (s:=c[v]?.getD 0) (g:=g) hd
     simp only[sz,simprocAttr,h2,h7,hq2,lq1,z2,aH _ _ _ zq,oy zq,nC,hb]
     rw[hL1] at hgL1 m2 hlt ⊢
     refine E4 (q:=g.nx) (L:=L) (k:=S.aL p.length (L++[(v,dn)])) hd hG (ih _ (by omega)) (Nat.le_refl _) hvn hnz (fun u hu=>hgc (v,dn) (u,true) hs (.dn hnz hu)) hgL1 (fun h' hh hr=>⟨by rw[hh 0 (by omega) (by omega),f2 0 (by omega),hI1.g0],by rw[hh 1 (by omega) (by omega),z2],by rw[hh 2 (by omega) (by omega),f2 2 (by omega),hI1.a],by rw[hh 3 (by omega) (by omega),m2],hr,by rw[hh 5 (by omega) (by omega),f2 5 (by omega),hI1.p],by rw[hh 6 (by omega) (by omega),f2 6 (by omega),hI1.v]⟩) r2 (by rw[f2 0 (by omega),hI1.g0]) (by simp[St,LVs,sx,h1,h2,h3,h4,h5,h6,h7]) hq2 hn (by omega) ?_
     intro t' g' L' m ht' hI' n' hm1 hm2 hdf hfr hD hall
     exact ⟨rfl,.inr ⟨m,rfl,hdf,by omega,hm2⟩,ht',by omega,fun i a b=>by rw[hfr i a (by omega),f2' i a b],L',hI',hD,fun u hu=>hall u (by cases hu with | dn _ e=>exact e)⟩
   ·rintro t df g3 ⟨hdf,ht,n3,f3,L2,hI3,hD,hch⟩
    refine E0 (q:=g.nx) (v:=v) (dn:=dn) (L:=L2) (k:=S.aL p.length L2) hd hG (ih _ (by have:=pK (n:=p.length) hD.pre;omega)) (Nat.le_refl _) hvn (fun u hu=>hgc (v,dn) (u,false) hs hu) hD.good hI3 ht (by rw[f3 _ hn (by omega),hq]) hn (by omega) ?_
    rintro e t' df' g4 L3 he hdf' hI4 n4 f4 hD2 hpa
    have hfin:Dst (RX p Zs) Gd L L3/\(v,dn)∈L3:=by
     have hD3:=hD.tr hD2
     rw[hL1] at hD3
     refine hD3.visit fun u hu=>?_
     obtain ⟨w,b⟩:=u
     cases b with
     | true=>exact hD2.pre _ (hch w hu)
     | false=>exact hpa w hu
    have hfr:∀i,7<=i->i<g.nx->g4.h.get i=g.h.get i:=fun i a b=>by rw[f4 i a (by omega),f3 i a (by omega),f1 i b]
    have hend:fnQ C0 d [] K .ret t' df' g4=mK C0 d [] t' df' g4 K:=rfl
    have hend2:fnQ C0 d [] K .norm t' df' g4=mK C0 d [] t' df' g4 K:=rfl
    have goal:mK C0 d [] t' df' g4 K:=by
     have one:∀g5:G,g5.nx=g4.nx->(∀i,i<7->g5.h.get i=g4.h.get i)->(∀i,i<g.nx->g5.h.get i=g4.h.get i)->K (.tup []) g5:=fun g5 n5 f5 f6 =>
      kk g5 L3 (hI4.fr f5) (by omega) (fun i a b=>by rw[f6 i b,hfr i a b]) hfin.1 hfin.2
     rcases hdf with rfl | ⟨m,rfl,hm,hm1,hm2⟩
     ·rcases hdf' with rfl | ⟨m2,rfl,hm2,hm3⟩
      ·exact zg (one g4 rfl (fun _ _=>rfl) fun _ _=>rfl)
      ·exact oS hm2 (one _ (by simp) (fun i hi=>by simp[H.get_put,show ¬i=m2 by omega]) fun i hi=>by simp[H.get_put,show ¬i=m2 by omega])
     ·have hm4:g4.h.get m=.dfr true:=by rw[f4 m (by omega) hm2,hm]
      rcases hdf' with rfl | ⟨m2,rfl,hm5,hm3⟩
      ·exact oS hm4 (one _ (by simp) (fun i hi=>by simp[H.get_put,show ¬i=m by omega]) fun i hi=>by simp[H.get_put,show ¬i=m by omega])
      ·exact wE hm5 hm4 (by omega) (one _ (by simp) (fun i hi=>by simp[H.get_put,show ¬i=m by omega,show ¬i=m2 by omega]) fun i hi=>by simp[H.get_put,show ¬i=m by omega,show ¬i=m2 by omega])
    rcases he with rfl | rfl
    ·rw[hend];exact goal
    ·rw[hend2];exact goal
def S.aA (p:List Nat)(xs zs:Nat):Nat:=S.aa (Re (Eg p) (Bt zs) (Bt xs)) p.length
structure Chl (p c:List Nat):Prop where
 cl:c.length=p.length
 cb:∀v u,(c[v]?.getD 0).testBit u=true↔Eg p v u
theorem Da (Z:Nat->Prop)(n:Nat):S.aa (jK Z []) n=0:=by
 refine Nat.eq_of_testBit_eq fun i=>?_
 rw[Nat.zero_testBit]
 cases h:(S.aa (jK Z []) n).testBit i with
 | false=>rfl
 | true =>
  obtain ⟨-,⟨d,hd⟩,-⟩:=iK.1 h
  cases hd
theorem DJ {p:List Nat}{Z:Nat->Prop}{xs v:Nat}{b:Bool}(hp:∀x∈p,x<2 ^ p.length)(hx:xs<2 ^ p.length)(h:Rs (Eg p) Z (Bt xs) v b):v<p.length:=by
 cases h with
 | st h=>exact oV hx h
 | dn _ _ e=>exact (kK hp e).2
 | up _ _ e=>exact (kK hp e).1
set_option maxRecDepth 5000 in
theorem Ak {d xs zs:Nat}{g:G}{v:AV}{p c:List Nat}(hd:0<d)(hm:Agg ((p,c):List Nat×List Nat) NoP 0 g.h v)(hp:∀x∈p,x<2 ^ p.length)(h1:1<=p.length)(n8:p.length<=8)(hc:Chl p c)(hxs:xs<2 ^ p.length)(hzs:zs<2 ^ p.length) :
  ap C0 d N.aN [v,.int .u64 (xs:Int),.int .u64 (zs:Int)] g=.val (.int .u64 (S.aA p xs zs:Int)):=by
 have e0:=qT d hm
 obtain ⟨cs,rfl,hcs⟩:=hm
 obtain ⟨_,_,rfl,ha,hb⟩:=eK.1 hcs
 obtain ⟨pa,rfl,hpa⟩:=aF.1 ha
 obtain ⟨ch,rfl,hch⟩:=aF.1 hb
 have h256:=im n8
 have hpa:SlR NoP 0 .nil p pa:=hpa.tree (Nat.le_refl 0)
 have hch:SlR NoP 0 .nil c ch:=hch.tree (Nat.le_refl 0)
 have rp:∀h,aw h 1 pa=some (p.map cu):=fun h=>(hpa.tree (h':=h) (Nat.le_refl 0):SlR NoP 0 h _ pa).nats
 have rc:∀h,aw h 1 ch=some (c.map cu):=fun h=>(hch.tree (h':=h) (Nat.le_refl 0):SlR NoP 0 h _ ch).nats
 have hG:GrI p c pa ch zs:=⟨hp,n8,rp,rc,oq hpa,fun h=>oq hch (by rw[hc.cl];exact h),hc.cl,hc.cb,hzs⟩
 have lp:=hpa.len
 have lg1:aL (.cells 2 [[pa,ch]] 0 false false) 0 0 false 1 0=.val pa:=rfl
 have hlt:∀x∈p,x<18446744073709551616:=fun x hx=>by have:=hp x hx;omega
 rw[iq]
 refine dZ js (xs:=[.agg ([pa]++[ch]),.int .u64 (xs:Int),.int .u64 (zs:Int)]) (by simp only[az,e0,aX]) (by simp[cy]) hd ?_
 simp only[sz,simprocAttr,cy,dQ,List.cons_append,List.nil_append,lg1,lp]
 have go:∀t g',St t [(1,.int .u64 (xs:Int)),(3,.hptr 0 0 0 0),(5,.hptr 1 0 0 0),(7,.hptr 2 0 0 0)]->g'.nx=3->g'.h.get 0=.cells 2 [[pa,ch]] 0 false false->g'.h.get 1=.cells 1 [[.int .u64 (zs:Int)]] 0 false false->g'.h.get 2=.cells 1 [[.int .u64 (S.up p zs p.length:Int)]] 0 false false ->
   wp C0 (d+1) none bm (fnQ C0 (d+1) [SR.tm 6] fun v _=>v=AV.int IntKind.u64 ↑(S.aA p xs zs)) t [] g':=by
  rintro t g1 ⟨t1,t3,t5,t7,-⟩ n1 g0 gz ga
  have xn:xs<256:=by omega
  have st1:∀g,gO (.cells 1 [[.nilm]] 0 false false) g 5 0 0 1 0 (.hmap 3)=.upd .undef (g.put 5 (.cells 1 [[.hmap 3]] 0 false false)):=fun g=>rfl
  have st2:∀g,gO (.cells 1 [[.nilf]] 0 false false) g 6 0 0 1 0 (.clo N.aL [] [.hptr 5 0 0 0,.hptr 1 0 0 0,.hptr 4 0 0 0,.hptr 0 0 0 0,.hptr 6 0 0 0,.hptr 2 0 0 0])=.upd .undef (g.put 6 (.cells 1 [[BQ]] 0 false false)):=fun g=>rfl
  have kM:=fun g=>jx (d:=d+1) (s:=xs) (g:=g) (Nat.succ_pos d)
  simp only[sz,simprocAttr,bm,EN,t1,t3,t5,t7,kM,n1,st1,st2]
  obtain ⟨g2,hg2⟩:∃g2,g2=(((((((g1.new (AObj.map [])).new (AObj.cells 1 [[AV.int IntKind.u64 0]] 0 false false)).new (AObj.cells 1 [[AV.nilm]] 0 false false)).put 4 (AObj.cells 1 [[AV.int IntKind.u64 0]] 0 false false)).put 5 (AObj.cells 1 [[AV.hmap 3]] 0 false false)).new (AObj.cells 1 [[AV.nilf]] 0 false false)).put 6 (AObj.cells 1 [[BQ]] 0 false false)):=⟨_,rfl⟩
  rw[<-hg2]
  have n2:g2.nx=7:=by rw[hg2];simp[n1]
  have hz0:S.aa (jK (Bt zs) []) p.length=0:=Da _ _
  have hI:VI p pa ch zs [] g2.h:=by
   rw[hg2]
   refine ⟨?_,?_,?_,?_,?_,?_,?_⟩
   ·simp[H.get_put,n1,g0]
   ·simp[H.get_put,n1,gz]
   ·simp[H.get_put,n1,ga]
   ·simp[H.get_put,n1];rfl
   ·simp[H.get_put,n1,hz0]
   ·simp[H.get_put,n1]
   ·simp[H.get_put,n1]
  clear hg2 g0 gz ga
  have hgc:∀s t,Rs (Eg p) (Bt zs) (Bt xs) s.1 s.2->RX p zs s t->Rs (Eg p) (Bt zs) (Bt xs) t.1 t.2:=fun s t h1 h2=>Cz h1 h2
  have hgl:∀s:Nat×Bool,Rs (Eg p) (Bt zs) (Bt xs) s.1 s.2->s.1<p.length:=fun s h=>DJ hp hxs h
  have hv:=AY (Gd:=fun s=>Rs (Eg p) (Bt zs) (Bt xs) s.1 s.2) (Nat.succ_pos d) hG hgc hgl (S.aL p.length [])
  refine tV (Nat.succ_pos d) xn (by simp[sx]) (by decide) (fun j h=>VJ p pa ch zs (fun s=>Rs (Eg p) (Bt zs) (Bt xs) s.1 s.2) [] false (S.ak xs) g2 j h) ?_ ⟨⟨[],hI,Dst.refl (fun s h=>by cases h),fun i v h=>absurd h (Nat.not_lt_zero i)⟩,fun _ _ _=>rfl⟩ ?_ ?_
  ·rintro j h h' hh ⟨⟨L1,i1,i2,i3⟩,f1⟩
   exact ⟨⟨L1,i1.fr fun i hi=>hh i (by omega),i2,i3⟩,fun i h1 h2=>by rw[hh i h2,f1 i h1 h2]⟩
  ·rintro j v g1 hj ⟨⟨L1,i1,i2,i3⟩,f1⟩ hn1
   simp only[sz,simprocAttr,dL]
   intro g3 hn3 hf3
   have i1':VI p pa ch zs L1 g3.h:=i1.fr fun i hi=>hf3 i (by omega)
   simp only[sz,simprocAttr,dI,i1'.v]
   refine hv L1 (v,false) g3 _ _ (pK i2.pre) (.st ((ks xn).1 (List.mem_of_getElem? hj))) i2.good (by omega) i1' fun g4 L2 j1 j2 j3 j4 j5=>?_
   simp only[sz,simprocAttr]
   refine ⟨j2,fun i a b=>j3 i (by omega) b,.inl ⟨rfl,⟨L2,j1,i2.tr j4,fun i u hi hu=>?_⟩,fun i a b=>?_⟩⟩
   ·by_cases e:i=j
    ·subst e
     rw[hj] at hu
     injection hu with hu
     subst hu
     exact j5
    ·exact j4.pre _ (i3 i u (by omega) hu)
   ·omega
  ·rintro g' ⟨⟨L1,i1,i2,i3⟩,f1⟩ hn' hdf
   have hall:∀x,Bt xs x->(x,false)∈L1:=fun x hx=>by
    obtain ⟨i,hi,e⟩:=List.mem_iff_getElem.1 ((ks xn).2 hx)
    exact i3 i x hi (by rw[List.getElem?_eq_getElem hi,e])
   have hval:S.aa (jK (Bt zs) L1) p.length=S.aA p xs zs:=bW fun y _=>by
    constructor
    ·rintro ⟨⟨b,h⟩,hz⟩;exact ⟨⟨b,(xB i2 hall y b).1 h⟩,hz⟩
    ·rintro ⟨⟨b,h⟩,hz⟩;exact ⟨⟨b,(xB i2 hall y b).2 h⟩,hz⟩
   have hr:=i1.r
   rw[hval] at hr
   simp only[sz,simprocAttr,dK,hr]
   refine oS hdf ?_
   simp only[sz,simprocAttr]
 have go2:∀t df g',(df=[]/\St t [(1,.int .u64 (xs:Int)),(3,.hptr 0 0 0 0),(5,.hptr 1 0 0 0),(7,.hptr 2 0 0 0)]/\g'.nx=3/\g'.h.get 0=.cells 2 [[pa,ch]] 0 false false/\g'.h.get 1=.cells 1 [[.int .u64 (zs:Int)]] 0 false false/\g'.h.get 2=.cells 1 [[.int .u64 (S.up p zs p.length:Int)]] 0 false false) ->
   wp C0 (d+1) none bm (fnQ C0 (d+1) [SR.tm 6] fun v _=>v=AV.int IntKind.u64 ↑(S.aA p xs zs)) t df g':=by
  rintro t df g' ⟨rfl,a1,a2,a3,a4,a5⟩
  exact go t g' a1 a2 a3 a4 a5
 refine bV (m:=p.length) (by omega) (fun j t df g'=>df=[]/\St t [(1,.int .u64 (xs:Int)),(3,.hptr 0 0 0 0),(5,.hptr 1 0 0 0),(7,.hptr 2 0 0 0)]/\g'.nx=3/\g'.h.get 0=.cells 2 [[pa,ch]] 0 false false/\g'.h.get 1=.cells 1 [[.int .u64 (zs:Int)]] 0 false false/\g'.h.get 2=.cells 1 [[.int .u64 (S.up p zs j:Int)]] 0 false false)
  ⟨rfl,by simp[St,sx],by simp[sx],by simp[sx,H.get_put],by simp[sx,H.get_put],by simp[sx,H.get_put];rfl⟩ (by simp[sx]) (by simp[sx]) (by decide) ?_ ?_ ?_
 ·rintro j t df g v s hs ⟨a1,⟨b1,b2,b3,b4,-⟩,a3⟩
  refine ⟨a1,?_,a3⟩
  rcases hs with rfl | rfl | rfl<;>simp[St,sx, *]
 ·rintro j t df g hj ⟨rfl,⟨h1,h3,h5,h7,-⟩,n3,g0,gz,ga⟩ h19 h18
  have hup:=td hp hzs j
  simp only[sz,simprocAttr,h3,g0,lg1,lp]
  simp only[dJ,dM]
  refine bV (m:=p.length) (by omega) (fun i t df g'=>df=[]/\St t [(1,.int .u64 (xs:Int)),(3,.hptr 0 0 0 0),(5,.hptr 1 0 0 0),(7,.hptr 2 0 0 0),(18,.int .i64 (p.length:Int)),(19,.int .i64 (j:Int)),(23,pa)]/\g'.nx=3/\g'.h.get 0=.cells 2 [[pa,ch]] 0 false false/\g'.h.get 1=.cells 1 [[.int .u64 (zs:Int)]] 0 false false/\g'.h.get 2=.cells 1 [[.int .u64 (S.au p (S.up p zs j) i:Int)]] 0 false false)
   ⟨rfl,by simp[St,sx,h1,h3,h5,h7,h18,h19],n3,g0,gz,by rw[ga];rfl⟩ (by simp[sx]) (by simp[sx]) (by decide) ?_ ?_ ?_
  ·rintro j t df g v s hs ⟨a1,⟨b1,b2,b3,b4,b5,b6,b7,-⟩,a3⟩
   refine ⟨a1,?_,a3⟩
   rcases hs with rfl | rfl | rfl<;>simp[St,sx, *]
  ·rintro i t df g hi ⟨rfl,⟨h1,h3,h5,h7,h18,h19,h23,-⟩,n3,g0,gz,ga⟩ h25 h24
   have hr:=oE hp hup i
   obtain ⟨x,hx,-,hxm⟩:=bh hi
   have u1:i<(p.map cu).length:=by simpa using hi
   have u2:(p.map cu)[i]?=some (cu x):=by rw[List.getElem?_map,hx];rfl
   have hxl:=hlt x hxm
   have hrl:S.au p (S.up p zs j) i<18446744073709551616:=by omega
   have us:=dx p (S.up p zs j) i
   rw[lK,hx,Option.getD_some] at us
   simp only[sz,simprocAttr,h7,h23,h25,rp,u1,u2,cu,ga,aH _ _ _ hrl,oy hrl,Cm]
   cases hb:(S.au p (S.up p zs j) i).testBit i with
   | true =>
    rw[hb,if_pos rfl] at us
    simp only[sz,simprocAttr,h7,ga,eY _ _ hrl hxl]
    exact ⟨⟨by simp[St,sx,h1,h3,h5,h7,h18,h19,h23],by simp[n3],by simp[H.get_put,g0],by simp[H.get_put,gz],by simp[H.get_put];rw[us]⟩,h25,h24⟩
   | false =>
    rw[hb,if_neg (by decide)] at us
    simp only[sz,simprocAttr]
    exact ⟨⟨by simp[St,sx,h1,h3,h5,h7,h18,h19,h23],n3,g0,gz,by rw[us];exact ga⟩,h25,h24⟩
  ·rintro t df g ⟨rfl,⟨h1,h3,h5,h7,h18,h19,h23,-⟩,n3,g0,gz,ga⟩
   simp only[sz,simprocAttr]
   have ga2:=ga
   rw[<-gC] at ga2
   exact ⟨⟨⟨h1,h3,h5,h7,trivial⟩,n3,g0,gz,ga2⟩,h19,h18⟩
 ·intro t df g h
  simp only[sz,simprocAttr]
  exact go2 t df g h
theorem Dw {d k2:Nat}{g:G}{P2:Nat->Prop}{v w:AV}{p c l:List Nat}(hd:0<d)(hm:Agg ((p,c):List Nat×List Nat) NoP 0 g.h v)(hw:SlR P2 k2 g.h l w)(n8:p.length<=8) :
  ap C0 d N.au [v,w] g=.val (.bool (S.aD p.length l 0)):=by
 have e0:=qT d hm
 obtain ⟨cs,rfl,hcs⟩:=hm
 obtain ⟨_,_,rfl,ha,hb⟩:=eK.1 hcs
 obtain ⟨pa,rfl,hpa⟩:=aF.1 ha
 obtain ⟨ch,rfl,hch⟩:=aF.1 hb
 obtain ⟨w',e2,r2⟩:=bN hw d
 have hlt:=aZ hw
 have hl:=hw.1
 have hpa:SlR NoP 0 .nil p pa:=hpa.tree (Nat.le_refl 0)
 have lp:=hpa.len
 have wl:=(r2 .nil).len
 have lg1:aL (.cells 2 [[pa,ch]] 0 false false) 0 0 false 1 0=.val pa:=rfl
 rw[gq]
 refine cL ie (xs:=[.agg ([pa]++[ch]),w']) (by simp only[az,e0,e2]) (by simp[bU]) hd ?_
 simp only[sz,simprocAttr,bU,c_,List.cons_append,List.nil_append,wl]
 simp only[cN]
 refine bV (m:=l.length) hl (fun j t df g=>df=[]/\g.h.get 0=.cells 2 [[pa,ch]] 0 false false/\∃a:Nat,a<18446744073709551616/\S.aD p.length (l.drop j) a=S.aD p.length l 0/\St t [(2,.hptr 0 0 0 0),(8,w'),(5,.int .u64 (a:Int))]) ⟨rfl,by simp[sx,H.get_put],0,by decide,rfl,by simp[St,sx]⟩ (by simp[sx]) (by simp[sx]) (by decide)
  (by rintro j t df g v s (rfl | rfl | rfl)<;>simp[sx,St]) ?_ ?_
 ·rintro j t df g hj ⟨rfl,g0,a,ha,hS,h2,h8,h5,-⟩ h10 h9
  obtain ⟨x,hx,-,hm⟩:=bh hj
  have hxl:=hlt x hm
  have z1:j<(l.map cu).length:=by simpa using hj
  have z2:(l.map cu)[j]?=some (cu x):=by rw[List.getElem?_map,hx];rfl
  have rt:=fun h=>(r2 h).nats
  rw[zb hx] at hS
  by_cases c:x<2 ^ p.length
  ·by_cases c2:x &&& a=0
   ·simp only[sz,simprocAttr,h2,h5,h8,h10,g0,lg1,lp,rt,z1,z2,cu,aH _ _ _ hxl,eV,c,bj x a hxl ha,c2,eY a x ha hxl]
    refine ⟨⟨a ||| x,vK ha hxl,?_,by simp[St,sx,h2,h8]⟩,h9⟩
    rw[<-hS,y0 c c2]
   ·simp only[sz,simprocAttr,h2,h5,h8,h10,g0,lg1,lp,rt,z1,z2,cu,aH _ _ _ hxl,eV,c,bj x a hxl ha,show ¬((x &&& a:Nat):Int)=0 from by omega]
    rw[<-hS,Br c2]
  ·simp only[sz,simprocAttr,h2,h5,h8,h10,g0,lg1,lp,rt,z1,z2,cu,aH _ _ _ hxl,eV,c]
   rw[<-hS,BZ c]
 ·rintro t df g ⟨rfl,g0,a,-,hS,-⟩
  simp only[sz,simprocAttr,cH]
  rw[<-hS,List.drop_length];rfl
theorem CC {p:List Nat}(hp:∀x∈p,x<2 ^ p.length):Chl p (S.aQ p):=by
 refine ⟨tJ,fun v u=>?_⟩
 by_cases h:v<p.length
 ·have:(S.aQ p)[v]?.getD 0=S.aa (Eg p v) p.length:=by simp[S.aQ,h]
  rw[this,iK]
  exact ⟨fun h=>h.2,fun h=>⟨(kK hp h).2,h⟩⟩
 ·have:(S.aQ p)[v]?=none:=List.getElem?_eq_none (by rw[tJ];omega)
  rw[this]
  constructor
  ·intro h';simp at h'
  ·intro h';exact absurd (kK hp h').1 h
theorem yX {d:Nat}{g:G}{v':AV}{p:List Nat}(hd:0<d)(hv:SlR NoP 0 .nil p v'):ap C0 d N.aR [v'] g=.val (.int .i64 (S.aE p [])):=by
 have e:=lJ (h:=g.h) d (hv.tree (h':=g.h) (Nat.le_refl 0))
 rw[lQ]
 refine dZ nG (xs:=[v']) (by simp only[az,e]) (by simp[fF]) hd ?_
 simp only[sz,simprocAttr,fF]
 refine jy (vz (Nat.succ_pos d) hv) fun z hz=>?_
 obtain ⟨a,b,rfl,⟨cs,rfl,hcs⟩,hb⟩:=hz
 obtain ⟨_,_,rfl,ha,hb2⟩:=eK.1 hcs
 obtain ⟨pa,rfl,-⟩:=aF.1 ha
 obtain ⟨ch,rfl,-⟩:=aF.1 hb2
 obtain rfl:b=.int .i64 (if S.az p then (0:Int) else 70):=by simpa using bz.1 hb
 simp only[sz,simprocAttr,List.cons_append,List.nil_append]
 simp only[S.aE,S.aD,↓reduceIte]
def stE (p:List Nat)(zs x:Nat)(l:List Nat)(v0 j:Nat)(y:Nat):Prop:=(y=v0/\¬Bt zs v0)\/∃w,w<j/\(Eg p v0 w\/Eg p w v0)/\w ∉ l/\mr (Eg p) (Bt zs) x (w::l) y
theorem E_ {p:List Nat}{zs x:Nat}{l:List Nat}{v0 j y:Nat}(h:¬((Eg p v0 j\/Eg p j v0)/\j ∉ l)):stE p zs x l v0 (j+1) y↔stE p zs x l v0 j y:=by
 constructor
 ·rintro (h1 | ⟨w,h1,h2,h3,h4⟩)
  ·exact .inl h1
  ·by_cases e:w=j
   ·subst e;exact absurd ⟨h2,h3⟩ h
   ·exact .inr ⟨w,by omega,h2,h3,h4⟩
 ·rintro (h1 | ⟨w,h1,h2,h3,h4⟩)
  ·exact .inl h1
  ·exact .inr ⟨w,by omega,h2,h3,h4⟩
theorem CU {p:List Nat}{zs x:Nat}{l:List Nat}{v0 j y:Nat}(h:(Eg p v0 j\/Eg p j v0)/\j ∉ l):stE p zs x l v0 (j+1) y↔stE p zs x l v0 j y\/mr (Eg p) (Bt zs) x (j::l) y:=by
 constructor
 ·rintro (h1 | ⟨w,h1,h2,h3,h4⟩)
  ·exact .inl (.inl h1)
  ·by_cases e:w=j
   ·subst e;exact .inr h4
   ·exact .inl (.inr ⟨w,by omega,h2,h3,h4⟩)
 ·rintro ((h1 | ⟨w,h1,h2,h3,h4⟩) | h1)
  ·exact .inl h1
  ·exact .inr ⟨w,by omega,h2,h3,h4⟩
  ·exact .inr ⟨j,by omega,h.1,h.2,h1⟩
theorem uU {tr:List Nat}{i j x:Nat}(h:tr[i]?=some x):(tr.take (i+1)).all (fun y=>decide (y≠j))=((tr.take i).all (fun y=>decide (y≠j))&&decide (x≠j)):=by
 rw[List.take_add_one,h,List.all_append];simp
theorem EO {tr:List Nat}{j:Nat}:tr.all (fun y=>decide (y≠j))=true↔j ∉ tr:=by
 rw[List.all_eq_true]
 simp only[decide_eq_true_eq]
 exact ⟨fun h hj=>h j hj rfl,fun h y hy e=>h (e ▸ hy)⟩
def EI (p:List Nat)(zs x m:Nat):Prop :=
 ∀{d k k2:Nat} {g:G} {P P2:Nat->Prop} {v w:AV} {tr:List Nat},p.length - tr.length<=m->0<d->SlR P k g.h p v->SlR P2 k2 g.h (tr.map cn) w->Tw (Eg p) x tr.reverse ->
  ap C0 d N.az [v,w,.int .u64 (zs:Int)] g=.val (.int .u64 (S.aa (mr (Eg p) (Bt zs) x tr.reverse) p.length:Int))
theorem yB {E:Nat->Nat->Prop}{x:Nat}{l:List Nat}(h:Tw E x l):∃v r,l=v::r:=by
 cases h with
 | one=>exact ⟨_,_,rfl⟩
 | ext _ _ _=>exact ⟨_,_,rfl⟩
theorem Du {kk d:Nat}{Q:QT}{t:T}{g:G}{w':AV}{tr:List Nat}{j:Nat}{b:Bool}{l:List (Nat×AV)}(r2:∀h,SlR NoP kk h (tr.map cn) w')
  (ht:St t [(10,.bool b),(9,.int .i64 (j:Int)),(1,w')]) (h11:tat t 11=.int .i64 0) (hl:∀t a x,a∈[10,11,51,52,53,54,55,56,57,58,59,60,61,62,63,64,65]->St t l->St (cg t a x) l) (hlt:St t l)
  (fin:∀t,St t [(10,.bool (b&&decide (j ∉ tr))),(9,.int .i64 (j:Int)),(1,w')]->St t l->Q (.exit 2) t [] g):wpL (wp C0 d none gk) Q t [] g:=by
 have hl1:=(r2 .nil).1
 rw[List.length_map] at hl1
 have wl:∀g,dc .slice w' g=.val (.int .i64 (tr.length:Int)):=fun g=>by rw[(r2 .nil).len g,List.length_map]
 have rt:=fun h=>(r2 h).ints
 obtain ⟨h10,h9,h1,-⟩:=ht
 simp only[gk]
 refine eW hl1 wl (fun i t df g'=>df=[]/\g'=g/\St t l/\tat t 9=.int .i64 (j:Int)/\tat t 10=.bool (b&&(tr.take i).all (fun y=>decide (y≠j)))) ⟨rfl,rfl,hlt,h9,by simp[h10]⟩ h11 h1 (by decide) ?_ ?_ ?_
 ·rintro i t df g' v s (rfl | rfl | rfl | rfl | rfl | rfl | rfl) ⟨a1,a2,a3,a4,a5⟩<;>exact ⟨a1,a2,hl _ _ _ (by simp) a3,by simp[sx,a4],by simp[sx,a5]⟩
 ·rintro i t df g' hi ⟨rfl,rfl,hlt,h9,h10⟩ h11 h1
  obtain ⟨x,hx,-,-⟩:=bh hi
  have q:=nY hx
  have z:i<((tr.map cn).map ci).length:=by simpa using hi
  have hall:=uU (j:=j) hx
  cases hb:(b&&(tr.take i).all (fun y=>decide (y≠j))) with
  | true =>
   rw[hb] at h10
   have hd:(!decide ((x:Int)=(j:Int)))=decide (x≠j):=by
    by_cases e:x=j
    ·simp[e]
    ·have:¬(x:Int)=(j:Int):=by omega
     simp[e,this]
   have hr:(b&&(tr.take (i+1)).all (fun y=>decide (y≠j)))=decide (x≠j):=by rw[hall,<-Bool.and_assoc,hb,Bool.true_and]
   simp only[sz,simprocAttr,h1,h9,h10,h11,rt,z,q,ci]
   refine ⟨?_,?_⟩
   ·repeat' (first | exact hlt | refine hl _ _ _ (by simp) ?_)
   ·rw[hr];simp[sx,hd]
  | false =>
   rw[hb] at h10
   have hr:(b&&(tr.take (i+1)).all (fun y=>decide (y≠j)))=false:=by rw[hall,<-Bool.and_assoc,hb,Bool.false_and]
   simp only[sz,simprocAttr,h1,h9,h10,h11]
   refine ⟨?_,?_⟩
   ·repeat' (first | exact hlt | refine hl _ _ _ (by simp) ?_)
   ·rw[hr]
 ·rintro t df g' ⟨rfl,rfl,hlt,h9,h10⟩ h1
  refine fin t ⟨?_,h9,h1,trivial⟩ hlt
  rw[h10,List.take_length]
  congr 2
  rw[Bool.eq_iff_iff,EO,decide_eq_true_iff]
theorem Dh {p:List Nat}{zs x:Nat}(hp:∀x∈p,x<2 ^ p.length)(hn:p.length<=8)(hz:zs<2 ^ p.length)(hx:x<p.length):∀m,EI p zs x m:=by
 intro m
 induction m using Nat.strongRecOn with
 | _ m ih =>
  intro d k k2 g P P2 v w tr hm hd hv hw hT
  obtain ⟨v',e,r1⟩:=bN hv d
  obtain ⟨w',e2,r2⟩:=bN hw d
  have hl1:=hw.1
  rw[List.length_map] at hl1
  have h256:=im hn
  have hE:∀u v,Eg p u v->u<p.length/\v<p.length:=fun u v h=>kK hp h
  have htl:∀y∈tr,y<p.length:=fun y hy=>D9 hE hx hT y (by simpa using hy)
  have hlt:=aZ hv
  rw[pg]
  refine dZ rI (xs:=[v',w',.int .u64 (zs:Int)]) (by simp only[az,e,e2,aX]) (by simp[eM]) hd ?_
  have rt:=fun h=>(r2 h).ints
  have rp:=fun h=>(r1 h).nats
  have wl:∀g,dc .slice w' g=.val (.int .i64 (tr.length:Int)):=fun g=>by rw[(r2 .nil).len g,List.length_map]
  have kO:=fun g=>Cp (d:=d+1) (g:=g) (Nat.succ_pos d) (r1 g.h) (r2 g.h) hp hn htl hz
  cases ho:S.aW p zs tr with
  | false =>
   rw[ho] at kO
   simp only[sz,simprocAttr,eM,kO]
   have hno:¬Tl (Eg p) (Bt zs) x tr.reverse:=fun h=>by rw[pB.2 (BP.1 h).2] at ho;cases ho
   rw[kU]
   ·rfl
   ·rintro y - ⟨s,h1,-⟩
    have:∃v r,tr.reverse=v::r:=yB hT
    obtain ⟨v0,r,hr⟩:=this
    rw[hr] at h1 hno
    exact hno (qs h1 rfl).1
  | true =>
   rw[ho] at kO
   have hTl:Tl (Eg p) (Bt zs) x tr.reverse:=BP.2 ⟨hT,pB.1 ho⟩
   obtain ⟨v0,r,hr⟩:∃v r,tr.reverse=v::r:=yB hT
   have htr:tr=r.reverse++[v0]:=by rw[<-List.reverse_reverse tr,hr,List.reverse_cons]
   have hlen:tr.length=r.length+1:=by rw[htr];simp
   have hv0:tr[tr.length - 1]?=some v0:=by rw[htr];simp
   have hv0l:=htl v0 (List.mem_of_getElem? hv0)
   have q0:=nY hv0
   have z0:tr.length - 1<((tr.map cn).map ci).length:=by simp;omega
   have w1:IntKind.wrap .i64 ((tr.length:Int) - 1)=((tr.length - 1:Nat):Int):=by rw[dO (by omega) (by omega)];omega
   have hnd:=vB hT
   have hpv:p[v0]?=some (Par p v0):=by simp[Par,List.getElem?_eq_getElem hv0l]
   have u1:v0<(p.map cu).length:=by simpa using hv0l
   have u2:(p.map cu)[v0]?=some (cu (Par p v0)):=by rw[List.getElem?_map,hpv];rfl
   have kI:∀g,ap C0 (d+1) N.aa [.int .u64 (zs:Int),.int .i64 (v0:Int)] g=.val (.bool (zs.testBit v0)):=fun g=>by rw[j7 (Nat.succ_pos d) (by omega) (by omega),me]
   have hmem:∀j,j ∉ v0::r↔j ∉ tr:=fun j=>by rw[<-hr,List.mem_reverse]
   have rest:∀t,St t [(0,v'),(1,w'),(2,.int .u64 (zs:Int)),(8,.int .i64 (v0:Int)),(7,.int .u64 (S.aa (stE p zs x (v0::r) v0 0) p.length:Int))] ->
     wp C0 (d+1) none gg (fnQ C0 (d+1) [SR.tm 6] fun v _=>v=AV.int IntKind.u64 ↑(S.aa (mr (Eg p) (Bt zs) x tr.reverse) p.length)) t [] G.empty:=by
    rintro t ⟨t0,t1,t2,t8,t7,-⟩
    simp only[gg,sz,simprocAttr,j6,jW]
    refine eW hv.1 (r1 .nil).len (fun j t df g'=>df=[]/\St t [(1,w'),(2,.int .u64 (zs:Int)),(8,.int .i64 (v0:Int)),(7,.int .u64 (S.aa (stE p zs x (v0::r) v0 j) p.length:Int))]) ⟨rfl,by simp[St,sx,t1,t2,t7,t8]⟩ (by simp[sx]) (by simp[sx,t0]) (by decide)
     (by rintro j t df g v s (rfl | rfl | rfl | rfl | rfl | rfl | rfl)<;>simp[sx,St]) ?_ ?_
    ·rintro j t df g hj ⟨rfl,h1,h2,h8,h7,-⟩ h9 h0
     obtain ⟨y,hy,-,hym⟩:=bh hj
     have hpj:Par p j=y:=by simp[Par,hy]
     have hyl:=hlt y hym
     have hpl:=hlt _ (List.mem_of_getElem? hpv)
     have kA:∀g,ap C0 (d+1) N.aa [.int .u64 (y:Int),.int .i64 (v0:Int)] g=.val (.bool (y.testBit v0)):=fun g=>by rw[j7 (Nat.succ_pos d) hyl (by omega),me]
     have kB:∀g,ap C0 (d+1) N.aa [.int .u64 (Par p v0:Int),.int .i64 (j:Int)] g=.val (.bool ((Par p v0).testBit j)):=fun g=>by rw[j7 (Nat.succ_pos d) hpl (by omega),me]
     have hadj:(y.testBit v0 || (Par p v0).testBit j)=true↔(Eg p v0 j\/Eg p j v0):=by rw[Bool.or_eq_true,Eg,Eg,hpj]
     obtain ⟨b,hb⟩:∃b,b=(y.testBit v0 || (Par p v0).testBit j):=⟨_,rfl⟩
     have z1:j<(p.map cu).length:=by simpa using hj
     have z2:(p.map cu)[j]?=some (cu y):=by rw[List.getElem?_map,hy];rfl
     rw[<-hb] at hadj
     refine yW (P:=fun t' df' g'=>df'=[]/\g'=g/\St t' [(0,v'),(1,w'),(2,.int .u64 (zs:Int)),(8,.int .i64 (v0:Int)),(7,.int .u64 (S.aa (stE p zs x (v0::r) v0 j) p.length:Int)),(9,.int .i64 (j:Int)),(10,.bool b)]) ?_ ?_
     ·cases hya:y.testBit v0 with
      | true =>
       rw[hya] at kA hb
       simp only[sz,simprocAttr,h0,h1,h8,h9,rp,z1,z2,cu,kA]
       simp[St,sx,h0,h1,h2,h7,h8,h9,hb]
      | false =>
       rw[hya] at kA hb
       simp only[sz,simprocAttr,h0,h1,h8,h9,rp,z1,z2,u1,u2,cu,kA,kB]
       simp[St,sx,h0,h1,h2,h7,h8,h9,hb]
     ·clear h0 h1 h2 h7 h8 h9
      rintro t df g' ⟨rfl,rfl,h0,h1,h2,h8,h7,h9,h10,-⟩
      simp only[sz,simprocAttr]
      refine Du (tr:=tr) (j:=j) (b:=b) (l:=[(0,v'),(2,.int .u64 (zs:Int)),(8,.int .i64 (v0:Int)),(7,.int .u64 (S.aa (stE p zs x (v0::r) v0 j) p.length:Int))]) (fun h=>(r2 h)) (by simp[St,sx,h1,h9,h10]) (by simp[sx]) ?_ (by simp[St,sx,h0,h2,h7,h8]) ?_
      ·rintro t a x ha ⟨b1,b2,b3,b4,-⟩
       simp only[List.mem_cons,List.not_mem_nil,or_false] at ha
       rcases ha with rfl | rfl | rfl | rfl | rfl | rfl | rfl | rfl | rfl | rfl | rfl | rfl | rfl | rfl | rfl | rfl | rfl<;>simp[St,sx,b1,b2,b3,b4]
      rintro t ⟨h10,h9,h1,-⟩ ⟨h0,h2,h8,h7,-⟩
      by_cases hj2:(Eg p v0 j\/Eg p j v0)/\j ∉ tr
      ·have hbt:(b&&decide (j ∉ tr))=true:=by rw[Bool.and_eq_true,decide_eq_true_iff];exact ⟨hadj.2 hj2.1,hj2.2⟩
       rw[hbt] at h10
       have hT2:Tw (Eg p) x (tr++[j]).reverse:=by
        rw[List.reverse_append,hr]
        rw[hr] at hT
        exact hT.ext hj2.1 ((hmem j).2 hj2.2)
       have hln:(tr++[j]).length<=p.length:=by
        have:=oe (vB hT2) (D9 hE hx hT2)
        rwa [List.length_reverse] at this
       rw[List.length_append,List.length_singleton] at hln
       simp only[sz,simprocAttr,gc,h0,h1,h2,h7,h8,h9,h10]
       refine bP (b:=0) (rows:=[]) (new:=(tr.map cn).map ci) (.inl ⟨rfl,rfl⟩) (rt _) (Nat.zero_le _) (by simp[dB];omega) fun w2 g2 hw2 n2 f2 _ l2=>?_
       simp only[sz,simprocAttr,h9]
       refine bP (new:=[ci (j:Int)]) (hw2.step (Fr.new _ _)) (by simp[sx,sy,ci]) (Nat.zero_le _) (by simp[dB];omega) fun w3 g3 hw3 n3 f3 _ l3=>?_
       have e3:([]++(tr.map cn).map ci)++[ci (j:Int)]=((tr++[j]).map cn).map ci:=by simp[cn]
       rw[e3] at hw3
       have kE:=ih (m - 1) (by omega) (d:=d+1) (g:=g3) (tr:=tr++[j]) (by rw[List.length_append,List.length_singleton];omega) (Nat.succ_pos d) (r1 g3.h) (hw3.intsV (by simp;omega)) hT2
       have hA:=iV (stE p zs x (v0::r) v0 j) p.length
       have hB:=iV (mr (Eg p) (Bt zs) x (tr++[j]).reverse) p.length
       simp only[sz,simprocAttr,h0,h2,h7,kE,eY _ _ (show S.aa (stE p zs x (v0::r) v0 j) p.length<18446744073709551616 by omega) (show S.aa (mr (Eg p) (Bt zs) x (tr++[j]).reverse) p.length<18446744073709551616 by omega)]
       rw[AG]
       have eq:S.aa (fun i=>stE p zs x (v0::r) v0 j i\/mr (Eg p) (Bt zs) x (tr++[j]).reverse i) p.length=S.aa (stE p zs x (v0::r) v0 (j+1)) p.length:=bW fun y _=>by
        rw[CU ⟨hj2.1,(hmem j).2 hj2.2⟩,List.reverse_append,hr];rfl
       rw[eq]
       simp[St,sx,h0,h1,h2,h8,h9]
      ·have hbt:(b&&decide (j ∉ tr))=false:=by
        cases hq:(b&&decide (j ∉ tr)) with
        | false=>rfl
        | true =>
         rw[Bool.and_eq_true,decide_eq_true_iff] at hq
         exact absurd ⟨hadj.1 hq.1,hq.2⟩ hj2
       rw[hbt] at h10
       have eq:S.aa (stE p zs x (v0::r) v0 j) p.length=S.aa (stE p zs x (v0::r) v0 (j+1)) p.length:=bW fun y _=>(E_ fun h=>hj2 ⟨h.1,(hmem j).1 h.2⟩).symm
       rw[eq] at h7
       simp only[sz,simprocAttr,gc,h10]
       simp[St,sx,h0,h1,h2,h7,h8,h9]
    ·rintro t df g ⟨rfl,h1,h2,h8,h7,-⟩ h0
     simp only[sz,simprocAttr,jY,h7]
     rw[hr,bW fun y _=>?_]
     rw[hr] at hTl
     rw[At hTl]
     constructor
     ·rintro (h | ⟨w,-,h⟩)
      ·exact .inl h
      ·exact .inr ⟨w,h⟩
     ·rintro (h | ⟨w,h2,h⟩)
      ·exact .inl h
      ·exact .inr ⟨w,h2.elim (fun h=>(hE _ _ h).2) fun h=>(hE _ _ h).1,h2,h⟩
   have st0:S.aa (stE p zs x (v0::r) v0 0) p.length=if zs.testBit v0 then 0 else 2 ^ v0:=by
    cases hzb:zs.testBit v0 with
    | true =>
     rw[if_pos rfl]
     refine kU ?_
     rintro y - (⟨-,h⟩ | ⟨w,h,-⟩)
     ·exact h hzb
     ·omega
    | false =>
     rw[if_neg (by decide)]
     refine C3 hv0l fun y=>⟨?_,fun h=>.inl ⟨h,fun h'=>by have h':zs.testBit v0=true:=h';rw[hzb] at h';cases h'⟩⟩
     rintro (⟨h,-⟩ | ⟨w,h,-⟩)
     ·exact h
     ·omega
   have hsh:aS .shl (.int .u64 1) (.int .u64 (v0:Int))=.val (.int .u64 ((2 ^ v0:Nat):Int)):=by rw[aI,cq (by omega)]
   have ww:IntKind.wrap .u64 (v0:Int)=(v0:Int):=bk (by omega) (by omega)
   cases hzb:zs.testBit v0 with
   | true =>
    rw[hzb] at kI st0
    simp only[sz,simprocAttr,eM,kO,wl,w1,rt,z0,q0,ci,kI]
    exact rest _ (by simp[St,sx,st0])
   | false =>
    rw[hzb] at kI st0
    simp only[sz,simprocAttr,eM,kO,wl,w1,rt,z0,q0,ci,kI,ww,hsh]
    exact rest _ (by simp[St,sx,st0])
end
end Hx
end
