/- A part of the proof: an interpreter over abstract values, shown right against the model, and what the functions of the chapter compute on it. -/
import Derived.OpenShut
import Derived.DataReads
import Derived.Test.YtfpjoiojhegfaaaDoorHx10
set_option linter.unusedVariables false
set_option linter.unusedSimpArgs false
set_option linter.unnecessarySimpa false
section
namespace Hx
open Go
noncomputable section
def S.aO (x:Nat):Nat:=(x / 2 ^ 1 &&& 6148914691236517205)+(x &&& 6148914691236517205)
def S.aQ (x:Nat):Nat:=(x / 2 ^ 2 &&& 3689348814741910323)+(x &&& 3689348814741910323)
def S.a7 (x:Nat):Nat:=(x / 2 ^ 4+x) &&& 1085102592571150095
theorem CO:∀x:Nat,x<256->S.aO x<256/\S.aQ (S.aO x)<256/\S.a7 (S.aQ (S.aO x))<256/\S.a7 (S.aQ (S.aO x))=S.ae x/\S.ae x &&& 127=S.ae x/\S.ae x<=8:=by decide +kernel
theorem De (q:Nat)(h:q<=8):aX .and (.int .i64 (q:Int)) (.int .i64 127)=.val (.int .i64 (q:Int)) :=
 match q,h with
 | 0,_=>by kernel_rfl
 | 1,_=>by kernel_rfl
 | 2,_=>by kernel_rfl
 | 3,_=>by kernel_rfl
 | 4,_=>by kernel_rfl
 | 5,_=>by kernel_rfl
 | 6,_=>by kernel_rfl
 | 7,_=>by kernel_rfl
 | 8,_=>by kernel_rfl
theorem AU {d x:Nat}{g:G}(hd:0<d)(hx:x<256):ay C0 d N.aI [.int .u64 (x:Int)] g=.val (.int .i64 (S.ae x:Int)):=by
 obtain ⟨h1,h2,h3,h4,h5,h6⟩:=CO x hx
 rw[gT]
 refine er iz (xs:=[.int .u64 (x:Int)]) (by simp only[aE,bL]) (by simp[cD]) hd ?_
 have s1:∀x:Nat,x<256->aX .shr (.int .u64 (x:Int)) (.int .u64 1)=.val (.int .u64 ((x / 2 ^ 1:Nat):Int)):=fun x h=>aQ .u64 x 1 (by omega)
 have s2:∀x:Nat,x<256->aX .shr (.int .u64 (x:Int)) (.int .u64 2)=.val (.int .u64 ((x / 2 ^ 2:Nat):Int)):=fun x h=>aQ .u64 x 2 (by omega)
 have s3:∀x:Nat,x<256->aX .shr (.int .u64 (x:Int)) (.int .u64 4)=.val (.int .u64 ((x / 2 ^ 4:Nat):Int)):=fun x h=>aQ .u64 x 4 (by omega)
 have s4:∀x:Nat,x<256->aX .shr (.int .u64 (x:Int)) (.int .u64 8)=.val (.int .u64 0):=fun x h=>by
  have:=aQ .u64 x 8 (by omega)
  rw[Nat.div_eq_of_lt (by omega)] at this;exact this
 have s5:∀x:Nat,x<256->aX .shr (.int .u64 (x:Int)) (.int .u64 16)=.val (.int .u64 0):=fun x h=>by
  have:=aQ .u64 x 16 (by omega)
  rw[Nat.div_eq_of_lt (by omega)] at this;exact this
 have s6:∀x:Nat,x<256->aX .shr (.int .u64 (x:Int)) (.int .u64 32)=.val (.int .u64 0):=fun x h=>by
  have:=aQ .u64 x 32 (by omega)
  rw[Nat.div_eq_of_lt (by omega)] at this;exact this
 have d1:∀x k:Nat,x<256->x / 2 ^ k<256:=fun x k h=>Nat.lt_of_le_of_lt (Nat.div_le_self _ _) h
 have a1:∀x:Nat,x<256->aX .and (.int .u64 (x:Int)) (.int .u64 6148914691236517205)=.val (.int .u64 ((x &&& 6148914691236517205:Nat):Int)):=fun x h=>bS x 6148914691236517205 (by omega) (by decide)
 have a2:∀x:Nat,x<256->aX .and (.int .u64 (x:Int)) (.int .u64 3689348814741910323)=.val (.int .u64 ((x &&& 3689348814741910323:Nat):Int)):=fun x h=>bS x 3689348814741910323 (by omega) (by decide)
 have a3:∀x:Nat,x<512->aX .and (.int .u64 (x:Int)) (.int .u64 1085102592571150095)=.val (.int .u64 ((x &&& 1085102592571150095:Nat):Int)):=fun x h=>bS x 1085102592571150095 (by omega) (by decide)
 have w1:IntKind.wrap .u64 (((x / 2 ^ 1 &&& 6148914691236517205:Nat):Int)+((x &&& 6148914691236517205:Nat):Int))=((S.aO x:Nat):Int):=by
  rw[S.aO] at h1
  rw[bo (by omega) (by omega),S.aO];omega
 obtain ⟨y,hy⟩:∃y,y=S.aO x:=⟨_,rfl⟩
 rw[<-hy] at h1 h2 h3 h4 w1
 have w2:IntKind.wrap .u64 (((y / 2 ^ 2 &&& 3689348814741910323:Nat):Int)+((y &&& 3689348814741910323:Nat):Int))=((S.aQ y:Nat):Int):=by
  rw[S.aQ] at h2
  rw[bo (by omega) (by omega),S.aQ];omega
 obtain ⟨z,hz⟩:∃z,z=S.aQ y:=⟨_,rfl⟩
 rw[<-hz] at h2 h3 h4 w2
 have hz4:=d1 z 4 h2
 have w3:IntKind.wrap .u64 (((z / 2 ^ 4:Nat):Int)+(z:Int))=((z / 2 ^ 4+z:Nat):Int):=by rw[bo (by omega) (by omega)];omega
 have a3z:=a3 (z / 2 ^ 4+z) (by omega)
 rw[show z / 2 ^ 4+z &&& 1085102592571150095=S.a7 z from rfl,h4] at a3z
 rw[h4] at h3
 have w4:IntKind.wrap .u64 ((S.ae x:Int)+0)=(S.ae x:Int):=by rw[bo (by omega) (by omega)];omega
 have w5:IntKind.wrap .i64 (S.ae x:Int)=(S.ae x:Int):=dR (by omega) (by omega)
 have a4:=De (S.ae x) h6
 simp only[sz,simprocAttr,cD,s1 x hx,a1 _ (d1 x 1 hx),a1 x hx,w1,s2 y h1,a2 _ (d1 y 2 h1),a2 y h1,w2,s3 z h2,w3,a3z,s4 _ h3,s5 _ h3,s6 _ h3,w4,w5,a4]
theorem DD {d x:Nat}{g:G}(hd:0<d)(hx:x<256):ay C0 d N.aw [.int .u64 (x:Int)] g=.val (.int .i64 (S.ae x:Int)):=by
 rw[it]
 refine er jq (xs:=[.int .u64 (x:Int)]) (by simp only[aE,bL]) (by simp[cW]) hd ?_
 have k:=fun g=>AU (d:=d+1) (g:=g) (Nat.succ_pos d) hx
 simp only[sz,simprocAttr,cW,k]
def SbV (s z:AV):VS:=fun P k h v=>∃p q,v=.clo N.ah [] [p,q]/\((∃id,p=.hptr id 0 0 0/\P id/\h.get id=.cells 1 [[s]] 0 false false)\/∃t,p=.tptr t 1 [[s]] 0 0/\t<=k)/\((∃id,q=.hptr id 0 0 0/\P id/\h.get id=.cells 1 [[z]] 0 false false)\/∃t,q=.tptr t 1 [[z]] 0 0/\t<=k)
theorem CV {s z:AV}{k1 k2:IntKind}{q1 q2:Int}(hs:s=.int k1 q1)(hz:z=.int k2 q2):Snb (SbV s z) 4:=by
 refine ⟨fun {P k h v j} d r hn=>?_,fun {k h v j} r hn=>?_⟩
 ·obtain ⟨p,q,rfl,r1,r2⟩:=r
  obtain ⟨j,rfl⟩:∃i,j=i+4:=⟨j - 4,by omega⟩
  have one:∀{s p:AV} {k1:IntKind} {q1:Int},s=.int k1 q1->((∃id,p=.hptr id 0 0 0/\P id/\h.get id=.cells 1 [[s]] 0 false false)\/∃t,p=.tptr t 1 [[s]] 0 0/\t<=k)->∃p',Hx.snap h d (j+3) p=some p'/\∃t,p'=.tptr t 1 [[s]] 0 0/\t<=max k d:=by
   intro s p k1 q1 hs r1
   rcases r1 with ⟨id,rfl,-,hg⟩ | ⟨t,rfl,ht⟩
   ·exact ⟨_,vG hs d j hg,_,rfl,by show max d 0<=_;omega⟩
   ·exact ⟨_,rfl,_,rfl,by omega⟩
  obtain ⟨p',e1,s1⟩:=one hs r1
  obtain ⟨q',e2,s2⟩:=one hz r2
  refine ⟨.clo N.ah [] [p',q'],?_,p',q',rfl,.inr s1,.inr s2⟩
  show (match aE (Hx.snap h d (j+3)) [],aE (Hx.snap h d (j+3)) [p,q] with | some as',some cs=>some (AV.clo N.ah as' cs) | _,_=>none)=_
  simp only[aE,e1,e2]
 ·obtain ⟨p,q,rfl,r1,r2⟩:=r
  obtain ⟨j,rfl⟩:∃i,j=i+4:=⟨j - 4,by omega⟩
  rcases r1 with ⟨id,rfl,hP,-⟩ | ⟨t,rfl,ht⟩
  ·exact hP.elim
  rcases r2 with ⟨id,rfl,hP,-⟩ | ⟨t2,rfl,ht2⟩
  ·exact hP.elim
  subst hs hz
  exact ⟨_,rfl,by show max t (max t2 0)<=k;omega⟩
def sbC (s:Nat)(z:Nat):AV:=.clo N.ah [] [.tptr 0 1 [[.int .u64 (s:Int)]] 0 0,.tptr 0 1 [[.int .i64 (z:Int)]] 0 0]
theorem uZ {d s z:Nat}{g:G}(hd:0<d):ay C0 d N.ax [.int .u64 (s:Int),.int .i64 (z:Int)] g=.val (sbC s z):=by
 have key:∃r,ay C0 d N.ax [.int .u64 (s:Int),.int .i64 (z:Int)] g=.val r/\SbV (.int .u64 (s:Int)) (.int .i64 (z:Int)) NoP 0 .nil r:=by
  rw[jx]
  refine gX kw (xs:=[.int .u64 (s:Int),.int .i64 (z:Int)]) rfl (by simp[dV]) (CV rfl rfl) (by decide) hd ?_
  simp only[sz,simprocAttr,dV,fu]
  exact ⟨fun _=>True,_,_,rfl,.inl ⟨0,rfl,trivial,by simp[sx,H.get_put]⟩,.inl ⟨1,rfl,trivial,by simp[sx,H.get_put]⟩⟩
 obtain ⟨r,h1,p,q,rfl,h2,h3⟩:=key
 rcases h2 with ⟨id,rfl,hP,-⟩ | ⟨t,rfl,ht⟩
 ·exact hP.elim
 rcases h3 with ⟨id,rfl,hP,-⟩ | ⟨t2,rfl,ht2⟩
 ·exact hP.elim
 rw[h1,show t=0 by omega,show t2=0 by omega];rfl
theorem zy {s a:Nat}(hs:s<256)(ha:a<=s):IntKind.wrap .u64 ((a:Int) - (s:Int))=(((a+(18446744073709551616 - s)) % 18446744073709551616:Nat):Int):=by
 show ((a:Int) - (s:Int)) % 18446744073709551616=_
 omega
theorem uj {C:Cfg}{t:T}{g:G}{a id:Nat}{xs:List Od}(h:tat t a=.yld id):SO.foot C t g (.dyn (.t a) xs)=bm:=by
 show (match tat t a with
  | .clo f first cap=>af ((C.ext f).isSome || C.iso f) (ak ((first++(eN t xs++cap)).flatMap (aw g.h aA))) bm
  | _=>bm)=_
 rw[h]
theorem BP {d id s z:Nat}{g0:G}{K:AV->G->Prop}(hd:0<d)(hs:s<256)(J:Nat->H->Prop)(E:G->Prop)
  (skip:∀(j a:Nat) (h:H),(S.ay s)[j]?=some a->S.ae a≠z->J j h->J (j+1) h)
  (step:∀(j a:Nat) (g:G) (K':AV->G->Prop) (D:ADf->Prop),(S.ay s)[j]?=some a->S.ae a=z->g0.nx<=g.nx->J j g.h ->
   (∀g',J (j+1) g'.h->g.nx<=g'.nx->K' (.bool true) g')->(∀g',E g'->g.nx<=g'.nx->K' (.bool false) g')->(bY (I C0) d id [.int .u64 (a:Int)] g).sat K' g D)
  (hE:∀g g':G,E g->g.nx<=g'.nx->g'.h=g.h->E g')
  (h0:J 0 g0.h) (fin:∀g',J (S.ay s).length g'.h->g0.nx<=g'.nx->K (.tup []) g') (finE:∀g',E g'->g0.nx<=g'.nx->K (.tup []) g') :
  wp C0 d none a7.code (fnQ C0 d a7.res K) (bu 0 [.yld id,.tptr 0 1 [[.int .u64 (s:Int)]] 0 0,.tptr 0 1 [[.int .i64 (z:Int)]] 0 0] .nil) [] g0:=by
 obtain ⟨hch,hc0⟩:=uH s hs
 simp only[sz,simprocAttr,a7]
 refine mU (fun n t df g=>df=[]/\∃j a:Nat,n=(S.ay s).length - j/\(S.ay s)[j]?=some a/\St t [(0,.yld id),(1,.tptr 0 1 [[.int .u64 (s:Int)]] 0 0),(2,.tptr 0 1 [[.int .i64 (z:Int)]] 0 0),(4,.int .u64 (a:Int))]/\J j g.h/\g0.nx<=g.nx) (S.ay s).length
  ⟨rfl,0,0,by omega,hc0,by simp[St,sx],h0,Nat.le_refl _⟩ ?_
 rintro n t df g ⟨rfl,j,a,rfl,hja,⟨t0,t1,t2,t4,-⟩,hJ,hn⟩
 have hjl:=(List.getElem?_eq_some_iff.1 hja).1
 obtain ⟨c1,c2⟩:=sW hch j a hja
 have ham:=(mB hs).1 (List.mem_of_getElem? hja)
 have has:a<=s:=by rw[<-ham];exact Nat.and_le_right
 have kO:=fun g=>DD (d:=d) (x:=a) (g:=g) hd (by omega)
 have hsub:=zy hs has
 have hand:=bS ((a+(18446744073709551616 - s)) % 18446744073709551616) s (Nat.mod_lt _ (by decide)) (by omega)
 rw[show (a+(18446744073709551616 - s)) % 18446744073709551616 &&& s=S.aT s a from rfl] at hand
 have hnx:=c2
 rw[show (S.ay s).length - j=(S.ay s).length - (j+1)+1 by omega]
 simp only[dW]
 by_cases hp:S.ae a=z
 ·have e:((S.ae a:Nat):Int)=(z:Int):=by omega
  simp only[sz,simprocAttr,sf,t0,t1,t2,t4,kO,eR,e,dY]
  refine step j a _ _ _ hja hp (by simp;omega) (by simpa using hJ) ?_ ?_
  ·intro g' hJ' hn'
   simp only[sz,simprocAttr,sf,t0,t1,t2,t4,eR]
   rw[uj (id:=id) (by simp[sx])]
   refine ⟨?_,?_⟩
   ·simp only[List.reverse_cons,List.reverse_nil,List.nil_append,List.cons_append]
    exact cY [false,false,false,false,false,false,false,true,false,false] [] (by simp[All2,ak,aK,bm]) (by decide) (by simp)
   by_cases es:a=s
   ·have e':(a:Int)=(s:Int):=by omega
    simp only[sz,simprocAttr,e']
    refine fin _ ?_ ?_
    ·rw[<-c1.1 es];simpa using hJ'
    ·simp at hn' ⊢;omega
   ·have e':¬(a:Int)=(s:Int):=by omega
    simp only[sz,simprocAttr,t4,t1,eR,e',hsub,hand]
    refine ⟨_,by omega,j+1,S.aT s a,rfl,c2 es,by simp[St,sx,t0,t1,t2],by simpa using hJ',by simp at hn' ⊢;omega⟩
  ·intro g' hE' hn'
   simp only[sz,simprocAttr,sf,t0,t1,t2,t4,eR]
   rw[uj (id:=id) (by simp[sx])]
   refine ⟨?_,?_⟩
   ·simp only[List.reverse_cons,List.reverse_nil,List.nil_append,List.cons_append]
    exact cY [false,false,false,false,false,false,false,true,false,false] [] (by simp[All2,ak,aK,bm]) (by decide) (by simp)
   refine finE _ (hE g' _ hE' ?_ ?_) ?_
   ·simp;omega
   ·simp
   ·simp at hn' ⊢;omega
 ·have e:¬((S.ae a:Nat):Int)=(z:Int):=by omega
  simp only[sz,simprocAttr,sf,t0,t1,t2,t4,kO,eR,e,dY]
  refine ⟨?_,?_⟩
  ·simp only[List.reverse_cons,List.reverse_nil,List.nil_append,List.cons_append]
   exact cY [false,false,false,false,false,false,false,false,false,false] [] (by simp[All2,ak,aK]) (by decide) (by simp)
  by_cases es:a=s
  ·have e':(a:Int)=(s:Int):=by omega
   simp only[sz,simprocAttr,e']
   refine fin _ ?_ (by simp;omega)
   rw[<-c1.1 es]
   simpa using skip j a _ hja hp hJ
  ·have e':¬(a:Int)=(s:Int):=by omega
   simp only[sz,simprocAttr,t4,t1,eR,e',hsub,hand]
   exact ⟨_,by omega,j+1,S.aT s a,rfl,c2 es,by simp[St,sx,t0,t1,t2],by simpa using skip j a _ hja hp hJ,by first | omega | (simp;omega)⟩
theorem xF:C0.ext N.ah=none:=by kernel_rfl
theorem Bm {d nt y p s z:Nat}{ca cb:SC}{Q:QT}{t:T}{df:List ADf}{g:G}(hd:0<d)(hs:s<256)(hv:tat t y=sbC s z)(hp:p<nt)
  (J:Nat->H->Prop) (E:H->Prop) (hJ:∀j h h',(∀i,i<g.nx->h'.get i=h.get i)->J j h->J j h') (hE:∀h h',(∀i,i<g.nx->h'.get i=h.get i)->E h->E h') (h0:J 0 g.h)
  (skip:∀(j a:Nat) (h:H),(S.ay s)[j]?=some a->S.ae a≠z->J j h->J (j+1) h)
  (step:∀(j a:Nat) (g1:G),(S.ay s)[j]?=some a->S.ae a=z->J j g1.h->g.nx+2<=g1.nx ->
   wp C0 d (some (g.nx+1)) ca (fun e t1 df g1'=>e=.norm/\df=[]/\Fr g1 g1'/\∀g2:G,g2.nx=g1'.nx->(∀i,i≠g.nx+1->g2.h.get i=g1'.h.get i) ->
    wp C0 d (some (g.nx+1)) cb (fun e _ df g3=>df=[]/\RowQ g.nx g2 g3 e (J (j+1) g3.h) (E g3.h)) t1 [] g2)
    (cN t p (.int .u64 (a:Int))) [] g1)
  (fin:∀g',J (S.ay s).length g'.h->g.nx+2<=g'.nx->g'.h.get g.nx=.dfr true->Q .norm t (.mark g.nx::df) g')
  (finE:∀g',E g'.h->g.nx+2<=g'.nx->g'.h.get g.nx=.dfr true->Q .ret t (.mark g.nx::df) g') :
  wp C0 d none (.rng nt (.t y) [p] ca cb) Q t df g:=by
 refine pi (fn:=N.ah) (first:=[]) (cap:=[.tptr 0 1 [[.int .u64 (s:Int)]] 0 0,.tptr 0 1 [[.int .i64 (z:Int)]] 0 0]) (s:=a7) hv xF js (by simp[a7]) ?_
 intro assign body ha hb
 have e1:((g.new (.dfr true)).new (.loop nt t [p] assign body g.nx .ready none)).nx=g.nx+2:=by simp
 refine BP (g0:=(g.new (.dfr true)).new (.loop nt t [p] assign body g.nx .ready none)) (id:=g.nx+1) hd hs
  (fun j h=>J j h/\h.get g.nx=.dfr true/\h.get (g.nx+1)=.loop nt t [p] assign body g.nx .ready none)
  (fun g'=>E g'.h/\g'.h.get g.nx=.dfr true/\g'.h.get (g.nx+1)=.loop nt t [p] assign body g.nx .done (some .ret)/\g.nx+2<=g'.nx) ?_ ?_ ?_ ?_ ?_ ?_
 ·rintro j a h hj hm ⟨a1,a2,a3⟩
  exact ⟨skip j a h hj hm a1,a2,a3⟩
 ·rintro j a g1 K' D hj hm hn ⟨a1,a2,a3⟩ kk kE
  rw[e1] at hn
  refine x7 a3 ha hb (t':=cN t p (.int .u64 (a:Int))) ?_ ?_
  ·simp only[cg,aa,Nat.blt_eq,if_pos hp];rfl
  ·refine cQ _ (step j a g1 hj hm a1 (by omega)) ?_
   rintro e t1 df g1' ⟨rfl,rfl,hfr,h⟩
   have hl0:g.nx+1<g1.nx:=by omega
   have hl:g.nx+1<g1'.nx:=Nat.lt_of_lt_of_le hl0 hfr.1
   have a2':g1'.h.get g.nx=.dfr true:=by rw[hfr.2 _ (by omega),a2]
   have a3':g1'.h.get (g.nx+1)=.loop nt t [p] assign body g.nx .ready none:=by rw[hfr.2 _ hl0,a3]
   refine ⟨rfl,rfl,a3',?_⟩
   refine cQ _ (h (g1'.put (g.nx+1) (.loop nt t [p] assign body g.nx .busy none)) (by simp) (fun i hi=>by simp[H.get_put,hi])) ?_
   rintro e t2 df g3 ⟨rfl,⟨b2,b3,b1⟩⟩
   have b4:g3.h.get (g.nx+1)=.loop nt t [p] assign body g.nx .busy none:=by rw[b3 _ (by omega) (by simpa using hl)];simp[H.get_put]
   have b5:g3.h.get g.nx=.dfr true:=by
    rw[b3 _ (by omega) (by simp;omega)];simp[H.get_put,a2']
   refine ⟨rfl,b4,?_⟩
   have b2':g1'.nx<=g3.nx:=by simpa using b2
   have hf1:=hfr.1
   rcases b1 with ⟨rfl,b1⟩ | ⟨rfl,b1⟩
   ·refine .inl ⟨rfl,kk _ ⟨hJ _ g3.h _ (fun i hi=>by simp[H.get_put,show ¬i=g.nx+1 by omega]) b1,?_,?_⟩ (by simp;omega)⟩
    ·simp[H.get_put,b5]
    ·simp[H.get_put]
   ·refine .inr ⟨rfl,kE _ ⟨hE g3.h _ (fun i hi=>by simp[H.get_put,show ¬i=g.nx+1 by omega]) b1,?_,?_,?_⟩ ?_⟩
    ·simp[H.get_put,b5]
    ·simp[H.get_put]
    ·simp;omega
    ·simp;omega
 ·rintro g1 g2 ⟨a1,a2,a3,a4⟩ hn hh
  exact ⟨by rw[hh];exact a1,by rw[hh];exact a2,by rw[hh];exact a3,by omega⟩
 ·refine ⟨hJ 0 g.h _ (fun i hi=>?_) h0,?_,?_⟩
  ·simp[H.get_put,show ¬i=g.nx+1 by omega,show ¬i=g.nx by omega]
  ·simp[H.get_put]
  ·simp[H.get_put]
 ·rintro g' ⟨a1,a2,a3⟩ hn
  rw[e1] at hn
  refine ⟨_,_,_,_,_,_,.inl ⟨a3,fin _ (hJ _ g'.h _ (fun i hi=>by simp[H.get_put,show ¬i=g.nx+1 by omega]) a1) (by simpa using hn) ?_⟩⟩
  simp[H.get_put,a2]
 ·rintro g' ⟨a1,a2,a3,hn⟩ -
  refine ⟨_,_,_,_,_,_,.inr ⟨a3,finE _ (hE g'.h _ (fun i hi=>by simp[H.get_put,show ¬i=g.nx+1 by omega]) a1) (by simpa using hn) ?_⟩⟩
  simp[H.get_put,a2]
def S.aA (n:Nat)(x y:Int)(zs:Nat):Bool:=decide (0<=x)&&decide (x<n)&&decide (0<=y)&&decide (y<n)&&S.am n [2 ^ x.toNat,2 ^ y.toNat,zs] 0
theorem Dd {d:Nat}{g:G}{v:AV}{p c:List Nat}{x y:Int}{zs:Nat}(hd:0<d)(hm:Agg ((p,c):List Nat×List Nat) NoP 0 g.h v)(n8:p.length<=8)(hz:zs<18446744073709551616) :
  ay C0 d N.ay [v,.int .i64 x,.int .i64 y,.int .u64 (zs:Int)] g=.val (.bool (S.aA p.length x y zs)):=by
 have e0:=mq d hm
 have hm':∀h',Agg ((p,c):List Nat×List Nat) NoP 0 h' v:=fun h'=>pt hm
 obtain ⟨cs,rfl,hcs⟩:=hm
 obtain ⟨_,_,rfl,ha,hb⟩:=eL.1 hcs
 obtain ⟨pa,rfl,hpa⟩:=aY.1 ha
 obtain ⟨ch,rfl,hch⟩:=aY.1 hb
 have hpa:SlR NoP 0 .nil p pa:=hpa.tree (Nat.le_refl 0)
 have lp:=hpa.len
 have lg1:aB (.cells 2 [[pa,ch]] 0 false false) 0 0 false 1 0=.val pa:=rfl
 have lL:aB (.cells 2 [[pa,ch]] 0 false false) 0 0 true 2 0=.val (.agg [pa,ch]):=rfl
 rw[List.cons_append,List.nil_append] at e0 hm' ⊢
 rw[im]
 refine ef jt (xs:=[.agg [pa,ch],.int .i64 x,.int .i64 y,.int .u64 (zs:Int)]) (by simp only[aE,e0,bL]) (by simp[aV]) hd ?_
 by_cases c1:x<0
 ·have hS:S.aA p.length x y zs=false:=by simp[S.aA];omega
  simp only[sz,simprocAttr,aV,aW,c1,hS]
 by_cases c2:(p.length:Int)<=x
 ·have hS:S.aA p.length x y zs=false:=by simp[S.aA];omega
  simp only[sz,simprocAttr,aV,aW,c1,c2,lg1,lp,hS]
 by_cases c3:y<0
 ·have hS:S.aA p.length x y zs=false:=by simp[S.aA];omega
  simp only[sz,simprocAttr,aV,aW,c1,c2,c3,lg1,lp,hS]
 by_cases c4:(p.length:Int)<=y
 ·have hS:S.aA p.length x y zs=false:=by simp[S.aA];omega
  simp only[sz,simprocAttr,aV,aW,c1,c2,c3,c4,lg1,lp,hS]
 obtain ⟨a,rfl⟩:=Int.eq_ofNat_of_zero_le (show 0<=x by omega)
 obtain ⟨b,rfl⟩:=Int.eq_ofNat_of_zero_le (show 0<=y by omega)
 have hS:S.aA p.length (a:Int) (b:Int) zs=S.am p.length [2 ^ a,2 ^ b,zs] 0:=by
  rw[S.aA,decide_eq_true (show (0:Int)<=(a:Int) by omega),decide_eq_true (show (0:Int)<=(b:Int) by omega),decide_eq_true (show (a:Int)<(p.length:Int) by omega),decide_eq_true (show (b:Int)<(p.length:Int) by omega)]
  rfl
 have s1:aX .shl (.int .u64 1) (.int .i64 (a:Int))=.val (.int .u64 ((2 ^ a:Nat):Int)):=by rw[aL,cy (by omega)]
 have s2:aX .shl (.int .u64 1) (.int .i64 (b:Int))=.val (.int .u64 ((2 ^ b:Nat):Int)):=by rw[aL,cy (by omega)]
 have la:(2:Nat) ^ a<=2 ^ 8:=Nat.pow_le_pow_right (by decide) (by omega)
 have lb:(2:Nat) ^ b<=2 ^ 8:=Nat.pow_le_pow_right (by decide) (by omega)
 obtain ⟨A,hA⟩:∃A,A=2 ^ a:=⟨_,rfl⟩
 obtain ⟨B,hB⟩:∃B,B=2 ^ b:=⟨_,rfl⟩
 rw[<-hA] at la s1 hS
 rw[<-hB] at lb s2 hS
 clear hA hB
 have kD:∀(g:G) (id:Nat),g.h.get id=.cells 1 [[.int .u64 (A:Int)],[.int .u64 (B:Int)],[.int .u64 (zs:Int)]] 0 false false->id<g.nx->ay C0 (d+1) N.ak [.agg [pa,ch],.hsl id 0 0 3 none] g=.val (.bool (S.am p.length [A,B,zs] 0)) :=
  fun g id h hn=>Bq (Nat.succ_pos d) (hm' g.h) (DC (l:=[A,B,zs]) h hn (by simp) (by simp;omega)) n8
 have key:∀(t:T) (g:G),St t [(1,.int .i64 (a:Int)),(2,.int .i64 (b:Int)),(3,.int .u64 (zs:Int)),(4,.hptr 0 0 0 0)]->g.h.get 0=.cells 2 [[pa,ch]] 0 false false->1<=g.nx ->
   wp C0 (d+1) none (.seq (.feet [0,0,2,0,8,0,62,127,255] [o 31 (.load true 2 (.t 4)),oM 32 1,o 33 (.bin .shl (.k (.int .u64 1)) (.t 32)),oM 34 2,o 35 (.bin .shl (.k (.int .u64 1)) (.t 34)),oM 36 3,o 37 (.bsl 1 3 [.int .u64 0] [0,1,2] [.t 33,.t 35,.t 36]),o 38 (.call N.ak [.t 31,.t 37]),oM 8 38]) (.ret)) (fnQ C0 (d+1) [SR.tm 8] fun v _=>v=AV.bool (S.am p.length [A,B,zs] 0)) t [] g:=by
  rintro t g ⟨t1,t2,t3,t4,-⟩ g0 hn
  simp only[sz,simprocAttr,sf,t1,t2,t3,t4,g0,lL,s1,s2,xN]
  rw[kD _ _ (by simp[H.get_put]) (by simp)]
  simp only[sz,simprocAttr,sf,fK]
  simp only[List.reverse_cons,List.reverse_nil,List.nil_append,List.cons_append]
  refine cY [false,false,false,false,false,false,true,false,false] [(0,6)] (by simp[All2,ak,aK]) (by decide) ?_
  rintro p hp x y hx hy
  simp only[List.mem_cons,List.not_mem_nil,or_false] at hp
  subst hp
  simp at hx hy
  subst hx;subst hy
  refine tK rfl rfl rfl rfl ?_ ?_ ?_<;>simp[ak,aK,ae]<;>omega
 rw[hS]
 simp only[sz,simprocAttr,aV]
 unfold aW
 refine rI (P:=fun t' df' g'=>df'=[]/\St t' [(1,.int .i64 (a:Int)),(2,.int .i64 (b:Int)),(3,.int .u64 (zs:Int)),(4,.hptr 0 0 0 0)]/\g'.h.get 0=.cells 2 [[pa,ch]] 0 false false/\1<=g'.nx) ?_ ?_
 ·simp only[sz,simprocAttr,c1,c2,c3,c4,lg1,lp]
  simp[St,sx]
 rintro t df g' ⟨rfl,ht,g0,hn⟩
 exact key t g' ht g0 hn
theorem ny {C:Cfg}{d:Nat}:∀(ms:List Nat) (g:G),ms.Nodup->(∀m∈ms,g.h.get m=.dfr true)->∃g',cp (I C) d (ms.map ADf.mark) g=some g'/\g'.nx=g.nx/\∀i,i ∉ ms->g'.h.get i=g.h.get i
 | [],g,_,_=>⟨g,rfl,rfl,fun _ _=>rfl⟩
 | m::ms,g,hn,hm=>by
  obtain ⟨h1,h2⟩:=List.nodup_cons.1 hn
  have hg:=hm m (by simp)
  obtain ⟨g',e,n',f'⟩:=ny (C:=C) (d:=d) ms (g.put m (.dfr false)) h2 fun k hk=>by
   have hkm:¬k=m:=fun e=>h1 (e ▸ hk)
   simp[H.get_put,hkm,hm k (by simp[hk])]
  refine ⟨g',?_,by rw[n'];simp,fun i hi=>?_⟩
  ·rw[<-e,List.map_cons]
   simp only[cp,G.get_eq,hg]
  ·simp only[List.mem_cons,not_or] at hi
   rw[f' i hi.2]
   simp[H.get_put,hi.1]
theorem oE {C:Cfg}{d:Nat}{r:List SR}{t:T}{g:G}{K:AV->G->Prop}{ms:List Nat}(hn:ms.Nodup)(hm:∀m∈ms,g.h.get m=.dfr true)(h:∀g':G,(∀i,i ∉ ms->g'.h.get i=g.h.get i)->lj r t g' fun vs=>K (cX vs) g'):jG C d r t (ms.map .mark) g K:=by
 obtain ⟨g',e,-,f⟩:=ny (C:=C) (d:=d) ms g hn hm
 unfold jG
 rw[e]
 exact h g' f
theorem vp {n a b s:Nat}:s &&& ((2 ^ n - 1) ^^^ ((2 ^ n - 1) &&& (2 ^ a ||| 2 ^ b)))=s↔s<2 ^ n/\s &&& (2 ^ a ||| 2 ^ b)=0:=by
 have k:∀i,((2 ^ n - 1) ^^^ ((2 ^ n - 1) &&& (2 ^ a ||| 2 ^ b))).testBit i=true↔i<n/\¬Bt (2 ^ a ||| 2 ^ b) i:=fun i=>by
  have:=BQ (a:=2 ^ n - 1) (b:=2 ^ a ||| 2 ^ b) (v:=i)
  rw[show Bt (2 ^ n - 1) i↔i<n by rw[Bt,Nat.testBit_two_pow_sub_one,decide_eq_true_iff]] at this
  exact this
 constructor
 ·intro h
  have hb:∀i,s.testBit i=true->i<n/\¬Bt (2 ^ a ||| 2 ^ b) i:=fun i hi=>by
   rw[<-h,Nat.testBit_and,Bool.and_eq_true] at hi
   exact (k i).1 hi.2
  refine ⟨Nat.lt_pow_two_of_testBit _ fun i hi=>?_,zm.2 fun i h=>(hb i h.1).2 h.2⟩
  rw[<-Bool.not_eq_true]
  intro h'
  have:=(hb i h').1
  omega
 ·rintro ⟨h1,h2⟩
  refine Nat.eq_of_testBit_eq fun i=>?_
  rw[Nat.testBit_and]
  cases hi:s.testBit i with
  | false=>rfl
  | true =>
   rw[(k i).2 ⟨kG h1 hi,fun h'=>zm.1 h2 i ⟨hi,h'⟩⟩];rfl
theorem A3 {p:List Nat}{x b z:Nat}:Apt p x (2 ^ b) z↔¬Re (Eg p) (Bt z) (Bt x) b:=by
 constructor
 ·intro h
  refine h b ?_
  rw[Bt,Nat.testBit_two_pow,decide_eq_true_iff]
 ·intro h v hv
  rw[Bt,Nat.testBit_two_pow,decide_eq_true_iff] at hv
  subst hv
  exact h
theorem B8 {p:List Nat}{x b z:Nat}(hb:b<p.length):(S.az p x z).testBit b=false↔Apt p x (2 ^ b) z:=by
 rw[A3,<-Bool.not_eq_true]
 refine not_congr ?_
 rw[S.az,eJ]
 exact ⟨fun h=>h.2,fun h=>⟨hb,h⟩⟩
def S.ah (p:List Nat)(x y:Int):Nat×Int:=if S.aB p then (if S.aA p.length x y 0 then (if (S.ax p x.toNat y.toNat).2 then ((S.ax p x.toNat y.toNat).1,0) else (0,4)) else (0,2)) else (0,70)
def LLe (n:Nat):List (Nat×AV):=[(4,.hptr 0 0 0 0),(5,.hptr 1 0 0 0),(6,.hptr 2 0 0 0),(7,.hptr 3 0 0 0),(8,.hptr 4 0 0 0)]
structure LeB (a b:Nat) (pa ch:AV) (r e:AV) (ms:List Nat) (h:H):Prop where
 x:h.get 0=.cells 1 [[.int .i64 (a:Int)]] 0 false false
 y:h.get 1=.cells 1 [[.int .i64 (b:Int)]] 0 false false
 r:h.get 2=.cells 1 [[r]] 0 false false
 e:h.get 3=.cells 1 [[e]] 0 false false
 g:h.get 4=.cells 2 [[pa,ch]] 0 false false
 m:∀m∈ms,h.get m=.dfr true
theorem LeB.fr {a b:Nat}{pa ch r e:AV}{ms:List Nat}{h h':H}{n:Nat}(hb:LeB a b pa ch r e ms h)(h5:5<=n)(hm:∀m∈ms,m<n)(hf:∀i,i<n->h'.get i=h.get i):LeB a b pa ch r e ms h' :=
 ⟨by rw[hf 0 (by omega),hb.x],by rw[hf 1 (by omega),hb.y],by rw[hf 2 (by omega),hb.r],by rw[hf 3 (by omega),hb.e],by rw[hf 4 (by omega),hb.g],fun m hm'=>by rw[hf m (hm m hm'),hb.m m hm']⟩
theorem zk {d a b O:Nat}{Q:QT}{t:T}{g:G}{pa ch:AV}{p:List Nat}(hd:0<d)(hG:GOk p)(hm:∀h,Agg ((p,S.aH p):List Nat×List Nat) NoP 0 h (.agg [pa,ch]))(ha:a<p.length)(hb:b<p.length)
  (hO:O<256) (hOi:∀s,s &&& O=s↔s<2 ^ p.length/\s &&& (2 ^ a ||| 2 ^ b)=0)
  (hB:LeB a b pa ch (.int .u64 0) (.int .i64 0) [] g.h) (hn:5<=g.nx) (ht:St t ((10,.int .u64 (O:Int))::LLe 0)) (h42:tat t 42=.int .i64 0) (h41:tat t 41=.int .i64 (p.length:Int))
  (fin:∀t g' ms,St t (LLe 0)->ms.Nodup->LeB a b pa ch (.int .u64 0) (.int .i64 0) ms g'.h->(∀s,nI p a b s->p.length<=S.ae s)->Q (.exit 0) t (ms.map .mark) g')
  (finE:∀t g' ms (s:Nat),St t (LLe 0)->ms.Nodup->LeB a b pa ch (.int .u64 (s:Int)) (.int .i64 0) ms g'.h->LsP p a b s->Q .ret t (ms.map .mark) g'):wpL (wp C0 d none dx) Q t [] g:=by
 have n8:=hG.l8
 have h256:=jr n8
 simp only[dx,fM]
 refine dX (m:=p.length) (by omega) (fun j t df g'=>∃ms:List Nat,df=ms.map .mark/\ms.Nodup/\(∀m∈ms,m<g'.nx)/\5<=g'.nx/\St t ((10,.int .u64 (O:Int))::LLe 0)/\LeB a b pa ch (.int .u64 0) (.int .i64 0) ms g'.h/\∀s,nI p a b s->j<=S.ae s)
  ⟨[],rfl,.nil,by simp,hn,ht,hB,fun _ _=>Nat.zero_le _⟩ h42 h41 (by decide)
  (by rintro j t df g v s (rfl | rfl | rfl) ⟨ms,a1,a2,a3,a4,⟨b1,b2,b3,b4,b5,b6,-⟩,c⟩<;>exact ⟨ms,a1,a2,a3,a4,by simp[St,LLe,sx,b1,b2,b3,b4,b5,b6],c⟩) ?_ ?_
 ·rintro j t df g1 hj ⟨ms,rfl,hnd,hml,hn1,⟨h10,h4,h5,h6,h7,h8,-⟩,hB,hlow⟩ h42 h41
  have kS:=fun g=>uZ (d:=d) (s:=O) (z:=j) (g:=g) hd
  simp only[sz,simprocAttr,h10,h42,kS]
  refine Bm (s:=O) (z:=j) hd hO (by simp[sx]) (by decide)
   (fun i h=>LeB a b pa ch (.int .u64 0) (.int .i64 0) ms h/\∀i' s,i'<i->(S.ay O)[i']?=some s->S.ae s=j->¬Apt p (2 ^ a) (2 ^ b) s)
   (fun h=>∃s:Nat,LeB a b pa ch (.int .u64 (s:Int)) (.int .i64 0) ms h/\LsP p a b s) ?_ ?_ ⟨hB,fun i' s h=>absurd h (Nat.not_lt_zero _)⟩ ?_ ?_ ?_ ?_
  ·rintro i h h' hh ⟨a1,a2⟩
   exact ⟨a1.fr hn1 hml hh,a2⟩
  ·rintro h h' hh ⟨s,a1,a2⟩
   exact ⟨s,a1.fr hn1 hml hh,a2⟩
  ·rintro i s h hi hp ⟨a1,a2⟩
   refine ⟨a1,fun i' s' hi' hs' hp'=>?_⟩
   by_cases e:i'=i
   ·subst e
    rw[hi] at hs';injection hs' with hs'
    subst hs';exact absurd hp' hp
   ·exact a2 i' s' (by omega) hs' hp'
  ·rintro i s g2 hi hp ⟨a1,a2⟩ hn2
   have hsO:=(hOi s).1 ((mB hO).1 (List.mem_of_getElem? hi))
   have hA:(2:Nat) ^ a<2 ^ p.length:=Nat.pow_lt_pow_right (by decide) ha
   simp only[sz,simprocAttr,fQ]
   refine ⟨Fr.refl _,fun g3 hn3 hf3=>?_⟩
   have hB3:LeB a b pa ch (.int .u64 0) (.int .i64 0) ms g3.h:=a1.fr (n:=g1.nx) hn1 hml fun i hi=>hf3 i (by omega)
   obtain ⟨A,hAe⟩:∃A,A=2 ^ a:=⟨_,rfl⟩
   have s1:aX .shl (.int .u64 1) (.int .i64 (a:Int))=.val (.int .u64 (A:Int)):=by rw[aL,cy (by omega),hAe]
   have kR:=fun g:G=>yP (d:=d) (g:=g) (xs:=2 ^ a) (zs:=s) hd (hm g.h) hG.hp hG.l1 n8 (B0 hG.hp) hA hsO.1
   rw[<-hAe] at kR
   have hR:S.az p A s<2 ^ p.length:=hK _ _
   have hR':S.az p A s<18446744073709551616:=by omega
   have lx:aB (.cells 1 [[.int .i64 (a:Int)]] 0 false false) 0 0 false 1 0=.val (.int .i64 (a:Int)):=rfl
   have ly:aB (.cells 1 [[.int .i64 (b:Int)]] 0 false false) 0 0 false 1 0=.val (.int .i64 (b:Int)):=rfl
   have lg:aB (.cells 2 [[pa,ch]] 0 false false) 0 0 true 2 0=.val (.agg [pa,ch]):=rfl
   have hbit:=B8 (p:=p) (x:=A) (z:=s) hb
   cases hbv:(S.az p A s).testBit b with
   | true =>
    have hna:¬Apt p (2 ^ a) (2 ^ b) s:=fun h=>by rw[<-hAe,<-hbit,hbv] at h;cases h
    simp only[sz,simprocAttr,dv,h4,h5,h8,hB3.x,hB3.y,hB3.g,lx,ly,lg,s1,kR,aQ _ _ _ hR',mV hR',mw,hbv]
    refine ⟨Nat.le_refl _,fun _ _ _=>rfl,.inl ⟨rfl,hB3,fun i' s' hi' hs' hp'=>?_⟩⟩
    by_cases e:i'=i
    ·subst e
     rw[hi] at hs';injection hs' with hs'
     subst hs';exact hna
    ·exact a2 i' s' (by omega) hs' hp'
   | false =>
    have hap:Apt p (2 ^ a) (2 ^ b) s:=by rw[<-hAe];exact hbit.1 hbv
    simp only[sz,simprocAttr,dv,h4,h5,h6,h7,h8,hB3.x,hB3.y,hB3.g,hB3.r,hB3.e,lx,ly,lg,s1,kR,aQ _ _ _ hR',mV hR',mw,hbv]
    have hmb:∀m∈ms,m≠2/\m≠3:=fun m hm'=>⟨fun e=>(by have:=hB3.m m hm';rw[e,hB3.r] at this;cases this),fun e=>(by have:=hB3.m m hm';rw[e,hB3.e] at this;cases this)⟩
    refine ⟨by simp,fun i h1 h2=>?_,.inr ⟨rfl,s,⟨?_,?_,?_,?_,?_,fun m hm'=>?_⟩,⟨hsO.1,hsO.2,hap⟩,by omega,fun s' hs'=>?_⟩⟩
    ·simp[H.get_put,show ¬i=2 by omega,show ¬i=3 by omega]
    ·simp[H.get_put,hB3.x]
    ·simp[H.get_put,hB3.y]
    ·simp[H.get_put]
    ·simp[H.get_put]
    ·simp[H.get_put,hB3.g]
    ·simp[H.get_put,(hmb m hm').1,(hmb m hm').2,hB3.m m hm']
    ·have h1:=hlow s' hs'
     rw[hp]
     rcases Nat.eq_or_lt_of_le h1 with h2 | h2
     ·refine .inr ⟨h2,?_⟩
      rcases Nat.lt_or_ge s' s with h3 | h3
      ·exfalso
       obtain ⟨i',hi',e⟩:=List.mem_iff_getElem.1 ((mB hO).2 ((hOi s').2 ⟨hs'.1,hs'.2.1⟩))
       have hs2:(S.ay O)[i']?=some s':=by rw[List.getElem?_eq_getElem hi',e]
       exact a2 i' s' (B1 hs2 hi h3) hs2 h2.symm hs'.2.2
      ·exact h3
     ·exact .inl h2
  ·rintro g' ⟨a1,a2⟩ hn' hdf
   simp only[sz,simprocAttr]
   refine ⟨⟨g1.nx::ms,rfl,List.nodup_cons.2 ⟨fun h=>absurd (hml _ h) (Nat.lt_irrefl _),hnd⟩,?_,by omega,by simp[St,LLe,sx,h4,h5,h6,h7,h8,h10],⟨a1.x,a1.y,a1.r,a1.e,a1.g,?_⟩,fun s hs=>?_⟩,h42,h41⟩
   ·intro m hm'
    rcases List.mem_cons.1 hm' with rfl | h
    ·omega
    ·have:=hml m h;omega
   ·intro m hm'
    rcases List.mem_cons.1 hm' with rfl | h
    ·exact hdf
    ·exact a1.m m h
   ·have h1:=hlow s hs
    rcases Nat.eq_or_lt_of_le h1 with h2 | h2
    ·exfalso
     obtain ⟨i',hi',e⟩:=List.mem_iff_getElem.1 ((mB hO).2 ((hOi s).2 ⟨hs.1,hs.2.1⟩))
     exact a2 i' s hi' (by rw[List.getElem?_eq_getElem hi',e]) h2.symm hs.2.2
    ·exact h2
  ·rintro g' ⟨s,a1,a2⟩ hn' hdf
   simp only[sz,simprocAttr]
   refine finE _ g' (g1.nx::ms) s (by simp[St,LLe,sx,h4,h5,h6,h7,h8]) (List.nodup_cons.2 ⟨fun h=>absurd (hml _ h) (Nat.lt_irrefl _),hnd⟩) ⟨a1.x,a1.y,a1.r,a1.e,a1.g,?_⟩ a2
   intro m hm'
   rcases List.mem_cons.1 hm' with rfl | h
   ·exact hdf
   ·exact a1.m m h
 ·rintro t df g' ⟨ms,rfl,hnd,-,-,ht,hB,hlow⟩
  exact fin t g' ms ht.2 hnd hB hlow
theorem zN {d:Nat}{g:G}{v:AV}{p:List Nat}{x y:Int}(hd:0<d)(hv:SlR NoP 0 .nil p v) :
  ay C0 d N.aq [v,.int .i64 x,.int .i64 y] g=.val (.tup [.int .u64 ((S.ah p x y).1:Int),.int .i64 (S.ah p x y).2]):=by
 have hb64:(S.ah p x y).1<18446744073709551616:=by
  unfold S.ah
  split
  ·rename_i hG
   have h256:=jr (ja.1 hG).l8
   split
   ·split
    ·show (S.ax p x.toNat y.toNat).1<_
     unfold S.ax
     split
     ·rename_i h
      have:=(Classical.choose_spec h).1.1
      show Classical.choose h<_
      omega
     ·show 0<_;decide
    ·decide
   ·decide
  ·decide
 have key:∃r,ay C0 d N.aq [v,.int .i64 x,.int .i64 y] g=.val r/\x5 (One (S.ah p x y).1) (One (S.ah p x y).2) NoP 0 .nil r:=by
  have e:=su (h:=g.h) d (hv.tree (h':=g.h) (Nat.le_refl 0))
  have fin:∀{h:H} {r:Nat} {e:Int},S.ah p x y=(r,e)->∃P,x5 (One (S.ah p x y).1) (One (S.ah p x y).2) P 0 h (.tup [.int .u64 (r:Int),.int .i64 e]):=fun h1 =>
   ⟨fun _=>True,_,_,rfl,jP.2 ⟨by rw[h1],hb64⟩,jI.2 (by rw[h1])⟩
  clear hb64
  rw[kv]
  refine gX md (xs:=[v,.int .i64 x,.int .i64 y]) (by simp only[aE,e,bL]) (by simp[e9]) (oR (m:=1) (gW _) (gW _) (by decide) (by decide)) (by decide) hd ?_
  simp only[sz,simprocAttr,e9,gK]
  refine q_ (zQ (Nat.succ_pos d) hv) fun z hz'=>?_
  obtain ⟨a,b,rfl,ha',hb⟩:=hz'
  have hA:=ha'
  obtain ⟨cs,rfl,hcs⟩:=ha'
  obtain ⟨_,_,rfl,ha,hb2⟩:=eL.1 hcs
  obtain ⟨pa,rfl,hpa⟩:=aY.1 ha
  obtain ⟨ch,rfl,-⟩:=aY.1 hb2
  obtain rfl:b=.int .i64 (if S.aB p then (0:Int) else 70):=by simpa using jI.1 hb
  have ld:aB (.cells 2 [[pa,ch]] 0 false false) 0 0 true 2 0=.val (.agg [pa,ch]):=rfl
  have lx:aB (.cells 1 [[.int .i64 x]] 0 false false) 0 0 false 1 0=.val (.int .i64 x):=rfl
  have ly:aB (.cells 1 [[.int .i64 y]] 0 false false) 0 0 false 1 0=.val (.int .i64 y):=rfl
  cases hG:S.aB p with
  | false =>
   have h70:S.ah p x y=(0,70):=by simp[S.ah,hG]
   simp only[sz,simprocAttr,List.cons_append,List.nil_append]
   exact fin h70
  | true =>
   have hGo:=ja.1 hG
   have h256:=jr hGo.l8
   rw[S.gr,hG,if_pos rfl,List.cons_append,List.nil_append] at hA
   have kT:∀g,ay C0 (d+1) N.ay [.agg [pa,ch],.int .i64 x,.int .i64 y,.int .u64 0] g=.val (.bool (S.aA p.length x y 0)):=fun g=>Dd (zs:=0) (Nat.succ_pos d) (pt hA) hGo.l8 (by decide)
   cases hT:S.aA p.length x y 0 with
   | false =>
    have h2:S.ah p x y=(0,2):=by simp[S.ah,hG,hT]
    rw[hT] at kT
    simp only[sz,simprocAttr,List.cons_append,List.nil_append,ld,lx,ly,H.get_put,kT]
    exact fin h2
   | true =>
    rw[hT] at kT
    have hT':=hT
    simp only[S.aA,Bool.and_eq_true,decide_eq_true_eq] at hT'
    obtain ⟨⟨⟨⟨x0,x1⟩,y0⟩,y1⟩,hdj⟩:=hT'
    obtain ⟨a,rfl⟩:=Int.eq_ofNat_of_zero_le x0
    obtain ⟨b,rfl⟩:=Int.eq_ofNat_of_zero_le y0
    have hal:a<p.length:=by omega
    have hbl:b<p.length:=by omega
    have hpa':SlR NoP 0 .nil p pa:=by
     have:(S.gr p).1=p:=by rw[S.gr,hG];rfl
     rw[<-this];exact hpa.tree (Nat.le_refl 0)
    have lp:=hpa'.len
    have n8:=hGo.l8
    have hm:∀h,Agg ((p,S.aH p):List Nat×List Nat) NoP 0 h (.agg [pa,ch]):=fun h=>pt hA
    have lg1:aB (.cells 2 [[pa,ch]] 0 false false) 0 0 false 1 0=.val pa:=rfl
    obtain ⟨O,hO⟩:∃O,O=(2 ^ p.length - 1) ^^^ ((2 ^ p.length - 1) &&& (2 ^ a ||| 2 ^ b)):=⟨_,rfl⟩
    have hOi:∀s,s &&& O=s↔s<2 ^ p.length/\s &&& (2 ^ a ||| 2 ^ b)=0:=fun s=>by rw[hO];exact vp
    have hp1:1<=2 ^ p.length:=Nat.one_le_two_pow
    have hOl:O<256:=by
     have:O<2 ^ p.length:=by rw[hO];exact A7 (by omega)
     omega
    obtain ⟨m,hmm⟩:∃m,m=2 ^ p.length - 1:=⟨_,rfl⟩
    obtain ⟨A,hAe⟩:∃A,A=2 ^ a:=⟨_,rfl⟩
    obtain ⟨B,hBe⟩:∃B,B=2 ^ b:=⟨_,rfl⟩
    have lA:A<256:=by
     have:(2:Nat) ^ a<2 ^ p.length:=Nat.pow_lt_pow_right (by decide) hal
     omega
    have lB:B<256:=by
     have:(2:Nat) ^ b<2 ^ p.length:=Nat.pow_lt_pow_right (by decide) hbl
     omega
    have s0:aX .shl (.int .u64 1) (.int .i64 (p.length:Int))=.val (.int .u64 ((2 ^ p.length:Nat):Int)):=by rw[aL,cy (by omega)]
    have s1:aX .shl (.int .u64 1) (.int .i64 (a:Int))=.val (.int .u64 (A:Int)):=by rw[aL,cy (by omega),hAe]
    have s2:aX .shl (.int .u64 1) (.int .i64 (b:Int))=.val (.int .u64 (B:Int)):=by rw[aL,cy (by omega),hBe]
    have wm:IntKind.wrap .u64 (((2 ^ p.length:Nat):Int) - 1)=(m:Int):=by rw[bo (by omega) (by omega)];omega
    have o1:=el A B (by omega) (by omega)
    have lAB:A ||| B<18446744073709551616:=qB (by omega) (by omega)
    have d1:=oy m (A ||| B) (by omega) lAB
    rw[show m ^^^ m &&& (A ||| B)=O by rw[hO,hmm,hAe,hBe]] at d1
    clear hmm hAe hBe
    obtain ⟨g0,hg0⟩:∃g0,g0=((((((G.empty.new (AObj.cells 1 [[AV.int IntKind.i64 (a:Int)]] 0 false false)).new (AObj.cells 1 [[AV.int IntKind.i64 (b:Int)]] 0 false false)).new (AObj.cells 1 [[AV.int IntKind.u64 0]] 0 false false)).new (AObj.cells 1 [[AV.int IntKind.i64 0]] 0 false false)).new (AObj.cells 2 [[AV.nils,AV.nils]] 0 false false)).put 4 (AObj.cells 2 [[pa,ch]] 0 false false)):=⟨_,rfl⟩
    have hLB:LeB a b pa ch (.int .u64 0) (.int .i64 0) [] g0.h:=by
     rw[hg0]
     refine ⟨?_,?_,?_,?_,?_,by simp⟩<;>simp[sx,H.get_put]
    have hn0:5<=g0.nx:=by rw[hg0];simp
    simp only[sz,simprocAttr,List.cons_append,List.nil_append,ld,lx,ly,H.get_put,kT]
    rw[<-hg0]
    clear hg0
    simp only[sz,simprocAttr,hLB.x,hLB.y,hLB.g,lx,ly,lg1,lp,s0,wm,s1,s2,o1,d1]
    refine zk (a:=a) (b:=b) (O:=O) (pa:=pa) (ch:=ch) (p:=p) (Nat.succ_pos d) hGo hm hal hbl hOl hOi hLB hn0 (by simp[St,LLe,sx]) (by simp[sx]) (by simp[sx]) ?_ ?_
    ·rintro t g' ms ⟨h4,h5,h6,h7,h8,-⟩ hnd hB hno
     have hv4:S.ah p (a:Int) (b:Int)=(0,4):=by simp[S.ah,hG,hT,yD hno]
     simp only[sz,simprocAttr,fO,h6,h7,hB.r,hB.e]
     have hmb:∀m∈ms,m≠2/\m≠3:=fun m hm'=>⟨fun e=>(by have:=hB.m m hm';rw[e,hB.r] at this;cases this),fun e=>(by have:=hB.m m hm';rw[e,hB.e] at this;cases this)⟩
     refine oE hnd (fun m hm'=>by simp[H.get_put,(hmb m hm').1,(hmb m hm').2,hB.m m hm']) fun g2 f2=>?_
     have k2:g2.h.get 2=.cells 1 [[AV.int IntKind.u64 0]] 0 false false:=by
      rw[f2 2 fun h=>(hmb 2 h).1 rfl];simp[H.get_put]
     have k3:g2.h.get 3=.cells 1 [[AV.int IntKind.i64 4]] 0 false false:=by
      rw[f2 3 fun h=>(hmb 3 h).2 rfl];simp[H.get_put]
     simp only[sz,simprocAttr,h6,h7,k2,k3]
     exact fin hv4
    ·rintro t g' ms s ⟨h4,h5,h6,h7,h8,-⟩ hnd hB hls
     have hv0:S.ah p (a:Int) (b:Int)=(s,0):=by simp[S.ah,hG,hT,xd hls]
     have hmb:∀m∈ms,m≠2/\m≠3:=fun m hm'=>⟨fun e=>(by have:=hB.m m hm';rw[e,hB.r] at this;cases this),fun e=>(by have:=hB.m m hm';rw[e,hB.e] at this;cases this)⟩
     simp only[sz,simprocAttr]
     refine oE hnd hB.m fun g2 f2=>?_
     have k2:=f2 2 fun h=>(hmb 2 h).1 rfl
     have k3:=f2 3 fun h=>(hmb 3 h).2 rfl
     rw[hB.r] at k2
     rw[hB.e] at k3
     simp only[sz,simprocAttr,h6,h7,k2,k3]
     exact fin hv0
 obtain ⟨r,h1,a,b,rfl,h2,h3⟩:=key
 have h2:=(jP.1 h2).1
 have h3:=jI.1 h3
 injection h2 with h2
 injection h3 with h3
 rw[h1,h2,h3]
def DE (n:Nat):VS:=fun P k h v=>∃l:List Int,l.length=n/\One l P k h v
theorem Bi (n:Nat):Snb (DE n) 0:=q9 fun l=>gW l
theorem Ae {s:Nat}(hs:s<256):S.aM s 64=S.ae s:=by
 have hb:∀i,8<=i->s.testBit i=false:=fun i hi=>Nat.testBit_lt_two_pow (Nat.lt_of_lt_of_le hs (show 2 ^ 8<=2 ^ i from Nat.pow_le_pow_right (by decide) hi))
 have:∀k,S.aM s (8+k)=S.aM s 8:=fun k=>by
  induction k with
  | zero=>rfl
  | succ k ih =>
   rw[show 8+(k+1)=(8+k)+1 from rfl,S.aM,ih,hb _ (by omega)];rfl
 exact this 56
theorem ug {d s:Nat}{g:G}(hd:0<d)(hs:s<256):∃r,ay C0 d N.aG [.int .u64 (s:Int)] g=.val r/\DE (S.ae s) NoP 0 .nil r:=by
 rw[lG]
 refine gX nc (xs:=[.int .u64 (s:Int)]) (by simp only[aE,bL]) (by simp[fB]) (Bi _) (by decide) hd ?_
 simp only[sz,simprocAttr,fB]
 refine od 64 (by omega) (fun j t df g=>df=[]/\tat t 0=.int .u64 (s:Int)/\∃(u:AV) (L:List Int),tat t 3=u/\L.length=S.aM s j/\L.length<=j/\Own g 0 u 1 (L.map ci)) ⟨rfl,by simp[sx],.nils,[],by simp[sx],rfl,by simp,.inl ⟨rfl,rfl⟩⟩ (by simp[sx]) (by decide) (by rintro j t df g v s' (rfl | rfl | rfl)<;>simp[sx]) ?_ ?_ ?_
 ·rintro j t df g hj ⟨rfl,h0,u,L,h3,hL,hL2,hu⟩ h4
  simp only[sx,sy,SO.run,↓reduceIte,Nat.reduceEqDiff,h0,h3,h4]
  exact ⟨rfl,u,L,rfl,hL,hL2,hu⟩
 ·rintro j t df g hj ⟨rfl,h0,u,L,h3,hL,hL2,hu⟩ h4
  have ki:∀g,ay C0 (d+1) N.aa [.int .u64 (s:Int),.int .i64 (j:Int)] g=.val (.bool (s.testBit j)):=fun g=>by rw[kH (Nat.succ_pos d) (by omega) (by omega),nj]
  simp only[sz,simprocAttr,h0,h4,ki]
  cases hb:s.testBit j with
  | true =>
   simp only[sz,simprocAttr,h3,h4]
   refine eU (new:=[ci (j:Int)]) (hu.step (Fr.new _ _)) (by simp[sx,sy,ci]) (by simp) (by simp[eI];omega) fun v2 g2 hv2 n2 f2 _ l2=>?_
   simp only[sz,simprocAttr,h0,h4]
   exact ⟨_,L++[(j:Int)],rfl,by rw[S.aM,hb];simp[hL],by simp;omega,by simpa using hv2⟩
  | false =>
   simp only[sz,simprocAttr,h0,h3,h4]
   exact ⟨_,L,rfl,by rw[S.aM,hb];simp[hL],by omega,hu⟩
 ·rintro t df g ⟨rfl,h0,u,L,h3,hL,hL2,hu⟩
  simp only[gA,sz,simprocAttr,h3]
  exact ⟨_,L,by rw[hL,Ae hs],hu.ints (by omega)⟩
theorem yl {d k:Nat}{g:G}{P:Nat->Prop}{v:AV}{p:List Nat}{a b:Nat}(hd:0<d)(hv:SlR P k g.h p v)(hG:GOk p)(ha:a<p.length)(hb:b<p.length) :
  ay C0 d N.aA [v,.int .i64 (a:Int),.int .i64 (b:Int)] g=.val (.tup [.int .u64 ((S.ax p a b).1:Int),.bool (S.ax p a b).2]):=by
 obtain ⟨v',e,r1⟩:=cM hv d
 have n8:=hG.l8
 have h256:=jr n8
 have hb64:(S.ax p a b).1<18446744073709551616:=by
  unfold S.ax
  split
  ·rename_i h
   have:=(Classical.choose_spec h).1.1
   show Classical.choose h<_
   omega
  ·show 0<_;decide
 have key:∃r,ay C0 d N.aA [v,.int .i64 (a:Int),.int .i64 (b:Int)] g=.val r/\x5 (One (S.ax p a b).1) (One (S.ax p a b).2) NoP 0 .nil r:=by
  have fin:∀{h:H} {r:Nat} {e:Bool},S.ax p a b=(r,e)->∃P,x5 (One (S.ax p a b).1) (One (S.ax p a b).2) P 0 h (.tup [.int .u64 (r:Int),.bool e]):=fun h1 =>
   ⟨fun _=>True,_,_,rfl,jP.2 ⟨by rw[h1],hb64⟩,wh.2 (by rw[h1])⟩
  clear hb64
  rw[m8]
  refine gX py (xs:=[v',.int .i64 (a:Int),.int .i64 (b:Int)]) (by simp only[aE,e,bL]) (by simp[g_]) (oR (m:=1) (gW _) (gW _) (by decide) (by decide)) (by decide) hd ?_
  have vl:∀g,e8 .slice v' g=.val (.int .i64 (p.length:Int)):=fun g=>(r1 .nil).len g
  have hA:(2:Nat) ^ a<2 ^ p.length:=Nat.pow_lt_pow_right (by decide) ha
  have hB:(2:Nat) ^ b<2 ^ p.length:=Nat.pow_lt_pow_right (by decide) hb
  obtain ⟨A,hAe⟩:∃A,A=2 ^ a:=⟨_,rfl⟩
  obtain ⟨B,hBe⟩:∃B,B=2 ^ b:=⟨_,rfl⟩
  obtain ⟨M,hMe⟩:∃M,M=2 ^ p.length:=⟨_,rfl⟩
  have s1:aX .shl (.int .u64 1) (.int .u64 (a:Int))=.val (.int .u64 (A:Int)):=by rw[aL,cy (by omega),hAe]
  have s2:aX .shl (.int .u64 1) (.int .u64 (b:Int))=.val (.int .u64 (B:Int)):=by rw[aL,cy (by omega),hBe]
  have s3:aX .shl (.int .u64 1) (.int .u64 (p.length:Int))=.val (.int .u64 (M:Int)):=by rw[aL,cy (by omega),hMe]
  have wa:IntKind.wrap .u64 (a:Int)=(a:Int):=bo (by omega) (by omega)
  have wb:IntKind.wrap .u64 (b:Int)=(b:Int):=bo (by omega) (by omega)
  have wn:IntKind.wrap .u64 (p.length:Int)=(p.length:Int):=bo (by omega) (by omega)
  have o1:=el A B (by omega) (by omega)
  have hSep:∀s,nI p a b s↔s<M/\s &&& (A ||| B)=0/\Apt p A B s:=fun s=>by rw[nI,hAe,hBe,hMe]
  rw[<-hAe] at hA
  rw[<-hBe] at hB
  simp only[sz,simprocAttr,g_,wa,wb,s1,s2]
  simp only[ia,ir]
  refine eh (by omega) vl (fun j t df g=>df=[]/\St t [(8,.int .u64 (A:Int)),(9,.int .u64 (B:Int))]/\∀s,nI p a b s->j<=S.ae s) ⟨rfl,by simp[St,sx],fun _ _=>Nat.zero_le _⟩ (by simp[sx]) (by simp[sx]) (by decide)
   (by rintro j t df g v s (rfl | rfl | rfl | rfl | rfl | rfl | rfl)<;>simp[sx,St]) ?_ ?_
  ·rintro j t df g hj ⟨rfl,⟨h8,h9,-⟩,hlow⟩ h10 h0
   simp only[sz,simprocAttr,iC]
   refine sD (m:=M) (fun s t df g'=>df=[]/\St t [(0,v'),(8,.int .u64 (A:Int)),(9,.int .u64 (B:Int)),(10,.int .i64 (j:Int)),(11,.int .u64 (s:Int))]/\∀s',s'<s->nI p a b s'->j<S.ae s') ⟨rfl,by simp[St,sx,h0,h8,h9,h10],fun s' h=>absurd h (Nat.not_lt_zero _)⟩ ?_ ?_ ?_
   ·rintro s t df g hs ⟨rfl,⟨h0,h8,h9,h10,h11,-⟩,hall⟩
    simp only[sz,simprocAttr,h0,h11,vl,wn,s3]
    refine ⟨?_,by simp[St,sx,h0,h8,h9,h10,h11],hall⟩
    congr 1
    exact decide_eq_decide.2 (by omega)
   ·rintro s t df g hs ⟨rfl,⟨h0,h8,h9,h10,h11,-⟩,hall⟩
    have ss:s<256:=by omega
    have an:=bS s (A ||| B) (by omega) (qB (by omega) (by omega))
    have ws:IntKind.wrap .u64 ((s:Int)+1)=((s+1:Nat):Int):=by rw[bo (by omega) (by omega)];omega
    have next:¬(nI p a b s/\S.ae s=j)->∀s',s'<s+1->nI p a b s'->j<S.ae s':=fun h s' hs' hS'=>by
     by_cases e:s'=s
     ·subst e
      have:=hlow s' hS'
      have:S.ae s'≠j:=fun e=>h ⟨hS',e⟩
      omega
     ·exact hall s' (by omega) hS'
    by_cases c1:s &&& (A ||| B)=0
    ·simp only[sz,simprocAttr,h8,h9,h11,o1,an,c1]
     refine q_ (ug (Nat.succ_pos d) ss) fun z hz=>?_
     obtain ⟨l,hl,hz⟩:=hz
     have hz:SlR NoP 0 .nil l z:=by
      obtain ⟨z',e,hz'⟩:=aY.1 hz
      injection e with e
      subst e
      exact hz'
     have lz:=hz.len
     rw[hl] at lz
     have hxz:A &&& s=0:=xR (By c1).1
     have kA:=fun g:G=>xX (d:=d+1) (g:=g) (ys:=B) (Nat.succ_pos d) (r1 g.h) hG hA hB (show s<2 ^ p.length by omega) hxz
     have hap:S.az p A s &&& B=0↔Apt p A B s:=Ba hB
     by_cases c2:S.ae s=j
     ·have c2':((S.ae s:Nat):Int)=(j:Int):=by omega
      by_cases c3:S.az p A s &&& B=0
      ·have hsep:nI p a b s:=(hSep s).2 ⟨hs,c1,hap.1 c3⟩
       have hls:LsP p a b s:=⟨hsep,by omega,fun s' hs'=>by
        have h1:=hlow s' hs'
        rcases Nat.eq_or_lt_of_le h1 with h2 | h2
        ·refine .inr ⟨by omega,?_⟩
         rcases Nat.lt_or_ge s' s with h3 | h3
         ·have:=hall s' h3 hs';omega
         ·exact h3
        ·exact .inl (by omega)⟩
       simp only[sz,simprocAttr,h0,h8,h9,h10,h11,lz,c2',kA,decide_eq_true c3]
       exact fin (xd hls)
      ·simp only[sz,simprocAttr,h0,h8,h9,h10,h11,lz,c2',kA,decide_eq_false c3,ws]
       exact ⟨by simp[St,sx,h0,h8,h9,h10],next fun h=>c3 (hap.2 ((hSep s).1 h.1).2.2)⟩
     ·have c2':¬((S.ae s:Nat):Int)=(j:Int):=by omega
      simp only[sz,simprocAttr,h0,h8,h9,h10,h11,lz,c2',ws]
      exact ⟨by simp[St,sx,h0,h8,h9,h10],next fun h=>c2 h.2⟩
    ·have c1':¬((s &&& (A ||| B):Nat):Int)=0:=by omega
     simp only[sz,simprocAttr,h8,h9,h11,o1,an,c1',ws]
     exact ⟨by simp[St,sx,h0,h8,h9,h10],next fun h=>c1 ((hSep s).1 h.1).2.1⟩
   ·rintro t df g ⟨rfl,⟨h0,h8,h9,h10,h11,-⟩,hall⟩
    simp only[sz,simprocAttr]
    exact ⟨⟨by simp[St,h8,h9],fun s hs=>hall s ((hSep s).1 hs).1 hs⟩,h10,h0⟩
  ·rintro t df g ⟨rfl,⟨h8,h9,-⟩,hlow⟩ h0
   simp only[sz,simprocAttr,il]
   exact fin (yD hlow)
 obtain ⟨r,h1,x,y,rfl,h2,h3⟩:=key
 have h2:=(jP.1 h2).1
 have h3:=wh.1 h3
 injection h2 with h2
 injection h3 with h3
 rw[h1,h2,h3]
def S.ak (v:Int):Nat:=if v<0\/7<v then 1152921504606846976 else 2 ^ v.toNat
theorem A4 (v:Int):S.ak v<18446744073709551616:=by
 unfold S.ak
 split
 ·decide
 ·have:(2:Nat) ^ v.toNat<=2 ^ 7:=Nat.pow_le_pow_right (by decide) (by omega)
  omega
theorem vW {d:Nat}{g:G}{v:Int}(hd:0<d):ay C0 d N.am [.int .i64 v] g=.val (.int .u64 (S.ak v:Int)):=by
 rw[pI]
 refine er rG (xs:=[.int .i64 v]) (by simp only[aE,bL]) (by simp[fp]) hd ?_
 by_cases c1:v<0
 ·simp only[sz,simprocAttr,fp,c1]
  rw[S.ak,if_pos (.inl c1)];rfl
 by_cases c2:7<v
 ·simp only[sz,simprocAttr,fp,c1,c2]
  rw[S.ak,if_pos (.inr c2)];rfl
 obtain ⟨a,rfl⟩:=Int.eq_ofNat_of_zero_le (show 0<=v by omega)
 have s1:aX .shl (.int .u64 1) (.int .i64 (a:Int))=.val (.int .u64 ((2 ^ a:Nat):Int)):=by rw[aL,cy (by omega)]
 simp only[sz,simprocAttr,fp,c1,c2,s1]
 rw[S.ak,if_neg (by omega),Int.toNat_natCast]
theorem wj {n:Nat}{v:Int}(h8:n<=8):S.ak v<2 ^ n↔0<=v/\v<n:=by
 have h2:=jr h8
 unfold S.ak
 split
 ·rename_i h
  constructor
  ·intro h';omega
  ·intro h';omega
 ·rename_i h
  rw[Nat.pow_lt_pow_iff_right (by decide)]
  omega
theorem x8 {p:List Nat}{x y:Int}:S.aN p [S.ak x,S.ak y]=if S.aB p then (if S.aA p.length x y 0 then 0 else 2) else 70:=by
 unfold S.aN
 cases hG:S.aB p with
 | false=>rfl
 | true =>
  have h8:=(ja.1 hG).l8
  have:S.am p.length [S.ak x,S.ak y] 0=S.aA p.length x y 0:=by
   rw[Bool.eq_iff_iff,Dw,Nat.and_zero,Nat.zero_or,wj h8,wj h8]
   simp only[S.aA,Bool.and_eq_true,decide_eq_true_eq,Do]
   constructor
   ·rintro ⟨⟨a,b⟩,-,⟨c,e⟩,h⟩
    have h1:(2:Nat) ^ x.toNat<2 ^ p.length:=Nat.pow_lt_pow_right (by decide) (by omega)
    have h2:(2:Nat) ^ y.toNat<2 ^ p.length:=Nat.pow_lt_pow_right (by decide) (by omega)
    have e1:S.ak x=2 ^ x.toNat:=by rw[S.ak,if_neg (by omega)]
    have e2:S.ak y=2 ^ y.toNat:=by rw[S.ak,if_neg (by omega)]
    rw[e1,e2] at h
    exact ⟨⟨⟨⟨a,b⟩,c⟩,e⟩,h1,h2,h,Nat.pow_pos (by decide),Nat.zero_and _⟩
   ·rintro ⟨⟨⟨⟨a,b⟩,c⟩,e⟩,h1,h2,h,-⟩
    have e1:S.ak x=2 ^ x.toNat:=by rw[S.ak,if_neg (by omega)]
    have e2:S.ak y=2 ^ y.toNat:=by rw[S.ak,if_neg (by omega)]
    rw[e1,e2]
    exact ⟨⟨a,b⟩,trivial,⟨c,e⟩,h⟩
  rw[this]
def LLo (x y:Int)(k:Nat)(A:AV):List (Nat×AV):=[(2,.int .i64 x),(3,.int .i64 y),(4,.int .u8 (k:Int)),(24,A)]
def LLi (x y:Int)(k:Nat)(A:AV)(q:Nat)(gv T4:AV):List (Nat×AV):=(25,.int .i64 (q:Int))::(12,gv)::(39,T4)::LLo x y k A
theorem xz {d:Nat}{Q:QT}{t:T}{g:G}{gv A T4:AV}{q k:Nat}{x y:Int}{p:List Nat}(hd:0<d)(hv:SlR NoP 0 .nil p gv)
  (hix:∀j:Nat,j<2->∃a b:Int,ixV true 2 2 T4 (.int .i64 (j:Int))=.val (.agg [.int .i64 a,.int .i64 b]))
  (ht:St t (LLi x y k A q gv T4)) (h40:tat t 40=.int .i64 0)
  (fin:∀t g',St t (LLi x y k A q gv T4)->Fr g g'->Q (.exit 2) t [] g'):wpL (wp C0 d none bX) Q t [] g:=by
 simp only[bX]
 refine nE (m:=2) rfl (by omega) (fun j t df g'=>df=[]/\Fr g g'/\St t (LLi x y k A q gv T4)) ⟨rfl,Fr.refl _,ht⟩ h40 (by decide)
  (by rintro j t df g v s (rfl | rfl | rfl) ⟨a1,a2,⟨b1,b2,b3,b4,b5,b6,b7,-⟩⟩<;>exact ⟨a1,a2,by simp[St,LLi,LLo,sx,b1,b2,b3,b4,b5,b6,b7]⟩) ?_ ?_
 ·rintro j t df g1 hj ⟨rfl,hF,h25,h12,h39,h2,h3,h4,h24,-⟩ h40
  obtain ⟨a,b,hi⟩:=hix j hj
  have hv':∀h,SlR NoP 0 h p gv:=fun h=>hv.tree (Nat.le_refl 0)
  have kL:=fun g=>zN (d:=d) (g:=g) (x:=a) (y:=b) hd hv
  have kB1:=fun g=>vW (d:=d) (g:=g) (v:=a) hd
  have kB2:=fun g=>vW (d:=d) (g:=g) (v:=b) hd
  have kF:∀(g:G) (id:Nat),g.h.get id=.cells 1 [[.int .u64 (S.ak a:Int)],[.int .u64 (S.ak b:Int)]] 0 false false->id<g.nx->ay C0 d N.ap [gv,.hsl id 0 0 2 none] g=.val (.int .i64 (S.aN p [S.ak a,S.ak b])) :=
   fun g id h hn=>tF hd (hv' g.h) (DC (l:=[S.ak a,S.ak b]) h hn (by simp) (by simp[A4]))
  have i0:∀id,zU 2 1 (.hptr id 0 0 0) (.int .i64 0)=.val (.hptr id 0 0 0):=fun id=>rfl
  have i1:∀id,zU 2 1 (.hptr id 0 0 0) (.int .i64 1)=.val (.hptr id 0 0 1):=fun id=>rfl
  have l0:aB (.cells 2 [[.int .i64 a,.int .i64 b]] 0 false false) 0 0 false 1 0=.val (.int .i64 a):=rfl
  have l1:aB (.cells 2 [[.int .i64 a,.int .i64 b]] 0 false false) 0 0 false 1 1=.val (.int .i64 b):=rfl
  obtain ⟨r,hr⟩:∃r,r=g1.nx:=⟨_,rfl⟩
  refine nY (P:=fun t' df g'=>df=[]/\St t' ((40,.int .i64 (j:Int))::(14,.hptr r 0 0 0)::LLi x y k A q gv T4)/\Fr g g'/\r<g'.nx/\g'.h.get r=.cells 2 [[.int .i64 a,.int .i64 b]] 0 false false) ?_ ?_
  ·simp only[sz,simprocAttr,h39,h40,hi]
   refine ⟨by simp[St,LLi,LLo,sx,h2,h3,h4,h12,h24,h25,h39,h40,hr],⟨by have:=hF.1;simp;omega,fun i hi=>?_⟩,by simp[hr],by simp[H.get_put,hr]⟩
   have:=hF.1
   rw[<-hF.2 i hi]
   simp[H.get_put,show ¬i=g1.nx by omega]
  clear h2 h3 h4 h12 h24 h25 h39 h40 hr
  rintro t df g2 ⟨rfl,⟨h40,h14,h25,h12,h39,h2,h3,h4,h24,-⟩,hF2,hr,hg⟩
  refine nY (P:=fun t' df g'=>df=[]/\g'=g2/\St t' ((15,.int .u64 ((S.ah p a b).1:Int))::(16,.int .i64 (S.ah p a b).2)::(40,.int .i64 (j:Int))::(14,.hptr r 0 0 0)::LLi x y k A q gv T4)) ?_ ?_
  ·simp only[sz,simprocAttr,h12,h14,i0,i1,hg,l0,l1,kL]
   simp[St,LLi,LLo,sx,h2,h3,h4,h12,h14,h24,h25,h39,h40]
  clear h2 h3 h4 h12 h14 h24 h25 h39 h40
  rintro t df g3 ⟨rfl,hg3,⟨h15,h16,h40,h14,h25,h12,h39,h2,h3,h4,h24,-⟩⟩
  rw[hg3];clear hg3
  refine rI (P:=fun t' df g'=>df=[]/\Fr g2 g'/\St t' ((17,.int .i64 (S.aN p [S.ak a,S.ak b]))::(15,.int .u64 ((S.ah p a b).1:Int))::(16,.int .i64 (S.ah p a b).2)::(40,.int .i64 (j:Int))::(14,.hptr r 0 0 0)::LLi x y k A q gv T4)) ?_ ?_
  ·simp only[sz,simprocAttr,sf,h12,h14,i0,i1,hg,l0,l1,kB1,kB2,Bh,o8]
   rw[kF _ _ (by simp[H.get_put]) (by simp)]
   simp only[sz,simprocAttr,sf,lX]
   refine ⟨?_,?_,by simp[St,LLi,LLo,sx,h2,h3,h4,h12,h14,h15,h16,h24,h25,h39,h40]⟩
   ·simp only[List.reverse_cons,List.reverse_nil,List.nil_append,List.cons_append]
    refine cY [false,false,false,false,false,false,false,true,false,false] [(0,7)] (by simp[All2,ak,aK]) (by decide) ?_
    rintro p hp x y hx hy
    simp only[List.mem_cons,List.not_mem_nil,or_false] at hp
    subst hp
    simp at hx hy
    subst hx;subst hy
    refine tK rfl rfl rfl rfl ?_ ?_ ?_<;>simp[ak,aK,ae]
   ·refine ⟨by simp;omega,fun i hi=>?_⟩
    simp[H.get_put]
    intro h;omega
  clear h2 h3 h4 h12 h14 h15 h16 h24 h25 h39 h40
  rintro t df g4 ⟨rfl,hF4,⟨h17,h15,h16,h40,h14,h25,h12,h39,h2,h3,h4,h24,-⟩⟩
  have hg4:g4.h.get r=.cells 2 [[.int .i64 a,.int .i64 b]] 0 false false:=by rw[hF4.2 r hr,hg]
  have hFf:Fr g g4:=hF2.trans hF4
  rw[x8] at h17
  cases hG:S.aB p with
  | false =>
   have e1:S.ah p a b=(0,70):=by simp[S.ah,hG]
   rw[e1] at h15 h16
   rw[hG] at h17
   simp only[sz,simprocAttr,h15,h16,h17]
   exact ⟨⟨hFf,by simp[St,LLi,LLo,sx,h2,h3,h4,h12,h24,h25,h39]⟩,h40⟩
  | true =>
   cases hT:S.aA p.length a b 0 with
   | false =>
    have e1:S.ah p a b=(0,2):=by simp[S.ah,hG,hT]
    rw[e1] at h15 h16
    rw[hG,hT] at h17
    simp only[sz,simprocAttr,h15,h16,h17]
    exact ⟨⟨hFf,by simp[St,LLi,LLo,sx,h2,h3,h4,h12,h24,h25,h39]⟩,h40⟩
   | true =>
    have hT':=hT
    simp only[S.aA,Bool.and_eq_true,decide_eq_true_eq] at hT'
    obtain ⟨⟨⟨⟨x0,x1⟩,y0⟩,y1⟩,-⟩:=hT'
    obtain ⟨u,rfl⟩:=Int.eq_ofNat_of_zero_le x0
    obtain ⟨w,rfl⟩:=Int.eq_ofNat_of_zero_le y0
    have kR:=fun g:G=>yl (d:=d) (g:=g) (a:=u) (b:=w) hd (hv' g.h) (ja.1 hG) (by omega) (by omega)
    rw[hG,hT] at h17
    have eqb:∀b:Bool,AZ true .bool (.bool b) (.bool b)=.val (.bool false):=fun b=>by cases b<;>rfl
    cases hB:(S.ax p u w).2 with
    | true =>
     have e1:S.ah p (u:Int) (w:Int)=((S.ax p u w).1,0):=by simp[S.ah,hG,hT,hB]
     rw[e1] at h15 h16
     rw[hB] at kR
     simp only[sz,simprocAttr,h12,h14,h15,h16,h17,i0,i1,hg4,l0,l1,kR,eqb]
     exact ⟨⟨hFf,by simp[St,LLi,LLo,sx,h2,h3,h4,h12,h24,h25,h39]⟩,h40⟩
    | false =>
     have e0:(S.ax p u w).1=0:=by
      unfold S.ax at hB ⊢
      split
      ·rename_i h
       rw[dif_pos h] at hB;cases hB
      ·rfl
     have e1:S.ah p (u:Int) (w:Int)=(0,4):=by simp[S.ah,hG,hT,hB]
     rw[e1] at h15 h16
     rw[hB,e0] at kR
     simp only[sz,simprocAttr,h12,h14,h15,h16,h17,i0,i1,hg4,l0,l1,kR,eqb]
     exact ⟨⟨hFf,by simp[St,LLi,LLo,sx,h2,h3,h4,h12,h24,h25,h39]⟩,h40⟩
 ·rintro t df g' ⟨rfl,hF,ht⟩
  exact fin t g' ht hF
theorem ym {d:Nat}{Q:QT}{t:T}{g:G}{A:AV}{x y:Int}{k:Nat}(hd:0<d)(hk:k<256)
  (hA:∀j:Nat,j<2->∃(gv:AV) (p:List Nat),SlR NoP 0 .nil p gv/\ixV false 2 1 A (.int .i64 (j:Int))=.val gv)
  (ht:St t (LLo x y k A)) (h25:tat t 25=.int .i64 0)
  (fin:∀t g',Q (.exit 0) t [] g'):wpL (wp C0 d none b9) Q t [] g:=by
 simp only[b9,dC]
 refine nE (m:=2) rfl (by omega) (fun j t df g'=>df=[]/\St t (LLo x y k A)) ⟨rfl,ht⟩ h25 (by decide)
  (by rintro j t df g v s (rfl | rfl | rfl) ⟨a1,⟨b1,b2,b3,b4,-⟩⟩<;>exact ⟨a1,by simp[St,LLo,sx,b1,b2,b3,b4]⟩) ?_ ?_
 ·rintro j t df g1 hj ⟨rfl,h2,h3,h4,h24,-⟩ h25
  obtain ⟨gv,p,hv,hi⟩:=hA j hj
  have r1:aX .rem (.int .u8 (k:Int)) (.int .u8 6)=.val (.int .u8 ((k:Int) % 6)):=rO .u8 (by omega) (by decide)
  have w0:IntKind.wrap .u8 ((k:Int) / 6)=(k:Int) / 6:=by
   show ((k:Int) / 6) % 256=_
   omega
  have r2:aX .quo (.int .u8 (k:Int)) (.int .u8 6)=.val (.int .u8 ((k:Int) / 6)):=by rw[BA .u8 (by omega) (by decide),w0]
  have r3:aX .rem (.int .u8 ((k:Int) / 6)) (.int .u8 6)=.val (.int .u8 ((k:Int) / 6 % 6)):=rO .u8 (by omega) (by decide)
  have w1:IntKind.wrap .i64 ((k:Int) % 6)=(k:Int) % 6:=dR (by omega) (by omega)
  have w2:IntKind.wrap .i64 ((k:Int) / 6 % 6)=(k:Int) / 6 % 6:=dR (by omega) (by omega)
  refine rI (P:=fun t' df' g'=>df'=[]/\g'=g1/\St t' ((25,.int .i64 (j:Int))::(12,gv)::LLo x y k A)) ?_ ?_
  ·simp only[sz,simprocAttr,h24,h25,hi]
   simp[St,LLo,sx,h2,h3,h4,h24,h25]
  clear h2 h3 h4 h24 h25
  rintro t df g2 ⟨rfl,hg2,h25,h12,h2,h3,h4,h24,-⟩
  rw[hg2];clear hg2
  refine nY (P:=fun t' df g'=>df=[]/\g'=g1/\St t' ((40,.int .i64 0)::LLi x y k A j gv (.agg [.int .i64 x,.int .i64 y,.int .i64 ((k:Int) % 6),.int .i64 ((k:Int) / 6 % 6)]))) ?_ ?_
  ·simp only[sz,simprocAttr,h2,h3,h4,r1,r2,r3,w1,w2]
   simp[St,LLi,LLo,sx,h2,h3,h4,h12,h24,h25]
  clear h2 h3 h4 h12 h24 h25
  rintro t df g2 ⟨rfl,hg2,h40,ht⟩
  rw[hg2];clear hg2
  simp only[sz,simprocAttr]
  refine xz (p:=p) hd hv (fun j hj=>?_) ht h40 ?_
  ·match j,hj with
   | 0,_=>exact ⟨_,_,rfl⟩
   | 1,_=>exact ⟨_,_,rfl⟩
  rintro t g2 ⟨h25,-,-,ht⟩ -
  simp only[sz,simprocAttr]
  exact ⟨ht,h25⟩
 ·rintro t df g' ⟨rfl,-⟩
  exact fin t g'
theorem lR {z:rm}{raw:List Nat}{w:AV}{xs:List AV}{x y:Int}{k:Nat}(hw:SlR NoP 0 .nil raw w)(hr:Raw w)(hx:Rp.rp NoP 0 .nil z xs)(h1:-9223372036854775808<=x/\x<9223372036854775808)(h2:-9223372036854775808<=y/\y<9223372036854775808)(hk:k<256) :
  ∃g',(I C0).call 1 N.aS [w,.agg xs,.int .i64 x,.int .i64 y,.int .u8 (k:Int)] G.empty=.ok (.bool true) g':=by
 have hgr:=fun g=>ve (d:=1) (g:=g) (by decide) hx hw hr
 obtain ⟨_,_,rfl,ha',hb'⟩:=eL.1 hx
 obtain ⟨a,rfl,-⟩:=aY.1 ha'
 obtain ⟨b,rfl,-⟩:=aY.1 hb'
 rw[List.cons_append,List.nil_append] at hgr ⊢
 have key:=ks (C:=C0) (d:=1) (f:=N.aS) («as»:=[w,.agg [a,b],.int .i64 x,.int .i64 y,.int .u8 (k:Int)]) (g:=G.empty) (K:=fun v g'=>v=.bool true) i_ (by simp[cO]) ?_
 ·cases hc':(I C0).call 1 N.aS [w,.agg [a,b],.int .i64 x,.int .i64 y,.int .u8 (k:Int)] G.empty with
  | fail=>rw[hc'] at key;exact key.elim
  | ok v g'=>rw[hc'] at key;exact ⟨g',by rw[show v=.bool true from key]⟩
 have ld:aB (.cells 2 [[a,b]] 0 false false) 0 0 true 2 0=.val (.agg [a,b]):=rfl
 have of5:∀a b c d e:AV,bu 0 [a,b,c,d,e] .nil=cN (cN (cN (cN (cN .nil 0 a) 1 b) 2 c) 3 d) 4 e:=fun _ _ _ _ _=>rfl
 simp only[sz,simprocAttr,cO,of5,d8,sS,ld]
 refine q_ (hgr _) fun z hz=>?_
 obtain ⟨u,-,cz,rfl,hz⟩:=hz
 obtain ⟨_,_,rfl,ha',hb'⟩:=eL.1 hz
 obtain ⟨g1,rfl,q1⟩:=aY.1 ha'
 obtain ⟨g2,rfl,q2⟩:=aY.1 hb'
 simp only[sz,simprocAttr]
 refine ym (A:=.agg [g1,g2]) (x:=x) (y:=y) (k:=k) (by decide) hk (fun j hj=>?_) (by simp[St,LLo,sx]) (by simp[sx]) ?_
 ·match j,hj with
  | 0,_=>exact ⟨g1,u.1,q1,rfl⟩
  | 1,_=>exact ⟨g2,u.2,q2,rfl⟩
 intro t g'
 simp only[sz,simprocAttr,dA]
end
end Hx
end
section
namespace Hx
open Go Go.RowKit Go.ChangeShapes Go.WideShapes
def lV (P:Program):List Field->Nat->Option Nat
 | [],k=>some k
 | f::fs,k=>if f.offset=k then lV P fs (k+P.cellsOf f.type) else none
def lO (P:Program):Nat->TypeId->Bool
 | 0,_=>false
 | n+1,t=>match P.underlying t with
  | some .bool=>true
  | some (.int _)=>true
  | some (.slice e)=>decide (0<P.cellsOf e)&&lO P n e
  | some (.struct fs)=>(lV P fs.toList 0 == some (P.cellsOf t))&&fs.toList.all (fun f=>lO P n f.type)
  | some (.array m e)=>decide (m*P.cellsOf e=P.cellsOf t)&&lO P n e
  | _=>false
def Sh (P:Program):Nat->TypeId->List AV->Prop
 | 0,_,_=>False
 | n+1,t,xs=>match P.underlying t with
  | some .bool=>∃b,xs=[.bool b]
  | some (.int k)=>∃z,xs=[.int k z]/\(Lit.int k z).wf=true
  | some (.slice e)=>xs=[.nils]\/∃rows,xs=[.tsl 0 (P.cellsOf e) rows]/\rows.length<9223372036854775808/\∀row∈rows,Sh P n e row
  | some (.struct fs)=>∃xss,xs=xss.flatten/\All2 (fun (f:Field) ys=>Sh P n f.type ys) fs.toList xss
  | some (.array m e)=>∃xss:List (List AV),xs=xss.flatten/\xss.length=m/\∀ys∈xss,Sh P n e ys
  | _=>False
def uc (P:Program)(w:World)(n:Nat)(t:TypeId)(xs:List AV)(cs:List Value):Prop :=
 RVs0 w xs cs/\(∀y∈xs,y.one=true/\Closed y)/\Sh P n t xs
theorem RVs0.append {w:World}{xs ys:List AV}{cs ds:List Value}(h:RVs0 w xs cs)(h':RVs0 w ys ds):RVs0 w (xs++ys) (cs++ds):=by
 refine ⟨by rw[List.length_append,List.length_append,h.1,h'.1],fun i x v hx hv=>?_⟩
 rcases Nat.lt_or_ge i xs.length with hi | hi
 ·rw[List.getElem?_append_left hi] at hx
  rw[List.getElem?_append_left (by rw[<-h.1];exact hi)] at hv
  exact h.2 i x v hx hv
 ·rw[List.getElem?_append_right hi] at hx
  rw[List.getElem?_append_right (by rw[<-h.1];exact hi),<-h.1] at hv
  exact h'.2 _ x v hx hv
theorem wR (b o n:Nat):(⟨b,o,none⟩:Addr).add n=adr b (o+n):=by
 unfold Addr.add
 split
 ·rename_i h;subst h;rfl
 ·rfl
variable {H:Type}{enc:TypeId×Value->H}{P:Program}{w:World}
theorem qs:∀{fl:List Field} {k K:Nat},lV P fl k=some K->k<=K
 | [],k,K,h=>by injection h with h;omega
 | f::fl,k,K,h=>by
  unfold lV at h
  split at h
  ·have:=qs h;omega
  ·cases h
theorem zE {n:Nat}{cs:List Value}:∀{fl:List Field} {k K:Nat},lV P fl k=some K ->
  (∀f∈fl,∃xs,uc P w n f.type xs ((cs.drop f.offset).take (P.cellsOf f.type))) ->
  ∃xss,All2 (fun (f:Field) ys=>Sh P n f.type ys) fl xss/\RVs0 w xss.flatten ((cs.drop k).take (K - k))/\∀y∈xss.flatten,y.one=true/\Closed y
 | [],k,K,h,_=>by
  injection h with h;subst h
  exact ⟨[],trivial,by rw[Nat.sub_self,List.take_zero];exact ⟨rfl,fun i x v hx=>by simp at hx⟩,fun y hy=>by simp at hy⟩
 | f::fl,k,K,h,hg=>by
  unfold lV at h
  split at h
  ·rename_i ho
   subst ho
   obtain ⟨xs,h1,h2,h3⟩:=hg f (by simp)
   obtain ⟨xss,a1,a2,a3⟩:=zE h fun f' hf'=>hg f' (by simp[hf'])
   have hle:=qs h
   refine ⟨xs::xss,⟨h3,a1⟩,?_,fun y hy=>?_⟩
   ·have e:(cs.drop f.offset).take (K - f.offset)=(cs.drop f.offset).take (P.cellsOf f.type)++(cs.drop (f.offset+P.cellsOf f.type)).take (K - (f.offset+P.cellsOf f.type)):=by
     rw[show K - f.offset=P.cellsOf f.type+(K - (f.offset+P.cellsOf f.type)) by omega,List.take_add,List.drop_drop]
    rw[e,List.flatten_cons]
    exact h1.append a2
   ·rw[List.flatten_cons,List.mem_append] at hy
    rcases hy with hy | hy
    ·exact h2 y hy
    ·exact a3 y hy
  ·cases h
theorem wE {n:Nat}{e:TypeId}{cs:List Value}:∀{m k:Nat},
  (∀i,i<m->∃xs,uc P w n e xs ((cs.drop ((k+i)*P.cellsOf e)).take (P.cellsOf e))) ->
  ∃xss:List (List AV),xss.length=m/\(∀ys∈xss,Sh P n e ys)/\RVs0 w xss.flatten ((cs.drop (k*P.cellsOf e)).take (m*P.cellsOf e))/\∀y∈xss.flatten,y.one=true/\Closed y
 | 0,k,_=>⟨[],rfl,fun y hy=>by simp at hy,by rw[Nat.zero_mul,List.take_zero];exact ⟨rfl,fun i x v hx=>by simp at hx⟩,fun y hy=>by simp at hy⟩
 | m+1,k,hg=>by
  obtain ⟨xs,h1,h2,h3⟩:=hg 0 (by omega)
  rw[Nat.add_zero] at h1
  obtain ⟨xss,a0,a1,a2,a3⟩:=wE (m:=m) (k:=k+1) fun i hi=>by
   have:=hg (i+1) (by omega)
   rwa [show k+(i+1)=k+1+i by omega] at this
  refine ⟨xs::xss,by simp[a0],fun ys hy=>?_,?_,fun y hy=>?_⟩
  ·rcases List.mem_cons.1 hy with rfl | hy
   ·exact h3
   ·exact a1 ys hy
  ·have e:(cs.drop (k*P.cellsOf e)).take ((m+1)*P.cellsOf e)=(cs.drop (k*P.cellsOf e)).take (P.cellsOf e)++(cs.drop ((k+1)*P.cellsOf e)).take (m*P.cellsOf e):=by
    rw[show (m+1)*P.cellsOf e=P.cellsOf e+m*P.cellsOf e by rw[Nat.add_mul];omega,List.take_add,List.drop_drop,Nat.add_mul,Nat.one_mul]
   rw[e,List.flatten_cons]
   exact h1.append a2
  ·rw[List.flatten_cons,List.mem_append] at hy
   rcases hy with hy | hy
   ·exact h2 y hy
   ·exact a3 y hy
theorem tL:∀(n:Nat) (t:TypeId),lO P n t=true->∀(fuel:Nat) (cs:List Value) (x:DataW H×List MemPlace),DataW.trod enc P w 0 (fun _=>true) true fuel t cs=some x->∃xs,uc P w n t xs cs:=by
 intro n
 induction n with
 | zero=>intro t h;simp[lO] at h
 | succ n ih =>
  intro t h fuel cs x hx
  unfold lO at h
  split at h
  ·rename_i hu
   obtain ⟨b,rfl,-⟩:=DataW.trod_bool hu hx
   refine ⟨[.bool b],⟨rfl,fun i x v h1 h2=>?_⟩,fun y hy=>?_,?_⟩
   ·cases i with
    | zero=>simp at h1 h2;subst h1;subst h2;exact .bool _ _
    | succ i=>simp at h1
   ·simp at hy;subst hy;exact ⟨rfl,.bool _⟩
   ·unfold Sh;rw[hu];exact ⟨b,rfl⟩
  ·rename_i k hu
   obtain ⟨z,rfl,-,hwf⟩:=DataW.trod_int hu hx
   refine ⟨[.int k z],⟨rfl,fun i x v h1 h2=>?_⟩,fun y hy=>?_,?_⟩
   ·cases i with
    | zero=>simp at h1 h2;subst h1;subst h2;exact .int _ _ _
    | succ i=>simp at h1
   ·simp at hy;subst hy;exact ⟨rfl,.int _ _⟩
   ·unfold Sh;rw[hu];exact ⟨z,rfl,hwf⟩
  ·rename_i e hu
   rw[Bool.and_eq_true,decide_eq_true_eq] at h
   obtain ⟨hpos,hp⟩:=h
   rcases DataW.trod_slice hu hx with ⟨rfl,-⟩ | ⟨a,len,cap,elems,rest,m,-,rfl,-,-,hlc,hcm,hlen,hel,-,-⟩
   ·refine ⟨[.nils],⟨rfl,fun i x v h1 h2=>?_⟩,fun y hy=>?_,?_⟩
    ·cases i with
     | zero=>simp at h1 h2;subst h1;subst h2;exact .nils _
     | succ i=>simp at h1
    ·simp at hy;subst hy;exact ⟨rfl,.nils⟩
    ·unfold Sh;rw[hu];exact .inl rfl
   ·have each:∀i,i<len->∃xs vs,w.cells? 0 (a.add (i*P.cellsOf e)) (P.cellsOf e)=some vs/\uc P w n e xs vs:=by
     intro i hi
     have:=hel i hi
     rw[List.getElem?_eq_getElem (show i<elems.length by omega),Option.bind_eq_some_iff] at this
     obtain ⟨vs,h1,h2⟩:=this
     obtain ⟨xs,hg⟩:=ih e hp _ _ _ h2
     exact ⟨xs,vs,h1,hg⟩
    let rowf:Nat->List AV:=fun i=>if hi:i<len then Classical.choose (each i hi) else []
    let valf:Nat->List Value:=fun i=>if hi:i<len then Classical.choose (Classical.choose_spec (each i hi)) else []
    have hrow:∀i,i<len->w.cells? 0 (a.add (i*P.cellsOf e)) (P.cellsOf e)=some (valf i)/\uc P w n e (rowf i) (valf i):=by
     intro i hi
     have:=Classical.choose_spec (Classical.choose_spec (each i hi))
     simpa only[rowf,valf,dif_pos hi] using this
    have hget:∀(i:Nat) (row:List AV),((List.range len).map rowf)[i]?=some row->i<len/\row=rowf i:=by
     intro i row h1
     rw[List.getElem?_map] at h1
     rcases Nat.lt_or_ge i len with hi | hi
     ·rw[List.getElem?_range hi] at h1
      injection h1 with h1
      exact ⟨hi,h1.symm⟩
     ·rw[List.getElem?_eq_none (by simpa using hi)] at h1;cases h1
    refine ⟨[.tsl 0 (P.cellsOf e) ((List.range len).map rowf)],⟨rfl,fun i x v h1 h2=>?_⟩,fun y hy=>?_,?_⟩
    ·cases i with
     | succ i=>simp at h1
     | zero =>
      simp at h1 h2;subst h1;subst h2
      rcases Nat.eq_zero_or_pos len with h0 | h0
      ·subst h0
       exact .tnil 0 0 _ a cap (Nat.le_refl _)
      ·obtain ⟨b,o,spot⟩:=a
       have hc0:=World.cells?_some (hrow 0 h0).1
       have hv0:(valf 0)[0]?=some (valf 0)[0]:=List.getElem?_eq_getElem (by rw[hc0.2.1];exact hpos)
       have h00:=hc0.2.2 0 hpos
       rw[hv0] at h00
       have hspot:spot=none:=by simpa [Addr.add] using World.cell?_spot h00
       subst hspot
       have cellat:∀i j row x,((List.range len).map rowf)[i]?=some row->row[j]?=some x->∃v,(valf i)[j]?=some v/\w.cell? (adr b (o+i*P.cellsOf e+j))=some v/\RV w gm0 av0 0 x v:=by
        intro i j row x hr hxj
        obtain ⟨hi,rfl⟩:=hget i row hr
        obtain ⟨q1,q2⟩:=hrow i hi
        have hj:j<(rowf i).length:=(List.getElem?_eq_some_iff.1 hxj).1
        have hj':j<(valf i).length:=by rw[<-q2.1.1];exact hj
        have hcs:=World.cells?_some q1
        have hcell:=hcs.2.2 j (by rw[<-hcs.2.1];exact hj')
        rw[List.getElem?_eq_getElem hj'] at hcell
        refine ⟨_,List.getElem?_eq_getElem hj',?_,q2.1.2 j x _ hxj (List.getElem?_eq_getElem hj')⟩
        rw[wR,show adr b (o+i*P.cellsOf e)=(⟨b,o+i*P.cellsOf e,none⟩:Addr) from rfl,wR] at hcell
        exact hcell
       have hb:b<w.heap.size:=by
        have:=pw h00
        simpa [Addr.add] using this
       have hrl:((List.range len).map rowf).length=len:=by simp
       have key:=RV.tsl (w:=w) (γ:=gm0) (A:=av0) 0 0 (P.cellsOf e) ((List.range len).map rowf) b o cap (fun i j=>(valf i)[j]?.getD undef) (Nat.le_refl _) (by rw[hrl];exact hlc) hb (CW b) (fun h=>h)
        (fun i row hr=>by
         obtain ⟨hi,rfl⟩:=hget i row hr
         obtain ⟨q1,q2⟩:=hrow i hi
         rw[q2.1.1,(World.cells?_some q1).2.1])
        (fun i j row x hr hxj=>by
         obtain ⟨hi,rfl⟩:=hget i row hr
         exact ((hrow i hi).2.2.1 x (List.mem_of_getElem? hxj)).1)
        (fun i j row x hr hxj=>by
         obtain ⟨v,v1,v2,v3⟩:=cellat i j row x hr hxj
         rw[v2,v1];rfl)
        (fun i j row x hr hxj=>by
         obtain ⟨v,v1,v2,v3⟩:=cellat i j row x hr hxj
         rw[v1];exact v3)
        (fun row hr x hx=>by
         obtain ⟨i,hi⟩:=List.getElem?_of_mem hr
         obtain ⟨hi2,rfl⟩:=hget i row hi
         exact ((hrow i hi2).2.2.1 x hx).2)
       rw[hrl] at key
       exact key
    ·simp only[List.mem_singleton] at hy;subst hy
     refine ⟨rfl,.tsl _ _ _ fun row hr x hx=>?_⟩
     obtain ⟨i,hi⟩:=List.getElem?_of_mem hr
     obtain ⟨hi2,rfl⟩:=hget i row hi
     exact ((hrow i hi2).2.2.1 x hx).2
    ·unfold Sh;rw[hu]
     refine .inr ⟨_,rfl,?_,fun row hr=>?_⟩
     ·rw[List.length_map,List.length_range]
      have:maxLen<9223372036854775808:=by decide
      omega
     ·obtain ⟨i,hi⟩:=List.getElem?_of_mem hr
      obtain ⟨hi2,rfl⟩:=hget i row hi
      exact (hrow i hi2).2.2.2
  ·rename_i fs hu
   rw[Bool.and_eq_true] at h
   obtain ⟨hc,hp⟩:=h
   have hc:lV P fs.toList 0=some (P.cellsOf t):=eq_of_beq hc
   obtain ⟨ys,m,-,-,hl,hyl,hel⟩:=DataW.trod_struct hu hx
   obtain ⟨xss,a1,a2,a3⟩:=zE (w:=w) (n:=n) (cs:=cs) hc fun f hf=>by
    obtain ⟨i,hi,e⟩:=List.mem_iff_getElem.1 hf
    have hfi:fs[i]?=some f:=by rw[<-Array.getElem?_toList,List.getElem?_eq_getElem hi,e]
    have:=hel i f hfi
    rw[List.getElem?_eq_getElem (show i<ys.length by rw[hyl];simpa using hi)] at this
    exact ih f.type (List.all_eq_true.1 hp f hf) _ _ _ this
   rw[List.drop_zero,Nat.sub_zero,<-hl,List.take_length] at a2
   refine ⟨xss.flatten,a2,a3,?_⟩
   unfold Sh;rw[hu];exact ⟨xss,rfl,a1⟩
  ·rename_i m e hu
   rw[Bool.and_eq_true,decide_eq_true_eq] at h
   obtain ⟨hc,hp⟩:=h
   obtain ⟨ys,q,-,-,hl,hyl,hel⟩:=DataW.trod_array hu hx
   obtain ⟨xss,a0,a1,a2,a3⟩:=wE (w:=w) (n:=n) (e:=e) (cs:=cs) (m:=m) (k:=0) fun i hi=>by
    have:=hel i hi
    rw[List.getElem?_eq_getElem (show i<ys.length by omega)] at this
    rw[Nat.zero_add]
    exact ih e hp _ _ _ this
   rw[Nat.zero_mul,List.drop_zero,hc,<-hl,List.take_length] at a2
   refine ⟨xss.flatten,a2,a3,?_⟩
   unfold Sh;rw[hu];exact ⟨xss,rfl,a0,a1⟩
  ·cases h
theorem Cg {n:Nat}{t:TypeId}{xs:List AV}(hu:P.underlying t=some (.int .u8))(h:Sh P n t xs):∃x:UInt8,Rp.rp NoP 0 .nil x xs:=by
 cases n with
 | zero=>exact h.elim
 | succ n =>
  unfold Sh at h;rw[hu] at h
  obtain ⟨z,rfl,hw⟩:=h
  simp only[Lit.wf,IntKind.min,IntKind.max,IntKind.signed,IntKind.bits,Bool.and_eq_true] at hw
  refine ⟨UInt8.ofNat z.toNat,z7.2 ?_⟩
  have h1:0<=z:=by simpa using hw.1
  have h2:z<=255:=by simpa using hw.2
  have h3:(UInt8.ofNat z.toNat).toNat=z.toNat:=UInt8.toNat_ofNat_of_lt' (by show z.toNat<256;omega)
  rw[h3,Int.toNat_of_nonneg h1]
theorem rL {α:Type} [Rp α]{n:Nat}{t e:TypeId}{xs:List AV}(hu:P.underlying t=some (.slice e))(hsz:P.cellsOf e=Rp.sz α)(hel:∀ys,Sh P n e ys->∃y:α,Rp.rp NoP 0 .nil y ys)(h:Sh P (n+1) t xs) :
  ∃l:List α,Rp.rp NoP 0 .nil l xs:=by
 unfold Sh at h;rw[hu] at h
 rcases h with rfl | ⟨rows,rfl,hl,hr⟩
 ·exact ⟨[],.nils,rfl,by simp,rfl⟩
 ·have:∀rows:List (List AV),(∀row∈rows,Sh P n e row)->∃l:List α,All2 (Rp.rp NoP 0 .nil) l rows:=by
   intro rows
   induction rows with
   | nil=>intro _;exact ⟨[],trivial⟩
   | cons r rows ih =>
    intro h
    obtain ⟨y,hy⟩:=hel r (h r (by simp))
    obtain ⟨l,hl⟩:=ih fun row hrow=>h row (by simp[hrow])
    exact ⟨y::l,hy,hl⟩
  obtain ⟨l,ha⟩:=this rows hr
  exact ⟨l,_,rfl,by rw[ha.len];exact hl,Nat.le_refl _,.inl hsz,ha⟩
theorem yn {n:Nat}{t:TypeId}{fs:Array Field}{xs:List AV}(hu:P.underlying t=some (.struct fs))(h:Sh P (n+1) t xs):∃xss,xs=xss.flatten/\All2 (fun (f:Field) ys=>Sh P n f.type ys) fs.toList xss:=by
 unfold Sh at h;rw[hu] at h;exact h
end Hx
end
