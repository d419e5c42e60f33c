/- A part of the proof: what the functions of the chapter compute. -/
import Derived.Below
import Derived.Laws.Externs
import Derived.Test.YteaikmdilmfbeaaGreatHx6
set_option linter.all false
set_option maxRecDepth 20000
set_option maxHeartbeats 8000000
namespace Hx
open Go
noncomputable section
variable {b nt c B ti m:Nat}{v:AV}{df:List ADf}{P:Program}{g' g:G}{body:SC}{Q:QT}{t:T}{rd:Option Nat}{assign:Code}{tmps:Array Value}{K:AV->G->Prop}{D:ADf->Prop}
section
variable {body:Code}{t':T}{df':List ADf}
section
variable {C:Cfg}{A:Nat->Nat->Prop}{bd:Nat}{w w':World}{γ γ':Gm}{hg:Nat->AObj}{nx:Nat}
variable {t:T}{g:G}{ih:IH}
def RJ(C:Cfg)(A:Nat->Nat->Prop)(bd nt:Nat)(b:Frame)(k:List Item)(cs:List Frame)(m:Machine)(w:World)(γ:Gm)(hg:Nat->AObj)(nx:Nat)(g:G)(e:Ex)(t':T)(df':List ADf)(g':G):Prop :=
 ∃a' w' γ' hg',Fin C A bd w γ hg nx g w' γ' hg' g'/\TR w' γ' A bd nt t' a'.tmps/\DR w' γ' A bd df' a'.defers/\Arr C.P m b k cs e a' w'
theorem Hl(hC:CfgOk C)(hi:IHOk C ih){ops:Array Oper}{draw:Bool}{rid:Nat}{e:Ex}
  (h:(fV C nt ops.toList draw).run ih (bd+1) rd t df g=.ok e t' df' g'):zd C bd nt rd (.region rid ops draw) t df g e t' df' g':=by
 intro A w γ hg nx b a k cs hr hx B hf ht E W l;unfold fV at h;rw[aa]at h
 split at h
 rotate_left
 ·rename_i c;have c:draw=false:=by simpa using c
  subst c;obtain⟨rfl,a',w',γ',hg',f,tr,dr,st⟩:=K6 (b:=b) (cs:=cs) (k:=k) hC hi ops.toList 0 (by simp) h B hr hx hf ht E W l;refine⟨a',w',γ',hg',f,tr,dr,.head stepR_region ?_⟩;rw[WK];simpa using st
 rename_i c;subst c;rw[aa]at h
 split at h
 rotate_left
 ·cases h
 rename_i d;have d:pB 0 ops.toList=true/\na (bo ops.toList []) 0 ops.toList=true /\
   kI (λi x j y=>((bo ops.toList []).getD j 0).testBit i || kg ops.toList x y) 0 ops.toList=true:=by
  simp only[Ec,TM]at d;exact⟨d.1.1,d.1.2,d.2⟩
 obtain⟨P,Q,S⟩:=d;have r:∀i o,ops[i]?=some o->∀e∈o.after.toList,Region.binds .any e=true->e.on<i:=by intro i o ho e he hb;have:=BP P i o (by simpa using ho) e he hb;omega
 have m:∀i o j b,ops[i]?=some o->o.guard=some (j,b)->((bo ops.toList []).getD i 0).testBit j=true:=by intro i o j b ho hg';have:=AI Q i o (by simpa using ho) j b hg';simpa using this
 have u:∀i j oi oj,i<j->ops[i]?=some oi->ops[j]?=some oj->((bo ops.toList []).getD j 0).testBit i=true\/kg ops.toList oi oj=true:=by intro i j oi oj F U V;have:=wc S i j oi oj F (by simpa using U) (by simpa using V);simpa using this
 have M:∀id,(γ id).kind=0->hg id=.none:=λid h=>(hr.none_iff id).1 h;rw[aa]at h
 split at h
 ·
  rename_i hq;dsimp only at h;generalize hc:(jU C nt ops.toList ops.toList).run ih (bd+1) rd t df (aR g [])=cr at h;cases cr with
  |fail=>cases h
  | ok e1 t1 df1 g1 =>
   simp only[np]at h;cases hlg:g1.lg with
   |cons x xs=>rw[hlg]at h;cases h
   | nil =>
    rw[hlg]at h;dsimp only at h;rw[aa]at h
    split at h
    rotate_left
    ·cases h
    rename_i z;have z:=aH z;injection h with h1 h2 h3 h4;subst h1;subst h2;subst h3;subst h4;obtain⟨rfl,rfl,T',G',F',a1,a2,K,a4,J,D⟩:=Ke hC hi ops.toList 0 hc (λo ho=>Ue.1 hq o ho) (by simp) hlg B.setLog;simp only[Uy,WQ]at K a4 J;have R:Reg C ih bd rd nt ops true T' G' F' hg:=by
     refine⟨hC,hi,λi o ho=>J i o (by simpa using ho),by rw[a2];exact B.setLog,by rw[a2];simpa using hx,λid h1 h2=>?_,λi j _ _=>.inr ?_,λi j j' _ _ _ _ _ _ hm=>?_,u,m,λ_ i _=>D i⟩
     ·rw[a2]at h1;rw[a4,z]at h2;exact M id (hf id (by simpa using h1) h2)
     ·simp[bF,jx,fY,D]
     ·rw[D j]at hm;simp[meets]at hm
    obtain⟨a',w',γ',hg',s,v,I,q,p,st⟩:=EX (b:=b) (k:=k) (cs:=cs) (id:=rid) R hC.mixed r hr (by rw[a1];exact ht) l;have H:∀id,hg' id=hg id:=λid=>by
     rcases p id with⟨⟨j,_,h⟩,_⟩|⟨_,h⟩
     ·rw[D j]at h;exact absurd h TY
     ·exact h
    refine⟨a',w',γ',hg',⟨?_,v,⟨[],rfl,λ_ h=>absurd h TY,λid _=>H id⟩⟩,by rw[<-K];exact I,by rw[q];exact E.step v,st⟩;rw[a4,z]at s;exact s
 ·dsimp only at h;obtain⟨rfl,rfl,T',G',F',a1,a2,K,a4,J,D⟩:=Ly ops.toList 0 h;simp only[Uy,WQ,Ug,Ud]at K a4 J D;obtain⟨b1,b2⟩:=HU D;have L:∀j,j<ops.size->((List.range ops.size).map F')[j]?=some (F' j):=λj hj=>by simp[VD hj]
  have R:Reg C ih bd rd nt ops false T' G' F' hg:=by
   refine⟨hC,hi,λi o ho=>(J i o (by simpa using ho)).1,by rw[a2];exact B,by rw[a2];exact hx,λid h1 h2=>?_,λi j F hj=>?_,λi j j' h1 h2 h3 h4 h5 h6 h7 h8=>?_,u,m,λh=>by cases h⟩
   ·rw[a2]at h1;rw[a4]at h2;exact M id (hf id h1 h2)
   ·have:=wc b1 i j _ _ F (L i (by omega)) (L j hj);simpa using this
   ·exact Eo b2 i j j' _ _ _ h1 h2 (L i (by omega)) (L j (by omega)) (L j' h3) h4 (by simpa using h5) (by simpa using h6) h7 h8
  obtain⟨a',w',γ',hg',s,v,I,q,p,st⟩:=EX (b:=b) (k:=k) (cs:=cs) (id:=rid) R hC.mixed r hr (by rw[a1];exact ht) l;have N:∀n,n<=ops.size->∃new,(G' n).lg=new++g.lg/\∀id,id∈new↔∃j,j<n/\id∈(F' j).wr:=by
   intro n
   induction n with
   |zero=>intro _;exact⟨[],by rw[a2];rfl,λid=>⟨λh=>absurd h TY,λ⟨j,h,_⟩=>absurd h (Nat.not_lt_zero j)⟩⟩
   | succ n ihn =>
    intro X;obtain⟨new,e1,e2⟩:=ihn (by omega);have O:n<ops.size:=by omega
    have:=(J n ops[n] (by rw[WG];exact TZ O)).2;refine⟨(F' n).wr++new,by rw[this,e1,UJ],λid=>?_⟩;rw[Uk,e2];constructor
    ·rintro (h|⟨j,h1,h2⟩)
     ·exact⟨n,by omega,h⟩
     ·exact⟨j,by omega,h2⟩
    ·rintro⟨j,h1,h2⟩
     by_cases hj:j=n
     ·subst hj;exact .inl h2
     ·exact .inr ⟨j,by omega,h2⟩
  obtain⟨new,e1,e2⟩:=N ops.size (TG _);refine⟨a',w',γ',hg',⟨by rw[a4]at s;exact s,v,⟨new,by rw[<-a4];exact e1,λid hid=>?_,λid hid=>?_⟩⟩,by rw[<-K];exact I,by rw[q];exact E.step v,st⟩
  ·rcases p id with⟨_,h⟩|⟨h1,_⟩
   ·rw[h,a4]
   ·obtain⟨j,h2,h3⟩:=(e2 id).1 hid;exact absurd h3 (h1 j h2)
  ·rcases p id with⟨h1,_⟩|⟨_,h⟩
   ·exact absurd ((e2 id).2 h1) hid
   ·exact h
theorem bY{b:Frame}{a:Act}{k:List Item}{cs:List Frame}{c:Code} :
  step P (lone (b.atR a (.code (.scope c)::k)) cs w)=.next (lone (b.atR a (.code c::.inScope c::k)) cs w) :=
 step_lone_go (by simp[stepG,stepG.exec,Frame.atR])
theorem o_{b:Frame}{a:Act}{k:List Item}{cs:List Frame}{c:Code} :
  step P (lone (b.atR a (.inScope c::k)) cs w)=.next (lone (b.atR a k) cs w) :=
 step_lone_go (by simp[stepG,stepG.exec,Frame.atR])
theorem fR{m m1 X:Machine}(h:Steps P m X)(hne:m≠X)(hs:step P m=.next m1):Steps P m1 X:=by
 obtain⟨n,k⟩:=h;cases n with
 |zero=>simp[runN]at k;exact absurd k hne
 |succ n=>exact⟨n,by simpa [runN,hs] using k⟩
theorem BC{b b':Frame}{a a':Act}{k k':List Item}{cs cs':List Frame}{w w':World}(h:lone (b.atR a k) cs w=lone (b'.atR a' k') cs' w'):k=k':=by
 have h1:(lone (b.atR a k) cs w).gs=(lone (b'.atR a' k') cs' w').gs:=by rw[h]
 simp only[lone,Array.mk.injEq,List.cons.injEq,and_true]at h1;have h2:=congrArg (λg:Goroutine=>g.frame.todo) h1;simpa [Frame.atR] using h2
theorem uP(hC:CfgOk C)(hi:IHOk C ih){fo:Operand}{s:Stg (T->AV)}{ps:Array Tmp}{dfr:Nat}{e:Ex}
  (hs:aU C fo=some s) (h:cN C ih nt (bd+1) rd (s.run t) ps.toList assign body t df dfr g=.ok e t' df' g')
  (hwf:WF g) {b:Frame} {a:Act} {k:List Item} {cs:List Frame} {mark:List Deferred} {blk:Nat}
  (hr:Rel C A bd w γ hg nx) (hx:Ext g.h hg) (hf:Free γ g g') (ht:TR w γ A bd nt t a.tmps) (hdf:DR w γ A bd df (mark++a.defers)) (hrd:RdOk γ rd b) (hcalm:pf b.kind cs)
  (hdfr:(γ dfr).kind=4/\(γ dfr).blk=blk) {w00:World}
  (henter:(Instr.enterLoop b.fn a.tmps ps assign body b.roundOf).run C.P w00=.ok (w.heap.size,mark) (World.add w (.loop { state:=.ready,pending:=none,fn:=b.fn,tmps:=a.tmps,params:=ps,assign,body,defers:=blk }))) :
  RJ C A bd nt b k cs (lone (b.atR a (.code (.rangeFunc fo ps assign body)::k)) cs w00) w γ hg nx g e t' df' g':=by
 unfold cN at h;have K:=aD hs ht hr;generalize hfo:a.eval fo=vf at K;generalize s.run t=y at h K;cases K with
 | clo _ f xs ys vs1 us1 hl hl2 h1 h2 =>
  dsimp only at h;rw[aa]at h
  split at h
  ·cases h
  split at h
  rotate_left
  ·cases h
  rename_i rv0 g2 q
  let L:Loop:={ state:=.ready,pending:=none,fn:=b.fn,tmps:=a.tmps,params:=ps,assign,body,defers:=blk }
  let w1:=World.add w (.loop L)
  let gh:Gh:=⟨3,0,0,0,w.heap.size,0,0,true⟩
  have B:Mon g (g.new (.loop nt t ps.toList assign body dfr .ready none)):=Mon.mk';have wf1:=B.wf hwf;have H:=hi.mon.call _ _ _ _ _ _ q wf1;have wf2:=H.wf wf1;have m3:=wZ hi.mon h wf2;have j:(γ g.nx).kind=0:=hf g.nx (TG _) (T6 B.nx (T6 H.nx m3.nx));have F:dfr≠g.nx:=by rintro rfl;rw[hdfr.1]at j;cases j
  obtain⟨r1,s1⟩:=hr.add (id:=g.nx) (gh:=gh) (o:=.loop L) (ao:=.loop nt t ps.toList assign body dfr .ready none) (nx':=Nat.max nx (g.nx+1)) j rfl (Vb _ _) (TU (Nat.lt_succ_self _) (VB _ _)) (by
   have s0:=Er (w:=w) (o:=.loop L) (gh:=gh) j rfl;refine⟨by simp[gh],by simp[gh],L,by rw[kH];simp[gh],rfl,rfl,rfl,rfl,rfl,ht.1,λi=>(ht.2 i).step s0,?_,?_⟩
   ·rw[bZ _ _ F];exact hdfr.1
   ·rw[bZ _ _ F];exact hdfr.2.symm)
  have f1:Fin C A bd w γ hg nx g w1 (upd γ g.nx gh) _ (g.new (.loop nt t ps.toList assign body dfr .ready none)):=RO r1 s1;have h5:=f1.ext B hx;have Z:=f1.freed hr B hf;obtain⟨Q,W⟩:=hi.call _ _ _ _ _ _ q;have h7:RV w1 (upd γ g.nx gh) A bd (.yld g.nx) (.func (.yield w.heap.size) #[] #[]):=.yld _ _ _ (by simp[gh]) (by simp[gh]);have I:RVs w1 (upd γ g.nx gh) A bd (xs++(.yld g.nx::ys)) (vs1.toList++(.func (.yield w.heap.size) #[] #[]::us1.toList)):=by
   refine ((RT hl h1).step s1).append ?_;have hu:=(RT hl2 h2).step s1;refine⟨by simp[hu.1],λi x v hx' hv=>?_⟩;cases i with
   |zero=>simp at hx' hv;subst hx';subst hv;exact h7
   |succ i=>exact hu.2 i x v (by simpa using hx') (by simpa using hv)
  let a1:Act:={ a with defers:=mark++a.defers }
  let fr1:=b.atR a1 (.inRangeFunc w.heap.size::k)
  obtain⟨u,X,γ2,S,f2,_,fr,st,q1,q2,q3,q4,fn,q5,q6⟩:=W A w1 _ _ _ _ f1.rel h5 wf1 (Z.le m3.nx) I .normal (fr1::cs) (.inl rfl);have D:=f1.trans f2 B H;have h6:=D.ext (B.trans H) hx;have N:(vs1.toList++(.func (.yield w.heap.size) #[] #[]::us1.toList)).toArray=(vs1++#[.func (.yield w.heap.size) #[] #[]])++us1:=by apply WI;simp
  rw[N]at st;have E:step C.P (lone (b.atR a (.code (.rangeFunc fo ps assign body)::k)) cs w00)=.next (lone (Frame.enter C.P f ((vs1++#[.func (.yield w.heap.size) #[] #[]])++us1) .normal) (fr1::cs) w1):=by
   refine stepR_rangeFunc (l:=w.heap.size) (mark:=mark) (w₁:=w1) (w₁':=w1) (d:={ target:=.fn (.func f) us1,args:=vs1++#[.func (.yield w.heap.size) #[] #[]] }) henter ?_ ?_
   ·simp only[resolve];rw[hfo];simp[Deferred.ofValue,Act.eval]
   ·exact Q _ _
  have R:fr1.finish u=b.atR a1 (.endRangeFunc w.heap.size::k):=finish_atR_inRangeFunc _ _;have J:Steps C.P (lone (b.atR a (.code (.rangeFunc fo ps assign body)::k)) cs w00) (lone (b.atR a1 (.endRangeFunc w.heap.size::k)) cs X):=by refine .head E (Steps.trans st (.one ?_));rw[<-R];exact step_leave_returned ⟨q1,q2,q3,fn,by rw[q4];exact q5,q6⟩
  unfold dY at h
  split at h
  rotate_left
  ·cases h
  rename_i nt3 t3 ps3 assign3 body3 dfr3 st3 pend3 n;have n:g2.h.get g.nx=.loop nt3 t3 ps3 assign3 body3 dfr3 st3 pend3:=by simpa using n
  have U:S g.nx=.loop nt3 t3 ps3 assign3 body3 dfr3 st3 pend3:=by rw[h6 g.nx (by rw[n];simp),n]
  have V:=D.rel.obj g.nx;rw[U]at V;obtain⟨k1,k2,L2,Y,k4,k5,k6,k7,k8,k9,h9,ha,hc⟩:=V;have O:(γ2 g.nx).blk=w.heap.size:=by have:=f2.stp.blk_eq (id:=g.nx) (by simp[gh]) (by simp[gh]);rw[this];simp[gh]
  obtain⟨r3,s3⟩:=D.rel.setLoop (st':=.exhausted) (pend':=pend3) U Y;rw[O]at Y r3 s3;have f3:Fin C A bd X γ2 S (Nat.max nx g2.nx) g2 _ γ2 _ (g2.put g.nx (.loop nt3 t3 ps3 assign3 body3 dfr3 .exhausted pend3)):=RP r3 s3;have M:Mon g2 (g2.put g.nx (.loop nt3 t3 ps3 assign3 body3 dfr3 .exhausted pend3)):=Mon.put wf2 (by rw[n];simp);have m:=D.trans f3 (B.trans H) M;have h8:(γ2 g.nx).kind≠0:=by rw[k1];decide
  have r:st3≠.busy->(Instr.endLoop w.heap.size).run C.P X=.ok pend3 (World.setBlk X w.heap.size (.loop { L2 with state:=.exhausted,pending:=pend3 })):=by
   intro h4;unfold Instr.endLoop;have hb:(L2.state == LoopState.busy)=false:=by rw[k4];cases st3<;>first|rfl|exact absurd rfl h4
   simp only[TV,kT Y,TQ,hb,VO,if_false,Un,tT Y];subst k5
   rfl
  have z:Stp w γ (World.setBlk X w.heap.size (.loop { L2 with state:=.exhausted,pending:=pend3 })) γ2:=m.stp
  split at h
  ·cases h
  ·rename_i h3;have r:=r (by rintro rfl;exact h3 rfl);have p:=Steps.trans J (.one (stepR_endRangeFunc (P:=C.P) (b:=b) (a:=a1) (k:=k) (cs:=cs) r))
   split at h
   ·injection h with e1 e2 e3 e4;subst e1;subst e2;subst e3;subst e4;exact⟨a1,_,γ2,_,m,ht.step z,hdf.step z,by simpa [Arr] using p⟩
   ·rename_i c;have m5:=hi.mon.code _ _ _ _ _ _ _ _ _ _ _ h (M.wf wf2);obtain⟨a',w',γ',hg',f4,tr,dr,ar⟩:=hi.code _ _ _ _ _ _ _ _ _ _ _ h A _ _ _ _ b a1 k cs m.rel (m.ext ((B.trans H).trans M) hx) (M.wf wf2) (m.freed hr ((B.trans H).trans M) hf)
     (ht.step z) (hdf.step z) (hrd.step z) hcalm
    exact⟨a',w',γ',hg',m.trans f4 ((B.trans H).trans M) m5,tr,dr,ar.of_steps (by simpa using p)⟩
 |_=>cases h
theorem A2{o:Obj}:(newObj o).run P w=.ok w.heap.size (World.add w o):=by simp[newObj,Sem.run,World.add]
theorem BQ{fn:FuncId}{ps:Array Tmp} :
  (Instr.enterLoop fn tmps ps assign body none).run P w=.ok (w.heap.size+1,[{ target:=.collected w.heap.size,args:=#[] }])
   (World.add (World.add w (.deferred (some []))) (.loop { state:=.ready,pending:=none,fn,tmps,params:=ps,assign,body,defers:=w.heap.size })):=by
 unfold Instr.enterLoop;simp only[TV,A2,TQ,Un,add_size]
theorem Dw{fn:FuncId}{ps:Array Tmp}{l:Nat}{L:Loop}(h:w.heap[l]?=some (.loop L)) :
  (Instr.enterLoop fn tmps ps assign body (some l)).run P w=.ok (w.heap.size,[])
   (World.add w (.loop { state:=.ready,pending:=none,fn,tmps,params:=ps,assign,body,defers:=L.defers })):=by
 unfold Instr.enterLoop;simp only[TV,kT h,A2,TQ,Un]
theorem Hk(hC:CfgOk C)(hi:IHOk C ih){fo:Operand}{s:Stg (T->AV)}{ps:Array Tmp}{e:Ex}
  (hs:aU C fo=some s) (h:nq C nt s.run ps.toList assign body ih (bd+1) rd t df g=.ok e t' df' g'):zd C bd nt rd (.rangeFunc fo ps assign body) t df g e t' df' g':=by
 intro A w γ hg nx b a k cs hr hx q hf ht m j f;unfold nq at h;cases rd with
 | some l =>
  dsimp only at h
  split at h
  rotate_left
  ·cases h
  rename_i nt0 t0 ps0 as0 bo0 dfr st0 pe0 d;have d:g.h.get l=.loop nt0 t0 ps0 as0 bo0 dfr st0 pe0:=by simpa using d
  have u:hg l=.loop nt0 t0 ps0 as0 bo0 dfr st0 pe0:=by rw[hx l (by rw[d];simp),d]
  have n:=hr.obj l;rw[u]at n;obtain⟨F,k2,L,D,H,I,J,K,M,N,B,v,x⟩:=n;have c:=Dw (P:=C.P) (fn:=b.fn) (tmps:=a.tmps) (ps:=ps) (assign:=assign) (body:=body) D;rw[x,<-j.2]at c;exact uP (mark:=[]) hC hi hs h q hr hx hf ht m j f ⟨v,rfl⟩ c
 | none =>
  dsimp only at h
  let gh:Gh:=⟨4,0,0,0,w.heap.size,0,0,true⟩
  have r:Mon g (g.new (.dfr true)):=Mon.mk';have wf1:=r.wf q;have z:=o4 hi.mon h wf1;have i:(γ g.nx).kind=0:=hf g.nx (TG _) (T6 r.nx z.nx);obtain⟨E,y⟩:=hr.add (id:=g.nx) (gh:=gh) (o:=.deferred (some [])) (ao:=.dfr true) (nx':=Nat.max nx (g.nx+1)) i rfl (Vb _ _) (TU (Nat.lt_succ_self _) (VB _ _)) (by
   refine⟨by simp[gh],by simp[gh],by rw[kH];simp[gh]⟩)
  have f1:Fin C A bd w γ hg nx g _ (upd γ g.nx gh) _ (g.new (.dfr true)):=RO E y;have c:=BQ (P:=C.P) (w:=w) (fn:=b.fn) (tmps:=a.tmps) (ps:=ps) (assign:=assign) (body:=body);have p:b.roundOf=none:=j;rw[<-p]at c;obtain⟨a',w',γ',hg',f2,tr,dr,ar⟩:=uP (nt:=nt) (rd:=none) (b:=b) (a:=a) (k:=k) (cs:=cs) (mark:=[{ target:=.collected w.heap.size,args:=#[] }]) (blk:=w.heap.size) (w00:=w) hC hi hs h wf1 f1.rel (f1.ext r hx) (f1.freed hr r hf)
   (ht.step y) ⟨⟨by simp[gh],by simp[gh]⟩,m.step y⟩ p f ⟨by simp[gh],by simp[gh]⟩ (by simpa using c)
  exact⟨a',w',γ',hg',f1.trans f2 r z,tr,dr,ar⟩
theorem xx(hC:CfgOk C)(hi:IHOk C ih):∀(c:Code) {t:T} {df:List ADf} {g:G} {e:Ex} {t':T} {df':List ADf} {g':G},
  (aS C nt c).run ih (bd+1) rd t df g=.ok e t' df' g'->zd C bd nt rd c t df g e t' df' g':=by
 intro c
 induction c with
 | skip =>
  intro t df g e t' df' g' h A w γ hg nx b a k cs hr hx n hf ht i o d;simp only[aS]at h;injection h with h1 h2 h3 h4;subst h1;subst h2;subst h3;subst h4;exact⟨a,w,γ,hg,Fin.refl hr,ht,i,.one stepR_skip⟩
 | label l =>
  intro t df g e t' df' g' h A w γ hg nx b a k cs hr hx n hf ht i o d;simp only[aS]at h;injection h with h1 h2 h3 h4;subst h1;subst h2;subst h3;subst h4;exact⟨a,w,γ,hg,Fin.refl hr,ht,i,.one stepR_label⟩
 |region id ops draw=>intro t df g e t' df' g' h;exact Hl hC hi h
 | seq x y ihx ihy =>
  intro t df g e t' df' g' h A w γ hg nx b a k cs hr hx n hf ht i o d;simp only[aS]at h;generalize hc:(aS C nt x).run ih (bd+1) rd t df g=r at h;cases r with
  |fail=>cases h
  | ok e1 t1 df1 g1 =>
   have q:=jT hC.mon hi.mon _ hc n;have wf1:=q.wf n;cases e1 with
   | norm =>
    have h:(aS C nt y).run ih (bd+1) rd t1 df1 g1=.ok e t' df' g':=h;have z:=jT hC.mon hi.mon _ h wf1;obtain⟨a1,w1,γ1,m,f1,tr1,dr1,ar1⟩:=ihx hc A w γ hg nx b a (.code y::k) cs hr hx n (hf.le z.nx) ht i o d;obtain⟨a2,E,γ2,u,f2,tr2,dr2,ar2⟩:=ihy h A w1 γ1 m _ b a1 k cs f1.rel (f1.ext q hx) wf1 (f1.freed hr q hf) tr1 dr1 (o.step f1.stp) d;exact⟨a2,E,γ2,u,f1.trans f2 q z,tr2,dr2,ar2.of_steps (.head stepR_seq ar1)⟩
   | exit j =>
    have h:CR.ok (.exit j) t1 df1 g1=.ok e t' df' g':=h;injection h with h1 h2 h3 h4;subst h1;subst h2;subst h3;subst h4;obtain⟨a1,w1,γ1,m,f1,tr1,dr1,k₁,hk,ar1⟩:=ihx hc A w γ hg nx b a (.code y::k) cs hr hx n hf ht i o d;exact⟨a1,w1,γ1,m,f1,tr1,dr1,k₁,by rw[hk];rfl,.head stepR_seq ar1⟩
   | ret =>
    have h:CR.ok .ret t1 df1 g1=.ok e t' df' g':=h;injection h with h1 h2 h3 h4;subst h1;subst h2;subst h3;subst h4;obtain⟨a1,w1,γ1,m,f1,tr1,dr1,k₁,ar1⟩:=ihx hc A w γ hg nx b a (.code y::k) cs hr hx n hf ht i o d;exact⟨a1,w1,γ1,m,f1,tr1,dr1,k₁,.head stepR_seq ar1⟩
 | cond c x y ihx ihy =>
  intro t df g e t' df' g' h A w γ hg nx b a k cs hr hx n hf ht i o d;simp only[aS]at h
  split at h
  rotate_left
  ·cases h
  rename_i s hs;dsimp only at h;have D:=aD hs ht hr;generalize hcv:a.eval c=vc at D;generalize s.run t=cv at h D;cases D with
  | bool _ bv =>
   dsimp only at h;cases bv with
   | true =>
    obtain⟨a1,w1,γ1,m,f1,tr1,dr1,ar1⟩:=ihx h A w γ hg nx b a k cs hr hx n hf ht i o d;exact⟨a1,w1,γ1,m,f1,tr1,dr1,ar1.of_steps (.one (by simpa using stepR_cond (P:=C.P) (b:=b) (a:=a) (k:=k) (cs:=cs) (w:=w) (x:=x) (y:=y) hcv))⟩
   | false =>
    obtain⟨a1,w1,γ1,m,f1,tr1,dr1,ar1⟩:=ihy h A w γ hg nx b a k cs hr hx n hf ht i o d;exact⟨a1,w1,γ1,m,f1,tr1,dr1,ar1.of_steps (.one (by simpa using stepR_cond (P:=C.P) (b:=b) (a:=a) (k:=k) (cs:=cs) (w:=w) (x:=x) (y:=y) hcv))⟩
  |_=>cases h
 | block id body ihb =>
  intro t df g e t' df' g' h A w γ hg nx b a k cs hr hx n hf ht i o d;simp only[aS]at h;generalize hc:(aS C nt body).run ih (bd+1) rd t df g=r at h;cases r with
  |fail=>cases h
  | ok e1 t1 df1 g1 =>
   cases e1 with
   | norm =>
    have h:CR.ok .norm t1 df1 g1=.ok e t' df' g':=h;injection h with h1 h2 h3 h4;subst h1;subst h2;subst h3;subst h4;obtain⟨a1,w1,γ1,m,f1,tr1,dr1,ar1⟩:=ihb hc A w γ hg nx b a (.inBlock id::k) cs hr hx n hf ht i o d;exact⟨a1,w1,γ1,m,f1,tr1,dr1,.head stepR_block (Steps.trans ar1 (.one stepR_inBlock))⟩
   | exit j =>
    simp only[uR,aa]at h
    split at h
    ·rename_i v;have v:=aH v;subst v;injection h with h1 h2 h3 h4;subst h1;subst h2;subst h3;subst h4;obtain⟨a1,w1,γ1,m,f1,tr1,dr1,k₁,hk,ar1⟩:=ihb hc A w γ hg nx b a (.inBlock j::k) cs hr hx n hf ht i o d;exact⟨a1,w1,γ1,m,f1,tr1,dr1,.head stepR_block (Steps.trans ar1 (.one (stepR_exit (by rw[hk];simp[exitTo]))))⟩
    ·rename_i v;injection h with h1 h2 h3 h4;subst h1;subst h2;subst h3;subst h4;obtain⟨a1,w1,γ1,m,f1,tr1,dr1,k₁,hk,ar1⟩:=ihb hc A w γ hg nx b a (.inBlock id::k) cs hr hx n hf ht i o d;refine⟨a1,w1,γ1,m,f1,tr1,dr1,k₁,?_,.head stepR_block ar1⟩;rw[hk];have B:(id == j)=false:=by simp only[beq_eq_false_iff_ne,ne_eq];rintro rfl;exact v (Uv _)
     simp[exitTo,B]
   | ret =>
    have h:CR.ok .ret t1 df1 g1=.ok e t' df' g':=h;injection h with h1 h2 h3 h4;subst h1;subst h2;subst h3;subst h4;obtain⟨a1,w1,γ1,m,f1,tr1,dr1,k₁,ar1⟩:=ihb hc A w γ hg nx b a (.inBlock id::k) cs hr hx n hf ht i o d;exact⟨a1,w1,γ1,m,f1,tr1,dr1,k₁,.head stepR_block ar1⟩
 | loop body ihb =>
  intro t df g e t' df' g' h A w γ hg nx b a k cs hr hx n hf ht i o d;simp only[aS]at h;generalize hc:(aS C nt body).run ih (bd+1) rd t df g=r at h;cases r with
  |fail=>cases h
  | ok e1 t1 df1 g1 =>
   have q:=jT hC.mon hi.mon _ hc n;have wf1:=q.wf n;cases e1 with
   | norm =>
    have h:ih.code nt (bd+1) rd (.loop body) t1 df1 g1=.ok e t' df' g':=h;have z:=hi.mon.code _ _ _ _ _ _ _ _ _ _ _ h wf1;obtain⟨a1,w1,γ1,m,f1,tr1,dr1,ar1⟩:=ihb hc A w γ hg nx b a (.inLoop body::k) cs hr hx n (hf.le z.nx) ht i o d;obtain⟨a2,E,γ2,u,f2,tr2,dr2,ar2⟩:=hi.code _ _ _ _ _ _ _ _ _ _ _ h A w1 γ1 m _ b a1 k cs f1.rel (f1.ext q hx) wf1 (f1.freed hr q hf) tr1 dr1 (o.step f1.stp) d;refine⟨a2,E,γ2,u,f1.trans f2 q z,tr2,dr2,Arr.of_steps (.head stepR_loop (Steps.trans ar1 (.one stepR_inLoop))) ?_⟩;have p:step C.P (lone (b.atR a1 (.code (.loop body)::k)) cs w1)=.next (lone (b.atR a1 (.code body::.inLoop body::k)) cs w1):=stepR_loop;have ne:∀{a':Act} {k':List Item} {w':World},k'≠.code (.loop body)::k->lone (b.atR a1 (.code (.loop body)::k)) cs w1≠lone (b.atR a' k') cs w':=λh h'=>h (BC h').symm;cases e with
    |norm=>exact fR ar2 (ne (λh=>by have:=congrArg List.length h;simp at this)) p
    | exit j =>
     obtain⟨k₁,hk,ar2⟩:=ar2;exact⟨k₁,hk,fR ar2 (ne (λh=>by injection h with h _;injection h with h;cases h)) p⟩
    | ret =>
     obtain⟨k₁,ar2⟩:=ar2;exact⟨k₁,fR ar2 (ne (λh=>by injection h with h _;injection h with h;cases h)) p⟩
   | exit j =>
    have h:CR.ok (.exit j) t1 df1 g1=.ok e t' df' g':=h;injection h with h1 h2 h3 h4;subst h1;subst h2;subst h3;subst h4;obtain⟨a1,w1,γ1,m,f1,tr1,dr1,k₁,hk,ar1⟩:=ihb hc A w γ hg nx b a (.inLoop body::k) cs hr hx n hf ht i o d;exact⟨a1,w1,γ1,m,f1,tr1,dr1,k₁,by rw[hk];rfl,.head stepR_loop ar1⟩
   | ret =>
    have h:CR.ok .ret t1 df1 g1=.ok e t' df' g':=h;injection h with h1 h2 h3 h4;subst h1;subst h2;subst h3;subst h4;obtain⟨a1,w1,γ1,m,f1,tr1,dr1,k₁,ar1⟩:=ihb hc A w γ hg nx b a (.inLoop body::k) cs hr hx n hf ht i o d;exact⟨a1,w1,γ1,m,f1,tr1,dr1,k₁,.head stepR_loop ar1⟩
 | scope body ihb =>
  intro t df g e t' df' g' h A w γ hg nx b a k cs hr hx n hf ht i o d;have h:(aS C nt body).run ih (bd+1) rd t df g=.ok e t' df' g':=h;obtain⟨a1,w1,γ1,m,f1,tr1,dr1,ar1⟩:=ihb h A w γ hg nx b a (.inScope body::k) cs hr hx n hf ht i o d;refine⟨a1,w1,γ1,m,f1,tr1,dr1,?_⟩;cases e with
  |norm=>exact .head bY (Steps.trans ar1 (.one o_))
  |exit j=>obtain⟨k₁,hk,ar1⟩:=ar1;exact⟨k₁,by rw[hk];rfl,.head bY ar1⟩
  |ret=>obtain⟨k₁,ar1⟩:=ar1;exact⟨k₁,.head bY ar1⟩
 | exit id =>
  intro t df g e t' df' g' h A w γ hg nx b a k cs hr hx n hf ht i o d;simp only[aS]at h;injection h with h1 h2 h3 h4;subst h1;subst h2;subst h3;subst h4;exact⟨a,w,γ,hg,Fin.refl hr,ht,i,k,rfl,Steps.refl _ _⟩
 | ret =>
  intro t df g e t' df' g' h A w γ hg nx b a k cs hr hx n hf ht i o d;simp only[aS]at h;injection h with h1 h2 h3 h4;subst h1;subst h2;subst h3;subst h4;exact⟨a,w,γ,hg,Fin.refl hr,ht,i,k,Steps.refl _ _⟩
 | rangeFunc f ps assign body _ _ =>
  intro t df g e t' df' g' h;simp only[aS]at h
  split at h
  ·rename_i s hs;exact Hk hC hi hs h
  ·cases h
 |_=>intro t df g e t' df' g' h;cases h
theorem JS(fr:Frame)(h:fr.mode=.returning):({ fr with mode:=.returning }:Frame)=fr:=by cases fr;simp at h;subst h;rfl
theorem Db(hi:IHOk C ih):∀{df:List ADf} {g g':G},d8 ih (bd+1) df g=some g'->WF g ->
  ∀{w γ hg nx} {fr:Frame} {cs:List Frame},Rel C A bd w γ hg nx->Ext g.h hg->Free γ g g'->DR w γ A bd df fr.defers->fr.mode=.returning ->
   ∃w' γ' hg',Fin C A bd w γ hg nx g w' γ' hg' g'/\Steps C.P (lone fr cs w) (lone { fr with defers:=[] } cs w'):=by
 intro df
 induction df with
 | nil =>
  intro g g' h _ w γ hg nx fr cs hr hx hf k hm;simp only[d8]at h;injection h with h;subst h;have hd:fr.defers=[]:=by
   cases hd:fr.defers with
   |nil=>rfl
   |cons d ds=>rw[hd]at k;exact k.elim
  refine⟨w,γ,hg,Fin.refl hr,?_⟩;have:({ fr with defers:=[] }:Frame)=fr:=by cases fr;simp at hd;subst hd;rfl
  rw[this];exact Steps.refl _ _
 | cons x df ihl =>
  intro g g' h b w γ hg nx fr cs hr hx hf k hm;cases hd:fr.defers with
  |nil=>rw[hd]at k;cases x<;>exact k.elim
  | cons d ds =>
   rw[hd]at k;cases x with
   | mark id =>
    obtain⟨⟨hk,rfl⟩,k⟩:=k;simp only[d8]at h
    split at h
    ·rename_i a;have a:g.h.get id=.dfr true:=by simpa using a
     have B:hg id=.dfr true:=by rw[hx id (by rw[a];simp),a]
     have r:=hr.obj id;rw[B]at r;obtain⟨E,k2,F⟩:=r;have q:(γ id).kind≠0:=by rw[E];decide
     have i:Mon g (g.put id (.dfr false)):=Mon.put b (by rw[a];simp);obtain⟨M,H⟩:=hr.setBlk (id:=id) (o:=.deferred none) (ao:=.dfr false) q k2 ⟨E,k2,by rw[a7];simp[(hr.lt id q).2]⟩;have f1:Fin C A bd w γ hg nx g _ γ _ (g.put id (.dfr false)):=RP M H;have t:=mg hi.mon h (i.wf b);obtain⟨w',γ',hg',f2,st⟩:=ihl h (i.wf b) (fr:={ fr with defers:=ds }) (cs:=cs) f1.rel (f1.ext i hx) (f1.freed hr i hf) (k.step H) hm;refine⟨w',γ',hg',f1.trans f2 i t,.head (step_lone_go ?_) st⟩;have m:(Instr.takeDeferred (γ id).blk).run C.P w=.ok [] (World.setBlk w (γ id).blk (.deferred none)):=by unfold Instr.takeDeferred;simp only[TV,fM F (by simp),TQ,if_true,ii F (by simp),Un]
     simp[stepG,hm,unwind,hd,Sem.runT_eq,m,GStep.bare_after]
    ·cases h
   | call fv args =>
    obtain⟨⟨f,ys,us,rfl,j,D,l⟩,k⟩:=k;simp only[d8]at h
    split at h
    rotate_left
    ·cases h
    rename_i v g1 e;have i:=hi.mon.call _ _ _ _ _ _ e b;have wf1:=i.wf b;have t:=mg hi.mon h wf1;obtain⟨p,s⟩:=hi.call _ _ _ _ _ _ e
    let fr0:Frame:={ fr with defers:=ds }
    obtain⟨u,w1,γ1,I,f1,_,frX,st,J,q2,q3,K,fn,q5,L⟩:=s A w γ hg nx (d.args.toList++us.toList) hr hx b (hf.le t.nx) (by simpa using l.append D) .deferred (fr0::cs) (.inr ⟨rfl,fr0,cs,rfl,.inl hm⟩);have n:(d.args.toList++us.toList).toArray=d.args++us:=by apply WI;simp
    rw[n]at st;obtain⟨w',γ',hg',f2,st2⟩:=ihl h wf1 (fr:=fr0) (cs:=cs) f1.rel (f1.ext i hx) (f1.freed hr i hf) (k.step f1.stp) hm;refine⟨w',γ',hg',f1.trans f2 i t,.head (step_defer (by rw[hm];simp) hd j ?_) (Steps.trans st (.head ?_ st2))⟩
    ·rw[j];simp only[invoke];exact p _ _
    ·have z:frX.going C.P w1 (.returned u):=⟨J,q2,fn,by rw[K];exact q5,L⟩;have:=step_going_returned (P:=C.P) (c:=fr0) (cs:=cs) q3 z;have hs:settle fr0.mode=.returning:=by have:fr0.mode=.returning:=hm;rw[this];rfl
     rw[hs]at this;have y:({ fr0 with mode:=.returning }:Frame)=fr0:=by exact JS fr0 hm
     rw[y]at this;exact this
theorem Fu{ty:TypeId}{x v:Value}{w w':World}(h:(do loadVar ty (<-Instr.sureAddr x):Sem Value).run P w=.ok v w') :
  (do loadVar ty (<-asAddr x):Sem Value).run P w=.ok v w':=by
 cases x with
 |pointer p=>cases p<;>simp[Instr.sureAddr,asAddr]at h ⊢;exact h
 |_=>simp[Instr.sureAddr]at h
theorem zU(hC:CfgOk C)(ht:TR w γ A bd nt t tmps)(hr:Rel C A bd w γ hg nx)(hx:Ext g.h hg):∀{rs:List ResultVar} {k:Stg (T->G->Option (List AV))} {vs:List AV},rT C rs=some k->k.run t g=some vs ->
  ∃us:List Value,(rs.mapM (fun|.tmp t=>pure (tmps.getD t undef)|.cell a t=>do loadVar t (<-asAddr (tmps.getD a undef))):Sem (List Value)).run C.P w=.ok us w/\RVs w γ A bd vs us:=by
 intro rs
 induction rs with
 |nil=>intro k vs h b;simp[rT]at h;subst h;simp at b;subst b;exact⟨[],by simp,rfl,λi x v h=>by simp at h⟩
 | cons r rs ihr =>
  intro k vs h b;cases r with
  | tmp n =>
   simp only[rT]at h
   split at h
   ·rename_i k0 e;injection h with h;subst h;dsimp only at b
    split at b
    ·rename_i vs0 c;injection b with b;subst b;obtain⟨us,h1,h2⟩:=ihr e c;refine⟨tmps.getD n undef::us,?_,by simp[h2.1],λi x v hx' hv'=>?_⟩
     ·rw[List.mapM_cons];simp only[TV,Un,TQ,h1]
     ·cases i with
      |zero=>simp at hx' hv';subst hx';subst hv';simpa [UA] using ht.2 n
      |succ i=>exact h2.2 i x v (by simpa using hx') (by simpa using hv')
    ·cases b
   ·cases h
  | cell ad ty =>
   simp only[rT]at h
   split at h
   ·rename_i k0 l e hl;injection h with h;subst h;dsimp only at b
    split at b
    ·rename_i y m
     split at b
     ·rename_i vs0 c;injection b with b;subst b;obtain⟨us,h1,h2⟩:=ihr e c
      let o:Oper:={ (default:Oper) with op:=.load ty (.tmp ad) }
      have j:∀id∈bh C (.load ty (.tmp ad)) t g,hg id=g.h.get id:=by intro id d;exact hx id λq=>by rw[Gf hl d q]at m;cases m
      have f:∃v,(do loadVar ty (<-asAddr (tmps.getD ad undef)):Sem Value).run C.P w=.ok v w/\RV w γ A bd y v:=by
       simp only[cw]at hl
       split at hl
       ·rename_i s ag n hs p q;injection hl with hl;subst hl;have:=Fv (g:=g) (ty:=ty) (t:=t) hr (aD (a:={ tmps:=tmps,defers:=[] }) hs ht hr) p q (λid d=>j id (by simp[bh,aO,am,hs,d]));have m:nh ag n s.run t g=.val y:=m;rw[m]at this;obtain⟨v,h1,h2⟩:=this;refine⟨v,?_,h2⟩;have h1:(Instr.loadAt ty (tmps.getD ad undef)).run C.P w=.ok v w:=h1;unfold Instr.loadAt at h1;exact Fu h1
       ·cases hl
      obtain⟨v,h3,h4⟩:=f;refine⟨v::us,?_,by simp[h2.1],λi x v' hx' hv'=>?_⟩
      ·rw[List.mapM_cons];simp only[TV,Un];simp only[TV]at h3;rw[h3];simp only[TQ,h1]
      ·cases i with
       |zero=>simp at hx' hv';subst hx';subst hv';exact h4
       |succ i=>exact h2.2 i x v' (by simpa using hx') (by simpa using hv')
     ·cases b
    ·cases b
   ·cases h
theorem Ha:∀(vs:List AV) (i:Nat) (t:T) (s:Nat),(bN i vs t).get AV.undef s=if i<=s/\s<i+vs.length then vs.getD (s - i) AV.undef else t.get AV.undef s:=by
 intro vs
 induction vs with
 |nil=>intro i t s;simp only[bN,Vq];rw[TN (by omega)]
 | cons v vs ihv =>
  intro i t s;simp only[bN];rw[ihv,sp_get]
  by_cases h1:s=i
  ·subst h1;rw[TN (by omega),TO rfl,TO (by simp)];simp
  ·rw[TN h1]
   by_cases h2:i+1<=s/\s<i+1+vs.length
   ·rw[TO h2,TO (by simp;omega),show s - i=(s - (i+1))+1 by omega];simp
   ·rw[TN h2,TN (by simp;omega)]
theorem ze{as:List AV}{vs:List Value}(hv:RVs w γ A bd as vs)(hn:as.length<=nt) :
  TR w γ A bd nt (bN 0 as .nil) (vs.toArray++Array.replicate (nt - vs.toArray.size) undef):=by
 have hl:=hv.1;refine⟨by simp;omega,λs=>?_⟩;rw[Ha]
 by_cases hs:s<as.length
 ·rw[TO (by simpa using hs)];have h1:as[s]?=some (as[s]):=TH hs;have h2:vs[s]?=some (vs[s]'(by omega)):=TH (by omega);have:=hv.2 s _ _ h1 h2;have e1:as.getD (s - 0) AV.undef=as[s]:=by simp[Vw,h1]
  have e2:(vs.toArray++Array.replicate (nt - vs.toArray.size) undef).getD s undef=vs[s]'(by omega):=by rw[UA,U3 (by simp;omega)];simp[h2]
  rw[e1,e2];exact this
 ·rw[TN (by simpa using hs),RU];have e2:(vs.toArray++Array.replicate (nt - vs.toArray.size) undef).getD s undef=undef:=by
   rw[UA,Array.getElem?_append_right (by simp;omega),Array.getElem?_replicate]
   split<;>rfl
  rw[e2];exact cD
theorem tR{fn:Func}{us:List Value}
  (h:(fn.results.toList.mapM (fun|.tmp t=>pure (tmps.getD t undef)|.cell a t=>do loadVar t (<-asAddr (tmps.getD a undef))):Sem (List Value)).run P w=.ok us w) :
  ∃u,(results fn tmps).run P w=.ok u w/\∀{xs:List AV},RVs w γ A bd xs us->RV w γ A bd (gQ xs) u:=by
 have hm:(fn.results.mapM (fun|.tmp t=>pure (tmps.getD t undef)|.cell a t=>do loadVar t (<-asAddr (tmps.getD a undef))):Sem (Array Value)).run P w=.ok us.toArray w:=by
  rw[Array.mapM_eq_mapM_toList];simp only[Sem.run_map,h]
  rfl
 refine⟨if hs:us.toArray.size=1 then us.toArray[0] else .tuple us.toArray,?_,?_⟩
 ·unfold results;simp only[TV];have k:=hm;generalize hq:(fn.results.mapM (fun|.tmp t=>pure (tmps.getD t undef)|.cell a t=>do loadVar t (<-asAddr (tmps.getD a undef))):Sem (Array Value))=q at k;rw[k];simp only[TQ,Un]
 ·intro xs b;have hl:=b.1;have tup:RV w γ A bd (.tup xs) (.tuple us.toArray):=.tup _ _ _ (by simpa using hl) λi x v h1 h2=>b.2 i x v h1 (by simpa using h2);cases us with
  | nil =>
   have:xs=[]:=WA.1 hl;subst this;exact tup
  | cons u us =>
   cases us with
   | nil =>
    cases xs with
    |nil=>simp at hl
    | cons x xs =>
     have:xs=[]:=WA.1 (by simpa using hl);subst this;exact b.2 0 x u rfl rfl
   | cons u' us =>
    rw[dif_neg (by simp)];cases xs with
    |nil=>simp at hl
    | cons x xs =>
     cases xs with
     |nil=>simp at hl
     |cons x' xs=>exact tup
theorem N7(hC:CfgOk C)(hi:IHOk C ih){f:Nat}{x:Stg (IH->Nat->List AV->G->FR)}(hx:cFn C f=some x){as:List AV}
  (h:x.run ih (bd+1) as g=.ok v g'):Enters C.P f/\zc C bd f as g v g':=by
 unfold cFn at hx
 split at hx
 ·cases hx
 rename_i fn hfn
 split at hx
 ·cases hx
 rename_i c hbody
 split at hx
 rotate_left
 ·cases hx
 rename_i r hres;rw[aa]at hx
 split at hx
 ·cases hx
 rename_i hname;injection hx with hx;subst hx;refine⟨λargs w=>?_,?_⟩
 ·unfold callFunc;have hn : fn.name ≠ "runtime.NumGoroutine" := by simpa using hname
  simp[hfn,hn,hbody]
 intro A w γ hg nx vs hr hex hwf hf hv K cs hcalm;dsimp only at h;rw[aa]at h
 split at h
 rotate_left
 ·cases h
 rename_i hle;rw[Uw,aA]at hle
 let b:Frame:={ (default:Frame) with fn:=f,kind:=K,roundOf:=none }
 let a0:Act:={ tmps:=vs.toArray++Array.replicate (fn.ntmps - vs.toArray.size) undef,defers:=[] }
 have henter:Frame.enter C.P f vs.toArray K=b.atR a0 [.code c]:=by simp[Frame.enter,Frame.atR,hfn,hbody,b,a0]
 have key:∀{e:Ex} {t1:T} {df:List ADf} {g1:G},(aS C fn.ntmps c).run ih (bd+1) none (bN 0 as .nil) [] g=.ok e t1 df g1->(∀j,e≠.exit j)->cT ih (bd+1) r.run t1 df g1=.ok v g' ->
   ∃u w' γ' hg',Fin C A bd w γ hg nx g w' γ' hg' g'/\RV w' γ' A bd v u/\Outs C.P K f vs.toArray cs w u w':=by
  intro e t1 df g1 hc hne hend;have m1:=jT hC.mon hi.mon _ hc hwf;have wf1:=m1.wf hwf;unfold cT at hend
  split at hend
  ·cases hend
  rename_i g2 h2;have m2:=mg hi.mon h2 wf1
  split at hend
  rotate_left
  ·cases hend
  rename_i xs hxs;injection hend with h1 h2';subst h2';subst h1;obtain⟨a1,w1,γ1,hg1,f1,tr1,dr1,ar1⟩:=xx hC hi c hc A w γ hg nx b a0 [] cs hr hex hwf (hf.le m2.nx) (ze hv hle) trivial rfl hcalm;have hret:∃fr:Frame,Steps C.P (lone (Frame.enter C.P f vs.toArray K) cs w) (lone fr cs w1)/\fr.mode=.returning/\fr.defers=a1.defers/\fr.kind=K/\fr.fn=f/\fr.tmps=a1.tmps:=by
   rw[henter];cases e with
   |norm=>exact⟨{ b.atR a1 [] with mode:=.returning },Steps.trans ar1 (.one (stepR_end rfl)),rfl,rfl,rfl,rfl,rfl⟩
   | ret =>
    obtain⟨k₁,ar1⟩:=ar1;exact⟨{ b.atR a1 (.code .ret::k₁) with mode:=.returning },Steps.trans ar1 (.one (stepR_ret rfl)),rfl,rfl,rfl,rfl,rfl⟩
   |exit j=>exact absurd rfl (hne j)
  obtain⟨fr,st1,q1,q2,q3,q4,q5⟩:=hret;obtain⟨w2,γ2,hg2,f2,st2⟩:=Db hi h2 wf1 (fr:=fr) (cs:=cs) f1.rel (f1.ext m1 hex) (f1.freed hr m1 hf) (by rw[q2];exact dr1) q1;have f12:=f1.trans f2 m1 m2;obtain⟨us,hus,hrv⟩:=zU hC (tr1.step f2.stp) f12.rel (f12.ext (m1.trans m2) hex) hres hxs;obtain⟨u,hu,hone⟩:=tR (γ:=γ2) (A:=A) (bd:=bd) hus;exact⟨u,w2,γ2,hg2,f12,hone hrv,{ fr with defers:=[] },Steps.trans st1 st2,q1,rfl,q3,q4,fn,hfn,by
   have:({ fr with defers:=[] }:Frame).tmps=a1.tmps:=q5;rw[this];exact hu⟩
 split at h
 ·cases h
 ·rename_i e t1 df g1 hne hc;exact key hc (by rintro j rfl;exact hne j rfl) h
 ·cases h
theorem xZ(hC:CfgOk C):∀n,IHOk C (sem C n):=by
 intro n
 induction n with
 |zero=>exact⟨zu hC.mon 0,λbd f as g v g' h=>(by cases h),λbd nt rd c t df g e t' df' g' h=>(by cases h)⟩
 | succ n ihn =>
  refine⟨zu hC.mon (n+1),λbd f as g v g' h=>?_,λbd nt rd c t df g e t' df' g' h=>xx hC ihn c h⟩;change eE C (sem C n) (bd+1) f as g=.ok v g' at h;unfold eE at h
  split at h
  ·rename_i x hx;exact N7 hC ihn hx h
  ·cases h
end
end
end
end Hx
section
namespace Hx
open Go Go.RowKit
def gm0:Gm:=λ_=>⟨0,0,0,0,0,0,0,false⟩
def av0:Nat->Nat->Prop:=λ_ _=>False
theorem Rm(b:Nat):¬Mut gm0 b:=by rintro⟨id,h,_⟩;exact h rfl
abbrev RV0 (w:World)(x:AV)(v:Value):Prop:=RV w gm0 av0 0 x v
abbrev RVs0 (w:World)(xs:List AV)(vs:List Value):Prop:=RVs w gm0 av0 0 xs vs
theorem CH:G.empty.h.get=λ_=>AObj.none:=by funext id;simp[G.empty,H.get,RU]
theorem Dt{C:Cfg}(hC:CfgOk C){n f:Nat}{as:List AV}{v:AV}{g':G}(h:(sem C n).call 1 f as G.empty=.ok v g'){w:World}{vs:List Value}(hargs:RVs0 w as vs)
  (hglob:∀gl sz rows,C.glob gl=some (sz,rows)->RV0 w (.tptr 0 sz rows 0 0) (.pointer (some ⟨gl,0,none⟩))) :
  Calls C.P f vs.toArray w λe w'=>∃u γ' A',e=.returned u/\Below w.heap.size w w'/\RV w' γ' A' 0 v u:=by
 intro cs;have c:=xZ hC n;obtain⟨_,a⟩:=c.call 0 f as G.empty v g' h;have hr:Rel C av0 0 w gm0 (λ_=>.none) 0 :=
  ⟨λid=>rfl,λid h=>absurd rfl h,λi j h=>absurd rfl h,λid h=>absurd rfl h,λt b h=>h.elim,hglob⟩
 obtain⟨u,w',γ',hg',fin,rv,fr,st,l,q2,q3,d,fn,q5,m⟩:=a av0 w gm0 _ 0 vs hr (λid h=>by rw[CH]at h;exact absurd rfl h) (λid _=>by rw[CH]) (λ_ _ _=>rfl) hargs .normal cs (.inl rfl);refine⟨.returned u,w',fr,⟨u,γ',av0,rfl,⟨fin.stp.os,fin.stp.tape,fin.stp.output,fin.stp.sz,λk hk=>fin.stp.fr k hk (Rm k)⟩,rv⟩,st,d,l,q2,q3,fn,by rw[d];exact q5,m⟩
theorem G2{C:Cfg}(hC:CfgOk C){n f:Nat}{as:List AV}{g':G}(h:(sem C n).call 1 f as G.empty=.ok (.bool true) g'){w:World}{vs:List Value}(hargs:RVs0 w as vs)
  (hglob:∀gl sz rows,C.glob gl=some (sz,rows)->RV0 w (.tptr 0 sz rows 0 0) (.pointer (some ⟨gl,0,none⟩))) :
  Calls C.P f vs.toArray w λe w'=>e=.returned (.bool true)/\Below w.heap.size w w' :=
 (Dt hC h hargs hglob).mono λe w' ⟨u,γ',A',he,hb,rv⟩=>by cases rv;exact⟨he,hb⟩
end Hx
end
namespace Hx
open Go
noncomputable section
variable {b nt c B ti m:Nat}{v:AV}{df:List ADf}{P:Program}{g' g:G}{body:SC}{Q:QT}{t:T}{rd:Option Nat}{assign:Code}{tmps:Array Value}{K:AV->G->Prop}{D:ADf->Prop}
end
end Hx
section
namespace Hx
open Go Go.RowKit
theorem CfgOk.plain{P:Program}{iso:Nat->Bool}{glob:Nat->Option (Nat×List (List AV))}(hm:P.follows .mixedOrders=true)(hrf:P.follows .rangeFuncRecover=true) :
  CfgOk { P,iso,ext:=λ_=>none,glob } :=
 ⟨hm,hrf,λf e h=>(by cases h),λf e h=>(by cases h),λf e h=>(by cases h)⟩
theorem Rel.cfg{C C':Cfg}(h:C'.glob=C.glob){A:Nat->Nat->Prop}{bd:Nat}{w:World}{γ:Gm}{hg:Nat->AObj}{nx:Nat}(r:Rel C A bd w γ hg nx):Rel C' A bd w γ hg nx :=
 ⟨r.obj,r.lt,r.inj,r.av,r.ab,by rw[h];exact r.glob⟩
theorem Fin.cfg{C C':Cfg}(h:C'.glob=C.glob){A:Nat->Nat->Prop}{bd:Nat}{w w':World}{γ γ':Gm}{hg hg':Nat->AObj}{nx:Nat}{g g':G}(f:Fin C A bd w γ hg nx g w' γ' hg' g') :
  Fin C' A bd w γ hg nx g w' γ' hg' g':=⟨f.rel.cfg h,f.stp,f.new⟩
structure ExtOk (C:Cfg) (f:Nat) (e:Nat->List AV->G->OR):Prop where
 mon:∀d args g,WF g->Mon g (gOf g (e d args g))
 noDfr:∀d args g y,e d args g≠.dfr y
 run:∀A bd w γ hg nx g as vs,Rel C A bd w γ hg nx->WF g->(∀id∈as.flatMap (aw g.h aC),g.h.get id≠.none->hg id=g.h.get id)->Free γ g (gOf g (e (bd+1) as g)) ->
  RVs w γ A bd as vs->e (bd+1) as g≠.fail->∀cs,
  ∃u w' γ' hg',Fin C A bd w γ hg nx g w' γ' hg' (gOf g (e (bd+1) as g))/\RV w' γ' A bd (vOf (e (bd+1) as g)) u /\
   ((callFunc f vs.toArray).run C.P w=.ok (.value u) w'\/(Enters C.P f/\Outs C.P .normal f vs.toArray cs w u w'))
noncomputable def Cfg.add(C:Cfg)(f:Nat)(e:Nat->List AV->G->OR):Cfg:={ C with ext:=λk=>ay (Nat.beq k f) (some e) (C.ext k) }
theorem ExtOk.cfg{C C':Cfg}{f:Nat}{e:Nat->List AV->G->OR}(hp:C'.P=C.P)(hgl:C'.glob=C.glob)(h:ExtOk C f e):ExtOk C' f e:=by refine⟨h.mon,h.noDfr,λA bd w γ hg nx g as vs hr hwf hx hf hv hne cs=>?_⟩;obtain⟨u,w',γ',hg',fin,rv,out⟩:=h.run A bd w γ hg nx g as vs (hr.cfg hgl.symm) hwf hx hf hv hne cs;exact⟨u,w',γ',hg',fin.cfg hgl,rv,by rw[hp];exact out⟩
theorem CfgOk.add{C:Cfg}(h:CfgOk C){f:Nat}{e:Nat->List AV->G->OR}(he:ExtOk C f e):CfgOk (C.add f e):=by
 have which:∀k e',(C.add f e).ext k=some e'->(k=f/\e'=e)\/C.ext k=some e':=by
  intro k e' hk;have hk:ay (Nat.beq k f) (some e) (C.ext k)=some e':=hk;rw[aa]at hk
  split at hk
  ·rename_i hb;injection hk with hk;exact .inl ⟨aH hb,hk.symm⟩
  ·exact .inr hk
 refine⟨h.mixed,h.recov,λk e' hk d args g hwf=>?_,λk e' hk d args g y=>?_,λk e' hk A bd w γ hg nx g as vs hr hwf hx hf hv hne cs=>?_⟩
 ·rcases which k e' hk with⟨_,rfl⟩|hk
  ·exact he.mon d args g hwf
  ·exact h.mon k e' hk d args g hwf
 ·rcases which k e' hk with⟨_,rfl⟩|hk
  ·exact he.noDfr d args g y
  ·exact h.noDfr k e' hk d args g y
 ·rcases which k e' hk with⟨rfl,rfl⟩|hk
  ·obtain⟨u,w',γ',hg',fin,rv,out⟩:=he.run A bd w γ hg nx g as vs (Rel.cfg (C:=C.add k e') (C':=C) rfl hr) hwf hx hf hv hne cs;exact⟨u,w',γ',hg',Fin.cfg (C:=C) (C':=C.add k e') rfl fin,rv,out⟩
  ·obtain⟨u,w',γ',hg',fin,rv,out⟩:=h.ext k e' hk A bd w γ hg nx g as vs (Rel.cfg (C:=C.add f e) (C':=C) rfl hr) hwf hx hf hv hne cs;exact⟨u,w',γ',hg',Fin.cfg (C:=C) (C':=C.add f e) rfl fin,rv,out⟩
noncomputable def Ah(v:AV):Nat->List AV->G->OR:=λd as _ =>
 match d with
 | 1=>match as with
  |[]=>.val v
  |_=>.fail
 |_=>.fail
theorem Fp{ih:IH}{d:Nat}{g g0:G}{f:Nat}{v:AV}(h:af ih d g0 f []=.val v):af ih d g f []=.val v:=by
 unfold af at h ⊢;simp only[aF]at h ⊢;cases hc:ih.call (Nat.succ d) f [] G.empty with
 |fail=>rw[hc]at h;cases h
 | ok r g' =>
  rw[hc]at h;dsimp only at h ⊢;cases hs:snap g'.h 0 aC r with
  |none=>rw[hs]at h;cases h
  | some r' =>
   rw[hs]at h;dsimp only at h ⊢;cases hm:dZ aC r' with
   |none=>rw[hm]at h;cases h
   | some m =>
    rw[hm]at h;dsimp only at h ⊢;cases hb:Nat.blt m d with
    |true=>rw[hb]at h;exact h
    | false =>
     rw[hb]at h
     split at h
     ·cases h
     ·split at h
      ·cases h
      ·rename_i m' k;cases hb':Nat.blt m' d with
       |true=>rw[hb']at h;cases h
       |false=>rw[hb']at h;cases h
theorem Jz{C:Cfg}(hC:CfgOk C){n f:Nat}{v:AV}(h:af (sem C n) 1 G.empty f []=.val v):ExtOk C f (Ah v):=by
 have sh:∀d args g,Ah v d args g=.fail\/(d=1/\args=[]/\Ah v d args g=.val v):=by
  intro d args g;unfold Ah
  split
  ·split
   ·exact .inr ⟨rfl,rfl,rfl⟩
   ·exact .inl rfl
  ·exact .inl rfl
 refine⟨λd args g _=>?_,λd args g y hy=>?_,λA bd w γ hg nx g as vs hr hwf hx hf hv hne cs=>?_⟩
 ·rcases sh d args g with h|⟨_,_,h⟩<;>rw[h]<;>exact Mon.refl g
 ·rcases sh d args g with h|⟨_,_,h⟩<;>rw[h]at hy<;>cases hy
 ·rcases sh (bd+1) as g with h0|⟨h1,rfl,h0⟩
  ·exact absurd h0 hne
  ·have a:bd=0:=by omega
   subst a;have hc:=Fp (g:=g) h;rw[h0];have k:=xZ hC n;obtain⟨he,u,w',γ',hg',fin,rv,out⟩:=tM (args:=[]) (f:=f) k.call k.mon.call hr hx hv (by rw[hc];simp) cs;rw[hc]at fin rv;exact⟨u,w',γ',hg',fin,rv,.inr ⟨he,out⟩⟩
end Hx
end
namespace Hx
open Go
noncomputable section
variable {b nt c B ti m:Nat}{v:AV}{df:List ADf}{P:Program}{g' g:G}{body:SC}{Q:QT}{t:T}{rd:Option Nat}{assign:Code}{tmps:Array Value}{K:AV->G->Prop}{D:ADf->Prop}
section
variable {x y:Nat}
def kR(J:PT)(b:Nat)(Q:QT):QT:=λe t df g=>match e with
 |.norm=>J t df g
 |.exit x=>if x=b then J t df g else Q (.exit x) t df g
 |.ret=>Q .ret t df g
theorem DX(J:PT)(b:Nat)(Q:QT)(t:T)(df:List ADf)(g:G):kR J b Q .norm t df g=J t df g:=rfl
theorem qK(J:PT)(b x:Nat)(Q:QT)(t:T)(df:List ADf)(g:G):kR J b Q (.exit x) t df g=if x=b then J t df g else Q (.exit x) t df g:=rfl
theorem Mm(J:PT)(b:Nat)(Q:QT)(t:T)(df:List ADf)(g:G):kR J b Q .ret t df g=Q .ret t df g:=rfl
variable {C:Cfg}{d:Nat}{rd:Option Nat}
theorem bE:∀(s:SC) {Q Q':QT} {t:T} {df:List ADf} {g:G},wp C d rd s Q t df g->(∀e t df g,Q e t df g->Q' e t df g)->wp C d rd s Q' t df g:=by
 have j:∀(l:List SI) {Q Q':PT} {t:T} {df:List ADf} {g:G},wpO C d rd l Q t df g->(∀t df g,Q t df g->Q' t df g)->wpO C d rd l Q' t df g:=by
  intro l
  induction l with
  |nil=>intro Q Q' t df g h hq;exact hq _ _ _ h
  | cons i r ih =>
   intro Q Q' t df g h hq;have run:∀t df g,F9 C d rd i (wpO C d rd r Q) t df g->F9 C d rd i (wpO C d rd r Q') t df g:=λt df g h =>
    OR.sat_mono h (λv g' h=>ih h hq) (λa h=>ih h hq)
   have skp:∀t df g,Br i (wpO C d rd r Q) t df g->Br i (wpO C d rd r Q') t df g:=λt df g h=>ih h hq;unfold wpO at h ⊢
   split at h
   ·exact run _ _ _ h
   ·rename_i s w hg;unfold gdP at h ⊢
    split at h
    ·rw[aa]at h ⊢
     split at h
     ·rename_i hw;rw[TO hw];exact⟨λq=>run _ _ _ (h.1 q),λq=>skp _ _ _ (h.2 q)⟩
     ·rename_i hw;rw[TN hw];exact⟨λq=>skp _ _ _ (h.1 q),λq=>run _ _ _ (h.2 q)⟩
    ·exact skp _ _ _ h
    ·exact h
 have m:∀(pm:List Nat) (l:List SI) {Q Q':PT} {t:T} {df:List ADf} {g:G} {fs:List Foot},wpF C d rd pm l Q t df g fs->(∀t df g,Q t df g->Q' t df g)->wpF C d rd pm l Q' t df g fs:=by
  intro pm l
  induction l with
  |nil=>intro Q Q' t df g fs h hq;exact⟨h.1,hq _ _ _ h.2⟩
  | cons i r ih =>
   intro Q Q' t df g fs h hq;have run:∀t df g,Km C d rd i (wpF C d rd pm r Q) fs t df g->Km C d rd i (wpF C d rd pm r Q') fs t df g:=λt df g h =>
    OR.sat_mono h (λv g' h=>ih h hq) (λa h=>h)
   have skp:∀t df g,Gb i (wpF C d rd pm r Q) fs t df g->Gb i (wpF C d rd pm r Q') fs t df g:=λt df g h=>ih h hq;unfold wpF at h ⊢
   split at h
   ·exact run _ _ _ h
   ·rename_i s w hg;unfold gdP at h ⊢
    split at h
    ·rw[aa]at h ⊢
     split at h
     ·rename_i hw;rw[TO hw];exact⟨λq=>run _ _ _ (h.1 q),λq=>skp _ _ _ (h.2 q)⟩
     ·rename_i hw;rw[TN hw];exact⟨λq=>skp _ _ _ (h.1 q),λq=>run _ _ _ (h.2 q)⟩
    ·exact skp _ _ _ h
    ·exact h
 intro s
 induction s with
 |skip=>intro Q Q' t df g h hq;exact hq _ _ _ _ h
 |ops l=>intro Q Q' t df g h hq;exact j l h (hq _)
 |quiet l=>intro Q Q' t df g h hq;exact j l h (λt df g' h=>⟨h.1,h.2.1,hq _ _ _ _ h.2.2⟩)
 |feet pm l=>intro Q Q' t df g h hq;exact m pm l h (hq _)
 | seq a b iha ihb =>
  intro Q Q' t df g h hq;refine iha h λe t df g h=>?_;cases e with
  |norm=>exact ihb h hq
  |exit x=>exact hq _ _ _ _ h
  |ret=>exact hq _ _ _ _ h
 | cond c a b iha ihb =>
  intro Q Q' t df g h hq;have h:wpC (c.get t) (wp C d rd a Q) (wp C d rd b Q) t df g:=h;show wpC (c.get t) (wp C d rd a Q') (wp C d rd b Q') t df g;unfold wpC at h ⊢
  split at h
  ·exact⟨λq=>iha (h.1 q) hq,λq=>ihb (h.2 q) hq⟩
  ·exact h
 | blk id b ih =>
  intro Q Q' t df g h hq;refine ih h λe t df g h=>?_;cases e with
  |norm=>exact hq _ _ _ _ h
  | exit x =>
   rw[ub]at h ⊢
   split at h
   ·rename_i e;rw[TO e];exact hq _ _ _ _ h
   ·rename_i e;rw[TN e];exact hq _ _ _ _ h
  |ret=>exact hq _ _ _ _ h
 | loop b ih =>
  intro Q Q' t df g h hq;obtain⟨Inv,hk,hs⟩:=h;refine⟨Inv,hk,λk t df g hi=>ih (hs k t df g hi) λe t df g h=>?_⟩;cases e with
  |norm=>exact h
  |exit x=>exact hq _ _ _ _ h
  |ret=>exact hq _ _ _ _ h
 |exit id=>intro Q Q' t df g h hq;exact hq _ _ _ _ h
 |ret=>intro Q Q' t df g h hq;exact hq _ _ _ _ h
 |rng nt f ps a b _ _=>intro Q Q' t df g h hq assign body ha hb;exact CR.sat_mono (h assign body ha hb) hq
 |raw nt c=>intro Q Q' t df g h hq;exact CR.sat_mono h hq
theorem aI{tn k:Nat}(hm:m<9223372036854775808)(J:Nat->PT)
  (h0:J 0 t df g) (hi:tat t ti=.int .i64 0) (hn:tat t tn=.int .i64 (m:Int)) (hc:c≠ti/\c≠tn/\k≠tn/\ti≠tn/\b≠B)
  (hJ:∀j t df g v s,s=c\/s=ti\/s=k->J j t df g->J j (d6 t s v) df g)
  (step:∀j t df g,j<m->J j t df g->tat t ti=.int .i64 (j:Int)->tat t tn=.int .i64 (m:Int) ->
   wp C d rd body (kR (λt df g=>J (j+1) t df g/\tat t ti=.int .i64 (j:Int)/\tat t tn=.int .i64 (m:Int)) b Q) t df g)
  (fin:∀t df g,J m t df g->Q (.exit B) t df g) :
  wpL (wp C d rd (.seq (.ops [o c (.bin .lss (.t ti) (.t tn))]) (.seq (.cond (.t c) .skip (.exit B)) (.seq (.blk b body) (.ops [o k (.bin .add (.t ti) (.k (.int .i64 1))),o ti (.mv (.t k))]))))) Q t df g:=by
 obtain⟨c1,i,l,p,q⟩:=hc;refine eW (λn t df g=>∃j:Nat,n=m - j/\j<=m/\J j t df g/\tat t ti=.int .i64 (j:Int)/\tat t tn=.int .i64 (m:Int)) m ⟨0,by omega,by omega,h0,hi,hn⟩ ?_;rintro n t df g ⟨j,rfl,r,a,h1,h2⟩;simp only[sx,SO.run,↓reduceIte,h1,h2];refine⟨λhq=>?_,λhq=>?_⟩
 ·have hlt:j<m:=by simpa using hq
  simp only[sx];refine bE _ (step j _ df g hlt (hJ _ _ _ _ _ _ (.inl rfl) a) (by simp only[nA];rw[TN (VG c1),h1]) (by simp only[nA];rw[TN (VG i),h2])) λe t df g h=>?_;have key:J (j+1) t df g/\tat t ti=.int .i64 (j:Int)/\tat t tn=.int .i64 (m:Int)->wp C d rd (.ops [o k (.bin .add (.t ti) (.k (.int .i64 1))),o ti (.mv (.t k))])
    (kL (λn t df g=>∃j:Nat,n=m - j/\j<=m/\J j t df g/\tat t ti=.int .i64 (j:Int)/\tat t tn=.int .i64 (m:Int)) (m - j) Q) t df g:=by
   rintro⟨a1,a2,f⟩;simp only[sx,SO.run,a2,↓reduceIte];refine⟨_,?_,j+1,rfl,by omega,hJ _ _ _ _ _ _ (.inr (.inl rfl)) (hJ _ _ _ _ _ _ (.inr (.inr rfl)) a1),?_,?_⟩
   ·omega
   ·rw[ap (by omega) (by omega)];rfl
   ·rw[TN (VG p),TN (VG l),f]
  cases e with
  |norm=>exact key h
  |ret=>exact h
  | exit x =>
   rw[qK]at h;rw[ub]
   split at h
   ·rename_i e;rw[TO e];exact key h
   ·rename_i e;rw[TN e];exact h
 ·have:j=m:=by simp at hq;omega
  subst this;simp only[sx];exact fin _ _ _ (hJ _ _ _ _ _ _ (.inl rfl) a)
theorem Jb{Hd inc:SC}(J:Nat->PT)(h0:J 0 t df g)
  (hd:∀j t df g,j<=m->J j t df g->wp C d rd Hd (λe t df g=>e=.norm/\tat t c=.bool (decide (j<m))/\J j t df g) t df g)
  (step:∀j t df g,j<m->J j t df g->wp C d rd body (kR (λt df g=>wp C d rd inc (λe t df g=>e=.norm/\J (j+1) t df g) t df g) b Q) t df g)
  (fin:∀t df g,J m t df g->Q (.exit B) t df g) :
  wpL (wp C d rd (.seq (.seq Hd (.cond (.t c) .skip (.exit B))) (.seq (.blk b body) inc))) Q t df g:=by
 refine eW (λn t df g=>∃j:Nat,n=m - j/\j<=m/\J j t df g) m ⟨0,by omega,by omega,h0⟩ ?_;rintro n t df g ⟨j,rfl,a,k⟩;simp only[b_];refine bE _ (hd j t df g a k) ?_;rintro e t df g ⟨rfl,hq,k⟩;simp only[sx,hq];refine⟨λhq=>?_,λhq=>?_⟩
 ·have hlt:j<m:=by simpa using hq
  simp only[sx];refine bE _ (step j t df g hlt k) λe t df g h=>?_;have key:wp C d rd inc (λe t df g=>e=.norm/\J (j+1) t df g) t df g->wp C d rd inc (kL (λn t df g=>∃j:Nat,n=m - j/\j<=m/\J j t df g) (m - j) Q) t df g:=by intro h;refine bE _ h ?_;rintro e t df g ⟨rfl,h⟩;exact⟨_,by omega,j+1,rfl,by omega,h⟩
  cases e with
  |norm=>exact key h
  |ret=>exact h
  | exit x =>
   rw[qK]at h;rw[ub]
   split at h
   ·rename_i e;rw[TO e];exact key h
   ·rename_i e;rw[TN e];exact h
 ·have:j=m:=by simp at hq;omega
  subst this;simp only[sx];exact fin _ _ _ k
theorem zC{a b' e sl:Nat}(hm:m<9223372036854775808)(hlen:∀g,cH .slice v g=.val (.int .i64 (m:Int)))(J:Nat->PT)
  (h0:J 0 t df g) (hi:tat t ti=.int .i64 0) (hs:tat t sl=v)
  (hc:(a≠ti/\b'≠ti/\e≠ti/\c≠ti)/\(a≠sl/\b'≠sl/\e≠sl/\c≠sl/\x≠sl/\y≠sl/\ti≠sl)/\a≠b'/\a≠e/\x≠y)
  (hJ:∀j t df g v s,s=a\/s=b'\/s=e\/s=c\/s=ti\/s=x\/s=y->J j t df g->J j (d6 t s v) df g)
  (step:∀j t df g,j<m->J j t df g->tat t ti=.int .i64 (j:Int)->tat t sl=v ->
   wp C d rd body (kR (λt df g=>J (j+1) t df g/\tat t ti=.int .i64 (j:Int)/\tat t sl=v) b Q) t df g)
  (fin:∀t df g,J m t df g->tat t sl=v->Q (.exit B) t df g) :
  wpL (wp C d rd (.seq (.seq (.ops [o a (.mv (.t ti)),o b' (.mv (.t sl)),o e (.len .slice (.t b')),o c (.bin .lss (.t a) (.t e))]) (.cond (.t c) .skip (.exit B))) (.seq (.blk b body)
   (.ops [o x (.mv (.t ti)),o y (.bin .add (.t x) (.k (.int .i64 1))),o ti (.mv (.t y))])))) Q t df g:=by
 obtain⟨⟨n,q2,q3,p⟩,⟨q,r,u,w,r5,z,A⟩,i,l,D⟩:=hc;refine Jb (m:=m) (λj t df g=>J j t df g/\tat t ti=.int .i64 (j:Int)/\tat t sl=v) ⟨h0,hi,hs⟩ ?_ ?_ (λt df g h=>fin t df g h.1 h.2.2)
 ·rintro j t df g f ⟨h1,h2,h3⟩;simp only[sx,SO.run,h2,h3,hlen,i,l,VG q,↓reduceIte,VG n,VG q2,VG q3,VG p,VG r,VG u,VG w,true_and,and_true];refine⟨by congr 1;simp,hJ _ _ _ _ _ _ (.inr (.inr (.inr (.inl rfl)))) (hJ _ _ _ _ _ _ (.inr (.inr (.inl rfl))) (hJ _ _ _ _ _ _ (.inr (.inl rfl)) (hJ _ _ _ _ _ _ (.inl rfl) h1)))⟩
 ·rintro j t df g f ⟨h1,h2,h3⟩;refine bE _ (step j t df g f h1 h2 h3) λe t df g h=>?_;have key:J (j+1) t df g/\tat t ti=.int .i64 (j:Int)/\tat t sl=v->wp C d rd (.ops [o x (.mv (.t ti)),o y (.bin .add (.t x) (.k (.int .i64 1))),o ti (.mv (.t y))])
    (λe t df g=>e=.norm/\J (j+1) t df g/\tat t ti=.int .i64 ((j+1:Nat):Int)/\tat t sl=v) t df g:=by
   rintro⟨h1,h2,h3⟩;simp only[sx,SO.run,h2,↓reduceIte,VG r5,VG z,VG A,h3,true_and,and_true];refine⟨hJ _ _ _ _ _ _ (.inr (.inr (.inr (.inr (.inl rfl))))) (hJ _ _ _ _ _ _ (.inr (.inr (.inr (.inr (.inr (.inr rfl)))))) (hJ _ _ _ _ _ _ (.inr (.inr (.inr (.inr (.inr (.inl rfl)))))) h1)),?_⟩;rw[ap (by omega) (by omega)];rfl
  cases e with
  |norm=>exact key h
  |ret=>exact h
  | exit x =>
   rw[qK]at h ⊢
   split at h
   ·rename_i e;rw[TO e];exact key h
   ·rename_i e;rw[TN e];exact h
theorem xi{a:Nat}(hm:m<9223372036854775808)(J:Nat->PT)
  (h0:J m t df g) (hi:tat t ti=.int .i64 ((m:Int) - 1)) (hc:a≠ti/\c≠ti/\x≠ti)
  (hJ:∀j t df g v s,s=a\/s=c\/s=ti\/s=x\/s=y->J j t df g->J j (d6 t s v) df g)
  (step:∀j t df g,j<m->J (j+1) t df g->tat t ti=.int .i64 (j:Int)->wp C d rd body (kR (λt df g=>J j t df g/\tat t ti=.int .i64 (j:Int)) b Q) t df g)
  (fin:∀t df g,J 0 t df g->Q (.exit B) t df g) :
  wpL (wp C d rd (.seq (.seq (.ops [o a (.mv (.t ti)),o c (.bin .geq (.t a) (.k (.int .i64 0)))]) (.cond (.t c) .skip (.exit B))) (.seq (.blk b body)
   (.ops [o x (.mv (.t ti)),o y (.bin .sub (.t x) (.k (.int .i64 1))),o ti (.mv (.t y))])))) Q t df g:=by
 obtain⟨c1,i,l⟩:=hc;refine eW (λn t df g=>n<=m/\J n t df g/\tat t ti=.int .i64 ((n:Int) - 1)) m ⟨TG _,h0,hi⟩ ?_;rintro n t df g ⟨p,f,h1⟩;simp only[sx,SO.run,↓reduceIte,h1];refine⟨λhq=>?_,λhq=>?_⟩
 ·obtain⟨j,rfl⟩:∃j,n=j+1:=⟨n - 1,by simp at hq;omega⟩;simp only[sx];refine bE _ (step j _ df g (by omega) (hJ _ _ _ _ _ _ (.inr (.inl rfl)) (hJ _ _ _ _ _ _ (.inl rfl) f)) (by simp only[nA];rw[TN (VG i),TN (VG c1),h1];congr 1;omega)) λe t df g h=>?_;have key:J j t df g/\tat t ti=.int .i64 (j:Int)->wp C d rd (.ops [o x (.mv (.t ti)),o y (.bin .sub (.t x) (.k (.int .i64 1))),o ti (.mv (.t y))])
    (kL (λn t df g=>n<=m/\J n t df g/\tat t ti=.int .i64 ((n:Int) - 1)) (j+1) Q) t df g:=by
   rintro⟨a1,a2⟩;simp only[sx,SO.run,a2,↓reduceIte];refine⟨j,by omega,by omega,hJ _ _ _ _ _ _ (.inr (.inr (.inl rfl))) (hJ _ _ _ _ _ _ (.inr (.inr (.inr (.inr rfl)))) (hJ _ _ _ _ _ _ (.inr (.inr (.inr (.inl rfl)))) a1)),?_⟩;rw[ap (by omega) (by omega)]
  cases e with
  |norm=>exact key h
  |ret=>exact h
  | exit x =>
   rw[qK]at h;rw[ub]
   split at h
   ·rename_i e;rw[TO e];exact key h
   ·rename_i e;rw[TN e];exact h
 ·have:n=0:=by simp at hq;omega
  subst this;simp only[sx];exact fin _ _ _ (hJ _ _ _ _ _ _ (.inr (.inl rfl)) (hJ _ _ _ _ _ _ (.inl rfl) f))
theorem jE{Hd:List SI}(m:Nat)(hm:m<9223372036854775808)(J:Nat->PT)
  (h0:J 0 t df g) (hi:tat t ti=.int .i64 0) (hx:x≠ti)
  (hJ:∀j t df g v s,s=ti\/s=x\/s=y->J j t df g->J j (d6 t s v) df g)
  (hd:∀j t df g,j<=m->J j t df g->tat t ti=.int .i64 (j:Int)->wpO C d rd Hd (λt df g=>tat t c=.bool (decide ((j:Int)<(m:Int)))/\J j t df g/\tat t ti=.int .i64 (j:Int)) t df g)
  (step:∀j t df g,j<m->J j t df g->tat t ti=.int .i64 (j:Int)->wp C d rd body (kR (λt df g=>J (j+1) t df g/\tat t ti=.int .i64 (j:Int)) b Q) t df g)
  (fin:∀t df g,J m t df g->Q (.exit B) t df g) :
  wpL (wp C d rd (.seq (.seq (.ops Hd) (.cond (.t c) .skip (.exit B))) (.seq (.blk b body)
   (.ops [o x (.mv (.t ti)),o y (.bin .add (.t x) (.k (.int .i64 1))),o ti (.mv (.t y))])))) Q t df g:=by
 refine Jb (m:=m) (λj t df g=>J j t df g/\tat t ti=.int .i64 (j:Int)) ⟨h0,hi⟩ ?_ ?_ (λt df g h=>fin t df g h.1)
 ·rintro j t df g a ⟨h1,h2⟩;have:=hd j t df g a h1 h2;refine bE (.ops Hd) (Q:=λe t df g=>e=.norm/\tat t c=.bool (decide ((j:Int)<(m:Int)))/\J j t df g/\tat t ti=.int .i64 (j:Int)) (by rw[Ev];simpa using this) ?_;rintro e t df g ⟨rfl,a1,a2,f⟩;refine⟨rfl,?_,a2,f⟩;rw[a1];congr 1;simp
 ·rintro j t df g a ⟨h1,h2⟩;refine bE _ (step j t df g a h1 h2) λe t df g h=>?_;have key:J (j+1) t df g/\tat t ti=.int .i64 (j:Int)->wp C d rd (.ops [o x (.mv (.t ti)),o y (.bin .add (.t x) (.k (.int .i64 1))),o ti (.mv (.t y))])
    (λe t df g=>e=.norm/\J (j+1) t df g/\tat t ti=.int .i64 ((j+1:Nat):Int)) t df g:=by
   rintro⟨h1,h2⟩;simp only[sx,SO.run,h2,↓reduceIte,true_and];refine⟨hJ _ _ _ _ _ _ (.inl rfl) (hJ _ _ _ _ _ _ (.inr (.inr rfl)) (hJ _ _ _ _ _ _ (.inr (.inl rfl)) h1)),?_⟩;rw[ap (by omega) (by omega)];rfl
  cases e with
  |norm=>exact key h
  |ret=>exact h
  | exit x =>
   rw[qK]at h ⊢
   split at h
   ·rename_i e;rw[TO e];exact key h
   ·rename_i e;rw[TN e];exact h
end
section
variable {i n off:Nat}
def vid:AV->Option Nat
 |.hsl id _ _ _ _=>some id
 |_=>none
def Own(g:G)(b:Nat)(v:AV)(sz:Nat)(rows:List (List AV)):Prop :=
 (v=.nils/\rows=[])\/∃id ep lo,b<=id/\id<g.nx/\v=.hsl id ep 0 rows.length none/\g.h.get id=.cells sz rows ep lo false
theorem Own.rows{g:G}{b:Nat}{v:AV}{sz:Nat}{rows:List (List AV)}(h:Own g b v sz rows):ak g.h sz v=some rows:=by
 rcases h with⟨rfl,rfl⟩|⟨id,ep,lo,h1,h2,rfl,h3⟩
 ·rfl
 ·rw[eA,h3,yx]
theorem Own.fr{g:G}{sz:Nat}{rows:List (List AV)}(h:Own g b v sz rows)(hn:g.nx<=g'.nx)(hf:∀i,vid v=some i->g'.h.get i=g.h.get i):Own g' b v sz rows:=by
 rcases h with h|⟨id,ep,lo,h1,h2,rfl,h3⟩
 ·exact .inl h
 ·exact .inr ⟨id,ep,lo,h1,by omega,rfl,by rw[hf id rfl,h3]⟩
theorem Own.lt{g:G}{sz:Nat}{rows:List (List AV)}(h:Own g b v sz rows)(hi:vid v=some i):b<=i/\i<g.nx:=by
 rcases h with⟨rfl,-⟩|⟨id,ep,lo,h1,h2,rfl,h3⟩
 ·cases hi
 ·injection hi with hi;subst hi;exact⟨h1,h2⟩
theorem Own.cell{g:G}{sz:Nat}{rows:List (List AV)}(h:Own g b v sz rows):v.cells=[v]/\v.isTup=false:=by rcases h with⟨rfl,-⟩|⟨id,ep,lo,h1,h2,rfl,h3⟩<;>exact⟨rfl,rfl⟩
theorem bk{g:G}{x:AV}{sz bytes:Nat}{rows new:List (List AV)}(hv:Own g b v sz rows)(hx:ak g.h sz x=some new)(hb:b<=g.nx)
  (hr:(rows.length+new.length)*bytes<=aQ)
  (k:∀v' g',Own g' b v' sz (rows++new)->g.nx<=g'.nx->(∀i,i<g.nx->vid v≠some i->g'.h.get i=g.h.get i)->(vid v'=vid v\/∃i,vid v'=some i/\g.nx<=i)->(∀i∈g'.lg,i∈g.lg\/b<=i)->K v' g') :
  (di sz bytes v x g).sat K g D:=by
 unfold di;rw[hx];dsimp only;rcases hv with⟨rfl,rfl⟩|⟨id,ep,lo,h1,h2,rfl,h3⟩
 ·cases new with
  |nil=>exact k _ _ (.inl ⟨rfl,rfl⟩) (TG _) (λ_ _ _=>rfl) (.inl rfl) (λi hi=>.inl hi)
  | cons r new =>
   simp only[bg,aA,aa,Uw];rw[TO (by simpa using hr)];refine k _ _ (.inr ⟨g.nx,0,true,hb,by simp,rfl,by simp[aP]⟩) (by simp) (λi hi _=>?_) (.inr ⟨g.nx,rfl,TG _⟩) (λi hi=>by simp at hi;rcases hi with rfl|hi;exact .inr hb;exact .inl hi);rw[G.new_h,au _ _ _ (by omega)]
 ·simp only[bg,G.get_eq,h3,aA,aa,show Nat.beq ep ep=true from Uv ep,show Nat.beq sz sz=true from Uv sz,U7,Uw,TM,Uy,Vc,VY];rw[TO ⟨TG _,hr⟩];cases new with
  | nil =>
   rw[TO (by simp)];refine k _ _ (.inr ⟨id,ep,lo,h1,h2,by simp,by simpa using h3⟩) (TG _) (λ_ _ _=>rfl) (.inl rfl) (λi hi=>.inl hi)
  | cons r new =>
   rw[TN (by simp)];have ht:iQ rows.length (gD 0 rows)=rows:=by rw[be,ba];simp
   cases lo with
   | false =>
    rw[TO (by simp)];refine k _ _ (.inr ⟨g.nx,0,true,by omega,by simp,by simp,by simp[aP,ht]⟩) (by simp) (λi hi _=>?_) (.inr ⟨g.nx,rfl,TG _⟩) (λi hi=>by simp at hi;rcases hi with rfl|hi;exact .inr hb;exact .inl hi);rw[G.new_h,au _ _ _ (by omega)]
   | true =>
    rw[TN (by simp)];refine k _ _ (.inr ⟨id,ep+1,true,h1,by simpa using h2,by simp,by simp[aP,ht]⟩) (by simp) (λi hi hne=>?_) (.inl rfl) (λi hi=>by simp at hi;rcases hi with rfl|hi;exact .inr h1;exact .inl hi);rw[G.put_h,au _ _ _ (λe=>hne (by rw[e];rfl))]
def Fr(g g':G):Prop:=g.nx<=g'.nx/\∀i,i<g.nx->g'.h.get i=g.h.get i
theorem Fr.refl(g:G):Fr g g:=⟨TG _,λ_ _=>rfl⟩
theorem Fr.trans{g g'':G}(h:Fr g g')(h':Fr g' g''):Fr g g'':=⟨T6 h.1 h'.1,λi hi=>by rw[h'.2 i (TU hi h.1),h.2 i hi]⟩
theorem Fr.new(g:G)(o:AObj):Fr g (g.new o):=⟨by simp,λi hi=>by rw[G.new_h,au _ _ _ (by omega)]⟩
theorem Own.step{g:G}{sz:Nat}{rows:List (List AV)}(h:Own g b v sz rows)(f:Fr g g'):Own g' b v sz rows :=
 h.fr f.1 λi hi=>f.2 i (h.lt hi).2
theorem bC{g:G}{sz:Nat}{rows:List (List AV)}{row row':List AV}{x:AV}(hv:Own g b v sz rows)(hr:rows[i]?=some row)
  (hl:x.cells.length=n) (ht:x.isTup=false) (hp:bX row off x.cells=some row')
  (k:∀g',Own g' b v sz (rows.set i row')->g'.nx=g.nx->(∀i,vid v≠some i->g'.h.get i=g.h.get i)->K .undef g'):(nz n (jF sz v i off) x g).sat K g D:=by
 rcases hv with⟨rfl,rfl⟩|⟨id,ep,lo,h1,h2,rfl,h3⟩
 ·simp at hr
 ·simp only[jF,Uy];rw[Bv h3 hr rfl ht hl hp];refine k _ (.inr ⟨id,ep,lo,h1,by simpa using h2,by simp,by simp[aP]⟩) (by simp) (λi hne=>?_);rw[G.put_h,au _ _ _ (λe=>hne (by rw[e];rfl))]
theorem mb{g:G}{sz bytes:Nat}{zero:List AV}{k1 k2:IntKind}(hn:n<=aQ)(hb:n*bytes<=aQ)(hg:b<=g.nx)
  (k:∀v' g',Own g' b v' sz (List.replicate n zero)->g'.nx=g.nx+1->(∀i,i<g.nx->g'.h.get i=g.h.get i)->vid v'=some g.nx->K v' g') :
  (A0 sz bytes zero (.int k1 (n:Int)) (.int k2 (n:Int)) g).sat K g D:=by
 show (match bU aQ (.int k2 (.ofNat n)) with
  | some cn=>match bU cn (.int k1 (.ofNat n)) with
   |some ln=>ay (Nat.ble (cn*bytes) aQ) (OR.upd (.hsl g.nx 0 0 ln none) (g.new (W8 sz (fj cn zero)))) .fail
   |none=>.fail
  |none=>.fail).sat K g D
 simp only[bU,aa,Uw,TO hn,TG,TO hb,if_true];refine k _ _ (.inr ⟨g.nx,0,false,hg,by simp,by simp,by simp[aP,fj]⟩) (by simp) (λi hi=>?_) rfl;rw[G.new_h,au _ _ _ (by omega)]
theorem Own.sl{α:Type} [Rp α]{g:G}{rows:List (List AV)}{l:List α}{P:Nat->Prop}{k:Nat}(h:Own g b v (Rp.sz α) rows)(hl:l.length<9223372036854775808)(hr:All2 (Rp.rp P k g.h) l rows)
  (hp:∀i,vid v=some i->P i):SlR P k g.h l v:=by
 refine⟨hl,?_⟩;have a:=h.rows;rcases h with⟨rfl,rfl⟩|⟨id,ep,lo,h1,h2,rfl,h3⟩
 ·exact Ui hr.len
 ·exact⟨hp id rfl,rows,a,hr⟩
theorem Own.ints{g:G}{l:List Int}{k:Nat}(h:Own g b v 1 (l.map ci))(hl:l.length<9223372036854775808):One l (λ_=>True) k g.h v :=
 ⟨v,rfl,Own.sl (α:=Int) h hl (RN (λa=>ax.2 rfl) l) λ_ _=>trivial⟩
theorem bi{x:OR}{Q:AV->Prop}{g:G}(h:∃r,x=.val r/\Q r)(k:∀r,Q r->K r g):x.sat K g D:=by obtain⟨r,rfl,hr⟩:=h;exact k r hr
section feet
variable {C:Cfg}{d:Nat}{rd:Option Nat}{pm:List Nat}
theorem Ja(Q:PT)(t:T)(df:List ADf)(g:G)(fs:List Foot):wpF C d rd pm [] Q t df g fs=(qH pm fs.reverse=true/\Q t df g):=rfl
theorem P9(n:Nat)(op:SO)(r:List SI)(Q:PT)(t:T)(df:List ADf)(g:G)(fs:List Foot):wpF C d rd pm (o n op::r) Q t df g fs =
  (op.run C d rd t (aR g [])).sat (kF (wpF C d rd pm r Q) (some n) t df g.lg fs (op.foot C t g)) (aR g []) (λ_=>False):=rfl
theorem NK(op:SO)(r:List SI)(Q:PT)(t:T)(df:List ADf)(g:G)(fs:List Foot):wpF C d rd pm (oz op::r) Q t df g fs =
  (op.run C d rd t (aR g [])).sat (kF (wpF C d rd pm r Q) none t df g.lg fs (op.foot C t g)) (aR g []) (λ_=>False):=rfl
theorem NJ(n s:Nat)(w:Bool)(op:SO)(r:List SI)(Q:PT)(t:T)(df:List ADf)(g:G)(fs:List Foot) :
  wpF C d rd pm (og n s w op::r) Q t df g fs=gdP (tat t s) w (Km C d rd (o n op) (wpF C d rd pm r Q) fs) (Gb (o n op) (wpF C d rd pm r Q) fs) t df g:=rfl
theorem Ng(n:Nat)(op:SO)(W:FT)(fs:List Foot)(t:T)(df:List ADf)(g:G):Km C d rd (o n op) W fs t df g =
  (op.run C d rd t (aR g [])).sat (kF W (some n) t df g.lg fs (op.foot C t g)) (aR g []) (λ_=>False):=rfl
theorem I4(n:Nat)(op:SO)(W:FT)(fs:List Foot)(t:T)(df:List ADf)(g:G):Gb (o n op) W fs t df g=W (d6 t n .undef) df g (⟨aE,[]⟩::fs):=rfl
theorem Iy(W:FT)(n:Nat)(t:T)(df:List ADf)(lg:List Nat)(fs:List Foot)(lk:Looks)(v:AV)(g:G):kF W (some n) t df lg fs lk v g=W (d6 t n v) df (pp g (g.lg++lg)) (⟨lk,g.lg⟩::fs):=rfl
theorem Ix(W:FT)(t:T)(df:List ADf)(lg:List Nat)(fs:List Foot)(lk:Looks)(v:AV)(g:G):kF W none t df lg fs lk v g=W t df (pp g (g.lg++lg)) (⟨lk,g.lg⟩::fs):=rfl
theorem F3{sz:Nat}(h:vN v=true):an (jF sz v i off)=an v:=by cases v<;>first|rfl|cases h
theorem kZ(id ep i off:Nat):an (.hptr id ep i off)=[id]:=rfl
theorem Bk(id ep off len:Nat)(lim:Option Nat):an (.hsl id ep off len lim)=[id]:=rfl
end feet
section looks
variable {C:Cfg}{t:T}{g:G}
theorem PM(x:Od):SO.foot C t g (.mv x)=aE:=rfl
theorem Iq(c a b:Od):SO.foot C t g (.pick c a b)=aE:=rfl
theorem Fh(cs:List AV):SO.foot C t g (.alloc cs)=aE:=rfl
theorem LI(x:Od):SO.foot C t g (.box x)=aE:=rfl
theorem Fi(z:List AV)(pl:List (Nat×Nat))(vs:List Od):SO.foot C t g (.build z pl vs)=aE:=rfl
theorem LJ(sz len:Nat)(z:List AV)(is:List Nat)(vs:List Od):SO.foot C t g (.bsl sz len z is vs)=aE:=rfl
theorem Io(ag:Bool)(n:Nat)(a:Od):SO.foot C t g (.load ag n a)=am (an (a.get t)):=rfl
theorem Fj(n:Nat)(a x:Od):SO.foot C t g (.store n a x)=am (an (a.get t)):=rfl
theorem Ip(x:Od):SO.foot C t g (.nilc x)=aE:=rfl
theorem LH(op:BinOp)(x y:Od):SO.foot C t g (.bin op x y)=aE:=rfl
theorem PJ(ng:Bool)(ek:EqKind)(x y:Od):SO.foot C t g (.eq ng ek x y)=aE:=rfl
theorem LY(x:Od):SO.foot C t g (.not x)=aE:=rfl
theorem In(k:IntKind)(x:Od):SO.foot C t g (.conv k x)=aE:=rfl
theorem LU(f:Nat)(a c:List Od):SO.foot C t g (.mkf f a c)=aE:=rfl
theorem LV(sz bt:Nat)(z:List AV)(l c:Od):SO.foot C t g (.mks sz bt z l c)=aE:=rfl
theorem LZ(sz:Nat)(x:Od)(lo hi:List Od):SO.foot C t g (.slc sz x lo hi)=am (an (x.get t)):=rfl
theorem LO(fo:Nat)(x:Od):SO.foot C t g (.fad fo x)=aE:=rfl
theorem LP(ag:Bool)(n fo:Nat)(x:Od):SO.foot C t g (.fld ag n fo x)=aE:=rfl
theorem LR(sz:Nat)(x i:Od):SO.foot C t g (.ixs sz x i)=am (an (x.get t)):=rfl
theorem LQ(n sz:Nat)(x i:Od):SO.foot C t g (.ixa n sz x i)=aE:=rfl
theorem PK(ag:Bool)(n sz:Nat)(x i:Od):SO.foot C t g (.ix ag n sz x i)=aE:=rfl
theorem LL(x:Od)(i:Nat):SO.foot C t g (.ext x i)=aE:=rfl
theorem LT(x:Od):SO.foot C t g (.len .slice x)=aE:=rfl
theorem LG(sz bt:Nat)(x y:Od):SO.foot C t g (.app sz bt x y)=am (an (x.get t)++an (y.get t)):=rfl
theorem LK(sz:Nat)(x y:Od):SO.foot C t g (.cpy sz x y)=am (an (x.get t)++an (y.get t)):=rfl
theorem PN(x y:Od):SO.foot C t g (.mx x y)=am (an (x.get t)++an (y.get t)):=rfl
theorem PL(x y:Od):SO.foot C t g (.mn x y)=am (an (x.get t)++an (y.get t)):=rfl
end looks
theorem sf:type_of% (TF @PM <|TF @Iq <|TF @Fh <|TF @LI <|TF @Fi <|TF @LJ <|TF @Io <|TF @Fj <|TF @Ip <|TF @LH <|TF @PJ <|TF @LY <|TF @In <|TF @LU <|TF @LV <|TF @LZ <|TF @LO <|TF @LP <|TF @LR <|TF @LQ <|TF @PK <|TF @LL <|TF @LT <|TF @LG <|TF @LK <|TF @PN <|@PL) :=
 TF @PM <|TF @Iq <|TF @Fh <|TF @LI <|TF @Fi <|TF @LJ <|TF @Io <|TF @Fj <|TF @Ip <|TF @LH <|TF @PJ <|TF @LY <|TF @In <|TF @LU <|TF @LV <|TF @LZ <|TF @LO <|TF @LP <|TF @LR <|TF @LQ <|TF @PK <|TF @LL <|TF @LT <|TF @LG <|TF @LK <|TF @PN <|@PL
theorem Cw(k:IntKind)(x:Int):(AV.int k x).cells=[.int k x]:=rfl
theorem Ab(x:Bool):(AV.bool x).cells=[.bool x]:=rfl
theorem Cu(cs:List AV):(AV.agg cs).cells=cs:=rfl
theorem Ad:AV.nils.cells=[.nils]:=rfl
theorem CT(k:IntKind)(x:Int):(AV.int k x).isTup=false:=rfl
theorem AP(x:Bool):(AV.bool x).isTup=false:=rfl
theorem CP(cs:List AV):(AV.agg cs).isTup=false:=rfl
theorem AQ:AV.nils.isTup=false:=rfl
theorem Cv(id ep off len:Nat)(lim:Option Nat):(AV.hsl id ep off len lim).cells=[.hsl id ep off len lim]:=rfl
theorem CQ(id ep off len:Nat)(lim:Option Nat):(AV.hsl id ep off len lim).isTup=false:=rfl
theorem Cx(t s:Nat)(rows:List (List AV)):(AV.tsl t s rows).cells=[.tsl t s rows]:=rfl
theorem CU(t s:Nat)(rows:List (List AV)):(AV.tsl t s rows).isTup=false:=rfl
theorem Gy(x:AV)(g:G)(h:x.isTup=false):EH x g=.upd (.hptr g.nx 0 0 0) (g.new (W8 x.cells.length [x.cells])):=by simp only[EH,h,aA]
theorem H8(sz:Nat)(zero:List AV)(g:G):K1 sz 0 zero [] [] g=.upd (.hsl g.nx 0 0 0 none) (g.new (W8 sz [])):=rfl
theorem H9(sz:Nat)(zero:List AV)(v:AV)(g:G)(hl:v.cells.length=sz)(ht:v.isTup=false) :
  K1 sz 1 zero [0] [v] g=.upd (.hsl g.nx 0 0 1 none) (g.new (W8 sz [v.cells])):=by
 subst hl;have:Nat.beq (bj v.cells) v.cells.length=true:=by rw[aA];exact Uv _
 have h2:gM v.cells.length [zero] [(0,v)]=some [v.cells]:=by simp only[gM,ht,aa,aA,g7,notb_eq];rw[show Nat.beq v.cells.length v.cells.length=true from Uv _];rfl
 show (match gM v.cells.length [zero] [(0,v)] with|some rows=>OR.upd (.hsl g.nx 0 0 1 none) (g.new (W8 v.cells.length rows))|none=>.fail)=_;rw[h2]
theorem fQ(row:List AV)(off:Nat)(cs:List AV):bX row off cs=if off+cs.length<=row.length then some (row.take off++(cs++row.drop (off+cs.length))) else none:=by
 simp only[bX,aA,aa,Uw,g7,be,ba]
 split
 ·rename_i h
  split
  ·rename_i c;simp only[List.length_singleton]at h;rw[List.set_eq_take_append_cons_drop,TO (by omega)];rfl
  ·rfl
 ·rfl
theorem PC(a:AV)(l:List AV):Lt (.tup (a::l)) 0=.val a:=rfl
theorem PD(a b:AV)(l:List AV):Lt (.tup (a::b::l)) 1=.val b:=rfl
theorem PG(a b c:AV)(l:List AV):Lt (.tup (a::b::c::l)) 2=.val c:=rfl
theorem LD(ag:Bool)(n fo:Nat)(cs:List AV):Qv ag n fo (.agg cs)=orV (bT ag n cs fo):=rfl
theorem C1{row:List AV}:bT true (n+1) row off=if off+(n+1)<=row.length then some (.agg ((row.drop off).take (n+1))) else none:=by
 split
 ·rename_i h;exact MR h
 ·rename_i h;simp only[bT,be,ba,aA,T_,V8,aa];rw[TN];intro e;have:=UV e;omega
theorem EI(zero:List AV)(pl:List (Nat×Nat))(vs:List AV):zQ zero pl vs=match d7 zero (pl.zip vs) with|some cs=>.val (.agg cs)|none=>.fail:=rfl
theorem CK(cs:List AV):d7 cs []=some cs:=rfl
theorem AD(cs:List AV)(off size:Nat)(v:AV)(rest:List ((Nat×Nat)×AV))(hl:v.cells.length=size)(ht:v.isTup=false) :
  d7 cs (((off,size),v)::rest)=match bX cs off v.cells with|some cs=>d7 cs rest|none=>none:=by
 subst hl;have:Nat.beq (bj v.cells) v.cells.length=true:=by rw[aA];exact Uv _
 simp only[d7,this,ht,notb_eq,Wk,Wu]
 rfl
theorem M4(ag:Bool)(n a:Nat)(r:List SR)(t:T)(g:G)(K:List AV->Prop):xe (.cell ag n a::r) t g K=match rR ag n (tat t a) g with|.val v=>xe r t g λvs=>K (v::vs)|_=>False:=rfl
theorem wU(a b:AV)(l:List AV):gQ (a::b::l)=.tup (a::b::l):=rfl
theorem sy:type_of% (TF @EI <|TF @CK <|TF @AD <|TF @M4 <|TF @V_.{0,0} <|TF @List.zip_nil_left.{0,0} <|TF @Ja <|TF @P9 <|TF @NK <|TF @NJ <|TF @Ng <|TF @I4 <|TF @Iy <|TF @Ix <|TF @bumpG_h <|TF @bumpG_nx <|TF @bumpG_lg <|TF @true_and <|TF @and_true <|TF @DX <|TF @qK <|TF @Mm <|TF @setLog_h <|TF @setLog_nx <|TF @setLog_lg <|TF @PV <|TF @Cw <|TF @Ab <|TF @Cu <|TF @Ad <|TF @CT <|TF @AP <|TF @CP <|TF @AQ <|
 TF @Cv <|TF @CQ <|TF @Cx <|TF @CU <|TF @Gy <|TF @H8 <|TF @H9 <|TF @fQ <|TF @PC <|TF @PD <|TF @PG <|
 TF @LD <|TF @C1 <|TF @wU <|TF @rQ <|TF @aA <|TF @Uq.{0} <|TF @Vq.{0} <|TF @WR.{0} <|
 TF @W5.{0} <|TF @Wx.{0} <|TF @VI.{0} <|TF @T4.{0} <|TF @Ud.{0} <|TF @T3.{0} <|TF @Vm.{0} <|TF @WC.{0} <|
 TF @Uy <|TF @RQ <|TF @eA <|TF @cK <|TF @yD <|@qS) :=
 TF @EI <|TF @CK <|TF @AD <|TF @M4 <|TF @V_.{0,0} <|TF @List.zip_nil_left.{0,0} <|TF @Ja <|TF @P9 <|TF @NK <|TF @NJ <|TF @Ng <|TF @I4 <|TF @Iy <|TF @Ix <|TF @bumpG_h <|TF @bumpG_nx <|TF @bumpG_lg <|TF @true_and <|TF @and_true <|TF @DX <|TF @qK <|TF @Mm <|TF @setLog_h <|TF @setLog_nx <|TF @setLog_lg <|TF @PV <|TF @Cw <|TF @Ab <|TF @Cu <|TF @Ad <|TF @CT <|TF @AP <|TF @CP <|TF @AQ <|
 TF @Cv <|TF @CQ <|TF @Cx <|TF @CU <|TF @Gy <|TF @H8 <|TF @H9 <|TF @fQ <|TF @PC <|TF @PD <|TF @PG <|
 TF @LD <|TF @C1 <|TF @wU <|TF @rQ <|TF @aA <|TF @Uq.{0} <|TF @Vq.{0} <|TF @WR.{0} <|
 TF @W5.{0} <|TF @Wx.{0} <|TF @VI.{0} <|TF @T4.{0} <|TF @Ud.{0} <|TF @T3.{0} <|TF @Vm.{0} <|TF @WC.{0} <|
 TF @Uy <|TF @RQ <|TF @eA <|TF @cK <|TF @yD <|@qS
end
theorem Cb{ih:IH}{d:Nat}{f:Nat}{args:List AV}{y:ADf}:af ih d g f args≠.dfr y:=by
 intro k;revert k;unfold af
 repeat' (first|split|rw[aa])
 all_goals (intro h;cases h)
end
end Hx
