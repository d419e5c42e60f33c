/- A part of the proof: an interpreter over abstract values, shown right against the model, and what the functions of the chapter compute on it. -/
import Derived.Below
import Derived.Laws.Externs
import Derived.Test.YteaikmdilmfbeaaGreatHx6
set_option linter.unusedVariables false
set_option linter.unusedSimpArgs false
set_option linter.unnecessarySimpa false
section
namespace Hx
open Go
section
variable {C:Cfg}{A:Nat->Nat->Prop}{bd:Nat}{w w':World}{γ γ':Gm}{hg:Nat->AObj}{nx:Nat}
variable {t:T}{g:G}{ih:IH}
def Oz (C:Cfg)(A:Nat->Nat->Prop)(bd nt:Nat)(b:Frame)(k:List Item)(cs:List Frame)(m:Machine)(w:World)(γ:Gm)(hg:Nat->AObj)(nx:Nat)(g:G)(e:Ex)(t':T)(df':List ADf)(g':G):Prop :=
 ∃a' w' γ' hg',Fin C A bd w γ hg nx g w' γ' hg' g'/\TR w' γ' A bd nt t' a'.tmps/\DR w' γ' A bd df' a'.defers/\Arr C.P m b k cs e a' w'
theorem EZ (hC:CfgOk C)(hi:IHOk C ih){nt:Nat}{rd:Option Nat}{ops:Array Oper}{draw:Bool}{rid:Nat}{df:List ADf}{e:Ex}{t':T}{df':List ADf}{g':G}
  (h:(eE C nt ops.toList draw).run ih (bd+1) rd t df g=.ok e t' df' g'):xq C bd nt rd (.region rid ops draw) t df g e t' df' g':=by
 intro A w γ hg nx b a k cs hr hx hwf hf ht hdf hrd hcalm;unfold eE at h;rw[aa] at h
 split at h
 rotate_left
 ·rename_i hdraw;have hdraw:draw=false:=by simpa using hdraw
  subst hdraw;obtain ⟨rfl,a',w',γ',hg',f,tr,dr,st⟩:=Ik (b:=b) (cs:=cs) (k:=k) hC hi ops.toList 0 (by simp) h hwf hr hx hf ht hdf hrd hcalm;refine ⟨a',w',γ',hg',f,tr,dr,.head stepR_region ?_⟩;rw[List.range_eq_range'];simpa using st
 rename_i hdraw;subst hdraw;rw[aa] at h
 split at h
 rotate_left
 ·cases h
 rename_i hord;have hord:nA 0 ops.toList=true/\lA (bi ops.toList []) 0 ops.toList=true /\
   iT (λi x j y=>((bi ops.toList []).getD j 0).testBit i || iJ ops.toList x y) 0 ops.toList=true:=by
  simp only[BX,Bool.and_eq_true] at hord;exact ⟨hord.1.1,hord.1.2,hord.2⟩
 obtain ⟨ho1,ho2,ho3⟩:=hord;have hedge:∀i o,ops[i]?=some o->∀e∈o.after.toList,Region.binds .any e=true->e.on<i:=by intro i o ho e he hb;have:=zH ho1 i o (by simpa using ho) e he hb;omega
 have hguard:∀i o j b,ops[i]?=some o->o.guard=some (j,b)->((bi ops.toList []).getD i 0).testBit j=true:=by intro i o j b ho hg';have:=yG ho2 i o (by simpa using ho) j b hg';simpa using this
 have hslot:∀i j oi oj,i<j->ops[i]?=some oi->ops[j]?=some oj->((bi ops.toList []).getD j 0).testBit i=true\/iJ ops.toList oi oj=true:=by intro i j oi oj hij hoi hoj;have:=tZ ho3 i j oi oj hij (by simpa using hoi) (by simpa using hoj);simpa using this
 have hk0:∀id,(γ id).kind=0->hg id=.none:=λid h=>(hr.none_iff id).1 h;rw[aa] at h
 split at h
 ·
  rename_i hq;dsimp only at h;generalize hc:(il C nt ops.toList ops.toList).run ih (bd+1) rd t df (aH g [])=cr at h;cases cr with
  | fail=>cases h
  | ok e1 t1 df1 g1 =>
   simp only[lG] at h;cases hlg:g1.lg with
   | cons x xs=>rw[hlg] at h;cases h
   | nil =>
    rw[hlg] at h;dsimp only at h;rw[aa] at h
    split at h
    rotate_left
    ·cases h
    rename_i hnx;have hnx:=aD hnx;injection h with h1 h2 h3 h4;subst h1;subst h2;subst h3;subst h4;obtain ⟨rfl,rfl,T',G',F',a1,a2,a3,a4,a5,a6⟩:=HI hC hi ops.toList 0 hc (λo ho=>List.all_eq_true.1 hq o ho) (by simp) hlg hwf.setLog;simp only[Nat.zero_add,Array.length_toList] at a3 a4 a5;have R:Reg C ih bd rd nt ops true T' G' F' hg:=by
     refine ⟨hC,hi,λi o ho=>a5 i o (by simpa using ho),by rw[a2];exact hwf.setLog,by rw[a2];simpa using hx,λid h1 h2=>?_,λi j _ _=>.inr ?_,λi j j' _ _ _ _ _ _ hm=>?_,hslot,hguard,λ_ i _=>a6 i⟩
     ·rw[a2] at h1;rw[a4,hnx] at h2;exact hk0 id (hf id (by simpa using h1) h2)
     ·simp[bU,i_,ge,a6]
     ·rw[a6 j] at hm;simp[meets] at hm
    obtain ⟨a',w',γ',hg',hr',hst,htr,hdef,hobj,st⟩:=CE (b:=b) (k:=k) (cs:=cs) (id:=rid) R hC.mixed hedge hr (by rw[a1];exact ht) hcalm;have hsame:∀id,hg' id=hg id:=λid=>by
     rcases hobj id with ⟨⟨j,_,h⟩,_⟩ | ⟨_,h⟩
     ·rw[a6 j] at h;exact absurd h List.not_mem_nil
     ·exact h
    refine ⟨a',w',γ',hg',⟨?_,hst,⟨[],rfl,λ_ h=>absurd h List.not_mem_nil,λid _=>hsame id⟩⟩,by rw[<-a3];exact htr,by rw[hdef];exact hdf.step hst,st⟩;rw[a4,hnx] at hr';exact hr'
 ·dsimp only at h;obtain ⟨rfl,rfl,T',G',F',a1,a2,a3,a4,a5,a6⟩:=IK ops.toList 0 h;simp only[Nat.zero_add,Array.length_toList,List.reverse_nil,List.nil_append] at a3 a4 a5 a6;obtain ⟨b1,b2⟩:=Fv a6;have hF:∀j,j<ops.size->((List.range ops.size).map F')[j]?=some (F' j):=λj hj=>by simp[List.getElem?_range hj]
  have R:Reg C ih bd rd nt ops false T' G' F' hg:=by
   refine ⟨hC,hi,λi o ho=>(a5 i o (by simpa using ho)).1,by rw[a2];exact hwf,by rw[a2];exact hx,λid h1 h2=>?_,λi j hij hj=>?_,λi j j' h1 h2 h3 h4 h5 h6 h7 h8=>?_,hslot,hguard,λh=>by cases h⟩
   ·rw[a2] at h1;rw[a4] at h2;exact hk0 id (hf id h1 h2)
   ·have:=tZ b1 i j _ _ hij (hF i (by omega)) (hF j hj);simpa using this
   ·exact B6 b2 i j j' _ _ _ h1 h2 (hF i (by omega)) (hF j (by omega)) (hF j' h3) h4 (by simpa using h5) (by simpa using h6) h7 h8
  obtain ⟨a',w',γ',hg',hr',hst,htr,hdef,hobj,st⟩:=CE (b:=b) (k:=k) (cs:=cs) (id:=rid) R hC.mixed hedge hr (by rw[a1];exact ht) hcalm;have hlog:∀n,n<=ops.size->∃new,(G' n).lg=new++g.lg/\∀id,id∈new↔∃j,j<n/\id∈(F' j).wr:=by
   intro n
   induction n with
   | zero=>intro _;exact ⟨[],by rw[a2];rfl,λid=>⟨λh=>absurd h List.not_mem_nil,λ⟨j,h,_⟩=>absurd h (Nat.not_lt_zero j)⟩⟩
   | succ n ihn =>
    intro hn;obtain ⟨new,e1,e2⟩:=ihn (by omega);have hn':n<ops.size:=by omega
    have:=(a5 n ops[n] (by rw[Array.getElem?_toList];exact Array.getElem?_eq_getElem hn')).2;refine ⟨(F' n).wr++new,by rw[this,e1,List.append_assoc],λid=>?_⟩;rw[List.mem_append,e2];constructor
    ·rintro (h | ⟨j,h1,h2⟩)
     ·exact ⟨n,by omega,h⟩
     ·exact ⟨j,by omega,h2⟩
    ·rintro ⟨j,h1,h2⟩
     by_cases hj:j=n
     ·subst hj;exact .inl h2
     ·exact .inr ⟨j,by omega,h2⟩
  obtain ⟨new,e1,e2⟩:=hlog ops.size (Nat.le_refl _);refine ⟨a',w',γ',hg',⟨by rw[a4] at hr';exact hr',hst,⟨new,by rw[<-a4];exact e1,λid hid=>?_,λid hid=>?_⟩⟩,by rw[<-a3];exact htr,by rw[hdef];exact hdf.step hst,st⟩
  ·rcases hobj id with ⟨_,h⟩ | ⟨h1,_⟩
   ·rw[h,a4]
   ·obtain ⟨j,h2,h3⟩:=(e2 id).1 hid;exact absurd h3 (h1 j h2)
  ·rcases hobj id with ⟨h1,_⟩ | ⟨_,h⟩
   ·exact absurd ((e2 id).2 h1) hid
   ·exact h
theorem bM {P:Program}{b:Frame}{a:Act}{k:List Item}{cs:List Frame}{c:Code} :
  step P (lone (b.atR a (.code (.scope c)::k)) cs w)=.next (lone (b.atR a (.code c::.inScope c::k)) cs w) :=
 step_lone_go (by simp[stepG,stepG.exec,Frame.atR])
theorem m9 {P:Program}{b:Frame}{a:Act}{k:List Item}{cs:List Frame}{c:Code} :
  step P (lone (b.atR a (.inScope c::k)) cs w)=.next (lone (b.atR a k) cs w) :=
 step_lone_go (by simp[stepG,stepG.exec,Frame.atR])
theorem eA {P:Program}{m m1 X:Machine}(h:Steps P m X)(hne:m≠X)(hs:step P m=.next m1):Steps P m1 X:=by
 obtain ⟨n,hn⟩:=h;cases n with
 | zero=>simp[runN] at hn;exact absurd hn hne
 | succ n=>exact ⟨n,by simpa [runN,hs] using hn⟩
theorem zw {b b':Frame}{a a':Act}{k k':List Item}{cs cs':List Frame}{w w':World}(h:lone (b.atR a k) cs w=lone (b'.atR a' k') cs' w'):k=k':=by
 have h1:(lone (b.atR a k) cs w).gs=(lone (b'.atR a' k') cs' w').gs:=by rw[h]
 simp only[lone,Array.mk.injEq,List.cons.injEq,and_true] at h1;have h2:=congrArg (λg:Goroutine=>g.frame.todo) h1;simpa [Frame.atR] using h2
theorem sS (hC:CfgOk C)(hi:IHOk C ih){nt:Nat}{rd:Option Nat}{fo:Operand}{s:Stg (T->AV)}{ps:Array Tmp}{assign body:Code}{df:List ADf}{dfr:Nat}{e:Ex}{t':T}{df':List ADf}{g':G}
  (hs:aM C fo=some s) (h:cw C ih nt (bd+1) rd (s.run t) ps.toList assign body t df dfr g=.ok e t' df' g')
  (hwf:WF g) {b:Frame} {a:Act} {k:List Item} {cs:List Frame} {mark:List Deferred} {blk:Nat}
  (hr:Rel C A bd w γ hg nx) (hx:Ext g.h hg) (hf:Free γ g g') (ht:TR w γ A bd nt t a.tmps) (hdf:DR w γ A bd df (mark++a.defers)) (hrd:RdOk γ rd b) (hcalm:ni b.kind cs)
  (hdfr:(γ dfr).kind=4/\(γ dfr).blk=blk) {w00:World}
  (henter:(Instr.enterLoop b.fn a.tmps ps assign body b.roundOf).run C.P w00=.ok (w.heap.size,mark) (World.add w (.loop { state:=.ready,pending:=none,fn:=b.fn,tmps:=a.tmps,params:=ps,assign,body,defers:=blk }))) :
  Oz C A bd nt b k cs (lone (b.atR a (.code (.rangeFunc fo ps assign body)::k)) cs w00) w γ hg nx g e t' df' g':=by
 unfold cw at h;have hfv:=ax hs ht hr;generalize hfo:a.eval fo=vf at hfv;generalize s.run t=y at h hfv;cases hfv with
 | clo _ f xs ys vs1 us1 hl hl2 h1 h2 =>
  dsimp only at h;rw[aa] at h
  split at h
  ·cases h
  split at h
  rotate_left
  ·cases h
  rename_i rv0 g2 hcall
  let L:Loop:={ state:=.ready,pending:=none,fn:=b.fn,tmps:=a.tmps,params:=ps,assign,body,defers:=blk }
  let w1:=World.add w (.loop L)
  let gh:Gh:=⟨3,0,0,0,w.heap.size,0,0,true⟩
  have m1:Mon g (g.new (.loop nt t ps.toList assign body dfr .ready none)):=Mon.mk';have wf1:=m1.wf hwf;have m2:=hi.mon.call _ _ _ _ _ _ hcall wf1;have wf2:=m2.wf wf1;have m3:=uL hi.mon h wf2;have hfree0:(γ g.nx).kind=0:=hf g.nx (Nat.le_refl _) (Nat.le_trans m1.nx (Nat.le_trans m2.nx m3.nx));have hdne:dfr≠g.nx:=by rintro rfl;rw[hdfr.1] at hfree0;cases hfree0
  obtain ⟨r1,s1⟩:=hr.add (id:=g.nx) (gh:=gh) (o:=.loop L) (ao:=.loop nt t ps.toList assign body dfr .ready none) (nx':=Nat.max nx (g.nx+1)) hfree0 rfl (Nat.le_max_left _ _) (Nat.lt_of_lt_of_le (Nat.lt_succ_self _) (Nat.le_max_right _ _)) (by
   have s0:=B9 (w:=w) (o:=.loop L) (gh:=gh) hfree0 rfl;refine ⟨by simp[gh],by simp[gh],L,by rw[iQ];simp[gh],rfl,rfl,rfl,rfl,rfl,ht.1,λi=>(ht.2 i).step s0,?_,?_⟩
   ·rw[bN _ _ hdne];exact hdfr.1
   ·rw[bN _ _ hdne];exact hdfr.2.symm)
  have f1:Fin C A bd w γ hg nx g w1 (upd γ g.nx gh) _ (g.new (.loop nt t ps.toList assign body dfr .ready none)):=Fin.ofNew r1 s1;have hx1:=f1.ext m1 hx;have hf1:=f1.freed hr m1 hf;obtain ⟨hent,hrun⟩:=hi.call _ _ _ _ _ _ hcall;have hyl:RV w1 (upd γ g.nx gh) A bd (.yld g.nx) (.func (.yield w.heap.size) #[] #[]):=.yld _ _ _ (by simp[gh]) (by simp[gh]);have hargs:RVs w1 (upd γ g.nx gh) A bd (xs++(.yld g.nx::ys)) (vs1.toList++(.func (.yield w.heap.size) #[] #[]::us1.toList)):=by
   refine ((RVs.ofArr hl h1).step s1).append ?_;have hu:=(RVs.ofArr hl2 h2).step s1;refine ⟨by simp[hu.1],λi x v hx' hv=>?_⟩;cases i with
   | zero=>simp at hx' hv;subst hx';subst hv;exact hyl
   | succ i=>exact hu.2 i x v (by simpa using hx') (by simpa using hv)
  let a1:Act:={ a with defers:=mark++a.defers }
  let fr1:=b.atR a1 (.inRangeFunc w.heap.size::k)
  obtain ⟨u,w2,γ2,hg2,f2,_,fr,st,q1,q2,q3,q4,fn,q5,q6⟩:=hrun A w1 _ _ _ _ f1.rel hx1 wf1 (hf1.le m3.nx) hargs .normal (fr1::cs) (.inl rfl);have f12:=f1.trans f2 m1 m2;have hx2:=f12.ext (m1.trans m2) hx;have harr:(vs1.toList++(.func (.yield w.heap.size) #[] #[]::us1.toList)).toArray=(vs1++#[.func (.yield w.heap.size) #[] #[]])++us1:=by apply Array.ext';simp
  rw[harr] at st;have hstart:step C.P (lone (b.atR a (.code (.rangeFunc fo ps assign body)::k)) cs w00)=.next (lone (Frame.enter C.P f ((vs1++#[.func (.yield w.heap.size) #[] #[]])++us1) .normal) (fr1::cs) w1):=by
   refine stepR_rangeFunc (l:=w.heap.size) (mark:=mark) (w₁:=w1) (w₁':=w1) (d:={ target:=.fn (.func f) us1,args:=vs1++#[.func (.yield w.heap.size) #[] #[]] }) henter ?_ ?_
   ·simp only[resolve];rw[hfo];simp[Deferred.ofValue,Act.eval]
   ·exact hent _ _
  have hfin:fr1.finish u=b.atR a1 (.endRangeFunc w.heap.size::k):=finish_atR_inRangeFunc _ _;have hback:Steps C.P (lone (b.atR a (.code (.rangeFunc fo ps assign body)::k)) cs w00) (lone (b.atR a1 (.endRangeFunc w.heap.size::k)) cs w2):=by refine .head hstart (Steps.trans st (.one ?_));rw[<-hfin];exact step_leave_returned ⟨q1,q2,q3,fn,by rw[q4];exact q5,q6⟩
  unfold dt at h
  split at h
  rotate_left
  ·cases h
  rename_i nt3 t3 ps3 assign3 body3 dfr3 st3 pend3 hget;have hget:g2.h.get g.nx=.loop nt3 t3 ps3 assign3 body3 dfr3 st3 pend3:=by simpa using hget
  have hid:hg2 g.nx=.loop nt3 t3 ps3 assign3 body3 dfr3 st3 pend3:=by rw[hx2 g.nx (by rw[hget];simp),hget]
  have hob:=f12.rel.obj g.nx;rw[hid] at hob;obtain ⟨k1,k2,L2,k3,k4,k5,k6,k7,k8,k9,k10,k11,k12⟩:=hob;have hblk:(γ2 g.nx).blk=w.heap.size:=by have:=f2.stp.blk_eq (id:=g.nx) (by simp[gh]) (by simp[gh]);rw[this];simp[gh]
  obtain ⟨r3,s3⟩:=f12.rel.setLoop (st':=.exhausted) (pend':=pend3) hid k3;rw[hblk] at k3 r3 s3;have f3:Fin C A bd w2 γ2 hg2 (Nat.max nx g2.nx) g2 _ γ2 _ (g2.put g.nx (.loop nt3 t3 ps3 assign3 body3 dfr3 .exhausted pend3)):=Fin.ofPut r3 s3;have m4:Mon g2 (g2.put g.nx (.loop nt3 t3 ps3 assign3 body3 dfr3 .exhausted pend3)):=Mon.put wf2 (by rw[hget];simp);have f123:=f12.trans f3 (m1.trans m2) m4;have hfr1:(γ2 g.nx).kind≠0:=by rw[k1];decide
  have hend:st3≠.busy->(Instr.endLoop w.heap.size).run C.P w2=.ok pend3 (World.setBlk w2 w.heap.size (.loop { L2 with state:=.exhausted,pending:=pend3 })):=by
   intro hne;unfold Instr.endLoop;have hb:(L2.state == LoopState.busy)=false:=by rw[k4];cases st3<;>first | rfl | exact absurd rfl hne
   simp only[Sem.run_bind,ja k3,Result.andThen_ok,hb,Bool.false_eq_true,if_false,Sem.run_pure,rB k3];subst k5
   rfl
  have hst:Stp w γ (World.setBlk w2 w.heap.size (.loop { L2 with state:=.exhausted,pending:=pend3 })) γ2:=f123.stp
  split at h
  ·cases h
  ·rename_i hnb;have hend:=hend (by rintro rfl;exact hnb rfl);have hback2:=Steps.trans hback (.one (stepR_endRangeFunc (P:=C.P) (b:=b) (a:=a1) (k:=k) (cs:=cs) hend))
   split at h
   ·injection h with e1 e2 e3 e4;subst e1;subst e2;subst e3;subst e4;exact ⟨a1,_,γ2,_,f123,ht.step hst,hdf.step hst,by simpa [Arr] using hback2⟩
   ·rename_i c;have m5:=hi.mon.code _ _ _ _ _ _ _ _ _ _ _ h (m4.wf wf2);obtain ⟨a',w',γ',hg',f4,tr,dr,ar⟩:=hi.code _ _ _ _ _ _ _ _ _ _ _ h A _ _ _ _ b a1 k cs f123.rel (f123.ext ((m1.trans m2).trans m4) hx) (m4.wf wf2) (f123.freed hr ((m1.trans m2).trans m4) hf)
     (ht.step hst) (hdf.step hst) (hrd.step hst) hcalm
    exact ⟨a',w',γ',hg',f123.trans f4 ((m1.trans m2).trans m4) m5,tr,dr,ar.of_steps (by simpa using hback2)⟩
 | _=>cases h
theorem yU {P:Program}{o:Obj}:(newObj o).run P w=.ok w.heap.size (World.add w o):=by simp[newObj,Sem.run,World.add]
theorem zI {P:Program}{fn:FuncId}{tmps:Array Value}{ps:Array Tmp}{assign body:Code} :
  (Instr.enterLoop fn tmps ps assign body none).run P w=.ok (w.heap.size+1,[{ target:=.collected w.heap.size,args:=#[] }])
   (World.add (World.add w (.deferred (some []))) (.loop { state:=.ready,pending:=none,fn,tmps,params:=ps,assign,body,defers:=w.heap.size })):=by
 unfold Instr.enterLoop;simp only[Sem.run_bind,yU,Result.andThen_ok,Sem.run_pure,add_size]
theorem Bo {P:Program}{fn:FuncId}{tmps:Array Value}{ps:Array Tmp}{assign body:Code}{l:Nat}{L:Loop}(h:w.heap[l]?=some (.loop L)) :
  (Instr.enterLoop fn tmps ps assign body (some l)).run P w=.ok (w.heap.size,[])
   (World.add w (.loop { state:=.ready,pending:=none,fn,tmps,params:=ps,assign,body,defers:=L.defers })):=by
 unfold Instr.enterLoop;simp only[Sem.run_bind,ja h,yU,Result.andThen_ok,Sem.run_pure]
theorem EY (hC:CfgOk C)(hi:IHOk C ih){nt:Nat}{rd:Option Nat}{fo:Operand}{s:Stg (T->AV)}{ps:Array Tmp}{assign body:Code}{df:List ADf}{e:Ex}{t':T}{df':List ADf}{g':G}
  (hs:aM C fo=some s) (h:lH C nt s.run ps.toList assign body ih (bd+1) rd t df g=.ok e t' df' g'):xq C bd nt rd (.rangeFunc fo ps assign body) t df g e t' df' g':=by
 intro A w γ hg nx b a k cs hr hx hwf hf ht hdf hrd hcalm;unfold lH at h;cases rd with
 | some l =>
  dsimp only at h
  split at h
  rotate_left
  ·cases h
  rename_i nt0 t0 ps0 as0 bo0 dfr st0 pe0 hget;have hget:g.h.get l=.loop nt0 t0 ps0 as0 bo0 dfr st0 pe0:=by simpa using hget
  have hid:hg l=.loop nt0 t0 ps0 as0 bo0 dfr st0 pe0:=by rw[hx l (by rw[hget];simp),hget]
  have hob:=hr.obj l;rw[hid] at hob;obtain ⟨k1,k2,L,k3,k4,k5,k6,k7,k8,k9,k10,k11,k12⟩:=hob;have henter:=Bo (P:=C.P) (fn:=b.fn) (tmps:=a.tmps) (ps:=ps) (assign:=assign) (body:=body) k3;rw[k12,<-hrd.2] at henter;exact sS (mark:=[]) hC hi hs h hwf hr hx hf ht hdf hrd hcalm ⟨k11,rfl⟩ henter
 | none =>
  dsimp only at h
  let gh:Gh:=⟨4,0,0,0,w.heap.size,0,0,true⟩
  have m1:Mon g (g.new (.dfr true)):=Mon.mk';have wf1:=m1.wf hwf;have m2:=m7 hi.mon h wf1;have hfree0:(γ g.nx).kind=0:=hf g.nx (Nat.le_refl _) (Nat.le_trans m1.nx m2.nx);obtain ⟨r1,s1⟩:=hr.add (id:=g.nx) (gh:=gh) (o:=.deferred (some [])) (ao:=.dfr true) (nx':=Nat.max nx (g.nx+1)) hfree0 rfl (Nat.le_max_left _ _) (Nat.lt_of_lt_of_le (Nat.lt_succ_self _) (Nat.le_max_right _ _)) (by
   refine ⟨by simp[gh],by simp[gh],by rw[iQ];simp[gh]⟩)
  have f1:Fin C A bd w γ hg nx g _ (upd γ g.nx gh) _ (g.new (.dfr true)):=Fin.ofNew r1 s1;have henter:=zI (P:=C.P) (w:=w) (fn:=b.fn) (tmps:=a.tmps) (ps:=ps) (assign:=assign) (body:=body);have hro:b.roundOf=none:=hrd;rw[<-hro] at henter;obtain ⟨a',w',γ',hg',f2,tr,dr,ar⟩:=sS (nt:=nt) (rd:=none) (b:=b) (a:=a) (k:=k) (cs:=cs) (mark:=[{ target:=.collected w.heap.size,args:=#[] }]) (blk:=w.heap.size) (w00:=w) hC hi hs h wf1 f1.rel (f1.ext m1 hx) (f1.freed hr m1 hf)
   (ht.step s1) ⟨⟨by simp[gh],by simp[gh]⟩,hdf.step s1⟩ hro hcalm ⟨by simp[gh],by simp[gh]⟩ (by simpa using henter)
  exact ⟨a',w',γ',hg',f1.trans f2 m1 m2,tr,dr,ar⟩
theorem u_ (hC:CfgOk C)(hi:IHOk C ih){nt:Nat}{rd:Option Nat}:∀(c:Code) {t:T} {df:List ADf} {g:G} {e:Ex} {t':T} {df':List ADf} {g':G},
  (aJ C nt c).run ih (bd+1) rd t df g=.ok e t' df' g'->xq C bd nt rd c t df g e t' df' g':=by
 intro c
 induction c with
 | skip =>
  intro t df g e t' df' g' h A w γ hg nx b a k cs hr hx hwf hf ht hdf hrd hcalm;simp only[aJ] at h;injection h with h1 h2 h3 h4;subst h1;subst h2;subst h3;subst h4;exact ⟨a,w,γ,hg,Fin.refl hr,ht,hdf,.one stepR_skip⟩
 | label l =>
  intro t df g e t' df' g' h A w γ hg nx b a k cs hr hx hwf hf ht hdf hrd hcalm;simp only[aJ] at h;injection h with h1 h2 h3 h4;subst h1;subst h2;subst h3;subst h4;exact ⟨a,w,γ,hg,Fin.refl hr,ht,hdf,.one stepR_label⟩
 | region id ops draw=>intro t df g e t' df' g' h;exact EZ hC hi h
 | seq x y ihx ihy =>
  intro t df g e t' df' g' h A w γ hg nx b a k cs hr hx hwf hf ht hdf hrd hcalm;simp only[aJ] at h;generalize hc:(aJ C nt x).run ih (bd+1) rd t df g=r at h;cases r with
  | fail=>cases h
  | ok e1 t1 df1 g1 =>
   have m1:=ij hC.mon hi.mon _ hc hwf;have wf1:=m1.wf hwf;cases e1 with
   | norm =>
    have h:(aJ C nt y).run ih (bd+1) rd t1 df1 g1=.ok e t' df' g':=h;have m2:=ij hC.mon hi.mon _ h wf1;obtain ⟨a1,w1,γ1,hg1,f1,tr1,dr1,ar1⟩:=ihx hc A w γ hg nx b a (.code y::k) cs hr hx hwf (hf.le m2.nx) ht hdf hrd hcalm;obtain ⟨a2,w2,γ2,hg2,f2,tr2,dr2,ar2⟩:=ihy h A w1 γ1 hg1 _ b a1 k cs f1.rel (f1.ext m1 hx) wf1 (f1.freed hr m1 hf) tr1 dr1 (hrd.step f1.stp) hcalm;exact ⟨a2,w2,γ2,hg2,f1.trans f2 m1 m2,tr2,dr2,ar2.of_steps (.head stepR_seq ar1)⟩
   | exit j =>
    have h:CR.ok (.exit j) t1 df1 g1=.ok e t' df' g':=h;injection h with h1 h2 h3 h4;subst h1;subst h2;subst h3;subst h4;obtain ⟨a1,w1,γ1,hg1,f1,tr1,dr1,k₁,hk,ar1⟩:=ihx hc A w γ hg nx b a (.code y::k) cs hr hx hwf hf ht hdf hrd hcalm;exact ⟨a1,w1,γ1,hg1,f1,tr1,dr1,k₁,by rw[hk];rfl,.head stepR_seq ar1⟩
   | ret =>
    have h:CR.ok .ret t1 df1 g1=.ok e t' df' g':=h;injection h with h1 h2 h3 h4;subst h1;subst h2;subst h3;subst h4;obtain ⟨a1,w1,γ1,hg1,f1,tr1,dr1,k₁,ar1⟩:=ihx hc A w γ hg nx b a (.code y::k) cs hr hx hwf hf ht hdf hrd hcalm;exact ⟨a1,w1,γ1,hg1,f1,tr1,dr1,k₁,.head stepR_seq ar1⟩
 | cond c x y ihx ihy =>
  intro t df g e t' df' g' h A w γ hg nx b a k cs hr hx hwf hf ht hdf hrd hcalm;simp only[aJ] at h
  split at h
  rotate_left
  ·cases h
  rename_i s hs;dsimp only at h;have hv:=ax hs ht hr;generalize hcv:a.eval c=vc at hv;generalize s.run t=cv at h hv;cases hv with
  | bool _ bv =>
   dsimp only at h;cases bv with
   | true =>
    obtain ⟨a1,w1,γ1,hg1,f1,tr1,dr1,ar1⟩:=ihx h A w γ hg nx b a k cs hr hx hwf hf ht hdf hrd hcalm;exact ⟨a1,w1,γ1,hg1,f1,tr1,dr1,ar1.of_steps (.one (by simpa using stepR_cond (P:=C.P) (b:=b) (a:=a) (k:=k) (cs:=cs) (w:=w) (x:=x) (y:=y) hcv))⟩
   | false =>
    obtain ⟨a1,w1,γ1,hg1,f1,tr1,dr1,ar1⟩:=ihy h A w γ hg nx b a k cs hr hx hwf hf ht hdf hrd hcalm;exact ⟨a1,w1,γ1,hg1,f1,tr1,dr1,ar1.of_steps (.one (by simpa using stepR_cond (P:=C.P) (b:=b) (a:=a) (k:=k) (cs:=cs) (w:=w) (x:=x) (y:=y) hcv))⟩
  | _=>cases h
 | block id body ihb =>
  intro t df g e t' df' g' h A w γ hg nx b a k cs hr hx hwf hf ht hdf hrd hcalm;simp only[aJ] at h;generalize hc:(aJ C nt body).run ih (bd+1) rd t df g=r at h;cases r with
  | fail=>cases h
  | ok e1 t1 df1 g1 =>
   cases e1 with
   | norm =>
    have h:CR.ok .norm t1 df1 g1=.ok e t' df' g':=h;injection h with h1 h2 h3 h4;subst h1;subst h2;subst h3;subst h4;obtain ⟨a1,w1,γ1,hg1,f1,tr1,dr1,ar1⟩:=ihb hc A w γ hg nx b a (.inBlock id::k) cs hr hx hwf hf ht hdf hrd hcalm;exact ⟨a1,w1,γ1,hg1,f1,tr1,dr1,.head stepR_block (Steps.trans ar1 (.one stepR_inBlock))⟩
   | exit j =>
    simp only[sV,aa] at h
    split at h
    ·rename_i hj;have hj:=aD hj;subst hj;injection h with h1 h2 h3 h4;subst h1;subst h2;subst h3;subst h4;obtain ⟨a1,w1,γ1,hg1,f1,tr1,dr1,k₁,hk,ar1⟩:=ihb hc A w γ hg nx b a (.inBlock j::k) cs hr hx hwf hf ht hdf hrd hcalm;exact ⟨a1,w1,γ1,hg1,f1,tr1,dr1,.head stepR_block (Steps.trans ar1 (.one (stepR_exit (by rw[hk];simp[exitTo]))))⟩
    ·rename_i hj;injection h with h1 h2 h3 h4;subst h1;subst h2;subst h3;subst h4;obtain ⟨a1,w1,γ1,hg1,f1,tr1,dr1,k₁,hk,ar1⟩:=ihb hc A w γ hg nx b a (.inBlock id::k) cs hr hx hwf hf ht hdf hrd hcalm;refine ⟨a1,w1,γ1,hg1,f1,tr1,dr1,k₁,?_,.head stepR_block ar1⟩;rw[hk];have hne:(id == j)=false:=by simp only[beq_eq_false_iff_ne,ne_eq];rintro rfl;exact hj (Nat.beq_refl _)
     simp[exitTo,hne]
   | ret =>
    have h:CR.ok .ret t1 df1 g1=.ok e t' df' g':=h;injection h with h1 h2 h3 h4;subst h1;subst h2;subst h3;subst h4;obtain ⟨a1,w1,γ1,hg1,f1,tr1,dr1,k₁,ar1⟩:=ihb hc A w γ hg nx b a (.inBlock id::k) cs hr hx hwf hf ht hdf hrd hcalm;exact ⟨a1,w1,γ1,hg1,f1,tr1,dr1,k₁,.head stepR_block ar1⟩
 | loop body ihb =>
  intro t df g e t' df' g' h A w γ hg nx b a k cs hr hx hwf hf ht hdf hrd hcalm;simp only[aJ] at h;generalize hc:(aJ C nt body).run ih (bd+1) rd t df g=r at h;cases r with
  | fail=>cases h
  | ok e1 t1 df1 g1 =>
   have m1:=ij hC.mon hi.mon _ hc hwf;have wf1:=m1.wf hwf;cases e1 with
   | norm =>
    have h:ih.code nt (bd+1) rd (.loop body) t1 df1 g1=.ok e t' df' g':=h;have m2:=hi.mon.code _ _ _ _ _ _ _ _ _ _ _ h wf1;obtain ⟨a1,w1,γ1,hg1,f1,tr1,dr1,ar1⟩:=ihb hc A w γ hg nx b a (.inLoop body::k) cs hr hx hwf (hf.le m2.nx) ht hdf hrd hcalm;obtain ⟨a2,w2,γ2,hg2,f2,tr2,dr2,ar2⟩:=hi.code _ _ _ _ _ _ _ _ _ _ _ h A w1 γ1 hg1 _ b a1 k cs f1.rel (f1.ext m1 hx) wf1 (f1.freed hr m1 hf) tr1 dr1 (hrd.step f1.stp) hcalm;refine ⟨a2,w2,γ2,hg2,f1.trans f2 m1 m2,tr2,dr2,Arr.of_steps (.head stepR_loop (Steps.trans ar1 (.one stepR_inLoop))) ?_⟩;have hloop:step C.P (lone (b.atR a1 (.code (.loop body)::k)) cs w1)=.next (lone (b.atR a1 (.code body::.inLoop body::k)) cs w1):=stepR_loop;have ne:∀{a':Act} {k':List Item} {w':World},k'≠.code (.loop body)::k->lone (b.atR a1 (.code (.loop body)::k)) cs w1≠lone (b.atR a' k') cs w':=λh h'=>h (zw h').symm;cases e with
    | norm=>exact eA ar2 (ne (λh=>by have:=congrArg List.length h;simp at this)) hloop
    | exit j =>
     obtain ⟨k₁,hk,ar2⟩:=ar2;exact ⟨k₁,hk,eA ar2 (ne (λh=>by injection h with h _;injection h with h;cases h)) hloop⟩
    | ret =>
     obtain ⟨k₁,ar2⟩:=ar2;exact ⟨k₁,eA ar2 (ne (λh=>by injection h with h _;injection h with h;cases h)) hloop⟩
   | exit j =>
    have h:CR.ok (.exit j) t1 df1 g1=.ok e t' df' g':=h;injection h with h1 h2 h3 h4;subst h1;subst h2;subst h3;subst h4;obtain ⟨a1,w1,γ1,hg1,f1,tr1,dr1,k₁,hk,ar1⟩:=ihb hc A w γ hg nx b a (.inLoop body::k) cs hr hx hwf hf ht hdf hrd hcalm;exact ⟨a1,w1,γ1,hg1,f1,tr1,dr1,k₁,by rw[hk];rfl,.head stepR_loop ar1⟩
   | ret =>
    have h:CR.ok .ret t1 df1 g1=.ok e t' df' g':=h;injection h with h1 h2 h3 h4;subst h1;subst h2;subst h3;subst h4;obtain ⟨a1,w1,γ1,hg1,f1,tr1,dr1,k₁,ar1⟩:=ihb hc A w γ hg nx b a (.inLoop body::k) cs hr hx hwf hf ht hdf hrd hcalm;exact ⟨a1,w1,γ1,hg1,f1,tr1,dr1,k₁,.head stepR_loop ar1⟩
 | scope body ihb =>
  intro t df g e t' df' g' h A w γ hg nx b a k cs hr hx hwf hf ht hdf hrd hcalm;have h:(aJ C nt body).run ih (bd+1) rd t df g=.ok e t' df' g':=h;obtain ⟨a1,w1,γ1,hg1,f1,tr1,dr1,ar1⟩:=ihb h A w γ hg nx b a (.inScope body::k) cs hr hx hwf hf ht hdf hrd hcalm;refine ⟨a1,w1,γ1,hg1,f1,tr1,dr1,?_⟩;cases e with
  | norm=>exact .head bM (Steps.trans ar1 (.one m9))
  | exit j=>obtain ⟨k₁,hk,ar1⟩:=ar1;exact ⟨k₁,by rw[hk];rfl,.head bM ar1⟩
  | ret=>obtain ⟨k₁,ar1⟩:=ar1;exact ⟨k₁,.head bM ar1⟩
 | exit id =>
  intro t df g e t' df' g' h A w γ hg nx b a k cs hr hx hwf hf ht hdf hrd hcalm;simp only[aJ] at h;injection h with h1 h2 h3 h4;subst h1;subst h2;subst h3;subst h4;exact ⟨a,w,γ,hg,Fin.refl hr,ht,hdf,k,rfl,Steps.refl _ _⟩
 | ret =>
  intro t df g e t' df' g' h A w γ hg nx b a k cs hr hx hwf hf ht hdf hrd hcalm;simp only[aJ] at h;injection h with h1 h2 h3 h4;subst h1;subst h2;subst h3;subst h4;exact ⟨a,w,γ,hg,Fin.refl hr,ht,hdf,k,Steps.refl _ _⟩
 | rangeFunc f ps assign body _ _ =>
  intro t df g e t' df' g' h;simp only[aJ] at h
  split at h
  ·rename_i s hs;exact EY hC hi hs h
  ·cases h
 | _=>intro t df g e t' df' g' h;cases h
theorem Ht (fr:Frame)(h:fr.mode=.returning):({ fr with mode:=.returning }:Frame)=fr:=by cases fr;simp at h;subst h;rfl
theorem A1 (hi:IHOk C ih):∀{df:List ADf} {g g':G},eN ih (bd+1) df g=some g'->WF g ->
  ∀{w γ hg nx} {fr:Frame} {cs:List Frame},Rel C A bd w γ hg nx->Ext g.h hg->Free γ g g'->DR w γ A bd df fr.defers->fr.mode=.returning ->
   ∃w' γ' hg',Fin C A bd w γ hg nx g w' γ' hg' g'/\Steps C.P (lone fr cs w) (lone { fr with defers:=[] } cs w'):=by
 intro df
 induction df with
 | nil =>
  intro g g' h _ w γ hg nx fr cs hr hx hf hdf hm;simp only[eN] at h;injection h with h;subst h;have hd:fr.defers=[]:=by
   cases hd:fr.defers with
   | nil=>rfl
   | cons d ds=>rw[hd] at hdf;exact hdf.elim
  refine ⟨w,γ,hg,Fin.refl hr,?_⟩;have:({ fr with defers:=[] }:Frame)=fr:=by cases fr;simp at hd;subst hd;rfl
  rw[this];exact Steps.refl _ _
 | cons x df ihl =>
  intro g g' h hwf w γ hg nx fr cs hr hx hf hdf hm;cases hd:fr.defers with
  | nil=>rw[hd] at hdf;cases x<;>exact hdf.elim
  | cons d ds =>
   rw[hd] at hdf;cases x with
   | mark id =>
    obtain ⟨⟨hk,rfl⟩,hdf⟩:=hdf;simp only[eN] at h
    split at h
    ·rename_i hget;have hget:g.h.get id=.dfr true:=by simpa using hget
     have hid:hg id=.dfr true:=by rw[hx id (by rw[hget];simp),hget]
     have hob:=hr.obj id;rw[hid] at hob;obtain ⟨k1,k2,k3⟩:=hob;have hk0:(γ id).kind≠0:=by rw[k1];decide
     have m1:Mon g (g.put id (.dfr false)):=Mon.put hwf (by rw[hget];simp);obtain ⟨r1,s1⟩:=hr.setBlk (id:=id) (o:=.deferred none) (ao:=.dfr false) hk0 k2 ⟨k1,k2,by rw[aT];simp[(hr.lt id hk0).2]⟩;have f1:Fin C A bd w γ hg nx g _ γ _ (g.put id (.dfr false)):=Fin.ofPut r1 s1;have m2:=jY hi.mon h (m1.wf hwf);obtain ⟨w',γ',hg',f2,st⟩:=ihl h (m1.wf hwf) (fr:={ fr with defers:=ds }) (cs:=cs) f1.rel (f1.ext m1 hx) (f1.freed hr m1 hf) (hdf.step s1) hm;refine ⟨w',γ',hg',f1.trans f2 m1 m2,.head (step_lone_go ?_) st⟩;have htake:(Instr.takeDeferred (γ id).blk).run C.P w=.ok [] (World.setBlk w (γ id).blk (.deferred none)):=by unfold Instr.takeDeferred;simp only[Sem.run_bind,eh k3 (by simp),Result.andThen_ok,if_true,fN k3 (by simp),Sem.run_pure]
     simp[stepG,hm,unwind,hd,Sem.runT_eq,htake,GStep.bare_after]
    ·cases h
   | call fv args =>
    obtain ⟨⟨f,ys,us,rfl,htar,hys,hargs⟩,hdf⟩:=hdf;simp only[eN] at h
    split at h
    rotate_left
    ·cases h
    rename_i v g1 hcall;have m1:=hi.mon.call _ _ _ _ _ _ hcall hwf;have wf1:=m1.wf hwf;have m2:=jY hi.mon h wf1;obtain ⟨hent,hrun⟩:=hi.call _ _ _ _ _ _ hcall
    let fr0:Frame:={ fr with defers:=ds }
    obtain ⟨u,w1,γ1,hg1,f1,_,frX,st,q1,q2,q3,q4,fn,q5,q6⟩:=hrun A w γ hg nx (d.args.toList++us.toList) hr hx hwf (hf.le m2.nx) (by simpa using hargs.append hys) .deferred (fr0::cs) (.inr ⟨rfl,fr0,cs,rfl,.inl hm⟩);have harr:(d.args.toList++us.toList).toArray=d.args++us:=by apply Array.ext';simp
    rw[harr] at st;obtain ⟨w',γ',hg',f2,st2⟩:=ihl h wf1 (fr:=fr0) (cs:=cs) f1.rel (f1.ext m1 hx) (f1.freed hr m1 hf) (hdf.step f1.stp) hm;refine ⟨w',γ',hg',f1.trans f2 m1 m2,.head (step_defer (by rw[hm];simp) hd htar ?_) (Steps.trans st (.head ?_ st2))⟩
    ·rw[htar];simp only[invoke];exact hent _ _
    ·have hgo:frX.going C.P w1 (.returned u):=⟨q1,q2,fn,by rw[q4];exact q5,q6⟩;have:=step_going_returned (P:=C.P) (c:=fr0) (cs:=cs) q3 hgo;have hs:settle fr0.mode=.returning:=by have:fr0.mode=.returning:=hm;rw[this];rfl
     rw[hs] at this;have hfr:({ fr0 with mode:=.returning }:Frame)=fr0:=by exact Ht fr0 hm
     rw[hfr] at this;exact this
theorem C7 {P:Program}{ty:TypeId}{x v:Value}{w w':World}(h:(do loadVar ty (<-Instr.sureAddr x):Sem Value).run P w=.ok v w') :
  (do loadVar ty (<-asAddr x):Sem Value).run P w=.ok v w':=by
 cases x with
 | pointer p=>cases p<;>simp[Instr.sureAddr,asAddr] at h ⊢;exact h
 | _=>simp[Instr.sureAddr] at h
theorem xV (hC:CfgOk C){nt:Nat}{tmps:Array Value}(ht:TR w γ A bd nt t tmps)(hr:Rel C A bd w γ hg nx)(hx:Ext g.h hg):∀{rs:List ResultVar} {k:Stg (T->G->Option (List AV))} {vs:List AV},pP C rs=some k->k.run t g=some vs ->
  ∃us:List Value,(rs.mapM (λ| .tmp t=>pure (tmps.getD t undef) | .cell a t=>do loadVar t (<-asAddr (tmps.getD a undef))):Sem (List Value)).run C.P w=.ok us w/\RVs w γ A bd vs us:=by
 intro rs
 induction rs with
 | nil=>intro k vs h hv;simp[pP] at h;subst h;simp at hv;subst hv;exact ⟨[],by simp,rfl,λi x v h=>by simp at h⟩
 | cons r rs ihr =>
  intro k vs h hv;cases r with
  | tmp n =>
   simp only[pP] at h
   split at h
   ·rename_i k0 hk0;injection h with h;subst h;dsimp only at hv
    split at hv
    ·rename_i vs0 hvs0;injection hv with hv;subst hv;obtain ⟨us,h1,h2⟩:=ihr hk0 hvs0;refine ⟨tmps.getD n undef::us,?_,by simp[h2.1],λi x v hx' hv'=>?_⟩
     ·rw[List.mapM_cons];simp only[Sem.run_bind,Sem.run_pure,Result.andThen_ok,h1]
     ·cases i with
      | zero=>simp at hx' hv';subst hx';subst hv';simpa [Array.getD_eq_getD_getElem?] using ht.2 n
      | succ i=>exact h2.2 i x v (by simpa using hx') (by simpa using hv')
    ·cases hv
   ·cases h
  | cell ad ty =>
   simp only[pP] at h
   split at h
   ·rename_i k0 l hk0 hl;injection h with h;subst h;dsimp only at hv
    split at hv
    ·rename_i y hy
     split at hv
     ·rename_i vs0 hvs0;injection hv with hv;subst hv;obtain ⟨us,h1,h2⟩:=ihr hk0 hvs0
      let o:Oper:={ (default:Oper) with op:=.load ty (.tmp ad) }
      have hlook:∀id∈bc C (.load ty (.tmp ad)) t g,hg id=g.h.get id:=by intro id hid;exact hx id λhn=>by rw[DX hl hid hn] at hy;cases hy
      have hload:∃v,(do loadVar ty (<-asAddr (tmps.getD ad undef)):Sem Value).run C.P w=.ok v w/\RV w γ A bd y v:=by
       simp only[bS] at hl
       split at hl
       ·rename_i s ag n hs hag hn;injection hl with hl;subst hl;have:=C8 (g:=g) (ty:=ty) (t:=t) hr (ax (a:={ tmps:=tmps,defers:=[] }) hs ht hr) hag hn (λid hid=>hlook id (by simp[bc,aI,ap,hs,hid]));have hy:lC ag n s.run t g=.val y:=hy;rw[hy] at this;obtain ⟨v,h1,h2⟩:=this;refine ⟨v,?_,h2⟩;have h1:(Instr.loadAt ty (tmps.getD ad undef)).run C.P w=.ok v w:=h1;unfold Instr.loadAt at h1;exact C7 h1
       ·cases hl
      obtain ⟨v,h3,h4⟩:=hload;refine ⟨v::us,?_,by simp[h2.1],λi x v' hx' hv'=>?_⟩
      ·rw[List.mapM_cons];simp only[Sem.run_bind,Sem.run_pure];simp only[Sem.run_bind] at h3;rw[h3];simp only[Result.andThen_ok,h1]
      ·cases i with
       | zero=>simp at hx' hv';subst hx';subst hv';exact h4
       | succ i=>exact h2.2 i x v' (by simpa using hx') (by simpa using hv')
     ·cases hv
    ·cases hv
   ·cases h
theorem EO:∀(vs:List AV) (i:Nat) (t:T) (s:Nat),(bK i vs t).get AV.undef s=if i<=s/\s<i+vs.length then vs.getD (s - i) AV.undef else t.get AV.undef s:=by
 intro vs
 induction vs with
 | nil=>intro i t s;simp only[bK,List.length_nil];rw[if_neg (by omega)]
 | cons v vs ihv =>
  intro i t s;simp only[bK];rw[ihv,sp_get]
  by_cases h1:s=i
  ·subst h1;rw[if_neg (by omega),if_pos rfl,if_pos (by simp)];simp
  ·rw[if_neg h1]
   by_cases h2:i+1<=s/\s<i+1+vs.length
   ·rw[if_pos h2,if_pos (by simp;omega),show s - i=(s - (i+1))+1 by omega];simp
   ·rw[if_neg h2,if_neg (by simp;omega)]
theorem xr {nt:Nat}{as:List AV}{vs:List Value}(hv:RVs w γ A bd as vs)(hn:as.length<=nt) :
  TR w γ A bd nt (bK 0 as .nil) (vs.toArray++Array.replicate (nt - vs.toArray.size) undef):=by
 have hl:=hv.1;refine ⟨by simp;omega,λs=>?_⟩;rw[EO]
 by_cases hs:s<as.length
 ·rw[if_pos (by simpa using hs)];have h1:as[s]?=some (as[s]):=List.getElem?_eq_getElem hs;have h2:vs[s]?=some (vs[s]'(by omega)):=List.getElem?_eq_getElem (by omega);have:=hv.2 s _ _ h1 h2;have e1:as.getD (s - 0) AV.undef=as[s]:=by simp[List.getD_eq_getElem?_getD,h1]
  have e2:(vs.toArray++Array.replicate (nt - vs.toArray.size) undef).getD s undef=vs[s]'(by omega):=by rw[Array.getD_eq_getD_getElem?,Array.getElem?_append_left (by simp;omega)];simp[h2]
  rw[e1,e2];exact this
 ·rw[if_neg (by simpa using hs),Tr.get_nil];have e2:(vs.toArray++Array.replicate (nt - vs.toArray.size) undef).getD s undef=undef:=by
   rw[Array.getD_eq_getD_getElem?,Array.getElem?_append_right (by simp;omega),Array.getElem?_replicate]
   split<;>rfl
  rw[e2];exact b_
theorem rx {P:Program}{fn:Func}{tmps:Array Value}{us:List Value}
  (h:(fn.results.toList.mapM (λ| .tmp t=>pure (tmps.getD t undef) | .cell a t=>do loadVar t (<-asAddr (tmps.getD a undef))):Sem (List Value)).run P w=.ok us w) :
  ∃u,(results fn tmps).run P w=.ok u w/\∀{xs:List AV},RVs w γ A bd xs us->RV w γ A bd (jc xs) u:=by
 have hm:(fn.results.mapM (λ| .tmp t=>pure (tmps.getD t undef) | .cell a t=>do loadVar t (<-asAddr (tmps.getD a undef))):Sem (Array Value)).run P w=.ok us.toArray w:=by
  rw[Array.mapM_eq_mapM_toList];simp only[Sem.run_map,h]
  rfl
 refine ⟨if hs:us.toArray.size=1 then us.toArray[0] else .tuple us.toArray,?_,?_⟩
 ·unfold results;simp only[Sem.run_bind];have hm':=hm;generalize hq:(fn.results.mapM (λ| .tmp t=>pure (tmps.getD t undef) | .cell a t=>do loadVar t (<-asAddr (tmps.getD a undef))):Sem (Array Value))=q at hm';rw[hm'];simp only[Result.andThen_ok,Sem.run_pure]
 ·intro xs hv;have hl:=hv.1;have tup:RV w γ A bd (.tup xs) (.tuple us.toArray):=.tup _ _ _ (by simpa using hl) λi x v h1 h2=>hv.2 i x v h1 (by simpa using h2);cases us with
  | nil =>
   have:xs=[]:=List.length_eq_zero_iff.1 hl;subst this;exact tup
  | cons u us =>
   cases us with
   | nil =>
    cases xs with
    | nil=>simp at hl
    | cons x xs =>
     have:xs=[]:=List.length_eq_zero_iff.1 (by simpa using hl);subst this;exact hv.2 0 x u rfl rfl
   | cons u' us =>
    rw[dif_neg (by simp)];cases xs with
    | nil=>simp at hl
    | cons x xs =>
     cases xs with
     | nil=>simp at hl
     | cons x' xs=>exact tup
theorem K9 (hC:CfgOk C)(hi:IHOk C ih){f:Nat}{x:Stg (IH->Nat->List AV->G->FR)}(hx:cFn C f=some x){as:List AV}{v:AV}{g':G}
  (h:x.run ih (bd+1) as g=.ok v g'):Enters C.P f/\xp C bd f as g v g':=by
 unfold cFn at hx
 split at hx
 ·cases hx
 rename_i fn hfn
 split at hx
 ·cases hx
 rename_i c hbody
 split at hx
 rotate_left
 ·cases hx
 rename_i r hres;rw[aa] at hx
 split at hx
 ·cases hx
 rename_i hname;injection hx with hx;subst hx;refine ⟨λargs w=>?_,?_⟩
 ·unfold callFunc;have hn : fn.name ≠ "runtime.NumGoroutine" := by simpa using hname
  simp[hfn,hn,hbody]
 intro A w γ hg nx vs hr hex hwf hf hv K cs hcalm;dsimp only at h;rw[aa] at h
 split at h
 rotate_left
 ·cases h
 rename_i hle;rw[Nat.ble_eq,aw] at hle
 let b:Frame:={ (default:Frame) with fn:=f,kind:=K,roundOf:=none }
 let a0:Act:={ tmps:=vs.toArray++Array.replicate (fn.ntmps - vs.toArray.size) undef,defers:=[] }
 have henter:Frame.enter C.P f vs.toArray K=b.atR a0 [.code c]:=by simp[Frame.enter,Frame.atR,hfn,hbody,b,a0]
 have key:∀{e:Ex} {t1:T} {df:List ADf} {g1:G},(aJ C fn.ntmps c).run ih (bd+1) none (bK 0 as .nil) [] g=.ok e t1 df g1->(∀j,e≠.exit j)->cD ih (bd+1) r.run t1 df g1=.ok v g' ->
   ∃u w' γ' hg',Fin C A bd w γ hg nx g w' γ' hg' g'/\RV w' γ' A bd v u/\Outs C.P K f vs.toArray cs w u w':=by
  intro e t1 df g1 hc hne hend;have m1:=ij hC.mon hi.mon _ hc hwf;have wf1:=m1.wf hwf;unfold cD at hend
  split at hend
  ·cases hend
  rename_i g2 h2;have m2:=jY hi.mon h2 wf1
  split at hend
  rotate_left
  ·cases hend
  rename_i xs hxs;injection hend with h1 h2';subst h2';subst h1;obtain ⟨a1,w1,γ1,hg1,f1,tr1,dr1,ar1⟩:=u_ hC hi c hc A w γ hg nx b a0 [] cs hr hex hwf (hf.le m2.nx) (xr hv hle) trivial rfl hcalm;have hret:∃fr:Frame,Steps C.P (lone (Frame.enter C.P f vs.toArray K) cs w) (lone fr cs w1)/\fr.mode=.returning/\fr.defers=a1.defers/\fr.kind=K/\fr.fn=f/\fr.tmps=a1.tmps:=by
   rw[henter];cases e with
   | norm=>exact ⟨{ b.atR a1 [] with mode:=.returning },Steps.trans ar1 (.one (stepR_end rfl)),rfl,rfl,rfl,rfl,rfl⟩
   | ret =>
    obtain ⟨k₁,ar1⟩:=ar1;exact ⟨{ b.atR a1 (.code .ret::k₁) with mode:=.returning },Steps.trans ar1 (.one (stepR_ret rfl)),rfl,rfl,rfl,rfl,rfl⟩
   | exit j=>exact absurd rfl (hne j)
  obtain ⟨fr,st1,q1,q2,q3,q4,q5⟩:=hret;obtain ⟨w2,γ2,hg2,f2,st2⟩:=A1 hi h2 wf1 (fr:=fr) (cs:=cs) f1.rel (f1.ext m1 hex) (f1.freed hr m1 hf) (by rw[q2];exact dr1) q1;have f12:=f1.trans f2 m1 m2;obtain ⟨us,hus,hrv⟩:=xV hC (tr1.step f2.stp) f12.rel (f12.ext (m1.trans m2) hex) hres hxs;obtain ⟨u,hu,hone⟩:=rx (γ:=γ2) (A:=A) (bd:=bd) hus;exact ⟨u,w2,γ2,hg2,f12,hone hrv,{ fr with defers:=[] },Steps.trans st1 st2,q1,rfl,q3,q4,fn,hfn,by
   have:({ fr with defers:=[] }:Frame).tmps=a1.tmps:=q5;rw[this];exact hu⟩
 split at h
 ·cases h
 ·rename_i e t1 df g1 hne hc;exact key hc (by rintro j rfl;exact hne j rfl) h
 ·cases h
theorem vZ (hC:CfgOk C):∀n,IHOk C (sem C n):=by
 intro n
 induction n with
 | zero=>exact ⟨xD hC.mon 0,λbd f as g v g' h=>(by cases h),λbd nt rd c t df g e t' df' g' h=>(by cases h)⟩
 | succ n ihn =>
  refine ⟨xD hC.mon (n+1),λbd f as g v g' h=>?_,λbd nt rd c t df g e t' df' g' h=>u_ hC ihn c h⟩;change dJ C (sem C n) (bd+1) f as g=.ok v g' at h;unfold dJ at h
  split at h
  ·rename_i x hx;exact K9 hC ihn hx h
  ·cases h
end
end Hx
end
section
namespace Hx
open Go Go.RowKit
def gm0:Gm:=λ_=>⟨0,0,0,0,0,0,0,false⟩
def av0:Nat->Nat->Prop:=λ_ _=>False
theorem N_ (b:Nat):¬Mut gm0 b:=by rintro ⟨id,h,_⟩;exact h rfl
abbrev RV0 (w:World)(x:AV)(v:Value):Prop:=RV w gm0 av0 0 x v
abbrev RVs0 (w:World)(xs:List AV)(vs:List Value):Prop:=RVs w gm0 av0 0 xs vs
theorem AB:G.empty.h.get=λ_=>AObj.none:=by funext id;simp[G.empty,H.get,Tr.get_nil]
theorem Bk {C:Cfg}(hC:CfgOk C){n f:Nat}{as:List AV}{v:AV}{g':G}(h:(sem C n).call 1 f as G.empty=.ok v g'){w:World}{vs:List Value}(hargs:RVs0 w as vs)
  (hglob:∀gl sz rows,C.glob gl=some (sz,rows)->RV0 w (.tptr 0 sz rows 0 0) (.pointer (some ⟨gl,0,none⟩))) :
  Calls C.P f vs.toArray w λe w'=>∃u γ' A',e=.returned u/\Below w.heap.size w w'/\RV w' γ' A' 0 v u:=by
 intro cs;have hok:=vZ hC n;obtain ⟨_,hrun⟩:=hok.call 0 f as G.empty v g' h;have hr:Rel C av0 0 w gm0 (λ_=>.none) 0 :=
  ⟨λid=>rfl,λid h=>absurd rfl h,λi j h=>absurd rfl h,λid h=>absurd rfl h,λt b h=>h.elim,hglob⟩
 obtain ⟨u,w',γ',hg',fin,rv,fr,st,q1,q2,q3,q4,fn,q5,q6⟩:=hrun av0 w gm0 _ 0 vs hr (λid h=>by rw[AB] at h;exact absurd rfl h) (λid _=>by rw[AB]) (λ_ _ _=>rfl) hargs .normal cs (.inl rfl);refine ⟨.returned u,w',fr,⟨u,γ',av0,rfl,⟨fin.stp.os,fin.stp.tape,fin.stp.output,fin.stp.sz,λk hk=>fin.stp.fr k hk (N_ k)⟩,rv⟩,st,q4,q1,q2,q3,fn,by rw[q4];exact q5,q6⟩
theorem EI {C:Cfg}(hC:CfgOk C){n f:Nat}{as:List AV}{g':G}(h:(sem C n).call 1 f as G.empty=.ok (.bool true) g'){w:World}{vs:List Value}(hargs:RVs0 w as vs)
  (hglob:∀gl sz rows,C.glob gl=some (sz,rows)->RV0 w (.tptr 0 sz rows 0 0) (.pointer (some ⟨gl,0,none⟩))) :
  Calls C.P f vs.toArray w λe w'=>e=.returned (.bool true)/\Below w.heap.size w w' :=
 (Bk hC h hargs hglob).mono λe w' ⟨u,γ',A',he,hb,rv⟩=>by cases rv;exact ⟨he,hb⟩
end Hx
end
section
namespace Hx
open Go Go.RowKit
theorem CfgOk.plain {P:Program}{iso:Nat->Bool}{glob:Nat->Option (Nat×List (List AV))}(hm:P.follows .mixedOrders=true)(hrf:P.follows .rangeFuncRecover=true) :
  CfgOk { P,iso,ext:=λ_=>none,glob } :=
 ⟨hm,hrf,λf e h=>(by cases h),λf e h=>(by cases h),λf e h=>(by cases h)⟩
theorem Rel.cfg {C C':Cfg}(h:C'.glob=C.glob){A:Nat->Nat->Prop}{bd:Nat}{w:World}{γ:Gm}{hg:Nat->AObj}{nx:Nat}(r:Rel C A bd w γ hg nx):Rel C' A bd w γ hg nx :=
 ⟨r.obj,r.lt,r.inj,r.av,r.ab,by rw[h];exact r.glob⟩
theorem Fin.cfg {C C':Cfg}(h:C'.glob=C.glob){A:Nat->Nat->Prop}{bd:Nat}{w w':World}{γ γ':Gm}{hg hg':Nat->AObj}{nx:Nat}{g g':G}(f:Fin C A bd w γ hg nx g w' γ' hg' g') :
  Fin C' A bd w γ hg nx g w' γ' hg' g':=⟨f.rel.cfg h,f.stp,f.new⟩
structure ExtOk (C:Cfg) (f:Nat) (e:Nat->List AV->G->OR):Prop where
 mon:∀d args g,WF g->Mon g (gOf g (e d args g))
 noDfr:∀d args g y,e d args g≠.dfr y
 run:∀A bd w γ hg nx g as vs,Rel C A bd w γ hg nx->WF g->(∀id∈as.flatMap (aA g.h aB),g.h.get id≠.none->hg id=g.h.get id)->Free γ g (gOf g (e (bd+1) as g)) ->
  RVs w γ A bd as vs->e (bd+1) as g≠.fail->∀cs,
  ∃u w' γ' hg',Fin C A bd w γ hg nx g w' γ' hg' (gOf g (e (bd+1) as g))/\RV w' γ' A bd (vOf (e (bd+1) as g)) u /\
   ((callFunc f vs.toArray).run C.P w=.ok (.value u) w'\/(Enters C.P f/\Outs C.P .normal f vs.toArray cs w u w'))
noncomputable def Cfg.add (C:Cfg)(f:Nat)(e:Nat->List AV->G->OR):Cfg:={ C with ext:=λk=>au (Nat.beq k f) (some e) (C.ext k) }
theorem ExtOk.cfg {C C':Cfg}{f:Nat}{e:Nat->List AV->G->OR}(hp:C'.P=C.P)(hgl:C'.glob=C.glob)(h:ExtOk C f e):ExtOk C' f e:=by refine ⟨h.mon,h.noDfr,λA bd w γ hg nx g as vs hr hwf hx hf hv hne cs=>?_⟩;obtain ⟨u,w',γ',hg',fin,rv,out⟩:=h.run A bd w γ hg nx g as vs (hr.cfg hgl.symm) hwf hx hf hv hne cs;exact ⟨u,w',γ',hg',fin.cfg hgl,rv,by rw[hp];exact out⟩
theorem CfgOk.add {C:Cfg}(h:CfgOk C){f:Nat}{e:Nat->List AV->G->OR}(he:ExtOk C f e):CfgOk (C.add f e):=by
 have which:∀k e',(C.add f e).ext k=some e'->(k=f/\e'=e)\/C.ext k=some e':=by
  intro k e' hk;have hk:au (Nat.beq k f) (some e) (C.ext k)=some e':=hk;rw[aa] at hk
  split at hk
  ·rename_i hb;injection hk with hk;exact .inl ⟨aD hb,hk.symm⟩
  ·exact .inr hk
 refine ⟨h.mixed,h.recov,λk e' hk d args g hwf=>?_,λk e' hk d args g y=>?_,λk e' hk A bd w γ hg nx g as vs hr hwf hx hf hv hne cs=>?_⟩
 ·rcases which k e' hk with ⟨_,rfl⟩ | hk
  ·exact he.mon d args g hwf
  ·exact h.mon k e' hk d args g hwf
 ·rcases which k e' hk with ⟨_,rfl⟩ | hk
  ·exact he.noDfr d args g y
  ·exact h.noDfr k e' hk d args g y
 ·rcases which k e' hk with ⟨rfl,rfl⟩ | hk
  ·obtain ⟨u,w',γ',hg',fin,rv,out⟩:=he.run A bd w γ hg nx g as vs (Rel.cfg (C:=C.add k e') (C':=C) rfl hr) hwf hx hf hv hne cs;exact ⟨u,w',γ',hg',Fin.cfg (C:=C) (C':=C.add k e') rfl fin,rv,out⟩
  ·obtain ⟨u,w',γ',hg',fin,rv,out⟩:=h.ext k e' hk A bd w γ hg nx g as vs (Rel.cfg (C:=C.add f e) (C':=C) rfl hr) hwf hx hf hv hne cs;exact ⟨u,w',γ',hg',Fin.cfg (C:=C) (C':=C.add f e) rfl fin,rv,out⟩
noncomputable def yg (v:AV):Nat->List AV->G->OR:=λd as _ =>
 match d with
 | 1=>match as with
  | []=>.val v
  | _=>.fail
 | _=>.fail
theorem C2 {ih:IH}{d:Nat}{g g0:G}{f:Nat}{v:AV}(h:af ih d g0 f []=.val v):af ih d g f []=.val v:=by
 unfold af at h ⊢;simp only[aE] at h ⊢;cases hc:ih.call (Nat.succ d) f [] G.empty with
 | fail=>rw[hc] at h;cases h
 | ok r g' =>
  rw[hc] at h;dsimp only at h ⊢;cases hs:snap g'.h 0 aB r with
  | none=>rw[hs] at h;cases h
  | some r' =>
   rw[hs] at h;dsimp only at h ⊢;cases hm:dH aB r' with
   | none=>rw[hm] at h;cases h
   | some m =>
    rw[hm] at h;dsimp only at h ⊢;cases hb:Nat.blt m d with
    | true=>rw[hb] at h;exact h
    | false =>
     rw[hb] at h
     split at h
     ·cases h
     ·split at h
      ·cases h
      ·rename_i m' hm';cases hb':Nat.blt m' d with
       | true=>rw[hb'] at h;cases h
       | false=>rw[hb'] at h;cases h
theorem Hf {C:Cfg}(hC:CfgOk C){n f:Nat}{v:AV}(h:af (sem C n) 1 G.empty f []=.val v):ExtOk C f (yg v):=by
 have sh:∀d args g,yg v d args g=.fail\/(d=1/\args=[]/\yg v d args g=.val v):=by
  intro d args g;unfold yg
  split
  ·split
   ·exact .inr ⟨rfl,rfl,rfl⟩
   ·exact .inl rfl
  ·exact .inl rfl
 refine ⟨λd args g _=>?_,λd args g y hy=>?_,λA bd w γ hg nx g as vs hr hwf hx hf hv hne cs=>?_⟩
 ·rcases sh d args g with h | ⟨_,_,h⟩<;>rw[h]<;>exact Mon.refl g
 ·rcases sh d args g with h | ⟨_,_,h⟩<;>rw[h] at hy<;>cases hy
 ·rcases sh (bd+1) as g with h0 | ⟨h1,rfl,h0⟩
  ·exact absurd h0 hne
  ·have hbd:bd=0:=by omega
   subst hbd;have hc:=C2 (g:=g) h;rw[h0];have hok:=vZ hC n;obtain ⟨he,u,w',γ',hg',fin,rv,out⟩:=rk (args:=[]) (f:=f) hok.call hok.mon.call hr hx hv (by rw[hc];simp) cs;rw[hc] at fin rv;exact ⟨u,w',γ',hg',fin,rv,.inr ⟨he,out⟩⟩
end Hx
end
section
namespace Hx
open Go
noncomputable section
def kR (J:PT)(b:Nat)(Q:QT):QT:=λe t df g=>match e with
 | .norm=>J t df g
 | .exit x=>if x=b then J t df g else Q (.exit x) t df g
 | .ret=>Q .ret t df g
theorem BG (J:PT)(b:Nat)(Q:QT)(t:T)(df:List ADf)(g:G):kR J b Q .norm t df g=J t df g:=rfl
theorem mi (J:PT)(b x:Nat)(Q:QT)(t:T)(df:List ADf)(g:G):kR J b Q (.exit x) t df g=if x=b then J t df g else Q (.exit x) t df g:=rfl
theorem Jn (J:PT)(b:Nat)(Q:QT)(t:T)(df:List ADf)(g:G):kR J b Q .ret t df g=Q .ret t df g:=rfl
variable {C:Cfg}{d:Nat}{rd:Option Nat}
theorem bQ:∀(s:SC) {Q Q':QT} {t:T} {df:List ADf} {g:G},wp C d rd s Q t df g->(∀e t df g,Q e t df g->Q' e t df g)->wp C d rd s Q' t df g:=by
 have hO:∀(l:List SI) {Q Q':PT} {t:T} {df:List ADf} {g:G},wpO C d rd l Q t df g->(∀t df g,Q t df g->Q' t df g)->wpO C d rd l Q' t df g:=by
  intro l
  induction l with
  | nil=>intro Q Q' t df g h hq;exact hq _ _ _ h
  | cons i r ih =>
   intro Q Q' t df g h hq;have run:∀t df g,DO C d rd i (wpO C d rd r Q) t df g->DO C d rd i (wpO C d rd r Q') t df g:=λt df g h =>
    OR.sat_mono h (λv g' h=>ih h hq) (λa h=>ih h hq)
   have skp:∀t df g,zm i (wpO C d rd r Q) t df g->zm i (wpO C d rd r Q') t df g:=λt df g h=>ih h hq;unfold wpO at h ⊢
   split at h
   ·exact run _ _ _ h
   ·rename_i s w hg;unfold gdP at h ⊢
    split at h
    ·rw[aa] at h ⊢
     split at h
     ·rename_i hw;rw[if_pos hw];exact ⟨λq=>run _ _ _ (h.1 q),λq=>skp _ _ _ (h.2 q)⟩
     ·rename_i hw;rw[if_neg hw];exact ⟨λq=>skp _ _ _ (h.1 q),λq=>run _ _ _ (h.2 q)⟩
    ·exact skp _ _ _ h
    ·exact h
 have hF:∀(pm:List Nat) (l:List SI) {Q Q':PT} {t:T} {df:List ADf} {g:G} {fs:List Foot},wpF C d rd pm l Q t df g fs->(∀t df g,Q t df g->Q' t df g)->wpF C d rd pm l Q' t df g fs:=by
  intro pm l
  induction l with
  | nil=>intro Q Q' t df g fs h hq;exact ⟨h.1,hq _ _ _ h.2⟩
  | cons i r ih =>
   intro Q Q' t df g fs h hq;have run:∀t df g,HT C d rd i (wpF C d rd pm r Q) fs t df g->HT C d rd i (wpF C d rd pm r Q') fs t df g:=λt df g h =>
    OR.sat_mono h (λv g' h=>ih h hq) (λa h=>h)
   have skp:∀t df g,DT i (wpF C d rd pm r Q) fs t df g->DT i (wpF C d rd pm r Q') fs t df g:=λt df g h=>ih h hq;unfold wpF at h ⊢
   split at h
   ·exact run _ _ _ h
   ·rename_i s w hg;unfold gdP at h ⊢
    split at h
    ·rw[aa] at h ⊢
     split at h
     ·rename_i hw;rw[if_pos hw];exact ⟨λq=>run _ _ _ (h.1 q),λq=>skp _ _ _ (h.2 q)⟩
     ·rename_i hw;rw[if_neg hw];exact ⟨λq=>skp _ _ _ (h.1 q),λq=>run _ _ _ (h.2 q)⟩
    ·exact skp _ _ _ h
    ·exact h
 intro s
 induction s with
 | skip=>intro Q Q' t df g h hq;exact hq _ _ _ _ h
 | ops l=>intro Q Q' t df g h hq;exact hO l h (hq _)
 | quiet l=>intro Q Q' t df g h hq;exact hO l h (λt df g' h=>⟨h.1,h.2.1,hq _ _ _ _ h.2.2⟩)
 | feet pm l=>intro Q Q' t df g h hq;exact hF pm l h (hq _)
 | seq a b iha ihb =>
  intro Q Q' t df g h hq;refine iha h λe t df g h=>?_;cases e with
  | norm=>exact ihb h hq
  | exit x=>exact hq _ _ _ _ h
  | ret=>exact hq _ _ _ _ h
 | cond c a b iha ihb =>
  intro Q Q' t df g h hq;have h:wpC (c.get t) (wp C d rd a Q) (wp C d rd b Q) t df g:=h;show wpC (c.get t) (wp C d rd a Q') (wp C d rd b Q') t df g;unfold wpC at h ⊢
  split at h
  ·exact ⟨λq=>iha (h.1 q) hq,λq=>ihb (h.2 q) hq⟩
  ·exact h
 | blk id b ih =>
  intro Q Q' t df g h hq;refine ih h λe t df g h=>?_;cases e with
  | norm=>exact hq _ _ _ _ h
  | exit x =>
   rw[o9] at h ⊢
   split at h
   ·rename_i e;rw[if_pos e];exact hq _ _ _ _ h
   ·rename_i e;rw[if_neg e];exact hq _ _ _ _ h
  | ret=>exact hq _ _ _ _ h
 | loop b ih =>
  intro Q Q' t df g h hq;obtain ⟨Inv,hk,hs⟩:=h;refine ⟨Inv,hk,λk t df g hi=>ih (hs k t df g hi) λe t df g h=>?_⟩;cases e with
  | norm=>exact h
  | exit x=>exact hq _ _ _ _ h
  | ret=>exact hq _ _ _ _ h
 | exit id=>intro Q Q' t df g h hq;exact hq _ _ _ _ h
 | ret=>intro Q Q' t df g h hq;exact hq _ _ _ _ h
 | rng nt f ps a b _ _=>intro Q Q' t df g h hq assign body ha hb;exact CR.sat_mono (h assign body ha hb) hq
 | raw nt c=>intro Q Q' t df g h hq;exact CR.sat_mono h hq
theorem bj {body:SC}{c ti tn k B b:Nat}{Q:QT}{m:Nat}(hm:m<9223372036854775808)(J:Nat->PT){t:T}{df:List ADf}{g:G}
  (h0:J 0 t df g) (hi:tat t ti=.int .i64 0) (hn:tat t tn=.int .i64 (m:Int)) (hc:c≠ti/\c≠tn/\k≠tn/\ti≠tn/\b≠B)
  (hJ:∀j t df g v s,s=c\/s=ti\/s=k->J j t df g->J j (fO t s v) df g)
  (step:∀j t df g,j<m->J j t df g->tat t ti=.int .i64 (j:Int)->tat t tn=.int .i64 (m:Int) ->
   wp C d rd body (kR (λt df g=>J (j+1) t df g/\tat t ti=.int .i64 (j:Int)/\tat t tn=.int .i64 (m:Int)) b Q) t df g)
  (fin:∀t df g,J m t df g->Q (.exit B) t df g) :
  wpL (wp C d rd (.seq (.ops [o c (.bin .lss (.t ti) (.t tn))]) (.seq (.cond (.t c) .skip (.exit B)) (.seq (.blk b body) (.ops [o k (.bin .add (.t ti) (.k (.int .i64 1))),o ti (.mv (.t k))]))))) Q t df g:=by
 obtain ⟨c1,c2,c3,c4,c5⟩:=hc;refine eW (λn t df g=>∃j:Nat,n=m - j/\j<=m/\J j t df g/\tat t ti=.int .i64 (j:Int)/\tat t tn=.int .i64 (m:Int)) m ⟨0,by omega,by omega,h0,hi,hn⟩ ?_;rintro n t df g ⟨j,rfl,hj,hjj,h1,h2⟩;simp only[sx,SO.run,↓reduceIte,h1,h2];refine ⟨λhq=>?_,λhq=>?_⟩
 ·have hlt:j<m:=by simpa using hq
  simp only[sx];refine bQ _ (step j _ df g hlt (hJ _ _ _ _ _ _ (.inl rfl) hjj) (by simp only[ji];rw[if_neg (Ne.symm c1),h1]) (by simp only[ji];rw[if_neg (Ne.symm c2),h2])) λe t df g h=>?_;have key:J (j+1) t df g/\tat t ti=.int .i64 (j:Int)/\tat t tn=.int .i64 (m:Int)->wp C d rd (.ops [o k (.bin .add (.t ti) (.k (.int .i64 1))),o ti (.mv (.t k))])
    (kL (λn t df g=>∃j:Nat,n=m - j/\j<=m/\J j t df g/\tat t ti=.int .i64 (j:Int)/\tat t tn=.int .i64 (m:Int)) (m - j) Q) t df g:=by
   rintro ⟨a1,a2,a3⟩;simp only[sx,SO.run,a2,↓reduceIte];refine ⟨_,?_,j+1,rfl,by omega,hJ _ _ _ _ _ _ (.inr (.inl rfl)) (hJ _ _ _ _ _ _ (.inr (.inr rfl)) a1),?_,?_⟩
   ·omega
   ·rw[ay (by omega) (by omega)];rfl
   ·rw[if_neg (Ne.symm c4),if_neg (Ne.symm c3),a3]
  cases e with
  | norm=>exact key h
  | ret=>exact h
  | exit x =>
   rw[mi] at h;rw[o9]
   split at h
   ·rename_i e;rw[if_pos e];exact key h
   ·rename_i e;rw[if_neg e];exact h
 ·have:j=m:=by simp at hq;omega
  subst this;simp only[sx];exact fin _ _ _ (hJ _ _ _ _ _ _ (.inl rfl) hjj)
theorem GT {Hd body inc:SC}{c B b:Nat}{Q:QT}{m:Nat}(J:Nat->PT){t:T}{df:List ADf}{g:G}(h0:J 0 t df g)
  (hd:∀j t df g,j<=m->J j t df g->wp C d rd Hd (λe t df g=>e=.norm/\tat t c=.bool (decide (j<m))/\J j t df g) t df g)
  (step:∀j t df g,j<m->J j t df g->wp C d rd body (kR (λt df g=>wp C d rd inc (λe t df g=>e=.norm/\J (j+1) t df g) t df g) b Q) t df g)
  (fin:∀t df g,J m t df g->Q (.exit B) t df g) :
  wpL (wp C d rd (.seq (.seq Hd (.cond (.t c) .skip (.exit B))) (.seq (.blk b body) inc))) Q t df g:=by
 refine eW (λn t df g=>∃j:Nat,n=m - j/\j<=m/\J j t df g) m ⟨0,by omega,by omega,h0⟩ ?_;rintro n t df g ⟨j,rfl,hj,hjj⟩;simp only[dU];refine bQ _ (hd j t df g hj hjj) ?_;rintro e t df g ⟨rfl,hq,hjj⟩;simp only[sx,hq];refine ⟨λhq=>?_,λhq=>?_⟩
 ·have hlt:j<m:=by simpa using hq
  simp only[sx];refine bQ _ (step j t df g hlt hjj) λe t df g h=>?_;have key:wp C d rd inc (λe t df g=>e=.norm/\J (j+1) t df g) t df g->wp C d rd inc (kL (λn t df g=>∃j:Nat,n=m - j/\j<=m/\J j t df g) (m - j) Q) t df g:=by intro h;refine bQ _ h ?_;rintro e t df g ⟨rfl,h⟩;exact ⟨_,by omega,j+1,rfl,by omega,h⟩
  cases e with
  | norm=>exact key h
  | ret=>exact h
  | exit x =>
   rw[mi] at h;rw[o9]
   split at h
   ·rename_i e;rw[if_pos e];exact key h
   ·rename_i e;rw[if_neg e];exact h
 ·have:j=m:=by simp at hq;omega
  subst this;simp only[sx];exact fin _ _ _ hjj
theorem mz {body:SC}{a b' e c ti sl x y B b:Nat}{Q:QT}{v:AV}{m:Nat}(hm:m<9223372036854775808)(hlen:∀g,cV .slice v g=.val (.int .i64 (m:Int)))(J:Nat->PT){t:T}{df:List ADf}{g:G}
  (h0:J 0 t df g) (hi:tat t ti=.int .i64 0) (hs:tat t sl=v)
  (hc:(a≠ti/\b'≠ti/\e≠ti/\c≠ti)/\(a≠sl/\b'≠sl/\e≠sl/\c≠sl/\x≠sl/\y≠sl/\ti≠sl)/\a≠b'/\a≠e/\x≠y)
  (hJ:∀j t df g v s,s=a\/s=b'\/s=e\/s=c\/s=ti\/s=x\/s=y->J j t df g->J j (fO t s v) df g)
  (step:∀j t df g,j<m->J j t df g->tat t ti=.int .i64 (j:Int)->tat t sl=v ->
   wp C d rd body (kR (λt df g=>J (j+1) t df g/\tat t ti=.int .i64 (j:Int)/\tat t sl=v) b Q) t df g)
  (fin:∀t df g,J m t df g->tat t sl=v->Q (.exit B) t df g) :
  wpL (wp C d rd (.seq (.seq (.ops [o a (.mv (.t ti)),o b' (.mv (.t sl)),o e (.len .slice (.t b')),o c (.bin .lss (.t a) (.t e))]) (.cond (.t c) .skip (.exit B))) (.seq (.blk b body)
   (.ops [o x (.mv (.t ti)),o y (.bin .add (.t x) (.k (.int .i64 1))),o ti (.mv (.t y))])))) Q t df g:=by
 obtain ⟨⟨q1,q2,q3,q4⟩,⟨r1,r2,r3,r4,r5,r6,r7⟩,p1,p2,p3⟩:=hc;refine GT (m:=m) (λj t df g=>J j t df g/\tat t ti=.int .i64 (j:Int)/\tat t sl=v) ⟨h0,hi,hs⟩ ?_ ?_ (λt df g h=>fin t df g h.1 h.2.2)
 ·rintro j t df g hj ⟨h1,h2,h3⟩;simp only[sx,SO.run,h2,h3,hlen,p1,p2,Ne.symm r1,↓reduceIte,Ne.symm q1,Ne.symm q2,Ne.symm q3,Ne.symm q4,Ne.symm r2,Ne.symm r3,Ne.symm r4,true_and,and_true];refine ⟨by congr 1;simp,hJ _ _ _ _ _ _ (.inr (.inr (.inr (.inl rfl)))) (hJ _ _ _ _ _ _ (.inr (.inr (.inl rfl))) (hJ _ _ _ _ _ _ (.inr (.inl rfl)) (hJ _ _ _ _ _ _ (.inl rfl) h1)))⟩
 ·rintro j t df g hj ⟨h1,h2,h3⟩;refine bQ _ (step j t df g hj h1 h2 h3) λe t df g h=>?_;have key:J (j+1) t df g/\tat t ti=.int .i64 (j:Int)/\tat t sl=v->wp C d rd (.ops [o x (.mv (.t ti)),o y (.bin .add (.t x) (.k (.int .i64 1))),o ti (.mv (.t y))])
    (λe t df g=>e=.norm/\J (j+1) t df g/\tat t ti=.int .i64 ((j+1:Nat):Int)/\tat t sl=v) t df g:=by
   rintro ⟨h1,h2,h3⟩;simp only[sx,SO.run,h2,↓reduceIte,Ne.symm r5,Ne.symm r6,Ne.symm r7,h3,true_and,and_true];refine ⟨hJ _ _ _ _ _ _ (.inr (.inr (.inr (.inr (.inl rfl))))) (hJ _ _ _ _ _ _ (.inr (.inr (.inr (.inr (.inr (.inr rfl)))))) (hJ _ _ _ _ _ _ (.inr (.inr (.inr (.inr (.inr (.inl rfl)))))) h1)),?_⟩;rw[ay (by omega) (by omega)];rfl
  cases e with
  | norm=>exact key h
  | ret=>exact h
  | exit x =>
   rw[mi] at h ⊢
   split at h
   ·rename_i e;rw[if_pos e];exact key h
   ·rename_i e;rw[if_neg e];exact h
theorem rH {body:SC}{a c ti x y B b:Nat}{Q:QT}{m:Nat}(hm:m<9223372036854775808)(J:Nat->PT){t:T}{df:List ADf}{g:G}
  (h0:J m t df g) (hi:tat t ti=.int .i64 ((m:Int) - 1)) (hc:a≠ti/\c≠ti/\x≠ti)
  (hJ:∀j t df g v s,s=a\/s=c\/s=ti\/s=x\/s=y->J j t df g->J j (fO t s v) df g)
  (step:∀j t df g,j<m->J (j+1) t df g->tat t ti=.int .i64 (j:Int)->wp C d rd body (kR (λt df g=>J j t df g/\tat t ti=.int .i64 (j:Int)) b Q) t df g)
  (fin:∀t df g,J 0 t df g->Q (.exit B) t df g) :
  wpL (wp C d rd (.seq (.seq (.ops [o a (.mv (.t ti)),o c (.bin .geq (.t a) (.k (.int .i64 0)))]) (.cond (.t c) .skip (.exit B))) (.seq (.blk b body)
   (.ops [o x (.mv (.t ti)),o y (.bin .sub (.t x) (.k (.int .i64 1))),o ti (.mv (.t y))])))) Q t df g:=by
 obtain ⟨c1,c2,c3⟩:=hc;refine eW (λn t df g=>n<=m/\J n t df g/\tat t ti=.int .i64 ((n:Int) - 1)) m ⟨Nat.le_refl _,h0,hi⟩ ?_;rintro n t df g ⟨hn,hj,h1⟩;simp only[sx,SO.run,↓reduceIte,h1];refine ⟨λhq=>?_,λhq=>?_⟩
 ·obtain ⟨j,rfl⟩:∃j,n=j+1:=⟨n - 1,by simp at hq;omega⟩;simp only[sx];refine bQ _ (step j _ df g (by omega) (hJ _ _ _ _ _ _ (.inr (.inl rfl)) (hJ _ _ _ _ _ _ (.inl rfl) hj)) (by simp only[ji];rw[if_neg (Ne.symm c2),if_neg (Ne.symm c1),h1];congr 1;omega)) λe t df g h=>?_;have key:J j t df g/\tat t ti=.int .i64 (j:Int)->wp C d rd (.ops [o x (.mv (.t ti)),o y (.bin .sub (.t x) (.k (.int .i64 1))),o ti (.mv (.t y))])
    (kL (λn t df g=>n<=m/\J n t df g/\tat t ti=.int .i64 ((n:Int) - 1)) (j+1) Q) t df g:=by
   rintro ⟨a1,a2⟩;simp only[sx,SO.run,a2,↓reduceIte];refine ⟨j,by omega,by omega,hJ _ _ _ _ _ _ (.inr (.inr (.inl rfl))) (hJ _ _ _ _ _ _ (.inr (.inr (.inr (.inr rfl)))) (hJ _ _ _ _ _ _ (.inr (.inr (.inr (.inl rfl)))) a1)),?_⟩;rw[ay (by omega) (by omega)]
  cases e with
  | norm=>exact key h
  | ret=>exact h
  | exit x =>
   rw[mi] at h;rw[o9]
   split at h
   ·rename_i e;rw[if_pos e];exact key h
   ·rename_i e;rw[if_neg e];exact h
 ·have:n=0:=by simp at hq;omega
  subst this;simp only[sx];exact fin _ _ _ (hJ _ _ _ _ _ _ (.inr (.inl rfl)) (hJ _ _ _ _ _ _ (.inl rfl) hj))
theorem bp {Hd:List SI}{body:SC}{c ti x y B b:Nat}{Q:QT}(m:Nat)(hm:m<9223372036854775808)(J:Nat->PT){t:T}{df:List ADf}{g:G}
  (h0:J 0 t df g) (hi:tat t ti=.int .i64 0) (hx:x≠ti)
  (hJ:∀j t df g v s,s=ti\/s=x\/s=y->J j t df g->J j (fO t s v) df g)
  (hd:∀j t df g,j<=m->J j t df g->tat t ti=.int .i64 (j:Int)->wpO C d rd Hd (λt df g=>tat t c=.bool (decide ((j:Int)<(m:Int)))/\J j t df g/\tat t ti=.int .i64 (j:Int)) t df g)
  (step:∀j t df g,j<m->J j t df g->tat t ti=.int .i64 (j:Int)->wp C d rd body (kR (λt df g=>J (j+1) t df g/\tat t ti=.int .i64 (j:Int)) b Q) t df g)
  (fin:∀t df g,J m t df g->Q (.exit B) t df g) :
  wpL (wp C d rd (.seq (.seq (.ops Hd) (.cond (.t c) .skip (.exit B))) (.seq (.blk b body)
   (.ops [o x (.mv (.t ti)),o y (.bin .add (.t x) (.k (.int .i64 1))),o ti (.mv (.t y))])))) Q t df g:=by
 refine GT (m:=m) (λj t df g=>J j t df g/\tat t ti=.int .i64 (j:Int)) ⟨h0,hi⟩ ?_ ?_ (λt df g h=>fin t df g h.1)
 ·rintro j t df g hj ⟨h1,h2⟩;have:=hd j t df g hj h1 h2;refine bQ (.ops Hd) (Q:=λe t df g=>e=.norm/\tat t c=.bool (decide ((j:Int)<(m:Int)))/\J j t df g/\tat t ti=.int .i64 (j:Int)) (by rw[Cg];simpa using this) ?_;rintro e t df g ⟨rfl,a1,a2,a3⟩;refine ⟨rfl,?_,a2,a3⟩;rw[a1];congr 1;simp
 ·rintro j t df g hj ⟨h1,h2⟩;refine bQ _ (step j t df g hj h1 h2) λe t df g h=>?_;have key:J (j+1) t df g/\tat t ti=.int .i64 (j:Int)->wp C d rd (.ops [o x (.mv (.t ti)),o y (.bin .add (.t x) (.k (.int .i64 1))),o ti (.mv (.t y))])
    (λe t df g=>e=.norm/\J (j+1) t df g/\tat t ti=.int .i64 ((j+1:Nat):Int)) t df g:=by
   rintro ⟨h1,h2⟩;simp only[sx,SO.run,h2,↓reduceIte,true_and];refine ⟨hJ _ _ _ _ _ _ (.inl rfl) (hJ _ _ _ _ _ _ (.inr (.inr rfl)) (hJ _ _ _ _ _ _ (.inr (.inl rfl)) h1)),?_⟩;rw[ay (by omega) (by omega)];rfl
  cases e with
  | norm=>exact key h
  | ret=>exact h
  | exit x =>
   rw[mi] at h ⊢
   split at h
   ·rename_i e;rw[if_pos e];exact key h
   ·rename_i e;rw[if_neg e];exact h
end
end Hx
end
section
namespace Hx
open Go
noncomputable section
def vid:AV->Option Nat
 | .hsl id _ _ _ _=>some id
 | _=>none
def Own (g:G)(b:Nat)(v:AV)(sz:Nat)(rows:List (List AV)):Prop :=
 (v=.nils/\rows=[])\/∃id ep lo,b<=id/\id<g.nx/\v=.hsl id ep 0 rows.length none/\g.h.get id=.cells sz rows ep lo false
theorem Own.rows {g:G}{b:Nat}{v:AV}{sz:Nat}{rows:List (List AV)}(h:Own g b v sz rows):ah g.h sz v=some rows:=by
 rcases h with ⟨rfl,rfl⟩ | ⟨id,ep,lo,h1,h2,rfl,h3⟩
 ·rfl
 ·rw[dG,h3,wz]
theorem Own.fr {g g':G}{b:Nat}{v:AV}{sz:Nat}{rows:List (List AV)}(h:Own g b v sz rows)(hn:g.nx<=g'.nx)(hf:∀i,vid v=some i->g'.h.get i=g.h.get i):Own g' b v sz rows:=by
 rcases h with h | ⟨id,ep,lo,h1,h2,rfl,h3⟩
 ·exact .inl h
 ·exact .inr ⟨id,ep,lo,h1,by omega,rfl,by rw[hf id rfl,h3]⟩
theorem Own.lt {g:G}{b:Nat}{v:AV}{sz:Nat}{rows:List (List AV)}(h:Own g b v sz rows){i:Nat}(hi:vid v=some i):b<=i/\i<g.nx:=by
 rcases h with ⟨rfl,-⟩ | ⟨id,ep,lo,h1,h2,rfl,h3⟩
 ·cases hi
 ·injection hi with hi;subst hi;exact ⟨h1,h2⟩
theorem Own.cell {g:G}{b:Nat}{v:AV}{sz:Nat}{rows:List (List AV)}(h:Own g b v sz rows):v.cells=[v]/\v.isTup=false:=by rcases h with ⟨rfl,-⟩ | ⟨id,ep,lo,h1,h2,rfl,h3⟩<;>exact ⟨rfl,rfl⟩
theorem aU {g:G}{b:Nat}{v x:AV}{sz bytes:Nat}{rows new:List (List AV)}{K:AV->G->Prop}{D:ADf->Prop}(hv:Own g b v sz rows)(hx:ah g.h sz x=some new)(hb:b<=g.nx)
  (hr:(rows.length+new.length)*bytes<=aP)
  (k:∀v' g',Own g' b v' sz (rows++new)->g.nx<=g'.nx->(∀i,i<g.nx->vid v≠some i->g'.h.get i=g.h.get i)->(vid v'=vid v\/∃i,vid v'=some i/\g.nx<=i)->(∀i∈g'.lg,i∈g.lg\/b<=i)->K v' g') :
  (cW sz bytes v x g).sat K g D:=by
 unfold cW;rw[hx];dsimp only;rcases hv with ⟨rfl,rfl⟩ | ⟨id,ep,lo,h1,h2,rfl,h3⟩
 ·cases new with
  | nil=>exact k _ _ (.inl ⟨rfl,rfl⟩) (Nat.le_refl _) (λ_ _ _=>rfl) (.inl rfl) (λi hi=>.inl hi)
  | cons r new =>
   simp only[bk,aw,aa,Nat.ble_eq];rw[if_pos (by simpa using hr)];refine k _ _ (.inr ⟨g.nx,0,true,hb,by simp,rfl,by simp[aR]⟩) (by simp) (λi hi _=>?_) (.inr ⟨g.nx,rfl,Nat.le_refl _⟩) (λi hi=>by simp at hi;rcases hi with rfl | hi;exact .inr hb;exact .inl hi);rw[G.new_h,aq _ _ _ (by omega)]
 ·simp only[bk,G.get_eq,h3,aw,aa,show Nat.beq ep ep=true from Nat.beq_refl ep,show Nat.beq sz sz=true from Nat.beq_refl sz,Bool.true_and,Nat.ble_eq,Bool.and_eq_true,Nat.zero_add,Option.getD_none,Nat.sub_zero];rw[if_pos ⟨Nat.le_refl _,hr⟩];cases new with
  | nil =>
   rw[if_pos (by simp)];refine k _ _ (.inr ⟨id,ep,lo,h1,h2,by simp,by simpa using h3⟩) (Nat.le_refl _) (λ_ _ _=>rfl) (.inl rfl) (λi hi=>.inl hi)
  | cons r new =>
   rw[if_neg (by simp)];have ht:eO rows.length (dZ 0 rows)=rows:=by rw[bh,bg];simp
   cases lo with
   | false =>
    rw[if_pos (by simp)];refine k _ _ (.inr ⟨g.nx,0,true,by omega,by simp,by simp,by simp[aR,ht]⟩) (by simp) (λi hi _=>?_) (.inr ⟨g.nx,rfl,Nat.le_refl _⟩) (λi hi=>by simp at hi;rcases hi with rfl | hi;exact .inr hb;exact .inl hi);rw[G.new_h,aq _ _ _ (by omega)]
   | true =>
    rw[if_neg (by simp)];refine k _ _ (.inr ⟨id,ep+1,true,h1,by simpa using h2,by simp,by simp[aR,ht]⟩) (by simp) (λi hi hne=>?_) (.inl rfl) (λi hi=>by simp at hi;rcases hi with rfl | hi;exact .inr h1;exact .inl hi);rw[G.put_h,aq _ _ _ (λe=>hne (by rw[e];rfl))]
def Fr (g g':G):Prop:=g.nx<=g'.nx/\∀i,i<g.nx->g'.h.get i=g.h.get i
theorem Fr.refl (g:G):Fr g g:=⟨Nat.le_refl _,λ_ _=>rfl⟩
theorem Fr.trans {g g' g'':G}(h:Fr g g')(h':Fr g' g''):Fr g g'':=⟨Nat.le_trans h.1 h'.1,λi hi=>by rw[h'.2 i (Nat.lt_of_lt_of_le hi h.1),h.2 i hi]⟩
theorem Fr.new (g:G)(o:AObj):Fr g (g.new o):=⟨by simp,λi hi=>by rw[G.new_h,aq _ _ _ (by omega)]⟩
theorem Own.step {g g':G}{b:Nat}{v:AV}{sz:Nat}{rows:List (List AV)}(h:Own g b v sz rows)(f:Fr g g'):Own g' b v sz rows :=
 h.fr f.1 λi hi=>f.2 i (h.lt hi).2
theorem cN {g:G}{b:Nat}{v:AV}{sz n i off:Nat}{rows:List (List AV)}{row row':List AV}{x:AV}{K:AV->G->Prop}{D:ADf->Prop}(hv:Own g b v sz rows)(hr:rows[i]?=some row)
  (hl:x.cells.length=n) (ht:x.isTup=false) (hp:bL row off x.cells=some row')
  (k:∀g',Own g' b v sz (rows.set i row')->g'.nx=g.nx->(∀i,vid v≠some i->g'.h.get i=g.h.get i)->K .undef g'):(lJ n (iH sz v i off) x g).sat K g D:=by
 rcases hv with ⟨rfl,rfl⟩ | ⟨id,ep,lo,h1,h2,rfl,h3⟩
 ·simp at hr
 ·simp only[iH,Nat.zero_add];rw[zp h3 hr rfl ht hl hp];refine k _ (.inr ⟨id,ep,lo,h1,by simpa using h2,by simp,by simp[aR]⟩) (by simp) (λi hne=>?_);rw[G.put_h,aq _ _ _ (λe=>hne (by rw[e];rfl))]
theorem rR {g:G}{b sz bytes:Nat}{zero:List AV}{k1 k2:IntKind}{n:Nat}{K:AV->G->Prop}{D:ADf->Prop}(hn:n<=aP)(hb:n*bytes<=aP)(hg:b<=g.nx)
  (k:∀v' g',Own g' b v' sz (List.replicate n zero)->g'.nx=g.nx+1->(∀i,i<g.nx->g'.h.get i=g.h.get i)->vid v'=some g.nx->K v' g') :
  (Db sz bytes zero (.int k1 (n:Int)) (.int k2 (n:Int)) g).sat K g D:=by
 show (match bZ aP (.int k2 (.ofNat n)) with
  | some cn=>match bZ cn (.int k1 (.ofNat n)) with
   | some ln=>au (Nat.ble (cn*bytes) aP) (OR.upd (.hsl g.nx 0 0 ln none) (g.new (.cells sz (eV cn zero) 0 false false))) .fail
   | none=>.fail
  | none=>.fail).sat K g D
 simp only[bZ,aa,Nat.ble_eq,if_pos hn,Nat.le_refl,if_pos hb,if_true];refine k _ _ (.inr ⟨g.nx,0,false,hg,by simp,by simp,by simp[aR,eV]⟩) (by simp) (λi hi=>?_) rfl;rw[G.new_h,aq _ _ _ (by omega)]
theorem Own.sl {α:Type} [Rp α]{g:G}{b:Nat}{v:AV}{rows:List (List AV)}{l:List α}{P:Nat->Prop}{k:Nat}(h:Own g b v (Rp.sz α) rows)(hl:l.length<9223372036854775808)(hr:All2 (Rp.rp P k g.h) l rows)
  (hp:∀i,vid v=some i->P i):SlR P k g.h l v:=by
 refine ⟨hl,?_⟩;have hrow:=h.rows;rcases h with ⟨rfl,rfl⟩ | ⟨id,ep,lo,h1,h2,rfl,h3⟩
 ·exact List.eq_nil_of_length_eq_zero hr.len
 ·exact ⟨hp id rfl,rows,hrow,hr⟩
theorem Own.ints {g:G}{b:Nat}{v:AV}{l:List Int}{k:Nat}(h:Own g b v 1 (l.map ci))(hl:l.length<9223372036854775808):One l (λ_=>True) k g.h v :=
 ⟨v,rfl,Own.sl (α:=Int) h hl (All2.of_map (λa=>aL.2 rfl) l) λ_ _=>trivial⟩
theorem a_ {x:OR}{Q:AV->Prop}{K:AV->G->Prop}{g:G}{D:ADf->Prop}(h:∃r,x=.val r/\Q r)(k:∀r,Q r->K r g):x.sat K g D:=by obtain ⟨r,rfl,hr⟩:=h;exact k r hr
section feet
variable {C:Cfg}{d:Nat}{rd:Option Nat}{pm:List Nat}
theorem GS (Q:PT)(t:T)(df:List ADf)(g:G)(fs:List Foot):wpF C d rd pm [] Q t df g fs=(o8 pm fs.reverse=true/\Q t df g):=rfl
theorem M2 (n:Nat)(op:SO)(r:List SI)(Q:PT)(t:T)(df:List ADf)(g:G)(fs:List Foot):wpF C d rd pm (o n op::r) Q t df g fs =
  (op.run C d rd t (aH g [])).sat (kF (wpF C d rd pm r Q) (some n) t df g.lg fs (op.foot C t g)) (aH g []) (λ_=>False):=rfl
theorem KL (op:SO)(r:List SI)(Q:PT)(t:T)(df:List ADf)(g:G)(fs:List Foot):wpF C d rd pm (oz op::r) Q t df g fs =
  (op.run C d rd t (aH g [])).sat (kF (wpF C d rd pm r Q) none t df g.lg fs (op.foot C t g)) (aH g []) (λ_=>False):=rfl
theorem KJ (n s:Nat)(w:Bool)(op:SO)(r:List SI)(Q:PT)(t:T)(df:List ADf)(g:G)(fs:List Foot) :
  wpF C d rd pm (og n s w op::r) Q t df g fs=gdP (tat t s) w (HT C d rd (o n op) (wpF C d rd pm r Q) fs) (DT (o n op) (wpF C d rd pm r Q) fs) t df g:=rfl
theorem Ke (n:Nat)(op:SO)(W:FT)(fs:List Foot)(t:T)(df:List ADf)(g:G):HT C d rd (o n op) W fs t df g =
  (op.run C d rd t (aH g [])).sat (kF W (some n) t df g.lg fs (op.foot C t g)) (aH g []) (λ_=>False):=rfl
theorem GL (n:Nat)(op:SO)(W:FT)(fs:List Foot)(t:T)(df:List ADf)(g:G):DT (o n op) W fs t df g=W (fO t n .undef) df g (⟨aF,[]⟩::fs):=rfl
theorem Ge (W:FT)(n:Nat)(t:T)(df:List ADf)(lg:List Nat)(fs:List Foot)(lk:Looks)(v:AV)(g:G):kF W (some n) t df lg fs lk v g=W (fO t n v) df (iU g (g.lg++lg)) (⟨lk,g.lg⟩::fs):=rfl
theorem Gd (W:FT)(t:T)(df:List ADf)(lg:List Nat)(fs:List Foot)(lk:Looks)(v:AV)(g:G):kF W none t df lg fs lk v g=W t df (iU g (g.lg++lg)) (⟨lk,g.lg⟩::fs):=rfl
theorem je {sz:Nat}{v:AV}{i off:Nat}(h:jS v=true):ak (iH sz v i off)=ak v:=by cases v<;>first | rfl | cases h
theorem wE (id ep i off:Nat):ak (.hptr id ep i off)=[id]:=rfl
end feet
section looks
variable {C:Cfg}{t:T}{g:G}
theorem MF (x:Od):SO.foot C t g (.mv x)=aF:=rfl
theorem F_ (c a b:Od):SO.foot C t g (.pick c a b)=aF:=rfl
theorem CT (cs:List AV):SO.foot C t g (.alloc cs)=aF:=rfl
theorem IS (x:Od):SO.foot C t g (.box x)=aF:=rfl
theorem CU (z:List AV)(pl:List (Nat×Nat))(vs:List Od):SO.foot C t g (.build z pl vs)=aF:=rfl
theorem IU (sz len:Nat)(z:List AV)(is:List Nat)(vs:List Od):SO.foot C t g (.bsl sz len z is vs)=aF:=rfl
theorem F8 (ag:Bool)(n:Nat)(a:Od):SO.foot C t g (.load ag n a)=ap (ak (a.get t)):=rfl
theorem CV (n:Nat)(a x:Od):SO.foot C t g (.store n a x)=ap (ak (a.get t)):=rfl
theorem F9 (x:Od):SO.foot C t g (.nilc x)=aF:=rfl
theorem IR (op:BinOp)(x y:Od):SO.foot C t g (.bin op x y)=aF:=rfl
theorem MA (ng:Bool)(ek:EqKind)(x y:Od):SO.foot C t g (.eq ng ek x y)=aF:=rfl
theorem I7 (x:Od):SO.foot C t g (.not x)=aF:=rfl
theorem F7 (k:IntKind)(x:Od):SO.foot C t g (.conv k x)=aF:=rfl
theorem I5 (f:Nat)(a c:List Od):SO.foot C t g (.mkf f a c)=aF:=rfl
theorem I6 (sz bt:Nat)(z:List AV)(l c:Od):SO.foot C t g (.mks sz bt z l c)=aF:=rfl
theorem I8 (sz:Nat)(x:Od)(lo hi:List Od):SO.foot C t g (.slc sz x lo hi)=ap (ak (x.get t)):=rfl
theorem IX (fo:Nat)(x:Od):SO.foot C t g (.fad fo x)=aF:=rfl
theorem IY (ag:Bool)(n fo:Nat)(x:Od):SO.foot C t g (.fld ag n fo x)=aF:=rfl
theorem I3 (sz:Nat)(x i:Od):SO.foot C t g (.ixs sz x i)=ap (ak (x.get t)):=rfl
theorem IZ (n sz:Nat)(x i:Od):SO.foot C t g (.ixa n sz x i)=aF:=rfl
theorem MB (ag:Bool)(n sz:Nat)(x i:Od):SO.foot C t g (.ix ag n sz x i)=aF:=rfl
theorem IW (x:Od)(i:Nat):SO.foot C t g (.ext x i)=aF:=rfl
theorem I4 (x:Od):SO.foot C t g (.len .slice x)=aF:=rfl
theorem IQ (sz bt:Nat)(x y:Od):SO.foot C t g (.app sz bt x y)=ap (ak (x.get t)++ak (y.get t)):=rfl
theorem IV (sz:Nat)(x y:Od):SO.foot C t g (.cpy sz x y)=ap (ak (x.get t)++ak (y.get t)):=rfl
theorem MG (x y:Od):SO.foot C t g (.mx x y)=ap (ak (x.get t)++ak (y.get t)):=rfl
theorem MC (x y:Od):SO.foot C t g (.mn x y)=ap (ak (x.get t)++ak (y.get t)):=rfl
end looks
theorem sf:type_of% (And.intro @MF <| And.intro @F_ <| And.intro @CT <| And.intro @IS <| And.intro @CU <| And.intro @IU <| And.intro @F8 <| And.intro @CV <| And.intro @F9 <| And.intro @IR <| And.intro @MA <| And.intro @I7 <| And.intro @F7 <| And.intro @I5 <| And.intro @I6 <| And.intro @I8 <| And.intro @IX <| And.intro @IY <| And.intro @I3 <| And.intro @IZ <| And.intro @MB <| And.intro @IW <| And.intro @I4 <| And.intro @IQ <| And.intro @IV <| And.intro @MG <| @MC) :=
 And.intro @MF <| And.intro @F_ <| And.intro @CT <| And.intro @IS <| And.intro @CU <| And.intro @IU <| And.intro @F8 <| And.intro @CV <| And.intro @F9 <| And.intro @IR <| And.intro @MA <| And.intro @I7 <| And.intro @F7 <| And.intro @I5 <| And.intro @I6 <| And.intro @I8 <| And.intro @IX <| And.intro @IY <| And.intro @I3 <| And.intro @IZ <| And.intro @MB <| And.intro @IW <| And.intro @I4 <| And.intro @IQ <| And.intro @IV <| And.intro @MG <| @MC
theorem Ar (k:IntKind)(x:Int):(AV.int k x).cells=[.int k x]:=rfl
theorem x_ (x:Bool):(AV.bool x).cells=[.bool x]:=rfl
theorem Ap (cs:List AV):(AV.agg cs).cells=cs:=rfl
theorem ya:AV.nils.cells=[.nils]:=rfl
theorem AL (k:IntKind)(x:Int):(AV.int k x).isTup=false:=rfl
theorem yL (x:Bool):(AV.bool x).isTup=false:=rfl
theorem AJ (cs:List AV):(AV.agg cs).isTup=false:=rfl
theorem yM:AV.nils.isTup=false:=rfl
theorem Aq (id ep off len:Nat)(lim:Option Nat):(AV.hsl id ep off len lim).cells=[.hsl id ep off len lim]:=rfl
theorem AK (id ep off len:Nat)(lim:Option Nat):(AV.hsl id ep off len lim).isTup=false:=rfl
theorem As (t s:Nat)(rows:List (List AV)):(AV.tsl t s rows).cells=[.tsl t s rows]:=rfl
theorem AM (t s:Nat)(rows:List (List AV)):(AV.tsl t s rows).isTup=false:=rfl
theorem Ej (x:AV)(g:G)(h:x.isTup=false):Ih x g=.upd (.hptr g.nx 0 0 0) (g.new (.cells x.cells.length [x.cells] 0 false false)):=by simp only[Ih,h,aw]
theorem FK (sz:Nat)(zero:List AV)(g:G):Ii sz 0 zero [] [] g=.upd (.hsl g.nx 0 0 0 none) (g.new (.cells sz [] 0 false false)):=rfl
theorem FL (sz:Nat)(zero:List AV)(v:AV)(g:G)(hl:v.cells.length=sz)(ht:v.isTup=false) :
  Ii sz 1 zero [0] [v] g=.upd (.hsl g.nx 0 0 1 none) (g.new (.cells sz [v.cells] 0 false false)):=by
 subst hl;have:Nat.beq (aY v.cells) v.cells.length=true:=by rw[aw];exact Nat.beq_refl _
 have h2:fd v.cells.length [zero] [(0,v)]=some [v.cells]:=by simp only[fd,ht,aa,aw,fA,notb_eq];rw[show Nat.beq v.cells.length v.cells.length=true from Nat.beq_refl _];rfl
 show (match fd v.cells.length [zero] [(0,v)] with | some rows=>OR.upd (.hsl g.nx 0 0 1 none) (g.new (.cells v.cells.length rows 0 false false)) | none=>.fail)=_;rw[h2]
theorem jd (row:List AV)(off:Nat)(cs:List AV):bL row off cs=if off+cs.length<=row.length then some (row.take off++(cs++row.drop (off+cs.length))) else none:=by
 simp only[bL,aw,aa,Nat.ble_eq,fA,bh,bg]
 split
 ·rename_i h
  split
  ·rename_i c;simp only[List.length_singleton] at h;rw[List.set_eq_take_append_cons_drop,if_pos (by omega)];rfl
  ·rfl
 ·rfl
theorem Mw (a:AV)(l:List AV):IG (.tup (a::l)) 0=.val a:=rfl
theorem Mx (a b:AV)(l:List AV):IG (.tup (a::b::l)) 1=.val b:=rfl
theorem My (a b c:AV)(l:List AV):IG (.tup (a::b::c::l)) 2=.val c:=rfl
theorem IP (ag:Bool)(n fo:Nat)(cs:List AV):Nk ag n fo (.agg cs)=orV (bG ag n cs fo):=rfl
theorem AT {n:Nat}{row:List AV}{off:Nat}:bG true (n+1) row off=if off+(n+1)<=row.length then some (.agg ((row.drop off).take (n+1))) else none:=by
 split
 ·rename_i h;exact JO h
 ·rename_i h;simp only[bG,bh,bg,aw,List.length_take,List.length_drop,aa];rw[if_neg];intro e;have:=Nat.eq_of_beq_eq_true e;omega
theorem Cp (zero:List AV)(pl:List (Nat×Nat))(vs:List AV):Bh zero pl vs=match eg zero (pl.zip vs) with | some cs=>.val (.agg cs) | none=>.fail:=rfl
theorem AE (cs:List AV):eg cs []=some cs:=rfl
theorem yD (cs:List AV)(off size:Nat)(v:AV)(rest:List ((Nat×Nat)×AV))(hl:v.cells.length=size)(ht:v.isTup=false) :
  eg cs (((off,size),v)::rest)=match bL cs off v.cells with | some cs=>eg cs rest | none=>none:=by
 subst hl;have:Nat.beq (aY v.cells) v.cells.length=true:=by rw[aw];exact Nat.beq_refl _
 simp only[eg,this,ht,notb_eq,Bool.not_false,Bool.and_self]
 rfl
theorem J2 (ag:Bool)(n a:Nat)(r:List SR)(t:T)(g:G)(K:List AV->Prop):xn (.cell ag n a::r) t g K=match pN ag n (tat t a) g with | .val v=>xn r t g λvs=>K (v::vs) | _=>False:=rfl
theorem uI (a b:AV)(l:List AV):jc (a::b::l)=.tup (a::b::l):=rfl
theorem sy:type_of% (And.intro @Cp <| And.intro @AE <| And.intro @yD <| And.intro @J2 <| And.intro @List.zip_cons_cons.{0,0} <| And.intro @List.zip_nil_left.{0,0} <| And.intro @GS <| And.intro @M2 <| And.intro @KL <| And.intro @KJ <| And.intro @Ke <| And.intro @GL <| And.intro @Ge <| And.intro @Gd <| And.intro @bumpG_h <| And.intro @bumpG_nx <| And.intro @bumpG_lg <| And.intro @true_and <| And.intro @and_true <| And.intro @BG <| And.intro @mi <| And.intro @Jn <| And.intro @setLog_h <| And.intro @setLog_nx <| And.intro @setLog_lg <| And.intro @MO <| And.intro @Ar <| And.intro @x_ <| And.intro @Ap <| And.intro @ya <| And.intro @AL <| And.intro @yL <| And.intro @AJ <| And.intro @yM <|
 And.intro @Aq <| And.intro @AK <| And.intro @As <| And.intro @AM <| And.intro @Ej <| And.intro @FK <| And.intro @FL <| And.intro @jd <| And.intro @Mw <| And.intro @Mx <| And.intro @My <|
 And.intro @IP <| And.intro @AT <| And.intro @uI <| And.intro @pM <| And.intro @aw <| And.intro @List.length_cons.{0} <| And.intro @List.length_nil.{0} <| And.intro @List.take_succ_cons.{0} <|
 And.intro @List.take_zero.{0} <| And.intro @List.drop_succ_cons.{0} <| And.intro @List.drop_zero.{0} <| And.intro @List.cons_append.{0} <| And.intro @List.nil_append.{0} <| And.intro @List.append_nil.{0} <| And.intro @List.set_cons_zero.{0} <| And.intro @List.set_cons_succ.{0} <|
 And.intro @Nat.zero_add <| And.intro @H.get_put <| And.intro @dG <| And.intro @co <| And.intro @wH <| @pi) :=
 And.intro @Cp <| And.intro @AE <| And.intro @yD <| And.intro @J2 <| And.intro @List.zip_cons_cons.{0,0} <| And.intro @List.zip_nil_left.{0,0} <| And.intro @GS <| And.intro @M2 <| And.intro @KL <| And.intro @KJ <| And.intro @Ke <| And.intro @GL <| And.intro @Ge <| And.intro @Gd <| And.intro @bumpG_h <| And.intro @bumpG_nx <| And.intro @bumpG_lg <| And.intro @true_and <| And.intro @and_true <| And.intro @BG <| And.intro @mi <| And.intro @Jn <| And.intro @setLog_h <| And.intro @setLog_nx <| And.intro @setLog_lg <| And.intro @MO <| And.intro @Ar <| And.intro @x_ <| And.intro @Ap <| And.intro @ya <| And.intro @AL <| And.intro @yL <| And.intro @AJ <| And.intro @yM <|
 And.intro @Aq <| And.intro @AK <| And.intro @As <| And.intro @AM <| And.intro @Ej <| And.intro @FK <| And.intro @FL <| And.intro @jd <| And.intro @Mw <| And.intro @Mx <| And.intro @My <|
 And.intro @IP <| And.intro @AT <| And.intro @uI <| And.intro @pM <| And.intro @aw <| And.intro @List.length_cons.{0} <| And.intro @List.length_nil.{0} <| And.intro @List.take_succ_cons.{0} <|
 And.intro @List.take_zero.{0} <| And.intro @List.drop_succ_cons.{0} <| And.intro @List.drop_zero.{0} <| And.intro @List.cons_append.{0} <| And.intro @List.nil_append.{0} <| And.intro @List.append_nil.{0} <| And.intro @List.set_cons_zero.{0} <| And.intro @List.set_cons_succ.{0} <|
 And.intro @Nat.zero_add <| And.intro @H.get_put <| And.intro @dG <| And.intro @co <| And.intro @wH <| @pi
end
end Hx
end
section
namespace Hx
open Go
theorem Aa {ih:IH}{d:Nat}{g:G}{f:Nat}{args:List AV}{y:ADf}:af ih d g f args≠.dfr y:=by
 intro hy;revert hy;unfold af
 repeat' (first | split | rw[aa])
 all_goals (intro h;cases h)
end Hx
end
