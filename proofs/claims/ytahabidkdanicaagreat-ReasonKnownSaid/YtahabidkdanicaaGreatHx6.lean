/- A part of the proof: an interpreter over abstract values, shown right against the model, and what the functions of the chapter compute on it. -/
import Derived.Below
import Derived.Laws.Externs
import Derived.Test.YtahabidkdanicaaGreatHx5
set_option linter.unusedVariables false
set_option linter.unusedSimpArgs false
set_option linter.unnecessarySimpa false
section
namespace Hx
open Go
section
variable {C:Cfg}{A:Nat->Nat->Prop}{bd:Nat}{w w':World}{γ γ':Gm}{hg:Nat->AObj}{nx:Nat}
variable {t:T}{g:G}{ih:IH}
def mq (C:Cfg)(A:Nat->Nat->Prop)(bd nt:Nat)(b:Frame)(k:List Item)(cs:List Frame)(m:Machine)(w:World)(γ:Gm)(hg:Nat->AObj)(nx:Nat)(g:G)(e:Ex)(t':T)(df':List ADf)(g':G):Prop :=
 ∃a' w' γ' hg',Fin C A bd w γ hg nx g w' γ' hg' g'/\TR w' γ' A bd nt t' a'.tmps/\DR w' γ' A bd df' a'.defers/\Arr C.P m b k cs e a' w'
theorem jP (hC:CfgOk C)(hi:IHOk C ih){nt:Nat}{rd:Option Nat}{ops:Array Oper}{draw:Bool}{rid:Nat}{df:List ADf}{e:Ex}{t':T}{df':List ADf}{g':G}
  (h:(eZ C nt ops.toList draw).run ih (bd+1) rd t df g=.ok e t' df' g'):fS C bd nt rd (.region rid ops draw) t df g e t' df' g':=by
 intro A w γ hg nx b a k cs hr hx hwf hf ht hdf hrd hcalm
 unfold eZ at h
 rw[aa] at h
 split at h
 rotate_left
 ·rename_i hdraw
  have hdraw:draw=false:=by simpa using hdraw
  subst hdraw
  obtain ⟨rfl,a',w',γ',hg',f,tr,dr,st⟩:=kR (b:=b) (cs:=cs) (k:=k) hC hi ops.toList 0 (by simp) h hwf hr hx hf ht hdf hrd hcalm
  refine ⟨a',w',γ',hg',f,tr,dr,.head stepR_region ?_⟩
  rw[List.range_eq_range']
  simpa using st
 rename_i hdraw
 subst hdraw
 rw[aa] at h
 split at h
 rotate_left
 ·cases h
 rename_i hord
 have hord:dm 0 ops.toList=true/\cH (aB ops.toList []) 0 ops.toList=true /\
   di (fun i x j y=>((aB ops.toList []).getD j 0).testBit i || bU ops.toList x y) 0 ops.toList=true:=by
  simp only[j7,Bool.and_eq_true] at hord
  exact ⟨hord.1.1,hord.1.2,hord.2⟩
 obtain ⟨ho1,ho2,ho3⟩:=hord
 have hedge:∀i o,ops[i]?=some o->∀e∈o.after.toList,Region.binds .any e=true->e.on<i:=by
  intro i o ho e he hb
  have:=g9 ho1 i o (by simpa using ho) e he hb
  omega
 have hguard:∀i o j b,ops[i]?=some o->o.guard=some (j,b)->((aB ops.toList []).getD i 0).testBit j=true:=by
  intro i o j b ho hg'
  have:=gq ho2 i o (by simpa using ho) j b hg'
  simpa using this
 have hslot:∀i j oi oj,i<j->ops[i]?=some oi->ops[j]?=some oj->((aB ops.toList []).getD j 0).testBit i=true\/bU ops.toList oi oj=true:=by
  intro i j oi oj hij hoi hoj
  have:=e6 ho3 i j oi oj hij (by simpa using hoi) (by simpa using hoj)
  simpa using this
 have hk0:∀id,(γ id).kind=0->hg id=.none:=fun id h=>(hr.none_iff id).1 h
 rw[aa] at h
 split at h
 ·
  rename_i hq
  dsimp only at h
  generalize hc:(dE C nt ops.toList ops.toList).run ih (bd+1) rd t df (aC g [])=cr at h
  cases cr with
  | fail=>cases h
  | ok e1 t1 df1 g1 =>
   simp only[gn] at h
   cases hlg:g1.lg with
   | cons x xs=>rw[hlg] at h;cases h
   | nil =>
    rw[hlg] at h
    dsimp only at h
    rw[aa] at h
    split at h
    rotate_left
    ·cases h
    rename_i hnx
    have hnx:=ae hnx
    injection h with h1 h2 h3 h4
    subst h1;subst h2;subst h3;subst h4
    obtain ⟨rfl,rfl,T',G',F',a1,a2,a3,a4,a5,a6⟩:=kF hC hi ops.toList 0 hc (fun o ho=>List.all_eq_true.1 hq o ho) (by simp) hlg hwf.setLog
    simp only[Nat.zero_add,Array.length_toList] at a3 a4 a5
    have R:Reg C ih bd rd nt ops true T' G' F' hg:=by
     refine ⟨hC,hi,fun i o ho=>a5 i o (by simpa using ho),by rw[a2];exact hwf.setLog,by rw[a2];simpa using hx,fun id h1 h2=>?_,fun i j _ _=>.inr ?_,fun i j j' _ _ _ _ _ _ hm=>?_,hslot,hguard,fun _ i _=>a6 i⟩
     ·rw[a2] at h1;rw[a4,hnx] at h2
      exact hk0 id (hf id (by simpa using h1) h2)
     ·simp[bP,d9,dn,a6]
     ·rw[a6 j] at hm;simp[meets] at hm
    obtain ⟨a',w',γ',hg',hr',hst,htr,hdef,hobj,st⟩:=jk (b:=b) (k:=k) (cs:=cs) (id:=rid) R hC.mixed hedge hr (by rw[a1];exact ht) hcalm
    have hsame:∀id,hg' id=hg id:=fun id=>by
     rcases hobj id with ⟨⟨j,_,h⟩,_⟩ | ⟨_,h⟩
     ·rw[a6 j] at h;exact absurd h List.not_mem_nil
     ·exact h
    refine ⟨a',w',γ',hg',⟨?_,hst,⟨[],rfl,fun _ h=>absurd h List.not_mem_nil,fun id _=>hsame id⟩⟩,by rw[<-a3];exact htr,by rw[hdef];exact hdf.step hst,st⟩
    rw[a4,hnx] at hr';exact hr'
 ·dsimp only at h
  obtain ⟨rfl,rfl,T',G',F',a1,a2,a3,a4,a5,a6⟩:=lu ops.toList 0 h
  simp only[Nat.zero_add,Array.length_toList,List.reverse_nil,List.nil_append] at a3 a4 a5 a6
  obtain ⟨b1,b2⟩:=jY a6
  have hF:∀j,j<ops.size->((List.range ops.size).map F')[j]?=some (F' j):=fun j hj=>by simp[List.getElem?_range hj]
  have R:Reg C ih bd rd nt ops false T' G' F' hg:=by
   refine ⟨hC,hi,fun i o ho=>(a5 i o (by simpa using ho)).1,by rw[a2];exact hwf,by rw[a2];exact hx,fun id h1 h2=>?_,fun i j hij hj=>?_,fun i j j' h1 h2 h3 h4 h5 h6 h7 h8=>?_,hslot,hguard,fun h=>by cases h⟩
   ·rw[a2] at h1;rw[a4] at h2
    exact hk0 id (hf id h1 h2)
   ·have:=e6 b1 i j _ _ hij (hF i (by omega)) (hF j hj)
    simpa using this
   ·exact it b2 i j j' _ _ _ h1 h2 (hF i (by omega)) (hF j (by omega)) (hF j' h3) h4 (by simpa using h5) (by simpa using h6) h7 h8
  obtain ⟨a',w',γ',hg',hr',hst,htr,hdef,hobj,st⟩:=jk (b:=b) (k:=k) (cs:=cs) (id:=rid) R hC.mixed hedge hr (by rw[a1];exact ht) hcalm
  have hlog:∀n,n<=ops.size->∃new,(G' n).lg=new++g.lg/\∀id,id∈new↔∃j,j<n/\id∈(F' j).wr:=by
   intro n
   induction n with
   | zero=>intro _;exact ⟨[],by rw[a2];rfl,fun id=>⟨fun h=>absurd h List.not_mem_nil,fun ⟨j,h,_⟩=>absurd h (Nat.not_lt_zero j)⟩⟩
   | succ n ihn =>
    intro hn
    obtain ⟨new,e1,e2⟩:=ihn (by omega)
    have hn':n<ops.size:=by omega
    have:=(a5 n ops[n] (by rw[Array.getElem?_toList];exact Array.getElem?_eq_getElem hn')).2
    refine ⟨(F' n).wr++new,by rw[this,e1,List.append_assoc],fun id=>?_⟩
    rw[List.mem_append,e2]
    constructor
    ·rintro (h | ⟨j,h1,h2⟩)
     ·exact ⟨n,by omega,h⟩
     ·exact ⟨j,by omega,h2⟩
    ·rintro ⟨j,h1,h2⟩
     by_cases hj:j=n
     ·subst hj;exact .inl h2
     ·exact .inr ⟨j,by omega,h2⟩
  obtain ⟨new,e1,e2⟩:=hlog ops.size (Nat.le_refl _)
  refine ⟨a',w',γ',hg',⟨by rw[a4] at hr';exact hr',hst,⟨new,by rw[<-a4];exact e1,fun id hid=>?_,fun id hid=>?_⟩⟩,by rw[<-a3];exact htr,by rw[hdef];exact hdf.step hst,st⟩
  ·rcases hobj id with ⟨_,h⟩ | ⟨h1,_⟩
   ·rw[h,a4]
   ·obtain ⟨j,h2,h3⟩:=(e2 id).1 hid
    exact absurd h3 (h1 j h2)
  ·rcases hobj id with ⟨h1,_⟩ | ⟨_,h⟩
   ·exact absurd ((e2 id).2 h1) hid
   ·exact h
theorem aL {P:Program}{b:Frame}{a:Act}{k:List Item}{cs:List Frame}{c:Code} :
  step P (lone (b.atR a (.code (.scope c)::k)) cs w)=.next (lone (b.atR a (.code c::.inScope c::k)) cs w) :=
 step_lone_go (by simp[stepG,stepG.exec,Frame.atR])
theorem cZ {P:Program}{b:Frame}{a:Act}{k:List Item}{cs:List Frame}{c:Code} :
  step P (lone (b.atR a (.inScope c::k)) cs w)=.next (lone (b.atR a k) cs w) :=
 step_lone_go (by simp[stepG,stepG.exec,Frame.atR])
theorem bn {P:Program}{m m1 X:Machine}(h:Steps P m X)(hne:m≠X)(hs:step P m=.next m1):Steps P m1 X:=by
 obtain ⟨n,hn⟩:=h
 cases n with
 | zero=>simp[runN] at hn;exact absurd hn hne
 | succ n=>exact ⟨n,by simpa [runN,hs] using hn⟩
theorem gb {b b':Frame}{a a':Act}{k k':List Item}{cs cs':List Frame}{w w':World}(h:lone (b.atR a k) cs w=lone (b'.atR a' k') cs' w'):k=k':=by
 have h1:(lone (b.atR a k) cs w).gs=(lone (b'.atR a' k') cs' w').gs:=by rw[h]
 simp only[lone,Array.mk.injEq,List.cons.injEq,and_true] at h1
 have h2:=congrArg (fun g:Goroutine=>g.frame.todo) h1
 simpa [Frame.atR] using h2
theorem eG (hC:CfgOk C)(hi:IHOk C ih){nt:Nat}{rd:Option Nat}{fo:Operand}{s:Stg (T->AV)}{ps:Array Tmp}{assign body:Code}{df:List ADf}{dfr:Nat}{e:Ex}{t':T}{df':List ADf}{g':G}
  (hs:am C fo=some s) (h:co C ih nt (bd+1) rd (s.run t) ps.toList assign body t df dfr g=.ok e t' df' g')
  (hwf:WF g) {b:Frame} {a:Act} {k:List Item} {cs:List Frame} {mark:List Deferred} {blk:Nat}
  (hr:Rel C A bd w γ hg nx) (hx:Ext g.h hg) (hf:Free γ g g') (ht:TR w γ A bd nt t a.tmps) (hdf:DR w γ A bd df (mark++a.defers)) (hrd:RdOk γ rd b) (hcalm:dc b.kind cs)
  (hdfr:(γ dfr).kind=4/\(γ dfr).blk=blk) {w00:World}
  (henter:(Instr.enterLoop b.fn a.tmps ps assign body b.roundOf).run C.P w00=.ok (w.heap.size,mark) (World.add w (.loop { state:=.ready,pending:=none,fn:=b.fn,tmps:=a.tmps,params:=ps,assign,body,defers:=blk }))) :
  mq C A bd nt b k cs (lone (b.atR a (.code (.rangeFunc fo ps assign body)::k)) cs w00) w γ hg nx g e t' df' g':=by
 unfold co at h
 have hfv:=ac hs ht hr
 generalize hfo:a.eval fo=vf at hfv
 generalize s.run t=y at h hfv
 cases hfv with
 | clo _ f xs ys vs1 us1 hl hl2 h1 h2 =>
  dsimp only at h
  rw[aa] at h
  split at h
  ·cases h
  split at h
  rotate_left
  ·cases h
  rename_i rv0 g2 hcall
  let L:Loop:={ state:=.ready,pending:=none,fn:=b.fn,tmps:=a.tmps,params:=ps,assign,body,defers:=blk }
  let w1:=World.add w (.loop L)
  let gh:Gh:=⟨3,0,0,0,w.heap.size,0,0,true⟩
  have m1:Mon g (g.new (.loop nt t ps.toList assign body dfr .ready none)):=Mon.mk'
  have wf1:=m1.wf hwf
  have m2:=hi.mon.call _ _ _ _ _ _ hcall wf1
  have wf2:=m2.wf wf1
  have m3:=fe hi.mon h wf2
  have hfree0:(γ g.nx).kind=0:=hf g.nx (Nat.le_refl _) (Nat.le_trans m1.nx (Nat.le_trans m2.nx m3.nx))
  have hdne:dfr≠g.nx:=by rintro rfl;rw[hdfr.1] at hfree0;cases hfree0
  obtain ⟨r1,s1⟩:=hr.add (id:=g.nx) (gh:=gh) (o:=.loop L) (ao:=.loop nt t ps.toList assign body dfr .ready none) (nx':=Nat.max nx (g.nx+1)) hfree0 rfl (Nat.le_max_left _ _) (Nat.lt_of_lt_of_le (Nat.lt_succ_self _) (Nat.le_max_right _ _)) (by
   have s0:=iz (w:=w) (o:=.loop L) (gh:=gh) hfree0 rfl
   refine ⟨by simp[gh],by simp[gh],L,by rw[b9];simp[gh],rfl,rfl,rfl,rfl,rfl,ht.1,fun i=>(ht.2 i).step s0,?_,?_⟩
   ·rw[aN _ _ hdne];exact hdfr.1
   ·rw[aN _ _ hdne];exact hdfr.2.symm)
  have f1:Fin C A bd w γ hg nx g w1 (upd γ g.nx gh) _ (g.new (.loop nt t ps.toList assign body dfr .ready none)):=Fin.ofNew r1 s1
  have hx1:=f1.ext m1 hx
  have hf1:=f1.freed hr m1 hf
  obtain ⟨hent,hrun⟩:=hi.call _ _ _ _ _ _ hcall
  have hyl:RV w1 (upd γ g.nx gh) A bd (.yld g.nx) (.func (.yield w.heap.size) #[] #[]):=.yld _ _ _ (by simp[gh]) (by simp[gh])
  have hargs:RVs w1 (upd γ g.nx gh) A bd (xs++(.yld g.nx::ys)) (vs1.toList++(.func (.yield w.heap.size) #[] #[]::us1.toList)):=by
   refine ((RVs.ofArr hl h1).step s1).append ?_
   have hu:=(RVs.ofArr hl2 h2).step s1
   refine ⟨by simp[hu.1],fun i x v hx' hv=>?_⟩
   cases i with
   | zero=>simp at hx' hv;subst hx';subst hv;exact hyl
   | succ i=>exact hu.2 i x v (by simpa using hx') (by simpa using hv)
  let a1:Act:={ a with defers:=mark++a.defers }
  let fr1:=b.atR a1 (.inRangeFunc w.heap.size::k)
  obtain ⟨u,w2,γ2,hg2,f2,_,fr,st,q1,q2,q3,q4,fn,q5,q6⟩:=hrun A w1 _ _ _ _ f1.rel hx1 wf1 (hf1.le m3.nx) hargs .normal (fr1::cs) (.inl rfl)
  have f12:=f1.trans f2 m1 m2
  have hx2:=f12.ext (m1.trans m2) hx
  have harr:(vs1.toList++(.func (.yield w.heap.size) #[] #[]::us1.toList)).toArray=(vs1++#[.func (.yield w.heap.size) #[] #[]])++us1:=by apply Array.ext';simp
  rw[harr] at st
  have hstart:step C.P (lone (b.atR a (.code (.rangeFunc fo ps assign body)::k)) cs w00)=.next (lone (Frame.enter C.P f ((vs1++#[.func (.yield w.heap.size) #[] #[]])++us1) .normal) (fr1::cs) w1):=by
   refine stepR_rangeFunc (l:=w.heap.size) (mark:=mark) (w₁:=w1) (w₁':=w1) (d:={ target:=.fn (.func f) us1,args:=vs1++#[.func (.yield w.heap.size) #[] #[]] }) henter ?_ ?_
   ·simp only[resolve]
    rw[hfo]
    simp[Deferred.ofValue,Act.eval]
   ·exact hent _ _
  have hfin:fr1.finish u=b.atR a1 (.endRangeFunc w.heap.size::k):=finish_atR_inRangeFunc _ _
  have hback:Steps C.P (lone (b.atR a (.code (.rangeFunc fo ps assign body)::k)) cs w00) (lone (b.atR a1 (.endRangeFunc w.heap.size::k)) cs w2):=by
   refine .head hstart (Steps.trans st (.one ?_))
   rw[<-hfin]
   exact step_leave_returned ⟨q1,q2,q3,fn,by rw[q4];exact q5,q6⟩
  unfold eX at h
  split at h
  rotate_left
  ·cases h
  rename_i nt3 t3 ps3 assign3 body3 dfr3 st3 pend3 hget
  have hget:g2.h.get g.nx=.loop nt3 t3 ps3 assign3 body3 dfr3 st3 pend3:=by simpa using hget
  have hid:hg2 g.nx=.loop nt3 t3 ps3 assign3 body3 dfr3 st3 pend3:=by rw[hx2 g.nx (by rw[hget];simp),hget]
  have hob:=f12.rel.obj g.nx
  rw[hid] at hob
  obtain ⟨k1,k2,L2,k3,k4,k5,k6,k7,k8,k9,k10,k11,k12⟩:=hob
  have hblk:(γ2 g.nx).blk=w.heap.size:=by
   have:=f2.stp.blk_eq (id:=g.nx) (by simp[gh]) (by simp[gh])
   rw[this];simp[gh]
  obtain ⟨r3,s3⟩:=f12.rel.setLoop (st':=.exhausted) (pend':=pend3) hid k3
  rw[hblk] at k3 r3 s3
  have f3:Fin C A bd w2 γ2 hg2 (Nat.max nx g2.nx) g2 _ γ2 _ (g2.put g.nx (.loop nt3 t3 ps3 assign3 body3 dfr3 .exhausted pend3)):=Fin.ofPut r3 s3
  have m4:Mon g2 (g2.put g.nx (.loop nt3 t3 ps3 assign3 body3 dfr3 .exhausted pend3)):=Mon.put wf2 (by rw[hget];simp)
  have f123:=f12.trans f3 (m1.trans m2) m4
  have hfr1:(γ2 g.nx).kind≠0:=by rw[k1];decide
  have hend:st3≠.busy->(Instr.endLoop w.heap.size).run C.P w2=.ok pend3 (World.setBlk w2 w.heap.size (.loop { L2 with state:=.exhausted,pending:=pend3 })):=by
   intro hne
   unfold Instr.endLoop
   have hb:(L2.state == LoopState.busy)=false:=by rw[k4];cases st3<;>first | rfl | exact absurd rfl hne
   simp only[Sem.run_bind,ce k3,Result.andThen_ok,hb,Bool.false_eq_true,if_false,Sem.run_pure,dN k3]
   subst k5
   rfl
  have hst:Stp w γ (World.setBlk w2 w.heap.size (.loop { L2 with state:=.exhausted,pending:=pend3 })) γ2:=f123.stp
  split at h
  ·cases h
  ·rename_i hnb
   have hend:=hend (by rintro rfl;exact hnb rfl)
   have hback2:=Steps.trans hback (.one (stepR_endRangeFunc (P:=C.P) (b:=b) (a:=a1) (k:=k) (cs:=cs) hend))
   split at h
   ·injection h with e1 e2 e3 e4
    subst e1;subst e2;subst e3;subst e4
    exact ⟨a1,_,γ2,_,f123,ht.step hst,hdf.step hst,by simpa [Arr] using hback2⟩
   ·rename_i c
    have m5:=hi.mon.code _ _ _ _ _ _ _ _ _ _ _ h (m4.wf wf2)
    obtain ⟨a',w',γ',hg',f4,tr,dr,ar⟩:=hi.code _ _ _ _ _ _ _ _ _ _ _ h A _ _ _ _ b a1 k cs f123.rel (f123.ext ((m1.trans m2).trans m4) hx) (m4.wf wf2) (f123.freed hr ((m1.trans m2).trans m4) hf)
     (ht.step hst) (hdf.step hst) (hrd.step hst) hcalm
    exact ⟨a',w',γ',hg',f123.trans f4 ((m1.trans m2).trans m4) m5,tr,dr,ar.of_steps (by simpa using hback2)⟩
 | _=>cases h
theorem gQ {P:Program}{o:Obj}:(newObj o).run P w=.ok w.heap.size (World.add w o):=by simp[newObj,Sem.run,World.add]
theorem g4 {P:Program}{fn:FuncId}{tmps:Array Value}{ps:Array Tmp}{assign body:Code} :
  (Instr.enterLoop fn tmps ps assign body none).run P w=.ok (w.heap.size+1,[{ target:=.collected w.heap.size,args:=#[] }])
   (World.add (World.add w (.deferred (some []))) (.loop { state:=.ready,pending:=none,fn,tmps,params:=ps,assign,body,defers:=w.heap.size })):=by
 unfold Instr.enterLoop
 simp only[Sem.run_bind,gQ,Result.andThen_ok,Sem.run_pure,add_size]
theorem iE {P:Program}{fn:FuncId}{tmps:Array Value}{ps:Array Tmp}{assign body:Code}{l:Nat}{L:Loop}(h:w.heap[l]?=some (.loop L)) :
  (Instr.enterLoop fn tmps ps assign body (some l)).run P w=.ok (w.heap.size,[])
   (World.add w (.loop { state:=.ready,pending:=none,fn,tmps,params:=ps,assign,body,defers:=L.defers })):=by
 unfold Instr.enterLoop
 simp only[Sem.run_bind,ce h,gQ,Result.andThen_ok,Sem.run_pure]
theorem jV (hC:CfgOk C)(hi:IHOk C ih){nt:Nat}{rd:Option Nat}{fo:Operand}{s:Stg (T->AV)}{ps:Array Tmp}{assign body:Code}{df:List ADf}{e:Ex}{t':T}{df':List ADf}{g':G}
  (hs:am C fo=some s) (h:gx C nt s.run ps.toList assign body ih (bd+1) rd t df g=.ok e t' df' g'):fS C bd nt rd (.rangeFunc fo ps assign body) t df g e t' df' g':=by
 intro A w γ hg nx b a k cs hr hx hwf hf ht hdf hrd hcalm
 unfold gx at h
 cases rd with
 | some l =>
  dsimp only at h
  split at h
  rotate_left
  ·cases h
  rename_i nt0 t0 ps0 as0 bo0 dfr st0 pe0 hget
  have hget:g.h.get l=.loop nt0 t0 ps0 as0 bo0 dfr st0 pe0:=by simpa using hget
  have hid:hg l=.loop nt0 t0 ps0 as0 bo0 dfr st0 pe0:=by rw[hx l (by rw[hget];simp),hget]
  have hob:=hr.obj l
  rw[hid] at hob
  obtain ⟨k1,k2,L,k3,k4,k5,k6,k7,k8,k9,k10,k11,k12⟩:=hob
  have henter:=iE (P:=C.P) (fn:=b.fn) (tmps:=a.tmps) (ps:=ps) (assign:=assign) (body:=body) k3
  rw[k12,<-hrd.2] at henter
  exact eG (mark:=[]) hC hi hs h hwf hr hx hf ht hdf hrd hcalm ⟨k11,rfl⟩ henter
 | none =>
  dsimp only at h
  let gh:Gh:=⟨4,0,0,0,w.heap.size,0,0,true⟩
  have m1:Mon g (g.new (.dfr true)):=Mon.mk'
  have wf1:=m1.wf hwf
  have m2:=cX hi.mon h wf1
  have hfree0:(γ g.nx).kind=0:=hf g.nx (Nat.le_refl _) (Nat.le_trans m1.nx m2.nx)
  obtain ⟨r1,s1⟩:=hr.add (id:=g.nx) (gh:=gh) (o:=.deferred (some [])) (ao:=.dfr true) (nx':=Nat.max nx (g.nx+1)) hfree0 rfl (Nat.le_max_left _ _) (Nat.lt_of_lt_of_le (Nat.lt_succ_self _) (Nat.le_max_right _ _)) (by
   refine ⟨by simp[gh],by simp[gh],by rw[b9];simp[gh]⟩)
  have f1:Fin C A bd w γ hg nx g _ (upd γ g.nx gh) _ (g.new (.dfr true)):=Fin.ofNew r1 s1
  have henter:=g4 (P:=C.P) (w:=w) (fn:=b.fn) (tmps:=a.tmps) (ps:=ps) (assign:=assign) (body:=body)
  have hro:b.roundOf=none:=hrd
  rw[<-hro] at henter
  obtain ⟨a',w',γ',hg',f2,tr,dr,ar⟩:=eG (nt:=nt) (rd:=none) (b:=b) (a:=a) (k:=k) (cs:=cs) (mark:=[{ target:=.collected w.heap.size,args:=#[] }]) (blk:=w.heap.size) (w00:=w) hC hi hs h wf1 f1.rel (f1.ext m1 hx) (f1.freed hr m1 hf)
   (ht.step s1) ⟨⟨by simp[gh],by simp[gh]⟩,hdf.step s1⟩ hro hcalm ⟨by simp[gh],by simp[gh]⟩ (by simpa using henter)
  exact ⟨a',w',γ',hg',f1.trans f2 m1 m2,tr,dr,ar⟩
theorem fu (hC:CfgOk C)(hi:IHOk C ih){nt:Nat}{rd:Option Nat}:∀(c:Code) {t:T} {df:List ADf} {g:G} {e:Ex} {t':T} {df':List ADf} {g':G},
  (aI C nt c).run ih (bd+1) rd t df g=.ok e t' df' g'->fS C bd nt rd c t df g e t' df' g':=by
 intro c
 induction c with
 | skip =>
  intro t df g e t' df' g' h A w γ hg nx b a k cs hr hx hwf hf ht hdf hrd hcalm
  simp only[aI] at h
  injection h with h1 h2 h3 h4;subst h1;subst h2;subst h3;subst h4
  exact ⟨a,w,γ,hg,Fin.refl hr,ht,hdf,.one stepR_skip⟩
 | label l =>
  intro t df g e t' df' g' h A w γ hg nx b a k cs hr hx hwf hf ht hdf hrd hcalm
  simp only[aI] at h
  injection h with h1 h2 h3 h4;subst h1;subst h2;subst h3;subst h4
  exact ⟨a,w,γ,hg,Fin.refl hr,ht,hdf,.one stepR_label⟩
 | region id ops draw=>intro t df g e t' df' g' h;exact jP hC hi h
 | seq x y ihx ihy =>
  intro t df g e t' df' g' h A w γ hg nx b a k cs hr hx hwf hf ht hdf hrd hcalm
  simp only[aI] at h
  generalize hc:(aI C nt x).run ih (bd+1) rd t df g=r at h
  cases r with
  | fail=>cases h
  | ok e1 t1 df1 g1 =>
   have m1:=bV hC.mon hi.mon _ hc hwf
   have wf1:=m1.wf hwf
   cases e1 with
   | norm =>
    have h:(aI C nt y).run ih (bd+1) rd t1 df1 g1=.ok e t' df' g':=h
    have m2:=bV hC.mon hi.mon _ h wf1
    obtain ⟨a1,w1,γ1,hg1,f1,tr1,dr1,ar1⟩:=ihx hc A w γ hg nx b a (.code y::k) cs hr hx hwf (hf.le m2.nx) ht hdf hrd hcalm
    obtain ⟨a2,w2,γ2,hg2,f2,tr2,dr2,ar2⟩:=ihy h A w1 γ1 hg1 _ b a1 k cs f1.rel (f1.ext m1 hx) wf1 (f1.freed hr m1 hf) tr1 dr1 (hrd.step f1.stp) hcalm
    exact ⟨a2,w2,γ2,hg2,f1.trans f2 m1 m2,tr2,dr2,ar2.of_steps (.head stepR_seq ar1)⟩
   | exit j =>
    have h:CR.ok (.exit j) t1 df1 g1=.ok e t' df' g':=h
    injection h with h1 h2 h3 h4;subst h1;subst h2;subst h3;subst h4
    obtain ⟨a1,w1,γ1,hg1,f1,tr1,dr1,k₁,hk,ar1⟩:=ihx hc A w γ hg nx b a (.code y::k) cs hr hx hwf hf ht hdf hrd hcalm
    exact ⟨a1,w1,γ1,hg1,f1,tr1,dr1,k₁,by rw[hk];rfl,.head stepR_seq ar1⟩
   | ret =>
    have h:CR.ok .ret t1 df1 g1=.ok e t' df' g':=h
    injection h with h1 h2 h3 h4;subst h1;subst h2;subst h3;subst h4
    obtain ⟨a1,w1,γ1,hg1,f1,tr1,dr1,k₁,ar1⟩:=ihx hc A w γ hg nx b a (.code y::k) cs hr hx hwf hf ht hdf hrd hcalm
    exact ⟨a1,w1,γ1,hg1,f1,tr1,dr1,k₁,.head stepR_seq ar1⟩
 | cond c x y ihx ihy =>
  intro t df g e t' df' g' h A w γ hg nx b a k cs hr hx hwf hf ht hdf hrd hcalm
  simp only[aI] at h
  split at h
  rotate_left
  ·cases h
  rename_i s hs
  dsimp only at h
  have hv:=ac hs ht hr
  generalize hcv:a.eval c=vc at hv
  generalize s.run t=cv at h hv
  cases hv with
  | bool _ bv =>
   dsimp only at h
   cases bv with
   | true =>
    obtain ⟨a1,w1,γ1,hg1,f1,tr1,dr1,ar1⟩:=ihx h A w γ hg nx b a k cs hr hx hwf hf ht hdf hrd hcalm
    exact ⟨a1,w1,γ1,hg1,f1,tr1,dr1,ar1.of_steps (.one (by simpa using stepR_cond (P:=C.P) (b:=b) (a:=a) (k:=k) (cs:=cs) (w:=w) (x:=x) (y:=y) hcv))⟩
   | false =>
    obtain ⟨a1,w1,γ1,hg1,f1,tr1,dr1,ar1⟩:=ihy h A w γ hg nx b a k cs hr hx hwf hf ht hdf hrd hcalm
    exact ⟨a1,w1,γ1,hg1,f1,tr1,dr1,ar1.of_steps (.one (by simpa using stepR_cond (P:=C.P) (b:=b) (a:=a) (k:=k) (cs:=cs) (w:=w) (x:=x) (y:=y) hcv))⟩
  | _=>cases h
 | block id body ihb =>
  intro t df g e t' df' g' h A w γ hg nx b a k cs hr hx hwf hf ht hdf hrd hcalm
  simp only[aI] at h
  generalize hc:(aI C nt body).run ih (bd+1) rd t df g=r at h
  cases r with
  | fail=>cases h
  | ok e1 t1 df1 g1 =>
   cases e1 with
   | norm =>
    have h:CR.ok .norm t1 df1 g1=.ok e t' df' g':=h
    injection h with h1 h2 h3 h4;subst h1;subst h2;subst h3;subst h4
    obtain ⟨a1,w1,γ1,hg1,f1,tr1,dr1,ar1⟩:=ihb hc A w γ hg nx b a (.inBlock id::k) cs hr hx hwf hf ht hdf hrd hcalm
    exact ⟨a1,w1,γ1,hg1,f1,tr1,dr1,.head stepR_block (Steps.trans ar1 (.one stepR_inBlock))⟩
   | exit j =>
    simp only[jv,aa] at h
    split at h
    ·rename_i hj
     have hj:=ae hj
     subst hj
     injection h with h1 h2 h3 h4;subst h1;subst h2;subst h3;subst h4
     obtain ⟨a1,w1,γ1,hg1,f1,tr1,dr1,k₁,hk,ar1⟩:=ihb hc A w γ hg nx b a (.inBlock j::k) cs hr hx hwf hf ht hdf hrd hcalm
     exact ⟨a1,w1,γ1,hg1,f1,tr1,dr1,.head stepR_block (Steps.trans ar1 (.one (stepR_exit (by rw[hk];simp[exitTo]))))⟩
    ·rename_i hj
     injection h with h1 h2 h3 h4;subst h1;subst h2;subst h3;subst h4
     obtain ⟨a1,w1,γ1,hg1,f1,tr1,dr1,k₁,hk,ar1⟩:=ihb hc A w γ hg nx b a (.inBlock id::k) cs hr hx hwf hf ht hdf hrd hcalm
     refine ⟨a1,w1,γ1,hg1,f1,tr1,dr1,k₁,?_,.head stepR_block ar1⟩
     rw[hk]
     have hne:(id == j)=false:=by
      simp only[beq_eq_false_iff_ne,ne_eq]
      rintro rfl;exact hj (Nat.beq_refl _)
     simp[exitTo,hne]
   | ret =>
    have h:CR.ok .ret t1 df1 g1=.ok e t' df' g':=h
    injection h with h1 h2 h3 h4;subst h1;subst h2;subst h3;subst h4
    obtain ⟨a1,w1,γ1,hg1,f1,tr1,dr1,k₁,ar1⟩:=ihb hc A w γ hg nx b a (.inBlock id::k) cs hr hx hwf hf ht hdf hrd hcalm
    exact ⟨a1,w1,γ1,hg1,f1,tr1,dr1,k₁,.head stepR_block ar1⟩
 | loop body ihb =>
  intro t df g e t' df' g' h A w γ hg nx b a k cs hr hx hwf hf ht hdf hrd hcalm
  simp only[aI] at h
  generalize hc:(aI C nt body).run ih (bd+1) rd t df g=r at h
  cases r with
  | fail=>cases h
  | ok e1 t1 df1 g1 =>
   have m1:=bV hC.mon hi.mon _ hc hwf
   have wf1:=m1.wf hwf
   cases e1 with
   | norm =>
    have h:ih.code nt (bd+1) rd (.loop body) t1 df1 g1=.ok e t' df' g':=h
    have m2:=hi.mon.code _ _ _ _ _ _ _ _ _ _ _ h wf1
    obtain ⟨a1,w1,γ1,hg1,f1,tr1,dr1,ar1⟩:=ihb hc A w γ hg nx b a (.inLoop body::k) cs hr hx hwf (hf.le m2.nx) ht hdf hrd hcalm
    obtain ⟨a2,w2,γ2,hg2,f2,tr2,dr2,ar2⟩:=hi.code _ _ _ _ _ _ _ _ _ _ _ h A w1 γ1 hg1 _ b a1 k cs f1.rel (f1.ext m1 hx) wf1 (f1.freed hr m1 hf) tr1 dr1 (hrd.step f1.stp) hcalm
    refine ⟨a2,w2,γ2,hg2,f1.trans f2 m1 m2,tr2,dr2,Arr.of_steps (.head stepR_loop (Steps.trans ar1 (.one stepR_inLoop))) ?_⟩
    have hloop:step C.P (lone (b.atR a1 (.code (.loop body)::k)) cs w1)=.next (lone (b.atR a1 (.code body::.inLoop body::k)) cs w1):=stepR_loop
    have ne:∀{a':Act} {k':List Item} {w':World},k'≠.code (.loop body)::k->lone (b.atR a1 (.code (.loop body)::k)) cs w1≠lone (b.atR a' k') cs w':=fun h h'=>h (gb h').symm
    cases e with
    | norm=>exact bn ar2 (ne (fun h=>by have:=congrArg List.length h;simp at this)) hloop
    | exit j =>
     obtain ⟨k₁,hk,ar2⟩:=ar2
     exact ⟨k₁,hk,bn ar2 (ne (fun h=>by injection h with h _;injection h with h;cases h)) hloop⟩
    | ret =>
     obtain ⟨k₁,ar2⟩:=ar2
     exact ⟨k₁,bn ar2 (ne (fun h=>by injection h with h _;injection h with h;cases h)) hloop⟩
   | exit j =>
    have h:CR.ok (.exit j) t1 df1 g1=.ok e t' df' g':=h
    injection h with h1 h2 h3 h4;subst h1;subst h2;subst h3;subst h4
    obtain ⟨a1,w1,γ1,hg1,f1,tr1,dr1,k₁,hk,ar1⟩:=ihb hc A w γ hg nx b a (.inLoop body::k) cs hr hx hwf hf ht hdf hrd hcalm
    exact ⟨a1,w1,γ1,hg1,f1,tr1,dr1,k₁,by rw[hk];rfl,.head stepR_loop ar1⟩
   | ret =>
    have h:CR.ok .ret t1 df1 g1=.ok e t' df' g':=h
    injection h with h1 h2 h3 h4;subst h1;subst h2;subst h3;subst h4
    obtain ⟨a1,w1,γ1,hg1,f1,tr1,dr1,k₁,ar1⟩:=ihb hc A w γ hg nx b a (.inLoop body::k) cs hr hx hwf hf ht hdf hrd hcalm
    exact ⟨a1,w1,γ1,hg1,f1,tr1,dr1,k₁,.head stepR_loop ar1⟩
 | scope body ihb =>
  intro t df g e t' df' g' h A w γ hg nx b a k cs hr hx hwf hf ht hdf hrd hcalm
  have h:(aI C nt body).run ih (bd+1) rd t df g=.ok e t' df' g':=h
  obtain ⟨a1,w1,γ1,hg1,f1,tr1,dr1,ar1⟩:=ihb h A w γ hg nx b a (.inScope body::k) cs hr hx hwf hf ht hdf hrd hcalm
  refine ⟨a1,w1,γ1,hg1,f1,tr1,dr1,?_⟩
  cases e with
  | norm=>exact .head aL (Steps.trans ar1 (.one cZ))
  | exit j=>obtain ⟨k₁,hk,ar1⟩:=ar1;exact ⟨k₁,by rw[hk];rfl,.head aL ar1⟩
  | ret=>obtain ⟨k₁,ar1⟩:=ar1;exact ⟨k₁,.head aL ar1⟩
 | exit id =>
  intro t df g e t' df' g' h A w γ hg nx b a k cs hr hx hwf hf ht hdf hrd hcalm
  simp only[aI] at h
  injection h with h1 h2 h3 h4;subst h1;subst h2;subst h3;subst h4
  exact ⟨a,w,γ,hg,Fin.refl hr,ht,hdf,k,rfl,Steps.refl _ _⟩
 | ret =>
  intro t df g e t' df' g' h A w γ hg nx b a k cs hr hx hwf hf ht hdf hrd hcalm
  simp only[aI] at h
  injection h with h1 h2 h3 h4;subst h1;subst h2;subst h3;subst h4
  exact ⟨a,w,γ,hg,Fin.refl hr,ht,hdf,k,Steps.refl _ _⟩
 | rangeFunc f ps assign body _ _ =>
  intro t df g e t' df' g' h
  simp only[aI] at h
  split at h
  ·rename_i s hs;exact jV hC hi hs h
  ·cases h
 | _=>intro t df g e t' df' g' h;cases h
theorem kH (fr:Frame)(h:fr.mode=.returning):({ fr with mode:=.returning }:Frame)=fr:=by
 cases fr;simp at h;subst h;rfl
theorem ia (hi:IHOk C ih):∀{df:List ADf} {g g':G},d7 ih (bd+1) df g=some g'->WF g ->
  ∀{w γ hg nx} {fr:Frame} {cs:List Frame},Rel C A bd w γ hg nx->Ext g.h hg->Free γ g g'->DR w γ A bd df fr.defers->fr.mode=.returning ->
   ∃w' γ' hg',Fin C A bd w γ hg nx g w' γ' hg' g'/\Steps C.P (lone fr cs w) (lone { fr with defers:=[] } cs w'):=by
 intro df
 induction df with
 | nil =>
  intro g g' h _ w γ hg nx fr cs hr hx hf hdf hm
  simp only[d7] at h;injection h with h;subst h
  have hd:fr.defers=[]:=by
   cases hd:fr.defers with
   | nil=>rfl
   | cons d ds=>rw[hd] at hdf;exact hdf.elim
  refine ⟨w,γ,hg,Fin.refl hr,?_⟩
  have:({ fr with defers:=[] }:Frame)=fr:=by cases fr;simp at hd;subst hd;rfl
  rw[this];exact Steps.refl _ _
 | cons x df ihl =>
  intro g g' h hwf w γ hg nx fr cs hr hx hf hdf hm
  cases hd:fr.defers with
  | nil=>rw[hd] at hdf;cases x<;>exact hdf.elim
  | cons d ds =>
   rw[hd] at hdf
   cases x with
   | mark id =>
    obtain ⟨⟨hk,rfl⟩,hdf⟩:=hdf
    simp only[d7] at h
    split at h
    ·rename_i hget
     have hget:g.h.get id=.dfr true:=by simpa using hget
     have hid:hg id=.dfr true:=by rw[hx id (by rw[hget];simp),hget]
     have hob:=hr.obj id
     rw[hid] at hob
     obtain ⟨k1,k2,k3⟩:=hob
     have hk0:(γ id).kind≠0:=by rw[k1];decide
     have m1:Mon g (g.put id (.dfr false)):=Mon.put hwf (by rw[hget];simp)
     obtain ⟨r1,s1⟩:=hr.setBlk (id:=id) (o:=.deferred none) (ao:=.dfr false) hk0 k2 ⟨k1,k2,by rw[an];simp[(hr.lt id hk0).2]⟩
     have f1:Fin C A bd w γ hg nx g _ γ _ (g.put id (.dfr false)):=Fin.ofPut r1 s1
     have m2:=cl hi.mon h (m1.wf hwf)
     obtain ⟨w',γ',hg',f2,st⟩:=ihl h (m1.wf hwf) (fr:={ fr with defers:=ds }) (cs:=cs) f1.rel (f1.ext m1 hx) (f1.freed hr m1 hf) (hdf.step s1) hm
     refine ⟨w',γ',hg',f1.trans f2 m1 m2,.head (step_lone_go ?_) st⟩
     have htake:(Instr.takeDeferred (γ id).blk).run C.P w=.ok [] (World.setBlk w (γ id).blk (.deferred none)):=by
      unfold Instr.takeDeferred
      simp only[Sem.run_bind,bo k3 (by simp),Result.andThen_ok,if_true,bB k3 (by simp),Sem.run_pure]
     simp[stepG,hm,unwind,hd,Sem.runT_eq,htake,GStep.bare_after]
    ·cases h
   | call fv args =>
    obtain ⟨⟨f,ys,us,rfl,htar,hys,hargs⟩,hdf⟩:=hdf
    simp only[d7] at h
    split at h
    rotate_left
    ·cases h
    rename_i v g1 hcall
    have m1:=hi.mon.call _ _ _ _ _ _ hcall hwf
    have wf1:=m1.wf hwf
    have m2:=cl hi.mon h wf1
    obtain ⟨hent,hrun⟩:=hi.call _ _ _ _ _ _ hcall
    let fr0:Frame:={ fr with defers:=ds }
    obtain ⟨u,w1,γ1,hg1,f1,_,frX,st,q1,q2,q3,q4,fn,q5,q6⟩:=hrun A w γ hg nx (d.args.toList++us.toList) hr hx hwf (hf.le m2.nx) (by simpa using hargs.append hys) .deferred (fr0::cs) (.inr ⟨rfl,fr0,cs,rfl,.inl hm⟩)
    have harr:(d.args.toList++us.toList).toArray=d.args++us:=by apply Array.ext';simp
    rw[harr] at st
    obtain ⟨w',γ',hg',f2,st2⟩:=ihl h wf1 (fr:=fr0) (cs:=cs) f1.rel (f1.ext m1 hx) (f1.freed hr m1 hf) (hdf.step f1.stp) hm
    refine ⟨w',γ',hg',f1.trans f2 m1 m2,.head (step_defer (by rw[hm];simp) hd htar ?_) (Steps.trans st (.head ?_ st2))⟩
    ·rw[htar]
     simp only[invoke]
     exact hent _ _
    ·have hgo:frX.going C.P w1 (.returned u):=⟨q1,q2,fn,by rw[q4];exact q5,q6⟩
     have:=step_going_returned (P:=C.P) (c:=fr0) (cs:=cs) q3 hgo
     have hs:settle fr0.mode=.returning:=by
      have:fr0.mode=.returning:=hm
      rw[this];rfl
     rw[hs] at this
     have hfr:({ fr0 with mode:=.returning }:Frame)=fr0:=by
      exact kH fr0 hm
     rw[hfr] at this;exact this
theorem jm {P:Program}{ty:TypeId}{x v:Value}{w w':World}(h:(do loadVar ty (<-Instr.sureAddr x):Sem Value).run P w=.ok v w') :
  (do loadVar ty (<-asAddr x):Sem Value).run P w=.ok v w':=by
 cases x with
 | pointer p=>cases p<;>simp[Instr.sureAddr,asAddr] at h ⊢;exact h
 | _=>simp[Instr.sureAddr] at h
theorem gO (hC:CfgOk C){nt:Nat}{tmps:Array Value}(ht:TR w γ A bd nt t tmps)(hr:Rel C A bd w γ hg nx)(hx:Ext g.h hg):∀{rs:List ResultVar} {k:Stg (T->G->Option (List AV))} {vs:List AV},f7 C rs=some k->k.run t g=some vs ->
  ∃us:List Value,(rs.mapM (fun | .tmp t=>pure (tmps.getD t undef) | .cell a t=>do loadVar t (<-asAddr (tmps.getD a undef))):Sem (List Value)).run C.P w=.ok us w/\RVs w γ A bd vs us:=by
 intro rs
 induction rs with
 | nil=>intro k vs h hv;simp[f7] at h;subst h;simp at hv;subst hv;exact ⟨[],by simp,rfl,fun i x v h=>by simp at h⟩
 | cons r rs ihr =>
  intro k vs h hv
  cases r with
  | tmp n =>
   simp only[f7] at h
   split at h
   ·rename_i k0 hk0
    injection h with h;subst h
    dsimp only at hv
    split at hv
    ·rename_i vs0 hvs0
     injection hv with hv;subst hv
     obtain ⟨us,h1,h2⟩:=ihr hk0 hvs0
     refine ⟨tmps.getD n undef::us,?_,by simp[h2.1],fun i x v hx' hv'=>?_⟩
     ·rw[List.mapM_cons];simp only[Sem.run_bind,Sem.run_pure,Result.andThen_ok,h1]
     ·cases i with
      | zero=>simp at hx' hv';subst hx';subst hv';simpa [Array.getD_eq_getD_getElem?] using ht.2 n
      | succ i=>exact h2.2 i x v (by simpa using hx') (by simpa using hv')
    ·cases hv
   ·cases h
  | cell ad ty =>
   simp only[f7] at h
   split at h
   ·rename_i k0 l hk0 hl
    injection h with h;subst h
    dsimp only at hv
    split at hv
    ·rename_i y hy
     split at hv
     ·rename_i vs0 hvs0
      injection hv with hv;subst hv
      obtain ⟨us,h1,h2⟩:=ihr hk0 hvs0
      let o:Oper:={ (default:Oper) with op:=.load ty (.tmp ad) }
      have hlook:∀id∈ax C (.load ty (.tmp ad)) t g,hg id=g.h.get id:=by
       intro id hid
       exact hx id fun hn=>by rw[i5 hl hid hn] at hy;cases hy
      have hload:∃v,(do loadVar ty (<-asAddr (tmps.getD ad undef)):Sem Value).run C.P w=.ok v w/\RV w γ A bd y v:=by
       simp only[fh] at hl
       split at hl
       ·rename_i s ag n hs hag hn
        injection hl with hl;subst hl
        have:=iU (g:=g) (ty:=ty) (t:=t) hr (ac (a:={ tmps:=tmps,defers:=[] }) hs ht hr) hag hn (fun id hid=>hlook id (by simp[ax,ay,az,hs,hid]))
        have hy:f9 ag n s.run t g=.val y:=hy
        rw[hy] at this
        obtain ⟨v,h1,h2⟩:=this
        refine ⟨v,?_,h2⟩
        have h1:(Instr.loadAt ty (tmps.getD ad undef)).run C.P w=.ok v w:=h1
        unfold Instr.loadAt at h1
        exact jm h1
       ·cases hl
      obtain ⟨v,h3,h4⟩:=hload
      refine ⟨v::us,?_,by simp[h2.1],fun i x v' hx' hv'=>?_⟩
      ·rw[List.mapM_cons];simp only[Sem.run_bind,Sem.run_pure]
       simp only[Sem.run_bind] at h3
       rw[h3]
       simp only[Result.andThen_ok,h1]
      ·cases i with
       | zero=>simp at hx' hv';subst hx';subst hv';exact h4
       | succ i=>exact h2.2 i x v' (by simpa using hx') (by simpa using hv')
     ·cases hv
    ·cases hv
   ·cases h
theorem jS:∀(vs:List AV) (i:Nat) (t:T) (s:Nat),(cY i vs t).get AV.undef s=if i<=s/\s<i+vs.length then vs.getD (s - i) AV.undef else t.get AV.undef s:=by
 intro vs
 induction vs with
 | nil=>intro i t s;simp only[cY,List.length_nil];rw[if_neg (by omega)]
 | cons v vs ihv =>
  intro i t s
  simp only[cY]
  rw[ihv,sp_get]
  by_cases h1:s=i
  ·subst h1
   rw[if_neg (by omega),if_pos rfl,if_pos (by simp)]
   simp
  ·rw[if_neg h1]
   by_cases h2:i+1<=s/\s<i+1+vs.length
   ·rw[if_pos h2,if_pos (by simp;omega),show s - i=(s - (i+1))+1 by omega]
    simp
   ·rw[if_neg h2,if_neg (by simp;omega)]
theorem fV {nt:Nat}{as:List AV}{vs:List Value}(hv:RVs w γ A bd as vs)(hn:as.length<=nt) :
  TR w γ A bd nt (cY 0 as .nil) (vs.toArray++Array.replicate (nt - vs.toArray.size) undef):=by
 have hl:=hv.1
 refine ⟨by simp;omega,fun s=>?_⟩
 rw[jS]
 by_cases hs:s<as.length
 ·rw[if_pos (by simpa using hs)]
  have h1:as[s]?=some (as[s]):=List.getElem?_eq_getElem hs
  have h2:vs[s]?=some (vs[s]'(by omega)):=List.getElem?_eq_getElem (by omega)
  have:=hv.2 s _ _ h1 h2
  have e1:as.getD (s - 0) AV.undef=as[s]:=by simp[List.getD_eq_getElem?_getD,h1]
  have e2:(vs.toArray++Array.replicate (nt - vs.toArray.size) undef).getD s undef=vs[s]'(by omega):=by
   rw[Array.getD_eq_getD_getElem?,Array.getElem?_append_left (by simp;omega)]
   simp[h2]
  rw[e1,e2];exact this
 ·rw[if_neg (by simpa using hs),Tr.get_nil]
  have e2:(vs.toArray++Array.replicate (nt - vs.toArray.size) undef).getD s undef=undef:=by
   rw[Array.getD_eq_getD_getElem?,Array.getElem?_append_right (by simp;omega),Array.getElem?_replicate]
   split<;>rfl
  rw[e2];exact aP
theorem d8 {P:Program}{fn:Func}{tmps:Array Value}{us:List Value}
  (h:(fn.results.toList.mapM (fun | .tmp t=>pure (tmps.getD t undef) | .cell a t=>do loadVar t (<-asAddr (tmps.getD a undef))):Sem (List Value)).run P w=.ok us w) :
  ∃u,(results fn tmps).run P w=.ok u w/\∀{xs:List AV},RVs w γ A bd xs us->RV w γ A bd (jh xs) u:=by
 have hm:(fn.results.mapM (fun | .tmp t=>pure (tmps.getD t undef) | .cell a t=>do loadVar t (<-asAddr (tmps.getD a undef))):Sem (Array Value)).run P w=.ok us.toArray w:=by
  rw[Array.mapM_eq_mapM_toList]
  simp only[Sem.run_map,h]
  rfl
 refine ⟨if hs:us.toArray.size=1 then us.toArray[0] else .tuple us.toArray,?_,?_⟩
 ·unfold results
  simp only[Sem.run_bind]
  have hm':=hm
  generalize hq:(fn.results.mapM (fun | .tmp t=>pure (tmps.getD t undef) | .cell a t=>do loadVar t (<-asAddr (tmps.getD a undef))):Sem (Array Value))=q at hm'
  rw[hm']
  simp only[Result.andThen_ok,Sem.run_pure]
 ·intro xs hv
  have hl:=hv.1
  have tup:RV w γ A bd (.tup xs) (.tuple us.toArray):=.tup _ _ _ (by simpa using hl) fun i x v h1 h2=>hv.2 i x v h1 (by simpa using h2)
  cases us with
  | nil =>
   have:xs=[]:=List.length_eq_zero_iff.1 hl
   subst this
   exact tup
  | cons u us =>
   cases us with
   | nil =>
    cases xs with
    | nil=>simp at hl
    | cons x xs =>
     have:xs=[]:=List.length_eq_zero_iff.1 (by simpa using hl)
     subst this
     exact hv.2 0 x u rfl rfl
   | cons u' us =>
    rw[dif_neg (by simp)]
    cases xs with
    | nil=>simp at hl
    | cons x xs =>
     cases xs with
     | nil=>simp at hl
     | cons x' xs=>exact tup
theorem lV (hC:CfgOk C)(hi:IHOk C ih){f:Nat}{x:Stg (IH->Nat->List AV->G->FR)}(hx:cFn C f=some x){as:List AV}{v:AV}{g':G}
  (h:x.run ih (bd+1) as g=.ok v g'):Enters C.P f/\fY C bd f as g v g':=by
 unfold cFn at hx
 split at hx
 ·cases hx
 rename_i fn hfn
 split at hx
 ·cases hx
 rename_i c hbody
 split at hx
 rotate_left
 ·cases hx
 rename_i r hres
 rw[aa] at hx
 split at hx
 ·cases hx
 rename_i hname
 injection hx with hx;subst hx
 refine ⟨fun args w=>?_,?_⟩
 ·unfold callFunc
  have hn : fn.name ≠ "runtime.NumGoroutine" := by simpa using hname
  simp[hfn,hn,hbody]
 intro A w γ hg nx vs hr hex hwf hf hv K cs hcalm
 dsimp only at h
 rw[aa] at h
 split at h
 rotate_left
 ·cases h
 rename_i hle
 rw[Nat.ble_eq,al] at hle
 let b:Frame:={ (default:Frame) with fn:=f,kind:=K,roundOf:=none }
 let a0:Act:={ tmps:=vs.toArray++Array.replicate (fn.ntmps - vs.toArray.size) undef,defers:=[] }
 have henter:Frame.enter C.P f vs.toArray K=b.atR a0 [.code c]:=by
  simp[Frame.enter,Frame.atR,hfn,hbody,b,a0]
 have key:∀{e:Ex} {t1:T} {df:List ADf} {g1:G},(aI C fn.ntmps c).run ih (bd+1) none (cY 0 as .nil) [] g=.ok e t1 df g1->(∀j,e≠.exit j)->bX ih (bd+1) r.run t1 df g1=.ok v g' ->
   ∃u w' γ' hg',Fin C A bd w γ hg nx g w' γ' hg' g'/\RV w' γ' A bd v u/\Outs C.P K f vs.toArray cs w u w':=by
  intro e t1 df g1 hc hne hend
  have m1:=bV hC.mon hi.mon _ hc hwf
  have wf1:=m1.wf hwf
  unfold bX at hend
  split at hend
  ·cases hend
  rename_i g2 h2
  have m2:=cl hi.mon h2 wf1
  split at hend
  rotate_left
  ·cases hend
  rename_i xs hxs
  injection hend with h1 h2'
  subst h2';subst h1
  obtain ⟨a1,w1,γ1,hg1,f1,tr1,dr1,ar1⟩:=fu hC hi c hc A w γ hg nx b a0 [] cs hr hex hwf (hf.le m2.nx) (fV hv hle) trivial rfl hcalm
  have hret:∃fr:Frame,Steps C.P (lone (Frame.enter C.P f vs.toArray K) cs w) (lone fr cs w1)/\fr.mode=.returning/\fr.defers=a1.defers/\fr.kind=K/\fr.fn=f/\fr.tmps=a1.tmps:=by
   rw[henter]
   cases e with
   | norm=>exact ⟨{ b.atR a1 [] with mode:=.returning },Steps.trans ar1 (.one (stepR_end rfl)),rfl,rfl,rfl,rfl,rfl⟩
   | ret =>
    obtain ⟨k₁,ar1⟩:=ar1
    exact ⟨{ b.atR a1 (.code .ret::k₁) with mode:=.returning },Steps.trans ar1 (.one (stepR_ret rfl)),rfl,rfl,rfl,rfl,rfl⟩
   | exit j=>exact absurd rfl (hne j)
  obtain ⟨fr,st1,q1,q2,q3,q4,q5⟩:=hret
  obtain ⟨w2,γ2,hg2,f2,st2⟩:=ia hi h2 wf1 (fr:=fr) (cs:=cs) f1.rel (f1.ext m1 hex) (f1.freed hr m1 hf) (by rw[q2];exact dr1) q1
  have f12:=f1.trans f2 m1 m2
  obtain ⟨us,hus,hrv⟩:=gO hC (tr1.step f2.stp) f12.rel (f12.ext (m1.trans m2) hex) hres hxs
  obtain ⟨u,hu,hone⟩:=d8 (γ:=γ2) (A:=A) (bd:=bd) hus
  exact ⟨u,w2,γ2,hg2,f12,hone hrv,{ fr with defers:=[] },Steps.trans st1 st2,q1,rfl,q3,q4,fn,hfn,by
   have:({ fr with defers:=[] }:Frame).tmps=a1.tmps:=q5
   rw[this];exact hu⟩
 split at h
 ·cases h
 ·rename_i e t1 df g1 hne hc
  exact key hc (by rintro j rfl;exact hne j rfl) h
 ·cases h
theorem eK (hC:CfgOk C):∀n,IHOk C (sem C n):=by
 intro n
 induction n with
 | zero=>exact ⟨fU hC.mon 0,fun bd f as g v g' h=>(by cases h),fun bd nt rd c t df g e t' df' g' h=>(by cases h)⟩
 | succ n ihn =>
  refine ⟨fU hC.mon (n+1),fun bd f as g v g' h=>?_,fun bd nt rd c t df g e t' df' g' h=>fu hC ihn c h⟩
  change ea C (sem C n) (bd+1) f as g=.ok v g' at h
  unfold ea at h
  split at h
  ·rename_i x hx;exact lV hC ihn hx h
  ·cases h
end
end Hx
end
section
namespace Hx
open Go Go.RowKit
def gm0:Gm:=fun _=>⟨0,0,0,0,0,0,0,false⟩
def av0:Nat->Nat->Prop:=fun _ _=>False
theorem mr (b:Nat):¬Mut gm0 b:=by rintro ⟨id,h,_⟩;exact h rfl
abbrev RV0 (w:World)(x:AV)(v:Value):Prop:=RV w gm0 av0 0 x v
abbrev mm (w:World)(xs:List AV)(vs:List Value):Prop:=RVs w gm0 av0 0 xs vs
theorem hR:G.empty.h.get=fun _=>AObj.none:=by
 funext id;simp[G.empty,H.get,Tr.get_nil]
theorem im {C:Cfg}(hC:CfgOk C){n f:Nat}{as:List AV}{v:AV}{g':G}(h:(sem C n).call 1 f as G.empty=.ok v g'){w:World}{vs:List Value}(hargs:mm w as vs)
  (hglob:∀gl sz rows,C.glob gl=some (sz,rows)->RV0 w (.tptr 0 sz rows 0 0) (.pointer (some ⟨gl,0,none⟩))) :
  Calls C.P f vs.toArray w fun e w'=>∃u γ' A',e=.returned u/\Below w.heap.size w w'/\RV w' γ' A' 0 v u:=by
 intro cs
 have hok:=eK hC n
 obtain ⟨_,hrun⟩:=hok.call 0 f as G.empty v g' h
 have hr:Rel C av0 0 w gm0 (fun _=>.none) 0 :=
  ⟨fun id=>rfl,fun id h=>absurd rfl h,fun i j h=>absurd rfl h,fun id h=>absurd rfl h,fun t b h=>h.elim,hglob⟩
 obtain ⟨u,w',γ',hg',fin,rv,fr,st,q1,q2,q3,q4,fn,q5,q6⟩:=hrun av0 w gm0 _ 0 vs hr (fun id h=>by rw[hR] at h;exact absurd rfl h) (fun id _=>by rw[hR]) (fun _ _ _=>rfl) hargs .normal cs (.inl rfl)
 refine ⟨.returned u,w',fr,⟨u,γ',av0,rfl,⟨fin.stp.os,fin.stp.tape,fin.stp.output,fin.stp.sz,fun k hk=>fin.stp.fr k hk (mr k)⟩,rv⟩,st,q4,q1,q2,q3,fn,by rw[q4];exact q5,q6⟩
theorem jA {C:Cfg}(hC:CfgOk C){n f:Nat}{as:List AV}{g':G}(h:(sem C n).call 1 f as G.empty=.ok (.bool true) g'){w:World}{vs:List Value}(hargs:mm w as vs)
  (hglob:∀gl sz rows,C.glob gl=some (sz,rows)->RV0 w (.tptr 0 sz rows 0 0) (.pointer (some ⟨gl,0,none⟩))) :
  Calls C.P f vs.toArray w fun e w'=>e=.returned (.bool true)/\Below w.heap.size w w' :=
 (im hC h hargs hglob).mono fun e w' ⟨u,γ',A',he,hb,rv⟩=>by
  cases rv;exact ⟨he,hb⟩
noncomputable def jR:FR->Bool
 | .ok (.bool true) _=>true
 | _=>false
theorem jg {r:FR}(h:jR r=true):∃g',r=.ok (.bool true) g':=by
 unfold jR at h
 split at h
 ·exact ⟨_,rfl⟩
 ·cases h
end Hx
end
section
namespace Hx
open Go Go.RowKit
theorem CfgOk.plain {P:Program}{iso:Nat->Bool}{glob:Nat->Option (Nat×List (List AV))}(hm:P.follows .mixedOrders=true)(hrf:P.follows .rangeFuncRecover=true) :
  CfgOk { P,iso,ext:=fun _=>none,glob } :=
 ⟨hm,hrf,fun f e h=>(by cases h),fun f e h=>(by cases h),fun f e h=>(by cases h)⟩
theorem Rel.cfg {C C':Cfg}(h:C'.glob=C.glob){A:Nat->Nat->Prop}{bd:Nat}{w:World}{γ:Gm}{hg:Nat->AObj}{nx:Nat}(r:Rel C A bd w γ hg nx):Rel C' A bd w γ hg nx :=
 ⟨r.obj,r.lt,r.inj,r.av,r.ab,by rw[h];exact r.glob⟩
theorem Fin.cfg {C C':Cfg}(h:C'.glob=C.glob){A:Nat->Nat->Prop}{bd:Nat}{w w':World}{γ γ':Gm}{hg hg':Nat->AObj}{nx:Nat}{g g':G}(f:Fin C A bd w γ hg nx g w' γ' hg' g') :
  Fin C' A bd w γ hg nx g w' γ' hg' g':=⟨f.rel.cfg h,f.stp,f.new⟩
structure ExtOk (C:Cfg) (f:Nat) (e:Nat->List AV->G->OR):Prop where
 mon:∀d args g,WF g->Mon g (gOf g (e d args g))
 noDfr:∀d args g y,e d args g≠.dfr y
 run:∀A bd w γ hg nx g as vs,Rel C A bd w γ hg nx->WF g->(∀id∈as.flatMap (au g.h aA),g.h.get id≠.none->hg id=g.h.get id)->Free γ g (gOf g (e (bd+1) as g)) ->
  RVs w γ A bd as vs->e (bd+1) as g≠.fail->∀cs,
  ∃u w' γ' hg',Fin C A bd w γ hg nx g w' γ' hg' (gOf g (e (bd+1) as g))/\RV w' γ' A bd (vOf (e (bd+1) as g)) u /\
   ((callFunc f vs.toArray).run C.P w=.ok (.value u) w'\/(Enters C.P f/\Outs C.P .normal f vs.toArray cs w u w'))
noncomputable def Cfg.add (C:Cfg)(f:Nat)(e:Nat->List AV->G->OR):Cfg:={ C with ext:=fun k=>af (Nat.beq k f) (some e) (C.ext k) }
theorem ExtOk.cfg {C C':Cfg}{f:Nat}{e:Nat->List AV->G->OR}(hp:C'.P=C.P)(hgl:C'.glob=C.glob)(h:ExtOk C f e):ExtOk C' f e:=by
 refine ⟨h.mon,h.noDfr,fun A bd w γ hg nx g as vs hr hwf hx hf hv hne cs=>?_⟩
 obtain ⟨u,w',γ',hg',fin,rv,out⟩:=h.run A bd w γ hg nx g as vs (hr.cfg hgl.symm) hwf hx hf hv hne cs
 exact ⟨u,w',γ',hg',fin.cfg hgl,rv,by rw[hp];exact out⟩
theorem CfgOk.add {C:Cfg}(h:CfgOk C){f:Nat}{e:Nat->List AV->G->OR}(he:ExtOk C f e):CfgOk (C.add f e):=by
 have which:∀k e',(C.add f e).ext k=some e'->(k=f/\e'=e)\/C.ext k=some e':=by
  intro k e' hk
  have hk:af (Nat.beq k f) (some e) (C.ext k)=some e':=hk
  rw[aa] at hk
  split at hk
  ·rename_i hb;injection hk with hk;exact .inl ⟨ae hb,hk.symm⟩
  ·exact .inr hk
 refine ⟨h.mixed,h.recov,fun k e' hk d args g hwf=>?_,fun k e' hk d args g y=>?_,fun k e' hk A bd w γ hg nx g as vs hr hwf hx hf hv hne cs=>?_⟩
 ·rcases which k e' hk with ⟨_,rfl⟩ | hk
  ·exact he.mon d args g hwf
  ·exact h.mon k e' hk d args g hwf
 ·rcases which k e' hk with ⟨_,rfl⟩ | hk
  ·exact he.noDfr d args g y
  ·exact h.noDfr k e' hk d args g y
 ·rcases which k e' hk with ⟨rfl,rfl⟩ | hk
  ·obtain ⟨u,w',γ',hg',fin,rv,out⟩:=he.run A bd w γ hg nx g as vs (Rel.cfg (C:=C.add k e') (C':=C) rfl hr) hwf hx hf hv hne cs
   exact ⟨u,w',γ',hg',Fin.cfg (C:=C) (C':=C.add k e') rfl fin,rv,out⟩
  ·obtain ⟨u,w',γ',hg',fin,rv,out⟩:=h.ext k e' hk A bd w γ hg nx g as vs (Rel.cfg (C:=C.add f e) (C':=C) rfl hr) hwf hx hf hv hne cs
   exact ⟨u,w',γ',hg',Fin.cfg (C:=C) (C':=C.add f e) rfl fin,rv,out⟩
noncomputable def gN (v:AV):Nat->List AV->G->OR:=fun d as _ =>
 match d with
 | 1=>match as with
  | []=>.val v
  | _=>.fail
 | _=>.fail
theorem jd {ih:IH}{d:Nat}{g g0:G}{f:Nat}{v:AV}(h:aD ih d g0 f []=.val v):aD ih d g f []=.val v:=by
 unfold aD at h ⊢
 simp only[aU] at h ⊢
 cases hc:ih.call (Nat.succ d) f [] G.empty with
 | fail=>rw[hc] at h;cases h
 | ok r g' =>
  rw[hc] at h
  dsimp only at h ⊢
  cases hs:bf g'.h 0 aA r with
  | none=>rw[hs] at h;cases h
  | some r' =>
   rw[hs] at h
   dsimp only at h ⊢
   cases hm:cf aA r' with
   | none=>rw[hm] at h;cases h
   | some m =>
    rw[hm] at h
    dsimp only at h ⊢
    cases hb:Nat.blt m d with
    | true=>rw[hb] at h;exact h
    | false =>
     rw[hb] at h
     split at h
     ·cases h
     ·split at h
      ·cases h
      ·rename_i m' hm'
       cases hb':Nat.blt m' d with
       | true=>rw[hb'] at h;cases h
       | false=>rw[hb'] at h;cases h
theorem ku {C:Cfg}(hC:CfgOk C){n f:Nat}{v:AV}(h:aD (sem C n) 1 G.empty f []=.val v):ExtOk C f (gN v):=by
 have sh:∀d args g,gN v d args g=.fail\/(d=1/\args=[]/\gN v d args g=.val v):=by
  intro d args g
  unfold gN
  split
  ·split
   ·exact .inr ⟨rfl,rfl,rfl⟩
   ·exact .inl rfl
  ·exact .inl rfl
 refine ⟨fun d args g _=>?_,fun d args g y hy=>?_,fun A bd w γ hg nx g as vs hr hwf hx hf hv hne cs=>?_⟩
 ·rcases sh d args g with h | ⟨_,_,h⟩<;>rw[h]<;>exact Mon.refl g
 ·rcases sh d args g with h | ⟨_,_,h⟩<;>rw[h] at hy<;>cases hy
 ·rcases sh (bd+1) as g with h0 | ⟨h1,rfl,h0⟩
  ·exact absurd h0 hne
  ·have hbd:bd=0:=by omega
   subst hbd
   have hc:=jd (g:=g) h
   rw[h0]
   have hok:=eK hC n
   obtain ⟨he,u,w',γ',hg',fin,rv,out⟩:=cR (args:=[]) (f:=f) hok.call hok.mon.call hr hx hv (by rw[hc];simp) cs
   rw[hc] at fin rv
   exact ⟨u,w',γ',hg',fin,rv,.inr ⟨he,out⟩⟩
noncomputable def ed {α:Type}(f:α->α->Bool):List α->List α->Bool
 | [],[]=>true
 | a::as,b::bs=>af (f a b) (ed f as bs) false
 | _,_=>false
noncomputable def ii:Nat->AV->AV->Bool
 | 0,_,_=>false
 | n+1,x,y=>match x with
  | .bool a=>match y with | .bool b=>af a b (da b) | _=>false
  | .int k a=>match y with | .int k' b=>af (a8 k k') (kv a b) false | _=>false
  | .tup a=>match y with | .tup b=>ed (ii n) a b | _=>false
  | .agg a=>match y with | .agg b=>ed (ii n) a b | _=>false
  | .nilp=>match y with | .nilp=>true | _=>false
  | .nils=>match y with | .nils=>true | _=>false
  | .nilf=>match y with | .nilf=>true | _=>false
  | .nilm=>match y with | .nilm=>true | _=>false
  | .nili=>match y with | .nili=>true | _=>false
  | .esl=>match y with | .esl=>true | _=>false
  | .tsl t s r=>match y with | .tsl t' s' r'=>af (Nat.beq t t'&&Nat.beq s s') (ed (ed (ii n)) r r') false | _=>false
  | .clo f a c=>match y with | .clo f' a' c'=>af (Nat.beq f f') (af (ed (ii n) a a') (ed (ii n) c c') false) false | _=>false
  | _=>false
theorem gc {α:Type}{f:α->α->Bool}(hf:∀a b,f a b=true->a=b):∀{l l':List α},ed f l l'=true->l=l':=by
 intro l
 induction l with
 | nil=>intro l' h;cases l' with
  | nil=>rfl
  | cons b bs=>cases h
 | cons a as ih=>intro l' h;cases l' with
  | nil=>cases h
  | cons b bs =>
   simp only[ed,aa] at h
   split at h
   ·rename_i h1;rw[hf a b h1,ih h]
   ·cases h
theorem lB:∀(n:Nat) (x y:AV),ii n x y=true->x=y:=by
 intro n
 induction n with
 | zero=>intro x y h;cases h
 | succ n ih =>
  intro x y h
  have l1:=fun {l l':List AV} (h:ed (ii n) l l'=true)=>gc ih h
  cases x<;>cases y<;>simp only[ii] at h<;>first | (cases h;done) | rfl | skip
  ·rename_i a b
   cases a<;>cases b<;>first | rfl | (cases h;done)
  ·rename_i k a k' b
   rw[aa] at h
   split at h
   ·rename_i hk
    rw[cp] at hk
    rw[iI] at h
    simp only[decide_eq_true_eq] at hk h
    rw[hk,h]
   ·cases h
  ·rw[l1 h]
  ·rw[l1 h]
  ·rw[aa] at h
   split at h
   ·rename_i hk
    simp only[Bool.and_eq_true] at hk
    rw[ae hk.1,ae hk.2,gc (fun a b h=>l1 h) h]
   ·cases h
  ·rw[aa] at h
   split at h
   ·rename_i hf
    rw[aa] at h
    split at h
    ·rename_i ha
     rw[ae hf,l1 ha,l1 h]
    ·cases h
   ·cases h
noncomputable def f0 (as:List AV):List (List AV×AV)->Option AV
 | []=>none
 | e::r=>af (ed (ii aA) e.1 as) (some e.2) (f0 as r)
theorem i6 {as:List AV}{v:AV}:∀{l:List (List AV×AV)},f0 as l=some v->(as,v)∈l:=by
 intro l
 induction l with
 | nil=>intro h;cases h
 | cons e r ih =>
  intro h
  simp only[f0,aa] at h
  split at h
  ·rename_i he
   injection h with h
   have:=gc (lB aA) he
   subst this;subst h
   exact List.mem_cons_self
  ·exact List.mem_cons_of_mem _ (ih h)
noncomputable def aH (d:Nat):FR->Option AV
 | .fail=>none
 | .ok r g'=>match bf g'.h 0 aA r with
  | none=>none
  | some r'=>match cf aA r' with
   | none=>none
   | some m=>af (Nat.blt m d) (some r') none
theorem jn {ih:IH}{d:Nat}{g:G}{f:Nat}{args as:List AV}{v:AV}(hs:aU (bf g.h d aA) args=some as)(h:aH d (ih.call (Nat.succ d) f as G.empty)=some v) :
  aD ih d g f args=.val v:=by
 unfold aD
 rw[hs]
 dsimp only
 cases hc:ih.call (Nat.succ d) f as G.empty with
 | fail=>rw[hc] at h;cases h
 | ok r g' =>
  rw[hc] at h
  simp only[aH] at h
  dsimp only
  cases hs':bf g'.h 0 aA r with
  | none=>rw[hs'] at h;cases h
  | some r' =>
   rw[hs'] at h
   dsimp only at h ⊢
   cases hm:cf aA r' with
   | none=>rw[hm] at h;cases h
   | some m =>
    rw[hm] at h
    dsimp only at h ⊢
    cases hb:Nat.blt m d with
    | true=>rw[hb] at h;injection h with h;rw[h]
    | false=>rw[hb] at h;cases h
end Hx
end
section
namespace Hx
open Go
noncomputable def md (C:Cfg)(n f:Nat):Nat->List AV->G->OR:=fun d as g=>aD (sem C n) d g f as
theorem cV {ih:IH}{d:Nat}{g:G}{f:Nat}{args:List AV}{y:ADf}:aD ih d g f args≠.dfr y:=by
 intro hy
 revert hy
 unfold aD
 repeat' (first | split | rw[aa])
 all_goals (intro h;cases h)
theorem ij {C:Cfg}(hC:CfgOk C){n f:Nat}:ExtOk C f (md C n f):=by
 refine ⟨fun d args g hwf=>b8 hwf,fun d args g y=>cV,fun A bd w γ hg nx g as vs hr hwf hx hf hv hne cs=>?_⟩
 have hok:=eK hC n
 obtain ⟨he,u,w',γ',hg',fin,rv,out⟩:=cR hok.call hok.mon.call hr hx hv hne cs
 exact ⟨u,w',γ',hg',fin,rv,.inr ⟨he,out⟩⟩
noncomputable def gP (d0:Nat)(tab:List (List AV×AV))(fb:Nat->List AV->G->OR):Nat->List AV->G->OR:=fun d as g =>
 af (Nat.beq d d0) (match aU (bf g.h d aA) as with
  | some as'=>match f0 as' tab with
   | some v=>.val v
   | none=>fb d as g
  | none=>.fail) (fb d as g)
theorem el {C:Cfg}(hC:CfgOk C){n f d0:Nat}{tab:List (List AV×AV)}(h:∀e∈tab,aH d0 ((sem C n).call (Nat.succ d0) f e.1 G.empty)=some e.2)
  {fb:Nat->List AV->G->OR} (hfb:ExtOk C f fb):ExtOk C f (gP d0 tab fb):=by
 have sh:∀d args g,gP d0 tab fb d args g=.fail\/gP d0 tab fb d args g=fb d args g\/gP d0 tab fb d args g=aD (sem C n) d g f args:=by
  intro d args g
  unfold gP
  rw[aa]
  split
  ·rename_i hd
   have hd:=ae hd
   subst hd
   split
   ·rename_i as' has
    split
    ·rename_i v hv
     have:=i6 hv
     exact .inr (.inr (jn has (h _ this)).symm)
    ·exact .inr (.inl rfl)
   ·exact .inl rfl
  ·exact .inr (.inl rfl)
 refine ⟨fun d args g hwf=>?_,fun d args g y hy=>?_,fun A bd w γ hg nx g as vs hr hwf hx hf hv hne cs=>?_⟩
 ·rcases sh d args g with h | h | h<;>rw[h]
  ·exact Mon.refl g
  ·exact hfb.mon d args g hwf
  ·exact b8 hwf
 ·rcases sh d args g with h | h | h<;>rw[h] at hy
  ·cases hy
  ·exact hfb.noDfr d args g y hy
  ·exact cV hy
 ·rcases sh (bd+1) as g with h0 | h0 | h0
  ·exact absurd h0 hne
  ·rw[h0] at hne hf ⊢
   exact hfb.run A bd w γ hg nx g as vs hr hwf hx hf hv hne cs
  ·rw[h0] at hne hf ⊢
   exact (ij (n:=n) hC).run A bd w γ hg nx g as vs hr hwf hx hf hv hne cs
end Hx
end
section
namespace Hx
open Go
noncomputable def d4 (h:H):List Nat->H
 | []=>.nil
 | id::l=>(d4 h l).put id (h.get id)
noncomputable def dG (h h':H):List Nat->H
 | []=>h
 | id::l=>(dG h h' l).put id (h'.get id)
theorem lD (k:Nat):H.get (Tr.nil:H) k=.none:=by
 simp[H.get,Tr.get_nil]
theorem eh (h:H)(k:Nat):∀l,(d4 h l).get k=if k∈l then h.get k else .none
 | []=>by simp[d4,lD]
 | id::l=>by
  rw[d4,H.get_put,eh h k l]
  by_cases hk:k=id
  ·subst hk;simp
  ·simp[hk]
theorem dF (h h':H)(k:Nat):∀l,(dG h h' l).get k=if k∈l then h'.get k else h.get k
 | []=>by simp[dG]
 | id::l=>by
  rw[dG,H.get_put,dF h h' k l]
  by_cases hk:k=id
  ·subst hk;simp
  ·simp[hk]
noncomputable def kL (C:Cfg)(n f:Nat):Nat->List AV->G->OR:=fun d as g =>
 match (sem C n).call d f as ⟨d4 g.h (as.flatMap (au g.h aA)),g.nx,[]⟩ with
 | .ok v g'=>.upd v ⟨dG g.h g'.h g'.lg,g'.nx,g'.lg++g.lg⟩
 | .fail=>.fail
theorem lM {C:Cfg}(hC:CfgOk C){n f:Nat}:ExtOk C f (kL C n f):=by
 have hok:=eK hC n
 have wfr:∀(g:G) (ids:List Nat),WF g->WF ⟨d4 g.h ids,g.nx,[]⟩:=by
  intro g ids hwf id hid
  show (d4 g.h ids).get id=.none
  rw[eh]
  split
  ·exact hwf id hid
  ·rfl
 have sh:∀d as g,kL C n f d as g=.fail\/∃v g',(sem C n).call d f as ⟨d4 g.h (as.flatMap (au g.h aA)),g.nx,[]⟩=.ok v g' /\
   kL C n f d as g=.upd v ⟨dG g.h g'.h g'.lg,g'.nx,g'.lg++g.lg⟩:=by
  intro d as g
  unfold kL
  split
  ·rename_i v g' h;exact .inr ⟨v,g',h,rfl⟩
  ·exact .inl rfl
 refine ⟨fun d as g hwf=>?_,fun d as g y hy=>?_,fun A bd w γ hg nx g as vs hr hwf hx hf hv hne cs=>?_⟩
 ·rcases sh d as g with h | ⟨v,g',h1,h2⟩
  ·rw[h];exact Mon.refl g
  ·rw[h2]
   have m:=hok.mon.call _ _ _ _ _ _ h1 (wfr g _ hwf)
   obtain ⟨nw,a,b,c⟩:=m.new
   have ha:g'.lg=nw:=by simpa using a
   refine ⟨m.nx,⟨g'.lg,rfl,fun id hid=>?_,fun id hid=>?_⟩,fun hw id hid=>?_⟩
   ·show (dG _ _ _).get id=_
    rw[dF,if_neg hid]
   ·obtain ⟨c1,c2⟩:=c id (by rw[<-ha];exact hid)
    refine ⟨c1,fun hn=>c2 ?_⟩
    show (d4 _ _).get id=_
    rw[eh,hn];simp
   ·show (dG _ _ _).get id=_
    have hid:g'.nx<=id:=hid
    have hnx:g.nx<=g'.nx:=m.nx
    rw[dF,if_neg]
    ·exact hw id (by omega)
    ·intro hl
     have:=(c id (by rw[<-ha];exact hl)).1
     omega
 ·rcases sh d as g with h | ⟨v,g',h1,h2⟩
  ·rw[h] at hy;cases hy
  ·rw[h2] at hy;cases hy
 ·rcases sh (bd+1) as g with h | ⟨v,g',h1,h2⟩
  ·exact absurd h hne
  ·rw[h2] at hf ⊢
   obtain ⟨he,run⟩:=hok.call _ _ _ _ _ _ h1
   obtain ⟨u,w',γ',hg',fin,rv,out⟩:=run A w γ hg nx vs hr (fun id hn=>by
     have hn':(d4 g.h (as.flatMap (au g.h aA))).get id≠.none:=hn
     show hg id=(d4 _ _).get id
     rw[eh] at hn' ⊢
     split at hn'
     ·rename_i hm;rw[if_pos hm];exact hx id hm hn'
     ·exact absurd rfl hn') (wfr g _ hwf) (fun id h1 h2=>hf id h1 h2) hv .normal cs (.inl rfl)
   refine ⟨u,w',γ',hg',⟨fin.rel,fin.stp,?_⟩,rv,.inr ⟨he,out⟩⟩
   obtain ⟨nw,a,b,c⟩:=fin.new
   have ha:g'.lg=nw:=by simpa using a
   subst ha
   refine ⟨g'.lg,rfl,fun id hid=>?_,c⟩
   show hg' id=(dG _ _ _).get id
   rw[dF,if_pos hid];exact b id hid
end Hx
end
