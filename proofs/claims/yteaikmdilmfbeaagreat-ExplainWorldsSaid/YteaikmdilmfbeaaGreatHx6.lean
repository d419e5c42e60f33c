/- A part of the proof: an interpreter over abstract values, shown right against the model, and what the functions of the chapter compute on it. -/
import Derived.RangeFuncIn
import Derived.Orders
import Derived.Test.YteaikmdilmfbeaaGreatHx5
set_option linter.unusedVariables false
set_option linter.unusedSimpArgs false
set_option linter.unnecessarySimpa false
section
namespace Hx
open Go
section
variable {C:Cfg}{A:Nat->Nat->Prop}{bd:Nat}{w w':World}{γ γ':Gm}{hg:Nat->AObj}{nx:Nat}
variable {t:T}{g:G}{ih:IH}
def Agr (lk:Looks)(g:G)(hg:Nat->AObj):Prop :=
 if lk.big then Ext g.h hg else ∀id∈lk.rd++lk.sr.map (·.1),g.h.get id≠.none->hg id=g.h.get id
theorem Ext.agr {lk:Looks}(h:Ext g.h hg):Agr lk g hg:=by
 unfold Agr
 split
 ·exact h
 ·exact λid _ hne=>h id hne
theorem Af {nt:Nat}:∀{ps:List Nat} {xs:List AV} {us:List Value} {t t':T} {tmps:Array Value},dw t nt ps xs=some t'->TR w γ A bd nt t tmps->RVs w γ A bd xs us ->
  ps.length=us.length/\TR w γ A bd nt t' ((ps.zip us).foldl (λtmps (t,a)=>tmps.setIfInBounds t a) tmps):=by
 intro ps
 induction ps with
 | nil =>
  intro xs us t t' tmps h ht hv;cases xs with
  | nil =>
   simp only[dw] at h;injection h with h;subst h;have:us=[]:=List.length_eq_zero_iff.1 hv.1.symm;subst this;exact ⟨rfl,ht⟩
  | cons x xs=>simp[dw] at h
 | cons p ps ih =>
  intro xs us t t' tmps h ht hv;cases xs with
  | nil=>simp[dw] at h
  | cons x xs =>
   cases us with
   | nil=>have:=hv.1;simp at this
   | cons u us =>
    simp only[dw,aa] at h
    split at h
    ·rename_i hp;rw[Nat.blt_eq] at hp;have h0:RV w γ A bd x u:=hv.2 0 x u rfl rfl;have hrest:RVs w γ A bd xs us:=⟨by have:=hv.1;simpa using this,λi x' u' hx hu=>hv.2 (i+1) x' u' (by simpa using hx) (by simpa using hu)⟩;have ht':TR w γ A bd nt ((sp AV.undef p).run t x) (tmps.setIfInBounds p u):=by
      refine ⟨by simp[ht.1],λi=>?_⟩;rw[sp_get]
      by_cases hi:i=p
      ·subst hi;rw[if_pos rfl];have:i<tmps.size:=by rw[ht.1];exact hp
       simpa [Array.getD,this] using h0
      ·rw[if_neg hi];have:=ht.2 i;simp only[Array.getD_eq_getD_getElem?] at this ⊢;rw[Array.getElem?_setIfInBounds_ne (Ne.symm hi)];exact this
     obtain ⟨a1,a2⟩:=ih h ht' hrest;exact ⟨by simp[a1],by simpa using a2⟩
    ·cases h
theorem HQ (hi:IHOk C ih)(hr:Rel C A bd w γ hg nx)(hx:Ext g.h hg)(hwf:WF g){id:Nat}{args:List AV}{vs:List Value}
  (hk:(γ id).kind=3) (hv:RVs w γ A bd args vs) {r:OR} (h:cI ih (bd+1) id args g=r) (hne:r≠.fail) (hf:Free γ g (gOf g r)) (c:Frame) (cs:List Frame) :
  ∃f tmps assign body,(Instr.yield (γ id).blk vs.toArray).run C.P w=.ok (.round (γ id).blk f tmps assign body) w /\
   ∃u w' γ' hg',Fin C A bd w γ hg nx g w' γ' hg' (gOf g r)/\RV w' γ' A bd (vOf r) u /\
    Steps C.P (lone (Frame.round (γ id).blk f tmps assign body .normal) (c::cs) w) (lone (c.finish u) cs w'):=by
 unfold cI at h
 split at h
 rotate_left
 ·exact absurd h.symm hne
 rename_i nt t0 ps assign bodyX dfr0 st0 pend0 hget;have hget:g.h.get id=.loop nt t0 ps assign bodyX dfr0 st0 pend0:=by simpa using hget
 have hid:hg id=.loop nt t0 ps assign bodyX dfr0 st0 pend0:=by rw[hx id (by rw[hget];simp),hget]
 have hob:=hr.obj id;rw[hid] at hob;obtain ⟨k1,k2,L,k3,k4,k5,k6,k7,k8,k9,k10,k11,k12⟩:=hob
 split at h
 ·exact absurd h.symm hne
 rename_i t' hset;have ht0:TR w γ A bd nt t0 L.tmps:=⟨k9,k10⟩;obtain ⟨hlen,ht'⟩:=Af hset ht0 hv
 split at h
 rotate_left
 ·exact absurd h.symm hne
 rename_i t1 g1 h1
 split at h
 rotate_left
 ·exact absurd h.symm hne
 rename_i nt1 t2 ps2 assign2 body1 dfr pend hget1;have hget1:g1.h.get id=.loop nt1 t2 ps2 assign2 body1 dfr .ready pend:=by simpa using hget1
 split at h
 rotate_left
 ·exact absurd h.symm hne
 rename_i e t3 g2 h2
 split at h
 rotate_left
 ·exact absurd h.symm hne
 rename_i nt3 t4 ps4 assign4 body4 dfr4 st4 pend4 hget2;have hget2:g2.h.get id=.loop nt3 t4 ps4 assign4 body4 dfr4 st4 pend4:=by simpa using hget2
 have m1:=hi.mon.code _ _ _ _ _ _ _ _ _ _ _ h1 hwf;have w1:WF g1:=m1.wf hwf;have m2:Mon g1 (g1.put id (.loop nt1 t2 ps2 assign2 body1 dfr .busy pend)):=Mon.put w1 (by rw[hget1];simp);have w2:=m2.wf w1;have m3:=hi.mon.code _ _ _ _ _ _ _ _ _ _ _ h2 w2;have w3:=m3.wf w2;have m4:∀o,Mon g2 (g2.put id o):=λo=>Mon.put w3 (by rw[hget2];simp);have hnx:(gOf g r).nx=g2.nx:=by subst h;cases e<;>simp[gOf]
 have hfree2:Free γ g g2:=λi a b=>hf i a (by rw[hnx];exact b)
 let bR:Frame:={ (default:Frame) with fn:=L.fn,kind:=.normal,roundOf:=some (γ id).blk }
 let tmps:=(L.params.zip vs.toArray).foldl (λtmps (t,a)=>tmps.setIfInBounds t a) L.tmps
 have htm:tmps=(ps.zip vs).foldl (λtmps (t,a)=>tmps.setIfInBounds t a) L.tmps:=by simp only[tmps,<-Array.foldl_toList,Array.toList_zip,k6]
 have hyield:(Instr.yield (γ id).blk vs.toArray).run C.P w=.ok (.round (γ id).blk L.fn tmps assign bodyX) w:=by
  unfold Instr.yield;have hs:vs.toArray.size=L.params.size:=by rw[<-k6] at hlen;simpa using hlen.symm
  simp only[Sem.run_bind,ja k3,Result.andThen_ok,hs,ne_eq,not_true_eq_false,if_false,k7,k8]
  rfl
 have hframe:Frame.round (γ id).blk L.fn tmps assign bodyX .normal=bR.atR { tmps:=tmps,defers:=[] } [.code assign,.beginRound,.code bodyX]:=by simp[Frame.round,Frame.atR,bR]
 obtain ⟨a1,wa,γa,hga,f1,tr1,dr1,ar1⟩:=hi.code _ _ _ _ _ _ _ _ _ _ _ h1 A w γ hg nx bR { tmps:=tmps,defers:=[] } [.beginRound,.code bodyX] (c::cs) hr hx hwf
  (hfree2.le (Nat.le_trans m2.nx m3.nx)) (by rw[htm];exact ht') trivial ⟨hk,rfl⟩ (.inl rfl)
 have hxa:Ext g1.h hga:=f1.ext m1 hx;have hida:hga id=.loop nt1 t2 ps2 assign2 body1 dfr .ready pend:=by rw[hxa id (by rw[hget1];simp),hget1]
 have hka:(γ id).kind≠0:=by rw[hk];decide
 have hblka:(γa id).blk=(γ id).blk:=f1.stp.blk_eq hka (by rw[hk];decide);have hobA:=f1.rel.obj id;rw[hida] at hobA;obtain ⟨ka1,ka2,La,ka3,ka4,ka5,ka6,ka7,ka8,ka9,ka10,ka11,ka12⟩:=hobA;have hsetA:=f1.rel.setLoop (st':=.busy) (pend':=pend) hida ka3;rw[hblka] at ka3 hsetA;have hbegin:(Instr.beginRound (γ id).blk).run C.P wa=.ok () (World.setBlk wa (γ id).blk (.loop { La with state:=.busy,pending:=pend })):=by unfold Instr.beginRound;simp only[Sem.run_bind,ja ka3,Result.andThen_ok,rB ka3,ka4,Sem.run_pure,<-ka5]
 have f2:Fin C A bd wa γa hga (Nat.max nx g1.nx) g1 _ γa _ (g1.put id (.loop nt1 t2 ps2 assign2 body1 dfr .busy pend)):=Fin.ofPut hsetA.1 hsetA.2;have f12:=f1.trans f2 m1 m2;obtain ⟨a2,wb,γb,hgb,f3,tr3,dr3,ar3⟩:=hi.code _ _ _ _ _ _ _ _ _ _ _ h2 A _ γa _ (Nat.max nx (g1.put id (.loop nt1 t2 ps2 assign2 body1 dfr .busy pend)).nx) bR a1 [] (c::cs) f12.rel (f12.ext (m1.trans m2) hx) w2
  (f12.freed hr (m1.trans m2) hfree2) (tr1.step hsetA.2) (by
   have:=dr1.step hsetA.2;exact this) ⟨by rw[f1.stp.kind_eq hka];exact hk,by simp[bR,hblka]⟩ (.inl rfl)
 have f123:=f12.trans f3 (m1.trans m2) m3;have hxb:Ext g2.h hgb:=f123.ext ((m1.trans m2).trans m3) hx;have hidb:hgb id=.loop nt3 t4 ps4 assign4 body4 dfr4 st4 pend4:=by rw[hxb id (by rw[hget2];simp),hget2]
 have hblkb:(γb id).blk=(γ id).blk:=f123.stp.blk_eq hka (by rw[hk];decide);have hobB:=f123.rel.obj id;rw[hidb] at hobB;obtain ⟨kb1,kb2,Lb,kb3,kb4,kb5,kb6,kb7,kb8,kb9,kb10,kb11,kb12⟩:=hobB;have hsetB:=λst' pend'=>f123.rel.setLoop (st':=st') (pend':=pend') hidb kb3;rw[hblkb] at kb3 hsetB;have hend:∀jump,(Instr.endRound (γ id).blk jump).run C.P wb=.ok (.bool jump.isNone) (World.setBlk wb (γ id).blk (.loop { Lb with state:=if jump.isNone then .ready else .done,pending:=jump })):=by intro jump;unfold Instr.endRound;simp only[Sem.run_bind,ja kb3,Result.andThen_ok,rB kb3,Sem.run_pure]
 refine ⟨L.fn,tmps,assign,bodyX,hyield,?_⟩;rw[hframe];have sbegin:Steps C.P (lone (bR.atR { tmps:=tmps,defers:=[] } [.code assign,.beginRound,.code bodyX]) (c::cs) w) (lone (bR.atR a1 [.code bodyX]) (c::cs) (World.setBlk wa (γ id).blk (.loop { La with state:=.busy,pending:=pend }))) :=
  Steps.trans ar1 (.one (stepR_beginRound rfl hbegin))
 have fin:∀(jump:Option Code) (st':LoopState),st'=(if jump.isNone then .ready else .done) ->
   Fin C A bd w γ hg nx g (World.setBlk wb (γ id).blk (.loop { Lb with state:=st',pending:=jump })) γb (upd hgb id (.loop nt3 t4 ps4 assign4 body4 dfr4 st' jump)) (g2.put id (.loop nt3 t4 ps4 assign4 body4 dfr4 st' jump)):=by
  intro jump st' _;exact f123.trans (Fin.ofPut (hsetB st' jump).1 (hsetB st' jump).2) ((m1.trans m2).trans m3) (m4 _)
 subst h;cases e with
 | norm=>exact ⟨.bool true,_,γb,_,fin none .ready rfl,.bool _ _,Steps.trans sbegin (Steps.trans ar3 (.one (stepR_round_end rfl rfl (hend none))))⟩
 | exit j =>
  obtain ⟨k₁,hk₁,har⟩:=ar3;exact ⟨.bool false,_,γb,_,fin (some (.exit j)) .done rfl,.bool _ _,Steps.trans sbegin (Steps.trans har (.one (stepR_round_exit rfl rfl (by rw[hk₁];rfl) (hend (some (.exit j))))))⟩
 | ret =>
  obtain ⟨k₁,har⟩:=ar3;exact ⟨.bool false,_,γb,_,fin (some .ret) .done rfl,.bool _ _,Steps.trans sbegin (Steps.trans har (.one (stepR_round_ret rfl rfl (hend (some .ret)))))⟩
noncomputable def MQ (C:Cfg)(fv:AV)(as:List AV)(g:G):Looks :=
 match fv with
 | .clo f first cap=>au ((C.ext f).isSome || C.iso f) (ap ((first++(as++cap)).flatMap (aA g.h aB))) cC
 | _=>cC
theorem KY (h:Agr cC g hg):Ext g.h hg:=h
section
variable {b:Frame}{a:Act}{ops:Array Oper}{i:Nat}{rest:List Nat}{k:List Item}{cs:List Frame}{o:Oper}
theorem Ao (hC:CfgOk C)(hi:IHOk C ih)(hr:Rel C A bd w γ hg nx)(hwf:WF g){fv:AV}{v:Value}{as:List AV}{vs:List Value}
  (hfv:RV w γ A bd fv v) (has:RVs w γ A bd as vs) (hag:Agr (MQ C fv as g) g hg)
  {r:OR} (h:j7 C ih (bd+1) fv as g=r) (hne:r≠.fail) (hf:Free γ g (gOf g r))
  (ho:ops[i]?=some o) (hw:Region.wanted o (yielded ops a.tmps)=true) (hd:∀c,o.op≠.defer c)
  (hexec:(execOp a.eval o).run C.P w=(do let d <-Deferred.ofValue v vs.toArray;invoke d.target d.args:Sem Next).run C.P w) :
  ∃u w' γ' hg',Fin C A bd w γ hg nx g w' γ' hg' (gOf g r)/\RV w' γ' A bd (vOf r) u /\
   Steps C.P (lone (b.atR a (.inRegion ops (i::rest)::k)) cs w) (lone (b.atR (a.put o.dst u) (.inRegion ops rest::k)) cs w'):=by
 cases hfv with
 | clo _ f xs ys vs1 us1 hl hl2 h1 h2 =>
  have hall:RVs w γ A bd (xs++(as++ys)) (vs1.toList++(vs++us1.toList)):=(RVs.ofArr hl h1).append (has.append (RVs.ofArr hl2 h2));have harr:(vs1.toList++(vs++us1.toList)).toArray=(vs1++vs.toArray)++us1:=by apply Array.ext';simp
  have henter:Enters C.P f->(execOp a.eval o).run C.P w=.ok (.enter f ((vs1++vs.toArray)++us1)) w:=by intro he;rw[hexec];simp only[Deferred.ofValue,invoke,Sem.run_bind,Sem.run_pure,Result.andThen_ok];exact he _ _
  simp only[j7] at h;simp only[MQ] at hag;cases hext:C.ext f with
  | some e =>
   simp only[hext] at h hag;have hx:∀id∈(xs++(as++ys)).flatMap (aA g.h aB),g.h.get id≠.none->hg id=g.h.get id:=by simpa [Agr,ap] using hag
   have hs:=hC.ext f e hext;subst h;obtain ⟨u,w',γ',hg',f1,rv,out⟩:=hs A bd w γ hg nx g _ _ hr hwf hx hf hall hne (b.atR a (.inRegion ops (i::rest)::k)::cs);rw[harr] at out;rcases out with out | ⟨he,out⟩
   ·refine ⟨u,w',γ',hg',f1,rv,.one (tQ ho hw hd ?_)⟩;rw[hexec];simp only[Deferred.ofValue,invoke,Sem.run_bind,Sem.run_pure,Result.andThen_ok];exact out
   ·exact ⟨u,w',γ',hg',f1,rv,pj ho hw hd (henter he) out⟩
  | none =>
   simp only[hext] at h hag;cases hiso:C.iso f with
   | true =>
    simp only[hiso] at h hag;have hx:∀id∈(xs++(as++ys)).flatMap (aA g.h aB),g.h.get id≠.none->hg id=g.h.get id:=by simpa [Agr,ap] using hag
    subst h;obtain ⟨he,u,w',γ',hg',f1,rv,out⟩:=rk hi.call hi.mon.call hr hx hall hne (b.atR a (.inRegion ops (i::rest)::k)::cs);rw[harr] at out;exact ⟨u,w',γ',hg',f1,rv,pj ho hw hd (henter he) out⟩
   | false =>
    simp only[hiso] at h hag;have hx:Ext g.h hg:=hag;cases hcall:ih.call (bd+1) f (xs++(as++ys)) g with
    | fail =>
     rw[hcall] at h;exact absurd h.symm hne
    | ok rv0 g1 =>
     rw[hcall] at h;have h:OR.upd rv0 g1=r:=h;subst h;obtain ⟨he,hs⟩:=hi.call _ _ _ _ _ _ hcall;obtain ⟨u,w',γ',hg',f1,rv,out⟩:=hs A w γ hg nx _ hr hx hwf hf hall .normal (b.atR a (.inRegion ops (i::rest)::k)::cs) (.inl rfl);rw[harr] at out;exact ⟨u,w',γ',hg',f1,rv,pj ho hw hd (henter he) out⟩
 | yld _ id bl hk hb =>
  subst hb;simp only[j7] at h;have hx:Ext g.h hg:=KY hag;obtain ⟨f,tmps,assign,body,hy,u,w',γ',hg',f1,rv,st⟩:=HQ hi hr hx hwf hk has h hne hf (b.atR a (.inRegion ops (i::rest)::k)) cs;have hfin:=Frame.finish_atR b a ops i rest k u;rw[ho] at hfin;simp only[Option.bind_some] at hfin;rw[hfin] at st;refine ⟨u,w',γ',hg',f1,rv,.head (Fg ho hw hd ?_) st⟩;rw[hexec];simp only[Deferred.ofValue,invoke,Sem.run_bind,Sem.run_pure,Result.andThen_ok];simpa using hy
 | _=>exact absurd h.symm hne
theorem BV (hC:CfgOk C)(hi:IHOk C ih)(hr:Rel C A bd w γ hg nx)(hwf:WF g){nt:Nat}{rd:Option Nat}(ht:TR w γ A bd nt t a.tmps)(hcalm:ni b.kind cs)
  (hag:Agr ((aI C o.op).run t g) g hg) {r:OR} (h:(cy C o.op).run ih (bd+1) rd t g=r) (hne:r≠.fail) (hnd:∀x,r≠.dfr x) (hf:Free γ g (gOf g r))
  (ho:ops[i]?=some o) (hw:Region.wanted o (yielded ops a.tmps)=true) :
  ∃u w' γ' hg',Fin C A bd w γ hg nx g w' γ' hg' (gOf g r)/\RV w' γ' A bd (vOf r) u /\
   Steps C.P (lone (b.atR a (.inRegion ops (i::rest)::k)) cs w) (lone (b.atR (a.put o.dst u) (.inRegion ops rest::k)) cs w'):=by
 have hm:Mon g (gOf g r):=by rw[<-h];exact gt hC.mon hi.mon hwf
 unfold cy at h
 split at h
 rotate_left
 ·exact absurd h.symm hne
 rename_i f hcop;generalize hop:o.op=op at hcop hag;have hargs:∀(args:Array Operand),(args.toList.map a.eval).toArray=args.map a.eval:=λargs=>by apply Array.ext';simp
 unfold cOp at hcop
 split at hcop
 ·
  rename_i fx args at2;have hd:∀c,o.op≠.defer c:=by rw[hop];intro c h;cases h
  split at hcop
  ·rename_i vs hvs;simp only[aI,aM,hvs] at hag;refine Ao (fv:=.clo fx [] []) (v:=.func (.func fx) #[] #[]) (as:=vs.run t) hC hi hr hwf (.clo _ fx [] [] #[] #[] rfl rfl (λi x v h=>by simp at h) (λi x v h=>by simp at h)) (fk ht hr hvs) hag ?_ hne hf ho hw hd ?_
   ·rw[<-h];simp only[j7,List.nil_append,List.append_nil]
    split at hcop
    ·rename_i e he;injection hcop with hcop;subst hcop;rfl
    ·rename_i he;rw[aa] at hcop
     split at hcop
     ·rename_i hiso;injection hcop with hcop;subst hcop;simp only[hiso]
     ·rename_i hiso;injection hcop with hcop;subst hcop;have:C.iso fx=false:=by simpa using hiso
      simp only[this]
   ·simp only[execOp,hop,resolve,hargs,Act.eval]
  ·cases hcop
 ·
  rename_i fo args at2 hnf;have hd:∀c,o.op≠.defer c:=by rw[hop];intro c h;cases h
  split at hcop
  ·rename_i fv vs hfv hvs;injection hcop with hcop;subst hcop;simp only[aI,hfv,hvs] at hag;refine Ao (fv:=fv.run t) (v:=a.eval fo) (as:=vs.run t) hC hi hr hwf (ax hfv ht hr) (fk ht hr hvs) hag h hne hf ho hw hd ?_;simp only[execOp,hop,resolve,hargs]
  ·cases hcop
 ·
  have hd:∀c,o.op≠.defer c:=by rw[hop];intro c h;cases h
  injection hcop with hcop;subst hcop;subst h;refine ⟨.nilIface,w,γ,hg,Fin.refl hr,.nili _,.one (B8 ho hw hd hC.recov hcalm ?_)⟩;simp only[execOp,hop,resolve,invoke,Sem.run_bind,Sem.run_pure,Result.andThen_ok]
  rfl
 ·
  split at hcop
  ·injection hcop with hcop;subst hcop;exfalso;dsimp only at h
   split at h
   ·exact hne h.symm
   ·split at h
    ·exact hnd _ h.symm
    ·exact hne h.symm
  ·cases hcop
 ·
  split at hcop
  ·rename_i s hs;injection hcop with hcop;subst hcop;have hd:∀c,o.op≠.defer c:=by rw[hop];rintro c rfl;simp[bS] at hs
   have hlook:∀id∈bc C op t g,hg id=g.h.get id:=by
    intro id hid;have hn:g.h.get id≠.none:=λhn=>hne (by rw[<-h];exact DX hs hid hn);unfold Agr at hag
    split at hag
    ·exact hag id hn
    ·exact hag id hid hn
   have hsim:=Mh hs hop ht hr (hf g.nx (Nat.le_refl _) hm.nx) hlook;have h:s.run t g=r:=h;rw[h] at hsim;cases r with
   | fail=>exact absurd rfl hne
   | val x =>
    obtain ⟨v,h1,h2⟩:=hsim;exact ⟨v,w,γ,hg,Fin.refl hr,h2,tP ho hw hd h1⟩
   | upd x g' =>
    obtain ⟨v,w',γ',id,ob,h1,h2,h3,h4⟩:=hsim;rcases h4 with ⟨rfl,h4⟩ | ⟨rfl,rfl,h4⟩
    ·exact ⟨v,w',γ',_,Fin.ofPut h4 h3,h2,tP ho hw hd h1⟩
    ·exact ⟨v,w',γ',_,Fin.ofNew h4 h3,h2,tP ho hw hd h1⟩
   | dfr x=>exact absurd rfl (hnd x)
  ·cases hcop
end
end
end Hx
end
section
namespace Hx
open Go
section
variable {K V:Type}
open Classical in
noncomputable def ov (S:Nat->Prop)(wr:Nat->K->Prop)(val:Nat->K->V)(base:K->V):Nat->K->V
 | 0,k=>base k
 | i+1,k=>if S i/\wr i k then val (i+1) k else ov S wr val base i k
variable {S S':Nat->Prop}{wr:Nat->K->Prop}{val:Nat->K->V}{base:K->V}{k:K}
theorem JL {n:Nat}(h:∀j,j<n->wr j k->(S j↔S' j)):ov S wr val base n k=ov S' wr val base n k:=by
 induction n with
 | zero=>rfl
 | succ n ih =>
  simp only[ov];rw[ih λj hj=>h j (by omega)]
  by_cases hw:wr n k
  ·have hS:=h n (by omega) hw
   by_cases hs:S n
   ·rw[if_pos ⟨hs,hw⟩,if_pos ⟨hS.1 hs,hw⟩]
   ·rw[if_neg (λhh=>hs hh.1),if_neg (λhh=>hs (hS.2 hh.1))]
  ·rw[if_neg (λhh=>hw hh.2),if_neg (λhh=>hw hh.2)]
theorem y5 {n m:Nat}(hm:m<=n)(h:∀j,m<=j->j<n->S j->¬wr j k):ov S wr val base n k=ov S wr val base m k:=by
 induction n with
 | zero=>have:m=0:=by omega
         subst this;rfl
 | succ n ih =>
  by_cases hmn:m=n+1
  ·subst hmn;rfl
  ·simp only[ov];rw[if_neg (λhh=>h n (by omega) (by omega) hh.1 hh.2)];exact ih (by omega) λj h1 h2=>h j h1 (by omega)
theorem JJ {n i:Nat}(hi:i<n)(hw:wr i k)(h:∀j,i<j->j<n->S j->¬wr j k):ov (λj=>S j\/j=i) wr val base n k=val (i+1) k:=by
 rw[y5 (m:=i+1) (by omega) (λj h1 h2 h3=>by
  rcases h3 with h3 | h3
  ·exact h j (by omega) h2 h3
  ·omega)]
 simp[ov,hw]
theorem BZ {n i:Nat}(hw:¬wr i k):ov (λj=>S j\/j=i) wr val base n k=ov S wr val base n k:=by
 refine JL λj _ hj=>?_;constructor
 ·rintro (h | h)
  ·exact h
  ·subst h;exact absurd hj hw
 ·exact .inl
theorem JK {n i:Nat}(hi:i<=n)(keep:∀j,j<n->¬wr j k->val (j+1) k=val j k)(h:∀j,j<n->wr j k->(S j↔j<i)) :
  ((∃j,j<i/\wr j k)/\ov S wr val base n k=val i k)\/((∀j,j<i->¬wr j k)/\ov S wr val base n k=base k/\val i k=val 0 k):=by
 rw[y5 hi (λj h1 h2 h3 h4=>by have:=(h j h2 h4).1 h3;omega)];have key:∀m,m<=i->((∃j,j<m/\wr j k)/\ov S wr val base m k=val m k)\/((∀j,j<m->¬wr j k)/\ov S wr val base m k=base k/\val m k=val 0 k):=by
  intro m
  induction m with
  | zero=>intro _;exact .inr ⟨λj hj=>absurd hj (Nat.not_lt_zero j),rfl,rfl⟩
  | succ m ih =>
   intro hm
   by_cases hw:wr m k
   ·left;refine ⟨⟨m,by omega,hw⟩,?_⟩;simp only[ov];rw[if_pos ⟨(h m (by omega) hw).2 (by omega),hw⟩]
   ·simp only[ov];rw[if_neg (λhh=>hw hh.2)];rcases ih (by omega) with ⟨⟨j,h1,h2⟩,h3⟩ | ⟨h1,h2,h3⟩
    ·left;exact ⟨⟨j,by omega,h2⟩,by rw[h3,keep m (by omega) hw]⟩
    ·right;refine ⟨λj hj=>?_,h2,by rw[keep m (by omega) hw,h3]⟩
     by_cases hjm:j=m
     ·subst hjm;exact hw
     ·exact h1 j (by omega)
 exact key i (Nat.le_refl _)
end
theorem wi (es:List Edge)(acc:List Nat):∀(m i:Nat),
  (es.foldl (λm e=>au (Region.binds .any e) (m ||| 2 ^ e.on ||| acc.getD e.on 0) m) m).testBit i=true ->
  m.testBit i=true\/∃e∈es,Region.binds .any e=true/\(e.on=i\/(acc.getD e.on 0).testBit i=true):=by
 induction es with
 | nil=>intro m i h;exact .inl h
 | cons e es ih =>
  intro m i h;simp only[List.foldl_cons] at h;rcases ih _ i h with h | ⟨e',h1,h2,h3⟩
  ·rw[aa] at h
   split at h
   ·rename_i hb;simp only[Nat.testBit_or,Bool.or_eq_true] at h;rcases h with (h | h) | h
    ·exact .inl h
    ·right;refine ⟨e,List.mem_cons_self,hb,.inl ?_⟩;rw[Nat.testBit_two_pow] at h;simpa using h
    ·exact .inr ⟨e,List.mem_cons_self,hb,.inr h⟩
   ·exact .inl h
  ·exact .inr ⟨e',List.mem_cons_of_mem _ h1,h2,h3⟩
theorem za {S:Nat->Prop}{all:List Oper}(hS:∀j o,all[j]?=some o->S j->∀e∈o.after.toList,Region.binds .any e=true->S e.on) :
  ∀(ops:List Oper) (acc:List Nat) (pre:List Oper),all=pre++ops->pre.length=acc.length->(∀j i,(acc.getD j 0).testBit i=true->S j->S i) ->
   ∀j i,((bi ops acc).getD j 0).testBit i=true->S j->S i:=by
 intro ops
 induction ops with
 | nil=>intro acc pre _ _ h;exact h
 | cons o rest ih =>
  intro acc pre hall hlen h;simp only[bi];refine ih _ (pre++[o]) (by simp[hall]) (by simp[hlen]) λj i hj hSj=>?_
  by_cases hlt:j<acc.length
  ·refine h j i ?_ hSj;rw[List.getD_eq_getElem?_getD,List.getElem?_append_left hlt] at hj;rw[List.getD_eq_getElem?_getD];exact hj
  ·by_cases hje:j=acc.length
   ·subst hje;rw[List.getD_eq_getElem?_getD,List.getElem?_append_right (Nat.le_refl _)] at hj;simp only[Nat.sub_self,List.getElem?_cons_zero,Option.getD_some] at hj;have ho:all[acc.length]?=some o:=by rw[hall,<-hlen];simp
    rcases wi _ acc _ _ hj with h0 | ⟨e,h1,h2,h3⟩
    ·simp at h0
    ·have hSe:=hS _ o ho hSj e h1 h2;rcases h3 with h3 | h3
     ·rw[<-h3];exact hSe
     ·exact h _ _ h3 hSe
   ·rw[List.getD_eq_getElem?_getD,List.getElem?_eq_none (by simp;omega)] at hj;simp at hj
theorem uW {α:Type}{f:Nat->α->Nat->α->Bool}{i:Nat}{x:α}:∀{l:List α} {j0:Nat},eD f i x j0 l=true->∀(j:Nat) y,l[j]?=some y->f i x (j0+j) y=true:=by
 intro l
 induction l with
 | nil=>intro j0 _ j y h;simp at h
 | cons a l ih =>
  intro j0 h j y hy;simp only[eD,Bool.and_eq_true] at h;cases j with
  | zero=>simp at hy;subst hy;exact h.1
  | succ j =>
   have:=ih h.2 j y (by simpa using hy);rw[show j0+(j+1)=j0+1+j by omega];exact this
theorem tZ {α:Type}{f:Nat->α->Nat->α->Bool}:∀{l:List α} {i0:Nat},iT f i0 l=true->∀(i j:Nat) x y,i<j->l[i]?=some x->l[j]?=some y->f (i0+i) x (i0+j) y=true:=by
 intro l
 induction l with
 | nil=>intro i0 _ i j x y _ h;simp at h
 | cons a l ih =>
  intro i0 h i j x y hij hx hy;simp only[iT,Bool.and_eq_true] at h;cases j with
  | zero=>omega
  | succ j =>
   cases i with
   | zero =>
    simp at hx;subst hx;have:=uW h.1 j y (by simpa using hy);rw[show i0+(j+1)=i0+1+j by omega];simpa using this
   | succ i =>
    have:=ih h.2 i j x y (by omega) (by simpa using hx) (by simpa using hy);rw[show i0+(i+1)=i0+1+i by omega,show i0+(j+1)=i0+1+j by omega];exact this
theorem zH:∀{l:List Oper} {i0:Nat},nA i0 l=true->∀(i:Nat) o,l[i]?=some o->∀e∈o.after.toList,Region.binds .any e=true->e.on<i0+i:=by
 intro l
 induction l with
 | nil=>intro i0 _ i o h;simp at h
 | cons a l ih =>
  intro i0 h i o ho e he hb;simp only[nA,Bool.and_eq_true] at h;cases i with
  | zero =>
   simp at ho;subst ho;have:=List.all_eq_true.1 h.1 e he;simp only[hb,Bool.not_true,Bool.false_or,Nat.blt_eq] at this;simpa using this
  | succ i =>
   have:=ih h.2 i o (by simpa using ho) e he hb;omega
theorem yG {pm:List Nat}:∀{l:List Oper} {i0:Nat},lA pm i0 l=true->∀(i:Nat) o,l[i]?=some o->∀j b,o.guard=some (j,b)->(pm.getD (i0+i) 0).testBit j=true:=by
 intro l
 induction l with
 | nil=>intro i0 _ i o h;simp at h
 | cons a l ih =>
  intro i0 h i o ho j b hg;simp only[lA,Bool.and_eq_true] at h;cases i with
  | zero =>
   simp at ho;subst ho;have:=h.1;simp only[hg] at this;simpa using this
  | succ i =>
   have:=ih h.2 i o (by simpa using ho) j b hg;rw[show i0+(i+1)=i0+1+i by omega];exact this
def cnt (p:Nat->Bool):Nat->Nat
 | 0=>0
 | n+1=>cnt p n+(if p n then 1 else 0)
theorem Ir {p:Nat->Bool}:∀{n:Nat},cnt p n=0->∀i,i<n->p i=false:=by
 intro n
 induction n with
 | zero=>intro _ i hi;omega
 | succ n ih =>
  intro h i hi;simp only[cnt] at h
  by_cases hin:i=n
  ·subst hin;cases hp:p i
   ·rfl
   ·simp[hp] at h
  ·exact ih (by omega) i (by omega)
theorem Nf {p q:Nat->Bool}(h:∀i,q i=true->p i=true):∀{n i:Nat},i<n->p i=true->q i=false->cnt q n<cnt p n:=by
 have hle:∀n,cnt q n<=cnt p n:=by
  intro n
  induction n with
  | zero=>exact Nat.le_refl _
  | succ n ih =>
   simp only[cnt];have:=h n;cases hq:q n
   ·cases p n<;>simp<;>omega
   ·simp[this hq];omega
 intro n
 induction n with
 | zero=>intro i hi;omega
 | succ n ih =>
  intro i hi hp hq;simp only[cnt]
  by_cases hin:i=n
  ·subst hin;simp[hp,hq];have:=hle i;omega
  ·have:=ih (by omega) hp hq;have h2:=h n;cases hq':q n
   ·cases p n<;>simp<;>omega
   ·simp[h2 hq'];omega
end Hx
end
section
namespace Hx
open Go
section
variable {C:Cfg}{t t':T}{g:G}{ih:IH}
theorem Ep {x:Operand}{s:Stg (T->AV)}(h:aM C x=some s)(hx:∀n,x=.tmp n->t.get AV.undef n=t'.get AV.undef n):s.run t=s.run t':=by
 cases x with
 | tmp n=>simp[aM] at h;subst h;simpa using hx n rfl
 | const v =>
  simp only[aM] at h
  split at h
  ·injection h with h;subst h;rfl
  ·cases h
 | global gl =>
  simp only[aM] at h
  split at h
  ·injection h with h;subst h;rfl
  ·cases h
 | func f=>simp[aM] at h;subst h;rfl
def Aj (C:Cfg)(t t':T)(xs:List Operand):Prop:=∀x∈xs,∀s,aM C x=some s->s.run t=s.run t'
theorem cj:∀{xs:List Operand} {vs:Stg (T->List AV)},bC C xs=some vs->Aj C t t' xs->vs.run t=vs.run t':=by
 intro xs
 induction xs with
 | nil=>intro vs h _;simp[bC] at h;subst h;rfl
 | cons x xs ih =>
  intro vs h hx;simp only[bC] at h
  split at h
  ·rename_i a as h1 h2;injection h with h;subst h;simp only[hx x List.mem_cons_self a h1,ih h2 λy hy=>hx y (List.mem_cons_of_mem _ hy)]
  ·cases h
variable {op:Op}{f:Stg SFn}
theorem xS {b:Builtin}{argTypes:Array TypeId}{args:List Operand}(h:cO C b argTypes args=some f)(hx:Aj C t t' args):f.run t g=f.run t' g:=by
 unfold cO at h
 split at h
 ·split at h
  ·rename_i s _ hs;injection h with h;subst h;simp only[hx _ (by simp) _ hs]
  ·cases h
 ·split at h
  ·rename_i sa sx _ _ ha hb;have e1:=hx _ (by simp) _ ha;have e2:=hx _ (by simp) _ hb
   repeat' (first | split at h | (rw[aa] at h;split at h))
   all_goals first | (cases h;done) | (injection h with h;subst h;simp only[e1,e2])
  ·cases h
 ·split at h
  ·rename_i sa sx _ ha hb;have e1:=hx _ (by simp) _ ha;have e2:=hx _ (by simp) _ hb
   repeat' (first | split at h)
   all_goals first | (cases h;done) | (injection h with h;subst h;simp only[e1,e2])
  ·cases h
 ·split at h
  ·rename_i s _ hs;have e1:=hx _ (by simp) _ hs
   repeat' (first | split at h)
   all_goals first | (cases h;done) | (injection h with h;subst h;simp only[e1])
  ·cases h
 ·split at h
  ·rename_i s _ hs;have e1:=hx _ (by simp) _ hs
   repeat' (first | split at h | (rw[aa] at h;split at h))
   all_goals first | (cases h;done) | (injection h with h;subst h;simp only[e1])
  ·cases h
 ·split at h
  ·rename_i sa sx ha hb;injection h with h;subst h;simp only[hx _ (by simp) _ ha,hx _ (by simp) _ hb]
  ·cases h
 ·split at h
  ·rename_i sa sx ha hb;injection h with h;subst h;simp only[hx _ (by simp) _ ha,hx _ (by simp) _ hb]
  ·cases h
 ·cases h
theorem Eq (h:bS C op=some f)(hx:Aj C t t' op.operands.toList):f.run t g=f.run t' g:=by
 cases op<;>simp only[bS] at h<;>first | (cases h;done) | skip
 case call c =>
  obtain ⟨callee,args,argTypes⟩:=c;cases callee<;>first | (cases h;done) | skip
  dsimp only at h;exact xS h λx hm=>hx x (by simpa [Op.operands,Call.operands] using hm)
 case move x =>
  split at h
  ·rename_i s hs;injection h with h;subst h;simp only[hx _ (by simp[Op.operands]) _ hs]
  ·cases h
 case assign x =>
  split at h
  ·rename_i s hs;injection h with h;subst h;simp only[hx _ (by simp[Op.operands]) _ hs]
  ·cases h
 case pick c x y =>
  split at h
  ·rename_i sc sx sy hc h1 h2;injection h with h;subst h;simp only[hx _ (by simp[Op.operands]) _ hc,hx _ (by simp[Op.operands]) _ h1,hx _ (by simp[Op.operands]) _ h2]
  ·cases h
 case alloc ty =>
  split at h
  ·injection h with h;subst h;rfl
  ·cases h
 case box ty x =>
  split at h
  ·rename_i s hs;injection h with h;subst h;simp only[Ig,hx _ (by simp[Op.operands]) _ hs]
  ·cases h
 case load ty x =>
  split at h
  ·rename_i s ag n hs hag hn;injection h with h;subst h;simp only[lC,hx _ (by simp[Op.operands]) _ hs]
  ·cases h
 case store ty x y =>
  split at h
  ·rename_i s u n hs hu hn;injection h with h;subst h;simp only[m_,hx _ (by simp[Op.operands]) _ hs,hx _ (by simp[Op.operands]) _ hu]
  ·cases h
 case binOp op ty x y p =>
  split at h
  ·rename_i s u hs hu;injection h with h;subst h;simp only[hx _ (by simp[Op.operands]) _ hs,hx _ (by simp[Op.operands]) _ hu]
  ·cases h
 case unOp op ty x =>
  split at h
  ·rename_i s hs;injection h with h;subst h;simp only[hx _ (by simp[Op.operands]) _ hs]
  ·cases h
 case convert src dst x =>
  split at h
  ·rename_i s sd k hs hsrc hk;injection h with h;subst h;simp only[hx _ (by simp[Op.operands]) _ hs]
  ·cases h
 case nilCheck x =>
  split at h
  ·rename_i s hs;injection h with h;subst h;simp only[hx _ (by simp[Op.operands]) _ hs]
  ·cases h
 case makeInterface ty x =>
  split at h
  ·cases h
  ·rename_i s d hne hs hu;injection h with h;subst h;simp only[hx _ (by simp[Op.operands]) _ hs]
  ·cases h
 case makeSlice ty l c =>
  split at h
  ·rename_i e sl sc he hl hc
   split at h
   ·rw[aa] at h
    split at h
    ·injection h with h;subst h;simp only[fK,hx _ (by simp[Op.operands]) _ hl,hx _ (by simp[Op.operands]) _ hc]
    ·cases h
   ·cases h
  ·cases h
 case fieldAddr ty x fi =>
  split at h
  ·rename_i s fo ft hs hfi
   split at h
   ·injection h with h;subst h;simp only[iB,hx _ (by simp[Op.operands]) _ hs]
   ·cases h
  ·cases h
 case field ty x fi =>
  split at h
  ·rename_i s fo ft hs hfi
   split at h
   ·injection h with h;subst h;simp only[hx _ (by simp[Op.operands]) _ hs]
   ·cases h
  ·cases h
 case indexAddr ty x ix =>
  split at h
  ·rename_i s i hs hi
   split at h
   ·split at h
    ·injection h with h;subst h;simp only[fe,hx _ (by simp[Op.operands]) _ hs,hx _ (by simp[Op.operands]) _ hi]
    ·cases h
   ·split at h
    ·injection h with h;subst h;simp only[lB,hx _ (by simp[Op.operands]) _ hs,hx _ (by simp[Op.operands]) _ hi]
    ·cases h
   ·cases h
  ·cases h
 case index ty x ix =>
  split at h
  ·rename_i s i hs hi
   split at h
   ·split at h
    ·injection h with h;subst h;simp only[tF,hx _ (by simp[Op.operands]) _ hs,hx _ (by simp[Op.operands]) _ hi]
    ·cases h
   ·injection h with h;subst h;simp only[oe,hx _ (by simp[Op.operands]) _ hs,hx _ (by simp[Op.operands]) _ hi]
   ·cases h
  ·cases h
 case lookup ty x k ok =>
  split at h
  ·rename_i m kk kt et hm hk hu
   split at h
   ·injection h with h;subst h;simp only[cZ,hx _ (by simp[Op.operands]) _ hm,hx _ (by simp[Op.operands]) _ hk]
   ·cases h
  ·cases h
 case mapUpdate ty m k x =>
  split at h
  ·rename_i sm sk sx kt et hm hk hx' hu;injection h with h;subst h;simp only[el,hx _ (by simp[Op.operands]) _ hm,hx _ (by simp[Op.operands]) _ hk,hx _ (by simp[Op.operands]) _ hx']
  ·cases h
 case insert ty m k x =>
  split at h
  ·rename_i sm sk sx kt et hm hk hx' hu;injection h with h;subst h;simp only[el,hx _ (by simp[Op.operands]) _ hm,hx _ (by simp[Op.operands]) _ hk,hx _ (by simp[Op.operands]) _ hx']
  ·cases h
 case mapEntry ty m k =>
  split at h
  ·rename_i sm sk kt et hm hk hu
   split at h
   ·injection h with h;subst h;simp only[eK,hx _ (by simp[Op.operands]) _ hm,hx _ (by simp[Op.operands]) _ hk]
   ·cases h
  ·cases h
 case entryStore ty m st x =>
  split at h
  ·rename_i sm ss sx hm hs hx';injection h with h;subst h;simp only[fR,hx _ (by simp[Op.operands]) _ hm,hx _ (by simp[Op.operands]) _ hs,hx _ (by simp[Op.operands]) _ hx']
  ·cases h
 case extract x i =>
  split at h
  ·rename_i s hs;injection h with h;subst h;simp only[hx _ (by simp[Op.operands]) _ hs]
  ·cases h
 case makeMap ty r =>
  cases r with
  | some r=>cases h
  | none =>
   dsimp only at h
   split at h
   ·injection h with h;subst h;rfl
   ·cases h
 case makeFunc fn fi ca =>
  cases fn with
  | func fx =>
   dsimp only at h
   split at h
   ·rename_i sa sc ha hc;injection h with h;subst h;have e1:=cj (t:=t) (t':=t') ha λx hm=>hx x (by simp[Op.operands] at hm ⊢;exact .inl hm);have e2:=cj (t:=t) (t':=t') hc λx hm=>hx x (by simp[Op.operands] at hm ⊢;exact .inr hm);simp only[e1,e2]
   ·cases h
  | _=>cases h
 case buildSlice ty len parts =>
  split at h
  ·rename_i e vs he hvs;have e1:=cj (t:=t) (t':=t') hvs λx hm=>hx x (by simpa [Op.operands] using hm)
   split at h
   ·rw[aa] at h
    split at h
    ·injection h with h;subst h;simp only[fQ,e1]
    ·cases h
   ·cases h
  ·cases h
 case build ty parts =>
  split at h
  ·rename_i zero vs hz hvs;have e1:=cj (t:=t) (t':=t') hvs λx hm=>hx x (by simpa [Op.operands] using hm)
   split at h
   ·split at h
    ·split at h
     ·injection h with h;subst h;simp only[mA,e1]
     ·cases h
    ·cases h
   ·split at h
    ·injection h with h;subst h;simp only[mA,e1]
    ·cases h
   ·cases h
  ·cases h
 case slice ty x lo hi mx =>
  have optR:∀{y:Option Operand} {s:Stg (T->List AV)},(∀z,y=some z->z∈(Op.slice ty x lo hi mx).operands.toList)->bC C y.toList=some s->s.run t=s.run t':=by
   intro y s hy hs;refine cj hs λz hm=>hx z (hy z ?_);cases y with
   | none=>simp at hm
   | some q=>simp at hm;rw[hm]
  cases mx with
  | none =>
   dsimp only at h
   split at h
   ·rename_i e sx sl sh hu h1 h2 h3
    split at h
    ·injection h with h;subst h;simp only[hx _ (by simp[Op.operands]) _ h1,optR (by rintro z rfl;simp[Op.operands]) h2,optR (by rintro z rfl;simp[Op.operands]) h3]
    ·cases h
   ·rename_i n e sx sl sh hu h1 h2 h3
    split at h
    ·injection h with h;subst h;simp only[gf,hx _ (by simp[Op.operands]) _ h1,optR (by rintro z rfl;simp[Op.operands]) h2,optR (by rintro z rfl;simp[Op.operands]) h3]
    ·cases h
   ·cases h
  | some mx =>
   cases hi with
   | none=>cases h
   | some hi =>
    dsimp only at h
    split at h
    ·rename_i e sx sl sh sm he h1 h2 h3 h4
     split at h
     ·injection h with h;subst h;simp only[hx _ (by simp[Op.operands]) _ h1,optR (by rintro z rfl;simp[Op.operands]) h2,hx _ (by simp[Op.operands]) _ h3,hx _ (by simp[Op.operands]) _ h4]
     ·cases h
    ·cases h
theorem Em {d:Nat}{rd:Option Nat}(hx:Aj C t t' op.operands.toList):(cy C op).run ih d rd t g=(cy C op).run ih d rd t' g:=by
 unfold cy
 split
 rotate_left
 ·rfl
 rename_i f h;unfold cOp at h
 split at h
 ·rename_i fx args at2
  split at h
  ·rename_i vs hvs;have e1:=cj (t:=t) (t':=t') hvs λx hm=>hx x (by simp[Op.operands,Call.operands] at hm ⊢;exact .inr hm)
   repeat' (first | split at h | (rw[aa] at h;split at h))
   all_goals (injection h with h;subst h;simp only[e1])
  ·cases h
 ·rename_i fo args at2 hnf
  split at h
  ·rename_i fv vs hfv hvs;have e1:=cj (t:=t) (t':=t') hvs λx hm=>hx x (by simp[Op.operands,Call.operands] at hm ⊢;exact .inr hm);have e2:=hx fo (by simp[Op.operands,Call.operands]) _ hfv;injection h with h;subst h;simp only[e1,e2]
  ·cases h
 ·injection h with h;subst h;rfl
 ·rename_i fo args at2
  split at h
  ·rename_i fv vs hfv hvs;have e1:=cj (t:=t) (t':=t') hvs λx hm=>hx x (by simp[Op.operands,Call.operands] at hm ⊢;exact .inr hm);have e2:=hx fo (by simp[Op.operands,Call.operands]) _ hfv;injection h with h;subst h;simp only[e1,e2]
  ·cases h
 ·split at h
  ·rename_i s hs;injection h with h;subst h;exact Eq hs hx
  ·cases h
theorem Cs {g':G}(hh:g.h=g'.h)(hx:Aj C t t' op.operands.toList):(aI C op).run t g=(aI C op).run t' g':=by
 have one:∀{x:Operand} {F:AV->Looks},x∈op.operands.toList ->
   (match aM C x with | some a=>(⟨λt _=>F (a.run t)⟩:Stg (T->G->Looks)) | none=>⟨λ_ _=>cC⟩).run t g =
   (match aM C x with | some a=>(⟨λt _=>F (a.run t)⟩:Stg (T->G->Looks)) | none=>⟨λ_ _=>cC⟩).run t' g':=by
  intro x F hm;cases hs:aM C x with
  | none=>rfl
  | some s=>simp only[hx x hm s hs]
 cases op<;>first | rfl | skip
 case load ty x=>exact one (F:=λv=>ap (ak v)) (by simp[Op.operands])
 case store ty x y=>exact one (F:=λv=>ap (ak v)) (by simp[Op.operands])
 case slice ty x lo hi mx=>exact one (F:=λv=>ap (ak v)) (by simp[Op.operands])
 case mapUpdate ty x k y=>exact one (F:=λv=>ap (ak v)) (by simp[Op.operands])
 case insert ty x k y=>exact one (F:=λv=>ap (ak v)) (by simp[Op.operands])
 case entryStore ty x k y=>exact one (F:=λv=>ap (ak v)) (by simp[Op.operands])
 case mapEntry ty x k=>exact one (F:=λv=>⟨ak v,[],(ak v).map (·,ty),false⟩) (by simp[Op.operands])
 case lookup ty x k ok =>
  cases ok
  ·exact one (F:=λv=>⟨[],(ak v).map (·,ty),[],false⟩) (by simp[Op.operands])
  ·exact one (F:=λv=>ap (ak v)) (by simp[Op.operands])
 case indexAddr ty x ix =>
  simp only[aI]
  split
  ·rename_i e s hu hs;simp only[hx x (by simp[Op.operands]) s hs]
  ·rfl
 case call c =>
  obtain ⟨callee,args,argTypes⟩:=c;cases callee with
  | builtin b =>
   simp only[aI]
   split
   ·rename_i vs hvs;simp only[cj hvs λx hm=>hx x (by simpa [Op.operands,Call.operands] using hm)]
   ·rfl
  | value fo =>
   simp only[aI]
   split
   ·rename_i fv vs hfv hvs;simp only[cj hvs λx hm=>hx x (by simp[Op.operands,Call.operands] at hm ⊢;exact .inr hm),hx fo (by simp[Op.operands,Call.operands]) _ hfv,hh]
   ·rfl
  | invoke r m=>rfl
end
end Hx
end
section
namespace Hx
open Go
section
variable {C:Cfg}{A:Nat->Nat->Prop}{bd:Nat}{w w':World}{γ γ':Gm}{hg:Nat->AObj}{nx:Nat}
variable {t:T}{g:G}{ih:IH}
theorem TR.put {nt:Nat}{a:Act}{dst:Option Tmp}{out:Stg (T->AV->T)}{x:AV}{v:Value}(ho:oq nt dst=some out)(ht:TR w γ A bd nt t a.tmps)(hv:RV w γ A bd x v) :
  TR w γ A bd nt (out.run t x) (a.put dst v).tmps:=by
 cases dst with
 | none=>simp[oq] at ho;subst ho;exact ht
 | some d =>
  simp only[oq,aa] at ho
  split at ho
  ·rename_i hd;rw[Nat.blt_eq] at hd;injection ho with ho;subst ho;refine ⟨by simp[Act.put,ht.1],λs=>?_⟩;rw[sp_get]
   by_cases hs:s=d
   ·subst hs;rw[if_pos rfl];have:s<a.tmps.size:=by rw[ht.1];exact hd
    simpa [Act.put,Array.getD,this] using hv
   ·rw[if_neg hs];have:=ht.2 s;simp only[Act.put,Array.getD_eq_getD_getElem?] at this ⊢;rw[Array.getElem?_setIfInBounds_ne (Ne.symm hs)];exact this
  ·cases ho
theorem jX {ops:Array Oper}{o:Oper}{q:Stg (T->Option Bool)}{bv:Bool}{nt:Nat}{tmps:Array Value}(hq:gq ops.toList o.guard=some q)(ht:TR w γ A bd nt t tmps)
  (h:q.run t=some bv):Region.wanted o (yielded ops tmps)=bv:=by
 unfold Region.wanted;cases hg:o.guard with
 | none =>
  rw[hg] at hq;simp[gq] at hq;subst hq;injection h with h
 | some p =>
  obtain ⟨j,want⟩:=p;rw[hg] at hq;simp only[gq] at hq
  split at hq
  ·rename_i oj hoj
   split at hq
   ·rename_i d hd;injection hq with hq;subst hq;have hoj':ops[j]?=some oj:=by simpa using hoj
    dsimp only at h;rw[gp_run] at h;have hrv:=ht.2 d;simp only[yielded,hoj',Option.bind_some,hd];generalize t.get AV.undef d=y at h hrv
    split at h
    ·rename_i b;injection h with h;subst h;have hb:tmps[d]?=some (.bool b):=by
      cases hrv':tmps[d]? with
      | none=>simp[Array.getD_eq_getD_getElem?,hrv',undef] at hrv;cases hrv
      | some v =>
       simp only[Array.getD_eq_getD_getElem?,hrv',Option.getD_some] at hrv;cases hrv;rfl
     simp only[hb];cases want<;>cases b<;>rfl
    ·injection h with h;subst h;cases hrv':tmps[d]? with
     | none=>rfl
     | some v =>
      simp only[Array.getD_eq_getD_getElem?,hrv',Option.getD_some] at hrv;cases hrv;rfl
    ·cases h
   ·cases hq
  ·cases hq
theorem Bi {all:List Oper}{gd:Option (Nat×Bool)}{q:Stg (T->Option Bool)}{t t':T}(hq:gq all gd=some q)
  (h:∀j b oj d,gd=some (j,b)->all[j]?=some oj->oj.dst=some d->t.get AV.undef d=t'.get AV.undef d):q.run t=q.run t':=by
 cases gd with
 | none=>simp[gq] at hq;subst hq;rfl
 | some p =>
  obtain ⟨j,want⟩:=p;simp only[gq] at hq
  split at hq
  ·rename_i oj hoj
   split at hq
   ·rename_i d hd;injection hq with hq;subst hq;dsimp only;rw[gp_run,gp_run,h j want oj d rfl hoj hd]
   ·cases hq
  ·cases hq
variable {b:Frame}{a:Act}{ops:Array Oper}{i:Nat}{rest:List Nat}{k:List Item}{cs:List Frame}{o:Oper}
theorem B7 {P:Program}{d:Deferred}(ho:ops[i]?=some o)(hw:Region.wanted o (yielded ops a.tmps)=true)(hro:b.roundOf=none)
  (hrun:(execOp a.eval o).run P w=.ok (.defer d) w) :
  step P (lone (b.atR a (.inRegion ops (i::rest)::k)) cs w)=.next (lone (b.atR ({ a with defers:=d::a.defers }.put o.dst undef) (.inRegion ops rest::k)) cs w):=by
 have hfin:=Frame.finish_atR b { a with defers:=d::a.defers } ops i rest k undef;rw[ho] at hfin;simp only[Option.bind_some] at hfin;refine step_lone_go ?_;rw[stepGR_op ho hw,hro,Oper.semAt_none,<-hfin];simp[stepG.apply,hrun,Frame.atR]
theorem rF {P:Program}(ho:ops[i]?=some o)(hw:Region.wanted o (yielded ops a.tmps)=false) :
  step P (lone (b.atR a (.inRegion ops (i::rest)::k)) cs w)=.next (lone (b.atR (a.put o.dst undef) (.inRegion ops rest::k)) cs w):=by
 have:=stepR_op_skip (P:=P) (b:=b) (a:=a) (k:=k) (cs:=cs) (w:=w) (ops:=ops) (i:=i) (rest:=rest) (by rw[ho];simpa using hw);rw[ho] at this;simpa using this
theorem FS (hr:Rel C A bd w γ hg nx){nt:Nat}{rd:Option Nat}{d:Nat}{df:List ADf}(ht:TR w γ A bd nt t a.tmps)(hrd:RdOk γ rd b)(hdf:DR w γ A bd df a.defers)
  {x:ADf} (h:(cy C o.op).run ih d rd t g=.dfr x) (hE:∀f e d args g y,C.ext f=some e->e d args g≠.dfr y) (ho:ops[i]?=some o) (hw:Region.wanted o (yielded ops a.tmps)=true) :
  ∃dd,DR w γ A bd (x::df) (dd::a.defers) /\
   step C.P (lone (b.atR a (.inRegion ops (i::rest)::k)) cs w)=.next (lone (b.atR ({ a with defers:=dd::a.defers }.put o.dst undef) (.inRegion ops rest::k)) cs w):=by
 have iso:∀f args,af ih d g f args≠.dfr x:=by
  intro f args;unfold af
  repeat' (first | split | rw[aa])
  all_goals (intro h;cases h)
 have orf:∀r,orF r≠.dfr x:=by intro r h;cases r<;>cases h
 have rnd:∀id args,cI ih d id args g≠.dfr x:=by
  intro id args;unfold cI
  repeat' split
  all_goals (intro h;cases h)
 unfold cy at h
 split at h
 rotate_left
 ·cases h
 rename_i f hcop;generalize hop:o.op=op at hcop;unfold cOp at hcop
 split at hcop
 ·rename_i fx args at2
  split at hcop
  ·split at hcop
   ·rename_i e he;injection hcop with hcop;subst hcop;exact absurd h (hE _ _ _ _ _ _ he)
   ·rw[aa] at hcop
    split at hcop
    ·injection hcop with hcop;subst hcop;exact absurd h (iso _ _)
    ·injection hcop with hcop;subst hcop;exact absurd h (orf _)
  ·cases hcop
 ·rename_i fo args at2 hnf
  split at hcop
  ·rename_i fv vs hfv hvs;injection hcop with hcop;subst hcop;dsimp only at h;unfold j7 at h
   split at h
   ·split at h
    ·rename_i e he;exact absurd h (hE _ _ _ _ _ _ he)
    ·rw[aa] at h
     split at h
     ·exact absurd h (iso _ _)
     ·exact absurd h (orf _)
   ·exact absurd h (rnd _ _)
   ·cases h
  ·cases hcop
 ·injection hcop with hcop;subst hcop;cases h
 ·rename_i fo args at2
  split at hcop
  ·rename_i fv vs hfv hvs;injection hcop with hcop;subst hcop;dsimp only at h;cases rd with
   | some _=>cases h
   | none =>
    dsimp only at h;have hf:=ax hfv ht hr;have hv:=fk ht hr hvs;generalize hfo:a.eval fo=vfo at hf;generalize fv.run t=y at h hf;cases hf with
    | clo _ fx xs ys vs1 us1 hl hl2 h1 h2 =>
     dsimp only at h;injection h with h;subst h;refine ⟨{ target:=.fn (.func fx) us1,args:=vs1++args.map a.eval },⟨⟨fx,ys,us1,rfl,rfl,RVs.ofArr hl2 h2,?_⟩,hdf⟩,B7 ho hw hrd ?_⟩
     ·have:=(RVs.ofArr hl h1).append hv;simpa using this
     ·simp only[execOp,hop,resolve,hfo,Deferred.ofValue,Sem.run_bind,Sem.run_pure,Result.andThen_ok]
    | _=>cases h
  ·cases hcop
 ·split at hcop
  ·rename_i s hs;injection hcop with hcop;subst hcop;have:=we (t:=t) (g:=g) hs;have h:s.run t g=.dfr x:=h;rw[h] at this;exact this.elim
  ·cases hcop
theorem Ik (hC:CfgOk C)(hi:IHOk C ih){nt:Nat}{rd:Option Nat}:∀(l:List Oper) (i:Nat) {t:T} {df:List ADf} {g:G} {e:Ex} {t':T} {df':List ADf} {g':G},
  ops.toList.drop i=l->(il C nt ops.toList l).run ih (bd+1) rd t df g=.ok e t' df' g'->WF g ->
  ∀{w γ hg nx a},Rel C A bd w γ hg nx->Ext g.h hg->Free γ g g'->TR w γ A bd nt t a.tmps->DR w γ A bd df a.defers->RdOk γ rd b->ni b.kind cs ->
   e=.norm/\∃a' w' γ' hg',Fin C A bd w γ hg nx g w' γ' hg' g'/\TR w' γ' A bd nt t' a'.tmps/\DR w' γ' A bd df' a'.defers /\
    Steps C.P (lone (b.atR a (.inRegion ops (List.range' i l.length)::k)) cs w) (lone (b.atR a' k) cs w'):=by
 intro l
 induction l with
 | nil =>
  intro i t df g e t' df' g' _ h _ w γ hg nx a hr hx hf ht hdf hrd hcalm;simp only[il] at h;injection h with h1 h2 h3 h4;subst h1;subst h2;subst h3;subst h4;exact ⟨rfl,a,w,γ,hg,Fin.refl hr,ht,hdf,.one stepR_region_end⟩
 | cons o rest ihl =>
  intro i t df g e t' df' g' hdrop h hwf w γ hg nx a hr hx hf ht hdf hrd hcalm;have ho:ops[i]?=some o:=by
   have:(ops.toList.drop i)[0]?=some o:=by rw[hdrop];rfl
   simpa [List.getElem?_drop] using this
  have hdrop':ops.toList.drop (i+1)=rest:=by rw[<-List.drop_drop,hdrop];rfl
  have hrange:List.range' i (o::rest).length=i::List.range' (i+1) rest.length:=by simp[List.range'_succ]
  rw[hrange];have exec:∀{out:Stg (T->AV->T)},oq nt o.dst=some out->Region.wanted o (yielded ops a.tmps)=true ->
    nf out.run ((il C nt ops.toList rest).run ih (bd+1) rd) t df g ((cy C o.op).run ih (bd+1) rd t g)=.ok e t' df' g' ->
    e=.norm/\∃a' w' γ' hg',Fin C A bd w γ hg nx g w' γ' hg' g'/\TR w' γ' A bd nt t' a'.tmps/\DR w' γ' A bd df' a'.defers /\
     Steps C.P (lone (b.atR a (.inRegion ops (i::List.range' (i+1) rest.length)::k)) cs w) (lone (b.atR a' k) cs w'):=by
   intro out hout hw h;have hm:=gt (op:=o.op) (d:=bd+1) (rd:=rd) (t:=t) hC.mon hi.mon hwf;generalize hres:(cy C o.op).run ih (bd+1) rd t g=r at h hm;have go:∀{x:AV} {g1:G},r≠.fail->(∀y,r≠.dfr y)->vOf r=x->gOf g r=g1->(il C nt ops.toList rest).run ih (bd+1) rd (out.run t x) df g1=.ok e t' df' g' ->
     e=.norm/\∃a' w' γ' hg',Fin C A bd w γ hg nx g w' γ' hg' g'/\TR w' γ' A bd nt t' a'.tmps/\DR w' γ' A bd df' a'.defers /\
     Steps C.P (lone (b.atR a (.inRegion ops (i::List.range' (i+1) rest.length)::k)) cs w) (lone (b.atR a' k) cs w'):=by
    intro x g1 hne hnd hx' hg1 h;subst hx';subst hg1;have w1:=hm.wf hwf;have m2:=xU hC.mon hi.mon h w1;obtain ⟨u,wa,γa,hga,f1,rv,st⟩:=BV (b:=b) (cs:=cs) (rest:=List.range' (i+1) rest.length) (k:=k) hC hi hr hwf ht hcalm hx.agr hres hne hnd (hf.le m2.nx) ho hw;obtain ⟨he,a',wb,γb,hgb,f2,tr,dr,st2⟩:=ihl (i+1) hdrop' h w1 (a:=a.put o.dst u) f1.rel (f1.ext hm hx) (f1.freed hr hm hf) ((ht.step f1.stp).put hout rv)
     (by have:=hdf.step f1.stp;cases hd:o.dst<;>simpa [Act.put,hd] using this) (hrd.step f1.stp) hcalm
    exact ⟨he,a',wb,γb,hgb,f1.trans f2 hm m2,tr,dr,Steps.trans st st2⟩
   cases r with
   | fail=>cases h
   | val x=>exact go (by simp) (by simp) rfl rfl h
   | upd x g1=>exact go (by simp) (by simp) rfl rfl h
   | dfr x =>
    obtain ⟨dd,hdr,st⟩:=FS (b:=b) (cs:=cs) (rest:=List.range' (i+1) rest.length) (k:=k) hr ht hrd hdf hres (λf e d args g y he hy=>by
     exact extNoDfr hC he hy) ho hw
    obtain ⟨he,a',wb,γb,hgb,f2,tr,dr,st2⟩:=ihl (i+1) hdrop' h hwf (a:={ a with defers:=dd::a.defers }.put o.dst undef) hr hx hf
     (ht.put (a:={ a with defers:=dd::a.defers }) hout b_)
     (by cases hd:o.dst<;>simpa [Act.put,hd] using hdr) hrd hcalm
    exact ⟨he,a',wb,γb,hgb,f2,tr,dr,.head st st2⟩
  simp only[il] at h
  split at h
  ·rename_i out hout
   split at h
   ·rename_i hgd;refine exec hout ?_ h;simp[Region.wanted,hgd]
   ·rename_i gd hgd
    split at h
    ·rename_i q hq;rw[<-hgd] at hq;dsimp only at h
     split at h
     ·rename_i hq';exact exec hout (jX hq ht hq') h
     ·rename_i hq';have hw:=jX hq ht hq';obtain ⟨he,a',wb,γb,hgb,f2,tr,dr,st2⟩:=ihl (i+1) hdrop' h hwf (a:=a.put o.dst undef) hr hx hf
       (ht.put hout b_) (by cases hd:o.dst<;>simpa [Act.put,hd] using hdf) hrd hcalm
      exact ⟨he,a',wb,γb,hgb,f2,tr,dr,.head (rF ho hw) st2⟩
     ·cases h
    ·cases h
  ·cases h where
 extNoDfr {f d:Nat} {e:Nat->List AV->G->OR} {args:List AV} {g:G} {y:ADf} (hC:CfgOk C) (he:C.ext f=some e) (hy:e d args g=.dfr y):False:=by exact (hC.noDfr f e he d args g y) hy
end
end Hx
end
section
namespace Hx
open Go
theorem sG {d:TypeDesc}{x y:AV}(hx:mX d x=true)(hy:mX d y=true):∃b,mC x y=some b:=by
 cases d<;>cases x<;>simp[mX] at hx<;>cases y<;>simp[mX] at hy
 ·exact ⟨_,rfl⟩
 ·rename_i k0 k1 n1 k2 n2;rw[om] at hx hy;simp only[decide_eq_true_eq] at hx hy;subst hx;subst hy;exact ⟨_,by simp[mC,om];rfl⟩
 ·exact ⟨_,rfl⟩
theorem wV:∀{ds:List TypeDesc} {xs ys:List AV},cY ds xs=true->cY ds ys=true->∃b,dy xs ys=some b:=by
 intro ds
 induction ds with
 | nil=>intro xs ys hx hy;cases xs<;>simp[cY] at hx;cases ys<;>simp[cY] at hy;exact ⟨_,rfl⟩
 | cons d ds ih =>
  intro xs ys hx hy;cases xs<;>simp[cY,aa] at hx;cases ys<;>simp[cY,aa] at hy;obtain ⟨b1,h1⟩:=sG hx.1 hy.1;obtain ⟨b2,h2⟩:=ih hx.2 hy.2;exact ⟨_,by simp only[dy,h1,h2];rfl⟩
theorem Jp {kk:KeyKind}{x y:AV}(hx:mj kk x=true)(hy:mj kk y=true):∃b,oh x y=some b:=by
 cases kk with
 | one d =>
  simp only[mj] at hx hy;obtain ⟨b,hb⟩:=sG hx hy;cases x<;>first | (cases d<;>simp[mX] at hx;done) | skip
  all_goals
   cases y<;>first | (cases d<;>simp[mX] at hy;done) | (exact ⟨b,by simpa [oh] using hb⟩) | skip
 | flat ds =>
  cases x<;>simp[mj] at hx;cases y<;>simp[mj] at hy;obtain ⟨b,hb⟩:=wV hx hy;exact ⟨b,by simpa [oh] using hb⟩
 | other=>cases x<;>simp[mj] at hx
theorem Ez {k k0 z:AV}:∀{es:List (AV×AV)} {r:Option AV},mg k es=some r->(∃b,oh k k0=some b) ->
  mg k (es++[(k0,z)])=some (match r with | some v=>some v | none=>if oh k k0=some true then some z else none):=by
 intro es
 induction es with
 | nil =>
  intro r h hk;simp only[mg] at h;injection h with h;subst h;obtain ⟨b,hb⟩:=hk;cases b<;>simp[mg,hb]
 | cons e es ih =>
  intro r h hk;obtain ⟨k',v'⟩:=e;simp only[mg] at h;simp only[List.cons_append,mg]
  split at h
  ·injection h with h;subst h;rfl
  ·exact ih h hk
  ·cases h
theorem C9 {kk:KeyKind}{z:AV}{m k:T->AV}{t:T}{g g':G}{id:Nat}{es:List (AV×AV)}{k0 v:AV}(h:cZ kk z false m k t g=.val v)(hm:m t=.hmap id)
  (hg:g.h.get id=.map es) (hg':g'.h.get id=.map (es++[(k0,z)])) (hk0:mj kk k0=true):cZ kk z false m k t g'=.val v:=by
 unfold cZ at h ⊢;rw[aa] at h ⊢
 split at h
 ·rename_i hk;rw[if_pos hk];simp only[hm,G.get_eq,hg,hg'] at h ⊢;cases hf:mg (k t) es with
  | none=>rw[hf] at h;cases h
  | some r =>
   rw[Ez hf (Jp hk hk0)];rw[hf] at h;cases r with
   | some v'=>exact h
   | none =>
    dsimp only at h ⊢
    by_cases hq:oh (k t) k0=some true
    ·rw[if_pos hq];exact h
    ·rw[if_neg hq];exact h
 ·cases h
theorem Oo {C:Cfg}{op:Op}{t:T}{g:G}(h:((aI C op).run t g).sr≠[]):∃ty x k a,op=.lookup ty x k false/\aM C x=some a /\
  (aI C op).run t g=⟨[],(ak (a.run t)).map (·,ty),[],false⟩:=by
 cases op<;>simp only[aI] at h ⊢<;>try (exact absurd rfl h)
 case lookup ty x k ok =>
  cases ok
  ·dsimp only at h ⊢
   split at h
   ·rename_i a ha;exact ⟨ty,x,k,a,rfl,ha,by simp[ha]⟩
   ·exact absurd rfl h
  ·dsimp only at h
   split at h<;>exact absurd rfl h
 case call c =>
  obtain ⟨callee,args,at'⟩:=c;cases callee<;>simp only at h
  ·split at h
   ·dsimp only at h
    split at h
    ·rw[aa] at h;split at h<;>exact absurd rfl h
    ·exact absurd rfl h
   ·exact absurd rfl h
  ·exact absurd rfl h
  ·split at h<;>exact absurd rfl h
 all_goals (split at h<;>exact absurd rfl h)
theorem Mg {C:Cfg}{op:Op}{t:T}{g:G}{p:Nat×Nat}(h:p∈((aI C op).run t g).soft):∃x k a,op=.mapEntry p.2 x k/\aM C x=some a/\p.1∈ak (a.run t):=by
 cases op<;>simp only[aI] at h<;>try (exact absurd h List.not_mem_nil)
 case mapEntry ty x k =>
  split at h
  ·rename_i a ha;dsimp only at h;obtain ⟨id,h1,h2⟩:=List.mem_map.1 h;subst h2;exact ⟨x,k,a,rfl,ha,h1⟩
  ·exact absurd h List.not_mem_nil
 case lookup ty x k ok =>
  cases ok<;>dsimp only at h<;>split at h<;>exact absurd h List.not_mem_nil
 case call c =>
  obtain ⟨callee,args,at'⟩:=c;cases callee<;>simp only at h
  ·split at h
   ·dsimp only at h
    split at h
    ·rw[aa] at h;split at h<;>exact absurd h List.not_mem_nil
    ·exact absurd h List.not_mem_nil
   ·exact absurd h List.not_mem_nil
  ·exact absurd h List.not_mem_nil
  ·split at h<;>exact absurd h List.not_mem_nil
 all_goals (split at h<;>exact absurd h List.not_mem_nil)
theorem Cu {C:Cfg}{ih:IH}{ty:TypeId}{x k:Operand}{ok:Bool}{d:Nat}{rd:Option Nat}{t:T}{g:G}{r:OR}(h:(cy C (.lookup ty x k ok)).run ih d rd t g=r)(hne:r≠.fail) :
  ∃a kk kt et z,aM C x=some a/\aM C k=some kk/\C.P.underlying ty=some (.map kt et)/\wM C.P et=some z /\
   (∀t g,(cy C (.lookup ty x k ok)).run ih d rd t g=cZ (eI C.P kt) z ok a.run kk.run t g)/\r=cZ (eI C.P kt) z ok a.run kk.run t g:=by
 unfold cy at h ⊢;simp only[cOp,bS] at h ⊢
 split at h
 ·rename_i f hf
  split at hf
  ·rename_i s hs;injection hf with hf;subst hf
   split at hs
   ·rename_i a kk kt et ha hk hu
    split at hs
    ·rename_i z hz;injection hs with hs;subst hs;refine ⟨a,kk,kt,et,z,ha,hk,hu,hz,λt g=>?_,h.symm⟩;simp only[ha]
    ·cases hs
   ·cases hs
  ·cases hf
 ·exact absurd h.symm hne
theorem zz {C:Cfg}{ih:IH}{ty:TypeId}{x k:Operand}{d:Nat}{rd:Option Nat}{t:T}{g:G}{r:OR}(h:(cy C (.mapEntry ty x k)).run ih d rd t g=r)(hne:r≠.fail) :
  ∃a kk kt et z,aM C x=some a/\aM C k=some kk/\C.P.underlying ty=some (.map kt et)/\wM C.P et=some z/\r=eK (eI C.P kt) z a.run kk.run t g:=by
 unfold cy at h;simp only[cOp,bS] at h
 split at h
 ·rename_i f hf
  split at hf
  ·rename_i s hs;injection hf with hf;subst hf
   split at hs
   ·rename_i a kk kt et ha hk hu
    split at hs
    ·rename_i z hz;injection hs with hs;subst hs;exact ⟨a,kk,kt,et,z,ha,hk,hu,hz,h.symm⟩
    ·cases hs
   ·cases hs
  ·cases hf
 ·exact absurd h.symm hne
theorem BJ {kk:KeyKind}{z:AV}{m k:T->AV}{t:T}{g:G}{v:AV}{g':G}(h:eK kk z m k t g=.upd v g') :
  ∃id es,m t=.hmap id/\g.h.get id=.map es/\g'=g.put id (.map (es++[(k t,z)]))/\mj kk (k t)=true:=by
 unfold eK at h;rw[aa] at h
 split at h
 ·rename_i hk
  split at h
  ·rename_i id hm
   split at h
   ·rename_i es hes
    split at h
    ·cases h
    ·injection h with h1 h2;subst h2;exact ⟨id,es,hm,by simpa using hes,rfl,hk⟩
    ·cases h
   ·cases h
  ·cases h
 ·cases h
theorem B5 {pm:List Nat}{i:Nat}{x:Foot}:∀{l:List Foot} {j0 j:Nat} {y:Foot},l[j]?=some y->(pm.getD (j0+j) 0).testBit i=false->meets y.wr (fst1 x.lk.sr)=true ->
  1<=dQ pm i x j0 l:=by
 intro l
 induction l with
 | nil=>intro j0 j y h;simp at h
 | cons a l ih =>
  intro j0 j y h h1 h2;cases j with
  | zero =>
   simp at h;subst h;simp only[dQ,aa];rw[if_neg]
   ·omega
   ·simp only[Nat.add_zero] at h1;rw[h1,h2];simp
  | succ j =>
   have:=ih (j0:=Nat.succ j0) (by simpa using h) (by rw[show Nat.succ j0+j=j0+(j+1) by omega];exact h1) h2;simp only[dQ,aa]
   split<;>omega
theorem Ag {pm:List Nat}{i:Nat}{x:Foot}:∀{l:List Foot} {j0 j j':Nat} {y y':Foot},j<j'->l[j]?=some y->l[j']?=some y'->(pm.getD (j0+j) 0).testBit i=false->(pm.getD (j0+j') 0).testBit i=false ->
  meets y.wr (fst1 x.lk.sr)=true->meets y'.wr (fst1 x.lk.sr)=true->2<=dQ pm i x j0 l:=by
 intro l
 induction l with
 | nil=>intro j0 j j' y y' _ h;simp at h
 | cons a l ih =>
  intro j0 j j' y y' hlt h h' h1 h1' h2 h2';cases j' with
  | zero=>omega
  | succ j' =>
   cases j with
   | zero =>
    simp at h;subst h;have:=B5 (pm:=pm) (i:=i) (x:=x) (j0:=Nat.succ j0) (j:=j') (by simpa using h') (by rw[show Nat.succ j0+j'=j0+(j'+1) by omega];exact h1') h2';simp only[dQ,aa];rw[if_neg]
    ·omega
    ·simp only[Nat.add_zero] at h1;rw[h1,h2];simp
   | succ j =>
    have:=ih (j0:=Nat.succ j0) (j:=j) (j':=j') (by omega) (by simpa using h) (by simpa using h') (by rw[show Nat.succ j0+j=j0+(j+1) by omega];exact h1) (by rw[show Nat.succ j0+j'=j0+(j'+1) by omega];exact h1') h2 h2';simp only[dQ,aa]
    split<;>omega
theorem Fv {b x:Bool}(h:au b x false=true):b=true/\x=true:=by
 cases b
 ·cases h
 ·exact ⟨rfl,h⟩
theorem B6 {pm:List Nat}:∀{l:List Foot} {i0:Nat},rD pm i0 l=true->∀(i j j':Nat) x y y',i<j->j<j'->l[i]?=some x->l[j]?=some y->l[j']?=some y'->x.lk.sr≠[] ->
  (pm.getD (i0+j) 0).testBit (i0+i)=false->(pm.getD (i0+j') 0).testBit (i0+i)=false->meets y.wr (fst1 x.lk.sr)=true->meets y'.wr (fst1 x.lk.sr)=true->False:=by
 intro l
 induction l with
 | nil=>intro i0 _ i j j' x y y' _ _ h;simp at h
 | cons a l ih =>
  intro i0 h i j j' x y y' hij hjj hx hy hy' hsr h1 h1' h2 h2';obtain ⟨hc,h⟩:=Fv h;cases j' with
  | zero=>omega
  | succ j' =>
   cases j with
   | zero=>omega
   | succ j =>
    cases i with
    | zero =>
     simp at hx;subst hx;have hc':Nat.ble (dQ pm i0 a (Nat.succ i0) l) 1=true:=by
      cases hsr':a.lk.sr with
      | nil=>exact absurd hsr' hsr
      | cons p r=>rw[hsr'] at hc;exact hc
     rw[Nat.ble_eq] at hc';have:=Ag (pm:=pm) (i:=i0) (x:=a) (j0:=Nat.succ i0) (j:=j) (j':=j') (by omega) (by simpa using hy) (by simpa using hy')
      (by rw[show Nat.succ i0+j=i0+(j+1) by omega];exact h1) (by rw[show Nat.succ i0+j'=i0+(j'+1) by omega];exact h1') h2 h2'
     omega
    | succ i =>
     refine ih h i j j' x y y' (by omega) (by omega) (by simpa using hx) (by simpa using hy) (by simpa using hy') hsr ?_ ?_ h2 h2'
     ·rw[show Nat.succ i0+j=i0+(j+1) by omega,show Nat.succ i0+i=i0+(i+1) by omega];exact h1
     ·rw[show Nat.succ i0+j'=i0+(j'+1) by omega,show Nat.succ i0+i=i0+(i+1) by omega];exact h1'
theorem dO {a b:List Nat}{x:Nat}(ha:x∈a)(hb:x∈b):meets a b=true:=by unfold meets;exact List.any_eq_true.2 ⟨x,ha,by simpa using hb⟩
theorem od {l:List (Nat×Nat)}{x:Nat}(h:x∈l.map (·.1)):x∈fst1 l:=h
theorem ER {p:Nat×Nat}:∀{l:List (Nat×Nat)},B0 p l=true->p∈l:=by
 intro l
 induction l with
 | nil=>intro h;cases h
 | cons q l ih =>
  intro h;simp only[B0,aa] at h
  split at h
  ·rename_i hc;simp only[Bool.and_eq_true] at hc;have h1:=aD hc.1;have h2:=aD hc.2;exact List.mem_cons.2 (.inl (Prod.ext h1 h2))
  ·exact List.mem_cons_of_mem _ (ih h)
end Hx
end
section
namespace Hx
open Go
def TraAt (C:Cfg)(ih:IH)(d:Nat)(rd:Option Nat)(nt:Nat)(ops:Array Oper)(q:Bool)(o:Oper)(t t':T)(g g':G)(f:Foot):Prop :=
 ∃out gd,oq nt o.dst=some out/\gq ops.toList o.guard=some gd /\
  ((gd.run t=some false/\t'=out.run t .undef/\g'=g/\f.wr=[]) \/
   (gd.run t=some true/\∃r,(cy C o.op).run ih d rd t (aH g [])=r/\r≠.fail/\(∀a,r≠.dfr a)/\t'=out.run t (vOf r)/\g'.h=(gOf (aH g []) r).h /\
    f.wr=(gOf (aH g []) r).lg/\(gOf (aH g []) r).nx<=g'.nx/\(q=false->f.lk=(aI C o.op).run t g/\(gOf (aH g []) r).nx<g'.nx)))
def gv (ops:Array Oper)(i:Nat):Option Tmp:=(ops[i]?).bind (·.dst)
structure Reg (C:Cfg) (ih:IH) (bd:Nat) (rd:Option Nat) (nt:Nat) (ops:Array Oper) (q:Bool) (T':Nat->T) (G':Nat->G) (F':Nat->Foot) (hg0:Nat->AObj):Prop where
 hC:CfgOk C
 hi:IHOk C ih
 tra:∀i o,ops[i]?=some o->TraAt C ih (bd+1) rd nt ops q o (T' i) (T' (i+1)) (G' i) (G' (i+1)) (F' i)
 wf0:WF (G' 0)
 ext0:Ext (G' 0).h hg0
 free0:∀id,(G' 0).nx<=id->id<=(G' ops.size).nx->hg0 id=.none
 apart:∀i j,i<j->j<ops.size->((bi ops.toList []).getD j 0).testBit i=true\/bU (F' i) (F' j)=true
 once:∀i j j',i<j->j<j'->j'<ops.size->(F' i).lk.sr≠[]->((bi ops.toList []).getD j 0).testBit i=false->((bi ops.toList []).getD j' 0).testBit i=false ->
  meets (F' j).wr (fst1 (F' i).lk.sr)=true->meets (F' j').wr (fst1 (F' i).lk.sr)=true->False
 slots:∀i j oi oj,i<j->ops[i]?=some oi->ops[j]?=some oj->((bi ops.toList []).getD j 0).testBit i=true\/iJ ops.toList oi oj=true
 guards:∀i o j b,ops[i]?=some o->o.guard=some (j,b)->((bi ops.toList []).getD i 0).testBit j=true
 quiet:q=true->∀i,i<ops.size->(F' i).wr=[]
section
variable {C:Cfg}{A:Nat->Nat->Prop}{bd:Nat}{ih:IH}{rd:Option Nat}{nt:Nat}{ops:Array Oper}{q:Bool}{T':Nat->T}{G':Nat->G}{F':Nat->Foot}{hg0:Nat->AObj}
theorem TraAt.facts (hC:CfgOk C)(hi:IHOk C ih){d:Nat}{o:Oper}{t t':T}{g g':G}{f:Foot}(h:TraAt C ih d rd nt ops q o t t' g g' f)(hwf:WF g) :
  WF g'/\g.nx<=g'.nx/\(∀id,id ∉ f.wr->g'.h.get id=g.h.get id)/\∀id∈f.wr,id<g'.nx/\(g.h.get id=.none->g.nx<=id):=by
 obtain ⟨out,gd,_,_,h⟩:=h;rcases h with ⟨_,_,rfl,hw⟩ | ⟨_,r,hr,hne,_,_,hh,hw,hnx,_⟩
 ·rw[hw];exact ⟨hwf,Nat.le_refl _,λ_ _=>rfl,λ_ h=>absurd h List.not_mem_nil⟩
 ·have hm:Mon (aH g []) (gOf (aH g []) r):=by rw[<-hr];exact gt hC.mon hi.mon hwf.setLog
  obtain ⟨n,a,b,c⟩:=hm.new;have e:(gOf (aH g []) r).lg=n:=by simpa using a
  have hnx0:g.nx<=(gOf (aH g []) r).nx:=by have:=hm.nx;simpa using this
  refine ⟨λid hid=>?_,Nat.le_trans hnx0 hnx,λid hid=>?_,λid hid=>?_⟩
  ·rw[hh];exact hm.wf hwf.setLog id (by omega)
  ·rw[hh,b id (by rw[<-e,<-hw];exact hid)];simp
  ·have:=c id (by rw[<-e,<-hw];exact hid);simp only[setLog_h,setLog_nx] at this;exact ⟨by omega,this.2⟩
theorem Reg.facts (R:Reg C ih bd rd nt ops q T' G' F' hg0):∀i,i<=ops.size->WF (G' i):=by
 intro i
 induction i with
 | zero=>intro _;exact R.wf0
 | succ i ih' =>
  intro h;have ho:ops[i]?=some ops[i]:=Array.getElem?_eq_getElem (by omega);exact (TraAt.facts R.hC R.hi (R.tra i _ ho) (ih' (by omega))).1
theorem Reg.at (R:Reg C ih bd rd nt ops q T' G' F' hg0){i:Nat}(h:i<ops.size) :
  (G' i).nx<=(G' (i+1)).nx/\(∀id,id ∉ (F' i).wr->(G' (i+1)).h.get id=(G' i).h.get id)/\∀id∈(F' i).wr,id<(G' (i+1)).nx/\((G' i).h.get id=.none->(G' i).nx<=id):=by
 have ho:ops[i]?=some ops[i]:=Array.getElem?_eq_getElem h;exact (TraAt.facts R.hC R.hi (R.tra i _ ho) (R.facts i (by omega))).2
theorem Reg.nx_mono (R:Reg C ih bd rd nt ops q T' G' F' hg0){i j:Nat}(h:i<=j)(hj:j<=ops.size):(G' i).nx<=(G' j).nx:=by
 induction j with
 | zero=>have:i=0:=by omega
         subst this;exact Nat.le_refl _
 | succ j ih' =>
  by_cases hij:i=j+1
  ·subst hij;exact Nat.le_refl _
  ·exact Nat.le_trans (ih' (by omega) (by omega)) (R.at (by omega)).1
theorem Reg.keepT (R:Reg C ih bd rd nt ops q T' G' F' hg0){j:Nat}(hj:j<ops.size){s:Nat}(h:gv ops j≠some s):(T' (j+1)).get AV.undef s=(T' j).get AV.undef s:=by
 have ho:ops[j]?=some ops[j]:=Array.getElem?_eq_getElem hj;obtain ⟨out,gd,hout,_,h'⟩:=R.tra j _ ho;have key:∀x,(out.run (T' j) x).get AV.undef s=(T' j).get AV.undef s:=by
  intro x;simp only[gv,ho,Option.bind_some] at h;cases hd:ops[j].dst with
  | none=>rw[hd] at hout;simp[oq] at hout;subst hout;rfl
  | some d =>
   rw[hd] at hout h;simp only[oq,aa] at hout
   split at hout
   ·injection hout with hout;subst hout;rw[sp_get,if_neg];rintro rfl;exact h rfl
   ·cases hout
 rcases h' with ⟨_,h1,_⟩ | ⟨_,r,_,_,_,h1,_⟩
 ·rw[h1,key]
 ·rw[h1,key]
def Down (ops:Array Oper)(S:Nat->Prop):Prop:=∀j o,ops[j]?=some o->S j->∀e∈o.after.toList,Region.binds .any e=true->S e.on
theorem Down.mask {S:Nat->Prop}(h:Down ops S){j i:Nat}(hb:((bi ops.toList []).getD j 0).testBit i=true)(hj:S j):S i :=
 za (S:=S) (all:=ops.toList) (λj o ho=>h j o (by simpa using ho)) ops.toList [] [] rfl rfl (λj i hj=>by simp at hj) j i hb hj
theorem LK (S:Nat->Prop):∀n,∃t:T,∀s,t.get AV.undef s=ov S (λi s=>gv ops i=some s) (λi s=>(T' i).get AV.undef s) (λs=>(T' 0).get AV.undef s) n s:=by
 intro n
 induction n with
 | zero=>exact ⟨T' 0,λs=>rfl⟩
 | succ n ih' =>
  obtain ⟨t,ht⟩:=ih'
  by_cases hS:S n
  ·cases hd:gv ops n with
   | none=>exact ⟨t,λs=>by simp only[ov];rw[if_neg (by rw[hd];simp)];exact ht s⟩
   | some d =>
    refine ⟨(sp AV.undef d).run t ((T' (n+1)).get AV.undef d),λs=>?_⟩;rw[sp_get];simp only[ov]
    by_cases hs:s=d
    ·subst hs;rw[if_pos rfl,if_pos ⟨hS,hd⟩]
    ·rw[if_neg hs,if_neg (by rw[hd];rintro ⟨_,h⟩;exact hs (by injection h with h;exact h.symm))];exact ht s
  ·exact ⟨t,λs=>by simp only[ov];rw[if_neg (λh=>hS h.1)];exact ht s⟩
structure Inv (C:Cfg) (A:Nat->Nat->Prop) (bd nt:Nat) (ops:Array Oper) (T':Nat->T) (G':Nat->G) (F':Nat->Foot) (hg0:Nat->AObj) (N:Nat) (w0:World) (γ0:Gm) (df0:List Deferred)
  (S:Nat->Prop) (a:Act) (w:World) (γ:Gm) (hg:Nat->AObj):Prop where
 rel:Rel C A bd w γ hg N
 stp:Stp w0 γ0 w γ
 size:a.tmps.size=nt
 slots:∀s,RV w γ A bd (ov S (λi s=>gv ops i=some s) (λi s=>(T' i).get AV.undef s) (λs=>(T' 0).get AV.undef s) ops.size s) (a.tmps.getD s undef)
 objs:∀id,hg id=ov S (λi id=>id∈(F' i).wr) (λi id=>(G' i).h.get id) hg0 ops.size id
 dfr:a.defers=df0
theorem iN {x y:Foot}(h:i_ x y=true){id:Nat}(hid:id∈x.wr):y.lk.big=false/\id ∉ y.wr/\id ∉ y.lk.rd/\id ∉ y.lk.sr.map (·.1):=by
 unfold i_ at h
 split at h
 ·rename_i he;rw[he] at hid;exact absurd hid List.not_mem_nil
 ·simp only[Bool.and_eq_true,Bool.not_eq_true'] at h;obtain ⟨⟨⟨h1,h2⟩,h3⟩,h4⟩:=h;refine ⟨h1,λh=>?_,λh=>?_,λh=>?_⟩
  ·rw[dO hid h] at h2;cases h2
  ·rw[dO hid h] at h3;cases h3
  ·rw[dO hid (od h)] at h4;cases h4
theorem qZ {x y:Foot}(h:ge x y=true){id:Nat}(hid:id∈x.wr):y.lk.big=false/\id ∉ y.wr/\id ∉ y.lk.rd/\(id∈y.lk.sr.map (·.1)->∀p∈y.lk.sr,p∈x.lk.soft):=by
 unfold ge at h
 split at h
 ·rename_i he;rw[he] at hid;exact absurd hid List.not_mem_nil
 ·simp only[Bool.and_eq_true,Bool.not_eq_true',Bool.or_eq_true] at h;obtain ⟨⟨⟨h1,h2⟩,h3⟩,h4⟩:=h;refine ⟨h1,λh=>?_,λh=>?_,λh p hp=>?_⟩
  ·rw[dO hid h] at h2;cases h2
  ·rw[dO hid h] at h3;cases h3
  ·rcases h4 with h4 | h4
   ·rw[dO hid (od h)] at h4;cases h4
   ·exact ER (List.all_eq_true.1 h4 p hp)
theorem cK {x y:Foot}(h:bU x y=true):i_ x y=true/\ge y x=true:=by unfold bU at h;simpa using h
theorem jy {all:List Oper}{x y:Oper}(h:iJ all x y=true) :
  (∀d,x.dst=some d->d ∉ si all y/\y.dst≠some d)/\(∀d,y.dst=some d->d ∉ si all x):=by
 unfold iJ at h;simp only[Bool.and_eq_true] at h;refine ⟨λd hd=>?_,λd hd=>?_⟩
 ·have:=h.1;rw[hd] at this;simp only[Bool.and_eq_true,Bool.not_eq_true',bne_iff_ne,ne_eq] at this;exact ⟨λhm=>(by have h1:=this.1;rw[List.contains_iff_mem.2 hm] at h1;cases h1),this.2⟩
 ·have:=h.2;rw[hd] at this;simp only[Bool.not_eq_true'] at this;intro hm;rw[List.contains_iff_mem.2 hm] at this;cases this
variable {N:Nat}{w0:World}{γ0:Gm}{df0:List Deferred}{S:Nat->Prop}{a:Act}{w:World}{γ:Gm}{hg:Nat->AObj}
variable {b:Frame}{i:Nat}{rest:List Nat}{k:List Item}{cs:List Frame}{o:Oper}
theorem Reg.good (R:Reg C ih bd rd nt ops q T' G' F' hg0)(I:Inv C A bd nt ops T' G' F' hg0 N w0 γ0 df0 S a w γ hg)(hin:i<=ops.size){id:Nat}
  (h:∀j,j<ops.size->id∈(F' j).wr->(S j↔j<i)) (hne:(G' i).h.get id≠.none):hg id=(G' i).h.get id:=by
 rw[I.objs id];rcases JK (S:=S) (wr:=λi id=>id∈(F' i).wr) (val:=λi id=>(G' i).h.get id) (base:=hg0) (k:=id) hin (λj hj hw=>(R.at hj).2.1 id hw) h with ⟨_,h2⟩ | ⟨_,h2,h3⟩
 ·exact h2
 ·rw[h2,h3];exact R.ext0 id (by rw[<-h3];exact hne)
theorem Jh (R:Reg C ih bd rd nt ops q T' G' F' hg0)(I:Inv C A bd nt ops T' G' F' hg0 N w0 γ0 df0 S a w γ hg)(hN:(G' ops.size).nx<=N)
  (ho:ops[i]?=some o) (hS:¬S i) (hdown:Down ops S) (hready:∀e∈o.after.toList,Region.binds .any e=true->S e.on) (hcalm:ni b.kind cs) :
  ∃a' w' γ' hg',Inv C A bd nt ops T' G' F' hg0 N w0 γ0 df0 (λj=>S j\/j=i) a' w' γ' hg' /\
   Steps C.P (lone (b.atR a (.inRegion ops (i::rest)::k)) cs w) (lone (b.atR a' (.inRegion ops rest::k)) cs w'):=by
 have hi:i<ops.size:=(Array.getElem?_eq_some_iff.1 ho).1;have hdown1:Down ops (λj=>S j\/j=i):=by
  intro j oj hoj hj e he hb;rcases hj with hj | rfl
  ·exact .inl (hdown j oj hoj hj e he hb)
  ·rw[ho] at hoj;injection hoj with hoj;subst hoj;exact .inl (hready e he hb)
 have ahead:∀j,j≠i->((bi ops.toList []).getD i 0).testBit j=true->S j:=by
  intro j hj hb;rcases hdown1.mask hb (.inr rfl) with h | h
  ·exact h
  ·exact absurd h hj
 have behind:∀j,S j->((bi ops.toList []).getD j 0).testBit i≠true:=λj hj hb=>hS (hdown.mask hb hj);have hdst:gv ops i=o.dst:=by simp[gv,ho]
 have hslot:∀s∈si ops.toList o,ov S (λi s=>gv ops i=some s) (λi s=>(T' i).get AV.undef s) (λs=>(T' 0).get AV.undef s) ops.size s=(T' i).get AV.undef s:=by
  intro s hs;have h:∀j,j<ops.size->gv ops j=some s->(S j↔j<i):=by
   intro j hj hd;have hoj:ops[j]?=some ops[j]:=Array.getElem?_eq_getElem hj;have hd':ops[j].dst=some s:=by simpa [gv,hoj] using hd
   constructor
   ·intro hSj;rcases Nat.lt_trichotomy j i with h | h | h
    ·exact h
    ·subst h;exact absurd hSj hS
    ·rcases R.slots i j _ _ h ho hoj with hb | hb
     ·exact absurd hb (behind j hSj)
     ·exact absurd hs ((jy hb).2 s hd')
   ·intro hlt;rcases R.slots j i _ _ hlt hoj ho with hb | hb
    ·exact ahead j (by omega) hb
    ·exact absurd hs ((jy hb).1 s hd').1
  rcases JK (S:=S) (wr:=λi s=>gv ops i=some s) (val:=λi s=>(T' i).get AV.undef s) (base:=λs=>(T' 0).get AV.undef s) (k:=s) (by omega:i<=ops.size) (λj hj hw=>R.keepT hj hw) h with ⟨_,h2⟩ | ⟨_,h2,h3⟩
  ·exact h2
  ·rw[h2,<-h3]
 obtain ⟨ts,hts⟩:=LK (ops:=ops) (T':=T') S ops.size;have htr:TR w γ A bd nt ts a.tmps:=⟨I.size,λs=>by rw[hts s];exact I.slots s⟩;have heq:∀s∈si ops.toList o,ts.get AV.undef s=(T' i).get AV.undef s:=λs hs=>by rw[hts s,hslot s hs]
 have hagrO:Aj C ts (T' i) o.op.operands.toList:=by intro x hx s hs;refine Ep hs λn hn=>heq n ?_;subst hn;exact List.mem_append_left _ (List.mem_filterMap.2 ⟨_,hx,rfl⟩)
 obtain ⟨out,gd,hout,hgd,hcase⟩:=R.tra i o ho;have hgq:gd.run ts=gd.run (T' i):=by refine Bi hgd λj b' oj d hg' hoj hd=>heq d ?_;refine List.mem_append_right _ ?_;simp only[hg',hoj,hd];simp
 have hnoW:∀s,gv ops i=some s->∀j,i<j->j<ops.size->S j->¬gv ops j=some s:=by
  intro s hd j hij hj hSj hd';have hoj:ops[j]?=some ops[j]:=Array.getElem?_eq_getElem hj;rcases R.slots i j _ _ hij ho hoj with hb | hb
  ·exact behind j hSj hb
  ·exact ((jy hb).1 s (hdst ▸ hd)).2 (by simpa [gv,hoj] using hd')
 have slots':∀{w':World} {γ':Gm} {x:AV} {v:Value},Stp w γ w' γ'->RV w' γ' A bd x v->T' (i+1)=out.run (T' i) x ->
   (a.put o.dst v).tmps.size=nt/\∀s,RV w' γ' A bd (ov (λj=>S j\/j=i) (λi s=>gv ops i=some s) (λi s=>(T' i).get AV.undef s) (λs=>(T' 0).get AV.undef s) ops.size s) ((a.put o.dst v).tmps.getD s undef):=by
  intro w' γ' x v hst hv hT;have h1:=(htr.step hst).put hout hv;refine ⟨h1.1,λs=>?_⟩;have h2:=h1.2 s
  by_cases hs:gv ops i=some s
  ·rw[JJ (wr:=λi s=>gv ops i=some s) hi hs (hnoW s hs),hT];rw[hdst] at hs;rw[hs] at hout h2 ⊢;simp only[oq,aa] at hout
   split at hout
   ·injection hout with hout;subst hout;simp only[sp_get,if_true] at h2 ⊢;exact h2
   ·cases hout
  ·rw[BZ (wr:=λi s=>gv ops i=some s) hs,<-hts s];have:(out.run ts x).get AV.undef s=ts.get AV.undef s:=by
    cases hd:o.dst with
    | none=>rw[hd] at hout;simp[oq] at hout;subst hout;rfl
    | some d =>
     rw[hd] at hout;simp only[oq,aa] at hout
     split at hout
     ·injection hout with hout;subst hout;rw[sp_get,if_neg];rintro rfl;exact hs (by rw[hdst,hd])
     ·cases hout
   rw[this] at h2;exact h2
 rcases hcase with ⟨hq,hT,hG,hW⟩ | ⟨hq,r,hr,hne,hnd,hT,hH,hW,hnx,hlk⟩
 ·
  rw[<-hgq] at hq;have hw:=jX hgd htr hq;obtain ⟨s1,s2⟩:=slots' (Stp.refl w γ) b_ hT;refine ⟨_,w,γ,hg,⟨I.rel,I.stp,s1,s2,λid=>?_,?_⟩,.one (rF ho hw)⟩
  ·rw[I.objs id];exact (BZ (by rw[hW];exact List.not_mem_nil)).symm
  ·have:=I.dfr;cases hd:o.dst<;>simpa [Act.put,hd] using this
 ·
  rw[<-hgq] at hq;have hw:=jX hgd htr hq;have hwf:WF (aH (G' i) []):=(R.facts i (by omega)).setLog;rw[<-Em hagrO] at hr;have hfree:Free γ (aH (G' i) []) (gOf (aH (G' i) []) r):=by
   intro id h1 h2;simp only[setLog_nx] at h1;rw[I.rel.none_iff,I.objs id,y5 (m:=0) (Nat.zero_le _)]
   ·exact R.free0 id (Nat.le_trans (R.nx_mono (Nat.zero_le i) (by omega)) h1) (Nat.le_trans h2 (Nat.le_trans hnx (R.nx_mono (by omega) (Nat.le_refl _))))
   ·intro j _ hj hSj hw;cases q with
    | true=>rw[R.quiet rfl j hj] at hw;exact List.not_mem_nil hw
    | false =>
     have hlt:id<(G' (i+1)).nx:=by have:=(hlk rfl).2;omega
     rcases Nat.lt_trichotomy j i with h | h | h
     ·have:=((R.at hj).2.2 id hw).1;have:=R.nx_mono (show j+1<=i by omega) (by omega);omega
     ·subst h;exact hS hSj
     ·have hwi:id∈(F' i).wr:=Classical.byContradiction λhn=>by
       have key:∀m,i<m->m<=j->(G' m).h.get id=.none:=by
        intro m
        induction m with
        | zero=>intro h;omega
        | succ m ihm =>
         intro h1' h2'
         by_cases hmi:m=i
         ·subst hmi;rw[(R.at (by omega)).2.1 id hn];exact R.facts m (by omega) id h1
         ·have:=ihm (by omega) (by omega)
          by_cases hm:id∈(F' m).wr
          ·have h3:=((R.at (i:=m) (by omega)).2.2 id hm).2 this;have h4:=R.nx_mono (show i+1<=m by omega) (by omega);omega
          ·rw[(R.at (by omega)).2.1 id hm];exact this
       have h3:=((R.at hj).2.2 id hw).2 (key j h (Nat.le_refl _));have h4:=R.nx_mono (show i+1<=j by omega) (by omega);omega
      rcases R.apart i j h hj with hb | hb
      ·exact behind j hSj hb
      ·exact (iN (cK hb).1 hwi).2.1 hw
  have fin:∀{gs:G} {u:Value} {w':World} {γ':Gm} {hg':Nat->AObj},Fin C A bd w γ hg N gs w' γ' hg' (gOf (aH (G' i) []) r)->gs.lg=[]->RV w' γ' A bd (vOf r) u ->
    Steps C.P (lone (b.atR a (.inRegion ops (i::rest)::k)) cs w) (lone (b.atR (a.put o.dst u) (.inRegion ops rest::k)) cs w') ->
    ∃a' w' γ' hg',Inv C A bd nt ops T' G' F' hg0 N w0 γ0 df0 (λj=>S j\/j=i) a' w' γ' hg' /\
     Steps C.P (lone (b.atR a (.inRegion ops (i::rest)::k)) cs w) (lone (b.atR a' (.inRegion ops rest::k)) cs w'):=by
   intro gs u w' γ' hg' f hgs hv st;obtain ⟨s1,s2⟩:=slots' f.stp hv hT;have hle:(gOf (aH (G' i) []) r).nx<=N:=Nat.le_trans hnx (Nat.le_trans (R.nx_mono (by omega) (Nat.le_refl _)) hN);refine ⟨_,w',γ',hg',⟨?_,I.stp.trans f.stp,s1,s2,λid=>?_,?_⟩,st⟩
   ·have:=f.rel;rw[show Nat.max N (gOf (aH (G' i) []) r).nx=N from Nat.max_eq_left hle] at this;exact this
   ·obtain ⟨n,e1,e2,e3⟩:=f.new;have en:(F' i).wr=n:=by rw[hW,e1,hgs,List.append_nil]
    by_cases hid:id∈(F' i).wr
    ·rw[e2 id (en ▸ hid),<-hH];refine (JJ (wr:=λi id=>id∈(F' i).wr) (val:=λi id=>(G' i).h.get id) hi hid λj hij hj hSj hw=>?_).symm;rcases R.apart i j hij hj with hb | hb
     ·exact behind j hSj hb
     ·exact (iN (cK hb).1 hid).2.1 hw
    ·rw[e3 id (en ▸ hid),I.objs id];exact (BZ (wr:=λi id=>id∈(F' i).wr) hid).symm
   ·have:=I.dfr;cases hd:o.dst<;>simpa [Act.put,hd] using this
  have hgood:∀id,(q=false->(F' i).lk.big=true\/id∈(F' i).lk.rd\/(id∈(F' i).lk.sr.map (·.1)/\∀j,i<j->j<ops.size->S j->id ∉ (F' j).wr)) ->
    (G' i).h.get id≠.none->hg id=(G' i).h.get id:=by
   intro id hlook hne';refine R.good I (by omega) (λj hj hw=>?_) hne';cases q with
   | true=>rw[R.quiet rfl j hj] at hw;exact absurd hw List.not_mem_nil
   | false =>
    have hlook:=hlook rfl;constructor
    ·intro hSj;rcases Nat.lt_trichotomy j i with h | h | h
     ·exact h
     ·subst h;exact absurd hSj hS
     ·rcases R.apart i j h hj with hb | hb
      ·exact absurd hb (behind j hSj)
      ·obtain ⟨h1,h2,h3,h4⟩:=qZ (cK hb).2 hw;rcases hlook with hl | hl | ⟨_,hl⟩
       ·rw[h1] at hl;cases hl
       ·exact absurd hl h3
       ·exact absurd hw (hl j h hj hSj)
    ·intro hlt;rcases R.apart j i hlt hi with hb | hb
     ·exact ahead j (by omega) hb
     ·obtain ⟨h1,h2,h3,h4⟩:=iN (cK hb).1 hw;rcases hlook with hl | hl | ⟨hl,_⟩
      ·rw[h1] at hl;cases hl
      ·exact absurd hl h3
      ·exact absurd hl h4
  have hfoot:(aI C o.op).run ts (aH (G' i) [])=(aI C o.op).run (T' i) (G' i):=Cs (by simp) hagrO
  by_cases hsoft:q=false/\∃id j,id∈(F' i).lk.sr.map (·.1)/\i<j/\j<ops.size/\S j/\id∈(F' j).wr
  ·
   obtain ⟨rfl,id,j,hid,hij,hj,hSj,hwj⟩:=hsoft;have hlk':=(hlk rfl).1;have hoj:ops[j]?=some ops[j]:=Array.getElem?_eq_getElem hj;have hunb:((bi ops.toList []).getD j 0).testBit i=false:=by have:=behind j hSj;simpa using this
   have hap:bU (F' i) (F' j)=true:=(R.apart i j hij hj).resolve_left (behind j hSj);obtain ⟨_,_,_,h4⟩:=qZ (cK hap).2 hwj;have h4:=h4 hid;have hsrne:(F' i).lk.sr≠[]:=by intro h;rw[h] at hid;simp at hid
   rw[hlk'] at hsrne;obtain ⟨ty,x,kx,a0,hop,ha0,hft⟩:=Oo hsrne;rw[hop] at hr;obtain ⟨a1,kk,kt,et,z,ha1,hk1,hu,hz,hall,hreq⟩:=Cu hr hne;rw[ha0] at ha1;injection ha1 with ha1;subst ha1;have hval:∃v,r=.val v:=by
    rw[hreq];have:Small (aH (G' i) []) (cZ (eI C.P kt) z false a0.run kk.run ts (aH (G' i) [])):=by
     unfold cZ;rw[aa]
     repeat' split
     all_goals trivial
    cases hrr:cZ (eI C.P kt) z false a0.run kk.run ts (aH (G' i) []) with
    | fail=>rw[hrr] at hreq;exact absurd hreq hne
    | val v=>exact ⟨v,rfl⟩
    | upd v g' =>
     exfalso;unfold cZ at hrr;rw[aa] at hrr
     repeat' (split at hrr)
     all_goals cases hrr
    | dfr x=>rw[hrr] at this;exact this.elim
   obtain ⟨v,hv⟩:=hval;subst hv;have ea0:a0.run ts=a0.run (T' i):=hagrO x (by rw[hop];simp[Op.operands]) a0 ha0;have hidr:id∈ak (a0.run (T' i)):=by rw[hlk',hft] at hid;simpa using hid
   have hmap:∃es,a0.run ts=.hmap id/\(G' i).h.get id=.map es:=by
    have hreq':=hreq.symm;unfold cZ at hreq';rw[aa] at hreq'
    split at hreq'
    ·rw[<-ea0] at hidr;generalize a0.run ts=y at hidr hreq';cases y<;>simp[ak] at hidr
     ·cases hreq'
     ·cases hreq'
     ·subst hidr;simp only[G.get_eq,setLog_h] at hreq'
      split at hreq'
      ·rename_i es hes
       split at hes
       ·rename_i es' hes';injection hes with hes;subst hes;exact ⟨_,rfl,hes'⟩
       ·cases hes
      ·cases hreq'
    ·cases hreq'
   obtain ⟨es,hm1,hm2⟩:=hmap;have hpair:(id,ty)∈(F' j).lk.soft:=h4 _ (by rw[hlk',hft];simpa using hidr);obtain ⟨outj,gdj,houtj,hgdj,hcasej⟩:=R.tra j _ hoj;rcases hcasej with ⟨_,_,_,hWj⟩ | ⟨_,rj,hrj,hnej,hndj,hTj,hHj,hWj,hnxj,hlkj⟩
   ·rw[hWj] at hwj;exact absurd hwj List.not_mem_nil
   rw[(hlkj rfl).1] at hpair;obtain ⟨xj,kj,aj,hopj,haj,hidj⟩:=Mg hpair;dsimp only at hopj hidj;rw[hopj] at hrj;obtain ⟨aj',kkj,ktj,etj,zj,haj',hkj,huj,hzj,hreqj⟩:=zz hrj hnej;rw[haj] at haj';injection haj' with haj';subst haj';rw[hu] at huj;injection huj with huj;injection huj with huj1 huj2;subst huj1;subst huj2;rw[hz] at hzj;injection hzj with hzj;subst hzj;cases rj with
   | fail=>exact absurd rfl hnej
   | val v=>rw[hWj] at hwj;simp[gOf] at hwj
   | dfr x=>exact absurd rfl (hndj x)
   | upd vj gj =>
    obtain ⟨idj,esj,q1,q2,q3,q4⟩:=BJ hreqj.symm;rw[q1] at hidj;simp[ak] at hidj;subst hidj;have hnone:∀m,i<m->m<ops.size->S m->id∈(F' m).wr->m=j:=by
     intro m him hm hSm hwm;refine Classical.byContradiction λhmj=>?_;have hb:((bi ops.toList []).getD m 0).testBit i=false:=by simpa using behind m hSm
     have hsr:(F' i).lk.sr≠[]:=by rw[hlk'];exact hsrne
     rcases Nat.lt_or_ge m j with h | h
     ·exact R.once i m j him h hj hsr hb hunb (dO hwm (od hid)) (dO hwj (od hid))
     ·exact R.once i j m hij (by omega) hm hsr hunb hb (dO hwj (od hid)) (dO hwm (od hid))
    have hwi:(F' i).wr=[]:=by rw[hW];simp[gOf]
    have hsame:(G' j).h.get id=(G' i).h.get id:=by
     have key:∀m,i<=m->m<=j->(G' m).h.get id=(G' i).h.get id:=by
      intro m
      induction m with
      | zero=>intro h1 _;have:i=0:=by omega
              subst this;rfl
      | succ m ihm =>
       intro h1 h2
       by_cases him:i=m+1
       ·subst him;rfl
       ·rw[(R.at (by omega)).2.1 id ?_]
        ·exact ihm (by omega) (by omega)
        ·intro hwm
         by_cases hmi:m=i
         ·subst hmi;rw[hwi] at hwm;exact List.not_mem_nil hwm
         ·rcases R.apart m j (by omega) hj with hb | hb
          ·have hSm:=hdown.mask hb hSj;exact absurd (hnone m (by omega) (by omega) hSm hwm) (by omega)
          ·exact (iN (cK hb).1 hwm).2.1 hwj
     exact key j (by omega) (Nat.le_refl _)
    have hes:esj=es:=by
     have h1:(G' j).h.get id=.map esj:=by simpa using q2
     rw[hsame,hm2] at h1;injection h1 with h1;exact h1.symm
    subst hes;have hnow:hg id=.map (esj++[(kkj.run (T' j),z)]):=by rw[I.objs id,y5 (m:=j+1) (by omega) (λm h1 h2 h3 h4=>by have:=hnone m (by omega) h2 h3 h4;omega)];simp only[ov];rw[if_pos ⟨hSj,hwj⟩,hHj,q3];simp[gOf,H.get_put]
    let gs:G:=⟨(G' i).h.put id (.map (esj++[(kkj.run (T' j),z)])),(G' i).nx,[]⟩
    have hgs:gs.h.get id=.map (esj++[(kkj.run (T' j),z)]):=by simp[gs,H.get_put]
    have hr':(cy C o.op).run ih (bd+1) rd ts gs=.val v:=by rw[hop,hall];exact C9 hreq.symm hm1 (by simpa using hm2) hgs q4
    have hidlt:id<(G' i).nx:=Nat.lt_of_not_le λh=>by have:=R.facts i (by omega) id h;rw[hm2] at this;cases this
    have hwfs:WF gs:=λid' h'=>by have h':(G' i).nx<=id':=h';simp only[gs,H.get_put];rw[if_neg (by omega)];exact R.facts i (by omega) id' h'
    have hagr:Agr ((aI C o.op).run ts gs) gs hg:=by
     have e:(aI C o.op).run ts gs=⟨[],(ak (a0.run ts)).map (·,ty),[],false⟩:=by rw[hop];simp[aI,ha0]
     rw[e];simp only[Agr,hm1,ak];intro id' hid' _;simp at hid';subst hid';rw[hnow,hgs]
    obtain ⟨u,w',γ',hg',f,rv,st⟩:=BV (b:=b) (cs:=cs) (rest:=rest) (k:=k) R.hC R.hi I.rel hwfs htr hcalm hagr hr' hne hnd (λid' h1 h2=>hfree id' (by simpa [gs] using h1) (by simpa [gs,gOf] using h2)) ho hw;refine fin (gs:=gs) (u:=u) (w':=w') (γ':=γ') (hg':=hg') ⟨?_,f.stp,?_⟩ rfl rv st
    ·have:=f.rel;simpa [gOf,gs] using this
    ·obtain ⟨n,e1,e2,e3⟩:=f.new;have:n=[]:=by simpa [gOf,gs] using e1
     subst this;exact ⟨[],by simp[gOf,gs],λ_ h=>absurd h List.not_mem_nil,e3⟩
  ·have hagr:Agr ((aI C o.op).run ts (aH (G' i) [])) (aH (G' i) []) hg:=by
    cases hqq:q with
    | true =>
     refine Ext.agr λid hne'=>?_;simp only[setLog_h] at hne' ⊢;refine hgood id (λh=>?_) hne';rw[hqq] at h;cases h
    | false =>
     rw[hfoot,<-(hlk hqq).1];unfold Agr
     split
     ·rename_i hb;exact λid hne'=>by simp only[setLog_h] at hne' ⊢;exact hgood id (λ_=>.inl hb) hne'
     ·intro id hid hne';simp only[setLog_h] at hne' ⊢;refine hgood id (λ_=>.inr ?_) hne';rcases List.mem_append.1 hid with h | h
      ·exact .inl h
      ·exact .inr ⟨h,λj h1 h2 h3 h4=>hsoft ⟨hqq,id,j,h,h1,h2,h3,h4⟩⟩
   obtain ⟨u,w',γ',hg',f,rv,st⟩:=BV (b:=b) (cs:=cs) (rest:=rest) (k:=k) R.hC R.hi I.rel hwf htr hcalm hagr hr hne hnd hfree ho hw;exact fin f (by simp) rv st
end
end Hx
end
section
namespace Hx
open Go
section
variable {C:Cfg}{A:Nat->Nat->Prop}{bd:Nat}{ih:IH}{rd:Option Nat}{nt:Nat}{ops:Array Oper}{q:Bool}{T':Nat->T}{G':Nat->G}{F':Nat->Foot}{hg0:Nat->AObj}
variable {N:Nat}{w0:World}{γ0:Gm}{df0:List Deferred}{b:Frame}{k:List Item}{cs:List Frame}
theorem KZ (R:Reg C ih bd rd nt ops q T' G' F' hg0)(hN:(G' ops.size).nx<=N)(hedge:∀i o,ops[i]?=some o->∀e∈o.after.toList,Region.binds .any e=true->e.on<i)(hcalm:ni b.kind cs) :
  ∀(fuel tq:Nat) (listed:Array Bool) (S:Nat->Prop) {a:Act} {w:World} {γ:Gm} {hg:Nat->AObj},listed.size=ops.size->(∀j,S j↔listed.getD j false=true)->Down ops S ->
   cnt (λj=>!listed.getD j true) ops.size<=fuel->Inv C A bd nt ops T' G' F' hg0 N w0 γ0 df0 S a w γ hg ->
   ∃a' w' γ' hg',Inv C A bd nt ops T' G' F' hg0 N w0 γ0 df0 (λj=>j<ops.size) a' w' γ' hg' /\
    Steps C.P (lone (b.atR a (.inRegion ops (Region.linearise.go .any ops fuel tq listed [])::k)) cs w) (lone (b.atR a' (.inRegion ops []::k)) cs w'):=by
 have done:∀{listed:Array Bool} {S:Nat->Prop} {a:Act} {w:World} {γ:Gm} {hg:Nat->AObj},listed.size=ops.size->(∀j,S j↔listed.getD j false=true) ->
   (∀j,j<ops.size->listed.getD j true=true)->Inv C A bd nt ops T' G' F' hg0 N w0 γ0 df0 S a w γ hg->Inv C A bd nt ops T' G' F' hg0 N w0 γ0 df0 (λj=>j<ops.size) a w γ hg:=by
  intro listed S a w γ hg hsz hS hall I;have e:S=λj=>j<ops.size:=by
   funext j;refine propext ⟨λh=>?_,λh=>?_⟩
   ·rw[hS] at h;rcases Nat.lt_or_ge j ops.size with h' | h'
    ·exact h'
    ·simp[Array.getD_eq_getD_getElem?,Array.getElem?_eq_none (by omega:listed.size<=j)] at h
   ·rw[hS];have:=hall j h;have hlt:j<listed.size:=by omega
    simpa [Array.getD,hlt] using this
  rw[<-e];exact I
 intro fuel
 induction fuel with
 | zero =>
  intro tq listed S a w γ hg hsz hS hdown hc I;have hz:=Ir (Nat.le_zero.1 hc);refine ⟨a,w,γ,hg,done hsz hS (λj hj=>by simpa using hz j hj) I,?_⟩;simp only[Region.linearise.go,List.reverse_nil];exact Steps.refl _ _
 | succ fuel ihf =>
  intro tq listed S a w γ hg hsz hS hdown hc I;simp only[Region.linearise.go];change ∃a' w' γ' hg',_/\Steps C.P (lone (b.atR a (.inRegion ops (match (Region.ready .any ops listed)[tq % (Region.ready .any ops listed).length]? with
   | some i=>Region.linearise.go .any ops fuel (tq / (Region.ready .any ops listed).length) (listed.setIfInBounds i true) [i]
   | none=>[].reverse)::k)) cs w) _
  cases hi:(Region.ready .any ops listed)[tq % (Region.ready .any ops listed).length]? with
  | none =>
   have hnil:Region.ready .any ops listed=[]:=by
    cases hr:Region.ready .any ops listed with
    | nil=>rfl
    | cons x xs =>
     rw[hr] at hi;have hlt:tq % (x::xs).length<(x::xs).length:=Nat.mod_lt _ (by simp);rw[List.getElem?_eq_getElem hlt] at hi;cases hi
   have hall:∀j,j<ops.size->listed.getD j true=true:=by
    intro j
    induction j using Nat.strongRecOn with
    | _ j ihj =>
     intro hj;refine Classical.byContradiction λhne=>?_;have hne:listed.getD j true=false:=by simpa using hne
     have:j∈Region.ready .any ops listed:=by
      rw[mem_ready];refine ⟨hne,ops[j],Array.getElem?_eq_getElem hj,λe he hb=>?_⟩;have hlt:=hedge j _ (Array.getElem?_eq_getElem hj) e (by simpa using he) hb;have h1:=ihj e.on hlt (by omega);have hl:e.on<listed.size:=by omega
      simpa [Array.getD,hl] using h1
     rw[hnil] at this;exact absurd this List.not_mem_nil
   exact ⟨a,w,γ,hg,done hsz hS hall I,by simp only[List.reverse_nil];exact Steps.refl _ _⟩
  | some i =>
   have hmem:=List.mem_of_getElem? hi;obtain ⟨hun,o,ho,hall⟩:=mem_ready.1 hmem;have hin:i<ops.size:=(Array.getElem?_eq_some_iff.1 ho).1;have hSi:¬S i:=by
    rw[hS];have hl:i<listed.size:=by omega
    simp[Array.getD,hl] at hun ⊢;exact hun
   have hready:∀e∈o.after.toList,Region.binds .any e=true->S e.on:=λe he hb=>by rw[hS];exact hall e (by simpa using he) hb
   simp only[];rw[linearise_go_acc,List.reverse_singleton,List.singleton_append];obtain ⟨a1,w1,γ1,hg1,I1,st1⟩:=Jh (b:=b) (k:=k) (cs:=cs) (rest:=Region.linearise.go .any ops fuel (tq / (Region.ready .any ops listed).length) (listed.setIfInBounds i true) []) R I hN ho hSi hdown hready hcalm;obtain ⟨a2,w2,γ2,hg2,I2,st2⟩:=ihf (tq / (Region.ready .any ops listed).length) (listed.setIfInBounds i true) (λj=>S j\/j=i) (by simp[hsz]) (λj=>by
     rw[hS]
     by_cases hj:j=i
     ·subst hj;have hl:j<listed.size:=by omega
      simp[Array.getD,hl]
     ·simp only[Array.getD_eq_getD_getElem?];rw[Array.getElem?_setIfInBounds_ne (Ne.symm hj)];simp[hj]) (λj oj hoj hj e he hb=>by
     rcases hj with hj | rfl
     ·exact .inl (hdown j oj hoj hj e he hb)
     ·rw[ho] at hoj;injection hoj with hoj;subst hoj;exact .inl (hready e he hb)) (by
     have:=Nf (p:=λj=>!listed.getD j true) (q:=λj=>!(listed.setIfInBounds i true).getD j true) (λj hj=>by
      by_cases hji:j=i
      ·subst hji;simpa using hun
      ·simp only[Array.getD_eq_getD_getElem?] at hj ⊢;rw[Array.getElem?_setIfInBounds_ne (Ne.symm hji)] at hj;exact hj) hin (by simpa using hun) (by
      have hl:i<listed.size:=by omega
      simp[Array.getD,hl])
     omega) I1
   exact ⟨a2,w2,γ2,hg2,I2,Steps.trans st1 st2⟩
theorem DS {g:G}(h:g.lg=[]):aH g []=g:=by cases g;simp at h;subst h;rfl
theorem IK {d:Nat}{pm:List Nat}:∀(l:List Oper) (i:Nat) {t:T} {df:List ADf} {g:G} {fs:List Foot} {e:Ex} {t':T} {df':List ADf} {g':G},
  (gm C nt pm ops.toList i l).run ih d rd t df g fs=.ok e t' df' g' ->
  e=.norm/\df'=df/\∃(T':Nat->T) (G':Nat->G) (F':Nat->Foot),T' i=t/\G' i=g/\T' (i+l.length)=t'/\G' (i+l.length)=g' /\
   (∀j o,l[j]?=some o->TraAt C ih d rd nt ops false o (T' (i+j)) (T' (i+j+1)) (G' (i+j)) (G' (i+j+1)) (F' (i+j))/\(G' (i+j+1)).lg=(F' (i+j)).wr++(G' (i+j)).lg) /\
   o8 pm (fs.reverse++(List.range l.length).map λj=>F' (i+j))=true:=by
 intro l
 induction l with
 | nil =>
  intro i t df g fs e t' df' g' h;simp only[gm,aa] at h
  split at h
  ·rename_i hf;injection h with h1 h2 h3 h4;subst h1;subst h2;subst h3;subst h4;exact ⟨rfl,rfl,λ_=>t,λ_=>g,λ_=>⟨aF,[]⟩,rfl,rfl,rfl,rfl,λj o h=>by simp at h,by simpa using hf⟩
  ·cases h
 | cons o rest ihl =>
  intro i t df g fs e t' df' g' h;have go:∀{t1:T} {g1:G} {f:Foot},(gm C nt pm ops.toList (i+1) rest).run ih d rd t1 df g1 (f::fs)=.ok e t' df' g' ->
    TraAt C ih d rd nt ops false o t t1 g g1 f->g1.lg=f.wr++g.lg ->
    e=.norm/\df'=df/\∃(T':Nat->T) (G':Nat->G) (F':Nat->Foot),T' i=t/\G' i=g/\T' (i+(o::rest).length)=t'/\G' (i+(o::rest).length)=g' /\
     (∀j o',(o::rest)[j]?=some o'->TraAt C ih d rd nt ops false o' (T' (i+j)) (T' (i+j+1)) (G' (i+j)) (G' (i+j+1)) (F' (i+j))/\(G' (i+j+1)).lg=(F' (i+j)).wr++(G' (i+j)).lg) /\
     o8 pm (fs.reverse++(List.range (o::rest).length).map λj=>F' (i+j))=true:=by
   intro t1 g1 f h htra hlg;obtain ⟨h1,h2,T1,G1,F1,a1,a2,a3,a4,a5,a6⟩:=ihl (i+1) h;have ne:∀j,i+1+j≠i:=λj=>by omega
   refine ⟨h1,h2,λm=>if m=i then t else T1 m,λm=>if m=i then g else G1 m,λm=>if m=i then f else F1 m,by simp,by simp,?_,?_,?_,?_⟩
   ·simp only[List.length_cons];rw[if_neg (by omega),show i+(rest.length+1)=i+1+rest.length by omega];exact a3
   ·simp only[List.length_cons];rw[if_neg (by omega),show i+(rest.length+1)=i+1+rest.length by omega];exact a4
   ·intro j o' hj;cases j with
    | zero =>
     simp at hj;subst hj;simp only[Nat.add_zero,if_true];rw[if_neg (by omega),if_neg (by omega),a1,a2];exact ⟨htra,hlg⟩
    | succ j =>
     have:=a5 j o' (by simpa using hj);rw[show i+(j+1)=i+1+j by omega];simp only[if_neg (ne j),show i+1+j+1=i+1+(j+1) by omega,if_neg (ne (j+1))];rw[show i+1+(j+1)=i+1+j+1 by omega];exact this
   ·rw[List.length_cons,List.range_succ_eq_map,List.map_cons,List.map_map];simp only[Nat.add_zero,if_true];rw[<-a6];congr 1;simp only[List.reverse_cons,List.append_assoc,List.singleton_append];congr 2;refine List.map_congr_left λj _=>?_;simp only[Function.comp];rw[if_neg (by omega),show i+(j+1)=i+1+j by omega]
  simp only[gm] at h
  split at h
  ·rename_i out gd hout hgd;dsimp only at h
   split at h
   ·rename_i hq;generalize hr:(cy C o.op).run ih d rd t (aH g [])=r at h;cases r with
    | fail=>cases h
    | val v =>
     refine go (t1:=out.run t v) (g1:=iU g g.lg) (f:=⟨(aI C o.op).run t g,[]⟩) h ⟨out,gd,hout,hgd,.inr ⟨hq,_,hr,by simp,by simp,rfl,by simp[gOf],by simp[gOf],by simp[gOf],λ_=>⟨rfl,by simp[gOf]⟩⟩⟩ (by simp)
    | upd v g1 =>
     refine go (t1:=out.run t v) (g1:=iU g1 (g1.lg++g.lg)) (f:=⟨(aI C o.op).run t g,g1.lg⟩) h ⟨out,gd,hout,hgd,.inr ⟨hq,_,hr,by simp,by simp,rfl,by simp[gOf],by simp[gOf],by simp[gOf],λ_=>⟨rfl,by simp[gOf]⟩⟩⟩ (by simp)
    | dfr a=>cases h
   ·rename_i hq;exact go h ⟨out,gd,hout,hgd,.inl ⟨hq,rfl,rfl,rfl⟩⟩ (by simp)
   ·cases h
  ·cases h
theorem Ij (hC:CfgOk C){op:Op}{d:Nat}{t:T}{g:G}{x:ADf}(h:(cy C op).run ih d rd t g=.dfr x):∃c,op=.defer c:=by
 have iso:∀f args,af ih d g f args≠.dfr x:=by
  intro f args;unfold af
  repeat' (first | split | rw[aa])
  all_goals (intro h;cases h)
 have orf:∀r,orF r≠.dfr x:=by intro r h;cases r<;>cases h
 have rnd:∀id args,cI ih d id args g≠.dfr x:=by
  intro id args;unfold cI
  repeat' split
  all_goals (intro h;cases h)
 unfold cy at h
 split at h
 rotate_left
 ·cases h
 rename_i f hcop;unfold cOp at hcop
 split at hcop
 ·split at hcop
  ·split at hcop
   ·rename_i e he;injection hcop with hcop;subst hcop;exact absurd h (hC.noDfr _ _ he _ _ _ _)
   ·rw[aa] at hcop
    split at hcop
    ·injection hcop with hcop;subst hcop;exact absurd h (iso _ _)
    ·injection hcop with hcop;subst hcop;exact absurd h (orf _)
  ·cases hcop
 ·split at hcop
  ·injection hcop with hcop;subst hcop;dsimp only at h;unfold j7 at h
   split at h
   ·split at h
    ·rename_i e he;exact absurd h (hC.noDfr _ _ he _ _ _ _)
    ·rw[aa] at h
     split at h
     ·exact absurd h (iso _ _)
     ·exact absurd h (orf _)
   ·exact absurd h (rnd _ _)
   ·cases h
  ·cases hcop
 ·injection hcop with hcop;subst hcop;cases h
 ·exact ⟨_,rfl⟩
 ·split at hcop
  ·rename_i s hs;injection hcop with hcop;subst hcop;have:=we (t:=t) (g:=g) hs;have h:s.run t g=.dfr x:=h;rw[h] at this;exact this.elim
  ·cases hcop
theorem HI (hC:CfgOk C)(hi:IHOk C ih){d:Nat}:∀(l:List Oper) (i:Nat) {t:T} {df:List ADf} {g:G} {e:Ex} {t':T} {df':List ADf} {g':G},
  (il C nt ops.toList l).run ih d rd t df g=.ok e t' df' g'->(∀o∈l,xz C o.op=true)->g.lg=[]->g'.lg=[]->WF g ->
  e=.norm/\df'=df/\∃(T':Nat->T) (G':Nat->G) (F':Nat->Foot),T' i=t/\G' i=g/\T' (i+l.length)=t'/\G' (i+l.length)=g' /\
   (∀j o,l[j]?=some o->TraAt C ih d rd nt ops true o (T' (i+j)) (T' (i+j+1)) (G' (i+j)) (G' (i+j+1)) (F' (i+j)))/\∀j,(F' j).wr=[]:=by
 intro l
 induction l with
 | nil =>
  intro i t df g e t' df' g' h _ _ _ _;simp only[il] at h;injection h with h1 h2 h3 h4;subst h1;subst h2;subst h3;subst h4;exact ⟨rfl,rfl,λ_=>t,λ_=>g,λ_=>⟨aF,[]⟩,rfl,rfl,rfl,rfl,λj o h=>by simp at h,λ_=>rfl⟩
 | cons o rest ihl =>
  intro i t df g e t' df' g' h hq hlg hlg' hwf;have go:∀{t1:T} {g1:G},(il C nt ops.toList rest).run ih d rd t1 df g1=.ok e t' df' g'->g1.lg=[]->WF g1 ->
    TraAt C ih d rd nt ops true o t t1 g g1 ⟨aF,[]⟩ ->
    e=.norm/\df'=df/\∃(T':Nat->T) (G':Nat->G) (F':Nat->Foot),T' i=t/\G' i=g/\T' (i+(o::rest).length)=t'/\G' (i+(o::rest).length)=g' /\
     (∀j o',(o::rest)[j]?=some o'->TraAt C ih d rd nt ops true o' (T' (i+j)) (T' (i+j+1)) (G' (i+j)) (G' (i+j+1)) (F' (i+j)))/\∀j,(F' j).wr=[]:=by
   intro t1 g1 h hl1 hw1 htra;obtain ⟨h1,h2,T1,G1,F1,a1,a2,a3,a4,a5,a6⟩:=ihl (i+1) h (λo' ho'=>hq o' (List.mem_cons_of_mem _ ho')) hl1 hlg' hw1;have ne:∀j,i+1+j≠i:=λj=>by omega
   refine ⟨h1,h2,λm=>if m=i then t else T1 m,λm=>if m=i then g else G1 m,λm=>if m=i then ⟨aF,[]⟩ else F1 m,by simp,by simp,?_,?_,?_,?_⟩
   ·simp only[List.length_cons];rw[if_neg (by omega),show i+(rest.length+1)=i+1+rest.length by omega];exact a3
   ·simp only[List.length_cons];rw[if_neg (by omega),show i+(rest.length+1)=i+1+rest.length by omega];exact a4
   ·intro j o' hj;cases j with
    | zero =>
     simp at hj;subst hj;simp only[Nat.add_zero,if_true];rw[if_neg (by omega),if_neg (by omega),a1,a2];exact htra
    | succ j =>
     have:=a5 j o' (by simpa using hj);rw[show i+(j+1)=i+1+j by omega];simp only[if_neg (ne j),show i+1+j+1=i+1+(j+1) by omega,if_neg (ne (j+1))];rw[show i+1+(j+1)=i+1+j+1 by omega];exact this
   ·intro j;dsimp only
    split
    ·rfl
    ·exact a6 j
  have exec:∀{out:Stg (T->AV->T)} {gd:Stg (T->Option Bool)},oq nt o.dst=some out->gq ops.toList o.guard=some gd->gd.run t=some true ->
    nf out.run ((il C nt ops.toList rest).run ih d rd) t df g ((cy C o.op).run ih d rd t g)=.ok e t' df' g' ->
    e=.norm/\df'=df/\∃(T':Nat->T) (G':Nat->G) (F':Nat->Foot),T' i=t/\G' i=g/\T' (i+(o::rest).length)=t'/\G' (i+(o::rest).length)=g' /\
     (∀j o',(o::rest)[j]?=some o'->TraAt C ih d rd nt ops true o' (T' (i+j)) (T' (i+j+1)) (G' (i+j)) (G' (i+j+1)) (F' (i+j)))/\∀j,(F' j).wr=[]:=by
   intro out gd hout hgd hgq h;have hm:=gt (op:=o.op) (d:=d) (rd:=rd) (t:=t) hC.mon hi.mon hwf;generalize hr:(cy C o.op).run ih d rd t g=r at h hm;have hr':(cy C o.op).run ih d rd t (aH g [])=r:=by rw[DS hlg];exact hr
   cases r with
   | fail=>cases h
   | val v =>
    exact go (t1:=out.run t v) (g1:=g) h hlg hwf ⟨out,gd,hout,hgd,.inr ⟨hgq,_,hr',by simp,by simp,rfl,by simp[gOf],by simp[gOf],by simp[gOf],λh=>by cases h⟩⟩
   | upd v g1 =>
    have w1:WF g1:=hm.wf hwf;have m2:=xU hC.mon hi.mon h w1;have hl1:g1.lg=[]:=by obtain ⟨n,a,_,_⟩:=m2.new;rw[hlg'] at a;exact (List.append_eq_nil_iff.1 a.symm).2
    exact go (t1:=out.run t v) (g1:=g1) h hl1 w1 ⟨out,gd,hout,hgd,.inr ⟨hgq,_,hr',by simp,by simp,rfl,by simp[gOf],by simp[gOf,hl1],by simp[gOf],λh=>by cases h⟩⟩
   | dfr a =>
    obtain ⟨c,hc⟩:=Ij hC hr;have:=hq o List.mem_cons_self;rw[hc] at this;simp[xz] at this
  simp only[il] at h
  split at h
  ·rename_i out hout
   split at h
   ·rename_i hgd;exact exec hout (gd:=⟨λ_=>some true⟩) (by rw[hgd];rfl) rfl h
   ·rename_i gd0 hgd
    split at h
    ·rename_i gd hq';rw[<-hgd] at hq';dsimp only at h
     split at h
     ·rename_i hqq;exact exec hout hq' hqq h
     ·rename_i hqq;exact go h hlg hwf ⟨out,gd,hout,hq',.inl ⟨hqq,rfl,rfl,rfl⟩⟩
     ·cases h
    ·cases h
  ·cases h
theorem Gy {K V:Type}{wr:Nat->K->Prop}{val:Nat->K->V}{base:K->V}{n:Nat}{k:K}:ov (λ_=>False) wr val base n k=base k:=by rw[y5 (m:=0) (Nat.zero_le _) (λ_ _ _ h=>h.elim)];rfl
theorem CE (R:Reg C ih bd rd nt ops q T' G' F' hg0)(hmix:C.P.follows .mixedOrders=true)(hedge:∀i o,ops[i]?=some o->∀e∈o.after.toList,Region.binds .any e=true->e.on<i)
  {w:World} {γ:Gm} {nx:Nat} {a:Act} {id:Nat} (hr:Rel C A bd w γ hg0 nx) (ht:TR w γ A bd nt (T' 0) a.tmps) (hcalm:ni b.kind cs) :
  ∃a' w' γ' hg',Rel C A bd w' γ' hg' (Nat.max nx (G' ops.size).nx)/\Stp w γ w' γ'/\TR w' γ' A bd nt (T' ops.size) a'.tmps/\a'.defers=a.defers /\
   (∀id,((∃j,j<ops.size/\id∈(F' j).wr)/\hg' id=(G' ops.size).h.get id)\/((∀j,j<ops.size->id ∉ (F' j).wr)/\hg' id=hg0 id)) /\
   Steps C.P (lone (b.atR a (.code (.region id ops true)::k)) cs w) (lone (b.atR a' k) cs w'):=by
 let w1:World:={ w with drawn:=w.drawn+1 }
 have s1:Stp w γ w1 γ:=zq (Nat.le_refl _) rfl rfl rfl (Nat.le_succ _) λ_ _=>rfl;have r1:Rel C A bd w1 γ hg0 nx:=hr.same s1 λ_ _=>rfl;have I0:Inv C A bd nt ops T' G' F' hg0 (Nat.max nx (G' ops.size).nx) w γ a.defers (λ_=>False) a w1 γ hg0:=by refine ⟨r1.up (Nat.le_max_left _ _),s1,ht.1,λs=>?_,λid=>by rw[Gy],rfl⟩;rw[Gy];exact (ht.2 s).step s1
 have hcnt:cnt (λj=>!(Array.replicate ops.size false).getD j true) ops.size<=ops.size:=by
  generalize (λj=>!(Array.replicate ops.size false).getD j true)=p;generalize ops.size=n
  induction n with
  | zero=>exact Nat.le_refl _
  | succ n ih'=>simp only[cnt];split<;>omega
 obtain ⟨a',w',γ',hg',I,st⟩:=KZ (b:=b) (k:=k) (cs:=cs) R (Nat.le_max_right _ _) hedge hcalm ops.size (w.tape w.drawn (.order b.fn id)) (Array.replicate ops.size false) (λ_=>False) (by simp)
  (λj=>by simp[Array.getD_eq_getD_getElem?,Array.getElem?_replicate];split<;>simp) (λj o _ h=>h.elim) hcnt I0
 have hend:∀{K V:Type} {wr:Nat->K->Prop} {val:Nat->K->V} {base:K->V} {k:K},(∀j,j<ops.size->¬wr j k->val (j+1) k=val j k) ->
   ((∃j,j<ops.size/\wr j k)/\ov (λj=>j<ops.size) wr val base ops.size k=val ops.size k)\/((∀j,j<ops.size->¬wr j k)/\ov (λj=>j<ops.size) wr val base ops.size k=base k/\val ops.size k=val 0 k) :=
  λkeep=>JK (Nat.le_refl _) keep λj _ _=>Iff.rfl
 refine ⟨a',w',γ',hg',I.rel,I.stp,⟨I.size,λs=>?_⟩,I.dfr,λid'=>?_,?_⟩
 ·have:=I.slots s;rcases hend (wr:=λi s=>gv ops i=some s) (val:=λi s=>(T' i).get AV.undef s) (base:=λs=>(T' 0).get AV.undef s) (k:=s) (λj hj hw=>R.keepT hj hw) with ⟨_,h⟩ | ⟨_,h,h2⟩
  ·rw[h] at this;exact this
  ·rw[h,<-h2] at this;exact this
 ·rw[I.objs id'];rcases hend (wr:=λi id=>id∈(F' i).wr) (val:=λi id=>(G' i).h.get id) (base:=hg0) (k:=id') (λj hj hw=>(R.at hj).2.1 id' hw) with ⟨h1,h⟩ | ⟨h1,h,_⟩
  ·exact .inl ⟨h1,h⟩
  ·exact .inr ⟨h1,h⟩
 ·refine .head stepR_region_draw ?_;have hsched:Region.schedule (C.P.follows .mixedOrders) ops (w.tape w.drawn (.order b.fn id))=Region.linearise.go .any ops ops.size (w.tape w.drawn (.order b.fn id)) (Array.replicate ops.size false) []:=by
   simp only[Region.schedule,hmix,Bool.true_or,if_true]
   rfl
  rw[hsched];exact Steps.trans st (.one stepR_region_end)
end
end Hx
end
