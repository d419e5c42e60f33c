/- Calls of values, rounds of loops over functions, one operation whatever it is. -/
import Derived.Test.YtkbieohddgjioaaHxOp
import Derived.RangeFuncIn
set_option linter.unusedVariables false
set_option linter.unusedSimpArgs false
set_option linter.unnecessarySimpa false
namespace Hx
open Go

section
variable {C : Cfg} {A : Nat → Nat → Prop} {bd : Nat} {w w' : World} {γ γ' : Gm} {hg : Nat → AObj} {nx : Nat}
variable {t : T} {g : G} {ih : IH}

/-- The objects that an operation looks at are there as the interpreter has them. -/
def Agr (lk : Looks) (g : G) (hg : Nat → AObj) : Prop :=
  if lk.big then Ext g.h hg else ∀ id ∈ lk.rd ++ lk.sr.map (·.1), g.h.get id ≠ .none → hg id = g.h.get id

theorem Ext.agr {lk : Looks} (h : Ext g.h hg) : Agr lk g hg := by
  unfold Agr
  split
  · exact h
  · exact fun id _ hne => h id hne

theorem setParams_sim {nt : Nat} : ∀ {ps : List Nat} {xs : List AV} {us : List Value} {t t' : T} {tmps : Array Value}, setParams t nt ps xs = some t' → TR w γ A bd nt t tmps → RVs w γ A bd xs us →
    ps.length = us.length ∧ TR w γ A bd nt t' ((ps.zip us).foldl (fun tmps (t, a) => tmps.setIfInBounds t a) tmps) := by
  intro ps
  induction ps with
  | nil =>
    intro xs us t t' tmps h ht hv
    cases xs with
    | nil =>
      simp only [setParams] at h; injection h with h; subst h
      have : us = [] := List.length_eq_zero_iff.1 hv.1.symm
      subst this; exact ⟨rfl, ht⟩
    | cons x xs => simp [setParams] at h
  | cons p ps ih =>
    intro xs us t t' tmps h ht hv
    cases xs with
    | nil => simp [setParams] at h
    | cons x xs =>
      cases us with
      | nil => have := hv.1; simp at this
      | cons u us =>
        simp only [setParams, bif'_eq] at h
        split at h
        · rename_i hp
          rw [Nat.blt_eq] at hp
          have h0 : RV w γ A bd x u := hv.2 0 x u rfl rfl
          have hrest : RVs w γ A bd xs us := ⟨by have := hv.1; simpa using this, fun i x' u' hx hu => hv.2 (i + 1) x' u' (by simpa using hx) (by simpa using hu)⟩
          have ht' : TR w γ A bd nt ((sp AV.undef p).run t x) (tmps.setIfInBounds p u) := by
            refine ⟨by simp [ht.1], fun i => ?_⟩
            rw [sp_get]
            by_cases hi : i = p
            · subst hi; rw [if_pos rfl]
              have : i < tmps.size := by rw [ht.1]; exact hp
              simpa [Array.getD, this] using h0
            · rw [if_neg hi]
              have := ht.2 i
              simp only [Array.getD_eq_getD_getElem?] at this ⊢
              rw [Array.getElem?_setIfInBounds_ne (Ne.symm hi)]; exact this
          obtain ⟨a1, a2⟩ := ih h ht' hrest
          exact ⟨by simp [a1], by simpa using a2⟩
        · cases h

/-- A round, from the call of yield to its return. -/
theorem round_sim (hi : IHOk C ih) (hr : Rel C A bd w γ hg nx) (hx : Ext g.h hg) (hwf : WF g) {id : Nat} {args : List AV} {vs : List Value}
    (hk : (γ id).kind = 3) (hv : RVs w γ A bd args vs) {r : OR} (h : roundA ih (bd + 1) id args g = r) (hne : r ≠ .fail) (hf : Free γ g (gOf g r)) (c : Frame) (cs : List Frame) :
    ∃ f tmps assign body, (Instr.yield (γ id).blk vs.toArray).run C.P w = .ok (.round (γ id).blk f tmps assign body) w ∧
      ∃ u w' γ' hg', Fin C A bd w γ hg nx g w' γ' hg' (gOf g r) ∧ RV w' γ' A bd (vOf r) u ∧
        Steps C.P (lone (Frame.round (γ id).blk f tmps assign body .normal) (c :: cs) w) (lone (c.finish u) cs w') := by
  unfold roundA at h
  split at h
  rotate_left
  · exact absurd h.symm hne
  rename_i nt t0 ps assign bodyX dfr0 st0 pend0 hget
  have hget : g.h.get id = .loop nt t0 ps assign bodyX dfr0 st0 pend0 := by simpa using hget
  have hid : hg id = .loop nt t0 ps assign bodyX dfr0 st0 pend0 := by rw [hx id (by rw [hget]; simp), hget]
  have hob := hr.obj id
  rw [hid] at hob
  obtain ⟨k1, k2, L, k3, k4, k5, k6, k7, k8, k9, k10, k11, k12⟩ := hob
  split at h
  · exact absurd h.symm hne
  rename_i t' hset
  have ht0 : TR w γ A bd nt t0 L.tmps := ⟨k9, k10⟩
  obtain ⟨hlen, ht'⟩ := setParams_sim hset ht0 hv
  split at h
  rotate_left
  · exact absurd h.symm hne
  rename_i t1 g1 h1
  split at h
  rotate_left
  · exact absurd h.symm hne
  rename_i nt1 t2 ps2 assign2 body1 dfr pend hget1
  have hget1 : g1.h.get id = .loop nt1 t2 ps2 assign2 body1 dfr .ready pend := by simpa using hget1
  split at h
  rotate_left
  · exact absurd h.symm hne
  rename_i e t3 g2 h2
  split at h
  rotate_left
  · exact absurd h.symm hne
  rename_i nt3 t4 ps4 assign4 body4 dfr4 st4 pend4 hget2
  have hget2 : g2.h.get id = .loop nt3 t4 ps4 assign4 body4 dfr4 st4 pend4 := by simpa using hget2
  -- numbers
  have m1 := hi.mon.code _ _ _ _ _ _ _ _ _ _ _ h1 hwf
  have w1 : WF g1 := m1.wf hwf
  have m2 : Mon g1 (g1.put id (.loop nt1 t2 ps2 assign2 body1 dfr .busy pend)) := Mon.put w1 (by rw [hget1]; simp)
  have w2 := m2.wf w1
  have m3 := hi.mon.code _ _ _ _ _ _ _ _ _ _ _ h2 w2
  have w3 := m3.wf w2
  have m4 : ∀ o, Mon g2 (g2.put id o) := fun o => Mon.put w3 (by rw [hget2]; simp)
  have hnx : (gOf g r).nx = g2.nx := by
    subst h
    cases e <;> simp [gOf]
  have hfree2 : Free γ g g2 := fun i a b => hf i a (by rw [hnx]; exact b)
  -- the assignments to the left side
  let bR : Frame := { (default : Frame) with fn := L.fn, kind := .normal, roundOf := some (γ id).blk }
  let tmps := (L.params.zip vs.toArray).foldl (fun tmps (t, a) => tmps.setIfInBounds t a) L.tmps
  have htm : tmps = (ps.zip vs).foldl (fun tmps (t, a) => tmps.setIfInBounds t a) L.tmps := by
    simp only [tmps, ← Array.foldl_toList, Array.toList_zip, k6]
  have hyield : (Instr.yield (γ id).blk vs.toArray).run C.P w = .ok (.round (γ id).blk L.fn tmps assign bodyX) w := by
    unfold Instr.yield
    have hs : vs.toArray.size = L.params.size := by rw [← k6] at hlen; simpa using hlen.symm
    simp only [Sem.run_bind, getLoop_run k3, Result.andThen_ok, hs, ne_eq, not_true_eq_false, if_false, k7, k8]
    rfl
  have hframe : Frame.round (γ id).blk L.fn tmps assign bodyX .normal = bR.atR { tmps := tmps, defers := [] } [.code assign, .beginRound, .code bodyX] := by
    simp [Frame.round, Frame.atR, bR]
  obtain ⟨a1, wa, γa, hga, f1, tr1, dr1, ar1⟩ := hi.code _ _ _ _ _ _ _ _ _ _ _ h1 A w γ hg nx bR { tmps := tmps, defers := [] } [.beginRound, .code bodyX] (c :: cs) hr hx hwf
    (hfree2.le (Nat.le_trans m2.nx m3.nx)) (by rw [htm]; exact ht') trivial ⟨hk, rfl⟩ (.inl rfl)
  have hxa : Ext g1.h hga := f1.ext m1 hx
  have hida : hga id = .loop nt1 t2 ps2 assign2 body1 dfr .ready pend := by rw [hxa id (by rw [hget1]; simp), hget1]
  have hka : (γ id).kind ≠ 0 := by rw [hk]; decide
  have hblka : (γa id).blk = (γ id).blk := f1.stp.blk_eq hka (by rw [hk]; decide)
  have hobA := f1.rel.obj id
  rw [hida] at hobA
  obtain ⟨ka1, ka2, La, ka3, ka4, ka5, ka6, ka7, ka8, ka9, ka10, ka11, ka12⟩ := hobA
  -- the round begins
  have hsetA := f1.rel.setLoop (st' := .busy) (pend' := pend) hida ka3
  rw [hblka] at ka3 hsetA
  have hbegin : (Instr.beginRound (γ id).blk).run C.P wa = .ok () (World.setBlk wa (γ id).blk (.loop { La with state := .busy, pending := pend })) := by
    unfold Instr.beginRound
    simp only [Sem.run_bind, getLoop_run ka3, Result.andThen_ok, setLoop_run ka3, ka4, Sem.run_pure, ← ka5]
  have f2 : Fin C A bd wa γa hga (Nat.max nx g1.nx) g1 _ γa _ (g1.put id (.loop nt1 t2 ps2 assign2 body1 dfr .busy pend)) := Fin.ofPut hsetA.1 hsetA.2
  have f12 := f1.trans f2 m1 m2
  obtain ⟨a2, wb, γb, hgb, f3, tr3, dr3, ar3⟩ := hi.code _ _ _ _ _ _ _ _ _ _ _ h2 A _ γa _ (Nat.max nx (g1.put id (.loop nt1 t2 ps2 assign2 body1 dfr .busy pend)).nx) bR a1 [] (c :: cs) f12.rel (f12.ext (m1.trans m2) hx) w2
    (f12.freed hr (m1.trans m2) hfree2) (tr1.step hsetA.2) (by
      have := dr1.step hsetA.2
      exact this) ⟨by rw [f1.stp.kind_eq hka]; exact hk, by simp [bR, hblka]⟩ (.inl rfl)
  have f123 := f12.trans f3 (m1.trans m2) m3
  have hxb : Ext g2.h hgb := f123.ext ((m1.trans m2).trans m3) hx
  have hidb : hgb id = .loop nt3 t4 ps4 assign4 body4 dfr4 st4 pend4 := by rw [hxb id (by rw [hget2]; simp), hget2]
  have hblkb : (γb id).blk = (γ id).blk := f123.stp.blk_eq hka (by rw [hk]; decide)
  have hobB := f123.rel.obj id
  rw [hidb] at hobB
  obtain ⟨kb1, kb2, Lb, kb3, kb4, kb5, kb6, kb7, kb8, kb9, kb10, kb11, kb12⟩ := hobB
  have hsetB := fun st' pend' => f123.rel.setLoop (st' := st') (pend' := pend') hidb kb3
  rw [hblkb] at kb3 hsetB
  have hend : ∀ jump, (Instr.endRound (γ id).blk jump).run C.P wb = .ok (.bool jump.isNone) (World.setBlk wb (γ id).blk (.loop { Lb with state := if jump.isNone then .ready else .done, pending := jump })) := by
    intro jump
    unfold Instr.endRound
    simp only [Sem.run_bind, getLoop_run kb3, Result.andThen_ok, setLoop_run kb3, Sem.run_pure]
  refine ⟨L.fn, tmps, assign, bodyX, hyield, ?_⟩
  rw [hframe]
  have sbegin : Steps C.P (lone (bR.atR { tmps := tmps, defers := [] } [.code assign, .beginRound, .code bodyX]) (c :: cs) w) (lone (bR.atR a1 [.code bodyX]) (c :: cs) (World.setBlk wa (γ id).blk (.loop { La with state := .busy, pending := pend }))) :=
    Steps.trans ar1 (.one (stepR_beginRound rfl hbegin))
  have fin : ∀ (jump : Option Code) (st' : LoopState), st' = (if jump.isNone then .ready else .done) →
      Fin C A bd w γ hg nx g (World.setBlk wb (γ id).blk (.loop { Lb with state := st', pending := jump })) γb (upd hgb id (.loop nt3 t4 ps4 assign4 body4 dfr4 st' jump)) (g2.put id (.loop nt3 t4 ps4 assign4 body4 dfr4 st' jump)) := by
    intro jump st' _
    exact f123.trans (Fin.ofPut (hsetB st' jump).1 (hsetB st' jump).2) ((m1.trans m2).trans m3) (m4 _)
  subst h
  cases e with
  | norm => exact ⟨.bool true, _, γb, _, fin none .ready rfl, .bool _ _, Steps.trans sbegin (Steps.trans ar3 (.one (stepR_round_end rfl rfl (hend none))))⟩
  | exit j =>
    obtain ⟨k₁, hk₁, har⟩ := ar3
    exact ⟨.bool false, _, γb, _, fin (some (.exit j)) .done rfl, .bool _ _, Steps.trans sbegin (Steps.trans har (.one (stepR_round_exit rfl rfl (by rw [hk₁]; rfl) (hend (some (.exit j))))))⟩
  | ret =>
    obtain ⟨k₁, har⟩ := ar3
    exact ⟨.bool false, _, γb, _, fin (some .ret) .done rfl, .bool _ _, Steps.trans sbegin (Steps.trans har (.one (stepR_round_ret rfl rfl (hend (some .ret)))))⟩


/-- What a call of a value looks at. -/
noncomputable def lookF (C : Cfg) (fv : AV) (as : List AV) (g : G) : Looks :=
  match fv with
  | .clo f first cap => bif' ((C.ext f).isSome || C.iso f) (rdLook ((first ++ (as ++ cap)).flatMap (snapIds g.h depthA))) bigLook
  | _ => bigLook

theorem agr_big (h : Agr bigLook g hg) : Ext g.h hg := h

section
variable {b : Frame} {a : Act} {ops : Array Oper} {i : Nat} {rest : List Nat} {k : List Item} {cs : List Frame} {o : Oper}

/-- A call of a value. -/
theorem callF_sim (hC : CfgOk C) (hi : IHOk C ih) (hr : Rel C A bd w γ hg nx) (hwf : WF g) {fv : AV} {v : Value} {as : List AV} {vs : List Value}
    (hfv : RV w γ A bd fv v) (has : RVs w γ A bd as vs) (hag : Agr (lookF C fv as g) g hg)
    {r : OR} (h : callF C ih (bd + 1) fv as g = r) (hne : r ≠ .fail) (hf : Free γ g (gOf g r))
    (ho : ops[i]? = some o) (hw : Region.wanted o (yielded ops a.tmps) = true) (hd : ∀ c, o.op ≠ .defer c)
    (hexec : (execOp a.eval o).run C.P w = (do let d ← Deferred.ofValue v vs.toArray; invoke d.target d.args : Sem Next).run C.P w) :
    ∃ u w' γ' hg', Fin C A bd w γ hg nx g w' γ' hg' (gOf g r) ∧ RV w' γ' A bd (vOf r) u ∧
      Steps C.P (lone (b.atR a (.inRegion ops (i :: rest) :: k)) cs w) (lone (b.atR (a.put o.dst u) (.inRegion ops rest :: k)) cs w') := by
  cases hfv with
  | clo _ f xs ys vs1 us1 hl hl2 h1 h2 =>
    have hall : RVs w γ A bd (xs ++ (as ++ ys)) (vs1.toList ++ (vs ++ us1.toList)) := (RVs.ofArr hl h1).append (has.append (RVs.ofArr hl2 h2))
    have harr : (vs1.toList ++ (vs ++ us1.toList)).toArray = (vs1 ++ vs.toArray) ++ us1 := by apply Array.ext'; simp
    have henter : Enters C.P f → (execOp a.eval o).run C.P w = .ok (.enter f ((vs1 ++ vs.toArray) ++ us1)) w := by
      intro he
      rw [hexec]
      simp only [Deferred.ofValue, invoke, Sem.run_bind, Sem.run_pure, Result.andThen_ok]
      exact he _ _
    simp only [callF] at h
    simp only [lookF] at hag
    cases hext : C.ext f with
    | some e =>
      simp only [hext] at h hag
      have hx : ∀ id ∈ (xs ++ (as ++ ys)).flatMap (snapIds g.h depthA), g.h.get id ≠ .none → hg id = g.h.get id := by
        simpa [Agr, rdLook] using hag
      have hs := hC.ext f e hext
      subst h
      obtain ⟨u, w', γ', hg', f1, rv, out⟩ := hs A bd w γ hg nx g _ _ hr hwf hx hf hall hne (b.atR a (.inRegion ops (i :: rest) :: k) :: cs)
      rw [harr] at out
      rcases out with out | ⟨he, out⟩
      · refine ⟨u, w', γ', hg', f1, rv, .one (step_value ho hw hd ?_)⟩
        rw [hexec]
        simp only [Deferred.ofValue, invoke, Sem.run_bind, Sem.run_pure, Result.andThen_ok]
        exact out
      · exact ⟨u, w', γ', hg', f1, rv, steps_call ho hw hd (henter he) out⟩
    | none =>
      simp only [hext] at h hag
      cases hiso : C.iso f with
      | true =>
        simp only [hiso] at h hag
        have hx : ∀ id ∈ (xs ++ (as ++ ys)).flatMap (snapIds g.h depthA), g.h.get id ≠ .none → hg id = g.h.get id := by
          simpa [Agr, rdLook] using hag
        subst h
        obtain ⟨he, u, w', γ', hg', f1, rv, out⟩ := isoCall_sim hi.call hi.mon.call hr hx hall hne (b.atR a (.inRegion ops (i :: rest) :: k) :: cs)
        rw [harr] at out
        exact ⟨u, w', γ', hg', f1, rv, steps_call ho hw hd (henter he) out⟩
      | false =>
        simp only [hiso] at h hag
        have hx : Ext g.h hg := hag
        cases hcall : ih.call (bd + 1) f (xs ++ (as ++ ys)) g with
        | fail =>
          rw [hcall] at h
          exact absurd h.symm hne
        | ok rv0 g1 =>
          rw [hcall] at h
          have h : OR.upd rv0 g1 = r := h
          subst h
          obtain ⟨he, hs⟩ := hi.call _ _ _ _ _ _ hcall
          obtain ⟨u, w', γ', hg', f1, rv, out⟩ := hs A w γ hg nx _ hr hx hwf hf hall .normal (b.atR a (.inRegion ops (i :: rest) :: k) :: cs) (.inl rfl)
          rw [harr] at out
          exact ⟨u, w', γ', hg', f1, rv, steps_call ho hw hd (henter he) out⟩
  | yld _ id bl hk hb =>
    subst hb
    simp only [callF] at h
    have hx : Ext g.h hg := agr_big hag
    obtain ⟨f, tmps, assign, body, hy, u, w', γ', hg', f1, rv, st⟩ := round_sim hi hr hx hwf hk has h hne hf (b.atR a (.inRegion ops (i :: rest) :: k)) cs
    have hfin := Frame.finish_atR b a ops i rest k u
    rw [ho] at hfin
    simp only [Option.bind_some] at hfin
    rw [hfin] at st
    refine ⟨u, w', γ', hg', f1, rv, .head (step_round ho hw hd ?_) st⟩
    rw [hexec]
    simp only [Deferred.ofValue, invoke, Sem.run_bind, Sem.run_pure, Result.andThen_ok]
    simpa using hy
  | _ => exact absurd h.symm hne

/-- One operation that is no deferral. -/
theorem op_sim (hC : CfgOk C) (hi : IHOk C ih) (hr : Rel C A bd w γ hg nx) (hwf : WF g) {nt : Nat} {rd : Option Nat} (ht : TR w γ A bd nt t a.tmps) (hcalm : CalmK b.kind cs)
    (hag : Agr ((cFoot C o.op).run t g) g hg) {r : OR} (h : (cOpT C o.op).run ih (bd + 1) rd t g = r) (hne : r ≠ .fail) (hnd : ∀ x, r ≠ .dfr x) (hf : Free γ g (gOf g r))
    (ho : ops[i]? = some o) (hw : Region.wanted o (yielded ops a.tmps) = true) :
    ∃ u w' γ' hg', Fin C A bd w γ hg nx g w' γ' hg' (gOf g r) ∧ RV w' γ' A bd (vOf r) u ∧
      Steps C.P (lone (b.atR a (.inRegion ops (i :: rest) :: k)) cs w) (lone (b.atR (a.put o.dst u) (.inRegion ops rest :: k)) cs w') := by
  have hm : Mon g (gOf g r) := by rw [← h]; exact cOpT_mon hC.mon hi.mon hwf
  unfold cOpT at h
  split at h
  rotate_left
  · exact absurd h.symm hne
  rename_i f hcop
  generalize hop : o.op = op at hcop hag
  have hargs : ∀ (args : Array Operand), (args.toList.map a.eval).toArray = args.map a.eval := fun args => by apply Array.ext'; simp
  unfold cOp at hcop
  split at hcop
  · -- a call of a function
    rename_i fx args at2
    have hd : ∀ c, o.op ≠ .defer c := by rw [hop]; intro c h; cases h
    split at hcop
    · rename_i vs hvs
      simp only [cFoot, cRho, hvs] at hag
      refine callF_sim (fv := .clo fx [] []) (v := .func (.func fx) #[] #[]) (as := vs.run t) hC hi hr hwf (.clo _ fx [] [] #[] #[] rfl rfl (fun i x v h => by simp at h) (fun i x v h => by simp at h)) (rhos_sim ht hr hvs) hag ?_ hne hf ho hw hd ?_
      · rw [← h]
        simp only [callF, List.nil_append, List.append_nil]
        split at hcop
        · rename_i e he; injection hcop with hcop; subst hcop; rfl
        · rename_i he
          rw [bif'_eq] at hcop
          split at hcop
          · rename_i hiso; injection hcop with hcop; subst hcop; simp only [hiso]
          · rename_i hiso; injection hcop with hcop; subst hcop
            have : C.iso fx = false := by simpa using hiso
            simp only [this]
      · simp only [execOp, hop, resolve, hargs, Act.eval]
    · cases hcop
  · -- a call of a value
    rename_i fo args at2 hnf
    have hd : ∀ c, o.op ≠ .defer c := by rw [hop]; intro c h; cases h
    split at hcop
    · rename_i fv vs hfv hvs
      injection hcop with hcop; subst hcop
      simp only [cFoot, hfv, hvs] at hag
      refine callF_sim (fv := fv.run t) (v := a.eval fo) (as := vs.run t) hC hi hr hwf (rho_sim hfv ht hr) (rhos_sim ht hr hvs) hag h hne hf ho hw hd ?_
      simp only [execOp, hop, resolve, hargs]
    · cases hcop
  · -- recover
    have hd : ∀ c, o.op ≠ .defer c := by rw [hop]; intro c h; cases h
    injection hcop with hcop; subst hcop
    subst h
    refine ⟨.nilIface, w, γ, hg, Fin.refl hr, .nili _, .one (step_recover ho hw hd hC.recov hcalm ?_)⟩
    simp only [execOp, hop, resolve, invoke, Sem.run_bind, Sem.run_pure, Result.andThen_ok]
    rfl
  · -- defer
    split at hcop
    · injection hcop with hcop; subst hcop
      exfalso
      dsimp only at h
      split at h
      · exact hne h.symm
      · split at h
        · exact hnd _ h.symm
        · exact hne h.symm
    · cases hcop
  · -- simple
    split at hcop
    · rename_i s hs
      injection hcop with hcop; subst hcop
      have hd : ∀ c, o.op ≠ .defer c := by rw [hop]; rintro c rfl; simp [cSop] at hs
      have hlook : ∀ id ∈ lookIds C op t g, hg id = g.h.get id := by
        intro id hid
        have hn : g.h.get id ≠ .none := fun hn => hne (by rw [← h]; exact sop_none hs hid hn)
        unfold Agr at hag
        split at hag
        · exact hag id hn
        · exact hag id hid hn
      have hsim := sop_sim hs hop ht hr (hf g.nx (Nat.le_refl _) hm.nx) hlook
      have h : s.run t g = r := h
      rw [h] at hsim
      cases r with
      | fail => exact absurd rfl hne
      | val x =>
        obtain ⟨v, h1, h2⟩ := hsim
        exact ⟨v, w, γ, hg, Fin.refl hr, h2, step_gives ho hw hd h1⟩
      | upd x g' =>
        obtain ⟨v, w', γ', id, ob, h1, h2, h3, h4⟩ := hsim
        rcases h4 with ⟨rfl, h4⟩ | ⟨rfl, rfl, h4⟩
        · exact ⟨v, w', γ', _, Fin.ofPut h4 h3, h2, step_gives ho hw hd h1⟩
        · exact ⟨v, w', γ', _, Fin.ofNew h4 h3, h2, step_gives ho hw hd h1⟩
      | dfr x => exact absurd rfl (hnd x)
    · cases hcop
end

end
end Hx
