/- Slices of slices and of arrays; lengths. -/
import Derived.Test.YtkbieohddgjioaaHxOpsI
set_option linter.unusedVariables false
set_option linter.unusedSimpArgs false
set_option linter.unnecessarySimpa false
namespace Hx
open Go

section
variable {C : Cfg} {A : Nat → Nat → Prop} {bd : Nat} {w w' : World} {γ γ' : Gm} {hg : Nat → AObj} {nx : Nat}

/-- A bound that may be left out. -/
def OVR (w : World) (γ : Gm) (A : Nat → Nat → Prop) (bd : Nat) : Option AV → Option Value → Prop
  | none, none => True
  | some x, some v => RV w γ A bd x v
  | _, _ => False

theorem ovr_head {xs : List AV} {vs : List Value} (h : RVs w γ A bd xs vs) : OVR w γ A bd xs.head? vs.head? := by
  cases xs with
  | nil => cases vs with
    | nil => trivial
    | cons v vs => have := h.1; simp at this
  | cons x xs => cases vs with
    | nil => have := h.1; simp at this
    | cons v vs => exact h.2 0 x v rfl rfl

theorem natOf_le {lim n : Nat} {x : AV} (h : natOf lim x = some n) : n ≤ lim := by
  unfold natOf at h
  split at h
  · rw [bif'_eq] at h
    split at h
    · rename_i hl; rw [Nat.ble_eq] at hl; injection h with h; omega
    · cases h
  · cases h
theorem bound_zero {n : Nat} {x : Option AV} (h : boundOf 0 0 x = some n) : n = 0 := by
  cases x with
  | none => simp [boundOf] at h; omega
  | some z => have := natOf_le h; omega

theorem sliceBound_run {P : Program} {lim y n : Nat} {x : AV} {v : Value} {code : BoundsCode} (h : natOf lim x = some n) (hv : RV w γ A bd x v) (hy : lim ≤ y) :
    (Instr.sliceBound v y code).run P w = .ok n w ∧ n ≤ lim := by
  obtain ⟨h1, k, rfl⟩ := natOf_rv h hv
  refine ⟨?_, h1⟩
  unfold Instr.sliceBound
  simp only [asIntOf, Sem.run_bind, Sem.run_pure, Result.andThen_ok]
  rw [if_pos (by omega)]
  simp

theorem sliceBounds_run {P : Program} {isSlice : Bool} {len cap : Nat} {lo hi mx : Option AV} {lv hv mv : Option Value} {l h m d limM lh : Nat}
    (hlo : OVR w γ A bd lo lv) (hhi : OVR w γ A bd hi hv) (hmx : OVR w γ A bd mx mv) (hm : mx = none → m = cap) (hm' : mx ≠ none → boundOf d limM mx = some m ∧ limM ≤ cap)
    (hmh : mx ≠ none → hi ≠ none) (hh : boundOf len lh hi = some h) (hlh : lh ≤ m) (hl : boundOf 0 h lo = some l) :
    (Instr.sliceBounds isSlice len cap lv hv mv).run P w = .ok (l, h, m) w ∧ l ≤ h ∧ (hi = none ∧ h = len ∨ h ≤ lh) := by
  have H : l ≤ h ∧ ∀ code, (match lv with | some v => Instr.sliceBound v h code | none => pure 0 : Sem Nat).run P w = .ok l w := by
    cases lo with
    | none =>
      cases lv with
      | none => simp [boundOf] at hl; subst hl; exact ⟨Nat.zero_le _, fun _ => rfl⟩
      | some v => cases hlo
    | some x =>
      cases lv with
      | none => cases hlo
      | some v => exact ⟨(sliceBound_run (code := .index) (P := P) hl hlo (Nat.le_refl _)).2, fun code => (sliceBound_run hl hlo (Nat.le_refl _)).1⟩
  obtain ⟨H1, H2⟩ := H
  cases mx with
  | none =>
    cases mv with
    | some v => cases hmx
    | none =>
      have := hm rfl; subst this
      cases hi with
      | none =>
        cases hv with
        | some v => cases hhi
        | none =>
          simp [boundOf] at hh; subst hh
          refine ⟨?_, H1, .inl ⟨rfl, rfl⟩⟩
          have h2 := H2 .sliceB
          unfold Instr.sliceBounds
          cases lv <;> simp_all
      | some x =>
        cases hv with
        | none => cases hhi
        | some v =>
          have h3 := fun code => (sliceBound_run (P := P) (code := code) hh hhi hlh).1
          refine ⟨?_, H1, .inr (sliceBound_run (P := P) (code := .index) hh hhi hlh).2⟩
          have h2 := H2 .sliceB
          unfold Instr.sliceBounds
          cases lv <;> simp_all
  | some xm =>
    cases mv with
    | none => cases hmx
    | some vm =>
      obtain ⟨hm1, hm2⟩ := hm' (by simp)
      have h4 := fun code => (sliceBound_run (P := P) (code := code) hm1 hmx hm2).1
      cases hi with
      | none => exact absurd rfl (hmh (by simp))
      | some x =>
        cases hv with
        | none => cases hhi
        | some v =>
          have h3 := fun code => (sliceBound_run (P := P) (code := code) hh hhi hlh).1
          refine ⟨?_, H1, .inr (sliceBound_run (P := P) (code := .index) hh hhi hlh).2⟩
          have h2 := H2 .slice3C
          unfold Instr.sliceBounds
          cases lv <;> simp_all

theorem slice_run {ty e : TypeId} {sz len cap l h m : Nat} {a : Option Addr} {lv hv mv : Option Value} (hu : C.P.underlying ty = some (.slice e)) (hsz : szT C.P e = some sz)
    (hb : (Instr.sliceBounds true len cap lv hv mv).run C.P w = .ok (l, h, m) w) :
    (Instr.sliceAt ty (.slice a len cap) lv hv mv).run C.P w = .ok (.slice (if m = l then a else a.map (·.add (l * sz))) (h - l) (m - l)) w := by
  unfold Instr.sliceAt Instr.slice
  simp [run_und hu, hb, run_sizeOf hsz]

theorem sliceA_sim {ty e : TypeId} {sz : Nat} {x : AV} {lo hi mx : Option AV} {v : Value} {lv hv mv : Option Value} {g : G}
    (hr : Rel C A bd w γ hg nx) (hu : C.P.underlying ty = some (.slice e)) (hsz : szT C.P e = some sz) (hx : RV w γ A bd x v)
    (hlo : OVR w γ A bd lo lv) (hhi : OVR w γ A bd hi hv) (hmx : OVR w γ A bd mx mv) (hmh : mx ≠ none → hi ≠ none) (agree : ∀ id ∈ refIds x, hg id = g.h.get id) :
    ValSim C A bd w γ (Instr.sliceAt ty v lv hv mv) (orV (sliceA sz x lo hi mx g.h)) := by
  refine orV_sim fun y hy => ?_
  have zero : ∀ (a : Option Addr), v = .slice a 0 0 → ∀ p q r, boundOf 0 0 lo = some p → boundOf 0 0 hi = some q → boundOf 0 0 mx = some r →
      (Instr.sliceAt ty v lv hv mv).run C.P w = .ok (.slice a 0 0) w := by
    intro a hv' p q r h1 h2 h3
    subst hv'
    have hr0 := bound_zero h3
    have hq0 := bound_zero h2
    have hp0 := bound_zero h1
    subst hr0; subst hq0; subst hp0
    obtain ⟨b1, b2, b3⟩ := sliceBounds_run (P := C.P) (isSlice := true) (len := 0) (cap := 0) (l := 0) (h := 0) (m := 0) hlo hhi hmx (fun _ => rfl) (fun _ => ⟨h3, Nat.le_refl _⟩) hmh h2 (Nat.le_refl _) h1
    rw [slice_run hu hsz b1]; simp
  unfold sliceA at hy
  cases hx with
  | nils =>
    dsimp only at hy
    split at hy
    · rename_i p q r h1 h2 h3
      injection hy with hy; subst hy
      exact ⟨_, zero none rfl p q r h1 h2 h3, .nils _⟩
    · cases hy
  | esl _ a =>
    dsimp only at hy
    split at hy
    · rename_i p q r h1 h2 h3
      injection hy with hy; subst hy
      exact ⟨_, zero (some a) rfl p q r h1 h2 h3, .esl _ a⟩
    · cases hy
  | tnil _ tag sz' a cap ht =>
    cases mx with
    | none =>
      cases mv with
      | some z => cases hmx
      | none =>
        dsimp only at hy
        split at hy
        · cases hy
        · rename_i h hh
          split at hy
          · cases hy
          · rename_i l hl
            simp only [bif'_eq] at hy
            split at hy
            · injection hy with hy; subst hy
              have hcap : (lenR ([] : List (List AV))) = 0 := rfl
              rw [hcap] at hh
              obtain ⟨b1, b2, b3⟩ := sliceBounds_run (P := C.P) (isSlice := true) (len := 0) (cap := cap) (d := 0) (limM := 0) hlo hhi hmx (fun _ => rfl) (fun h => absurd rfl h) hmh hh (Nat.zero_le _) hl
              have e1 : h = 0 := by omega
              have e2 : l = 0 := by omega
              subst e1; subst e2
              refine ⟨_, slice_run hu hsz b1, ?_⟩
              have e3 : takeR (0 - 0) (dropR 0 ([] : List (List AV))) = [] := by simp [takeR_eq]
              rw [e3]
              by_cases hc : cap = 0
              · rw [if_pos hc]; exact .tnil _ tag sz a _ ht
              · rw [if_neg hc]; exact .tnil _ tag sz _ _ ht
            · cases hy
    | some xm =>
      dsimp only at hy
      cases mv with
      | none => cases hmx
      | some vm =>
        split at hy
        · rename_i p q r h1 h2 h3
          injection hy with hy; subst hy
          have e1 : p = 0 := by have := natOf_le h1; omega
          subst e1
          obtain ⟨b1, b2, b3⟩ := sliceBounds_run (P := C.P) (isSlice := true) (len := 0) (cap := cap) (d := 0) (limM := 0) (m := 0) hlo hhi hmx (fun h => by cases h) (fun _ => ⟨h1, Nat.zero_le _⟩) hmh h2 (Nat.le_refl _)
            (by rw [bound_zero h2]; exact h3)
          have e1 : q = 0 := by omega
          have e2 : r = 0 := by omega
          subst e1; subst e2
          refine ⟨_, slice_run hu hsz b1, ?_⟩
          simpa using RV.esl _ a
        · cases hy
  | tsl _ tag sz' rows b o cap cell ht hc hb hm ha hrl ho hw hcell hcl =>
    cases mx with
    | none =>
      cases mv with
      | some z => cases hmx
      | none =>
        simp only [lenR_eq, takeR_eq, dropR_eq] at hy
        split at hy
        · cases hy
        · rename_i h hh
          split at hy
          · cases hy
          · rename_i l hl
            simp only [bif'_eq] at hy
            split at hy
            · rename_i hsz'
              have hsz' := nat_beq hsz'; subst hsz'
              injection hy with hy; subst hy
              obtain ⟨b1, b2, b3⟩ := sliceBounds_run (P := C.P) (isSlice := true) (len := rows.length) (cap := cap) (d := 0) (limM := 0) hlo hhi hmx (fun _ => rfl) (fun h => absurd rfl h) hmh hh hc hl
              have e1 : h ≤ rows.length := by omega
              refine ⟨_, slice_run hu hsz b1, ?_⟩
              have hlen : ((rows.drop l).take (h - l)).length = h - l := by simp; omega
              by_cases hc0 : cap = l
              · rw [if_pos hc0]
                have e2 : h - l = 0 := by omega
                rw [e2, List.take_zero]
                exact .tnil _ tag sz _ _ ht
              · rw [if_neg hc0]
                simp only [Option.map_some, adr_add]
                have := RV.tsl (w := w) (γ := γ) (A := A) bd tag sz ((rows.drop l).take (h - l)) b (o + l * sz) (cap - l) (fun i j => cell (l + i) j) ht (by rw [hlen]; omega) hb hm ha
                  (fun i row hi => ?_) (fun i j row x hi hj => ?_) (fun i j row x hi hj => ?_) (fun i j row x hi hj => ?_) (fun row hrow => hcl row (List.mem_of_mem_drop (List.mem_of_mem_take hrow)))
                · rwa [hlen] at this
                all_goals
                  have hi' := hi
                  rw [List.getElem?_take, ] at hi'
                  split at hi'
                  · rw [List.getElem?_drop] at hi'
                    first
                    | exact hrl _ _ hi'
                    | exact ho _ _ _ _ hi' hj
                    | exact hcell _ _ _ _ hi' hj
                    | (have := hw _ _ _ _ hi' hj
                       rwa [show o + l * sz + i * sz + j = o + (l + i) * sz + j from by rw [Nat.add_mul]; omega])
                  · cases hi'
            · cases hy
    | some xm =>
      dsimp only at hy
      cases mv with
      | none => cases hmx
      | some vm =>
        split at hy
        · rename_i p q r h1 h2 h3
          injection hy with hy; subst hy
          have e1 : p = 0 := by have := natOf_le h1; omega
          subst e1
          cases hi with
          | none => exact absurd rfl (hmh (by simp))
          | some z =>
            cases hv with
            | none => cases hhi
            | some vh =>
              have e0 := bound_zero h2
              subst e0
              obtain ⟨b1, b2, b3⟩ := sliceBounds_run (P := C.P) (isSlice := true) (len := rows.length) (cap := cap) (d := 0) (limM := 0) (m := 0) (lh := 0) (h := 0) hlo hhi hmx (fun h => by cases h) (fun _ => ⟨h1, Nat.zero_le _⟩) hmh h2 (Nat.le_refl _) h3
              have e2 : r = 0 := by omega
              subst e2
              refine ⟨_, slice_run hu hsz b1, ?_⟩
              simpa using RV.esl _ _
        · cases hy
  | hsl _ id ep off len lim b0 o0 cap0 hk he hc0 h0 =>
    have hagree := agree id (by simp [refIds])
    dsimp only at hy
    rw [← hagree] at hy
    cases hid : hg id with
    | cells sz' rows ep' loose fz =>
      rw [hid] at hy
      simp only [bif'_eq, lenR_eq] at hy
      split at hy
      · rename_i hcond
        simp only [Bool.and_eq_true, Nat.ble_eq] at hcond
        obtain ⟨⟨h1, h2⟩, h3⟩ := hcond
        have h1 := nat_beq h1; have h2 := nat_beq h2; subst h1; subst h2
        obtain ⟨cap, hv', hlc, hco⟩ := hsl_at hr (RV.hsl bd id ep off len lim b0 o0 cap0 hk he hc0 h0) hid
        rw [hv']
        have hob := hr.obj id
        rw [hid] at hob
        obtain ⟨k1, k2, k3, k4, k5, _⟩ := hob
        split at hy
        · cases hy
        · rename_i m hm
          split at hy
          · cases hy
          · rename_i h hh
            split at hy
            · cases hy
            · rename_i l hl
              -- the least cap known
              let m0 := lim.getD (rows.length - off)
              have hm0 : m0 ≤ cap := by
                unfold CapOk at hco
                cases lim <;> simp only [m0, Option.getD] at * <;> omega
              have hstrict : lim ≠ none ∨ loose = false → cap = m0 := by
                unfold CapOk at hco
                intro h
                cases lim with
                | none => simp at h; have := k5.1 h; simp only [m0, Option.getD]; dsimp only at hco; omega
                | some c => simp only [m0, Option.getD]; exact hco.1
              have hmm : mx ≠ none → m ≤ m0 := by
                intro h
                cases mx with
                | none => exact absurd rfl h
                | some z => cases mv with
                  | none => cases hmx
                  | some zv => exact natOf_le hm
              have hmn : mx = none → m = m0 := by
                intro h; subst h; simp [boundOf] at hm; exact hm.symm
              -- the model's m
              let mR := if mx = none then cap else m
              have hmR : m ≤ mR := by
                simp only [mR]; split
                · rename_i h; rw [hmn h]; exact hm0
                · exact Nat.le_refl _
              obtain ⟨b1, b2, b3⟩ := sliceBounds_run (P := C.P) (isSlice := true) (len := len) (cap := cap) (d := m0) (limM := m0) (m := mR) (lh := m) hlo hhi hmx
                (fun h => by simp [mR, h]) (fun h => ⟨by simp only [mR, if_neg h]; exact hm, hm0⟩) hmh hh hmR hl
              refine ⟨_, slice_run hu hsz b1, ?_⟩
              have hlen : len ≤ m0 := by
                unfold CapOk at hco
                cases lim with
                | none => simp only [m0, Option.getD]; omega
                | some c => simp only [m0, Option.getD]; omega
              have hhm : h ≤ m := by
                rcases b3 with ⟨e1, e2⟩ | e1
                · have : mx = none := by
                    cases mx with
                    | none => rfl
                    | some z => exact absurd e1 (hmh (by simp))
                  rw [hmn this, e2]; exact hlen
                · exact e1
              split at hy
              · rename_i hml
                have hml := nat_beq hml
                subst hml
                have e1 : h = m := by omega
                subst e1
                split at hy
                · rename_i hcond
                  injection hy with hy; subst hy
                  have e2 : mR = h := by
                    simp only [mR]; split
                    · rename_i hmx0
                      rw [hstrict, hmn hmx0]
                      subst hmx0
                      simp at hcond
                      cases lim with
                      | none => right; simpa using hcond
                      | some c => left; simp
                    · rfl
                  rw [if_pos e2, e2, Nat.sub_self]
                  exact .esl _ _
                · injection hy with hy; subst hy
                  rw [Nat.sub_self]
                  by_cases h9 : mR = h
                  · rw [if_pos h9]; exact .tnil _ 0 sz _ _ (Nat.zero_le _)
                  · rw [if_neg h9]; exact .tnil _ 0 sz _ _ (Nat.zero_le _)
              · rename_i hml
                injection hy with hy; subst hy
                have hlt : l < m := by
                  rcases Nat.lt_or_ge l m with h9 | h9
                  · exact h9
                  · exact absurd (by rw [show m = l from by omega]; exact Nat.beq_refl l) hml
                rw [if_neg (show ¬ mR = l by omega)]
                simp only [Option.map_some, adr_add]
                refine .hsl _ id ep (off + l) (h - l) _ _ _ _ k1 (by omega) (by omega) fun _ => ⟨rfl, by rw [k3, Nat.add_mul]; omega, ?_⟩
                cases mx with
                | some z =>
                  have e3 : mR = m := by simp [mR]
                  have e4 := hmm (by simp)
                  simp only [CapOk]
                  rw [e3, k4]
                  unfold CapOk at hco
                  cases lim with
                  | none => simp only [m0, Option.getD] at e4; omega
                  | some c => simp only [m0, Option.getD] at e4; dsimp only at hco; omega
                | none =>
                  have e3 : mR = cap := by simp [mR]
                  unfold CapOk at hco ⊢
                  cases lim with
                  | none => dsimp only [Option.map] at hco ⊢; omega
                  | some c => dsimp only [Option.map] at hco ⊢; omega
      · cases hy
    | _ => rw [hid] at hy; cases hy
  | _ => cases hy

end
end Hx
