/- Tags; slices of arrays; lengths. -/
import Derived.Test.YtkbieohddgjioaaHxOpsJ
set_option linter.unusedVariables false
set_option linter.unusedSimpArgs false
set_option linter.unnecessarySimpa false
namespace Hx
open Go

section
variable {C : Cfg} {A : Nat → Nat → Prop} {bd : Nat} {w w' : World} {γ γ' : Gm} {hg : Nat → AObj} {nx : Nat}

theorem maxO_le {α : Type} {f : α → Option Nat} : ∀ {l : List α} {m : Nat}, maxO f l = some m → ∀ x ∈ l, ∃ k, f x = some k ∧ k ≤ m := by
  intro l
  induction l with
  | nil => intro m _ x hx; cases hx
  | cons a l ih =>
    intro m h x hx
    simp only [maxO] at h
    split at h
    · rename_i k hk
      split at h
      · rename_i b hb
        injection h with h; subst h
        rcases List.mem_cons.1 hx with rfl | hx
        · exact ⟨k, hk, Nat.le_max_left _ _⟩
        · obtain ⟨k', h1, h2⟩ := ih hb x hx
          exact ⟨k', h1, Nat.le_trans h2 (Nat.le_max_right _ _)⟩
      · cases h
    · cases h

/-- A value's own greatest tag bounds it. -/
theorem tagO_rv : ∀ (f : Nat) {x : AV} {v : Value} {m : Nat}, tagO f x = some m → RV w γ A bd x v → RV w γ A m x v := by
  intro f
  induction f with
  | zero => intro x v m h; cases h
  | succ f ih =>
    intro x v m h hx
    have hs : ∀ {cs : List AV} {vs : Array Value} {m' : Nat}, maxO (tagO f) cs = some m' → m' ≤ m →
        (∀ (i : Nat) x v, cs[i]? = some x → vs[i]? = some v → RV w γ A bd x v) → ∀ (i : Nat) x v, cs[i]? = some x → vs[i]? = some v → RV w γ A m x v := by
      intro cs vs m' h1 h2 h3 i x v hi hv
      obtain ⟨k, k1, k2⟩ := maxO_le h1 x (List.mem_of_getElem? hi)
      exact (ih k1 (h3 i x v hi hv)).mono (Nat.le_trans k2 h2)
    cases hx with
    | tsl _ tag sz rows b o cap cell ht hc hb hm ha hrl ho hw hcell hcl =>
      simp only [tagO] at h; injection h with h; subst h
      exact .tsl _ tag sz rows b o cap cell (Nat.le_refl _) hc hb hm ha hrl ho hw hcell hcl
    | tnil _ tag sz a cap ht =>
      simp only [tagO] at h; injection h with h; subst h
      exact .tnil _ tag sz a cap (Nat.le_refl _)
    | tptr _ tag sz rows i0 off0 b o cell ht hb hm ha hrl ho hw hcell hcl =>
      simp only [tagO] at h; injection h with h; subst h
      exact .tptr _ tag sz rows i0 off0 b o cell (Nat.le_refl _) hb hm ha hrl ho hw hcell hcl
    | agg _ xs vs hl h1 h2 => exact .agg _ _ _ hl h1 (hs h (Nat.le_refl _) h2)
    | tup _ xs vs hl h2 => exact .tup _ _ _ hl (hs h (Nat.le_refl _) h2)
    | clo _ g xs ys vs us hl hl2 h1 h2 =>
      simp only [tagO] at h
      have ha := maxO_le h
      refine .clo _ g xs ys vs us hl hl2 (fun i x v hi hv => ?_) (fun i x v hi hv => ?_)
      · obtain ⟨k, k1, k2⟩ := ha x (List.mem_append_left _ (List.mem_of_getElem? hi))
        exact (ih k1 (h1 i x v hi hv)).mono k2
      · obtain ⟨k, k1, k2⟩ := ha x (List.mem_append_right _ (List.mem_of_getElem? hi))
        exact (ih k1 (h2 i x v hi hv)).mono k2
    | ifc _ t x v h1 => exact .ifc _ t x v (ih h h1)
    | bool => exact .bool _ _
    | int => exact .int _ _ _
    | str => exact .str _ _
    | nilp => exact .nilp _
    | nils => exact .nils _
    | nilf => exact .nilf _
    | nilm => exact .nilm _
    | nili => exact .nili _
    | esl _ a => exact .esl _ a
    | hsl _ id ep off len lim b o cap hk he hc h' => cases h
    | hptr _ id ep i off b o hk he h' => cases h
    | hmap _ id b hk hb => cases h
    | yld _ id b hk hb => cases h

theorem maxO_bound {α : Type} {f : α → Option Nat} {b : Nat} : ∀ {l : List α} {m : Nat}, maxO f l = some m → (∀ x ∈ l, ∀ k, f x = some k → k ≤ b) → m ≤ b := by
  intro l
  induction l with
  | nil => intro m h _; simp [maxO] at h; omega
  | cons a l ih =>
    intro m h hb
    simp only [maxO] at h
    split at h
    · rename_i k hk
      split at h
      · rename_i b' hb'
        injection h with h; subst h
        exact Nat.max_le.2 ⟨hb a List.mem_cons_self k hk, ih hb' fun x hx => hb x (List.mem_cons_of_mem _ hx)⟩
      · cases h
    · cases h

theorem tagO_le : ∀ (f : Nat) {x : AV} {v : Value} {m : Nat}, tagO f x = some m → RV w γ A bd x v → m ≤ bd := by
  intro f
  induction f with
  | zero => intro x v m h; cases h
  | succ f ih =>
    intro x v m h hx
    have hs : ∀ {cs : List AV} {vs : Array Value}, cs.length = vs.size →
        (∀ (i : Nat) x v, cs[i]? = some x → vs[i]? = some v → RV w γ A bd x v) → ∀ x ∈ cs, ∀ k, tagO f x = some k → k ≤ bd := by
      intro cs vs hl h3 x hx k hk
      obtain ⟨i, hi⟩ := List.getElem?_of_mem hx
      have hlt : i < vs.size := by rw [← hl]; exact (List.getElem?_eq_some_iff.1 hi).1
      exact ih hk (h3 i x _ hi (Array.getElem?_eq_getElem hlt))
    cases hx with
    | tsl _ tag sz rows b o cap cell ht hc hb hm ha hrl ho hw hcell hcl => simp only [tagO] at h; injection h with h; omega
    | tnil _ tag sz a cap ht => simp only [tagO] at h; injection h with h; omega
    | tptr _ tag sz rows i0 off0 b o cell ht hb hm ha hrl ho hw hcell hcl => simp only [tagO] at h; injection h with h; omega
    | agg _ xs vs hl h1 h2 => exact maxO_bound h (hs hl h2)
    | tup _ xs vs hl h2 => exact maxO_bound h (hs hl h2)
    | clo _ g xs ys vs us hl hl2 h1 h2 =>
      refine maxO_bound h fun x hx k hk => ?_
      rcases List.mem_append.1 hx with hx | hx
      · exact hs hl h1 x hx k hk
      · exact hs hl2 h2 x hx k hk
    | ifc _ t x v h1 => exact ih h h1
    | _ => first | (cases h; done) | (simp only [tagO] at h; injection h with h; omega)

theorem tagO_closed : ∀ (f : Nat) {x : AV} {v : Value} {m : Nat}, tagO f x = some m → RV w γ A bd x v → Closed x := by
  intro f
  induction f with
  | zero => intro x v m h; cases h
  | succ f ih =>
    intro x v m h hx
    have hs : ∀ {cs : List AV} {vs : Array Value}, cs.length = vs.size → (∀ x ∈ cs, ∃ k, tagO f x = some k) →
        (∀ (i : Nat) x v, cs[i]? = some x → vs[i]? = some v → RV w γ A bd x v) → ∀ x ∈ cs, Closed x := by
      intro cs vs hl h1 h3 x hx
      obtain ⟨i, hi⟩ := List.getElem?_of_mem hx
      have hlt : i < vs.size := by rw [← hl]; exact (List.getElem?_eq_some_iff.1 hi).1
      obtain ⟨k, hk⟩ := h1 x hx
      exact ih hk (h3 i x _ hi (Array.getElem?_eq_getElem hlt))
    have he : ∀ {cs : List AV} {m' : Nat}, maxO (tagO f) cs = some m' → ∀ x ∈ cs, ∃ k, tagO f x = some k := fun h x hx => by
      obtain ⟨k, k1, _⟩ := maxO_le h x hx; exact ⟨k, k1⟩
    cases hx with
    | tsl _ tag sz rows b o cap cell ht hc hb hm ha hrl ho hw hcell hcl => exact .tsl _ _ _ hcl
    | tnil => exact .tsl _ _ _ (fun row h => by cases h)
    | tptr _ tag sz rows i0 off0 b o cell ht hb hm ha hrl ho hw hcell hcl => exact .tptr _ _ _ _ _ hcl
    | agg _ xs vs hl h1 h2 => exact .agg _ (hs hl (he h) h2)
    | tup _ xs vs hl h2 => exact .tup _ (hs hl (he h) h2)
    | clo _ g xs ys vs us hl hl2 h1 h2 =>
      have hh := he h
      exact .clo _ _ _ (hs hl (fun x hx => hh x (List.mem_append_left _ hx)) h1) (hs hl2 (fun x hx => hh x (List.mem_append_right _ hx)) h2)
    | ifc _ t x v h1 => exact .ifc _ _ (ih h h1)
    | _ => first | (cases h; done) | constructor

theorem tagRows_rv {rows : List (List AV)} {m i j : Nat} {row : List AV} {x : AV} {v : Value} (h : tagRows rows = some m) (hi : rows[i]? = some row) (hj : row[j]? = some x)
    (hv : RV w γ A bd x v) : RV w γ A m x v := by
  obtain ⟨k, k1, k2⟩ := maxO_le h row (List.mem_of_getElem? hi)
  obtain ⟨k', k3, k4⟩ := maxO_le k1 x (List.mem_of_getElem? hj)
  exact (tagO_rv _ k3 hv).mono (Nat.le_trans k4 k2)

theorem chunks_get {sz : Nat} : ∀ (n : Nat) (cs : List AV), n * sz ≤ cs.length →
    (chunks sz n cs).length = n ∧ ∀ (i : Nat) row, (chunks sz n cs)[i]? = some row → row.length = sz ∧ ∀ (j : Nat) x, row[j]? = some x → cs[i * sz + j]? = some x := by
  intro n
  induction n with
  | zero => intro cs _; exact ⟨rfl, fun i row h => by simp [chunks] at h⟩
  | succ n ih =>
    intro cs h
    rw [Nat.add_mul, Nat.one_mul] at h
    obtain ⟨h1, h2⟩ := ih (cs.drop sz) (by simp; omega)
    simp only [chunks, dropR_eq, takeR_eq]
    refine ⟨by simp [h1], fun i row hi => ?_⟩
    cases i with
    | zero =>
      simp at hi; subst hi
      refine ⟨by simp; omega, fun j x hj => ?_⟩
      rw [List.getElem?_take] at hj
      split at hj
      · simpa using hj
      · cases hj
    | succ i =>
      simp at hi
      obtain ⟨h3, h4⟩ := h2 i row hi
      refine ⟨h3, fun j x hj => ?_⟩
      have := h4 j x hj
      rw [List.getElem?_drop] at this
      rw [Nat.add_mul, Nat.one_mul]
      rw [show i * sz + sz + j = sz + (i * sz + j) from by omega]; exact this

/-- An object that is not to be written any more. -/
theorem Rel.freeze (hr : Rel C A bd w γ hg nx) {id sz ep : Nat} {rows : List (List AV)} {loose fz : Bool} (hid : hg id = .cells sz rows ep loose fz) :
    ∃ γ', Rel C A bd w γ' (upd hg id (.cells sz rows ep loose true)) nx ∧ Stp w γ w γ' ∧ γ' = upd γ id { γ id with wr := false } ∧ ¬ Mut γ' (γ id).blk := by
  have hob := hr.obj id
  rw [hid] at hob
  obtain ⟨k1, k2, k3, k4, k5, k6, c, e, k7, k8, k9, k10⟩ := hob
  have s : Stp w γ w (upd γ id { γ id with wr := false }) := by
    refine ⟨Nat.le_refl _, rfl, rfl, rfl, fun _ _ _ => rfl, ?_, ?_, ?_⟩
    · rintro b _ ⟨j, h1, h2, h3⟩
      by_cases hj : j = id
      · subst hj; simp at h2
      · rw [upd_ne _ _ hj] at h1 h2 h3; exact ⟨j, h1, h2, h3⟩
    · intro j hk
      by_cases hj : j = id
      · subst hj; left; simp
      · rw [upd_ne _ _ hj]; exact .inl ⟨rfl, rfl⟩
    · intro j hk
      by_cases hj : j = id
      · subst hj; simp
      · rw [upd_ne _ _ hj]; exact ⟨Nat.le_refl _, fun _ => ⟨rfl, rfl, rfl, rfl, rfl⟩⟩
  refine ⟨_, hr.set rfl s (Nat.le_refl _) ?_ (hr.lt id (by rw [k1]; decide)) (fun j hj hkj e => hj (hr.inj j id hkj (by rw [k1]; decide) e)) (hr.av id (by rw [k1]; decide)) (fun _ _ _ _ => rfl), s, rfl, ?_⟩
  · simp only [ObjRel, upd_same]
    refine ⟨k1, k2, k3, k4, k5, rfl, c, e, k7, k8, k9, fun i j row x h1 h2 => ?_⟩
    obtain ⟨a, v, b1, b2⟩ := k10 i j row x h1 h2
    exact ⟨a, v, b1, b2.step s⟩
  · rintro ⟨j, h1, h2, h3⟩
    by_cases hj : j = id
    · subst hj; simp at h2
    · rw [upd_ne _ _ hj] at h1 h2 h3
      exact hj (hr.inj j id h1 (by rw [k1]; decide) h3)

theorem sliceArr_sim {ty e : TypeId} {n sz : Nat} {a : T → AV} {lo hi : T → Option AV} {t : T} {v : Value} {lv hv : Option Value} {g : G}
    (hr : Rel C A bd w γ hg nx) (hu : C.P.underlying ty = some (.array n e)) (hsz : szT C.P e = some sz) (hs0 : 0 < sz) (hx : RV w γ A bd (a t) v)
    (hlo : OVR w γ A bd (lo t) lv) (hhi : OVR w γ A bd (hi t) hv) (agree : ∀ id ∈ refIds (a t), hg id = g.h.get id) :
    UpdSim C A bd w γ hg nx (Instr.sliceAt ty v lv hv none) g (sliceArrF n sz a lo hi t g) := by
  unfold sliceArrF
  generalize a t = x at *
  generalize lo t = lo at *
  generalize hi t = hi at *
  split
  · trivial
  · rename_i h hh
    split
    · trivial
    · rename_i l hl
      obtain ⟨b1, b2, b3⟩ := sliceBounds_run (P := C.P) (isSlice := false) (len := n) (cap := n) (d := 0) (limM := 0) (mx := none) (mv := none) hlo hhi trivial (fun _ => rfl) (fun h => absurd rfl h)
        (fun h => absurd rfl h) hh (Nat.le_refl _) hl
      have hhn : h ≤ n := by omega
      have hrun : ∀ b o, v = .pointer (some (adr b o)) → (Instr.sliceAt ty v lv hv none).run C.P w = .ok (.slice (some (if n = l then adr b o else adr b (o + l * sz))) (h - l) (n - l)) w := by
        intro b o e; subst e
        unfold Instr.sliceAt
        simp [run_und hu, Instr.sureAddr, b1, run_sizeOf hsz, adr_add]
      cases hx with
      | tptr _ tag sz' rows i0 off0 b o cell ht hb hm ha hrl ho hw hcell hcl =>
        simp only [nthR_eq]
        cases hrow : rows[i0]? with
        | none => trivial
        | some row =>
          simp only [bif'_eq, lenR_eq, dropR_eq]
          split
          · rename_i hle
            rw [Nat.ble_eq] at hle
            have hm1 : l * sz + (h - l) * sz ≤ n * sz := by rw [← Nat.add_mul]; exact Nat.mul_le_mul_right _ (by omega)
            obtain ⟨c1, c2⟩ := chunks_get (sz := sz) (h - l) (row.drop (off0 + l * sz)) (by simp; omega)
            refine ⟨_, hrun _ _ rfl, ?_⟩
            by_cases hnl : n = l
            · have e0 : h - l = 0 := by omega
              rw [e0, if_pos hnl]
              exact .tnil _ tag sz _ _ ht
            · rw [if_neg hnl]
              have := RV.tsl (w := w) (γ := γ) (A := A) bd tag sz (chunks sz (h - l) (row.drop (off0 + l * sz))) b (o + i0 * sz' + off0 + l * sz) (n - l) (fun i j => cell i0 (off0 + l * sz + (i * sz + j))) ht (by rw [c1]; omega) hb hm ha
                (fun i r hi => (c2 i r hi).1) (fun i j r y hi hj => ?_) (fun i j r y hi hj => ?_) (fun i j r y hi hj => ?_)
                (fun r hr' y hy => by
                  obtain ⟨i, hi⟩ := List.getElem?_of_mem hr'
                  obtain ⟨j, hj⟩ := List.getElem?_of_mem hy
                  have h9 := (c2 i r hi).2 j y hj
                  rw [List.getElem?_drop] at h9
                  exact hcl row (List.mem_of_getElem? hrow) y (List.mem_of_getElem? h9))
              · rwa [c1] at this
              all_goals
                have h9 := (c2 i r hi).2 j y hj
                rw [List.getElem?_drop] at h9
                first
                | exact ho _ _ _ _ hrow h9
                | exact hcell _ _ _ _ hrow h9
                | (have := hw _ _ _ _ hrow h9
                   rwa [show o + i0 * sz' + off0 + l * sz + i * sz + j = o + i0 * sz' + (off0 + l * sz + (i * sz + j)) from by omega])
          · trivial
      | hptr _ id ep i off b o hk he h' =>
        have hagree := agree id (by simp [refIds])
        simp only [G.get_eq, ← hagree]
        cases hid : hg id with
        | cells sz' rows ep' loose fz =>
          simp only [bif'_eq, nthR_eq]
          split
          · rename_i hep
            have hep := nat_beq hep; subst hep
            cases hrow : rows[i]? with
            | none => trivial
            | some row =>
              simp only [lenR_eq, dropR_eq]
              split
              · rename_i hle
                rw [Nat.ble_eq] at hle
                have hm1 : l * sz + (h - l) * sz ≤ n * sz := by rw [← Nat.add_mul]; exact Nat.mul_le_mul_right _ (by omega)
                obtain ⟨c1, c2⟩ := chunks_get (sz := sz) (h - l) (row.drop (off + l * sz)) (by simp; omega)
                generalize hch : chunks sz (h - l) (row.drop (off + l * sz)) = rs at *
                cases htag : tagRows rs with
                | none => trivial
                | some m =>
                  dsimp only
                  have hob := hr.obj id
                  rw [hid] at hob
                  obtain ⟨k1, k2, k3, _⟩ := hob
                  obtain ⟨q1, q2⟩ := h' k2.symm
                  obtain ⟨γ', r1, r2, r3, r4⟩ := hr.freeze hid
                  refine ⟨_, w, γ', id, _, hrun _ _ (by rw [q1, q2]), ?_, r2, .inl ⟨rfl, r1⟩⟩
                  have hcell : ∀ (i' j : Nat) r y, rs[i']? = some r → r[j]? = some y → y.one = true ∧ ∃ v, w.cell? (adr (γ id).blk ((γ id).base + i * (γ id).sz + off + l * sz + i' * sz + j)) = some v ∧ RV w γ A bd y v := by
                    intro i' j r y hi hj
                    have h9 := (c2 i' r hi).2 j y hj
                    rw [List.getElem?_drop] at h9
                    have := row_cells hr hid hrow _ y h9
                    rwa [← k3, show (γ id).base + i * (γ id).sz + (off + l * sz + (i' * sz + j)) = (γ id).base + i * (γ id).sz + off + l * sz + i' * sz + j from by omega] at this
                  have hmb : m ≤ bd := by
                    refine maxO_bound htag fun r hr' k hk => maxO_bound hk fun y hy k' hk' => ?_
                    obtain ⟨i', hi⟩ := List.getElem?_of_mem hr'
                    obtain ⟨j, hj⟩ := List.getElem?_of_mem hy
                    obtain ⟨_, v, _, h3⟩ := hcell i' j r y hi hj
                    exact tagO_le _ hk' h3
                  by_cases hnl : n = l
                  · have e0 : rs = [] := by rw [← List.length_eq_zero_iff]; omega
                    rw [if_pos hnl, show h - l = 0 from by omega, e0]
                    exact .tnil _ m sz _ _ hmb
                  · rw [if_neg hnl]
                    subst q1
                    have := RV.tsl (w := w) (γ := γ') (A := A) bd m sz rs (γ id).blk ((γ id).base + i * (γ id).sz + off + l * sz) (n - l)
                      (fun i' j => (w.cell? (adr (γ id).blk ((γ id).base + i * (γ id).sz + off + l * sz + i' * sz + j))).getD undef) hmb (by rw [c1]; omega)
                      (hr.lt id (by rw [k1]; decide)).2 r4 (hr.av id (by rw [k1]; decide) m)
                      (fun i r hi => (c2 i r hi).1) (fun i j r y hi hj => (hcell i j r y hi hj).1) (fun i j r y hi hj => ?_) (fun i j r y hi hj => ?_)
                      (fun r hr' y hy => by
                        obtain ⟨i, hi⟩ := List.getElem?_of_mem hr'
                        obtain ⟨j, hj⟩ := List.getElem?_of_mem hy
                        obtain ⟨_, v, _, h3⟩ := hcell i j r y hi hj
                        obtain ⟨k, k1, k2⟩ := maxO_le htag r hr'
                        obtain ⟨k', k3, _⟩ := maxO_le k1 y hy
                        exact tagO_closed _ k3 h3)
                    · rwa [c1] at this
                    · obtain ⟨_, v, h3, _⟩ := hcell i j r y hi hj
                      rw [h3]; rfl
                    · obtain ⟨_, v, h3, h4⟩ := hcell i j r y hi hj
                      rw [h3]
                      exact (tagRows_rv htag hi hj h4).step r2
              · trivial
          · trivial
        | _ => trivial
      | _ => trivial

end
end Hx
