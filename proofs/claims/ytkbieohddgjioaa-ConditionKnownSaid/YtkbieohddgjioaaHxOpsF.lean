/- The simple operations: rows copied and appended. -/
import Derived.Test.YtkbieohddgjioaaHxOpsE
set_option linter.unusedVariables false
set_option linter.unusedSimpArgs false
set_option linter.unnecessarySimpa false
namespace Hx
open Go

section
variable {C : Cfg} {A : Nat → Nat → Prop} {bd : Nat} {w w' : World} {γ γ' : Gm} {hg : Nat → AObj} {nx : Nat}

/-- Rows in memory. -/
def RowsAt (w : World) (γ : Gm) (A : Nat → Nat → Prop) (bd sz : Nat) (rows : List (List AV)) (b o : Nat) : Prop :=
  (∀ (i : Nat) row, rows[i]? = some row → row.length = sz) ∧
  ∀ (i j : Nat) row x, rows[i]? = some row → row[j]? = some x → x.one = true ∧ ∃ v, w.cell? (adr b (o + i * sz + j)) = some v ∧ RV w γ A bd x v

theorem rows_cell {rows : List (List AV)} {sz k : Nat} (hr : ∀ (i : Nat) row, rows[i]? = some row → row.length = sz) (hk : k < rows.length * sz) :
    ∃ row x, rows[k / sz]? = some row ∧ row[k % sz]? = some x := by
  have h0 : 0 < sz := by
    rcases Nat.eq_zero_or_pos sz with h | h
    · subst h; simp at hk
    · exact h
  have hi : k / sz < rows.length := by rw [Nat.div_lt_iff_lt_mul h0]; exact hk
  have e := List.getElem?_eq_getElem hi
  have hl := hr _ _ e
  have hj : k % sz < rows[k / sz].length := by rw [hl]; exact Nat.mod_lt _ h0
  exact ⟨_, _, e, List.getElem?_eq_getElem hj⟩

theorem loadRows {rows : List (List AV)} {sz b o : Nat} (h : RowsAt w γ A bd sz rows b o) (P : Program) :
    ∃ c, (loadCells (adr b o) (rows.length * sz)).run P w = .ok c w ∧ c.size = rows.length * sz ∧ RowsRel w γ A bd sz rows c := by
  have hex : ∀ k : Fin (rows.length * sz), ∃ v, w.cell? (adr b (o + k.1)) = some v ∧ ∀ row x, rows[k.1 / sz]? = some row → row[k.1 % sz]? = some x → x.one = true ∧ RV w γ A bd x v := by
    intro k
    obtain ⟨row, x, h1, h2⟩ := rows_cell h.1 k.2
    obtain ⟨a, v, c1, c2⟩ := h.2 _ _ row x h1 h2
    refine ⟨v, ?_, fun row' x' h1' h2' => ?_⟩
    · have : o + k.1 / sz * sz + k.1 % sz = o + k.1 := by rw [Nat.add_assoc, Nat.mul_comm, Nat.div_add_mod]
      rw [← this]; exact c1
    · rw [h1] at h1'; injection h1' with h1'; subst h1'
      rw [h2] at h2'; injection h2' with h2'; subst h2'
      exact ⟨a, c2⟩
  let f : Fin (rows.length * sz) → Value := fun k => Classical.choose (hex k)
  have hf := fun k => Classical.choose_spec (hex k)
  have hlen : (List.ofFn f).length = rows.length * sz := by simp
  have hrun := loadCells_run (P := P) (w := w) (b := b) (o := o) (cs := List.ofFn f) (fun j c hc => by
    have hj : j < rows.length * sz := by rw [← hlen]; exact (List.getElem?_eq_some_iff.1 hc).1
    rw [List.getElem?_ofFn] at hc
    simp [hj] at hc
    rw [← hc]; exact (hf ⟨j, hj⟩).1)
  rw [hlen] at hrun
  refine ⟨_, hrun, by simp, by simp, h.1, fun i j row x h1 h2 => ?_⟩
  have hi : i < rows.length := (List.getElem?_eq_some_iff.1 h1).1
  have hj : j < sz := by rw [← h.1 i row h1]; exact (List.getElem?_eq_some_iff.1 h2).1
  have hk : i * sz + j < rows.length * sz := by
    have : (i + 1) * sz ≤ rows.length * sz := Nat.mul_le_mul_right _ hi
    rw [Nat.add_mul, Nat.one_mul] at this; omega
  have e1 : (i * sz + j) / sz = i := by
    rw [Nat.add_comm, Nat.add_mul_div_right _ _ (by omega), Nat.div_eq_of_lt hj]; omega
  obtain ⟨a, b'⟩ := (hf ⟨i * sz + j, hk⟩).2 row x (by rw [e1]; exact h1) (by rw [mod_idx hj]; exact h2)
  exact ⟨a, f ⟨i * sz + j, hk⟩, by simp [hk], b'⟩

theorem RowsAt.sub {rows : List (List AV)} {sz b o : Nat} (h : RowsAt w γ A bd sz rows b o) (l n : Nat) : RowsAt w γ A bd sz ((rows.drop l).take n) b (o + l * sz) := by
  refine ⟨fun i row hi => ?_, fun i j row x hi hj => ?_⟩
  · have hi' : i < n := by
      have := (List.getElem?_eq_some_iff.1 hi).1
      simp at this; omega
    rw [List.getElem?_take_of_lt hi', List.getElem?_drop] at hi
    exact h.1 _ _ hi
  · have hi' : i < n := by
      have := (List.getElem?_eq_some_iff.1 hi).1
      simp at this; omega
    rw [List.getElem?_take_of_lt hi', List.getElem?_drop] at hi
    obtain ⟨a, v, c1, c2⟩ := h.2 _ _ row x hi hj
    exact ⟨a, v, by rw [show o + l * sz + i * sz + j = o + (l + i) * sz + j from by rw [Nat.add_mul]; omega]; exact c1, c2⟩

theorem RowsAt.mono {rows : List (List AV)} {sz b o bd' : Nat} (h : RowsAt w γ A bd' sz rows b o) (hb : bd' ≤ bd) : RowsAt w γ A bd sz rows b o :=
  ⟨h.1, fun i j row x h1 h2 => let ⟨a, v, c, d⟩ := h.2 i j row x h1 h2; ⟨a, v, c, d.mono hb⟩⟩

theorem obj_rowsAt (hr : Rel C A bd w γ hg nx) {id sz ep : Nat} {rows : List (List AV)} {loose fz : Bool} (hid : hg id = .cells sz rows ep loose fz) :
    RowsAt w γ A bd sz rows (γ id).blk (γ id).base := by
  have hob := hr.obj id
  rw [hid] at hob
  obtain ⟨k1, k2, k3, k4, k5, k6, c, e, k7, k8, k9, k10⟩ := hob
  exact ⟨k9, fun i j row x h1 h2 => row_cells hr hid h1 j x h2⟩

/-- The rows of a slice: its length, and its cells. -/
theorem rowsOf_sim (hr : Rel C A bd w γ hg nx) {sz : Nat} {x : AV} {v : Value} {h : H} {rows : List (List AV)} (hx : RV w γ A bd x v)
    (hrow : rowsOf h sz x = some rows) (agree : ∀ id ∈ refIds x, hg id = h.get id) :
    ∃ b o cap, (v = .slice none 0 0 ∧ rows = [] ∨ v = .slice (some (adr b o)) rows.length cap ∨ (∃ a, v = .slice (some a) 0 cap) ∧ rows = []) ∧ RowsAt w γ A bd sz rows b o := by
  unfold rowsOf at hrow
  cases hx with
  | nils => injection hrow with hrow; subst hrow; exact ⟨0, 0, 0, .inl ⟨rfl, rfl⟩, fun i row h => by simp at h, fun i j row x h => by simp at h⟩
  | esl _ a => injection hrow with hrow; subst hrow; exact ⟨0, 0, 0, .inr (.inr ⟨⟨a, rfl⟩, rfl⟩), fun i row h => by simp at h, fun i j row x h => by simp at h⟩
  | tnil _ tag sz' a cap ht =>
    simp only [bif'_eq] at hrow
    split at hrow
    · injection hrow with hrow; subst hrow
      exact ⟨0, 0, cap, .inr (.inr ⟨⟨a, rfl⟩, rfl⟩), fun i row h => by simp at h, fun i j row x h => by simp at h⟩
    · cases hrow
  | tsl _ tag sz' rows' b o cap cell ht hc hb hm ha hrl ho hw h =>
    simp only [bif'_eq] at hrow
    split at hrow
    · rename_i hcond
      injection hrow with hrow; subst hrow
      refine ⟨b, o, cap, .inr (.inl rfl), ?_⟩
      simp only [Bool.or_eq_true] at hcond
      rcases hcond with hcond | hcond
      · have := nat_beq hcond; subst this
        exact ⟨hrl, fun i j row x h1 h2 => ⟨ho i j row x h1 h2, _, hw i j row x h1 h2, (h i j row x h1 h2).mono ht⟩⟩
      · have : rows' = [] := by cases rows' <;> simp_all
        subst this
        exact ⟨fun i row h => by simp at h, fun i j row x h => by simp at h⟩
    · cases hrow
  | hsl _ id ep off len lim b o cap hk he hc h =>
    have hagree := agree id (by simp [refIds])
    dsimp only at hrow
    rw [← hagree] at hrow
    cases hid : hg id with
    | cells sz' rows' ep' loose fz =>
      rw [hid] at hrow
      simp only [bif'_eq, lenR_eq, takeR_eq, dropR_eq] at hrow
      split at hrow
      · rename_i hcond
        simp only [Bool.and_eq_true, Nat.ble_eq] at hcond
        obtain ⟨⟨h1, h2⟩, h3⟩ := hcond
        have h1 := nat_beq h1; have h2 := nat_beq h2; subst h2
        injection hrow with hrow; subst hrow
        have hob := hr.obj id
        rw [hid] at hob
        obtain ⟨k1, k2, k3, _⟩ := hob
        obtain ⟨c1, c2, _⟩ := h (h1.trans k2.symm)
        refine ⟨b, o, cap, .inr (.inl ?_), ?_⟩
        · simp; omega
        · rw [c1, c2, k3]; exact (obj_rowsAt hr hid).sub off len
      · cases hrow
    | _ => rw [hid] at hrow; cases hrow
  | _ => cases hrow

theorem RowsRel.append {sz : Nat} {r1 r2 : List (List AV)} {c1 c2 : Array Value} (h1 : RowsRel w γ A bd sz r1 c1) (e1 : c1.size = r1.length * sz) (h2 : RowsRel w γ A bd sz r2 c2) :
    RowsRel w γ A bd sz (r1 ++ r2) (c1 ++ c2) := by
  refine ⟨by have := h2.1; simp [Nat.add_mul]; omega, fun i row hi => ?_, fun i j row x hi hj => ?_⟩
  · rw [List.getElem?_append] at hi
    split at hi
    · exact h1.2.1 _ _ hi
    · exact h2.2.1 _ _ hi
  · rw [List.getElem?_append] at hi
    split at hi
    · rename_i hlt
      obtain ⟨a, v, b1, b2⟩ := h1.2.2 i j row x hi hj
      have hlt' := (Array.getElem?_eq_some_iff.1 b1).1
      exact ⟨a, v, by rw [Array.getElem?_append_left hlt']; exact b1, b2⟩
    · rename_i hge
      obtain ⟨a, v, b1, b2⟩ := h2.2.2 _ j row x hi hj
      have : i * sz = r1.length * sz + (i - r1.length) * sz := by rw [← Nat.add_mul]; congr 1; omega
      refine ⟨a, v, ?_, b2⟩
      rw [Array.getElem?_append_right (by omega), ← b1]
      congr 1; omega

theorem RowsRel.more {sz : Nat} {r1 : List (List AV)} {c1 c2 : Array Value} (h1 : RowsRel w γ A bd sz r1 c1) : RowsRel w γ A bd sz r1 (c1 ++ c2) := by
  refine ⟨by have := h1.1; simp; omega, h1.2.1, fun i j row x hi hj => ?_⟩
  obtain ⟨a, v, b1, b2⟩ := h1.2.2 i j row x hi hj
  have hlt' := (Array.getElem?_eq_some_iff.1 b1).1
  exact ⟨a, v, by rw [Array.getElem?_append_left hlt']; exact b1, b2⟩

theorem RowsRel.step {sz : Nat} {r1 : List (List AV)} {c1 : Array Value} (h1 : RowsRel w γ A bd sz r1 c1) (s : Stp w γ w' γ') : RowsRel w' γ' A bd sz r1 c1 :=
  ⟨h1.1, h1.2.1, fun i j row x hi hj => let ⟨a, v, b1, b2⟩ := h1.2.2 i j row x hi hj; ⟨a, v, b1, b2.step s⟩⟩

/-- Rows as flat lists of values. -/
theorem RowsRel.flat {sz : Nat} {rows : List (List AV)} {c : Array Value} (h : RowsRel w γ A bd sz rows c) (e : c.size = rows.length * sz) :
    RVs w γ A bd rows.flatten c.toList ∧ (∀ (i : Nat) y, rows.flatten[i]? = some y → y.one = true) ∧
    (∀ (i j : Nat) row, rows[i]? = some row → j < sz → rows.flatten[i * sz + j]? = row[j]?) := by
  have hfl : rows.flatten.length = rows.length * sz := by
    have h2 := h.2.1
    clear e h
    induction rows with
    | nil => simp
    | cons r rs ih =>
      have h0 := h2 0 r rfl
      simp only [List.flatten_cons, List.length_append, List.length_cons, Nat.add_mul, Nat.one_mul]
      rw [ih (fun i row hi => h2 (i + 1) row (by simpa using hi)), h0]; omega
  have hidx : ∀ (i j : Nat) row, rows[i]? = some row → j < sz → rows.flatten[i * sz + j]? = row[j]? := by
    have h2 := h.2.1
    clear e hfl h
    induction rows with
    | nil => intro i j row hi; simp at hi
    | cons r rs ih =>
      intro i j row hi hj
      have h0 := h2 0 r rfl
      cases i with
      | zero => simp at hi; subst hi; simp only [List.flatten_cons, Nat.zero_mul, Nat.zero_add]; rw [List.getElem?_append_left (by omega)]
      | succ i =>
        simp only [List.flatten_cons]
        rw [Nat.add_mul, Nat.one_mul, List.getElem?_append_right (by omega), h0, show i * sz + sz + j - sz = i * sz + j from by omega]
        exact ih (fun i row hi => h2 (i + 1) row (by simpa using hi)) i j row (by simpa using hi) hj
  have hall : ∀ (k : Nat) y, rows.flatten[k]? = some y → ∃ row, rows[k / sz]? = some row ∧ row[k % sz]? = some y ∧ k / sz * sz + k % sz = k := by
    intro k y hy
    have hk : k < rows.length * sz := by rw [← hfl]; exact (List.getElem?_eq_some_iff.1 hy).1
    obtain ⟨row, x, h1, h2⟩ := rows_cell h.2.1 hk
    have h0 : 0 < sz := by
      rcases Nat.eq_zero_or_pos sz with h | h
      · subst h; simp at hk
      · exact h
    have ek : k / sz * sz + k % sz = k := by rw [Nat.mul_comm, Nat.div_add_mod]
    have := hidx _ _ row h1 (Nat.mod_lt k h0)
    rw [ek, hy] at this
    exact ⟨row, h1, this.symm, ek⟩
  refine ⟨⟨by rw [hfl]; simp [e], fun k y v hy hv => ?_⟩, fun k y hy => ?_, hidx⟩
  · obtain ⟨row, h1, h2, h3⟩ := hall k y hy
    obtain ⟨a, u, b1, b2⟩ := h.2.2 _ _ row y h1 h2
    rw [h3] at b1
    simp only [Array.getElem?_toList] at hv
    rw [hv] at b1; injection b1 with b1; subst b1; exact b2
  · obtain ⟨row, h1, h2, h3⟩ := hall k y hy
    exact (h.2.2 _ _ row y h1 h2).1

end
end Hx
