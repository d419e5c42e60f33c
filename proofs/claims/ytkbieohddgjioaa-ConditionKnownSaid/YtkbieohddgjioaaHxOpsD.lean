/- The simple operations: slices written out, make, addresses, indexes. -/
import Derived.Test.YtkbieohddgjioaaHxOpsC
set_option linter.unusedVariables false
set_option linter.unusedSimpArgs false
set_option linter.unnecessarySimpa false
namespace Hx
open Go

theorem mod_idx {i j sz : Nat} (hj : j < sz) : (i * sz + j) % sz = j := by
  rw [Nat.add_comm, Nat.add_mul_mod_self_right, Nat.mod_eq_of_lt hj]

section
variable {C : Cfg} {A : Nat → Nat → Prop} {bd : Nat} {w : World} {γ : Gm} {hg : Nat → AObj} {nx : Nat}

/-- Zero rows. -/
def zeros (zero : Array Value) (n : Nat) : Array Value := (Array.range n).map (zero[· % zero.size]!)
theorem zeros_size (zero : Array Value) (n : Nat) : (zeros zero n).size = n := by simp [zeros]
theorem zeros_get {zero : Array Value} {n k : Nat} (h : k < n) (hz : 0 < zero.size) : (zeros zero n)[k]? = zero[k % zero.size]? := by
  have h2 : k % zero.size < zero.size := Nat.mod_lt _ hz
  simp [zeros, h, Array.getElem?_eq_getElem h2, getElem!_pos zero (k % zero.size) h2]

theorem repl_get {n i : Nat} {row r : List AV} (h : (repl n row)[i]? = some r) : r = row ∧ i < n := by
  unfold repl at h
  rw [List.getElem?_replicate] at h
  split at h
  · injection h with h; exact ⟨h.symm, by assumption⟩
  · cases h

/-- Rows under cells. -/
def RowsRel (w : World) (γ : Gm) (A : Nat → Nat → Prop) (bd sz : Nat) (rows : List (List AV)) (c : Array Value) : Prop :=
  rows.length * sz ≤ c.size ∧ (∀ (i : Nat) row, rows[i]? = some row → row.length = sz) ∧
  ∀ (i j : Nat) row x, rows[i]? = some row → row[j]? = some x → x.one = true ∧ ∃ v, c[i * sz + j]? = some v ∧ RV w γ A bd x v

theorem zeros_rel {ty : TypeId} {zero : List AV} {z : Value} {sz n m : Nat} (hz : ofVs z.cells.toList = some zero) (hsz : zero.length = sz) (h0 : 0 < sz) (hn : n * sz ≤ m) :
    RowsRel w γ A bd sz (repl n zero) (zeros z.cells m) := by
  obtain ⟨q1, q2⟩ := ofVs_rv (w := w) (γ := γ) (A := A) (bd := bd) hz
  have hzs : z.cells.size = sz := by have := q1.1; simp at this; omega
  refine ⟨by simp [repl, zeros_size, hn], fun i row h => by rw [(repl_get h).1]; exact hsz, fun i j row x h hx => ?_⟩
  obtain ⟨e, hi⟩ := repl_get h
  subst e
  have hj : j < sz := by rw [← hsz]; exact (List.getElem?_eq_some_iff.1 hx).1
  have hlt : i * sz + j < n * sz := by
    have : (i + 1) * sz ≤ n * sz := Nat.mul_le_mul_right _ hi
    rw [Nat.add_mul, Nat.one_mul] at this; omega
  have hj' : j < z.cells.toList.length := by simp; omega
  refine ⟨q2 j x hx, z.cells.toList[j], ?_, q1.2 j x _ hx (List.getElem?_eq_getElem hj')⟩
  rw [zeros_get (by omega) (by omega), hzs, mod_idx hj]
  have : j < z.cells.size := by omega
  simp [this]

theorem fillRows_sim {sz : Nat} (h0 : 0 < sz) : ∀ {is : List Nat} {xs : List AV} {vs : List Value} {rows rows' : List (List AV)} {c : Array Value} {n : Nat},
    RowsRel w γ A bd sz rows c → rows.length = n → c.size = n * sz → RVs w γ A bd xs vs → fillRows sz rows (is.zip xs) = some rows' → is.length = xs.length →
    ∃ c', Instr.fill (fun i => some (i * sz, sz)) c (is.zip vs) = some c' ∧ RowsRel w γ A bd sz rows' c' ∧ rows'.length = n ∧ c'.size = n * sz := by
  intro is
  induction is with
  | nil =>
    intro xs vs rows rows' c n hc hl hcs hv h hle
    have : xs = [] := List.eq_nil_of_length_eq_zero hle.symm
    subst this
    simp [fillRows] at h; subst h
    exact ⟨c, by simp [Instr.fill], hc, hl, hcs⟩
  | cons i is ih =>
    intro xs vs rows rows' c n hc hl hcs hv h hle
    cases xs with
    | nil => cases hle
    | cons x xs =>
      cases vs with
      | nil => have := hv.1; cases this
      | cons v vs =>
        simp only [List.zip_cons_cons, fillRows, bif'_eq, lenR_eq, setR_eq] at h
        split at h
        · rename_i hcond
          simp only [Bool.and_eq_true, notb_eq, Bool.not_eq_true', Nat.blt_eq] at hcond
          obtain ⟨⟨h1, h2⟩, h3⟩ := hcond
          have h1 := nat_beq h1
          have hx := hv.2 0 x v rfl rfl
          obtain ⟨q1, q2⟩ := cells_rv hx h3
          have hvl : v.cells.toList.length = sz := by rw [← q1.1, h1]
          have hmul : (i + 1) * sz ≤ rows.length * sz := Nat.mul_le_mul_right _ h2
          rw [Nat.add_mul, Nat.one_mul] at hmul
          have hin : i * sz + v.cells.toList.length ≤ c.size := by rw [hvl, hcs, ← hl]; exact hmul
          have hc' : RowsRel w γ A bd sz (rows.set i x.cells) (setCells c (i * sz) v.cells.toList) := by
            refine ⟨by rw [setCells_size, List.length_set]; exact hc.1, fun k row hk => ?_, fun k j row y hk hy => ?_⟩
            · rw [List.getElem?_set] at hk
              by_cases hik : i = k
              · subst hik; rw [if_pos rfl, if_pos h2] at hk; injection hk with hk; subst hk; exact h1
              · rw [if_neg hik] at hk; exact hc.2.1 k row hk
            · rw [List.getElem?_set] at hk
              rw [setCells_get _ _ _ _ hin]
              by_cases hik : i = k
              · subst hik; rw [if_pos rfl, if_pos h2] at hk; injection hk with hk; subst hk
                have hj : j < sz := by rw [← h1]; exact (List.getElem?_eq_some_iff.1 hy).1
                have hjl : j < v.cells.toList.length := by omega
                rw [if_pos (by omega), show i * sz + j - i * sz = j from by omega]
                exact ⟨q2 j y hy, _, List.getElem?_eq_getElem hjl, q1.2 j y _ hy (List.getElem?_eq_getElem hjl)⟩
              · rw [if_neg hik] at hk
                have hj : j < sz := by rw [← hc.2.1 k row hk]; exact (List.getElem?_eq_some_iff.1 hy).1
                rw [if_neg]
                · exact hc.2.2 k j row y hk hy
                · rintro ⟨l1, l2⟩; exact hik (idx_eq (i := i) (i' := k) hj l1 (by omega)).symm
          obtain ⟨c', r1, r2, r3, r4⟩ := ih (c := setCells c (i * sz) v.cells.toList) (n := n) hc' (by simp [hl]) (by rw [setCells_size]; exact hcs)
            ⟨by have := hv.1; simpa using this, fun k y u hy hu => hv.2 (k + 1) y u (by simpa using hy) (by simpa using hu)⟩ h (by simpa using hle)
          refine ⟨c', ?_, r2, r3, r4⟩
          have hfold : (v.cells.zipIdx.foldl (fun cs (p : Value × Nat) => cs.setIfInBounds (i * sz + p.2) p.1) c) = setCells c (i * sz) v.cells.toList := by
            rw [← Array.foldl_toList, Array.toList_zipIdx]; exact foldl_zipIdx _ _ _ _
          have hvs : v.cells.size = sz := by simpa using hvl
          simp only [List.zip_cons_cons, Instr.fill]
          rw [if_neg (by simp [hvs]; rw [hcs, ← hl]; omega)]
          rw [show (v.cells.zipIdx.foldl (fun cs x => cs.setIfInBounds (i * sz + x.2) x.1) c) = _ from hfold]
          exact r1
        · cases h

/-- A slice over new cells. -/
theorem newSlice_sim {sz : Nat} {rows : List (List AV)} {cs : Array Value} (e : TypeId) (hr : Rel C A bd w γ hg nx) {g : G} (hf : (γ g.nx).kind = 0)
    (h : RowsRel w γ A bd sz rows cs) (len cap : Nat) (loose : Bool) (slack : Nat) (hs : (loose = false → slack = 0) ∧ (loose = true → rows.length + slack ≤ 9223372036854775807)) (hc : (rows.length + slack) * sz ≤ cs.size)
    (hcap : cap = rows.length + slack) (hlen : len ≤ rows.length) :
    ∃ γ', Rel C A bd (World.add w (.cells cs e (0, 0))) γ' (upd hg g.nx (.cells sz rows 0 loose false)) (Nat.max nx (g.nx + 1)) ∧ Stp w γ (World.add w (.cells cs e (0, 0))) γ' ∧
      RV (World.add w (.cells cs e (0, 0))) γ' A bd (.hsl g.nx 0 0 len none) (.slice (some (adr w.heap.size 0)) len cap) := by
  obtain ⟨γ', r1, r2, r3, r4, r5, r6, r7, r8, r9⟩ := new_sim (sz := sz) (rows := rows) (cs := cs) e hr hf h.2.1 h.2.2 loose slack hs hc
  refine ⟨γ', r1, r2, .hsl _ _ _ _ _ _ _ _ _ r3 (by omega) (by omega) fun _ => ⟨r7.symm, by rw [r8]; simp, ?_⟩⟩
  simp only [CapOk, r6, r9]; omega

theorem buildSlice_sim {ty e : TypeId} {len sz : Nat} {parts : Array (Nat × Operand)} {zero : List AV} {vs : T → List AV} {t : T} {g : G} {ev : Operand → Value}
    (hr : Rel C A bd w γ hg nx) (hf : (γ g.nx).kind = 0) (hu : C.P.underlying ty = some (.slice e)) (hsz : szT C.P e = some sz) (hz : zeroT C.P e = some zero)
    (hzl : zero.length = sz) (h0 : 0 < sz) (hsmall : len * sz ≤ 1048576) (hv : RVs w γ A bd (vs t) ((parts.toList.map (·.2)).map ev)) :
    UpdSim C A bd w γ hg nx (Instr.buildSlice ty len (parts.map fun (i, x) => (i, ev x))) g (buildSliceF sz len (repl len zero) (parts.toList.map (·.1)) vs t g) := by
  unfold buildSliceF
  cases hfl : fillRows sz (repl len zero) ((parts.toList.map (·.1)).zip (vs t)) with
  | none => trivial
  | some rows =>
    obtain ⟨z, z1, z2⟩ := run_zero (w := w) hz
    have hzs : z.cells.size = sz := by
      have := (ofVs_rv (w := w) (γ := γ) (A := A) (bd := bd) z2).1.1; simp at this; omega
    have hl : (parts.toList.map (·.1)).length = (vs t).length := by have := hv.1; simp at *; omega
    obtain ⟨c', r1, r2, r3, r4⟩ := fillRows_sim h0 (c := zeros z.cells (len * sz)) (n := len) (zeros_rel (ty := e) (w := w) (γ := γ) (A := A) (bd := bd) z2 hzl h0 (Nat.le_refl _)) (by simp [repl]) (zeros_size _ _) hv hfl hl
    have he : (parts.map fun (i, x) => (i, ev x)).toList = (parts.toList.map (·.1)).zip ((parts.toList.map (·.2)).map ev) := by
      rw [Array.toList_map]
      induction parts.toList with
      | nil => rfl
      | cons p ps ih => simp [ih]
    have hrun : (Instr.buildSlice ty len (parts.map fun (i, x) => (i, ev x))).run C.P w = .ok (.slice (some (adr w.heap.size 0)) len len) (World.add w (.cells c' e (0, 0))) := by
      have hbig : ¬ (2 ^ 24 < len * sz) := by omega
      unfold Instr.buildSlice
      rw [he]
      by_cases h : len * sz = 0
      · have e0 : zeros z.cells (len * sz) = #[] := by rw [h]; simp [zeros]
        rw [e0] at r1
        have e1 : (Array.range 0).map (fun x => (#[] : Array Value)[x % (#[] : Array Value).size]!) = #[] := by simp
        simp only [Sem.run_bind, run_und hu, Result.andThen_ok, run_sizeOf hsz]
        rw [if_neg (by omega)]
        simp only [Sem.run_bind, h, if_true, Sem.run_pure, Result.andThen_ok, e1, r1, run_newRow]
      · have e0 : (Array.range (len * sz)).map (fun x => z.cells[x % z.cells.size]!) = zeros z.cells (len * sz) := rfl
        simp only [Sem.run_bind, run_und hu, Result.andThen_ok, run_sizeOf hsz]
        rw [if_neg (by omega)]
        simp only [Sem.run_bind, h, if_false, z1, Result.andThen_ok, Sem.run_pure, e0, r1, run_newRow]
    obtain ⟨γ', s1, s2, s3⟩ := newSlice_sim (w := w) e hr hf r2 len len false 0 ⟨fun _ => rfl, fun h => by cases h⟩ (by rw [Nat.add_zero]; exact r2.1) (by omega) (by omega)
    exact ⟨_, _, γ', g.nx, _, hrun, s3, s2, .inr ⟨rfl, rfl, s1⟩⟩

end
end Hx
