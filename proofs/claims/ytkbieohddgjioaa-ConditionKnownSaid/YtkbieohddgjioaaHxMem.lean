/- What the model's small programs on memory come to. -/
import Derived.Test.YtkbieohddgjioaaHxRel
set_option linter.unusedVariables false
set_option linter.unusedSimpArgs false
set_option linter.unnecessarySimpa false
namespace Hx
open Go

section
variable {P : Program} {w : World}

theorem adr_add (b o n : Nat) : (adr b o).add n = adr b (o + n) := by
  unfold Addr.add adr; split
  · rename_i h; subst h; rfl
  · rfl

theorem run_info {t : TypeId} {i : TypeInfo} (h : P.info? t = some i) : (typeInfo t).run P w = .ok i w := by
  simp [typeInfo, h]
theorem run_sizeOf {t : TypeId} {n : Nat} (h : szT P t = some n) : (Go.sizeOf t).run P w = .ok n w := by
  unfold szT at h
  cases hi : P.info? t with
  | none => rw [hi] at h; cases h
  | some i => rw [hi] at h; simp at h; simp [Go.sizeOf, run_info hi, h]
theorem run_und {t : TypeId} {d : TypeDesc} (h : P.underlying t = some d) : (underlying t).run P w = .ok d w := by
  simp [underlying, h]
theorem run_isAgg {t : TypeId} {b : Bool} (h : aggT P t = some b) : (isAgg t).run P w = .ok b w := by
  unfold aggT at h
  cases hd : P.underlying t with
  | none => rw [hd] at h; cases h
  | some d => rw [hd] at h; cases d <;> simp at h <;> subst h <;> simp [isAgg, run_und hd]

theorem loadCellsFrom_run {b o : Nat} : ∀ (n i : Nat) (acc : Array Value) (cs : List Value), cs.length = n →
    (∀ (j : Nat) c, cs[j]? = some c → w.cell? (adr b (o + (i + j))) = some c) →
    (loadCellsFrom (adr b o) i n acc).run P w = .ok (acc ++ cs.toArray) w := by
  intro n
  induction n with
  | zero => intro i acc cs hl _; have : cs = [] := List.eq_nil_of_length_eq_zero hl; subst this; simp [loadCellsFrom]
  | succ n ih =>
    intro i acc cs hl h
    cases cs with
    | nil => cases hl
    | cons c cs =>
      have h0 := h 0 c rfl
      simp only [Nat.add_zero] at h0
      simp only [loadCellsFrom, Sem.run_bind, run_load, adr_add, h0, Result.andThen_ok]
      rw [ih (i + 1) (acc.push c) cs (by simpa using hl) (fun j x hj => by
        have := h (j + 1) x (by simpa using hj)
        rw [show i + 1 + j = i + (j + 1) from by omega]; exact this)]
      simp
theorem loadCells_run {b o : Nat} {cs : List Value} (h : ∀ (j : Nat) c, cs[j]? = some c → w.cell? (adr b (o + j)) = some c) :
    (loadCells (adr b o) cs.length).run P w = .ok cs.toArray w := by
  unfold loadCells
  rw [loadCellsFrom_run cs.length 0 #[] cs rfl (fun j c hj => by simpa using h j c hj)]
  simp

/-- A world with another block. -/
def World.setBlk (w : World) (b : Nat) (o : Obj) : World := { w with heap := w.heap.setIfInBounds b o }

/-- Cells with some of them laid anew. -/
def setCells (c : Array Value) (o : Nat) : List Value → Array Value
  | [] => c
  | v :: vs => setCells (c.setIfInBounds o v) (o + 1) vs

theorem setCells_size (vs : List Value) : ∀ (c : Array Value) (o : Nat), (setCells c o vs).size = c.size := by
  induction vs with
  | nil => intro c o; rfl
  | cons v vs ih => intro c o; simp [setCells, ih]
theorem setCells_get (vs : List Value) : ∀ (c : Array Value) (o k : Nat), o + vs.length ≤ c.size →
    (setCells c o vs)[k]? = if o ≤ k ∧ k < o + vs.length then vs[k - o]? else c[k]? := by
  induction vs with
  | nil => intro c o k _; simp [setCells]; intro h1 h2; omega
  | cons v vs ih =>
    intro c o k h
    simp only [List.length_cons] at h
    simp only [setCells]
    rw [ih _ _ _ (by simp; omega)]
    simp only [List.length_cons]
    by_cases h1 : k = o
    · subst h1
      rw [if_neg (by omega), if_pos ⟨Nat.le_refl _, by omega⟩]
      simp [Array.getElem?_setIfInBounds]; omega
    · by_cases h2 : o ≤ k ∧ k < o + (vs.length + 1)
      · rw [if_pos (by omega), if_pos h2, show k - o = (k - (o + 1)) + 1 from by omega]; rfl
      · rw [if_neg (by omega), if_neg h2, Array.getElem?_setIfInBounds_ne (by omega)]

theorem setBlk_heap (b : Nat) (o : Obj) (k : Nat) : (World.setBlk w b o).heap[k]? = if k = b ∧ b < w.heap.size then some o else w.heap[k]? := by
  simp only [World.setBlk, Array.getElem?_setIfInBounds]
  by_cases h : b = k
  · subst h; simp; split
    · rfl
    · rename_i hh; rw [Array.getElem?_eq_none (by omega)]
  · rw [if_neg h, if_neg (by omega)]

theorem setBlk_setBlk (b : Nat) (o o' : Obj) : World.setBlk (World.setBlk w b o) b o' = World.setBlk w b o' := by
  simp only [World.setBlk, Array.setIfInBounds_setIfInBounds]
@[simp] theorem setBlk_size (b : Nat) (o : Obj) : (World.setBlk w b o).heap.size = w.heap.size := by simp [World.setBlk]

theorem setCell_eq {b o : Nat} {v : Value} {c : Array Value} {e : TypeId} {f : Nat × Nat} (h : w.heap[b]? = some (.cells c e f)) :
    w.setCell (adr b o) v = World.setBlk w b (.cells (c.setIfInBounds o v) e f) := by
  have hb : b < w.heap.size := by
    rcases Nat.lt_or_ge b w.heap.size with hl | hl
    · exact hl
    · rw [Array.getElem?_eq_none hl] at h; cases h
  have hx : w.heap[b] = .cells c e f := by simpa [Array.getElem?_eq_getElem hb] using h
  simp only [World.setCell, World.setBlk, adr]
  congr 1
  apply Array.ext_getElem?
  intro k
  rw [Array.getElem?_modify, Array.getElem?_setIfInBounds]
  by_cases hk : b = k
  · subst hk; simp [hb, hx]
  · rw [if_neg hk, if_neg hk]

theorem cell_blk {b o : Nat} {c : Array Value} {e : TypeId} {f : Nat × Nat} (h : w.heap[b]? = some (.cells c e f)) : w.cell? (adr b o) = c[o]? := by
  simp [World.cell?, adr, h]

theorem storeCells_run {b o : Nat} {e : TypeId} : ∀ (vs : List Value) (i : Nat) (w : World) (c : Array Value), w.heap[b]? = some (.cells c e (0, 0)) →
    o + i + vs.length ≤ c.size → (∀ v ∈ vs, v.oneCell' = true) →
    (storeCells (adr b o) vs i).run P w = .ok () (World.setBlk w b (.cells (setCells c (o + i) vs) e (0, 0))) := by
  intro vs
  induction vs with
  | nil =>
    intro i w c h _ _
    have hb : b < w.heap.size := by
      rcases Nat.lt_or_ge b w.heap.size with hl | hl
      · exact hl
      · rw [Array.getElem?_eq_none hl] at h; cases h
    have : World.setBlk w b (.cells c e (0, 0)) = w := by
      have hx : w.heap[b] = .cells c e (0, 0) := by simpa [Array.getElem?_eq_getElem hb] using h
      simp only [World.setBlk]
      congr 1
      apply Array.ext_getElem?
      intro k
      rw [Array.getElem?_setIfInBounds]
      split
      · rename_i hk; subst hk; simp [hb, hx]
      · rfl
    simp [storeCells, setCells, this]
  | cons v vs ih =>
    intro i w c h hs h1
    simp only [List.length_cons] at hs
    have hv : v.oneCell' = true := h1 v (by simp)
    have hcell : w.cell? (adr b (o + i)) = c[o + i]? := cell_blk h
    have hin : o + i < c.size := by omega
    have hfz : w.frozen? (adr b (o + i)) = false := by simp [World.frozen?, adr, h]
    simp only [storeCells, Sem.run_bind, adr_add, run_store P w _ v _ hv, hcell, Array.getElem?_eq_getElem hin, hfz]
    simp only [Bool.false_eq_true, if_false, Result.andThen_ok, setCell_eq h]
    have hb : b < w.heap.size := by
      rcases Nat.lt_or_ge b w.heap.size with hl | hl
      · exact hl
      · rw [Array.getElem?_eq_none hl] at h; cases h
    rw [ih (i + 1) _ (c.setIfInBounds (o + i) v) (by rw [setBlk_heap]; simp [hb]) (by simp; omega) (fun x hx => h1 x (by simp [hx])), setBlk_setBlk]
    rfl
end

theorem one_rv {w : World} {γ : Gm} {A : Nat → Nat → Prop} {bd : Nat} {x : AV} {v : Value} (h : RV w γ A bd x v) (h1 : x.one = true) :
    v.oneCell' = true ∧ v.cells = #[v] := by
  cases h <;> first | (cases h1; done) | exact ⟨rfl, rfl⟩

/-- The cells of a value. -/
theorem cells_rv {w : World} {γ : Gm} {A : Nat → Nat → Prop} {bd : Nat} {x : AV} {v : Value} (h : RV w γ A bd x v) (ht : x.isTup = false) :
    RVs w γ A bd x.cells v.cells.toList ∧ (∀ (i : Nat) y, x.cells[i]? = some y → y.one = true) := by
  by_cases h1 : x.one = true
  · have hx : x.cells = [x] := by cases x <;> first | rfl | cases h1
    obtain ⟨_, h3⟩ := one_rv h h1
    rw [hx, h3]
    refine ⟨⟨rfl, fun i y u hy hu => ?_⟩, fun i y hy => ?_⟩
    · cases i with
      | zero => simp at hy hu; subst hy; subst hu; exact h
      | succ i => simp at hy
    · cases i with
      | zero => simp at hy; subst hy; exact h1
      | succ i => simp at hy
  · cases h <;> first | (exact absurd rfl h1) | (cases ht; done) | skip
    rename_i xs vs hl h1' h'
    exact ⟨⟨by simpa [AV.cells, Value.cells] using hl, fun i y u hy hu => h' i y u hy (by simpa [Value.cells] using hu)⟩, h1'⟩

/-- Rows of one-cell values beside a run of the model's values. -/
theorem rvs_one {w : World} {γ : Gm} {A : Nat → Nat → Prop} {bd : Nat} {xs : List AV} {vs : List Value} (h : RVs w γ A bd xs vs)
    (h1 : ∀ (i : Nat) y, xs[i]? = some y → y.one = true) : ∀ v ∈ vs, v.oneCell' = true := by
  intro v hv
  obtain ⟨i, hi⟩ := List.getElem?_of_mem hv
  have hlt : i < xs.length := by rw [h.1]; exact (List.getElem?_eq_some_iff.1 hi).1
  exact (one_rv (h.2 i _ v (List.getElem?_eq_getElem hlt) hi) (h1 i _ (List.getElem?_eq_getElem hlt))).1

end Hx
