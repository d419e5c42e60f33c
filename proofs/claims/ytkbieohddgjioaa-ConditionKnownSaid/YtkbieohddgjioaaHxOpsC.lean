/- The simple operations: zero values, structs and slices written out, make. -/
import Derived.Test.YtkbieohddgjioaaHxOpsB
import Derived.Laws.Tables
set_option linter.unusedVariables false
set_option linter.unusedSimpArgs false
set_option linter.unnecessarySimpa false
namespace Hx
open Go

section
variable {C : Cfg} {A : Nat → Nat → Prop} {bd : Nat} {w : World} {γ : Gm} {hg : Nat → AObj} {nx : Nat}

theorem run_zero {P : Program} {ty : TypeId} {cs : List AV} (h : zeroT P ty = some cs) : ∃ v, (zeroValue ty).run P w = .ok v w ∧ ofVs v.cells.toList = some cs := by
  unfold zeroT at h
  cases hi : P.info? ty with
  | none => rw [hi] at h; cases h
  | some i =>
    rw [hi] at h
    cases hz : i.zero with
    | none => simp [hz] at h
    | some v => simp [hz] at h; exact ⟨v, by simp [zeroValue, run_info hi, hz], h⟩

theorem alloc_sim {ty : TypeId} {cs : List AV} {g : G} (hr : Rel C A bd w γ hg nx) (hz : zeroT C.P ty = some cs) (hf : (γ g.nx).kind = 0) (t : T) :
    UpdSim C A bd w γ hg nx (Instr.alloc ty true (.tuple #[])) g (allocF cs t g) := by
  obtain ⟨v, h1, h2⟩ := run_zero (w := w) hz
  obtain ⟨q1, q2⟩ := ofVs_rv (w := w) (γ := γ) (A := A) (bd := bd) h2
  obtain ⟨γ', r1, r2, r3, r4, r5, r6, r7, r8, r9⟩ := new_sim (sz := cs.length) (rows := [cs]) (cs := v.cells) ty hr hf
    (fun i row h => by cases i with | zero => simp at h; rw [← h] | succ i => simp at h)
    (fun i j row y h hy => by
      cases i with
      | zero =>
        simp at h; subst h
        have hlt : j < v.cells.toList.length := by rw [← q1.1]; exact (List.getElem?_eq_some_iff.1 hy).1
        have he := List.getElem?_eq_getElem hlt
        exact ⟨q2 j y hy, _, by simpa using he, q1.2 j y _ hy he⟩
      | succ i => simp at h) false 0 ⟨fun _ => rfl, fun h => by cases h⟩ (by
        have := q1.1; simp at this; simp [this])
  unfold allocF
  rw [lenR_eq]
  refine ⟨.pointer (some (adr w.heap.size 0)), _, γ', g.nx, _, ?_, ?_, r2, .inr ⟨rfl, rfl, r1⟩⟩
  · simp [Instr.alloc, newVar, run_newRow, h1]
  · exact .hptr _ _ _ _ _ _ _ r3 (by omega) (fun _ => ⟨r7.symm, by rw [r8]; simp⟩)

/-- Laying cells one by one. -/
theorem foldl_zipIdx (vs : List Value) : ∀ (off k : Nat) (c : Array Value),
    (vs.zipIdx k).foldl (fun cs (p : Value × Nat) => cs.setIfInBounds (off + p.2) p.1) c = setCells c (off + k) vs := by
  induction vs with
  | nil => intro off k c; rfl
  | cons v vs ih => intro off k c; simp only [List.zipIdx_cons, List.foldl_cons, setCells]; rw [ih]; rfl

/-- Cells under values. -/
def CellsRel (w : World) (γ : Gm) (A : Nat → Nat → Prop) (bd : Nat) (xs : List AV) (c : Array Value) : Prop :=
  RVs w γ A bd xs c.toList ∧ ∀ (i : Nat) y, xs[i]? = some y → y.one = true

theorem putCells_rel {xs cs row' : List AV} {c : Array Value} {vs : List Value} {off : Nat} (h : CellsRel w γ A bd xs c) (hv : RVs w γ A bd cs vs)
    (h1 : ∀ (i : Nat) y, cs[i]? = some y → y.one = true) (hp : putCells xs off cs = some row') : CellsRel w γ A bd row' (setCells c off vs) := by
  obtain ⟨p1, p2, p3⟩ := putCells_get hp
  have hl : off + vs.length ≤ c.size := by have := h.1.1; have := hv.1; simp at *; omega
  refine ⟨⟨by have := h.1.1; simp [setCells_size] at *; omega, fun i x v hx hv' => ?_⟩, fun i y hy => ?_⟩
  · rw [p3] at hx
    simp only [Array.getElem?_toList] at hv'
    rw [setCells_get _ _ _ _ hl] at hv'
    have := hv.1
    split at hx
    · rw [if_pos (by omega)] at hv'; exact hv.2 _ _ _ hx hv'
    · rw [if_neg (by omega)] at hv'; exact h.1.2 _ _ _ hx (by simpa using hv')
  · rw [p3] at hy
    split at hy
    · exact h1 _ _ hy
    · exact h.2 _ _ hy

theorem fillA_sim {place : Nat → Option (Nat × Nat)} : ∀ {is : List Nat} {pl : List (Nat × Nat)} {xs : List AV} {vs : List Value} {zero cs : List AV} {c : Array Value},
    mapO place is = some pl → CellsRel w γ A bd zero c → RVs w γ A bd xs vs → fillA zero (pl.zip xs) = some cs → is.length = xs.length →
    ∃ c', Instr.fill place c (is.zip vs) = some c' ∧ CellsRel w γ A bd cs c' := by
  intro is
  induction is with
  | nil =>
    intro pl xs vs zero cs c hp hc hv h hl
    simp [mapO] at hp; subst hp
    have : xs = [] := List.eq_nil_of_length_eq_zero hl.symm
    subst this
    simp [fillA] at h; subst h
    exact ⟨c, by simp [Instr.fill], hc⟩
  | cons i is ih =>
    intro pl xs vs zero cs c hp hc hv h hl
    cases xs with
    | nil => cases hl
    | cons x xs =>
      cases vs with
      | nil => have := hv.1; cases this
      | cons v vs =>
        simp only [mapO] at hp
        cases hpi : place i with
        | none => rw [hpi] at hp; cases hp
        | some q =>
          rw [hpi] at hp
          cases hpr : mapO place is with
          | none => rw [hpr] at hp; cases hp
          | some pl' =>
            rw [hpr] at hp; injection hp with hp; subst hp
            obtain ⟨off, size⟩ := q
            simp only [List.zip_cons_cons, fillA, bif'_eq, lenR_eq] at h
            split at h
            · rename_i hcond
              simp only [Bool.and_eq_true, notb_eq, Bool.not_eq_true'] at hcond
              obtain ⟨h1, h2⟩ := hcond
              have h1 := nat_beq h1
              cases hput : putCells zero off x.cells with
              | none => rw [hput] at h; cases h
              | some row' =>
                rw [hput] at h
                have hx := hv.2 0 x v rfl rfl
                obtain ⟨q1, q2⟩ := cells_rv hx h2
                have hsz : v.cells.size = size := by rw [← h1]; have := q1.1; simp at this; exact this.symm
                have hin := (putCells_get hput).2.1
                have hcs : zero.length = c.size := by have := hc.1.1; simpa using this
                obtain ⟨c', r1, r2⟩ := ih (c := setCells c off v.cells.toList) hpr (putCells_rel hc q1 q2 hput) ⟨by have := hv.1; simpa using this, fun k y u hy hu => hv.2 (k + 1) y u (by simpa using hy) (by simpa using hu)⟩ h (by simpa using hl)
                refine ⟨c', ?_, r2⟩
                have hfold : (v.cells.zipIdx.foldl (fun cs (p : Value × Nat) => cs.setIfInBounds (off + p.2) p.1) c) = setCells c off v.cells.toList := by
                  rw [← Array.foldl_toList, Array.toList_zipIdx]; exact foldl_zipIdx _ _ _ _
                simp only [List.zip_cons_cons, Instr.fill, hpi]
                rw [if_neg (by simp [hsz]; omega)]
                rw [show (v.cells.zipIdx.foldl (fun cs x => cs.setIfInBounds (off + x.2) x.1) c) = _ from hfold]
                exact r1
            · cases h

theorem mapO_length {α β : Type} {f : α → Option β} : ∀ {l : List α} {r : List β}, mapO f l = some r → r.length = l.length := by
  intro l
  induction l with
  | nil => intro r h; simp [mapO] at h; subst h; rfl
  | cons x l ih =>
    intro r h
    simp only [mapO] at h
    split at h
    · split at h
      · rename_i h2; injection h with h; subst h; simp [ih h2]
      · cases h
    · cases h

theorem mapO_mapM {α β : Type} {f : α → Option β} : ∀ (l : List α), mapO f l = l.mapM f := by
  intro l
  induction l with
  | nil => rfl
  | cons x l ih =>
    simp only [mapO, List.mapM_cons, ih]
    cases f x with
    | none => rfl
    | some a => cases l.mapM f <;> rfl

theorem build_sim {ty : TypeId} {parts : Array (Nat × Operand)} {zero : List AV} {pl : List (Nat × Nat)} {vs : T → List AV} {t : T} {g : G} {place : Nat → Option (Nat × Nat)}
    {ev : Operand → Value} (hz : zeroT C.P ty = some zero) (hv : RVs w γ A bd (vs t) ((parts.toList.map (·.2)).map ev))
    (hp : mapO place (parts.toList.map (·.1)) = some pl)
    (hrun : ∀ (z : Value) (cells : Array Value), (zeroValue ty).run C.P w = .ok z w → Instr.fill place z.cells ((parts.map fun (i, x) => (i, ev x)).toList) = some cells →
      (Instr.build ty (parts.map fun (i, x) => (i, ev x))).run C.P w = .ok (.agg cells) w) :
    ValSim C A bd w γ (Instr.build ty (parts.map fun (i, x) => (i, ev x))) (buildF zero pl vs t g) := by
  unfold buildF
  cases hfl : fillA zero (pl.zip (vs t)) with
  | none => trivial
  | some cs =>
    obtain ⟨z, z1, z2⟩ := run_zero (w := w) hz
    have zr := ofVs_rv (w := w) (γ := γ) (A := A) (bd := bd) z2
    have hl : (parts.toList.map (·.1)).length = (vs t).length := by have := hv.1; simp at *; omega
    obtain ⟨c', r1, r2⟩ := fillA_sim (c := z.cells) hp zr hv hfl hl
    have e : (parts.map fun (i, x) => (i, ev x)).toList = (parts.toList.map (·.1)).zip ((parts.toList.map (·.2)).map ev) := by
      rw [Array.toList_map]
      induction parts.toList with
      | nil => rfl
      | cons p ps ih => simp [ih]
    exact ⟨.agg c', hrun z c' z1 (by rw [e]; exact r1), .agg _ _ _ (by have := r2.1.1; simpa using this) r2.2 (fun i x v hx hv => r2.1.2 i x v hx (by simpa using hv))⟩

end
end Hx
