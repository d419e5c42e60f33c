/- The simple operations: stores, new objects, addresses. -/
import Derived.Test.YtkbieohddgjioaaHxOpsA
set_option linter.unusedVariables false
set_option linter.unusedSimpArgs false
set_option linter.unnecessarySimpa false
namespace Hx
open Go

theorem idx_eq {i i' j sz : Nat} (hj : j < sz) (h1 : i * sz ≤ i' * sz + j) (h2 : i' * sz + j < i * sz + sz) : i' = i := by
  rcases Nat.lt_trichotomy i' i with h | h | h
  · have : (i' + 1) * sz ≤ i * sz := Nat.mul_le_mul_right _ h
    rw [Nat.add_mul, Nat.one_mul] at this; omega
  · exact h
  · have : (i + 1) * sz ≤ i' * sz := Nat.mul_le_mul_right _ h
    rw [Nat.add_mul, Nat.one_mul] at this; omega

theorem putCells_get {row row' : List AV} {off : Nat} {cs : List AV} (h : putCells row off cs = some row') :
    row'.length = row.length ∧ off + cs.length ≤ row.length ∧ ∀ j, row'[j]? = if off ≤ j ∧ j < off + cs.length then cs[j - off]? else row[j]? := by
  unfold putCells at h
  simp only [lenR_eq, setR_eq, takeR_eq, dropR_eq, bif'_eq] at h
  split at h
  · rename_i hle
    rw [Nat.ble_eq] at hle
    injection h with h
    split at h
    · rename_i c
      subst h
      refine ⟨by simp, hle, fun j => ?_⟩
      simp only [List.length_cons, List.length_nil] at hle ⊢
      rw [List.getElem?_set]
      by_cases hj : off = j
      · subst hj; rw [if_pos rfl, if_pos (by omega), if_pos (by omega)]; simp
      · rw [if_neg hj, if_neg (by omega)]
    · subst h
      refine ⟨by simp; omega, hle, fun j => ?_⟩
      by_cases h1 : j < off
      · rw [if_neg (by omega), List.getElem?_append_left (by simp; omega), List.getElem?_take_of_lt h1]
      · rw [List.getElem?_append_right (by simp; omega)]
        simp only [List.length_take, Nat.min_eq_left (show off ≤ row.length by omega)]
        by_cases h2 : j < off + cs.length
        · rw [if_pos ⟨by omega, h2⟩, List.getElem?_append_left (by omega)]
        · rw [if_neg (by omega), List.getElem?_append_right (by omega), List.getElem?_drop]
          congr 1; omega
  · cases h

section
variable {C : Cfg} {A : Nat → Nat → Prop} {bd : Nat} {w : World} {γ : Gm} {hg : Nat → AObj} {nx : Nat}

/-- An outcome that sets an object, by a program that hands back a value. -/
def UpdSim (C : Cfg) (A : Nat → Nat → Prop) (bd : Nat) (w : World) (γ : Gm) (hg : Nat → AObj) (nx : Nat) (m : Sem Value) (g : G) : OR → Prop
  | .fail => True
  | .val x => ∃ v, m.run C.P w = .ok v w ∧ RV w γ A bd x v
  | .upd x g' => ∃ v w' γ' id ob, m.run C.P w = .ok v w' ∧ RV w' γ' A bd x v ∧ Stp w γ w' γ' ∧
      ((g' = g.put id ob ∧ Rel C A bd w' γ' (upd hg id ob) nx) ∨ (g' = g.new ob ∧ id = g.nx ∧ Rel C A bd w' γ' (upd hg id ob) (Nat.max nx (g.nx + 1))))
  | .dfr _ => False

theorem undef_rv : RV w γ A bd AV.undef undef := .tup _ [] #[] rfl (fun i x v h => by simp at h)

theorem store_sim {ty : TypeId} {n : Nat} {a x : T → AV} {t : T} {g : G} {va vx : Value} (hr : Rel C A bd w γ hg nx)
    (ha : RV w γ A bd (a t) va) (hx : RV w γ A bd (x t) vx) (hn : szT C.P ty = some n) (agree : ∀ id ∈ refIds (a t), hg id = g.h.get id) :
    UpdSim C A bd w γ hg nx (do Instr.storeAt ty va vx; pure undef) g (storeF n a x t g) := by
  unfold storeF
  generalize a t = y at *
  generalize x t = z at *
  cases ha with
  | hptr _ id ep i off b o hk he h =>
    have hagree := agree id (by simp [refIds])
    simp only [G.get_eq, ← hagree]
    cases hid : hg id with
    | cells sz rows ep' loose fz =>
      simp only [bif'_eq, lenR_eq, nthR_eq, setR_eq]
      split
      · rename_i hc
        simp only [Bool.and_eq_true, notb_eq, Bool.not_eq_true'] at hc
        obtain ⟨⟨⟨hep, hlen⟩, hfz⟩, htup⟩ := hc
        have hep := nat_beq hep
        have hlen := nat_beq hlen
        subst hfz
        subst hep
        have hob := hr.obj id
        rw [hid] at hob
        obtain ⟨k1, k2, k3, k4, k5, k6, c, e, k7, k8, k9, k10⟩ := hob
        obtain ⟨c1, c2⟩ := h k2.symm
        rw [k3] at c2
        cases hrow : rows[i]? with
        | none => trivial
        | some row =>
          dsimp only
          cases hp : putCells row off z.cells with
          | none => trivial
          | some row' =>
            obtain ⟨p1, p2, p3⟩ := putCells_get hp
            obtain ⟨q1, q2⟩ := cells_rv hx htup
            have hrl : row.length = sz := k9 i row hrow
            have hi : i < rows.length := (List.getElem?_eq_some_iff.1 hrow).1
            have hmul : (i + 1) * sz ≤ rows.length * sz := Nat.mul_le_mul_right _ hi
            rw [Nat.add_mul, Nat.one_mul] at hmul
            have hvl : vx.cells.toList.length = z.cells.length := q1.1.symm
            obtain ⟨w', r1, r2, r3⟩ := hr.storeCells hid (rows' := rows.set i row') (o := (γ id).base + i * sz + off) (vs := vx.cells.toList) q1 q2 (by simp)
              (fun i' r' hr' => by
                rw [List.getElem?_set] at hr'
                by_cases hii : i = i'
                · subst hii; rw [if_pos rfl, if_pos hi] at hr'; injection hr' with hr'; subst hr'; rw [p1]; exact hrl
                · rw [if_neg hii] at hr'; exact k9 i' r' hr')
              ⟨by omega, by rw [hvl]; omega⟩
              (fun i' j r' y hr' hy => by
                rw [List.getElem?_set] at hr'
                by_cases hii : i = i'
                · subst hii
                  rw [if_pos rfl, if_pos hi] at hr'
                  injection hr' with hr'; subst hr'
                  have := p3 j
                  rw [hy] at this
                  split
                  · rename_i hcond
                    rw [hvl] at hcond
                    rw [if_pos (by omega)] at this
                    rw [show (γ id).base + i * sz + j - ((γ id).base + i * sz + off) = j - off from by omega]
                    exact this.symm
                  · rename_i hcond
                    rw [hvl] at hcond
                    rw [if_neg (by omega)] at this
                    exact ⟨row, hrow, this.symm⟩
                · rw [if_neg hii] at hr'
                  have hj : j < sz := by rw [← k9 i' r' hr']; exact (List.getElem?_eq_some_iff.1 hy).1
                  rw [if_neg]
                  · exact ⟨r', hr', hy⟩
                  · rw [hvl]; rintro ⟨l1, l2⟩
                    exact hii (idx_eq (i := i) (i' := i') hj (by omega) (by omega)).symm) C.P
            refine ⟨undef, w', γ, id, .cells sz (rows.set i row') ep loose false, ?_, undef_rv, r3, .inl ⟨rfl, r2⟩⟩
            have hsz : vx.cells.size = n := by rw [← hlen, ← hvl]; simp
            rw [c1, c2]
            simp [Instr.storeAt, Instr.sureAddr, storeVar, run_sizeOf hn, hsz, r1]
      · trivial
    | _ => trivial
  | _ => trivial

/-- New cells out of rows of values. -/
theorem new_sim {sz : Nat} {rows : List (List AV)} {cs : Array Value} (e : TypeId) (hr : Rel C A bd w γ hg nx) {g : G} (hf : (γ g.nx).kind = 0)
    (hrow : ∀ (i : Nat) row, rows[i]? = some row → row.length = sz)
    (hv : ∀ (i j : Nat) row x, rows[i]? = some row → row[j]? = some x → x.one = true ∧ ∃ v, cs[i * sz + j]? = some v ∧ RV w γ A bd x v)
    (loose : Bool) (slack : Nat) (hs : (loose = false → slack = 0) ∧ (loose = true → rows.length + slack ≤ 9223372036854775807)) (hc : (rows.length + slack) * sz ≤ cs.size) :
    ∃ γ', Rel C A bd (World.add w (.cells cs e (0, 0))) γ' (upd hg g.nx (.cells sz rows 0 loose false)) (Nat.max nx (g.nx + 1)) ∧ Stp w γ (World.add w (.cells cs e (0, 0))) γ' ∧
      (γ' g.nx).kind = 1 ∧ (γ' g.nx).ep = 0 ∧ (γ' g.nx).sz = sz ∧ (γ' g.nx).n = rows.length ∧ (γ' g.nx).blk = w.heap.size ∧ (γ' g.nx).base = 0 ∧ (γ' g.nx).slack = slack :=
  hr.newCells e hf (Nat.le_max_left _ _) (Nat.lt_of_lt_of_le (Nat.lt_succ_self _) (Nat.le_max_right _ _)) hs hc hrow hv

theorem run_newRow {P : Program} (e : TypeId) (cs : Array Value) : (newRow e cs).run P w = .ok (adr w.heap.size 0) (World.add w (.cells cs e (0, 0))) := by
  simp [newRow, adr, World.add]

/-- A variable of its own. -/
theorem box_sim {ty : TypeId} {x : AV} {v : Value} {g : G} (hr : Rel C A bd w γ hg nx) (hx : RV w γ A bd x v) (hf : (γ g.nx).kind = 0) (ht : x.isTup = false) :
    UpdSim C A bd w γ hg nx (Instr.box ty v) g (.upd (.hptr g.nx 0 0 0) (g.new (.cells (lenR x.cells) [x.cells] 0 false false))) := by
  obtain ⟨q1, q2⟩ := cells_rv hx ht
  obtain ⟨γ', r1, r2, r3, r4, r5, r6, r7, r8, r9⟩ := new_sim (sz := x.cells.length) (rows := [x.cells]) (cs := v.cells) ty hr hf
    (fun i row h => by cases i with | zero => simp at h; rw [← h] | succ i => simp at h)
    (fun i j row y h hy => by
      cases i with
      | zero =>
        simp at h; subst h
        have hlt : j < v.cells.toList.length := by rw [← q1.1]; exact (List.getElem?_eq_some_iff.1 hy).1
        have he := List.getElem?_eq_getElem hlt
        exact ⟨q2 j y hy, _, by simpa using he, q1.2 j y _ hy he⟩
      | succ i => simp at h) false 0 ⟨fun _ => rfl, fun h => by cases h⟩ (by
        have := q1.1; simp at this; simp [this])
  rw [lenR_eq]
  refine ⟨.pointer (some (adr w.heap.size 0)), _, γ', g.nx, _, ?_, ?_, r2, .inr ⟨rfl, rfl, r1⟩⟩
  · simp [Instr.box, newVar, run_newRow]
  · exact .hptr _ _ _ _ _ _ _ r3 (by omega) (fun _ => ⟨r7.symm, by rw [r8]; simp⟩)

end
end Hx
