/- The simple operations: operands, numbers, loads. -/
import Derived.Test.YtkbieohddgjioaaHxSet
set_option linter.unusedVariables false
set_option linter.unusedSimpArgs false
set_option linter.unnecessarySimpa false
namespace Hx
open Go

/-- The slots. -/
def TR (w : World) (γ : Gm) (A : Nat → Nat → Prop) (bd : Nat) (nt : Nat) (t : T) (tmps : Array Value) : Prop :=
  tmps.size = nt ∧ ∀ i, RV w γ A bd (t.get AV.undef i) (tmps.getD i undef)

/-- An operation ends with a value, or without one. -/
def Gives (P : Program) (o : Oper) (ev : Operand → Value) (w : World) (v : Value) (w' : World) : Prop :=
  (execOp ev o).run P w = .ok (.value v) w' ∨ ((execOp ev o).run P w = .ok .skip w' ∧ v = undef)

/-- What an operation's abstract outcome says of the model's. -/
def OpSim (C : Cfg) (A : Nat → Nat → Prop) (bd : Nat) (w : World) (γ : Gm) (hg : Nat → AObj) (nx : Nat) (o : Oper) (ev : Operand → Value) (g : G) : OR → Prop
  | .fail => True
  | .val x => ∃ v, Gives C.P o ev w v w ∧ RV w γ A bd x v
  | .upd x g' => ∃ v w' γ' id ob, Gives C.P o ev w v w' ∧ RV w' γ' A bd x v ∧ Stp w γ w' γ' ∧
      ((g' = g.put id ob ∧ Rel C A bd w' γ' (upd hg id ob) nx) ∨ (g' = g.new ob ∧ id = g.nx ∧ Rel C A bd w' γ' (upd hg id ob) (Nat.max nx (g.nx + 1))))
  | .dfr _ => False

section
variable {C : Cfg} {A : Nat → Nat → Prop} {bd : Nat} {w : World} {γ : Gm} {hg : Nat → AObj} {nx : Nat}

theorem ofV_rv {v : Value} {a : AV} (h : ofV v = some a) : RV w γ A bd a v ∧ a.one = true := by
  unfold ofV at h
  split at h <;> first | (cases h; done) | (injection h with h; subst h; exact ⟨by constructor, rfl⟩)
theorem ofVs_rv : ∀ {vs : List Value} {as : List AV}, ofVs vs = some as → RVs w γ A bd as vs ∧ ∀ (i : Nat) y, as[i]? = some y → y.one = true := by
  intro vs
  induction vs with
  | nil => intro as h; simp [ofVs] at h; subst h; exact ⟨⟨rfl, fun i x v h => by simp at h⟩, fun i y h => by simp at h⟩
  | cons v vs ih =>
    intro as h
    simp only [ofVs] at h
    split at h
    · rename_i a as' h1 h2
      injection h with h; subst h
      obtain ⟨p, q⟩ := ofV_rv (w := w) (γ := γ) (A := A) (bd := bd) h1
      obtain ⟨r, s⟩ := ih h2
      refine ⟨⟨by simp [r.1], fun i x u hx hu => ?_⟩, fun i y hy => ?_⟩
      · cases i with
        | zero => simp at hx hu; subst hx; subst hu; exact p
        | succ i => exact r.2 i x u (by simpa using hx) (by simpa using hu)
      · cases i with
        | zero => simp at hy; subst hy; exact q
        | succ i => exact s i y (by simpa using hy)
    · cases h

theorem rho_sim {x : Operand} {s : Stg (T → AV)} {nt : Nat} {t : T} {a : Act} (h : cRho C x = some s) (ht : TR w γ A bd nt t a.tmps) (hr : Rel C A bd w γ hg nx) :
    RV w γ A bd (s.run t) (a.eval x) := by
  cases x with
  | tmp n => simp [cRho] at h; subst h; rw [gp_run]; exact ht.2 n
  | const v =>
    simp only [cRho] at h
    split at h
    · rename_i a' h1; injection h with h; subst h; exact (ofV_rv h1).1
    · cases h
  | global g =>
    simp only [cRho] at h
    split at h
    · rename_i sz rows h1; injection h with h; subst h; exact hr.glob g sz rows h1
    · cases h
  | func f =>
    simp [cRho] at h; subst h
    exact .clo _ f [] [] #[] #[] rfl rfl (fun i x v h => by simp at h) (fun i x v h => by simp at h)

theorem rhos_sim {nt : Nat} {t : T} {a : Act} (ht : TR w γ A bd nt t a.tmps) (hr : Rel C A bd w γ hg nx) : ∀ {xs : List Operand} {s : Stg (T → List AV)},
    cRhos C xs = some s → RVs w γ A bd (s.run t) (xs.map a.eval) := by
  intro xs
  induction xs with
  | nil => intro s h; simp [cRhos] at h; subst h; exact ⟨rfl, fun i x v h => by simp at h⟩
  | cons x xs ih =>
    intro s h
    simp only [cRhos] at h
    split at h
    · rename_i a' as' h1 h2
      injection h with h; subst h
      have p := rho_sim h1 ht hr
      have q := ih h2
      refine ⟨by simp [q.1], fun i y u hy hu => ?_⟩
      cases i with
      | zero => simp at hy hu; subst hy; subst hu; exact p
      | succ i => exact q.2 i y u (by simpa using hy) (by simpa using hu)
    · cases h

/-- A part of a row. -/
theorem getPart_cells {ag : Bool} {n : Nat} {row : List AV} {off b o : Nat} {x : AV} {ty : TypeId} {bd' : Nat} (hb : bd' ≤ bd)
    (hcell : ∀ (j : Nat) y, row[j]? = some y → y.one = true ∧ ∃ v, w.cell? (adr b (o + j)) = some v ∧ RV w γ A bd' y v)
    (hag : aggT C.P ty = some ag) (hn : szT C.P ty = some n) (h : getPart ag n row off = some x) :
    ∃ v, (loadVar ty (adr b (o + off))).run C.P w = .ok v w ∧ RV w γ A bd x v := by
  unfold getPart at h
  cases ag with
  | false =>
    simp only [nthR_eq] at h
    obtain ⟨_, v, h1, h2⟩ := hcell off x h
    exact ⟨v, by simp [loadVar, run_isAgg hag, h1], h2.mono hb⟩
  | true =>
    simp only [takeR_eq, dropR_eq, lenR_eq, bif'_eq] at h
    split at h
    · rename_i hl
      rw [Nat.beq_eq] at hl
      injection h with h; subst h
      -- the cells' values
      have hex : ∀ j : Fin n, ∃ v, w.cell? (adr b (o + off + j)) = some v ∧ ∃ y, (List.take n (List.drop off row))[j.1]? = some y ∧ y.one = true ∧ RV w γ A bd' y v := by
        intro j
        have hj : j.1 < (List.take n (List.drop off row)).length := by rw [hl]; exact j.2
        have e : (List.take n (List.drop off row))[j.1]? = row[off + j.1]? := by
          rw [List.getElem?_take_of_lt j.2, List.getElem?_drop]
        have hy := List.getElem?_eq_getElem hj
        obtain ⟨c1, v, c2, c3⟩ := hcell (off + j.1) _ (e ▸ hy)
        exact ⟨v, by rw [Nat.add_assoc]; exact c2, _, hy, c1, c3⟩
      let f : Fin n → Value := fun j => Classical.choose (hex j)
      have hf : ∀ j : Fin n, w.cell? (adr b (o + off + j)) = some (f j) ∧ ∃ y, (List.take n (List.drop off row))[j.1]? = some y ∧ y.one = true ∧ RV w γ A bd' y (f j) :=
        fun j => Classical.choose_spec (hex j)
      have hlen : (List.ofFn f).length = n := by simp
      have hrun := loadCells_run (P := C.P) (w := w) (b := b) (o := o + off) (cs := List.ofFn f) (fun j c hc => by
        have hj : j < n := by rw [← hlen]; exact (List.getElem?_eq_some_iff.1 hc).1
        rw [List.getElem?_ofFn] at hc
        simp [hj] at hc
        rw [← hc]; exact (hf ⟨j, hj⟩).1)
      rw [hlen] at hrun
      refine ⟨.agg (List.ofFn f).toArray, by simp [loadVar, run_isAgg hag, run_sizeOf hn, hrun], .agg _ _ _ (by simpa using hl) (fun i y hy => ?_) (fun i y v hy hv => ?_)⟩
      · have hi : i < n := by rw [← hl]; exact (List.getElem?_eq_some_iff.1 hy).1
        obtain ⟨_, y', h1, h2, _⟩ := hf ⟨i, hi⟩
        rw [hy] at h1; injection h1 with h1; subst h1; exact h2
      · have hi : i < n := by rw [← hl]; exact (List.getElem?_eq_some_iff.1 hy).1
        obtain ⟨_, y', h1, h2, h3⟩ := hf ⟨i, hi⟩
        rw [hy] at h1; injection h1 with h1; subst h1
        simp [List.getElem?_ofFn, hi] at hv
        rw [← hv]; exact h3.mono hb
    · cases h

/-- What a row of an object says. -/
theorem row_cells (hr : Rel C A bd w γ hg nx) {id sz ep : Nat} {rows : List (List AV)} {loose fz : Bool} (hid : hg id = .cells sz rows ep loose fz)
    {i : Nat} {row : List AV} (hi : rows[i]? = some row) (j : Nat) (y : AV) (hy : row[j]? = some y) :
    y.one = true ∧ ∃ v, w.cell? (adr (γ id).blk ((γ id).base + i * sz + j)) = some v ∧ RV w γ A bd y v := by
  have hob := hr.obj id
  rw [hid] at hob
  obtain ⟨k1, k2, k3, k4, k5, k6, c, e, k7, k8, k9, k10⟩ := hob
  obtain ⟨a, v, b1, b2⟩ := k10 i j row y hi hy
  exact ⟨a, v, by rw [cell_blk k7]; exact b1, b2⟩

theorem nat_beq {a b : Nat} (h : Nat.beq a b = true) : a = b := Nat.eq_of_beq_eq_true h

/-- An outcome that is a value or none. -/
def ValSim (C : Cfg) (A : Nat → Nat → Prop) (bd : Nat) (w : World) (γ : Gm) (m : Sem Value) : OR → Prop
  | .fail => True
  | .val x => ∃ v, m.run C.P w = .ok v w ∧ RV w γ A bd x v
  | _ => False

theorem orV_sim {m : Sem Value} {x : Option AV} (h : ∀ y, x = some y → ∃ v, m.run C.P w = .ok v w ∧ RV w γ A bd y v) : ValSim C A bd w γ m (orV x) := by
  cases x with
  | none => trivial
  | some y => exact h y rfl

theorem load_sim {ty : TypeId} {ag : Bool} {n : Nat} {a : T → AV} {t : T} {g : G} {va : Value} (hr : Rel C A bd w γ hg nx)
    (ha : RV w γ A bd (a t) va) (hag : aggT C.P ty = some ag) (hn : szT C.P ty = some n) (agree : ∀ id ∈ refIds (a t), hg id = g.h.get id) :
    ValSim C A bd w γ (Instr.loadAt ty va) (loadF ag n a t g) := by
  unfold loadF
  generalize a t = x at *
  cases ha with
  | tptr _ tag sz rows i0 off0 b o cell ht hb hm ha' hrl ho hw h =>
    simp only [nthR_eq]
    cases hrow : rows[i0]? with
    | none => trivial
    | some row =>
      refine orV_sim fun y hp => ?_
      obtain ⟨v, h1, h2⟩ := getPart_cells (C := C) (ty := ty) (w := w) (γ := γ) (A := A) (bd := bd) ht (b := b) (o := o + i0 * sz) (fun j y hy => ⟨ho i0 j row y hrow hy, _, hw i0 j row y hrow hy, h i0 j row y hrow hy⟩) hag hn hp
      exact ⟨v, by simp [Instr.loadAt, Instr.sureAddr, h1], h2⟩
  | hptr _ id ep i off b o hk he h =>
    have hagree := agree id (by simp [refIds])
    simp only [G.get_eq, ← hagree]
    cases hid : hg id with
    | cells sz rows ep' loose fz =>
      simp only [bif'_eq]
      split
      · rename_i hep
        have hep := nat_beq hep
        have hob := hr.obj id
        rw [hid] at hob
        obtain ⟨k1, k2, k3, _⟩ := hob
        obtain ⟨c1, c2⟩ := h (hep.trans k2.symm)
        simp only [nthR_eq]
        cases hrow : rows[i]? with
        | none => trivial
        | some row =>
          refine orV_sim fun y hp => ?_
          obtain ⟨v, h1, h2⟩ := getPart_cells (C := C) (ty := ty) (w := w) (γ := γ) (A := A) (bd := bd) (Nat.le_refl _) (b := (γ id).blk) (o := (γ id).base + i * sz) (row_cells hr hid hrow) hag hn hp
          refine ⟨v, ?_, h2⟩
          rw [c1, c2, k3]
          simp [Instr.loadAt, Instr.sureAddr, h1]
      · trivial
    | _ => trivial
  | _ => trivial

end
end Hx
