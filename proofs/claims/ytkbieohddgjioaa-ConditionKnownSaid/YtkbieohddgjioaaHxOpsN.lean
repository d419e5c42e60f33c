/- The operators. -/
import Derived.Test.YtkbieohddgjioaaHxEq
set_option linter.unusedVariables false
set_option linter.unusedSimpArgs false
set_option linter.unnecessarySimpa false
namespace Hx
open Go

section
variable {C : Cfg} {A : Nat → Nat → Prop} {bd : Nat} {w w' : World} {γ γ' : Gm} {hg : Nat → AObj} {nx : Nat}

theorem RVs.tail {x : AV} {xs : List AV} {v : Value} {vs : List Value} (h : RVs w γ A bd (x :: xs) (v :: vs)) : RV w γ A bd x v ∧ RVs w γ A bd xs vs :=
  ⟨h.2 0 x v rfl rfl, by have := h.1; simp at this; exact this, fun i y u hy hu => h.2 (i + 1) y u (by simpa using hy) (by simpa using hu)⟩

theorem kindOk_rv {d : TypeDesc} {x : AV} {v : Value} (h : kindOk d x = true) (hx : RV w γ A bd x v) : kindV d v = true := by
  cases d <;> cases hx <;> simp_all [kindOk, kindV, kindEq_eq]

theorem kindsOk_rv : ∀ {ds : List TypeDesc} {xs : List AV} {vs : List Value}, kindsOk ds xs = true → RVs w γ A bd xs vs → kindsV ds vs = true := by
  intro ds
  induction ds with
  | nil =>
    intro xs vs h hx
    cases xs with
    | nil => have := hx.1; cases vs with
      | nil => rfl
      | cons v vs => simp at this
    | cons x xs => cases h
  | cons d ds ih =>
    intro xs vs h hx
    cases xs with
    | nil => cases h
    | cons x xs =>
      cases vs with
      | nil => have := hx.1; simp at this
      | cons v vs =>
        obtain ⟨h1, h2⟩ := hx.tail
        simp only [kindsOk, bif'_eq] at h
        split at h
        · rename_i hk
          simp only [kindsV, Bool.and_eq_true]
          exact ⟨kindOk_rv hk h1, ih h h2⟩
        · cases h

theorem eqCell_rv {x y : AV} {v u : Value} {b : Bool} (h : eqCell x y = some b) (hx : RV w γ A bd x v) (hy : RV w γ A bd y u) : eqV v u = b := by
  cases hx <;> cases hy <;> simp only [eqCell] at h <;> first | (cases h; done) | skip
  · injection h with h; subst h; rename_i a b; cases a <;> cases b <;> rfl
  · rw [bif'_eq] at h
    split at h
    · injection h with h; subst h; simp [eqV, ieqb_eq]; rfl
    · cases h
  · injection h with h; subst h
    simp only [eqV]
    rename_i s1 s2
    obtain ⟨⟨x⟩⟩ := s1
    obtain ⟨⟨y⟩⟩ := s2
    show ((⟨x⟩ : Array UInt8) == ⟨y⟩) = _
    rw [Bool.eq_iff_iff]
    simp

theorem eqCells_rv : ∀ {xs ys : List AV} {vs us : List Value} {b : Bool}, eqCells xs ys = some b → RVs w γ A bd xs vs → RVs w γ A bd ys us → eqVs vs us = b := by
  intro xs
  induction xs with
  | nil =>
    intro ys vs us b h hx hy
    cases ys with
    | nil =>
      simp only [eqCells] at h; injection h with h; subst h
      have h1 := hx.1; have h2 := hy.1
      cases vs <;> cases us <;> simp_all [eqVs]
    | cons y ys => cases h
  | cons x xs ih =>
    intro ys vs us b h hx hy
    cases ys with
    | nil => cases h
    | cons y ys =>
      cases vs with
      | nil => have := hx.1; simp at this
      | cons v vs =>
        cases us with
        | nil => have := hy.1; simp at this
        | cons u us =>
          obtain ⟨x1, x2⟩ := hx.tail
          obtain ⟨y1, y2⟩ := hy.tail
          simp only [eqCells] at h
          split at h
          · rename_i p q hp hq
            injection h with h; subst h
            simp only [eqVs, eqCell_rv hp x1 y1, ih hq x2 y2, bif'_eq]
            cases p <;> simp
          · cases h

theorem agg_rvs {xs : List AV} {v : Value} (h : RV w γ A bd (.agg xs) v) : ∃ vs, v = .agg vs ∧ RVs w γ A bd xs vs.toList := by
  cases h with
  | agg _ _ vs hl h1 h2 => exact ⟨vs, rfl, by simpa using hl, fun i x u hx hu => h2 i x u hx (by simpa using hu)⟩

theorem flatAgg_eq {t : TypeId} {ds : List TypeDesc} {xs ys : Array Value} (h : flatAgg C.P t = some ds) (hag : isAggT C.P t = true) (hx : kindsV ds xs.toList = true) (hy : kindsV ds ys.toList = true) :
    C.P.eqGuardType C.P.depth t = false ∧ (Op.equal t (.agg xs) (.agg ys)).run C.P w = .ok (eqVs xs.toList ys.toList) w := by
  unfold flatAgg at h
  rw [bif'_eq] at h
  split at h
  · cases h
  · rename_i hg
    refine ⟨by simpa using hg, ?_⟩
    have := flat_eq (P := C.P) 9992 8 t ds h w xs.toList ys.toList hx hy
    unfold mkV at this
    rw [hag] at this
    simpa [Op.equal, Op.maxDepth] using this

theorem equal_one (t : TypeId) (x y : Value) : Op.equal t x y = Op.equalIn (9999 + 1) t x y := rfl

/-- What an equality comes to. -/
def EqFin (C : Cfg) (w : World) (ty : TypeId) (xo yo : Operand) (va vb : Value) (r : Bool) : Prop :=
  (∀ op, (eqGuard op ty xo yo va vb).run C.P w = .ok () w) ∧ (binOp .eql ty va vb).run C.P w = .ok (.bool r) w ∧ (binOp .neq ty va vb).run C.P w = .ok (.bool (!r)) w

theorem EqFin.mk' {ty : TypeId} {xo yo : Operand} {va vb : Value} {r : Bool} (h1 : ∀ op, (eqGuard op ty xo yo va vb).run C.P w = .ok () w) (h2 : (Op.equal ty va vb).run C.P w = .ok r w)
    (h3 : binOp .eql ty va vb = (do pure (.bool (← Op.equal ty va vb)))) (h4 : binOp .neq ty va vb = (do pure (.bool (!(← Op.equal ty va vb))))) : EqFin C w ty xo yo va vb r := by
  refine ⟨h1, ?_, ?_⟩
  · rw [h3]; simp [h2]
  · rw [h4]; simp [h2]

section kinds
variable {ty : TypeId} {xo yo : Operand} {a b : AV} {va vb : Value} {r : Bool} (ha : RV w γ A bd a va) (hb : RV w γ A bd b vb)
include ha hb

theorem eqA_flat {ds : List TypeDesc} (hf : flatAgg C.P ty = some ds) (hag : isAggT C.P ty = true) (h : eqA (.flat ds) a b = some r) : EqFin C w ty xo yo va vb r := by
  cases a <;> try (cases h; done)
  cases b <;> try (cases h; done)
  rename_i xs ys
  change bif' (kindsOk ds xs && kindsOk ds ys) (eqCells xs ys) none = some r at h
  rw [bif'_eq] at h
  split at h
  · rename_i hk
    simp only [Bool.and_eq_true] at hk
    obtain ⟨vs, rfl, hv⟩ := agg_rvs ha
    obtain ⟨us, rfl, hv'⟩ := agg_rvs hb
    obtain ⟨g1, g2⟩ := flatAgg_eq (w := w) hf hag (kindsOk_rv hk.1 hv) (kindsOk_rv hk.2 hv')
    rw [eqCells_rv h hv hv'] at g2
    exact .mk' (fun op => run_eqGuard_agg w op ty xo yo vs us g1) g2 rfl rfl
  · cases h

theorem eqA_slice {e : TypeId} (hu : C.P.underlying ty = some (.slice e)) (h : eqA .slice a b = some r) : EqFin C w ty xo yo va vb r := by
  cases ha <;> try (cases h; done)
  all_goals cases hb <;> first | (cases h; done) | (injection h with h; subst h; exact .mk' (fun op => by cases op <;> simp [eqGuard]) (by rw [equal_one]; unfold Op.equalIn; simp [run_und hu]) rfl rfl)

theorem eqA_func {p q : Array TypeId} {v : Bool} (hu : C.P.underlying ty = some (.func p q v)) (h : eqA .func a b = some r) : EqFin C w ty xo yo va vb r := by
  cases ha <;> try (cases h; done)
  all_goals cases hb <;> first | (cases h; done) | (injection h with h; subst h; exact .mk' (fun op => by cases op <;> simp [eqGuard]) (by rw [equal_one]; unfold Op.equalIn; simp [run_und hu]) rfl rfl)

theorem eqA_bool (hu : C.P.underlying ty = some .bool) (h : eqA .bool a b = some r) : EqFin C w ty xo yo va vb r := by
  cases ha <;> try (cases h; done)
  cases hb <;> try (cases h; done)
  rename_i x y
  injection h with h; subst h
  refine .mk' (fun op => by cases op <;> simp [eqGuard]) ?_ rfl rfl
  rw [equal_one]; unfold Op.equalIn; simp [run_und hu]
  cases x <;> cases y <;> rfl

theorem eqA_iface {ms : Array (String × TypeId)} (hu : C.P.underlying ty = some (.interface ms)) (h : eqA (.iface ms.isEmpty) a b = some r) : EqFin C w ty xo yo va vb r := by
  cases ha <;> try (cases h; done)
  · cases hb <;> try (cases h; done)
    · change bif' ms.isEmpty (some true) none = some r at h
      rw [bif'_eq] at h
      split at h
      · rename_i he
        injection h with h; subst h
        refine .mk' (fun op => ?_) (by rw [equal_one]; unfold Op.equalIn; simp [run_und hu]) rfl rfl
        have hg : (Op.eqGuardIn Op.maxDepth ty .nilIface .nilIface).run C.P w = .ok false w := by
          show (Op.eqGuardIn (9999 + 1) ty .nilIface .nilIface).run C.P w = _
          unfold Op.eqGuardIn
          simp only [Sem.run_bind, run_und hu, Result.andThen_ok, he, Sem.run_pure, Bool.not_true]
        unfold eqGuard
        generalize Op.eqGuardIn Op.maxDepth ty .nilIface .nilIface = m at hg ⊢
        cases op <;> simp [hg]
      · cases h
    · injection h with h; subst h
      exact .mk' (fun op => by cases op <;> simp [eqGuard]) (by rw [equal_one]; unfold Op.equalIn; simp [run_und hu]) rfl rfl
  · cases hb <;> try (cases h; done)
    injection h with h; subst h
    exact .mk' (fun op => by cases op <;> simp [eqGuard]) (by rw [equal_one]; unfold Op.equalIn; simp [run_und hu]) rfl rfl
end kinds

/-- An equality by its kind. -/
theorem eqA_sim {ty : TypeId} {xo yo : Operand} {a b : AV} {va vb : Value} {r : Bool} (hne : eqKind C.P ty ≠ .other) (h : eqA (eqKind C.P ty) a b = some r) (ha : RV w γ A bd a va) (hb : RV w γ A bd b vb) :
    EqFin C w ty xo yo va vb r := by
  unfold eqKind at h hne
  cases hu : C.P.underlying ty with
  | none => simp only [hu] at hne; exact absurd rfl hne
  | some d =>
    have agg : isAggD d = true → eqA (match flatAgg C.P ty with | some ds => EqKind.flat ds | none => .other) a b = some r → EqFin C w ty xo yo va vb r := by
      intro hd h
      cases hf : flatAgg C.P ty with
      | none => rw [hf] at h; cases h
      | some ds => rw [hf] at h; exact eqA_flat ha hb hf (by rw [(isAgg_of hu).1]; exact hd) h
    simp only [hu] at h hne
    cases d
    case struct fs => exact agg rfl h
    case array n e => exact agg rfl h
    case slice e => exact eqA_slice ha hb hu h
    case func p q v => exact eqA_func ha hb hu h
    case bool => exact eqA_bool ha hb hu h
    case interface ms => exact eqA_iface ha hb hu h
    all_goals exact absurd rfl hne

noncomputable def intsA (op : BinOp) (x y : AV) : OR := match x, y with | .int k m, .int k' n => orV ((intBin op).run k m k' n) | _, _ => .fail

theorem bin_sim {op : BinOp} {ty : TypeId} {xo yo : Operand} {a b : AV} {va vb : Value} (ha : RV w γ A bd a va) (hb : RV w γ A bd b vb) :
    ValSim C A bd w γ (do eqGuard op ty xo yo va vb; binOp op ty va vb) ((binA C.P op ty).run a b) := by
  have ints : ValSim C A bd w γ (do eqGuard op ty xo yo va vb; binOp op ty va vb) (intsA op a b) := by
    unfold intsA
    cases ha with
    | int _ k m =>
      cases hb with
      | int _ k' n =>
        refine orV_sim fun y hy => ?_
        obtain ⟨v, h1, h2⟩ := intBin_sim (P := C.P) (ty := ty) (w := w) (γ := γ) (A := A) (bd := bd) hy
        refine ⟨v, ?_, h2⟩
        have : (eqGuard op ty xo yo (.int k m) (.int k' n)).run C.P w = .ok () w := by cases op <;> simp [eqGuard]
        simp [this, h1]
      | _ => trivial
    | _ => trivial
  cases op
  case eql =>
    unfold binA
    dsimp only
    split
    · exact ints
    · rename_i hk
      dsimp only
      cases hr : eqA (eqKind C.P ty) a b with
      | none => trivial
      | some r =>
        obtain ⟨h1, h2, _⟩ := eqA_sim (xo := xo) (yo := yo) (fun e => hk e) hr ha hb
        exact ⟨.bool r, by simp [h1, h2], .bool _ _⟩
  case neq =>
    unfold binA
    dsimp only
    split
    · exact ints
    · rename_i hk
      dsimp only
      cases hr : eqA (eqKind C.P ty) a b with
      | none => trivial
      | some r =>
        obtain ⟨h1, _, h2⟩ := eqA_sim (xo := xo) (yo := yo) (fun e => hk e) hr ha hb
        exact ⟨.bool (!r), by simp [h1, h2], by rw [notb_eq]; exact .bool _ _⟩
  all_goals exact ints

end
end Hx
