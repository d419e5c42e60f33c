/- Lengths, the least and the greatest, equality of plain values. -/
import Derived.Test.YtkbieohddgjioaaHxOpsL
set_option linter.unusedVariables false
set_option linter.unusedSimpArgs false
set_option linter.unnecessarySimpa false
namespace Hx
open Go

section
variable {C : Cfg} {A : Nat → Nat → Prop} {bd : Nat} {w w' : World} {γ γ' : Gm} {hg : Nat → AObj} {nx : Nat}

theorem getObj_run {P : Program} {b : Nat} {o : Obj} (h : w.heap[b]? = some o) (hc : ∀ c e f, o ≠ .cells c e f) : (getObj b).run P w = .ok o w := by
  cases o <;> first | (exact absurd rfl (hc _ _ _)) | simp [getObj, Sem.run, h]
theorem setObj_run {P : Program} {b : Nat} {o o' : Obj} (h : w.heap[b]? = some o) (hc : ∀ c e f, o ≠ .cells c e f) : (setObj b o').run P w = .ok () (World.setBlk w b o') := by
  cases o <;> first | (exact absurd rfl (hc _ _ _)) | simp [setObj, Sem.run, h, World.setBlk]

theorem len_sim {argTypes : Array TypeId} {ty t : TypeId} {x : AV} {v : Value} {g : G} (hr : Rel C A bd w γ hg nx) (h0 : argTypes[0]? = some t)
    (hx : RV w γ A bd x v) (agree : lenKind C.P t = .map → ∀ id ∈ refIdsL x, hg id = g.h.get id) :
    ValSim C A bd w γ (Builtin.len_ argTypes ty #[v]) (lenF (lenKind C.P t) x g) := by
  have a0 : (#[v] : Array Value)[0]? = some v := rfl
  unfold Builtin.len_ lenKind
  cases hu : C.P.underlying t with
  | none => trivial
  | some d =>
    cases d <;> try trivial
    case array n e =>
      refine ⟨goInt n, ?_, .int _ _ _⟩
      simp only [h0, a0, Sem.run_bind, run_und hu, Result.andThen_ok]
      rfl
    case slice e =>
      simp only [lenF]
      cases hx with
      | nils => exact ⟨goInt 0, by simp [h0, run_und hu], .int _ _ _⟩
      | esl _ a => exact ⟨goInt 0, by simp [h0, run_und hu], .int _ _ _⟩
      | tsl _ tag sz rows b o cap cell ht hc hb hm ha hrl ho hw h =>
        refine ⟨goInt rows.length, by simp [h0, run_und hu], ?_⟩
        rw [lenR_eq]; exact .int _ _ _
      | tnil _ tag sz a cap ht => exact ⟨goInt 0, by simp [h0, run_und hu], .int _ _ _⟩
      | hsl _ id ep off len lim b o cap hk he hc h => exact ⟨goInt len, by simp [h0, run_und hu], .int _ _ _⟩
      | _ => trivial
    case string =>
      simp only [lenF]
      cases hx with
      | str _ s => exact ⟨goInt s.size, by simp [h0, run_und hu], .int _ _ _⟩
      | _ => trivial
    case map kt et =>
      simp only [lenF]
      cases hx with
      | nilm => exact ⟨goInt 0, by simp [h0, run_und hu], .int _ _ _⟩
      | hmap _ id b hk hb =>
        have hagree := agree (by simp [lenKind, hu]) id (by simp [refIdsL])
        simp only [G.get_eq, ← hagree]
        cases hid : hg id with
        | map es =>
          have hob := hr.obj id
          rw [hid] at hob
          obtain ⟨k1, k2, esC, k3, k4, k5⟩ := hob
          subst hb
          refine ⟨goInt es.length, ?_, by rw [lenR_eq]; exact .int _ _ _⟩
          simp [h0, run_und hu, getObj_run k3 (by simp), k4]
        | _ => trivial
      | _ => trivial

theorem cap_sim {argTypes : Array TypeId} {ty t e : TypeId} {x : AV} {v : Value} {g : G} (hr : Rel C A bd w γ hg nx) (h0 : argTypes[0]? = some t) (hu : C.P.underlying t = some (.slice e))
    (hx : RV w γ A bd x v) (agree : ∀ id ∈ refIds x, hg id = g.h.get id) :
    ValSim C A bd w γ (Builtin.cap_ argTypes ty #[v]) (capF x g) := by
  have a0 : (#[v] : Array Value)[0]? = some v := rfl
  unfold capF
  cases hx with
  | nils => exact ⟨goInt 0, by simp [Builtin.cap_, h0, run_und hu], .int _ _ _⟩
  | esl _ a => exact ⟨goInt 0, by simp [Builtin.cap_, h0, run_und hu], .int _ _ _⟩
  | hsl _ id ep off len lim b0 o0 cap0 hk he hc0 h0' =>
    have hagree := agree id (by simp [refIds])
    simp only [G.get_eq, ← hagree]
    cases hid : hg id with
    | cells sz rows ep' loose fz =>
      simp only [bif'_eq]
      split
      · rename_i hcond
        simp only [Bool.and_eq_true, Bool.or_eq_true, notb_eq, Bool.not_eq_true'] at hcond
        obtain ⟨h1, h2⟩ := hcond
        have h1 := nat_beq h1; subst h1
        have hob := hr.obj id
        rw [hid] at hob
        obtain ⟨k1, k2, k3, k4, k5, _⟩ := hob
        obtain ⟨c1, c2, hco⟩ := h0' k2.symm
        refine ⟨goInt cap0, by simp [Builtin.cap_, h0, run_und hu], ?_⟩
        have e : (lim.getD (lenR rows - off)) = cap0 := by
          rw [lenR_eq]
          unfold CapOk at hco
          cases lim with
          | none => simp at h2; have := k5.1 h2; simp only [Option.getD]; dsimp only at hco; omega
          | some c => simp only [Option.getD]; exact hco.1.symm
        rw [e]; exact .int _ _ _
      · trivial
    | _ => trivial
  | _ => trivial

theorem max_sim {argTypes : Array TypeId} {ty : TypeId} {x y : AV} {v u : Value} (hx : RV w γ A bd x v) (hy : RV w γ A bd y u) :
    ValSim C A bd w γ (Builtin.max_ argTypes ty #[v, u]) (match x with
      | .int k m => match y with
        | .int k' n => bif' (kindEq k k') (.val (.int k (bif' (iltb m n) n m))) .fail
        | _ => .fail
      | _ => .fail) := by
  cases hx with
  | int _ k m =>
    cases hy with
    | int _ k' n =>
      dsimp only
      rw [bif'_eq]
      split
      · refine ⟨.int k (if n > m then n else m), by simp [Builtin.max_, Builtin.max2], ?_⟩
        rw [bif'_eq, iltb_eq]; simp only [decide_eq_true_eq, gt_iff_lt]
        exact .int _ _ _
      · trivial
    | _ => trivial
  | _ => trivial
theorem min_sim {argTypes : Array TypeId} {ty : TypeId} {x y : AV} {v u : Value} (hx : RV w γ A bd x v) (hy : RV w γ A bd y u) :
    ValSim C A bd w γ (Builtin.min_ argTypes ty #[v, u]) (match x with
      | .int k m => match y with
        | .int k' n => bif' (kindEq k k') (.val (.int k (bif' (iltb n m) n m))) .fail
        | _ => .fail
      | _ => .fail) := by
  cases hx with
  | int _ k m =>
    cases hy with
    | int _ k' n =>
      dsimp only
      rw [bif'_eq]
      split
      · refine ⟨.int k (if n < m then n else m), by simp [Builtin.min_, Builtin.min2], ?_⟩
        rw [bif'_eq, iltb_eq]; simp only [decide_eq_true_eq]
        exact .int _ _ _
      · trivial
    | _ => trivial
  | _ => trivial

end
end Hx
