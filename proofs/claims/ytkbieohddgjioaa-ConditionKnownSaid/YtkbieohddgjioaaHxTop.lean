/- From the interpreter to the kit's contracts. -/
import Derived.Test.YtkbieohddgjioaaHxCode
import Derived.Below
set_option linter.unusedVariables false
set_option linter.unusedSimpArgs false
set_option linter.unnecessarySimpa false
namespace Hx
open Go Go.RowKit

/-- Nothing is held. -/
def gm0 : Gm := fun _ => ⟨0, 0, 0, 0, 0, 0, 0, false⟩
def av0 : Nat → Nat → Prop := fun _ _ => False

theorem mut0 (b : Nat) : ¬ Mut gm0 b := by rintro ⟨id, h, _⟩; exact h rfl

/-- Arguments as they came in. -/
abbrev RV0 (w : World) (x : AV) (v : Value) : Prop := RV w gm0 av0 0 x v
abbrev RVs0 (w : World) (xs : List AV) (vs : List Value) : Prop := RVs w gm0 av0 0 xs vs

theorem empty_get : G.empty.h.get = fun _ => AObj.none := by
  funext id; simp [G.empty, H.get, Tr.get_nil]

/-- A run of the interpreter is a contract. -/
theorem calls_of_sem {C : Cfg} (hC : CfgOk C) {n f : Nat} {as : List AV} {v : AV} {g' : G} (h : (sem C n).call 1 f as G.empty = .ok v g') {w : World} {vs : List Value} (hargs : RVs0 w as vs)
    (hglob : ∀ gl sz rows, C.glob gl = some (sz, rows) → RV0 w (.tptr 0 sz rows 0 0) (.pointer (some ⟨gl, 0, none⟩))) :
    Calls C.P f vs.toArray w fun e w' => ∃ u γ' A', e = .returned u ∧ Below w.heap.size w w' ∧ RV w' γ' A' 0 v u := by
  intro cs
  have hok := sem_ok hC n
  obtain ⟨_, hrun⟩ := hok.call 0 f as G.empty v g' h
  have hr : Rel C av0 0 w gm0 (fun _ => .none) 0 :=
    ⟨fun id => rfl, fun id h => absurd rfl h, fun i j h => absurd rfl h, fun id h => absurd rfl h, fun t b h => h.elim, hglob⟩
  obtain ⟨u, w', γ', hg', fin, rv, fr, st, q1, q2, q3, q4, fn, q5, q6⟩ := hrun av0 w gm0 _ 0 vs hr (fun id h => by rw [empty_get] at h; exact absurd rfl h) (fun id _ => by rw [empty_get]) (fun _ _ _ => rfl) hargs .normal cs (.inl rfl)
  refine ⟨.returned u, w', fr, ⟨u, γ', av0, rfl, ⟨fin.stp.os, fin.stp.tape, fin.stp.output, fin.stp.sz, fun k hk => fin.stp.fr k hk (mut0 k)⟩, rv⟩, st, q4, q1, q2, q3, fn, by rw [q4]; exact q5, q6⟩

/-- A law: it comes to true. -/
theorem law_of_sem {C : Cfg} (hC : CfgOk C) {n f : Nat} {as : List AV} {g' : G} (h : (sem C n).call 1 f as G.empty = .ok (.bool true) g') {w : World} {vs : List Value} (hargs : RVs0 w as vs)
    (hglob : ∀ gl sz rows, C.glob gl = some (sz, rows) → RV0 w (.tptr 0 sz rows 0 0) (.pointer (some ⟨gl, 0, none⟩))) :
    Calls C.P f vs.toArray w fun e w' => e = .returned (.bool true) ∧ Below w.heap.size w w' :=
  (calls_of_sem hC h hargs hglob).mono fun e w' ⟨u, γ', A', he, hb, rv⟩ => by
    cases rv; exact ⟨he, hb⟩

/-- Whether a call comes to true. -/
noncomputable def isTrue : FR → Bool
  | .ok (.bool true) _ => true
  | _ => false

theorem isTrue_spec {r : FR} (h : isTrue r = true) : ∃ g', r = .ok (.bool true) g' := by
  unfold isTrue at h
  split at h
  · exact ⟨_, rfl⟩
  · cases h

end Hx
