/- Tables of known calls, at any depth. -/
import Derived.Test.YtkbieohddgjioaaHxExt
set_option linter.unusedVariables false
set_option linter.unusedSimpArgs false
set_option linter.unnecessarySimpa false
namespace Hx
open Go

/-- A call in a heap of its own. -/
noncomputable def isoE (C : Cfg) (n f : Nat) : Nat → List AV → G → OR := fun d as g => isoCall (sem C n) d g f as

theorem isoCall_noDfr {ih : IH} {d : Nat} {g : G} {f : Nat} {args : List AV} {y : ADf} : isoCall ih d g f args ≠ .dfr y := by
  intro hy
  revert hy
  unfold isoCall
  repeat' (first | split | rw [bif'_eq])
  all_goals (intro h; cases h)

theorem isoE_ok {C : Cfg} (hC : CfgOk C) {n f : Nat} : ExtOk C f (isoE C n f) := by
  refine ⟨fun d args g hwf => isoCall_mon hwf, fun d args g y => isoCall_noDfr, fun A bd w γ hg nx g as vs hr hwf hx hf hv hne cs => ?_⟩
  have hok := sem_ok hC n
  obtain ⟨he, u, w', γ', hg', fin, rv, out⟩ := isoCall_sim hok.call hok.mon.call hr hx hv hne cs
  exact ⟨u, w', γ', hg', fin, rv, .inr ⟨he, out⟩⟩

/-- At the depth d0, the table; else, what serves. -/
noncomputable def tabD (d0 : Nat) (tab : List (List AV × AV)) (fb : Nat → List AV → G → OR) : Nat → List AV → G → OR := fun d as g =>
  bif' (Nat.beq d d0) (match mapO (snap g.h d depthA) as with
    | some as' => match findTab as' tab with
      | some v => .val v
      | none => fb d as g
    | none => .fail) (fb d as g)

theorem tabD_ok {C : Cfg} (hC : CfgOk C) {n f d0 : Nat} {tab : List (List AV × AV)} (h : ∀ e ∈ tab, retA d0 ((sem C n).call (Nat.succ d0) f e.1 G.empty) = some e.2)
    {fb : Nat → List AV → G → OR} (hfb : ExtOk C f fb) : ExtOk C f (tabD d0 tab fb) := by
  have sh : ∀ d args g, tabD d0 tab fb d args g = .fail ∨ tabD d0 tab fb d args g = fb d args g ∨ tabD d0 tab fb d args g = isoCall (sem C n) d g f args := by
    intro d args g
    unfold tabD
    rw [bif'_eq]
    split
    · rename_i hd
      have hd := nat_beq hd
      subst hd
      split
      · rename_i as' has
        split
        · rename_i v hv
          have := findTab_mem hv
          exact .inr (.inr (isoCall_ret has (h _ this)).symm)
        · exact .inr (.inl rfl)
      · exact .inl rfl
    · exact .inr (.inl rfl)
  refine ⟨fun d args g hwf => ?_, fun d args g y hy => ?_, fun A bd w γ hg nx g as vs hr hwf hx hf hv hne cs => ?_⟩
  · rcases sh d args g with h | h | h <;> rw [h]
    · exact Mon.refl g
    · exact hfb.mon d args g hwf
    · exact isoCall_mon hwf
  · rcases sh d args g with h | h | h <;> rw [h] at hy
    · cases hy
    · exact hfb.noDfr d args g y hy
    · exact isoCall_noDfr hy
  · rcases sh (bd + 1) as g with h0 | h0 | h0
    · exact absurd h0 hne
    · rw [h0] at hne hf ⊢
      exact hfb.run A bd w γ hg nx g as vs hr hwf hx hf hv hne cs
    · rw [h0] at hne hf ⊢
      exact (isoE_ok (n := n) hC).run A bd w γ hg nx g as vs hr hwf hx hf hv hne cs

end Hx
