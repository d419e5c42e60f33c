/- A function that runs in the caller's heap, served as a summary: it sees the objects alone that its arguments lead to. -/
import Derived.Test.YtkbieohddgjioaaHxTab
set_option linter.unusedVariables false
set_option linter.unusedSimpArgs false
set_option linter.unnecessarySimpa false
namespace Hx
open Go

/-- The objects named, alone. -/
noncomputable def restH (h : H) : List Nat → H
  | [] => .nil
  | id :: l => (restH h l).put id (h.get id)
/-- The objects named, out of the second heap. -/
noncomputable def mergeH (h h' : H) : List Nat → H
  | [] => h
  | id :: l => (mergeH h h' l).put id (h'.get id)

theorem nil_get (k : Nat) : H.get (Tr.nil : H) k = .none := by
  simp [H.get, Tr.get_nil]

theorem restH_get (h : H) (k : Nat) : ∀ l, (restH h l).get k = if k ∈ l then h.get k else .none
  | [] => by simp [restH, nil_get]
  | id :: l => by
    rw [restH, H.get_put, restH_get h k l]
    by_cases hk : k = id
    · subst hk; simp
    · simp [hk]
theorem mergeH_get (h h' : H) (k : Nat) : ∀ l, (mergeH h h' l).get k = if k ∈ l then h'.get k else h.get k
  | [] => by simp [mergeH]
  | id :: l => by
    rw [mergeH, H.get_put, mergeH_get h h' k l]
    by_cases hk : k = id
    · subst hk; simp
    · simp [hk]

noncomputable def inlE (C : Cfg) (n f : Nat) : Nat → List AV → G → OR := fun d as g =>
  match (sem C n).call d f as ⟨restH g.h (as.flatMap (snapIds g.h depthA)), g.nx, []⟩ with
  | .ok v g' => .upd v ⟨mergeH g.h g'.h g'.lg, g'.nx, g'.lg ++ g.lg⟩
  | .fail => .fail

theorem inlE_ok {C : Cfg} (hC : CfgOk C) {n f : Nat} : ExtOk C f (inlE C n f) := by
  have hok := sem_ok hC n
  have wfr : ∀ (g : G) (ids : List Nat), WF g → WF ⟨restH g.h ids, g.nx, []⟩ := by
    intro g ids hwf id hid
    show (restH g.h ids).get id = .none
    rw [restH_get]
    split
    · exact hwf id hid
    · rfl
  have sh : ∀ d as g, inlE C n f d as g = .fail ∨ ∃ v g', (sem C n).call d f as ⟨restH g.h (as.flatMap (snapIds g.h depthA)), g.nx, []⟩ = .ok v g' ∧
      inlE C n f d as g = .upd v ⟨mergeH g.h g'.h g'.lg, g'.nx, g'.lg ++ g.lg⟩ := by
    intro d as g
    unfold inlE
    split
    · rename_i v g' h; exact .inr ⟨v, g', h, rfl⟩
    · exact .inl rfl
  refine ⟨fun d as g hwf => ?_, fun d as g y hy => ?_, fun A bd w γ hg nx g as vs hr hwf hx hf hv hne cs => ?_⟩
  · rcases sh d as g with h | ⟨v, g', h1, h2⟩
    · rw [h]; exact Mon.refl g
    · rw [h2]
      have m := hok.mon.call _ _ _ _ _ _ h1 (wfr g _ hwf)
      obtain ⟨nw, a, b, c⟩ := m.new
      have ha : g'.lg = nw := by simpa using a
      refine ⟨m.nx, ⟨g'.lg, rfl, fun id hid => ?_, fun id hid => ?_⟩, fun hw id hid => ?_⟩
      · show (mergeH _ _ _).get id = _
        rw [mergeH_get, if_neg hid]
      · obtain ⟨c1, c2⟩ := c id (by rw [← ha]; exact hid)
        refine ⟨c1, fun hn => c2 ?_⟩
        show (restH _ _).get id = _
        rw [restH_get, hn]; simp
      · show (mergeH _ _ _).get id = _
        have hid : g'.nx ≤ id := hid
        have hnx : g.nx ≤ g'.nx := m.nx
        rw [mergeH_get, if_neg]
        · exact hw id (by omega)
        · intro hl
          have := (c id (by rw [← ha]; exact hl)).1
          omega
  · rcases sh d as g with h | ⟨v, g', h1, h2⟩
    · rw [h] at hy; cases hy
    · rw [h2] at hy; cases hy
  · rcases sh (bd + 1) as g with h | ⟨v, g', h1, h2⟩
    · exact absurd h hne
    · rw [h2] at hf ⊢
      obtain ⟨he, run⟩ := hok.call _ _ _ _ _ _ h1
      obtain ⟨u, w', γ', hg', fin, rv, out⟩ := run A w γ hg nx vs hr (fun id hn => by
          have hn' : (restH g.h (as.flatMap (snapIds g.h depthA))).get id ≠ .none := hn
          show hg id = (restH _ _).get id
          rw [restH_get] at hn' ⊢
          split at hn'
          · rename_i hm; rw [if_pos hm]; exact hx id hm hn'
          · exact absurd rfl hn') (wfr g _ hwf) (fun id h1 h2 => hf id h1 h2) hv .normal cs (.inl rfl)
      refine ⟨u, w', γ', hg', ⟨fin.rel, fin.stp, ?_⟩, rv, .inr ⟨he, out⟩⟩
      obtain ⟨nw, a, b, c⟩ := fin.new
      have ha : g'.lg = nw := by simpa using a
      subst ha
      refine ⟨g'.lg, rfl, fun id hid => ?_, c⟩
      show hg' id = (mergeH _ _ _).get id
      rw [mergeH_get, if_pos hid]; exact b id hid

end Hx
