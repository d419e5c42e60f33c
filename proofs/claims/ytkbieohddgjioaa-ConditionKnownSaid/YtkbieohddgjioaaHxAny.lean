/- Regions that draw their order: any order comes to what the order of the text comes to. -/
import Derived.Test.YtkbieohddgjioaaHxReg
set_option linter.unusedVariables false
set_option linter.unusedSimpArgs false
set_option linter.unnecessarySimpa false
namespace Hx
open Go

/-! A value asked of a map, and an entry made ready -/

theorem eqCell_kindOk {d : TypeDesc} {x y : AV} (hx : kindOk d x = true) (hy : kindOk d y = true) : ∃ b, eqCell x y = some b := by
  cases d <;> cases x <;> simp [kindOk] at hx <;> cases y <;> simp [kindOk] at hy
  · exact ⟨_, rfl⟩
  · rename_i k0 k1 n1 k2 n2
    rw [kindEq_eq] at hx hy
    simp only [decide_eq_true_eq] at hx hy
    subst hx; subst hy
    exact ⟨_, by simp [eqCell, kindEq_eq]; rfl⟩
  · exact ⟨_, rfl⟩

theorem eqCells_kindsOk : ∀ {ds : List TypeDesc} {xs ys : List AV}, kindsOk ds xs = true → kindsOk ds ys = true → ∃ b, eqCells xs ys = some b := by
  intro ds
  induction ds with
  | nil => intro xs ys hx hy; cases xs <;> simp [kindsOk] at hx; cases ys <;> simp [kindsOk] at hy; exact ⟨_, rfl⟩
  | cons d ds ih =>
    intro xs ys hx hy
    cases xs <;> simp [kindsOk, bif'_eq] at hx
    cases ys <;> simp [kindsOk, bif'_eq] at hy
    obtain ⟨b1, h1⟩ := eqCell_kindOk hx.1 hy.1
    obtain ⟨b2, h2⟩ := ih hx.2 hy.2
    exact ⟨_, by simp only [eqCells, h1, h2]; rfl⟩

theorem keyEq_ok {kk : KeyKind} {x y : AV} (hx : keyOk kk x = true) (hy : keyOk kk y = true) : ∃ b, keyEq x y = some b := by
  cases kk with
  | one d =>
    simp only [keyOk] at hx hy
    obtain ⟨b, hb⟩ := eqCell_kindOk hx hy
    cases x <;> first | (cases d <;> simp [kindOk] at hx; done) | skip
    all_goals
      cases y <;> first | (cases d <;> simp [kindOk] at hy; done) | (exact ⟨b, by simpa [keyEq] using hb⟩) | skip
  | flat ds =>
    cases x <;> simp [keyOk] at hx
    cases y <;> simp [keyOk] at hy
    obtain ⟨b, hb⟩ := eqCells_kindsOk hx hy
    exact ⟨b, by simpa [keyEq] using hb⟩
  | other => cases x <;> simp [keyOk] at hx

theorem findA_snoc {k k0 z : AV} : ∀ {es : List (AV × AV)} {r : Option AV}, findA k es = some r → (∃ b, keyEq k k0 = some b) →
    findA k (es ++ [(k0, z)]) = some (match r with | some v => some v | none => if keyEq k k0 = some true then some z else none) := by
  intro es
  induction es with
  | nil =>
    intro r h hk
    simp only [findA] at h; injection h with h; subst h
    obtain ⟨b, hb⟩ := hk
    cases b <;> simp [findA, hb]
  | cons e es ih =>
    intro r h hk
    obtain ⟨k', v'⟩ := e
    simp only [findA] at h
    simp only [List.cons_append, findA]
    split at h
    · injection h with h; subst h; rfl
    · exact ih h hk
    · cases h

/-- The value asked is the same behind an entry made ready. -/
theorem lookup_soft {kk : KeyKind} {z : AV} {m k : T → AV} {t : T} {g g' : G} {id : Nat} {es : List (AV × AV)} {k0 v : AV} (h : lookupF kk z false m k t g = .val v) (hm : m t = .hmap id)
    (hg : g.h.get id = .map es) (hg' : g'.h.get id = .map (es ++ [(k0, z)])) (hk0 : keyOk kk k0 = true) : lookupF kk z false m k t g' = .val v := by
  unfold lookupF at h ⊢
  rw [bif'_eq] at h ⊢
  split at h
  · rename_i hk
    rw [if_pos hk]
    simp only [hm, G.get_eq, hg, hg'] at h ⊢
    cases hf : findA (k t) es with
    | none => rw [hf] at h; cases h
    | some r =>
      rw [findA_snoc hf (keyEq_ok hk hk0)]
      rw [hf] at h
      cases r with
      | some v' => exact h
      | none =>
        dsimp only at h ⊢
        by_cases hq : keyEq (k t) k0 = some true
        · rw [if_pos hq]; exact h
        · rw [if_neg hq]; exact h
  · cases h

/-- Which operations ask a value alone. -/
theorem sr_op {C : Cfg} {op : Op} {t : T} {g : G} (h : ((cFoot C op).run t g).sr ≠ []) : ∃ ty x k a, op = .lookup ty x k false ∧ cRho C x = some a ∧
    (cFoot C op).run t g = ⟨[], (refIds (a.run t)).map (·, ty), [], false⟩ := by
  cases op <;> simp only [cFoot] at h ⊢ <;> try (exact absurd rfl h)
  case lookup ty x k ok =>
    cases ok
    · dsimp only at h ⊢
      split at h
      · rename_i a ha
        exact ⟨ty, x, k, a, rfl, ha, by simp [ha]⟩
      · exact absurd rfl h
    · dsimp only at h
      split at h <;> exact absurd rfl h
  case call c =>
    obtain ⟨callee, args, at'⟩ := c
    cases callee <;> simp only at h
    · split at h
      · dsimp only at h
        split at h
        · rw [bif'_eq] at h; split at h <;> exact absurd rfl h
        · exact absurd rfl h
      · exact absurd rfl h
    · exact absurd rfl h
    · split at h <;> exact absurd rfl h
  all_goals (split at h <;> exact absurd rfl h)

/-- Which make entries ready. -/
theorem soft_op {C : Cfg} {op : Op} {t : T} {g : G} {p : Nat × Nat} (h : p ∈ ((cFoot C op).run t g).soft) : ∃ x k a, op = .mapEntry p.2 x k ∧ cRho C x = some a ∧ p.1 ∈ refIds (a.run t) := by
  cases op <;> simp only [cFoot] at h <;> try (exact absurd h List.not_mem_nil)
  case mapEntry ty x k =>
    split at h
    · rename_i a ha
      dsimp only at h
      obtain ⟨id, h1, h2⟩ := List.mem_map.1 h
      subst h2
      exact ⟨x, k, a, rfl, ha, h1⟩
    · exact absurd h List.not_mem_nil
  case lookup ty x k ok =>
    cases ok <;> dsimp only at h <;> split at h <;> exact absurd h List.not_mem_nil
  case call c =>
    obtain ⟨callee, args, at'⟩ := c
    cases callee <;> simp only at h
    · split at h
      · dsimp only at h
        split at h
        · rw [bif'_eq] at h; split at h <;> exact absurd h List.not_mem_nil
        · exact absurd h List.not_mem_nil
      · exact absurd h List.not_mem_nil
    · exact absurd h List.not_mem_nil
    · split at h <;> exact absurd h List.not_mem_nil
  all_goals (split at h <;> exact absurd h List.not_mem_nil)

theorem cOpT_lookup {C : Cfg} {ih : IH} {ty : TypeId} {x k : Operand} {ok : Bool} {d : Nat} {rd : Option Nat} {t : T} {g : G} {r : OR} (h : (cOpT C (.lookup ty x k ok)).run ih d rd t g = r) (hne : r ≠ .fail) :
    ∃ a kk kt et z, cRho C x = some a ∧ cRho C k = some kk ∧ C.P.underlying ty = some (.map kt et) ∧ zeroA C.P et = some z ∧
      (∀ t g, (cOpT C (.lookup ty x k ok)).run ih d rd t g = lookupF (keyKind C.P kt) z ok a.run kk.run t g) ∧ r = lookupF (keyKind C.P kt) z ok a.run kk.run t g := by
  unfold cOpT at h ⊢
  simp only [cOp, cSop] at h ⊢
  split at h
  · rename_i f hf
    split at hf
    · rename_i s hs
      injection hf with hf; subst hf
      split at hs
      · rename_i a kk kt et ha hk hu
        split at hs
        · rename_i z hz
          injection hs with hs; subst hs
          refine ⟨a, kk, kt, et, z, ha, hk, hu, hz, fun t g => ?_, h.symm⟩
          simp only [ha, hk, hu, hz]
        · cases hs
      · cases hs
    · cases hf
  · exact absurd h.symm hne

theorem cOpT_mapEntry {C : Cfg} {ih : IH} {ty : TypeId} {x k : Operand} {d : Nat} {rd : Option Nat} {t : T} {g : G} {r : OR} (h : (cOpT C (.mapEntry ty x k)).run ih d rd t g = r) (hne : r ≠ .fail) :
    ∃ a kk kt et z, cRho C x = some a ∧ cRho C k = some kk ∧ C.P.underlying ty = some (.map kt et) ∧ zeroA C.P et = some z ∧ r = mapEntryF (keyKind C.P kt) z a.run kk.run t g := by
  unfold cOpT at h
  simp only [cOp, cSop] at h
  split at h
  · rename_i f hf
    split at hf
    · rename_i s hs
      injection hf with hf; subst hf
      split at hs
      · rename_i a kk kt et ha hk hu
        split at hs
        · rename_i z hz
          injection hs with hs; subst hs
          exact ⟨a, kk, kt, et, z, ha, hk, hu, hz, h.symm⟩
        · cases hs
      · cases hs
    · cases hf
  · exact absurd h.symm hne

theorem mapEntry_upd {kk : KeyKind} {z : AV} {m k : T → AV} {t : T} {g : G} {v : AV} {g' : G} (h : mapEntryF kk z m k t g = .upd v g') :
    ∃ id es, m t = .hmap id ∧ g.h.get id = .map es ∧ g' = g.put id (.map (es ++ [(k t, z)])) ∧ keyOk kk (k t) = true := by
  unfold mapEntryF at h
  rw [bif'_eq] at h
  split at h
  · rename_i hk
    split at h
    · rename_i id hm
      split at h
      · rename_i es hes
        split at h
        · cases h
        · injection h with h1 h2; subst h2
          exact ⟨id, es, hm, by simpa using hes, rfl, hk⟩
        · cases h
      · cases h
    · cases h
  · cases h

/-! At most one such entry -/

theorem softCount_ge {pm : List Nat} {i : Nat} {x : Foot} : ∀ {l : List Foot} {j0 j : Nat} {y : Foot}, l[j]? = some y → (pm.getD (j0 + j) 0).testBit i = false → meets y.wr (fst1 x.lk.sr) = true →
    1 ≤ softCount pm i x j0 l := by
  intro l
  induction l with
  | nil => intro j0 j y h; simp at h
  | cons a l ih =>
    intro j0 j y h h1 h2
    cases j with
    | zero =>
      simp at h; subst h
      simp only [softCount, bif'_eq]
      rw [if_neg]
      · omega
      · simp only [Nat.add_zero] at h1; rw [h1, h2]; simp
    | succ j =>
      have := ih (j0 := Nat.succ j0) (by simpa using h) (by rw [show Nat.succ j0 + j = j0 + (j + 1) by omega]; exact h1) h2
      simp only [softCount, bif'_eq]
      split <;> omega

theorem softCount_two {pm : List Nat} {i : Nat} {x : Foot} : ∀ {l : List Foot} {j0 j j' : Nat} {y y' : Foot}, j < j' → l[j]? = some y → l[j']? = some y' → (pm.getD (j0 + j) 0).testBit i = false → (pm.getD (j0 + j') 0).testBit i = false →
    meets y.wr (fst1 x.lk.sr) = true → meets y'.wr (fst1 x.lk.sr) = true → 2 ≤ softCount pm i x j0 l := by
  intro l
  induction l with
  | nil => intro j0 j j' y y' _ h; simp at h
  | cons a l ih =>
    intro j0 j j' y y' hlt h h' h1 h1' h2 h2'
    cases j' with
    | zero => omega
    | succ j' =>
      cases j with
      | zero =>
        simp at h; subst h
        have := softCount_ge (pm := pm) (i := i) (x := x) (j0 := Nat.succ j0) (j := j') (by simpa using h') (by rw [show Nat.succ j0 + j' = j0 + (j' + 1) by omega]; exact h1') h2'
        simp only [softCount, bif'_eq]
        rw [if_neg]
        · omega
        · simp only [Nat.add_zero] at h1; rw [h1, h2]; simp
      | succ j =>
        have := ih (j0 := Nat.succ j0) (j := j) (j' := j') (by omega) (by simpa using h) (by simpa using h') (by rw [show Nat.succ j0 + j = j0 + (j + 1) by omega]; exact h1) (by rw [show Nat.succ j0 + j' = j0 + (j' + 1) by omega]; exact h1') h2 h2'
        simp only [softCount, bif'_eq]
        split <;> omega

theorem bif_and {b x : Bool} (h : bif' b x false = true) : b = true ∧ x = true := by
  cases b
  · cases h
  · exact ⟨rfl, h⟩

theorem softOnce_get {pm : List Nat} : ∀ {l : List Foot} {i0 : Nat}, softOnce pm i0 l = true → ∀ (i j j' : Nat) x y y', i < j → j < j' → l[i]? = some x → l[j]? = some y → l[j']? = some y' → x.lk.sr ≠ [] →
    (pm.getD (i0 + j) 0).testBit (i0 + i) = false → (pm.getD (i0 + j') 0).testBit (i0 + i) = false → meets y.wr (fst1 x.lk.sr) = true → meets y'.wr (fst1 x.lk.sr) = true → False := by
  intro l
  induction l with
  | nil => intro i0 _ i j j' x y y' _ _ h; simp at h
  | cons a l ih =>
    intro i0 h i j j' x y y' hij hjj hx hy hy' hsr h1 h1' h2 h2'
    obtain ⟨hc, h⟩ := bif_and h
    cases j' with
    | zero => omega
    | succ j' =>
      cases j with
      | zero => omega
      | succ j =>
        cases i with
        | zero =>
          simp at hx; subst hx
          have hc' : Nat.ble (softCount pm i0 a (Nat.succ i0) l) 1 = true := by
            cases hsr' : a.lk.sr with
            | nil => exact absurd hsr' hsr
            | cons p r => rw [hsr'] at hc; exact hc
          rw [Nat.ble_eq] at hc'
          have := softCount_two (pm := pm) (i := i0) (x := a) (j0 := Nat.succ i0) (j := j) (j' := j') (by omega) (by simpa using hy) (by simpa using hy')
            (by rw [show Nat.succ i0 + j = i0 + (j + 1) by omega]; exact h1) (by rw [show Nat.succ i0 + j' = i0 + (j' + 1) by omega]; exact h1') h2 h2'
          omega
        | succ i =>
          refine ih h i j j' x y y' (by omega) (by omega) (by simpa using hx) (by simpa using hy) (by simpa using hy') hsr ?_ ?_ h2 h2'
          · rw [show Nat.succ i0 + j = i0 + (j + 1) by omega, show Nat.succ i0 + i = i0 + (i + 1) by omega]; exact h1
          · rw [show Nat.succ i0 + j' = i0 + (j' + 1) by omega, show Nat.succ i0 + i = i0 + (i + 1) by omega]; exact h1'

theorem meets_mem {a b : List Nat} {x : Nat} (ha : x ∈ a) (hb : x ∈ b) : meets a b = true := by
  unfold meets
  exact List.any_eq_true.2 ⟨x, ha, by simpa using hb⟩

theorem fst1_mem {l : List (Nat × Nat)} {x : Nat} (h : x ∈ l.map (·.1)) : x ∈ fst1 l := h

theorem pairIn_mem {p : Nat × Nat} : ∀ {l : List (Nat × Nat)}, pairIn p l = true → p ∈ l := by
  intro l
  induction l with
  | nil => intro h; cases h
  | cons q l ih =>
    intro h
    simp only [pairIn, bif'_eq] at h
    split at h
    · rename_i hc
      simp only [Bool.and_eq_true] at hc
      have h1 := nat_beq hc.1
      have h2 := nat_beq hc.2
      exact List.mem_cons.2 (.inl (Prod.ext h1 h2))
    · exact List.mem_cons_of_mem _ (ih h)

end Hx
