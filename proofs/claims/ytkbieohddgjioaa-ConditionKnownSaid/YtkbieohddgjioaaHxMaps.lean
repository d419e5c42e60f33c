/- Maps: keys, and where they are found. -/
import Derived.Test.YtkbieohddgjioaaHxOpsN
set_option linter.unusedVariables false
set_option linter.unusedSimpArgs false
set_option linter.unnecessarySimpa false
namespace Hx
open Go

section
variable {P : Program}

theorem flat_check (em : Bool) (D : Nat) : ∀ (d : Nat) (t : TypeId) (ds : List TypeDesc), flatL P d t = some ds → ∀ (w : World) (xs : List Value), kindsV ds xs = true →
    (Instr.checkKey em (D + d) t (mkV P t xs)).run P w = .ok () w := by
  intro d
  induction d with
  | zero => intro t ds h; cases h
  | succ d ih =>
    intro t ds h w xs hx
    unfold flatL at h
    have one : ∀ k, P.underlying t = some k → flatKind k = true → isAggD k = false → ds = [k] → (Instr.checkKey em (D + (d + 1)) t (mkV P t xs)).run P w = .ok () w := by
      intro k hu hk hag hds
      obtain ⟨h1, _⟩ := isAgg_of hu
      subst hds
      have hm : ∀ zs, mkV P t zs = zs.headD undef := by intro zs; unfold mkV; rw [h1, hag]; rfl
      rw [hm]
      have lx := kindsV_len hx
      match xs, lx with
      | [x], _ =>
        simp only [kindsV, Bool.and_true] at hx
        simp only [List.headD_cons, ← Nat.add_assoc]
        unfold Instr.checkKey
        cases k <;> simp [flatKind] at hk <;> cases x <;> simp [kindV] at hx <;> simp [run_und hu]
    cases hu : P.underlying t with
    | none => rw [hu] at h; cases h
    | some k =>
      rw [hu] at h
      cases k
      case struct fs =>
        simp only [bif'_eq] at h
        split at h
        · cases h
        · have hm : ∀ zs, mkV P t zs = .agg zs.toArray := by intro zs; unfold mkV; rw [(isAgg_of hu).1]; rfl
          rw [hm, ← Nat.add_assoc, Instr.checkKey]
          simp only [Sem.run_bind, run_und hu, Result.andThen_ok]
          rw [← Array.forIn_toList]
          have go : ∀ (L : List Field) (k : Nat) (ds : List TypeDesc), flatFs P (flatL P d) L k = some ds → kindsV ds (xs.drop k) = true →
              (forIn L PUnit.unit fun (f : Field) (_ : PUnit) => (do
                if f.name ≠ "_" then Instr.checkKey em (D + d) f.type (← part f.type xs.toArray f.offset)
                pure (ForInStep.yield PUnit.unit) : Sem (ForInStep PUnit))).run P w = .ok PUnit.unit w := by
            intro L
            induction L with
            | nil => intro k ds _ _; simp
            | cons f L ihL =>
              intro k ds h hx
              simp only [flatFs] at h
              split at h
              · rename_i ds1 h1
                split at h
                · rename_i r hr
                  rw [bif'_eq] at h
                  split at h
                  · rename_i hcond
                    simp only [Bool.and_eq_true, bne_iff_ne, ne_eq, beq_iff_eq] at hcond
                    obtain ⟨⟨hname, hoff⟩, hsz⟩ := hcond
                    have hoff := nat_beq hoff
                    injection h with h; subst h
                    obtain ⟨x1, x2⟩ := kindsV_append hx
                    rw [List.drop_drop] at x2
                    have lx := kindsV_len hx
                    simp at lx
                    obtain ⟨kd, hu', hone⟩ := flatL_info h1
                    have p1 : (part f.type xs.toArray f.offset).run P w = .ok (mkV P f.type ((xs.drop k).take ds1.length)) w := by
                      rw [hoff]
                      have := part_mk (w := w) (xs := xs.toArray) (off := k) hu' hsz hone fun hg => by have := hone hg; simp; omega
                      simpa using this
                    have p2 := ih _ _ h1 w _ x1
                    have p3 := ihL _ _ hr x2
                    simp only [List.forIn_cons, Sem.run_bind, ne_eq, hname, not_false_eq_true, if_true, Result.andThen_ok, p1, p2, Sem.run_pure]
                    exact p3
                  · cases h
                · cases h
              · cases h
          have := go fs.toList 0 ds h (by simpa using hx)
          simp at this ⊢
          rw [this]; rfl
      case array n e =>
        simp only at h
        split at h
        · rename_i de hde
          simp only [bif'_eq] at h
          split at h
          · rename_i hsz
            injection h with h; subst h
            have hsz : szT P e = some de.length := by simpa using hsz
            obtain ⟨kd, hue, hone⟩ := flatL_info hde
            have hm : ∀ zs, mkV P t zs = .agg zs.toArray := by intro zs; unfold mkV; rw [(isAgg_of hu).1]; rfl
            rw [hm, ← Nat.add_assoc, Instr.checkKey]
            simp only [Sem.run_bind, run_und hu, Result.andThen_ok]
            simp only [Std.Legacy.Range.forIn_eq_forIn_range', Std.Legacy.Range.size, Nat.sub_zero, Nat.add_one_sub_one, Nat.div_one]
            have go : ∀ (n i : Nat), kindsV (List.replicate n de).flatten (xs.drop (i * de.length)) = true →
                (forIn (List.range' i n) PUnit.unit fun (i : Nat) (_ : PUnit) => (do
                  Instr.checkKey em (D + d) e (← part e xs.toArray (i * (← Go.sizeOf e)))
                  pure (ForInStep.yield PUnit.unit) : Sem (ForInStep PUnit))).run P w = .ok PUnit.unit w := by
              intro n
              induction n with
              | zero => intro i _; simp
              | succ n ihn =>
                intro i hx
                rw [List.replicate_succ, List.flatten_cons] at hx
                obtain ⟨x1, x2⟩ := kindsV_append hx
                have lx := kindsV_len x1
                simp at lx
                rw [List.drop_drop] at x2
                have em' : i * de.length + de.length = (i + 1) * de.length := by rw [Nat.add_mul, Nat.one_mul]
                rw [em'] at x2
                have p1 : (part e xs.toArray (i * de.length)).run P w = .ok (mkV P e ((xs.drop (i * de.length)).take de.length)) w := by
                  have := part_mk (w := w) (xs := xs.toArray) (off := i * de.length) hue hsz hone fun hg => by have := hone hg; simp; omega
                  simpa using this
                have p2 := ih e de hde w _ x1
                have p3 := ihn (i + 1) x2
                rw [List.range'_succ]
                simp only [List.forIn_cons, Sem.run_bind, run_sizeOf hsz, Result.andThen_ok, p1, p2, Sem.run_pure]
                exact p3
            have := go n 0 (by simpa using hx)
            simp at this ⊢
            rw [this]; rfl
          · cases h
        · cases h
      all_goals
        simp only [bif'_eq] at h
        split at h
        · rename_i hk
          injection h with h
          exact one _ hu hk rfl h.symm
        · cases h

end

section
variable {C : Cfg} {A : Nat → Nat → Prop} {bd : Nat} {w w' : World} {γ γ' : Gm} {hg : Nat → AObj} {nx : Nat}

/-- What a key that fits says of the model's. -/
def KeyV (P : Program) (kt : TypeId) (k : AV) (v : Value) : Prop :=
  ∃ d ds, d ≤ 8 ∧ flatL P d kt = some ds ∧ kindsV ds v.cells.toList = true ∧ v = mkV P kt v.cells.toList ∧ (isAggT P kt = true ↔ ∃ xs, k = .agg xs)

theorem key_rv {kt : TypeId} {k : AV} {v : Value} (h : keyOk (keyKind C.P kt) k = true) (hk : RV w γ A bd k v) : KeyV C.P kt k v := by
  unfold keyKind at h
  cases hu : C.P.underlying kt with
  | none => rw [hu] at h; cases h
  | some d =>
    have agg : isAggD d = true → keyOk (match flatAgg C.P kt with | some ds => KeyKind.flat ds | none => .other) k = true → KeyV C.P kt k v := by
      intro hd h
      cases hf : flatAgg C.P kt with
      | none => rw [hf] at h; cases h
      | some ds =>
        rw [hf] at h
        obtain ⟨xs, rfl⟩ : ∃ xs, k = .agg xs := by cases k <;> first | exact ⟨_, rfl⟩ | (cases h; done)
        change kindsOk ds xs = true at h
        obtain ⟨vs, rfl, hv⟩ := agg_rvs hk
        have hag : isAggT C.P kt = true := by rw [(isAgg_of hu).1]; exact hd
        unfold flatAgg at hf
        rw [bif'_eq] at hf
        split at hf
        · cases hf
        · refine ⟨8, ds, Nat.le_refl _, hf, kindsOk_rv h hv, ?_, ?_⟩
          · unfold mkV; rw [hag]; simp [Value.cells]
          · simp [hag]
    have one : flatKind d = true → keyOk (.one d) k = true → isAggD d = false → (∀ f, flatL C.P (f + 1) kt = some [d]) → KeyV C.P kt k v := by
      intro hf hk' hag hfl
      have hag' : isAggT C.P kt = false := by rw [(isAgg_of hu).1]; exact hag
      have hkv := kindOk_rv hk' hk
      refine ⟨1, [d], by decide, hfl 0, ?_, ?_, ?_⟩
      · cases v <;> simp_all [Value.cells, kindsV, kindV] <;> cases d <;> simp_all [kindV]
      · unfold mkV; rw [hag']
        cases v <;> simp [Value.cells] <;> cases d <;> simp_all [kindV]
      · rw [hag']
        constructor
        · intro h; cases h
        · rintro ⟨xs, rfl⟩; cases d <;> cases hk'
    rw [hu] at h
    cases d
    case struct fs => exact agg rfl h
    case array n e => exact agg rfl h
    all_goals
      simp only [bif'_eq] at h
      split at h
      · rename_i hf
        exact one hf h rfl (fun f => by unfold flatL; rw [hu]; simp only [bif'_eq]; rw [if_pos hf])
      · cases h

theorem eqCell_kind {d : TypeDesc} {x y : AV} {v u : Value} {b : Bool} (h : eqCell x y = some b) (hx : RV w γ A bd x v) (hy : RV w γ A bd y u) (hk : kindV d v = true) : kindV d u = true := by
  cases hx <;> try (cases h; done)
  all_goals cases hy <;> try (cases h; done)
  · cases d <;> simp_all [kindV]
  · simp only [eqCell, bif'_eq, kindEq_eq] at h
    split at h
    · rename_i e; simp at e; subst e; cases d <;> simp_all [kindV]
    · cases h
  · cases d <;> simp_all [kindV]

theorem eqCells_kinds : ∀ {ds : List TypeDesc} {xs ys : List AV} {vs us : List Value} {b : Bool}, eqCells xs ys = some b → RVs w γ A bd xs vs → RVs w γ A bd ys us → kindsV ds vs = true → kindsV ds us = true := by
  intro ds
  induction ds with
  | nil =>
    intro xs ys vs us b h hx hy hk
    have h0 := kindsV_len hk
    have h1 := hx.1
    have : xs = [] := List.eq_nil_of_length_eq_zero (by simp at h0; simp [h1, h0])
    subst this
    cases ys with
    | nil => have h2 := hy.1; have : us = [] := List.eq_nil_of_length_eq_zero (by simpa using h2.symm); subst this; rfl
    | cons y ys => cases h
  | cons d ds ih =>
    intro xs ys vs us b h hx hy hk
    cases vs with
    | nil => cases hk
    | cons v vs =>
      cases xs with
      | nil => have := hx.1; simp at this
      | cons x xs =>
        cases ys with
        | nil => cases h
        | cons y ys =>
          cases us with
          | nil => have := hy.1; simp at this
          | cons u us =>
            obtain ⟨x1, x2⟩ := hx.tail
            obtain ⟨y1, y2⟩ := hy.tail
            simp only [kindsV, Bool.and_eq_true] at hk
            simp only [eqCells] at h
            split at h
            · rename_i p q hp hq
              simp only [kindsV, Bool.and_eq_true]
              exact ⟨eqCell_kind hp x1 y1 hk.1, ih hq x2 y2 hk.2⟩
            · cases h

theorem mkV_scalar {kt : TypeId} (h : isAggT C.P kt = false) (x : Value) : mkV C.P kt [x] = x := by unfold mkV; rw [h]; rfl

theorem keyEq_rv {kt : TypeId} {k k' : AV} {v v' : Value} {b : Bool} (hk : KeyV C.P kt k v) (h : keyEq k k' = some b) (h1 : RV w γ A bd k v) (h2 : RV w γ A bd k' v') :
    KeyV C.P kt k' v' ∧ (Op.equal kt v v').run C.P w = .ok b w ∧ (isAggT C.P kt = false → ∀ kd, C.P.underlying kt = some kd → Instr.sameNow kd v v' = some b) := by
  obtain ⟨d, ds, hd, hfl, hkv, hmk, hag⟩ := hk
  cases hg : isAggT C.P kt with
  | true =>
    obtain ⟨xs, rfl⟩ := hag.1 hg
    obtain ⟨ys, rfl⟩ : ∃ ys, k' = .agg ys := by cases k' <;> first | exact ⟨_, rfl⟩ | (cases h; done)
    change eqCells xs ys = some b at h
    obtain ⟨vs, rfl, hv⟩ := agg_rvs h1
    obtain ⟨us, rfl, hu⟩ := agg_rvs h2
    have hkv' : kindsV ds us.toList = true := eqCells_kinds h hv hu hkv
    have he := flat_eq (P := C.P) (10000 - d) d kt ds hfl w vs.toList us.toList hkv hkv'
    have hm : ∀ zs : Array Value, mkV C.P kt zs.toList = .agg zs := by intro zs; unfold mkV; rw [hg]; simp
    rw [show 10000 - d + d = 9999 + 1 from by omega, hm, hm, eqCells_rv h hv hu] at he
    refine ⟨⟨d, ds, hd, hfl, hkv', (hm us).symm, by simp [hg]⟩, he, fun h => by cases h⟩
  | false =>
    have hna : ∀ xs, k ≠ .agg xs := fun xs e => by rw [hag.2 ⟨xs, e⟩] at hg; cases hg
    have hna' : ∀ xs, k' ≠ .agg xs := by
      rintro xs rfl
      cases k <;> first | (cases h; done) | exact absurd rfl (hna _)
    have h' : eqCell k k' = some b := by
      cases k <;> first | (exact absurd rfl (hna _)) | (cases k' <;> first | (exact absurd rfl (hna' _)) | exact h)
    obtain ⟨kd, hu, hone⟩ := flatL_info hfl
    have h1len := hone hg
    obtain ⟨d0, rfl⟩ : ∃ d0, ds = [d0] := by
      match ds, h1len with
      | [d0], _ => exact ⟨d0, rfl⟩
    have hv1 : v.cells.toList = [v] := by
      cases h1 <;> first | rfl | (cases h'; done)
    have hv1' : v'.cells.toList = [v'] := by
      cases h1 <;> try (cases h'; done)
      all_goals cases h2 <;> first | rfl | (cases h'; done)
    rw [hv1] at hkv
    simp only [kindsV, Bool.and_true] at hkv
    have hkv' := eqCell_kind h' h1 h2 hkv
    have he := flat_eq (P := C.P) (10000 - d) d kt [d0] hfl w [v] [v'] (by simp [kindsV, hkv]) (by simp [kindsV, hkv'])
    rw [show 10000 - d + d = 9999 + 1 from by omega, mkV_scalar hg, mkV_scalar hg] at he
    simp only [eqVs, Bool.and_true, eqCell_rv h' h1 h2] at he
    refine ⟨⟨d, [d0], hd, hfl, by rw [hv1']; simp [kindsV, hkv'], by rw [hv1', mkV_scalar hg], ?_⟩, he, fun _ kd' hu' => ?_⟩
    · rw [hg]
      constructor
      · intro h; cases h
      · rintro ⟨xs, e⟩; exact absurd e (hna' xs)
    · have e1 := eqCell_rv h' h1 h2
      have : d0 = kd' := by
        cases d with
        | zero => cases hfl
        | succ d =>
          unfold flatL at hfl
          rw [hu'] at hfl
          have hgd := (isAgg_of hu').1
          rw [hg] at hgd
          cases kd' <;> simp [isAggD] at hgd <;> simp only [bif'_eq] at hfl <;> split at hfl <;> first | (cases hfl; done) | (injection hfl with hfl; injection hfl with hfl; exact hfl.symm)
      subst this
      cases h1 <;> try (cases h'; done)
      all_goals cases h2 <;> try (cases h'; done)
      · cases d0 <;> simp [kindV] at hkv
        simp [Instr.sameNow]; simpa [eqV] using e1
      · cases d0 <;> simp [kindV] at hkv hkv'
        subst hkv; subst hkv'
        simp [Instr.sameNow]; simpa [eqV] using e1
      · cases d0 <;> simp [kindV] at hkv
        simp [Instr.sameNow]; simpa [eqV] using e1

end
end Hx
