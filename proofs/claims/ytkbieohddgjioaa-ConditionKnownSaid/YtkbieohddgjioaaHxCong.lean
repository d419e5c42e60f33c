/- An operation hangs on its own slots alone. -/
import Derived.Test.YtkbieohddgjioaaHxOrd
set_option linter.unusedVariables false
set_option linter.unusedSimpArgs false
set_option linter.unnecessarySimpa false
namespace Hx
open Go

section
variable {C : Cfg} {t t' : T} {g : G} {ih : IH}

theorem cRho_congr {x : Operand} {s : Stg (T → AV)} (h : cRho C x = some s) (hx : ∀ n, x = .tmp n → t.get AV.undef n = t'.get AV.undef n) : s.run t = s.run t' := by
  cases x with
  | tmp n => simp [cRho] at h; subst h; simpa using hx n rfl
  | const v =>
    simp only [cRho] at h
    split at h
    · injection h with h; subst h; rfl
    · cases h
  | global gl =>
    simp only [cRho] at h
    split at h
    · injection h with h; subst h; rfl
    · cases h
  | func f => simp [cRho] at h; subst h; rfl

/-- The two agree on these operands. -/
def OpAgr (C : Cfg) (t t' : T) (xs : List Operand) : Prop := ∀ x ∈ xs, ∀ s, cRho C x = some s → s.run t = s.run t'

theorem cRhos_congr : ∀ {xs : List Operand} {vs : Stg (T → List AV)}, cRhos C xs = some vs → OpAgr C t t' xs → vs.run t = vs.run t' := by
  intro xs
  induction xs with
  | nil => intro vs h _; simp [cRhos] at h; subst h; rfl
  | cons x xs ih =>
    intro vs h hx
    simp only [cRhos] at h
    split at h
    · rename_i a as h1 h2
      injection h with h; subst h
      simp only [hx x List.mem_cons_self a h1, ih h2 fun y hy => hx y (List.mem_cons_of_mem _ hy)]
    · cases h

variable {op : Op} {f : Stg SFn}

theorem cBuiltin_congr {b : Builtin} {argTypes : Array TypeId} {args : List Operand} (h : cBuiltin C b argTypes args = some f) (hx : OpAgr C t t' args) : f.run t g = f.run t' g := by
  unfold cBuiltin at h
  split at h
  · split at h
    · rename_i s _ hs; injection h with h; subst h; simp only [hx _ (by simp) _ hs]
    · cases h
  · split at h
    · rename_i sa sx _ _ ha hb
      have e1 := hx _ (by simp) _ ha
      have e2 := hx _ (by simp) _ hb
      repeat' (first | split at h | (rw [bif'_eq] at h; split at h))
      all_goals first | (cases h; done) | (injection h with h; subst h; simp only [e1, e2])
    · cases h
  · split at h
    · rename_i sa sx _ ha hb
      have e1 := hx _ (by simp) _ ha
      have e2 := hx _ (by simp) _ hb
      repeat' (first | split at h)
      all_goals first | (cases h; done) | (injection h with h; subst h; simp only [e1, e2])
    · cases h
  · split at h
    · rename_i s _ hs
      have e1 := hx _ (by simp) _ hs
      repeat' (first | split at h)
      all_goals first | (cases h; done) | (injection h with h; subst h; simp only [e1])
    · cases h
  · split at h
    · rename_i s _ hs
      have e1 := hx _ (by simp) _ hs
      repeat' (first | split at h | (rw [bif'_eq] at h; split at h))
      all_goals first | (cases h; done) | (injection h with h; subst h; simp only [e1])
    · cases h
  · split at h
    · rename_i sa sx ha hb; injection h with h; subst h
      simp only [hx _ (by simp) _ ha, hx _ (by simp) _ hb]
    · cases h
  · split at h
    · rename_i sa sx ha hb; injection h with h; subst h
      simp only [hx _ (by simp) _ ha, hx _ (by simp) _ hb]
    · cases h
  · cases h

theorem cSop_congr (h : cSop C op = some f) (hx : OpAgr C t t' op.operands.toList) : f.run t g = f.run t' g := by
  cases op <;> simp only [cSop] at h <;> first | (cases h; done) | skip
  case call c =>
    obtain ⟨callee, args, argTypes⟩ := c
    cases callee <;> first | (cases h; done) | skip
    dsimp only at h
    exact cBuiltin_congr h fun x hm => hx x (by simpa [Op.operands, Call.operands] using hm)
  case move x =>
    split at h
    · rename_i s hs; injection h with h; subst h; simp only [hx _ (by simp [Op.operands]) _ hs]
    · cases h
  case assign x =>
    split at h
    · rename_i s hs; injection h with h; subst h; simp only [hx _ (by simp [Op.operands]) _ hs]
    · cases h
  case pick c x y =>
    split at h
    · rename_i sc sx sy hc h1 h2; injection h with h; subst h
      simp only [hx _ (by simp [Op.operands]) _ hc, hx _ (by simp [Op.operands]) _ h1, hx _ (by simp [Op.operands]) _ h2]
    · cases h
  case alloc ty =>
    split at h
    · injection h with h; subst h; rfl
    · cases h
  case box ty x =>
    split at h
    · rename_i s hs; injection h with h; subst h; simp only [boxF, hx _ (by simp [Op.operands]) _ hs]
    · cases h
  case load ty x =>
    split at h
    · rename_i s ag n hs hag hn; injection h with h; subst h; simp only [loadF, hx _ (by simp [Op.operands]) _ hs]
    · cases h
  case store ty x y =>
    split at h
    · rename_i s u n hs hu hn; injection h with h; subst h; simp only [storeF, hx _ (by simp [Op.operands]) _ hs, hx _ (by simp [Op.operands]) _ hu]
    · cases h
  case binOp op ty x y p =>
    split at h
    · rename_i s u hs hu; injection h with h; subst h; simp only [hx _ (by simp [Op.operands]) _ hs, hx _ (by simp [Op.operands]) _ hu]
    · cases h
  case unOp op ty x =>
    split at h
    · rename_i s hs; injection h with h; subst h; simp only [hx _ (by simp [Op.operands]) _ hs]
    · cases h
  case convert src dst x =>
    split at h
    · rename_i s sd k hs hsrc hk; injection h with h; subst h; simp only [hx _ (by simp [Op.operands]) _ hs]
    · cases h
  case nilCheck x =>
    split at h
    · rename_i s hs; injection h with h; subst h; simp only [hx _ (by simp [Op.operands]) _ hs]
    · cases h
  case makeInterface ty x =>
    split at h
    · cases h
    · rename_i s d hne hs hu; injection h with h; subst h; simp only [hx _ (by simp [Op.operands]) _ hs]
    · cases h
  case makeSlice ty l c =>
    split at h
    · rename_i e sl sc he hl hc
      split at h
      · rw [bif'_eq] at h
        split at h
        · injection h with h; subst h; simp only [makeSliceF, hx _ (by simp [Op.operands]) _ hl, hx _ (by simp [Op.operands]) _ hc]
        · cases h
      · cases h
    · cases h
  case fieldAddr ty x fi =>
    split at h
    · rename_i s fo ft hs hfi
      split at h
      · injection h with h; subst h; simp only [fieldAddrF, hx _ (by simp [Op.operands]) _ hs]
      · cases h
    · cases h
  case field ty x fi =>
    split at h
    · rename_i s fo ft hs hfi
      split at h
      · injection h with h; subst h; simp only [hx _ (by simp [Op.operands]) _ hs]
      · cases h
    · cases h
  case indexAddr ty x ix =>
    split at h
    · rename_i s i hs hi
      split at h
      · split at h
        · injection h with h; subst h; simp only [indexSlF, hx _ (by simp [Op.operands]) _ hs, hx _ (by simp [Op.operands]) _ hi]
        · cases h
      · split at h
        · injection h with h; subst h; simp only [indexArF, hx _ (by simp [Op.operands]) _ hs, hx _ (by simp [Op.operands]) _ hi]
        · cases h
      · cases h
    · cases h
  case index ty x ix =>
    split at h
    · rename_i s i hs hi
      split at h
      · split at h
        · injection h with h; subst h; simp only [indexF, hx _ (by simp [Op.operands]) _ hs, hx _ (by simp [Op.operands]) _ hi]
        · cases h
      · injection h with h; subst h; simp only [indexStrF, hx _ (by simp [Op.operands]) _ hs, hx _ (by simp [Op.operands]) _ hi]
      · cases h
    · cases h
  case lookup ty x k ok =>
    split at h
    · rename_i m kk kt et hm hk hu
      split at h
      · injection h with h; subst h; simp only [lookupF, hx _ (by simp [Op.operands]) _ hm, hx _ (by simp [Op.operands]) _ hk]
      · cases h
    · cases h
  case mapUpdate ty m k x =>
    split at h
    · rename_i sm sk sx kt et hm hk hx' hu; injection h with h; subst h
      simp only [mapUpdateF, hx _ (by simp [Op.operands]) _ hm, hx _ (by simp [Op.operands]) _ hk, hx _ (by simp [Op.operands]) _ hx']
    · cases h
  case insert ty m k x =>
    split at h
    · rename_i sm sk sx kt et hm hk hx' hu; injection h with h; subst h
      simp only [mapUpdateF, hx _ (by simp [Op.operands]) _ hm, hx _ (by simp [Op.operands]) _ hk, hx _ (by simp [Op.operands]) _ hx']
    · cases h
  case mapEntry ty m k =>
    split at h
    · rename_i sm sk kt et hm hk hu
      split at h
      · injection h with h; subst h; simp only [mapEntryF, hx _ (by simp [Op.operands]) _ hm, hx _ (by simp [Op.operands]) _ hk]
      · cases h
    · cases h
  case entryStore ty m st x =>
    split at h
    · rename_i sm ss sx hm hs hx'; injection h with h; subst h
      simp only [entryStoreF, hx _ (by simp [Op.operands]) _ hm, hx _ (by simp [Op.operands]) _ hs, hx _ (by simp [Op.operands]) _ hx']
    · cases h
  case extract x i =>
    split at h
    · rename_i s hs; injection h with h; subst h; simp only [hx _ (by simp [Op.operands]) _ hs]
    · cases h
  case makeMap ty r =>
    cases r with
    | some r => cases h
    | none =>
      dsimp only at h
      split at h
      · injection h with h; subst h; rfl
      · cases h
  case makeFunc fn fi ca =>
    cases fn with
    | func fx =>
      dsimp only at h
      split at h
      · rename_i sa sc ha hc; injection h with h; subst h
        have e1 := cRhos_congr (t := t) (t' := t') ha fun x hm => hx x (by simp [Op.operands] at hm ⊢; exact .inl hm)
        have e2 := cRhos_congr (t := t) (t' := t') hc fun x hm => hx x (by simp [Op.operands] at hm ⊢; exact .inr hm)
        simp only [e1, e2]
      · cases h
    | _ => cases h
  case buildSlice ty len parts =>
    split at h
    · rename_i e vs he hvs
      have e1 := cRhos_congr (t := t) (t' := t') hvs fun x hm => hx x (by simpa [Op.operands] using hm)
      split at h
      · rw [bif'_eq] at h
        split at h
        · injection h with h; subst h; simp only [buildSliceF, e1]
        · cases h
      · cases h
    · cases h
  case build ty parts =>
    split at h
    · rename_i zero vs hz hvs
      have e1 := cRhos_congr (t := t) (t' := t') hvs fun x hm => hx x (by simpa [Op.operands] using hm)
      split at h
      · split at h
        · split at h
          · injection h with h; subst h; simp only [buildF, e1]
          · cases h
        · cases h
      · split at h
        · injection h with h; subst h; simp only [buildF, e1]
        · cases h
      · cases h
    · cases h
  case slice ty x lo hi mx =>
    have optR : ∀ {y : Option Operand} {s : Stg (T → List AV)}, (∀ z, y = some z → z ∈ (Op.slice ty x lo hi mx).operands.toList) → cRhos C y.toList = some s → s.run t = s.run t' := by
      intro y s hy hs
      refine cRhos_congr hs fun z hm => hx z (hy z ?_)
      cases y with
      | none => simp at hm
      | some q => simp at hm; rw [hm]
    cases mx with
    | none =>
      dsimp only at h
      split at h
      · rename_i e sx sl sh hu h1 h2 h3
        split at h
        · injection h with h; subst h
          simp only [hx _ (by simp [Op.operands]) _ h1, optR (by rintro z rfl; simp [Op.operands]) h2, optR (by rintro z rfl; simp [Op.operands]) h3]
        · cases h
      · rename_i n e sx sl sh hu h1 h2 h3
        split at h
        · injection h with h; subst h
          simp only [sliceArrF, hx _ (by simp [Op.operands]) _ h1, optR (by rintro z rfl; simp [Op.operands]) h2, optR (by rintro z rfl; simp [Op.operands]) h3]
        · cases h
      · cases h
    | some mx =>
      cases hi with
      | none => cases h
      | some hi =>
        dsimp only at h
        split at h
        · rename_i e sx sl sh sm he h1 h2 h3 h4
          split at h
          · injection h with h; subst h
            simp only [hx _ (by simp [Op.operands]) _ h1, optR (by rintro z rfl; simp [Op.operands]) h2, hx _ (by simp [Op.operands]) _ h3, hx _ (by simp [Op.operands]) _ h4]
          · cases h
        · cases h

theorem cOpT_congr {d : Nat} {rd : Option Nat} (hx : OpAgr C t t' op.operands.toList) : (cOpT C op).run ih d rd t g = (cOpT C op).run ih d rd t' g := by
  unfold cOpT
  split
  rotate_left
  · rfl
  rename_i f h
  unfold cOp at h
  split at h
  · rename_i fx args at2
    split at h
    · rename_i vs hvs
      have e1 := cRhos_congr (t := t) (t' := t') hvs fun x hm => hx x (by simp [Op.operands, Call.operands] at hm ⊢; exact .inr hm)
      repeat' (first | split at h | (rw [bif'_eq] at h; split at h))
      all_goals (injection h with h; subst h; simp only [e1])
    · cases h
  · rename_i fo args at2 hnf
    split at h
    · rename_i fv vs hfv hvs
      have e1 := cRhos_congr (t := t) (t' := t') hvs fun x hm => hx x (by simp [Op.operands, Call.operands] at hm ⊢; exact .inr hm)
      have e2 := hx fo (by simp [Op.operands, Call.operands]) _ hfv
      injection h with h; subst h; simp only [e1, e2]
    · cases h
  · injection h with h; subst h; rfl
  · rename_i fo args at2
    split at h
    · rename_i fv vs hfv hvs
      have e1 := cRhos_congr (t := t) (t' := t') hvs fun x hm => hx x (by simp [Op.operands, Call.operands] at hm ⊢; exact .inr hm)
      have e2 := hx fo (by simp [Op.operands, Call.operands]) _ hfv
      injection h with h; subst h; simp only [e1, e2]
    · cases h
  · split at h
    · rename_i s hs; injection h with h; subst h
      exact cSop_congr hs hx
    · cases h

theorem cFoot_congr {g' : G} (hh : g.h = g'.h) (hx : OpAgr C t t' op.operands.toList) : (cFoot C op).run t g = (cFoot C op).run t' g' := by
  have one : ∀ {x : Operand} {F : AV → Looks}, x ∈ op.operands.toList →
      (match cRho C x with | some a => (⟨fun t _ => F (a.run t)⟩ : Stg (T → G → Looks)) | none => ⟨fun _ _ => bigLook⟩).run t g =
      (match cRho C x with | some a => (⟨fun t _ => F (a.run t)⟩ : Stg (T → G → Looks)) | none => ⟨fun _ _ => bigLook⟩).run t' g' := by
    intro x F hm
    cases hs : cRho C x with
    | none => rfl
    | some s => simp only [hx x hm s hs]
  cases op <;> first | rfl | skip
  case load ty x => exact one (F := fun v => rdLook (refIds v)) (by simp [Op.operands])
  case store ty x y => exact one (F := fun v => rdLook (refIds v)) (by simp [Op.operands])
  case slice ty x lo hi mx => exact one (F := fun v => rdLook (refIds v)) (by simp [Op.operands])
  case mapUpdate ty x k y => exact one (F := fun v => rdLook (refIds v)) (by simp [Op.operands])
  case insert ty x k y => exact one (F := fun v => rdLook (refIds v)) (by simp [Op.operands])
  case entryStore ty x k y => exact one (F := fun v => rdLook (refIds v)) (by simp [Op.operands])
  case mapEntry ty x k => exact one (F := fun v => ⟨refIds v, [], (refIds v).map (·, ty), false⟩) (by simp [Op.operands])
  case lookup ty x k ok =>
    cases ok
    · exact one (F := fun v => ⟨[], (refIds v).map (·, ty), [], false⟩) (by simp [Op.operands])
    · exact one (F := fun v => rdLook (refIds v)) (by simp [Op.operands])
  case indexAddr ty x ix =>
    simp only [cFoot]
    split
    · rename_i e s hu hs
      simp only [hx x (by simp [Op.operands]) s hs]
    · rfl
  case call c =>
    obtain ⟨callee, args, argTypes⟩ := c
    cases callee with
    | builtin b =>
      simp only [cFoot]
      split
      · rename_i vs hvs
        simp only [cRhos_congr hvs fun x hm => hx x (by simpa [Op.operands, Call.operands] using hm)]
      · rfl
    | value fo =>
      simp only [cFoot]
      split
      · rename_i fv vs hfv hvs
        simp only [cRhos_congr hvs fun x hm => hx x (by simp [Op.operands, Call.operands] at hm ⊢; exact .inr hm), hx fo (by simp [Op.operands, Call.operands]) _ hfv, hh]
      · rfl
    | invoke r m => rfl

end
end Hx
