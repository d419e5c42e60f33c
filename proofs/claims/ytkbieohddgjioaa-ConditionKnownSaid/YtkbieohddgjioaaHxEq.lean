/- Equality of plain values. -/
import Derived.Test.YtkbieohddgjioaaHxOpsM
import Derived.DeepKeys3
set_option linter.unusedVariables false
set_option linter.unusedSimpArgs false
set_option linter.unnecessarySimpa false
namespace Hx
open Go

def kindV : TypeDesc → Value → Bool
  | .bool, .bool _ => true
  | .int k, .int k' _ => decide (k = k')
  | .string, .string _ => true
  | _, _ => false
def kindsV : List TypeDesc → List Value → Bool
  | [], [] => true
  | d :: ds, v :: vs => kindV d v && kindsV ds vs
  | _, _ => false
def eqV : Value → Value → Bool
  | .int _ a, .int _ b => a == b
  | .bool a, .bool b => a == b
  | .string a, .string b => a == b
  | _, _ => false
def eqVs : List Value → List Value → Bool
  | [], [] => true
  | a :: as, b :: bs => eqV a b && eqVs as bs
  | _, _ => false
def isAggT (P : Program) (t : TypeId) : Bool := match aggT P t with | some b => b | none => false
def mkV (P : Program) (t : TypeId) (cs : List Value) : Value := if isAggT P t then .agg cs.toArray else cs.headD undef

theorem kindsV_len : ∀ {ds : List TypeDesc} {vs : List Value}, kindsV ds vs = true → vs.length = ds.length := by
  intro ds
  induction ds with
  | nil => intro vs h; cases vs <;> simp_all [kindsV]
  | cons d ds ih => intro vs h; cases vs with
    | nil => simp [kindsV] at h
    | cons v vs => simp only [kindsV, Bool.and_eq_true] at h; simp [ih h.2]

theorem kindsV_append {d1 d2 : List TypeDesc} : ∀ {vs : List Value}, kindsV (d1 ++ d2) vs = true → kindsV d1 (vs.take d1.length) = true ∧ kindsV d2 (vs.drop d1.length) = true := by
  induction d1 with
  | nil => intro vs h; simpa [kindsV] using h
  | cons d ds ih =>
    intro vs h
    cases vs with
    | nil => simp [kindsV] at h
    | cons v vs =>
      simp only [List.cons_append, kindsV, Bool.and_eq_true] at h
      obtain ⟨h1, h2⟩ := ih h.2
      simp only [List.length_cons, List.take_succ_cons, List.drop_succ_cons, kindsV, Bool.and_eq_true]
      exact ⟨⟨h.1, h1⟩, h2⟩

theorem eqVs_append : ∀ {a1 a2 b1 b2 : List Value}, a1.length = b1.length → eqVs (a1 ++ a2) (b1 ++ b2) = (eqVs a1 b1 && eqVs a2 b2) := by
  intro a1
  induction a1 with
  | nil => intro a2 b1 b2 h; cases b1 <;> simp_all [eqVs]
  | cons a as ih =>
    intro a2 b1 b2 h
    cases b1 with
    | nil => simp at h
    | cons b bs => simp only [List.cons_append, eqVs, ih (Nat.succ.inj h), Bool.and_assoc]

section
variable {P : Program}

def isAggD : TypeDesc → Bool
  | .struct _ | .array _ _ => true
  | _ => false
theorem isAgg_of {t : TypeId} {d : TypeDesc} (h : P.underlying t = some d) :
    isAggT P t = isAggD d ∧ aggT P t = some (isAggT P t) := by
  unfold isAggT aggT
  cases d <;> simp [h, isAggD]

/-- A part of an aggregate. -/
theorem part_mk {w : World} {t : TypeId} {d : TypeDesc} {n off : Nat} {xs : Array Value} (hu : P.underlying t = some d) (hn : szT P t = some n) (h1 : isAggT P t = false → n = 1)
    (hle : isAggT P t = false → off + n ≤ xs.size) : (part t xs off).run P w = .ok (mkV P t ((xs.toList.drop off).take n)) w := by
  obtain ⟨_, ha⟩ := isAgg_of hu
  unfold mkV
  cases hg : isAggT P t with
  | true =>
    rw [hg] at ha
    have e : (xs.extract off (off + n)) = ((xs.toList.drop off).take n).toArray := by
      apply Array.ext'
      simp [Array.toList_extract, List.extract]
    simp [part, run_isAgg ha, run_sizeOf hn, e]
  | false =>
    rw [hg] at ha
    have hn1 := h1 hg
    subst hn1
    have hl : off < xs.size := by have := hle hg; omega
    have e : ((xs.toList.drop off).take 1).headD undef = xs[off] := by
      rw [List.headD_eq_head?_getD, List.head?_take, if_neg (by decide), List.head?_drop]
      simp [hl]
    simp only [part, Sem.run_bind, run_isAgg ha, Result.andThen_ok, Bool.false_eq_true, if_false, e]
    simp [hl]

theorem flatL_info {d : Nat} {t : TypeId} {ds : List TypeDesc} (h : flatL P d t = some ds) : ∃ k, P.underlying t = some k ∧ (isAggT P t = false → ds.length = 1) := by
  cases d with
  | zero => cases h
  | succ d =>
    unfold flatL at h
    cases hu : P.underlying t with
    | none => rw [hu] at h; cases h
    | some k =>
      refine ⟨k, rfl, fun hg => ?_⟩
      obtain ⟨h1, _⟩ := isAgg_of hu
      rw [hg] at h1
      rw [hu] at h
      cases k <;> simp [isAggD] at h1 <;> simp only [bif'_eq] at h <;> split at h <;> first | (cases h; done) | (injection h with h; subst h; rfl)

theorem flatFs_run {w : World} {dd : Nat} {rec : TypeId → Option (List TypeDesc)} (hinfo : ∀ t ds, rec t = some ds → ∃ k, P.underlying t = some k ∧ (isAggT P t = false → ds.length = 1))
    (ih : ∀ t ds, rec t = some ds → ∀ (xs ys : List Value), kindsV ds xs = true → kindsV ds ys = true → (Op.equalIn dd t (mkV P t xs) (mkV P t ys)).run P w = .ok (eqVs xs ys) w)
    {xs ys : Array Value} : ∀ (fs : List Field) (k : Nat) (ds : List TypeDesc), flatFs P rec fs k = some ds → kindsV ds (xs.toList.drop k) = true → kindsV ds (ys.toList.drop k) = true →
      (Op.eqFields dd xs ys fs).run P w = .ok (eqVs (xs.toList.drop k) (ys.toList.drop k)) w := by
  intro fs
  induction fs with
  | nil =>
    intro k ds h hx hy
    simp only [flatFs] at h; injection h with h; subst h
    have h1 := kindsV_len hx
    have h2 := kindsV_len hy
    rw [List.eq_nil_of_length_eq_zero h1, List.eq_nil_of_length_eq_zero h2]
    rfl
  | cons f fs ihf =>
    intro k ds h hx hy
    simp only [flatFs] at h
    split at h
    · rename_i ds1 h1
      split at h
      · rename_i r hr
        rw [bif'_eq] at h
        split at h
        · rename_i hcond
          simp only [Bool.and_eq_true, bne_iff_ne, ne_eq, beq_iff_eq] at hcond
          obtain ⟨⟨hname, hoff⟩, hsz⟩ := hcond
          have hoff := nat_beq hoff
          injection h with h; subst h
          obtain ⟨x1, x2⟩ := kindsV_append hx
          obtain ⟨y1, y2⟩ := kindsV_append hy
          rw [List.drop_drop] at x2 y2
          have lx := kindsV_len hx
          have ly := kindsV_len hy
          simp at lx ly
          obtain ⟨kd, hu, hone⟩ := hinfo _ _ h1
          have p1 : (part f.type xs f.offset).run P w = .ok (mkV P f.type ((xs.toList.drop k).take ds1.length)) w := by
            rw [hoff]
            exact part_mk hu hsz hone fun hg => by have := hone hg; omega
          have p2 : (part f.type ys f.offset).run P w = .ok (mkV P f.type ((ys.toList.drop k).take ds1.length)) w := by
            rw [hoff]
            exact part_mk hu hsz hone fun hg => by have := hone hg; omega
          have p3 := ih _ _ h1 _ _ x1 y1
          have p4 := ihf _ _ hr x2 y2
          simp only [Op.eqFields, ne_eq, hname, not_false_eq_true, if_true, Sem.run_bind, p1, p2, p3, Result.andThen_ok]
          have e := eqVs_append (a1 := (xs.toList.drop k).take ds1.length) (a2 := xs.toList.drop (k + ds1.length)) (b1 := (ys.toList.drop k).take ds1.length) (b2 := ys.toList.drop (k + ds1.length))
            (by rw [kindsV_len x1, kindsV_len y1])
          rw [← List.drop_drop, ← List.drop_drop, List.take_append_drop, List.take_append_drop] at e
          rw [e, List.drop_drop, List.drop_drop]
          cases hq : eqVs ((xs.toList.drop k).take ds1.length) ((ys.toList.drop k).take ds1.length)
          · simp
          · simpa using p4
        · cases h
      · cases h
    · cases h

theorem flatItems_run {w : World} {dd : Nat} {e : TypeId} {de : List TypeDesc} {kd : TypeDesc} (hu : P.underlying e = some kd) (hone : isAggT P e = false → de.length = 1) (hsz : szT P e = some de.length)
    (ih : ∀ (xs ys : List Value), kindsV de xs = true → kindsV de ys = true → (Op.equalIn dd e (mkV P e xs) (mkV P e ys)).run P w = .ok (eqVs xs ys) w)
    {xs ys : Array Value} : ∀ (n i : Nat), kindsV (List.replicate n de).flatten (xs.toList.drop (i * de.length)) = true → kindsV (List.replicate n de).flatten (ys.toList.drop (i * de.length)) = true →
      (Op.eqItems dd e de.length xs ys (List.range' i n)).run P w = .ok (eqVs (xs.toList.drop (i * de.length)) (ys.toList.drop (i * de.length))) w := by
  intro n
  induction n with
  | zero =>
    intro i hx hy
    have h1 := kindsV_len hx
    have h2 := kindsV_len hy
    rw [List.eq_nil_of_length_eq_zero (l := xs.toList.drop _) (by simpa using h1), List.eq_nil_of_length_eq_zero (l := ys.toList.drop _) (by simpa using h2)]
    rfl
  | succ n ihn =>
    intro i hx hy
    rw [List.replicate_succ, List.flatten_cons] at hx hy
    obtain ⟨x1, x2⟩ := kindsV_append hx
    obtain ⟨y1, y2⟩ := kindsV_append hy
    have lx := kindsV_len x1
    have ly := kindsV_len y1
    simp at lx ly
    rw [List.drop_drop] at x2 y2
    have em : i * de.length + de.length = (i + 1) * de.length := by rw [Nat.add_mul, Nat.one_mul]
    rw [em] at x2 y2
    have p1 : (part e xs (i * de.length)).run P w = .ok (mkV P e ((xs.toList.drop (i * de.length)).take de.length)) w := part_mk hu hsz hone fun hg => by have := hone hg; omega
    have p2 : (part e ys (i * de.length)).run P w = .ok (mkV P e ((ys.toList.drop (i * de.length)).take de.length)) w := part_mk hu hsz hone fun hg => by have := hone hg; omega
    have p3 := ih _ _ x1 y1
    have p4 := ihn (i + 1) x2 y2
    rw [List.range'_succ]
    simp only [Op.eqItems, Sem.run_bind, p1, p2, p3, Result.andThen_ok]
    have ee := eqVs_append (a1 := (xs.toList.drop (i * de.length)).take de.length) (a2 := xs.toList.drop ((i + 1) * de.length)) (b1 := (ys.toList.drop (i * de.length)).take de.length) (b2 := ys.toList.drop ((i + 1) * de.length))
      (by rw [kindsV_len x1, kindsV_len y1])
    rw [← em, ← List.drop_drop, ← List.drop_drop, List.take_append_drop, List.take_append_drop, List.drop_drop, List.drop_drop, em] at ee
    rw [ee]
    cases hq : eqVs ((xs.toList.drop (i * de.length)).take de.length) ((ys.toList.drop (i * de.length)).take de.length)
    · simp
    · simpa using p4

theorem cellsOf_sz {t : TypeId} {n : Nat} (h : szT P t = some n) : P.cellsOf t = n ∧ ∃ i, P.info? t = some i := by
  unfold szT at h
  unfold Program.cellsOf
  cases hi : P.info? t with
  | none => rw [hi] at h; cases h
  | some i => rw [hi] at h; simp at h; simp [h]

theorem flat_eq (D : Nat) : ∀ (d : Nat) (t : TypeId) (ds : List TypeDesc), flatL P d t = some ds → ∀ (w : World) (xs ys : List Value), kindsV ds xs = true → kindsV ds ys = true →
    (Op.equalIn (D + d) t (mkV P t xs) (mkV P t ys)).run P w = .ok (eqVs xs ys) w := by
  intro d
  induction d with
  | zero => intro t ds h; cases h
  | succ d ih =>
    intro t ds h w xs ys hx hy
    unfold flatL at h
    have one : ∀ k, P.underlying t = some k → flatKind k = true → isAggD k = false → ds = [k] → (Op.equalIn (D + (d + 1)) t (mkV P t xs) (mkV P t ys)).run P w = .ok (eqVs xs ys) w := by
      intro k hu hk hag hds
      obtain ⟨h1, _⟩ := isAgg_of hu
      subst hds
      have hm : ∀ zs, mkV P t zs = zs.headD undef := by intro zs; unfold mkV; rw [h1, hag]; rfl
      rw [hm, hm]
      have lx := kindsV_len hx
      have ly := kindsV_len hy
      match xs, ys, lx, ly with
      | [x], [y], _, _ =>
        simp only [kindsV, Bool.and_true] at hx hy
        simp only [List.headD_cons, eqVs, Bool.and_true, ← Nat.add_assoc]
        cases k <;> simp [flatKind] at hk <;> cases x <;> simp [kindV] at hx <;> cases y <;> simp [kindV] at hy
        · simp [Op.equalIn, run_und hu, eqV]
        · subst hx; subst hy; simp [Op.equalIn, run_und hu, eqV]
        · simp [Op.equalIn, run_und hu, eqV]
    cases hu : P.underlying t with
    | none => rw [hu] at h; cases h
    | some k =>
      rw [hu] at h
      cases k
      case struct fs =>
        simp only [bif'_eq] at h
        split at h
        · cases h
        · rename_i hst
          have hst : P.stoodInHeld t = false := by simpa using hst
          have hfs : P.fieldsOf t = fs := by simp [Program.fieldsOf, hu]
          have hm : ∀ zs, mkV P t zs = .agg zs.toArray := by intro zs; unfold mkV; rw [(isAgg_of hu).1]; rfl
          rw [hm, hm, ← Nat.add_assoc, run_equalIn_struct w (D + d) t _ _ (by rw [hfs]; exact hu) hst, hfs]
          have := flatFs_run (P := P) (w := w) (dd := D + d) (rec := flatL P d) (fun t ds h => flatL_info h) (fun t ds h xs ys hx hy => ih t ds h w xs ys hx hy) (xs := xs.toArray) (ys := ys.toArray)
            fs.toList 0 ds h (by simpa using hx) (by simpa using hy)
          simpa using this
      case array n e =>
        simp only at h
        split at h
        · rename_i de hde
          simp only [bif'_eq] at h
          split at h
          · rename_i hsz
            injection h with h; subst h
            have hsz : szT P e = some de.length := by simpa using hsz
            obtain ⟨kd, hue, hone⟩ := flatL_info hde
            obtain ⟨hc, i, hi⟩ := cellsOf_sz hsz
            have hm : ∀ zs, mkV P t zs = .agg zs.toArray := by intro zs; unfold mkV; rw [(isAgg_of hu).1]; rfl
            rw [hm, hm, ← Nat.add_assoc, run_equalIn_array w (D + d) _ _ hu hi, hc, List.range_eq_range']
            have := flatItems_run (P := P) (w := w) (dd := D + d) hue hone hsz (fun xs ys hx hy => ih e de hde w xs ys hx hy) (xs := xs.toArray) (ys := ys.toArray) n 0 (by simpa using hx) (by simpa using hy)
            simpa using this
          · cases h
        · cases h
      all_goals
        simp only [bif'_eq] at h
        split at h
        · rename_i hk
          injection h with h
          exact one _ hu hk rfl h.symm
        · cases h

end
end Hx
