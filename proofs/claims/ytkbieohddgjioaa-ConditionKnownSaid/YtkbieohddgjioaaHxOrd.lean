/- Plain facts on what is written over and over in some order. -/
import Derived.Test.YtkbieohddgjioaaHxRound
set_option linter.unusedVariables false
set_option linter.unusedSimpArgs false
set_option linter.unnecessarySimpa false
namespace Hx
open Go

section
variable {K V : Type}
open Classical in
/-- What holds at k when the writes of S are done, the later in the text over the earlier. -/
noncomputable def ov (S : Nat → Prop) (wr : Nat → K → Prop) (val : Nat → K → V) (base : K → V) : Nat → K → V
  | 0, k => base k
  | i + 1, k => if S i ∧ wr i k then val (i + 1) k else ov S wr val base i k

variable {S S' : Nat → Prop} {wr : Nat → K → Prop} {val : Nat → K → V} {base : K → V} {k : K}

theorem ov_congr {n : Nat} (h : ∀ j, j < n → wr j k → (S j ↔ S' j)) : ov S wr val base n k = ov S' wr val base n k := by
  induction n with
  | zero => rfl
  | succ n ih =>
    simp only [ov]
    rw [ih fun j hj => h j (by omega)]
    by_cases hw : wr n k
    · have hS := h n (by omega) hw
      by_cases hs : S n
      · rw [if_pos ⟨hs, hw⟩, if_pos ⟨hS.1 hs, hw⟩]
      · rw [if_neg (fun hh => hs hh.1), if_neg (fun hh => hs (hS.2 hh.1))]
    · rw [if_neg (fun hh => hw hh.2), if_neg (fun hh => hw hh.2)]

theorem ov_top {n m : Nat} (hm : m ≤ n) (h : ∀ j, m ≤ j → j < n → S j → ¬ wr j k) : ov S wr val base n k = ov S wr val base m k := by
  induction n with
  | zero => have : m = 0 := by omega
            subst this; rfl
  | succ n ih =>
    by_cases hmn : m = n + 1
    · subst hmn; rfl
    · simp only [ov]
      rw [if_neg (fun hh => h n (by omega) (by omega) hh.1 hh.2)]
      exact ih (by omega) fun j h1 h2 => h j h1 (by omega)

/-- The write of i laid over. -/
theorem ov_add {n i : Nat} (hi : i < n) (hw : wr i k) (h : ∀ j, i < j → j < n → S j → ¬ wr j k) : ov (fun j => S j ∨ j = i) wr val base n k = val (i + 1) k := by
  rw [ov_top (m := i + 1) (by omega) (fun j h1 h2 h3 => by
    rcases h3 with h3 | h3
    · exact h j (by omega) h2 h3
    · omega)]
  simp [ov, hw]

theorem ov_skip {n i : Nat} (hw : ¬ wr i k) : ov (fun j => S j ∨ j = i) wr val base n k = ov S wr val base n k := by
  refine ov_congr fun j _ hj => ?_
  constructor
  · rintro (h | h)
    · exact h
    · subst h; exact absurd hj hw
  · exact .inl

/-- Where just the writers ahead of i are done. -/
theorem ov_at {n i : Nat} (hi : i ≤ n) (keep : ∀ j, j < n → ¬ wr j k → val (j + 1) k = val j k) (h : ∀ j, j < n → wr j k → (S j ↔ j < i)) :
    ((∃ j, j < i ∧ wr j k) ∧ ov S wr val base n k = val i k) ∨ ((∀ j, j < i → ¬ wr j k) ∧ ov S wr val base n k = base k ∧ val i k = val 0 k) := by
  rw [ov_top hi (fun j h1 h2 h3 h4 => by have := (h j h2 h4).1 h3; omega)]
  have key : ∀ m, m ≤ i → ((∃ j, j < m ∧ wr j k) ∧ ov S wr val base m k = val m k) ∨ ((∀ j, j < m → ¬ wr j k) ∧ ov S wr val base m k = base k ∧ val m k = val 0 k) := by
    intro m
    induction m with
    | zero => intro _; exact .inr ⟨fun j hj => absurd hj (Nat.not_lt_zero j), rfl, rfl⟩
    | succ m ih =>
      intro hm
      by_cases hw : wr m k
      · left
        refine ⟨⟨m, by omega, hw⟩, ?_⟩
        simp only [ov]
        rw [if_pos ⟨(h m (by omega) hw).2 (by omega), hw⟩]
      · simp only [ov]
        rw [if_neg (fun hh => hw hh.2)]
        rcases ih (by omega) with ⟨⟨j, h1, h2⟩, h3⟩ | ⟨h1, h2, h3⟩
        · left; exact ⟨⟨j, by omega, h2⟩, by rw [h3, keep m (by omega) hw]⟩
        · right
          refine ⟨fun j hj => ?_, h2, by rw [keep m (by omega) hw, h3]⟩
          by_cases hjm : j = m
          · subst hjm; exact hw
          · exact h1 j (by omega)
  exact key i (Nat.le_refl _)
end

/-! Masks of those that stand before -/

theorem testBit_or_foldl (es : List Edge) (acc : List Nat) : ∀ (m i : Nat),
    (es.foldl (fun m e => bif' (Region.binds .any e) (m ||| 2 ^ e.on ||| acc.getD e.on 0) m) m).testBit i = true →
    m.testBit i = true ∨ ∃ e ∈ es, Region.binds .any e = true ∧ (e.on = i ∨ (acc.getD e.on 0).testBit i = true) := by
  induction es with
  | nil => intro m i h; exact .inl h
  | cons e es ih =>
    intro m i h
    simp only [List.foldl_cons] at h
    rcases ih _ i h with h | ⟨e', h1, h2, h3⟩
    · rw [bif'_eq] at h
      split at h
      · rename_i hb
        simp only [Nat.testBit_or, Bool.or_eq_true] at h
        rcases h with (h | h) | h
        · exact .inl h
        · right
          refine ⟨e, List.mem_cons_self, hb, .inl ?_⟩
          rw [Nat.testBit_two_pow] at h
          simpa using h
        · exact .inr ⟨e, List.mem_cons_self, hb, .inr h⟩
      · exact .inl h
    · exact .inr ⟨e', List.mem_cons_of_mem _ h1, h2, h3⟩

/-- What the masks say of a set that holds with each operation those that bind it. -/
theorem predMasks_down {S : Nat → Prop} {all : List Oper} (hS : ∀ j o, all[j]? = some o → S j → ∀ e ∈ o.after.toList, Region.binds .any e = true → S e.on) :
    ∀ (ops : List Oper) (acc : List Nat) (pre : List Oper), all = pre ++ ops → pre.length = acc.length → (∀ j i, (acc.getD j 0).testBit i = true → S j → S i) →
      ∀ j i, ((predMasks ops acc).getD j 0).testBit i = true → S j → S i := by
  intro ops
  induction ops with
  | nil => intro acc pre _ _ h; exact h
  | cons o rest ih =>
    intro acc pre hall hlen h
    simp only [predMasks]
    refine ih _ (pre ++ [o]) (by simp [hall]) (by simp [hlen]) fun j i hj hSj => ?_
    by_cases hlt : j < acc.length
    · refine h j i ?_ hSj
      rw [List.getD_eq_getElem?_getD, List.getElem?_append_left hlt] at hj
      rw [List.getD_eq_getElem?_getD]; exact hj
    · by_cases hje : j = acc.length
      · subst hje
        rw [List.getD_eq_getElem?_getD, List.getElem?_append_right (Nat.le_refl _)] at hj
        simp only [Nat.sub_self, List.getElem?_cons_zero, Option.getD_some] at hj
        have ho : all[acc.length]? = some o := by rw [hall, ← hlen]; simp
        rcases testBit_or_foldl _ acc _ _ hj with h0 | ⟨e, h1, h2, h3⟩
        · simp at h0
        · have hSe := hS _ o ho hSj e h1 h2
          rcases h3 with h3 | h3
          · rw [← h3]; exact hSe
          · exact h _ _ h3 hSe
      · rw [List.getD_eq_getElem?_getD, List.getElem?_eq_none (by simp; omega)] at hj
        simp at hj

theorem allPairsFrom_get {α : Type} {f : Nat → α → Nat → α → Bool} {i : Nat} {x : α} : ∀ {l : List α} {j0 : Nat}, allPairsFrom f i x j0 l = true → ∀ (j : Nat) y, l[j]? = some y → f i x (j0 + j) y = true := by
  intro l
  induction l with
  | nil => intro j0 _ j y h; simp at h
  | cons a l ih =>
    intro j0 h j y hy
    simp only [allPairsFrom, Bool.and_eq_true] at h
    cases j with
    | zero => simp at hy; subst hy; exact h.1
    | succ j =>
      have := ih h.2 j y (by simpa using hy)
      rw [show j0 + (j + 1) = j0 + 1 + j by omega]; exact this

theorem allPairs_get {α : Type} {f : Nat → α → Nat → α → Bool} : ∀ {l : List α} {i0 : Nat}, allPairs f i0 l = true → ∀ (i j : Nat) x y, i < j → l[i]? = some x → l[j]? = some y → f (i0 + i) x (i0 + j) y = true := by
  intro l
  induction l with
  | nil => intro i0 _ i j x y _ h; simp at h
  | cons a l ih =>
    intro i0 h i j x y hij hx hy
    simp only [allPairs, Bool.and_eq_true] at h
    cases j with
    | zero => omega
    | succ j =>
      cases i with
      | zero =>
        simp at hx; subst hx
        have := allPairsFrom_get h.1 j y (by simpa using hy)
        rw [show i0 + (j + 1) = i0 + 1 + j by omega]; simpa using this
      | succ i =>
        have := ih h.2 i j x y (by omega) (by simpa using hx) (by simpa using hy)
        rw [show i0 + (i + 1) = i0 + 1 + i by omega, show i0 + (j + 1) = i0 + 1 + j by omega]; exact this

theorem edgesBack_get : ∀ {l : List Oper} {i0 : Nat}, edgesBack i0 l = true → ∀ (i : Nat) o, l[i]? = some o → ∀ e ∈ o.after.toList, Region.binds .any e = true → e.on < i0 + i := by
  intro l
  induction l with
  | nil => intro i0 _ i o h; simp at h
  | cons a l ih =>
    intro i0 h i o ho e he hb
    simp only [edgesBack, Bool.and_eq_true] at h
    cases i with
    | zero =>
      simp at ho; subst ho
      have := List.all_eq_true.1 h.1 e he
      simp only [hb, Bool.not_true, Bool.false_or, Nat.blt_eq] at this
      simpa using this
    | succ i =>
      have := ih h.2 i o (by simpa using ho) e he hb
      omega

theorem guardsBack_get {pm : List Nat} : ∀ {l : List Oper} {i0 : Nat}, guardsBack pm i0 l = true → ∀ (i : Nat) o, l[i]? = some o → ∀ j b, o.guard = some (j, b) → (pm.getD (i0 + i) 0).testBit j = true := by
  intro l
  induction l with
  | nil => intro i0 _ i o h; simp at h
  | cons a l ih =>
    intro i0 h i o ho j b hg
    simp only [guardsBack, Bool.and_eq_true] at h
    cases i with
    | zero =>
      simp at ho; subst ho
      have := h.1
      simp only [hg] at this
      simpa using this
    | succ i =>
      have := ih h.2 i o (by simpa using ho) j b hg
      rw [show i0 + (i + 1) = i0 + 1 + i by omega]; exact this

/-! How many are left -/

def cnt (p : Nat → Bool) : Nat → Nat
  | 0 => 0
  | n + 1 => cnt p n + (if p n then 1 else 0)

theorem cnt_zero {p : Nat → Bool} : ∀ {n : Nat}, cnt p n = 0 → ∀ i, i < n → p i = false := by
  intro n
  induction n with
  | zero => intro _ i hi; omega
  | succ n ih =>
    intro h i hi
    simp only [cnt] at h
    by_cases hin : i = n
    · subst hin; cases hp : p i
      · rfl
      · simp [hp] at h
    · exact ih (by omega) i (by omega)

theorem cnt_lt {p q : Nat → Bool} (h : ∀ i, q i = true → p i = true) : ∀ {n i : Nat}, i < n → p i = true → q i = false → cnt q n < cnt p n := by
  have hle : ∀ n, cnt q n ≤ cnt p n := by
    intro n
    induction n with
    | zero => exact Nat.le_refl _
    | succ n ih =>
      simp only [cnt]
      have := h n
      cases hq : q n
      · cases p n <;> simp <;> omega
      · simp [this hq]; omega
  intro n
  induction n with
  | zero => intro i hi; omega
  | succ n ih =>
    intro i hi hp hq
    simp only [cnt]
    by_cases hin : i = n
    · subst hin; simp [hp, hq]; have := hle i; omega
    · have := ih (by omega) hp hq
      have h2 := h n
      cases hq' : q n
      · cases p n <;> simp <;> omega
      · simp [h2 hq']; omega

end Hx
