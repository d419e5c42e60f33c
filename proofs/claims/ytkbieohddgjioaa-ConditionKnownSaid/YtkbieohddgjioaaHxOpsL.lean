/- Numbers, lengths, the least and the greatest. -/
import Derived.Test.YtkbieohddgjioaaHxOpsK
set_option linter.unusedVariables false
set_option linter.unusedSimpArgs false
set_option linter.unnecessarySimpa false
namespace Hx
open Go

section
variable {C : Cfg} {A : Nat → Nat → Prop} {bd : Nat} {w w' : World} {γ γ' : Gm} {hg : Nat → AObj} {nx : Nat}

theorem pureV_sim {s : Sem Value} {y : AV} (h : pureV s = some y) (P : Program) (w : World) : ∃ v, s.run P w = .ok v w ∧ RV w γ A bd y v := by
  unfold pureV at h
  split at h
  · injection h with h; subst h; exact ⟨_, rfl, .int _ _ _⟩
  · injection h with h; subst h; exact ⟨_, rfl, .bool _ _⟩
  · cases h

theorem bits_small {P : Program} {op : BinOp} {k : IntKind} {m n r : Nat} (hs : small64 k m n = true)
    (h : (match op with
       | .and => some (AV.int k (.ofNat (Nat.land m n)))
       | .or => some (.int k (.ofNat (Nat.lor m n)))
       | .xor => some (.int k (.ofNat (Nat.xor m n)))
       | .andNot => some (.int k (.ofNat (Nat.xor m (Nat.land m n))))
       | _ => none) = some (.int k (.ofNat r))) : (Op.intBits op k (.ofNat m) (.ofNat n)).run P w = .ok (.int k (.ofNat r)) w := by
  have hbits : k.bits = 64 ∧ m < 2 ^ 64 ∧ n < 2 ^ 64 ∧ ∀ x : Nat, x < 2 ^ 64 → (k = .i64 → x < 2 ^ 63) → k.wrap (x : Int) = (x : Int) := by
    unfold small64 at hs
    cases k <;> simp only [Bool.and_eq_true, Nat.blt_eq, Bool.false_eq_true] at hs
    · exact ⟨rfl, by omega, by omega, fun x _ h => wrap_small x (by have := h rfl; omega)⟩
    · refine ⟨rfl, by omega, by omega, fun x h _ => ?_⟩
      rw [← wrapF_eq]
      show (Int.ofNat (x % 18446744073709551616)) = _
      rw [Nat.mod_eq_of_lt (by omega)]; rfl
  have hb63 : k = .i64 → m < 2 ^ 63 ∧ n < 2 ^ 63 := by
    intro e; subst e
    simp only [small64, Bool.and_eq_true, Nat.blt_eq] at hs
    omega
  obtain ⟨hb, hm, hn, hw⟩ := hbits
  have e1 : (BitVec.ofInt k.bits (Int.ofNat m)).toNat = m := by
    rw [hb]; simp only [Int.ofNat_eq_natCast, BitVec.ofInt_natCast, BitVec.toNat_ofNat]; exact Nat.mod_eq_of_lt hm
  have e2 : (BitVec.ofInt k.bits (Int.ofNat n)).toNat = n := by
    rw [hb]; simp only [Int.ofNat_eq_natCast, BitVec.ofInt_natCast, BitVec.toNat_ofNat]; exact Nat.mod_eq_of_lt hn
  have fin : ∀ (z : BitVec k.bits) (q : Nat), z.toNat = q → q < 2 ^ 64 → (k = .i64 → q < 2 ^ 63) → q = r →
      (Sem.pure (Value.int k (k.wrap z.toNat)) : Sem Value).run P w = .ok (.int k (.ofNat r)) w := by
    intro z q h1 h2 h3 h4
    rw [h1, hw q h2 h3, h4]; rfl
  unfold Op.intBits
  cases op <;> first | (cases h; done) | skip
  case and =>
    injection h with h; injection h with _ h; injection h with h
    exact fin _ (m &&& n) (by rw [BitVec.toNat_and, e1, e2]) (Nat.and_lt_two_pow _ hn) (fun e => Nat.and_lt_two_pow _ (hb63 e).2) h
  case or =>
    injection h with h; injection h with _ h; injection h with h
    exact fin _ (m ||| n) (by rw [BitVec.toNat_or, e1, e2]) (Nat.or_lt_two_pow hm hn) (fun e => Nat.or_lt_two_pow (hb63 e).1 (hb63 e).2) h
  case xor =>
    injection h with h; injection h with _ h; injection h with h
    exact fin _ (m ^^^ n) (by rw [BitVec.toNat_xor, e1, e2]) (Nat.xor_lt_two_pow hm hn) (fun e => Nat.xor_lt_two_pow (hb63 e).1 (hb63 e).2) h
  case andNot =>
    injection h with h; injection h with _ h; injection h with h
    have hx : ∀ (x y : BitVec k.bits), x &&& ~~~y = x ^^^ (x &&& y) := by
      intro x y
      ext i hi
      simp only [BitVec.getElem_and, BitVec.getElem_not, BitVec.getElem_xor]
      cases x[i] <;> cases y[i] <;> rfl
    exact fin _ (m ^^^ (m &&& n)) (by rw [hx, BitVec.toNat_xor, BitVec.toNat_and, e1, e2]) (Nat.xor_lt_two_pow hm (Nat.and_lt_two_pow _ hn))
      (fun e => Nat.xor_lt_two_pow (hb63 e).1 (Nat.and_lt_two_pow _ (hb63 e).2)) h

theorem intBin_sim {P : Program} {op : BinOp} {ty : TypeId} {k k' : IntKind} {a b : Int} {y : AV} (h : (intBin op).run k a k' b = some y) :
    ∃ v, (binOp op ty (.int k a) (.int k' b)).run P w = .ok v w ∧ RV w γ A bd y v := by
  have hk : ∀ {α : Type} {x : Option α} {y : α}, bif' (kindEq k k') x none = some y → k = k' ∧ x = some y := by
    intro α x y h
    rw [bif'_eq, kindEq_eq] at h
    split at h
    · rename_i h1; exact ⟨by simpa using h1, h⟩
    · cases h
  cases op
  case add | sub | mul =>
    obtain ⟨rfl, h1⟩ := hk h
    injection h1 with h1; subst h1
    refine ⟨_, by simp only [binOp, Op.intArith, ne_eq, not_true, if_false]; rfl, ?_⟩
    rw [wrapF_eq]; exact .int _ _ _
  case quo =>
    obtain ⟨rfl, h1⟩ := hk h
    clear h
    unfold quoF at h1
    simp only [binOp, ne_eq, not_true, if_false]
    split at h1
    · rename_i m n
      injection h1 with h1; subst h1
      refine ⟨_, ?_, by rw [wrapF_eq]; exact .int _ _ _⟩
      unfold Op.intDiv
      rw [if_neg (by simp only [Int.ofNat_eq_natCast]; omega)]
      rfl
    · exact pureV_sim h1 P w
  case rem =>
    obtain ⟨rfl, h1⟩ := hk h
    clear h
    unfold remF at h1
    simp only [binOp, ne_eq, not_true, if_false]
    split at h1
    · rename_i m n
      injection h1 with h1; subst h1
      refine ⟨_, ?_, .int _ _ _⟩
      unfold Op.intDiv
      rw [if_neg (by simp only [Int.ofNat_eq_natCast]; omega)]
      rfl
    · exact pureV_sim h1 P w
  case and | or | xor | andNot =>
    obtain ⟨rfl, h1⟩ := hk h
    clear h
    unfold bitsF at h1
    simp only [binOp, ne_eq, not_true, if_false]
    split at h1
    · rename_i m n
      rw [bif'_eq] at h1
      split at h1
      · rename_i hs
        have h0 := h1
        injection h1 with h1; subst h1
        exact ⟨_, bits_small hs h0, .int _ _ _⟩
      · exact pureV_sim h1 P w
    · exact pureV_sim h1 P w
  case shl =>
    change shlF k a b = some y at h
    unfold shlF at h
    simp only [binOp]
    split at h
    · rename_i m n
      injection h with h; subst h
      refine ⟨_, ?_, by rw [wrapF_eq]; exact .int _ _ _⟩
      unfold Op.shift
      rw [if_neg (by simp only [Int.ofNat_eq_natCast]; omega)]
      have : (Int.ofNat n).toNat = n := rfl
      simp only [this, Sem.run_pure]
      congr 3
    · exact pureV_sim (s := Op.shift .shl k a k' b) h P w
  case shr =>
    change shrF k a b = some y at h
    unfold shrF at h
    simp only [binOp]
    split at h
    · rename_i m n
      injection h with h; subst h
      refine ⟨_, ?_, .int _ _ _⟩
      unfold Op.shift
      rw [if_neg (by simp only [Int.ofNat_eq_natCast]; omega)]
      have : (Int.ofNat n).toNat = n := rfl
      simp only [this, Sem.run_pure]
      congr 2
      have e : (2 : Int) ^ (min n k.bits) = ((2 ^ (min n k.bits) : Nat) : Int) := by simp
      rw [e, Int.fdiv_eq_ediv_of_nonneg _ (Int.natCast_nonneg _)]
      rfl
    · exact pureV_sim (s := Op.shift .shr k a k' b) h P w
  all_goals
    obtain ⟨rfl, h1⟩ := hk h
    injection h1 with h1; subst h1
    refine ⟨_, by simp only [binOp, Op.intCmp, ne_eq, not_true, if_false]; rfl, ?_⟩
    simp only [ieqb_eq, iltb_eq, notb_eq]
  case eql => exact .bool _ _
  case neq =>
    rw [show (a != b) = !decide (a = b) from by simp [bne]; rfl]
    exact .bool _ _
  case lss => exact .bool _ _
  case leq =>
    rw [show decide (a ≤ b) = !decide (b < a) from by rw [Bool.eq_iff_iff]; simp]
    exact .bool _ _
  case gtr => exact .bool _ _
  case geq =>
    rw [show decide (a ≥ b) = !decide (a < b) from by rw [Bool.eq_iff_iff]; simp]
    exact .bool _ _

end
end Hx
