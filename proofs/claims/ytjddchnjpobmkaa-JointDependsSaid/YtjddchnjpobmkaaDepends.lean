/- The statement JointDepends: the law returns true at every input; the input reads as it did. No condition. -/
import Derived.WalkKit
import Derived.ProofKit
import Derived.OpenShut
import Derived.Carry
import Derived.Test.YtjddchnjpobmkaaHx15
set_option linter.unusedVariables false
set_option linter.unusedSimpArgs false
set_option linter.unnecessarySimpa false
namespace Go.Proofs.Ytjddchnjpobmkaa.jointDepends
open Go.ChangeShapes Go.WideShapes Go.ChangeAt Go.RowKit Hx

set_option maxRecDepth 100000
theorem own : ownKnob Try.prog.godebug = none := by kernel_rfl
theorem laidOut : laidOutB Try.prog = true := by kernel_rfl

theorem in_struct {H : Type} {enc : TypeId × Value → H} {P : Program} {w : World} {n : Nat} {t : TypeId} {fs : Array Field} {v : Value} {d : DataW H} {p : List MemPlace} {r : Reach} {b : Nat} (hu : P.underlying t = some (.struct fs)) (hp : nS P n t = true)
    (ho : Value.okWide P w r b t v) (h : DataW.Trod enc P w 0 (fun _ => true) true t v d p) : ∃ xs, RV0 w (.agg xs) v ∧ Sh P n t xs := by
  obtain ⟨cs, rfl, -⟩ := okWide_struct hu ho
  obtain ⟨fuel, hf⟩ := h
  obtain ⟨xs, hr, h1, hs⟩ := zJ n t hp fuel _ _ hf
  refine ⟨xs, RV.agg _ xs cs (by rw [hr.1]; simp [Value.cells]) (fun i x hx => (h1 x (List.mem_of_getElem? hx)).1) (fun i x v hx hv => hr.2 i x v hx (by simpa [Value.cells] using hv)), hs⟩
theorem sh_piece {n : Nat} {xs : List AV} (h : Sh Try.prog (n + 2) 107 xs) : ∃ x : xu, Rp.rp NoP 0 .nil x xs := by
  obtain ⟨xss, rfl, ha⟩ := rJ (n := n + 1) (P := Try.prog) Try.underlying107 h
  match xss, ha with
  | [y1, y2, y3], ⟨h1, h2, h3, _⟩ =>
    obtain ⟨x1, h1⟩ := sP Try.underlying5 h1
    obtain ⟨x2, h2⟩ := sP Try.underlying5 h2
    obtain ⟨x3, h3⟩ := xO (α := UInt8) Try.underlying23 (by kernel_rfl) (fun ys hy => sP Try.underlying5 hy) h3
    exact ⟨(x1, x2, x3), _, _, by simp, h1, _, _, rfl, h2, h3⟩
theorem sh_draft {n : Nat} {xs : List AV} (h : Sh Try.prog (n + 4) 25 xs) : ∃ x : sj, Rp.rp NoP 0 .nil x xs := by
  obtain ⟨xss, rfl, ha⟩ := rJ (n := n + 3) (P := Try.prog) Try.underlying25 h
  match xss, ha with
  | [y1, y2, y3], ⟨h1, h2, h3, _⟩ =>
    obtain ⟨x1, h1⟩ := sP Try.underlying5 h1
    obtain ⟨x2, h2⟩ := xO (α := xu) Try.underlying22 (by kernel_rfl) (fun ys hy => sh_piece hy) h2
    obtain ⟨x3, h3⟩ := xO (α := UInt8) Try.underlying23 (by kernel_rfl) (fun ys hy => sP Try.underlying5 hy) h3
    exact ⟨(x1, x2, x3), _, _, by simp, h1, _, _, rfl, h2, h3⟩
theorem sh_bend {n : Nat} {xs : List AV} (h : Sh Try.prog (n + 1) 27 xs) : ∃ x : jB, Rp.rp NoP 0 .nil x xs := by
  obtain ⟨xss, rfl, ha⟩ := rJ (n := n) (P := Try.prog) Try.underlying27 h
  match xss, ha with
  | [y1, y2, y3, y4], ⟨h1, h2, h3, h4, _⟩ =>
    obtain ⟨x1, h1⟩ := sP Try.underlying5 h1
    obtain ⟨x2, h2⟩ := sP Try.underlying5 h2
    obtain ⟨x3, h3⟩ := sP Try.underlying5 h3
    obtain ⟨x4, h4⟩ := H5 Try.underlying3 h4
    exact ⟨(x1, x2, x3, x4), _, _, by simp, h1, _, _, rfl, h2, _, _, rfl, h3, h4⟩
theorem in_array {H : Type} {enc : TypeId × Value → H} {P : Program} {w : World} {n m : Nat} {t e : TypeId} {v : Value} {d : DataW H} {p : List MemPlace} {r : Reach} {b : Nat} (hu : P.underlying t = some (.array m e)) (hp : nS P n t = true)
    (ho : Value.okWide P w r b t v) (h : DataW.Trod enc P w 0 (fun _ => true) true t v d p) : ∃ xs, RV0 w (.agg xs) v ∧ Sh P n t xs := by
  obtain ⟨cs, rfl, -⟩ : ∃ cs, v = .agg cs ∧ cs.size = P.cellsOf t := by
    simp only [Value.okWide, hu] at ho
    obtain ⟨cs, h1, h2, _⟩ := ho
    exact ⟨cs, h1, h2⟩
  obtain ⟨fuel, hf⟩ := h
  obtain ⟨xs, hr, h1, hs⟩ := zJ n t hp fuel _ _ hf
  refine ⟨xs, RV.agg _ xs cs (by rw [hr.1]; simp [Value.cells]) (fun i x hx => (h1 x (List.mem_of_getElem? hx)).1) (fun i x v hx hv => hr.2 i x v hx (by simpa [Value.cells] using hv)), hs⟩
theorem sh_uint {n : Nat} {xs : List AV} (h : Sh Try.prog (n + 1) 28 xs) : ∃ z : Nat, z < 18446744073709551616 ∧ xs = [.int .u64 (z : Int)] := by
  unfold Sh at h
  rw [Try.underlying28] at h
  obtain ⟨z, rfl, hz⟩ := h
  have hz : 0 ≤ z ∧ z < 18446744073709551616 := by
    simp only [Lit.wf, IntKind.min, IntKind.max, IntKind.signed, IntKind.bits, Bool.and_eq_true, decide_eq_true_eq] at hz
    have h1 : 0 ≤ z := by simpa using hz.1
    have h2 : z ≤ 18446744073709551615 := by simpa using hz.2
    omega
  exact ⟨z.toNat, by omega, by rw [Int.toNat_of_nonneg hz.1]⟩
theorem sh_arr3 {n : Nat} {xs : List AV} (h : Sh Try.prog (n + 2) 29 xs) : ∃ a b c : Nat, (a < 18446744073709551616 ∧ b < 18446744073709551616 ∧ c < 18446744073709551616) ∧ xs = [.int .u64 (a : Int), .int .u64 (b : Int), .int .u64 (c : Int)] := by
  obtain ⟨yss, rfl, hl, hy⟩ := Em Try.underlying29 h
  match yss, hl with
  | [z1, z2, z3], _ =>
    obtain ⟨a, ha, e1⟩ := sh_uint (hy z1 (by simp))
    obtain ⟨b, hb, e2⟩ := sh_uint (hy z2 (by simp))
    obtain ⟨c, hc, e3⟩ := sh_uint (hy z3 (by simp))
    rw [e1, e2, e3]
    exact ⟨a, b, c, ⟨ha, hb, hc⟩, rfl⟩
theorem walk {w : World} {v1 v2 v3 : Value} {a1 a2 a3 : List AV} (r1 : RV0 w (.agg a1) v1) (s1 : Sh Try.prog 8 25 a1) (r2 : RV0 w (.agg a2) v2) (s2 : Sh Try.prog 8 27 a2) (r3 : RV0 w (.agg a3) v3) (s3 : Sh Try.prog 8 29 a3) :
    Calls Try.prog 3 #[v1, v2, v3] w fun e w' => e = .returned (.bool true) ∧ Below w.heap.size w w' := by
  obtain ⟨x1, h1⟩ := sh_draft (n := 4) s1
  obtain ⟨x2, h2⟩ := sh_bend (n := 7) s2
  obtain ⟨p3, q3, o3, h3, rfl⟩ := sh_arr3 (n := 6) s3
  obtain ⟨g', h⟩ := rm ⟨_, rfl, h1⟩ ⟨_, rfl, h2⟩ h3
  obtain ⟨n, h⟩ := IG h
  refine AH (vs := [v1, v2, v3]) Gen.cfg1Ok h ⟨rfl, fun i x v hx hv => ?_⟩ (fun gl sz rows h => by cases h)
  match i, hx, hv with
  | 0, hx, hv => injection hx with hx; injection hv with hv; subst hx; subst hv; exact r1
  | 1, hx, hv => injection hx with hx; injection hv with hv; subst hx; subst hv; exact r2
  | 2, hx, hv => injection hx with hx; injection hv with hv; subst hx; subst hv; exact r3
  | i + 3, hx, hv => simp at hx

theorem lifted (os : Os) (started : os.Started) (H : Type) (enc : TypeId × Value → H) :
    ReturnsInHanded {} Try.checked os 3 .any (Rows.jointDependsSpec.pre6 enc Try.prog Try.f3 Rows.jointDependsRow.domain false) (Rows.jointDependsSpec.post enc Try.prog Try.f3 false true false false) := by
  refine returnsInHanded_of_change (C := Try.checked) own started (by kernel_rfl) Try.func3
    (ChangeSpec.witness6 (enc := enc) (C := Try.checked) false ⟨#[], #[.agg #[.int .u8 0, .slice none 0 0, .slice none 0 0], .agg #[.int .u8 0, .int .u8 0, .int .u8 0, .int .i64 0], .agg #[.int .u64 0, .int .u64 0, .int .u64 0]], []⟩ 8 (by kernel_rfl) (by kernel_rfl) (by kernel_rfl) (by kernel_rfl)) ?_
  intro W base args ds gs before hval0 hW hcnd _
  have hval : ∀ (j : Nat) t v, Try.f3.params[j]? = some t → args[j]? = some v → Value.okWide Try.prog W .any base t v := hval0
  have hW' := hW
  obtain ⟨p, q, hA0, hV, rfl, hfz, hnd⟩ := hW
  have hA : DataW.TrodAll enc Try.prog W 0 (fun _ => true) true Try.f3.params.toList args.toList ds p := hA0
  rw [Try.params3] at hA hval
  obtain ⟨v1, vs1, d1, ds1, p1, q1, e1, rfl, rfl, t1, hA⟩ := trodAll_cons hA
  obtain ⟨v2, vs2, d2, ds2, p2, q2, rfl, rfl, rfl, t2, hA⟩ := trodAll_cons hA
  obtain ⟨v3, vs3, d3, ds3, p3, q3, rfl, rfl, rfl, t3, hA⟩ := trodAll_cons hA
  obtain ⟨rfl, rfl, rfl⟩ := trodAll_nil hA
  obtain ⟨rfl, rfl⟩ := trodVars_none hV
  have e1 : args = #[v1, v2, v3] := by cases args; simp_all
  subst e1
  clear hA0 hval0
  simp only [List.append_nil] at hW'
  have hlt : ∀ x ∈ p1 ++ (p2 ++ p3), x.block < W.heap.size := fun x hx => by simpa using hW'.lt x hx
  obtain ⟨a1, r1, s1⟩ := in_struct (n := 8) Try.underlying25 (by kernel_rfl) (hval 0 25 v1 rfl rfl) t1
  obtain ⟨a2, r2, s2⟩ := in_struct (n := 8) Try.underlying27 (by kernel_rfl) (hval 1 27 v2 rfl rfl) t2
  obtain ⟨a3, r3, s3⟩ := in_array (n := 8) Try.underlying29 (by kernel_rfl) (hval 2 29 v3 rfl rfl) t3
  refine (walk r1 s1 r2 s2 r3 s3).mono fun e W' ⟨he, hg⟩ => ?_
  subst he
  have b1 := Below.trod laidOut (by kernel_rfl) (of_decide_eq_true (by kernel_rfl)) t1 hg (fun x hx => hlt x (by simp [hx]))
  have b2 := Below.trod laidOut (by kernel_rfl) (of_decide_eq_true (by kernel_rfl)) t2 hg (fun x hx => hlt x (by simp [hx]))
  have b3 := Below.trod laidOut (by kernel_rfl) (of_decide_eq_true (by kernel_rfl)) t3 hg (fun x hx => hlt x (by simp [hx]))
  refine ⟨_, rfl, [d1, d2, d3], [], p1 ++ (p2 ++ p3), [], p1 ++ (p2 ++ p3), [], hW', trodAll_cons_mk (shut_bool Try.underlying4 _) trodAll_mk0, ?_, rfl, hg.frame _, fun h => by cases h⟩
  exact trodAll_cons_mk b1 (trodAll_cons_mk b2 (trodAll_mk1 b3))

theorem over : Rows.jointDependsRow.holds Try.pinned (OpenSpec.ofChange Rows.jointDependsSpec) :=
  OpenClaim.holds_of_wide 3 Try.f3 rfl rfl rfl rfl rfl rfl rfl ⟨rfl, rfl, rfl, rfl, rfl⟩ rfl rfl rfl rfl rfl (by kernel_rfl) Try.func3 (by kernel_rfl)
    (of_decide_eq_true (by kernel_rfl)) (by unfold Func.isWrapper; first | (rw [if_pos (by decide +kernel)]; kernel_rfl) | (rw [if_neg (by decide +kernel)]; exact ⟨rfl, rfl⟩))
    (fun os started H enc _ => lifted os started H enc)

/-- ████ THE STATEMENT ████ -/
theorem proved : Rows.JointDependsSaid :=
  over
#print axioms proved
end Go.Proofs.Ytjddchnjpobmkaa.jointDepends
