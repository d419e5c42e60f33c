/- The statement ConditionChecks: the law returns true at every input; the input reads as it did. No condition. -/
import Derived.WalkKit
import Derived.ProofKit
import Derived.OpenShut
import Derived.Carry
import Derived.Test.YtkbieohddgjioaaHx14
set_option linter.unusedVariables false
set_option linter.unusedSimpArgs false
set_option linter.unnecessarySimpa false
namespace Go.Proofs.Ytkbieohddgjioaa.conditionChecks
open Go.ChangeShapes Go.WideShapes Go.ChangeAt Go.RowKit Hx

set_option maxRecDepth 100000
theorem own : ownKnob Try.prog.godebug = none := by kernel_rfl
theorem laidOut : laidOutB Try.prog = true := by kernel_rfl

theorem in_struct {H : Type} {enc : TypeId × Value → H} {P : Program} {w : World} {n : Nat} {t : TypeId} {fs : Array Field} {v : Value} {d : DataW H} {p : List MemPlace} {r : Reach} {b : Nat} (hu : P.underlying t = some (.struct fs)) (hp : Hx.mN P n t = true)
    (ho : Value.okWide P w r b t v) (h : DataW.Trod enc P w 0 (fun _ => true) true t v d p) : ∃ xs, RV0 w (.agg xs) v ∧ Sh P n t xs := by
  obtain ⟨cs, rfl, -⟩ := okWide_struct hu ho
  obtain ⟨fuel, hf⟩ := h
  obtain ⟨xs, hr, h1, hs⟩ := Hx.ub n t hp fuel _ _ hf
  refine ⟨xs, RV.agg _ xs cs (by rw [hr.1]; simp [Value.cells]) (fun i x hx => (h1 x (List.mem_of_getElem? hx)).1) (fun i x v hx hv => hr.2 i x v hx (by simpa [Value.cells] using hv)), hs⟩
theorem sh_piece {n : Nat} {xs : List AV} (h : Sh Try.prog (n + 2) 84 xs) : ∃ x : Hx.wX, Rp.rp NoP 0 .nil x xs := by
  obtain ⟨xss, rfl, ha⟩ := Hx.mh (n := n + 1) (P := Try.prog) Try.underlying84 h
  match xss, ha with
  | [y1, y2, y3], ⟨h1, h2, h3, _⟩ =>
    obtain ⟨x1, h1⟩ := Hx.gQ Try.underlying5 h1
    obtain ⟨x2, h2⟩ := Hx.gQ Try.underlying5 h2
    obtain ⟨x3, h3⟩ := Hx.rg (α := UInt8) Try.underlying23 (by kernel_rfl) (fun ys hy => Hx.gQ Try.underlying5 hy) h3
    exact ⟨(x1, x2, x3), _, _, by simp, h1, _, _, rfl, h2, h3⟩
theorem sh_draft {n : Nat} {xs : List AV} (h : Sh Try.prog (n + 4) 25 xs) : ∃ x : Hx.pN, Rp.rp NoP 0 .nil x xs := by
  obtain ⟨xss, rfl, ha⟩ := Hx.mh (n := n + 3) (P := Try.prog) Try.underlying25 h
  match xss, ha with
  | [y1, y2, y3], ⟨h1, h2, h3, _⟩ =>
    obtain ⟨x1, h1⟩ := Hx.gQ Try.underlying5 h1
    obtain ⟨x2, h2⟩ := Hx.rg (α := Hx.wX) Try.underlying22 (by kernel_rfl) (fun ys hy => sh_piece hy) h2
    obtain ⟨x3, h3⟩ := Hx.rg (α := UInt8) Try.underlying23 (by kernel_rfl) (fun ys hy => Hx.gQ Try.underlying5 hy) h3
    exact ⟨(x1, x2, x3), _, _, by simp, h1, _, _, rfl, h2, h3⟩
theorem in_array {H : Type} {enc : TypeId × Value → H} {P : Program} {w : World} {n m : Nat} {t et : TypeId} {v : Value} {d : DataW H} {p : List MemPlace} {r : Reach} {b : Nat} (hu : P.underlying t = some (.array m et)) (hp : Hx.mN P n t = true)
    (ho : Value.okWide P w r b t v) (h : DataW.Trod enc P w 0 (fun _ => true) true t v d p) : ∃ xs, RV0 w (.agg xs) v ∧ Sh P n t xs := by
  have hcs : ∃ cs, v = .agg cs := by
    simp only [Value.okWide, hu] at ho
    obtain ⟨cs, h1, _⟩ := ho
    exact ⟨cs, h1⟩
  obtain ⟨cs, rfl⟩ := hcs
  obtain ⟨fuel, hf⟩ := h
  obtain ⟨xs, hr, h1, hs⟩ := Hx.ub n t hp fuel _ _ hf
  refine ⟨xs, RV.agg _ xs cs (by rw [hr.1]; simp [Value.cells]) (fun i x hx => (h1 x (List.mem_of_getElem? hx)).1) (fun i x v hx hv => hr.2 i x v hx (by simpa [Value.cells] using hv)), hs⟩
theorem sh_arr8 {n : Nat} {xs : List AV} (h : Sh Try.prog (n + 2) 28 xs) : ∃ vs : List UInt8, vs.length = 8 ∧ xs = vs.map u8v := by
  obtain ⟨yss, rfl, hl, hy⟩ := Hx.zH Try.underlying28 h
  match yss, hl with
  | [z1, z2, z3, z4, z5, z6, z7, z8], _ =>
    obtain ⟨x1, h1⟩ := Hx.gQ Try.underlying5 (hy z1 (by simp))
    obtain ⟨x2, h2⟩ := Hx.gQ Try.underlying5 (hy z2 (by simp))
    obtain ⟨x3, h3⟩ := Hx.gQ Try.underlying5 (hy z3 (by simp))
    obtain ⟨x4, h4⟩ := Hx.gQ Try.underlying5 (hy z4 (by simp))
    obtain ⟨x5, h5⟩ := Hx.gQ Try.underlying5 (hy z5 (by simp))
    obtain ⟨x6, h6⟩ := Hx.gQ Try.underlying5 (hy z6 (by simp))
    obtain ⟨x7, h7⟩ := Hx.gQ Try.underlying5 (hy z7 (by simp))
    obtain ⟨x8, h8⟩ := Hx.gQ Try.underlying5 (hy z8 (by simp))
    rw [Hx.dc.1 h1, Hx.dc.1 h2, Hx.dc.1 h3, Hx.dc.1 h4, Hx.dc.1 h5, Hx.dc.1 h6, Hx.dc.1 h7, Hx.dc.1 h8]
    exact ⟨[x1, x2, x3, x4, x5, x6, x7, x8], rfl, rfl⟩
theorem bend13_of {x : UInt8 × UInt8 × Int} {xs : List AV} (h : Rp.rp NoP 0 .nil x xs) : ∃ (p q : Nat) (z : Int), p < 256 ∧ q < 256 ∧ xs = [.int .u8 (p : Int), .int .u8 (q : Int), .int .i64 z] := by
  obtain ⟨a, b, rfl, h1, h2⟩ := Hx.pj.1 h
  obtain ⟨c, e, rfl, h3, h4⟩ := Hx.pj.1 h2
  have l1 : x.1.toNat < 256 := x.1.toNat_lt
  have l2 : x.2.1.toNat < 256 := x.2.1.toNat_lt
  exact ⟨x.1.toNat, x.2.1.toNat, x.2.2, l1, l2, by rw [Hx.dc.1 h1, Hx.dc.1 h3, Hx.bj.1 h4]; rfl⟩
theorem sh_bend13 {n : Nat} {xs : List AV} (h : Sh Try.prog (n + 1) 30 xs) : ∃ x : UInt8 × UInt8 × Int, Rp.rp NoP 0 .nil x xs := by
  obtain ⟨xss, rfl, ha⟩ := Hx.mh (n := n) (P := Try.prog) Try.underlying30 h
  match xss, ha with
  | [y1, y2, y3], ⟨h1, h2, h3, _⟩ =>
    obtain ⟨x1, h1⟩ := Hx.gQ Try.underlying5 h1
    obtain ⟨x2, h2⟩ := Hx.gQ Try.underlying5 h2
    obtain ⟨x3, h3⟩ := Hx.rS Try.underlying3 h3
    exact ⟨(x1, x2, x3), _, _, by simp, h1, _, _, rfl, h2, h3⟩
theorem sh_bend {n : Nat} {xs : List AV} (h : Sh Try.prog (n + 1) 27 xs) : ∃ x : Hx.i4, Rp.rp NoP 0 .nil x xs := by
  obtain ⟨xss, rfl, ha⟩ := Hx.mh (n := n) (P := Try.prog) Try.underlying27 h
  match xss, ha with
  | [y1, y2, y3, y4], ⟨h1, h2, h3, h4, _⟩ =>
    obtain ⟨x1, h1⟩ := Hx.gQ Try.underlying5 h1
    obtain ⟨x2, h2⟩ := Hx.gQ Try.underlying5 h2
    obtain ⟨x3, h3⟩ := Hx.gQ Try.underlying5 h3
    obtain ⟨x4, h4⟩ := Hx.rS Try.underlying3 h4
    exact ⟨(x1, x2, x3, x4), _, _, by simp, h1, _, _, rfl, h2, _, _, rfl, h3, h4⟩
theorem sh_bends {n : Nat} {xs : List AV} (h : Sh Try.prog (n + 2) 31 xs) : ∃ c0 c1 : Nat × Nat × Int, (c0.1 < 256 ∧ c0.2.1 < 256) ∧ (c1.1 < 256 ∧ c1.2.1 < 256) ∧ xs = cB c0 ++ cB c1 := by
  obtain ⟨yss, rfl, hl, hy⟩ := Hx.zH Try.underlying31 h
  match yss, hl with
  | [z1, z2], _ =>
    obtain ⟨x1, h1⟩ := sh_bend13 (hy z1 (by simp))
    obtain ⟨x2, h2⟩ := sh_bend13 (hy z2 (by simp))
    obtain ⟨p, q, z, hp, hq, e1⟩ := bend13_of h1
    obtain ⟨p', q', z', hp', hq', e2⟩ := bend13_of h2
    exact ⟨(p, q, z), (p', q', z'), ⟨hp, hq⟩, ⟨hp', hq'⟩, by rw [e1, e2]; rfl⟩
theorem sh_ints {n : Nat} {xs : List AV} (h : Sh Try.prog (n + 2) 33 xs) : ∃ (x : AV) (l : List Int), xs = [x] ∧ SlR NoP 0 .nil l x ∧ Raw x := by
  have hraw : ∃ x, xs = [x] ∧ Raw x := by
    have hs := h
    unfold Sh at hs
    rw [Try.underlying33] at hs
    rcases hs with rfl | ⟨rows, rfl, -, -⟩
    · exact ⟨_, rfl, .inl rfl⟩
    · exact ⟨_, rfl, .inr ⟨rows, rfl⟩⟩
  obtain ⟨x, rfl, hx⟩ := hraw
  obtain ⟨l, hl⟩ := Hx.rg (α := Int) Try.underlying33 (by kernel_rfl) (fun ys hy => Hx.rS Try.underlying3 hy) h
  obtain ⟨_, e, hl⟩ := Hx.eE.1 hl
  injection e with e; subst e
  exact ⟨x, l, rfl, hl, hx⟩
theorem sh_split {n : Nat} {xs : List AV} (h : Sh Try.prog (n + 1) 56 xs) : ∃ x : Sp, Rp.rp NoP 0 .nil x xs := by
  obtain ⟨xss, rfl, ha⟩ := Hx.mh (n := n) (P := Try.prog) Try.underlying56 h
  match xss, ha with
  | [y1, y2, y3], ⟨h1, h2, h3, _⟩ =>
    obtain ⟨x1, h1⟩ := Hx.rS Try.underlying3 h1
    obtain ⟨x2, h2⟩ := Hx.rS Try.underlying3 h2
    obtain ⟨x3, h3⟩ := Hx.rS Try.underlying3 h3
    exact ⟨(x1, x2, x3), _, _, by simp, h1, _, _, rfl, h2, h3⟩
theorem sh_splits {n : Nat} {xs : List AV} (h : Sh Try.prog (n + 2) 32 xs) : ∃ (x : AV) (l : List Sp), xs = [x] ∧ SlR NoP 0 .nil l x ∧ Hx.DY x := by
  have hraw : ∃ x, xs = [x] ∧ Hx.DY x := by
    have hs := h
    unfold Sh at hs
    rw [Try.underlying32] at hs
    rcases hs with rfl | ⟨rows, rfl, -, -⟩
    · exact ⟨_, rfl, .inl rfl⟩
    · exact ⟨_, rfl, .inr ⟨rows, rfl⟩⟩
  obtain ⟨x, rfl, hx⟩ := hraw
  obtain ⟨l, hl⟩ := Hx.rg (α := Sp) Try.underlying32 (by kernel_rfl) (fun ys hy => sh_split hy) h
  obtain ⟨_, e, hl⟩ := Hx.eE.1 hl
  injection e with e; subst e
  exact ⟨x, l, rfl, hl, hx⟩
theorem in_slice {H : Type} {enc : TypeId × Value → H} {w : World} {n : Nat} {t et : TypeId} {v : Value} {d : DataW H} {p : List MemPlace} {r : Reach} {b : Nat} (hu : Try.prog.underlying t = some (.slice et)) (hp : Hx.mN Try.prog n t = true) (ho : Value.okWide Try.prog w r b t v) (h : DataW.Trod enc Try.prog w 0 (fun _ => true) true t v d p) :
    ∃ xs, Sh Try.prog n t xs ∧ ∀ x, xs = [x] → RV0 w x v := by
  obtain ⟨a, len, cap, rfl⟩ := okWide_slice hu ho
  obtain ⟨fuel, hf⟩ := h
  obtain ⟨xs, hr, h1, hs⟩ := Hx.ub n t hp fuel _ _ hf
  exact ⟨xs, hs, fun x e => hr.2 0 x _ (by rw [e]; rfl) rfl⟩
theorem walk {w : World} {v1 v2 v3 v4 v5 v6 : Value} {a1 a2 a3 a4 a5 a6 : List AV} (r1 : RV0 w (.agg a1) v1) (s1 : Sh Try.prog 8 25 a1) (r2 : RV0 w (.agg a2) v2) (s2 : Sh Try.prog 8 27 a2) (r3 : RV0 w (.agg a3) v3) (s3 : Sh Try.prog 8 28 a3) (r4 : RV0 w (.agg a4) v4) (s4 : Sh Try.prog 8 31 a4) (s5 : Sh Try.prog 8 32 a5) (r5 : ∀ x, a5 = [x] → RV0 w x v5) (s6 : Sh Try.prog 8 33 a6) (r6 : ∀ x, a6 = [x] → RV0 w x v6) :
    Calls Try.prog 3 #[v1, v2, v3, v4, v5, v6] w fun e w' => e = .returned (.bool true) ∧ Below w.heap.size w w' := by
  obtain ⟨x1, h1⟩ := sh_draft (n := 4) s1
  obtain ⟨x2, h2⟩ := sh_bend (n := 7) s2
  obtain ⟨ls, hl, rfl⟩ := sh_arr8 (n := 6) s3
  obtain ⟨c0, c1, hc0, hc1, rfl⟩ := sh_bends (n := 6) s4
  obtain ⟨raw, R, rfl, hR, hRr⟩ := sh_splits (n := 6) s5
  obtain ⟨odd, O, rfl, hO, hOr⟩ := sh_ints (n := 6) s6
  obtain ⟨g', h⟩ := Hx.nG h1 h2 hl hc0 hc1 hR hRr hO hOr
  obtain ⟨n, h⟩ := Hx.IR h
  refine Hx.At (vs := [v1, v2, v3, v4, v5, v6]) Gen.cfg1Ok h ⟨rfl, fun i x v hx hv => ?_⟩ (fun gl sz rows h => by cases h)
  match i, hx, hv with
  | 0, hx, hv => injection hx with hx; injection hv with hv; subst hx; subst hv; exact r1
  | 1, hx, hv => injection hx with hx; injection hv with hv; subst hx; subst hv; exact r2
  | 2, hx, hv => injection hx with hx; injection hv with hv; subst hx; subst hv; exact r3
  | 3, hx, hv => injection hx with hx; injection hv with hv; subst hx; subst hv; exact r4
  | 4, hx, hv => injection hx with hx; injection hv with hv; subst hx; subst hv; exact r5 _ rfl
  | 5, hx, hv => injection hx with hx; injection hv with hv; subst hx; subst hv; exact r6 _ rfl
  | i + 6, hx, hv => simp at hx

theorem lifted (os : Os) (started : os.Started) (H : Type) (enc : TypeId × Value → H) :
    ReturnsInHanded {} Try.checked os 3 .any (Rows.conditionChecksSpec.pre6 enc Try.prog Try.f3 Rows.conditionChecksRow.domain false) (Rows.conditionChecksSpec.post enc Try.prog Try.f3 false true false false) := by
  refine returnsInHanded_of_change (C := Try.checked) own started (by kernel_rfl) Try.func3
    (ChangeSpec.witness6 (enc := enc) (C := Try.checked) false ⟨#[], #[.agg #[.int .u8 0, .slice none 0 0, .slice none 0 0], .agg #[.int .u8 0, .int .u8 0, .int .u8 0, .int .i64 0], .agg #[.int .u8 0, .int .u8 0, .int .u8 0, .int .u8 0, .int .u8 0, .int .u8 0, .int .u8 0, .int .u8 0], .agg #[.int .u8 0, .int .u8 0, .int .i64 0, .int .u8 0, .int .u8 0, .int .i64 0], .slice none 0 0, .slice none 0 0], []⟩ 8 (by kernel_rfl) (by kernel_rfl) (by kernel_rfl) (by kernel_rfl)) ?_
  intro W base args ds gs before hval0 hW hcnd _
  have hval : ∀ (j : Nat) t v, Try.f3.params[j]? = some t → args[j]? = some v → Value.okWide Try.prog W .any base t v := hval0
  have hW' := hW
  obtain ⟨p, q, hA0, hV, rfl, hfz, hnd⟩ := hW
  have hA : DataW.TrodAll enc Try.prog W 0 (fun _ => true) true Try.f3.params.toList args.toList ds p := hA0
  rw [Try.params3] at hA hval
  obtain ⟨v1, vs1, d1, ds1, p1, q1, e1, rfl, rfl, t1, hA⟩ := trodAll_cons hA
  obtain ⟨v2, vs2, d2, ds2, p2, q2, rfl, rfl, rfl, t2, hA⟩ := trodAll_cons hA
  obtain ⟨v3, vs3, d3, ds3, p3, q3, rfl, rfl, rfl, t3, hA⟩ := trodAll_cons hA
  obtain ⟨v4, vs4, d4, ds4, p4, q4, rfl, rfl, rfl, t4, hA⟩ := trodAll_cons hA
  obtain ⟨v5, vs5, d5, ds5, p5, q5, rfl, rfl, rfl, t5, hA⟩ := trodAll_cons hA
  obtain ⟨v6, vs6, d6, ds6, p6, q6, rfl, rfl, rfl, t6, hA⟩ := trodAll_cons hA
  obtain ⟨rfl, rfl, rfl⟩ := trodAll_nil hA
  obtain ⟨rfl, rfl⟩ := trodVars_none hV
  have e1 : args = #[v1, v2, v3, v4, v5, v6] := by cases args; simp_all
  subst e1
  clear hA0 hval0
  simp only [List.append_nil] at hW'
  have hlt : ∀ x ∈ p1 ++ (p2 ++ (p3 ++ (p4 ++ (p5 ++ p6)))), x.block < W.heap.size := fun x hx => by simpa using hW'.lt x hx
  obtain ⟨a1, r1, s1⟩ := in_struct (n := 8) Try.underlying25 (by kernel_rfl) (hval 0 25 v1 rfl rfl) t1
  obtain ⟨a2, r2, s2⟩ := in_struct (n := 8) Try.underlying27 (by kernel_rfl) (hval 1 27 v2 rfl rfl) t2
  obtain ⟨a3, r3, s3⟩ := in_array (n := 8) Try.underlying28 (by kernel_rfl) (hval 2 28 v3 rfl rfl) t3
  obtain ⟨a4, r4, s4⟩ := in_array (n := 8) Try.underlying31 (by kernel_rfl) (hval 3 31 v4 rfl rfl) t4
  obtain ⟨a5, s5, r5⟩ := in_slice (n := 8) Try.underlying32 (by kernel_rfl) (hval 4 32 v5 rfl rfl) t5
  obtain ⟨a6, s6, r6⟩ := in_slice (n := 8) Try.underlying33 (by kernel_rfl) (hval 5 33 v6 rfl rfl) t6
  refine (walk r1 s1 r2 s2 r3 s3 r4 s4 s5 r5 s6 r6).mono fun e W' ⟨he, hg⟩ => ?_
  subst he
  have b1 := Below.trod laidOut (by kernel_rfl) (of_decide_eq_true (by kernel_rfl)) t1 hg (fun x hx => hlt x (by simp [hx]))
  have b2 := Below.trod laidOut (by kernel_rfl) (of_decide_eq_true (by kernel_rfl)) t2 hg (fun x hx => hlt x (by simp [hx]))
  have b3 := Below.trod laidOut (by kernel_rfl) (of_decide_eq_true (by kernel_rfl)) t3 hg (fun x hx => hlt x (by simp [hx]))
  have b4 := Below.trod laidOut (by kernel_rfl) (of_decide_eq_true (by kernel_rfl)) t4 hg (fun x hx => hlt x (by simp [hx]))
  have b5 := Below.trod laidOut (by kernel_rfl) (of_decide_eq_true (by kernel_rfl)) t5 hg (fun x hx => hlt x (by simp [hx]))
  have b6 := Below.trod laidOut (by kernel_rfl) (of_decide_eq_true (by kernel_rfl)) t6 hg (fun x hx => hlt x (by simp [hx]))
  refine ⟨_, rfl, [d1, d2, d3, d4, d5, d6], [], p1 ++ (p2 ++ (p3 ++ (p4 ++ (p5 ++ p6)))), [], p1 ++ (p2 ++ (p3 ++ (p4 ++ (p5 ++ p6)))), [], hW', trodAll_cons_mk (shut_bool Try.underlying4 _) trodAll_mk0, ?_, rfl, hg.frame _, fun h => by cases h⟩
  exact trodAll_cons_mk b1 (trodAll_cons_mk b2 (trodAll_cons_mk b3 (trodAll_cons_mk b4 (trodAll_cons_mk b5 (trodAll_mk1 b6)))))

theorem over : Rows.conditionChecksRow.holds Try.pinned (OpenSpec.ofChange Rows.conditionChecksSpec) :=
  OpenClaim.holds_of_wide 3 Try.f3 rfl rfl rfl rfl rfl rfl rfl ⟨rfl, rfl, rfl, rfl, rfl⟩ rfl rfl rfl rfl rfl (by kernel_rfl) Try.func3 (by kernel_rfl)
    (of_decide_eq_true (by kernel_rfl)) (by unfold Func.isWrapper; first | (rw [if_pos (by decide +kernel)]; kernel_rfl) | (rw [if_neg (by decide +kernel)]; exact ⟨rfl, rfl⟩))
    (fun os started H enc _ => lifted os started H enc)

/-- ████ THE STATEMENT ████ -/
theorem proved : Rows.ConditionChecksSaid :=
  over
#print axioms proved
end Go.Proofs.Ytkbieohddgjioaa.conditionChecks
