/- The statement TwinSets: the law returns true at every input; the input reads as it did. No condition. -/
import Derived.WalkKit
import Derived.ProofKit
import Derived.OpenShut
import Derived.Carry
import Derived.Test.YtaebcalnodgpnaaHx14
set_option linter.unusedVariables false
set_option linter.unusedSimpArgs false
set_option linter.unnecessarySimpa false
namespace Go.Proofs.Ytaebcalnodgpnaa.twinSets
open Go.ChangeShapes Go.WideShapes Go.ChangeAt Go.RowKit Hx

set_option maxRecDepth 100000
theorem own : ownKnob Try.prog.godebug = none := by kernel_rfl
theorem laidOut : laidOutB Try.prog = true := by kernel_rfl

theorem in_struct {H : Type} {enc : TypeId × Value → H} {P : Program} {w : World} {n : Nat} {t : TypeId} {fs : Array Field} {v : Value} {d : DataW H} {p : List MemPlace} {r : Reach} {b : Nat} (hu : P.underlying t = some (.struct fs)) (hp : plainT P n t = true)
    (ho : Value.okWide P w r b t v) (h : DataW.Trod enc P w 0 (fun _ => true) true t v d p) : ∃ xs, RV0 w (.agg xs) v ∧ Sh P n t xs := by
  obtain ⟨cs, rfl, -⟩ := okWide_struct hu ho
  obtain ⟨fuel, hf⟩ := h
  obtain ⟨xs, hr, h1, hs⟩ := in_cells n t hp fuel _ _ hf
  refine ⟨xs, RV.agg _ xs cs (by rw [hr.1]; simp [Value.cells]) (fun i x hx => (h1 x (List.mem_of_getElem? hx)).1) (fun i x v hx hv => hr.2 i x v hx (by simpa [Value.cells] using hv)), hs⟩

theorem sh_piece {n : Nat} {xs : List AV} (h : Sh Try.prog (n + 2) 112 xs) : ∃ x : Piece, Rp.rp NoP 0 .nil x xs := by
  obtain ⟨xss, rfl, ha⟩ := sh_struct (n := n + 1) (P := Try.prog) Try.underlying112 h
  match xss, ha with
  | [y1, y2, y3, y4], ⟨h1, h2, h3, h4, _⟩ =>
    obtain ⟨x1, h1⟩ := sh_u8 Try.underlying5 h1
    obtain ⟨x2, h2⟩ := sh_u8 Try.underlying5 h2
    obtain ⟨x3, h3⟩ := sh_u8 Try.underlying5 h3
    obtain ⟨x4, h4⟩ := sh_list (α := UInt8) Try.underlying24 (by kernel_rfl) (fun ys hy => sh_u8 Try.underlying5 hy) h4
    exact ⟨(x1, x2, x3, x4), _, _, by simp, h1, _, _, rfl, h2, _, _, rfl, h3, h4⟩
theorem sh_two {n : Nat} {xs : List AV} (h : Sh Try.prog (n + 1) 116 xs) : ∃ x : UInt8 × UInt8, Rp.rp NoP 0 .nil x xs := by
  obtain ⟨xss, rfl, hl, hy⟩ := sh_array (n := n) (P := Try.prog) Try.underlying116 h
  match xss, hl with
  | [y1, y2], _ =>
    obtain ⟨x1, h1⟩ := sh_u8 Try.underlying5 (hy y1 (by simp))
    obtain ⟨x2, h2⟩ := sh_u8 Try.underlying5 (hy y2 (by simp))
    exact ⟨(x1, x2), _, _, by simp, h1, h2⟩
theorem sh_draft {n : Nat} {xs : List AV} (h : Sh Try.prog (n + 4) 26 xs) : ∃ x : DraftM, Rp.rp NoP 0 .nil x xs := by
  obtain ⟨xss, rfl, ha⟩ := sh_struct (n := n + 3) (P := Try.prog) Try.underlying26 h
  match xss, ha with
  | [y1, y2, y3, y4, y5], ⟨h1, h2, h3, h4, h5, _⟩ =>
    obtain ⟨x1, h1⟩ := sh_u8 Try.underlying5 h1
    obtain ⟨x2, h2⟩ := sh_list (α := Piece) Try.underlying22 (by kernel_rfl) (fun ys hy => sh_piece hy) h2
    obtain ⟨x3, h3⟩ := sh_list (α := UInt8 × UInt8) Try.underlying23 (by kernel_rfl) (fun ys hy => sh_two hy) h3
    obtain ⟨x4, h4⟩ := sh_list (α := UInt8) Try.underlying24 (by kernel_rfl) (fun ys hy => sh_u8 Try.underlying5 hy) h4
    obtain ⟨x5, h5⟩ := sh_list (α := UInt8) Try.underlying24 (by kernel_rfl) (fun ys hy => sh_u8 Try.underlying5 hy) h5
    exact ⟨(x1, x2, x3, x4, x5), _, _, by simp, h1, _, _, rfl, h2, _, _, rfl, h3, _, _, rfl, h4, h5⟩
theorem sh_five {n : Nat} {xs : List AV} (h : Sh Try.prog (n + 2) 32 xs) : ∃ vs : List UInt8, vs.length = 5 ∧ xs = vs.map u8v := by
  obtain ⟨xss, rfl, ha⟩ := sh_struct (n := n + 1) (P := Try.prog) Try.underlying32 h
  match xss, ha with
  | [y1], ⟨h1, _⟩ =>
    obtain ⟨yss, rfl, hl, hy⟩ := sh_array Try.underlying30 h1
    match yss, hl with
    | [z1, z2, z3, z4, z5], _ =>
      obtain ⟨x1, h1⟩ := sh_u8 Try.underlying5 (hy z1 (by simp))
      obtain ⟨x2, h2⟩ := sh_u8 Try.underlying5 (hy z2 (by simp))
      obtain ⟨x3, h3⟩ := sh_u8 Try.underlying5 (hy z3 (by simp))
      obtain ⟨x4, h4⟩ := sh_u8 Try.underlying5 (hy z4 (by simp))
      obtain ⟨x5, h5⟩ := sh_u8 Try.underlying5 (hy z5 (by simp))
      rw [rp_u8.1 h1, rp_u8.1 h2, rp_u8.1 h3, rp_u8.1 h4, rp_u8.1 h5]
      exact ⟨[x1, x2, x3, x4, x5], rfl, rfl⟩
theorem walk {w : World} {v1 v2 : Value} {a1 a2 : List AV} {kk : Int} (r1 : RV0 w (.agg a1) v1) (r2 : RV0 w (.agg a2) v2) (s1 : Sh Try.prog 8 26 a1) (s2 : Sh Try.prog 8 32 a2) (hk : 0 ≤ kk ∧ kk < 256) :
    Calls Try.prog 8 #[v1, v2, .int .u8 kk] w fun e w' => e = .returned (.bool true) ∧ Below w.heap.size w w' := by
  obtain ⟨x1, h1⟩ := sh_draft (n := 4) s1
  obtain ⟨vs, hv, rfl⟩ := sh_five (n := 6) s2
  obtain ⟨vv, rfl⟩ : ∃ vv : Nat, kk = (vv : Int) := Int.eq_ofNat_of_zero_le hk.1
  obtain ⟨g', h⟩ := TwinSets_call (u1 := .agg a1) (vv := vv) ⟨_, rfl, h1⟩ hv (by omega)
  obtain ⟨n, h⟩ := I_sem h
  refine law_of_sem (vs := [v1, v2, .int .u8 (vv : Int)]) Gen.cfg1Ok h ⟨rfl, fun i x v hx hv => ?_⟩ (fun gl sz rows h => by cases h)
  match i, hx, hv with
  | 0, hx, hv => injection hx with hx; injection hv with hv; subst hx; subst hv; exact r1
  | 1, hx, hv => injection hx with hx; injection hv with hv; subst hx; subst hv; exact r2
  | 2, hx, hv => injection hx with hx; injection hv with hv; subst hx; subst hv; exact RV.int _ _ _
  | i + 3, hx, hv => simp at hx

theorem lifted (os : Os) (started : os.Started) (H : Type) (enc : TypeId × Value → H) :
    ReturnsInHanded {} Try.checked os 8 .any (Rows.twinSetsSpec.pre6 enc Try.prog Try.f8 Rows.twinSetsRow.domain false) (Rows.twinSetsSpec.post enc Try.prog Try.f8 false true false false) := by
  refine returnsInHanded_of_change (C := Try.checked) own started (by kernel_rfl) Try.func8
    (ChangeSpec.witness6 (enc := enc) (C := Try.checked) false ⟨#[], #[.agg #[.int .u8 0, .slice none 0 0, .slice none 0 0, .slice none 0 0, .slice none 0 0], .agg #[.int .u8 0, .int .u8 0, .int .u8 0, .int .u8 0, .int .u8 0], .int .u8 0], []⟩ 8 (by kernel_rfl) (by kernel_rfl) (by kernel_rfl) (by kernel_rfl)) ?_
  intro W base args ds gs before hval0 hW hcnd _
  have hval : ∀ (j : Nat) t v, Try.f8.params[j]? = some t → args[j]? = some v → Value.okWide Try.prog W .any base t v := hval0
  have hW' := hW
  obtain ⟨p, q, hA0, hV, rfl, hfz, hnd⟩ := hW
  have hA : DataW.TrodAll enc Try.prog W 0 (fun _ => true) true Try.f8.params.toList args.toList ds p := hA0
  rw [Try.params8] at hA hval
  obtain ⟨v1, vs1, d1, ds1, p1, q1, e1, rfl, rfl, t1, hA⟩ := trodAll_cons hA
  obtain ⟨v2, vs2, d2, ds2, p2, q2, rfl, rfl, rfl, t2, hA⟩ := trodAll_cons hA
  obtain ⟨v3, vs3, d3, ds3, p3, q3, rfl, rfl, rfl, t3, hA⟩ := trodAll_cons hA
  obtain ⟨rfl, rfl, rfl⟩ := trodAll_nil hA
  obtain ⟨rfl, rfl⟩ := trodVars_none hV
  have e1 : args = #[v1, v2, v3] := by cases args; simp_all
  subst e1
  clear hA0 hval0
  simp only [List.append_nil] at hW'
  have hlt : ∀ x ∈ p1 ++ (p2 ++ p3), x.block < W.heap.size := fun x hx => by simpa using hW'.lt x hx
  obtain ⟨a1, r1, s1⟩ := in_struct (n := 8) Try.underlying26 (by kernel_rfl) (hval 0 26 v1 rfl rfl) t1
  obtain ⟨a2, r2, s2⟩ := in_struct (n := 8) Try.underlying32 (by kernel_rfl) (hval 1 32 v2 rfl rfl) t2
  obtain ⟨kk, rfl, rfl, rfl, w3⟩ := open_int Try.underlying5 (hval 2 5 v3 rfl rfl) t3
  have hk : 0 ≤ kk ∧ kk < 256 := by
    have hw := w3
    simp only [Lit.wf, IntKind.min, IntKind.max, IntKind.signed, IntKind.bits, Bool.and_eq_true, decide_eq_true_eq] at hw
    have h1 : 0 ≤ kk := by simpa using hw.1
    have h2 : kk ≤ 255 := by simpa using hw.2
    omega
  refine (walk r1 r2 s1 s2 hk).mono fun e W' ⟨he, hg⟩ => ?_
  subst he
  have b1 := Below.trod laidOut (by kernel_rfl) (of_decide_eq_true (by kernel_rfl)) t1 hg (fun x hx => hlt x (by simp [hx]))
  have b2 := Below.trod laidOut (by kernel_rfl) (of_decide_eq_true (by kernel_rfl)) t2 hg (fun x hx => hlt x (by simp [hx]))
  have b3 := Below.trod laidOut (by kernel_rfl) (of_decide_eq_true (by kernel_rfl)) t3 hg (fun x hx => by cases hx)
  refine ⟨_, rfl, [d1, d2, _], [], p1 ++ (p2 ++ []), [], p1 ++ (p2 ++ []), [], hW', trodAll_cons_mk (shut_bool Try.underlying4 _) trodAll_mk0, ?_, rfl, hg.frame _, fun h => by cases h⟩
  exact trodAll_cons_mk b1 (trodAll_cons_mk b2 (trodAll_mk1 b3))

theorem over : Rows.twinSetsRow.holds Try.pinned (OpenSpec.ofChange Rows.twinSetsSpec) :=
  OpenClaim.holds_of_wide 8 Try.f8 rfl rfl rfl rfl rfl rfl rfl ⟨rfl, rfl, rfl, rfl, rfl⟩ rfl rfl rfl rfl rfl (by kernel_rfl) Try.func8 (by kernel_rfl)
    (of_decide_eq_true (by kernel_rfl)) (by unfold Func.isWrapper; first | (rw [if_pos (by decide +kernel)]; kernel_rfl) | (rw [if_neg (by decide +kernel)]; exact ⟨rfl, rfl⟩))
    (fun os started H enc _ => lifted os started H enc)

/-- ████ THE STATEMENT ████ -/
theorem proved : Rows.TwinSetsSaid :=
  over
#print axioms proved
end Go.Proofs.Ytaebcalnodgpnaa.twinSets
