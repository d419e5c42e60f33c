/- The statement AdjustLeast (tied card): the law returns true at every input; the input reads as it did. The variables that the statement lists are those of the program's text. No condition. -/
import Derived.Test.YtbejmpmoigmliaaDoorCards
import Derived.Test.YtbejmpmoigmliaaDoorTie
import Derived.WalkKit
import Derived.ProofKit
import Derived.LaidMore
import Derived.OpenShut
import Derived.Carry
import Derived.Stop.Joined
import Derived.Test.YtbejmpmoigmliaaDoorHx10
set_option linter.unusedVariables false
set_option linter.unusedSimpArgs false
set_option linter.unnecessarySimpa false
namespace Go.Proofs.YtbejmpmoigmliaaDoor.adjustLeast
open Go.ChangeShapes Go.WideShapes Go.ChangeAt Go.RowKit Hx

set_option maxRecDepth 100000
theorem own : ownKnob Tryd.prog.godebug = none := by kernel_rfl
theorem laidOut : laidOutB Tryd.prog = true := by kernel_rfl
def laid : List (String × DataW Unit) := [("math/bits.deBruijn32tab", Rows.laid_math_bits_deBruijn32tab), ("math/bits.deBruijn64tab", Rows.laid_math_bits_deBruijn64tab)]
theorem g64 : Tryd.prog.globalNamed "math/bits.deBruijn64tab" = some 3 := by kernel_rfl
theorem t64 : (Tryd.prog.globals[3]?).map (·.type) = some 159 := by kernel_rfl
theorem door_met (os : Os) (args : Array Value) : laidMetH Tryd.prog laid ((World.doorLaid Tryd.prog 19 os).forCall (fun _ _ => 0) ⟨#[], args, []⟩).memory :=
  laidMetH_of_parts3 (fuel := 8) (laidMet_of_run' 8 (by kernel_rfl) (by kernel_rfl)) (by kernel_rfl) (by kernel_rfl)
def tab64 : List Int := [0, 1, 56, 2, 57, 49, 28, 3, 61, 58, 42, 50, 38, 29, 17, 4, 62, 47, 59, 36, 45, 43, 51, 22, 53, 39, 33, 30, 24, 18, 12, 5, 63, 55, 48, 27, 60, 41, 37, 16, 46, 35, 44, 21, 52, 32, 23, 11, 54, 26, 40, 15, 34, 20, 31, 10, 25, 14, 19, 9, 13, 8, 7, 6]
theorem cells_u8 {enc : TypeId × Value → Unit} {P : Program} {w : World} {b : Nat} {sp : Nat → Bool} {held : Bool} {fuel : Nat} {t e : TypeId} {cs : List Value} {p : List MemPlace} {m : Nat} (tab : List Int) (hu : P.underlying t = some (.array m e)) (he : P.underlying e = some (.int .u8)) (hc : P.cellsOf e = 1)
    (h : DataW.trod enc P w b sp held fuel t cs = some (.agg (tab.map fun k => .lit (.int .u8 k)), p)) : ∀ (j : Nat) (k : Int), tab[j]? = some k → cs[j]? = some (.int .u8 k) := by
  obtain ⟨xs, n, rfl, hx, hl, hn, hel⟩ := DataW.trod_array hu h
  injection hx with hx1 hx2
  injection hx1 with hx1
  intro j k hk
  have hlen : xs.length = tab.length := by
    have := congrArg List.length hx1
    simpa using this.symm
  have hj := (List.getElem?_eq_some_iff.1 hk).1
  have h1 := hel j (by omega)
  rw [hc, Nat.mul_one] at h1
  have h2 : (xs.map (·.1))[j]? = some (.lit (.int .u8 k)) := by rw [← hx1, List.getElem?_map, hk]; rfl
  rw [List.getElem?_map] at h2
  cases hy : xs[j]? with
  | none => rw [hy] at h2; cases h2
  | some y =>
    rw [hy] at h1 h2
    obtain ⟨z, e1, e2, -⟩ := DataW.trod_int he h1
    rw [e2] at h2
    injection h2 with h2
    injection h2 with h2
    injection h2 with h2 h3
    subst h3
    have := congrArg (fun l : List Value => l[0]?) e1
    simpa using this
/-- What the condition gives: the table of math/bits. -/
theorem of_laid {w : World} (h : laidMetH Tryd.prog laid w) : ∀ gl sz rows, C0.glob gl = some (sz, rows) → RV0 w (.tptr 0 sz rows 0 0) (.pointer (some ⟨gl, 0, none⟩)) := by
  rw [MakeChecks.laidMetH_plain _ _ _ (by kernel_rfl)] at h
  obtain ⟨ps, ⟨-, -, -, -, -, -, -, -, -, -, ⟨g1, t1, cs1, f1, p1, q1, hg1, ht1, hv1, hd1, -, -⟩, -⟩, -, -⟩ := h
  obtain rfl := Option.some.inj (g64.symm.trans hg1)
  obtain rfl := Option.some.inj (t64.symm.trans ht1)
  have hcs := cells_u8 tab64 Tryd.underlying159 Tryd.underlying5 (by kernel_rfl) (show DataW.trod _ Tryd.prog w 0 _ false f1 159 cs1.toList = some (.agg (tab64.map fun k => .lit (.int .u8 k)), p1) from hd1)
  have hcell : ∀ (j : Nat) (k : Int), tab64[j]? = some k → w.cell? ⟨3, j, none⟩ = some (.int .u8 k) := fun j k hk => by
    rw [World.var?_cell hg1 hv1, ← Array.getElem?_toList]
    exact hcs j k hk
  intro gl sz rows hgl
  have hgl' : af (Nat.beq gl 3) (some (64, [tab64.map fun k => AV.int .u8 k])) none = some (sz, rows) := hgl
  rw [aa] at hgl'
  split at hgl'
  · rename_i hb
    obtain rfl := Nat.eq_of_beq_eq_true hb
    injection hgl' with hgl'
    injection hgl' with e1 e2
    subst e1 e2
    have get : ∀ (i j : Nat) (row : List AV) (x : AV), [tab64.map fun k => AV.int .u8 k][i]? = some row → row[j]? = some x → i = 0 ∧ ∃ k, tab64[j]? = some k ∧ x = .int .u8 k := fun i j row x h1 h2 => by
      cases i with
      | zero =>
        injection h1 with h1
        subst h1
        rw [List.getElem?_map] at h2
        cases hk : tab64[j]? with
        | none => rw [hk] at h2; cases h2
        | some k => rw [hk] at h2; injection h2 with h2; exact ⟨rfl, k, rfl, h2.symm⟩
      | succ i => simp at h1
    refine RV.tptr 0 0 64 _ 0 0 3 0 (fun _ j => .int .u8 ((tab64[j]?).getD 0)) (Nat.le_refl _) (nX (hcell 0 0 rfl)) (fun h => ?_) (fun h => ?_) (fun i row h1 => ?_) (fun i j row x h1 h2 => ?_) (fun i j row x h1 h2 => ?_) (fun i j row x h1 h2 => ?_) (fun row h1 x h2 => ?_)
    · exact BT 3 h
    · exact h.elim
    · cases i with
      | zero => injection h1 with h1; subst h1; rfl
      | succ i => simp at h1
    · obtain ⟨-, k, -, rfl⟩ := get i j row x h1 h2; rfl
    · obtain ⟨rfl, k, hk, rfl⟩ := get i j row x h1 h2
      rw [hk]
      show w.cell? ⟨3, 0 + 0 * 64 + j, none⟩ = _
      rw [show 0 + 0 * 64 + j = j by omega]
      exact hcell j k hk
    · obtain ⟨rfl, k, hk, rfl⟩ := get i j row x h1 h2
      rw [hk]; exact RV.int _ _ _
    · rw [List.mem_singleton.1 h1] at h2
      obtain ⟨k, -, rfl⟩ := List.mem_map.1 h2
      exact .int _ _
  · cases hgl'

theorem in_struct {H : Type} {enc : TypeId × Value → H} {P : Program} {w : World} {n : Nat} {t : TypeId} {fs : Array Field} {v : Value} {d : DataW H} {p : List MemPlace} {r : Reach} {b : Nat} (hu : P.underlying t = some (.struct fs)) (hp : kh P n t = true)
    (ho : Value.okWide P w r b t v) (h : DataW.Trod enc P w 0 (fun _ => true) true t v d p) : ∃ xs, RV0 w (.agg xs) v ∧ Sh P n t xs := by
  obtain ⟨cs, rfl, -⟩ := okWide_struct hu ho
  obtain ⟨fuel, hf⟩ := h
  obtain ⟨xs, hr, h1, hs⟩ := yV n t hp fuel _ _ hf
  refine ⟨xs, RV.agg _ xs cs (by rw [hr.1]; simp [Value.cells]) (fun i x hx => (h1 x (List.mem_of_getElem? hx)).1) (fun i x v hx hv => hr.2 i x v hx (by simpa [Value.cells] using hv)), hs⟩
theorem sh_draft7 {n : Nat} {xs : List AV} (h : Sh Tryd.prog (n + 4) 24 xs) : ∃ x : tl, Rp.rp NoP 0 .nil x xs := by
  obtain ⟨xss, rfl, ha⟩ := wZ (n := n + 3) (P := Tryd.prog) Tryd.underlying24 h
  match xss, ha with
  | [y1, y2], ⟨h1, h2, _⟩ =>
    obtain ⟨x1, h1⟩ := uz (α := UInt8) Tryd.underlying22 (by kernel_rfl) (fun ys hy => By Tryd.underlying5 hy) h1
    obtain ⟨x2, h2⟩ := uz (α := UInt8) Tryd.underlying22 (by kernel_rfl) (fun ys hy => By Tryd.underlying5 hy) h2
    exact ⟨(x1, x2), _, _, by simp, h1, h2⟩
theorem walk {w : World} {v1 : Value} {a1 : List AV} {z2 : Int} (hgl : ∀ gl sz rows, C0.glob gl = some (sz, rows) → RV0 w (.tptr 0 sz rows 0 0) (.pointer (some ⟨gl, 0, none⟩))) (r1 : RV0 w (.agg a1) v1) (s1 : Sh Tryd.prog 8 24 a1) (h2 : 0 ≤ z2 ∧ z2 < 256) :
    Calls Tryd.prog 3 #[v1, .int .u8 z2] w fun e w' => e = .returned (.bool true) ∧ Below w.heap.size w w' := by
  obtain ⟨x1, h1⟩ := sh_draft7 (n := 4) s1
  obtain ⟨n2, rfl⟩ : ∃ n : Nat, z2 = (n : Int) := Int.eq_ofNat_of_zero_le h2.1
  obtain ⟨g', h⟩ := mr h1 (by omega : n2 < 256)
  obtain ⟨n, h⟩ := Bp h
  refine tg (vs := [v1, .int .u8 (n2 : Int)]) Gen.cfg1Ok h ⟨rfl, fun i x v hx hv => ?_⟩ hgl
  match i, hx, hv with
  | 0, hx, hv => injection hx with hx; injection hv with hv; subst hx; subst hv; exact r1
  | 1, hx, hv => injection hx with hx; injection hv with hv; subst hx; subst hv; exact RV.int _ _ _
  | i + 2, hx, hv => simp at hx

theorem lifted (os : Os) (started : os.Started) (H : Type) (enc : TypeId × Value → H) :
    ReturnsInHanded {} Tryd.checked os 3 .any (fun w args => (Rows.adjustLeastSpec.pre enc Tryd.prog Tryd.f3 [] false w args ∧ laidMetH Tryd.prog laid w) ∧ sizedMet enc Tryd.prog Tryd.f3 (OpenSpec.ofChange Rows.adjustLeastSpec) false w args)
      (Rows.adjustLeastSpec.post enc Tryd.prog Tryd.f3 false true false false) := by
  refine returnsInHanded_of_change_and (C := Tryd.checked) (X := fun w _ => laidMetH Tryd.prog laid w) (fun _ _ _ hh h => h.of_heap hh) own started (by kernel_rfl) Tryd.func3
    (ChangeSpec.witness_shaped (enc := enc) (C := Tryd.checked) (os := os) (X := fun w _ => laidMetH Tryd.prog laid w) false (World.doorLaid Tryd.prog 19 os) #[.agg #[.slice none 0 0, .slice none 0 0], .int .u8 0] 8 rfl (World.shaped_of_RefB (by kernel_rfl) (by kernel_rfl)) (by kernel_rfl) (by kernel_rfl) (by kernel_rfl) (door_met os _)) ?_
  intro W base args ds gs before hval0 hW _ _ hL _
  have hval : ∀ (j : Nat) t v, Tryd.f3.params[j]? = some t → args[j]? = some v → Value.okWide Tryd.prog W .any base t v := hval0
  have hW' := hW
  obtain ⟨p, q, hA0, hV, rfl, hfz, hnd⟩ := hW
  have hA : DataW.TrodAll enc Tryd.prog W 0 (fun _ => true) true Tryd.f3.params.toList args.toList ds p := hA0
  rw [Tryd.params3] at hA hval
  obtain ⟨v1, vs1, d1, ds1, p1, q1, e1, rfl, rfl, t1, hA⟩ := trodAll_cons hA
  obtain ⟨v2, vs2, d2, ds2, p2, q2, rfl, rfl, rfl, t2, hA⟩ := trodAll_cons hA
  obtain ⟨rfl, rfl, rfl⟩ := trodAll_nil hA
  obtain ⟨rfl, rfl⟩ := trodVars_none hV
  have e1 : args = #[v1, v2] := by cases args; simp_all
  subst e1
  clear hA0 hval0
  simp only [List.append_nil] at hW'
  have hlt : ∀ x ∈ p1 ++ p2, x.block < W.heap.size := fun x hx => by simpa using hW'.lt x hx
  obtain ⟨a1, r1, s1⟩ := in_struct (n := 8) Tryd.underlying24 (by kernel_rfl) (hval 0 24 v1 rfl rfl) t1
  obtain ⟨z2, rfl, rfl, rfl, w2⟩ := open_int Tryd.underlying5 (hval 1 5 v2 rfl rfl) t2
  have hk2 : 0 ≤ z2 ∧ z2 < 256 := by
    have hw := w2
    simp only [Lit.wf, IntKind.min, IntKind.max, IntKind.signed, IntKind.bits, Bool.and_eq_true, decide_eq_true_eq] at hw
    have h1 : 0 ≤ z2 := by simpa using hw.1
    have h2 : z2 ≤ 255 := by simpa using hw.2
    omega
  refine (walk (of_laid hL) r1 s1 hk2).mono fun e W' ⟨he, hg⟩ => ?_
  subst he
  have b1 := Below.trod laidOut (by kernel_rfl) (of_decide_eq_true (by kernel_rfl)) t1 hg (fun x hx => hlt x (by simp [hx]))
  have b2 := Below.trod laidOut (by kernel_rfl) (of_decide_eq_true (by kernel_rfl)) t2 hg (fun x hx => by cases hx)
  refine ⟨_, rfl, [d1, _], [], p1 ++ [], [], p1 ++ [], [], hW', trodAll_cons_mk (shut_bool Tryd.underlying4 _) trodAll_mk0, ?_, rfl, hg.frame _, fun h => by cases h⟩
  exact trodAll_cons_mk b1 (trodAll_mk1 b2)

theorem over : Rows.AdjustLeastSaid :=
  OpenClaim.holds_of_wide 3 Tryd.f3 rfl rfl rfl rfl rfl rfl rfl ⟨rfl, rfl, rfl, rfl, rfl⟩ rfl rfl rfl rfl rfl (by kernel_rfl) Tryd.func3 (by kernel_rfl)
    (of_decide_eq_true (by kernel_rfl)) (by unfold Func.isWrapper; first | (rw [if_pos (by decide +kernel)]; kernel_rfl) | (rw [if_neg (by decide +kernel)]; exact ⟨rfl, rfl⟩))
    (fun os started H enc _ => lifted os started H enc)

/-- ████ THE STATEMENT ████ -/
theorem proved : Rows.AdjustLeastCardSaid :=
  Claim7.holds_tied_plain_at .later [] [.data, .data] true (true, "db17036fbc4eb22914a0925a50cab321355850335a719656e8b29297df563021") false
    over (fun _ h => by cases h) (by kernel_rfl) (fun _ h => by cases h) adjustLeast_row_tie rfl ⟨rfl, rfl⟩ (by kernel_rfl) rfl
    (fun f fn hf hfn => by
      obtain rfl : f = 3 := Option.some.inj ((show Tryd.prog.funcNamed "haruspex/haruspexlaw34.AdjustLeast" = some 3 by kernel_rfl).symm.trans hf) |>.symm
      obtain rfl : fn = Tryd.f3 := (Option.some.inj (Tryd.func3.symm.trans hfn)).symm
      exact ⟨by kernel_rfl, fun j t ht => by
        rw [Tryd.params3] at ht
        have hm : t ∈ [24, 5] := by simpa using Array.mem_of_getElem? ht
        have hall : ([24, 5].all fun u => !Tryd.prog.wantsStandIn u) = true := by kernel_rfl
        exact (show Tryd.prog.wantsStandIn t = false by simpa using List.all_eq_true.1 hall t hm)⟩)
    (by kernel_rfl)
#print axioms proved
end Go.Proofs.YtbejmpmoigmliaaDoor.adjustLeast
