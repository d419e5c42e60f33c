/- The statement AdjustKnown (tied card): the law returns true at every input; the input reads as it did. The variables that the statement lists are those of the program's text. No condition. -/
import Derived.DataReads
import Derived.Test.YtbejmpmoigmliaaDoorCards
import Derived.Test.YtbejmpmoigmliaaDoorTie
import Derived.WalkKit
import Derived.ProofKit
import Derived.LaidMore
import Derived.OpenShut
import Derived.Carry
import Derived.Stop.Joined
import Derived.Test.YtbejmpmoigmliaaDoorHx7
set_option linter.unusedVariables false
set_option linter.unusedSimpArgs false
set_option linter.unnecessarySimpa false
namespace Go.Proofs.YtbejmpmoigmliaaDoor.adjustKnown
open Go.ChangeShapes Go.WideShapes Go.ChangeAt Go.RowKit Hx

set_option maxRecDepth 100000
theorem own : ownKnob Tryd.prog.godebug = none := by kernel_rfl
theorem laidOut : laidOutB Tryd.prog = true := by kernel_rfl
def laid : List (String × DataW Unit) := [("math/bits.deBruijn32tab", Rows.laid_math_bits_deBruijn32tab), ("math/bits.deBruijn64tab", Rows.laid_math_bits_deBruijn64tab)]
theorem g64 : Tryd.prog.globalNamed "math/bits.deBruijn64tab" = some 3 := by kernel_rfl
theorem t64 : (Tryd.prog.globals[3]?).map (·.type) = some 159 := by kernel_rfl
theorem door_met (os : Os) (args : Array Value) : laidMetH Tryd.prog laid ((World.doorLaid Tryd.prog 19 os).forCall (fun _ _ => 0) ⟨#[], args, []⟩).memory :=
  laidMetH_of_parts3 (fuel := 8) (laidMet_of_run' 8 (by kernel_rfl) (by kernel_rfl)) (by kernel_rfl) (by kernel_rfl)
def tab64 : List Int := [0, 1, 56, 2, 57, 49, 28, 3, 61, 58, 42, 50, 38, 29, 17, 4, 62, 47, 59, 36, 45, 43, 51, 22, 53, 39, 33, 30, 24, 18, 12, 5, 63, 55, 48, 27, 60, 41, 37, 16, 46, 35, 44, 21, 52, 32, 23, 11, 54, 26, 40, 15, 34, 20, 31, 10, 25, 14, 19, 9, 13, 8, 7, 6]
theorem cells_u8 {enc : TypeId × Value → Unit} {P : Program} {w : World} {b : Nat} {sp : Nat → Bool} {held : Bool} {fuel : Nat} {t e : TypeId} {cs : List Value} {p : List MemPlace} {m : Nat} (tab : List Int) (hu : P.underlying t = some (.array m e)) (he : P.underlying e = some (.int .u8)) (hc : P.cellsOf e = 1)
    (h : DataW.trod enc P w b sp held fuel t cs = some (.agg (tab.map fun k => .lit (.int .u8 k)), p)) : ∀ (j : Nat) (k : Int), tab[j]? = some k → cs[j]? = some (.int .u8 k) := by
  obtain ⟨xs, n, rfl, hx, hl, hn, hel⟩ := DataW.trod_array hu h
  injection hx with hx1 hx2
  injection hx1 with hx1
  intro j k hk
  have hlen : xs.length = tab.length := by
    have := congrArg List.length hx1
    simpa using this.symm
  have hj := (List.getElem?_eq_some_iff.1 hk).1
  have h1 := hel j (by omega)
  rw [hc, Nat.mul_one] at h1
  have h2 : (xs.map (·.1))[j]? = some (.lit (.int .u8 k)) := by rw [← hx1, List.getElem?_map, hk]; rfl
  rw [List.getElem?_map] at h2
  cases hy : xs[j]? with
  | none => rw [hy] at h2; cases h2
  | some y =>
    rw [hy] at h1 h2
    obtain ⟨z, e1, e2, -⟩ := DataW.trod_int he h1
    rw [e2] at h2
    injection h2 with h2
    injection h2 with h2
    injection h2 with h2 h3
    subst h3
    have := congrArg (fun l : List Value => l[0]?) e1
    simpa using this
/-- What the condition gives: the table of math/bits. -/
theorem of_laid {w : World} (h : laidMetH Tryd.prog laid w) : ∀ gl sz rows, Gen.cfgW.glob gl = some (sz, rows) → RV0 w (.tptr 0 sz rows 0 0) (.pointer (some ⟨gl, 0, none⟩)) := by
  rw [MakeChecks.laidMetH_plain _ _ _ (by kernel_rfl)] at h
  obtain ⟨ps, ⟨-, -, -, -, -, -, -, -, -, -, ⟨g1, t1, cs1, f1, p1, q1, hg1, ht1, hv1, hd1, -, -⟩, -⟩, -, -⟩ := h
  obtain rfl := Option.some.inj (g64.symm.trans hg1)
  obtain rfl := Option.some.inj (t64.symm.trans ht1)
  have hcs := cells_u8 tab64 Tryd.underlying159 Tryd.underlying5 (by kernel_rfl) (show DataW.trod _ Tryd.prog w 0 _ false f1 159 cs1.toList = some (.agg (tab64.map fun k => .lit (.int .u8 k)), p1) from hd1)
  have hcell : ∀ (j : Nat) (k : Int), tab64[j]? = some k → w.cell? ⟨3, j, none⟩ = some (.int .u8 k) := fun j k hk => by
    rw [World.var?_cell hg1 hv1, ← Array.getElem?_toList]
    exact hcs j k hk
  intro gl sz rows hgl
  have hgl' : af (Nat.beq gl 3) (some (64, [tab64.map fun k => AV.int .u8 k])) none = some (sz, rows) := hgl
  rw [aa] at hgl'
  split at hgl'
  · rename_i hb
    obtain rfl := Nat.eq_of_beq_eq_true hb
    injection hgl' with hgl'
    injection hgl' with e1 e2
    subst e1 e2
    have get : ∀ (i j : Nat) (row : List AV) (x : AV), [tab64.map fun k => AV.int .u8 k][i]? = some row → row[j]? = some x → i = 0 ∧ ∃ k, tab64[j]? = some k ∧ x = .int .u8 k := fun i j row x h1 h2 => by
      cases i with
      | zero =>
        injection h1 with h1
        subst h1
        rw [List.getElem?_map] at h2
        cases hk : tab64[j]? with
        | none => rw [hk] at h2; cases h2
        | some k => rw [hk] at h2; injection h2 with h2; exact ⟨rfl, k, rfl, h2.symm⟩
      | succ i => simp at h1
    refine RV.tptr 0 0 64 _ 0 0 3 0 (fun _ j => .int .u8 ((tab64[j]?).getD 0)) (Nat.le_refl _) (iM (hcell 0 0 rfl)) (fun h => ?_) (fun h => ?_) (fun i row h1 => ?_) (fun i j row x h1 h2 => ?_) (fun i j row x h1 h2 => ?_) (fun i j row x h1 h2 => ?_) (fun row h1 x h2 => ?_)
    · exact kX 3 h
    · exact h.elim
    · cases i with
      | zero => injection h1 with h1; subst h1; rfl
      | succ i => simp at h1
    · obtain ⟨-, k, -, rfl⟩ := get i j row x h1 h2; rfl
    · obtain ⟨rfl, k, hk, rfl⟩ := get i j row x h1 h2
      rw [hk]
      show w.cell? ⟨3, 0 + 0 * 64 + j, none⟩ = _
      rw [show 0 + 0 * 64 + j = j by omega]
      exact hcell j k hk
    · obtain ⟨rfl, k, hk, rfl⟩ := get i j row x h1 h2
      rw [hk]; exact RV.int _ _ _
    · rw [List.mem_singleton.1 h1] at h2
      obtain ⟨k, -, rfl⟩ := List.mem_map.1 h2
      exact .int _ _
  · cases hgl'

theorem walk {w : World} (hgl : ∀ gl sz rows, Gen.cfgW.glob gl = some (sz, rows) → RV0 w (.tptr 0 sz rows 0 0) (.pointer (some ⟨gl, 0, none⟩))) : Calls Tryd.prog 4 #[] w fun e w' => e = .returned (.bool true) ∧ Below w.heap.size w w' := by
  obtain ⟨g', h⟩ := ik jt
  exact iX Gen.cfgWOk h (vs := []) ⟨rfl, fun i x v h => by simp at h⟩ hgl

theorem lifted (os : Os) (started : os.Started) (H : Type) (enc : TypeId × Value → H) :
    ReturnsInHanded {} Tryd.checked os 4 .any (fun w args => (Rows.adjustKnownSpec.pre enc Tryd.prog Tryd.f4 [] false w args ∧ laidMetH Tryd.prog laid w) ∧ sizedMet enc Tryd.prog Tryd.f4 (OpenSpec.ofChange Rows.adjustKnownSpec) false w args)
      (Rows.adjustKnownSpec.post enc Tryd.prog Tryd.f4 false true false false) := by
  refine returnsInHanded_of_change_and (C := Tryd.checked) (X := fun w _ => laidMetH Tryd.prog laid w) (fun _ _ _ hh h => h.of_heap hh) own started (by kernel_rfl) Tryd.func4
    (ChangeSpec.witness_shaped (enc := enc) (C := Tryd.checked) (os := os) (X := fun w _ => laidMetH Tryd.prog laid w) false (World.doorLaid Tryd.prog 19 os) #[] 8 rfl (World.shaped_of_RefB (by kernel_rfl) (by kernel_rfl)) (by kernel_rfl) (by kernel_rfl) (by kernel_rfl) (door_met os _)) ?_
  intro W base args ds gs before hval0 hW _ _ hL _
  have hW' := hW
  obtain ⟨p, q, hA0, hV, rfl, hfz, hnd⟩ := hW
  have hA : DataW.TrodAll enc Tryd.prog W 0 (fun _ => true) true Tryd.f4.params.toList args.toList ds p := hA0
  rw [Tryd.params4] at hA
  obtain ⟨rfl, rfl, rfl⟩ := trodAll_none hA
  obtain ⟨rfl, rfl⟩ := trodVars_none hV
  clear hA0 hval0
  simp only [List.append_nil] at hW'
  refine (walk (of_laid hL)).mono fun e W' ⟨he, hg⟩ => ?_
  subst he
  exact ⟨_, rfl, [], [], [], [], [], [], hW', trodAll_cons_mk (shut_bool Tryd.underlying4 _) trodAll_mk0, rfl, rfl, hg.frame _, fun h => by cases h⟩

theorem over : Rows.AdjustKnownSaid :=
  OpenClaim.holds_of_wide 4 Tryd.f4 rfl rfl rfl rfl rfl rfl rfl ⟨rfl, rfl, rfl, rfl, rfl⟩ rfl rfl rfl rfl rfl (by kernel_rfl) Tryd.func4 (by kernel_rfl)
    (of_decide_eq_true (by kernel_rfl)) (by unfold Func.isWrapper; first | (rw [if_pos (by decide +kernel)]; kernel_rfl) | (rw [if_neg (by decide +kernel)]; exact ⟨rfl, rfl⟩))
    (fun os started H enc _ => lifted os started H enc)

/-- ████ THE STATEMENT ████ -/
theorem proved : Rows.AdjustKnownCardSaid :=
  Claim7.holds_tied_plain_at .later [] [.data, .data] true (true, "db17036fbc4eb22914a0925a50cab321355850335a719656e8b29297df563021") false
    over (fun _ h => by cases h) (by kernel_rfl) (fun _ h => by cases h) adjustKnown_row_tie rfl ⟨rfl, rfl⟩ (by kernel_rfl) rfl
    (fun f fn hf hfn => by
      obtain rfl : f = 4 := Option.some.inj ((show Tryd.prog.funcNamed "haruspex/haruspexlaw34.AdjustKnown" = some 4 by kernel_rfl).symm.trans hf) |>.symm
      obtain rfl : fn = Tryd.f4 := (Option.some.inj (Tryd.func4.symm.trans hfn)).symm
      exact ⟨by kernel_rfl, fun j t ht => by
        rw [Tryd.params4] at ht
        simp at ht⟩)
    (by kernel_rfl)
#print axioms proved
end Go.Proofs.YtbejmpmoigmliaaDoor.adjustKnown
