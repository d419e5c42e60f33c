/- The simple operations: make, addresses, indexes, lengths. -/
import Derived.Test.YtkbieohddgjioaaHxOpsD
set_option linter.unusedVariables false
set_option linter.unusedSimpArgs false
set_option linter.unnecessarySimpa false
namespace Hx
open Go

section
variable {C : Cfg} {A : Nat → Nat → Prop} {bd : Nat} {w : World} {γ : Gm} {hg : Nat → AObj} {nx : Nat}

theorem natOf_rv {lim n : Nat} {x : AV} {v : Value} (h : natOf lim x = some n) (hv : RV w γ A bd x v) : n ≤ lim ∧ ∃ k, v = .int k (n : Int) := by
  unfold natOf at h
  split at h
  · rw [bif'_eq] at h
    split at h
    · rename_i hl; rw [Nat.ble_eq] at hl; injection h with h; subst h
      cases hv; exact ⟨hl, _, rfl⟩
    · cases h
  · cases h

theorem wrap_small (n : Nat) (h : n < 9223372036854775808) : IntKind.wrap .i64 (n : Int) = (n : Int) := wrap_i64_ofNat n h

theorem makeSlice_sim {ty e : TypeId} {sz bytes : Nat} {zero : List AV} {l c : T → AV} {t : T} {g : G} {vl vc : Value}
    (hr : Rel C A bd w γ hg nx) (hf : (γ g.nx).kind = 0) (hu : C.P.underlying ty = some (.slice e)) (hsz : szT C.P e = some sz) (hby : bytesT C.P e = some bytes) (hz : zeroT C.P e = some zero)
    (hzl : zero.length = sz) (h0 : 0 < sz) (hl : RV w γ A bd (l t) vl) (hc : RV w γ A bd (c t) vc) :
    UpdSim C A bd w γ hg nx (Instr.makeSlice ty vl vc) g (makeSliceF sz bytes zero l c t g) := by
  unfold makeSliceF
  cases hcn : natOf room (c t) with
  | none => trivial
  | some cn =>
    dsimp only
    cases hln : natOf cn (l t) with
    | none => trivial
    | some ln =>
      dsimp only
      rw [bif'_eq]
      split
      · rename_i hroom
        rw [Nat.ble_eq] at hroom
        obtain ⟨c1, kc, rfl⟩ := natOf_rv hcn hc
        obtain ⟨l1, kl, rfl⟩ := natOf_rv hln hl
        obtain ⟨z, z1, z2⟩ := run_zero (w := w) hz
        have hzs : z.cells.size = sz := by
          have := (ofVs_rv (w := w) (γ := γ) (A := A) (bd := bd) z2).1.1; simp at this; omega
        unfold room at c1 hroom
        obtain ⟨γ', s1, s2, s3⟩ := newSlice_sim (w := w) (cs := zeros z.cells (cn * sz)) e hr hf (zeros_rel (ty := e) (n := cn) z2 hzl h0 (Nat.le_refl _)) ln cn false 0 ⟨fun _ => rfl, fun h => by cases h⟩
          (by simp [repl, zeros_size]) (by simp [repl]) (by simpa [repl] using l1)
        refine ⟨_, _, γ', g.nx, _, ?_, s3, s2, .inr ⟨rfl, rfl, s1⟩⟩
        have hi : ∃ i, C.P.info? e = some i ∧ i.bytes = bytes := by
          unfold bytesT at hby
          cases hie : C.P.info? e with
          | none => rw [hie] at hby; cases hby
          | some i => rw [hie] at hby; simp at hby; exact ⟨i, rfl, hby⟩
        obtain ⟨i, i1, i2⟩ := hi
        have w1 := wrap_small ln (by omega)
        have w2 := wrap_small cn (by omega)
        have hb1 : ¬ ((bytes : Int) * (cn : Int) > 2 ^ 48) := by
          rw [← Int.natCast_mul, Nat.mul_comm]; omega
        have hb2 : ¬ ((bytes : Int) * (ln : Int) > 2 ^ 48) := by
          have h3 : ln * bytes ≤ cn * bytes := Nat.mul_le_mul_right _ l1
          rw [← Int.natCast_mul, Nat.mul_comm]; omega
        unfold Instr.makeSlice
        simp only [Sem.run_bind, run_und hu, Result.andThen_ok, asInt, asIntOf, Sem.run_pure, run_info i1, i2, w1, w2]
        rw [if_neg (by simp only [Bool.or_eq_true, decide_eq_true_eq, not_or]; omega)]
        simp only [Sem.run_bind, run_askRoom, Result.andThen_ok, run_sizeOf hsz, Int.toNat_natCast]
        by_cases h : cn * sz = 0
        · have e0 : zeros z.cells (cn * sz) = #[] := by rw [h]; simp [zeros]
          have e1 : (Array.range 0).map (fun x => (#[] : Array Value)[x % (#[] : Array Value).size]!) = #[] := by simp
          rw [e0, h]
          simp only [if_true, Sem.run_bind, Sem.run_pure, Result.andThen_ok, e1, run_newRow]
        · have e0 : (Array.range (cn * sz)).map (fun x => z.cells[x % z.cells.size]!) = zeros z.cells (cn * sz) := rfl
          simp only [h, if_false, Sem.run_bind, z1, Result.andThen_ok, Sem.run_pure, e0, run_newRow]
      · trivial

theorem fieldPlace_run {f : Field} {n b o : Nat} (hn : szT C.P f.type = some (n + 1)) : (fieldPlace (adr b o) f).run C.P w = .ok (adr b (o + f.offset)) w := by
  unfold fieldPlace
  simp only [Sem.run_bind, run_sizeOf hn, Result.andThen_ok]
  rw [if_neg (by omega)]
  simp [adr_add]

theorem fieldAddr_sim {ty : TypeId} {f fo n : Nat} {ft : TypeId} {a : T → AV} {t : T} {g : G} {va : Value}
    (ha : RV w γ A bd (a t) va) (hf : fieldT C.P ty f = some (fo, ft)) (hn : szT C.P ft = some (n + 1)) :
    ValSim C A bd w γ (Instr.fieldAt ty va f) (fieldAddrF fo a t g) := by
  unfold fieldT at hf
  cases hu : C.P.underlying ty with
  | none => rw [hu] at hf; cases hf
  | some d =>
    rw [hu] at hf
    cases d with
    | struct fs =>
      dsimp only at hf
      cases hx : fs[f]? with
      | none => rw [hx] at hf; cases hf
      | some x =>
        rw [hx] at hf
        injection hf with hf; injection hf with h1 h2
        subst h1; subst h2
        unfold fieldAddrF
        generalize a t = y at *
        cases ha with
        | tptr _ tag sz rows i0 off0 b o cell ht hb hm ha' hrl ho hw h hcl =>
          refine ⟨_, ?_, .tptr _ tag sz rows i0 (off0 + x.offset) b o cell ht hb hm ha' hrl ho hw h hcl⟩
          simp [Instr.fieldAt, run_und hu, hx, Instr.sureAddr, fieldPlace_run hn, Nat.add_assoc]
        | hptr _ id ep i off b o hk he h =>
          refine ⟨.pointer (some (adr b (o + x.offset))), ?_, .hptr _ id ep i (off + x.offset) b _ hk he fun e => ?_⟩
          · simp [Instr.fieldAt, run_und hu, hx, Instr.sureAddr, fieldPlace_run hn]
          · obtain ⟨c1, c2⟩ := h e; exact ⟨c1, by rw [c2]; omega⟩
        | _ => trivial
    | _ => cases hf

theorem part_run {ty : TypeId} {ag : Bool} {n off : Nat} {cs : List AV} {c : Array Value} {x : AV} (hc : CellsRel w γ A bd cs c)
    (hag : aggT C.P ty = some ag) (hn : szT C.P ty = some n) (h : getPart ag n cs off = some x) : ∃ v, (part ty c off).run C.P w = .ok v w ∧ RV w γ A bd x v := by
  unfold getPart at h
  cases ag with
  | false =>
    simp only [nthR_eq] at h
    have hl : off < c.toList.length := by rw [← hc.1.1]; exact (List.getElem?_eq_some_iff.1 h).1
    have hl' : off < c.size := by simpa using hl
    refine ⟨c[off], ?_, hc.1.2 off x _ h (by simp [hl'])⟩
    simp [part, run_isAgg hag, hl']
  | true =>
    simp only [takeR_eq, dropR_eq, lenR_eq, bif'_eq] at h
    split at h
    · rename_i hl
      have hl := nat_beq hl
      injection h with h; subst h
      have hcs : cs.length = c.size := by have := hc.1.1; simpa using this
      have hln : off + n ≤ c.size ∨ n = 0 := by simp at hl; omega
      refine ⟨.agg (c.extract off (off + n)), by simp [part, run_isAgg hag, run_sizeOf hn], .agg _ _ _ (by rw [hl]; simp; omega) (fun i y hy => ?_) (fun i y v hy hv => ?_)⟩
      · have hi : i < n := by rw [← hl]; exact (List.getElem?_eq_some_iff.1 hy).1
        rw [List.getElem?_take_of_lt hi, List.getElem?_drop] at hy
        exact hc.2 _ _ hy
      · have hi : i < n := by rw [← hl]; exact (List.getElem?_eq_some_iff.1 hy).1
        rw [List.getElem?_take_of_lt hi, List.getElem?_drop] at hy
        rw [Array.getElem?_extract] at hv
        split at hv
        · exact hc.1.2 _ _ _ hy (by simpa using hv)
        · cases hv
    · cases h

theorem agg_cells {cs : List AV} {v : Value} (h : RV w γ A bd (.agg cs) v) : ∃ c, v = .agg c ∧ CellsRel w γ A bd cs c := by
  cases h with
  | agg _ _ c hl h1 h' => exact ⟨c, rfl, ⟨by simpa using hl, fun i x v hx hv => h' i x v hx (by simpa using hv)⟩, h1⟩

theorem field_sim {ty : TypeId} {f fo n : Nat} {ft : TypeId} {ag : Bool} {y : AV} {va : Value}
    (ha : RV w γ A bd y va) (hf : fieldT C.P ty f = some (fo, ft)) (hag : aggT C.P ft = some ag) (hn : szT C.P ft = some n) :
    ValSim C A bd w γ (Instr.field ty va f) (match y with | .agg cs => orV (getPart ag n cs fo) | _ => .fail) := by
  unfold fieldT at hf
  cases hu : C.P.underlying ty with
  | none => rw [hu] at hf; cases hf
  | some d =>
    rw [hu] at hf
    cases d with
    | struct fs =>
      dsimp only at hf
      cases hx : fs[f]? with
      | none => rw [hx] at hf; cases hf
      | some x =>
        rw [hx] at hf
        injection hf with hf; injection hf with h1 h2
        subst h1; subst h2
        cases y with
        | agg cs =>
          obtain ⟨c, rfl, hc⟩ := agg_cells ha
          refine orV_sim fun z hz => ?_
          obtain ⟨v, h1, h2⟩ := part_run hc hag hn hz
          exact ⟨v, by simp [Instr.field, run_und hu, hx, asAgg, h1], h2⟩
        | _ => trivial
    | _ => cases hf

theorem int_rv {k : IntKind} {n : Int} {v : Value} (h : RV w γ A bd (.int k n) v) : v = .int k n := by cases h; rfl

theorem indexSl_sim {ty e : TypeId} {sz : Nat} {a ix : T → AV} {t : T} {g : G} {va vi : Value} (hr : Rel C A bd w γ hg nx)
    (ha : RV w γ A bd (a t) va) (hi : RV w γ A bd (ix t) vi) (hu : C.P.underlying ty = some (.slice e)) (hsz : szT C.P e = some sz)
    (agree : ∀ id ∈ refIds (a t), hg id = g.h.get id) :
    ValSim C A bd w γ (Instr.indexAt ty va vi) (indexSlF sz a ix t g) := by
  unfold indexSlF
  generalize a t = y at *
  generalize ix t = z at *
  cases ha with
  | tsl _ tag sz' rows b o cap cell ht hc hb hm ha' hrl ho hw h hcl =>
    dsimp only
    split
    · rename_i k i
      rw [bif'_eq]
      split
      · rename_i hcond
        simp only [Bool.and_eq_true, Nat.blt_eq, lenR_eq] at hcond
        obtain ⟨h1, h2⟩ := hcond
        have h1 := nat_beq h1; subst h1
        have hvi := int_rv hi; subst hvi
        refine ⟨_, ?_, .tptr _ tag sz rows i 0 b o cell ht hb hm ha' hrl ho hw h hcl⟩
        simp [Instr.indexAt, asIntOf, run_und hu, h2, run_sizeOf hsz, adr_add]
      · trivial
    · trivial
  | tnil _ tag sz' a' cap ht =>
    dsimp only
    split
    · rename_i k i
      rw [bif'_eq]
      split
      · rename_i hcond; simp [lenR_eq] at hcond
      · trivial
    · trivial
  | hsl _ id ep off len lim b o cap hk he hc h =>
    have hagree := agree id (by simp [refIds])
    dsimp only
    split
    · rename_i k i
      simp only [G.get_eq, ← hagree]
      cases hid : hg id with
      | cells sz' rows ep' loose fz =>
        dsimp only
        rw [bif'_eq]
        split
        · rename_i hcond
          simp only [Bool.and_eq_true, Nat.blt_eq] at hcond
          obtain ⟨⟨h1, h2⟩, h3⟩ := hcond
          have h1 := nat_beq h1; have h2 := nat_beq h2; subst h2
          have hvi := int_rv hi; subst hvi
          have hob := hr.obj id
          rw [hid] at hob
          obtain ⟨k1, k2, k3, _⟩ := hob
          obtain ⟨c1, c2, _⟩ := h (h1.trans k2.symm)
          refine ⟨.pointer (some (adr b (o + i * sz))), ?_, .hptr _ id ep (off + i) 0 b _ hk he fun _ => ⟨c1, ?_⟩⟩
          · simp [Instr.indexAt, asIntOf, run_und hu, h3, run_sizeOf hsz, adr_add]
          · rw [c2, k3, Nat.add_mul]; omega
        · trivial
      | _ => trivial
    · trivial
  | _ => trivial

theorem indexAr_sim {ty e : TypeId} {n sz : Nat} {a ix : T → AV} {t : T} {g : G} {va vi : Value}
    (ha : RV w γ A bd (a t) va) (hi : RV w γ A bd (ix t) vi) (hu : C.P.underlying ty = some (.array n e)) (hsz : szT C.P e = some sz) :
    ValSim C A bd w γ (Instr.indexAt ty va vi) (indexArF n sz a ix t g) := by
  unfold indexArF
  generalize a t = y at *
  generalize ix t = z at *
  split
  · rename_i k i
    rw [bif'_eq]
    split
    · rename_i hlt
      rw [Nat.blt_eq] at hlt
      have hvi := int_rv hi; subst hvi
      have h2 := hlt
      cases ha with
      | tptr _ tag sz' rows i0 off0 b o cell ht hb hm ha' hrl ho hw h hcl =>
        refine ⟨_, ?_, .tptr _ tag sz' rows i0 (off0 + i * sz) b o cell ht hb hm ha' hrl ho hw h hcl⟩
        simp [Instr.indexAt, asIntOf, run_und hu, h2, run_sizeOf hsz, adr_add, Instr.sureAddr, Nat.add_assoc]
      | hptr _ id ep j off b o hk he h =>
        refine ⟨.pointer (some (adr b (o + i * sz))), ?_, .hptr _ id ep j (off + i * sz) b _ hk he fun e => ?_⟩
        · simp [Instr.indexAt, asIntOf, run_und hu, h2, run_sizeOf hsz, adr_add, Instr.sureAddr]
        · obtain ⟨c1, c2⟩ := h e; exact ⟨c1, by rw [c2]; omega⟩
      | _ => trivial
    · trivial
  · trivial

theorem index_sim {ty e : TypeId} {ag : Bool} {n sz : Nat} {a ix : T → AV} {t : T} {g : G} {va vi : Value}
    (ha : RV w γ A bd (a t) va) (hi : RV w γ A bd (ix t) vi) (hu : C.P.underlying ty = some (.array n e)) (hag : aggT C.P e = some ag) (hsz : szT C.P e = some sz) :
    ValSim C A bd w γ (Instr.index ty va vi) (indexF ag n sz a ix t g) := by
  unfold indexF
  generalize a t = y at *
  generalize ix t = z at *
  cases y with
  | agg cs =>
    dsimp only
    split
    · rename_i k i
      rw [bif'_eq]
      split
      · rename_i hlt
        rw [Nat.blt_eq] at hlt
        have hvi := int_rv hi; subst hvi
        have h2 := hlt
        obtain ⟨c, rfl, hc⟩ := agg_cells ha
        refine orV_sim fun x hx => ?_
        obtain ⟨v, h1, h3⟩ := part_run hc hag hsz hx
        exact ⟨v, by simp [Instr.index, asIntOf, run_und hu, h2, run_sizeOf hsz, h1], h3⟩
      · trivial
    · trivial
  | _ => trivial

theorem indexStr_sim {ty : TypeId} {a ix : T → AV} {t : T} {g : G} {va vi : Value}
    (ha : RV w γ A bd (a t) va) (hi : RV w γ A bd (ix t) vi) (hu : C.P.underlying ty = some .string) :
    ValSim C A bd w γ (Instr.index ty va vi) (indexStrF a ix t g) := by
  unfold indexStrF
  generalize a t = y at *
  generalize ix t = z at *
  cases ha with
  | str _ s =>
    dsimp only
    split
    · rename_i k i
      simp only [nthR_eq]
      cases hb : s.data.toList[i]? with
      | none => trivial
      | some b =>
        have hvi := int_rv hi; subst hvi
        refine ⟨.int .u8 b.toNat, ?_, .int _ _ _⟩
        have hlt : i < s.size := by
          have := (List.getElem?_eq_some_iff.1 hb).1; simpa using this
        have hb' : s[i]? = some b := by
          rw [getElem?_pos s i hlt]
          have := (List.getElem?_eq_some_iff.1 hb).2
          rw [Array.getElem_toList] at this
          exact congrArg some this
        simp [Instr.index, asIntOf, run_und hu, hb']
    · trivial
  | _ => trivial

end
end Hx
