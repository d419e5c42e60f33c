/- The built-in functions. -/
import Derived.Test.YtkbieohddgjioaaHxOpsH
set_option linter.unusedVariables false
set_option linter.unusedSimpArgs false
set_option linter.unnecessarySimpa false
namespace Hx
open Go

section
variable {C : Cfg} {A : Nat → Nat → Prop} {bd : Nat} {w w' : World} {γ γ' : Gm} {hg : Nat → AObj} {nx : Nat}

/-- What a slice's rows come to. -/
theorem src_of (hr : Rel C A bd w γ hg nx) {sz : Nat} {x : AV} {v : Value} {h : H} {rows : List (List AV)} (hx : RV w γ A bd x v)
    (hrow : rowsOf h sz x = some rows) (agree : ∀ id ∈ refIds x, hg id = h.get id) (P : Program) :
    ∃ base cap, v = .slice base rows.length cap ∧ ∀ n, n ≤ rows.length → ∀ w1 : World, w1 = w ∨ w1 = World.drewn w →
      ∃ c, (Builtin.firstCells sz n v).run P w1 = .ok c w1 ∧ c.size = n * sz ∧ RowsRel w γ A bd sz (rows.take n) c := by
  obtain ⟨b, o, cap, hv, hat⟩ := rowsOf_sim hr hx hrow agree
  have hnil : RowsRel w γ A bd sz [] #[] := ⟨by simp, fun i row h => by simp at h, fun i j row x h => by simp at h⟩
  rcases hv with ⟨rfl, rfl⟩ | rfl | ⟨⟨a, rfl⟩, rfl⟩
  · exact ⟨none, 0, rfl, fun n hn w1 _ => ⟨#[], by simp [Builtin.firstCells], by simp at hn; simp [hn], by simpa using hnil⟩⟩
  · refine ⟨some (adr b o), cap, rfl, fun n hn w1 h1 => ?_⟩
    have hsub := hat.sub 0 n
    simp only [List.drop_zero, Nat.zero_mul, Nat.add_zero] at hsub
    have hl : (rows.take n).length = n := by simp [hn]
    rcases h1 with rfl | rfl
    · have := loadRows hsub P
      rw [hl] at this
      simpa [Builtin.firstCells] using this
    · have := loadRows (hsub.same stp_drewn rfl) P
      rw [hl] at this
      obtain ⟨c, c1, c2, c3⟩ := this
      exact ⟨c, by simpa [Builtin.firstCells] using c1, c2, c3.back⟩
  · refine ⟨some a, cap, rfl, fun n hn w1 _ => ?_⟩
    simp at hn; subst hn
    exact ⟨#[], by simp [Builtin.firstCells, loadCells, loadCellsFrom], by simp, by simpa using hnil⟩

theorem append_sim {argTypes : Array TypeId} {ty t xt e e' : TypeId} {sz bytes : Nat} {zero : List AV} {s x : AV} {v y : Value} {g : G}
    (hr : Rel C A bd w γ hg nx) (hf : (γ g.nx).kind = 0) (h0 : argTypes[0]? = some t) (h1 : argTypes[1]? = some xt) (hu : C.P.underlying t = some (.slice e)) (hux : C.P.underlying xt = some (.slice e'))
    (hsz : szT C.P e = some sz) (hby : bytesT C.P e = some bytes) (hz : zeroT C.P e = some zero) (hzl : zero.length = sz) (hb0 : 0 < bytes)
    (hs : RV w γ A bd s v) (hx : RV w γ A bd x y) (agree : ∀ id ∈ refIds s, hg id = g.h.get id) (agree' : ∀ id ∈ refIds x, hg id = g.h.get id) :
    UpdSim C A bd w γ hg nx (Builtin.append_ argTypes ty #[v, y]) g (appendA sz bytes s x g) := by
  unfold appendA
  cases hrow : rowsOf g.h sz x with
  | none => trivial
  | some new =>
    dsimp only
    obtain ⟨xb, xc, rfl, hsrc⟩ := src_of hr hx hrow agree' C.P
    rcases appendRows_sim (e := e) (new := new) (zs := false) (x := .slice xb new.length xc) (appended := Builtin.firstCells sz new.length (.slice xb new.length xc)) hr hf hs hby hz hzl hb0
        (fun w1 h => by simpa using hsrc new.length (Nat.le_refl _) w1 h) agree with h | ⟨base, sLen, sCap, rfl, h⟩
    · rw [h]; trivial
    · have e1 : (Builtin.append_ argTypes ty #[.slice base sLen sCap, .slice xb new.length xc]).run C.P w =
          (appTail e sz bytes base sLen sCap new.length false (.slice base sLen sCap) (.slice xb new.length xc) (Builtin.firstCells sz new.length (.slice xb new.length xc))).run C.P w := by
        unfold Builtin.append_ appTail
        have a0 : (#[Value.slice base sLen sCap, Value.slice xb new.length xc] : Array Value)[0]? = some (.slice base sLen sCap) := rfl
        have a1 : (#[Value.slice base sLen sCap, Value.slice xb new.length xc] : Array Value)[1]? = some (.slice xb new.length xc) := rfl
        simp only [h0, h1, a0, a1, Sem.run_bind, run_und hu, run_und hux, run_sizeOf hsz, Builtin.lenOf, Result.andThen_ok, Sem.run_pure]
        rfl
      generalize appendRows sz bytes s new g = r at h ⊢
      cases r <;> simpa only [UpdSim, e1] using h

theorem appendZ_sim {argTypes : Array TypeId} {ty t xt e : TypeId} {k : IntKind} {sz bytes : Nat} {zero : List AV} {s x : AV} {v y : Value} {g : G}
    (hr : Rel C A bd w γ hg nx) (hf : (γ g.nx).kind = 0) (h0 : argTypes[0]? = some t) (h1 : argTypes[1]? = some xt) (hu : C.P.underlying t = some (.slice e)) (hux : C.P.underlying xt = some (.int k))
    (hsz : szT C.P e = some sz) (hby : bytesT C.P e = some bytes) (hz : zeroT C.P e = some zero) (hzl : zero.length = sz) (hs0 : 0 < sz) (hb0 : 0 < bytes)
    (hs : RV w γ A bd s v) (hx : RV w γ A bd x y) (agree : ∀ id ∈ refIds s, hg id = g.h.get id) :
    UpdSim C A bd w γ hg nx (Builtin.append_ argTypes ty #[v, y]) g (appendZ sz bytes zero s x g) := by
  unfold appendZ
  cases hn : natOf room x with
  | none => trivial
  | some n =>
    dsimp only
    rw [bif'_eq]
    split
    · rename_i hroom
      rw [Nat.ble_eq] at hroom
      obtain ⟨n1, kk, rfl⟩ := natOf_rv hn hx
      have hl : (repl n zero).length = n := by simp [repl]
      have happ : ∀ w1 : World, w1 = w ∨ w1 = World.drewn w → ∃ c, (if n * sz = 0 then pure #[] else do pure (Builtin.zeroCells (← zeroValue e).cells n) : Sem (Array Value)).run C.P w1 = .ok c w1 ∧
          c.size = (repl n zero).length * sz ∧ RowsRel w γ A bd sz (repl n zero) c := by
        intro w1 _
        obtain ⟨z, z1, z2⟩ := run_zero (w := w1) hz
        have hzs : z.cells.size = sz := by
          have := (ofVs_rv (w := w) (γ := γ) (A := A) (bd := bd) z2).1.1; simp at this; omega
        refine ⟨zeros z.cells (n * sz), ?_, by rw [hl]; simp [zeros_size], zeros_rel (ty := e) z2 hzl hs0 (Nat.le_refl _)⟩
        by_cases h : n * sz = 0
        · rw [if_pos h, h]; simp [zeros]
        · rw [if_neg h]
          simp [z1, Builtin.zeroCells, zeros, hzs]
      rcases appendRows_sim (e := e) (new := repl n zero) (zs := true) (x := .int kk (n : Int)) hr hf hs hby hz hzl hb0 happ agree with h | ⟨base, sLen, sCap, rfl, h⟩
      · rw [h]; trivial
      · rw [hl] at h
        have hi : ∃ i, C.P.info? e = some i ∧ i.bytes = bytes := by
          unfold bytesT at hby
          cases hie : C.P.info? e with
          | none => rw [hie] at hby; cases hby
          | some i => rw [hie] at hby; simp at hby; exact ⟨i, rfl, hby⟩
        obtain ⟨i, i1, i2⟩ := hi
        unfold room at n1 hroom
        have w1 := wrap_small n (by omega)
        have hb1 : ¬ ((n : Int) * (bytes : Int) > 2 ^ 48) := by
          rw [← Int.natCast_mul]; omega
        have e1 : (Builtin.append_ argTypes ty #[.slice base sLen sCap, .int kk (n : Int)]).run C.P w =
            (appTail e sz bytes base sLen sCap n true (.slice base sLen sCap) (.int kk (n : Int)) (if n * sz = 0 then pure #[] else do pure (Builtin.zeroCells (← zeroValue e).cells n))).run C.P w := by
          unfold Builtin.append_ appTail
          have hneg : ¬ ((n : Int) < 0) := by omega
          have a0 : (#[Value.slice base sLen sCap, Value.int kk (n : Int)] : Array Value)[0]? = some (.slice base sLen sCap) := rfl
          have a1 : (#[Value.slice base sLen sCap, Value.int kk (n : Int)] : Array Value)[1]? = some (.int kk (n : Int)) := rfl
          simp only [h0, h1, a0, a1, Sem.run_bind, run_und hu, run_und hux, run_sizeOf hsz, Result.andThen_ok, Sem.run_pure, if_true, asInt, asIntOf, w1, run_info i1, i2, if_neg hb1, if_neg hneg]
          rfl
        generalize appendRows sz bytes s (repl n zero) g = r at h ⊢
        cases r <;> simpa only [UpdSim, e1] using h
    · trivial

theorem copy_sim {argTypes : Array TypeId} {ty t e : TypeId} {sz : Nat} {d x : AV} {v y : Value} {g : G}
    (hr : Rel C A bd w γ hg nx) (h0 : argTypes[0]? = some t) (hu : C.P.underlying t = some (.slice e)) (hsz : szT C.P e = some sz)
    (hd : RV w γ A bd d v) (hx : RV w γ A bd x y) (agree : ∀ id ∈ refIds d, hg id = g.h.get id) (agree' : ∀ id ∈ refIds x, hg id = g.h.get id) :
    UpdSim C A bd w γ hg nx (Builtin.copy_ argTypes ty #[v, y]) g (copyA sz d x g) := by
  unfold copyA
  cases hrow : rowsOf g.h sz x with
  | none => trivial
  | some src =>
    dsimp only
    obtain ⟨xb, xc, rfl, hsrc⟩ := src_of hr hx hrow agree' C.P
    have hrun : ∀ base dLen dCap, v = .slice base dLen dCap → ∃ c, c.size = Nat.min src.length dLen * sz ∧ RowsRel w γ A bd sz (src.take (Nat.min src.length dLen)) c ∧
        (Builtin.copy_ argTypes ty #[v, .slice xb src.length xc]).run C.P w =
          (do if let some a := base then storeCells a c.toList
              pure (goInt (Nat.min src.length dLen)) : Sem Value).run C.P w := by
      intro base dLen dCap hv
      subst hv
      obtain ⟨c, c1, c2, c3⟩ := hsrc (Nat.min src.length dLen) (Nat.min_le_left _ _) w (.inl rfl)
      refine ⟨c, c2, c3, ?_⟩
      have a0 : (#[Value.slice base dLen dCap, Value.slice xb src.length xc] : Array Value)[0]? = some (.slice base dLen dCap) := rfl
      have a1 : (#[Value.slice base dLen dCap, Value.slice xb src.length xc] : Array Value)[1]? = some (.slice xb src.length xc) := rfl
      unfold Builtin.copy_
      simp only [h0, a0, a1, Sem.run_bind, run_und hu, run_sizeOf hsz, Builtin.lenOf, Result.andThen_ok, Sem.run_pure, c1]
      rfl
    have hint : ∀ n : Nat, RV w γ A bd (.int .i64 (n : Int)) (goInt n) := fun n => .int _ _ _
    cases hd with
    | nils =>
      obtain ⟨c, c1, c2, c3⟩ := hrun none 0 0 rfl
      refine ⟨goInt 0, ?_, hint 0⟩
      rw [c3]; simp
    | esl _ a =>
      obtain ⟨c, c1, c2, c3⟩ := hrun (some a) 0 0 rfl
      have hc : c = #[] := by simpa using c1
      refine ⟨goInt 0, ?_, hint 0⟩
      rw [c3, hc]; simp [storeCells_nil]
    | tsl _ tag sz' rows b o cap cell ht hc hb hm ha hrl ho hw h =>
      dsimp only
      rw [bif'_eq]
      split
      · rename_i hcond
        obtain ⟨c, c1, c2, c3⟩ := hrun (some (adr b o)) rows.length cap rfl
        have hmin : Nat.min src.length rows.length = 0 := by
          simp only [Bool.or_eq_true, List.isEmpty_iff] at hcond
          rcases hcond with h | h <;> subst h <;> simp [Nat.min_def]
        rw [hmin] at c1 c3
        have hc : c = #[] := by simpa using c1
        refine ⟨goInt 0, ?_, hint 0⟩
        rw [c3, hc]; simp [storeCells_nil]
      · trivial
    | tnil _ tag sz' a cap ht =>
      dsimp only
      rw [bif'_eq]
      split
      · obtain ⟨c, c1, c2, c3⟩ := hrun (some a) 0 cap rfl
        have hc : c = #[] := by simpa using c1
        refine ⟨goInt 0, ?_, hint 0⟩
        rw [c3, hc]; simp [storeCells_nil]
      · trivial
    | hsl _ id ep off len lim b0 o0 cap0 hk he hc0 h0' =>
      have hagree := agree id (by simp [refIds])
      simp only [G.get_eq, ← hagree]
      cases hid : hg id with
      | cells sz' rows ep' loose fz =>
        simp only [lenR_eq, bif'_eq, takeR_eq]
        split
        · rename_i hcond
          simp only [Bool.and_eq_true, Nat.ble_eq, notb_eq, Bool.not_eq_true'] at hcond
          obtain ⟨⟨⟨h1, h2⟩, h3⟩, h4⟩ := hcond
          have h1 := nat_beq h1; have h2 := nat_beq h2; subst h1; subst h2; subst h4
          obtain ⟨cap, hv, hlc, hco⟩ := hsl_at hr (RV.hsl bd id ep off len lim b0 o0 cap0 hk he hc0 h0') hid
          obtain ⟨c, c1, c2, c3⟩ := hrun _ _ _ hv
          have hl : (src.take (Nat.min src.length len)).length = Nat.min src.length len := by simp [Nat.min_le_left]
          have hle : Nat.min src.length len ≤ len := Nat.min_le_right _ _
          obtain ⟨w', r1, r2, r3⟩ := hr.storeRows hid (off := off) c2 (by rw [hl]; exact c1) (by rw [hl]; omega) C.P
          refine ⟨goInt (Nat.min src.length len), w', γ, id, _, ?_, .int _ _ _, r3, .inl ⟨rfl, r2⟩⟩
          rw [c3]
          simp [r1]
        · trivial
      | _ => trivial
    | _ => trivial

theorem clear_sim {argTypes : Array TypeId} {ty t e : TypeId} {sz : Nat} {zero : List AV} {x : AV} {y : Value} {g : G}
    (hr : Rel C A bd w γ hg nx) (h0 : argTypes[0]? = some t) (hu : C.P.underlying t = some (.slice e)) (hz : zeroT C.P e = some zero) (hzl : zero.length = sz) (hs0 : 0 < sz)
    (hx : RV w γ A bd x y) (agree : ∀ id ∈ refIdsC x, hg id = g.h.get id) :
    UpdSim C A bd w γ hg nx (Builtin.clear_ argTypes ty #[y]) g (clearF sz zero x g) := by
  have a0 : (#[y] : Array Value)[0]? = some y := rfl
  have hz0 : ∀ a cap, y = .slice a 0 cap → (Builtin.clear_ argTypes ty #[y]).run C.P w = .ok undef w := by
    intro a cap h; subst h
    unfold Builtin.clear_
    cases a <;> simp [h0, run_und hu, undef]
  unfold clearF
  cases hx with
  | nils => exact ⟨_, hz0 _ _ rfl, undef_rv⟩
  | esl _ a => exact ⟨_, hz0 _ _ rfl, undef_rv⟩
  | tsl _ tag sz' rows b o cap cell ht hc hb hm ha hrl ho hw h =>
    cases rows with
    | nil => exact ⟨_, hz0 _ _ rfl, undef_rv⟩
    | cons r rs => trivial
  | tnil _ tag sz' a cap ht => exact ⟨_, hz0 _ _ rfl, undef_rv⟩
  | hsl _ id ep off len lim b0 o0 cap0 hk he hc0 h0' =>
    cases len with
    | zero => exact ⟨_, hz0 _ _ rfl, undef_rv⟩
    | succ len =>
      have hagree := agree id (by simp [refIdsC])
      simp only [G.get_eq, ← hagree]
      cases hid : hg id with
      | cells sz' rows ep' loose fz =>
        simp only [lenR_eq, bif'_eq]
        split
        · rename_i hcond
          simp only [Bool.and_eq_true, Nat.ble_eq, notb_eq, Bool.not_eq_true'] at hcond
          obtain ⟨⟨⟨h1, h2⟩, h3⟩, h4⟩ := hcond
          have h1 := nat_beq h1; have h2 := nat_beq h2; subst h1; subst h2; subst h4
          obtain ⟨cap, hv, hlc, hco⟩ := hsl_at hr (RV.hsl bd id ep off (len + 1) lim b0 o0 cap0 hk he hc0 h0') hid
          have hl : (repl (len + 1) zero).length = len + 1 := by simp [repl]
          obtain ⟨z, z1, z2⟩ := run_zero (w := w) hz
          have hzs : z.cells.size = sz := by
            have := (ofVs_rv (w := w) (γ := γ) (A := A) (bd := bd) z2).1.1; simp at this; omega
          obtain ⟨w', r1, r2, r3⟩ := hr.storeRows hid (off := off) (zeros_rel (ty := e) (n := len + 1) z2 hzl hs0 (Nat.le_refl _)) (by rw [hl]; simp [zeros_size]) (by rw [hl]; omega) C.P
          refine ⟨undef, w', γ, id, _, ?_, undef_rv, r3, .inl ⟨rfl, r2⟩⟩
          have e0 : Builtin.zeroCells z.cells (len + 1) = zeros z.cells ((len + 1) * sz) := by simp [Builtin.zeroCells, zeros, hzs]
          rw [hv]
          unfold Builtin.clear_
          simp [h0, run_und hu, z1, e0, r1, undef]
        · trivial
      | _ => trivial
  | _ => trivial

end
end Hx
