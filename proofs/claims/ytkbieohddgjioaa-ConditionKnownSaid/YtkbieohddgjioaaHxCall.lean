/- Copies out of the heap, and calls in a heap of their own. -/
import Derived.Test.YtkbieohddgjioaaHxSop
set_option linter.unusedVariables false
set_option linter.unusedSimpArgs false
set_option linter.unnecessarySimpa false
namespace Hx
open Go

theorem mapO_get {α β : Type} {f : α → Option β} : ∀ {l : List α} {r : List β}, mapO f l = some r → ∀ (i : Nat) y, r[i]? = some y → ∃ x, l[i]? = some x ∧ f x = some y := by
  intro l
  induction l with
  | nil => intro r h i y hy; simp only [mapO] at h; injection h with h; subst h; simp at hy
  | cons a l ih =>
    intro r h i y hy
    simp only [mapO] at h
    split at h
    · rename_i b hb
      split at h
      · rename_i bs hbs
        injection h with h; subst h
        cases i with
        | zero => simp at hy; subst hy; exact ⟨a, rfl, hb⟩
        | succ i => simpa using ih hbs i y (by simpa using hy)
      · cases h
    · cases h

theorem mapO_len {α β : Type} {f : α → Option β} : ∀ {l : List α} {r : List β}, mapO f l = some r → r.length = l.length := by
  intro l
  induction l with
  | nil => intro r h; simp only [mapO] at h; injection h with h; subst h; rfl
  | cons a l ih =>
    intro r h
    simp only [mapO] at h
    split at h
    · split at h
      · rename_i bs hbs
        injection h with h; subst h
        simp [ih hbs]
      · cases h
    · cases h

theorem mapO_mem {α β : Type} {f : α → Option β} {l : List α} {r : List β} (h : mapO f l = some r) {y : β} (hy : y ∈ r) : ∃ x ∈ l, f x = some y := by
  obtain ⟨i, hi⟩ := List.getElem?_of_mem hy
  obtain ⟨x, h1, h2⟩ := mapO_get h i y hi
  exact ⟨x, List.mem_of_getElem? h1, h2⟩

theorem snap_one {h : H} {tag : Nat} : ∀ {f : Nat} {x y : AV}, snap h tag f x = some y → x.one = true → y.one = true := by
  intro f x y hs hx
  cases f with
  | zero => cases hs
  | succ f =>
    cases x <;> simp only [snap] at hs <;> first | (cases hx; done) | skip
    all_goals first | (injection hs with hs; subst hs; rfl) | skip
    all_goals
      repeat (split at hs)
      all_goals first | (cases hs; done) | (injection hs with hs; subst hs; rfl) | (rw [bif'_eq] at hs; split at hs <;> first | (cases hs; done) | (injection hs with hs; subst hs; rfl))

/-- What is there by the abstract heap is there. -/
def Ext (h : H) (hg : Nat → AObj) : Prop := ∀ id, h.get id ≠ .none → hg id = h.get id

theorem Ext.refl (h : H) : Ext h h.get := fun _ _ => rfl

section
variable {C : Cfg} {A A' : Nat → Nat → Prop} {bd : Nat} {w w' : World} {γ γ' : Gm} {hg : Nat → AObj} {nx : Nat}

/-- A closed value seen from elsewhere. -/
theorem rv_shift {x : AV} {v : Value} (h : RV w γ A bd x v) : Closed x →
    (∀ t b, t ≤ bd → b < w.heap.size → ¬ A t b → ¬ Mut γ b → ¬ A' t b ∧ ¬ Mut γ' b) → RV w γ' A' bd x v := by
  induction h with
  | bool => intro _ _; exact .bool _ _
  | int => intro _ _; exact .int _ _ _
  | str => intro _ _; exact .str _ _
  | tup _ xs vs hl _ ih =>
    intro hc hs
    cases hc with | tup _ hc => exact .tup _ _ _ hl fun i x v h1 h2 => ih i x v h1 h2 (hc x (List.mem_of_getElem? h1)) hs
  | agg _ xs vs hl h1 _ ih =>
    intro hc hs
    cases hc with | agg _ hc => exact .agg _ _ _ hl h1 fun i x v h1 h2 => ih i x v h1 h2 (hc x (List.mem_of_getElem? h1)) hs
  | nilp => intro _ _; exact .nilp _
  | nils => intro _ _; exact .nils _
  | nilf => intro _ _; exact .nilf _
  | nilm => intro _ _; exact .nilm _
  | nili => intro _ _; exact .nili _
  | esl => intro _ _; exact .esl _ _
  | tsl _ tag sz rows b o cap cell ht hc hb hm ha hr ho hw h hcl ih =>
    intro _ hs
    obtain ⟨h1, h2⟩ := hs tag b ht hb ha hm
    exact .tsl _ tag sz rows b o cap cell ht hc hb h2 h1 hr ho hw
      (fun i j row x a c => ih i j row x a c (hcl row (List.mem_of_getElem? a) x (List.mem_of_getElem? c)) fun t b hle => hs t b (Nat.le_trans hle ht)) hcl
  | tnil _ tag sz a cap ht => intro _ _; exact .tnil _ tag sz a cap ht
  | tptr _ tag sz rows i0 off0 b o cell ht hb hm ha hr ho hw h hcl ih =>
    intro _ hs
    obtain ⟨h1, h2⟩ := hs tag b ht hb ha hm
    exact .tptr _ tag sz rows i0 off0 b o cell ht hb h2 h1 hr ho hw
      (fun i j row x a c => ih i j row x a c (hcl row (List.mem_of_getElem? a) x (List.mem_of_getElem? c)) fun t b hle => hs t b (Nat.le_trans hle ht)) hcl
  | hsl => intro hc; cases hc
  | hptr => intro hc; cases hc
  | clo _ f xs ys vs us hl hl2 _ _ ih ih2 =>
    intro hc hs
    cases hc with
    | clo _ _ _ hc hc2 => exact .clo _ f xs ys vs us hl hl2 (fun i x v h1 h2 => ih i x v h1 h2 (hc x (List.mem_of_getElem? h1)) hs) (fun i x v h1 h2 => ih2 i x v h1 h2 (hc2 x (List.mem_of_getElem? h1)) hs)
  | hmap => intro hc; cases hc
  | ifc _ t x v _ ih => intro hc hs; cases hc with | ifc _ _ hc => exact .ifc _ t x v (ih hc hs)
  | yld => intro hc; cases hc

theorem rv_tree_closed {x : AV} {v : Value} (h : RV w γ A bd x v) (hx : (∃ l sz rows, x = .tsl l sz rows) ∨ (∃ l sz rows i o, x = .tptr l sz rows i o)) : Closed x := by
  rcases hx with ⟨l, sz, rows, rfl⟩ | ⟨l, sz, rows, i, o, rfl⟩
  · cases h with
    | tsl _ _ _ _ _ _ _ _ _ _ _ _ _ _ _ _ _ hcl => exact .tsl _ _ _ hcl
    | tnil => exact .tsl _ _ _ fun row h => by cases h
  · cases h with
    | tptr _ _ _ _ _ _ _ _ _ _ _ _ _ _ _ _ _ hcl => exact .tptr _ _ _ _ _ hcl

/-- A copy of a value out of the heap. L: the objects that may be looked at. -/
theorem snap_rv {h : H} {tag B : Nat} {L : Nat → Prop} (hr : Rel C A bd w γ hg nx) (hx : ∀ id, L id → h.get id ≠ .none → hg id = h.get id) (hB : bd ≤ B) (htB : tag ≤ B)
    (hs : ∀ t b, t ≤ bd → b < w.heap.size → ¬ A t b → ¬ Mut γ b → ¬ A' t b ∧ ¬ Mut γ' b)
    (ho : ∀ id, L id → (∃ sz rows ep lo fz, h.get id = .cells sz rows ep lo fz) → (γ id).kind = 1 → ∀ t, tag ≤ t → t ≤ B → ¬ A' t (γ id).blk ∧ ¬ Mut γ' (γ id).blk) :
    ∀ (f : Nat) {x y : AV} {v : Value}, snap h tag f x = some y → RV w γ A bd x v → (∀ id ∈ snapIds h f x, L id) → RV w γ' A' B y v ∧ Closed y := by
  intro f
  induction f with
  | zero => intro x y v h; cases h
  | succ f ih =>
    intro x y v hsn hv hL
    have hlist : ∀ {xs ys : List AV} {vs : Array Value}, mapO (snap h tag f) xs = some ys → (∀ id ∈ xs.flatMap (snapIds h f), L id) → xs.length = vs.size →
        (∀ (i : Nat) x v, xs[i]? = some x → vs[i]? = some v → RV w γ A bd x v) →
        ys.length = vs.size ∧ (∀ (i : Nat) x v, ys[i]? = some x → vs[i]? = some v → RV w γ' A' B x v) ∧ ∀ y ∈ ys, Closed y := by
      intro xs ys vs h1 h2 h3 h4
      have hex : ∀ (i : Nat) y, ys[i]? = some y → ∃ v, vs[i]? = some v ∧ RV w γ' A' B y v ∧ Closed y := by
        intro i y hy
        obtain ⟨x, a1, a2⟩ := mapO_get h1 i y hy
        have hlt : i < vs.size := by rw [← h3]; exact (List.getElem?_eq_some_iff.1 a1).1
        have hv := Array.getElem?_eq_getElem hlt
        obtain ⟨b1, b2⟩ := ih a2 (h4 i x _ a1 hv) fun id hid => h2 id (List.mem_flatMap.2 ⟨x, List.mem_of_getElem? a1, hid⟩)
        exact ⟨_, hv, b1, b2⟩
      refine ⟨by rw [mapO_len h1, h3], fun i y v hy hv => ?_, fun y hy => ?_⟩
      · obtain ⟨v', b1, b2, _⟩ := hex i y hy
        rw [hv] at b1; injection b1 with b1; subst b1; exact b2
      · obtain ⟨i, hi⟩ := List.getElem?_of_mem hy
        obtain ⟨_, _, _, b⟩ := hex i y hi; exact b
    -- rows of an object
    have hrows : ∀ {id sz : Nat} {rows : List (List AV)} {ep : Nat} {lo fz : Bool} {start len : Nat} {rs : List (List AV)} {m : Nat},
        hg id = .cells sz rows ep lo fz → mapO (mapO (snap h tag f)) ((rows.drop start).take len) = some rs → tagRows rs = some m →
        (∀ id' ∈ ((rows.drop start).take len).flatMap (·.flatMap (snapIds h f)), L id') → start + len ≤ rows.length →
        rs.length = len ∧ m ≤ B ∧ (∀ (i : Nat) row, rs[i]? = some row → row.length = sz) ∧
        (∀ (i j : Nat) row x, rs[i]? = some row → row[j]? = some x → x.one = true ∧ ∃ c, w.cell? (adr (γ id).blk ((γ id).base + start * sz + i * sz + j)) = some c ∧ RV w γ' A' m x c) ∧
        (∀ row ∈ rs, ∀ x ∈ row, Closed x) := by
      intro id sz rows ep lo fz start len rs m hid hm htag hL' hle
      have hob := hr.obj id
      rw [hid] at hob
      have hlen : rs.length = len := by rw [mapO_len hm]; simp; omega
      have key : ∀ (i j : Nat) row x, rs[i]? = some row → row[j]? = some x → x.one = true ∧ ∃ c, w.cell? (adr (γ id).blk ((γ id).base + start * sz + i * sz + j)) = some c ∧ RV w γ' A' B x c ∧ Closed x := by
        intro i j row x hi hj
        obtain ⟨row0, a1, a2⟩ := mapO_get hm i row hi
        obtain ⟨x0, b1, b2⟩ := mapO_get a2 j x hj
        have hri : rows[start + i]? = some row0 := by
          rw [List.getElem?_take] at a1
          split at a1
          · rw [List.getElem?_drop] at a1; exact a1
          · cases a1
        obtain ⟨c1, v, c2, c3⟩ := row_cells hr hid hri j x0 b1
        obtain ⟨d1, d2⟩ := ih b2 c3 fun id' hid' => hL' id' (List.mem_flatMap.2 ⟨row0, List.mem_of_getElem? a1, List.mem_flatMap.2 ⟨x0, List.mem_of_getElem? b1, hid'⟩⟩)
        refine ⟨snap_one b2 c1, v, ?_, d1, d2⟩
        rw [← c2]; congr 2; rw [Nat.add_mul]; omega
      refine ⟨hlen, ?_, ?_, ?_, ?_⟩
      · refine maxO_bound htag fun row hrow k hk => maxO_bound hk fun x hx k' hk' => ?_
        obtain ⟨i, hi⟩ := List.getElem?_of_mem hrow
        obtain ⟨j, hj⟩ := List.getElem?_of_mem hx
        obtain ⟨_, c, _, hc, _⟩ := key i j row x hi hj
        exact tagO_le _ hk' hc
      · intro i row hi
        obtain ⟨row0, a1, a2⟩ := mapO_get hm i row hi
        rw [mapO_len a2]
        obtain ⟨k1, k2, k3, k4, k5, k6, c, e, k7, k8, k9, k10⟩ := hob
        rw [List.getElem?_take] at a1
        split at a1
        · rw [List.getElem?_drop] at a1; exact k9 _ _ a1
        · cases a1
      · intro i j row x hi hj
        obtain ⟨c1, c, c2, c3, _⟩ := key i j row x hi hj
        exact ⟨c1, c, c2, tagRows_rv htag hi hj c3⟩
      · intro row hrow x hx
        obtain ⟨i, hi⟩ := List.getElem?_of_mem hrow
        obtain ⟨j, hj⟩ := List.getElem?_of_mem hx
        obtain ⟨_, _, _, _, c⟩ := key i j row x hi hj
        exact c
    cases hv with
    | agg _ xs vs hl h1 h2 =>
      simp only [snap] at hsn
      split at hsn
      · rename_i as has
        injection hsn with hsn; subst hsn
        obtain ⟨a, b, c⟩ := hlist has (by simpa only [snapIds] using hL) hl h2
        refine ⟨.agg _ _ _ a (fun i x hi => ?_) b, .agg _ c⟩
        obtain ⟨x0, a1, a2⟩ := mapO_get has i x hi
        exact snap_one a2 (h1 i x0 a1)
      · cases hsn
    | tup _ xs vs hl h2 =>
      simp only [snap] at hsn
      split at hsn
      · rename_i as has
        injection hsn with hsn; subst hsn
        obtain ⟨a, b, c⟩ := hlist has (by simpa only [snapIds] using hL) hl h2
        exact ⟨.tup _ _ _ a b, .tup _ c⟩
      · cases hsn
    | clo _ g xs ys vs us hl hl2 h1 h2 =>
      simp only [snap] at hsn
      simp only [snapIds] at hL
      split at hsn
      · rename_i as cs has hcs
        injection hsn with hsn; subst hsn
        obtain ⟨a, b, c⟩ := hlist has (fun id hid => hL id (List.mem_append_left _ hid)) hl h1
        obtain ⟨a', b', c'⟩ := hlist hcs (fun id hid => hL id (List.mem_append_right _ hid)) hl2 h2
        exact ⟨.clo _ _ _ _ _ _ a a' b b', .clo _ _ _ c c'⟩
      · cases hsn
    | ifc _ t x v h1 =>
      simp only [snap] at hsn
      split at hsn
      · rename_i a ha
        injection hsn with hsn; subst hsn
        obtain ⟨a, b⟩ := ih ha h1 (by simpa only [snapIds] using hL)
        exact ⟨.ifc _ _ _ _ a, .ifc _ _ b⟩
      · cases hsn
    | hsl _ id ep off len lim b o cap hk he hc h' =>
      simp only [snap] at hsn
      split at hsn
      · rename_i sz rows ep' lo fz hget
        rw [bif'_eq] at hsn
        split at hsn
        · rename_i hcond
          simp only [Bool.and_eq_true, Nat.ble_eq, lenR_eq] at hcond
          obtain ⟨hep, hle⟩ := hcond
          have hep := nat_beq hep
          split at hsn
          · rename_i rs hrs
            split at hsn
            · rename_i m hm
              injection hsn with hsn; subst hsn
              have hid : hg id = .cells sz rows ep' lo fz := by rw [hx id (hL id (by simp [snapIds])) (by rw [hget]; simp), hget]
              have hob := hr.obj id
              rw [hid] at hob
              obtain ⟨k1, k2, k3, k4, _⟩ := hob
              obtain ⟨e1, e2, e3⟩ := h' (hep.trans k2.symm)
              subst e1; subst e2
              simp only [snapIds, hget] at hL
              simp only [takeR_eq, dropR_eq] at hrs hL
              obtain ⟨r1, r2, r3, r4, r5⟩ := hrows hid hrs hm (fun id' hid' => hL id' (List.mem_cons_of_mem _ hid')) hle
              obtain ⟨o1, o2⟩ := ho id (hL id List.mem_cons_self) ⟨_, _, _, _, _, hget⟩ hk (Nat.max tag m) (Nat.le_max_left _ _) (Nat.max_le.2 ⟨htB, r2⟩)
              refine ⟨?_, .tsl _ _ _ r5⟩
              rw [← r1]
              rw [k3]
              refine .tsl _ (Nat.max tag m) sz rs (γ id).blk ((γ id).base + off * sz) cap (fun i j => (w.cell? (adr (γ id).blk ((γ id).base + off * sz + i * sz + j))).getD undef) (Nat.max_le.2 ⟨htB, r2⟩) (by rw [r1]; exact hc)
                (hr.lt id (by rw [hk]; decide)).2 o2 o1 r3 (fun i j row x hi hj => (r4 i j row x hi hj).1) (fun i j row x hi hj => ?_) (fun i j row x hi hj => ?_) r5
              · obtain ⟨_, c, c2, _⟩ := r4 i j row x hi hj
                simp only [c2, Option.getD_some]
              · obtain ⟨_, c, c2, c3⟩ := r4 i j row x hi hj
                simp only [c2, Option.getD_some]
                exact c3.mono (Nat.le_max_right _ _)
            · cases hsn
          · cases hsn
        · cases hsn
      · cases hsn
    | hptr _ id ep i off b o hk he h' =>
      simp only [snap] at hsn
      split at hsn
      · rename_i sz rows ep' lo fz hget
        rw [bif'_eq] at hsn
        split at hsn
        · rename_i hep
          have hep := nat_beq hep
          split at hsn
          · rename_i rs hrs
            split at hsn
            · rename_i m hm
              injection hsn with hsn; subst hsn
              have hid : hg id = .cells sz rows ep' lo fz := by rw [hx id (hL id (by simp [snapIds])) (by rw [hget]; simp), hget]
              have hob := hr.obj id
              rw [hid] at hob
              obtain ⟨k1, k2, k3, k4, _⟩ := hob
              obtain ⟨e1, e2⟩ := h' (hep.trans k2.symm)
              subst e1; subst e2
              simp only [snapIds, hget] at hL
              have hrs' : mapO (mapO (snap h tag f)) ((rows.drop 0).take rows.length) = some rs := by simpa using hrs
              obtain ⟨r1, r2, r3, r4, r5⟩ := hrows hid hrs' hm (fun id' hid' => hL id' (List.mem_cons_of_mem _ (by simpa using hid'))) (by omega)
              obtain ⟨o1, o2⟩ := ho id (hL id List.mem_cons_self) ⟨_, _, _, _, _, hget⟩ hk (Nat.max tag m) (Nat.le_max_left _ _) (Nat.max_le.2 ⟨htB, r2⟩)
              refine ⟨?_, .tptr _ _ _ _ _ r5⟩
              rw [k3]
              refine .tptr _ (Nat.max tag m) sz rs i off (γ id).blk (γ id).base (fun i j => (w.cell? (adr (γ id).blk ((γ id).base + i * sz + j))).getD undef) (Nat.max_le.2 ⟨htB, r2⟩)
                (hr.lt id (by rw [hk]; decide)).2 o2 o1 r3 (fun i j row x hi hj => (r4 i j row x hi hj).1) (fun i j row x hi hj => ?_) (fun i j row x hi hj => ?_) r5
              · obtain ⟨_, c, c2, _⟩ := r4 i j row x hi hj
                simp only [Nat.zero_mul, Nat.add_zero] at c2
                simp only [c2, Option.getD_some]
              · obtain ⟨_, c, c2, c3⟩ := r4 i j row x hi hj
                simp only [Nat.zero_mul, Nat.add_zero] at c2
                simp only [c2, Option.getD_some]
                exact c3.mono (Nat.le_max_right _ _)
            · cases hsn
          · cases hsn
        · cases hsn
      · cases hsn
    | hmap => cases hsn
    | yld => cases hsn
    | tsl _ tag' sz rows b o cap cell ht hc hb hm ha hrl ho' hw hcell hcl =>
      simp only [snap] at hsn; injection hsn with hsn; subst hsn
      exact ⟨(rv_shift (.tsl _ tag' sz rows b o cap cell ht hc hb hm ha hrl ho' hw hcell hcl) (.tsl _ _ _ hcl) hs).mono hB, .tsl _ _ _ hcl⟩
    | tnil _ tag' sz a cap ht => simp only [snap] at hsn; injection hsn with hsn; subst hsn; exact ⟨.tnil _ tag' sz a cap (Nat.le_trans ht hB), .tsl _ _ _ fun row h => by cases h⟩
    | tptr _ tag' sz rows i0 off0 b o cell ht hb hm ha hrl ho' hw hcell hcl =>
      simp only [snap] at hsn; injection hsn with hsn; subst hsn
      exact ⟨(rv_shift (.tptr _ tag' sz rows i0 off0 b o cell ht hb hm ha hrl ho' hw hcell hcl) (.tptr _ _ _ _ _ hcl) hs).mono hB, .tptr _ _ _ _ _ hcl⟩
    | bool => simp only [snap] at hsn; injection hsn with hsn; subst hsn; exact ⟨.bool _ _, .bool _⟩
    | int => simp only [snap] at hsn; injection hsn with hsn; subst hsn; exact ⟨.int _ _ _, .int _ _⟩
    | str => simp only [snap] at hsn; injection hsn with hsn; subst hsn; exact ⟨.str _ _, .str _⟩
    | nilp => simp only [snap] at hsn; injection hsn with hsn; subst hsn; exact ⟨.nilp _, .nilp⟩
    | nils => simp only [snap] at hsn; injection hsn with hsn; subst hsn; exact ⟨.nils _, .nils⟩
    | nilf => simp only [snap] at hsn; injection hsn with hsn; subst hsn; exact ⟨.nilf _, .nilf⟩
    | nilm => simp only [snap] at hsn; injection hsn with hsn; subst hsn; exact ⟨.nilm _, .nilm⟩
    | nili => simp only [snap] at hsn; injection hsn with hsn; subst hsn; exact ⟨.nili _, .nili⟩
    | esl _ a => simp only [snap] at hsn; injection hsn with hsn; subst hsn; exact ⟨.esl _ a, .esl⟩

theorem untag_one {d : Nat} : ∀ {f : Nat} {x y : AV}, untag d f x = some y → x.one = true → y.one = true := by
  intro f x y hs hx
  cases f with
  | zero => cases hs
  | succ f =>
    cases x <;> simp only [untag, bif'_eq] at hs <;> first | (cases hx; done) | skip
    all_goals first | (injection hs with hs; subst hs; rfl) | skip
    all_goals
      repeat (split at hs)
      all_goals first | (cases hs; done) | (injection hs with hs; subst hs; rfl)

/-- The tag d taken off. -/
theorem untag_rv {d : Nat} (hA : ∀ t b, t < d → ¬ A t b → ¬ A' t b) (hd : ∀ b, ¬ A d b → ∀ t, ¬ A' t b) :
    ∀ (f : Nat) {x y : AV} {v : Value}, untag d f x = some y → RV w γ A d x v → Closed x → RV w γ A' d y v ∧ Closed y := by
  intro f
  induction f with
  | zero => intro x y v h; cases h
  | succ f ih =>
    intro x y v hsn hv hcx
    have hlist : ∀ {xs ys : List AV} {vs : Array Value}, mapO (untag d f) xs = some ys → xs.length = vs.size → (∀ x ∈ xs, Closed x) →
        (∀ (i : Nat) x v, xs[i]? = some x → vs[i]? = some v → RV w γ A d x v) →
        ys.length = vs.size ∧ (∀ (i : Nat) x v, ys[i]? = some x → vs[i]? = some v → RV w γ A' d x v) ∧ ∀ y ∈ ys, Closed y := by
      intro xs ys vs h1 h3 hc h4
      have hex : ∀ (i : Nat) y, ys[i]? = some y → ∃ v, vs[i]? = some v ∧ RV w γ A' d y v ∧ Closed y := by
        intro i y hy
        obtain ⟨x, a1, a2⟩ := mapO_get h1 i y hy
        have hlt : i < vs.size := by rw [← h3]; exact (List.getElem?_eq_some_iff.1 a1).1
        have hv := Array.getElem?_eq_getElem hlt
        obtain ⟨b1, b2⟩ := ih a2 (h4 i x _ a1 hv) (hc x (List.mem_of_getElem? a1))
        exact ⟨_, hv, b1, b2⟩
      refine ⟨by rw [mapO_len h1, h3], fun i y v hy hv => ?_, fun y hy => ?_⟩
      · obtain ⟨v', b1, b2, _⟩ := hex i y hy
        rw [hv] at b1; injection b1 with b1; subst b1; exact b2
      · obtain ⟨i, hi⟩ := List.getElem?_of_mem hy
        obtain ⟨_, _, _, b⟩ := hex i y hi; exact b
    have hrows : ∀ {sz : Nat} {rows rs : List (List AV)} {m : Nat} {cell : Nat → Nat → Value}, mapO (mapO (untag d f)) rows = some rs → tagRows rs = some m →
        (∀ (i : Nat) row, rows[i]? = some row → row.length = sz) →
        (∀ (i j : Nat) row x, rows[i]? = some row → row[j]? = some x → x.one = true) →
        (∀ (i j : Nat) row x, rows[i]? = some row → row[j]? = some x → RV w γ A d x (cell i j)) →
        (∀ row ∈ rows, ∀ x ∈ row, Closed x) →
        rs.length = rows.length ∧ m ≤ d ∧ (∀ (i : Nat) row, rs[i]? = some row → row.length = sz) ∧
        (∀ (i j : Nat) row x, rs[i]? = some row → row[j]? = some x → x.one = true ∧ (∃ row0 x0, rows[i]? = some row0 ∧ row0[j]? = some x0) ∧ RV w γ A' m x (cell i j)) ∧
        (∀ row ∈ rs, ∀ x ∈ row, Closed x) := by
      intro sz rows rs m cell h1 h2 h3 h4 h5 h6
      have key : ∀ (i j : Nat) row x, rs[i]? = some row → row[j]? = some x → x.one = true ∧ (∃ row0 x0, rows[i]? = some row0 ∧ row0[j]? = some x0) ∧ RV w γ A' d x (cell i j) ∧ Closed x := by
        intro i j row x hi hj
        obtain ⟨row0, a1, a2⟩ := mapO_get h1 i row hi
        obtain ⟨x0, b1, b2⟩ := mapO_get a2 j x hj
        obtain ⟨c1, c2⟩ := ih b2 (h5 i j row0 x0 a1 b1) (h6 row0 (List.mem_of_getElem? a1) x0 (List.mem_of_getElem? b1))
        exact ⟨untag_one b2 (h4 i j row0 x0 a1 b1), ⟨row0, x0, a1, b1⟩, c1, c2⟩
      refine ⟨mapO_len h1, ?_, ?_, ?_, ?_⟩
      · refine maxO_bound h2 fun row hrow k hk => maxO_bound hk fun x hx k' hk' => ?_
        obtain ⟨i, hi⟩ := List.getElem?_of_mem hrow
        obtain ⟨j, hj⟩ := List.getElem?_of_mem hx
        obtain ⟨_, _, hc, _⟩ := key i j row x hi hj
        exact tagO_le _ hk' hc
      · intro i row hi
        obtain ⟨row0, a1, a2⟩ := mapO_get h1 i row hi
        rw [mapO_len a2]; exact h3 i row0 a1
      · intro i j row x hi hj
        obtain ⟨c1, c2, c3, _⟩ := key i j row x hi hj
        exact ⟨c1, c2, tagRows_rv h2 hi hj c3⟩
      · intro row hrow x hx
        obtain ⟨i, hi⟩ := List.getElem?_of_mem hrow
        obtain ⟨j, hj⟩ := List.getElem?_of_mem hx
        obtain ⟨_, _, _, c⟩ := key i j row x hi hj
        exact c
    have hlow : ∀ {t : Nat}, t ≤ d → t ≠ d → ∀ t' b, t' ≤ t → b < w.heap.size → ¬ A t' b → ¬ Mut γ b → ¬ A' t' b ∧ ¬ Mut γ b :=
      fun h1 h2 t' b h3 _ h4 h5 => ⟨hA t' b (by omega) h4, h5⟩
    cases hv with
    | agg _ xs vs hl h1 h2 =>
      simp only [untag] at hsn
      split at hsn
      · rename_i as has
        injection hsn with hsn; subst hsn
        cases hcx with
        | agg _ hcx =>
          obtain ⟨a, b, c⟩ := hlist has hl hcx h2
          refine ⟨.agg _ _ _ a (fun i x hi => ?_) b, .agg _ c⟩
          obtain ⟨x0, a1, a2⟩ := mapO_get has i x hi
          exact untag_one a2 (h1 i x0 a1)
      · cases hsn
    | tup _ xs vs hl h2 =>
      simp only [untag] at hsn
      split at hsn
      · rename_i as has
        injection hsn with hsn; subst hsn
        cases hcx with
        | tup _ hcx =>
          obtain ⟨a, b, c⟩ := hlist has hl hcx h2
          exact ⟨.tup _ _ _ a b, .tup _ c⟩
      · cases hsn
    | clo _ g xs ys vs us hl hl2 h1 h2 =>
      simp only [untag] at hsn
      split at hsn
      · rename_i as cs has hcs
        injection hsn with hsn; subst hsn
        cases hcx with
        | clo _ _ _ hcx hcx2 =>
          obtain ⟨a, b, c⟩ := hlist has hl hcx h1
          obtain ⟨a', b', c'⟩ := hlist hcs hl2 hcx2 h2
          exact ⟨.clo _ _ _ _ _ _ a a' b b', .clo _ _ _ c c'⟩
      · cases hsn
    | ifc _ t x v h1 =>
      simp only [untag] at hsn
      split at hsn
      · rename_i a ha
        injection hsn with hsn; subst hsn
        cases hcx with
        | ifc _ _ hcx =>
          obtain ⟨a, b⟩ := ih ha h1 hcx
          exact ⟨.ifc _ _ _ _ a, .ifc _ _ b⟩
      · cases hsn
    | tsl _ t sz rows b o cap cell ht hc hb hm ha hrl ho' hw hcell hcl =>
      simp only [untag, bif'_eq] at hsn
      split at hsn
      · rename_i htd
        have htd := nat_beq htd
        split at hsn
        · rename_i rs hrs
          split at hsn
          · rename_i m hm'
            injection hsn with hsn; subst hsn
            obtain ⟨r1, r2, r3, r4, r5⟩ := hrows (cell := cell) hrs hm' hrl ho' (fun i j row x a b => (hcell i j row x a b).mono ht) hcl
            refine ⟨?_, .tsl _ _ _ r5⟩
            rw [← r1]
            refine .tsl _ m sz rs b o cap cell r2 (by rw [r1]; exact hc) hb hm (hd b (htd ▸ ha) m) r3 (fun i j row x a b => (r4 i j row x a b).1) (fun i j row x a b => ?_) (fun i j row x a b => (r4 i j row x a b).2.2) r5
            obtain ⟨_, ⟨row0, x0, c1, c2⟩, _⟩ := r4 i j row x a b
            exact hw i j row0 x0 c1 c2
          · cases hsn
        · cases hsn
      · rename_i htd
        injection hsn with hsn; subst hsn
        have htd : t ≠ d := fun e => htd (by rw [e]; exact Nat.beq_refl d)
        exact ⟨.tsl _ t sz rows b o cap cell ht hc hb hm (hA t b (by omega) ha) hrl ho' hw (fun i j row x a c => rv_shift (hcell i j row x a c) (hcl row (List.mem_of_getElem? a) x (List.mem_of_getElem? c)) (hlow ht htd)) hcl, .tsl _ _ _ hcl⟩
    | tnil _ t sz a cap ht =>
      simp only [untag, bif'_eq] at hsn
      split at hsn
      · simp only [mapO, tagRows, maxO] at hsn
        injection hsn with hsn; subst hsn
        exact ⟨.tnil _ _ sz a cap (Nat.zero_le _), .tsl _ _ _ fun row h => by cases h⟩
      · injection hsn with hsn; subst hsn
        exact ⟨.tnil _ t sz a cap ht, .tsl _ _ _ fun row h => by cases h⟩
    | tptr _ t sz rows i0 off0 b o cell ht hb hm ha hrl ho' hw hcell hcl =>
      simp only [untag, bif'_eq] at hsn
      split at hsn
      · rename_i htd
        have htd := nat_beq htd
        split at hsn
        · rename_i rs hrs
          split at hsn
          · rename_i m hm'
            injection hsn with hsn; subst hsn
            obtain ⟨r1, r2, r3, r4, r5⟩ := hrows (cell := cell) hrs hm' hrl ho' (fun i j row x a b => (hcell i j row x a b).mono ht) hcl
            refine ⟨?_, .tptr _ _ _ _ _ r5⟩
            refine .tptr _ m sz rs i0 off0 b o cell r2 hb hm (hd b (htd ▸ ha) m) r3 (fun i j row x a b => (r4 i j row x a b).1) (fun i j row x a b => ?_) (fun i j row x a b => (r4 i j row x a b).2.2) r5
            obtain ⟨_, ⟨row0, x0, c1, c2⟩, _⟩ := r4 i j row x a b
            exact hw i j row0 x0 c1 c2
          · cases hsn
        · cases hsn
      · rename_i htd
        injection hsn with hsn; subst hsn
        have htd : t ≠ d := fun e => htd (by rw [e]; exact Nat.beq_refl d)
        exact ⟨.tptr _ t sz rows i0 off0 b o cell ht hb hm (hA t b (by omega) ha) hrl ho' hw (fun i j row x a c => rv_shift (hcell i j row x a c) (hcl row (List.mem_of_getElem? a) x (List.mem_of_getElem? c)) (hlow ht htd)) hcl, .tptr _ _ _ _ _ hcl⟩
    | bool => simp only [untag] at hsn; injection hsn with hsn; subst hsn; exact ⟨.bool _ _, .bool _⟩
    | int => simp only [untag] at hsn; injection hsn with hsn; subst hsn; exact ⟨.int _ _ _, .int _ _⟩
    | str => simp only [untag] at hsn; injection hsn with hsn; subst hsn; exact ⟨.str _ _, .str _⟩
    | nilp => simp only [untag] at hsn; injection hsn with hsn; subst hsn; exact ⟨.nilp _, .nilp⟩
    | nils => simp only [untag] at hsn; injection hsn with hsn; subst hsn; exact ⟨.nils _, .nils⟩
    | nilf => simp only [untag] at hsn; injection hsn with hsn; subst hsn; exact ⟨.nilf _, .nilf⟩
    | nilm => simp only [untag] at hsn; injection hsn with hsn; subst hsn; exact ⟨.nilm _, .nilm⟩
    | nili => simp only [untag] at hsn; injection hsn with hsn; subst hsn; exact ⟨.nili _, .nili⟩
    | esl _ a => simp only [untag] at hsn; injection hsn with hsn; subst hsn; exact ⟨.esl _ a, .esl⟩
    | hsl => cases hcx
    | hptr => cases hcx
    | hmap => cases hcx
    | yld => cases hcx


/-- The same state in a world where the old blocks are as they were. -/
theorem stp_same (s1 : w.heap.size ≤ w'.heap.size) (s2 : w'.os = w.os) (s3 : w'.tape = w.tape) (s4 : w'.output = w.output)
    (hb : ∀ b, b < w.heap.size → w'.heap[b]? = w.heap[b]?) : Stp w γ w' γ :=
  ⟨s1, s2, s3, s4, fun b h _ => hb b h, fun _ _ h => h, fun _ _ => .inl ⟨rfl, rfl⟩, fun _ _ => ⟨Nat.le_refl _, fun _ => ⟨rfl, rfl, rfl, rfl, rfl⟩⟩⟩

theorem Rel.same (hr : Rel C A bd w γ hg nx) (s : Stp w γ w' γ) (hb : ∀ b, b < w.heap.size → w'.heap[b]? = w.heap[b]?) : Rel C A bd w' γ hg nx where
  obj id := (hr.obj id).step s rfl fun hk _ => hb _ (hr.lt id hk).2
  lt id hk := ⟨(hr.lt id hk).1, Nat.lt_of_lt_of_le (hr.lt id hk).2 s.sz⟩
  inj := hr.inj
  av := hr.av
  ab t b h := Nat.lt_of_lt_of_le (hr.ab t b h) s.sz
  glob g sz rows h := (hr.glob g sz rows h).step s

/-- What a run leaves. -/
structure Fin (C : Cfg) (A : Nat → Nat → Prop) (bd : Nat) (w : World) (γ : Gm) (hg : Nat → AObj) (nx : Nat) (g : G) (w' : World) (γ' : Gm) (hg' : Nat → AObj) (g' : G) : Prop where
  rel : Rel C A bd w' γ' hg' (Nat.max nx g'.nx)
  stp : Stp w γ w' γ'
  new : ∃ new, g'.lg = new ++ g.lg ∧ (∀ id ∈ new, hg' id = g'.h.get id) ∧ ∀ id, id ∉ new → hg' id = hg id

/-- The part that hangs on no machine: numbers and the log. -/
structure Mon (g g' : G) : Prop where
  nx : g.nx ≤ g'.nx
  new : ∃ new, g'.lg = new ++ g.lg ∧ (∀ id, id ∉ new → g'.h.get id = g.h.get id) ∧ ∀ id ∈ new, id < g'.nx ∧ (g.h.get id = .none → g.nx ≤ id)
  wf : (∀ id, g.nx ≤ id → g.h.get id = .none) → ∀ id, g'.nx ≤ id → g'.h.get id = .none

def WF (g : G) : Prop := ∀ id, g.nx ≤ id → g.h.get id = .none

theorem Mon.refl (g : G) : Mon g g := ⟨Nat.le_refl _, ⟨[], rfl, fun _ _ => rfl, fun _ h => by cases h⟩, fun h => h⟩

theorem Mon.trans {g g1 g2 : G} (h1 : Mon g g1) (h2 : Mon g1 g2) : Mon g g2 := by
  obtain ⟨n1, a1, b1, c1⟩ := h1.new
  obtain ⟨n2, a2, b2, c2⟩ := h2.new
  refine ⟨Nat.le_trans h1.nx h2.nx, ⟨n2 ++ n1, by rw [a2, a1, List.append_assoc], fun id hid => ?_, fun id hid => ?_⟩, fun h => h2.wf (h1.wf h)⟩
  · rw [b2 id fun h => hid (List.mem_append_left _ h), b1 id fun h => hid (List.mem_append_right _ h)]
  · by_cases hin : id ∈ n1
    · exact ⟨Nat.lt_of_lt_of_le (c1 id hin).1 h2.nx, (c1 id hin).2⟩
    · rcases List.mem_append.1 hid with h | h
      · exact ⟨(c2 id h).1, fun hn => Nat.le_trans h1.nx ((c2 id h).2 (by rw [b1 id hin]; exact hn))⟩
      · exact absurd h hin

/-- The numbers that a run gives out are free. -/
def Free (γ : Gm) (g g' : G) : Prop := ∀ id, g.nx ≤ id → id ≤ g'.nx → (γ id).kind = 0

theorem Fin.refl {g : G} (hr : Rel C A bd w γ hg nx) : Fin C A bd w γ hg nx g w γ hg g :=
  ⟨hr.up (Nat.le_max_left _ _), Stp.refl _ _, ⟨[], rfl, fun _ h => absurd h List.not_mem_nil, fun _ _ => rfl⟩⟩

theorem Rel.none_iff (hr : Rel C A bd w γ hg nx) (id : Nat) : (γ id).kind = 0 ↔ hg id = .none := by
  have h := hr.obj id
  constructor
  · intro hk
    cases ho : hg id with
    | none => rfl
    | _ => rw [ho] at h; have := h.1; omega
  · intro hn; rw [hn] at h; exact h

/-- The numbers behind a step are free behind it. -/
theorem Fin.freed {g g1 g2 : G} {w1 : World} {γ1 : Gm} {hg1 : Nat → AObj} (h1 : Fin C A bd w γ hg nx g w1 γ1 hg1 g1) (hr : Rel C A bd w γ hg nx) (m1 : Mon g g1) (hf : Free γ g g2) : Free γ1 g1 g2 := by
  obtain ⟨n, a, b, c⟩ := h1.new
  obtain ⟨n', a', b', c'⟩ := m1.new
  have e : n' = n := List.append_cancel_right (a'.symm.trans a)
  subst e
  intro id h2 h3
  have hn : id ∉ n' := fun h => by have := (c' id h).1; omega
  rw [h1.rel.none_iff, c id hn, ← hr.none_iff]
  exact hf id (Nat.le_trans m1.nx h2) h3

theorem Free.le {γ : Gm} {g g1 g2 : G} (h : Free γ g g2) (hle : g1.nx ≤ g2.nx) : Free γ g g1 := fun id h1 h2 => h id h1 (Nat.le_trans h2 hle)

theorem Fin.ext {g g' : G} {hg' : Nat → AObj} (h : Fin C A bd w γ hg nx g w' γ' hg' g') (m : Mon g g') (hx : Ext g.h hg) : Ext g'.h hg' := by
  obtain ⟨n, a, b, c⟩ := h.new
  obtain ⟨n', a', b', _⟩ := m.new
  have e : n' = n := List.append_cancel_right (a'.symm.trans a)
  subst e
  intro id hid
  by_cases hin : id ∈ n'
  · exact b id hin
  · rw [c id hin, b' id hin]; exact hx id (by rw [← b' id hin]; exact hid)

theorem Fin.trans {g g1 g2 : G} {w1 w2 : World} {γ1 γ2 : Gm} {hg1 hg2 : Nat → AObj} (h1 : Fin C A bd w γ hg nx g w1 γ1 hg1 g1)
    (h2 : Fin C A bd w1 γ1 hg1 (Nat.max nx g1.nx) g1 w2 γ2 hg2 g2) (m1 : Mon g g1) (m2 : Mon g1 g2) : Fin C A bd w γ hg nx g w2 γ2 hg2 g2 := by
  obtain ⟨n1, a1, b1, c1⟩ := h1.new
  obtain ⟨n2, a2, b2, c2⟩ := h2.new
  obtain ⟨n', a', b', _⟩ := m2.new
  have e : n' = n2 := List.append_cancel_right (a'.symm.trans a2)
  subst e
  refine ⟨?_, h1.stp.trans h2.stp, ⟨n' ++ n1, by rw [a2, a1, List.append_assoc], fun id hid => ?_, fun id hid => ?_⟩⟩
  · refine h2.rel.up (Nat.max_le.2 ⟨Nat.max_le.2 ⟨Nat.le_max_left _ _, Nat.le_trans m2.nx (Nat.le_max_right _ _)⟩, Nat.le_max_right _ _⟩)
  · by_cases hin : id ∈ n'
    · exact b2 id hin
    · rw [c2 id hin, b' id hin]
      rcases List.mem_append.1 hid with h | h
      · exact absurd h hin
      · exact b1 id h
  · rw [c2 id fun h => hid (List.mem_append_left _ h), c1 id fun h => hid (List.mem_append_right _ h)]

/-- The kind of an activation, and who stands below. -/
def CalmK (K : CallKind) (cs : List Frame) : Prop := K = .normal ∨ (K = .deferred ∧ ∃ c cs', cs = c :: cs' ∧ c.mode = .returning)

/-- An activation's way out. -/
def Outs (P : Program) (K : CallKind) (f : FuncId) (vs : Array Value) (cs : List Frame) (w : World) (u : Value) (w' : World) : Prop :=
  ∃ fr, Steps P (lone (Frame.enter P f vs K) cs w) (lone fr cs w') ∧ fr.mode = .returning ∧ fr.defers = [] ∧ fr.kind = K ∧ fr.fn = f ∧
    ∃ fn, P.funcs[f]? = some fn ∧ (results fn fr.tmps).run P w' = .ok u w'

/-- A function that is entered when it is called. -/
def Enters (P : Program) (f : FuncId) : Prop := ∀ args w, (callFunc f args).run P w = .ok (.enter f args) w

/-- What a call comes to, in the model. -/
def CallRun (C : Cfg) (bd : Nat) (f : FuncId) (as : List AV) (g : G) (v : AV) (g' : G) : Prop :=
  ∀ A w γ hg nx vs, Rel C A bd w γ hg nx → Ext g.h hg → WF g → Free γ g g' → RVs w γ A bd as vs → ∀ K cs, CalmK K cs →
    ∃ u w' γ' hg', Fin C A bd w γ hg nx g w' γ' hg' g' ∧ RV w' γ' A bd v u ∧ Outs C.P K f vs.toArray cs w u w'

/-- Calls do what the interpreter says. -/
def CallOk (C : Cfg) (ih : IH) : Prop :=
  ∀ bd f as g v g', ih.call (bd + 1) f as g = .ok v g' → Enters C.P f ∧ CallRun C bd f as g v g'

def CallMon (ih : IH) : Prop := ∀ d f as g v g', ih.call d f as g = .ok v g' → WF g → Mon g g'

theorem freezeIds_mon : ∀ (ids : List Nat) (g : G), WF g → Mon g (freezeIds g ids) := by
  intro ids
  induction ids with
  | nil => intro g _; exact Mon.refl g
  | cons i is ih =>
    intro g hwf
    simp only [freezeIds]
    split
    · rename_i sz rows ep lo fz hget
      have hi : i < g.nx := Nat.lt_of_not_le fun h => by
        have := hwf i h
        rw [← G.get_eq, hget] at this; cases this
      refine Mon.trans ⟨by simp, ⟨[i], by simp, fun id hid => ?_, fun id hid => ?_⟩, fun h id hid => ?_⟩ (ih _ fun id hid => ?_)
      · simp only [G.put_h, H.get_put]; rw [if_neg]; simpa using hid
      · simp at hid; subst hid; exact ⟨by simpa using hi, fun hn => by rw [← G.get_eq, hget] at hn; cases hn⟩
      · simp only [G.put_nx] at hid
        simp only [G.put_h, H.get_put]; rw [if_neg (by omega)]; exact h id hid
      · simp only [G.put_nx] at hid
        simp only [G.put_h, H.get_put]; rw [if_neg (by omega)]; exact hwf id hid
    · exact ih g hwf

theorem freezeIds_sim : ∀ (ids : List Nat) (g : G) (γ : Gm) (hg : Nat → AObj), Rel C A bd w γ hg nx → (∀ id ∈ ids, g.h.get id ≠ .none → hg id = g.h.get id) →
    ∃ γ₁ hg₁, Rel C A bd w γ₁ hg₁ nx ∧ Stp w γ w γ₁ ∧ (freezeIds g ids).nx = g.nx ∧
      (∃ new, (freezeIds g ids).lg = new ++ g.lg ∧ (∀ id ∈ new, hg₁ id = (freezeIds g ids).h.get id) ∧ (∀ id, id ∉ new → hg₁ id = hg id)) ∧
      (∀ id, (γ₁ id).kind = (γ id).kind ∧ (γ₁ id).blk = (γ id).blk ∧ ((γ₁ id).wr = true → (γ id).wr = true)) ∧
      (∀ id ∈ ids, (∃ sz rows ep lo fz, g.h.get id = .cells sz rows ep lo fz) → (γ₁ id).wr = false) := by
  intro ids
  induction ids with
  | nil =>
    intro g γ hg hr hx
    exact ⟨γ, hg, hr, Stp.refl _ _, rfl, ⟨[], rfl, fun _ h => absurd h List.not_mem_nil, fun _ _ => rfl⟩, fun _ => ⟨rfl, rfl, fun h => h⟩, fun _ h => by cases h⟩
  | cons i is ih =>
    intro g γ hg hr hx
    simp only [freezeIds]
    split
    · rename_i sz rows ep lo fz hget
      have hget' : g.h.get i = .cells sz rows ep lo fz := by simpa using hget
      have hid : hg i = .cells sz rows ep lo fz := by rw [hx i List.mem_cons_self (by rw [hget']; simp), hget']
      obtain ⟨γ₀, r0, s0, e0, m0⟩ := hr.freeze hid
      have hx0 : ∀ id ∈ is, (g.put i (.cells sz rows ep lo true)).h.get id ≠ .none → upd hg i (.cells sz rows ep lo true) id = (g.put i (.cells sz rows ep lo true)).h.get id := by
        intro id hin hne
        simp only [G.put_h, H.get_put] at hne ⊢
        unfold upd
        by_cases hi : id = i
        · simp [hi]
        · simp only [hi, if_false] at hne ⊢; exact hx id (List.mem_cons_of_mem _ hin) hne
      obtain ⟨γ₁, hg₁, r1, s1, n1, ⟨new, l1, l2, l3⟩, f1, f2⟩ := ih _ γ₀ _ r0 hx0
      refine ⟨γ₁, hg₁, r1, s0.trans s1, by rw [n1]; simp, ⟨new ++ [i], by rw [l1]; simp, fun id hid' => ?_, fun id hid' => ?_⟩, fun id => ?_, fun id hid' hc => ?_⟩
      · by_cases hin : id ∈ new
        · exact l2 id hin
        · have hi : id = i := by
            rcases List.mem_append.1 hid' with h | h
            · exact absurd h hin
            · simpa using h
          subst hi
          rw [l3 id hin]
          simp only [upd_same]
          by_cases hwf : ∃ new', (freezeIds (g.put id (.cells sz rows ep lo true)) is).lg = new' ++ (g.put id (.cells sz rows ep lo true)).lg ∧ ∀ k, k ∉ new' → (freezeIds (g.put id (.cells sz rows ep lo true)) is).h.get k = (g.put id (.cells sz rows ep lo true)).h.get k
          · obtain ⟨new', q1, q2⟩ := hwf
            have e : new' = new := List.append_cancel_right (q1.symm.trans l1)
            rw [q2 id (e ▸ hin)]
            simp [H.get_put]
          · exact absurd (freezeIds_log is _) hwf
      · rw [l3 id fun h => hid' (List.mem_append_left _ h)]
        exact upd_ne _ _ (by rintro rfl; exact hid' (List.mem_append_right _ List.mem_cons_self))
      · obtain ⟨a, b, c⟩ := f1 id
        rw [e0] at a b c
        unfold upd at a b c
        by_cases hi : id = i
        · subst hi; simp at a b c; exact ⟨a, b, fun h => by rw [c] at h; cases h⟩
        · simp only [hi, if_false] at a b c; exact ⟨a, b, c⟩
      · rcases List.mem_cons.1 hid' with rfl | hin
        · have := (f1 id).2.2
          rw [e0] at this
          simp at this
          simpa using this
        · by_cases hi : id = i
          · subst hi
            have := (f1 id).2.2
            rw [e0] at this
            simp at this
            simpa using this
          · refine f2 id hin ?_
            simp only [G.put_h, H.get_put, hi, if_false]; exact hc
    · rename_i hne
      obtain ⟨γ₁, hg₁, r1, s1, n1, l, f1, f2⟩ := ih g γ hg hr fun id hin => hx id (List.mem_cons_of_mem _ hin)
      refine ⟨γ₁, hg₁, r1, s1, n1, l, f1, fun id hid' hc => ?_⟩
      rcases List.mem_cons.1 hid' with rfl | hin
      · obtain ⟨sz, rows, ep, lo, fz, hc⟩ := hc
        exact absurd (by simpa using hc) (hne sz rows ep lo fz)
      · exact f2 id hin hc
where
  freezeIds_log : ∀ (ids : List Nat) (g : G), ∃ new', (freezeIds g ids).lg = new' ++ g.lg ∧ ∀ k, k ∉ new' → (freezeIds g ids).h.get k = g.h.get k := by
    intro ids
    induction ids with
    | nil => intro g; exact ⟨[], rfl, fun _ _ => rfl⟩
    | cons i is ih =>
      intro g
      simp only [freezeIds]
      split
      · rename_i sz rows ep lo fz hget
        obtain ⟨new, a, b⟩ := ih (g.put i (.cells sz rows ep lo true))
        refine ⟨new ++ [i], by rw [a]; simp, fun k hk => ?_⟩
        rw [b k fun h => hk (List.mem_append_left _ h)]
        simp only [G.put_h, H.get_put]
        rw [if_neg]
        rintro rfl; exact hk (List.mem_append_right _ List.mem_cons_self)
      · exact ih g

/-- The state behind an operation's outcome. -/
def gOf (g : G) : OR → G
  | .upd _ g' => g'
  | _ => g
def vOf : OR → AV
  | .upd v _ => v
  | .val v => v
  | _ => .undef

theorem isoCall_mon {ih : IH} {d : Nat} {g : G} {f : Nat} {args : List AV} (hwf : WF g) : Mon g (gOf g (isoCall ih d g f args)) := by
  unfold isoCall
  split
  · exact Mon.refl g
  split
  · exact Mon.refl g
  split
  · exact Mon.refl g
  split
  · exact Mon.refl g
  rw [bif'_eq]
  split
  · exact Mon.refl g
  split
  · exact Mon.refl g
  split
  · exact Mon.refl g
  rw [bif'_eq]
  split
  · exact freezeIds_mon _ _ hwf
  · exact Mon.refl g

theorem isoCall_sim {ih : IH} {g : G} {f : Nat} {args : List AV} {vs : List Value} (hc : CallOk C ih) (hm : CallMon ih) (hr : Rel C A bd w γ hg nx)
    (hx : ∀ id ∈ args.flatMap (snapIds g.h depthA), g.h.get id ≠ .none → hg id = g.h.get id)
    (hv : RVs w γ A bd args vs) (hne : isoCall ih (bd + 1) g f args ≠ .fail) (cs : List Frame) :
    Enters C.P f ∧ ∃ u w' γ' hg', Fin C A bd w γ hg nx g w' γ' hg' (gOf g (isoCall ih (bd + 1) g f args)) ∧ RV w' γ' A bd (vOf (isoCall ih (bd + 1) g f args)) u ∧
      Outs C.P .normal f vs.toArray cs w u w' := by
  let γc : Gm := fun _ => ⟨0, 0, 0, 0, 0, 0, 0, false⟩
  let L : Nat → Prop := fun id => id ∈ args.flatMap (snapIds g.h depthA)
  let isC : Nat → Prop := fun id => ∃ sz rows ep lo fz, g.h.get id = .cells sz rows ep lo fz
  let Ac : Nat → Nat → Prop := fun t b => (t ≤ bd ∧ (A t b ∨ Mut γ b)) ∨ (t = bd + 1 ∧ b < w.heap.size ∧ ¬ ∃ id, L id ∧ isC id ∧ (γ id).kind = 1 ∧ (γ id).blk = b)
  have hmutc : ∀ b, ¬ Mut γc b := by rintro b ⟨id, h, _⟩; exact h rfl
  generalize hres : isoCall ih (bd + 1) g f args = res at *
  unfold isoCall at hres
  split at hres
  · exact absurd hres.symm hne
  rename_i as has
  have hshift : ∀ t b, t ≤ bd → b < w.heap.size → ¬ A t b → ¬ Mut γ b → ¬ Ac t b ∧ ¬ Mut γc b := by
    intro t b h1 _ h2 h3
    refine ⟨?_, hmutc b⟩
    rintro (⟨_, h | h⟩ | ⟨h, _⟩)
    · exact h2 h
    · exact h3 h
    · omega
  have hargs : RVs w γc Ac (bd + 1) as vs := by
    refine ⟨by rw [mapO_len has]; exact hv.1, fun i y v hy hvi => ?_⟩
    obtain ⟨x, h1, h2⟩ := mapO_get has i y hy
    refine (snap_rv (L := L) hr hx (Nat.le_succ _) (Nat.le_refl _) hshift ?_ depthA h2 (hv.2 i x v h1 hvi) fun id hid => List.mem_flatMap.2 ⟨x, List.mem_of_getElem? h1, hid⟩).1
    intro id hL hcell hk t h3 h4
    have ht : t = bd + 1 := Nat.le_antisymm h4 h3
    refine ⟨?_, hmutc _⟩
    rintro (⟨h, _⟩ | ⟨_, _, h⟩)
    · omega
    · exact h ⟨id, hL, hcell, hk, rfl⟩
  have hrc : Rel C Ac (bd + 1) w γc (fun _ => .none) 0 := by
    refine ⟨fun id => rfl, fun id h => absurd rfl h, fun i j h => absurd rfl h, fun id h => absurd rfl h, ?_, fun gl sz rows h => ?_⟩
    · rintro t b (⟨_, h | ⟨id, h1, h2, h3⟩⟩ | ⟨_, h, _⟩)
      · exact hr.ab t b h
      · rw [← h3]; exact (hr.lt id h1).2
      · exact h
    · have := hr.glob gl sz rows h
      exact (rv_shift this (rv_tree_closed this (.inr ⟨_, _, _, _, _, rfl⟩)) hshift).mono (Nat.le_succ _)
  split at hres
  · exact absurd hres.symm hne
  rename_i r g' hcall
  have hempty : G.empty.h.get = fun _ => AObj.none := by
    funext id; simp [G.empty, H.get, Tr.get_nil]
  obtain ⟨hent, hrun⟩ := hc (bd + 1) f as G.empty r g' hcall
  refine ⟨hent, ?_⟩
  obtain ⟨u, w', γ', hg', hfin, hru, hout⟩ := hrun Ac w γc (fun _ => .none) 0 vs hrc (fun id h => by rw [hempty] at h; exact absurd rfl h) (fun id _ => by rw [hempty])
    (fun _ _ _ => rfl) hargs .normal cs (.inl rfl)
  have hextc : Ext g'.h hg' := hfin.ext (hm _ _ _ _ _ _ hcall (fun id _ => by rw [hempty])) (fun id h => by rw [hempty] at h; exact absurd rfl h)
  have hsame : ∀ b, b < w.heap.size → w'.heap[b]? = w.heap[b]? := fun b hb => hfin.stp.fr b hb (hmutc b)
  have hstp : Stp w γ w' γ := stp_same hfin.stp.sz hfin.stp.os hfin.stp.tape hfin.stp.output hsame
  have hrw : Rel C A bd w' γ hg nx := hr.same hstp hsame
  split at hres
  · exact absurd hres.symm hne
  rename_i r' hsnap
  obtain ⟨hr', hcl⟩ := snap_rv (A' := Ac) (γ' := γc) (L := fun _ => True) hfin.rel (fun id _ => hextc id) (Nat.le_refl _) (Nat.zero_le _) (fun t b _ _ h _ => ⟨h, hmutc b⟩)
    (fun id _ _ hk t _ _ => ⟨hfin.rel.av id (by rw [hk]; decide) t, hmutc _⟩) depthA hsnap hru fun _ _ => trivial
  split at hres
  · exact absurd hres.symm hne
  rename_i m hm
  have hrm := tagO_rv _ hm hr'
  rw [bif'_eq] at hres
  split at hres
  · rename_i hlt
    rw [Nat.blt_eq] at hlt
    subst hres
    refine ⟨u, w', γ, hg, ⟨hrw.up (Nat.le_max_left _ _), hstp, ⟨[], rfl, fun _ h => absurd h List.not_mem_nil, fun _ _ => rfl⟩⟩, ?_, hout⟩
    refine (rv_shift hrm hcl fun t b h1 h2 h3 h4 => ⟨fun h => h3 (.inl ⟨by omega, .inl h⟩), fun h => h3 (.inl ⟨by omega, .inr h⟩)⟩).mono (by omega)
  · split at hres
    · exact absurd hres.symm hne
    rename_i r'' hun
    split at hres
    · exact absurd hres.symm hne
    rename_i m' hm'
    rw [bif'_eq] at hres
    split at hres
    rotate_left
    · exact absurd hres.symm hne
    rename_i hlt
    rw [Nat.blt_eq] at hlt
    subst hres
    obtain ⟨γ₁, hg₁, r1, s1, n1, ⟨new, l1, l2, l3⟩, f1, f2⟩ := freezeIds_sim (args.flatMap (snapIds g.h depthA)) g γ hg hrw hx
    have hmut : ∀ b, Mut γ₁ b → Mut γ b := by
      rintro b ⟨id, h1, h2, h3⟩
      obtain ⟨e1, e2, e3⟩ := f1 id
      exact ⟨id, by rw [← e1]; exact h1, e3 h2, by rw [← e2]; exact h3⟩
    refine ⟨u, w', γ₁, hg₁, ⟨r1.up (Nat.le_max_left _ _), hstp.trans s1, ⟨new, l1, l2, l3⟩⟩, ?_, hout⟩
    let A₁ : Nat → Nat → Prop := fun t b => if t = bd + 1 then ∃ t', A t' b else A t b
    have hmle : m ≤ bd + 1 := tagO_le _ hm hr'
    have hsh : RV w' γ₁ A₁ m r' u := by
      refine rv_shift hrm hcl fun t b h1 h2 h3 _ => ?_
      by_cases ht : t = bd + 1
      · have hb : w.heap.size ≤ b ∨ ∃ id, L id ∧ isC id ∧ (γ id).kind = 1 ∧ (γ id).blk = b := by
          by_cases hs : w.heap.size ≤ b
          · exact .inl hs
          · exact .inr (Classical.byContradiction fun hn => h3 (.inr ⟨ht, by omega, hn⟩))
        rcases hb with hb | ⟨id, q1, q2, q3, q4⟩
        · refine ⟨?_, fun hmu => ?_⟩
          · simp only [A₁, ht, if_true]
            rintro ⟨t', h⟩
            have := hr.ab t' b h
            omega
          · obtain ⟨id, p1, p2, p3⟩ := hmut b hmu
            have := (hr.lt id p1).2
            omega
        · refine ⟨?_, ?_⟩
          · simp only [A₁, ht, if_true]
            rintro ⟨t', h⟩
            rw [← q4] at h
            exact hr.av id (by rw [q3]; decide) t' h
          · rintro ⟨j, p1, p2, p3⟩
            obtain ⟨e1, e2, e3⟩ := f1 j
            have hj : j = id := hr.inj j id (by rw [← e1]; exact p1) (by rw [q3]; decide) (by rw [← e2, p3, q4])
            subst hj
            rw [f2 j q1 q2] at p2; cases p2
      · refine ⟨?_, fun h => h3 (.inl ⟨by omega, .inr (hmut b h)⟩)⟩
        simp only [A₁, ht, if_false]
        exact fun h => h3 (.inl ⟨by omega, .inl h⟩)
    obtain ⟨hf1, _⟩ := untag_rv (A' := A) (d := bd + 1) (fun t b h1 h2 => by simp only [A₁, show t ≠ bd + 1 by omega, if_false] at h2; exact h2)
      (fun b h2 t ht => h2 (by simp only [A₁, if_true]; exact ⟨t, ht⟩)) depthA hun (hsh.mono hmle) hcl
    exact (tagO_rv _ hm' hf1).mono (by omega)
end
end Hx
