/- The simple operations: append and copy, the whole. -/
import Derived.Test.YtkbieohddgjioaaHxOpsG
set_option linter.unusedVariables false
set_option linter.unusedSimpArgs false
set_option linter.unnecessarySimpa false
namespace Hx
open Go

section
variable {C : Cfg} {A : Nat → Nat → Prop} {bd : Nat} {w w' : World} {γ γ' : Gm} {hg : Nat → AObj} {nx : Nat}

theorem storeCells_nil {P : Program} (a : Addr) : (storeCells a []).run P w = .ok () w := rfl

theorem putRows_get {rows new : List (List AV)} {off : Nat} (h : off + new.length ≤ rows.length) :
    (putRows rows off new).length = rows.length ∧ ∀ i, (putRows rows off new)[i]? = if off ≤ i ∧ i < off + new.length then new[i - off]? else rows[i]? := by
  unfold putRows
  simp only [setR_eq, takeR_eq, dropR_eq, lenR_eq]
  split
  · rename_i r
    refine ⟨by simp, fun i => ?_⟩
    simp only [List.length_cons, List.length_nil] at h ⊢
    rw [List.getElem?_set]
    by_cases hi : off = i
    · subst hi; rw [if_pos rfl, if_pos (by omega), if_pos (by omega)]; simp
    · rw [if_neg hi, if_neg (by omega)]
  · refine ⟨by simp; omega, fun i => ?_⟩
    by_cases h1 : i < off
    · rw [if_neg (by omega), List.getElem?_append_left (by simp; omega), List.getElem?_take_of_lt h1]
    · rw [List.getElem?_append_right (by simp; omega)]
      simp only [List.length_take, Nat.min_eq_left (show off ≤ rows.length by omega)]
      by_cases h2 : i < off + new.length
      · rw [if_pos ⟨by omega, h2⟩, List.getElem?_append_left (by omega)]
      · rw [if_neg (by omega), List.getElem?_append_right (by omega), List.getElem?_drop]
        congr 1; omega

/-- Rows stored into an object. -/
theorem Rel.storeRows (hr : Rel C A bd w γ hg nx) {id sz ep off : Nat} {rows new : List (List AV)} {loose : Bool} (hid : hg id = .cells sz rows ep loose false)
    {c : Array Value} (hc : RowsRel w γ A bd sz new c) (hcs : c.size = new.length * sz) (hle : off + new.length ≤ rows.length) (P : Program) :
    ∃ w', (Go.storeCells (adr (γ id).blk ((γ id).base + off * sz)) c.toList).run P w = .ok () w' ∧
      Rel C A bd w' γ (upd hg id (.cells sz (putRows rows off new) ep loose false)) nx ∧ Stp w γ w' γ := by
  obtain ⟨p1, p2⟩ := putRows_get hle
  have hob := hr.obj id
  rw [hid] at hob
  obtain ⟨k1, k2, k3, k4, k5, k6, cc, e, k7, k8, k9, k10⟩ := hob
  obtain ⟨f1, f2, f3⟩ := hc.flat hcs
  have hcl : c.toList.length = new.length * sz := by simp [hcs]
  have hmul : (off + new.length) * sz ≤ rows.length * sz := Nat.mul_le_mul_right _ hle
  rw [Nat.add_mul] at hmul
  refine hr.storeCells hid (o := (γ id).base + off * sz) (xs := new.flatten) f1 f2 p1 (fun i row hi => ?_) ⟨by omega, by omega⟩ (fun i j row x hi hj => ?_) P
  · rw [p2] at hi
    split at hi
    · exact hc.2.1 _ _ hi
    · exact k9 _ _ hi
  · rw [p2] at hi
    rw [hcl]
    have hj' : j < sz := by
      have hl : row.length = sz := by
        split at hi
        · exact hc.2.1 _ _ hi
        · exact k9 _ _ hi
      rw [← hl]; exact (List.getElem?_eq_some_iff.1 hj).1
    by_cases hcond : off ≤ i ∧ i < off + new.length
    · rw [if_pos hcond] at hi
      have h1 : off * sz ≤ i * sz := Nat.mul_le_mul_right _ hcond.1
      have h2 : (i + 1) * sz ≤ (off + new.length) * sz := Nat.mul_le_mul_right _ hcond.2
      rw [Nat.add_mul, Nat.one_mul, Nat.add_mul] at h2
      rw [if_pos (by omega)]
      have h3 : (i - off) * sz + off * sz = i * sz := by rw [← Nat.add_mul]; congr 1; omega
      rw [show (γ id).base + i * sz + j - ((γ id).base + off * sz) = (i - off) * sz + j from by omega, f3 _ _ row hi hj']
      exact hj
    · rw [if_neg hcond] at hi
      rw [if_neg]
      · exact ⟨row, hi, hj⟩
      · rintro ⟨l1, l2⟩
        apply hcond
        refine ⟨?_, ?_⟩
        · rcases Nat.lt_or_ge i off with h | h
          · have : (i + 1) * sz ≤ off * sz := Nat.mul_le_mul_right _ h
            rw [Nat.add_mul, Nat.one_mul] at this; omega
          · exact h
        · rcases Nat.lt_or_ge i (off + new.length) with h | h
          · exact h
          · have : (off + new.length) * sz ≤ i * sz := Nat.mul_le_mul_right _ h
            rw [Nat.add_mul] at this; omega

theorem sub_rows {rows : List (List AV)} {off len : Nat} (h : off + len ≤ rows.length) : ((rows.drop off).take len).length = len := by simp; omega

noncomputable def appEmpty (sz bytes : Nat) (s0 : AV) (new : List (List AV)) (g : G) : OR :=
  match new with
  | [] => .val s0
  | _ => bif' (Nat.ble (lenR new * bytes) room) (.upd (.hsl g.nx 0 0 (lenR new) none) (g.new (.cells sz new 0 true false))) .fail

theorem appendRows_sim {e : TypeId} {sz bytes : Nat} {zero : List AV} {s : AV} {v x : Value} {new : List (List AV)} {zs : Bool} {appended : Sem (Array Value)} {g : G}
    (hr : Rel C A bd w γ hg nx) (hf : (γ g.nx).kind = 0) (hs : RV w γ A bd s v) (hby : bytesT C.P e = some bytes) (hz : zeroT C.P e = some zero) (hzl : zero.length = sz)
    (hb0 : 0 < bytes) (happ : ∀ w1 : World, w1 = w ∨ w1 = World.drewn w → ∃ c, appended.run C.P w1 = .ok c w1 ∧ c.size = new.length * sz ∧ RowsRel w γ A bd sz new c)
    (agree : ∀ id ∈ refIds s, hg id = g.h.get id) :
    appendRows sz bytes s new g = .fail ∨ ∃ base sLen sCap, v = .slice base sLen sCap ∧
      UpdSim C A bd w γ hg nx (appTail e sz bytes base sLen sCap new.length zs v x appended) g (appendRows sz bytes s new g) := by
  have hnil : ∀ (base : Option Addr) (cap : Nat), new = [] → ∀ len, len ≤ cap → (appTail e sz bytes base len cap new.length zs (.slice base len cap) x appended).run C.P w = .ok (.slice base len cap) w := by
    intro base cap hn len hl
    obtain ⟨c, c1, c2, _⟩ := happ w (.inl rfl)
    have hc0 : c = #[] := by rw [hn] at c2; simpa using c2
    rw [appTail_fit (by rw [hn]; simpa using hl) c1, hn, hc0]
    cases base <;> simp [storeCells_nil]
  have hempty : ∀ (base : Option Addr) (s0 : AV), RV w γ A bd s0 (.slice base 0 0) → (Builtin.firstCells sz 0 (.slice base 0 0)).run C.P (World.drewn w) = .ok #[] (World.drewn w) →
      appEmpty sz bytes s0 new g = .fail ∨
      UpdSim C A bd w γ hg nx (appTail e sz bytes base 0 0 new.length zs (.slice base 0 0) x appended) g (appEmpty sz bytes s0 new g) := by
    intro base s0 hs0 hold
    rcases hnew : new with _ | ⟨r, rs⟩
    · exact .inr ⟨.slice base 0 0, hnew ▸ hnil base 0 hnew 0 (Nat.le_refl _), hs0⟩
    · rw [← hnew]
      have hne : appEmpty sz bytes s0 new g = bif' (Nat.ble (lenR new * bytes) room) (OR.upd (.hsl g.nx 0 0 (lenR new) none) (g.new (.cells sz new 0 true false))) OR.fail := by
        rw [hnew]; rfl
      rw [hne]
      simp only [lenR_eq, bif'_eq]
      split
      · rename_i hroom
        rw [Nat.ble_eq] at hroom
        refine .inr ?_
        obtain ⟨c, c1, c2, c3⟩ := happ (World.drewn w) (.inr rfl)
        have hpos : 0 < new.length := by rw [hnew]; simp
        obtain ⟨newCap, rest, n1, n2, n3⟩ := appTail_grow (zs := zs) (x := x) (w := w) hby hz hzl hb0 (sLen := 0) (n := new.length) (sCap := 0) (by simpa using hroom) (by omega) hold c1
        have hcap : newCap * sz ≤ (#[] ++ c ++ rest).size := by
          simp only [Array.size_append, n2, c2, List.size_toArray, List.length_nil]
          rw [Nat.zero_add, ← Nat.add_mul]; apply Nat.mul_le_mul_right; omega
        obtain ⟨γ', s1, s2, s3⟩ := grown_new (e := e) (cs := #[] ++ c ++ rest) hr hf (by simpa using c3.more) new.length newCap hcap (by omega) rfl n1.2
        rw [Nat.zero_add] at n3
        exact ⟨_, _, γ', g.nx, _, n3, s3, s2, .inr ⟨rfl, rfl, s1⟩⟩
      · exact .inl rfl
  unfold appendRows
  cases hs with
  | nils => exact (hempty none .nils (.nils _) (by simp [Builtin.firstCells])).imp id fun h => ⟨none, 0, 0, rfl, h⟩
  | esl _ a => exact (hempty (some a) .esl (.esl _ a) (by simp [Builtin.firstCells, loadCells, loadCellsFrom])).imp id fun h => ⟨some a, 0, 0, rfl, h⟩
  | tsl _ tag sz' rows b o cap cell ht hc hb hm ha hrl ho hw h hcl =>
    cases hnew : new with
    | nil =>
      refine .inr ⟨some (adr b o), rows.length, cap, rfl, .slice (some (adr b o)) rows.length cap, (hnew ▸ hnil _ cap hnew rows.length hc), .tsl _ tag sz' rows b o cap cell ht hc hb hm ha hrl ho hw h hcl⟩
    | cons r rs => exact .inl rfl
  | tnil _ tag sz' a cap ht =>
    cases hnew : new with
    | nil => exact .inr ⟨some a, 0, cap, rfl, .slice (some a) 0 cap, (hnew ▸ hnil _ cap hnew 0 (Nat.zero_le _)), .tnil _ tag sz' a cap ht⟩
    | cons r rs => exact .inl rfl
  | hsl _ id ep off len lim b0 o0 cap0 hk he hc0 h0 =>
    have hagree := agree id (by simp [refIds])
    simp only [G.get_eq, ← hagree]
    cases hid : hg id with
    | cells sz' rows ep' loose fz =>
      dsimp only
      simp only [lenR_eq, bif'_eq]
      split
      · rename_i hcond
        simp only [Bool.and_eq_true, Nat.ble_eq] at hcond
        obtain ⟨⟨⟨h1, h2⟩, h3⟩, h4⟩ := hcond
        have h1 := nat_beq h1; have h2 := nat_beq h2; subst h1; subst h2
        obtain ⟨cap, hv, hlc, hco⟩ := hsl_at hr (RV.hsl bd id ep off len lim b0 o0 cap0 hk he hc0 h0) hid
        rw [hv]
        have hob := hr.obj id
        rw [hid] at hob
        obtain ⟨k1, k2, k3, k4, k5, k6, cc, ee, k7, k8, k9, k10⟩ := hob
        split
        · rename_i hfit
          rw [Nat.ble_eq] at hfit
          have hcapfit : len + new.length ≤ cap := by
            unfold CapOk at hco
            cases lim with
            | none => simp at hfit; dsimp only at hco; omega
            | some c => simp at hfit; dsimp only at hco; omega
          cases hnew : new with
          | nil =>
            refine .inr ⟨some (adr (γ id).blk ((γ id).base + off * sz)), len, cap, rfl, .slice (some (adr (γ id).blk ((γ id).base + off * sz))) len cap, (hnew ▸ hnil _ cap hnew len hlc), ?_⟩
            rw [← hv]; exact RV.hsl bd id ep off len lim b0 o0 cap0 hk he hc0 h0
          | cons r rs =>
            dsimp only
            rw [← hnew]
            split
            · rename_i hc2
              simp only [Bool.and_eq_true, Nat.ble_eq, notb_eq, Bool.not_eq_true'] at hc2
              obtain ⟨h5, h6⟩ := hc2
              subst h6
              refine .inr ⟨_, _, _, rfl, ?_⟩
              obtain ⟨c, c1, c2, c3⟩ := happ w (.inl rfl)
              obtain ⟨w', r1, r2, r3⟩ := hr.storeRows hid (off := off + len) c3 c2 (by omega) C.P
              refine ⟨.slice (some (adr (γ id).blk ((γ id).base + off * sz))) (len + new.length) cap, w', γ, id, _, ?_, ?_, r3, .inl ⟨rfl, r2⟩⟩
              · rw [appTail_fit hcapfit c1]
                dsimp only
                rw [adr_add, show (γ id).base + off * sz + len * sz = (γ id).base + (off + len) * sz from by rw [Nat.add_mul]; omega, r1]
                rfl
              · exact .hsl _ id ep off _ lim _ _ cap k1 (by omega) hcapfit (fun _ => ⟨rfl, by rw [k3], hco⟩)
            · exact .inl rfl
        · rename_i hnofit
          rw [Nat.ble_eq] at hnofit
          have hold0 := (obj_rowsAt hr hid).sub off len
          have hsub := sub_rows (rows := rows) (off := off) (len := len) h3
          have hstp : Stp w γ (World.drewn w) γ := stp_drewn
          split
          · rename_i hstrict
            -- a copy
            refine .inr ⟨_, _, _, rfl, ?_⟩
            have hgt : ¬ len + new.length ≤ cap := by
              unfold CapOk at hco
              cases lim with
              | none =>
                simp at hstrict; dsimp only at hco
                have := k5.1 hstrict
                simp at hnofit; omega
              | some c => simp at hnofit; dsimp only at hco; omega
            obtain ⟨c, c1, c2, c3⟩ := happ (World.drewn w) (.inr rfl)
            obtain ⟨oc, o1, o2, o3⟩ := firstCells_obj (P := C.P) (cap := cap) (hold0.same hstp rfl) hsub
            rw [hsub] at o2
            obtain ⟨newCap, rest, n1, n2, n3⟩ := appTail_grow (zs := zs) (x := x) (w := w) hby hz hzl hb0 (sLen := len) (n := new.length) (sCap := cap) (base := some (adr (γ id).blk ((γ id).base + off * sz))) (by simpa using h4) hgt o1 c1
            have hcap : newCap * sz ≤ (oc ++ c ++ rest).size := by
              simp only [Array.size_append, n2, c2, o2]
              rw [← Nat.add_mul, ← Nat.add_mul]; apply Nat.mul_le_mul_right; omega
            have hrows : RowsRel w γ A bd sz ((rows.drop off).take len ++ new) (oc ++ c ++ rest) := (o3.back.append (by rw [hsub]; exact o2) c3).more
            obtain ⟨γ', s1, s2, s3⟩ := grown_new (e := e) (cs := oc ++ c ++ rest) hr hf hrows (len + new.length) newCap hcap (by simp [hsub]; omega) (by simp [hsub]) n1.2
            refine ⟨_, _, γ', g.nx, _, n3, s3, s2, .inr ⟨?_, rfl, s1⟩⟩
            simp only [takeR_eq, dropR_eq]
          · rename_i hloose
            split
            · exact .inl rfl
            · rename_i hfz
              have hfz : fz = false := by simpa using hfz
              subst hfz
              have hl : lim = none ∧ loose = true := by
                cases lim <;> cases loose <;> simp_all
              obtain ⟨hl1, hl2⟩ := hl
              subst hl1; subst hl2
              have hco' : off + cap = rows.length + (γ id).slack := by unfold CapOk at hco; dsimp only at hco; omega
              refine .inr ⟨_, _, _, rfl, ?_⟩
              by_cases hfit : len + new.length ≤ cap
              · -- in place
                obtain ⟨c, c1, c2, c3⟩ := happ w (.inl rfl)
                have hcsz : (γ id).base + off * sz + len * sz + c.toList.length ≤ cc.size := by
                  have : (off + (len + new.length)) * sz ≤ (rows.length + (γ id).slack) * sz := Nat.mul_le_mul_right _ (by omega)
                  rw [Nat.add_mul, Nat.add_mul] at this
                  simp [c2]; omega
                obtain ⟨f1, f2, f3⟩ := c3.flat c2
                have hrun := storeCells_run (P := C.P) c.toList 0 w cc k7 (o := (γ id).base + off * sz + len * sz) (by simpa using hcsz) (rvs_one f1 f2)
                simp only [Nat.add_zero] at hrun
                let gh : Gh := ⟨1, ep + 1, sz, len + new.length, (γ id).blk, (γ id).base + off * sz, cap - (len + new.length), true⟩
                obtain ⟨s1, s2⟩ := hr.moved hid (w1 := World.setBlk w (γ id).blk (.cells (setCells cc ((γ id).base + off * sz + len * sz) c.toList) ee (0, 0))) (gh := gh)
                  (rows' := (rows.drop off).take len ++ new) rfl rfl rfl (by simp [gh, hsub]) rfl ⟨rfl, rfl, rfl, by simp⟩ (by have := k5.2 rfl; simp [gh, hsub]; omega) (.inl rfl)
                  (fun b _ hb => by rw [setBlk_heap, if_neg]; rintro ⟨e, _⟩; exact hb e)
                  (c := setCells cc ((γ id).base + off * sz + len * sz) c.toList) (e := ee)
                  (by rw [setBlk_heap]; simp [gh, (hr.lt id (by rw [k1]; decide)).2])
                  (by
                    simp only [gh, setCells_size, List.length_append, hsub]
                    have : (off + cap) * sz ≤ (rows.length + (γ id).slack) * sz := Nat.mul_le_mul_right _ (by omega)
                    rw [Nat.add_mul] at this
                    rw [show len + new.length + (cap - (len + new.length)) = cap from by omega]; omega)
                  (fun i row hi => by
                    rw [List.getElem?_append] at hi
                    split at hi
                    · exact hold0.1 _ _ hi
                    · exact c3.2.1 _ _ hi)
                  (fun i j row y hi hj => by
                    rw [List.getElem?_append, hsub] at hi
                    split at hi
                    · rename_i hil
                      have hi' := hi
                      rw [List.getElem?_take_of_lt hil, List.getElem?_drop] at hi'
                      have hjs : j < sz := by rw [← k9 _ _ hi']; exact (List.getElem?_eq_some_iff.1 hj).1
                      obtain ⟨a, v, b1, b2⟩ := k10 _ j row y hi' hj
                      refine ⟨a, v, ?_, b2⟩
                      rw [setCells_get _ _ _ _ hcsz, if_neg]
                      · simp only [gh]
                        rw [show (γ id).base + off * sz + i * sz + j = (γ id).base + (off + i) * sz + j from by rw [Nat.add_mul]; omega]; exact b1
                      · simp only [gh]
                        have : (i + 1) * sz ≤ len * sz := Nat.mul_le_mul_right _ hil
                        rw [Nat.add_mul, Nat.one_mul] at this
                        omega
                    · rename_i hil
                      have hjs : j < sz := by rw [← c3.2.1 _ _ hi]; exact (List.getElem?_eq_some_iff.1 hj).1
                      have hlt : i - len < new.length := (List.getElem?_eq_some_iff.1 hi).1
                      obtain ⟨a, v, b1, b2⟩ := c3.2.2 _ j row y hi hj
                      refine ⟨a, v, ?_, b2⟩
                      have e1 : i * sz = len * sz + (i - len) * sz := by rw [← Nat.add_mul]; congr 1; omega
                      have e2 : (i - len + 1) * sz ≤ new.length * sz := Nat.mul_le_mul_right _ hlt
                      rw [Nat.add_mul, Nat.one_mul] at e2
                      rw [setCells_get _ _ _ _ hcsz]
                      simp only [gh]
                      rw [if_pos (by simp [c2]; omega), show (γ id).base + off * sz + i * sz + j - ((γ id).base + off * sz + len * sz) = (i - len) * sz + j from by omega]
                      simpa using b1)
                refine ⟨.slice (some (adr (γ id).blk ((γ id).base + off * sz))) (len + new.length) cap, _, _, id, _, ?_, ?_, s2, .inl ⟨?_, s1⟩⟩
                · rw [appTail_fit hfit c1]
                  dsimp only
                  rw [adr_add, hrun]; rfl
                · refine .hsl _ id (ep + 1) 0 _ none _ _ cap (by simp [gh]) (by simp [gh]) hfit (fun _ => ⟨by simp [gh], by simp [gh], ?_⟩)
                  simp only [CapOk, upd_same, gh]; omega
                · simp only [takeR_eq, dropR_eq]
              · -- elsewhere
                obtain ⟨c, c1, c2, c3⟩ := happ (World.drewn w) (.inr rfl)
                obtain ⟨oc, o1, o2, o3⟩ := firstCells_obj (P := C.P) (cap := cap) (hold0.same hstp rfl) hsub
                rw [hsub] at o2
                obtain ⟨newCap, rest, n1, n2, n3⟩ := appTail_grow (zs := zs) (x := x) (w := w) hby hz hzl hb0 (sLen := len) (n := new.length) (sCap := cap) (base := some (adr (γ id).blk ((γ id).base + off * sz))) (by simpa using h4) hfit o1 c1
                have hcap : newCap * sz ≤ (oc ++ c ++ rest).size := by
                  simp only [Array.size_append, n2, c2, o2]
                  rw [← Nat.add_mul, ← Nat.add_mul]; apply Nat.mul_le_mul_right; omega
                have hrows : RowsRel w γ A bd sz ((rows.drop off).take len ++ new) (oc ++ c ++ rest) := (o3.back.append (by rw [hsub]; exact o2) c3).more
                let gh : Gh := ⟨1, ep + 1, sz, len + new.length, w.heap.size, 0, newCap - (len + new.length), true⟩
                obtain ⟨s1, s2⟩ := hr.moved hid (w1 := World.add (World.drewn w) (.cells (oc ++ c ++ rest) e (0, 0))) (gh := gh)
                  (rows' := (rows.drop off).take len ++ new) rfl rfl rfl (by simp [gh, hsub]) rfl ⟨rfl, rfl, rfl, by simp [World.drewn]⟩ (by have := n1.1; have := n1.2; simp [gh, hsub]; omega) (.inr ⟨rfl, by simp [World.drewn]⟩)
                  (fun b hb _ => by rw [add_heap, if_neg (by simp [World.drewn]; omega)]; rfl)
                  (c := oc ++ c ++ rest) (e := e) (by rw [add_heap]; simp [gh, World.drewn])
                  (by simp only [gh, List.length_append, hsub]; rw [show len + new.length + (newCap - (len + new.length)) = newCap from by omega]; omega)
                  hrows.2.1 (fun i j row y hi hj => by simpa [gh] using hrows.2.2 i j row y hi hj)
                refine ⟨_, _, _, id, _, n3, ?_, s2, .inl ⟨?_, s1⟩⟩
                · refine .hsl _ id (ep + 1) 0 _ none _ _ newCap (by simp [gh]) (by simp [gh]) n1.1 (fun _ => ⟨by simp [gh], by simp [gh], ?_⟩)
                  simp only [CapOk, upd_same, gh]; omega
                · simp only [takeR_eq, dropR_eq]
      · exact .inl rfl
    | _ => exact .inl rfl
  | _ => exact .inl rfl

end
end Hx
