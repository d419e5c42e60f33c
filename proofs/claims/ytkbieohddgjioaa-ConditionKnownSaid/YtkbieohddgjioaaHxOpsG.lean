/- The simple operations: append. -/
import Derived.Test.YtkbieohddgjioaaHxOpsF
set_option linter.unusedVariables false
set_option linter.unusedSimpArgs false
set_option linter.unnecessarySimpa false
namespace Hx
open Go

section
variable {C : Cfg} {A : Nat → Nat → Prop} {bd : Nat} {w w' : World} {γ γ' : Gm} {hg : Nat → AObj} {nx : Nat}

/-- A world after one answer of the tape. -/
def World.drewn (w : World) : World := { w with drawn := w.drawn + 1 }
theorem stp_drewn : Stp w γ (World.drewn w) γ :=
  ⟨Nat.le_refl _, rfl, rfl, rfl, fun _ _ _ => rfl, fun _ _ h => h, fun _ _ => .inl ⟨rfl, rfl⟩, fun _ _ => ⟨Nat.le_refl _, fun _ => ⟨rfl, rfl, rfl, rfl, rfl⟩⟩⟩

theorem Rel.stpSame (h : Rel C A bd w γ hg nx) (s : Stp w γ w' γ) (hh : w'.heap = w.heap) : Rel C A bd w' γ hg nx where
  obj id := (h.obj id).step s rfl (fun _ _ => by rw [hh])
  lt id hk := by rw [hh]; exact h.lt id hk
  inj := h.inj
  av := h.av
  ab t b hb := by rw [hh]; exact h.ab t b hb
  glob g sz rows hg := (h.glob g sz rows hg).step s

theorem nextslicecap_le (need cap : Nat) (h : cap < need) : Builtin.nextslicecap need cap ≤ 2 * need + 192 := by
  have grow : ∀ (r c : Nat), c ≤ 2 * need + 192 → Builtin.growBy need r c ≤ 2 * need + 192 := by
    intro r
    induction r with
    | zero => intro c hc; exact hc
    | succ r ih =>
      intro c hc
      simp only [Builtin.growBy]
      split
      · exact hc
      · exact ih _ (by omega)
  unfold Builtin.nextslicecap
  split
  · omega
  · split
    · omega
    · exact grow _ _ (by omega)

theorem ofVs_len : ∀ {vs : List Value} {as : List AV}, ofVs vs = some as → vs.length = as.length := by
  intro vs
  induction vs with
  | nil => intro as h; simp [ofVs] at h; subst h; rfl
  | cons v vs ih =>
    intro as h
    simp only [ofVs] at h
    split at h
    · rename_i a as' h1 h2; injection h with h; subst h; simp [ih h2]
    · cases h

/-- What an append knows of what it appends. -/
structure Src (C : Cfg) (A : Nat → Nat → Prop) (bd sz : Nat) (w : World) (γ : Gm) (new : List (List AV)) (m : Sem (Array Value)) : Prop where
  run : ∀ w1 : World, w1.heap = w.heap → ∃ c, m.run C.P w1 = .ok c w1 ∧ c.size = new.length * sz ∧ RowsRel w γ A bd sz new c

/-- The end of an append. -/
def appTail (e : TypeId) (sz bytes : Nat) (base : Option Addr) (sLen sCap n : Nat) (zeros : Bool) (s x : Value) (appended : Sem (Array Value)) : Sem Value := do
  let need := sLen + n
  if need ≤ sCap then
    let new ← appended
    if let some a := base then storeCells (a.add (sLen * sz)) new.toList
    pure (.slice base need sCap)
  else
    if (need : Int) > IntKind.i64.max ∧ (zeros ∨ (← typeInfo e).bytes = 0) then runtimePanic (.error "growslice: len out of range")
    if Builtin.nextslicecap need sCap * (← typeInfo e).bytes > 2 ^ 48 then (if zeros then runtimePanic (.error "growslice: len out of range") else do
      if !(← Builtin.mayShare sz sLen n base x) then mark .noRoom
      unsupported (.resourceLimit "append: a slice or a string whose bytes no memory bears"))
    let newCap ← choose (.appendCap need sCap e)
    askRoom (newCap * (← typeInfo e).bytes)
    let old ← Builtin.firstCells sz sLen s
    let new ← appended
    let rest := Builtin.zeroCells (← zeroValue e).cells (newCap - need)
    pure (.slice (some (← newRow e (old ++ new ++ rest))) need newCap)

/-- The way that grows. -/
theorem appTail_grow {e : TypeId} {sz bytes : Nat} {base : Option Addr} {sLen sCap n : Nat} {zs : Bool} {s x : Value} {appended : Sem (Array Value)} {zero : List AV}
    (hby : bytesT C.P e = some bytes) (hz : zeroT C.P e = some zero) (hzl : zero.length = sz) (h0 : 0 < bytes) (hroom : (sLen + n) * bytes ≤ room) (hn : ¬ sLen + n ≤ sCap)
    {oldc newc : Array Value} (hold : (Builtin.firstCells sz sLen s).run C.P (World.drewn w) = .ok oldc (World.drewn w))
    (hnew : appended.run C.P (World.drewn w) = .ok newc (World.drewn w)) :
    ∃ newCap rest, (sLen + n ≤ newCap ∧ newCap ≤ 9223372036854775807) ∧ rest.size = (newCap - (sLen + n)) * sz ∧
      (appTail e sz bytes base sLen sCap n zs s x appended).run C.P w =
        .ok (.slice (some (adr w.heap.size 0)) (sLen + n) newCap) (World.add (World.drewn w) (.cells (oldc ++ newc ++ rest) e (0, 0))) := by
  have hi : ∃ i, C.P.info? e = some i ∧ i.bytes = bytes := by
    unfold bytesT at hby
    cases hie : C.P.info? e with
    | none => rw [hie] at hby; cases hby
    | some i => rw [hie] at hby; simp at hby; exact ⟨i, rfl, hby⟩
  obtain ⟨i, i1, i2⟩ := hi
  obtain ⟨z, z1, z2⟩ := run_zero (w := World.drewn w) hz
  have hzs : z.cells.size = sz := by
    have := ofVs_len z2; simp at this; omega
  unfold room at hroom
  have hle : sLen + n ≤ (sLen + n) * bytes := Nat.le_mul_of_pos_right _ h0
  have hns := nextslicecap_le (sLen + n) sCap (by omega)
  have hb1 : Builtin.nextslicecap (sLen + n) sCap * bytes ≤ 2 ^ 48 := by
    have h1 : Builtin.nextslicecap (sLen + n) sCap * bytes ≤ (2 * (sLen + n) + 192) * bytes := Nat.mul_le_mul_right _ hns
    have h2 : bytes ≤ (sLen + n) * bytes := Nat.le_mul_of_pos_left _ (by omega)
    have h3 : (2 * (sLen + n) + 192) * bytes = 2 * ((sLen + n) * bytes) + 192 * bytes := by rw [Nat.add_mul, Nat.mul_assoc]
    omega
  let q : Question := .appendCap (sLen + n) sCap e
  let newCap := q.cut (w.tape w.drawn q)
  have hcut : sLen + n ≤ newCap ∧ newCap ≤ 9223372036854775807 := by
    have hmod : w.tape w.drawn q % (2 ^ 63 - (sLen + n)) < 2 ^ 63 - (sLen + n) := Nat.mod_lt _ (by omega)
    have : newCap = (sLen + n) + w.tape w.drawn q % (2 ^ 63 - (sLen + n)) := rfl
    omega
  refine ⟨newCap, Builtin.zeroCells z.cells (newCap - (sLen + n)), hcut, by simp [Builtin.zeroCells, hzs], ?_⟩
  unfold appTail
  have hi64 : ¬ (((sLen + n : Nat) : Int) > IntKind.i64.max) := by
    have : IntKind.i64.max = 9223372036854775807 := by decide
    rw [this]; omega
  have hch : (choose (.appendCap (sLen + n) sCap e)).run C.P w = .ok newCap (World.drewn w) := by
    rw [run_choose]; rfl
  have hnb : ¬ (Builtin.nextslicecap (sLen + n) sCap * bytes > 2 ^ 48) := by omega
  dsimp only
  rw [if_neg hn]
  simp only [Sem.run_bind, run_info i1, Result.andThen_ok, i2]
  rw [if_neg (fun h => hi64 h.1)]
  simp only [Sem.run_pure, Result.andThen_ok, Sem.run_bind, run_info i1, i2]
  rw [if_neg hnb]
  simp only [Sem.run_bind, Sem.run_pure, Result.andThen_ok, hch, run_info i1, run_askRoom, hold, hnew, z1, run_newRow, Sem.run_map]
  rfl

/-- The way within the capacity. -/
theorem appTail_fit {e : TypeId} {sz bytes : Nat} {base : Option Addr} {sLen sCap n : Nat} {zs : Bool} {s x : Value} {appended : Sem (Array Value)}
    (hn : sLen + n ≤ sCap) {newc : Array Value} (hnew : appended.run C.P w = .ok newc w) :
    (appTail e sz bytes base sLen sCap n zs s x appended).run C.P w =
      match base with
      | none => .ok (.slice none (sLen + n) sCap) w
      | some a => ((storeCells (a.add (sLen * sz)) newc.toList).run C.P w).andThen fun _ w' => .ok (.slice (some a) (sLen + n) sCap) w' := by
  unfold appTail
  dsimp only
  rw [if_pos hn]
  simp only [Sem.run_bind, hnew, Result.andThen_ok]
  cases base with
  | none => simp
  | some a => simp

/-- A value that is a slice over an object: where it lies. -/
theorem hsl_at (hr : Rel C A bd w γ hg nx) {id ep off len sz : Nat} {lim : Option Nat} {v : Value} {rows : List (List AV)} {loose fz : Bool}
    (hv : RV w γ A bd (.hsl id ep off len lim) v) (hid : hg id = .cells sz rows ep loose fz) :
    ∃ cap, v = .slice (some (adr (γ id).blk ((γ id).base + off * sz))) len cap ∧ len ≤ cap ∧ CapOk lim off cap (γ id) := by
  cases hv with
  | hsl _ _ _ _ _ _ b o cap hk he hc h =>
    have hob := hr.obj id
    rw [hid] at hob
    obtain ⟨k1, k2, k3, _⟩ := hob
    obtain ⟨c1, c2, c3⟩ := h k2.symm
    exact ⟨cap, by rw [c1, c2, k3], hc, c3⟩

theorem firstCells_obj {P : Program} {b o len cap sz : Nat} {rows : List (List AV)} (h : RowsAt w γ A bd sz rows b o) (hl : rows.length = len) :
    ∃ c, (Builtin.firstCells sz len (.slice (some (adr b o)) len cap)).run P w = .ok c w ∧ c.size = rows.length * sz ∧ RowsRel w γ A bd sz rows c := by
  obtain ⟨c, h1, h2, h3⟩ := loadRows h P
  exact ⟨c, by simp only [Builtin.firstCells]; rw [← hl]; exact h1, h2, h3⟩

theorem RowsAt.same {rows : List (List AV)} {sz b o : Nat} (h : RowsAt w γ A bd sz rows b o) (s : Stp w γ w' γ) (hh : w'.heap = w.heap) : RowsAt w' γ A bd sz rows b o :=
  ⟨h.1, fun i j row x h1 h2 => let ⟨a, v, c, d⟩ := h.2 i j row x h1 h2; ⟨a, v, by rw [cell_fr (w := w) (w' := w') (by rw [hh])]; exact c, d.step s⟩⟩

theorem RowsRel.back {rows : List (List AV)} {sz : Nat} {c : Array Value} (h : RowsRel (World.drewn w) γ A bd sz rows c) : RowsRel w γ A bd sz rows c := by
  have s : Stp (World.drewn w) γ w γ :=
    ⟨Nat.le_refl _, rfl, rfl, rfl, fun _ _ _ => rfl, fun _ _ h => h, fun _ _ => .inl ⟨rfl, rfl⟩, fun _ _ => ⟨Nat.le_refl _, fun _ => ⟨rfl, rfl, rfl, rfl, rfl⟩⟩⟩
  exact h.step s

/-- A new object behind an answer of the tape. -/
theorem grown_new {e : TypeId} {sz : Nat} {rows : List (List AV)} {cs : Array Value} (hr : Rel C A bd w γ hg nx) {g : G} (hf : (γ g.nx).kind = 0)
    (h : RowsRel w γ A bd sz rows cs) (len cap : Nat) (hc : cap * sz ≤ cs.size) (hcap : rows.length ≤ cap) (hlen : len = rows.length) (hmax : cap ≤ 9223372036854775807) :
    ∃ γ', Rel C A bd (World.add (World.drewn w) (.cells cs e (0, 0))) γ' (upd hg g.nx (.cells sz rows 0 true false)) (Nat.max nx (g.nx + 1)) ∧
      Stp w γ (World.add (World.drewn w) (.cells cs e (0, 0))) γ' ∧
      RV (World.add (World.drewn w) (.cells cs e (0, 0))) γ' A bd (.hsl g.nx 0 0 len none) (.slice (some (adr w.heap.size 0)) len cap) := by
  have s0 : Stp w γ (World.drewn w) γ := stp_drewn
  have hr' := hr.stpSame s0 rfl
  obtain ⟨γ', s1, s2, s3⟩ := newSlice_sim (w := World.drewn w) e hr' hf (h.step s0) len cap true (cap - rows.length) ⟨fun h => (by cases h), fun _ => (by omega)⟩
    (by rw [show rows.length + (cap - rows.length) = cap from by omega]; exact hc) (by omega) (by omega)
  exact ⟨γ', s1, s0.trans s2, s3⟩

/-- The object of an append lies elsewhere now, or is longer. -/
theorem Rel.moved (hr : Rel C A bd w γ hg nx) {id : Nat} {sz ep : Nat} {rows rows' : List (List AV)} {loose : Bool} (hid : hg id = .cells sz rows ep loose false)
    {w1 : World} {gh : Gh} (h1 : gh.kind = 1) (h2 : gh.ep = ep + 1) (h3 : gh.sz = sz) (h4 : gh.n = rows'.length) (h5 : gh.wr = true)
    (hos : w1.os = w.os ∧ w1.tape = w.tape ∧ w1.output = w.output ∧ w.heap.size ≤ w1.heap.size)
    (hmax : rows'.length + gh.slack ≤ 9223372036854775807) (hb : gh.blk = (γ id).blk ∨ (gh.blk = w.heap.size ∧ w.heap.size < w1.heap.size))
    (hheap : ∀ b, b < w.heap.size → b ≠ (γ id).blk → w1.heap[b]? = w.heap[b]?)
    {c : Array Value} {e : TypeId} (hc : w1.heap[gh.blk]? = some (.cells c e (0, 0))) (hsz : gh.base + (rows'.length + gh.slack) * sz ≤ c.size)
    (hrl : ∀ (i : Nat) row, rows'[i]? = some row → row.length = sz)
    (hcell : ∀ (i j : Nat) row x, rows'[i]? = some row → row[j]? = some x → x.one = true ∧ ∃ v, c[gh.base + i * sz + j]? = some v ∧ RV w γ A bd x v) :
    Rel C A bd w1 (upd γ id gh) (upd hg id (.cells sz rows' (ep + 1) true false)) nx ∧ Stp w γ w1 (upd γ id gh) := by
  have hob := hr.obj id
  rw [hid] at hob
  obtain ⟨k1, k2, k3, k4, k5, k6, _⟩ := hob
  have hk : (γ id).kind ≠ 0 := by rw [k1]; decide
  have hw : (γ id).wr = true := by simpa using k6
  have hlt := hr.lt id hk
  have s : Stp w γ w1 (upd γ id gh) := by
    refine ⟨hos.2.2.2, hos.1, hos.2.1, hos.2.2.1, fun b hb' hm => hheap b hb' (fun e => hm ⟨id, hk, hw, e.symm⟩), fun b hb' => ?_, fun j hj => ?_, fun j hj => ?_⟩
    · rintro ⟨j, m1, m2, m3⟩
      by_cases hj : j = id
      · subst hj
        simp only [upd_same] at m3
        rcases hb with hb | hb
        · exact ⟨j, hk, hw, by rw [← hb]; exact m3⟩
        · omega
      · rw [upd_ne _ _ hj] at m1 m2 m3; exact ⟨j, m1, m2, m3⟩
    · by_cases hji : j = id
      · subst hji; rw [upd_same]; exact .inr ⟨k1, h1, by rw [h2, k2]; omega⟩
      · rw [upd_ne _ _ hji]; exact .inl ⟨rfl, rfl⟩
    · by_cases hji : j = id
      · subst hji; rw [upd_same, h2, k2]; exact ⟨by omega, fun h => by omega⟩
      · rw [upd_ne _ _ hji]; exact ⟨Nat.le_refl _, fun _ => ⟨rfl, rfl, rfl, rfl, rfl⟩⟩
  refine ⟨hr.set rfl s (Nat.le_refl _) ?_ ⟨hlt.1, ?_⟩ (fun j hj hkj e => ?_) ?_ (fun j hj hkj _ => ?_), s⟩
  · simp only [ObjRel, upd_same]
    refine ⟨h1, h2, h3, h4, ⟨fun h => (by cases h), fun _ => hmax⟩, by rw [h5]; rfl, c, e, hc, hsz, hrl, fun i j row x a b => ?_⟩
    obtain ⟨p, v, q1, q2⟩ := hcell i j row x a b
    exact ⟨p, v, q1, q2.step s⟩
  · rcases hb with hb | hb
    · rw [hb]; omega
    · omega
  · rcases hb with hb | hb
    · exact hj (hr.inj j id hkj hk (by rw [e, hb]))
    · have := (hr.lt j hkj).2; omega
  · rcases hb with hb | hb
    · rw [hb]; exact hr.av id hk
    · exact fun t ht => by have := hr.ab t _ ht; omega
  · exact hheap _ (hr.lt j hkj).2 (fun e => hj (hr.inj j id hkj hk e))

end
end Hx
