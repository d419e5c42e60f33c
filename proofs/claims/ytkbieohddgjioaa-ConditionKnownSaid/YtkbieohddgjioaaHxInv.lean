/- Regions that draw their order: one operation, whichever stands next. -/
import Derived.Test.YtkbieohddgjioaaHxAny
set_option linter.unusedVariables false
set_option linter.unusedSimpArgs false
set_option linter.unnecessarySimpa false
namespace Hx
open Go

/-- One operation in the order of the text. q: a region in which nothing is written. -/
def TraAt (C : Cfg) (ih : IH) (d : Nat) (rd : Option Nat) (nt : Nat) (ops : Array Oper) (q : Bool) (o : Oper) (t t' : T) (g g' : G) (f : Foot) : Prop :=
  ∃ out gd, outS nt o.dst = some out ∧ cGuard ops.toList o.guard = some gd ∧
    ((gd.run t = some false ∧ t' = out.run t .undef ∧ g' = g ∧ f.wr = []) ∨
     (gd.run t = some true ∧ ∃ r, (cOpT C o.op).run ih d rd t (setLog g []) = r ∧ r ≠ .fail ∧ (∀ a, r ≠ .dfr a) ∧ t' = out.run t (vOf r) ∧ g'.h = (gOf (setLog g []) r).h ∧
       f.wr = (gOf (setLog g []) r).lg ∧ (gOf (setLog g []) r).nx ≤ g'.nx ∧ (q = false → f.lk = (cFoot C o.op).run t g ∧ (gOf (setLog g []) r).nx < g'.nx)))

def dstOf (ops : Array Oper) (i : Nat) : Option Tmp := (ops[i]?).bind (·.dst)

/-- What a region's run in the order of the text says. -/
structure Reg (C : Cfg) (ih : IH) (bd : Nat) (rd : Option Nat) (nt : Nat) (ops : Array Oper) (q : Bool) (T' : Nat → T) (G' : Nat → G) (F' : Nat → Foot) (hg0 : Nat → AObj) : Prop where
  hC : CfgOk C
  hi : IHOk C ih
  tra : ∀ i o, ops[i]? = some o → TraAt C ih (bd + 1) rd nt ops q o (T' i) (T' (i + 1)) (G' i) (G' (i + 1)) (F' i)
  wf0 : WF (G' 0)
  ext0 : Ext (G' 0).h hg0
  free0 : ∀ id, (G' 0).nx ≤ id → id ≤ (G' ops.size).nx → hg0 id = .none
  apart : ∀ i j, i < j → j < ops.size → ((predMasks ops.toList []).getD j 0).testBit i = true ∨ footsApart (F' i) (F' j) = true
  once : ∀ i j j', i < j → j < j' → j' < ops.size → (F' i).lk.sr ≠ [] → ((predMasks ops.toList []).getD j 0).testBit i = false → ((predMasks ops.toList []).getD j' 0).testBit i = false →
    meets (F' j).wr (fst1 (F' i).lk.sr) = true → meets (F' j').wr (fst1 (F' i).lk.sr) = true → False
  slots : ∀ i j oi oj, i < j → ops[i]? = some oi → ops[j]? = some oj → ((predMasks ops.toList []).getD j 0).testBit i = true ∨ slotsApart ops.toList oi oj = true
  guards : ∀ i o j b, ops[i]? = some o → o.guard = some (j, b) → ((predMasks ops.toList []).getD i 0).testBit j = true
  quiet : q = true → ∀ i, i < ops.size → (F' i).wr = []

section
variable {C : Cfg} {A : Nat → Nat → Prop} {bd : Nat} {ih : IH} {rd : Option Nat} {nt : Nat} {ops : Array Oper} {q : Bool} {T' : Nat → T} {G' : Nat → G} {F' : Nat → Foot} {hg0 : Nat → AObj}

theorem TraAt.facts (hC : CfgOk C) (hi : IHOk C ih) {d : Nat} {o : Oper} {t t' : T} {g g' : G} {f : Foot} (h : TraAt C ih d rd nt ops q o t t' g g' f) (hwf : WF g) :
    WF g' ∧ g.nx ≤ g'.nx ∧ (∀ id, id ∉ f.wr → g'.h.get id = g.h.get id) ∧ ∀ id ∈ f.wr, id < g'.nx ∧ (g.h.get id = .none → g.nx ≤ id) := by
  obtain ⟨out, gd, _, _, h⟩ := h
  rcases h with ⟨_, _, rfl, hw⟩ | ⟨_, r, hr, hne, _, _, hh, hw, hnx, _⟩
  · rw [hw]; exact ⟨hwf, Nat.le_refl _, fun _ _ => rfl, fun _ h => absurd h List.not_mem_nil⟩
  · have hm : Mon (setLog g []) (gOf (setLog g []) r) := by rw [← hr]; exact cOpT_mon hC.mon hi.mon hwf.setLog
    obtain ⟨n, a, b, c⟩ := hm.new
    have e : (gOf (setLog g []) r).lg = n := by simpa using a
    have hnx0 : g.nx ≤ (gOf (setLog g []) r).nx := by have := hm.nx; simpa using this
    refine ⟨fun id hid => ?_, Nat.le_trans hnx0 hnx, fun id hid => ?_, fun id hid => ?_⟩
    · rw [hh]; exact hm.wf hwf.setLog id (by omega)
    · rw [hh, b id (by rw [← e, ← hw]; exact hid)]; simp
    · have := c id (by rw [← e, ← hw]; exact hid)
      simp only [setLog_h, setLog_nx] at this
      exact ⟨by omega, this.2⟩

theorem Reg.facts (R : Reg C ih bd rd nt ops q T' G' F' hg0) : ∀ i, i ≤ ops.size → WF (G' i) := by
  intro i
  induction i with
  | zero => intro _; exact R.wf0
  | succ i ih' =>
    intro h
    have ho : ops[i]? = some ops[i] := Array.getElem?_eq_getElem (by omega)
    exact (TraAt.facts R.hC R.hi (R.tra i _ ho) (ih' (by omega))).1

theorem Reg.at (R : Reg C ih bd rd nt ops q T' G' F' hg0) {i : Nat} (h : i < ops.size) :
    (G' i).nx ≤ (G' (i + 1)).nx ∧ (∀ id, id ∉ (F' i).wr → (G' (i + 1)).h.get id = (G' i).h.get id) ∧ ∀ id ∈ (F' i).wr, id < (G' (i + 1)).nx ∧ ((G' i).h.get id = .none → (G' i).nx ≤ id) := by
  have ho : ops[i]? = some ops[i] := Array.getElem?_eq_getElem h
  exact (TraAt.facts R.hC R.hi (R.tra i _ ho) (R.facts i (by omega))).2

theorem Reg.nx_mono (R : Reg C ih bd rd nt ops q T' G' F' hg0) {i j : Nat} (h : i ≤ j) (hj : j ≤ ops.size) : (G' i).nx ≤ (G' j).nx := by
  induction j with
  | zero => have : i = 0 := by omega
            subst this; exact Nat.le_refl _
  | succ j ih' =>
    by_cases hij : i = j + 1
    · subst hij; exact Nat.le_refl _
    · exact Nat.le_trans (ih' (by omega) (by omega)) (R.at (by omega)).1

/-- The slots: what the writers laid. -/
theorem Reg.keepT (R : Reg C ih bd rd nt ops q T' G' F' hg0) {j : Nat} (hj : j < ops.size) {s : Nat} (h : dstOf ops j ≠ some s) : (T' (j + 1)).get AV.undef s = (T' j).get AV.undef s := by
  have ho : ops[j]? = some ops[j] := Array.getElem?_eq_getElem hj
  obtain ⟨out, gd, hout, _, h'⟩ := R.tra j _ ho
  have key : ∀ x, (out.run (T' j) x).get AV.undef s = (T' j).get AV.undef s := by
    intro x
    simp only [dstOf, ho, Option.bind_some] at h
    cases hd : ops[j].dst with
    | none => rw [hd] at hout; simp [outS] at hout; subst hout; rfl
    | some d =>
      rw [hd] at hout h
      simp only [outS, bif'_eq] at hout
      split at hout
      · injection hout with hout; subst hout
        rw [sp_get, if_neg]
        rintro rfl; exact h rfl
      · cases hout
  rcases h' with ⟨_, h1, _⟩ | ⟨_, r, _, _, _, h1, _⟩
  · rw [h1, key]
  · rw [h1, key]

/-- Which stand behind which. -/
def Down (ops : Array Oper) (S : Nat → Prop) : Prop := ∀ j o, ops[j]? = some o → S j → ∀ e ∈ o.after.toList, Region.binds .any e = true → S e.on

theorem Down.mask {S : Nat → Prop} (h : Down ops S) {j i : Nat} (hb : ((predMasks ops.toList []).getD j 0).testBit i = true) (hj : S j) : S i :=
  predMasks_down (S := S) (all := ops.toList) (fun j o ho => h j o (by simpa using ho)) ops.toList [] [] rfl rfl (fun j i hj => by simp at hj) j i hb hj

/-- A store with given values. -/
theorem ov_tree (S : Nat → Prop) : ∀ n, ∃ t : T, ∀ s, t.get AV.undef s = ov S (fun i s => dstOf ops i = some s) (fun i s => (T' i).get AV.undef s) (fun s => (T' 0).get AV.undef s) n s := by
  intro n
  induction n with
  | zero => exact ⟨T' 0, fun s => rfl⟩
  | succ n ih' =>
    obtain ⟨t, ht⟩ := ih'
    by_cases hS : S n
    · cases hd : dstOf ops n with
      | none => exact ⟨t, fun s => by simp only [ov]; rw [if_neg (by rw [hd]; simp)]; exact ht s⟩
      | some d =>
        refine ⟨(sp AV.undef d).run t ((T' (n + 1)).get AV.undef d), fun s => ?_⟩
        rw [sp_get]
        simp only [ov]
        by_cases hs : s = d
        · subst hs; rw [if_pos rfl, if_pos ⟨hS, hd⟩]
        · rw [if_neg hs, if_neg (by rw [hd]; rintro ⟨_, h⟩; exact hs (by injection h with h; exact h.symm))]; exact ht s
    · exact ⟨t, fun s => by simp only [ov]; rw [if_neg (fun h => hS h.1)]; exact ht s⟩

/-- The state when the operations of S are done. -/
structure Inv (C : Cfg) (A : Nat → Nat → Prop) (bd nt : Nat) (ops : Array Oper) (T' : Nat → T) (G' : Nat → G) (F' : Nat → Foot) (hg0 : Nat → AObj) (N : Nat) (w0 : World) (γ0 : Gm) (df0 : List Deferred)
    (S : Nat → Prop) (a : Act) (w : World) (γ : Gm) (hg : Nat → AObj) : Prop where
  rel : Rel C A bd w γ hg N
  stp : Stp w0 γ0 w γ
  size : a.tmps.size = nt
  slots : ∀ s, RV w γ A bd (ov S (fun i s => dstOf ops i = some s) (fun i s => (T' i).get AV.undef s) (fun s => (T' 0).get AV.undef s) ops.size s) (a.tmps.getD s undef)
  objs : ∀ id, hg id = ov S (fun i id => id ∈ (F' i).wr) (fun i id => (G' i).h.get id) hg0 ops.size id
  dfr : a.defers = df0

theorem footFree_spec {x y : Foot} (h : footFree x y = true) {id : Nat} (hid : id ∈ x.wr) : y.lk.big = false ∧ id ∉ y.wr ∧ id ∉ y.lk.rd ∧ id ∉ y.lk.sr.map (·.1) := by
  unfold footFree at h
  split at h
  · rename_i he; rw [he] at hid; exact absurd hid List.not_mem_nil
  · simp only [Bool.and_eq_true, Bool.not_eq_true'] at h
    obtain ⟨⟨⟨h1, h2⟩, h3⟩, h4⟩ := h
    refine ⟨h1, fun h => ?_, fun h => ?_, fun h => ?_⟩
    · rw [meets_mem hid h] at h2; cases h2
    · rw [meets_mem hid h] at h3; cases h3
    · rw [meets_mem hid (fst1_mem h)] at h4; cases h4

theorem footFreeS_spec {x y : Foot} (h : footFreeS x y = true) {id : Nat} (hid : id ∈ x.wr) : y.lk.big = false ∧ id ∉ y.wr ∧ id ∉ y.lk.rd ∧ (id ∈ y.lk.sr.map (·.1) → ∀ p ∈ y.lk.sr, p ∈ x.lk.soft) := by
  unfold footFreeS at h
  split at h
  · rename_i he; rw [he] at hid; exact absurd hid List.not_mem_nil
  · simp only [Bool.and_eq_true, Bool.not_eq_true', Bool.or_eq_true] at h
    obtain ⟨⟨⟨h1, h2⟩, h3⟩, h4⟩ := h
    refine ⟨h1, fun h => ?_, fun h => ?_, fun h p hp => ?_⟩
    · rw [meets_mem hid h] at h2; cases h2
    · rw [meets_mem hid h] at h3; cases h3
    · rcases h4 with h4 | h4
      · rw [meets_mem hid (fst1_mem h)] at h4; cases h4
      · exact pairIn_mem (List.all_eq_true.1 h4 p hp)

theorem footsApart_spec {x y : Foot} (h : footsApart x y = true) : footFree x y = true ∧ footFreeS y x = true := by
  unfold footsApart at h
  simpa using h

theorem slotsApart_spec {all : List Oper} {x y : Oper} (h : slotsApart all x y = true) :
    (∀ d, x.dst = some d → d ∉ slotsOf all y ∧ y.dst ≠ some d) ∧ (∀ d, y.dst = some d → d ∉ slotsOf all x) := by
  unfold slotsApart at h
  simp only [Bool.and_eq_true] at h
  refine ⟨fun d hd => ?_, fun d hd => ?_⟩
  · have := h.1
    rw [hd] at this
    simp only [Bool.and_eq_true, Bool.not_eq_true', bne_iff_ne, ne_eq] at this
    exact ⟨fun hm => (by have h1 := this.1; rw [List.contains_iff_mem.2 hm] at h1; cases h1), this.2⟩
  · have := h.2
    rw [hd] at this
    simp only [Bool.not_eq_true'] at this
    intro hm
    rw [List.contains_iff_mem.2 hm] at this; cases this

variable {N : Nat} {w0 : World} {γ0 : Gm} {df0 : List Deferred} {S : Nat → Prop} {a : Act} {w : World} {γ : Gm} {hg : Nat → AObj}
variable {b : Frame} {i : Nat} {rest : List Nat} {k : List Item} {cs : List Frame} {o : Oper}

/-- Who writes an object that does not look from afar. -/
theorem Reg.good (R : Reg C ih bd rd nt ops q T' G' F' hg0) (I : Inv C A bd nt ops T' G' F' hg0 N w0 γ0 df0 S a w γ hg) (hin : i ≤ ops.size) {id : Nat}
    (h : ∀ j, j < ops.size → id ∈ (F' j).wr → (S j ↔ j < i)) (hne : (G' i).h.get id ≠ .none) : hg id = (G' i).h.get id := by
  rw [I.objs id]
  rcases ov_at (S := S) (wr := fun i id => id ∈ (F' i).wr) (val := fun i id => (G' i).h.get id) (base := hg0) (k := id) hin (fun j hj hw => (R.at hj).2.1 id hw) h with ⟨_, h2⟩ | ⟨_, h2, h3⟩
  · exact h2
  · rw [h2, h3]
    exact R.ext0 id (by rw [← h3]; exact hne)

theorem inv_step (R : Reg C ih bd rd nt ops q T' G' F' hg0) (I : Inv C A bd nt ops T' G' F' hg0 N w0 γ0 df0 S a w γ hg) (hN : (G' ops.size).nx ≤ N)
    (ho : ops[i]? = some o) (hS : ¬ S i) (hdown : Down ops S) (hready : ∀ e ∈ o.after.toList, Region.binds .any e = true → S e.on) (hcalm : CalmK b.kind cs) :
    ∃ a' w' γ' hg', Inv C A bd nt ops T' G' F' hg0 N w0 γ0 df0 (fun j => S j ∨ j = i) a' w' γ' hg' ∧
      Steps C.P (lone (b.atR a (.inRegion ops (i :: rest) :: k)) cs w) (lone (b.atR a' (.inRegion ops rest :: k)) cs w') := by
  have hi : i < ops.size := (Array.getElem?_eq_some_iff.1 ho).1
  have hdown1 : Down ops (fun j => S j ∨ j = i) := by
    intro j oj hoj hj e he hb
    rcases hj with hj | rfl
    · exact .inl (hdown j oj hoj hj e he hb)
    · rw [ho] at hoj; injection hoj with hoj; subst hoj; exact .inl (hready e he hb)
  -- whoever is bound ahead of i is done; whoever is done is not bound behind i
  have ahead : ∀ j, j ≠ i → ((predMasks ops.toList []).getD i 0).testBit j = true → S j := by
    intro j hj hb
    rcases hdown1.mask hb (.inr rfl) with h | h
    · exact h
    · exact absurd h hj
  have behind : ∀ j, S j → ((predMasks ops.toList []).getD j 0).testBit i ≠ true := fun j hj hb => hS (hdown.mask hb hj)
  have hdst : dstOf ops i = o.dst := by simp [dstOf, ho]
  -- slots
  have hslot : ∀ s ∈ slotsOf ops.toList o, ov S (fun i s => dstOf ops i = some s) (fun i s => (T' i).get AV.undef s) (fun s => (T' 0).get AV.undef s) ops.size s = (T' i).get AV.undef s := by
    intro s hs
    have h : ∀ j, j < ops.size → dstOf ops j = some s → (S j ↔ j < i) := by
      intro j hj hd
      have hoj : ops[j]? = some ops[j] := Array.getElem?_eq_getElem hj
      have hd' : ops[j].dst = some s := by simpa [dstOf, hoj] using hd
      constructor
      · intro hSj
        rcases Nat.lt_trichotomy j i with h | h | h
        · exact h
        · subst h; exact absurd hSj hS
        · rcases R.slots i j _ _ h ho hoj with hb | hb
          · exact absurd hb (behind j hSj)
          · exact absurd hs ((slotsApart_spec hb).2 s hd')
      · intro hlt
        rcases R.slots j i _ _ hlt hoj ho with hb | hb
        · exact ahead j (by omega) hb
        · exact absurd hs ((slotsApart_spec hb).1 s hd').1
    rcases ov_at (S := S) (wr := fun i s => dstOf ops i = some s) (val := fun i s => (T' i).get AV.undef s) (base := fun s => (T' 0).get AV.undef s) (k := s) (by omega : i ≤ ops.size) (fun j hj hw => R.keepT hj hw) h with ⟨_, h2⟩ | ⟨_, h2, h3⟩
    · exact h2
    · rw [h2, ← h3]
  obtain ⟨ts, hts⟩ := ov_tree (ops := ops) (T' := T') S ops.size
  have htr : TR w γ A bd nt ts a.tmps := ⟨I.size, fun s => by rw [hts s]; exact I.slots s⟩
  have heq : ∀ s ∈ slotsOf ops.toList o, ts.get AV.undef s = (T' i).get AV.undef s := fun s hs => by rw [hts s, hslot s hs]
  have hagrO : OpAgr C ts (T' i) o.op.operands.toList := by
    intro x hx s hs
    refine cRho_congr hs fun n hn => heq n ?_
    subst hn
    exact List.mem_append_left _ (List.mem_filterMap.2 ⟨_, hx, rfl⟩)
  obtain ⟨out, gd, hout, hgd, hcase⟩ := R.tra i o ho
  have hgq : gd.run ts = gd.run (T' i) := by
    refine cGuard_congr hgd fun j b' oj d hg' hoj hd => heq d ?_
    refine List.mem_append_right _ ?_
    simp only [hg', hoj, hd]
    simp
  -- what is laid into the slot
  have hnoW : ∀ s, dstOf ops i = some s → ∀ j, i < j → j < ops.size → S j → ¬ dstOf ops j = some s := by
    intro s hd j hij hj hSj hd'
    have hoj : ops[j]? = some ops[j] := Array.getElem?_eq_getElem hj
    rcases R.slots i j _ _ hij ho hoj with hb | hb
    · exact behind j hSj hb
    · exact ((slotsApart_spec hb).1 s (hdst ▸ hd)).2 (by simpa [dstOf, hoj] using hd')
  have slots' : ∀ {w' : World} {γ' : Gm} {x : AV} {v : Value}, Stp w γ w' γ' → RV w' γ' A bd x v → T' (i + 1) = out.run (T' i) x →
      (a.put o.dst v).tmps.size = nt ∧ ∀ s, RV w' γ' A bd (ov (fun j => S j ∨ j = i) (fun i s => dstOf ops i = some s) (fun i s => (T' i).get AV.undef s) (fun s => (T' 0).get AV.undef s) ops.size s) ((a.put o.dst v).tmps.getD s undef) := by
    intro w' γ' x v hst hv hT
    have h1 := (htr.step hst).put hout hv
    refine ⟨h1.1, fun s => ?_⟩
    have h2 := h1.2 s
    by_cases hs : dstOf ops i = some s
    · rw [ov_add (wr := fun i s => dstOf ops i = some s) hi hs (hnoW s hs), hT]
      rw [hdst] at hs
      rw [hs] at hout h2 ⊢
      simp only [outS, bif'_eq] at hout
      split at hout
      · injection hout with hout; subst hout
        simp only [sp_get, if_true] at h2 ⊢
        exact h2
      · cases hout
    · rw [ov_skip (wr := fun i s => dstOf ops i = some s) hs, ← hts s]
      have : (out.run ts x).get AV.undef s = ts.get AV.undef s := by
        cases hd : o.dst with
        | none => rw [hd] at hout; simp [outS] at hout; subst hout; rfl
        | some d =>
          rw [hd] at hout
          simp only [outS, bif'_eq] at hout
          split at hout
          · injection hout with hout; subst hout
            rw [sp_get, if_neg]
            rintro rfl; exact hs (by rw [hdst, hd])
          · cases hout
      rw [this] at h2; exact h2
  rcases hcase with ⟨hq, hT, hG, hW⟩ | ⟨hq, r, hr, hne, hnd, hT, hH, hW, hnx, hlk⟩
  · -- it does not run
    rw [← hgq] at hq
    have hw := guard_sim hgd htr hq
    obtain ⟨s1, s2⟩ := slots' (Stp.refl w γ) undef_rv hT
    refine ⟨_, w, γ, hg, ⟨I.rel, I.stp, s1, s2, fun id => ?_, ?_⟩, .one (step_skipOp ho hw)⟩
    · rw [I.objs id]
      exact (ov_skip (by rw [hW]; exact List.not_mem_nil)).symm
    · have := I.dfr; cases hd : o.dst <;> simpa [Act.put, hd] using this
  · -- it runs
    rw [← hgq] at hq
    have hw := guard_sim hgd htr hq
    have hwf : WF (setLog (G' i) []) := (R.facts i (by omega)).setLog
    rw [← cOpT_congr hagrO] at hr
    -- free numbers
    have hfree : Free γ (setLog (G' i) []) (gOf (setLog (G' i) []) r) := by
      intro id h1 h2
      simp only [setLog_nx] at h1
      rw [I.rel.none_iff, I.objs id, ov_top (m := 0) (Nat.zero_le _)]
      · exact R.free0 id (Nat.le_trans (R.nx_mono (Nat.zero_le i) (by omega)) h1) (Nat.le_trans h2 (Nat.le_trans hnx (R.nx_mono (by omega) (Nat.le_refl _))))
      · intro j _ hj hSj hw
        cases q with
        | true => rw [R.quiet rfl j hj] at hw; exact List.not_mem_nil hw
        | false =>
          have hlt : id < (G' (i + 1)).nx := by have := (hlk rfl).2; omega
          rcases Nat.lt_trichotomy j i with h | h | h
          · have := ((R.at hj).2.2 id hw).1
            have := R.nx_mono (show j + 1 ≤ i by omega) (by omega)
            omega
          · subst h; exact hS hSj
          · have hwi : id ∈ (F' i).wr := Classical.byContradiction fun hn => by
              have key : ∀ m, i < m → m ≤ j → (G' m).h.get id = .none := by
                intro m
                induction m with
                | zero => intro h; omega
                | succ m ihm =>
                  intro h1' h2'
                  by_cases hmi : m = i
                  · subst hmi
                    rw [(R.at (by omega)).2.1 id hn]
                    exact R.facts m (by omega) id h1
                  · have := ihm (by omega) (by omega)
                    by_cases hm : id ∈ (F' m).wr
                    · have h3 := ((R.at (i := m) (by omega)).2.2 id hm).2 this
                      have h4 := R.nx_mono (show i + 1 ≤ m by omega) (by omega)
                      omega
                    · rw [(R.at (by omega)).2.1 id hm]; exact this
              have h3 := ((R.at hj).2.2 id hw).2 (key j h (Nat.le_refl _))
              have h4 := R.nx_mono (show i + 1 ≤ j by omega) (by omega)
              omega
            rcases R.apart i j h hj with hb | hb
            · exact behind j hSj hb
            · exact (footFree_spec (footsApart_spec hb).1 hwi).2.1 hw
    -- what comes of it
    have fin : ∀ {gs : G} {u : Value} {w' : World} {γ' : Gm} {hg' : Nat → AObj}, Fin C A bd w γ hg N gs w' γ' hg' (gOf (setLog (G' i) []) r) → gs.lg = [] → RV w' γ' A bd (vOf r) u →
        Steps C.P (lone (b.atR a (.inRegion ops (i :: rest) :: k)) cs w) (lone (b.atR (a.put o.dst u) (.inRegion ops rest :: k)) cs w') →
        ∃ a' w' γ' hg', Inv C A bd nt ops T' G' F' hg0 N w0 γ0 df0 (fun j => S j ∨ j = i) a' w' γ' hg' ∧
          Steps C.P (lone (b.atR a (.inRegion ops (i :: rest) :: k)) cs w) (lone (b.atR a' (.inRegion ops rest :: k)) cs w') := by
      intro gs u w' γ' hg' f hgs hv st
      obtain ⟨s1, s2⟩ := slots' f.stp hv hT
      have hle : (gOf (setLog (G' i) []) r).nx ≤ N := Nat.le_trans hnx (Nat.le_trans (R.nx_mono (by omega) (Nat.le_refl _)) hN)
      refine ⟨_, w', γ', hg', ⟨?_, I.stp.trans f.stp, s1, s2, fun id => ?_, ?_⟩, st⟩
      · have := f.rel
        rw [show Nat.max N (gOf (setLog (G' i) []) r).nx = N from Nat.max_eq_left hle] at this
        exact this
      · obtain ⟨n, e1, e2, e3⟩ := f.new
        have en : (F' i).wr = n := by rw [hW, e1, hgs, List.append_nil]
        by_cases hid : id ∈ (F' i).wr
        · rw [e2 id (en ▸ hid), ← hH]
          refine (ov_add (wr := fun i id => id ∈ (F' i).wr) (val := fun i id => (G' i).h.get id) hi hid fun j hij hj hSj hw => ?_).symm
          rcases R.apart i j hij hj with hb | hb
          · exact behind j hSj hb
          · exact (footFree_spec (footsApart_spec hb).1 hid).2.1 hw
        · rw [e3 id (en ▸ hid), I.objs id]
          exact (ov_skip (wr := fun i id => id ∈ (F' i).wr) hid).symm
      · have := I.dfr; cases hd : o.dst <;> simpa [Act.put, hd] using this
    -- who writes what i looks at
    have hgood : ∀ id, (q = false → (F' i).lk.big = true ∨ id ∈ (F' i).lk.rd ∨ (id ∈ (F' i).lk.sr.map (·.1) ∧ ∀ j, i < j → j < ops.size → S j → id ∉ (F' j).wr)) →
        (G' i).h.get id ≠ .none → hg id = (G' i).h.get id := by
      intro id hlook hne'
      refine R.good I (by omega) (fun j hj hw => ?_) hne'
      cases q with
      | true => rw [R.quiet rfl j hj] at hw; exact absurd hw List.not_mem_nil
      | false =>
        have hlook := hlook rfl
        constructor
        · intro hSj
          rcases Nat.lt_trichotomy j i with h | h | h
          · exact h
          · subst h; exact absurd hSj hS
          · rcases R.apart i j h hj with hb | hb
            · exact absurd hb (behind j hSj)
            · obtain ⟨h1, h2, h3, h4⟩ := footFreeS_spec (footsApart_spec hb).2 hw
              rcases hlook with hl | hl | ⟨_, hl⟩
              · rw [h1] at hl; cases hl
              · exact absurd hl h3
              · exact absurd hw (hl j h hj hSj)
        · intro hlt
          rcases R.apart j i hlt hi with hb | hb
          · exact ahead j (by omega) hb
          · obtain ⟨h1, h2, h3, h4⟩ := footFree_spec (footsApart_spec hb).1 hw
            rcases hlook with hl | hl | ⟨hl, _⟩
            · rw [h1] at hl; cases hl
            · exact absurd hl h3
            · exact absurd hl h4
    have hfoot : (cFoot C o.op).run ts (setLog (G' i) []) = (cFoot C o.op).run (T' i) (G' i) := cFoot_congr (by simp) hagrO
    by_cases hsoft : q = false ∧ ∃ id j, id ∈ (F' i).lk.sr.map (·.1) ∧ i < j ∧ j < ops.size ∧ S j ∧ id ∈ (F' j).wr
    · -- an entry has been made ready ahead of it
      obtain ⟨rfl, id, j, hid, hij, hj, hSj, hwj⟩ := hsoft
      have hlk' := (hlk rfl).1
      have hoj : ops[j]? = some ops[j] := Array.getElem?_eq_getElem hj
      have hunb : ((predMasks ops.toList []).getD j 0).testBit i = false := by
        have := behind j hSj
        simpa using this
      have hap : footsApart (F' i) (F' j) = true := (R.apart i j hij hj).resolve_left (behind j hSj)
      obtain ⟨_, _, _, h4⟩ := footFreeS_spec (footsApart_spec hap).2 hwj
      have h4 := h4 hid
      have hsrne : (F' i).lk.sr ≠ [] := by intro h; rw [h] at hid; simp at hid
      rw [hlk'] at hsrne
      obtain ⟨ty, x, kx, a0, hop, ha0, hft⟩ := sr_op hsrne
      -- the lookup
      rw [hop] at hr
      obtain ⟨a1, kk, kt, et, z, ha1, hk1, hu, hz, hall, hreq⟩ := cOpT_lookup hr hne
      rw [ha0] at ha1; injection ha1 with ha1; subst ha1
      have hval : ∃ v, r = .val v := by
        rw [hreq]
        have : Small (setLog (G' i) []) (lookupF (keyKind C.P kt) z false a0.run kk.run ts (setLog (G' i) [])) := by
          unfold lookupF
          rw [bif'_eq]
          repeat' split
          all_goals trivial
        cases hrr : lookupF (keyKind C.P kt) z false a0.run kk.run ts (setLog (G' i) []) with
        | fail => rw [hrr] at hreq; exact absurd hreq hne
        | val v => exact ⟨v, rfl⟩
        | upd v g' =>
          exfalso
          unfold lookupF at hrr
          rw [bif'_eq] at hrr
          repeat' (split at hrr)
          all_goals cases hrr
        | dfr x => rw [hrr] at this; exact this.elim
      obtain ⟨v, hv⟩ := hval
      subst hv
      have ea0 : a0.run ts = a0.run (T' i) := hagrO x (by rw [hop]; simp [Op.operands]) a0 ha0
      -- the map
      have hidr : id ∈ refIds (a0.run (T' i)) := by
        rw [hlk', hft] at hid
        simpa using hid
      have hmap : ∃ es, a0.run ts = .hmap id ∧ (G' i).h.get id = .map es := by
        have hreq' := hreq.symm
        unfold lookupF at hreq'
        rw [bif'_eq] at hreq'
        split at hreq'
        · rw [← ea0] at hidr
          generalize a0.run ts = y at hidr hreq'
          cases y <;> simp [refIds] at hidr
          · cases hreq'
          · cases hreq'
          · subst hidr
            simp only [G.get_eq, setLog_h] at hreq'
            split at hreq'
            · rename_i es hes
              split at hes
              · rename_i es' hes'
                injection hes with hes; subst hes
                exact ⟨_, rfl, hes'⟩
              · cases hes
            · cases hreq'
        · cases hreq'
      obtain ⟨es, hm1, hm2⟩ := hmap
      -- the operation that makes the entry
      have hpair : (id, ty) ∈ (F' j).lk.soft := h4 _ (by rw [hlk', hft]; simpa using hidr)
      obtain ⟨outj, gdj, houtj, hgdj, hcasej⟩ := R.tra j _ hoj
      rcases hcasej with ⟨_, _, _, hWj⟩ | ⟨_, rj, hrj, hnej, hndj, hTj, hHj, hWj, hnxj, hlkj⟩
      · rw [hWj] at hwj; exact absurd hwj List.not_mem_nil
      rw [(hlkj rfl).1] at hpair
      obtain ⟨xj, kj, aj, hopj, haj, hidj⟩ := soft_op hpair
      dsimp only at hopj hidj
      rw [hopj] at hrj
      obtain ⟨aj', kkj, ktj, etj, zj, haj', hkj, huj, hzj, hreqj⟩ := cOpT_mapEntry hrj hnej
      rw [haj] at haj'; injection haj' with haj'; subst haj'
      rw [hu] at huj; injection huj with huj; injection huj with huj1 huj2; subst huj1; subst huj2
      rw [hz] at hzj; injection hzj with hzj; subst hzj
      cases rj with
      | fail => exact absurd rfl hnej
      | val v => rw [hWj] at hwj; simp [gOf] at hwj
      | dfr x => exact absurd rfl (hndj x)
      | upd vj gj =>
        obtain ⟨idj, esj, q1, q2, q3, q4⟩ := mapEntry_upd hreqj.symm
        rw [q1] at hidj
        simp [refIds] at hidj
        subst hidj
        -- nobody else has turned the map
        have hnone : ∀ m, i < m → m < ops.size → S m → id ∈ (F' m).wr → m = j := by
          intro m him hm hSm hwm
          refine Classical.byContradiction fun hmj => ?_
          have hb : ((predMasks ops.toList []).getD m 0).testBit i = false := by simpa using behind m hSm
          have hsr : (F' i).lk.sr ≠ [] := by rw [hlk']; exact hsrne
          rcases Nat.lt_or_ge m j with h | h
          · exact R.once i m j him h hj hsr hb hunb (meets_mem hwm (fst1_mem hid)) (meets_mem hwj (fst1_mem hid))
          · exact R.once i j m hij (by omega) hm hsr hunb hb (meets_mem hwj (fst1_mem hid)) (meets_mem hwm (fst1_mem hid))
        have hwi : (F' i).wr = [] := by rw [hW]; simp [gOf]
        have hsame : (G' j).h.get id = (G' i).h.get id := by
          have key : ∀ m, i ≤ m → m ≤ j → (G' m).h.get id = (G' i).h.get id := by
            intro m
            induction m with
            | zero => intro h1 _; have : i = 0 := by omega
                      subst this; rfl
            | succ m ihm =>
              intro h1 h2
              by_cases him : i = m + 1
              · subst him; rfl
              · rw [(R.at (by omega)).2.1 id ?_]
                · exact ihm (by omega) (by omega)
                · intro hwm
                  by_cases hmi : m = i
                  · subst hmi; rw [hwi] at hwm; exact List.not_mem_nil hwm
                  · rcases R.apart m j (by omega) hj with hb | hb
                    · have hSm := hdown.mask hb hSj
                      exact absurd (hnone m (by omega) (by omega) hSm hwm) (by omega)
                    · exact (footFree_spec (footsApart_spec hb).1 hwm).2.1 hwj
          exact key j (by omega) (Nat.le_refl _)
        have hes : esj = es := by
          have h1 : (G' j).h.get id = .map esj := by simpa using q2
          rw [hsame, hm2] at h1
          injection h1 with h1; exact h1.symm
        subst hes
        have hnow : hg id = .map (esj ++ [(kkj.run (T' j), z)]) := by
          rw [I.objs id, ov_top (m := j + 1) (by omega) (fun m h1 h2 h3 h4 => by have := hnone m (by omega) h2 h3 h4; omega)]
          simp only [ov]
          rw [if_pos ⟨hSj, hwj⟩, hHj, q3]
          simp [gOf, H.get_put]
        -- the same with the map as it is
        let gs : G := ⟨(G' i).h.put id (.map (esj ++ [(kkj.run (T' j), z)])), (G' i).nx, []⟩
        have hgs : gs.h.get id = .map (esj ++ [(kkj.run (T' j), z)]) := by simp [gs, H.get_put]
        have hr' : (cOpT C o.op).run ih (bd + 1) rd ts gs = .val v := by
          rw [hop, hall]
          exact lookup_soft hreq.symm hm1 (by simpa using hm2) hgs q4
        have hidlt : id < (G' i).nx := Nat.lt_of_not_le fun h => by
          have := R.facts i (by omega) id h
          rw [hm2] at this; cases this
        have hwfs : WF gs := fun id' h' => by
          have h' : (G' i).nx ≤ id' := h'
          simp only [gs, H.get_put]
          rw [if_neg (by omega)]
          exact R.facts i (by omega) id' h'
        have hagr : Agr ((cFoot C o.op).run ts gs) gs hg := by
          have e : (cFoot C o.op).run ts gs = ⟨[], (refIds (a0.run ts)).map (·, ty), [], false⟩ := by
            rw [hop]; simp [cFoot, ha0]
          rw [e]
          simp only [Agr, hm1, refIds]
          intro id' hid' _
          simp at hid'
          subst hid'
          rw [hnow, hgs]
        obtain ⟨u, w', γ', hg', f, rv, st⟩ := op_sim (b := b) (cs := cs) (rest := rest) (k := k) R.hC R.hi I.rel hwfs htr hcalm hagr hr' hne hnd (fun id' h1 h2 => hfree id' (by simpa [gs] using h1) (by simpa [gs, gOf] using h2)) ho hw
        refine fin (gs := gs) (u := u) (w' := w') (γ' := γ') (hg' := hg') ⟨?_, f.stp, ?_⟩ rfl rv st
        · have := f.rel
          simpa [gOf, gs] using this
        · obtain ⟨n, e1, e2, e3⟩ := f.new
          have : n = [] := by simpa [gOf, gs] using e1
          subst this
          exact ⟨[], by simp [gOf, gs], fun _ h => absurd h List.not_mem_nil, e3⟩
    · have hagr : Agr ((cFoot C o.op).run ts (setLog (G' i) [])) (setLog (G' i) []) hg := by
        cases hqq : q with
        | true =>
          refine Ext.agr fun id hne' => ?_
          simp only [setLog_h] at hne' ⊢
          refine hgood id (fun h => ?_) hne'
          rw [hqq] at h; cases h
        | false =>
          rw [hfoot, ← (hlk hqq).1]
          unfold Agr
          split
          · rename_i hb
            exact fun id hne' => by simp only [setLog_h] at hne' ⊢; exact hgood id (fun _ => .inl hb) hne'
          · intro id hid hne'
            simp only [setLog_h] at hne' ⊢
            refine hgood id (fun _ => .inr ?_) hne'
            rcases List.mem_append.1 hid with h | h
            · exact .inl h
            · exact .inr ⟨h, fun j h1 h2 h3 h4 => hsoft ⟨hqq, id, j, h, h1, h2, h3, h4⟩⟩
      obtain ⟨u, w', γ', hg', f, rv, st⟩ := op_sim (b := b) (cs := cs) (rest := rest) (k := k) R.hC R.hi I.rel hwf htr hcalm hagr hr hne hnd hfree ho hw
      exact fin f (by simp) rv st

end
end Hx
