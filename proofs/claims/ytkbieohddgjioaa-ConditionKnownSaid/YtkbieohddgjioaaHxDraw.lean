/- Regions: any order, and the whole statement. -/
import Derived.Test.YtkbieohddgjioaaHxInv
import Derived.Orders
set_option linter.unusedVariables false
set_option linter.unusedSimpArgs false
set_option linter.unnecessarySimpa false
namespace Hx
open Go

section
variable {C : Cfg} {A : Nat → Nat → Prop} {bd : Nat} {ih : IH} {rd : Option Nat} {nt : Nat} {ops : Array Oper} {q : Bool} {T' : Nat → T} {G' : Nat → G} {F' : Nat → Foot} {hg0 : Nat → AObj}
variable {N : Nat} {w0 : World} {γ0 : Gm} {df0 : List Deferred} {b : Frame} {k : List Item} {cs : List Frame}

theorem any_sim (R : Reg C ih bd rd nt ops q T' G' F' hg0) (hN : (G' ops.size).nx ≤ N) (hedge : ∀ i o, ops[i]? = some o → ∀ e ∈ o.after.toList, Region.binds .any e = true → e.on < i) (hcalm : CalmK b.kind cs) :
    ∀ (fuel tq : Nat) (listed : Array Bool) (S : Nat → Prop) {a : Act} {w : World} {γ : Gm} {hg : Nat → AObj}, listed.size = ops.size → (∀ j, S j ↔ listed.getD j false = true) → Down ops S →
      cnt (fun j => !listed.getD j true) ops.size ≤ fuel → Inv C A bd nt ops T' G' F' hg0 N w0 γ0 df0 S a w γ hg →
      ∃ a' w' γ' hg', Inv C A bd nt ops T' G' F' hg0 N w0 γ0 df0 (fun j => j < ops.size) a' w' γ' hg' ∧
        Steps C.P (lone (b.atR a (.inRegion ops (Region.linearise.go .any ops fuel tq listed []) :: k)) cs w) (lone (b.atR a' (.inRegion ops [] :: k)) cs w') := by
  have done : ∀ {listed : Array Bool} {S : Nat → Prop} {a : Act} {w : World} {γ : Gm} {hg : Nat → AObj}, listed.size = ops.size → (∀ j, S j ↔ listed.getD j false = true) →
      (∀ j, j < ops.size → listed.getD j true = true) → Inv C A bd nt ops T' G' F' hg0 N w0 γ0 df0 S a w γ hg → Inv C A bd nt ops T' G' F' hg0 N w0 γ0 df0 (fun j => j < ops.size) a w γ hg := by
    intro listed S a w γ hg hsz hS hall I
    have e : S = fun j => j < ops.size := by
      funext j
      refine propext ⟨fun h => ?_, fun h => ?_⟩
      · rw [hS] at h
        rcases Nat.lt_or_ge j ops.size with h' | h'
        · exact h'
        · simp [Array.getD_eq_getD_getElem?, Array.getElem?_eq_none (by omega : listed.size ≤ j)] at h
      · rw [hS]
        have := hall j h
        have hlt : j < listed.size := by omega
        simpa [Array.getD, hlt] using this
    rw [← e]; exact I
  intro fuel
  induction fuel with
  | zero =>
    intro tq listed S a w γ hg hsz hS hdown hc I
    have hz := cnt_zero (Nat.le_zero.1 hc)
    refine ⟨a, w, γ, hg, done hsz hS (fun j hj => by simpa using hz j hj) I, ?_⟩
    simp only [Region.linearise.go, List.reverse_nil]
    exact Steps.refl _ _
  | succ fuel ihf =>
    intro tq listed S a w γ hg hsz hS hdown hc I
    simp only [Region.linearise.go]
    change ∃ a' w' γ' hg', _ ∧ Steps C.P (lone (b.atR a (.inRegion ops (match (Region.ready .any ops listed)[tq % (Region.ready .any ops listed).length]? with
      | some i => Region.linearise.go .any ops fuel (tq / (Region.ready .any ops listed).length) (listed.setIfInBounds i true) [i]
      | none => [].reverse) :: k)) cs w) _
    cases hi : (Region.ready .any ops listed)[tq % (Region.ready .any ops listed).length]? with
    | none =>
      have hnil : Region.ready .any ops listed = [] := by
        cases hr : Region.ready .any ops listed with
        | nil => rfl
        | cons x xs =>
          rw [hr] at hi
          have hlt : tq % (x :: xs).length < (x :: xs).length := Nat.mod_lt _ (by simp)
          rw [List.getElem?_eq_getElem hlt] at hi; cases hi
      have hall : ∀ j, j < ops.size → listed.getD j true = true := by
        intro j
        induction j using Nat.strongRecOn with
        | _ j ihj =>
          intro hj
          refine Classical.byContradiction fun hne => ?_
          have hne : listed.getD j true = false := by simpa using hne
          have : j ∈ Region.ready .any ops listed := by
            rw [mem_ready]
            refine ⟨hne, ops[j], Array.getElem?_eq_getElem hj, fun e he hb => ?_⟩
            have hlt := hedge j _ (Array.getElem?_eq_getElem hj) e (by simpa using he) hb
            have h1 := ihj e.on hlt (by omega)
            have hl : e.on < listed.size := by omega
            simpa [Array.getD, hl] using h1
          rw [hnil] at this; exact absurd this List.not_mem_nil
      exact ⟨a, w, γ, hg, done hsz hS hall I, by simp only [List.reverse_nil]; exact Steps.refl _ _⟩
    | some i =>
      have hmem := List.mem_of_getElem? hi
      obtain ⟨hun, o, ho, hall⟩ := mem_ready.1 hmem
      have hin : i < ops.size := (Array.getElem?_eq_some_iff.1 ho).1
      have hSi : ¬ S i := by
        rw [hS]
        have hl : i < listed.size := by omega
        simp [Array.getD, hl] at hun ⊢; exact hun
      have hready : ∀ e ∈ o.after.toList, Region.binds .any e = true → S e.on := fun e he hb => by rw [hS]; exact hall e (by simpa using he) hb
      simp only []
      rw [linearise_go_acc, List.reverse_singleton, List.singleton_append]
      obtain ⟨a1, w1, γ1, hg1, I1, st1⟩ := inv_step (b := b) (k := k) (cs := cs) (rest := Region.linearise.go .any ops fuel (tq / (Region.ready .any ops listed).length) (listed.setIfInBounds i true) []) R I hN ho hSi hdown hready hcalm
      obtain ⟨a2, w2, γ2, hg2, I2, st2⟩ := ihf (tq / (Region.ready .any ops listed).length) (listed.setIfInBounds i true) (fun j => S j ∨ j = i) (by simp [hsz]) (fun j => by
          rw [hS]
          by_cases hj : j = i
          · subst hj
            have hl : j < listed.size := by omega
            simp [Array.getD, hl]
          · simp only [Array.getD_eq_getD_getElem?]
            rw [Array.getElem?_setIfInBounds_ne (Ne.symm hj)]
            simp [hj]) (fun j oj hoj hj e he hb => by
          rcases hj with hj | rfl
          · exact .inl (hdown j oj hoj hj e he hb)
          · rw [ho] at hoj; injection hoj with hoj; subst hoj; exact .inl (hready e he hb)) (by
          have := cnt_lt (p := fun j => !listed.getD j true) (q := fun j => !(listed.setIfInBounds i true).getD j true) (fun j hj => by
            by_cases hji : j = i
            · subst hji; simpa using hun
            · simp only [Array.getD_eq_getD_getElem?] at hj ⊢
              rw [Array.getElem?_setIfInBounds_ne (Ne.symm hji)] at hj; exact hj) hin (by simpa using hun) (by
            have hl : i < listed.size := by omega
            simp [Array.getD, hl])
          omega) I1
      exact ⟨a2, w2, γ2, hg2, I2, Steps.trans st1 st2⟩

/-! Out of the interpreter's run -/

theorem setLog_self {g : G} (h : g.lg = []) : setLog g [] = g := by cases g; simp at h; subst h; rfl

theorem feet_tra {d : Nat} {pm : List Nat} : ∀ (l : List Oper) (i : Nat) {t : T} {df : List ADf} {g : G} {fs : List Foot} {e : Ex} {t' : T} {df' : List ADf} {g' : G},
    (cFeet C nt pm ops.toList i l).run ih d rd t df g fs = .ok e t' df' g' →
    e = .norm ∧ df' = df ∧ ∃ (T' : Nat → T) (G' : Nat → G) (F' : Nat → Foot), T' i = t ∧ G' i = g ∧ T' (i + l.length) = t' ∧ G' (i + l.length) = g' ∧
      (∀ j o, l[j]? = some o → TraAt C ih d rd nt ops false o (T' (i + j)) (T' (i + j + 1)) (G' (i + j)) (G' (i + j + 1)) (F' (i + j)) ∧ (G' (i + j + 1)).lg = (F' (i + j)).wr ++ (G' (i + j)).lg) ∧
      footsOk pm (fs.reverse ++ (List.range l.length).map fun j => F' (i + j)) = true := by
  intro l
  induction l with
  | nil =>
    intro i t df g fs e t' df' g' h
    simp only [cFeet, bif'_eq] at h
    split at h
    · rename_i hf
      injection h with h1 h2 h3 h4
      subst h1; subst h2; subst h3; subst h4
      exact ⟨rfl, rfl, fun _ => t, fun _ => g, fun _ => ⟨noLook, []⟩, rfl, rfl, rfl, rfl, fun j o h => by simp at h, by simpa using hf⟩
    · cases h
  | cons o rest ihl =>
    intro i t df g fs e t' df' g' h
    have go : ∀ {t1 : T} {g1 : G} {f : Foot}, (cFeet C nt pm ops.toList (i + 1) rest).run ih d rd t1 df g1 (f :: fs) = .ok e t' df' g' →
        TraAt C ih d rd nt ops false o t t1 g g1 f → g1.lg = f.wr ++ g.lg →
        e = .norm ∧ df' = df ∧ ∃ (T' : Nat → T) (G' : Nat → G) (F' : Nat → Foot), T' i = t ∧ G' i = g ∧ T' (i + (o :: rest).length) = t' ∧ G' (i + (o :: rest).length) = g' ∧
          (∀ j o', (o :: rest)[j]? = some o' → TraAt C ih d rd nt ops false o' (T' (i + j)) (T' (i + j + 1)) (G' (i + j)) (G' (i + j + 1)) (F' (i + j)) ∧ (G' (i + j + 1)).lg = (F' (i + j)).wr ++ (G' (i + j)).lg) ∧
          footsOk pm (fs.reverse ++ (List.range (o :: rest).length).map fun j => F' (i + j)) = true := by
      intro t1 g1 f h htra hlg
      obtain ⟨h1, h2, T1, G1, F1, a1, a2, a3, a4, a5, a6⟩ := ihl (i + 1) h
      have ne : ∀ j, i + 1 + j ≠ i := fun j => by omega
      refine ⟨h1, h2, fun m => if m = i then t else T1 m, fun m => if m = i then g else G1 m, fun m => if m = i then f else F1 m, by simp, by simp, ?_, ?_, ?_, ?_⟩
      · simp only [List.length_cons]
        rw [if_neg (by omega), show i + (rest.length + 1) = i + 1 + rest.length by omega]; exact a3
      · simp only [List.length_cons]
        rw [if_neg (by omega), show i + (rest.length + 1) = i + 1 + rest.length by omega]; exact a4
      · intro j o' hj
        cases j with
        | zero =>
          simp at hj; subst hj
          simp only [Nat.add_zero, if_true]
          rw [if_neg (by omega), if_neg (by omega), a1, a2]
          exact ⟨htra, hlg⟩
        | succ j =>
          have := a5 j o' (by simpa using hj)
          rw [show i + (j + 1) = i + 1 + j by omega]
          simp only [if_neg (ne j), show i + 1 + j + 1 = i + 1 + (j + 1) by omega, if_neg (ne (j + 1))]
          rw [show i + 1 + (j + 1) = i + 1 + j + 1 by omega]; exact this
      · rw [List.length_cons, List.range_succ_eq_map, List.map_cons, List.map_map]
        simp only [Nat.add_zero, if_true]
        rw [← a6]
        congr 1
        simp only [List.reverse_cons, List.append_assoc, List.singleton_append]
        congr 2
        refine List.map_congr_left fun j _ => ?_
        simp only [Function.comp]
        rw [if_neg (by omega), show i + (j + 1) = i + 1 + j by omega]
    simp only [cFeet] at h
    split at h
    · rename_i out gd hout hgd
      dsimp only at h
      split at h
      · rename_i hq
        generalize hr : (cOpT C o.op).run ih d rd t (setLog g []) = r at h
        cases r with
        | fail => cases h
        | val v =>
          refine go (t1 := out.run t v) (g1 := bumpG g g.lg) (f := ⟨(cFoot C o.op).run t g, []⟩) h ⟨out, gd, hout, hgd, .inr ⟨hq, _, hr, by simp, by simp, rfl, by simp [gOf], by simp [gOf], by simp [gOf], fun _ => ⟨rfl, by simp [gOf]⟩⟩⟩ (by simp)
        | upd v g1 =>
          refine go (t1 := out.run t v) (g1 := bumpG g1 (g1.lg ++ g.lg)) (f := ⟨(cFoot C o.op).run t g, g1.lg⟩) h ⟨out, gd, hout, hgd, .inr ⟨hq, _, hr, by simp, by simp, rfl, by simp [gOf], by simp [gOf], by simp [gOf], fun _ => ⟨rfl, by simp [gOf]⟩⟩⟩ (by simp)
        | dfr a => cases h
      · rename_i hq
        exact go h ⟨out, gd, hout, hgd, .inl ⟨hq, rfl, rfl, rfl⟩⟩ (by simp)
      · cases h
    · cases h

/-- Only a deferral defers. -/
theorem cOpT_dfr (hC : CfgOk C) {op : Op} {d : Nat} {t : T} {g : G} {x : ADf} (h : (cOpT C op).run ih d rd t g = .dfr x) : ∃ c, op = .defer c := by
  have iso : ∀ f args, isoCall ih d g f args ≠ .dfr x := by
    intro f args
    unfold isoCall
    repeat' (first | split | rw [bif'_eq])
    all_goals (intro h; cases h)
  have orf : ∀ r, orF r ≠ .dfr x := by intro r h; cases r <;> cases h
  have rnd : ∀ id args, roundA ih d id args g ≠ .dfr x := by
    intro id args
    unfold roundA
    repeat' split
    all_goals (intro h; cases h)
  unfold cOpT at h
  split at h
  rotate_left
  · cases h
  rename_i f hcop
  unfold cOp at hcop
  split at hcop
  · split at hcop
    · split at hcop
      · rename_i e he; injection hcop with hcop; subst hcop; exact absurd h (hC.noDfr _ _ he _ _ _ _)
      · rw [bif'_eq] at hcop
        split at hcop
        · injection hcop with hcop; subst hcop; exact absurd h (iso _ _)
        · injection hcop with hcop; subst hcop; exact absurd h (orf _)
    · cases hcop
  · split at hcop
    · injection hcop with hcop; subst hcop
      dsimp only at h
      unfold callF at h
      split at h
      · split at h
        · rename_i e he; exact absurd h (hC.noDfr _ _ he _ _ _ _)
        · rw [bif'_eq] at h
          split at h
          · exact absurd h (iso _ _)
          · exact absurd h (orf _)
      · exact absurd h (rnd _ _)
      · cases h
    · cases hcop
  · injection hcop with hcop; subst hcop; cases h
  · exact ⟨_, rfl⟩
  · split at hcop
    · rename_i s hs
      injection hcop with hcop; subst hcop
      have := sop_small (t := t) (g := g) hs
      have h : s.run t g = .dfr x := h
      rw [h] at this
      exact this.elim
    · cases hcop

theorem quiet_tra (hC : CfgOk C) (hi : IHOk C ih) {d : Nat} : ∀ (l : List Oper) (i : Nat) {t : T} {df : List ADf} {g : G} {e : Ex} {t' : T} {df' : List ADf} {g' : G},
    (cOps C nt ops.toList l).run ih d rd t df g = .ok e t' df' g' → (∀ o ∈ l, quietOp C o.op = true) → g.lg = [] → g'.lg = [] → WF g →
    e = .norm ∧ df' = df ∧ ∃ (T' : Nat → T) (G' : Nat → G) (F' : Nat → Foot), T' i = t ∧ G' i = g ∧ T' (i + l.length) = t' ∧ G' (i + l.length) = g' ∧
      (∀ j o, l[j]? = some o → TraAt C ih d rd nt ops true o (T' (i + j)) (T' (i + j + 1)) (G' (i + j)) (G' (i + j + 1)) (F' (i + j))) ∧ ∀ j, (F' j).wr = [] := by
  intro l
  induction l with
  | nil =>
    intro i t df g e t' df' g' h _ _ _ _
    simp only [cOps] at h
    injection h with h1 h2 h3 h4
    subst h1; subst h2; subst h3; subst h4
    exact ⟨rfl, rfl, fun _ => t, fun _ => g, fun _ => ⟨noLook, []⟩, rfl, rfl, rfl, rfl, fun j o h => by simp at h, fun _ => rfl⟩
  | cons o rest ihl =>
    intro i t df g e t' df' g' h hq hlg hlg' hwf
    have go : ∀ {t1 : T} {g1 : G}, (cOps C nt ops.toList rest).run ih d rd t1 df g1 = .ok e t' df' g' → g1.lg = [] → WF g1 →
        TraAt C ih d rd nt ops true o t t1 g g1 ⟨noLook, []⟩ →
        e = .norm ∧ df' = df ∧ ∃ (T' : Nat → T) (G' : Nat → G) (F' : Nat → Foot), T' i = t ∧ G' i = g ∧ T' (i + (o :: rest).length) = t' ∧ G' (i + (o :: rest).length) = g' ∧
          (∀ j o', (o :: rest)[j]? = some o' → TraAt C ih d rd nt ops true o' (T' (i + j)) (T' (i + j + 1)) (G' (i + j)) (G' (i + j + 1)) (F' (i + j))) ∧ ∀ j, (F' j).wr = [] := by
      intro t1 g1 h hl1 hw1 htra
      obtain ⟨h1, h2, T1, G1, F1, a1, a2, a3, a4, a5, a6⟩ := ihl (i + 1) h (fun o' ho' => hq o' (List.mem_cons_of_mem _ ho')) hl1 hlg' hw1
      have ne : ∀ j, i + 1 + j ≠ i := fun j => by omega
      refine ⟨h1, h2, fun m => if m = i then t else T1 m, fun m => if m = i then g else G1 m, fun m => if m = i then ⟨noLook, []⟩ else F1 m, by simp, by simp, ?_, ?_, ?_, ?_⟩
      · simp only [List.length_cons]
        rw [if_neg (by omega), show i + (rest.length + 1) = i + 1 + rest.length by omega]; exact a3
      · simp only [List.length_cons]
        rw [if_neg (by omega), show i + (rest.length + 1) = i + 1 + rest.length by omega]; exact a4
      · intro j o' hj
        cases j with
        | zero =>
          simp at hj; subst hj
          simp only [Nat.add_zero, if_true]
          rw [if_neg (by omega), if_neg (by omega), a1, a2]
          exact htra
        | succ j =>
          have := a5 j o' (by simpa using hj)
          rw [show i + (j + 1) = i + 1 + j by omega]
          simp only [if_neg (ne j), show i + 1 + j + 1 = i + 1 + (j + 1) by omega, if_neg (ne (j + 1))]
          rw [show i + 1 + (j + 1) = i + 1 + j + 1 by omega]; exact this
      · intro j
        dsimp only
        split
        · rfl
        · exact a6 j
    have exec : ∀ {out : Stg (T → AV → T)} {gd : Stg (T → Option Bool)}, outS nt o.dst = some out → cGuard ops.toList o.guard = some gd → gd.run t = some true →
        thenOp out.run ((cOps C nt ops.toList rest).run ih d rd) t df g ((cOpT C o.op).run ih d rd t g) = .ok e t' df' g' →
        e = .norm ∧ df' = df ∧ ∃ (T' : Nat → T) (G' : Nat → G) (F' : Nat → Foot), T' i = t ∧ G' i = g ∧ T' (i + (o :: rest).length) = t' ∧ G' (i + (o :: rest).length) = g' ∧
          (∀ j o', (o :: rest)[j]? = some o' → TraAt C ih d rd nt ops true o' (T' (i + j)) (T' (i + j + 1)) (G' (i + j)) (G' (i + j + 1)) (F' (i + j))) ∧ ∀ j, (F' j).wr = [] := by
      intro out gd hout hgd hgq h
      have hm := cOpT_mon (op := o.op) (d := d) (rd := rd) (t := t) hC.mon hi.mon hwf
      generalize hr : (cOpT C o.op).run ih d rd t g = r at h hm
      have hr' : (cOpT C o.op).run ih d rd t (setLog g []) = r := by rw [setLog_self hlg]; exact hr
      cases r with
      | fail => cases h
      | val v =>
        exact go (t1 := out.run t v) (g1 := g) h hlg hwf ⟨out, gd, hout, hgd, .inr ⟨hgq, _, hr', by simp, by simp, rfl, by simp [gOf], by simp [gOf], by simp [gOf], fun h => by cases h⟩⟩
      | upd v g1 =>
        have w1 : WF g1 := hm.wf hwf
        have m2 := cOps_mon hC.mon hi.mon h w1
        have hl1 : g1.lg = [] := by
          obtain ⟨n, a, _, _⟩ := m2.new
          rw [hlg'] at a
          exact (List.append_eq_nil_iff.1 a.symm).2
        exact go (t1 := out.run t v) (g1 := g1) h hl1 w1 ⟨out, gd, hout, hgd, .inr ⟨hgq, _, hr', by simp, by simp, rfl, by simp [gOf], by simp [gOf, hl1], by simp [gOf], fun h => by cases h⟩⟩
      | dfr a =>
        obtain ⟨c, hc⟩ := cOpT_dfr hC hr
        have := hq o List.mem_cons_self
        rw [hc] at this
        simp [quietOp] at this
    simp only [cOps] at h
    split at h
    · rename_i out hout
      split at h
      · rename_i hgd
        exact exec hout (gd := ⟨fun _ => some true⟩) (by rw [hgd]; rfl) rfl h
      · rename_i gd0 hgd
        split at h
        · rename_i gd hq'
          rw [← hgd] at hq'
          dsimp only at h
          split at h
          · rename_i hqq
            exact exec hout hq' hqq h
          · rename_i hqq
            exact go h hlg hwf ⟨out, gd, hout, hq', .inl ⟨hqq, rfl, rfl, rfl⟩⟩
          · cases h
        · cases h
    · cases h

/-! The whole statement -/

theorem ov_none {K V : Type} {wr : Nat → K → Prop} {val : Nat → K → V} {base : K → V} {n : Nat} {k : K} : ov (fun _ => False) wr val base n k = base k := by
  rw [ov_top (m := 0) (Nat.zero_le _) (fun _ _ _ h => h.elim)]; rfl

/-- A drawn region, out of what the run in the order of the text says. -/
theorem draw_sim (R : Reg C ih bd rd nt ops q T' G' F' hg0) (hmix : C.P.follows .mixedOrders = true) (hedge : ∀ i o, ops[i]? = some o → ∀ e ∈ o.after.toList, Region.binds .any e = true → e.on < i)
    {w : World} {γ : Gm} {nx : Nat} {a : Act} {id : Nat} (hr : Rel C A bd w γ hg0 nx) (ht : TR w γ A bd nt (T' 0) a.tmps) (hcalm : CalmK b.kind cs) :
    ∃ a' w' γ' hg', Rel C A bd w' γ' hg' (Nat.max nx (G' ops.size).nx) ∧ Stp w γ w' γ' ∧ TR w' γ' A bd nt (T' ops.size) a'.tmps ∧ a'.defers = a.defers ∧
      (∀ id, ((∃ j, j < ops.size ∧ id ∈ (F' j).wr) ∧ hg' id = (G' ops.size).h.get id) ∨ ((∀ j, j < ops.size → id ∉ (F' j).wr) ∧ hg' id = hg0 id)) ∧
      Steps C.P (lone (b.atR a (.code (.region id ops true) :: k)) cs w) (lone (b.atR a' k) cs w') := by
  let w1 : World := { w with drawn := w.drawn + 1 }
  have s1 : Stp w γ w1 γ := stp_same (Nat.le_refl _) rfl rfl rfl fun _ _ => rfl
  have r1 : Rel C A bd w1 γ hg0 nx := hr.same s1 fun _ _ => rfl
  have I0 : Inv C A bd nt ops T' G' F' hg0 (Nat.max nx (G' ops.size).nx) w γ a.defers (fun _ => False) a w1 γ hg0 := by
    refine ⟨r1.up (Nat.le_max_left _ _), s1, ht.1, fun s => ?_, fun id => by rw [ov_none], rfl⟩
    rw [ov_none]
    exact (ht.2 s).step s1
  have hcnt : cnt (fun j => !(Array.replicate ops.size false).getD j true) ops.size ≤ ops.size := by
    generalize (fun j => !(Array.replicate ops.size false).getD j true) = p
    generalize ops.size = n
    induction n with
    | zero => exact Nat.le_refl _
    | succ n ih' => simp only [cnt]; split <;> omega
  obtain ⟨a', w', γ', hg', I, st⟩ := any_sim (b := b) (k := k) (cs := cs) R (Nat.le_max_right _ _) hedge hcalm ops.size (w.tape w.drawn (.order b.fn id)) (Array.replicate ops.size false) (fun _ => False) (by simp)
    (fun j => by simp [Array.getD_eq_getD_getElem?, Array.getElem?_replicate]; split <;> simp) (fun j o _ h => h.elim) hcnt I0
  have hend : ∀ {K V : Type} {wr : Nat → K → Prop} {val : Nat → K → V} {base : K → V} {k : K}, (∀ j, j < ops.size → ¬ wr j k → val (j + 1) k = val j k) →
      ((∃ j, j < ops.size ∧ wr j k) ∧ ov (fun j => j < ops.size) wr val base ops.size k = val ops.size k) ∨ ((∀ j, j < ops.size → ¬ wr j k) ∧ ov (fun j => j < ops.size) wr val base ops.size k = base k ∧ val ops.size k = val 0 k) :=
    fun keep => ov_at (Nat.le_refl _) keep fun j _ _ => Iff.rfl
  refine ⟨a', w', γ', hg', I.rel, I.stp, ⟨I.size, fun s => ?_⟩, I.dfr, fun id' => ?_, ?_⟩
  · have := I.slots s
    rcases hend (wr := fun i s => dstOf ops i = some s) (val := fun i s => (T' i).get AV.undef s) (base := fun s => (T' 0).get AV.undef s) (k := s) (fun j hj hw => R.keepT hj hw) with ⟨_, h⟩ | ⟨_, h, h2⟩
    · rw [h] at this; exact this
    · rw [h, ← h2] at this; exact this
  · rw [I.objs id']
    rcases hend (wr := fun i id => id ∈ (F' i).wr) (val := fun i id => (G' i).h.get id) (base := hg0) (k := id') (fun j hj hw => (R.at hj).2.1 id' hw) with ⟨h1, h⟩ | ⟨h1, h, _⟩
    · exact .inl ⟨h1, h⟩
    · exact .inr ⟨h1, h⟩
  · refine .head stepR_region_draw ?_
    have hsched : Region.schedule (C.P.follows .mixedOrders) ops (w.tape w.drawn (.order b.fn id)) = Region.linearise.go .any ops ops.size (w.tape w.drawn (.order b.fn id)) (Array.replicate ops.size false) [] := by
      simp only [Region.schedule, hmix, Bool.true_or, if_true]
      rfl
    rw [hsched]
    exact Steps.trans st (.one stepR_region_end)

end
end Hx
