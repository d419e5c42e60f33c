/- Functions that the model stands in for: math/bits.Add64, Sub64. -/
import Derived.Test.YtkbieohddgjioaaHxTop
import Derived.Laws.Externs
set_option linter.unusedVariables false
set_option linter.unusedSimpArgs false
set_option linter.unnecessarySimpa false
namespace Hx
open Go Go.RowKit

noncomputable def add64A : Nat → List AV → G → OR := fun _ a _ =>
  match a with
  | [.int .u64 (.ofNat x), .int .u64 (.ofNat y), .int .u64 (.ofNat c)] =>
    bif' (Nat.ble c 1) (.val (.tup [.int .u64 (.ofNat ((x + y + c) % 18446744073709551616)), .int .u64 (.ofNat ((x + y + c) / 18446744073709551616))])) .fail
  | _ => .fail
noncomputable def sub64A : Nat → List AV → G → OR := fun _ a _ =>
  match a with
  | [.int .u64 (.ofNat x), .int .u64 (.ofNat y), .int .u64 (.ofNat c)] =>
    bif' (Nat.ble c 1) (.val (.tup [.int .u64 (.ofNat ((x + 18446744073709551616 - y - c) % 18446744073709551616)), .int .u64 (.ofNat (bif' (Nat.blt x (y + c)) 1 0))])) .fail
  | _ => .fail

def sub64E : Array Value → Sem Value := fun args => do
  let (x, y, b) ← Extern.MathBitsCarry.three "Sub64" args
  pure (Extern.MathBitsCarry.pair ((x + Extern.MathBitsCarry.m64 - y - b) % Extern.MathBitsCarry.m64) (if x < y + b then 1 else 0))

theorem run_sub64E {P : Program} (x y b : Nat) (hb : b ≤ 1) (w : World) :
    (sub64E #[.int .u64 x, .int .u64 y, .int .u64 b]).run P w =
      .ok (.tuple #[.int .u64 (((x + 18446744073709551616 - y - b) % 18446744073709551616 : Nat) : Int), .int .u64 ((if x < y + b then 1 else 0 : Nat) : Int)]) w := by
  have : b = 0 ∨ b = 1 := by omega
  rcases this with rfl | rfl <;> rfl

noncomputable def stdExt (fa fs : Nat) : Nat → Option (Nat → List AV → G → OR) := fun f => bif' (Nat.beq f fa) (some add64A) (bif' (Nat.beq f fs) (some sub64A) none)

theorem three_args {a : List AV} {F : Nat → Nat → Nat → OR}
    (h : (match a with | [.int .u64 (.ofNat x), .int .u64 (.ofNat y), .int .u64 (.ofNat c)] => F x y c | _ => .fail) ≠ .fail) :
    ∃ x y c : Nat, a = [.int .u64 (.ofNat x), .int .u64 (.ofNat y), .int .u64 (.ofNat c)] := by
  split at h
  · exact ⟨_, _, _, rfl⟩
  · exact absurd rfl h

theorem rvs_three {w : World} {γ : Gm} {A : Nat → Nat → Prop} {bd : Nat} {x y c : Int} {vs : List Value} (h : RVs w γ A bd [.int .u64 x, .int .u64 y, .int .u64 c] vs) :
    vs = [.int .u64 x, .int .u64 y, .int .u64 c] := by
  have hl := h.1
  match vs, hl with
  | [v0, v1, v2], _ =>
    have h0 := h.2 0 _ _ rfl rfl
    have h1 := h.2 1 _ _ rfl rfl
    have h2 := h.2 2 _ _ rfl rfl
    cases h0; cases h1; cases h2; rfl

theorem pair_rv {w : World} {γ : Gm} {A : Nat → Nat → Prop} {bd : Nat} (a b : Int) : RV w γ A bd (.tup [.int .u64 a, .int .u64 b]) (.tuple #[.int .u64 a, .int .u64 b]) := by
  refine .tup _ _ _ rfl fun i x v hx hv => ?_
  match i with
  | 0 => simp at hx hv; subst hx; subst hv; exact .int _ _ _
  | 1 => simp at hx hv; subst hx; subst hv; exact .int _ _ _
  | i + 2 => simp at hx

/-- The two of math/bits alone. -/
theorem CfgOk.std {P : Program} {iso : Nat → Bool} {glob : Nat → Option (Nat × List (List AV))} {fa fs : Nat} (hm : P.follows .mixedOrders = true) (hrf : P.follows .rangeFuncRecover = true)
    {fna fns : Func} (a1 : P.funcs[fa]? = some fna) (a2 : (fna.name == "runtime.NumGoroutine") = false) (a3 : fna.body.isNone = true) (a4 : Extern.findNext fna = none) (a5 : Extern.find fna = some add64Entry)
    (s1 : P.funcs[fs]? = some fns) (s2 : (fns.name == "runtime.NumGoroutine") = false) (s3 : fns.body.isNone = true) (s4 : Extern.findNext fns = none) (s5 : Extern.find fns = some sub64E) :
    CfgOk { P, iso, ext := stdExt fa fs, glob } := by
  have which : ∀ f e, stdExt fa fs f = some e → (f = fa ∧ e = add64A) ∨ (f = fs ∧ e = sub64A) := by
    intro f e h
    unfold stdExt at h
    rw [bif'_eq, bif'_eq] at h
    split at h
    · rename_i hb; injection h with h; exact .inl ⟨nat_beq hb, h.symm⟩
    · split at h
      · rename_i hb; injection h with h; exact .inr ⟨nat_beq hb, h.symm⟩
      · cases h
  have vala : ∀ d args g, (∃ v, add64A d args g = .val v) ∨ add64A d args g = .fail := by
    intro d args g; unfold add64A; split
    · rw [bif'_eq]; split
      · exact .inl ⟨_, rfl⟩
      · exact .inr rfl
    · exact .inr rfl
  have vals : ∀ d args g, (∃ v, sub64A d args g = .val v) ∨ sub64A d args g = .fail := by
    intro d args g; unfold sub64A; split
    · rw [bif'_eq]; split
      · exact .inl ⟨_, rfl⟩
      · exact .inr rfl
    · exact .inr rfl
  have nod : ∀ f e, stdExt fa fs f = some e → ∀ d args g y, e d args g ≠ .dfr y := by
    intro f e h d args g y hy
    rcases which f e h with ⟨_, rfl⟩ | ⟨_, rfl⟩
    · rcases vala d args g with ⟨v, hv⟩ | hv <;> rw [hv] at hy <;> cases hy
    · rcases vals d args g with ⟨v, hv⟩ | hv <;> rw [hv] at hy <;> cases hy
  refine ⟨hm, hrf, fun f e h d args g hwf => ?_, nod, ?_⟩
  · rcases which f e h with ⟨_, rfl⟩ | ⟨_, rfl⟩
    · rcases vala d args g with ⟨v, hv⟩ | hv <;> rw [hv] <;> exact Mon.refl g
    · rcases vals d args g with ⟨v, hv⟩ | hv <;> rw [hv] <;> exact Mon.refl g
  · intro f e h A bd w γ hg nx g as vs hr hwf hx hf hv hne cs
    rcases which f e h with ⟨rfl, rfl⟩ | ⟨rfl, rfl⟩
    · obtain ⟨x, y, c, rfl⟩ := three_args hne
      have hvs := rvs_three hv
      subst hvs
      unfold add64A at hne ⊢
      simp only [bif'_eq] at hne ⊢
      split at hne
      rotate_left
      · exact absurd rfl hne
      rename_i hc
      rw [if_pos hc]
      rw [Nat.ble_eq] at hc
      refine ⟨_, w, γ, hg, Fin.refl hr, pair_rv _ _, .inl ?_⟩
      have := run_callFunc_extern (P := P) a1 a2 a3 a4 a5 #[.int .u64 x, .int .u64 y, .int .u64 c] w
      rw [run_add64 x y c (by omega) (by omega) (by omega) (by omega)] at this
      refine this.trans ?_
      simp only [Result.andThen]
      congr 5
    · obtain ⟨x, y, c, rfl⟩ := three_args hne
      have hvs := rvs_three hv
      subst hvs
      unfold sub64A at hne ⊢
      simp only [bif'_eq] at hne ⊢
      split at hne
      rotate_left
      · exact absurd rfl hne
      rename_i hc
      rw [if_pos hc]
      rw [Nat.ble_eq] at hc
      refine ⟨_, w, γ, hg, Fin.refl hr, pair_rv _ _, .inl ?_⟩
      have := run_callFunc_extern (P := P) s1 s2 s3 s4 s5 #[.int .u64 x, .int .u64 y, .int .u64 c] w
      rw [run_sub64E x y c hc] at this
      refine this.trans ?_
      simp only [Result.andThen, Nat.blt_eq]
      rfl

/-- No function is taken as given. -/
theorem CfgOk.plain {P : Program} {iso : Nat → Bool} {glob : Nat → Option (Nat × List (List AV))} (hm : P.follows .mixedOrders = true) (hrf : P.follows .rangeFuncRecover = true) :
    CfgOk { P, iso, ext := fun _ => none, glob } :=
  ⟨hm, hrf, fun f e h => (by cases h), fun f e h => (by cases h), fun f e h => (by cases h)⟩


/-! Summaries -/

theorem Rel.cfg {C C' : Cfg} (h : C'.glob = C.glob) {A : Nat → Nat → Prop} {bd : Nat} {w : World} {γ : Gm} {hg : Nat → AObj} {nx : Nat} (r : Rel C A bd w γ hg nx) : Rel C' A bd w γ hg nx :=
  ⟨r.obj, r.lt, r.inj, r.av, r.ab, by rw [h]; exact r.glob⟩

theorem Fin.cfg {C C' : Cfg} (h : C'.glob = C.glob) {A : Nat → Nat → Prop} {bd : Nat} {w w' : World} {γ γ' : Gm} {hg hg' : Nat → AObj} {nx : Nat} {g g' : G} (f : Fin C A bd w γ hg nx g w' γ' hg' g') :
    Fin C' A bd w γ hg nx g w' γ' hg' g' := ⟨f.rel.cfg h, f.stp, f.new⟩

/-- What is asked of a function taken as given. -/
structure ExtOk (C : Cfg) (f : Nat) (e : Nat → List AV → G → OR) : Prop where
  mon : ∀ d args g, WF g → Mon g (gOf g (e d args g))
  noDfr : ∀ d args g y, e d args g ≠ .dfr y
  run : ∀ A bd w γ hg nx g as vs, Rel C A bd w γ hg nx → WF g → (∀ id ∈ as.flatMap (snapIds g.h depthA), g.h.get id ≠ .none → hg id = g.h.get id) → Free γ g (gOf g (e (bd + 1) as g)) →
    RVs w γ A bd as vs → e (bd + 1) as g ≠ .fail → ∀ cs,
    ∃ u w' γ' hg', Fin C A bd w γ hg nx g w' γ' hg' (gOf g (e (bd + 1) as g)) ∧ RV w' γ' A bd (vOf (e (bd + 1) as g)) u ∧
      ((callFunc f vs.toArray).run C.P w = .ok (.value u) w' ∨ (Enters C.P f ∧ Outs C.P .normal f vs.toArray cs w u w'))

/-- One function more taken as given. -/
noncomputable def Cfg.add (C : Cfg) (f : Nat) (e : Nat → List AV → G → OR) : Cfg := { C with ext := fun k => bif' (Nat.beq k f) (some e) (C.ext k) }

theorem ExtOk.cfg {C C' : Cfg} {f : Nat} {e : Nat → List AV → G → OR} (hp : C'.P = C.P) (hgl : C'.glob = C.glob) (h : ExtOk C f e) : ExtOk C' f e := by
  refine ⟨h.mon, h.noDfr, fun A bd w γ hg nx g as vs hr hwf hx hf hv hne cs => ?_⟩
  obtain ⟨u, w', γ', hg', fin, rv, out⟩ := h.run A bd w γ hg nx g as vs (hr.cfg hgl.symm) hwf hx hf hv hne cs
  exact ⟨u, w', γ', hg', fin.cfg hgl, rv, by rw [hp]; exact out⟩

theorem CfgOk.add {C : Cfg} (h : CfgOk C) {f : Nat} {e : Nat → List AV → G → OR} (he : ExtOk C f e) : CfgOk (C.add f e) := by
  have which : ∀ k e', (C.add f e).ext k = some e' → (k = f ∧ e' = e) ∨ C.ext k = some e' := by
    intro k e' hk
    have hk : bif' (Nat.beq k f) (some e) (C.ext k) = some e' := hk
    rw [bif'_eq] at hk
    split at hk
    · rename_i hb; injection hk with hk; exact .inl ⟨nat_beq hb, hk.symm⟩
    · exact .inr hk
  refine ⟨h.mixed, h.recov, fun k e' hk d args g hwf => ?_, fun k e' hk d args g y => ?_, fun k e' hk A bd w γ hg nx g as vs hr hwf hx hf hv hne cs => ?_⟩
  · rcases which k e' hk with ⟨_, rfl⟩ | hk
    · exact he.mon d args g hwf
    · exact h.mon k e' hk d args g hwf
  · rcases which k e' hk with ⟨_, rfl⟩ | hk
    · exact he.noDfr d args g y
    · exact h.noDfr k e' hk d args g y
  · rcases which k e' hk with ⟨rfl, rfl⟩ | hk
    · obtain ⟨u, w', γ', hg', fin, rv, out⟩ := he.run A bd w γ hg nx g as vs (Rel.cfg (C := C.add k e') (C' := C) rfl hr) hwf hx hf hv hne cs
      exact ⟨u, w', γ', hg', Fin.cfg (C := C) (C' := C.add k e') rfl fin, rv, out⟩
    · obtain ⟨u, w', γ', hg', fin, rv, out⟩ := h.ext k e' hk A bd w γ hg nx g as vs (Rel.cfg (C := C.add f e) (C' := C) rfl hr) hwf hx hf hv hne cs
      exact ⟨u, w', γ', hg', Fin.cfg (C := C) (C' := C.add f e) rfl fin, rv, out⟩

/-- A function without arguments that comes to a value, called by the law itself. -/
noncomputable def constE (v : AV) : Nat → List AV → G → OR := fun d as _ =>
  match d with
  | 1 => match as with
    | [] => .val v
    | _ => .fail
  | _ => .fail

theorem isoCall_nil {ih : IH} {d : Nat} {g g0 : G} {f : Nat} {v : AV} (h : isoCall ih d g0 f [] = .val v) : isoCall ih d g f [] = .val v := by
  unfold isoCall at h ⊢
  simp only [mapO] at h ⊢
  cases hc : ih.call (Nat.succ d) f [] G.empty with
  | fail => rw [hc] at h; cases h
  | ok r g' =>
    rw [hc] at h
    dsimp only at h ⊢
    cases hs : snap g'.h 0 depthA r with
    | none => rw [hs] at h; cases h
    | some r' =>
      rw [hs] at h
      dsimp only at h ⊢
      cases hm : tagO depthA r' with
      | none => rw [hm] at h; cases h
      | some m =>
        rw [hm] at h
        dsimp only at h ⊢
        cases hb : Nat.blt m d with
        | true => rw [hb] at h; exact h
        | false =>
          rw [hb] at h
          split at h
          · cases h
          · split at h
            · cases h
            · rename_i m' hm'
              cases hb' : Nat.blt m' d with
              | true => rw [hb'] at h; cases h
              | false => rw [hb'] at h; cases h

theorem constE_ok {C : Cfg} (hC : CfgOk C) {n f : Nat} {v : AV} (h : isoCall (sem C n) 1 G.empty f [] = .val v) : ExtOk C f (constE v) := by
  have sh : ∀ d args g, constE v d args g = .fail ∨ (d = 1 ∧ args = [] ∧ constE v d args g = .val v) := by
    intro d args g
    unfold constE
    split
    · split
      · exact .inr ⟨rfl, rfl, rfl⟩
      · exact .inl rfl
    · exact .inl rfl
  refine ⟨fun d args g _ => ?_, fun d args g y hy => ?_, fun A bd w γ hg nx g as vs hr hwf hx hf hv hne cs => ?_⟩
  · rcases sh d args g with h | ⟨_, _, h⟩ <;> rw [h] <;> exact Mon.refl g
  · rcases sh d args g with h | ⟨_, _, h⟩ <;> rw [h] at hy <;> cases hy
  · rcases sh (bd + 1) as g with h0 | ⟨h1, rfl, h0⟩
    · exact absurd h0 hne
    · have hbd : bd = 0 := by omega
      subst hbd
      have hc := isoCall_nil (g := g) h
      rw [h0]
      have hok := sem_ok hC n
      obtain ⟨he, u, w', γ', hg', fin, rv, out⟩ := isoCall_sim (args := []) (f := f) hok.call hok.mon.call hr hx hv (by rw [hc]; simp) cs
      rw [hc] at fin rv
      exact ⟨u, w', γ', hg', fin, rv, .inr ⟨he, out⟩⟩


/-! Calls whose outcome is known by a table -/

noncomputable def eqLst {α : Type} (f : α → α → Bool) : List α → List α → Bool
  | [], [] => true
  | a :: as, b :: bs => bif' (f a b) (eqLst f as bs) false
  | _, _ => false

/-- Whether two values without references are the same. -/
noncomputable def eqAV : Nat → AV → AV → Bool
  | 0, _, _ => false
  | n + 1, x, y => match x with
    | .bool a => match y with | .bool b => bif' a b (notb b) | _ => false
    | .int k a => match y with | .int k' b => bif' (kindEq k k') (ieqb a b) false | _ => false
    | .tup a => match y with | .tup b => eqLst (eqAV n) a b | _ => false
    | .agg a => match y with | .agg b => eqLst (eqAV n) a b | _ => false
    | .nilp => match y with | .nilp => true | _ => false
    | .nils => match y with | .nils => true | _ => false
    | .nilf => match y with | .nilf => true | _ => false
    | .nilm => match y with | .nilm => true | _ => false
    | .nili => match y with | .nili => true | _ => false
    | .esl => match y with | .esl => true | _ => false
    | .tsl t s r => match y with | .tsl t' s' r' => bif' (Nat.beq t t' && Nat.beq s s') (eqLst (eqLst (eqAV n)) r r') false | _ => false
    | .clo f a c => match y with | .clo f' a' c' => bif' (Nat.beq f f') (bif' (eqLst (eqAV n) a a') (eqLst (eqAV n) c c') false) false | _ => false
    | _ => false

theorem eqLst_eq {α : Type} {f : α → α → Bool} (hf : ∀ a b, f a b = true → a = b) : ∀ {l l' : List α}, eqLst f l l' = true → l = l' := by
  intro l
  induction l with
  | nil => intro l' h; cases l' with
    | nil => rfl
    | cons b bs => cases h
  | cons a as ih => intro l' h; cases l' with
    | nil => cases h
    | cons b bs =>
      simp only [eqLst, bif'_eq] at h
      split at h
      · rename_i h1; rw [hf a b h1, ih h]
      · cases h

theorem eqAV_eq : ∀ (n : Nat) (x y : AV), eqAV n x y = true → x = y := by
  intro n
  induction n with
  | zero => intro x y h; cases h
  | succ n ih =>
    intro x y h
    have l1 := fun {l l' : List AV} (h : eqLst (eqAV n) l l' = true) => eqLst_eq ih h
    cases x <;> cases y <;> simp only [eqAV] at h <;> first | (cases h; done) | rfl | skip
    · rename_i a b
      cases a <;> cases b <;> first | rfl | (cases h; done)
    · rename_i k a k' b
      rw [bif'_eq] at h
      split at h
      · rename_i hk
        rw [kindEq_eq] at hk
        rw [ieqb_eq] at h
        simp only [decide_eq_true_eq] at hk h
        rw [hk, h]
      · cases h
    · rw [l1 h]
    · rw [l1 h]
    · rw [bif'_eq] at h
      split at h
      · rename_i hk
        simp only [Bool.and_eq_true] at hk
        rw [nat_beq hk.1, nat_beq hk.2, eqLst_eq (fun a b h => l1 h) h]
      · cases h
    · rw [bif'_eq] at h
      split at h
      · rename_i hf
        rw [bif'_eq] at h
        split at h
        · rename_i ha
          rw [nat_beq hf, l1 ha, l1 h]
        · cases h
      · cases h

noncomputable def findTab (as : List AV) : List (List AV × AV) → Option AV
  | [] => none
  | e :: r => bif' (eqLst (eqAV depthA) e.1 as) (some e.2) (findTab as r)

theorem findTab_mem {as : List AV} {v : AV} : ∀ {l : List (List AV × AV)}, findTab as l = some v → (as, v) ∈ l := by
  intro l
  induction l with
  | nil => intro h; cases h
  | cons e r ih =>
    intro h
    simp only [findTab, bif'_eq] at h
    split at h
    · rename_i he
      injection h with h
      have := eqLst_eq (eqAV_eq depthA) he
      subst this; subst h
      exact List.mem_cons_self
    · exact List.mem_cons_of_mem _ (ih h)

/-- What a call in a heap of its own comes to, where nothing that was lent comes back. -/
noncomputable def retA (d : Nat) : FR → Option AV
  | .fail => none
  | .ok r g' => match snap g'.h 0 depthA r with
    | none => none
    | some r' => match tagO depthA r' with
      | none => none
      | some m => bif' (Nat.blt m d) (some r') none

theorem isoCall_ret {ih : IH} {d : Nat} {g : G} {f : Nat} {args as : List AV} {v : AV} (hs : mapO (snap g.h d depthA) args = some as) (h : retA d (ih.call (Nat.succ d) f as G.empty) = some v) :
    isoCall ih d g f args = .val v := by
  unfold isoCall
  rw [hs]
  dsimp only
  cases hc : ih.call (Nat.succ d) f as G.empty with
  | fail => rw [hc] at h; cases h
  | ok r g' =>
    rw [hc] at h
    simp only [retA] at h
    dsimp only
    cases hs' : snap g'.h 0 depthA r with
    | none => rw [hs'] at h; cases h
    | some r' =>
      rw [hs'] at h
      dsimp only at h ⊢
      cases hm : tagO depthA r' with
      | none => rw [hm] at h; cases h
      | some m =>
        rw [hm] at h
        dsimp only at h ⊢
        cases hb : Nat.blt m d with
        | true => rw [hb] at h; injection h with h; rw [h]
        | false => rw [hb] at h; cases h

/-- A table for a function that the law itself calls; what is not in it is run. -/
noncomputable def tabE (C : Cfg) (n f : Nat) (tab : List (List AV × AV)) : Nat → List AV → G → OR := fun d as g =>
  match d with
  | 1 => match mapO (snap g.h 1 depthA) as with
    | some as' => match findTab as' tab with
      | some v => .val v
      | none => isoCall (sem C n) 1 g f as
    | none => .fail
  | _ => .fail

theorem tabE_ok {C : Cfg} (hC : CfgOk C) {n f : Nat} {tab : List (List AV × AV)} (h : ∀ e ∈ tab, retA 1 ((sem C n).call 2 f e.1 G.empty) = some e.2) : ExtOk C f (tabE C n f tab) := by
  have sh : ∀ d args g, tabE C n f tab d args g = .fail ∨ (d = 1 ∧ tabE C n f tab d args g = isoCall (sem C n) 1 g f args) := by
    intro d args g
    unfold tabE
    split
    · split
      · rename_i as' has
        split
        · rename_i v hv
          have := findTab_mem hv
          exact .inr ⟨rfl, (isoCall_ret has (h _ this)).symm⟩
        · exact .inr ⟨rfl, rfl⟩
      · exact .inl rfl
    · exact .inl rfl
  refine ⟨fun d args g hwf => ?_, fun d args g y hy => ?_, fun A bd w γ hg nx g as vs hr hwf hx hf hv hne cs => ?_⟩
  · rcases sh d args g with h | ⟨_, h⟩ <;> rw [h]
    · exact Mon.refl g
    · exact isoCall_mon hwf
  · rcases sh d args g with h | ⟨_, h⟩ <;> rw [h] at hy
    · cases hy
    · revert hy
      unfold isoCall
      repeat' (first | split | rw [bif'_eq])
      all_goals (intro h; cases h)
  · rcases sh (bd + 1) as g with h0 | ⟨h1, h0⟩
    · exact absurd h0 hne
    · have hbd : bd = 0 := by omega
      subst hbd
      rw [h0] at hne ⊢
      have hok := sem_ok hC n
      obtain ⟨he, u, w', γ', hg', fin, rv, out⟩ := isoCall_sim hok.call hok.mon.call hr hx hv hne cs
      exact ⟨u, w', γ', hg', fin, rv, .inr ⟨he, out⟩⟩

end Hx
