/- Regions in the order of the text. -/
import Derived.Test.YtkbieohddgjioaaHxCong
set_option linter.unusedVariables false
set_option linter.unusedSimpArgs false
set_option linter.unnecessarySimpa false
namespace Hx
open Go

section
variable {C : Cfg} {A : Nat → Nat → Prop} {bd : Nat} {w w' : World} {γ γ' : Gm} {hg : Nat → AObj} {nx : Nat}
variable {t : T} {g : G} {ih : IH}

theorem TR.put {nt : Nat} {a : Act} {dst : Option Tmp} {out : Stg (T → AV → T)} {x : AV} {v : Value} (ho : outS nt dst = some out) (ht : TR w γ A bd nt t a.tmps) (hv : RV w γ A bd x v) :
    TR w γ A bd nt (out.run t x) (a.put dst v).tmps := by
  cases dst with
  | none => simp [outS] at ho; subst ho; exact ht
  | some d =>
    simp only [outS, bif'_eq] at ho
    split at ho
    · rename_i hd
      rw [Nat.blt_eq] at hd
      injection ho with ho; subst ho
      refine ⟨by simp [Act.put, ht.1], fun s => ?_⟩
      rw [sp_get]
      by_cases hs : s = d
      · subst hs
        rw [if_pos rfl]
        have : s < a.tmps.size := by rw [ht.1]; exact hd
        simpa [Act.put, Array.getD, this] using hv
      · rw [if_neg hs]
        have := ht.2 s
        simp only [Act.put, Array.getD_eq_getD_getElem?] at this ⊢
        rw [Array.getElem?_setIfInBounds_ne (Ne.symm hs)]; exact this
    · cases ho

/-- A guard says in the model what it says in the interpreter. -/
theorem guard_sim {ops : Array Oper} {o : Oper} {q : Stg (T → Option Bool)} {bv : Bool} {nt : Nat} {tmps : Array Value} (hq : cGuard ops.toList o.guard = some q) (ht : TR w γ A bd nt t tmps)
    (h : q.run t = some bv) : Region.wanted o (yielded ops tmps) = bv := by
  unfold Region.wanted
  cases hg : o.guard with
  | none =>
    rw [hg] at hq
    simp [cGuard] at hq; subst hq
    injection h with h
  | some p =>
    obtain ⟨j, want⟩ := p
    rw [hg] at hq
    simp only [cGuard] at hq
    split at hq
    · rename_i oj hoj
      split at hq
      · rename_i d hd
        injection hq with hq; subst hq
        have hoj' : ops[j]? = some oj := by simpa using hoj
        dsimp only at h
        rw [gp_run] at h
        have hrv := ht.2 d
        simp only [yielded, hoj', Option.bind_some, hd]
        generalize t.get AV.undef d = y at h hrv
        split at h
        · rename_i b
          injection h with h; subst h
          have hb : tmps[d]? = some (.bool b) := by
            cases hrv' : tmps[d]? with
            | none => simp [Array.getD_eq_getD_getElem?, hrv', undef] at hrv; cases hrv
            | some v =>
              simp only [Array.getD_eq_getD_getElem?, hrv', Option.getD_some] at hrv
              cases hrv; rfl
          simp only [hb]
          cases want <;> cases b <;> rfl
        · injection h with h; subst h
          cases hrv' : tmps[d]? with
          | none => rfl
          | some v =>
            simp only [Array.getD_eq_getD_getElem?, hrv', Option.getD_some] at hrv
            cases hrv; rfl
        · cases h
      · cases hq
    · cases hq

theorem cGuard_congr {all : List Oper} {gd : Option (Nat × Bool)} {q : Stg (T → Option Bool)} {t t' : T} (hq : cGuard all gd = some q)
    (h : ∀ j b oj d, gd = some (j, b) → all[j]? = some oj → oj.dst = some d → t.get AV.undef d = t'.get AV.undef d) : q.run t = q.run t' := by
  cases gd with
  | none => simp [cGuard] at hq; subst hq; rfl
  | some p =>
    obtain ⟨j, want⟩ := p
    simp only [cGuard] at hq
    split at hq
    · rename_i oj hoj
      split at hq
      · rename_i d hd
        injection hq with hq; subst hq
        dsimp only
        rw [gp_run, gp_run, h j want oj d rfl hoj hd]
      · cases hq
    · cases hq

variable {b : Frame} {a : Act} {ops : Array Oper} {i : Nat} {rest : List Nat} {k : List Item} {cs : List Frame} {o : Oper}

theorem step_deferOp {P : Program} {d : Deferred} (ho : ops[i]? = some o) (hw : Region.wanted o (yielded ops a.tmps) = true) (hro : b.roundOf = none)
    (hrun : (execOp a.eval o).run P w = .ok (.defer d) w) :
    step P (lone (b.atR a (.inRegion ops (i :: rest) :: k)) cs w) = .next (lone (b.atR ({ a with defers := d :: a.defers }.put o.dst undef) (.inRegion ops rest :: k)) cs w) := by
  have hfin := Frame.finish_atR b { a with defers := d :: a.defers } ops i rest k undef
  rw [ho] at hfin
  simp only [Option.bind_some] at hfin
  refine step_lone_go ?_
  rw [stepGR_op ho hw, hro, Oper.semAt_none, ← hfin]
  simp [stepG.apply, hrun, Frame.atR]

theorem step_skipOp {P : Program} (ho : ops[i]? = some o) (hw : Region.wanted o (yielded ops a.tmps) = false) :
    step P (lone (b.atR a (.inRegion ops (i :: rest) :: k)) cs w) = .next (lone (b.atR (a.put o.dst undef) (.inRegion ops rest :: k)) cs w) := by
  have := stepR_op_skip (P := P) (b := b) (a := a) (k := k) (cs := cs) (w := w) (ops := ops) (i := i) (rest := rest) (by rw [ho]; simpa using hw)
  rw [ho] at this
  simpa using this

/-- A deferral. -/
theorem dfr_sim (hr : Rel C A bd w γ hg nx) {nt : Nat} {rd : Option Nat} {d : Nat} {df : List ADf} (ht : TR w γ A bd nt t a.tmps) (hrd : RdOk γ rd b) (hdf : DR w γ A bd df a.defers)
    {x : ADf} (h : (cOpT C o.op).run ih d rd t g = .dfr x) (hE : ∀ f e d args g y, C.ext f = some e → e d args g ≠ .dfr y) (ho : ops[i]? = some o) (hw : Region.wanted o (yielded ops a.tmps) = true) :
    ∃ dd, DR w γ A bd (x :: df) (dd :: a.defers) ∧
      step C.P (lone (b.atR a (.inRegion ops (i :: rest) :: k)) cs w) = .next (lone (b.atR ({ a with defers := dd :: a.defers }.put o.dst undef) (.inRegion ops rest :: k)) cs w) := by
  have iso : ∀ f args, isoCall ih d g f args ≠ .dfr x := by
    intro f args
    unfold isoCall
    repeat' (first | split | rw [bif'_eq])
    all_goals (intro h; cases h)
  have orf : ∀ r, orF r ≠ .dfr x := by intro r h; cases r <;> cases h
  have rnd : ∀ id args, roundA ih d id args g ≠ .dfr x := by
    intro id args
    unfold roundA
    repeat' split
    all_goals (intro h; cases h)
  unfold cOpT at h
  split at h
  rotate_left
  · cases h
  rename_i f hcop
  generalize hop : o.op = op at hcop
  unfold cOp at hcop
  split at hcop
  · rename_i fx args at2
    split at hcop
    · split at hcop
      · rename_i e he; injection hcop with hcop; subst hcop; exact absurd h (hE _ _ _ _ _ _ he)
      · rw [bif'_eq] at hcop
        split at hcop
        · injection hcop with hcop; subst hcop; exact absurd h (iso _ _)
        · injection hcop with hcop; subst hcop; exact absurd h (orf _)
    · cases hcop
  · rename_i fo args at2 hnf
    split at hcop
    · rename_i fv vs hfv hvs
      injection hcop with hcop; subst hcop
      dsimp only at h
      unfold callF at h
      split at h
      · split at h
        · rename_i e he; exact absurd h (hE _ _ _ _ _ _ he)
        · rw [bif'_eq] at h
          split at h
          · exact absurd h (iso _ _)
          · exact absurd h (orf _)
      · exact absurd h (rnd _ _)
      · cases h
    · cases hcop
  · injection hcop with hcop; subst hcop; cases h
  · rename_i fo args at2
    split at hcop
    · rename_i fv vs hfv hvs
      injection hcop with hcop; subst hcop
      dsimp only at h
      cases rd with
      | some _ => cases h
      | none =>
        dsimp only at h
        have hf := rho_sim hfv ht hr
        have hv := rhos_sim ht hr hvs
        generalize hfo : a.eval fo = vfo at hf
        generalize fv.run t = y at h hf
        cases hf with
        | clo _ fx xs ys vs1 us1 hl hl2 h1 h2 =>
          dsimp only at h
          injection h with h; subst h
          refine ⟨{ target := .fn (.func fx) us1, args := vs1 ++ args.map a.eval }, ⟨⟨fx, ys, us1, rfl, rfl, RVs.ofArr hl2 h2, ?_⟩, hdf⟩, step_deferOp ho hw hrd ?_⟩
          · have := (RVs.ofArr hl h1).append hv
            simpa using this
          · simp only [execOp, hop, resolve, hfo, Deferred.ofValue, Sem.run_bind, Sem.run_pure, Result.andThen_ok]
        | _ => cases h
    · cases hcop
  · split at hcop
    · rename_i s hs
      injection hcop with hcop; subst hcop
      have := sop_small (t := t) (g := g) hs
      have h : s.run t g = .dfr x := h
      rw [h] at this
      exact this.elim
    · cases hcop

/-- The operations of a region in the order of the text. -/
theorem cOps_sim (hC : CfgOk C) (hi : IHOk C ih) {nt : Nat} {rd : Option Nat} : ∀ (l : List Oper) (i : Nat) {t : T} {df : List ADf} {g : G} {e : Ex} {t' : T} {df' : List ADf} {g' : G},
    ops.toList.drop i = l → (cOps C nt ops.toList l).run ih (bd + 1) rd t df g = .ok e t' df' g' → WF g →
    ∀ {w γ hg nx a}, Rel C A bd w γ hg nx → Ext g.h hg → Free γ g g' → TR w γ A bd nt t a.tmps → DR w γ A bd df a.defers → RdOk γ rd b → CalmK b.kind cs →
      e = .norm ∧ ∃ a' w' γ' hg', Fin C A bd w γ hg nx g w' γ' hg' g' ∧ TR w' γ' A bd nt t' a'.tmps ∧ DR w' γ' A bd df' a'.defers ∧
        Steps C.P (lone (b.atR a (.inRegion ops (List.range' i l.length) :: k)) cs w) (lone (b.atR a' k) cs w') := by
  intro l
  induction l with
  | nil =>
    intro i t df g e t' df' g' _ h _ w γ hg nx a hr hx hf ht hdf hrd hcalm
    simp only [cOps] at h
    injection h with h1 h2 h3 h4
    subst h1; subst h2; subst h3; subst h4
    exact ⟨rfl, a, w, γ, hg, Fin.refl hr, ht, hdf, .one stepR_region_end⟩
  | cons o rest ihl =>
    intro i t df g e t' df' g' hdrop h hwf w γ hg nx a hr hx hf ht hdf hrd hcalm
    have ho : ops[i]? = some o := by
      have : (ops.toList.drop i)[0]? = some o := by rw [hdrop]; rfl
      simpa [List.getElem?_drop] using this
    have hdrop' : ops.toList.drop (i + 1) = rest := by
      rw [← List.drop_drop, hdrop]; rfl
    have hrange : List.range' i (o :: rest).length = i :: List.range' (i + 1) rest.length := by
      simp [List.range'_succ]
    rw [hrange]
    -- what is run
    have exec : ∀ {out : Stg (T → AV → T)}, outS nt o.dst = some out → Region.wanted o (yielded ops a.tmps) = true →
        thenOp out.run ((cOps C nt ops.toList rest).run ih (bd + 1) rd) t df g ((cOpT C o.op).run ih (bd + 1) rd t g) = .ok e t' df' g' →
        e = .norm ∧ ∃ a' w' γ' hg', Fin C A bd w γ hg nx g w' γ' hg' g' ∧ TR w' γ' A bd nt t' a'.tmps ∧ DR w' γ' A bd df' a'.defers ∧
          Steps C.P (lone (b.atR a (.inRegion ops (i :: List.range' (i + 1) rest.length) :: k)) cs w) (lone (b.atR a' k) cs w') := by
      intro out hout hw h
      have hm := cOpT_mon (op := o.op) (d := bd + 1) (rd := rd) (t := t) hC.mon hi.mon hwf
      generalize hres : (cOpT C o.op).run ih (bd + 1) rd t g = r at h hm
      have go : ∀ {x : AV} {g1 : G}, r ≠ .fail → (∀ y, r ≠ .dfr y) → vOf r = x → gOf g r = g1 → (cOps C nt ops.toList rest).run ih (bd + 1) rd (out.run t x) df g1 = .ok e t' df' g' →
          e = .norm ∧ ∃ a' w' γ' hg', Fin C A bd w γ hg nx g w' γ' hg' g' ∧ TR w' γ' A bd nt t' a'.tmps ∧ DR w' γ' A bd df' a'.defers ∧
          Steps C.P (lone (b.atR a (.inRegion ops (i :: List.range' (i + 1) rest.length) :: k)) cs w) (lone (b.atR a' k) cs w') := by
        intro x g1 hne hnd hx' hg1 h
        subst hx'; subst hg1
        have w1 := hm.wf hwf
        have m2 := cOps_mon hC.mon hi.mon h w1
        obtain ⟨u, wa, γa, hga, f1, rv, st⟩ := op_sim (b := b) (cs := cs) (rest := List.range' (i + 1) rest.length) (k := k) hC hi hr hwf ht hcalm hx.agr hres hne hnd (hf.le m2.nx) ho hw
        obtain ⟨he, a', wb, γb, hgb, f2, tr, dr, st2⟩ := ihl (i + 1) hdrop' h w1 (a := a.put o.dst u) f1.rel (f1.ext hm hx) (f1.freed hr hm hf) ((ht.step f1.stp).put hout rv)
          (by have := hdf.step f1.stp; cases hd : o.dst <;> simpa [Act.put, hd] using this) (hrd.step f1.stp) hcalm
        exact ⟨he, a', wb, γb, hgb, f1.trans f2 hm m2, tr, dr, Steps.trans st st2⟩
      cases r with
      | fail => cases h
      | val x => exact go (by simp) (by simp) rfl rfl h
      | upd x g1 => exact go (by simp) (by simp) rfl rfl h
      | dfr x =>
        obtain ⟨dd, hdr, st⟩ := dfr_sim (b := b) (cs := cs) (rest := List.range' (i + 1) rest.length) (k := k) hr ht hrd hdf hres (fun f e d args g y he hy => by
          -- a function taken as given defers nothing; that it is asked for a well-formed heap alone does no harm
          exact extNoDfr hC he hy) ho hw
        obtain ⟨he, a', wb, γb, hgb, f2, tr, dr, st2⟩ := ihl (i + 1) hdrop' h hwf (a := { a with defers := dd :: a.defers }.put o.dst undef) hr hx hf
          (ht.put (a := { a with defers := dd :: a.defers }) hout undef_rv)
          (by cases hd : o.dst <;> simpa [Act.put, hd] using hdr) hrd hcalm
        exact ⟨he, a', wb, γb, hgb, f2, tr, dr, .head st st2⟩
    simp only [cOps] at h
    split at h
    · rename_i out hout
      split at h
      · rename_i hgd
        refine exec hout ?_ h
        simp [Region.wanted, hgd]
      · rename_i gd hgd
        split at h
        · rename_i q hq
          rw [← hgd] at hq
          dsimp only at h
          split at h
          · rename_i hq'
            exact exec hout (guard_sim hq ht hq') h
          · rename_i hq'
            have hw := guard_sim hq ht hq'
            obtain ⟨he, a', wb, γb, hgb, f2, tr, dr, st2⟩ := ihl (i + 1) hdrop' h hwf (a := a.put o.dst undef) hr hx hf
              (ht.put hout undef_rv) (by cases hd : o.dst <;> simpa [Act.put, hd] using hdf) hrd hcalm
            exact ⟨he, a', wb, γb, hgb, f2, tr, dr, .head (step_skipOp ho hw) st2⟩
          · cases h
        · cases h
    · cases h
where
  extNoDfr {f d : Nat} {e : Nat → List AV → G → OR} {args : List AV} {g : G} {y : ADf} (hC : CfgOk C) (he : C.ext f = some e) (hy : e d args g = .dfr y) : False := by
    exact (hC.noDfr f e he d args g y) hy

end
end Hx
