/- What a run of the interpreter may turn, by the interpreter alone: numbers only grow, what is not in the log is as it was. -/
import Derived.Test.YtkbieohddgjioaaHxCall
set_option linter.unusedVariables false
set_option linter.unusedSimpArgs false
set_option linter.unnecessarySimpa false
namespace Hx
open Go

section
variable {C : Cfg}

theorem Mon.put {g : G} {id : Nat} {o : AObj} (hwf : WF g) (hid : g.h.get id ≠ .none) : Mon g (g.put id o) := by
  have hi : id < g.nx := Nat.lt_of_not_le fun h => hid (hwf id h)
  refine ⟨by simp, ⟨[id], by simp, fun k hk => ?_, fun k hk => ?_⟩, fun h k hk => ?_⟩
  · simp only [G.put_h, H.get_put]; rw [if_neg]; simpa using hk
  · simp at hk; subst hk; exact ⟨by simpa using hi, fun hn => absurd hn hid⟩
  · simp only [G.put_nx] at hk
    simp only [G.put_h, H.get_put]; rw [if_neg (by omega)]; exact h k hk

theorem Mon.mk' {g : G} {o : AObj} : Mon g (g.new o) := by
  refine ⟨by simp, ⟨[g.nx], by simp, fun k hk => ?_, fun k hk => ?_⟩, fun h k hk => ?_⟩
  · simp only [G.new_h, H.get_put]; rw [if_neg]; simpa using hk
  · simp at hk; subst hk; simp
  · simp only [G.new_nx] at hk
    simp only [G.new_h, H.get_put]; rw [if_neg (by omega)]; exact h k (by omega)

/-- An outcome that sets one object that is there, or makes one. -/
def Small (g : G) : OR → Prop
  | .fail => True
  | .val _ => True
  | .upd _ g' => (∃ id ob, g' = g.put id ob ∧ g.h.get id ≠ .none) ∨ ∃ ob, g' = g.new ob
  | .dfr _ => False

theorem Small.mon {g : G} {r : OR} (h : Small g r) (hwf : WF g) : Mon g (gOf g r) := by
  cases r with
  | upd v g' =>
    rcases h with ⟨id, ob, rfl, h⟩ | ⟨ob, rfl⟩
    · exact Mon.put hwf h
    · exact Mon.mk'
  | _ => exact Mon.refl g

variable {op : Op} {t : T} {g : G} {f : Stg SFn}

theorem small_orV (x : Option AV) : Small g (orV x) := by cases x <;> trivial

theorem small_appendRows (sz bytes : Nat) (s : AV) (new : List (List AV)) : Small g (appendRows sz bytes s new g) := by
  unfold appendRows
  simp only [bif'_eq]
  repeat' split
  all_goals first
    | trivial
    | exact .inr ⟨_, rfl⟩
    | exact .inl ⟨_, _, rfl, fun hn => by simp_all⟩

theorem small_bin {P : Program} {op : BinOp} {ty : TypeId} {x y : AV} : Small g ((binA P op ty).run x y) := by
  unfold binA
  split
  · split
    · dsimp only; split <;> first | exact small_orV _ | trivial
    · dsimp only; split <;> trivial
  · split
    · dsimp only; split <;> first | exact small_orV _ | trivial
    · dsimp only; split <;> trivial
  · dsimp only; split <;> first | exact small_orV _ | trivial

theorem small_un {op : UnOp} {x : AV} : Small g ((unA op).run x) := by
  unfold unA
  split
  · dsimp only; split <;> trivial
  · dsimp only; split <;> first | exact small_orV _ | trivial

theorem sop_small (h : cSop C op = some f) : Small g (f.run t g) := by
  cases op <;> simp only [cSop] at h <;> first | (cases h; done) | skip
  case call c =>
    obtain ⟨callee, args, argTypes⟩ := c
    cases callee <;> first | (cases h; done) | skip
    rename_i b
    dsimp only at h
    unfold cBuiltin at h
    split at h
    all_goals
      repeat' (first | split at h | (rw [bif'_eq] at h; split at h))
      all_goals first | (cases h; done) | skip
      all_goals (injection h with h; subst h)
      all_goals dsimp only [lenF, appendA, appendZ, copyA, capF, clearF]
      all_goals try simp only [bif'_eq]
      all_goals repeat' split
      all_goals first
        | trivial
        | exact small_appendRows _ _ _ _
        | exact .inr ⟨_, rfl⟩
        | exact .inl ⟨_, _, rfl, fun hn => by simp_all⟩
  all_goals
    repeat' (first | split at h | (rw [bif'_eq] at h; split at h))
    all_goals first | (cases h; done) | skip
    all_goals first | (injection h with h; subst h) | (exfalso; injections; done) | (rename_i heq _; cases heq)
    all_goals dsimp only [loadF, storeF, allocF, boxF, buildF, buildSliceF, fieldAddrF, indexSlF, indexArF, indexF, indexStrF, makeSliceF, lookupF, mapUpdateF, mapEntryF, entryStoreF, sliceArrF]
    all_goals first
      | exact small_orV _
      | exact small_bin
      | exact small_un
      | skip
    all_goals try simp only [bif'_eq]
    all_goals repeat' split
    all_goals first
      | trivial
      | exact small_orV _
      | exact .inr ⟨_, rfl⟩
      | exact .inl ⟨_, _, rfl, fun hn => by simp_all⟩
      | skip

/-- What may be asked of the functions that are taken as given. -/
def ExtMon (C : Cfg) : Prop := ∀ f e, C.ext f = some e → ∀ d args g, WF g → Mon g (gOf g (e d args g))

structure IHMon (ih : IH) : Prop where
  code : ∀ nt d rd c t df g e t' df' g', ih.code nt d rd c t df g = .ok e t' df' g' → WF g → Mon g g'
  call : CallMon ih

variable {ih : IH}

theorem roundA_mon (hi : IHMon ih) {d id : Nat} {args : List AV} {g : G} (hwf : WF g) : Mon g (gOf g (roundA ih d id args g)) := by
  unfold roundA
  split
  · split
    · exact Mon.refl g
    · split
      · rename_i t1 g1 h1
        have m1 := hi.code _ _ _ _ _ _ _ _ _ _ _ h1 hwf
        have w1 : WF g1 := m1.wf hwf
        split
        · rename_i hget
          split
          · rename_i g2 h2
            have hne : g1.h.get id ≠ .none := by rw [← G.get_eq, hget]; simp
            have m2 := fun o => Mon.put (o := o) w1 hne
            have m3 := hi.code _ _ _ _ _ _ _ _ _ _ _ h2 ((m2 _).wf w1)
            have m4 := m1.trans ((m2 _).trans m3)
            split
            · rename_i hget2
              have hne2 : g2.h.get id ≠ .none := by rw [← G.get_eq, hget2]; simp
              split
              all_goals exact m4.trans (Mon.put (m4.wf hwf) hne2)
            · exact Mon.refl g
          · exact Mon.refl g
        · exact Mon.refl g
      · exact Mon.refl g
  · exact Mon.refl g

theorem orF_mon {g : G} {r : FR} (h : ∀ v g', r = .ok v g' → Mon g g') : Mon g (gOf g (orF r)) := by
  cases r with
  | fail => exact Mon.refl g
  | ok v g' => exact h v g' rfl

theorem callF_mon (he : ExtMon C) (hi : IHMon ih) {d : Nat} {fv : AV} {vs : List AV} {g : G} (hwf : WF g) : Mon g (gOf g (callF C ih d fv vs g)) := by
  unfold callF
  split
  · split
    · rename_i e h; exact he _ e h _ _ g hwf
    · rw [bif'_eq]
      split
      · exact isoCall_mon hwf
      · exact orF_mon fun v g' h => hi.call _ _ _ _ _ _ h hwf
  · exact roundA_mon hi hwf
  · exact Mon.refl g

theorem cOp_mon (he : ExtMon C) (hi : IHMon ih) {op : Op} {f : Stg OpFn} (h : cOp C op = some f) {d : Nat} {rd : Option Nat} {t : T} {g : G} (hwf : WF g) :
    Mon g (gOf g (f.run ih d rd t g)) := by
  unfold cOp at h
  split at h
  · split at h
    · split at h
      · rename_i e hext; injection h with h; subst h
        exact he _ e hext _ _ g hwf
      · rw [bif'_eq] at h
        split at h
        · injection h with h; subst h; exact isoCall_mon hwf
        · injection h with h; subst h; exact orF_mon fun v g' h => hi.call _ _ _ _ _ _ h hwf
    · cases h
  · split at h
    · injection h with h; subst h; exact callF_mon he hi hwf
    · cases h
  · injection h with h; subst h; exact Mon.refl g
  · split at h
    · injection h with h; subst h
      dsimp only
      split
      · exact Mon.refl g
      · split <;> exact Mon.refl g
    · cases h
  · split at h
    · rename_i s hs; injection h with h; subst h
      exact (sop_small hs).mon hwf
    · cases h

theorem cOpT_mon (he : ExtMon C) (hi : IHMon ih) {op : Op} {d : Nat} {rd : Option Nat} {t : T} {g : G} (hwf : WF g) :
    Mon g (gOf g ((cOpT C op).run ih d rd t g)) := by
  unfold cOpT
  split
  · rename_i f hf; exact cOp_mon he hi hf hwf
  · exact Mon.refl g

theorem thenOp_mon {out : T → AV → T} {next : T → List ADf → G → CR} {t : T} {df : List ADf} {g : G} {r : OR} {e : Ex} {t' : T} {df' : List ADf} {g' : G}
    (h : thenOp out next t df g r = .ok e t' df' g') (hwf : WF g) (hr : Mon g (gOf g r)) (hn : ∀ t df g1, next t df g1 = .ok e t' df' g' → WF g1 → Mon g1 g') : Mon g g' := by
  cases r with
  | fail => cases h
  | val v => exact hn _ _ _ h hwf
  | upd v g1 => exact hr.trans (hn _ _ _ h (hr.wf hwf))
  | dfr a => exact hn _ _ _ h hwf

theorem cOps_mon (he : ExtMon C) (hi : IHMon ih) {nt : Nat} {all : List Oper} : ∀ {ops : List Oper} {d : Nat} {rd : Option Nat} {t : T} {df : List ADf} {g : G} {e : Ex} {t' : T} {df' : List ADf} {g' : G},
    (cOps C nt all ops).run ih d rd t df g = .ok e t' df' g' → WF g → Mon g g' := by
  intro ops
  induction ops with
  | nil => intro d rd t df g e t' df' g' h _; simp only [cOps] at h; injection h with _ _ _ h; subst h; exact Mon.refl _
  | cons o rest ihl =>
    intro d rd t df g e t' df' g' h hwf
    simp only [cOps] at h
    split at h
    · split at h
      · exact thenOp_mon h hwf (cOpT_mon he hi hwf) fun _ _ _ h1 h2 => ihl h1 h2
      · split at h
        · dsimp only at h
          split at h
          · exact thenOp_mon h hwf (cOpT_mon he hi hwf) fun _ _ _ h1 h2 => ihl h1 h2
          · exact ihl h hwf
          · cases h
        · cases h
    · cases h

theorem WF.setLog {g : G} {l : List Nat} (h : WF g) : WF (setLog g l) := fun id hid => by
  simp only [setLog_nx] at hid; simp only [setLog_h]; exact h id hid

theorem Mon.bump {g : G} : Mon g (bumpG g g.lg) :=
  ⟨by simp, ⟨[], by simp, fun id _ => by simp, fun _ h => absurd h List.not_mem_nil⟩, fun h id hid => by simp only [bumpG_nx] at hid; simp only [bumpG_h]; exact h id (by omega)⟩

theorem Mon.relog {g g1 : G} (h : Mon (setLog g []) g1) : Mon g (bumpG g1 (g1.lg ++ g.lg)) := by
  obtain ⟨n, a, b, c⟩ := h.new
  have hnx : g.nx ≤ g1.nx := by simpa using h.nx
  refine ⟨by simp; omega, ⟨g1.lg, by simp, fun id hid => ?_, fun id hid => ?_⟩, fun hw id hid => ?_⟩
  · have e : g1.lg = n := by simpa using a
    rw [e] at hid
    have := b id hid
    simpa using this
  · have e : g1.lg = n := by simpa using a
    rw [e] at hid
    have := c id hid
    simp only [setLog_h, setLog_nx] at this
    exact ⟨by simp; omega, this.2⟩
  · simp only [bumpG_nx] at hid
    simp only [bumpG_h]
    exact h.wf (fun k hk => by simp only [setLog_nx] at hk; simp only [setLog_h]; exact hw k hk) id (by omega)

theorem cFeet_mon (he : ExtMon C) (hi : IHMon ih) {nt : Nat} {pm : List Nat} {all : List Oper} : ∀ {ops : List Oper} {i d : Nat} {rd : Option Nat} {t : T} {df : List ADf} {g : G} {fs : List Foot} {e : Ex} {t' : T} {df' : List ADf} {g' : G},
    (cFeet C nt pm all i ops).run ih d rd t df g fs = .ok e t' df' g' → WF g → Mon g g' := by
  intro ops
  induction ops with
  | nil =>
    intro i d rd t df g fs e t' df' g' h _
    simp only [cFeet, bif'_eq] at h
    split at h
    · injection h with _ _ _ h; subst h; exact Mon.refl _
    · cases h
  | cons o rest ihl =>
    intro i d rd t df g fs e t' df' g' h hwf
    simp only [cFeet] at h
    split at h
    · dsimp only at h
      split at h
      · have hm := cOpT_mon (op := o.op) (d := d) (rd := rd) (t := t) he hi (hwf.setLog (l := []))
        generalize (cOpT C o.op).run ih d rd t (setLog g []) = r at h hm
        cases r with
        | fail => cases h
        | val v => exact Mon.bump.trans (ihl h (Mon.bump.wf hwf))
        | upd v g1 =>
          have m1 := Mon.relog hm
          exact m1.trans (ihl h (m1.wf hwf))
        | dfr a => cases h
      · exact ihl h hwf
      · cases h
    · cases h

theorem cRegion_mon (he : ExtMon C) (hi : IHMon ih) {nt : Nat} {ops : List Oper} {draw : Bool} {d : Nat} {rd : Option Nat} {t : T} {df : List ADf} {g : G} {e : Ex} {t' : T} {df' : List ADf} {g' : G}
    (h : (cRegion C nt ops draw).run ih d rd t df g = .ok e t' df' g') (hwf : WF g) : Mon g g' := by
  unfold cRegion at h
  rw [bif'_eq] at h
  split at h
  · rw [bif'_eq] at h
    split at h
    · rw [bif'_eq] at h
      split at h
      · dsimp only at h
        unfold quietEnd at h
        split at h
        · split at h
          · rw [bif'_eq] at h
            split at h
            · injection h with _ _ _ h; subst h; exact Mon.refl _
            · cases h
          · cases h
        · cases h
      · exact cFeet_mon he hi h hwf
    · cases h
  · exact cOps_mon he hi h hwf

theorem rangeEnd_mon (hi : IHMon ih) {nt d : Nat} {rd : Option Nat} {id : Nat} {t : T} {df : List ADf} {g : G} {e : Ex} {t' : T} {df' : List ADf} {g' : G}
    (h : rangeEnd ih nt d rd id t df g = .ok e t' df' g') (hwf : WF g) : Mon g g' := by
  unfold rangeEnd at h
  split at h
  · rename_i hget
    have hne : g.h.get id ≠ .none := by rw [← G.get_eq, hget]; simp
    have m : ∀ o, Mon g (g.put id o) := fun o => Mon.put hwf hne
    split at h
    · cases h
    · split at h
      · injection h with _ _ _ h; subst h; exact m _
      · exact (m _).trans (hi.code _ _ _ _ _ _ _ _ _ _ _ h ((m _).wf hwf))
  · cases h

theorem rangeCall_mon (hi : IHMon ih) {nt d : Nat} {rd : Option Nat} {fv : AV} {ps : List Nat} {assign body : Code} {t : T} {df : List ADf} {dfr : Nat} {g : G} {e : Ex} {t' : T} {df' : List ADf} {g' : G}
    (h : rangeCall C ih nt d rd fv ps assign body t df dfr g = .ok e t' df' g') (hwf : WF g) : Mon g g' := by
  unfold rangeCall at h
  split at h
  · rw [bif'_eq] at h
    split at h
    · cases h
    · split at h
      · rename_i v g2 h2
        have m1 : Mon g (g.new (.loop nt t ps assign body dfr .ready none)) := Mon.mk'
        have m2 := hi.call _ _ _ _ _ _ h2 (m1.wf hwf)
        have m3 := m1.trans m2
        exact m3.trans (rangeEnd_mon hi h (m3.wf hwf))
      · cases h
  · cases h

theorem rangeF_mon (hi : IHMon ih) {nt d : Nat} {rd : Option Nat} {fo : T → AV} {ps : List Nat} {assign body : Code} {t : T} {df : List ADf} {g : G} {e : Ex} {t' : T} {df' : List ADf} {g' : G}
    (h : rangeF C nt fo ps assign body ih d rd t df g = .ok e t' df' g') (hwf : WF g) : Mon g g' := by
  unfold rangeF at h
  split at h
  · split at h
    · exact rangeCall_mon hi h hwf
    · cases h
  · have m1 : Mon g (g.new (.dfr true)) := Mon.mk'
    exact m1.trans (rangeCall_mon hi h (m1.wf hwf))

theorem cCode_mon (he : ExtMon C) (hi : IHMon ih) {nt : Nat} : ∀ (c : Code) {d : Nat} {rd : Option Nat} {t : T} {df : List ADf} {g : G} {e : Ex} {t' : T} {df' : List ADf} {g' : G},
    (cCode C nt c).run ih d rd t df g = .ok e t' df' g' → WF g → Mon g g' := by
  intro c
  have now : ∀ {e e' : Ex} {t t' : T} {df df' : List ADf} {g g' : G}, CR.ok e' t df g = .ok e t' df' g' → Mon g g' := by
    intro e e' t t' df df' g g' h; injection h with _ _ _ h; subst h; exact Mon.refl _
  induction c with
  | skip => intro d rd t df g e t' df' g' h _; exact now h
  | label l => intro d rd t df g e t' df' g' h _; exact now h
  | region id ops draw => intro d rd t df g e t' df' g' h hwf; exact cRegion_mon he hi h hwf
  | seq a b iha ihb =>
    intro d rd t df g e t' df' g' h hwf
    simp only [cCode] at h
    generalize hr : (cCode C nt a).run ih d rd t df g = r at h
    cases r with
    | fail => cases h
    | ok e1 t1 df1 g1 =>
      have m1 := iha hr hwf
      cases e1 with
      | norm => exact m1.trans (ihb h (m1.wf hwf))
      | exit j => exact m1.trans (now h)
      | ret => exact m1.trans (now h)
  | cond c a b iha ihb =>
    intro d rd t df g e t' df' g' h hwf
    simp only [cCode] at h
    split at h
    · dsimp only at h
      split at h
      · rw [bif'_eq] at h
        split at h
        · exact iha h hwf
        · exact ihb h hwf
      · cases h
    · cases h
  | block id body ihb =>
    intro d rd t df g e t' df' g' h hwf
    simp only [cCode] at h
    generalize hr : (cCode C nt body).run ih d rd t df g = r at h
    cases r with
    | fail => cases h
    | ok e1 t1 df1 g1 =>
      have m1 := ihb hr hwf
      cases e1 with
      | norm => exact m1.trans (now h)
      | exit j =>
        simp only [blockC, bif'_eq] at h
        split at h
        · exact m1.trans (now h)
        · exact m1.trans (now h)
      | ret => exact m1.trans (now h)
  | loop body ihb =>
    intro d rd t df g e t' df' g' h hwf
    simp only [cCode] at h
    generalize hr : (cCode C nt body).run ih d rd t df g = r at h
    cases r with
    | fail => cases h
    | ok e1 t1 df1 g1 =>
      have m1 := ihb hr hwf
      cases e1 with
      | norm => exact m1.trans (hi.code _ _ _ _ _ _ _ _ _ _ _ h (m1.wf hwf))
      | exit j => exact m1.trans (now h)
      | ret => exact m1.trans (now h)
  | scope body ihb => intro d rd t df g e t' df' g' h hwf; exact ihb h hwf
  | exit id => intro d rd t df g e t' df' g' h _; exact now h
  | ret => intro d rd t df g e t' df' g' h _; exact now h
  | rangeFunc f ps assign body _ _ =>
    intro d rd t df g e t' df' g' h hwf
    simp only [cCode] at h
    split at h
    · exact rangeF_mon hi h hwf
    · cases h
  | _ => intro d rd t df g e t' df' g' h _; cases h

theorem runDf_mon (hi : IHMon ih) {d : Nat} : ∀ {df : List ADf} {g g' : G}, runDf ih d df g = some g' → WF g → Mon g g' := by
  intro df
  induction df with
  | nil => intro g g' h _; simp only [runDf] at h; injection h with h; subst h; exact Mon.refl _
  | cons a df ihl =>
    intro g g' h hwf
    cases a with
    | mark id =>
      simp only [runDf] at h
      split at h
      · rename_i hget
        have m : Mon g (g.put id (.dfr false)) := Mon.put hwf (by rw [← G.get_eq, hget]; simp)
        exact m.trans (ihl h (m.wf hwf))
      · cases h
    | call f args =>
      cases f <;> simp only [runDf] at h <;> first | (cases h; done) | skip
      split at h
      · rename_i v g1 h1
        have m := hi.call _ _ _ _ _ _ h1 hwf
        exact m.trans (ihl h (m.wf hwf))
      · cases h

theorem cFn_mon (he : ExtMon C) (hi : IHMon ih) {f : Nat} {x : Stg (IH → Nat → List AV → G → FR)} (hx : cFn C f = some x) {d : Nat} {args : List AV} {g : G} {v : AV} {g' : G}
    (h : x.run ih d args g = .ok v g') (hwf : WF g) : Mon g g' := by
  unfold cFn at hx
  split at hx
  · cases hx
  split at hx
  · cases hx
  split at hx
  · rw [bif'_eq] at hx
    split at hx
    · cases hx
    injection hx with hx; subst hx
    dsimp only at h
    rw [bif'_eq] at h
    split at h
    · split at h
      · cases h
      · rename_i hc
        have m1 := cCode_mon he hi _ hc hwf
        unfold endCall at h
        split at h
        · cases h
        · rename_i g2 h2
          have m2 := runDf_mon hi h2 (m1.wf hwf)
          split at h
          · injection h with _ h; subst h; exact m1.trans m2
          · cases h
      · cases h
    · cases h
  · cases hx

theorem sem_mon (he : ExtMon C) : ∀ n, IHMon (sem C n) := by
  intro n
  induction n with
  | zero => exact ⟨fun nt d rd c t df g e t' df' g' h => (by cases h), fun d f as g v g' h => (by cases h)⟩
  | succ n ihn =>
    refine ⟨fun nt d rd c t df g e t' df' g' h hwf => cCode_mon he ihn c h hwf, fun d f as g v g' h hwf => ?_⟩
    change callStep C (sem C n) d f as g = .ok v g' at h
    unfold callStep at h
    split at h
    · rename_i x hx; exact cFn_mon he ihn hx h hwf
    · cases h

end
end Hx
