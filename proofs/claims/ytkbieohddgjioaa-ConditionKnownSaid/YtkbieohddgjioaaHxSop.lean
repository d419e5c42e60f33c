/- The simple operations, together. -/
import Derived.Test.YtkbieohddgjioaaHxMapOps
set_option linter.unusedVariables false
set_option linter.unusedSimpArgs false
set_option linter.unnecessarySimpa false
namespace Hx
open Go

section
variable {C : Cfg} {A : Nat → Nat → Prop} {bd : Nat} {w w' : World} {γ γ' : Gm} {hg : Nat → AObj} {nx : Nat}

theorem OpSim.ofUpd {o : Oper} {ev : Operand → Value} {g : G} {m : Sem Value} {r : OR} (he : execOp ev o = (do pure (.value (← m)))) (h : UpdSim C A bd w γ hg nx m g r) :
    OpSim C A bd w γ hg nx o ev g r := by
  have run : ∀ {v : Value} {w' : World}, m.run C.P w = .ok v w' → Gives C.P o ev w v w' := by
    intro v w' h
    left; rw [he]; simp [h]
  cases r with
  | fail => trivial
  | val x => obtain ⟨v, h1, h2⟩ := h; exact ⟨v, run h1, h2⟩
  | upd x g' => obtain ⟨v, w', γ', id, ob, h1, h2⟩ := h; exact ⟨v, w', γ', id, ob, run h1, h2⟩
  | dfr a => exact h

theorem OpSim.ofUnit {o : Oper} {ev : Operand → Value} {g : G} {s : Sem Unit} {r : OR} (he : execOp ev o = (do s; pure .skip)) (h : UpdSim C A bd w γ hg nx (do s; pure undef) g r) :
    OpSim C A bd w γ hg nx o ev g r := by
  have run : ∀ {v : Value} {w' : World}, (do s; pure undef : Sem Value).run C.P w = .ok v w' → Gives C.P o ev w v w' := by
    intro v w' h
    right; rw [he]
    simp only [Sem.run_bind, Sem.run_pure] at h ⊢
    cases hs : s.run C.P w with
    | ok u w1 => rw [hs] at h; simp only [Result.andThen_ok] at h ⊢; injection h with h1 h2; subst h1; subst h2; exact ⟨rfl, rfl⟩
    | halt x w1 => rw [hs] at h; cases h
  cases r with
  | fail => trivial
  | val x => obtain ⟨v, h1, h2⟩ := h; exact ⟨v, run h1, h2⟩
  | upd x g' => obtain ⟨v, w', γ', id, ob, h1, h2⟩ := h; exact ⟨v, w', γ', id, ob, run h1, h2⟩
  | dfr a => exact h

theorem ValSim.upd {m : Sem Value} {g : G} {r : OR} (h : ValSim C A bd w γ m r) : UpdSim C A bd w γ hg nx m g r := by
  cases r with
  | fail => trivial
  | val x => exact h
  | upd x g' => exact h.elim
  | dfr a => exact h.elim

theorem OpSim.ofVal {o : Oper} {ev : Operand → Value} {g : G} {m : Sem Value} {r : OR} (he : execOp ev o = (do pure (.value (← m)))) (h : ValSim C A bd w γ m r) :
    OpSim C A bd w γ hg nx o ev g r := .ofUpd he h.upd

theorem OpSim.now {o : Oper} {ev : Operand → Value} {g : G} {x : AV} {v : Value} (he : (execOp ev o).run C.P w = .ok (.value v) w) (h : RV w γ A bd x v) :
    OpSim C A bd w γ hg nx o ev g (.val x) := ⟨v, .inl he, h⟩

/-- The objects that an operation looks at. -/
noncomputable def lookIds (C : Cfg) (op : Op) (t : T) (g : G) : List Nat := ((cFoot C op).run t g).rd ++ ((cFoot C op).run t g).sr.map (·.1)

theorem unA_sim {op : UnOp} {x : AV} {v : Value} (hx : RV w γ A bd x v) : ValSim C A bd w γ (Op.unary op v) ((unA op).run x) := by
  cases op
  case not =>
    cases hx with
    | bool _ b => exact ⟨.bool (!b), by simp [Op.unary], by rw [notb_eq]; exact .bool _ _⟩
    | _ => trivial
  all_goals
    cases hx with
    | int _ k n => exact orV_sim fun y hy => pureV_sim hy C.P w
    | _ => trivial

theorem newMap_sim {g : G} {P : Program} (hr : Rel C A bd w γ hg nx) (hf : (γ g.nx).kind = 0) :
    UpdSim C A bd w γ hg nx (do pure (.map (some (← newObj (.map #[] 0))))) g (.upd (.hmap g.nx) (g.new (.map []))) := by
  let gh : Gh := ⟨2, 0, 0, 0, w.heap.size, 0, 0, true⟩
  obtain ⟨r, s⟩ := hr.add (id := g.nx) (gh := gh) (o := .map #[] 0) (ao := .map []) (nx' := Nat.max nx (g.nx + 1)) hf rfl (Nat.le_max_left _ _) (Nat.lt_of_lt_of_le (Nat.lt_succ_self _) (Nat.le_max_right _ _)) (by
    simp only [ObjRel, upd_same]
    exact ⟨rfl, rfl, #[], by rw [add_heap]; simp [gh], rfl, fun i k x e h => by simp at h⟩)
  refine ⟨.map (some w.heap.size), World.add w (.map #[] 0), _, g.nx, _, by simp [newObj, Sem.run, World.add], ?_, s, .inr ⟨rfl, rfl, r⟩⟩
  exact .hmap _ g.nx _ (by simp [gh]) (by simp [gh])

theorem places_run : ∀ {fs : List Field} {places : List (Nat × Nat)}, mapO (fun f : Field => match szT C.P f.type with | some n => some (f.offset, n) | none => none) fs = some places →
    (fs.mapM fun f => do pure (f.offset, ← Go.sizeOf f.type) : Sem (List (Nat × Nat))).run C.P w = .ok places w := by
  intro fs
  induction fs with
  | nil => intro places h; simp only [mapO] at h; injection h with h; subst h; simp
  | cons f fs ih =>
    intro places h
    simp only [mapO] at h
    split at h
    · rename_i p hp
      split at h
      · rename_i ps hps
        injection h with h; subst h
        split at hp
        · rename_i n hn
          injection hp with hp; subst hp
          rw [List.mapM_cons]
          have := ih hps
          simp only [Sem.run_bind, run_sizeOf hn, Result.andThen_ok, Sem.run_pure, this]
        · cases hp
      · cases h
    · cases h

variable {o : Oper} {op : Op} {a : Act} {nt : Nat} {t : T} {g : G} {f : Stg SFn}

theorem sop_move {x : Operand} (h : cSop C (.move x) = some f) (ho : o.op = .move x) (ht : TR w γ A bd nt t a.tmps) (hr : Rel C A bd w γ hg nx) :
    OpSim C A bd w γ hg nx o a.eval g (f.run t g) := by
  simp only [cSop] at h
  split at h
  · rename_i s hs; injection h with h; subst h
    exact .now (by simp [execOp, ho]) (rho_sim hs ht hr)
  · cases h

theorem elem_und {ty e : TypeId} (he : elemT C.P ty = some e) : C.P.underlying ty = some (.slice e) := by
  unfold elemT at he; split at he <;> first | (injection he with he; subst he; assumption) | cases he

theorem builtin_sim {b : Builtin} {argTypes : Array TypeId} {args : List Operand} {ty : TypeId} {consts : Array Bool} (h : cBuiltin C b argTypes args = some f) (ht : TR w γ A bd nt t a.tmps) (hr : Rel C A bd w γ hg nx)
    (hf : (γ g.nx).kind = 0) (agree : ∀ x ∈ args, ∀ s, cRho C x = some s → ∀ id ∈ refOf C b argTypes (s.run t), hg id = g.h.get id) :
    ∃ m : Sem Value, builtin b argTypes ty consts (args.map a.eval).toArray = (do pure (.value (← m))) ∧ UpdSim C A bd w γ hg nx m g (f.run t g) := by
  unfold cBuiltin at h
  split at h
  · -- len
    rename_i x
    split at h
    · rename_i tt s h0 hs; injection h with h; subst h
      exact ⟨Builtin.len_ argTypes ty #[a.eval x], rfl, (len_sim hr h0 (rho_sim hs ht hr) fun hk id hid => agree x (by simp) s hs id (by simpa only [refOf, h0, hk] using hid)).upd⟩
    · cases h
  · -- append
    rename_i p x
    split at h
    · rename_i tt xt sa sx h0 h1 ha hx
      split at h
      · rename_i e e' he hux
        split at h
        · rename_i sz bytes zero hsz hby hz
          rw [bif'_eq] at h
          split at h
          · rename_i hcond
            simp only [Bool.and_eq_true, Nat.blt_eq, lenR_eq] at hcond
            injection h with h; subst h
            exact ⟨Builtin.append_ argTypes ty #[a.eval p, a.eval x], rfl, append_sim hr hf h0 h1 (elem_und he) hux hsz hby hz (nat_beq hcond.1.1) hcond.2 (rho_sim ha ht hr) (rho_sim hx ht hr)
              (fun id hid => agree p (by simp) sa ha id hid) (fun id hid => agree x (by simp) sx hx id hid)⟩
          · cases h
        · cases h
      · rename_i e k he hux
        split at h
        · rename_i sz bytes zero hsz hby hz
          rw [bif'_eq] at h
          split at h
          · rename_i hcond
            simp only [Bool.and_eq_true, Nat.blt_eq, lenR_eq] at hcond
            injection h with h; subst h
            exact ⟨Builtin.append_ argTypes ty #[a.eval p, a.eval x], rfl, appendZ_sim hr hf h0 h1 (elem_und he) hux hsz hby hz (nat_beq hcond.1.1) hcond.1.2 hcond.2 (rho_sim ha ht hr) (rho_sim hx ht hr)
              (fun id hid => agree p (by simp) sa ha id hid)⟩
          · cases h
        · cases h
      · cases h
    · cases h
  · -- copy
    rename_i p x
    split at h
    · rename_i tt sa sx h0 ha hx
      split at h
      · rename_i e he
        split at h
        · rename_i sz hsz; injection h with h; subst h
          exact ⟨Builtin.copy_ argTypes ty #[a.eval p, a.eval x], rfl, copy_sim hr h0 (elem_und he) hsz (rho_sim ha ht hr) (rho_sim hx ht hr)
            (fun id hid => agree p (by simp) sa ha id hid) (fun id hid => agree x (by simp) sx hx id hid)⟩
        · cases h
      · cases h
    · cases h
  · -- cap
    rename_i x
    split at h
    · rename_i tt s h0 hs
      split at h
      · rename_i e he; injection h with h; subst h
        exact ⟨Builtin.cap_ argTypes ty #[a.eval x], rfl, (cap_sim hr h0 (elem_und he) (rho_sim hs ht hr) fun id hid => agree x (by simp) s hs id hid).upd⟩
      · cases h
    · cases h
  · -- clear
    rename_i x
    split at h
    · rename_i tt s h0 hs
      split at h
      · rename_i e he
        split at h
        · rename_i sz zero hsz hz
          rw [bif'_eq] at h
          split at h
          · rename_i hcond
            simp only [Bool.and_eq_true, Nat.blt_eq, lenR_eq] at hcond
            injection h with h; subst h
            exact ⟨Builtin.clear_ argTypes ty #[a.eval x], rfl, clear_sim hr h0 (elem_und he) hz (nat_beq hcond.1) hcond.2 (rho_sim hs ht hr) fun id hid => agree x (by simp) s hs id hid⟩
          · cases h
        · cases h
      · cases h
    · cases h
  · -- max
    rename_i x y
    split at h
    · rename_i sx sy hx hy; injection h with h; subst h
      refine ⟨Builtin.max_ argTypes ty #[a.eval x, a.eval y], rfl, ?_⟩
      have r1 := rho_sim hx ht hr
      have r2 := rho_sim hy ht hr
      dsimp only
      generalize sx.run t = u at r1 ⊢
      generalize sy.run t = v at r2 ⊢
      cases u <;> try trivial
      cases v <;> try trivial
      exact (max_sim r1 r2).upd
    · cases h
  · -- min
    rename_i x y
    split at h
    · rename_i sx sy hx hy; injection h with h; subst h
      refine ⟨Builtin.min_ argTypes ty #[a.eval x, a.eval y], rfl, ?_⟩
      have r1 := rho_sim hx ht hr
      have r2 := rho_sim hy ht hr
      dsimp only
      generalize sx.run t = u at r1 ⊢
      generalize sy.run t = v at r2 ⊢
      cases u <;> try trivial
      cases v <;> try trivial
      exact (min_sim r1 r2).upd
    · cases h
  · cases h

theorem cRhos_mem : ∀ {xs : List Operand} {vs : Stg (T → List AV)}, cRhos C xs = some vs → ∀ x ∈ xs, ∀ s, cRho C x = some s → s.run t ∈ vs.run t := by
  intro xs
  induction xs with
  | nil => intro vs _ x hx; cases hx
  | cons y ys ih =>
    intro vs h x hx s hs
    simp only [cRhos] at h
    split at h
    · rename_i p q hp hq
      injection h with h; subst h
      rcases List.mem_cons.1 hx with rfl | hx
      · rw [hp] at hs; injection hs with hs; subst hs; exact List.mem_cons_self
      · exact List.mem_cons_of_mem _ (ih hq x hx s hs)
    · cases h

theorem cBuiltin_rhos {b : Builtin} {argTypes : Array TypeId} {args : List Operand} (h : cBuiltin C b argTypes args = some f) : ∃ vs, cRhos C args = some vs := by
  have one : ∀ {x : Operand} {s}, cRho C x = some s → ∃ vs, cRhos C [x] = some vs := by intro x s hs; simp only [cRhos, hs]; exact ⟨_, rfl⟩
  have two : ∀ {x y : Operand} {s u}, cRho C x = some s → cRho C y = some u → ∃ vs, cRhos C [x, y] = some vs := by intro x y s u hs hu; simp only [cRhos, hs, hu]; exact ⟨_, rfl⟩
  unfold cBuiltin at h
  split at h
  · split at h
    · exact one (by assumption)
    · cases h
  · split at h
    · exact two (by assumption) (by assumption)
    · cases h
  · split at h
    · exact two (by assumption) (by assumption)
    · cases h
  · split at h
    · exact one (by assumption)
    · cases h
  · split at h
    · exact one (by assumption)
    · cases h
  · split at h
    · exact two (by assumption) (by assumption)
    · cases h
  · split at h
    · exact two (by assumption) (by assumption)
    · cases h
  · cases h

theorem sop_sim (h : cSop C op = some f) (ho : o.op = op) (ht : TR w γ A bd nt t a.tmps) (hr : Rel C A bd w γ hg nx) (hf : (γ g.nx).kind = 0)
    (agree : ∀ id ∈ lookIds C op t g, hg id = g.h.get id) : OpSim C A bd w γ hg nx o a.eval g (f.run t g) := by
  cases op <;> simp only [cSop] at h <;> first | (cases h; done) | skip
  case move x =>
    split at h
    · rename_i s hs; injection h with h; subst h
      exact .now (by simp [execOp, ho]) (rho_sim hs ht hr)
    · cases h
  case assign x =>
    split at h
    · rename_i s hs; injection h with h; subst h
      exact .now (by simp [execOp, ho]) (rho_sim hs ht hr)
    · cases h
  case pick c x y =>
    split at h
    · rename_i sc sx sy hc hx hy; injection h with h; subst h
      have r1 := rho_sim hc ht hr
      have r2 := rho_sim hx ht hr
      have r3 := rho_sim hy ht hr
      dsimp only
      generalize sc.run t = cv at r1 ⊢
      generalize hcv : a.eval c = vc at r1
      cases r1 with
      | bool _ b =>
        cases b
        · exact .now (by simp [execOp, ho, hcv, asBool]) r3
        · exact .now (by simp [execOp, ho, hcv, asBool]) r2
      | _ => trivial
    · cases h
  case alloc ty =>
    split at h
    · rename_i cs hz; injection h with h; subst h
      exact .ofUpd (by simp only [execOp, ho]) (alloc_sim hr hz hf t)
    · cases h
  case box ty x =>
    split at h
    · rename_i s hs; injection h with h; subst h
      have r1 := rho_sim hs ht hr
      unfold boxF
      dsimp only
      rw [bif'_eq]
      split
      · trivial
      · rename_i htup
        exact .ofUpd (m := Instr.box ty (a.eval x)) (by simp only [execOp, ho]) (box_sim hr r1 hf (by simpa using htup))
    · cases h
  case load ty x =>
    split at h
    · rename_i s ag n hs hag hn; injection h with h; subst h
      exact .ofVal (by simp only [execOp, ho]) (load_sim hr (rho_sim hs ht hr) hag hn fun id hid => agree id (by simp [lookIds, cFoot, rdLook, hs, hid]))
    · cases h
  case store ty x y =>
    split at h
    · rename_i s u n hs hu hn; injection h with h; subst h
      exact .ofUnit (by simp only [execOp, ho]) (store_sim hr (rho_sim hs ht hr) (rho_sim hu ht hr) hn fun id hid => agree id (by simp [lookIds, cFoot, rdLook, hs, hid]))
    · cases h
  case binOp op ty x y p =>
    split at h
    · rename_i s u hs hu; injection h with h; subst h
      exact .ofVal (by simp only [execOp, ho]) (bin_sim (xo := x) (yo := y) (rho_sim hs ht hr) (rho_sim hu ht hr))
    · cases h
  case unOp op ty x =>
    split at h
    · rename_i s hs; injection h with h; subst h
      exact .ofVal (by simp only [execOp, ho]) (unA_sim (rho_sim hs ht hr))
    · cases h
  case convert src dst x =>
    split at h
    · rename_i s sd k hs hsrc hk; injection h with h; subst h
      have r1 := rho_sim hs ht hr
      dsimp only
      generalize s.run t = cv at r1 ⊢
      generalize hcv : a.eval x = vc at r1
      cases r1 with
      | int _ k' n =>
        refine .ofVal (m := convert src dst (.int k' n)) (by simp only [execOp, ho, hcv]) ⟨.int k (k.wrap n), ?_, by rw [wrapF_eq]; exact .int _ _ _⟩
        unfold convert
        simp only [Sem.run_bind, run_und hsrc, run_und hk, Result.andThen_ok, Conv.intToInt]
        try rfl
      | _ => trivial
    · cases h
  case nilCheck x =>
    split at h
    · rename_i s hs; injection h with h; subst h
      have r1 := rho_sim hs ht hr
      dsimp only
      generalize s.run t = cv at r1 ⊢
      generalize hcv : a.eval x = vc at r1
      cases r1 with
      | tptr _ tag sz rows i0 off0 b o' cell h1 h2 h3 h4 h5 h6 h7 h8 h9 => exact .now (by simp [execOp, ho, hcv]) (.tptr _ tag sz rows i0 off0 b o' cell h1 h2 h3 h4 h5 h6 h7 h8 h9)
      | hptr _ id ep i off b o' h1 h2 h3 => exact .now (by simp [execOp, ho, hcv]) (.hptr _ id ep i off b o' h1 h2 h3)
      | clo _ f' xs ys vs us h1 h2 h3 h4 => exact .now (by simp [execOp, ho, hcv]) (.clo _ f' xs ys vs us h1 h2 h3 h4)
      | yld _ id b h1 h2 => exact .now (by simp [execOp, ho, hcv]) (.yld _ id b h1 h2)
      | _ => trivial
    · cases h
  case makeInterface ty x =>
    split at h
    · cases h
    · rename_i s d hne hs hu; injection h with h; subst h
      refine .ofVal (m := Instr.makeInterface ty (a.eval x)) (by simp only [execOp, ho]) ⟨.iface ty (a.eval x), ?_, .ifc _ ty _ _ (rho_sim hs ht hr)⟩
      unfold Instr.makeInterface
      simp only [Sem.run_bind, run_und hu, Result.andThen_ok]
      try rfl
    · cases h
  case makeSlice ty l c =>
    split at h
    · rename_i e sl sc he hl hc
      split at h
      · rename_i sz bytes zero hsz hby hz
        rw [bif'_eq] at h
        split at h
        · rename_i hcond
          simp only [Bool.and_eq_true, Nat.blt_eq, lenR_eq] at hcond
          injection h with h; subst h
          have hu : C.P.underlying ty = some (.slice e) := by
            unfold elemT at he; split at he <;> first | (injection he with he; subst he; assumption) | cases he
          exact .ofUpd (by simp only [execOp, ho]) (makeSlice_sim hr hf hu hsz hby hz (nat_beq hcond.1) hcond.2 (rho_sim hl ht hr) (rho_sim hc ht hr))
        · cases h
      · cases h
    · cases h
  case fieldAddr ty x fi =>
    split at h
    · rename_i s fo ft hs hfi
      split at h
      · rename_i n hn; injection h with h; subst h
        exact .ofVal (by simp only [execOp, ho]) (fieldAddr_sim (g := g) (rho_sim hs ht hr) hfi hn)
      · cases h
    · cases h
  case field ty x fi =>
    split at h
    · rename_i s fo ft hs hfi
      split at h
      · rename_i ag n hag hn; injection h with h; subst h
        have r1 := rho_sim hs ht hr
        refine .ofVal (m := Instr.field ty (a.eval x) fi) (by simp only [execOp, ho]) ?_
        dsimp only
        generalize s.run t = y at r1 ⊢
        cases y <;> first | trivial | exact field_sim r1 hfi hag hn
      · cases h
    · cases h
  case indexAddr ty x ix =>
    split at h
    · rename_i s i hs hi
      split at h
      · rename_i e hu
        split at h
        · rename_i sz hsz; injection h with h; subst h
          exact .ofVal (by simp only [execOp, ho]) (indexSl_sim hr (rho_sim hs ht hr) (rho_sim hi ht hr) hu hsz fun id hid => agree id (by simp [lookIds, cFoot, rdLook, hs, hu, hid]))
        · cases h
      · rename_i n e hu
        split at h
        · rename_i sz hsz; injection h with h; subst h
          exact .ofVal (by simp only [execOp, ho]) (indexAr_sim (g := g) (rho_sim hs ht hr) (rho_sim hi ht hr) hu hsz)
        · cases h
      · cases h
    · cases h
  case index ty x ix =>
    split at h
    · rename_i s i hs hi
      split at h
      · rename_i n e hu
        split at h
        · rename_i ag sz hag hsz; injection h with h; subst h
          exact .ofVal (by simp only [execOp, ho]) (index_sim (g := g) (rho_sim hs ht hr) (rho_sim hi ht hr) hu hag hsz)
        · cases h
      · rename_i hu
        injection h with h; subst h
        exact .ofVal (by simp only [execOp, ho]) (indexStr_sim (g := g) (rho_sim hs ht hr) (rho_sim hi ht hr) hu)
      · cases h
    · cases h
  case lookup ty x k ok =>
    split at h
    · rename_i m kk kt et hm hk hu
      split at h
      · rename_i z hz; injection h with h; subst h
        exact .ofVal (by simp only [execOp, ho]) (lookup_sim hr hu hz (rho_sim hm ht hr) (rho_sim hk ht hr) fun id hid => agree id (by cases ok <;> simp [lookIds, cFoot, rdLook, hm, hid]))
      · cases h
    · cases h
  case mapUpdate ty m k x =>
    split at h
    · rename_i sm sk sx kt et hm hk hx hu; injection h with h; subst h
      exact .ofUnit (by simp only [execOp, ho]) (mapUpdate_sim hr hu (rho_sim hm ht hr) (rho_sim hk ht hr) (rho_sim hx ht hr) fun id hid => agree id (by simp [lookIds, cFoot, rdLook, hm, hid]))
    · cases h
  case insert ty m k x =>
    split at h
    · rename_i sm sk sx kt et hm hk hx hu; injection h with h; subst h
      exact .ofUnit (by simp only [execOp, ho]) (mapUpdate_sim hr hu (rho_sim hm ht hr) (rho_sim hk ht hr) (rho_sim hx ht hr) fun id hid => agree id (by simp [lookIds, cFoot, rdLook, hm, hid]))
    · cases h
  case mapEntry ty m k =>
    split at h
    · rename_i sm sk kt et hm hk hu
      split at h
      · rename_i z hz; injection h with h; subst h
        exact .ofUpd (by simp only [execOp, ho]) (mapEntry_sim hr hu hz (rho_sim hm ht hr) (rho_sim hk ht hr) fun id hid => agree id (by simp [lookIds, cFoot, rdLook, hm, hid]))
      · cases h
    · cases h
  case entryStore ty m st x =>
    split at h
    · rename_i sm ss sx hm hs hx; injection h with h; subst h
      exact .ofUnit (s := Instr.entryStore ty (a.eval m) (a.eval st) (a.eval x)) (by simp only [execOp, ho]) (entryStore_sim hr (rho_sim hm ht hr) (rho_sim hs ht hr) (rho_sim hx ht hr) fun id hid => agree id (by simp [lookIds, cFoot, rdLook, hm, hid]))
    · cases h
  case extract x i =>
    split at h
    · rename_i s hs; injection h with h; subst h
      have r1 := rho_sim hs ht hr
      refine .ofVal (m := Instr.extract (a.eval x) i) (by simp only [execOp, ho]) ?_
      dsimp only
      generalize s.run t = cv at r1 ⊢
      generalize a.eval x = vc at r1
      cases r1 with
      | tup _ xs vs hl hall =>
        simp only [nthR_eq]
        refine orV_sim fun y hy => ?_
        have hlt : i < vs.size := by rw [← hl]; exact (List.getElem?_eq_some_iff.1 hy).1
        exact ⟨vs[i], by simp [Instr.extract, hlt], hall i y _ hy (by simp [hlt])⟩
      | _ => trivial
    · cases h
  case makeMap ty r =>
    cases r with
    | some r => cases h
    | none =>
      dsimp only at h
      split at h
      · injection h with h; subst h
        refine .ofUpd (m := do pure (.map (some (← newObj (.map #[] 0))))) ?_ (newMap_sim (P := C.P) hr hf)
        simp only [execOp, ho, Instr.makeMap, Option.map_none]
        try rfl
      · cases h
  case makeFunc fn fi ca =>
    cases fn with
    | func fx =>
      dsimp only at h
      split at h
      · rename_i sa sc ha hc; injection h with h; subst h
        have r1 := rhos_sim ht hr ha
        have r2 := rhos_sim ht hr hc
        refine .now (v := .func (.func fx) (fi.map a.eval) (ca.map a.eval)) (by simp [execOp, ho, Instr.makeFunc]) (.clo _ fx _ _ _ _ (by simpa using r1.1) (by simpa using r2.1) (fun i x v hx hv => ?_) (fun i x v hx hv => ?_))
        · exact r1.2 i x v hx (by simpa using hv)
        · exact r2.2 i x v hx (by simpa using hv)
      · cases h
    | _ => cases h
  case buildSlice ty len parts =>
    split at h
    · rename_i e vs he hvs
      split at h
      · rename_i sz zero hsz hz
        rw [bif'_eq] at h
        split at h
        · rename_i hcond
          simp only [Bool.and_eq_true, Nat.blt_eq, Nat.ble_eq, lenR_eq] at hcond
          injection h with h; subst h
          have hu : C.P.underlying ty = some (.slice e) := by
            unfold elemT at he; split at he <;> first | (injection he with he; subst he; assumption) | cases he
          exact .ofUpd (by simp only [execOp, ho]) (buildSlice_sim hr hf hu hsz hz (nat_beq hcond.1.1) hcond.1.2 hcond.2 (rhos_sim ht hr hvs))
        · cases h
      · cases h
    · cases h
  case build ty parts =>
    split at h
    · rename_i zero vs hz hvs
      split at h
      · rename_i fs hu
        split at h
        · rename_i places hpl
          split at h
          · rename_i pl hp; injection h with h; subst h
            refine .ofVal (m := Instr.build ty (parts.map fun (i, x) => (i, a.eval x))) (by simp only [execOp, ho]) (build_sim (g := g) (place := (places[·]?)) hz (rhos_sim ht hr hvs) hp fun z cells hzv hfill => ?_)
            have h1 : (fs.mapM fun f => do pure (f.offset, ← Go.sizeOf f.type) : Sem (Array (Nat × Nat))).run C.P w = .ok places.toArray w := by
              rw [Array.mapM_eq_mapM_toList]
              have := places_run (w := w) hpl
              simp only [Sem.run_map, this]
              rfl
            unfold Instr.build
            simp only [Sem.run_bind, hzv, run_und hu, Result.andThen_ok, h1]
            have e : (fun i : Nat => places.toArray[i]?) = (fun i : Nat => places[i]?) := by funext i; simp
            rw [e, hfill]
            rfl
          · cases h
        · cases h
      · rename_i n e hu
        split at h
        · rename_i sz hsz; injection h with h; subst h
          refine .ofVal (m := Instr.build ty (parts.map fun (i, x) => (i, a.eval x))) (by simp only [execOp, ho]) (build_sim (g := g) (place := fun i => some (i * sz, sz)) hz (rhos_sim ht hr hvs) ?_ fun z cells hzv hfill => ?_)
          · generalize parts.toList.map (·.1) = is
            induction is with
            | nil => rfl
            | cons i is ih => simp only [mapO, ih, List.map_cons]
          · unfold Instr.build
            simp only [Sem.run_bind, hzv, run_und hu, Result.andThen_ok, run_sizeOf hsz]
            rw [hfill]
            rfl
        · cases h
      · cases h
    · cases h
  case slice ty x lo hi mx =>
    have optR : ∀ {y : Option Operand} {s : Stg (T → List AV)}, cRhos C y.toList = some s → OVR w γ A bd (s.run t).head? (y.map a.eval) := by
      intro y s hs
      have := ovr_head (rhos_sim ht hr hs)
      cases y <;> simpa using this
    cases mx with
    | none =>
      dsimp only at h
      split at h
      · rename_i e sx sl sh hu hx hl hh
        split at h
        · rename_i sz hsz; injection h with h; subst h
          refine .ofVal (m := Instr.sliceAt ty (a.eval x) (lo.map a.eval) (hi.map a.eval) none) (by simp only [execOp, ho, Option.map_none]) ?_
          exact sliceA_sim hr hu hsz (rho_sim hx ht hr) (optR hl) (optR hh) trivial (fun h => absurd rfl h) fun id hid => agree id (by simp [lookIds, cFoot, rdLook, hx, hid])
        · cases h
      · rename_i n e sx sl sh hu hx hl hh
        split at h
        · rename_i sz hsz; injection h with h; subst h
          refine .ofUpd (m := Instr.sliceAt ty (a.eval x) (lo.map a.eval) (hi.map a.eval) none) (by simp only [execOp, ho, Option.map_none]) ?_
          exact sliceArr_sim (lo := fun t => (sl.run t).head?) (hi := fun t => (sh.run t).head?) hr hu hsz (Nat.succ_pos _) (rho_sim hx ht hr) (optR hl) (optR hh) fun id hid => agree id (by simp [lookIds, cFoot, rdLook, hx, hid])
        · cases h
      · cases h
    | some mx =>
      cases hi with
      | none => cases h
      | some hi =>
        dsimp only at h
        split at h
        · rename_i e sx sl sh sm he hx hl hh hm
          split at h
          · rename_i sz hsz; injection h with h; subst h
            have hu : C.P.underlying ty = some (.slice e) := by
              unfold elemT at he; split at he <;> first | (injection he with he; subst he; assumption) | cases he
            refine .ofVal (m := Instr.sliceAt ty (a.eval x) (lo.map a.eval) (some (a.eval hi)) (some (a.eval mx))) (by simp only [execOp, ho, Option.map_some]) ?_
            exact sliceA_sim hr hu hsz (rho_sim hx ht hr) (optR hl) (rho_sim hh ht hr) (rho_sim hm ht hr) (fun _ h => by cases h) fun id hid => agree id (by simp [lookIds, cFoot, rdLook, hx, hid])
          · cases h
        · cases h
  case call c =>
    obtain ⟨callee, args, argTypes⟩ := c
    cases callee <;> first | (cases h; done) | skip
    rename_i b
    dsimp only at h
    obtain ⟨vs, hvs⟩ := cBuiltin_rhos h
    obtain ⟨m, h1, h2⟩ := builtin_sim (ty := o.type) (consts := args.map fun | .const _ => true | _ => false) h ht hr hf fun x hx s hs id hid => agree id (by
      have := cRhos_mem (t := t) hvs x hx s hs
      unfold lookIds cFoot
      simp only [hvs, rdLook, List.map_nil, List.append_nil, List.mem_flatMap]; exact ⟨_, this, hid⟩)
    refine .ofUpd (m := m) ?_ h2
    rw [← h1]
    simp only [execOp, ho, resolve, invoke]
    have e : args.map a.eval = (args.toList.map a.eval).toArray := by apply Array.ext'; simp
    rw [← e]
    rfl

end
end Hx
