/- One operation of a region, calls among them. -/
import Derived.Test.YtkbieohddgjioaaHxMono
import Derived.AtR
set_option linter.unusedVariables false
set_option linter.unusedSimpArgs false
set_option linter.unnecessarySimpa false
namespace Hx
open Go

section
variable {C : Cfg} {A : Nat → Nat → Prop} {bd : Nat} {w w' : World} {γ γ' : Gm} {hg : Nat → AObj} {nx : Nat}
variable {op : Op} {t : T} {g : G} {f : Stg SFn}

theorem rowsOf_none {h : H} {sz id : Nat} {x : AV} (hid : id ∈ refIds x) (hn : h.get id = .none) : rowsOf h sz x = none := by
  cases x <;> simp [refIds] at hid
  · subst hid; simp [rowsOf, hn]
  · rfl
  · rfl

theorem rows_fail {sz id : Nat} {x : AV} {bytes : Nat} {new : List (List AV)} (hid : id ∈ refIds x) (hn : g.h.get id = .none) : appendRows sz bytes x new g = .fail := by
  cases x <;> simp [refIds] at hid
  · subst hid; simp [appendRows, hn]
  · rfl
  · rfl

/-- An operation that looks at an object that is not there fails. -/
theorem sop_none (h : cSop C op = some f) {id : Nat} (hid : id ∈ lookIds C op t g) (hn : g.h.get id = .none) : f.run t g = .fail := by
  have one : ∀ {x : AV}, id ∈ refIds x → (∃ a b c d, x = .hptr a b c d ∧ g.h.get a = .none) ∨ (∃ a b c d e, x = .hsl a b c d e ∧ g.h.get a = .none) ∨ (∃ a, x = .hmap a ∧ g.h.get a = .none) := by
    intro x hx
    cases x <;> simp [refIds] at hx
    · subst hx; exact .inr (.inl ⟨_, _, _, _, _, rfl, hn⟩)
    · subst hx; exact .inl ⟨_, _, _, _, rfl, hn⟩
    · subst hx; exact .inr (.inr ⟨_, rfl, hn⟩)
  cases op <;> simp only [cSop] at h <;> first | (cases h; done) | skip
  case call c =>
    obtain ⟨callee, args, argTypes⟩ := c
    cases callee <;> first | (cases h; done) | skip
    rename_i b
    dsimp only at h
    obtain ⟨vs, hvs⟩ := cBuiltin_rhos h
    have hid : id ∈ (vs.run t).flatMap (refOf C b argTypes) := by simpa only [lookIds, cFoot, hvs, rdLook, List.map_nil, List.append_nil] using hid
    generalize args.toList = l at h hvs
    unfold cBuiltin at h
    split at h
    · -- len
      split at h
      · rename_i tt s h0 hs; injection h with h; subst h
        simp only [cRhos, hs, Option.some.injEq] at hvs; subst hvs
        simp only [List.flatMap_cons, List.flatMap_nil, List.append_nil, refOf, h0] at hid
        dsimp only
        generalize s.run t = x at *
        generalize lenKind C.P tt = k at *
        cases k <;> simp at hid
        cases x <;> simp [refIdsL] at hid
        subst hid
        simp [lenF, hn]
      · cases h
    · -- append
      split at h
      · rename_i tt xt sa sx h0 h1 ha hx
        simp only [cRhos, ha, hx, Option.some.injEq] at hvs; subst hvs
        simp only [List.flatMap_cons, List.flatMap_nil, List.append_nil, refOf, List.mem_append] at hid
        repeat' (first | split at h | (rw [bif'_eq] at h; split at h))
        all_goals first | (cases h; done) | skip
        all_goals (injection h with h; subst h)
        · dsimp only [appendA]
          split
          · rfl
          · rename_i new hnew
            rcases hid with hid | hid
            · exact rows_fail hid hn
            · rw [rowsOf_none hid hn] at hnew; cases hnew
        · dsimp only [appendZ]
          split
          · rfl
          · rename_i n hnat
            rcases hid with hid | hid
            · rw [bif'_eq]
              split
              · exact rows_fail hid hn
              · rfl
            · generalize sx.run t = x at *
              cases x <;> simp [refIds] at hid <;> simp [natOf] at hnat
      · cases h
    · -- copy
      split at h
      · rename_i tt sa sx h0 ha hx
        simp only [cRhos, ha, hx, Option.some.injEq] at hvs; subst hvs
        simp only [List.flatMap_cons, List.flatMap_nil, List.append_nil, refOf, List.mem_append] at hid
        repeat' (first | split at h)
        all_goals first | (cases h; done) | skip
        all_goals (injection h with h; subst h)
        dsimp only [copyA]
        split
        · rfl
        · rename_i src hsrc
          rcases hid with hid | hid
          · rcases one hid with ⟨a, b, c, d, e, h1⟩ | ⟨a, b, c, d, e', e, h1⟩ | ⟨a, e, h1⟩ <;> rw [e] <;> simp [h1]
          · rw [rowsOf_none hid hn] at hsrc; cases hsrc
      · cases h
    · -- cap
      split at h
      · rename_i tt s h0 hs
        simp only [cRhos, hs, Option.some.injEq] at hvs; subst hvs
        simp only [List.flatMap_cons, List.flatMap_nil, List.append_nil, refOf] at hid
        repeat' (first | split at h)
        all_goals first | (cases h; done) | skip
        all_goals (injection h with h; subst h)
        dsimp only [capF]
        rcases one hid with ⟨a, b, c, d, e, h1⟩ | ⟨a, b, c, d, e', e, h1⟩ | ⟨a, e, h1⟩ <;> rw [e] <;> simp [h1]
      · cases h
    · -- clear
      split at h
      · rename_i tt s h0 hs
        simp only [cRhos, hs, Option.some.injEq] at hvs; subst hvs
        simp only [List.flatMap_cons, List.flatMap_nil, List.append_nil, refOf] at hid
        repeat' (first | split at h | (rw [bif'_eq] at h; split at h))
        all_goals first | (cases h; done) | skip
        all_goals (injection h with h; subst h)
        dsimp only
        generalize s.run t = x at *
        cases x with
        | hsl i ep off len lim =>
          cases len with
          | zero => simp [refIdsC] at hid
          | succ len =>
            simp [refIdsC] at hid
            subst hid
            simp [clearF, hn]
        | _ => simp [refIdsC] at hid
      · cases h
    · -- max
      split at h
      · rename_i sa sx ha hx; injection h with h; subst h
        simp only [cRhos, ha, hx, Option.some.injEq] at hvs; subst hvs
        simp only [List.flatMap_cons, List.flatMap_nil, List.append_nil, refOf, List.mem_append] at hid
        dsimp only
        rcases hid with hid | hid
        · rcases one hid with ⟨a, b, c, d, e, h1⟩ | ⟨a, b, c, d, e', e, h1⟩ | ⟨a, e, h1⟩ <;> rw [e]
        · split
          · rcases one hid with ⟨a, b, c, d, e, h1⟩ | ⟨a, b, c, d, e', e, h1⟩ | ⟨a, e, h1⟩ <;> rw [e]
          · rfl
      · cases h
    · -- min
      split at h
      · rename_i sa sx ha hx; injection h with h; subst h
        simp only [cRhos, ha, hx, Option.some.injEq] at hvs; subst hvs
        simp only [List.flatMap_cons, List.flatMap_nil, List.append_nil, refOf, List.mem_append] at hid
        dsimp only
        rcases hid with hid | hid
        · rcases one hid with ⟨a, b, c, d, e, h1⟩ | ⟨a, b, c, d, e', e, h1⟩ | ⟨a, e, h1⟩ <;> rw [e]
        · split
          · rcases one hid with ⟨a, b, c, d, e, h1⟩ | ⟨a, b, c, d, e', e, h1⟩ | ⟨a, e, h1⟩ <;> rw [e]
          · rfl
      · cases h
    · cases h
  case load ty a =>
    split at h
    · rename_i s ag n hs hag hn'; injection h with h; subst h
      simp only [lookIds, cFoot, hs, rdLook, List.map_nil, List.append_nil] at hid
      dsimp only [loadF]
      rcases one hid with ⟨a, b, c, d, e, h1⟩ | ⟨a, b, c, d, e', e, h1⟩ | ⟨a, e, h1⟩ <;> rw [e] <;> simp [h1]
    · cases h
  case store ty a x =>
    split at h
    · rename_i s u n hs hu hn'; injection h with h; subst h
      simp only [lookIds, cFoot, hs, rdLook, List.map_nil, List.append_nil] at hid
      dsimp only [storeF]
      rcases one hid with ⟨a, b, c, d, e, h1⟩ | ⟨a, b, c, d, e', e, h1⟩ | ⟨a, e, h1⟩ <;> rw [e] <;> simp [h1]
    · cases h
  case indexAddr ty x ix =>
    split at h
    · rename_i s i hs hi
      split at h
      · rename_i e hu
        split at h
        · injection h with h; subst h
          simp only [lookIds, cFoot, hs, hu, rdLook, List.map_nil, List.append_nil] at hid
          dsimp only [indexSlF]
          rcases one hid with ⟨a, b, c, d, e, h1⟩ | ⟨a, b, c, d, e', e, h1⟩ | ⟨a, e, h1⟩ <;> rw [e]
          dsimp only
          split
          · simp [h1]
          · rfl
        · cases h
      · rename_i n e hu
        simp [lookIds, cFoot, hs, hu, noLook] at hid
      · cases h
    · cases h
  case lookup ty x k ok =>
    split at h
    · rename_i sm kk kt et hm hk hu
      split at h
      · injection h with h; subst h
        have hid : id ∈ refIds (sm.run t) := by
          cases ok <;> simpa [lookIds, cFoot, hm, rdLook] using hid
        dsimp only [lookupF]
        rw [bif'_eq]
        split
        · rcases one hid with ⟨a, b, c, d, e, h1⟩ | ⟨a, b, c, d, e', e, h1⟩ | ⟨a, e, h1⟩ <;> rw [e] <;> simp [h1]
        · rfl
      · cases h
    · cases h
  case mapUpdate ty m k x =>
    split at h
    · rename_i sm sk sx kt et hm hk hx hu; injection h with h; subst h
      simp only [lookIds, cFoot, hm, rdLook, List.map_nil, List.append_nil] at hid
      dsimp only [mapUpdateF]
      rw [bif'_eq]
      split
      · rcases one hid with ⟨a, b, c, d, e, h1⟩ | ⟨a, b, c, d, e', e, h1⟩ | ⟨a, e, h1⟩ <;> rw [e] <;> simp [h1]
      · rfl
    · cases h
  case insert ty m k x =>
    split at h
    · rename_i sm sk sx kt et hm hk hx hu; injection h with h; subst h
      simp only [lookIds, cFoot, hm, rdLook, List.map_nil, List.append_nil] at hid
      dsimp only [mapUpdateF]
      rw [bif'_eq]
      split
      · rcases one hid with ⟨a, b, c, d, e, h1⟩ | ⟨a, b, c, d, e', e, h1⟩ | ⟨a, e, h1⟩ <;> rw [e] <;> simp [h1]
      · rfl
    · cases h
  case mapEntry ty m k =>
    split at h
    · rename_i sm sk kt et hm hk hu
      split at h
      · injection h with h; subst h
        simp only [lookIds, cFoot, hm, rdLook, List.map_nil, List.append_nil] at hid
        dsimp only [mapEntryF]
        rw [bif'_eq]
        split
        · rcases one hid with ⟨a, b, c, d, e, h1⟩ | ⟨a, b, c, d, e', e, h1⟩ | ⟨a, e, h1⟩ <;> rw [e] <;> simp [h1]
        · rfl
      · cases h
    · cases h
  case entryStore ty m st x =>
    split at h
    · rename_i sm ss sx hm hs hx; injection h with h; subst h
      simp only [lookIds, cFoot, hm, rdLook, List.map_nil, List.append_nil] at hid
      dsimp only [entryStoreF]
      rcases one hid with ⟨a, b, c, d, e, h1⟩ | ⟨a, b, c, d, e', e, h1⟩ | ⟨a, e, h1⟩ <;> rw [e] <;> simp [h1]
    · cases h
  case slice ty x lo hi mx =>
    have key : ∀ {sz : Nat} {y : AV} {l h' m : Option AV}, id ∈ refIds y → sliceA sz y l h' m g.h = none := by
      intro sz y l h' m hy
      rcases one hy with ⟨a, b, c, d, e, h1⟩ | ⟨a, b, c, d, e', e, h1⟩ | ⟨a, e, h1⟩ <;> rw [e] <;> simp [sliceA, h1]
    cases mx with
    | none =>
      dsimp only at h
      split at h
      · rename_i e sx sl sh hu hx hl hh
        split at h
        · injection h with h; subst h
          simp only [lookIds, cFoot, hx, rdLook, List.map_nil, List.append_nil] at hid
          dsimp only
          rw [key hid]; rfl
        · cases h
      · rename_i n e sx sl sh hu hx hl hh
        split at h
        · injection h with h; subst h
          simp only [lookIds, cFoot, hx, rdLook, List.map_nil, List.append_nil] at hid
          dsimp only [sliceArrF]
          split
          · rfl
          · split
            · rfl
            · rcases one hid with ⟨a, b, c, d, e, h1⟩ | ⟨a, b, c, d, e', e, h1⟩ | ⟨a, e, h1⟩ <;> rw [e] <;> simp [h1]
        · cases h
      · cases h
    | some mx =>
      cases hi with
      | none => cases h
      | some hi =>
        dsimp only at h
        split at h
        · rename_i e sx sl sh sm he hx hl hh hm
          split at h
          · injection h with h; subst h
            simp only [lookIds, cFoot, hx, rdLook, List.map_nil, List.append_nil] at hid
            dsimp only
            rw [key hid]; rfl
          · cases h
        · cases h
  all_goals simp [lookIds, cFoot, noLook] at hid


/-- What the model's program must be, and what is asked of the functions that are taken as given. -/
structure CfgOk (C : Cfg) : Prop where
  mixed : C.P.follows .mixedOrders = true
  recov : C.P.follows .rangeFuncRecover = true
  mon : ExtMon C
  noDfr : ∀ f e, C.ext f = some e → ∀ d args g y, e d args g ≠ .dfr y
  ext : ∀ f e, C.ext f = some e → ∀ A bd w γ hg nx g as vs, Rel C A bd w γ hg nx → WF g → (∀ id ∈ as.flatMap (snapIds g.h depthA), g.h.get id ≠ .none → hg id = g.h.get id) → Free γ g (gOf g (e (bd + 1) as g)) →
    RVs w γ A bd as vs → e (bd + 1) as g ≠ .fail → ∀ cs,
    ∃ u w' γ' hg', Fin C A bd w γ hg nx g w' γ' hg' (gOf g (e (bd + 1) as g)) ∧ RV w' γ' A bd (vOf (e (bd + 1) as g)) u ∧
      ((callFunc f vs.toArray).run C.P w = .ok (.value u) w' ∨ (Enters C.P f ∧ Outs C.P .normal f vs.toArray cs w u w'))

/-- The deferred calls. -/
def DR (w : World) (γ : Gm) (A : Nat → Nat → Prop) (bd : Nat) : List ADf → List Deferred → Prop
  | [], [] => True
  | .mark id :: ds, d :: es => ((γ id).kind = 4 ∧ d = { target := .collected (γ id).blk, args := #[] }) ∧ DR w γ A bd ds es
  | .call fv args :: ds, d :: es => (∃ f ys us, fv = .clo f [] ys ∧ d.target = .fn (.func f) us ∧ RVs w γ A bd ys us.toList ∧ RVs w γ A bd args d.args.toList) ∧ DR w γ A bd ds es
  | _, _ => False

theorem DR.step {ds : List ADf} : ∀ {es : List Deferred}, DR w γ A bd ds es → Stp w γ w' γ' → DR w' γ' A bd ds es := by
  induction ds with
  | nil => intro es h _; cases es <;> simpa [DR] using h
  | cons d ds ih =>
    intro es h s
    cases es with
    | nil => cases d <;> simp [DR] at h
    | cons e es =>
      cases d with
      | mark id =>
        obtain ⟨⟨h1, h2⟩, h3⟩ := h
        have hk : (γ id).kind ≠ 0 := by rw [h1]; decide
        exact ⟨⟨by rw [s.kind_eq hk, h1], by rw [h2, s.blk_eq hk (by rw [h1]; decide)]⟩, ih h3 s⟩
      | call fv args =>
        obtain ⟨⟨f, ys, us, h1, h2, h4, h5⟩, h3⟩ := h
        exact ⟨⟨f, ys, us, h1, h2, h4.step s, h5.step s⟩, ih h3 s⟩

theorem TR.step {nt : Nat} {tmps : Array Value} (h : TR w γ A bd nt t tmps) (s : Stp w γ w' γ') : TR w' γ' A bd nt t tmps :=
  ⟨h.1, fun i => (h.2 i).step s⟩

/-- Whose round the activation is. -/
def RdOk (γ : Gm) (rd : Option Nat) (b : Frame) : Prop :=
  match rd with
  | none => b.roundOf = none
  | some id => (γ id).kind = 3 ∧ b.roundOf = some (γ id).blk

theorem RdOk.step {rd : Option Nat} {b : Frame} (h : RdOk γ rd b) (s : Stp w γ w' γ') : RdOk γ' rd b := by
  cases rd with
  | none => exact h
  | some id =>
    obtain ⟨h1, h2⟩ := h
    have hk : (γ id).kind ≠ 0 := by rw [h1]; decide
    exact ⟨by rw [s.kind_eq hk, h1], by rw [h2, s.blk_eq hk (by rw [h1]; decide)]⟩

/-- Where a piece of code arrives. -/
def Arr (P : Program) (m : Machine) (b : Frame) (k : List Item) (cs : List Frame) : Ex → Act → World → Prop
  | .norm, a, w => Steps P m (lone (b.atR a k) cs w)
  | .exit id, a, w => ∃ k₁, exitTo id k₁ = exitTo id k ∧ Steps P m (lone (b.atR a (.code (.exit id) :: k₁)) cs w)
  | .ret, a, w => ∃ k₁, Steps P m (lone (b.atR a (.code .ret :: k₁)) cs w)

theorem Arr.of_steps {P : Program} {m m₁ : Machine} {b : Frame} {k : List Item} {cs : List Frame} {e : Ex} {a : Act} (h : Steps P m m₁) (h' : Arr P m₁ b k cs e a w) : Arr P m b k cs e a w := by
  cases e with
  | norm => exact Steps.trans h h'
  | exit id => obtain ⟨k₁, h1, h2⟩ := h'; exact ⟨k₁, h1, Steps.trans h h2⟩
  | ret => obtain ⟨k₁, h2⟩ := h'; exact ⟨k₁, Steps.trans h h2⟩

/-- What a piece of code comes to, in the model. -/
def CodeRun (C : Cfg) (bd nt : Nat) (rd : Option Nat) (c : Code) (t : T) (df : List ADf) (g : G) (e : Ex) (t' : T) (df' : List ADf) (g' : G) : Prop :=
  ∀ A w γ hg nx b a k cs, Rel C A bd w γ hg nx → Ext g.h hg → WF g → Free γ g g' → TR w γ A bd nt t a.tmps → DR w γ A bd df a.defers → RdOk γ rd b → CalmK b.kind cs →
    ∃ a' w' γ' hg', Fin C A bd w γ hg nx g w' γ' hg' g' ∧ TR w' γ' A bd nt t' a'.tmps ∧ DR w' γ' A bd df' a'.defers ∧
      Arr C.P (lone (b.atR a (.code c :: k)) cs w) b k cs e a' w'

def CodeOk (C : Cfg) (ih : IH) : Prop :=
  ∀ bd nt rd c t df g e t' df' g', ih.code nt (bd + 1) rd c t df g = .ok e t' df' g' → CodeRun C bd nt rd c t df g e t' df' g'

structure IHOk (C : Cfg) (ih : IH) : Prop where
  mon : IHMon ih
  call : CallOk C ih
  code : CodeOk C ih

/-! Lists of values -/

theorem RVs.append {xs ys : List AV} {vs us : List Value} (h1 : RVs w γ A bd xs vs) (h2 : RVs w γ A bd ys us) : RVs w γ A bd (xs ++ ys) (vs ++ us) := by
  refine ⟨by simp [h1.1, h2.1], fun i x v hx hv => ?_⟩
  by_cases hi : i < xs.length
  · rw [List.getElem?_append_left hi] at hx
    rw [List.getElem?_append_left (by rw [← h1.1]; exact hi)] at hv
    exact h1.2 i x v hx hv
  · rw [List.getElem?_append_right (by omega)] at hx
    rw [List.getElem?_append_right (by rw [← h1.1]; omega), ← h1.1] at hv
    exact h2.2 _ x v hx hv

theorem RVs.ofArr {xs : List AV} {vs : Array Value} (hl : xs.length = vs.size) (h : ∀ (i : Nat) x v, xs[i]? = some x → vs[i]? = some v → RV w γ A bd x v) :
    RVs w γ A bd xs vs.toList := ⟨by simpa using hl, fun i x v hx hv => h i x v hx (by simpa using hv)⟩

/-! Steps of one operation -/
section
variable {P : Program} {b : Frame} {a : Act} {ops : Array Oper} {i : Nat} {rest : List Nat} {k : List Item} {cs : List Frame} {o : Oper}

theorem step_value {v : Value} (ho : ops[i]? = some o) (hw : Region.wanted o (yielded ops a.tmps) = true) (hd : ∀ c, o.op ≠ .defer c)
    (hrun : (execOp a.eval o).run P w = .ok (.value v) w') :
    step P (lone (b.atR a (.inRegion ops (i :: rest) :: k)) cs w) = .next (lone (b.atR (a.put o.dst v) (.inRegion ops rest :: k)) cs w') := by
  have hfin := Frame.finish_atR b a ops i rest k v
  rw [ho] at hfin
  simp only [Option.bind_some] at hfin
  refine step_lone_go ?_
  rw [stepGR_op ho hw, Oper.semAt_eq _ _ _ hd, ← hfin]
  simp [stepG.apply, hrun]

theorem step_skip (ho : ops[i]? = some o) (hw : Region.wanted o (yielded ops a.tmps) = true) (hd : ∀ c, o.op ≠ .defer c)
    (hrun : (execOp a.eval o).run P w = .ok .skip w') :
    step P (lone (b.atR a (.inRegion ops (i :: rest) :: k)) cs w) = .next (lone (b.atR (a.put o.dst undef) (.inRegion ops rest :: k)) cs w') := by
  have hfin := Frame.finish_atR b a ops i rest k undef
  rw [ho] at hfin
  simp only [Option.bind_some] at hfin
  refine step_lone_go ?_
  rw [stepGR_op ho hw, Oper.semAt_eq _ _ _ hd, ← hfin]
  simp [stepG.apply, hrun]

theorem step_gives {v : Value} (ho : ops[i]? = some o) (hw : Region.wanted o (yielded ops a.tmps) = true) (hd : ∀ c, o.op ≠ .defer c)
    (hrun : Gives P o a.eval w v w') :
    Steps P (lone (b.atR a (.inRegion ops (i :: rest) :: k)) cs w) (lone (b.atR (a.put o.dst v) (.inRegion ops rest :: k)) cs w') := by
  rcases hrun with h | ⟨h, rfl⟩
  · exact .one (step_value ho hw hd h)
  · exact .one (step_skip ho hw hd h)

theorem step_enter {f : FuncId} {args : Array Value} (ho : ops[i]? = some o) (hw : Region.wanted o (yielded ops a.tmps) = true) (hd : ∀ c, o.op ≠ .defer c)
    (hrun : (execOp a.eval o).run P w = .ok (.enter f args) w') :
    step P (lone (b.atR a (.inRegion ops (i :: rest) :: k)) cs w) = .next (lone (Frame.enter P f args .normal) (b.atR a (.inRegion ops (i :: rest) :: k) :: cs) w') := by
  refine step_lone_go ?_
  rw [stepGR_op ho hw, Oper.semAt_eq _ _ _ hd]
  simp [stepG.apply, hrun, Frame.atR]

theorem step_round {l : Nat} {f : FuncId} {tmps : Array Value} {assign body : Code} (ho : ops[i]? = some o) (hw : Region.wanted o (yielded ops a.tmps) = true) (hd : ∀ c, o.op ≠ .defer c)
    (hrun : (execOp a.eval o).run P w = .ok (.round l f tmps assign body) w') :
    step P (lone (b.atR a (.inRegion ops (i :: rest) :: k)) cs w) = .next (lone (Frame.round l f tmps assign body .normal) (b.atR a (.inRegion ops (i :: rest) :: k) :: cs) w') := by
  refine step_lone_go ?_
  rw [stepGR_op ho hw, Oper.semAt_eq _ _ _ hd]
  simp [stepG.apply, hrun, Frame.atR]

/-- A call, from its step to its return. -/
theorem steps_call {f : FuncId} {args : Array Value} {u : Value} {w₁ : World} (ho : ops[i]? = some o) (hw : Region.wanted o (yielded ops a.tmps) = true) (hd : ∀ c, o.op ≠ .defer c)
    (hrun : (execOp a.eval o).run P w = .ok (.enter f args) w)
    (hout : Outs P .normal f args (b.atR a (.inRegion ops (i :: rest) :: k) :: cs) w u w₁) :
    Steps P (lone (b.atR a (.inRegion ops (i :: rest) :: k)) cs w) (lone (b.atR (a.put o.dst u) (.inRegion ops rest :: k)) cs w₁) := by
  obtain ⟨fr, hs, h1, h2, h3, h4, fn, h5, h6⟩ := hout
  have hfin := Frame.finish_atR b a ops i rest k u
  rw [ho] at hfin
  simp only [Option.bind_some] at hfin
  refine .head (step_enter ho hw hd hrun) (Steps.trans hs (.one ?_))
  rw [← hfin]
  exact step_leave_returned ⟨h1, h2, h3, fn, by rw [h4]; exact h5, h6⟩

theorem step_recover (ho : ops[i]? = some o) (hw : Region.wanted o (yielded ops a.tmps) = true) (hd : ∀ c, o.op ≠ .defer c)
    (hrec : P.follows .rangeFuncRecover = true) (hcalm : CalmK b.kind cs)
    (hrun : (execOp a.eval o).run P w = .ok .recover w) :
    step P (lone (b.atR a (.inRegion ops (i :: rest) :: k)) cs w) = .next (lone (b.atR (a.put o.dst .nilIface) (.inRegion ops rest :: k)) cs w) := by
  have hfin := Frame.finish_atR b a ops i rest k .nilIface
  rw [ho] at hfin
  simp only [Option.bind_some] at hfin
  have htry : tryRecover (b.atR a (.inRegion ops (i :: rest) :: k)) cs = none := by
    unfold tryRecover
    rcases hcalm with h | ⟨h, c, cs', rfl, hm⟩
    · simp [Frame.atR, h]
    · simp [Frame.atR, h, hm]
  refine step_lone_go ?_
  rw [stepGR_op ho hw, Oper.semAt_eq _ _ _ hd, ← hfin]
  simp only [stepG.apply, Sem.runT_eq, hrun, hrec, if_true, htry]
  cases hro : (b.atR a (.inRegion ops (i :: rest) :: k)).roundOf <;> simp [GStep.bare_after]
end

/-! Loops over functions -/

theorem getLoop_run {P : Program} {l : Nat} {L : Loop} (h : w.heap[l]? = some (.loop L)) : (Instr.getLoop l).run P w = .ok L w := by
  unfold Instr.getLoop
  simp only [Sem.run_bind, getObj_run h (by simp), Result.andThen_ok]
  rfl

theorem setLoop_run {P : Program} {l : Nat} {L : Loop} {o : Obj} (h : w.heap[l]? = some (.loop L)) : (setObj l o).run P w = .ok () (World.setBlk w l o) :=
  setObj_run h (by simp)

/-- The record of a loop set anew. -/
theorem Rel.setLoop (hr : Rel C A bd w γ hg nx) {id nt dfr : Nat} {t : T} {ps : List Nat} {assign body : Code} {st st' : LoopState} {pend pend' : Option Code} {L : Loop}
    (hid : hg id = .loop nt t ps assign body dfr st pend) (hL : w.heap[(γ id).blk]? = some (.loop L)) :
    Rel C A bd (World.setBlk w (γ id).blk (.loop { L with state := st', pending := pend' })) γ (upd hg id (.loop nt t ps assign body dfr st' pend')) nx ∧
      Stp w γ (World.setBlk w (γ id).blk (.loop { L with state := st', pending := pend' })) γ := by
  have hob := hr.obj id
  rw [hid] at hob
  obtain ⟨h1, h2, L', h3, h4, h5, h6, h7, h8, h9, h10, h11, h12⟩ := hob
  rw [hL] at h3; injection h3 with h3; injection h3 with h3; subst h3
  have hk : (γ id).kind ≠ 0 := by rw [h1]; decide
  have s := stp_block (w := w) (o := .loop { L with state := st', pending := pend' }) hk h2
  refine hr.setBlk hk h2 ⟨h1, h2, { L with state := st', pending := pend' }, ?_, rfl, rfl, h6, h7, h8, h9, fun i => (h10 i).step s, h11, h12⟩
  rw [setBlk_heap]; simp [(hr.lt id hk).2]

theorem Fin.ofPut {g : G} {id : Nat} {o : AObj} (hr : Rel C A bd w' γ' (upd hg id o) nx) (s : Stp w γ w' γ') :
    Fin C A bd w γ hg nx g w' γ' (upd hg id o) (g.put id o) := by
  refine ⟨hr.up (Nat.le_max_left _ _), s, ⟨[id], by simp, fun j hj => ?_, fun j hj => ?_⟩⟩
  · simp at hj; subst hj; simp [H.get_put]
  · exact upd_ne _ _ (by simpa using hj)

theorem Fin.ofNew {g : G} {o : AObj} (hr : Rel C A bd w' γ' (upd hg g.nx o) (Nat.max nx (g.nx + 1))) (s : Stp w γ w' γ') :
    Fin C A bd w γ hg nx g w' γ' (upd hg g.nx o) (g.new o) := by
  refine ⟨by simpa using hr, s, ⟨[g.nx], by simp, fun j hj => ?_, fun j hj => ?_⟩⟩
  · simp at hj; subst hj; simp [H.get_put]
  · exact upd_ne _ _ (by simpa using hj)

end
end Hx
