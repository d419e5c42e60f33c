/- The operations on maps. -/
import Derived.Test.YtkbieohddgjioaaHxMaps
set_option linter.unusedVariables false
set_option linter.unusedSimpArgs false
set_option linter.unnecessarySimpa false
namespace Hx
open Go

section
variable {C : Cfg} {A : Nat → Nat → Prop} {bd : Nat} {w w' : World} {γ γ' : Gm} {hg : Nat → AObj} {nx : Nat}

theorem byteBeq (s1 s2 : ByteArray) : (s1 == s2) = decide (s1 = s2) := by
  obtain ⟨⟨x⟩⟩ := s1
  obtain ⟨⟨y⟩⟩ := s2
  show ((⟨x⟩ : Array UInt8) == ⟨y⟩) = _
  rw [Bool.eq_iff_iff]
  simp

theorem eqVs_true : ∀ {ds : List TypeDesc} {xs ys : List Value}, kindsV ds xs = true → kindsV ds ys = true → eqVs xs ys = true → xs = ys := by
  intro ds
  induction ds with
  | nil => intro xs ys h1 h2 _; rw [List.eq_nil_of_length_eq_zero (kindsV_len h1), List.eq_nil_of_length_eq_zero (kindsV_len h2)]
  | cons d ds ih =>
    intro xs ys h1 h2 h
    cases xs with
    | nil => cases h1
    | cons x xs => cases ys with
      | nil => cases h2
      | cons y ys =>
        simp only [kindsV, eqVs, Bool.and_eq_true] at h1 h2 h
        rw [ih h1.2 h2.2 h.2]
        congr 1
        cases d <;> cases x <;> simp [kindV] at h1 <;> cases y <;> simp [kindV] at h2 <;> simp [eqV, byteBeq] at h <;> simp_all

theorem sameBits_refl {ds : List TypeDesc} {v : Value} (hk : kindsV ds v.cells.toList = true) : Instr.sameBits 10000 v v = true := by
  have one : ∀ (d : TypeDesc) (x : Value), kindV d x = true → ∀ n, Instr.sameBits n x x = true := by
    intro d x h n
    cases d <;> cases x <;> simp [kindV] at h <;> cases n <;> simp [Instr.sameBits, byteBeq]
  have all : ∀ (ds : List TypeDesc) (xs : List Value), kindsV ds xs = true → ((xs.zip xs).all fun (x, y) => Instr.sameBits 9999 x y) = true := by
    intro ds
    induction ds with
    | nil => intro xs h; rw [List.eq_nil_of_length_eq_zero (kindsV_len h)]; rfl
    | cons d ds ih =>
      intro xs h
      cases xs with
      | nil => rfl
      | cons x xs =>
        simp only [kindsV, Bool.and_eq_true] at h
        simp only [List.zip_cons_cons, List.all_cons, Bool.and_eq_true]
        exact ⟨one d x h.1 _, ih xs h.2⟩
  by_cases h : ∃ a, v = .agg a
  · obtain ⟨a, rfl⟩ := h
    have := all ds a.toList hk
    show (Instr.sameBits (9999 + 1) (.agg a) (.agg a)) = true
    simp only [Instr.sameBits, beq_self_eq_true, Bool.true_and]
    exact this
  · have hc : v.cells.toList = [v] := by
      cases v <;> first | rfl | exact absurd ⟨_, rfl⟩ h
    rw [hc] at hk
    cases ds with
    | nil => cases hk
    | cons d ds => simp only [kindsV, Bool.and_eq_true] at hk; exact one d v hk.1 _

theorem keyEq_same {kt : TypeId} {k k' : AV} {v v' : Value} (hk : KeyV C.P kt k v) (h : keyEq k k' = some true) (h1 : RV w γ A bd k v) (h2 : RV w γ A bd k' v') : v' = v := by
  obtain ⟨h3, h4, _⟩ := keyEq_rv (w := w) hk h h1 h2
  obtain ⟨d, ds, e1, e2, e3, e4, e5⟩ := hk
  obtain ⟨d', ds', f1, f2, f3, f4, f5⟩ := h3
  have hc : eqCells k.cells k'.cells = some true := by
    cases k <;> try (cases h; done)
    all_goals cases k' <;> try (cases h; done)
    all_goals first | exact h | (simp only [keyEq] at h; simp [AV.cells, eqCells, h])
  have t1 : k.isTup = false := by
    cases k <;> try rfl
    cases k' <;> cases h
  have t2 : k'.isTup = false := by
    cases k <;> try (cases h; done)
    all_goals cases k' <;> first | rfl | (cases h; done)
  have r1 := (cells_rv h1 t1).1
  have r2 := (cells_rv h2 t2).1
  rw [e4, f4, eqVs_true e3 (eqCells_kinds hc r1 r2 e3) (eqCells_rv hc r1 r2)]

theorem keyThatStays_run {P : Program} {ds : List TypeDesc} {v : Value} (hk : kindsV ds v.cells.toList = true) : (Instr.keyThatStays v v).run P w = .ok v w := by
  unfold Instr.keyThatStays
  rw [sameBits_refl hk]; rfl

/-- Entries. -/
def EsRel (w : World) (γ : Gm) (A : Nat → Nat → Prop) (bd : Nat) (es : List (AV × AV)) (l : List MapEntry) : Prop :=
  es.length = l.length ∧ ∀ (i : Nat) k x e, es[i]? = some (k, x) → l[i]? = some e → RV w γ A bd k e.key ∧ RV w γ A bd x e.val

theorem EsRel.tail {p : AV × AV} {es : List (AV × AV)} {e : MapEntry} {l : List MapEntry} (h : EsRel w γ A bd (p :: es) (e :: l)) :
    RV w γ A bd p.1 e.key ∧ RV w γ A bd p.2 e.val ∧ EsRel w γ A bd es l := by
  obtain ⟨h1, h2⟩ := h.2 0 p.1 p.2 e rfl rfl
  exact ⟨h1, h2, by have := h.1; simpa using this, fun i k x e hi he => h.2 (i + 1) k x e (by simpa using hi) (by simpa using he)⟩

/-- What a search comes to. -/
def Found (k : AV) (es : List (AV × AV)) (l : List MapEntry) (i0 : Nat) (r : Option (Nat × AV)) (R : Option (Nat × Value)) : Prop :=
  match r with
  | none => R = none
  | some (i, x) => ∃ j k' e, i = i0 + j ∧ es[j]? = some (k', x) ∧ l[j]? = some e ∧ keyEq k k' = some true ∧ R = some (i, e.val)

theorem find_sim {kt : TypeId} {kd : TypeDesc} {k : AV} {v : Value} (hu : C.P.underlying kt = some kd) (hk : KeyV C.P kt k v) (h1 : RV w γ A bd k v) :
    ∀ (es : List (AV × AV)) (l : List MapEntry) (i : Nat) (r : Option (Nat × AV)), findIxA k i es = some r → EsRel w γ A bd es l →
      ∃ R, Found k es l i r R ∧ (Instr.findAsking kt v l i).run C.P w = .ok R w ∧ (isAggT C.P kt = false → Instr.findNow kd v l i = some R) := by
  intro es
  induction es with
  | nil =>
    intro l i r h hes
    have := hes.1
    have : l = [] := List.eq_nil_of_length_eq_zero (by simpa using this.symm)
    subst this
    simp only [findIxA] at h; injection h with h; subst h
    exact ⟨none, rfl, rfl, fun _ => rfl⟩
  | cons p es ih =>
    intro l i r h hes
    cases l with
    | nil => have := hes.1; simp at this
    | cons e l =>
      obtain ⟨k', x⟩ := p
      obtain ⟨e1, e2, e3⟩ := hes.tail
      simp only [findIxA] at h
      split at h
      · rename_i hq
        injection h with h; subst h
        obtain ⟨_, q2, q3⟩ := keyEq_rv hk hq h1 e1
        refine ⟨some (i, e.val), ⟨0, k', e, rfl, rfl, rfl, hq, rfl⟩, ?_, fun hg => ?_⟩
        · unfold Instr.findAsking; simp [q2]
        · unfold Instr.findNow; rw [q3 hg kd hu]
      · rename_i hq
        obtain ⟨_, q2, q3⟩ := keyEq_rv hk hq h1 e1
        obtain ⟨R, r1, r2, r3⟩ := ih l (i + 1) r h e3
        refine ⟨R, ?_, ?_, fun hg => ?_⟩
        · unfold Found at r1 ⊢
          cases r with
          | none => exact r1
          | some p =>
            obtain ⟨j, k'', e', f1, f2, f3, f4, f5⟩ := r1
            exact ⟨j + 1, k'', e', by omega, by simpa using f2, by simpa using f3, f4, f5⟩
        · unfold Instr.findAsking; simp [q2, r2]
        · unfold Instr.findNow; rw [q3 hg kd hu]; exact r3 hg
      · cases h

theorem findKey_sim {kt : TypeId} {kd : TypeDesc} {k : AV} {v : Value} (hu : C.P.underlying kt = some kd) (hk : KeyV C.P kt k v) (h1 : RV w γ A bd k v)
    {es : List (AV × AV)} {l : List MapEntry} {r : Option (Nat × AV)} (h : findIxA k 0 es = some r) (hes : EsRel w γ A bd es l) :
    ∃ R, Found k es l 0 r R ∧ (Instr.findKey kt v l).run C.P w = .ok R w := by
  obtain ⟨R, r1, r2, r3⟩ := find_sim hu hk h1 es l 0 r h hes
  refine ⟨R, r1, ?_⟩
  unfold Instr.findKey
  simp only [Sem.run_bind, run_und hu, Result.andThen_ok]
  cases hg : isAggT C.P kt with
  | false => rw [r3 hg]; rfl
  | true =>
    cases l with
    | nil => simp only [Instr.findNow]; exact r2
    | cons e l =>
      have : Instr.sameNow kd v e.key = none := by
        have := (isAgg_of hu).1
        rw [hg] at this
        cases kd <;> simp [isAggD] at this <;> rfl
      simp only [Instr.findNow, this]
      exact r2

theorem findA_ix (k : AV) : ∀ (es : List (AV × AV)) (i : Nat) (r : Option AV), findA k es = some r → ∃ q, findIxA k i es = some q ∧ r = q.map (·.2) := by
  intro es
  induction es with
  | nil => intro i r h; simp only [findA] at h; injection h with h; subst h; exact ⟨none, rfl, rfl⟩
  | cons p es ih =>
    intro i r h
    obtain ⟨k', x⟩ := p
    simp only [findA] at h
    simp only [findIxA]
    split at h
    · rename_i hq; injection h with h; subst h; exact ⟨some (i, x), rfl, rfl⟩
    · exact ih _ _ h
    · cases h

theorem setA_ix (k x : AV) : ∀ (es es' : List (AV × AV)) (i : Nat), setA k x es = some es' → ∃ q, findIxA k i es = some q ∧
    match q with
    | none => es' = es ++ [(k, x)]
    | some (n, _) => ∃ j, n = i + j ∧ es' = es.set j (k, x) := by
  intro es
  induction es with
  | nil => intro es' i h; simp only [setA] at h; injection h with h; subst h; exact ⟨none, rfl, rfl⟩
  | cons p es ih =>
    intro es' i h
    obtain ⟨k', y⟩ := p
    simp only [setA] at h
    simp only [findIxA]
    split at h
    · rename_i hq; injection h with h; subst h; exact ⟨some (i, y), rfl, 0, rfl, rfl⟩
    · rename_i hq
      split at h
      · rename_i r hr
        injection h with h; subst h
        obtain ⟨q, q1, q2⟩ := ih r (i + 1) hr
        refine ⟨q, q1, ?_⟩
        cases q with
        | none => simp only at q2 ⊢; rw [q2]; rfl
        | some p =>
          obtain ⟨j, j1, j2⟩ := q2
          exact ⟨j + 1, by omega, by rw [j2]; rfl⟩
      · cases h
    · cases h

theorem zeroA_run {t : TypeId} {z : AV} (h : zeroA C.P t = some z) : ∃ v, (zeroValue t).run C.P w = .ok v w ∧ RV w γ A bd z v := by
  unfold zeroA at h
  cases hi : C.P.info? t with
  | none => rw [hi] at h; cases h
  | some i =>
    rw [hi] at h
    cases hz : i.zero with
    | none => simp [hz] at h
    | some v =>
      simp only [Option.bind_some, hz] at h
      refine ⟨v, by simp [zeroValue, run_info hi, hz], ?_⟩
      split at h
      · rename_i cs
        cases hq : ofVs cs.toList with
        | none => rw [hq] at h; cases h
        | some as =>
          rw [hq] at h; injection h with h; subst h
          obtain ⟨r1, r2⟩ := ofVs_rv (w := w) (γ := γ) (A := A) (bd := bd) hq
          exact .agg _ as cs (by simpa using r1.1) r2 fun i x v hx hv => r1.2 i x v hx (by simpa using hv)
      · exact (ofV_rv h).1

theorem map_es (hr : Rel C A bd w γ hg nx) {id : Nat} {es : List (AV × AV)} (hid : hg id = .map es) :
    (γ id).kind = 2 ∧ (γ id).wr = true ∧ ∃ esC : Array MapEntry, w.heap[(γ id).blk]? = some (.map esC esC.size) ∧ EsRel w γ A bd es esC.toList ∧ ∀ (i : Nat) e, esC[i]? = some e → e.born = i := by
  have hob := hr.obj id
  rw [hid] at hob
  obtain ⟨k1, k2, esC, k3, k4, k5⟩ := hob
  refine ⟨k1, k2, esC, k3, ⟨by simpa using k4, fun i k x e hi he => (k5 i k x e hi (by simpa using he)).2⟩, fun i e he => ?_⟩
  have hlt : i < es.length := by rw [k4]; exact (Array.getElem?_eq_some_iff.1 he).1
  exact (k5 i (es[i]).1 (es[i]).2 e (by simp [hlt]) he).1

theorem lookup_sim {ty kt et : TypeId} {z : AV} {ok : Bool} {m k : T → AV} {t : T} {g : G} {vm vk : Value} (hr : Rel C A bd w γ hg nx)
    (hu : C.P.underlying ty = some (.map kt et)) (hz : zeroA C.P et = some z) (hm : RV w γ A bd (m t) vm) (hk : RV w γ A bd (k t) vk) (agree : ∀ id ∈ refIds (m t), hg id = g.h.get id) :
    ValSim C A bd w γ (Instr.lookup ty vm vk ok) (lookupF (keyKind C.P kt) z ok m k t g) := by
  unfold lookupF
  generalize m t = m at *
  generalize k t = k at *
  rw [bif'_eq]
  split
  · rename_i hko
    have hkv := key_rv hko hk
    obtain ⟨kd, hukt⟩ : ∃ kd, C.P.underlying kt = some kd := by
      obtain ⟨d, ds, _, hfl, _⟩ := hkv
      obtain ⟨kd, h, _⟩ := flatL_info hfl
      exact ⟨kd, h⟩
    obtain ⟨zv, z1, z2⟩ := zeroA_run (w := w) (γ := γ) (A := A) (bd := bd) hz
    have core : ∀ (es : List (AV × AV)) (l : Array MapEntry), EsRel w γ A bd es l.toList →
        (vm = .map none ∧ l = #[] ∨ ∃ r n, vm = .map (some r) ∧ (getObj r).run C.P w = .ok (.map l n) w) →
        ValSim C A bd w γ (Instr.lookup ty vm vk ok) (match findA k es with
          | some (some v) => .val (bif' ok (.tup [v, .bool true]) v)
          | some none => .val (bif' ok (.tup [z, .bool false]) z)
          | none => .fail) := by
      intro es l hes hrun
      cases hf : findA k es with
      | none => trivial
      | some r =>
        obtain ⟨q, q1, q2⟩ := findA_ix k es 0 r hf
        obtain ⟨R, r1, r2⟩ := findKey_sim hukt hkv hk q1 hes
        have hck : ∀ em, (Instr.checkKey em 10000 kt vk).run C.P w = .ok () w := by
          intro em
          obtain ⟨d, ds, hd, hfl, hks, hmk, _⟩ := hkv
          have := flat_check (P := C.P) em (10000 - d) d kt ds hfl w _ hks
          rw [show 10000 - d + d = 10000 from by omega, ← hmk] at this
          exact this
        have tup : ∀ (x : AV) (u : Value) (b : Bool), RV w γ A bd x u → RV w γ A bd (bif' ok (.tup [x, .bool b]) x) (if ok then .tuple #[u, .bool b] else u) := by
          intro x u b hx
          cases ok
          · exact hx
          · refine .tup _ _ _ rfl fun i y v hy hv => ?_
            match i with
            | 0 => simp at hy hv; subst hy; subst hv; exact hx
            | 1 => simp at hy hv; subst hy; subst hv; exact .bool _ _
            | i + 2 => simp at hy
        have hmain : (Instr.lookup ty vm vk ok).run C.P w =
            ((do let (v, okk) ← match R with
                  | some (_, v) => pure (v, true)
                  | none => pure (← zeroValue et, false)
                 pure (if ok then .tuple #[v, .bool okk] else v) : Sem Value)).run C.P w := by
          unfold Instr.lookup
          simp only [Sem.run_bind, run_und hu, Result.andThen_ok]
          rcases hrun with ⟨rfl, rfl⟩ | ⟨r', n, rfl, hrun⟩
          · simp only [Sem.run_bind, Sem.run_pure, Result.andThen_ok, hck, r2]
            try (cases R <;> rfl)
          · simp only [Sem.run_bind, Sem.run_pure, Result.andThen_ok, hrun, hck, r2]
            try (cases R <;> rfl)
        cases q with
        | none =>
          simp only [Found] at r1; subst r1
          simp only [Option.map_none] at q2; subst q2
          exact ⟨_, by rw [hmain]; simp [z1], tup z zv false z2⟩
        | some p =>
          obtain ⟨i, x⟩ := p
          obtain ⟨j, k', e, f1, f2, f3, f4, f5⟩ := r1
          subst f5
          simp only [Option.map_some] at q2; subst q2
          exact ⟨_, by rw [hmain]; simp, tup x e.val true (hes.2 j k' x e f2 f3).2⟩
    cases hm with
    | nilm => exact core [] #[] ⟨rfl, fun i k x e h => by simp at h⟩ (.inl ⟨rfl, rfl⟩)
    | hmap _ id b hkd hb =>
      have hagree := agree id (by simp [refIds])
      simp only [G.get_eq, ← hagree]
      cases hid : hg id with
      | map es =>
        obtain ⟨k1, k2, esC, k3, k4, k5⟩ := map_es hr hid
        subst hb
        exact core es esC k4 (.inr ⟨_, _, rfl, getObj_run k3 (by simp)⟩)
      | _ => trivial
    | _ => trivial
  · trivial

theorem checkKey_of {kt : TypeId} {k : AV} {v : Value} (h : KeyV C.P kt k v) (em : Bool) : (Instr.checkKey em 10000 kt v).run C.P w = .ok () w := by
  obtain ⟨d, ds, hd, hfl, hks, hmk, _⟩ := h
  have := flat_check (P := C.P) em (10000 - d) d kt ds hfl w _ hks
  rw [show 10000 - d + d = 10000 from by omega, ← hmk] at this
  exact this

theorem key_und {kt : TypeId} {k : AV} {v : Value} (h : KeyV C.P kt k v) : ∃ kd, C.P.underlying kt = some kd := by
  obtain ⟨d, ds, _, hfl, _⟩ := h
  obtain ⟨kd, h, _⟩ := flatL_info hfl
  exact ⟨kd, h⟩

/-- A map set anew. -/
theorem Rel.setMap (hr : Rel C A bd w γ hg nx) {id : Nat} {es es' : List (AV × AV)} {esC' : Array MapEntry} (hid : hg id = .map es) (hl : es'.length = esC'.size)
    (he : ∀ (i : Nat) k x e, es'[i]? = some (k, x) → esC'[i]? = some e → e.born = i ∧ RV w γ A bd k e.key ∧ RV w γ A bd x e.val) :
    Rel C A bd (World.setBlk w (γ id).blk (.map esC' esC'.size)) γ (upd hg id (.map es')) nx ∧ Stp w γ (World.setBlk w (γ id).blk (.map esC' esC'.size)) γ := by
  obtain ⟨k1, k2, _⟩ := map_es hr hid
  have hk : (γ id).kind ≠ 0 := by rw [k1]; decide
  have s := stp_block (w := w) (o := .map esC' esC'.size) hk k2
  refine hr.setBlk hk k2 ⟨k1, k2, esC', ?_, hl, fun i k x e h1 h2 => ?_⟩
  · rw [setBlk_heap, if_pos ⟨rfl, (hr.lt id hk).2⟩]
  · obtain ⟨a, b, c⟩ := he i k x e h1 h2
    exact ⟨a, b.step s, c.step s⟩

theorem mapUpdate_sim {ty kt et : TypeId} {m k x : T → AV} {t : T} {g : G} {vm vk vx : Value} (hr : Rel C A bd w γ hg nx)
    (hu : C.P.underlying ty = some (.map kt et)) (hm : RV w γ A bd (m t) vm) (hk : RV w γ A bd (k t) vk) (hx : RV w γ A bd (x t) vx) (agree : ∀ id ∈ refIds (m t), hg id = g.h.get id) :
    UpdSim C A bd w γ hg nx (do Instr.mapUpdate ty vm vk vx; pure undef) g (mapUpdateF (keyKind C.P kt) m k x t g) := by
  unfold mapUpdateF
  generalize m t = m at *
  generalize k t = k at *
  generalize x t = x at *
  rw [bif'_eq]
  split
  · rename_i hko
    have hkv := key_rv hko hk
    obtain ⟨kd, hukt⟩ := key_und hkv
    cases hm with
    | hmap _ id b hkd hb =>
      have hagree := agree id (by simp [refIds])
      simp only [G.get_eq, ← hagree]
      cases hid : hg id with
      | map es =>
        dsimp only
        cases hs : setA k x es with
        | none => trivial
        | some es' =>
          dsimp only
          obtain ⟨k1, k2, esC, k3, k4, k5⟩ := map_es hr hid
          obtain ⟨q, q1, q2⟩ := setA_ix k x es es' 0 hs
          obtain ⟨R, r1, r2⟩ := findKey_sim hukt hkv hk q1 k4
          subst hb
          have hrun : ∀ esC', (match R with
              | some (i, _) => do
                let key ← Instr.keyThatStays (((esC[i]?).map (·.key)).getD vk) vk
                setObj (γ id).blk (.map (esC.modify i fun e => { e with key, val := vx }) esC.size)
              | none => setObj (γ id).blk (.map (esC.push { key := vk, val := vx, born := esC.size }) (esC.size + 1)) : Sem Unit).run C.P w = .ok () (World.setBlk w (γ id).blk (.map esC' esC'.size)) →
              (do Instr.mapUpdate ty (.map (some (γ id).blk)) vk vx; pure undef : Sem Value).run C.P w = .ok undef (World.setBlk w (γ id).blk (.map esC' esC'.size)) := by
            intro esC' h
            have : (Instr.mapUpdate ty (.map (some (γ id).blk)) vk vx).run C.P w = .ok () (World.setBlk w (γ id).blk (.map esC' esC'.size)) := by
              unfold Instr.mapUpdate
              simp only [Sem.run_bind, run_und hu, Result.andThen_ok, getObj_run k3 (by simp), checkKey_of hkv, r2]
              exact h
            simp [this]
          have hlen : es.length = esC.size := by simpa using k4.1
          cases q with
          | none =>
            simp only [Found] at r1; subst r1
            simp only at q2; subst q2
            have hnew := hr.setMap (es' := es ++ [(k, x)]) (esC' := esC.push { key := vk, val := vx, born := esC.size }) hid (by simp [hlen]) (fun i k' x' e h1 h2 => by
              rw [Array.getElem?_push] at h2
              rw [List.getElem?_append] at h1
              split at h2
              · rename_i hi; subst hi
                rw [if_neg (by omega), hlen, Nat.sub_self] at h1
                simp at h1 h2
                obtain ⟨rfl, rfl⟩ := h1
                subst h2
                exact ⟨rfl, hk, hx⟩
              · have hlt : i < esC.size := (Array.getElem?_eq_some_iff.1 h2).1
                rw [if_pos (by omega)] at h1
                exact ⟨k5 i e h2, k4.2 i k' x' e h1 (by simpa using h2)⟩)
            refine ⟨undef, _, γ, id, _, hrun _ ?_, undef_rv, hnew.2, .inl ⟨rfl, hnew.1⟩⟩
            simp only [Array.size_push]
            exact setObj_run k3 (by simp)
          | some p =>
            obtain ⟨n, y⟩ := p
            obtain ⟨j, k', e, f1, f2, f3, f4, f5⟩ := r1
            obtain ⟨j', j1, j2⟩ := q2
            have : j' = j := by omega
            subst this; subst f1; subst f5; subst j2
            have f3' : esC[j']? = some e := by simpa using f3
            have hsame := keyEq_same hkv f4 hk (k4.2 j' k' y e f2 f3).1
            have hnew := hr.setMap (es' := es.set j' (k, x)) (esC' := esC.modify (0 + j') fun e => { e with key := vk, val := vx }) hid (by simp [hlen]) (fun i k' x' e' h1 h2 => by
              rw [Nat.zero_add] at h2
              rw [List.getElem?_set] at h1
              rw [Array.getElem?_modify] at h2
              split at h1
              · rename_i hi; subst hi
                rw [if_pos rfl, f3'] at h2
                split at h1
                · simp at h1 h2
                  obtain ⟨rfl, rfl⟩ := h1
                  subst h2
                  exact ⟨k5 j' e f3', hk, hx⟩
                · cases h1
              · rename_i hi
                rw [if_neg hi] at h2
                exact ⟨k5 i e' h2, k4.2 i k' x' e' h1 (by simpa using h2)⟩)
            refine ⟨undef, _, γ, id, _, hrun _ ?_, undef_rv, hnew.2, .inl ⟨rfl, hnew.1⟩⟩
            obtain ⟨d, ds, _, _, hks, _⟩ := hkv
            simp only [Nat.zero_add, f3', Option.map_some, Option.getD_some, hsame, Sem.run_bind, keyThatStays_run hks, Result.andThen_ok, Array.size_modify]
            exact setObj_run k3 (by simp)
      | _ => trivial
    | _ => trivial
  · trivial

theorem mapEntry_sim {ty kt et : TypeId} {z : AV} {m k : T → AV} {t : T} {g : G} {vm vk : Value} (hr : Rel C A bd w γ hg nx)
    (hu : C.P.underlying ty = some (.map kt et)) (hz : zeroA C.P et = some z) (hm : RV w γ A bd (m t) vm) (hk : RV w γ A bd (k t) vk) (agree : ∀ id ∈ refIds (m t), hg id = g.h.get id) :
    UpdSim C A bd w γ hg nx (Instr.mapEntry ty vm vk) g (mapEntryF (keyKind C.P kt) z m k t g) := by
  unfold mapEntryF
  generalize m t = m at *
  generalize k t = k at *
  rw [bif'_eq]
  split
  · rename_i hko
    have hkv := key_rv hko hk
    obtain ⟨kd, hukt⟩ := key_und hkv
    obtain ⟨zv, z1, z2⟩ := zeroA_run (w := w) (γ := γ) (A := A) (bd := bd) hz
    have tup : ∀ {w : World} {γ : Gm} (x : AV) (u : Value) (n : Nat), RV w γ A bd x u → RV w γ A bd (.tup [x, .int .i64 (.ofNat n)]) (.tuple #[u, goInt (n : Int)]) := by
      intro w γ x u n hx
      refine .tup _ _ _ rfl fun i y v hy hv => ?_
      match i with
      | 0 => simp at hy hv; subst hy; subst hv; exact hx
      | 1 => simp at hy hv; subst hy; subst hv; exact .int _ _ _
      | i + 2 => simp at hy
    cases hm with
    | hmap _ id b hkd hb =>
      have hagree := agree id (by simp [refIds])
      simp only [G.get_eq, ← hagree]
      cases hid : hg id with
      | map es =>
        dsimp only
        cases q1 : findIxA k 0 es with
        | none => trivial
        | some q =>
          obtain ⟨k1, k2, esC, k3, k4, k5⟩ := map_es hr hid
          obtain ⟨R, r1, r2⟩ := findKey_sim hukt hkv hk q1 k4
          subst hb
          have hlen : es.length = esC.size := by simpa using k4.1
          cases q with
          | none =>
            simp only [Found] at r1; subst r1
            dsimp only
            have hnew := hr.setMap (es' := es ++ [(k, z)]) (esC' := esC.push { key := vk, val := zv, born := esC.size }) hid (by simp [hlen]) (fun i k' x' e h1 h2 => by
              rw [Array.getElem?_push] at h2
              rw [List.getElem?_append] at h1
              split at h2
              · rename_i hi; subst hi
                rw [if_neg (by omega), hlen, Nat.sub_self] at h1
                simp at h1 h2
                obtain ⟨rfl, rfl⟩ := h1
                subst h2
                exact ⟨rfl, hk, z2⟩
              · have hlt : i < esC.size := (Array.getElem?_eq_some_iff.1 h2).1
                rw [if_pos (by omega)] at h1
                exact ⟨k5 i e h2, k4.2 i k' x' e h1 (by simpa using h2)⟩)
            refine ⟨.tuple #[zv, goInt esC.size], _, γ, id, _, ?_, ?_, hnew.2, .inl ⟨rfl, hnew.1⟩⟩
            · unfold Instr.mapEntry
              simp only [Sem.run_bind, run_und hu, Result.andThen_ok, getObj_run k3 (by simp), checkKey_of hkv, r2, z1]
              have : (setObj (γ id).blk (.map (esC.push { key := vk, val := zv, born := esC.size }) (esC.size + 1))).run C.P w = .ok () (World.setBlk w (γ id).blk (.map (esC.push { key := vk, val := zv, born := esC.size }) (esC.size + 1))) := setObj_run k3 (by simp)
              simp [this]
            · rw [lenR_eq, hlen]; exact tup _ _ _ (z2.step hnew.2)
          | some p =>
            obtain ⟨n, y⟩ := p
            obtain ⟨j, k', e, f1, f2, f3, f4, f5⟩ := r1
            subst f1; subst f5
            dsimp only
            have f3' : esC[j]? = some e := by simpa using f3
            have hsame := keyEq_same hkv f4 hk (k4.2 j k' y e f2 f3).1
            have hmod : (esC.modify j fun e => { e with key := vk }) = esC := by
              apply Array.ext_getElem?
              intro i
              rw [Array.getElem?_modify]
              split
              · rename_i hi; subst hi; rw [f3', ← hsame]; rfl
              · rfl
            have hkv2 := hkv
            obtain ⟨d, ds, _, _, hks, _⟩ := hkv2
            refine ⟨.tuple #[e.val, goInt j], ?_, ?_⟩
            · unfold Instr.mapEntry
              simp only [Sem.run_bind, run_und hu, Result.andThen_ok, getObj_run k3 (by simp), checkKey_of hkv, r2, Nat.zero_add, f3', Option.map_some, Option.getD_some, hsame, keyThatStays_run hks, hmod, k5 j e f3']
              have hset : (setObj (γ id).blk (.map esC esC.size)).run C.P w = .ok () w := by
                rw [setObj_run k3 (by simp)]
                congr 1
                have hlt : (γ id).blk < w.heap.size := (Array.getElem?_eq_some_iff.1 k3).1
                unfold World.setBlk
                congr 1
                apply Array.ext_getElem?
                intro q
                rw [Array.getElem?_setIfInBounds]
                split
                · rename_i hq; subst hq; rw [k3]
                · rfl
              simp [hset]
            · rw [Nat.zero_add]; exact tup _ _ _ (k4.2 j k' y e f2 f3).2
      | _ => trivial
    | _ => trivial
  · trivial

theorem entryStore_sim {ty : TypeId} {m st x : T → AV} {t : T} {g : G} {vm vs vx : Value} (hr : Rel C A bd w γ hg nx)
    (hm : RV w γ A bd (m t) vm) (hs : RV w γ A bd (st t) vs) (hx : RV w γ A bd (x t) vx) (agree : ∀ id ∈ refIds (m t), hg id = g.h.get id) :
    UpdSim C A bd w γ hg nx (do Instr.entryStore ty vm vs vx; pure undef) g (entryStoreF m st x t g) := by
  unfold entryStoreF
  generalize m t = m at *
  generalize st t = st at *
  generalize x t = x at *
  cases hm with
  | hmap _ id b hkd hb =>
    have hagree := agree id (by simp [refIds])
    simp only [G.get_eq, ← hagree]
    cases hid : hg id with
    | map es =>
      dsimp only
      cases hs with
      | int _ kk n =>
        cases n with
        | negSucc n => trivial
        | ofNat i =>
          simp only [nthR_eq]
          cases hi : es[i]? with
          | none => trivial
          | some p =>
            obtain ⟨k, y⟩ := p
            dsimp only
            obtain ⟨k1, k2, esC, k3, k4, k5⟩ := map_es hr hid
            subst hb
            have hlen : es.length = esC.size := by simpa using k4.1
            have hlt : i < esC.size := by rw [← hlen]; exact (List.getElem?_eq_some_iff.1 hi).1
            have hfind : esC.findIdx? (fun e => (e.born : Int) == (Int.ofNat i)) = some i := by
              rw [Array.findIdx?_eq_some_iff_getElem]
              refine ⟨hlt, ?_, fun j hj => ?_⟩
              · rw [k5 i esC[i] (Array.getElem?_eq_getElem hlt)]; simp
              · have hj' : j < esC.size := by omega
                rw [k5 j esC[j] (Array.getElem?_eq_getElem hj')]
                simp; omega
            have hnew := hr.setMap (es' := setR i (k, x) es) (esC' := esC.modify i fun e => { e with val := vx }) hid (by simp [setR_eq, hlen]) (fun i' k' x' e' h1 h2 => by
              rw [setR_eq, List.getElem?_set] at h1
              rw [Array.getElem?_modify] at h2
              split at h1
              · rename_i hi'; subst hi'
                rw [if_pos rfl, Array.getElem?_eq_getElem hlt] at h2
                split at h1
                · simp at h1 h2
                  obtain ⟨rfl, rfl⟩ := h1
                  subst h2
                  exact ⟨k5 i esC[i] (Array.getElem?_eq_getElem hlt), (k4.2 i k y esC[i] hi (by simp [hlt])).1, hx⟩
                · cases h1
              · rename_i hi'
                rw [if_neg hi'] at h2
                exact ⟨k5 i' e' h2, k4.2 i' k' x' e' h1 (by simpa using h2)⟩)
            refine ⟨undef, _, γ, id, _, ?_, undef_rv, hnew.2, .inl ⟨rfl, hnew.1⟩⟩
            have hset := setObj_run (P := C.P) (o' := .map (esC.modify i fun e => { e with val := vx }) esC.size) k3 (by simp)
            have : (Instr.entryStore ty (.map (some (γ id).blk)) (.int kk (Int.ofNat i)) vx).run C.P w = .ok () (World.setBlk w (γ id).blk (.map (esC.modify i fun e => { e with val := vx }) esC.size)) := by
              unfold Instr.entryStore
              simp only [Sem.run_bind, Result.andThen_ok, getObj_run k3 (by simp), asInt, asIntOf, Sem.run_pure, hfind, hset]
            simp only [Array.size_modify, Sem.run_bind, this, Result.andThen_ok, Sem.run_pure]
      | _ => trivial
    | _ => trivial
  | _ => trivial

end
end Hx
