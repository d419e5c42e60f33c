/- How the relation between the states is kept when an object is set or made. -/
import Derived.Test.YtkbieohddgjioaaHxMem
set_option linter.unusedVariables false
set_option linter.unusedSimpArgs false
set_option linter.unnecessarySimpa false
namespace Hx
open Go

def upd {α : Type} (f : Nat → α) (i : Nat) (x : α) : Nat → α := fun k => if k = i then x else f k
@[simp] theorem upd_same {α : Type} (f : Nat → α) (i : Nat) (x : α) : upd f i x i = x := by simp [upd]
theorem upd_ne {α : Type} (f : Nat → α) {i k : Nat} (x : α) (h : k ≠ i) : upd f i x k = f k := by simp [upd, h]

section
variable {C : Cfg} {A : Nat → Nat → Prop} {bd : Nat} {w w' : World} {γ γ' : Gm} {hg : Nat → AObj} {nx nx' : Nat}

theorem ObjRel.step {j : Nat} {o : AObj} (h : ObjRel w γ A bd j o) (s : Stp w γ w' γ') (hj : γ' j = γ j)
    (hb : (γ j).kind ≠ 0 → o ≠ .none → w'.heap[(γ j).blk]? = w.heap[(γ j).blk]?) : ObjRel w' γ' A bd j o := by
  cases o with
  | none => simpa only [ObjRel, hj] using h
  | cells sz rows ep loose fz =>
    obtain ⟨h1, h2, h3, h4, h5, h6, c, e, h7, h8, h9, h10⟩ := h
    simp only [ObjRel, hj]
    refine ⟨h1, h2, h3, h4, h5, h6, c, e, ?_, h8, h9, fun i j' row x hr hx => ?_⟩
    · rw [hb (by rw [h1]; decide) (by simp)]; exact h7
    · obtain ⟨a, v, b1, b2⟩ := h10 i j' row x hr hx
      exact ⟨a, v, b1, b2.step s⟩
  | map es =>
    obtain ⟨h1, h2, esC, h3, h4, h5⟩ := h
    simp only [ObjRel, hj]
    refine ⟨h1, h2, esC, by rw [hb (by rw [h1]; decide) (by simp)]; exact h3, h4, fun i k x e a b => ?_⟩
    obtain ⟨c1, c2, c3⟩ := h5 i k x e a b
    exact ⟨c1, c2.step s, c3.step s⟩
  | loop nt t ps assign body dfr st pend =>
    obtain ⟨h1, h2, L, h3, h4, h5, h6, h7, h8, h9, h10, h11, h12⟩ := h
    simp only [ObjRel, hj]
    have hd : (γ dfr).kind ≠ 0 := by rw [h11]; decide
    refine ⟨h1, h2, L, by rw [hb (by rw [h1]; decide) (by simp)]; exact h3, h4, h5, h6, h7, h8, h9, fun i => (h10 i).step s, by rw [s.kind_eq hd, h11], ?_⟩
    rw [h12, s.blk_eq hd (by rw [h11]; decide)]
  | dfr live =>
    obtain ⟨h1, h2, h3⟩ := h
    simp only [ObjRel, hj]
    exact ⟨h1, h2, by rw [hb (by rw [h1]; decide) (by simp)]; exact h3⟩

/-- One object set anew, or made. -/
theorem Rel.set (h : Rel C A bd w γ hg nx) {id : Nat} {gh : Gh} {o : AObj} (hγ : γ' = upd γ id gh) (s : Stp w γ w' γ') (hn : nx ≤ nx')
    (ho : ObjRel w' γ' A bd id o) (hlt : id < nx' ∧ gh.blk < w'.heap.size) (hinj : ∀ j, j ≠ id → (γ j).kind ≠ 0 → (γ j).blk ≠ gh.blk)
    (hav : ∀ t, ¬ A t gh.blk)
    (hoth : ∀ j, j ≠ id → (γ j).kind ≠ 0 → hg j ≠ .none → w'.heap[(γ j).blk]? = w.heap[(γ j).blk]?) :
    Rel C A bd w' γ' (upd hg id o) nx' := by
  subst hγ
  constructor
  · intro j
    by_cases hj : j = id
    · subst hj; simpa using ho
    · rw [upd_ne _ _ hj]
      exact (h.obj j).step s (upd_ne _ _ hj) (hoth j hj)
  · intro j hk
    by_cases hj : j = id
    · subst hj; simpa using hlt
    · rw [upd_ne _ _ hj] at hk ⊢
      exact ⟨Nat.lt_of_lt_of_le (h.lt j hk).1 hn, Nat.lt_of_lt_of_le (h.lt j hk).2 s.sz⟩
  · intro i j hi hj e
    by_cases h1 : i = id <;> by_cases h2 : j = id
    · rw [h1, h2]
    · subst h1; rw [upd_ne _ _ h2] at hj e; simp only [upd_same] at e; exact absurd e.symm (hinj j h2 hj)
    · subst h2; rw [upd_ne _ _ h1] at hi e; simp only [upd_same] at e; exact absurd e (hinj i h1 hi)
    · rw [upd_ne _ _ h1] at hi e; rw [upd_ne _ _ h2] at hj e; exact h.inj i j hi hj e
  · intro j hk
    by_cases hj : j = id
    · subst hj; simpa using hav
    · rw [upd_ne _ _ hj] at hk ⊢; exact h.av j hk
  · intro t b hb
    exact Nat.lt_of_lt_of_le (h.ab t b hb) s.sz
  · intro g sz rows hg'
    exact (h.glob g sz rows hg').step s

theorem Rel.up (h : Rel C A bd w γ hg nx) (hn : nx ≤ nx') : Rel C A bd w γ hg nx' :=
  ⟨h.obj, fun id hk => ⟨Nat.lt_of_lt_of_le (h.lt id hk).1 hn, (h.lt id hk).2⟩, h.inj, h.av, h.ab, h.glob⟩

theorem Rel.congr {hg' : Nat → AObj} (h : Rel C A bd w γ hg nx) (e : ∀ k, hg' k = hg k) : Rel C A bd w γ hg' nx := by
  have : hg' = hg := funext e
  rw [this]; exact h

/-- A step that only lays another object into one writable block. -/
theorem stp_block {id : Nat} {o : Obj} (hk : (γ id).kind ≠ 0) (hw : (γ id).wr = true) : Stp w γ (World.setBlk w (γ id).blk o) γ where
  sz := by simp
  os := rfl
  tape := rfl
  output := rfl
  fr b hb hm := by
    rw [setBlk_heap, if_neg]
    rintro ⟨h, _⟩; exact hm ⟨id, hk, hw, h.symm⟩
  mt b _ h := h
  kind _ _ := .inl ⟨rfl, rfl⟩
  ep _ _ := ⟨Nat.le_refl _, fun _ => ⟨rfl, rfl, rfl, rfl, rfl⟩⟩

/-- An object set anew in its own block. -/
theorem Rel.setBlk (h : Rel C A bd w γ hg nx) {id : Nat} {o : Obj} {ao : AObj} (hk : (γ id).kind ≠ 0) (hw : (γ id).wr = true)
    (ho : ObjRel (World.setBlk w (γ id).blk o) γ A bd id ao) :
    Rel C A bd (World.setBlk w (γ id).blk o) γ (upd hg id ao) nx ∧ Stp w γ (World.setBlk w (γ id).blk o) γ := by
  have s := stp_block (w := w) (o := o) hk hw
  refine ⟨?_, s⟩
  have e : γ = upd γ id (γ id) := by funext k; unfold upd; split <;> simp_all
  refine h.set (gh := γ id) e s (Nat.le_refl _) ho ?_ ?_ ?_ ?_
  · have := h.lt id hk; exact ⟨this.1, by simpa using this.2⟩
  · intro j hj hkj eb; exact hj (h.inj j id hkj hk eb)
  · exact h.av id hk
  · intro j hj hkj _
    rw [setBlk_heap, if_neg]
    rintro ⟨eb, _⟩; exact hj (h.inj j id hkj hk eb)

/-- A world with one block more. -/
def World.add (w : World) (o : Obj) : World := { w with heap := w.heap.push o }
@[simp] theorem add_size (o : Obj) : (World.add w o).heap.size = w.heap.size + 1 := by simp [World.add]
theorem add_heap (o : Obj) (b : Nat) : (World.add w o).heap[b]? = if b = w.heap.size then some o else w.heap[b]? := by
  simp only [World.add, Array.getElem?_push]

theorem stp_add {id : Nat} {gh : Gh} {o : Obj} (hid : (γ id).kind = 0) (hb : gh.blk = w.heap.size) : Stp w γ (World.add w o) (upd γ id gh) where
  sz := by simp
  os := rfl
  tape := rfl
  output := rfl
  fr b hb' _ := by rw [add_heap, if_neg (by omega)]
  mt b hb' := by
    rintro ⟨j, h1, h2, h3⟩
    by_cases hj : j = id
    · subst hj; simp only [upd_same] at h3; omega
    · rw [upd_ne _ _ hj] at h1 h2 h3; exact ⟨j, h1, h2, h3⟩
  kind j hj := by
    have : j ≠ id := by rintro rfl; exact hj hid
    rw [upd_ne _ _ this]; exact .inl ⟨rfl, rfl⟩
  ep j hj := by
    have : j ≠ id := by rintro rfl; rw [hid] at hj; cases hj
    rw [upd_ne _ _ this]; exact ⟨Nat.le_refl _, fun _ => ⟨rfl, rfl, rfl, rfl, rfl⟩⟩

/-- An object made in a new block. -/
theorem Rel.add (h : Rel C A bd w γ hg nx) {id : Nat} {gh : Gh} {o : Obj} {ao : AObj} (hid : (γ id).kind = 0) (hb : gh.blk = w.heap.size)
    (hn : nx ≤ nx') (hi : id < nx') (ho : ObjRel (World.add w o) (upd γ id gh) A bd id ao) :
    Rel C A bd (World.add w o) (upd γ id gh) (upd hg id ao) nx' ∧ Stp w γ (World.add w o) (upd γ id gh) := by
  have s := stp_add (w := w) (o := o) hid hb
  refine ⟨h.set (gh := gh) rfl s hn ho ⟨hi, by simp [hb]⟩ ?_ ?_ ?_, s⟩
  · intro j _ hkj e; have := (h.lt j hkj).2; omega
  · intro t ht; have := h.ab t _ ht; omega
  · intro j _ hkj _; have := (h.lt j hkj).2; rw [add_heap, if_neg (by omega)]

end

/-! Cells -/
section
variable {C : Cfg} {A : Nat → Nat → Prop} {bd : Nat} {w : World} {γ : Gm} {hg : Nat → AObj} {nx nx' : Nat}

/-- Rows of cells made new. -/
theorem Rel.newCells (h : Rel C A bd w γ hg nx) {id sz slack : Nat} {rows : List (List AV)} {loose : Bool} {c : Array Value} (e : TypeId)
    (hid : (γ id).kind = 0) (hn : nx ≤ nx') (hi : id < nx') (hs : (loose = false → slack = 0) ∧ (loose = true → rows.length + slack ≤ 9223372036854775807)) (hc : (rows.length + slack) * sz ≤ c.size)
    (hr : ∀ (i : Nat) row, rows[i]? = some row → row.length = sz)
    (hv : ∀ (i j : Nat) row x, rows[i]? = some row → row[j]? = some x → x.one = true ∧ ∃ v, c[i * sz + j]? = some v ∧ RV w γ A bd x v) :
    ∃ γ', Rel C A bd (World.add w (.cells c e (0, 0))) γ' (upd hg id (.cells sz rows 0 loose false)) nx' ∧ Stp w γ (World.add w (.cells c e (0, 0))) γ' ∧
      (γ' id).kind = 1 ∧ (γ' id).ep = 0 ∧ (γ' id).sz = sz ∧ (γ' id).n = rows.length ∧ (γ' id).blk = w.heap.size ∧ (γ' id).base = 0 ∧ (γ' id).slack = slack := by
  let gh : Gh := ⟨1, 0, sz, rows.length, w.heap.size, 0, slack, true⟩
  have s := stp_add (w := w) (o := .cells c e (0, 0)) (gh := gh) hid rfl
  obtain ⟨r, s'⟩ := h.add (id := id) (gh := gh) (o := .cells c e (0, 0)) (ao := .cells sz rows 0 loose false) hid rfl hn hi (by
    simp only [ObjRel, upd_same]
    refine ⟨rfl, rfl, rfl, rfl, hs, rfl, c, e, by rw [add_heap]; simp [gh], by simpa [gh] using hc, hr, fun i j row x h1 h2 => ?_⟩
    obtain ⟨a, v, b1, b2⟩ := hv i j row x h1 h2
    exact ⟨a, v, by simpa [gh] using b1, b2.step s⟩)
  exact ⟨_, r, s', by simp [gh], by simp [gh], by simp [gh], by simp [gh], by simp [gh], by simp [gh], by simp [gh]⟩

/-- Cells stored into an object. o: the place in its block; new rows as the stored cells say. -/
theorem Rel.storeCells (h : Rel C A bd w γ hg nx) {id sz ep : Nat} {rows rows' : List (List AV)} {loose : Bool}
    (hid : hg id = .cells sz rows ep loose false) {o : Nat} {vs : List Value} {xs : List AV}
    (hvs : RVs w γ A bd xs vs) (h1 : ∀ (i : Nat) y, xs[i]? = some y → y.one = true)
    (hlen : rows'.length = rows.length) (hr' : ∀ (i : Nat) row, rows'[i]? = some row → row.length = sz)
    (hin : (γ id).base ≤ o ∧ o + vs.length ≤ (γ id).base + rows.length * sz)
    (hcells : ∀ (i j : Nat) row x, rows'[i]? = some row → row[j]? = some x →
      (if o ≤ (γ id).base + i * sz + j ∧ (γ id).base + i * sz + j < o + vs.length then xs[(γ id).base + i * sz + j - o]? = some x
       else ∃ row0, rows[i]? = some row0 ∧ row0[j]? = some x)) (P : Program) :
    ∃ w', (Go.storeCells (adr (γ id).blk o) vs).run P w = .ok () w' ∧
      Rel C A bd w' γ (upd hg id (.cells sz rows' ep loose false)) nx ∧ Stp w γ w' γ := by
  have hob := h.obj id
  rw [hid] at hob
  obtain ⟨k1, k2, k3, k4, k5, k6, c, e, k7, k8, k9, k10⟩ := hob
  have hsz : o + vs.length ≤ c.size := by
    have : rows.length * sz ≤ (rows.length + (γ id).slack) * sz := Nat.mul_le_mul_right _ (by omega)
    omega
  have hrun := storeCells_run (P := P) vs 0 w c k7 (by simpa using hsz) (rvs_one hvs h1)
  simp only [Nat.add_zero] at hrun
  have hk : (γ id).kind ≠ 0 := by rw [k1]; decide
  have hw : (γ id).wr = true := by simpa using k6
  have s := stp_block (w := w) (o := .cells (setCells c o vs) e (0, 0)) hk hw
  obtain ⟨r, s'⟩ := h.setBlk (id := id) (o := .cells (setCells c o vs) e (0, 0)) (ao := .cells sz rows' ep loose false) hk hw (by
    refine ⟨k1, k2, k3, by rw [k4, hlen], by rw [hlen]; exact k5, by simpa using hw, setCells c o vs, e, ?_, by rw [setCells_size, hlen]; exact k8, hr', fun i j row x a b => ?_⟩
    · rw [setBlk_heap]; simp [(h.lt id hk).2]
    · have hc := hcells i j row x a b
      rw [setCells_get _ _ _ _ hsz]
      split at hc
      · rename_i hcond
        rw [if_pos hcond]
        have hlt : (γ id).base + i * sz + j - o < vs.length := by omega
        refine ⟨h1 _ _ hc, vs[(γ id).base + i * sz + j - o], List.getElem?_eq_getElem hlt, ?_⟩
        exact (hvs.2 _ _ _ hc (List.getElem?_eq_getElem hlt)).step s
      · rename_i hcond
        rw [if_neg hcond]
        obtain ⟨row0, c1, c2⟩ := hc
        obtain ⟨d1, v, d2, d3⟩ := k10 i j row0 x c1 c2
        exact ⟨d1, v, d2, d3.step s⟩)
  exact ⟨_, hrun, r, s'⟩
end
end Hx
