/- What ties the abstract interpreter's state to the model's: values, objects, and what a step may turn. -/
import Derived.Test.YtkbieohddgjioaaHxPrim
import Derived.RangeFuncIn
import Derived.Laws.Sem
set_option linter.unusedVariables false
set_option linter.unusedSimpArgs false
set_option linter.unnecessarySimpa false
namespace Hx
open Go

/-- Where an abstract object lies. kind: 0 nothing, 1 cells, 2 a map, 3 a loop's record, 4 a block for deferred calls. -/
structure Gh where
  kind : Nat
  ep : Nat
  sz : Nat
  n : Nat
  blk : Nat
  base : Nat
  slack : Nat
  wr : Bool

abbrev Gm := Nat → Gh

/-- The blocks that may be written. -/
def Mut (γ : Gm) (b : Nat) : Prop := ∃ id, (γ id).kind ≠ 0 ∧ (γ id).wr = true ∧ (γ id).blk = b

def adr (b o : Nat) : Addr := ⟨b, o, none⟩

def CapOk (lim : Option Nat) (off cap : Nat) (g : Gh) : Prop :=
  match lim with
  | some c => cap = c ∧ off + c ≤ g.n
  | none => off + cap = g.n + g.slack

/-- A value that leads to no object of a heap. -/
inductive Closed : AV → Prop
  | bool (b : Bool) : Closed (.bool b)
  | int (k : IntKind) (n : Int) : Closed (.int k n)
  | str (s : ByteArray) : Closed (.str s)
  | tup (xs : List AV) (h : ∀ x ∈ xs, Closed x) : Closed (.tup xs)
  | agg (xs : List AV) (h : ∀ x ∈ xs, Closed x) : Closed (.agg xs)
  | nilp : Closed .nilp
  | nils : Closed .nils
  | nilf : Closed .nilf
  | nilm : Closed .nilm
  | nili : Closed .nili
  | esl : Closed .esl
  | tsl (tag sz : Nat) (rows : List (List AV)) (h : ∀ row ∈ rows, ∀ x ∈ row, Closed x) : Closed (.tsl tag sz rows)
  | tptr (tag sz : Nat) (rows : List (List AV)) (i off : Nat) (h : ∀ row ∈ rows, ∀ x ∈ row, Closed x) : Closed (.tptr tag sz rows i off)
  | clo (f : Nat) (xs ys : List AV) (h : ∀ x ∈ xs, Closed x) (h2 : ∀ x ∈ ys, Closed x) : Closed (.clo f xs ys)
  | ifc (t : Nat) (x : AV) (h : Closed x) : Closed (.ifc t x)

/-- An abstract value and the model's. bd: the greatest tag. -/
inductive RV (w : World) (γ : Gm) (A : Nat → Nat → Prop) : Nat → AV → Value → Prop
  | bool (bd : Nat) (b : Bool) : RV w γ A bd (.bool b) (.bool b)
  | int (bd : Nat) (k : IntKind) (n : Int) : RV w γ A bd (.int k n) (.int k n)
  | str (bd : Nat) (s : ByteArray) : RV w γ A bd (.str s) (.string s)
  | tup (bd : Nat) (xs : List AV) (vs : Array Value) (hl : xs.length = vs.size)
      (h : ∀ (i : Nat) x v, xs[i]? = some x → vs[i]? = some v → RV w γ A bd x v) : RV w γ A bd (.tup xs) (.tuple vs)
  | agg (bd : Nat) (xs : List AV) (vs : Array Value) (hl : xs.length = vs.size) (h1 : ∀ (i : Nat) x, xs[i]? = some x → x.one = true)
      (h : ∀ (i : Nat) x v, xs[i]? = some x → vs[i]? = some v → RV w γ A bd x v) : RV w γ A bd (.agg xs) (.agg vs)
  | nilp (bd : Nat) : RV w γ A bd .nilp (.pointer none)
  | nils (bd : Nat) : RV w γ A bd .nils (.slice none 0 0)
  | nilf (bd : Nat) : RV w γ A bd .nilf .nilFunc
  | nilm (bd : Nat) : RV w γ A bd .nilm (.map none)
  | nili (bd : Nat) : RV w γ A bd .nili .nilIface
  | esl (bd : Nat) (a : Addr) : RV w γ A bd .esl (.slice (some a) 0 0)
  | tsl (bd tag sz : Nat) (rows : List (List AV)) (b o cap : Nat) (cell : Nat → Nat → Value) (ht : tag ≤ bd) (hc : rows.length ≤ cap)
      (hb : b < w.heap.size) (hm : ¬ Mut γ b) (ha : ¬ A tag b)
      (hr : ∀ (i : Nat) row, rows[i]? = some row → row.length = sz)
      (ho : ∀ (i j : Nat) row x, rows[i]? = some row → row[j]? = some x → x.one = true)
      (hw : ∀ (i j : Nat) row x, rows[i]? = some row → row[j]? = some x → w.cell? (adr b (o + i * sz + j)) = some (cell i j))
      (h : ∀ (i j : Nat) row x, rows[i]? = some row → row[j]? = some x → RV w γ A tag x (cell i j))
      (hcl : ∀ row ∈ rows, ∀ x ∈ row, Closed x) :
      RV w γ A bd (.tsl tag sz rows) (.slice (some (adr b o)) rows.length cap)
  | tnil (bd tag sz : Nat) (a : Addr) (cap : Nat) (ht : tag ≤ bd) : RV w γ A bd (.tsl tag sz []) (.slice (some a) 0 cap)
  | tptr (bd tag sz : Nat) (rows : List (List AV)) (i0 off0 b o : Nat) (cell : Nat → Nat → Value) (ht : tag ≤ bd)
      (hb : b < w.heap.size) (hm : ¬ Mut γ b) (ha : ¬ A tag b)
      (hr : ∀ (i : Nat) row, rows[i]? = some row → row.length = sz)
      (ho : ∀ (i j : Nat) row x, rows[i]? = some row → row[j]? = some x → x.one = true)
      (hw : ∀ (i j : Nat) row x, rows[i]? = some row → row[j]? = some x → w.cell? (adr b (o + i * sz + j)) = some (cell i j))
      (h : ∀ (i j : Nat) row x, rows[i]? = some row → row[j]? = some x → RV w γ A tag x (cell i j))
      (hcl : ∀ row ∈ rows, ∀ x ∈ row, Closed x) :
      RV w γ A bd (.tptr tag sz rows i0 off0) (.pointer (some (adr b (o + i0 * sz + off0))))
  | hsl (bd id ep off len : Nat) (lim : Option Nat) (b o cap : Nat) (hk : (γ id).kind = 1) (he : ep ≤ (γ id).ep) (hc : len ≤ cap)
      (h : ep = (γ id).ep → b = (γ id).blk ∧ o = (γ id).base + off * (γ id).sz ∧ CapOk lim off cap (γ id)) :
      RV w γ A bd (.hsl id ep off len lim) (.slice (some (adr b o)) len cap)
  | hptr (bd id ep i off : Nat) (b o : Nat) (hk : (γ id).kind = 1) (he : ep ≤ (γ id).ep)
      (h : ep = (γ id).ep → b = (γ id).blk ∧ o = (γ id).base + i * (γ id).sz + off) :
      RV w γ A bd (.hptr id ep i off) (.pointer (some (adr b o)))
  | clo (bd f : Nat) (xs ys : List AV) (vs us : Array Value) (hl : xs.length = vs.size) (hl2 : ys.length = us.size)
      (h : ∀ (i : Nat) x v, xs[i]? = some x → vs[i]? = some v → RV w γ A bd x v)
      (h2 : ∀ (i : Nat) x v, ys[i]? = some x → us[i]? = some v → RV w γ A bd x v) : RV w γ A bd (.clo f xs ys) (.func (.func f) vs us)
  | hmap (bd id b : Nat) (hk : (γ id).kind = 2) (hb : b = (γ id).blk) : RV w γ A bd (.hmap id) (.map (some b))
  | ifc (bd t : Nat) (x : AV) (v : Value) (h : RV w γ A bd x v) : RV w γ A bd (.ifc t x) (.iface t v)
  | yld (bd id b : Nat) (hk : (γ id).kind = 3) (hb : b = (γ id).blk) : RV w γ A bd (.yld id) (.func (.yield b) #[] #[])

/-- Lists of values. -/
def RVs (w : World) (γ : Gm) (A : Nat → Nat → Prop) (bd : Nat) (xs : List AV) (vs : List Value) : Prop :=
  xs.length = vs.length ∧ ∀ (i : Nat) x v, xs[i]? = some x → vs[i]? = some v → RV w γ A bd x v

/-- A greater bound serves too. -/
theorem RV.mono {w : World} {γ : Gm} {A : Nat → Nat → Prop} {bd bd' : Nat} {x : AV} {v : Value} (h : RV w γ A bd x v) (hb : bd ≤ bd') :
    RV w γ A bd' x v := by
  induction h generalizing bd' with
  | bool => exact .bool _ _
  | int => exact .int _ _ _
  | str => exact .str _ _
  | tup _ xs vs hl _ ih => exact .tup _ _ _ hl fun i x v h1 h2 => ih i x v h1 h2 hb
  | agg _ xs vs hl h1 _ ih => exact .agg _ _ _ hl h1 fun i x v h1 h2 => ih i x v h1 h2 hb
  | nilp => exact .nilp _
  | nils => exact .nils _
  | nilf => exact .nilf _
  | nilm => exact .nilm _
  | nili => exact .nili _
  | esl => exact .esl _ _
  | tsl _ tag sz rows b o cap cell ht hc hb' hm ha hr ho hw h hcl _ => exact .tsl _ tag sz rows b o cap cell (Nat.le_trans ht hb) hc hb' hm ha hr ho hw h hcl
  | tnil _ tag sz a cap ht => exact .tnil _ tag sz a cap (Nat.le_trans ht hb)
  | tptr _ tag sz rows i0 off0 b o cell ht hb' hm ha hr ho hw h hcl _ => exact .tptr _ tag sz rows i0 off0 b o cell (Nat.le_trans ht hb) hb' hm ha hr ho hw h hcl
  | hsl _ id ep off len lim b o cap hk he hc h => exact .hsl _ id ep off len lim b o cap hk he hc h
  | hptr _ id ep i off b o hk he h => exact .hptr _ id ep i off b o hk he h
  | clo _ f xs ys vs us hl hl2 _ _ ih ih2 => exact .clo _ f xs ys vs us hl hl2 (fun i x v h1 h2 => ih i x v h1 h2 hb) (fun i x v h1 h2 => ih2 i x v h1 h2 hb)
  | hmap _ id b hk hb' => exact .hmap _ id b hk hb'
  | ifc _ t x v _ ih => exact .ifc _ t x v (ih hb)
  | yld _ id b hk hb' => exact .yld _ id b hk hb'

/-- What may have turned from one state to a later one. -/
structure Stp (w : World) (γ : Gm) (w' : World) (γ' : Gm) : Prop where
  sz : w.heap.size ≤ w'.heap.size
  os : w'.os = w.os
  tape : w'.tape = w.tape
  output : w'.output = w.output
  fr : ∀ b, b < w.heap.size → ¬ Mut γ b → w'.heap[b]? = w.heap[b]?
  mt : ∀ b, b < w.heap.size → Mut γ' b → Mut γ b
  kind : ∀ id, (γ id).kind ≠ 0 → (γ' id).kind = (γ id).kind ∧ (γ' id).blk = (γ id).blk ∨ (γ id).kind = 1 ∧ (γ' id).kind = 1 ∧ (γ id).ep < (γ' id).ep
  ep : ∀ id, (γ id).kind = 1 → (γ id).ep ≤ (γ' id).ep ∧
    ((γ' id).ep = (γ id).ep → (γ' id).sz = (γ id).sz ∧ (γ' id).n = (γ id).n ∧ (γ' id).blk = (γ id).blk ∧ (γ' id).base = (γ id).base ∧ (γ' id).slack = (γ id).slack)

theorem Stp.refl (w : World) (γ : Gm) : Stp w γ w γ :=
  ⟨Nat.le_refl _, rfl, rfl, rfl, fun _ _ _ => rfl, fun _ _ h => h, fun _ _ => .inl ⟨rfl, rfl⟩, fun _ _ => ⟨Nat.le_refl _, fun _ => ⟨rfl, rfl, rfl, rfl, rfl⟩⟩⟩

theorem Stp.kind_eq {w w' : World} {γ γ' : Gm} (h : Stp w γ w' γ') {id : Nat} (hk : (γ id).kind ≠ 0) : (γ' id).kind = (γ id).kind := by
  rcases h.kind id hk with h1 | h1
  · exact h1.1
  · rw [h1.1, h1.2.1]
theorem Stp.blk_eq {w w' : World} {γ γ' : Gm} (h : Stp w γ w' γ') {id : Nat} (hk : (γ id).kind ≠ 0) (h1 : (γ id).kind ≠ 1) : (γ' id).blk = (γ id).blk := by
  rcases h.kind id hk with h2 | h2
  · exact h2.2
  · exact absurd h2.1 h1

theorem Stp.trans {w w' w'' : World} {γ γ' γ'' : Gm} (h : Stp w γ w' γ') (h' : Stp w' γ' w'' γ'') : Stp w γ w'' γ'' where
  sz := Nat.le_trans h.sz h'.sz
  os := h'.os.trans h.os
  tape := h'.tape.trans h.tape
  output := h'.output.trans h.output
  fr b hb hm := by
    rw [h'.fr b (Nat.lt_of_lt_of_le hb h.sz) (fun k => hm (h.mt b hb k)), h.fr b hb hm]
  mt b hb k := h.mt b hb (h'.mt b (Nat.lt_of_lt_of_le hb h.sz) k)
  kind id hk := by
    have h1 := h.kind_eq hk
    have hk' : (γ' id).kind ≠ 0 := by rw [h1]; exact hk
    rcases h.kind id hk with a | a
    · rcases h'.kind id hk' with c | c
      · exact .inl ⟨c.1.trans a.1, c.2.trans a.2⟩
      · refine .inr ⟨by rw [← a.1]; exact c.1, c.2.1, Nat.lt_of_le_of_lt (h.ep id (by rw [← a.1]; exact c.1)).1 c.2.2⟩
    · exact .inr ⟨a.1, by rw [h'.kind_eq hk', a.2.1], Nat.lt_of_lt_of_le a.2.2 (h'.ep id a.2.1).1⟩
  ep id hk := by
    have h1 := h.ep id hk
    have hk' : (γ' id).kind = 1 := by rw [h.kind_eq (by rw [hk]; decide), hk]
    have h2 := h'.ep id hk'
    refine ⟨Nat.le_trans h1.1 h2.1, fun he => ?_⟩
    have e1 : (γ' id).ep = (γ id).ep := Nat.le_antisymm (by rw [← he]; exact h2.1) h1.1
    have e2 : (γ'' id).ep = (γ' id).ep := by rw [he, e1]
    obtain ⟨a1, a2, a3, a4, a5⟩ := h1.2 e1
    obtain ⟨b1, b2, b3, b4, b5⟩ := h2.2 e2
    exact ⟨b1.trans a1, b2.trans a2, b3.trans a3, b4.trans a4, b5.trans a5⟩

theorem cell_fr {w w' : World} {a : Addr} (h : w'.heap[a.block]? = w.heap[a.block]?) : w'.cell? a = w.cell? a := by
  simp only [World.cell?, h]

theorem lt_of_cell {w : World} {a : Addr} {v : Value} (h : w.cell? a = some v) : a.block < w.heap.size := by
  simp only [World.cell?] at h
  rcases Nat.lt_or_ge a.block w.heap.size with hl | hl
  · exact hl
  · rw [Array.getElem?_eq_none hl] at h; simp at h

/-- Values stay what they are. -/
theorem RV.step {w w' : World} {γ γ' : Gm} {A : Nat → Nat → Prop} {bd : Nat} {x : AV} {v : Value} (h : RV w γ A bd x v) (s : Stp w γ w' γ') :
    RV w' γ' A bd x v := by
  induction h with
  | bool => exact .bool _ _
  | int => exact .int _ _ _
  | str => exact .str _ _
  | tup _ xs vs hl _ ih => exact .tup _ _ _ hl ih
  | agg _ xs vs hl h1 _ ih => exact .agg _ _ _ hl h1 ih
  | nilp => exact .nilp _
  | nils => exact .nils _
  | nilf => exact .nilf _
  | nilm => exact .nilm _
  | nili => exact .nili _
  | esl => exact .esl _ _
  | tsl _ tag sz rows b o cap cell ht hc hb hm ha hr ho hw _ hcl ih =>
    refine .tsl _ tag sz rows b o cap cell ht hc (Nat.lt_of_lt_of_le hb s.sz) (fun k => hm (s.mt b hb k)) ha hr ho (fun i j row x h1 h2 => ?_) ih hcl
    rw [cell_fr (a := adr b _) (s.fr b hb hm)]; exact hw i j row x h1 h2
  | tnil _ tag sz a cap ht => exact .tnil _ tag sz a cap ht
  | tptr _ tag sz rows i0 off0 b o cell ht hb hm ha hr ho hw _ hcl ih =>
    refine .tptr _ tag sz rows i0 off0 b o cell ht (Nat.lt_of_lt_of_le hb s.sz) (fun k => hm (s.mt b hb k)) ha hr ho (fun i j row x h1 h2 => ?_) ih hcl
    rw [cell_fr (a := adr b _) (s.fr b hb hm)]; exact hw i j row x h1 h2
  | hsl _ id ep off len lim b o cap hk he hc h =>
    have e := s.ep id hk
    refine .hsl _ id ep off len lim b o cap (by rw [s.kind_eq (by rw [hk]; decide), hk]) (Nat.le_trans he e.1) hc fun h' => ?_
    have e1 : (γ' id).ep = (γ id).ep := Nat.le_antisymm (by rw [← h']; exact he) e.1
    obtain ⟨a1, a2, a3, a4, a5⟩ := e.2 e1
    obtain ⟨c1, c2, c3⟩ := h (h'.trans e1)
    refine ⟨by rw [a3]; exact c1, by rw [a1, a4]; exact c2, ?_⟩
    unfold CapOk at *
    cases lim <;> simp only [a2, a5] at * <;> exact c3
  | hptr _ id ep i off b o hk he h =>
    have e := s.ep id hk
    refine .hptr _ id ep i off b o (by rw [s.kind_eq (by rw [hk]; decide), hk]) (Nat.le_trans he e.1) fun h' => ?_
    have e1 : (γ' id).ep = (γ id).ep := Nat.le_antisymm (by rw [← h']; exact he) e.1
    obtain ⟨a1, a2, a3, a4, a5⟩ := e.2 e1
    obtain ⟨c1, c2⟩ := h (h'.trans e1)
    exact ⟨by rw [a3]; exact c1, by rw [a1, a4]; exact c2⟩
  | clo _ f xs ys vs us hl hl2 _ _ ih ih2 => exact .clo _ f xs ys vs us hl hl2 ih ih2
  | hmap _ id b hk hb =>
    exact .hmap _ id b (by rw [s.kind_eq (by rw [hk]; decide), hk]) (by rw [s.blk_eq (by rw [hk]; decide) (by rw [hk]; decide)]; exact hb)
  | ifc _ t x v _ ih => exact .ifc _ t x v ih
  | yld _ id b hk hb =>
    exact .yld _ id b (by rw [s.kind_eq (by rw [hk]; decide), hk]) (by rw [s.blk_eq (by rw [hk]; decide) (by rw [hk]; decide)]; exact hb)

theorem RVs.step {w w' : World} {γ γ' : Gm} {A : Nat → Nat → Prop} {bd : Nat} {xs : List AV} {vs : List Value} (h : RVs w γ A bd xs vs) (s : Stp w γ w' γ') :
    RVs w' γ' A bd xs vs := ⟨h.1, fun i x v h1 h2 => (h.2 i x v h1 h2).step s⟩

/-- An abstract object and the model's. -/
def ObjRel (w : World) (γ : Gm) (A : Nat → Nat → Prop) (bd : Nat) (id : Nat) : AObj → Prop
  | .none => (γ id).kind = 0
  | .cells sz rows ep loose fz => (γ id).kind = 1 ∧ (γ id).ep = ep ∧ (γ id).sz = sz ∧ (γ id).n = rows.length ∧ ((loose = false → (γ id).slack = 0) ∧ (loose = true → rows.length + (γ id).slack ≤ 9223372036854775807)) ∧ (γ id).wr = !fz ∧
      ∃ (c : Array Value) (elem : TypeId), w.heap[(γ id).blk]? = some (.cells c elem (0, 0)) ∧ (γ id).base + (rows.length + (γ id).slack) * sz ≤ c.size ∧
        (∀ (i : Nat) row, rows[i]? = some row → row.length = sz) ∧
        (∀ (i j : Nat) row x, rows[i]? = some row → row[j]? = some x → x.one = true ∧ ∃ v, c[(γ id).base + i * sz + j]? = some v ∧ RV w γ A bd x v)
  | .map es => (γ id).kind = 2 ∧ (γ id).wr = true ∧
      ∃ esC : Array MapEntry, w.heap[(γ id).blk]? = some (.map esC esC.size) ∧ es.length = esC.size ∧
        (∀ (i : Nat) k x e, es[i]? = some (k, x) → esC[i]? = some e → e.born = i ∧ RV w γ A bd k e.key ∧ RV w γ A bd x e.val)
  | .loop nt t ps assign body dfr st pend => (γ id).kind = 3 ∧ (γ id).wr = true ∧
      ∃ L : Loop, w.heap[(γ id).blk]? = some (.loop L) ∧ L.state = st ∧ L.pending = pend ∧ L.params.toList = ps ∧ L.assign = assign ∧ L.body = body ∧ L.tmps.size = nt ∧
        (∀ i, RV w γ A bd (t.get AV.undef i) (L.tmps.getD i undef)) ∧ (γ dfr).kind = 4 ∧ L.defers = (γ dfr).blk
  | .dfr live => (γ id).kind = 4 ∧ (γ id).wr = true ∧ w.heap[(γ id).blk]? = some (.deferred (if live then some [] else none))

/-- The whole state. hg: the objects by number. -/
structure Rel (C : Cfg) (A : Nat → Nat → Prop) (bd : Nat) (w : World) (γ : Gm) (hg : Nat → AObj) (nx : Nat) : Prop where
  obj : ∀ id, ObjRel w γ A bd id (hg id)
  lt : ∀ id, (γ id).kind ≠ 0 → id < nx ∧ (γ id).blk < w.heap.size
  inj : ∀ i j, (γ i).kind ≠ 0 → (γ j).kind ≠ 0 → (γ i).blk = (γ j).blk → i = j
  av : ∀ id, (γ id).kind ≠ 0 → ∀ t, ¬ A t (γ id).blk
  ab : ∀ t b, A t b → b < w.heap.size
  glob : ∀ g sz rows, C.glob g = some (sz, rows) → RV w γ A bd (.tptr 0 sz rows 0 0) (.pointer (some ⟨g, 0, none⟩))

end Hx
