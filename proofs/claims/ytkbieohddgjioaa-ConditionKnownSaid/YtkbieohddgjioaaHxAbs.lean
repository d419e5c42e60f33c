/- An abstract, deterministic interpreter of the model's code: values with immutable trees, a small heap of the activation's own objects. What hangs on the text alone is worked out first ('Stg'), so that the kernel works it out once. Definitions only. -/
import GoSem.Step
set_option linter.unusedVariables false
set_option linter.unusedSimpArgs false
set_option linter.unnecessarySimpa false
namespace Hx
open Go
noncomputable section

/-- Abstract values. -/
inductive AV where
  | bool (b : Bool)
  | int (k : IntKind) (n : Int)
  | str (s : ByteArray)
  | tup (vs : List AV)
  | agg (cs : List AV)
  | nilp | nils | nilf | nilm | nili
  | esl
  | tsl (tag : Nat) (sz : Nat) (rows : List (List AV))
  | tptr (tag : Nat) (sz : Nat) (rows : List (List AV)) (i off : Nat)
  | hsl (id ep off len : Nat) (lim : Option Nat)
  | hptr (id ep i off : Nat)
  | clo (f : Nat) (first cap : List AV)
  | hmap (id : Nat)
  | ifc (t : Nat) (v : AV)
  | yld (id : Nat)
  deriving Inhabited

abbrev AV.undef : AV := .tup []

def AV.cells : AV → List AV
  | .agg cs => cs
  | v => [v]

/-- A value of one cell. -/
def AV.one : AV → Bool
  | .tup _ | .agg _ => false
  | _ => true
def AV.isTup : AV → Bool
  | .tup _ => true
  | _ => false

/-- What is worked out ahead. -/
structure Stg (α : Type) where
  run : α

/-- Either way of a test. -/
abbrev bif' {α : Type} (b : Bool) (x y : α) : α := @Bool.rec (fun _ => α) y x b

def notb (b : Bool) : Bool := @Bool.rec (fun _ => Bool) true false b

/-! Stores by number -/
inductive Tr (α : Type) where
  | nil
  | node (v : α) (l r : Tr α)

/-- The value at a number, e where there is none. -/
def Tr.get {α : Type} (e : α) : Tr α → Nat → α
  | .nil, _ => e
  | .node v _ _, 0 => v
  | .node _ l r, m + 1 => bif' (Nat.beq (m % 2) 0) (Tr.get e l (m / 2)) (Tr.get e r (m / 2))

/-- The same, the way worked out ahead. -/
def gpF {α : Type} (e : α) : Nat → Nat → Stg (Tr α → α)
  | 0, _ => ⟨fun _ => e⟩
  | _ + 1, 0 => ⟨fun t => @Tr.rec α (fun _ => α) e (fun v _ _ _ _ => v) t⟩
  | f + 1, m + 1 => bif' (Nat.beq (m % 2) 0)
      ⟨fun t => @Tr.rec α (fun _ => α) e (fun _ l _ _ _ => (gpF e f (m / 2)).run l) t⟩
      ⟨fun t => @Tr.rec α (fun _ => α) e (fun _ _ r _ _ => (gpF e f (m / 2)).run r) t⟩
def gp {α : Type} (e : α) (n : Nat) : Stg (Tr α → α) := gpF e (n + 1) n

def spF {α : Type} (e : α) : Nat → Nat → Stg (Tr α → α → Tr α)
  | 0, _ => ⟨fun t _ => t⟩
  | _ + 1, 0 => ⟨fun t x => @Tr.rec α (fun _ => Tr α) (.node x .nil .nil) (fun _ l r _ _ => .node x l r) t⟩
  | f + 1, m + 1 => bif' (Nat.beq (m % 2) 0)
      ⟨fun t x => @Tr.rec α (fun _ => Tr α) (.node e ((spF e f (m / 2)).run .nil x) .nil) (fun v l r _ _ => .node v ((spF e f (m / 2)).run l x) r) t⟩
      ⟨fun t x => @Tr.rec α (fun _ => Tr α) (.node e .nil ((spF e f (m / 2)).run .nil x)) (fun v l r _ _ => .node v l ((spF e f (m / 2)).run r x)) t⟩
def sp {α : Type} (e : α) (n : Nat) : Stg (Tr α → α → Tr α) := spF e (n + 1) n
def Tr.put {α : Type} (e : α) (t : Tr α) (n : Nat) (x : α) : Tr α := (sp e n).run t x

/-! Lists, for the kernel -/
def nthR {α : Type} (n : Nat) : List α → Option α :=
  @Nat.rec (fun _ => List α → Option α) (fun l => @List.rec α (fun _ => Option α) none (fun a _ _ => some a) l)
    (fun _ ih l => @List.rec α (fun _ => Option α) none (fun _ t _ => ih t) l) n
def setR {α : Type} (n : Nat) (x : α) : List α → List α :=
  @Nat.rec (fun _ => List α → List α) (fun l => @List.rec α (fun _ => List α) [] (fun _ t _ => x :: t) l)
    (fun _ ih l => @List.rec α (fun _ => List α) [] (fun a t _ => a :: ih t) l) n
def lenR {α : Type} (l : List α) : Nat := @List.rec α (fun _ => Nat) 0 (fun _ _ n => Nat.succ n) l
def dropR {α : Type} (n : Nat) : List α → List α :=
  @Nat.rec (fun _ => List α → List α) (fun l => l) (fun _ ih l => @List.rec α (fun _ => List α) [] (fun _ t _ => ih t) l) n
def takeR {α : Type} (n : Nat) : List α → List α :=
  @Nat.rec (fun _ => List α → List α) (fun _ => []) (fun _ ih l => @List.rec α (fun _ => List α) [] (fun a t _ => a :: ih t) l) n

/-- Objects of the abstract heap. -/
inductive AObj where
  | none
  | cells (sz : Nat) (rows : List (List AV)) (ep : Nat) (loose fz : Bool)
  | map (es : List (AV × AV))
  | loop (nt : Nat) (t : Tr AV) (ps : List Nat) (assign body : Code) (dfr : Nat) (st : LoopState) (pend : Option Code)
  | dfr (live : Bool)

abbrev T := Tr AV
abbrev H := Tr AObj

def H.get (h : H) (i : Nat) : AObj := (gp AObj.none i).run h
def H.put (h : H) (i : Nat) (o : AObj) : H := (sp AObj.none i).run h o

/-- The heap, the next number, the log of the objects that were set. -/
structure G where
  h : H
  nx : Nat
  lg : List Nat

def G.empty : G := ⟨.nil, 0, []⟩
def G.put (g : G) (id : Nat) (o : AObj) : G := @G.rec (fun _ => G) (fun h nx lg => ⟨h.put id o, nx, id :: lg⟩) g
def G.new (g : G) (o : AObj) : G := @G.rec (fun _ => G) (fun h nx lg => ⟨h.put nx o, Nat.succ nx, nx :: lg⟩) g
def G.get (g : G) (i : Nat) : AObj := H.get g.h i

inductive ADf where
  | call (f : AV) (args : List AV)
  | mark (id : Nat)

inductive Ex where
  | norm
  | exit (id : Nat)
  | ret

/-- What a piece of code comes to. -/
inductive CR where
  | fail
  | ok (e : Ex) (t : T) (df : List ADf) (g : G)

/-- What a call comes to. -/
inductive FR where
  | fail
  | ok (v : AV) (g : G)

/-- What an operation comes to. -/
inductive OR where
  | fail
  | val (v : AV)
  | upd (v : AV) (g : G)
  | dfr (a : ADf)

/-- The interpreter with less fuel. -/
structure IH where
  code : Nat → Nat → Option Nat → Code → T → List ADf → G → CR
  call : Nat → Nat → List AV → G → FR

/-- The program; which functions are called in a heap of their own; functions taken as given; package-level tables taken as given. -/
structure Cfg where
  P : Program
  iso : Nat → Bool
  ext : Nat → Option (Nat → List AV → G → OR)
  glob : Nat → Option (Nat × List (List AV))

abbrev OpFn := IH → Nat → Option Nat → T → G → OR

/-! What the types say -/
section types
variable (P : Program)
def szT (t : TypeId) : Option Nat := (P.info? t).map (·.size)
def bytesT (t : TypeId) : Option Nat := (P.info? t).map (·.bytes)
def aggT (t : TypeId) : Option Bool :=
  match P.underlying t with
  | some (.struct _) | some (.array _ _) => some true
  | some _ => some false
  | none => none
def ofV : Value → Option AV
  | .bool b => some (.bool b)
  | .int k n => some (.int k n)
  | .string s => some (.str s)
  | .pointer none => some .nilp
  | .slice none 0 0 => some .nils
  | .map none => some .nilm
  | .nilFunc => some .nilf
  | .nilIface => some .nili
  | _ => none
def ofVs : List Value → Option (List AV)
  | [] => some []
  | v :: vs => match ofV v, ofVs vs with
    | some a, some as => some (a :: as)
    | _, _ => none
def zeroT (t : TypeId) : Option (List AV) := (P.info? t).bind fun i => i.zero.bind fun v => ofVs v.cells.toList
/-- The zero value of a type, whole. -/
def zeroA (t : TypeId) : Option AV := (P.info? t).bind fun i => i.zero.bind fun v => match v with
  | .agg cs => (ofVs cs.toList).map .agg
  | v => ofV v
def elemT (t : TypeId) : Option TypeId := match P.underlying t with | some (.slice e) => some e | _ => none
def fieldT (t : TypeId) (f : Nat) : Option (Nat × TypeId) :=
  match P.underlying t with
  | some (.struct fs) => match fs[f]? with | some x => some (x.offset, x.type) | none => none
  | _ => none
end types

def mapO {α β : Type} (f : α → Option β) : List α → Option (List β)
  | [] => some []
  | v :: vs => match f v with
    | some a => match mapO f vs with
      | some as => some (a :: as)
      | none => none
    | none => none

/-! Operands -/
def cRho (C : Cfg) : Operand → Option (Stg (T → AV))
  | .tmp n => some (gp AV.undef n)
  | .const v => match ofV v with | some a => some ⟨fun _ => a⟩ | none => none
  | .global g => match C.glob g with | some (sz, rows) => some ⟨fun _ => .tptr 0 sz rows 0 0⟩ | none => none
  | .func f => some ⟨fun _ => .clo f [] []⟩
def cRhos (C : Cfg) : List Operand → Option (Stg (T → List AV))
  | [] => some ⟨fun _ => []⟩
  | x :: xs => match cRho C x, cRhos C xs with
    | some a, some as => some ⟨fun t => a.run t :: as.run t⟩
    | _, _ => none

/-! Numbers -/
def i64max : Nat := 9223372036854775808
def u64max : Nat := 18446744073709551616
def wrapF (k : IntKind) (n : Int) : Int :=
  match k, n with
  | .i64, .ofNat m => bif' (Nat.blt m 9223372036854775808) (.ofNat m) (IntKind.wrap .i64 (.ofNat m))
  | .i64, .negSucc m => bif' (Nat.blt m 9223372036854775808) (.negSucc m) (IntKind.wrap .i64 (.negSucc m))
  | .u64, .ofNat m => .ofNat (m % 18446744073709551616)
  | .u8, .ofNat m => .ofNat (m % 256)
  | k, n => IntKind.wrap k n
def iltb : Int → Int → Bool
  | .ofNat m, .ofNat n => Nat.blt m n
  | .ofNat _, .negSucc _ => false
  | .negSucc _, .ofNat _ => true
  | .negSucc m, .negSucc n => Nat.blt n m
def ieqb : Int → Int → Bool
  | .ofNat m, .ofNat n => Nat.beq m n
  | .ofNat _, .negSucc _ => false
  | .negSucc _, .ofNat _ => false
  | .negSucc m, .negSucc n => Nat.beq m n
def pureV : Sem Value → Option AV
  | .pure (.int k n) => some (.int k n)
  | .pure (.bool b) => some (.bool b)
  | _ => none
/-- '/' and '%'. -/
def quoF (k : IntKind) : Int → Int → Option AV
  | .ofNat m, .ofNat (n + 1) => some (.int k (wrapF k (.ofNat (m / (n + 1)))))
  | a, b => pureV (Op.intDiv .quo k a b)
def remF (k : IntKind) : Int → Int → Option AV
  | .ofNat m, .ofNat (n + 1) => some (.int k (.ofNat (m % (n + 1))))
  | a, b => pureV (Op.intDiv .rem k a b)
def small64 (k : IntKind) (m n : Nat) : Bool :=
  match k with
  | .u64 => Nat.blt m 18446744073709551616 && Nat.blt n 18446744073709551616
  | .i64 => Nat.blt m 9223372036854775808 && Nat.blt n 9223372036854775808
  | _ => false
def bitsF (op : BinOp) (k : IntKind) : Int → Int → Option AV
  | .ofNat m, .ofNat n => bif' (small64 k m n)
      (match op with
       | .and => some (.int k (.ofNat (Nat.land m n)))
       | .or => some (.int k (.ofNat (Nat.lor m n)))
       | .xor => some (.int k (.ofNat (Nat.xor m n)))
       | .andNot => some (.int k (.ofNat (Nat.xor m (Nat.land m n))))
       | _ => none)
      (pureV (Op.intBits op k (.ofNat m) (.ofNat n)))
  | a, b => pureV (Op.intBits op k a b)
def shlF (k : IntKind) : Int → Int → Option AV
  | .ofNat m, .ofNat n => some (.int k (wrapF k (.ofNat (m * 2 ^ (Nat.min n k.bits)))))
  | a, b => pureV (Op.shift .shl k a k b)
def shrF (k : IntKind) : Int → Int → Option AV
  | .ofNat m, .ofNat n => some (.int k (.ofNat (m / 2 ^ (Nat.min n k.bits))))
  | a, b => pureV (Op.shift .shr k a k b)
def kindEq : IntKind → IntKind → Bool
  | .i64, .i64 => true
  | .u64, .u64 => true
  | a, b => decide (a = b)
/-- Two whole numbers under an operation. -/
def intBin : BinOp → Stg (IntKind → Int → IntKind → Int → Option AV)
  | .add => ⟨fun k a k' b => bif' (kindEq k k') (some (.int k (wrapF k (a + b)))) none⟩
  | .sub => ⟨fun k a k' b => bif' (kindEq k k') (some (.int k (wrapF k (a - b)))) none⟩
  | .mul => ⟨fun k a k' b => bif' (kindEq k k') (some (.int k (wrapF k (a * b)))) none⟩
  | .quo => ⟨fun k a k' b => bif' (kindEq k k') (quoF k a b) none⟩
  | .rem => ⟨fun k a k' b => bif' (kindEq k k') (remF k a b) none⟩
  | .eql => ⟨fun k a k' b => bif' (kindEq k k') (some (.bool (ieqb a b))) none⟩
  | .neq => ⟨fun k a k' b => bif' (kindEq k k') (some (.bool (notb (ieqb a b)))) none⟩
  | .lss => ⟨fun k a k' b => bif' (kindEq k k') (some (.bool (iltb a b))) none⟩
  | .leq => ⟨fun k a k' b => bif' (kindEq k k') (some (.bool (notb (iltb b a)))) none⟩
  | .gtr => ⟨fun k a k' b => bif' (kindEq k k') (some (.bool (iltb b a))) none⟩
  | .geq => ⟨fun k a k' b => bif' (kindEq k k') (some (.bool (notb (iltb a b)))) none⟩
  | .shl => ⟨fun k a _ b => shlF k a b⟩
  | .shr => ⟨fun k a _ b => shrF k a b⟩
  | op => ⟨fun k a k' b => bif' (kindEq k k') (bitsF op k a b) none⟩

/-! Equality -/
def flatKind : TypeDesc → Bool
  | .bool | .int _ | .string => true
  | _ => false
def flatFs (P : Program) (rec : TypeId → Option (List TypeDesc)) : List Field → Nat → Option (List TypeDesc)
  | [], _ => some []
  | f :: fs, k => match rec f.type with
    | some ds => match flatFs P rec fs (k + ds.length) with
      | some r => bif' ((f.name != "_") && Nat.beq f.offset k && (szT P f.type == some ds.length)) (some (ds ++ r)) none
      | none => none
    | none => none
/-- The cells of a type that is plain all through: what each holds. -/
def flatL (P : Program) : Nat → TypeId → Option (List TypeDesc)
  | 0, _ => none
  | d + 1, t => match P.underlying t with
    | some (.struct fs) => bif' (P.stoodInHeld t) none (flatFs P (flatL P d) fs.toList 0)
    | some (.array n e) => match flatL P d e with
      | some ds => bif' (szT P e == some ds.length) (some (List.replicate n ds).flatten) none
      | none => none
    | some d => bif' (flatKind d) (some [d]) none
    | none => none
def flatAgg (P : Program) (t : TypeId) : Option (List TypeDesc) :=
  bif' (P.eqGuardType P.depth t) none (flatL P 8 t)
def kindOk : TypeDesc → AV → Bool
  | .bool, .bool _ => true
  | .int k, .int k' _ => kindEq k k'
  | .string, .str _ => true
  | _, _ => false
def kindsOk : List TypeDesc → List AV → Bool
  | [], [] => true
  | d :: ds, v :: vs => bif' (kindOk d v) (kindsOk ds vs) false
  | _, _ => false
def eqCell : AV → AV → Option Bool
  | .int k a, .int k' b => bif' (kindEq k k') (some (ieqb a b)) none
  | .bool a, .bool b => some (bif' a b (notb b))
  | .str a, .str b => some (decide (a = b))
  | _, _ => none
def eqCells : List AV → List AV → Option Bool
  | [], [] => some true
  | a :: as, b :: bs => match eqCell a b, eqCells as bs with
    | some x, some y => some (bif' x y false)
    | _, _ => none
  | _, _ => none
inductive EqKind where
  | flat (ds : List TypeDesc) | slice | func | bool | iface (empty : Bool) | other
def eqKind (P : Program) (t : TypeId) : EqKind :=
  match P.underlying t with
  | some (.slice _) => .slice
  | some (.func _ _ _) => .func
  | some .bool => .bool
  | some (.interface ms) => .iface ms.isEmpty
  | some (.struct _) | some (.array _ _) => match flatAgg P t with | some ds => .flat ds | none => .other
  | _ => .other
def eqA (k : EqKind) (x y : AV) : Option Bool :=
  match k with
  | .flat ds => match x, y with
    | .agg xs, .agg ys => bif' (kindsOk ds xs && kindsOk ds ys) (eqCells xs ys) none
    | _, _ => none
  | .slice => match x, y with
    | .nils, .nils => some true
    | .nils, .tsl .. | .nils, .hsl .. | .nils, .esl | .tsl .., .nils | .hsl .., .nils | .esl, .nils => some false
    | _, _ => none
  | .func => match x, y with
    | .nilf, .nilf => some true
    | .nilf, .clo .. | .clo .., .nilf | .nilf, .yld _ | .yld _, .nilf => some false
    | _, _ => none
  | .bool => match x, y with
    | .bool a, .bool b => some (bif' a b (notb b))
    | _, _ => none
  | .iface e => match x, y with
    | .nili, .nili => bif' e (some true) none
    | .nili, .ifc .. | .ifc .., .nili => some false
    | _, _ => none
  | .other => none
def orV : Option AV → OR
  | some v => .val v
  | none => .fail
def binA (P : Program) (op : BinOp) (t : TypeId) : Stg (AV → AV → OR) :=
  match op with
  | .eql => match eqKind P t with
    | .other => ⟨fun x y => match x, y with | .int k a, .int k' b => orV ((intBin .eql).run k a k' b) | _, _ => .fail⟩
    | ek => ⟨fun x y => match eqA ek x y with | some b => .val (.bool b) | none => .fail⟩
  | .neq => match eqKind P t with
    | .other => ⟨fun x y => match x, y with | .int k a, .int k' b => orV ((intBin .neq).run k a k' b) | _, _ => .fail⟩
    | ek => ⟨fun x y => match eqA ek x y with | some b => .val (.bool (notb b)) | none => .fail⟩
  | op => ⟨fun x y => match x, y with | .int k a, .int k' b => orV ((intBin op).run k a k' b) | _, _ => .fail⟩
def unA (op : UnOp) : Stg (AV → OR) :=
  match op with
  | .not => ⟨fun x => match x with | .bool b => .val (.bool (notb b)) | _ => .fail⟩
  | op => ⟨fun x => match x with | .int k n => orV (pureV (Op.unary op (.int k n))) | _ => .fail⟩

/-! Rows of cells -/
def getPart (agg : Bool) (n : Nat) (row : List AV) (off : Nat) : Option AV :=
  bif' agg (let cs := takeR n (dropR off row); bif' (Nat.beq (lenR cs) n) (some (.agg cs)) none) (nthR off row)
def putCells (row : List AV) (off : Nat) (cs : List AV) : Option (List AV) :=
  bif' (Nat.ble (off + lenR cs) (lenR row))
    (some (match cs with
      | [c] => setR off c row
      | cs => takeR off row ++ (cs ++ dropR (off + lenR cs) row)))
    none
def natOf (lim : Nat) : AV → Option Nat
  | .int _ (.ofNat n) => bif' (Nat.ble n lim) (some n) none
  | _ => none
def boundOf (dflt lim : Nat) : Option AV → Option Nat
  | none => some dflt
  | some v => natOf lim v
def repl (n : Nat) (row : List AV) : List (List AV) := List.replicate n row
/-- Fills parts into cells. -/
def fillA : List AV → List ((Nat × Nat) × AV) → Option (List AV)
  | cells, [] => some cells
  | cells, ((off, size), v) :: rest =>
    bif' (Nat.beq (lenR v.cells) size && notb v.isTup) (match putCells cells off v.cells with | some cs => fillA cs rest | none => none) none
def fillRows (sz : Nat) : List (List AV) → List (Nat × AV) → Option (List (List AV))
  | rows, [] => some rows
  | rows, (i, v) :: rest => bif' (Nat.beq (lenR v.cells) sz && Nat.blt i (lenR rows) && notb v.isTup) (fillRows sz (setR i v.cells rows) rest) none
/-- The rows of a slice. -/
def rowsOf (h : H) (sz : Nat) : AV → Option (List (List AV))
  | .nils => some []
  | .esl => some []
  | .tsl _ sz' rows => bif' (Nat.beq sz sz' || rows.isEmpty) (some rows) none
  | .hsl id ep off len _ => match h.get id with
    | .cells sz' rows ep' _ _ => bif' (Nat.beq ep ep' && Nat.beq sz sz' && Nat.ble (off + len) (lenR rows)) (some (takeR len (dropR off rows))) none
    | _ => none
  | _ => none
def putRows (rows : List (List AV)) (off : Nat) (new : List (List AV)) : List (List AV) :=
  match new with
  | [r] => setR off r rows
  | new => takeR off rows ++ (new ++ dropR (off + lenR new) rows)

def room : Nat := 1099511627776

def appendRows (sz bytes : Nat) (s : AV) (new : List (List AV)) (g : G) : OR :=
    match s with
    | .nils | .esl => match new with
      | [] => .val s
      | _ => bif' (Nat.ble (lenR new * bytes) room) (.upd (.hsl g.nx 0 0 (lenR new) none) (g.new (.cells sz new 0 true false))) .fail
    | .tsl .. => match new with
      | [] => .val s
      | _ => .fail
    | .hsl id ep off len lim => match g.get id with
      | .cells sz' rows ep' loose fz =>
        bif' (Nat.beq ep ep' && Nat.beq sz sz' && Nat.ble (off + len) (lenR rows) && Nat.ble ((len + lenR new) * bytes) room)
          (bif' (Nat.ble (len + lenR new) (lim.getD (lenR rows - off)))
             (match new with
              | [] => .val s
              | _ => bif' (Nat.ble (off + len + lenR new) (lenR rows) && notb fz)
               (.upd (.hsl id ep off (len + lenR new) lim) (g.put id (.cells sz (putRows rows (off + len) new) ep loose fz))) .fail)
             (bif' (lim.isSome || notb loose)
               (.upd (.hsl g.nx 0 0 (len + lenR new) none) (g.new (.cells sz (takeR len (dropR off rows) ++ new) 0 true false)))
               (bif' fz .fail (.upd (.hsl id (Nat.succ ep) 0 (len + lenR new) none) (g.put id (.cells sz (takeR len (dropR off rows) ++ new) (Nat.succ ep) true false))))))
          .fail
      | _ => .fail
    | _ => .fail

def appendA (sz bytes : Nat) (s x : AV) (g : G) : OR :=
  match rowsOf g.h sz x with
  | none => .fail
  | some new => appendRows sz bytes s new g
def appendZ (sz bytes : Nat) (zero : List AV) (s x : AV) (g : G) : OR :=
  match natOf room x with
  | none => .fail
  | some n => bif' (Nat.ble (n * bytes) room) (appendRows sz bytes s (repl n zero) g) .fail

def copyA (sz : Nat) (d x : AV) (g : G) : OR :=
  match rowsOf g.h sz x with
  | none => .fail
  | some src => match d with
    | .nils | .esl => .val (.int .i64 0)
    | .tsl _ _ rows => bif' (rows.isEmpty || src.isEmpty) (.val (.int .i64 0)) .fail
    | .hsl id ep off len _ => match g.get id with
      | .cells sz' rows ep' loose fz =>
        bif' (Nat.beq ep ep' && Nat.beq sz sz' && Nat.ble (off + len) (lenR rows) && notb fz)
          (.upd (.int .i64 (Nat.min (lenR src) len)) (g.put id (.cells sz (putRows rows off (takeR (Nat.min (lenR src) len) src)) ep loose fz))) .fail
      | _ => .fail
    | _ => .fail

/-- Slicing. -/
def sliceA (sz : Nat) (x : AV) (lo hi mx : Option AV) (h : H) : Option AV :=
  match x with
  | .nils => match boundOf 0 0 lo, boundOf 0 0 hi, boundOf 0 0 mx with
    | some _, some _, some _ => some .nils
    | _, _, _ => none
  | .esl => match boundOf 0 0 lo, boundOf 0 0 hi, boundOf 0 0 mx with
    | some _, some _, some _ => some .esl
    | _, _, _ => none
  | .tsl tag sz' rows => match mx with
    | none => match boundOf (lenR rows) (lenR rows) hi with
      | none => none
      | some h => match boundOf 0 h lo with
        | none => none
        | some l => bif' (Nat.beq sz sz') (some (.tsl tag sz (takeR (h - l) (dropR l rows)))) none
    | some m => match natOf 0 m, boundOf 0 0 hi, boundOf 0 0 lo with
      | some _, some _, some _ => some .esl
      | _, _, _ => none
  | .hsl id ep off len lim => match h.get id with
    | .cells sz' rows ep' loose _ =>
      bif' (Nat.beq ep ep' && Nat.beq sz sz' && Nat.ble (off + len) (lenR rows))
        (match boundOf (lim.getD (lenR rows - off)) (lim.getD (lenR rows - off)) mx with
         | none => none
         | some m => match boundOf len m hi with
           | none => none
           | some h => match boundOf 0 h lo with
             | none => none
             | some l =>
               bif' (Nat.beq m l)
                 (bif' (mx.isSome || lim.isSome || notb loose) (some .esl) (some (.tsl 0 sz [])))
                 (some (.hsl id ep (off + l) (h - l) (match mx with | some _ => some (m - l) | none => lim.map (· - l))))) none
    | _ => none
  | _ => none

/-! Maps -/
def keyEq (k k' : AV) : Option Bool :=
  match k with
  | .agg xs => match k' with | .agg ys => eqCells xs ys | _ => none
  | x => match k' with | .agg _ => none | y => eqCell x y
def findA (k : AV) : List (AV × AV) → Option (Option AV)
  | [] => some none
  | (k', v) :: es => match keyEq k k' with
    | some true => some (some v)
    | some false => findA k es
    | none => none
def setA (k v : AV) : List (AV × AV) → Option (List (AV × AV))
  | [] => some [(k, v)]
  | (k', v') :: es => match keyEq k k' with
    | some true => some ((k, v) :: es)
    | some false => match setA k v es with | some r => some ((k', v') :: r) | none => none
    | none => none
inductive KeyKind where
  | one (d : TypeDesc) | flat (ds : List TypeDesc) | other
def keyKind (P : Program) (t : TypeId) : KeyKind :=
  match P.underlying t with
  | some (.struct _) | some (.array _ _) => match flatAgg P t with | some ds => .flat ds | none => .other
  | some d => bif' (flatKind d) (.one d) .other
  | none => .other
def keyOk : KeyKind → AV → Bool
  | .one d, v => kindOk d v
  | .flat ds, .agg vs => kindsOk ds vs
  | _, _ => false

/-! Simple operations -/
abbrev SFn := T → G → OR

def loadF (ag : Bool) (n : Nat) (a : T → AV) : SFn := fun t g =>
  match a t with
  | .tptr _ _ rows i off => match nthR i rows with
    | some row => orV (getPart ag n row off)
    | none => .fail
  | .hptr id ep i off => match g.get id with
    | .cells _ rows ep' _ _ => bif' (Nat.beq ep ep') (match nthR i rows with
      | some row => orV (getPart ag n row off)
      | none => .fail) .fail
    | _ => .fail
  | _ => .fail
def storeF (n : Nat) (a x : T → AV) : SFn := fun t g =>
  match a t with
  | .hptr id ep i off => match g.get id with
    | .cells sz rows ep' loose fz => bif' (Nat.beq ep ep' && Nat.beq (lenR (x t).cells) n && notb fz && notb (x t).isTup) (match nthR i rows with
      | some row => match putCells row off (x t).cells with
        | some row' => .upd .undef (g.put id (.cells sz (setR i row' rows) ep loose fz))
        | none => .fail
      | none => .fail) .fail
    | _ => .fail
  | _ => .fail
def allocF (cs : List AV) : SFn := fun _ g => .upd (.hptr g.nx 0 0 0) (g.new (.cells (lenR cs) [cs] 0 false false))
def boxF (a : T → AV) : SFn := fun t g => bif' (a t).isTup .fail (.upd (.hptr g.nx 0 0 0) (g.new (.cells (lenR (a t).cells) [(a t).cells] 0 false false)))
def buildF (zero : List AV) (pl : List (Nat × Nat)) (vs : T → List AV) : SFn := fun t _ =>
  match fillA zero (pl.zip (vs t)) with | some cs => .val (.agg cs) | none => .fail
def buildSliceF (sz len : Nat) (zrows : List (List AV)) (is : List Nat) (vs : T → List AV) : SFn := fun t g =>
  match fillRows sz zrows (is.zip (vs t)) with
  | some rows => .upd (.hsl g.nx 0 0 len none) (g.new (.cells sz rows 0 false false))
  | none => .fail
def fieldAddrF (fo : Nat) (a : T → AV) : SFn := fun t _ =>
  match a t with
  | .tptr l sz rows i off => .val (.tptr l sz rows i (off + fo))
  | .hptr id ep i off => .val (.hptr id ep i (off + fo))
  | _ => .fail
def indexSlF (sz : Nat) (a ix : T → AV) : SFn := fun t g =>
  match a t with
  | .tsl l sz' rows => match ix t with
    | .int _ (.ofNat i) => bif' (Nat.beq sz sz' && Nat.blt i (lenR rows)) (.val (.tptr l sz rows i 0)) .fail
    | _ => .fail
  | .hsl id ep off len _ => match ix t with
    | .int _ (.ofNat i) => match g.get id with
      | .cells sz' _ ep' _ _ => bif' (Nat.beq ep ep' && Nat.beq sz sz' && Nat.blt i len) (.val (.hptr id ep (off + i) 0)) .fail
      | _ => .fail
    | _ => .fail
  | _ => .fail
def indexArF (n sz : Nat) (a ix : T → AV) : SFn := fun t _ =>
  match ix t with
  | .int _ (.ofNat i) => bif' (Nat.blt i n) (match a t with
    | .tptr l sz' rows j off => .val (.tptr l sz' rows j (off + i * sz))
    | .hptr id ep j off => .val (.hptr id ep j (off + i * sz))
    | _ => .fail) .fail
  | _ => .fail
def indexF (ag : Bool) (n sz : Nat) (a ix : T → AV) : SFn := fun t _ =>
  match a t with
  | .agg cs => match ix t with
    | .int _ (.ofNat i) => bif' (Nat.blt i n) (orV (getPart ag sz cs (i * sz))) .fail
    | _ => .fail
  | _ => .fail
def indexStrF (a ix : T → AV) : SFn := fun t _ =>
  match a t with
  | .str s => match ix t with
    | .int _ (.ofNat i) => match nthR i s.data.toList with
      | some b => .val (.int .u8 (.ofNat b.toNat))
      | none => .fail
    | _ => .fail
  | _ => .fail
def makeSliceF (sz bytes : Nat) (zero : List AV) (l c : T → AV) : SFn := fun t g =>
  match natOf room (c t) with
  | some cn => match natOf cn (l t) with
    | some ln => bif' (Nat.ble (cn * bytes) room)
      (.upd (.hsl g.nx 0 0 ln none) (g.new (.cells sz (repl cn zero) 0 false false))) .fail
    | none => .fail
  | none => .fail
def lookupF (kk : KeyKind) (zero : AV) (ok : Bool) (m k : T → AV) : SFn := fun t g =>
  bif' (keyOk kk (k t))
    (match (match m t with
            | .nilm => some []
            | .hmap id => match g.get id with | .map es => some es | _ => none
            | _ => none) with
     | some es => match findA (k t) es with
       | some (some v) => .val (bif' ok (.tup [v, .bool true]) v)
       | some none => .val (bif' ok (.tup [zero, .bool false]) zero)
       | none => .fail
     | none => .fail) .fail
def mapUpdateF (kk : KeyKind) (m k x : T → AV) : SFn := fun t g =>
  bif' (keyOk kk (k t))
    (match m t with
     | .hmap id => match g.get id with
       | .map es => match setA (k t) (x t) es with
         | some es' => .upd .undef (g.put id (.map es'))
         | none => .fail
       | _ => .fail
     | _ => .fail) .fail
/-- The place of a key, and its value. -/
def findIxA (k : AV) : Nat → List (AV × AV) → Option (Option (Nat × AV))
  | _, [] => some none
  | i, (k', v) :: es => match keyEq k k' with
    | some true => some (some (i, v))
    | some false => findIxA k (Nat.succ i) es
    | none => none
def mapEntryF (kk : KeyKind) (zero : AV) (m k : T → AV) : SFn := fun t g =>
  bif' (keyOk kk (k t))
    (match m t with
     | .hmap id => match g.get id with
       | .map es => match findIxA (k t) 0 es with
         | some (some (i, v)) => .val (.tup [v, .int .i64 (.ofNat i)])
         | some none => .upd (.tup [zero, .int .i64 (.ofNat (lenR es))]) (g.put id (.map (es ++ [(k t, zero)])))
         | none => .fail
       | _ => .fail
     | _ => .fail) .fail
def entryStoreF (m st x : T → AV) : SFn := fun t g =>
  match m t with
  | .hmap id => match g.get id with
    | .map es => match st t with
      | .int _ (.ofNat i) => match nthR i es with
        | some (k, _) => .upd .undef (g.put id (.map (setR i (k, x t) es)))
        | none => .fail
      | _ => .fail
    | _ => .fail
  | _ => .fail
def clearF (sz : Nat) (zero : List AV) (x : AV) (g : G) : OR :=
  match x with
  | .nils | .esl => .val .undef
  | .tsl _ _ [] => .val .undef
  | .hsl id ep off len _ => match len with
    | 0 => .val .undef
    | _ => match g.get id with
      | .cells sz' rows ep' loose fz =>
        bif' (Nat.beq ep ep' && Nat.beq sz sz' && Nat.ble (off + len) (lenR rows) && notb fz)
          (.upd .undef (g.put id (.cells sz (putRows rows off (repl len zero)) ep loose fz))) .fail
      | _ => .fail
  | _ => .fail
inductive LenKind where
  | slice | array (n : Nat) | map | str | other
def lenKind (P : Program) (t : TypeId) : LenKind :=
  match P.underlying t with
  | some (.slice _) => .slice
  | some (.array n _) => .array n
  | some (.map _ _) => .map
  | some .string => .str
  | _ => .other
def lenF (k : LenKind) (x : AV) (g : G) : OR :=
  match k with
  | .slice => match x with
    | .nils | .esl => .val (.int .i64 0)
    | .tsl _ _ rows => .val (.int .i64 (.ofNat (lenR rows)))
    | .hsl _ _ _ n _ => .val (.int .i64 (.ofNat n))
    | _ => .fail
  | .array n => .val (.int .i64 (.ofNat n))
  | .map => match x with
    | .nilm => .val (.int .i64 0)
    | .hmap id => match g.get id with | .map es => .val (.int .i64 (.ofNat (lenR es))) | _ => .fail
    | _ => .fail
  | .str => match x with | .str s => .val (.int .i64 (.ofNat s.size)) | _ => .fail
  | .other => .fail
def capF (x : AV) (g : G) : OR :=
  match x with
  | .nils | .esl => .val (.int .i64 0)
  | .hsl id ep off _ lim => match g.get id with
    | .cells _ rows ep' loose _ => bif' (Nat.beq ep ep' && (lim.isSome || notb loose)) (.val (.int .i64 (.ofNat (lim.getD (lenR rows - off))))) .fail
    | _ => .fail
  | _ => .fail

/-- A builtin. -/
def cBuiltin (C : Cfg) (b : Builtin) (argTypes : Array TypeId) (args : List Operand) : Option (Stg SFn) :=
  match b, args with
  | .len, [x] => match argTypes[0]?, cRho C x with
    | some t, some a => some ⟨fun s g => lenF (lenKind C.P t) (a.run s) g⟩
    | _, _ => none
  | .append, [a, x] => match argTypes[0]?, argTypes[1]?, cRho C a, cRho C x with
    | some t, some xt, some av, some xv => match elemT C.P t, C.P.underlying xt with
      | some e, some (.slice _) => match szT C.P e, bytesT C.P e, zeroT C.P e with
        | some sz, some bytes, some zero => bif' (Nat.beq (lenR zero) sz && Nat.blt 0 sz && Nat.blt 0 bytes) (some ⟨fun s g => appendA sz bytes (av.run s) (xv.run s) g⟩) none
        | _, _, _ => none
      | some e, some (.int _) => match szT C.P e, bytesT C.P e, zeroT C.P e with
        | some sz, some bytes, some zero => bif' (Nat.beq (lenR zero) sz && Nat.blt 0 sz && Nat.blt 0 bytes) (some ⟨fun s g => appendZ sz bytes zero (av.run s) (xv.run s) g⟩) none
        | _, _, _ => none
      | _, _ => none
    | _, _, _, _ => none
  | .copy, [a, x] => match argTypes[0]?, cRho C a, cRho C x with
    | some t, some av, some xv => match elemT C.P t with
      | some e => match szT C.P e with
        | some sz => some ⟨fun s g => copyA sz (av.run s) (xv.run s) g⟩
        | none => none
      | none => none
    | _, _, _ => none
  | .cap, [x] => match argTypes[0]?, cRho C x with
    | some t, some a => match elemT C.P t with
      | some _ => some ⟨fun s g => capF (a.run s) g⟩
      | none => none
    | _, _ => none
  | .clear, [x] => match argTypes[0]?, cRho C x with
    | some t, some a => match elemT C.P t with
      | some e => match szT C.P e, zeroT C.P e with
        | some sz, some zero => bif' (Nat.beq (lenR zero) sz && Nat.blt 0 sz) (some ⟨fun s g => clearF sz zero (a.run s) g⟩) none
        | _, _ => none
      | none => none
    | _, _ => none
  | .max, [x, y] => match cRho C x, cRho C y with
    | some a, some b => some ⟨fun s _ => match a.run s with
      | .int k m => match b.run s with
        | .int k' n => bif' (kindEq k k') (.val (.int k (bif' (iltb m n) n m))) .fail
        | _ => .fail
      | _ => .fail⟩
    | _, _ => none
  | .min, [x, y] => match cRho C x, cRho C y with
    | some a, some b => some ⟨fun s _ => match a.run s with
      | .int k m => match b.run s with
        | .int k' n => bif' (kindEq k k') (.val (.int k (bif' (iltb n m) n m))) .fail
        | _ => .fail
      | _ => .fail⟩
    | _, _ => none
  | _, _ => none

def maxO {α : Type} (f : α → Option Nat) : List α → Option Nat
  | [] => some 0
  | v :: vs => match f v with
    | some a => match maxO f vs with
      | some b => some (Nat.max a b)
      | none => none
    | none => none
/-- The greatest tag of the trees in a value: 0: never to be written again; d: lent by the activation of depth d. -/
def tagO : Nat → AV → Option Nat
  | 0, _ => none
  | f + 1, v => match v with
    | .tsl l _ _ => some l
    | .tptr l _ _ _ _ => some l
    | .agg cs => maxO (tagO f) cs
    | .tup cs => maxO (tagO f) cs
    | .clo _ a c => maxO (tagO f) (a ++ c)
    | .ifc _ v => tagO f v
    | .hsl .. | .hptr .. | .hmap _ | .yld _ => none
    | _ => some 0
def depthA : Nat := 24
def tagRows (rows : List (List AV)) : Option Nat := maxO (maxO (tagO depthA)) rows

/-- The elements of an array in a row. -/
def chunks (sz : Nat) : Nat → List AV → List (List AV)
  | 0, _ => []
  | n + 1, cs => takeR sz cs :: chunks sz n (dropR sz cs)
/-- A part of an array as a slice: the array can't be written any more. -/
def sliceArrF (n sz : Nat) (a : T → AV) (lo hi : T → Option AV) : SFn := fun t g =>
  match boundOf n n (hi t) with
  | none => .fail
  | some h => match boundOf 0 h (lo t) with
    | none => .fail
    | some l => match a t with
      | .tptr tag _ rows i off => match nthR i rows with
        | some row => bif' (Nat.ble (off + n * sz) (lenR row)) (.val (.tsl tag sz (chunks sz (h - l) (dropR (off + l * sz) row)))) .fail
        | none => .fail
      | .hptr id ep i off => match g.get id with
        | .cells sz' rows ep' loose _ => bif' (Nat.beq ep ep') (match nthR i rows with
          | some row => bif' (Nat.ble (off + n * sz) (lenR row))
            ((fun rs => match tagRows rs with
              | some m => .upd (.tsl m sz rs) (g.put id (.cells sz' rows ep' loose true))
              | none => .fail) (chunks sz (h - l) (dropR (off + l * sz) row))) .fail
          | none => .fail) .fail
        | _ => .fail
      | _ => .fail

/-- One simple operation. -/
def cSop (C : Cfg) : Op → Option (Stg SFn)
  | .move x | .assign x => match cRho C x with | some a => some ⟨fun t _ => .val (a.run t)⟩ | none => none
  | .pick c a b => match cRho C c, cRho C a, cRho C b with
    | some c, some a, some b => some ⟨fun t _ => match c.run t with | .bool q => bif' q (.val (a.run t)) (.val (b.run t)) | _ => .fail⟩
    | _, _, _ => none
  | .alloc ty => match zeroT C.P ty with
    | some cs => some ⟨allocF cs⟩
    | none => none
  | .box _ x => match cRho C x with
    | some a => some ⟨boxF a.run⟩
    | none => none
  | .build ty parts => match zeroT C.P ty, cRhos C (parts.toList.map (·.2)) with
    | some zero, some vs =>
      match C.P.underlying ty with
      | some (.struct fs) => match mapO (fun f : Field => match szT C.P f.type with | some n => some (f.offset, n) | none => none) fs.toList with
        | some places => match mapO (fun i => places[i]?) (parts.toList.map (·.1)) with
          | some pl => some ⟨buildF zero pl vs.run⟩
          | none => none
        | none => none
      | some (.array _ e) => match szT C.P e with
        | some n => some ⟨buildF zero ((parts.toList.map (·.1)).map fun i => (i * n, n)) vs.run⟩
        | none => none
      | _ => none
    | _, _ => none
  | .buildSlice ty len parts => match elemT C.P ty, cRhos C (parts.toList.map (·.2)) with
    | some e, some vs => match szT C.P e, zeroT C.P e with
      | some sz, some zero => bif' (Nat.beq (lenR zero) sz && Nat.blt 0 sz && Nat.ble (len * sz) 1048576)
        (some ⟨buildSliceF sz len (repl len zero) (parts.toList.map (·.1)) vs.run⟩) none
      | _, _ => none
    | _, _ => none
  | .load ty a => match cRho C a, aggT C.P ty, szT C.P ty with
    | some a, some ag, some n => some ⟨loadF ag n a.run⟩
    | _, _, _ => none
  | .store ty a x => match cRho C a, cRho C x, szT C.P ty with
    | some a, some x, some n => some ⟨storeF n a.run x.run⟩
    | _, _, _ => none
  | .nilCheck x => match cRho C x with
    | some a => some ⟨fun t _ => match a.run t with
      | .tptr l sz rows i off => .val (.tptr l sz rows i off)
      | .hptr id ep i off => .val (.hptr id ep i off)
      | .clo f a c => .val (.clo f a c)
      | .yld id => .val (.yld id)
      | _ => .fail⟩
    | none => none
  | .binOp op ty x y _ => match cRho C x, cRho C y with
    | some a, some b => some ⟨fun t _ => (binA C.P op ty).run (a.run t) (b.run t)⟩
    | _, _ => none
  | .unOp op _ x => match cRho C x with
    | some a => some ⟨fun t _ => (unA op).run (a.run t)⟩
    | none => none
  | .convert src dst x => match cRho C x, C.P.underlying src, C.P.underlying dst with
    | some a, some _, some (.int k) => some ⟨fun t _ => match a.run t with | .int _ n => .val (.int k (wrapF k n)) | _ => .fail⟩
    | _, _, _ => none
  | .makeInterface ty x => match cRho C x, C.P.underlying ty with
    | some _, some (.interface _) => none
    | some a, some _ => some ⟨fun t _ => .val (.ifc ty (a.run t))⟩
    | _, _ => none
  | .makeFunc (.func f) first captured => match cRhos C first.toList, cRhos C captured.toList with
    | some a, some c => some ⟨fun t _ => .val (.clo f (a.run t) (c.run t))⟩
    | _, _ => none
  | .makeMap ty none => match C.P.underlying ty with
    | some (.map _ _) => some ⟨fun _ g => .upd (.hmap g.nx) (g.new (.map []))⟩
    | _ => none
  | .makeSlice ty l c => match elemT C.P ty, cRho C l, cRho C c with
    | some e, some l, some c => match szT C.P e, bytesT C.P e, zeroT C.P e with
      | some sz, some bytes, some zero => bif' (Nat.beq (lenR zero) sz && Nat.blt 0 sz) (some ⟨makeSliceF sz bytes zero l.run c.run⟩) none
      | _, _, _ => none
    | _, _, _ => none
  | .slice ty x lo hi none => match C.P.underlying ty, cRho C x, cRhos C lo.toList, cRhos C hi.toList with
    | some (.slice e), some x, some l, some h => match szT C.P e with
      | some sz => some ⟨fun t g => orV (sliceA sz (x.run t) (l.run t).head? (h.run t).head? none g.h)⟩
      | none => none
    | some (.array n e), some x, some l, some h => match szT C.P e with
      | some (sz + 1) => some ⟨sliceArrF n (sz + 1) x.run (fun t => (l.run t).head?) (fun t => (h.run t).head?)⟩
      | _ => none
    | _, _, _, _ => none
  | .slice ty x lo (some hi) (some mx) => match elemT C.P ty, cRho C x, cRhos C lo.toList, cRho C hi, cRho C mx with
    | some e, some x, some l, some h, some m => match szT C.P e with
      | some sz => some ⟨fun t g => orV (sliceA sz (x.run t) (l.run t).head? (some (h.run t)) (some (m.run t)) g.h)⟩
      | none => none
    | _, _, _, _, _ => none
  | .fieldAddr ty x f => match cRho C x, fieldT C.P ty f with
    | some a, some (fo, ft) => match szT C.P ft with
      | some (_ + 1) => some ⟨fieldAddrF fo a.run⟩
      | _ => none
    | _, _ => none
  | .field ty x f => match cRho C x, fieldT C.P ty f with
    | some a, some (fo, ft) => match aggT C.P ft, szT C.P ft with
      | some ag, some n => some ⟨fun t _ => match a.run t with | .agg cs => orV (getPart ag n cs fo) | _ => .fail⟩
      | _, _ => none
    | _, _ => none
  | .indexAddr ty x ix => match cRho C x, cRho C ix with
    | some a, some i => match C.P.underlying ty with
      | some (.slice e) => match szT C.P e with
        | some sz => some ⟨indexSlF sz a.run i.run⟩
        | none => none
      | some (.array n e) => match szT C.P e with
        | some sz => some ⟨indexArF n sz a.run i.run⟩
        | none => none
      | _ => none
    | _, _ => none
  | .index ty x ix => match cRho C x, cRho C ix with
    | some a, some i => match C.P.underlying ty with
      | some (.array n e) => match aggT C.P e, szT C.P e with
        | some ag, some sz => some ⟨indexF ag n sz a.run i.run⟩
        | _, _ => none
      | some .string => some ⟨indexStrF a.run i.run⟩
      | _ => none
    | _, _ => none
  | .lookup ty x k ok => match cRho C x, cRho C k, C.P.underlying ty with
    | some m, some k, some (.map kt et) => match zeroA C.P et with
      | some z => some ⟨lookupF (keyKind C.P kt) z ok m.run k.run⟩
      | none => none
    | _, _, _ => none
  | .mapUpdate ty m k x | .insert ty m k x => match cRho C m, cRho C k, cRho C x, C.P.underlying ty with
    | some m, some k, some x, some (.map kt _) => some ⟨mapUpdateF (keyKind C.P kt) m.run k.run x.run⟩
    | _, _, _, _ => none
  | .mapEntry ty m k => match cRho C m, cRho C k, C.P.underlying ty with
    | some m, some k, some (.map kt et) => match zeroA C.P et with
      | some z => some ⟨mapEntryF (keyKind C.P kt) z m.run k.run⟩
      | none => none
    | _, _, _ => none
  | .entryStore _ m st x => match cRho C m, cRho C st, cRho C x with
    | some m, some st, some x => some ⟨entryStoreF m.run st.run x.run⟩
    | _, _, _ => none
  | .extract x i => match cRho C x with
    | some a => some ⟨fun t _ => match a.run t with | .tup vs => orV (nthR i vs) | _ => .fail⟩
    | none => none
  | .call { callee := .builtin b, args, argTypes } => cBuiltin C b argTypes args.toList
  | _ => none

/-! Copies out of the heap -/

/-- A value without references into the heap: what it leads to is copied into trees. -/
def snap (h : H) (tag : Nat) : Nat → AV → Option AV
  | 0, _ => none
  | f + 1, v => match v with
    | .agg cs => match mapO (snap h tag f) cs with | some as => some (.agg as) | none => none
    | .tup cs => match mapO (snap h tag f) cs with | some as => some (.tup as) | none => none
    | .clo g a c => match mapO (snap h tag f) a, mapO (snap h tag f) c with
      | some as, some cs => some (.clo g as cs)
      | _, _ => none
    | .ifc t x => match snap h tag f x with | some a => some (.ifc t a) | none => none
    | .hsl id ep off len _ => match h.get id with
      | .cells sz rows ep' _ _ => bif' (Nat.beq ep ep' && Nat.ble (off + len) (lenR rows))
        (match mapO (mapO (snap h tag f)) (takeR len (dropR off rows)) with
         | some rs => match tagRows rs with
           | some m => some (.tsl (Nat.max tag m) sz rs)
           | none => none
         | none => none) none
      | _ => none
    | .hptr id ep i off => match h.get id with
      | .cells sz rows ep' _ _ => bif' (Nat.beq ep ep')
        (match mapO (mapO (snap h tag f)) rows with
         | some rs => match tagRows rs with
           | some m => some (.tptr (Nat.max tag m) sz rs i off)
           | none => none
         | none => none) none
      | _ => none
    | .hmap _ => none
    | .yld _ => none
    | v => some v

/-- The objects that 'snap' looks at. -/
def snapIds (h : H) : Nat → AV → List Nat
  | 0, _ => []
  | f + 1, v => match v with
    | .agg cs => cs.flatMap (snapIds h f)
    | .tup cs => cs.flatMap (snapIds h f)
    | .clo _ a c => a.flatMap (snapIds h f) ++ c.flatMap (snapIds h f)
    | .ifc _ x => snapIds h f x
    | .hsl id _ off len _ => id :: (match h.get id with
      | .cells _ rows _ _ _ => (takeR len (dropR off rows)).flatMap (·.flatMap (snapIds h f))
      | _ => [])
    | .hptr id _ _ _ => id :: (match h.get id with
      | .cells _ rows _ _ _ => rows.flatMap (·.flatMap (snapIds h f))
      | _ => [])
    | _ => []

/-- Takes the tag d off: what was lent has become unwritable. -/
def untag (d : Nat) : Nat → AV → Option AV
  | 0, _ => none
  | f + 1, v => match v with
    | .tsl t sz rows => bif' (Nat.beq t d) (match mapO (mapO (untag d f)) rows with
      | some rs => match tagRows rs with
        | some m => some (.tsl m sz rs)
        | none => none
      | none => none) (some v)
    | .tptr t sz rows i off => bif' (Nat.beq t d) (match mapO (mapO (untag d f)) rows with
      | some rs => match tagRows rs with
        | some m => some (.tptr m sz rs i off)
        | none => none
      | none => none) (some v)
    | .agg cs => match mapO (untag d f) cs with | some as => some (.agg as) | none => none
    | .tup cs => match mapO (untag d f) cs with | some as => some (.tup as) | none => none
    | .clo g a c => match mapO (untag d f) a, mapO (untag d f) c with
      | some as, some cs => some (.clo g as cs)
      | _, _ => none
    | .ifc t x => match untag d f x with | some a => some (.ifc t a) | none => none
    | v => some v

/-- Marks objects as unwritable. -/
def freezeIds (g : G) : List Nat → G
  | [] => g
  | i :: is => match g.get i with
    | .cells sz rows ep loose _ => freezeIds (g.put i (.cells sz rows ep loose true)) is
    | _ => freezeIds g is

/-! Calls -/

/-- A call in a heap of its own. -/
def isoCall (ih : IH) (d : Nat) (g : G) (f : Nat) (args : List AV) : OR :=
  match mapO (snap g.h d depthA) args with
  | none => .fail
  | some as => match ih.call (Nat.succ d) f as G.empty with
    | .fail => .fail
    | .ok r g' => match snap g'.h 0 depthA r with
      | none => .fail
      | some r' => match tagO depthA r' with
        | none => .fail
        | some m => bif' (Nat.blt m d) (.val r')
          (match untag d depthA r' with
           | none => .fail
           | some r'' => match tagO depthA r'' with
             | none => .fail
             | some m' => bif' (Nat.blt m' d) (.upd r'' (freezeIds g (args.flatMap (snapIds g.h depthA)))) .fail)

def setParams : T → Nat → List Nat → List AV → Option T
  | t, _, [], [] => some t
  | t, nt, p :: ps, v :: vs => bif' (Nat.blt p nt) (setParams ((sp AV.undef p).run t v) nt ps vs) none
  | _, _, _, _ => none

/-- One round of a loop over a function. -/
def roundA (ih : IH) (d : Nat) (id : Nat) (args : List AV) (g : G) : OR :=
  match g.get id with
  | .loop nt t ps assign body _ _ _ => match setParams t nt ps args with
    | none => .fail
    | some t' => match ih.code nt d (some id) assign t' [] g with
      | .ok .norm t1 [] g1 => match g1.get id with
        | .loop nt1 t ps assign1 body1 dfr .ready pend =>
          match ih.code nt d (some id) body t1 [] (g1.put id (.loop nt1 t ps assign1 body1 dfr .busy pend)) with
          | .ok e _ [] g2 => match g2.get id with
            | .loop nt t ps assign body dfr _ _ => match e with
              | .norm => .upd (.bool true) (g2.put id (.loop nt t ps assign body dfr .ready none))
              | .exit j => .upd (.bool false) (g2.put id (.loop nt t ps assign body dfr .done (some (.exit j))))
              | .ret => .upd (.bool false) (g2.put id (.loop nt t ps assign body dfr .done (some .ret)))
            | _ => .fail
          | _ => .fail
        | _ => .fail
      | _ => .fail
  | _ => .fail

def orF : FR → OR
  | .ok v g => .upd v g
  | .fail => .fail

/-- A call of a value. -/
def callF (C : Cfg) (ih : IH) (d : Nat) (fv : AV) (vs : List AV) (g : G) : OR :=
  match fv with
  | .clo f first cap => match C.ext f with
    | some e => e d (first ++ (vs ++ cap)) g
    | none => bif' (C.iso f) (isoCall ih d g f (first ++ (vs ++ cap))) (orF (ih.call d f (first ++ (vs ++ cap)) g))
  | .yld id => roundA ih d id vs g
  | _ => .fail

/-- One operation. -/
def cOp (C : Cfg) : Op → Option (Stg OpFn)
  | .call { callee := .value (.func f), args, .. } => match cRhos C args.toList with
    | some vs => match C.ext f with
      | some e => some ⟨fun _ d _ t g => e d (vs.run t) g⟩
      | none => bif' (C.iso f) (some ⟨fun ih d _ t g => isoCall ih d g f (vs.run t)⟩) (some ⟨fun ih d _ t g => orF (ih.call d f (vs.run t) g)⟩)
    | none => none
  | .call { callee := .value fo, args, .. } => match cRho C fo, cRhos C args.toList with
    | some fv, some vs => some ⟨fun ih d _ t g => callF C ih d (fv.run t) (vs.run t) g⟩
    | _, _ => none
  | .call { callee := .builtin .recover, .. } => some ⟨fun _ _ _ _ _ => .val .nili⟩
  | .defer { callee := .value fo, args, .. } => match cRho C fo, cRhos C args.toList with
    | some fv, some vs => some ⟨fun _ _ rd t _ => match rd with
      | some _ => .fail
      | none => match fv.run t with
        | .clo f first cap => .dfr (.call (.clo f [] cap) (first ++ vs.run t))
        | _ => .fail⟩
    | _, _ => none
  | op => match cSop C op with
    | some s => some ⟨fun _ _ _ t g => s.run t g⟩
    | none => none

/-- One operation; what isn't served fails where it is met. -/
def cOpT (C : Cfg) (op : Op) : Stg OpFn :=
  match cOp C op with
  | some f => f
  | none => ⟨fun _ _ _ _ _ => .fail⟩

/-- What an operation looks at: objects; maps of which it asks a value alone (with the map's type); maps in which it makes an entry ready (likewise); whether it may look at all. -/
structure Looks where
  rd : List Nat
  sr : List (Nat × Nat)
  soft : List (Nat × Nat)
  big : Bool

def refIds : AV → List Nat
  | .hptr id _ _ _ => [id]
  | .hsl id _ _ _ _ => [id]
  | .hmap id => [id]
  | _ => []
/-- What 'len' and 'clear' look at. -/
def refIdsL : AV → List Nat
  | .hmap id => [id]
  | _ => []
def refIdsC : AV → List Nat
  | .hsl id _ _ (_ + 1) _ => [id]
  | _ => []
/-- What a builtin looks at of an argument. -/
def refOf (C : Cfg) (b : Builtin) (argTypes : Array TypeId) : AV → List Nat :=
  match b with
  | .len => match argTypes[0]? with
    | some t => match lenKind C.P t with
      | .map => refIdsL
      | _ => fun _ => []
    | none => fun _ => []
  | .clear => refIdsC
  | _ => refIds
def noLook : Looks := ⟨[], [], [], false⟩
def bigLook : Looks := ⟨[], [], [], true⟩
def rdLook (l : List Nat) : Looks := ⟨l, [], [], false⟩
def cFoot (C : Cfg) (op : Op) : Stg (T → G → Looks) :=
  match op with
  | .load _ a | .store _ a _ | .slice _ a _ _ _ | .lookup _ a _ true | .mapUpdate _ a _ _ | .insert _ a _ _ | .entryStore _ a _ _ => match cRho C a with
    | some a => ⟨fun t _ => rdLook (refIds (a.run t))⟩
    | none => ⟨fun _ _ => bigLook⟩
  | .lookup ty a _ false => match cRho C a with
    | some a => ⟨fun t _ => ⟨[], (refIds (a.run t)).map (·, ty), [], false⟩⟩
    | none => ⟨fun _ _ => bigLook⟩
  | .mapEntry ty a _ => match cRho C a with
    | some a => ⟨fun t _ => ⟨refIds (a.run t), [], (refIds (a.run t)).map (·, ty), false⟩⟩
    | none => ⟨fun _ _ => bigLook⟩
  | .indexAddr ty a _ => match C.P.underlying ty, cRho C a with
    | some (.slice _), some a => ⟨fun t _ => rdLook (refIds (a.run t))⟩
    | _, _ => ⟨fun _ _ => noLook⟩
  | .call { callee := .builtin b, args, argTypes } => match cRhos C args.toList with
    | some vs => ⟨fun t _ => rdLook ((vs.run t).flatMap (refOf C b argTypes))⟩
    | none => ⟨fun _ _ => bigLook⟩
  | .call { callee := .value fo, args, .. } => match cRho C fo, cRhos C args.toList with
    | some fv, some vs => ⟨fun t g => match fv.run t with
      | .clo f first cap => bif' ((C.ext f).isSome || C.iso f) (rdLook ((first ++ (vs.run t ++ cap)).flatMap (snapIds g.h depthA))) bigLook
      | _ => bigLook⟩
    | _, _ => ⟨fun _ _ => bigLook⟩
  | .defer _ => ⟨fun _ _ => bigLook⟩
  | _ => ⟨fun _ _ => noLook⟩

/-- What an operation has looked at and set. -/
structure Foot where
  lk : Looks
  wr : List Nat

/-- A region's run. -/
abbrev RFn := IH → Nat → Option Nat → T → List ADf → G → CR

def outS (nt : Nat) : Option Nat → Option (Stg (T → AV → T))
  | none => some ⟨fun t _ => t⟩
  | some d => bif' (Nat.blt d nt) (some (sp AV.undef d)) none

/-- A guard: whether it lets the operation run. -/
def cGuard (ops : List Oper) : Option (Nat × Bool) → Option (Stg (T → Option Bool))
  | none => some ⟨fun _ => some true⟩
  | some (j, want) => match ops[j]? with
    | some oj => match oj.dst with
      | some d => some ⟨fun t => match (gp AV.undef d).run t with
        | .bool b => some (bif' want b (notb b))
        | .tup _ => some false
        | _ => none⟩
      | none => none
    | none => none

/-- After an operation. -/
def thenOp (out : T → AV → T) (next : T → List ADf → G → CR) (t : T) (df : List ADf) (g : G) : OR → CR
  | .fail => .fail
  | .val v => next (out t v) df g
  | .upd v g' => next (out t v) df g'
  | .dfr a => next (out t .undef) (a :: df) g

def failR : Stg RFn := ⟨fun _ _ _ _ _ _ => .fail⟩
def cOps (C : Cfg) (nt : Nat) (all : List Oper) : List Oper → Stg RFn
  | [] => ⟨fun _ _ _ t df g => .ok .norm t df g⟩
  | o :: rest => match outS nt o.dst with
    | some out => match o.guard with
      | none => ⟨fun ih d rd t df g => thenOp out.run ((cOps C nt all rest).run ih d rd) t df g ((cOpT C o.op).run ih d rd t g)⟩
      | some gd => match cGuard all (some gd) with
        | some q => ⟨fun ih d rd t df g => match q.run t with
          | some true => thenOp out.run ((cOps C nt all rest).run ih d rd) t df g ((cOpT C o.op).run ih d rd t g)
          | some false => (cOps C nt all rest).run ih d rd (out.run t .undef) df g
          | none => .fail⟩
        | none => failR
    | none => failR

/-! Regions that draw their order -/

/-- For each operation the set of those that stand before it in every order. -/
def predMasks : List Oper → List Nat → List Nat
  | [], acc => acc
  | o :: rest, acc =>
    predMasks rest (acc ++ [o.after.toList.foldl (fun m e => bif' (Region.binds .any e) (m ||| 2 ^ e.on ||| acc.getD e.on 0) m) 0])
def slotsOf (ops : List Oper) (o : Oper) : List Nat :=
  (o.op.operands.toList.filterMap fun | .tmp t => some t | _ => none) ++
  (match o.guard with
   | some (g, _) => match ops[g]? with | some og => og.dst.toList | none => []
   | none => [])
def slotsApart (ops : List Oper) (x y : Oper) : Bool :=
  (match x.dst with | some d => !(slotsOf ops y).contains d && y.dst != some d | none => true) &&
  (match y.dst with | some d => !(slotsOf ops x).contains d | none => true)
def meets (a b : List Nat) : Bool := a.any fun x => b.contains x
def fst1 (l : List (Nat × Nat)) : List Nat := l.map (·.1)
def pairIn (p : Nat × Nat) : List (Nat × Nat) → Bool
  | [] => false
  | q :: r => bif' (Nat.beq p.1 q.1 && Nat.beq p.2 q.2) true (pairIn p r)
/-- x may stand before y as well as behind it, as far as x's writes go. -/
def footFree (x y : Foot) : Bool :=
  match x.wr with
  | [] => true
  | _ => !y.lk.big && !meets x.wr y.wr && !meets x.wr y.lk.rd && !meets x.wr (fst1 y.lk.sr)
/-- The same where x stands behind y in the text; that x makes an entry ready of which y asks the value does no harm. -/
def footFreeS (x y : Foot) : Bool :=
  match x.wr with
  | [] => true
  | _ => !y.lk.big && !meets x.wr y.wr && !meets x.wr y.lk.rd && (!meets x.wr (fst1 y.lk.sr) || y.lk.sr.all fun p => pairIn p x.lk.soft)
def footsApart (x y : Foot) : Bool := footFree x y && footFreeS y x
/-- At most one operation behind x, not bound to it, turns a map of which x asks a value. -/
def softCount (pm : List Nat) (i : Nat) (x : Foot) : Nat → List Foot → Nat
  | _, [] => 0
  | j, y :: r => bif' ((pm.getD j 0).testBit i || !meets y.wr (fst1 x.lk.sr)) (softCount pm i x (Nat.succ j) r) (Nat.succ (softCount pm i x (Nat.succ j) r))
def softOnce (pm : List Nat) : Nat → List Foot → Bool
  | _, [] => true
  | i, x :: r => bif' (match x.lk.sr with | [] => true | _ => Nat.ble (softCount pm i x (Nat.succ i) r) 1) (softOnce pm (Nat.succ i) r) false
def allPairsFrom {α : Type} (f : Nat → α → Nat → α → Bool) (i : Nat) (x : α) : Nat → List α → Bool
  | _, [] => true
  | j, y :: r => f i x j y && allPairsFrom f i x (j + 1) r
def allPairs {α : Type} (f : Nat → α → Nat → α → Bool) : Nat → List α → Bool
  | _, [] => true
  | i, x :: rest => allPairsFrom f i x (i + 1) rest && allPairs f (i + 1) rest
def edgesBack : Nat → List Oper → Bool
  | _, [] => true
  | i, o :: r => (o.after.toList.all fun e => !Region.binds .any e || Nat.blt e.on i) && edgesBack (i + 1) r
def guardsBack (pm : List Nat) : Nat → List Oper → Bool
  | _, [] => true
  | i, o :: r => (match o.guard with | none => true | some (j, _) => (pm.getD i 0).testBit j) && guardsBack pm (i + 1) r
def orderOk (ops : List Oper) : Bool :=
  let pm := predMasks ops []
  edgesBack 0 ops && guardsBack pm 0 ops && allPairs (fun i x j y => (pm.getD j 0).testBit i || slotsApart ops x y) 0 ops
def footsOk (pm : List Nat) (fs : List Foot) : Bool :=
  bif' (allPairs (fun i x j y => (pm.getD j 0).testBit i || footsApart x y) 0 fs) (softOnce pm 0 fs) false
/-- No operation that may set an object. -/
def quietOp (C : Cfg) : Op → Bool
  | .alloc _ | .box .. | .buildSlice .. | .store .. | .makeSlice .. | .makeMap .. | .mapUpdate .. | .insert .. | .mapEntry .. | .entryStore .. | .defer _ => false
  | .call { callee := .builtin .append, .. } | .call { callee := .builtin .copy, .. } | .call { callee := .builtin .clear, .. } => false
  | .slice ty _ _ _ _ => match C.P.underlying ty with | some (.slice _) => true | _ => false
  | .call { callee := .value (.func f), .. } => (C.ext f).isSome || C.iso f
  | .call { callee := .value _, .. } => false
  | _ => true

/-- One operation after the other, with what each has read and set. -/
abbrev FtFn := IH → Nat → Option Nat → T → List ADf → G → List Foot → CR

def setLog (g : G) (lg : List Nat) : G := @G.rec (fun _ => G) (fun h nx _ => ⟨h, nx, lg⟩) g

/-- After an operation of such a region one number is left out. -/
def bumpG (g : G) (lg : List Nat) : G := @G.rec (fun _ => G) (fun h nx _ => ⟨h, Nat.succ nx, lg⟩) g
def thenFoot (out : T → AV → T) (next : T → List ADf → G → List Foot → CR) (t : T) (df : List ADf) (g : G) (fs : List Foot) (lk : Looks) : OR → CR
  | .fail => .fail
  | .val v => next (out t v) df (bumpG g g.lg) (⟨lk, []⟩ :: fs)
  | .upd v g' => next (out t v) df (bumpG g' (g'.lg ++ g.lg)) (⟨lk, g'.lg⟩ :: fs)
  | .dfr _ => .fail

def cFeet (C : Cfg) (nt : Nat) (pm : List Nat) (all : List Oper) : Nat → List Oper → Stg FtFn
  | _, [] => ⟨fun _ _ _ t df g fs => bif' (footsOk pm fs.reverse) (.ok .norm t df g) .fail⟩
  | i, o :: rest => match outS nt o.dst, cGuard all o.guard with
    | some out, some q => ⟨fun ih d rd t df g fs => match q.run t with
          | some true => thenFoot out.run ((cFeet C nt pm all (i + 1) rest).run ih d rd) t df g fs ((cFoot C o.op).run t g) ((cOpT C o.op).run ih d rd t (setLog g []))
          | some false => (cFeet C nt pm all (i + 1) rest).run ih d rd (out.run t .undef) df g (⟨noLook, []⟩ :: fs)
          | none => .fail⟩
    | _, _ => ⟨fun _ _ _ _ _ _ _ => .fail⟩

/-- A quiet region must leave the log as it was. -/
def quietEnd (g0 : G) : CR → CR
  | .ok e t df g => match g.lg with | [] => bif' (Nat.beq g.nx g0.nx) (.ok e t df g0) .fail | _ => .fail
  | .fail => .fail

def cRegion (C : Cfg) (nt : Nat) (ops : List Oper) (draw : Bool) : Stg RFn :=
  bif' draw
    (bif' (orderOk ops)
      (bif' (ops.all fun o => quietOp C o.op)
        ⟨fun ih d rd t df g => quietEnd g ((cOps C nt ops ops).run ih d rd t df (setLog g []))⟩
        ⟨fun ih d rd t df g => (cFeet C nt (predMasks ops []) ops 0 ops).run ih d rd t df g []⟩) failR)
    (cOps C nt ops ops)

/-! Code -/

/-- The end of a loop over a function. -/
def rangeEnd (ih : IH) (nt d : Nat) (rd : Option Nat) (id : Nat) (t : T) (df : List ADf) (g2 : G) : CR :=
  match g2.get id with
  | .loop nt' t' ps assign body dfr st pend => match st with
    | .busy => .fail
    | _ => match pend with
      | none => .ok .norm t df (g2.put id (.loop nt' t' ps assign body dfr .exhausted pend))
      | some c => ih.code nt d rd c t df (g2.put id (.loop nt' t' ps assign body dfr .exhausted pend))
  | _ => .fail
def rangeCall (C : Cfg) (ih : IH) (nt d : Nat) (rd : Option Nat) (fv : AV) (ps : List Nat) (assign body : Code) (t : T) (df : List ADf) (dfr : Nat) (g : G) : CR :=
  match fv with
  | .clo f first cap => bif' (C.ext f).isSome .fail
    (match ih.call d f (first ++ (.yld g.nx :: cap)) (g.new (.loop nt t ps assign body dfr .ready none)) with
    | .ok _ g2 => rangeEnd ih nt d rd g.nx t df g2
    | .fail => .fail)
  | _ => .fail
def rangeF (C : Cfg) (nt : Nat) (fo : T → AV) (ps : List Nat) (assign body : Code) : RFn := fun ih d rd t df g =>
  match rd with
  | some l => match g.get l with
    | .loop _ _ _ _ _ dfr _ _ => rangeCall C ih nt d rd (fo t) ps assign body t df dfr g
    | _ => .fail
  | none => rangeCall C ih nt d rd (fo t) ps assign body t (.mark g.nx :: df) g.nx (g.new (.dfr true))

def seqC (k : T → List ADf → G → CR) : CR → CR
  | .ok .norm t df g => k t df g
  | r => r
def blockC (id : Nat) : CR → CR
  | .ok (.exit j) t df g => bif' (Nat.beq j id) (.ok .norm t df g) (.ok (.exit j) t df g)
  | r => r

def cCode (C : Cfg) (nt : Nat) : Code → Stg RFn
  | .skip => ⟨fun _ _ _ t df g => .ok .norm t df g⟩
  | .label _ => ⟨fun _ _ _ t df g => .ok .norm t df g⟩
  | .region _ ops draw => cRegion C nt ops.toList draw
  | .seq a b => ⟨fun ih d rd t df g => seqC ((cCode C nt b).run ih d rd) ((cCode C nt a).run ih d rd t df g)⟩
  | .cond c a b => match cRho C c with
    | some q => ⟨fun ih d rd t df g => match q.run t with
      | .bool v => bif' v ((cCode C nt a).run ih d rd t df g) ((cCode C nt b).run ih d rd t df g)
      | _ => .fail⟩
    | none => failR
  | .block id body => ⟨fun ih d rd t df g => blockC id ((cCode C nt body).run ih d rd t df g)⟩
  | .loop body => ⟨fun ih d rd t df g => seqC (fun t df g => ih.code nt d rd (.loop body) t df g) ((cCode C nt body).run ih d rd t df g)⟩
  | .scope body => cCode C nt body
  | .exit id => ⟨fun _ _ _ t df g => .ok (.exit id) t df g⟩
  | .ret => ⟨fun _ _ _ t df g => .ok .ret t df g⟩
  | .rangeFunc f ps assign body => match cRho C f with
    | some a => ⟨rangeF C nt a.run ps.toList assign body⟩
    | none => failR
  | _ => failR

def codeStep (C : Cfg) (ih : IH) (nt d : Nat) (rd : Option Nat) (c : Code) (t : T) (df : List ADf) (g : G) : CR :=
  (cCode C nt c).run ih d rd t df g

/-! Functions -/

/-- The deferred calls. -/
def runDf (ih : IH) (d : Nat) : List ADf → G → Option G
  | [], g => some g
  | .mark id :: ds, g => match g.get id with
    | .dfr true => runDf ih d ds (g.put id (.dfr false))
    | _ => none
  | .call (.clo f first cap) args :: ds, g => match ih.call d f (first ++ (args ++ cap)) g with
    | .ok _ g' => runDf ih d ds g'
    | .fail => none
  | .call _ _ :: _, _ => none

def cRes (C : Cfg) : List ResultVar → Option (Stg (T → G → Option (List AV)))
  | [] => some ⟨fun _ _ => some []⟩
  | .tmp n :: rs => match cRes C rs with
    | some k => some ⟨fun t g => match k.run t g with | some vs => some ((gp AV.undef n).run t :: vs) | none => none⟩
    | none => none
  | .cell a ty :: rs => match cRes C rs, cSop C (.load ty (.tmp a)) with
    | some k, some l => some ⟨fun t g => match l.run t g with
      | .val v => (match k.run t g with | some vs => some (v :: vs) | none => none)
      | _ => none⟩
    | _, _ => none

def ofArgs : Nat → List AV → T → T
  | _, [], t => t
  | i, v :: vs, t => ofArgs (i + 1) vs ((sp AV.undef i).run t v)

def oneOrTup : List AV → AV
  | [v] => v
  | vs => .tup vs

def endCall (ih : IH) (d : Nat) (res : T → G → Option (List AV)) (t : T) (df : List ADf) (g : G) : FR :=
  match runDf ih d df g with
  | none => .fail
  | some g' => match res t g' with
    | some vs => .ok (oneOrTup vs) g'
    | none => .fail

def cFn (C : Cfg) (f : Nat) : Option (Stg (IH → Nat → List AV → G → FR)) :=
  match C.P.funcs[f]? with
  | none => none
  | some fn => match fn.body with
    | none => none
    | some c => match cRes C fn.results.toList with
      | some r => bif' (fn.name == "runtime.NumGoroutine") none
        (some ⟨fun ih d args g => bif' (Nat.ble (lenR args) fn.ntmps)
          (match (cCode C fn.ntmps c).run ih d none (ofArgs 0 args .nil) [] g with
           | .ok (.exit _) _ _ _ => .fail
           | .ok _ t df g' => endCall ih d r.run t df g'
           | .fail => .fail) .fail⟩)
      | none => none

def callStep (C : Cfg) (ih : IH) (d f : Nat) (args : List AV) (g : G) : FR :=
  match cFn C f with
  | some x => x.run ih d args g
  | none => .fail

def IH.zero : IH := ⟨fun _ _ _ _ _ _ _ => .fail, fun _ _ _ _ => .fail⟩
def stepIH (C : Cfg) (ih : IH) : IH := ⟨codeStep C ih, callStep C ih⟩
def sem (C : Cfg) (n : Nat) : IH := @Nat.rec (fun _ => IH) IH.zero (fun _ ih => stepIH C ih) n

end
end Hx
