/- A part of the proof: an interpreter over abstract values, shown right against the model, and what the functions of the chapter compute on it. -/
import GoSem.Step
import Derived.RangeFuncIn
import Derived.Laws.Sem
set_option linter.unusedVariables false
set_option linter.unusedSimpArgs false
set_option linter.unnecessarySimpa false
section
namespace Hx
open Go
noncomputable section
inductive AV where
 | bool (b:Bool)
 | int (k:IntKind) (n:Int)
 | str (s:ByteArray)
 | tup (vs:List AV)
 | agg (cs:List AV)
 | nilp | nils | nilf | nilm | nili
 | esl
 | tsl (tag:Nat) (sz:Nat) (rows:List (List AV))
 | tptr (tag:Nat) (sz:Nat) (rows:List (List AV)) (i off:Nat)
 | hsl (id ep off len:Nat) (lim:Option Nat)
 | hptr (id ep i off:Nat)
 | clo (f:Nat) (first cap:List AV)
 | hmap (id:Nat)
 | ifc (t:Nat) (v:AV)
 | yld (id:Nat)
 deriving Inhabited
abbrev AV.undef:AV:=.tup []
def AV.cells:AV->List AV
 | .agg cs=>cs
 | v=>[v]
def AV.one:AV->Bool
 | .tup _ | .agg _=>false
 | _=>true
def AV.isTup:AV->Bool
 | .tup _=>true
 | _=>false
structure Stg (α:Type) where
 run:α
abbrev au {α:Type}(b:Bool)(x y:α):α:=@Bool.rec (λ_=>α) y x b
def gZ (b:Bool):Bool:=@Bool.rec (λ_=>Bool) true false b
inductive Tr (α:Type) where
 | nil
 | node (v:α) (l r:Tr α)
def Tr.get {α:Type}(e:α):Tr α->Nat->α
 | .nil,_=>e
 | .node v _ _,0=>v
 | .node _ l r,m+1=>au (Nat.beq (m % 2) 0) (Tr.get e l (m / 2)) (Tr.get e r (m / 2))
def gpF {α:Type}(e:α):Nat->Nat->Stg (Tr α->α)
 | 0,_=>⟨λ_=>e⟩
 | _+1,0=>⟨λt=>@Tr.rec α (λ_=>α) e (λv _ _ _ _=>v) t⟩
 | f+1,m+1=>au (Nat.beq (m % 2) 0)
   ⟨λt=>@Tr.rec α (λ_=>α) e (λ_ l _ _ _=>(gpF e f (m / 2)).run l) t⟩
   ⟨λt=>@Tr.rec α (λ_=>α) e (λ_ _ r _ _=>(gpF e f (m / 2)).run r) t⟩
def gp {α:Type}(e:α)(n:Nat):Stg (Tr α->α):=gpF e (n+1) n
def spF {α:Type}(e:α):Nat->Nat->Stg (Tr α->α->Tr α)
 | 0,_=>⟨λt _=>t⟩
 | _+1,0=>⟨λt x=>@Tr.rec α (λ_=>Tr α) (.node x .nil .nil) (λ_ l r _ _=>.node x l r) t⟩
 | f+1,m+1=>au (Nat.beq (m % 2) 0)
   ⟨λt x=>@Tr.rec α (λ_=>Tr α) (.node e ((spF e f (m / 2)).run .nil x) .nil) (λv l r _ _=>.node v ((spF e f (m / 2)).run l x) r) t⟩
   ⟨λt x=>@Tr.rec α (λ_=>Tr α) (.node e .nil ((spF e f (m / 2)).run .nil x)) (λv l r _ _=>.node v l ((spF e f (m / 2)).run r x)) t⟩
def sp {α:Type}(e:α)(n:Nat):Stg (Tr α->α->Tr α):=spF e (n+1) n
def Tr.put {α:Type}(e:α)(t:Tr α)(n:Nat)(x:α):Tr α:=(sp e n).run t x
def yX {α:Type}(n:Nat):List α->Option α :=
 @Nat.rec (λ_=>List α->Option α) (λl=>@List.rec α (λ_=>Option α) none (λa _ _=>some a) l)
  (λ_ ih l=>@List.rec α (λ_=>Option α) none (λ_ t _=>ih t) l) n
def Fa {α:Type}(n:Nat)(x:α):List α->List α :=
 @Nat.rec (λ_=>List α->List α) (λl=>@List.rec α (λ_=>List α) [] (λ_ t _=>x::t) l)
  (λ_ ih l=>@List.rec α (λ_=>List α) [] (λa t _=>a::ih t) l) n
def aY {α:Type}(l:List α):Nat:=@List.rec α (λ_=>Nat) 0 (λ_ _ n=>Nat.succ n) l
def dZ {α:Type}(n:Nat):List α->List α :=
 @Nat.rec (λ_=>List α->List α) (λl=>l) (λ_ ih l=>@List.rec α (λ_=>List α) [] (λ_ t _=>ih t) l) n
def eO {α:Type}(n:Nat):List α->List α :=
 @Nat.rec (λ_=>List α->List α) (λ_=>[]) (λ_ ih l=>@List.rec α (λ_=>List α) [] (λa t _=>a::ih t) l) n
inductive AObj where
 | none
 | cells (sz:Nat) (rows:List (List AV)) (ep:Nat) (loose fz:Bool)
 | map (es:List (AV×AV))
 | loop (nt:Nat) (t:Tr AV) (ps:List Nat) (assign body:Code) (dfr:Nat) (st:LoopState) (pend:Option Code)
 | dfr (live:Bool)
abbrev T:=Tr AV
abbrev H:=Tr AObj
def H.get (h:H)(i:Nat):AObj:=(gp AObj.none i).run h
def H.put (h:H)(i:Nat)(o:AObj):H:=(sp AObj.none i).run h o
structure G where
 h:H
 nx:Nat
 lg:List Nat
def G.empty:G:=⟨.nil,0,[]⟩
def G.put (g:G)(id:Nat)(o:AObj):G:=@G.rec (λ_=>G) (λh nx lg=>⟨h.put id o,nx,id::lg⟩) g
def G.new (g:G)(o:AObj):G:=@G.rec (λ_=>G) (λh nx lg=>⟨h.put nx o,Nat.succ nx,nx::lg⟩) g
def G.get (g:G)(i:Nat):AObj:=H.get g.h i
inductive ADf where
 | call (f:AV) (args:List AV)
 | mark (id:Nat)
inductive Ex where
 | norm
 | exit (id:Nat)
 | ret
inductive CR where
 | fail
 | ok (e:Ex) (t:T) (df:List ADf) (g:G)
inductive FR where
 | fail
 | ok (v:AV) (g:G)
inductive OR where
 | fail
 | val (v:AV)
 | upd (v:AV) (g:G)
 | dfr (a:ADf)
structure IH where
 code:Nat->Nat->Option Nat->Code->T->List ADf->G->CR
 call:Nat->Nat->List AV->G->FR
structure Cfg where
 P:Program
 iso:Nat->Bool
 ext:Nat->Option (Nat->List AV->G->OR)
 glob:Nat->Option (Nat×List (List AV))
abbrev Ia:=IH->Nat->Option Nat->T->G->OR
section types
variable (P:Program)
def szT (t:TypeId):Option Nat:=(P.info? t).map (·.size)
def ii (t:TypeId):Option Nat:=(P.info? t).map (·.bytes)
def p_ (t:TypeId):Option Bool :=
 match P.underlying t with
 | some (.struct _) | some (.array _ _)=>some true
 | some _=>some false
 | none=>none
def ofV:Value->Option AV
 | .bool b=>some (.bool b)
 | .int k n=>some (.int k n)
 | .string s=>some (.str s)
 | .pointer none=>some .nilp
 | .slice none 0 0=>some .nils
 | .map none=>some .nilm
 | .nilFunc=>some .nilf
 | .nilIface=>some .nili
 | _=>none
def xl:List Value->Option (List AV)
 | []=>some []
 | v::vs=>match ofV v,xl vs with
  | some a,some as=>some (a::as)
  | _,_=>none
def eB (t:TypeId):Option (List AV):=(P.info? t).bind λi=>i.zero.bind λv=>xl v.cells.toList
def wM (t:TypeId):Option AV:=(P.info? t).bind λi=>i.zero.bind λv=>match v with
 | .agg cs=>(xl cs.toList).map .agg
 | v=>ofV v
def jB (t:TypeId):Option TypeId:=match P.underlying t with | some (.slice e)=>some e | _=>none
def qW (t:TypeId)(f:Nat):Option (Nat×TypeId) :=
 match P.underlying t with
 | some (.struct fs)=>match fs[f]? with | some x=>some (x.offset,x.type) | none=>none
 | _=>none
end types
def aE {α β:Type}(f:α->Option β):List α->Option (List β)
 | []=>some []
 | v::vs=>match f v with
  | some a=>match aE f vs with
   | some as=>some (a::as)
   | none=>none
  | none=>none
def aM (C:Cfg):Operand->Option (Stg (T->AV))
 | .tmp n=>some (gp AV.undef n)
 | .const v=>match ofV v with | some a=>some ⟨λ_=>a⟩ | none=>none
 | .global g=>match C.glob g with | some (sz,rows)=>some ⟨λ_=>.tptr 0 sz rows 0 0⟩ | none=>none
 | .func f=>some ⟨λ_=>.clo f [] []⟩
def bC (C:Cfg):List Operand->Option (Stg (T->List AV))
 | []=>some ⟨λ_=>[]⟩
 | x::xs=>match aM C x,bC C xs with
  | some a,some as=>some ⟨λt=>a.run t::as.run t⟩
  | _,_=>none
def rJ (k:IntKind)(n:Int):Int :=
 match k,n with
 | .i64,.ofNat m=>au (Nat.blt m 9223372036854775808) (.ofNat m) (IntKind.wrap .i64 (.ofNat m))
 | .i64,.negSucc m=>au (Nat.blt m 9223372036854775808) (.negSucc m) (IntKind.wrap .i64 (.negSucc m))
 | .u64,.ofNat m=>.ofNat (m % 18446744073709551616)
 | .u8,.ofNat m=>.ofNat (m % 256)
 | k,n=>IntKind.wrap k n
def xi:Int->Int->Bool
 | .ofNat m,.ofNat n=>Nat.blt m n
 | .ofNat _,.negSucc _=>false
 | .negSucc _,.ofNat _=>true
 | .negSucc m,.negSucc n=>Nat.blt n m
def EC:Int->Int->Bool
 | .ofNat m,.ofNat n=>Nat.beq m n
 | .ofNat _,.negSucc _=>false
 | .negSucc _,.ofNat _=>false
 | .negSucc m,.negSucc n=>Nat.beq m n
def oy:Sem Value->Option AV
 | .pure (.int k n)=>some (.int k n)
 | .pure (.bool b)=>some (.bool b)
 | _=>none
def LR (k:IntKind):Int->Int->Option AV
 | .ofNat m,.ofNat (n+1)=>some (.int k (rJ k (.ofNat (m / (n+1)))))
 | a,b=>oy (Op.intDiv .quo k a b)
def LY (k:IntKind):Int->Int->Option AV
 | .ofNat m,.ofNat (n+1)=>some (.int k (.ofNat (m % (n+1))))
 | a,b=>oy (Op.intDiv .rem k a b)
def jU (k:IntKind)(m n:Nat):Bool :=
 match k with
 | .u64=>Nat.blt m 18446744073709551616&&Nat.blt n 18446744073709551616
 | .i64=>Nat.blt m 9223372036854775808&&Nat.blt n 9223372036854775808
 | _=>false
def Mu (op:BinOp)(k:IntKind):Int->Int->Option AV
 | .ofNat m,.ofNat n=>au (jU k m n)
   (match op with
    | .and=>some (.int k (.ofNat (Nat.land m n)))
    | .or=>some (.int k (.ofNat (Nat.lor m n)))
    | .xor=>some (.int k (.ofNat (Nat.xor m n)))
    | .andNot=>some (.int k (.ofNat (Nat.xor m (Nat.land m n))))
    | _=>none)
   (oy (Op.intBits op k (.ofNat m) (.ofNat n)))
 | a,b=>oy (Op.intBits op k a b)
def Km (k:IntKind):Int->Int->Option AV
 | .ofNat m,.ofNat n=>some (.int k (rJ k (.ofNat (m*2 ^ (Nat.min n k.bits)))))
 | a,b=>oy (Op.shift .shl k a k b)
def Kn (k:IntKind):Int->Int->Option AV
 | .ofNat m,.ofNat n=>some (.int k (.ofNat (m / 2 ^ (Nat.min n k.bits))))
 | a,b=>oy (Op.shift .shr k a k b)
def cA:IntKind->IntKind->Bool
 | .i64,.i64=>true
 | .u64,.u64=>true
 | a,b=>decide (a=b)
def ei:BinOp->Stg (IntKind->Int->IntKind->Int->Option AV)
 | .add=>⟨λk a k' b=>au (cA k k') (some (.int k (rJ k (a+b)))) none⟩
 | .sub=>⟨λk a k' b=>au (cA k k') (some (.int k (rJ k (a - b)))) none⟩
 | .mul=>⟨λk a k' b=>au (cA k k') (some (.int k (rJ k (a*b)))) none⟩
 | .quo=>⟨λk a k' b=>au (cA k k') (LR k a b) none⟩
 | .rem=>⟨λk a k' b=>au (cA k k') (LY k a b) none⟩
 | .eql=>⟨λk a k' b=>au (cA k k') (some (.bool (EC a b))) none⟩
 | .neq=>⟨λk a k' b=>au (cA k k') (some (.bool (gZ (EC a b)))) none⟩
 | .lss=>⟨λk a k' b=>au (cA k k') (some (.bool (xi a b))) none⟩
 | .leq=>⟨λk a k' b=>au (cA k k') (some (.bool (gZ (xi b a)))) none⟩
 | .gtr=>⟨λk a k' b=>au (cA k k') (some (.bool (xi b a))) none⟩
 | .geq=>⟨λk a k' b=>au (cA k k') (some (.bool (gZ (xi a b)))) none⟩
 | .shl=>⟨λk a _ b=>Km k a b⟩
 | .shr=>⟨λk a _ b=>Kn k a b⟩
 | op=>⟨λk a k' b=>au (cA k k') (Mu op k a b) none⟩
def lq:TypeDesc->Bool
 | .bool | .int _ | .string=>true
 | _=>false
def tB (P:Program)(rec:TypeId->Option (List TypeDesc)):List Field->Nat->Option (List TypeDesc)
 | [],_=>some []
 | f::fs,k=>match rec f.type with
  | some ds=>match tB P rec fs (k+ds.length) with
   | some r => au ((f.name != "_") && Nat.beq f.offset k && (szT P f.type == some ds.length)) (some (ds ++ r)) none
   | none=>none
  | none=>none
def lz (P:Program):Nat->TypeId->Option (List TypeDesc)
 | 0,_=>none
 | d+1,t=>match P.underlying t with
  | some (.struct fs)=>au (P.stoodInHeld t) none (tB P (lz P d) fs.toList 0)
  | some (.array n e)=>match lz P d e with
   | some ds=>au (szT P e == some ds.length) (some (List.replicate n ds).flatten) none
   | none=>none
  | some d=>au (lq d) (some [d]) none
  | none=>none
def iM (P:Program)(t:TypeId):Option (List TypeDesc) :=
 au (P.eqGuardType P.depth t) none (lz P 8 t)
def mX:TypeDesc->AV->Bool
 | .bool,.bool _=>true
 | .int k,.int k' _=>cA k k'
 | .string,.str _=>true
 | _,_=>false
def cY:List TypeDesc->List AV->Bool
 | [],[]=>true
 | d::ds,v::vs=>au (mX d v) (cY ds vs) false
 | _,_=>false
def mC:AV->AV->Option Bool
 | .int k a,.int k' b=>au (cA k k') (some (EC a b)) none
 | .bool a,.bool b=>some (au a b (gZ b))
 | .str a,.str b=>some (decide (a=b))
 | _,_=>none
def dy:List AV->List AV->Option Bool
 | [],[]=>some true
 | a::as,b::bs=>match mC a b,dy as bs with
  | some x,some y=>some (au x y false)
  | _,_=>none
 | _,_=>none
inductive EqKind where
 | flat (ds:List TypeDesc) | slice | func | bool | iface (empty:Bool) | other
def oP (P:Program)(t:TypeId):EqKind :=
 match P.underlying t with
 | some (.slice _)=>.slice
 | some (.func _ _ _)=>.func
 | some .bool=>.bool
 | some (.interface ms)=>.iface ms.isEmpty
 | some (.struct _) | some (.array _ _)=>match iM P t with | some ds=>.flat ds | none=>.other
 | _=>.other
def eqA (k:EqKind)(x y:AV):Option Bool :=
 match k with
 | .flat ds=>match x,y with
  | .agg xs,.agg ys=>au (cY ds xs&&cY ds ys) (dy xs ys) none
  | _,_=>none
 | .slice=>match x,y with
  | .nils,.nils=>some true
  | .nils,.tsl .. | .nils,.hsl .. | .nils,.esl | .tsl ..,.nils | .hsl ..,.nils | .esl,.nils=>some false
  | _,_=>none
 | .func=>match x,y with
  | .nilf,.nilf=>some true
  | .nilf,.clo .. | .clo ..,.nilf | .nilf,.yld _ | .yld _,.nilf=>some false
  | _,_=>none
 | .bool=>match x,y with
  | .bool a,.bool b=>some (au a b (gZ b))
  | _,_=>none
 | .iface e=>match x,y with
  | .nili,.nili=>au e (some true) none
  | .nili,.ifc .. | .ifc ..,.nili=>some false
  | _,_=>none
 | .other=>none
def orV:Option AV->OR
 | some v=>.val v
 | none=>.fail
def xP (P:Program)(op:BinOp)(t:TypeId):Stg (AV->AV->OR) :=
 match op with
 | .eql=>match oP P t with
  | .other=>⟨λx y=>match x,y with | .int k a,.int k' b=>orV ((ei .eql).run k a k' b) | _,_=>.fail⟩
  | ek=>⟨λx y=>match eqA ek x y with | some b=>.val (.bool b) | none=>.fail⟩
 | .neq=>match oP P t with
  | .other=>⟨λx y=>match x,y with | .int k a,.int k' b=>orV ((ei .neq).run k a k' b) | _,_=>.fail⟩
  | ek=>⟨λx y=>match eqA ek x y with | some b=>.val (.bool (gZ b)) | none=>.fail⟩
 | op=>⟨λx y=>match x,y with | .int k a,.int k' b=>orV ((ei op).run k a k' b) | _,_=>.fail⟩
def unA (op:UnOp):Stg (AV->OR) :=
 match op with
 | .not=>⟨λx=>match x with | .bool b=>.val (.bool (gZ b)) | _=>.fail⟩
 | op=>⟨λx=>match x with | .int k n=>orV (oy (Op.unary op (.int k n))) | _=>.fail⟩
def bG (agg:Bool)(n:Nat)(row:List AV)(off:Nat):Option AV :=
 au agg (let cs:=eO n (dZ off row);au (Nat.beq (aY cs) n) (some (.agg cs)) none) (yX off row)
def bL (row:List AV)(off:Nat)(cs:List AV):Option (List AV) :=
 au (Nat.ble (off+aY cs) (aY row))
  (some (match cs with
   | [c]=>Fa off c row
   | cs=>eO off row++(cs++dZ (off+aY cs) row)))
  none
def bZ (lim:Nat):AV->Option Nat
 | .int _ (.ofNat n)=>au (Nat.ble n lim) (some n) none
 | _=>none
def aQ (dflt lim:Nat):Option AV->Option Nat
 | none=>some dflt
 | some v=>bZ lim v
def eV (n:Nat)(row:List AV):List (List AV):=List.replicate n row
def eg:List AV->List ((Nat×Nat)×AV)->Option (List AV)
 | cells,[]=>some cells
 | cells,((off,size),v)::rest =>
  au (Nat.beq (aY v.cells) size&&gZ v.isTup) (match bL cells off v.cells with | some cs=>eg cs rest | none=>none) none
def fd (sz:Nat):List (List AV)->List (Nat×AV)->Option (List (List AV))
 | rows,[]=>some rows
 | rows,(i,v)::rest=>au (Nat.beq (aY v.cells) sz&&Nat.blt i (aY rows)&&gZ v.isTup) (fd sz (Fa i v.cells rows) rest) none
def ah (h:H)(sz:Nat):AV->Option (List (List AV))
 | .nils=>some []
 | .esl=>some []
 | .tsl _ sz' rows=>au (Nat.beq sz sz' || rows.isEmpty) (some rows) none
 | .hsl id ep off len _=>match h.get id with
  | .cells sz' rows ep' _ _=>au (Nat.beq ep ep'&&Nat.beq sz sz'&&Nat.ble (off+len) (aY rows)) (some (eO len (dZ off rows))) none
  | _=>none
 | _=>none
def gV (rows:List (List AV))(off:Nat)(new:List (List AV)):List (List AV) :=
 match new with
 | [r]=>Fa off r rows
 | new=>eO off rows++(new++dZ (off+aY new) rows)
def aP:Nat:=1099511627776
def bk (sz bytes:Nat)(s:AV)(new:List (List AV))(g:G):OR :=
  match s with
  | .nils | .esl=>match new with
   | []=>.val s
   | _=>au (Nat.ble (aY new*bytes) aP) (.upd (.hsl g.nx 0 0 (aY new) none) (g.new (.cells sz new 0 true false))) .fail
  | .tsl ..=>match new with
   | []=>.val s
   | _=>.fail
  | .hsl id ep off len lim=>match g.get id with
   | .cells sz' rows ep' loose fz =>
    au (Nat.beq ep ep'&&Nat.beq sz sz'&&Nat.ble (off+len) (aY rows)&&Nat.ble ((len+aY new)*bytes) aP)
     (au (Nat.ble (len+aY new) (lim.getD (aY rows - off)))
       (match new with
        | []=>.val s
        | _=>au (Nat.ble (off+len+aY new) (aY rows)&&gZ fz)
         (.upd (.hsl id ep off (len+aY new) lim) (g.put id (.cells sz (gV rows (off+len) new) ep loose fz))) .fail)
       (au (lim.isSome || gZ loose)
        (.upd (.hsl g.nx 0 0 (len+aY new) none) (g.new (.cells sz (eO len (dZ off rows)++new) 0 true false)))
        (au fz .fail (.upd (.hsl id (Nat.succ ep) 0 (len+aY new) none) (g.put id (.cells sz (eO len (dZ off rows)++new) (Nat.succ ep) true false))))))
     .fail
   | _=>.fail
  | _=>.fail
def cW (sz bytes:Nat)(s x:AV)(g:G):OR :=
 match ah g.h sz x with
 | none=>.fail
 | some new=>bk sz bytes s new g
def t7 (sz bytes:Nat)(zero:List AV)(s x:AV)(g:G):OR :=
 match bZ aP x with
 | none=>.fail
 | some n=>au (Nat.ble (n*bytes) aP) (bk sz bytes s (eV n zero) g) .fail
def Au (sz:Nat)(d x:AV)(g:G):OR :=
 match ah g.h sz x with
 | none=>.fail
 | some src=>match d with
  | .nils | .esl=>.val (.int .i64 0)
  | .tsl _ _ rows=>au (rows.isEmpty || src.isEmpty) (.val (.int .i64 0)) .fail
  | .hsl id ep off len _=>match g.get id with
   | .cells sz' rows ep' loose fz =>
    au (Nat.beq ep ep'&&Nat.beq sz sz'&&Nat.ble (off+len) (aY rows)&&gZ fz)
     (.upd (.int .i64 (Nat.min (aY src) len)) (g.put id (.cells sz (gV rows off (eO (Nat.min (aY src) len) src)) ep loose fz))) .fail
   | _=>.fail
  | _=>.fail
def iI (sz:Nat)(x:AV)(lo hi mx:Option AV)(h:H):Option AV :=
 match x with
 | .nils=>match aQ 0 0 lo,aQ 0 0 hi,aQ 0 0 mx with
  | some _,some _,some _=>some .nils
  | _,_,_=>none
 | .esl=>match aQ 0 0 lo,aQ 0 0 hi,aQ 0 0 mx with
  | some _,some _,some _=>some .esl
  | _,_,_=>none
 | .tsl tag sz' rows=>match mx with
  | none=>match aQ (aY rows) (aY rows) hi with
   | none=>none
   | some h=>match aQ 0 h lo with
    | none=>none
    | some l=>au (Nat.beq sz sz') (some (.tsl tag sz (eO (h - l) (dZ l rows)))) none
  | some m=>match bZ 0 m,aQ 0 0 hi,aQ 0 0 lo with
   | some _,some _,some _=>some .esl
   | _,_,_=>none
 | .hsl id ep off len lim=>match h.get id with
  | .cells sz' rows ep' loose _ =>
   au (Nat.beq ep ep'&&Nat.beq sz sz'&&Nat.ble (off+len) (aY rows))
    (match aQ (lim.getD (aY rows - off)) (lim.getD (aY rows - off)) mx with
     | none=>none
     | some m=>match aQ len m hi with
      | none=>none
      | some h=>match aQ 0 h lo with
       | none=>none
       | some l =>
        au (Nat.beq m l)
         (au (mx.isSome || lim.isSome || gZ loose) (some .esl) (some (.tsl 0 sz [])))
         (some (.hsl id ep (off+l) (h - l) (match mx with | some _=>some (m - l) | none=>lim.map (· - l))))) none
  | _=>none
 | _=>none
def oh (k k':AV):Option Bool :=
 match k with
 | .agg xs=>match k' with | .agg ys=>dy xs ys | _=>none
 | x=>match k' with | .agg _=>none | y=>mC x y
def mg (k:AV):List (AV×AV)->Option (Option AV)
 | []=>some none
 | (k',v)::es=>match oh k k' with
  | some true=>some (some v)
  | some false=>mg k es
  | none=>none
def HU (k v:AV):List (AV×AV)->Option (List (AV×AV))
 | []=>some [(k,v)]
 | (k',v')::es=>match oh k k' with
  | some true=>some ((k,v)::es)
  | some false=>match HU k v es with | some r=>some ((k',v')::r) | none=>none
  | none=>none
inductive KeyKind where
 | one (d:TypeDesc) | flat (ds:List TypeDesc) | other
def eI (P:Program)(t:TypeId):KeyKind :=
 match P.underlying t with
 | some (.struct _) | some (.array _ _)=>match iM P t with | some ds=>.flat ds | none=>.other
 | some d=>au (lq d) (.one d) .other
 | none=>.other
def mj:KeyKind->AV->Bool
 | .one d,v=>mX d v
 | .flat ds,.agg vs=>cY ds vs
 | _,_=>false
abbrev SFn:=T->G->OR
def lC (ag:Bool)(n:Nat)(a:T->AV):SFn:=λt g =>
 match a t with
 | .tptr _ _ rows i off=>match yX i rows with
  | some row=>orV (bG ag n row off)
  | none=>.fail
 | .hptr id ep i off=>match g.get id with
  | .cells _ rows ep' _ _=>au (Nat.beq ep ep') (match yX i rows with
   | some row=>orV (bG ag n row off)
   | none=>.fail) .fail
  | _=>.fail
 | _=>.fail
def m_ (n:Nat)(a x:T->AV):SFn:=λt g =>
 match a t with
 | .hptr id ep i off=>match g.get id with
  | .cells sz rows ep' loose fz=>au (Nat.beq ep ep'&&Nat.beq (aY (x t).cells) n&&gZ fz&&gZ (x t).isTup) (match yX i rows with
   | some row=>match bL row off (x t).cells with
    | some row'=>.upd .undef (g.put id (.cells sz (Fa i row' rows) ep loose fz))
    | none=>.fail
   | none=>.fail) .fail
  | _=>.fail
 | _=>.fail
def Bf (cs:List AV):SFn:=λ_ g=>.upd (.hptr g.nx 0 0 0) (g.new (.cells (aY cs) [cs] 0 false false))
def Ig (a:T->AV):SFn:=λt g=>au (a t).isTup .fail (.upd (.hptr g.nx 0 0 0) (g.new (.cells (aY (a t).cells) [(a t).cells] 0 false false)))
def mA (zero:List AV)(pl:List (Nat×Nat))(vs:T->List AV):SFn:=λt _ =>
 match eg zero (pl.zip (vs t)) with | some cs=>.val (.agg cs) | none=>.fail
def fQ (sz len:Nat)(zrows:List (List AV))(is:List Nat)(vs:T->List AV):SFn:=λt g =>
 match fd sz zrows (is.zip (vs t)) with
 | some rows=>.upd (.hsl g.nx 0 0 len none) (g.new (.cells sz rows 0 false false))
 | none=>.fail
def iB (fo:Nat)(a:T->AV):SFn:=λt _ =>
 match a t with
 | .tptr l sz rows i off=>.val (.tptr l sz rows i (off+fo))
 | .hptr id ep i off=>.val (.hptr id ep i (off+fo))
 | _=>.fail
def fe (sz:Nat)(a ix:T->AV):SFn:=λt g =>
 match a t with
 | .tsl l sz' rows=>match ix t with
  | .int _ (.ofNat i)=>au (Nat.beq sz sz'&&Nat.blt i (aY rows)) (.val (.tptr l sz rows i 0)) .fail
  | _=>.fail
 | .hsl id ep off len _=>match ix t with
  | .int _ (.ofNat i)=>match g.get id with
   | .cells sz' _ ep' _ _=>au (Nat.beq ep ep'&&Nat.beq sz sz'&&Nat.blt i len) (.val (.hptr id ep (off+i) 0)) .fail
   | _=>.fail
  | _=>.fail
 | _=>.fail
def lB (n sz:Nat)(a ix:T->AV):SFn:=λt _ =>
 match ix t with
 | .int _ (.ofNat i)=>au (Nat.blt i n) (match a t with
  | .tptr l sz' rows j off=>.val (.tptr l sz' rows j (off+i*sz))
  | .hptr id ep j off=>.val (.hptr id ep j (off+i*sz))
  | _=>.fail) .fail
 | _=>.fail
def tF (ag:Bool)(n sz:Nat)(a ix:T->AV):SFn:=λt _ =>
 match a t with
 | .agg cs=>match ix t with
  | .int _ (.ofNat i)=>au (Nat.blt i n) (orV (bG ag sz cs (i*sz))) .fail
  | _=>.fail
 | _=>.fail
def oe (a ix:T->AV):SFn:=λt _ =>
 match a t with
 | .str s=>match ix t with
  | .int _ (.ofNat i)=>match yX i s.data.toList with
   | some b=>.val (.int .u8 (.ofNat b.toNat))
   | none=>.fail
  | _=>.fail
 | _=>.fail
def fK (sz bytes:Nat)(zero:List AV)(l c:T->AV):SFn:=λt g =>
 match bZ aP (c t) with
 | some cn=>match bZ cn (l t) with
  | some ln=>au (Nat.ble (cn*bytes) aP)
   (.upd (.hsl g.nx 0 0 ln none) (g.new (.cells sz (eV cn zero) 0 false false))) .fail
  | none=>.fail
 | none=>.fail
def cZ (kk:KeyKind)(zero:AV)(ok:Bool)(m k:T->AV):SFn:=λt g =>
 au (mj kk (k t))
  (match (match m t with
          | .nilm=>some []
          | .hmap id=>match g.get id with | .map es=>some es | _=>none
          | _=>none) with
   | some es=>match mg (k t) es with
    | some (some v)=>.val (au ok (.tup [v,.bool true]) v)
    | some none=>.val (au ok (.tup [zero,.bool false]) zero)
    | none=>.fail
   | none=>.fail) .fail
def el (kk:KeyKind)(m k x:T->AV):SFn:=λt g =>
 au (mj kk (k t))
  (match m t with
   | .hmap id=>match g.get id with
    | .map es=>match HU (k t) (x t) es with
     | some es'=>.upd .undef (g.put id (.map es'))
     | none=>.fail
    | _=>.fail
   | _=>.fail) .fail
def gQ (k:AV):Nat->List (AV×AV)->Option (Option (Nat×AV))
 | _,[]=>some none
 | i,(k',v)::es=>match oh k k' with
  | some true=>some (some (i,v))
  | some false=>gQ k (Nat.succ i) es
  | none=>none
def eK (kk:KeyKind)(zero:AV)(m k:T->AV):SFn:=λt g =>
 au (mj kk (k t))
  (match m t with
   | .hmap id=>match g.get id with
    | .map es=>match gQ (k t) 0 es with
     | some (some (i,v))=>.val (.tup [v,.int .i64 (.ofNat i)])
     | some none=>.upd (.tup [zero,.int .i64 (.ofNat (aY es))]) (g.put id (.map (es++[(k t,zero)])))
     | none=>.fail
    | _=>.fail
   | _=>.fail) .fail
def fR (m st x:T->AV):SFn:=λt g =>
 match m t with
 | .hmap id=>match g.get id with
  | .map es=>match st t with
   | .int _ (.ofNat i)=>match yX i es with
    | some (k,_)=>.upd .undef (g.put id (.map (Fa i (k,x t) es)))
    | none=>.fail
   | _=>.fail
  | _=>.fail
 | _=>.fail
def yd (sz:Nat)(zero:List AV)(x:AV)(g:G):OR :=
 match x with
 | .nils | .esl=>.val .undef
 | .tsl _ _ []=>.val .undef
 | .hsl id ep off len _=>match len with
  | 0=>.val .undef
  | _=>match g.get id with
   | .cells sz' rows ep' loose fz =>
    au (Nat.beq ep ep'&&Nat.beq sz sz'&&Nat.ble (off+len) (aY rows)&&gZ fz)
     (.upd .undef (g.put id (.cells sz (gV rows off (eV len zero)) ep loose fz))) .fail
   | _=>.fail
 | _=>.fail
inductive LenKind where
 | slice | array (n:Nat) | map | str | other
def jQ (P:Program)(t:TypeId):LenKind :=
 match P.underlying t with
 | some (.slice _)=>.slice
 | some (.array n _)=>.array n
 | some (.map _ _)=>.map
 | some .string=>.str
 | _=>.other
def cV (k:LenKind)(x:AV)(g:G):OR :=
 match k with
 | .slice=>match x with
  | .nils | .esl=>.val (.int .i64 0)
  | .tsl _ _ rows=>.val (.int .i64 (.ofNat (aY rows)))
  | .hsl _ _ _ n _=>.val (.int .i64 (.ofNat n))
  | _=>.fail
 | .array n=>.val (.int .i64 (.ofNat n))
 | .map=>match x with
  | .nilm=>.val (.int .i64 0)
  | .hmap id=>match g.get id with | .map es=>.val (.int .i64 (.ofNat (aY es))) | _=>.fail
  | _=>.fail
 | .str=>match x with | .str s=>.val (.int .i64 (.ofNat s.size)) | _=>.fail
 | .other=>.fail
def Im (x:AV)(g:G):OR :=
 match x with
 | .nils | .esl=>.val (.int .i64 0)
 | .hsl id ep off _ lim=>match g.get id with
  | .cells _ rows ep' loose _=>au (Nat.beq ep ep'&&(lim.isSome || gZ loose)) (.val (.int .i64 (.ofNat (lim.getD (aY rows - off))))) .fail
  | _=>.fail
 | _=>.fail
def cO (C:Cfg)(b:Builtin)(argTypes:Array TypeId)(args:List Operand):Option (Stg SFn) :=
 match b,args with
 | .len,[x]=>match argTypes[0]?,aM C x with
  | some t,some a=>some ⟨λs g=>cV (jQ C.P t) (a.run s) g⟩
  | _,_=>none
 | .append,[a,x]=>match argTypes[0]?,argTypes[1]?,aM C a,aM C x with
  | some t,some xt,some av,some xv=>match jB C.P t,C.P.underlying xt with
   | some e,some (.slice _)=>match szT C.P e,ii C.P e,eB C.P e with
    | some sz,some bytes,some zero=>au (Nat.beq (aY zero) sz&&Nat.blt 0 sz&&Nat.blt 0 bytes) (some ⟨λs g=>cW sz bytes (av.run s) (xv.run s) g⟩) none
    | _,_,_=>none
   | some e,some (.int _)=>match szT C.P e,ii C.P e,eB C.P e with
    | some sz,some bytes,some zero=>au (Nat.beq (aY zero) sz&&Nat.blt 0 sz&&Nat.blt 0 bytes) (some ⟨λs g=>t7 sz bytes zero (av.run s) (xv.run s) g⟩) none
    | _,_,_=>none
   | _,_=>none
  | _,_,_,_=>none
 | .copy,[a,x]=>match argTypes[0]?,aM C a,aM C x with
  | some t,some av,some xv=>match jB C.P t with
   | some e=>match szT C.P e with
    | some sz=>some ⟨λs g=>Au sz (av.run s) (xv.run s) g⟩
    | none=>none
   | none=>none
  | _,_,_=>none
 | .cap,[x]=>match argTypes[0]?,aM C x with
  | some t,some a=>match jB C.P t with
   | some _=>some ⟨λs g=>Im (a.run s) g⟩
   | none=>none
  | _,_=>none
 | .clear,[x]=>match argTypes[0]?,aM C x with
  | some t,some a=>match jB C.P t with
   | some e=>match szT C.P e,eB C.P e with
    | some sz,some zero=>au (Nat.beq (aY zero) sz&&Nat.blt 0 sz) (some ⟨λs g=>yd sz zero (a.run s) g⟩) none
    | _,_=>none
   | none=>none
  | _,_=>none
 | .max,[x,y]=>match aM C x,aM C y with
  | some a,some b=>some ⟨λs _=>match a.run s with
   | .int k m=>match b.run s with
    | .int k' n=>au (cA k k') (.val (.int k (au (xi m n) n m))) .fail
    | _=>.fail
   | _=>.fail⟩
  | _,_=>none
 | .min,[x,y]=>match aM C x,aM C y with
  | some a,some b=>some ⟨λs _=>match a.run s with
   | .int k m=>match b.run s with
    | .int k' n=>au (cA k k') (.val (.int k (au (xi n m) n m))) .fail
    | _=>.fail
   | _=>.fail⟩
  | _,_=>none
 | _,_=>none
def eT {α:Type}(f:α->Option Nat):List α->Option Nat
 | []=>some 0
 | v::vs=>match f v with
  | some a=>match eT f vs with
   | some b=>some (Nat.max a b)
   | none=>none
  | none=>none
def dH:Nat->AV->Option Nat
 | 0,_=>none
 | f+1,v=>match v with
  | .tsl l _ _=>some l
  | .tptr l _ _ _ _=>some l
  | .agg cs=>eT (dH f) cs
  | .tup cs=>eT (dH f) cs
  | .clo _ a c=>eT (dH f) (a++c)
  | .ifc _ v=>dH f v
  | .hsl .. | .hptr .. | .hmap _ | .yld _=>none
  | _=>some 0
def aB:Nat:=24
def eL (rows:List (List AV)):Option Nat:=eT (eT (dH aB)) rows
def oJ (sz:Nat):Nat->List AV->List (List AV)
 | 0,_=>[]
 | n+1,cs=>eO sz cs::oJ sz n (dZ sz cs)
def gf (n sz:Nat)(a:T->AV)(lo hi:T->Option AV):SFn:=λt g =>
 match aQ n n (hi t) with
 | none=>.fail
 | some h=>match aQ 0 h (lo t) with
  | none=>.fail
  | some l=>match a t with
   | .tptr tag _ rows i off=>match yX i rows with
    | some row=>au (Nat.ble (off+n*sz) (aY row)) (.val (.tsl tag sz (oJ sz (h - l) (dZ (off+l*sz) row)))) .fail
    | none=>.fail
   | .hptr id ep i off=>match g.get id with
    | .cells sz' rows ep' loose _=>au (Nat.beq ep ep') (match yX i rows with
     | some row=>au (Nat.ble (off+n*sz) (aY row))
      ((λrs=>match eL rs with
        | some m=>.upd (.tsl m sz rs) (g.put id (.cells sz' rows ep' loose true))
        | none=>.fail) (oJ sz (h - l) (dZ (off+l*sz) row))) .fail
     | none=>.fail) .fail
    | _=>.fail
   | _=>.fail
def bS (C:Cfg):Op->Option (Stg SFn)
 | .move x | .assign x=>match aM C x with | some a=>some ⟨λt _=>.val (a.run t)⟩ | none=>none
 | .pick c a b=>match aM C c,aM C a,aM C b with
  | some c,some a,some b=>some ⟨λt _=>match c.run t with | .bool q=>au q (.val (a.run t)) (.val (b.run t)) | _=>.fail⟩
  | _,_,_=>none
 | .alloc ty=>match eB C.P ty with
  | some cs=>some ⟨Bf cs⟩
  | none=>none
 | .box _ x=>match aM C x with
  | some a=>some ⟨Ig a.run⟩
  | none=>none
 | .build ty parts=>match eB C.P ty,bC C (parts.toList.map (·.2)) with
  | some zero,some vs =>
   match C.P.underlying ty with
   | some (.struct fs)=>match aE (λf:Field=>match szT C.P f.type with | some n=>some (f.offset,n) | none=>none) fs.toList with
    | some places=>match aE (λi=>places[i]?) (parts.toList.map (·.1)) with
     | some pl=>some ⟨mA zero pl vs.run⟩
     | none=>none
    | none=>none
   | some (.array _ e)=>match szT C.P e with
    | some n=>some ⟨mA zero ((parts.toList.map (·.1)).map λi=>(i*n,n)) vs.run⟩
    | none=>none
   | _=>none
  | _,_=>none
 | .buildSlice ty len parts=>match jB C.P ty,bC C (parts.toList.map (·.2)) with
  | some e,some vs=>match szT C.P e,eB C.P e with
   | some sz,some zero=>au (Nat.beq (aY zero) sz&&Nat.blt 0 sz&&Nat.ble (len*sz) 1048576)
    (some ⟨fQ sz len (eV len zero) (parts.toList.map (·.1)) vs.run⟩) none
   | _,_=>none
  | _,_=>none
 | .load ty a=>match aM C a,p_ C.P ty,szT C.P ty with
  | some a,some ag,some n=>some ⟨lC ag n a.run⟩
  | _,_,_=>none
 | .store ty a x=>match aM C a,aM C x,szT C.P ty with
  | some a,some x,some n=>some ⟨m_ n a.run x.run⟩
  | _,_,_=>none
 | .nilCheck x=>match aM C x with
  | some a=>some ⟨λt _=>match a.run t with
   | .tptr l sz rows i off=>.val (.tptr l sz rows i off)
   | .hptr id ep i off=>.val (.hptr id ep i off)
   | .clo f a c=>.val (.clo f a c)
   | .yld id=>.val (.yld id)
   | _=>.fail⟩
  | none=>none
 | .binOp op ty x y _=>match aM C x,aM C y with
  | some a,some b=>some ⟨λt _=>(xP C.P op ty).run (a.run t) (b.run t)⟩
  | _,_=>none
 | .unOp op _ x=>match aM C x with
  | some a=>some ⟨λt _=>(unA op).run (a.run t)⟩
  | none=>none
 | .convert src dst x=>match aM C x,C.P.underlying src,C.P.underlying dst with
  | some a,some _,some (.int k)=>some ⟨λt _=>match a.run t with | .int _ n=>.val (.int k (rJ k n)) | _=>.fail⟩
  | _,_,_=>none
 | .makeInterface ty x=>match aM C x,C.P.underlying ty with
  | some _,some (.interface _)=>none
  | some a,some _=>some ⟨λt _=>.val (.ifc ty (a.run t))⟩
  | _,_=>none
 | .makeFunc (.func f) first captured=>match bC C first.toList,bC C captured.toList with
  | some a,some c=>some ⟨λt _=>.val (.clo f (a.run t) (c.run t))⟩
  | _,_=>none
 | .makeMap ty none=>match C.P.underlying ty with
  | some (.map _ _)=>some ⟨λ_ g=>.upd (.hmap g.nx) (g.new (.map []))⟩
  | _=>none
 | .makeSlice ty l c=>match jB C.P ty,aM C l,aM C c with
  | some e,some l,some c=>match szT C.P e,ii C.P e,eB C.P e with
   | some sz,some bytes,some zero=>au (Nat.beq (aY zero) sz&&Nat.blt 0 sz) (some ⟨fK sz bytes zero l.run c.run⟩) none
   | _,_,_=>none
  | _,_,_=>none
 | .slice ty x lo hi none=>match C.P.underlying ty,aM C x,bC C lo.toList,bC C hi.toList with
  | some (.slice e),some x,some l,some h=>match szT C.P e with
   | some sz=>some ⟨λt g=>orV (iI sz (x.run t) (l.run t).head? (h.run t).head? none g.h)⟩
   | none=>none
  | some (.array n e),some x,some l,some h=>match szT C.P e with
   | some (sz+1)=>some ⟨gf n (sz+1) x.run (λt=>(l.run t).head?) (λt=>(h.run t).head?)⟩
   | _=>none
  | _,_,_,_=>none
 | .slice ty x lo (some hi) (some mx)=>match jB C.P ty,aM C x,bC C lo.toList,aM C hi,aM C mx with
  | some e,some x,some l,some h,some m=>match szT C.P e with
   | some sz=>some ⟨λt g=>orV (iI sz (x.run t) (l.run t).head? (some (h.run t)) (some (m.run t)) g.h)⟩
   | none=>none
  | _,_,_,_,_=>none
 | .fieldAddr ty x f=>match aM C x,qW C.P ty f with
  | some a,some (fo,ft)=>match szT C.P ft with
   | some (_+1)=>some ⟨iB fo a.run⟩
   | _=>none
  | _,_=>none
 | .field ty x f=>match aM C x,qW C.P ty f with
  | some a,some (fo,ft)=>match p_ C.P ft,szT C.P ft with
   | some ag,some n=>some ⟨λt _=>match a.run t with | .agg cs=>orV (bG ag n cs fo) | _=>.fail⟩
   | _,_=>none
  | _,_=>none
 | .indexAddr ty x ix=>match aM C x,aM C ix with
  | some a,some i=>match C.P.underlying ty with
   | some (.slice e)=>match szT C.P e with
    | some sz=>some ⟨fe sz a.run i.run⟩
    | none=>none
   | some (.array n e)=>match szT C.P e with
    | some sz=>some ⟨lB n sz a.run i.run⟩
    | none=>none
   | _=>none
  | _,_=>none
 | .index ty x ix=>match aM C x,aM C ix with
  | some a,some i=>match C.P.underlying ty with
   | some (.array n e)=>match p_ C.P e,szT C.P e with
    | some ag,some sz=>some ⟨tF ag n sz a.run i.run⟩
    | _,_=>none
   | some .string=>some ⟨oe a.run i.run⟩
   | _=>none
  | _,_=>none
 | .lookup ty x k ok=>match aM C x,aM C k,C.P.underlying ty with
  | some m,some k,some (.map kt et)=>match wM C.P et with
   | some z=>some ⟨cZ (eI C.P kt) z ok m.run k.run⟩
   | none=>none
  | _,_,_=>none
 | .mapUpdate ty m k x | .insert ty m k x=>match aM C m,aM C k,aM C x,C.P.underlying ty with
  | some m,some k,some x,some (.map kt _)=>some ⟨el (eI C.P kt) m.run k.run x.run⟩
  | _,_,_,_=>none
 | .mapEntry ty m k=>match aM C m,aM C k,C.P.underlying ty with
  | some m,some k,some (.map kt et)=>match wM C.P et with
   | some z=>some ⟨eK (eI C.P kt) z m.run k.run⟩
   | none=>none
  | _,_,_=>none
 | .entryStore _ m st x=>match aM C m,aM C st,aM C x with
  | some m,some st,some x=>some ⟨fR m.run st.run x.run⟩
  | _,_,_=>none
 | .extract x i=>match aM C x with
  | some a=>some ⟨λt _=>match a.run t with | .tup vs=>orV (yX i vs) | _=>.fail⟩
  | none=>none
 | .call { callee:=.builtin b,args,argTypes }=>cO C b argTypes args.toList
 | _=>none
def snap (h:H)(tag:Nat):Nat->AV->Option AV
 | 0,_=>none
 | f+1,v=>match v with
  | .agg cs=>match aE (snap h tag f) cs with | some as=>some (.agg as) | none=>none
  | .tup cs=>match aE (snap h tag f) cs with | some as=>some (.tup as) | none=>none
  | .clo g a c=>match aE (snap h tag f) a,aE (snap h tag f) c with
   | some as,some cs=>some (.clo g as cs)
   | _,_=>none
  | .ifc t x=>match snap h tag f x with | some a=>some (.ifc t a) | none=>none
  | .hsl id ep off len _=>match h.get id with
   | .cells sz rows ep' _ _=>au (Nat.beq ep ep'&&Nat.ble (off+len) (aY rows))
    (match aE (aE (snap h tag f)) (eO len (dZ off rows)) with
     | some rs=>match eL rs with
      | some m=>some (.tsl (Nat.max tag m) sz rs)
      | none=>none
     | none=>none) none
   | _=>none
  | .hptr id ep i off=>match h.get id with
   | .cells sz rows ep' _ _=>au (Nat.beq ep ep')
    (match aE (aE (snap h tag f)) rows with
     | some rs=>match eL rs with
      | some m=>some (.tptr (Nat.max tag m) sz rs i off)
      | none=>none
     | none=>none) none
   | _=>none
  | .hmap _=>none
  | .yld _=>none
  | v=>some v
def aA (h:H):Nat->AV->List Nat
 | 0,_=>[]
 | f+1,v=>match v with
  | .agg cs=>cs.flatMap (aA h f)
  | .tup cs=>cs.flatMap (aA h f)
  | .clo _ a c=>a.flatMap (aA h f)++c.flatMap (aA h f)
  | .ifc _ x=>aA h f x
  | .hsl id _ off len _=>id::(match h.get id with
   | .cells _ rows _ _ _=>(eO len (dZ off rows)).flatMap (·.flatMap (aA h f))
   | _=>[])
  | .hptr id _ _ _=>id::(match h.get id with
   | .cells _ rows _ _ _=>rows.flatMap (·.flatMap (aA h f))
   | _=>[])
  | .hmap id=>[id]
  | _=>[]
def cS (d:Nat):Nat->AV->Option AV
 | 0,_=>none
 | f+1,v=>match v with
  | .tsl t sz rows=>au (Nat.beq t d) (match aE (aE (cS d f)) rows with
   | some rs=>match eL rs with
    | some m=>some (.tsl m sz rs)
    | none=>none
   | none=>none) (some v)
  | .tptr t sz rows i off=>au (Nat.beq t d) (match aE (aE (cS d f)) rows with
   | some rs=>match eL rs with
    | some m=>some (.tptr m sz rs i off)
    | none=>none
   | none=>none) (some v)
  | .agg cs=>match aE (cS d f) cs with | some as=>some (.agg as) | none=>none
  | .tup cs=>match aE (cS d f) cs with | some as=>some (.tup as) | none=>none
  | .clo g a c=>match aE (cS d f) a,aE (cS d f) c with
   | some as,some cs=>some (.clo g as cs)
   | _,_=>none
  | .ifc t x=>match cS d f x with | some a=>some (.ifc t a) | none=>none
  | v=>some v
def bP (g:G):List Nat->G
 | []=>g
 | i::is=>match g.get i with
  | .cells sz rows ep loose _=>bP (g.put i (.cells sz rows ep loose true)) is
  | _=>bP g is
def af (ih:IH)(d:Nat)(g:G)(f:Nat)(args:List AV):OR :=
 match aE (snap g.h d aB) args with
 | none=>.fail
 | some as=>match ih.call (Nat.succ d) f as G.empty with
  | .fail=>.fail
  | .ok r g'=>match snap g'.h 0 aB r with
   | none=>.fail
   | some r'=>match dH aB r' with
    | none=>.fail
    | some m=>au (Nat.blt m d) (.val r')
     (match cS d aB r' with
      | none=>.fail
      | some r''=>match dH aB r'' with
       | none=>.fail
       | some m'=>au (Nat.blt m' d) (.upd r'' (bP g (args.flatMap (aA g.h aB)))) .fail)
def dw:T->Nat->List Nat->List AV->Option T
 | t,_,[],[]=>some t
 | t,nt,p::ps,v::vs=>au (Nat.blt p nt) (dw ((sp AV.undef p).run t v) nt ps vs) none
 | _,_,_,_=>none
def cI (ih:IH)(d:Nat)(id:Nat)(args:List AV)(g:G):OR :=
 match g.get id with
 | .loop nt t ps assign body _ _ _=>match dw t nt ps args with
  | none=>.fail
  | some t'=>match ih.code nt d (some id) assign t' [] g with
   | .ok .norm t1 [] g1=>match g1.get id with
    | .loop nt1 t ps assign1 body1 dfr .ready pend =>
     match ih.code nt d (some id) body t1 [] (g1.put id (.loop nt1 t ps assign1 body1 dfr .busy pend)) with
     | .ok e _ [] g2=>match g2.get id with
      | .loop nt t ps assign body dfr _ _=>match e with
       | .norm=>.upd (.bool true) (g2.put id (.loop nt t ps assign body dfr .ready none))
       | .exit j=>.upd (.bool false) (g2.put id (.loop nt t ps assign body dfr .done (some (.exit j))))
       | .ret=>.upd (.bool false) (g2.put id (.loop nt t ps assign body dfr .done (some .ret)))
      | _=>.fail
     | _=>.fail
    | _=>.fail
   | _=>.fail
 | _=>.fail
def orF:FR->OR
 | .ok v g=>.upd v g
 | .fail=>.fail
def j7 (C:Cfg)(ih:IH)(d:Nat)(fv:AV)(vs:List AV)(g:G):OR :=
 match fv with
 | .clo f first cap=>match C.ext f with
  | some e=>e d (first++(vs++cap)) g
  | none=>au (C.iso f) (af ih d g f (first++(vs++cap))) (orF (ih.call d f (first++(vs++cap)) g))
 | .yld id=>cI ih d id vs g
 | _=>.fail
def cOp (C:Cfg):Op->Option (Stg Ia)
 | .call { callee:=.value (.func f),args,.. }=>match bC C args.toList with
  | some vs=>match C.ext f with
   | some e=>some ⟨λ_ d _ t g=>e d (vs.run t) g⟩
   | none=>au (C.iso f) (some ⟨λih d _ t g=>af ih d g f (vs.run t)⟩) (some ⟨λih d _ t g=>orF (ih.call d f (vs.run t) g)⟩)
  | none=>none
 | .call { callee:=.value fo,args,.. }=>match aM C fo,bC C args.toList with
  | some fv,some vs=>some ⟨λih d _ t g=>j7 C ih d (fv.run t) (vs.run t) g⟩
  | _,_=>none
 | .call { callee:=.builtin .recover,.. }=>some ⟨λ_ _ _ _ _=>.val .nili⟩
 | .defer { callee:=.value fo,args,.. }=>match aM C fo,bC C args.toList with
  | some fv,some vs=>some ⟨λ_ _ rd t _=>match rd with
   | some _=>.fail
   | none=>match fv.run t with
    | .clo f first cap=>.dfr (.call (.clo f [] cap) (first++vs.run t))
    | _=>.fail⟩
  | _,_=>none
 | op=>match bS C op with
  | some s=>some ⟨λ_ _ _ t g=>s.run t g⟩
  | none=>none
def cy (C:Cfg)(op:Op):Stg Ia :=
 match cOp C op with
 | some f=>f
 | none=>⟨λ_ _ _ _ _=>.fail⟩
structure Looks where
 rd:List Nat
 sr:List (Nat×Nat)
 soft:List (Nat×Nat)
 big:Bool
def ak:AV->List Nat
 | .hptr id _ _ _=>[id]
 | .hsl id _ _ _ _=>[id]
 | .hmap id=>[id]
 | _=>[]
def uM:AV->List Nat
 | .hmap id=>[id]
 | _=>[]
def rW:AV->List Nat
 | .hsl id _ _ (_+1) _=>[id]
 | _=>[]
def jM (C:Cfg)(b:Builtin)(argTypes:Array TypeId):AV->List Nat :=
 match b with
 | .len=>match argTypes[0]? with
  | some t=>match jQ C.P t with
   | .map=>uM
   | _=>λ_=>[]
  | none=>λ_=>[]
 | .clear=>rW
 | _=>ak
def aF:Looks:=⟨[],[],[],false⟩
def cC:Looks:=⟨[],[],[],true⟩
def ap (l:List Nat):Looks:=⟨l,[],[],false⟩
def aI (C:Cfg)(op:Op):Stg (T->G->Looks) :=
 match op with
 | .load _ a | .store _ a _ | .slice _ a _ _ _ | .lookup _ a _ true | .mapUpdate _ a _ _ | .insert _ a _ _ | .entryStore _ a _ _=>match aM C a with
  | some a=>⟨λt _=>ap (ak (a.run t))⟩
  | none=>⟨λ_ _=>cC⟩
 | .lookup ty a _ false=>match aM C a with
  | some a=>⟨λt _=>⟨[],(ak (a.run t)).map (·,ty),[],false⟩⟩
  | none=>⟨λ_ _=>cC⟩
 | .mapEntry ty a _=>match aM C a with
  | some a=>⟨λt _=>⟨ak (a.run t),[],(ak (a.run t)).map (·,ty),false⟩⟩
  | none=>⟨λ_ _=>cC⟩
 | .indexAddr ty a _=>match C.P.underlying ty,aM C a with
  | some (.slice _),some a=>⟨λt _=>ap (ak (a.run t))⟩
  | _,_=>⟨λ_ _=>aF⟩
 | .call { callee:=.builtin b,args,argTypes }=>match bC C args.toList with
  | some vs=>⟨λt _=>ap ((vs.run t).flatMap (jM C b argTypes))⟩
  | none=>⟨λ_ _=>cC⟩
 | .call { callee:=.value fo,args,.. }=>match aM C fo,bC C args.toList with
  | some fv,some vs=>⟨λt g=>match fv.run t with
   | .clo f first cap=>au ((C.ext f).isSome || C.iso f) (ap ((first++(vs.run t++cap)).flatMap (aA g.h aB))) cC
   | _=>cC⟩
  | _,_=>⟨λ_ _=>cC⟩
 | .defer _=>⟨λ_ _=>cC⟩
 | _=>⟨λ_ _=>aF⟩
structure Foot where
 lk:Looks
 wr:List Nat
abbrev RFn:=IH->Nat->Option Nat->T->List ADf->G->CR
def oq (nt:Nat):Option Nat->Option (Stg (T->AV->T))
 | none=>some ⟨λt _=>t⟩
 | some d=>au (Nat.blt d nt) (some (sp AV.undef d)) none
def gq (ops:List Oper):Option (Nat×Bool)->Option (Stg (T->Option Bool))
 | none=>some ⟨λ_=>some true⟩
 | some (j,want)=>match ops[j]? with
  | some oj=>match oj.dst with
   | some d=>some ⟨λt=>match (gp AV.undef d).run t with
    | .bool b=>some (au want b (gZ b))
    | .tup _=>some false
    | _=>none⟩
   | none=>none
  | none=>none
def nf (out:T->AV->T)(next:T->List ADf->G->CR)(t:T)(df:List ADf)(g:G):OR->CR
 | .fail=>.fail
 | .val v=>next (out t v) df g
 | .upd v g'=>next (out t v) df g'
 | .dfr a=>next (out t .undef) (a::df) g
def AD:Stg RFn:=⟨λ_ _ _ _ _ _=>.fail⟩
def il (C:Cfg)(nt:Nat)(all:List Oper):List Oper->Stg RFn
 | []=>⟨λ_ _ _ t df g=>.ok .norm t df g⟩
 | o::rest=>match oq nt o.dst with
  | some out=>match o.guard with
   | none=>⟨λih d rd t df g=>nf out.run ((il C nt all rest).run ih d rd) t df g ((cy C o.op).run ih d rd t g)⟩
   | some gd=>match gq all (some gd) with
    | some q=>⟨λih d rd t df g=>match q.run t with
     | some true=>nf out.run ((il C nt all rest).run ih d rd) t df g ((cy C o.op).run ih d rd t g)
     | some false=>(il C nt all rest).run ih d rd (out.run t .undef) df g
     | none=>.fail⟩
    | none=>AD
  | none=>AD
def bi:List Oper->List Nat->List Nat
 | [],acc=>acc
 | o::rest,acc =>
  bi rest (acc++[o.after.toList.foldl (λm e=>au (Region.binds .any e) (m ||| 2 ^ e.on ||| acc.getD e.on 0) m) 0])
def si (ops:List Oper)(o:Oper):List Nat :=
 (o.op.operands.toList.filterMap λ| .tmp t=>some t | _=>none) ++
 (match o.guard with
  | some (g,_)=>match ops[g]? with | some og=>og.dst.toList | none=>[]
  | none=>[])
def iJ (ops:List Oper)(x y:Oper):Bool :=
 (match x.dst with | some d=>!(si ops y).contains d&&y.dst != some d | none=>true) &&
 (match y.dst with | some d=>!(si ops x).contains d | none=>true)
def meets (a b:List Nat):Bool:=a.any λx=>b.contains x
def fst1 (l:List (Nat×Nat)):List Nat:=l.map (·.1)
def B0 (p:Nat×Nat):List (Nat×Nat)->Bool
 | []=>false
 | q::r=>au (Nat.beq p.1 q.1&&Nat.beq p.2 q.2) true (B0 p r)
def i_ (x y:Foot):Bool :=
 match x.wr with
 | []=>true
 | _=>!y.lk.big&&!meets x.wr y.wr&&!meets x.wr y.lk.rd&&!meets x.wr (fst1 y.lk.sr)
def ge (x y:Foot):Bool :=
 match x.wr with
 | []=>true
 | _=>!y.lk.big&&!meets x.wr y.wr&&!meets x.wr y.lk.rd&&(!meets x.wr (fst1 y.lk.sr) || y.lk.sr.all λp=>B0 p x.lk.soft)
def bU (x y:Foot):Bool:=i_ x y&&ge y x
def dQ (pm:List Nat)(i:Nat)(x:Foot):Nat->List Foot->Nat
 | _,[]=>0
 | j,y::r=>au ((pm.getD j 0).testBit i || !meets y.wr (fst1 x.lk.sr)) (dQ pm i x (Nat.succ j) r) (Nat.succ (dQ pm i x (Nat.succ j) r))
def rD (pm:List Nat):Nat->List Foot->Bool
 | _,[]=>true
 | i,x::r=>au (match x.lk.sr with | []=>true | _=>Nat.ble (dQ pm i x (Nat.succ i) r) 1) (rD pm (Nat.succ i) r) false
def eD {α:Type}(f:Nat->α->Nat->α->Bool)(i:Nat)(x:α):Nat->List α->Bool
 | _,[]=>true
 | j,y::r=>f i x j y&&eD f i x (j+1) r
def iT {α:Type}(f:Nat->α->Nat->α->Bool):Nat->List α->Bool
 | _,[]=>true
 | i,x::rest=>eD f i x (i+1) rest&&iT f (i+1) rest
def nA:Nat->List Oper->Bool
 | _,[]=>true
 | i,o::r=>(o.after.toList.all λe=>!Region.binds .any e || Nat.blt e.on i)&&nA (i+1) r
def lA (pm:List Nat):Nat->List Oper->Bool
 | _,[]=>true
 | i,o::r=>(match o.guard with | none=>true | some (j,_)=>(pm.getD i 0).testBit j)&&lA pm (i+1) r
def BX (ops:List Oper):Bool :=
 let pm:=bi ops []
 nA 0 ops&&lA pm 0 ops&&iT (λi x j y=>(pm.getD j 0).testBit i || iJ ops x y) 0 ops
def o8 (pm:List Nat)(fs:List Foot):Bool :=
 au (iT (λi x j y=>(pm.getD j 0).testBit i || bU x y) 0 fs) (rD pm 0 fs) false
def xz (C:Cfg):Op->Bool
 | .alloc _ | .box .. | .buildSlice .. | .store .. | .makeSlice .. | .makeMap .. | .mapUpdate .. | .insert .. | .mapEntry .. | .entryStore .. | .defer _=>false
 | .call { callee:=.builtin .append,.. } | .call { callee:=.builtin .copy,.. } | .call { callee:=.builtin .clear,.. }=>false
 | .slice ty _ _ _ _=>match C.P.underlying ty with | some (.slice _)=>true | _=>false
 | .call { callee:=.value (.func f),.. }=>C.iso f
 | .call { callee:=.value _,.. }=>false
 | _=>true
abbrev Ou:=IH->Nat->Option Nat->T->List ADf->G->List Foot->CR
def aH (g:G)(lg:List Nat):G:=@G.rec (λ_=>G) (λh nx _=>⟨h,nx,lg⟩) g
def iU (g:G)(lg:List Nat):G:=@G.rec (λ_=>G) (λh nx _=>⟨h,Nat.succ nx,lg⟩) g
def jj (out:T->AV->T)(next:T->List ADf->G->List Foot->CR)(t:T)(df:List ADf)(g:G)(fs:List Foot)(lk:Looks):OR->CR
 | .fail=>.fail
 | .val v=>next (out t v) df (iU g g.lg) (⟨lk,[]⟩::fs)
 | .upd v g'=>next (out t v) df (iU g' (g'.lg++g.lg)) (⟨lk,g'.lg⟩::fs)
 | .dfr _=>.fail
def gm (C:Cfg)(nt:Nat)(pm:List Nat)(all:List Oper):Nat->List Oper->Stg Ou
 | _,[]=>⟨λ_ _ _ t df g fs=>au (o8 pm fs.reverse) (.ok .norm t df g) .fail⟩
 | i,o::rest=>match oq nt o.dst,gq all o.guard with
  | some out,some q=>⟨λih d rd t df g fs=>match q.run t with
     | some true=>jj out.run ((gm C nt pm all (i+1) rest).run ih d rd) t df g fs ((aI C o.op).run t g) ((cy C o.op).run ih d rd t (aH g []))
     | some false=>(gm C nt pm all (i+1) rest).run ih d rd (out.run t .undef) df g (⟨aF,[]⟩::fs)
     | none=>.fail⟩
  | _,_=>⟨λ_ _ _ _ _ _ _=>.fail⟩
def lG (g0:G):CR->CR
 | .ok e t df g=>match g.lg with | []=>au (Nat.beq g.nx g0.nx) (.ok e t df g0) .fail | _=>.fail
 | .fail=>.fail
def eE (C:Cfg)(nt:Nat)(ops:List Oper)(draw:Bool):Stg RFn :=
 au draw
  (au (BX ops)
   (au (ops.all λo=>xz C o.op)
    ⟨λih d rd t df g=>lG g ((il C nt ops ops).run ih d rd t df (aH g []))⟩
    ⟨λih d rd t df g=>(gm C nt (bi ops []) ops 0 ops).run ih d rd t df g []⟩) AD)
  (il C nt ops ops)
def dt (ih:IH)(nt d:Nat)(rd:Option Nat)(id:Nat)(t:T)(df:List ADf)(g2:G):CR :=
 match g2.get id with
 | .loop nt' t' ps assign body dfr st pend=>match st with
  | .busy=>.fail
  | _=>match pend with
   | none=>.ok .norm t df (g2.put id (.loop nt' t' ps assign body dfr .exhausted pend))
   | some c=>ih.code nt d rd c t df (g2.put id (.loop nt' t' ps assign body dfr .exhausted pend))
 | _=>.fail
def cw (C:Cfg)(ih:IH)(nt d:Nat)(rd:Option Nat)(fv:AV)(ps:List Nat)(assign body:Code)(t:T)(df:List ADf)(dfr:Nat)(g:G):CR :=
 match fv with
 | .clo f first cap=>au (C.ext f).isSome .fail
  (match ih.call d f (first++(.yld g.nx::cap)) (g.new (.loop nt t ps assign body dfr .ready none)) with
  | .ok _ g2=>dt ih nt d rd g.nx t df g2
  | .fail=>.fail)
 | _=>.fail
def lH (C:Cfg)(nt:Nat)(fo:T->AV)(ps:List Nat)(assign body:Code):RFn:=λih d rd t df g =>
 match rd with
 | some l=>match g.get l with
  | .loop _ _ _ _ _ dfr _ _=>cw C ih nt d rd (fo t) ps assign body t df dfr g
  | _=>.fail
 | none=>cw C ih nt d rd (fo t) ps assign body t (.mark g.nx::df) g.nx (g.new (.dfr true))
def Ae (k:T->List ADf->G->CR):CR->CR
 | .ok .norm t df g=>k t df g
 | r=>r
def sV (id:Nat):CR->CR
 | .ok (.exit j) t df g=>au (Nat.beq j id) (.ok .norm t df g) (.ok (.exit j) t df g)
 | r=>r
def aJ (C:Cfg)(nt:Nat):Code->Stg RFn
 | .skip=>⟨λ_ _ _ t df g=>.ok .norm t df g⟩
 | .label _=>⟨λ_ _ _ t df g=>.ok .norm t df g⟩
 | .region _ ops draw=>eE C nt ops.toList draw
 | .seq a b=>⟨λih d rd t df g=>Ae ((aJ C nt b).run ih d rd) ((aJ C nt a).run ih d rd t df g)⟩
 | .cond c a b=>match aM C c with
  | some q=>⟨λih d rd t df g=>match q.run t with
   | .bool v=>au v ((aJ C nt a).run ih d rd t df g) ((aJ C nt b).run ih d rd t df g)
   | _=>.fail⟩
  | none=>AD
 | .block id body=>⟨λih d rd t df g=>sV id ((aJ C nt body).run ih d rd t df g)⟩
 | .loop body=>⟨λih d rd t df g=>Ae (λt df g=>ih.code nt d rd (.loop body) t df g) ((aJ C nt body).run ih d rd t df g)⟩
 | .scope body=>aJ C nt body
 | .exit id=>⟨λ_ _ _ t df g=>.ok (.exit id) t df g⟩
 | .ret=>⟨λ_ _ _ t df g=>.ok .ret t df g⟩
 | .rangeFunc f ps assign body=>match aM C f with
  | some a=>⟨lH C nt a.run ps.toList assign body⟩
  | none=>AD
 | _=>AD
def Is (C:Cfg)(ih:IH)(nt d:Nat)(rd:Option Nat)(c:Code)(t:T)(df:List ADf)(g:G):CR :=
 (aJ C nt c).run ih d rd t df g
def eN (ih:IH)(d:Nat):List ADf->G->Option G
 | [],g=>some g
 | .mark id::ds,g=>match g.get id with
  | .dfr true=>eN ih d ds (g.put id (.dfr false))
  | _=>none
 | .call (.clo f first cap) args::ds,g=>match ih.call d f (first++(args++cap)) g with
  | .ok _ g'=>eN ih d ds g'
  | .fail=>none
 | .call _ _::_,_=>none
def pP (C:Cfg):List ResultVar->Option (Stg (T->G->Option (List AV)))
 | []=>some ⟨λ_ _=>some []⟩
 | .tmp n::rs=>match pP C rs with
  | some k=>some ⟨λt g=>match k.run t g with | some vs=>some ((gp AV.undef n).run t::vs) | none=>none⟩
  | none=>none
 | .cell a ty::rs=>match pP C rs,bS C (.load ty (.tmp a)) with
  | some k,some l=>some ⟨λt g=>match l.run t g with
   | .val v=>(match k.run t g with | some vs=>some (v::vs) | none=>none)
   | _=>none⟩
  | _,_=>none
def bK:Nat->List AV->T->T
 | _,[],t=>t
 | i,v::vs,t=>bK (i+1) vs ((sp AV.undef i).run t v)
def jc:List AV->AV
 | [v]=>v
 | vs=>.tup vs
def cD (ih:IH)(d:Nat)(res:T->G->Option (List AV))(t:T)(df:List ADf)(g:G):FR :=
 match eN ih d df g with
 | none=>.fail
 | some g'=>match res t g' with
  | some vs=>.ok (jc vs) g'
  | none=>.fail
def cFn (C:Cfg)(f:Nat):Option (Stg (IH->Nat->List AV->G->FR)) :=
 match C.P.funcs[f]? with
 | none=>none
 | some fn=>match fn.body with
  | none=>none
  | some c=>match pP C fn.results.toList with
   | some r => au (fn.name == "runtime.NumGoroutine") none
    (some ⟨λih d args g=>au (Nat.ble (aY args) fn.ntmps)
     (match (aJ C fn.ntmps c).run ih d none (bK 0 args .nil) [] g with
      | .ok (.exit _) _ _ _=>.fail
      | .ok _ t df g'=>cD ih d r.run t df g'
      | .fail=>.fail) .fail⟩)
   | none=>none
def dJ (C:Cfg)(ih:IH)(d f:Nat)(args:List AV)(g:G):FR :=
 match cFn C f with
 | some x=>x.run ih d args g
 | none=>.fail
def IH.zero:IH:=⟨λ_ _ _ _ _ _ _=>.fail,λ_ _ _ _=>.fail⟩
def Fe (C:Cfg)(ih:IH):IH:=⟨Is C ih,dJ C ih⟩
def sem (C:Cfg)(n:Nat):IH:=@Nat.rec (λ_=>IH) IH.zero (λ_ ih=>Fe C ih) n
end
end Hx
end
section
namespace Hx
open Go
@[simp] theorem bif'_true {α:Type} (x y:α):au true x y=x:=rfl
@[simp] theorem bif'_false {α:Type} (x y:α):au false x y=y:=rfl
theorem aa {α:Type}(b:Bool)(x y:α):au b x y=if b=true then x else y:=by cases b<;>rfl
@[simp] theorem notb_eq (b:Bool):gZ b = !b:=by cases b<;>rfl
theorem c_ {α:Type}(n:Nat):∀l:List α,yX n l=l[n]?:=by
 induction n with
 | zero=>intro l;cases l<;>rfl
 | succ n ih=>intro l;cases l with
  | nil=>rfl
  | cons a t=>simp only[List.getElem?_cons_succ];exact ih t
theorem fA {α:Type}(n:Nat)(x:α):∀l:List α,Fa n x l=l.set n x:=by
 induction n with
 | zero=>intro l;cases l<;>rfl
 | succ n ih=>intro l;cases l with
  | nil=>rfl
  | cons a t=>simp only[List.set_cons_succ];exact congrArg (a::·) (ih t)
theorem aw {α:Type}(l:List α):aY l=l.length:=by
 induction l with
 | nil=>rfl
 | cons a t ih=>exact congrArg Nat.succ ih
theorem bg {α:Type}(n:Nat):∀l:List α,dZ n l=l.drop n:=by
 induction n with
 | zero=>intro l;rfl
 | succ n ih=>intro l;cases l with
  | nil=>rfl
  | cons a t=>simp only[List.drop_succ_cons];exact ih t
theorem bh {α:Type}(n:Nat):∀l:List α,eO n l=l.take n:=by
 induction n with
 | zero=>intro l;rfl
 | succ n ih=>intro l;cases l with
  | nil=>rfl
  | cons a t=>simp only[List.take_succ_cons];exact congrArg (a::·) (ih t)
section tr
variable {α:Type}(e:α)
theorem Lt:∀(f n:Nat) (t:Tr α),n<f->(gpF e f n).run t=t.get e n:=by
 intro f
 induction f with
 | zero=>intro n t h;omega
 | succ f ih =>
  intro n t h;cases n with
  | zero=>cases t<;>rfl
  | succ m =>
   have hm:m / 2<f:=by omega
   simp only[gpF];cases hb:Nat.beq (m % 2) 0
   ·cases t with
    | nil=>rfl
    | node v l r=>simp only[Tr.get,hb];exact ih _ _ hm
   ·cases t with
    | nil=>rfl
    | node v l r=>simp only[Tr.get,hb];exact ih _ _ hm
@[simp] theorem gp_run (n:Nat) (t:Tr α):(gp e n).run t=t.get e n:=Lt e (n+1) n t (by omega)
theorem Tr.get_nil (n:Nat):(Tr.nil:Tr α).get e n=e:=by cases n<;>rfl
theorem Mi:∀(f n:Nat) (t:Tr α) (x:α) (k:Nat),n<f->((spF e f n).run t x).get e k=if k=n then x else t.get e k:=by
 intro f
 induction f with
 | zero=>intro n t x k h;omega
 | succ f ih =>
  intro n t x k h;cases n with
  | zero=>cases t with
   | nil=>cases k with
    | zero=>rfl
    | succ k=>simp only[spF,Tr.get];cases Nat.beq (k % 2) 0<;>simp
   | node v l r=>cases k<;>simp[spF,Tr.get]
  | succ m =>
   have hm:m / 2<f:=by omega
   simp only[spF];cases hb:Nat.beq (m % 2) 0
   ·have hb':m % 2=1:=by have:=Nat.ne_of_beq_eq_false hb;omega
    cases t with
    | nil =>
     try simp only[bif'_false]
     cases k with
     | zero=>simp[Tr.get]
     | succ k =>
      simp only[Tr.get];cases hk:Nat.beq (k % 2) 0
      ·try simp only[bif'_false]
       rw[ih _ _ _ _ hm,Tr.get_nil];have hk':k % 2=1:=by have:=Nat.ne_of_beq_eq_false hk;omega
       by_cases h2:k=m
       ·subst h2;simp
       ·rw[if_neg (by omega),if_neg (by omega)]
      ·have hk':k % 2=0:=Nat.eq_of_beq_eq_true hk
       try simp only[bif'_true]
       rw[if_neg (by omega)]
    | node v l r =>
     try simp only[bif'_false]
     cases k with
     | zero=>simp[Tr.get]
     | succ k =>
      simp only[Tr.get];cases hk:Nat.beq (k % 2) 0
      ·try simp only[bif'_false]
       rw[ih _ _ _ _ hm];have hk':k % 2=1:=by have:=Nat.ne_of_beq_eq_false hk;omega
       by_cases h2:k=m
       ·subst h2;simp
       ·rw[if_neg (by omega),if_neg (by omega)]
      ·have hk':k % 2=0:=Nat.eq_of_beq_eq_true hk
       try simp only[bif'_true]
       rw[if_neg (by omega)]
   ·have hb':m % 2=0:=Nat.eq_of_beq_eq_true hb;cases t with
    | nil =>
     try simp only[bif'_true]
     cases k with
     | zero=>simp[Tr.get]
     | succ k =>
      simp only[Tr.get];cases hk:Nat.beq (k % 2) 0
      ·have hk':k % 2=1:=by have:=Nat.ne_of_beq_eq_false hk;omega
       try simp only[bif'_false]
       rw[if_neg (by omega)]
      ·try simp only[bif'_true]
       rw[ih _ _ _ _ hm,Tr.get_nil];have hk':k % 2=0:=Nat.eq_of_beq_eq_true hk
       by_cases h2:k=m
       ·subst h2;simp
       ·rw[if_neg (by omega),if_neg (by omega)]
    | node v l r =>
     try simp only[bif'_true]
     cases k with
     | zero=>simp[Tr.get]
     | succ k =>
      simp only[Tr.get];cases hk:Nat.beq (k % 2) 0
      ·have hk':k % 2=1:=by have:=Nat.ne_of_beq_eq_false hk;omega
       try simp only[bif'_false]
       rw[if_neg (by omega)]
      ·try simp only[bif'_true]
       rw[ih _ _ _ _ hm];have hk':k % 2=0:=Nat.eq_of_beq_eq_true hk
       by_cases h2:k=m
       ·subst h2;simp
       ·rw[if_neg (by omega),if_neg (by omega)]
@[simp] theorem sp_get (n:Nat) (t:Tr α) (x:α) (k:Nat):((sp e n).run t x).get e k=if k=n then x else t.get e k :=
 Mi e (n+1) n t x k (by omega)
end tr
theorem H.get_put (h:H)(i:Nat)(o:AObj)(k:Nat):(h.put i o).get k=if k=i then o else h.get k:=by simp[H.get,H.put]
@[simp] theorem G.get_eq (g:G) (i:Nat):g.get i=g.h.get i:=rfl
@[simp] theorem G.put_h (g:G) (i:Nat) (o:AObj):(g.put i o).h=g.h.put i o:=by cases g;rfl
@[simp] theorem G.put_nx (g:G) (i:Nat) (o:AObj):(g.put i o).nx=g.nx:=by cases g;rfl
@[simp] theorem G.put_lg (g:G) (i:Nat) (o:AObj):(g.put i o).lg=i::g.lg:=by cases g;rfl
@[simp] theorem G.new_h (g:G) (o:AObj):(g.new o).h=g.h.put g.nx o:=by cases g;rfl
@[simp] theorem G.new_nx (g:G) (o:AObj):(g.new o).nx=g.nx+1:=by cases g;rfl
@[simp] theorem G.new_lg (g:G) (o:AObj):(g.new o).lg=g.nx::g.lg:=by cases g;rfl
@[simp] theorem bumpG_h (g:G) (l:List Nat):(iU g l).h=g.h:=by cases g;rfl
@[simp] theorem bumpG_nx (g:G) (l:List Nat):(iU g l).nx=g.nx+1:=by cases g;rfl
@[simp] theorem bumpG_lg (g:G) (l:List Nat):(iU g l).lg=l:=by cases g;rfl
@[simp] theorem setLog_h (g:G) (l:List Nat):(aH g l).h=g.h:=by cases g;rfl
@[simp] theorem setLog_nx (g:G) (l:List Nat):(aH g l).nx=g.nx:=by cases g;rfl
@[simp] theorem setLog_lg (g:G) (l:List Nat):(aH g l).lg=l:=by cases g;rfl
theorem lL (m:Nat)(h:m<9223372036854775808):IntKind.wrap .i64 (Int.ofNat m)=Int.ofNat m:=by have e:(Int.ofNat m) % (2 ^ 64:Int)=Int.ofNat m:=Int.emod_eq_of_lt (Int.natCast_nonneg m) (by simp only[Int.ofNat_eq_natCast];omega);unfold IntKind.wrap;simp only[IntKind.bits,IntKind.signed,e,Bool.true_and,decide_eq_true_eq];rw[if_neg (by simp only[Int.ofNat_eq_natCast];omega)]
theorem uT (z:Int)(h:-9223372036854775808<=z)(h0:z<0):IntKind.wrap .i64 z=z:=by
 have e:z % (2 ^ 64:Int)=z+2 ^ 64:=by rw[<-Int.add_emod_right,Int.emod_eq_of_lt]<;>omega
 unfold IntKind.wrap;simp only[IntKind.bits,IntKind.signed,e,Bool.true_and,decide_eq_true_eq]
 split<;>omega
theorem wj (m:Nat)(h:m<9223372036854775808):IntKind.wrap .i64 (Int.negSucc m)=Int.negSucc m:=by have h1:=Int.negSucc_eq m;generalize Int.negSucc m=z at *;exact uT z (by omega) (by omega)
theorem fp (k:IntKind)(n:Int):rJ k n=k.wrap n:=by
 unfold rJ
 split
 ·rename_i m;rw[aa];split
  ·rename_i h;rw[Nat.blt_eq] at h;exact (lL m h).symm
  ·rfl
 ·rename_i m;rw[aa];split
  ·rename_i h;rw[Nat.blt_eq] at h;exact (wj m h).symm
  ·rfl
 ·simp only[IntKind.wrap,IntKind.bits,IntKind.signed];rfl
 ·simp only[IntKind.wrap,IntKind.bits,IntKind.signed];rfl
 ·rfl
theorem jP (a b:Int):xi a b=decide (a<b):=by rw[Bool.eq_iff_iff,decide_eq_true_iff];cases a<;>cases b<;>simp only[xi,Nat.blt_eq,Int.negSucc_eq,Int.ofNat_eq_natCast,Bool.false_eq_true,false_iff,true_iff]<;>omega
theorem rO (a b:Int):EC a b=decide (a=b):=by
 rw[Bool.eq_iff_iff,decide_eq_true_iff];cases a<;>cases b<;>simp only[EC,Int.negSucc_eq,Int.ofNat_eq_natCast,Bool.false_eq_true,false_iff]
 ·rw[Nat.beq_eq];omega
 ·omega
 ·omega
 ·rw[Nat.beq_eq];omega
theorem om (a b:IntKind):cA a b=decide (a=b):=by cases a<;>cases b<;>rfl
end Hx
end
section
namespace Hx
open Go
structure Gh where
 kind:Nat
 ep:Nat
 sz:Nat
 n:Nat
 blk:Nat
 base:Nat
 slack:Nat
 wr:Bool
abbrev Gm:=Nat->Gh
def Mut (γ:Gm)(b:Nat):Prop:=∃id,(γ id).kind≠0/\(γ id).wr=true/\(γ id).blk=b
def adr (b o:Nat):Addr:=⟨b,o,none⟩
def gg (lim:Option Nat)(off cap:Nat)(g:Gh):Prop :=
 match lim with
 | some c=>cap=c/\off+c<=g.n
 | none=>off+cap=g.n+g.slack
inductive Closed:AV->Prop
 | bool (b:Bool):Closed (.bool b)
 | int (k:IntKind) (n:Int):Closed (.int k n)
 | str (s:ByteArray):Closed (.str s)
 | tup (xs:List AV) (h:∀x∈xs,Closed x):Closed (.tup xs)
 | agg (xs:List AV) (h:∀x∈xs,Closed x):Closed (.agg xs)
 | nilp:Closed .nilp
 | nils:Closed .nils
 | nilf:Closed .nilf
 | nilm:Closed .nilm
 | nili:Closed .nili
 | esl:Closed .esl
 | tsl (tag sz:Nat) (rows:List (List AV)) (h:∀row∈rows,∀x∈row,Closed x):Closed (.tsl tag sz rows)
 | tptr (tag sz:Nat) (rows:List (List AV)) (i off:Nat) (h:∀row∈rows,∀x∈row,Closed x):Closed (.tptr tag sz rows i off)
 | clo (f:Nat) (xs ys:List AV) (h:∀x∈xs,Closed x) (h2:∀x∈ys,Closed x):Closed (.clo f xs ys)
 | ifc (t:Nat) (x:AV) (h:Closed x):Closed (.ifc t x)
inductive RV (w:World) (γ:Gm) (A:Nat->Nat->Prop):Nat->AV->Value->Prop
 | bool (bd:Nat) (b:Bool):RV w γ A bd (.bool b) (.bool b)
 | int (bd:Nat) (k:IntKind) (n:Int):RV w γ A bd (.int k n) (.int k n)
 | str (bd:Nat) (s:ByteArray):RV w γ A bd (.str s) (.string s)
 | tup (bd:Nat) (xs:List AV) (vs:Array Value) (hl:xs.length=vs.size)
   (h:∀(i:Nat) x v,xs[i]?=some x->vs[i]?=some v->RV w γ A bd x v):RV w γ A bd (.tup xs) (.tuple vs)
 | agg (bd:Nat) (xs:List AV) (vs:Array Value) (hl:xs.length=vs.size) (h1:∀(i:Nat) x,xs[i]?=some x->x.one=true)
   (h:∀(i:Nat) x v,xs[i]?=some x->vs[i]?=some v->RV w γ A bd x v):RV w γ A bd (.agg xs) (.agg vs)
 | nilp (bd:Nat):RV w γ A bd .nilp (.pointer none)
 | nils (bd:Nat):RV w γ A bd .nils (.slice none 0 0)
 | nilf (bd:Nat):RV w γ A bd .nilf .nilFunc
 | nilm (bd:Nat):RV w γ A bd .nilm (.map none)
 | nili (bd:Nat):RV w γ A bd .nili .nilIface
 | esl (bd:Nat) (a:Addr):RV w γ A bd .esl (.slice (some a) 0 0)
 | tsl (bd tag sz:Nat) (rows:List (List AV)) (b o cap:Nat) (cell:Nat->Nat->Value) (ht:tag<=bd) (hc:rows.length<=cap)
   (hb:b<w.heap.size) (hm:¬Mut γ b) (ha:¬A tag b)
   (hr:∀(i:Nat) row,rows[i]?=some row->row.length=sz)
   (ho:∀(i j:Nat) row x,rows[i]?=some row->row[j]?=some x->x.one=true)
   (hw:∀(i j:Nat) row x,rows[i]?=some row->row[j]?=some x->w.cell? (adr b (o+i*sz+j))=some (cell i j))
   (h:∀(i j:Nat) row x,rows[i]?=some row->row[j]?=some x->RV w γ A tag x (cell i j))
   (hcl:∀row∈rows,∀x∈row,Closed x) :
   RV w γ A bd (.tsl tag sz rows) (.slice (some (adr b o)) rows.length cap)
 | tnil (bd tag sz:Nat) (a:Addr) (cap:Nat) (ht:tag<=bd):RV w γ A bd (.tsl tag sz []) (.slice (some a) 0 cap)
 | tptr (bd tag sz:Nat) (rows:List (List AV)) (i0 off0 b o:Nat) (cell:Nat->Nat->Value) (ht:tag<=bd)
   (hb:b<w.heap.size) (hm:¬Mut γ b) (ha:¬A tag b)
   (hr:∀(i:Nat) row,rows[i]?=some row->row.length=sz)
   (ho:∀(i j:Nat) row x,rows[i]?=some row->row[j]?=some x->x.one=true)
   (hw:∀(i j:Nat) row x,rows[i]?=some row->row[j]?=some x->w.cell? (adr b (o+i*sz+j))=some (cell i j))
   (h:∀(i j:Nat) row x,rows[i]?=some row->row[j]?=some x->RV w γ A tag x (cell i j))
   (hcl:∀row∈rows,∀x∈row,Closed x) :
   RV w γ A bd (.tptr tag sz rows i0 off0) (.pointer (some (adr b (o+i0*sz+off0))))
 | hsl (bd id ep off len:Nat) (lim:Option Nat) (b o cap:Nat) (hk:(γ id).kind=1) (he:ep<=(γ id).ep) (hc:len<=cap)
   (h:ep=(γ id).ep->b=(γ id).blk/\o=(γ id).base+off*(γ id).sz/\gg lim off cap (γ id)) :
   RV w γ A bd (.hsl id ep off len lim) (.slice (some (adr b o)) len cap)
 | hptr (bd id ep i off:Nat) (b o:Nat) (hk:(γ id).kind=1) (he:ep<=(γ id).ep)
   (h:ep=(γ id).ep->b=(γ id).blk/\o=(γ id).base+i*(γ id).sz+off) :
   RV w γ A bd (.hptr id ep i off) (.pointer (some (adr b o)))
 | clo (bd f:Nat) (xs ys:List AV) (vs us:Array Value) (hl:xs.length=vs.size) (hl2:ys.length=us.size)
   (h:∀(i:Nat) x v,xs[i]?=some x->vs[i]?=some v->RV w γ A bd x v)
   (h2:∀(i:Nat) x v,ys[i]?=some x->us[i]?=some v->RV w γ A bd x v):RV w γ A bd (.clo f xs ys) (.func (.func f) vs us)
 | hmap (bd id b:Nat) (hk:(γ id).kind=2) (hb:b=(γ id).blk):RV w γ A bd (.hmap id) (.map (some b))
 | ifc (bd t:Nat) (x:AV) (v:Value) (h:RV w γ A bd x v):RV w γ A bd (.ifc t x) (.iface t v)
 | yld (bd id b:Nat) (hk:(γ id).kind=3) (hb:b=(γ id).blk):RV w γ A bd (.yld id) (.func (.yield b) #[] #[])
def RVs (w:World)(γ:Gm)(A:Nat->Nat->Prop)(bd:Nat)(xs:List AV)(vs:List Value):Prop :=
 xs.length=vs.length/\∀(i:Nat) x v,xs[i]?=some x->vs[i]?=some v->RV w γ A bd x v
theorem RV.mono {w:World}{γ:Gm}{A:Nat->Nat->Prop}{bd bd':Nat}{x:AV}{v:Value}(h:RV w γ A bd x v)(hb:bd<=bd') :
  RV w γ A bd' x v:=by
 induction h generalizing bd' with
 | bool=>exact .bool _ _
 | int=>exact .int _ _ _
 | str=>exact .str _ _
 | tup _ xs vs hl _ ih=>exact .tup _ _ _ hl λi x v h1 h2=>ih i x v h1 h2 hb
 | agg _ xs vs hl h1 _ ih=>exact .agg _ _ _ hl h1 λi x v h1 h2=>ih i x v h1 h2 hb
 | nilp=>exact .nilp _
 | nils=>exact .nils _
 | nilf=>exact .nilf _
 | nilm=>exact .nilm _
 | nili=>exact .nili _
 | esl=>exact .esl _ _
 | tsl _ tag sz rows b o cap cell ht hc hb' hm ha hr ho hw h hcl _=>exact .tsl _ tag sz rows b o cap cell (Nat.le_trans ht hb) hc hb' hm ha hr ho hw h hcl
 | tnil _ tag sz a cap ht=>exact .tnil _ tag sz a cap (Nat.le_trans ht hb)
 | tptr _ tag sz rows i0 off0 b o cell ht hb' hm ha hr ho hw h hcl _=>exact .tptr _ tag sz rows i0 off0 b o cell (Nat.le_trans ht hb) hb' hm ha hr ho hw h hcl
 | hsl _ id ep off len lim b o cap hk he hc h=>exact .hsl _ id ep off len lim b o cap hk he hc h
 | hptr _ id ep i off b o hk he h=>exact .hptr _ id ep i off b o hk he h
 | clo _ f xs ys vs us hl hl2 _ _ ih ih2=>exact .clo _ f xs ys vs us hl hl2 (λi x v h1 h2=>ih i x v h1 h2 hb) (λi x v h1 h2=>ih2 i x v h1 h2 hb)
 | hmap _ id b hk hb'=>exact .hmap _ id b hk hb'
 | ifc _ t x v _ ih=>exact .ifc _ t x v (ih hb)
 | yld _ id b hk hb'=>exact .yld _ id b hk hb'
structure Stp (w:World) (γ:Gm) (w':World) (γ':Gm):Prop where
 sz:w.heap.size<=w'.heap.size
 os:w'.os=w.os
 tape:w'.tape=w.tape
 output:w'.output=w.output
 fr:∀b,b<w.heap.size->¬Mut γ b->w'.heap[b]?=w.heap[b]?
 mt:∀b,b<w.heap.size->Mut γ' b->Mut γ b
 kind:∀id,(γ id).kind≠0->(γ' id).kind=(γ id).kind/\(γ' id).blk=(γ id).blk\/(γ id).kind=1/\(γ' id).kind=1/\(γ id).ep<(γ' id).ep
 ep:∀id,(γ id).kind=1->(γ id).ep<=(γ' id).ep /\
  ((γ' id).ep=(γ id).ep->(γ' id).sz=(γ id).sz/\(γ' id).n=(γ id).n/\(γ' id).blk=(γ id).blk/\(γ' id).base=(γ id).base/\(γ' id).slack=(γ id).slack)
 dr:w.drawn<=w'.drawn
theorem Stp.refl (w:World)(γ:Gm):Stp w γ w γ :=
 ⟨Nat.le_refl _,rfl,rfl,rfl,λ_ _ _=>rfl,λ_ _ h=>h,λ_ _=>.inl ⟨rfl,rfl⟩,λ_ _=>⟨Nat.le_refl _,λ_=>⟨rfl,rfl,rfl,rfl,rfl⟩⟩,Nat.le_refl _⟩
theorem Stp.kind_eq {w w':World}{γ γ':Gm}(h:Stp w γ w' γ'){id:Nat}(hk:(γ id).kind≠0):(γ' id).kind=(γ id).kind:=by
 rcases h.kind id hk with h1 | h1
 ·exact h1.1
 ·rw[h1.1,h1.2.1]
theorem Stp.blk_eq {w w':World}{γ γ':Gm}(h:Stp w γ w' γ'){id:Nat}(hk:(γ id).kind≠0)(h1:(γ id).kind≠1):(γ' id).blk=(γ id).blk:=by
 rcases h.kind id hk with h2 | h2
 ·exact h2.2
 ·exact absurd h2.1 h1
theorem Stp.trans {w w' w'':World}{γ γ' γ'':Gm}(h:Stp w γ w' γ')(h':Stp w' γ' w'' γ''):Stp w γ w'' γ'' where
 sz:=Nat.le_trans h.sz h'.sz
 os:=h'.os.trans h.os
 tape:=h'.tape.trans h.tape
 output:=h'.output.trans h.output
 fr b hb hm:=by rw[h'.fr b (Nat.lt_of_lt_of_le hb h.sz) (λk=>hm (h.mt b hb k)),h.fr b hb hm]
 mt b hb k:=h.mt b hb (h'.mt b (Nat.lt_of_lt_of_le hb h.sz) k)
 kind id hk:=by
  have h1:=h.kind_eq hk;have hk':(γ' id).kind≠0:=by rw[h1];exact hk
  rcases h.kind id hk with a | a
  ·rcases h'.kind id hk' with c | c
   ·exact .inl ⟨c.1.trans a.1,c.2.trans a.2⟩
   ·refine .inr ⟨by rw[<-a.1];exact c.1,c.2.1,Nat.lt_of_le_of_lt (h.ep id (by rw[<-a.1];exact c.1)).1 c.2.2⟩
  ·exact .inr ⟨a.1,by rw[h'.kind_eq hk',a.2.1],Nat.lt_of_lt_of_le a.2.2 (h'.ep id a.2.1).1⟩
 ep id hk:=by
  have h1:=h.ep id hk;have hk':(γ' id).kind=1:=by rw[h.kind_eq (by rw[hk];decide),hk]
  have h2:=h'.ep id hk';refine ⟨Nat.le_trans h1.1 h2.1,λhe=>?_⟩;have e1:(γ' id).ep=(γ id).ep:=Nat.le_antisymm (by rw[<-he];exact h2.1) h1.1;have e2:(γ'' id).ep=(γ' id).ep:=by rw[he,e1]
  obtain ⟨a1,a2,a3,a4,a5⟩:=h1.2 e1;obtain ⟨b1,b2,b3,b4,b5⟩:=h2.2 e2;exact ⟨b1.trans a1,b2.trans a2,b3.trans a3,b4.trans a4,b5.trans a5⟩
 dr:=Nat.le_trans h.dr h'.dr
theorem xu {w w':World}{a:Addr}(h:w'.heap[a.block]?=w.heap[a.block]?):w'.cell? a=w.cell? a:=by simp only[World.cell?,h]
theorem EK {w:World}{a:Addr}{v:Value}(h:w.cell? a=some v):a.block<w.heap.size:=by
 simp only[World.cell?] at h;rcases Nat.lt_or_ge a.block w.heap.size with hl | hl
 ·exact hl
 ·rw[Array.getElem?_eq_none hl] at h;simp at h
theorem RV.step {w w':World}{γ γ':Gm}{A:Nat->Nat->Prop}{bd:Nat}{x:AV}{v:Value}(h:RV w γ A bd x v)(s:Stp w γ w' γ') :
  RV w' γ' A bd x v:=by
 induction h with
 | bool=>exact .bool _ _
 | int=>exact .int _ _ _
 | str=>exact .str _ _
 | tup _ xs vs hl _ ih=>exact .tup _ _ _ hl ih
 | agg _ xs vs hl h1 _ ih=>exact .agg _ _ _ hl h1 ih
 | nilp=>exact .nilp _
 | nils=>exact .nils _
 | nilf=>exact .nilf _
 | nilm=>exact .nilm _
 | nili=>exact .nili _
 | esl=>exact .esl _ _
 | tsl _ tag sz rows b o cap cell ht hc hb hm ha hr ho hw _ hcl ih =>
  refine .tsl _ tag sz rows b o cap cell ht hc (Nat.lt_of_lt_of_le hb s.sz) (λk=>hm (s.mt b hb k)) ha hr ho (λi j row x h1 h2=>?_) ih hcl;rw[xu (a:=adr b _) (s.fr b hb hm)];exact hw i j row x h1 h2
 | tnil _ tag sz a cap ht=>exact .tnil _ tag sz a cap ht
 | tptr _ tag sz rows i0 off0 b o cell ht hb hm ha hr ho hw _ hcl ih =>
  refine .tptr _ tag sz rows i0 off0 b o cell ht (Nat.lt_of_lt_of_le hb s.sz) (λk=>hm (s.mt b hb k)) ha hr ho (λi j row x h1 h2=>?_) ih hcl;rw[xu (a:=adr b _) (s.fr b hb hm)];exact hw i j row x h1 h2
 | hsl _ id ep off len lim b o cap hk he hc h =>
  have e:=s.ep id hk;refine .hsl _ id ep off len lim b o cap (by rw[s.kind_eq (by rw[hk];decide),hk]) (Nat.le_trans he e.1) hc λh'=>?_;have e1:(γ' id).ep=(γ id).ep:=Nat.le_antisymm (by rw[<-h'];exact he) e.1;obtain ⟨a1,a2,a3,a4,a5⟩:=e.2 e1;obtain ⟨c1,c2,c3⟩:=h (h'.trans e1);refine ⟨by rw[a3];exact c1,by rw[a1,a4];exact c2,?_⟩;unfold gg at *;cases lim<;>simp only[a2,a5] at *<;>exact c3
 | hptr _ id ep i off b o hk he h =>
  have e:=s.ep id hk;refine .hptr _ id ep i off b o (by rw[s.kind_eq (by rw[hk];decide),hk]) (Nat.le_trans he e.1) λh'=>?_;have e1:(γ' id).ep=(γ id).ep:=Nat.le_antisymm (by rw[<-h'];exact he) e.1;obtain ⟨a1,a2,a3,a4,a5⟩:=e.2 e1;obtain ⟨c1,c2⟩:=h (h'.trans e1);exact ⟨by rw[a3];exact c1,by rw[a1,a4];exact c2⟩
 | clo _ f xs ys vs us hl hl2 _ _ ih ih2=>exact .clo _ f xs ys vs us hl hl2 ih ih2
 | hmap _ id b hk hb =>
  exact .hmap _ id b (by rw[s.kind_eq (by rw[hk];decide),hk]) (by rw[s.blk_eq (by rw[hk];decide) (by rw[hk];decide)];exact hb)
 | ifc _ t x v _ ih=>exact .ifc _ t x v ih
 | yld _ id b hk hb =>
  exact .yld _ id b (by rw[s.kind_eq (by rw[hk];decide),hk]) (by rw[s.blk_eq (by rw[hk];decide) (by rw[hk];decide)];exact hb)
theorem RV.heap {w w':World}{γ:Gm}{A:Nat->Nat->Prop}{bd:Nat}{x:AV}{v:Value}(h:RV w γ A bd x v)(hh:w'.heap=w.heap):RV w' γ A bd x v:=by
 have hc:∀a,w'.cell? a=w.cell? a:=λa=>xu (by rw[hh])
 induction h with
 | bool=>exact .bool _ _
 | int=>exact .int _ _ _
 | str=>exact .str _ _
 | tup _ xs vs hl _ ih=>exact .tup _ _ _ hl ih
 | agg _ xs vs hl h1 _ ih=>exact .agg _ _ _ hl h1 ih
 | nilp=>exact .nilp _
 | nils=>exact .nils _
 | nilf=>exact .nilf _
 | nilm=>exact .nilm _
 | nili=>exact .nili _
 | esl=>exact .esl _ _
 | tsl _ tag sz rows b o cap cell ht hc' hb hm ha hr ho hw _ hcl ih=>exact .tsl _ tag sz rows b o cap cell ht hc' (by rw[hh];exact hb) hm ha hr ho (λi j row x h1 h2=>by rw[hc];exact hw i j row x h1 h2) ih hcl
 | tnil _ tag sz a cap ht=>exact .tnil _ tag sz a cap ht
 | tptr _ tag sz rows i0 off0 b o cell ht hb hm ha hr ho hw _ hcl ih=>exact .tptr _ tag sz rows i0 off0 b o cell ht (by rw[hh];exact hb) hm ha hr ho (λi j row x h1 h2=>by rw[hc];exact hw i j row x h1 h2) ih hcl
 | hsl _ id ep off len lim b o cap hk he hc' h=>exact .hsl _ id ep off len lim b o cap hk he hc' h
 | hptr _ id ep i off b o hk he h=>exact .hptr _ id ep i off b o hk he h
 | clo _ f xs ys vs us hl hl2 _ _ ih ih2=>exact .clo _ f xs ys vs us hl hl2 ih ih2
 | hmap _ id b hk hb=>exact .hmap _ id b hk hb
 | ifc _ t x v _ ih=>exact .ifc _ t x v ih
 | yld _ id b hk hb=>exact .yld _ id b hk hb
theorem RVs.step {w w':World}{γ γ':Gm}{A:Nat->Nat->Prop}{bd:Nat}{xs:List AV}{vs:List Value}(h:RVs w γ A bd xs vs)(s:Stp w γ w' γ') :
  RVs w' γ' A bd xs vs:=⟨h.1,λi x v h1 h2=>(h.2 i x v h1 h2).step s⟩
def ObjRel (w:World)(γ:Gm)(A:Nat->Nat->Prop)(bd:Nat)(id:Nat):AObj->Prop
 | .none=>(γ id).kind=0
 | .cells sz rows ep loose fz=>(γ id).kind=1/\(γ id).ep=ep/\(γ id).sz=sz/\(γ id).n=rows.length/\((loose=false->(γ id).slack=0)/\(loose=true->rows.length+(γ id).slack<=9223372036854775807))/\(γ id).wr = !fz /\
   ∃(c:Array Value) (elem:TypeId),w.heap[(γ id).blk]?=some (.cells c elem (0,0))/\(γ id).base+(rows.length+(γ id).slack)*sz<=c.size /\
    (∀(i:Nat) row,rows[i]?=some row->row.length=sz) /\
    (∀(i j:Nat) row x,rows[i]?=some row->row[j]?=some x->x.one=true/\∃v,c[(γ id).base+i*sz+j]?=some v/\RV w γ A bd x v)
 | .map es=>(γ id).kind=2/\(γ id).wr=true /\
   ∃esC:Array MapEntry,w.heap[(γ id).blk]?=some (.map esC esC.size)/\es.length=esC.size /\
    (∀(i:Nat) k x e,es[i]?=some (k,x)->esC[i]?=some e->e.born=i/\RV w γ A bd k e.key/\RV w γ A bd x e.val)
 | .loop nt t ps assign body dfr st pend=>(γ id).kind=3/\(γ id).wr=true /\
   ∃L:Loop,w.heap[(γ id).blk]?=some (.loop L)/\L.state=st/\L.pending=pend/\L.params.toList=ps/\L.assign=assign/\L.body=body/\L.tmps.size=nt /\
    (∀i,RV w γ A bd (t.get AV.undef i) (L.tmps.getD i undef))/\(γ dfr).kind=4/\L.defers=(γ dfr).blk
 | .dfr live=>(γ id).kind=4/\(γ id).wr=true/\w.heap[(γ id).blk]?=some (.deferred (if live then some [] else none))
structure Rel (C:Cfg) (A:Nat->Nat->Prop) (bd:Nat) (w:World) (γ:Gm) (hg:Nat->AObj) (nx:Nat):Prop where
 obj:∀id,ObjRel w γ A bd id (hg id)
 lt:∀id,(γ id).kind≠0->id<nx/\(γ id).blk<w.heap.size
 inj:∀i j,(γ i).kind≠0->(γ j).kind≠0->(γ i).blk=(γ j).blk->i=j
 av:∀id,(γ id).kind≠0->∀t,¬A t (γ id).blk
 ab:∀t b,A t b->b<w.heap.size
 glob:∀g sz rows,C.glob g=some (sz,rows)->RV w γ A bd (.tptr 0 sz rows 0 0) (.pointer (some ⟨g,0,none⟩))
end Hx
end
section
namespace Hx
open Go
section
variable {P:Program}{w:World}
theorem eC (b o n:Nat):(adr b o).add n=adr b (o+n):=by
 unfold Addr.add adr;split
 ·rename_i h;subst h;rfl
 ·rfl
theorem jf {t:TypeId}{i:TypeInfo}(h:P.info? t=some i):(typeInfo t).run P w=.ok i w:=by simp[typeInfo,h]
theorem aW {t:TypeId}{n:Nat}(h:szT P t=some n):(Go.sizeOf t).run P w=.ok n w:=by
 unfold szT at h;cases hi:P.info? t with
 | none=>rw[hi] at h;cases h
 | some i=>rw[hi] at h;simp at h;simp[Go.sizeOf,jf hi,h]
theorem aC {t:TypeId}{d:TypeDesc}(h:P.underlying t=some d):(underlying t).run P w=.ok d w:=by simp[underlying,h]
theorem jZ {t:TypeId}{b:Bool}(h:p_ P t=some b):(isAgg t).run P w=.ok b w:=by
 unfold p_ at h;cases hd:P.underlying t with
 | none=>rw[hd] at h;cases h
 | some d=>rw[hd] at h;cases d<;>simp at h<;>subst h<;>simp[isAgg,aC hd]
theorem uD {b o:Nat}:∀(n i:Nat) (acc:Array Value) (cs:List Value),cs.length=n ->
  (∀(j:Nat) c,cs[j]?=some c->w.cell? (adr b (o+(i+j)))=some c) ->
  (loadCellsFrom (adr b o) i n acc).run P w=.ok (acc++cs.toArray) w:=by
 intro n
 induction n with
 | zero=>intro i acc cs hl _;have:cs=[]:=List.eq_nil_of_length_eq_zero hl;subst this;simp[loadCellsFrom]
 | succ n ih =>
  intro i acc cs hl h;cases cs with
  | nil=>cases hl
  | cons c cs =>
   have h0:=h 0 c rfl;simp only[Nat.add_zero] at h0;simp only[loadCellsFrom,Sem.run_bind,run_load,eC,h0,Result.andThen_ok];rw[ih (i+1) (acc.push c) cs (by simpa using hl) (λj x hj=>by
    have:=h (j+1) x (by simpa using hj);rw[show i+1+j=i+(j+1) from by omega];exact this)]
   simp
theorem sO {b o:Nat}{cs:List Value}(h:∀(j:Nat) c,cs[j]?=some c->w.cell? (adr b (o+j))=some c) :
  (loadCells (adr b o) cs.length).run P w=.ok cs.toArray w:=by
 unfold loadCells;rw[uD cs.length 0 #[] cs rfl (λj c hj=>by simpa using h j c hj)];simp
def World.setBlk (w:World)(b:Nat)(o:Obj):World:={ w with heap:=w.heap.setIfInBounds b o }
def ba (c:Array Value)(o:Nat):List Value->Array Value
 | []=>c
 | v::vs=>ba (c.setIfInBounds o v) (o+1) vs
theorem bA (vs:List Value):∀(c:Array Value) (o:Nat),(ba c o vs).size=c.size:=by
 induction vs with
 | nil=>intro c o;rfl
 | cons v vs ih=>intro c o;simp[ba,ih]
theorem bJ (vs:List Value):∀(c:Array Value) (o k:Nat),o+vs.length<=c.size ->
  (ba c o vs)[k]?=if o<=k/\k<o+vs.length then vs[k - o]? else c[k]?:=by
 induction vs with
 | nil=>intro c o k _;simp[ba];intro h1 h2;omega
 | cons v vs ih =>
  intro c o k h;simp only[List.length_cons] at h;simp only[ba];rw[ih _ _ _ (by simp;omega)];simp only[List.length_cons]
  by_cases h1:k=o
  ·subst h1;rw[if_neg (by omega),if_pos ⟨Nat.le_refl _,by omega⟩];simp[Array.getElem?_setIfInBounds];omega
  ·by_cases h2:o<=k/\k<o+(vs.length+1)
   ·rw[if_pos (by omega),if_pos h2,show k - o=(k - (o+1))+1 from by omega];rfl
   ·rw[if_neg (by omega),if_neg h2,Array.getElem?_setIfInBounds_ne (by omega)]
theorem aT (b:Nat)(o:Obj)(k:Nat):(World.setBlk w b o).heap[k]?=if k=b/\b<w.heap.size then some o else w.heap[k]?:=by
 simp only[World.setBlk,Array.getElem?_setIfInBounds]
 by_cases h:b=k
 ·subst h;simp;split
  ·rfl
  ·rename_i hh;rw[Array.getElem?_eq_none (by omega)]
 ·rw[if_neg h,if_neg (by omega)]
theorem m8 (b:Nat)(o o':Obj):World.setBlk (World.setBlk w b o) b o'=World.setBlk w b o':=by simp only[World.setBlk,Array.setIfInBounds_setIfInBounds]
@[simp] theorem setBlk_size (b:Nat) (o:Obj):(World.setBlk w b o).heap.size=w.heap.size:=by simp[World.setBlk]
theorem zl {b o:Nat}{v:Value}{c:Array Value}{e:TypeId}{f:Nat×Nat}(h:w.heap[b]?=some (.cells c e f)) :
  w.setCell (adr b o) v=World.setBlk w b (.cells (c.setIfInBounds o v) e f):=by
 have hb:b<w.heap.size:=by
  rcases Nat.lt_or_ge b w.heap.size with hl | hl
  ·exact hl
  ·rw[Array.getElem?_eq_none hl] at h;cases h
 have hx:w.heap[b]=.cells c e f:=by simpa [Array.getElem?_eq_getElem hb] using h
 simp only[World.setCell,World.setBlk,adr];congr 1;apply Array.ext_getElem?;intro k;rw[Array.getElem?_modify,Array.getElem?_setIfInBounds]
 by_cases hk:b=k
 ·subst hk;simp[hb,hx]
 ·rw[if_neg hk,if_neg hk]
theorem j_ {b o:Nat}{c:Array Value}{e:TypeId}{f:Nat×Nat}(h:w.heap[b]?=some (.cells c e f)):w.cell? (adr b o)=c[o]?:=by simp[World.cell?,adr,h]
theorem rG {b o:Nat}{e:TypeId}:∀(vs:List Value) (i:Nat) (w:World) (c:Array Value),w.heap[b]?=some (.cells c e (0,0)) ->
  o+i+vs.length<=c.size->(∀v∈vs,v.oneCell'=true) ->
  (storeCells (adr b o) vs i).run P w=.ok () (World.setBlk w b (.cells (ba c (o+i) vs) e (0,0))):=by
 intro vs
 induction vs with
 | nil =>
  intro i w c h _ _;have hb:b<w.heap.size:=by
   rcases Nat.lt_or_ge b w.heap.size with hl | hl
   ·exact hl
   ·rw[Array.getElem?_eq_none hl] at h;cases h
  have:World.setBlk w b (.cells c e (0,0))=w:=by
   have hx:w.heap[b]=.cells c e (0,0):=by simpa [Array.getElem?_eq_getElem hb] using h
   simp only[World.setBlk];congr 1;apply Array.ext_getElem?;intro k;rw[Array.getElem?_setIfInBounds]
   split
   ·rename_i hk;subst hk;simp[hb,hx]
   ·rfl
  simp[storeCells,ba,this]
 | cons v vs ih =>
  intro i w c h hs h1;simp only[List.length_cons] at hs;have hv:v.oneCell'=true:=h1 v (by simp);have hcell:w.cell? (adr b (o+i))=c[o+i]?:=j_ h;have hin:o+i<c.size:=by omega
  have hfz:w.frozen? (adr b (o+i))=false:=by simp[World.frozen?,adr,h]
  simp only[storeCells,Sem.run_bind,eC,run_store P w _ v _ hv,hcell,Array.getElem?_eq_getElem hin,hfz];simp only[Bool.false_eq_true,if_false,Result.andThen_ok,zl h];have hb:b<w.heap.size:=by
   rcases Nat.lt_or_ge b w.heap.size with hl | hl
   ·exact hl
   ·rw[Array.getElem?_eq_none hl] at h;cases h
  rw[ih (i+1) _ (c.setIfInBounds (o+i) v) (by rw[aT];simp[hb]) (by simp;omega) (λx hx=>h1 x (by simp[hx])),m8]
  rfl
end
theorem EQ {w:World}{γ:Gm}{A:Nat->Nat->Prop}{bd:Nat}{x:AV}{v:Value}(h:RV w γ A bd x v)(h1:x.one=true) :
  v.oneCell'=true/\v.cells=#[v]:=by
 cases h<;>first | (cases h1;done) | exact ⟨rfl,rfl⟩
theorem nz {w:World}{γ:Gm}{A:Nat->Nat->Prop}{bd:Nat}{x:AV}{v:Value}(h:RV w γ A bd x v)(ht:x.isTup=false) :
  RVs w γ A bd x.cells v.cells.toList/\(∀(i:Nat) y,x.cells[i]?=some y->y.one=true):=by
 by_cases h1:x.one=true
 ·have hx:x.cells=[x]:=by cases x<;>first | rfl | cases h1
  obtain ⟨_,h3⟩:=EQ h h1;rw[hx,h3];refine ⟨⟨rfl,λi y u hy hu=>?_⟩,λi y hy=>?_⟩
  ·cases i with
   | zero=>simp at hy hu;subst hy;subst hu;exact h
   | succ i=>simp at hy
  ·cases i with
   | zero=>simp at hy;subst hy;exact h1
   | succ i=>simp at hy
 ·cases h<;>first | (exact absurd rfl h1) | (cases ht;done) | skip
  rename_i xs vs hl h1' h';exact ⟨⟨by simpa [AV.cells,Value.cells] using hl,λi y u hy hu=>h' i y u hy (by simpa [Value.cells] using hu)⟩,h1'⟩
theorem GG {w:World}{γ:Gm}{A:Nat->Nat->Prop}{bd:Nat}{xs:List AV}{vs:List Value}(h:RVs w γ A bd xs vs)
  (h1:∀(i:Nat) y,xs[i]?=some y->y.one=true):∀v∈vs,v.oneCell'=true:=by
 intro v hv;obtain ⟨i,hi⟩:=List.getElem?_of_mem hv;have hlt:i<xs.length:=by rw[h.1];exact (List.getElem?_eq_some_iff.1 hi).1
 exact (EQ (h.2 i _ v (List.getElem?_eq_getElem hlt) hi) (h1 i _ (List.getElem?_eq_getElem hlt))).1
end Hx
end
section
namespace Hx
open Go
def upd {α:Type}(f:Nat->α)(i:Nat)(x:α):Nat->α:=λk=>if k=i then x else f k
@[simp] theorem upd_same {α:Type} (f:Nat->α) (i:Nat) (x:α):upd f i x i=x:=by simp[upd]
theorem bN {α:Type}(f:Nat->α){i k:Nat}(x:α)(h:k≠i):upd f i x k=f k:=by simp[upd,h]
section
variable {C:Cfg}{A:Nat->Nat->Prop}{bd:Nat}{w w':World}{γ γ':Gm}{hg:Nat->AObj}{nx nx':Nat}
theorem ObjRel.step {j:Nat}{o:AObj}(h:ObjRel w γ A bd j o)(s:Stp w γ w' γ')(hj:γ' j=γ j)
  (hb:(γ j).kind≠0->o≠.none->w'.heap[(γ j).blk]?=w.heap[(γ j).blk]?):ObjRel w' γ' A bd j o:=by
 cases o with
 | none=>simpa only[ObjRel,hj] using h
 | cells sz rows ep loose fz =>
  obtain ⟨h1,h2,h3,h4,h5,h6,c,e,h7,h8,h9,h10⟩:=h;simp only[ObjRel,hj];refine ⟨h1,h2,h3,h4,h5,h6,c,e,?_,h8,h9,λi j' row x hr hx=>?_⟩
  ·rw[hb (by rw[h1];decide) (by simp)];exact h7
  ·obtain ⟨a,v,b1,b2⟩:=h10 i j' row x hr hx;exact ⟨a,v,b1,b2.step s⟩
 | map es =>
  obtain ⟨h1,h2,esC,h3,h4,h5⟩:=h;simp only[ObjRel,hj];refine ⟨h1,h2,esC,by rw[hb (by rw[h1];decide) (by simp)];exact h3,h4,λi k x e a b=>?_⟩;obtain ⟨c1,c2,c3⟩:=h5 i k x e a b;exact ⟨c1,c2.step s,c3.step s⟩
 | loop nt t ps assign body dfr st pend =>
  obtain ⟨h1,h2,L,h3,h4,h5,h6,h7,h8,h9,h10,h11,h12⟩:=h;simp only[ObjRel,hj];have hd:(γ dfr).kind≠0:=by rw[h11];decide
  refine ⟨h1,h2,L,by rw[hb (by rw[h1];decide) (by simp)];exact h3,h4,h5,h6,h7,h8,h9,λi=>(h10 i).step s,by rw[s.kind_eq hd,h11],?_⟩;rw[h12,s.blk_eq hd (by rw[h11];decide)]
 | dfr live =>
  obtain ⟨h1,h2,h3⟩:=h;simp only[ObjRel,hj];exact ⟨h1,h2,by rw[hb (by rw[h1];decide) (by simp)];exact h3⟩
theorem Rel.set (h:Rel C A bd w γ hg nx){id:Nat}{gh:Gh}{o:AObj}(hγ:γ'=upd γ id gh)(s:Stp w γ w' γ')(hn:nx<=nx')
  (ho:ObjRel w' γ' A bd id o) (hlt:id<nx'/\gh.blk<w'.heap.size) (hinj:∀j,j≠id->(γ j).kind≠0->(γ j).blk≠gh.blk)
  (hav:∀t,¬A t gh.blk)
  (hoth:∀j,j≠id->(γ j).kind≠0->hg j≠.none->w'.heap[(γ j).blk]?=w.heap[(γ j).blk]?) :
  Rel C A bd w' γ' (upd hg id o) nx':=by
 subst hγ;constructor
 ·intro j
  by_cases hj:j=id
  ·subst hj;simpa using ho
  ·rw[bN _ _ hj];exact (h.obj j).step s (bN _ _ hj) (hoth j hj)
 ·intro j hk
  by_cases hj:j=id
  ·subst hj;simpa using hlt
  ·rw[bN _ _ hj] at hk ⊢;exact ⟨Nat.lt_of_lt_of_le (h.lt j hk).1 hn,Nat.lt_of_lt_of_le (h.lt j hk).2 s.sz⟩
 ·intro i j hi hj e
  by_cases h1:i=id<;>by_cases h2:j=id
  ·rw[h1,h2]
  ·subst h1;rw[bN _ _ h2] at hj e;simp only[upd_same] at e;exact absurd e.symm (hinj j h2 hj)
  ·subst h2;rw[bN _ _ h1] at hi e;simp only[upd_same] at e;exact absurd e (hinj i h1 hi)
  ·rw[bN _ _ h1] at hi e;rw[bN _ _ h2] at hj e;exact h.inj i j hi hj e
 ·intro j hk
  by_cases hj:j=id
  ·subst hj;simpa using hav
  ·rw[bN _ _ hj] at hk ⊢;exact h.av j hk
 ·intro t b hb;exact Nat.lt_of_lt_of_le (h.ab t b hb) s.sz
 ·intro g sz rows hg';exact (h.glob g sz rows hg').step s
theorem Rel.up (h:Rel C A bd w γ hg nx)(hn:nx<=nx'):Rel C A bd w γ hg nx' :=
 ⟨h.obj,λid hk=>⟨Nat.lt_of_lt_of_le (h.lt id hk).1 hn,(h.lt id hk).2⟩,h.inj,h.av,h.ab,h.glob⟩
theorem sj {id:Nat}{o:Obj}(hk:(γ id).kind≠0)(hw:(γ id).wr=true):Stp w γ (World.setBlk w (γ id).blk o) γ where
 sz:=by simp
 os:=rfl
 tape:=rfl
 output:=rfl
 fr b hb hm:=by rw[aT,if_neg];rintro ⟨h,_⟩;exact hm ⟨id,hk,hw,h.symm⟩
 mt b _ h:=h
 kind _ _:=.inl ⟨rfl,rfl⟩
 ep _ _:=⟨Nat.le_refl _,λ_=>⟨rfl,rfl,rfl,rfl,rfl⟩⟩
 dr:=Nat.le_refl _
theorem Rel.setBlk (h:Rel C A bd w γ hg nx){id:Nat}{o:Obj}{ao:AObj}(hk:(γ id).kind≠0)(hw:(γ id).wr=true)
  (ho:ObjRel (World.setBlk w (γ id).blk o) γ A bd id ao) :
  Rel C A bd (World.setBlk w (γ id).blk o) γ (upd hg id ao) nx/\Stp w γ (World.setBlk w (γ id).blk o) γ:=by
 have s:=sj (w:=w) (o:=o) hk hw;refine ⟨?_,s⟩;have e:γ=upd γ id (γ id):=by funext k;unfold upd;split<;>simp_all
 refine h.set (gh:=γ id) e s (Nat.le_refl _) ho ?_ ?_ ?_ ?_
 ·have:=h.lt id hk;exact ⟨this.1,by simpa using this.2⟩
 ·intro j hj hkj eb;exact hj (h.inj j id hkj hk eb)
 ·exact h.av id hk
 ·intro j hj hkj _;rw[aT,if_neg];rintro ⟨eb,_⟩;exact hj (h.inj j id hkj hk eb)
def World.add (w:World)(o:Obj):World:={ w with heap:=w.heap.push o }
@[simp] theorem add_size (o:Obj):(World.add w o).heap.size=w.heap.size+1:=by simp[World.add]
theorem iQ (o:Obj)(b:Nat):(World.add w o).heap[b]?=if b=w.heap.size then some o else w.heap[b]?:=by simp only[World.add,Array.getElem?_push]
theorem B9 {id:Nat}{gh:Gh}{o:Obj}(hid:(γ id).kind=0)(hb:gh.blk=w.heap.size):Stp w γ (World.add w o) (upd γ id gh) where
 sz:=by simp
 os:=rfl
 tape:=rfl
 output:=rfl
 fr b hb' _:=by rw[iQ,if_neg (by omega)]
 mt b hb':=by
  rintro ⟨j,h1,h2,h3⟩
  by_cases hj:j=id
  ·subst hj;simp only[upd_same] at h3;omega
  ·rw[bN _ _ hj] at h1 h2 h3;exact ⟨j,h1,h2,h3⟩
 kind j hj:=by
  have:j≠id:=by rintro rfl;exact hj hid
  rw[bN _ _ this];exact .inl ⟨rfl,rfl⟩
 ep j hj:=by
  have:j≠id:=by rintro rfl;rw[hid] at hj;cases hj
  rw[bN _ _ this];exact ⟨Nat.le_refl _,λ_=>⟨rfl,rfl,rfl,rfl,rfl⟩⟩
 dr:=Nat.le_refl _
theorem Rel.add (h:Rel C A bd w γ hg nx){id:Nat}{gh:Gh}{o:Obj}{ao:AObj}(hid:(γ id).kind=0)(hb:gh.blk=w.heap.size)
  (hn:nx<=nx') (hi:id<nx') (ho:ObjRel (World.add w o) (upd γ id gh) A bd id ao) :
  Rel C A bd (World.add w o) (upd γ id gh) (upd hg id ao) nx'/\Stp w γ (World.add w o) (upd γ id gh):=by
 have s:=B9 (w:=w) (o:=o) hid hb;refine ⟨h.set (gh:=gh) rfl s hn ho ⟨hi,by simp[hb]⟩ ?_ ?_ ?_,s⟩
 ·intro j _ hkj e;have:=(h.lt j hkj).2;omega
 ·intro t ht;have:=h.ab t _ ht;omega
 ·intro j _ hkj _;have:=(h.lt j hkj).2;rw[iQ,if_neg (by omega)]
end
section
variable {C:Cfg}{A:Nat->Nat->Prop}{bd:Nat}{w:World}{γ:Gm}{hg:Nat->AObj}{nx nx':Nat}
theorem Rel.newCells (h:Rel C A bd w γ hg nx){id sz slack:Nat}{rows:List (List AV)}{loose:Bool}{c:Array Value}(e:TypeId)
  (hid:(γ id).kind=0) (hn:nx<=nx') (hi:id<nx') (hs:(loose=false->slack=0)/\(loose=true->rows.length+slack<=9223372036854775807)) (hc:(rows.length+slack)*sz<=c.size)
  (hr:∀(i:Nat) row,rows[i]?=some row->row.length=sz)
  (hv:∀(i j:Nat) row x,rows[i]?=some row->row[j]?=some x->x.one=true/\∃v,c[i*sz+j]?=some v/\RV w γ A bd x v) :
  ∃γ',Rel C A bd (World.add w (.cells c e (0,0))) γ' (upd hg id (.cells sz rows 0 loose false)) nx'/\Stp w γ (World.add w (.cells c e (0,0))) γ' /\
   (γ' id).kind=1/\(γ' id).ep=0/\(γ' id).sz=sz/\(γ' id).n=rows.length/\(γ' id).blk=w.heap.size/\(γ' id).base=0/\(γ' id).slack=slack:=by
 let gh:Gh:=⟨1,0,sz,rows.length,w.heap.size,0,slack,true⟩
 have s:=B9 (w:=w) (o:=.cells c e (0,0)) (gh:=gh) hid rfl;obtain ⟨r,s'⟩:=h.add (id:=id) (gh:=gh) (o:=.cells c e (0,0)) (ao:=.cells sz rows 0 loose false) hid rfl hn hi (by
  simp only[ObjRel,upd_same];refine ⟨rfl,rfl,rfl,rfl,hs,rfl,c,e,by rw[iQ];simp[gh],by simpa [gh] using hc,hr,λi j row x h1 h2=>?_⟩;obtain ⟨a,v,b1,b2⟩:=hv i j row x h1 h2;exact ⟨a,v,by simpa [gh] using b1,b2.step s⟩)
 exact ⟨_,r,s',by simp[gh],by simp[gh],by simp[gh],by simp[gh],by simp[gh],by simp[gh],by simp[gh]⟩
theorem Rel.storeCells (h:Rel C A bd w γ hg nx){id sz ep:Nat}{rows rows':List (List AV)}{loose:Bool}
  (hid:hg id=.cells sz rows ep loose false) {o:Nat} {vs:List Value} {xs:List AV}
  (hvs:RVs w γ A bd xs vs) (h1:∀(i:Nat) y,xs[i]?=some y->y.one=true)
  (hlen:rows'.length=rows.length) (hr':∀(i:Nat) row,rows'[i]?=some row->row.length=sz)
  (hin:(γ id).base<=o/\o+vs.length<=(γ id).base+rows.length*sz)
  (hcells:∀(i j:Nat) row x,rows'[i]?=some row->row[j]?=some x ->
   (if o<=(γ id).base+i*sz+j/\(γ id).base+i*sz+j<o+vs.length then xs[(γ id).base+i*sz+j - o]?=some x
    else ∃row0,rows[i]?=some row0/\row0[j]?=some x)) (P:Program) :
  ∃w',(Go.storeCells (adr (γ id).blk o) vs).run P w=.ok () w' /\
   Rel C A bd w' γ (upd hg id (.cells sz rows' ep loose false)) nx/\Stp w γ w' γ:=by
 have hob:=h.obj id;rw[hid] at hob;obtain ⟨k1,k2,k3,k4,k5,k6,c,e,k7,k8,k9,k10⟩:=hob;have hsz:o+vs.length<=c.size:=by have:rows.length*sz<=(rows.length+(γ id).slack)*sz:=Nat.mul_le_mul_right _ (by omega);omega
 have hrun:=rG (P:=P) vs 0 w c k7 (by simpa using hsz) (GG hvs h1);simp only[Nat.add_zero] at hrun;have hk:(γ id).kind≠0:=by rw[k1];decide
 have hw:(γ id).wr=true:=by simpa using k6
 have s:=sj (w:=w) (o:=.cells (ba c o vs) e (0,0)) hk hw;obtain ⟨r,s'⟩:=h.setBlk (id:=id) (o:=.cells (ba c o vs) e (0,0)) (ao:=.cells sz rows' ep loose false) hk hw (by
  refine ⟨k1,k2,k3,by rw[k4,hlen],by rw[hlen];exact k5,by simpa using hw,ba c o vs,e,?_,by rw[bA,hlen];exact k8,hr',λi j row x a b=>?_⟩
  ·rw[aT];simp[(h.lt id hk).2]
  ·have hc:=hcells i j row x a b;rw[bJ _ _ _ _ hsz]
   split at hc
   ·rename_i hcond;rw[if_pos hcond];have hlt:(γ id).base+i*sz+j - o<vs.length:=by omega
    refine ⟨h1 _ _ hc,vs[(γ id).base+i*sz+j - o],List.getElem?_eq_getElem hlt,?_⟩;exact (hvs.2 _ _ _ hc (List.getElem?_eq_getElem hlt)).step s
   ·rename_i hcond;rw[if_neg hcond];obtain ⟨row0,c1,c2⟩:=hc;obtain ⟨d1,v,d2,d3⟩:=k10 i j row0 x c1 c2;exact ⟨d1,v,d2,d3.step s⟩)
 exact ⟨_,hrun,r,s'⟩
end
end Hx
end
section
namespace Hx
open Go
def TR (w:World)(γ:Gm)(A:Nat->Nat->Prop)(bd:Nat)(nt:Nat)(t:T)(tmps:Array Value):Prop :=
 tmps.size=nt/\∀i,RV w γ A bd (t.get AV.undef i) (tmps.getD i undef)
def Ch (P:Program)(o:Oper)(ev:Operand->Value)(w:World)(v:Value)(w':World):Prop :=
 (execOp ev o).run P w=.ok (.value v) w'\/((execOp ev o).run P w=.ok .skip w'/\v=undef)
def OpSim (C:Cfg)(A:Nat->Nat->Prop)(bd:Nat)(w:World)(γ:Gm)(hg:Nat->AObj)(nx:Nat)(o:Oper)(ev:Operand->Value)(g:G):OR->Prop
 | .fail=>True
 | .val x=>∃v,Ch C.P o ev w v w/\RV w γ A bd x v
 | .upd x g'=>∃v w' γ' id ob,Ch C.P o ev w v w'/\RV w' γ' A bd x v/\Stp w γ w' γ' /\
   ((g'=g.put id ob/\Rel C A bd w' γ' (upd hg id ob) nx)\/(g'=g.new ob/\id=g.nx/\Rel C A bd w' γ' (upd hg id ob) (Nat.max nx (g.nx+1))))
 | .dfr _=>False
section
variable {C:Cfg}{A:Nat->Nat->Prop}{bd:Nat}{w:World}{γ:Gm}{hg:Nat->AObj}{nx:Nat}
theorem EP {v:Value}{a:AV}(h:ofV v=some a):RV w γ A bd a v/\a.one=true:=by
 unfold ofV at h
 split at h<;>first | (cases h;done) | (injection h with h;subst h;exact ⟨by constructor,rfl⟩)
theorem mm:∀{vs:List Value} {as:List AV},xl vs=some as->RVs w γ A bd as vs/\∀(i:Nat) y,as[i]?=some y->y.one=true:=by
 intro vs
 induction vs with
 | nil=>intro as h;simp[xl] at h;subst h;exact ⟨⟨rfl,λi x v h=>by simp at h⟩,λi y h=>by simp at h⟩
 | cons v vs ih =>
  intro as h;simp only[xl] at h
  split at h
  ·rename_i a as' h1 h2;injection h with h;subst h;obtain ⟨p,q⟩:=EP (w:=w) (γ:=γ) (A:=A) (bd:=bd) h1;obtain ⟨r,s⟩:=ih h2;refine ⟨⟨by simp[r.1],λi x u hx hu=>?_⟩,λi y hy=>?_⟩
   ·cases i with
    | zero=>simp at hx hu;subst hx;subst hu;exact p
    | succ i=>exact r.2 i x u (by simpa using hx) (by simpa using hu)
   ·cases i with
    | zero=>simp at hy;subst hy;exact q
    | succ i=>exact s i y (by simpa using hy)
  ·cases h
theorem ax {x:Operand}{s:Stg (T->AV)}{nt:Nat}{t:T}{a:Act}(h:aM C x=some s)(ht:TR w γ A bd nt t a.tmps)(hr:Rel C A bd w γ hg nx) :
  RV w γ A bd (s.run t) (a.eval x):=by
 cases x with
 | tmp n=>simp[aM] at h;subst h;rw[gp_run];exact ht.2 n
 | const v =>
  simp only[aM] at h
  split at h
  ·rename_i a' h1;injection h with h;subst h;exact (EP h1).1
  ·cases h
 | global g =>
  simp only[aM] at h
  split at h
  ·rename_i sz rows h1;injection h with h;subst h;exact hr.glob g sz rows h1
  ·cases h
 | func f =>
  simp[aM] at h;subst h;exact .clo _ f [] [] #[] #[] rfl rfl (λi x v h=>by simp at h) (λi x v h=>by simp at h)
theorem fk {nt:Nat}{t:T}{a:Act}(ht:TR w γ A bd nt t a.tmps)(hr:Rel C A bd w γ hg nx):∀{xs:List Operand} {s:Stg (T->List AV)},
  bC C xs=some s->RVs w γ A bd (s.run t) (xs.map a.eval):=by
 intro xs
 induction xs with
 | nil=>intro s h;simp[bC] at h;subst h;exact ⟨rfl,λi x v h=>by simp at h⟩
 | cons x xs ih =>
  intro s h;simp only[bC] at h
  split at h
  ·rename_i a' as' h1 h2;injection h with h;subst h;have p:=ax h1 ht hr;have q:=ih h2;refine ⟨by simp[q.1],λi y u hy hu=>?_⟩;cases i with
   | zero=>simp at hy hu;subst hy;subst hu;exact p
   | succ i=>exact q.2 i y u (by simpa using hy) (by simpa using hu)
  ·cases h
theorem sN {ag:Bool}{n:Nat}{row:List AV}{off b o:Nat}{x:AV}{ty:TypeId}{bd':Nat}(hb:bd'<=bd)
  (hcell:∀(j:Nat) y,row[j]?=some y->y.one=true/\∃v,w.cell? (adr b (o+j))=some v/\RV w γ A bd' y v)
  (hag:p_ C.P ty=some ag) (hn:szT C.P ty=some n) (h:bG ag n row off=some x) :
  ∃v,(loadVar ty (adr b (o+off))).run C.P w=.ok v w/\RV w γ A bd x v:=by
 unfold bG at h;cases ag with
 | false =>
  simp only[c_] at h;obtain ⟨_,v,h1,h2⟩:=hcell off x h;exact ⟨v,by simp[loadVar,jZ hag,h1],h2.mono hb⟩
 | true =>
  simp only[bh,bg,aw,aa] at h
  split at h
  ·rename_i hl;rw[Nat.beq_eq] at hl;injection h with h;subst h;have hex:∀j:Fin n,∃v,w.cell? (adr b (o+off+j))=some v/\∃y,(List.take n (List.drop off row))[j.1]?=some y/\y.one=true/\RV w γ A bd' y v:=by
    intro j;have hj:j.1<(List.take n (List.drop off row)).length:=by rw[hl];exact j.2
    have e:(List.take n (List.drop off row))[j.1]?=row[off+j.1]?:=by rw[List.getElem?_take_of_lt j.2,List.getElem?_drop]
    have hy:=List.getElem?_eq_getElem hj;obtain ⟨c1,v,c2,c3⟩:=hcell (off+j.1) _ (e ▸ hy);exact ⟨v,by rw[Nat.add_assoc];exact c2,_,hy,c1,c3⟩
   let f:Fin n->Value:=λj=>Classical.choose (hex j)
   have hf:∀j:Fin n,w.cell? (adr b (o+off+j))=some (f j)/\∃y,(List.take n (List.drop off row))[j.1]?=some y/\y.one=true/\RV w γ A bd' y (f j) :=
    λj=>Classical.choose_spec (hex j)
   have hlen:(List.ofFn f).length=n:=by simp
   have hrun:=sO (P:=C.P) (w:=w) (b:=b) (o:=o+off) (cs:=List.ofFn f) (λj c hc=>by
    have hj:j<n:=by rw[<-hlen];exact (List.getElem?_eq_some_iff.1 hc).1
    rw[List.getElem?_ofFn] at hc;simp[hj] at hc;rw[<-hc];exact (hf ⟨j,hj⟩).1)
   rw[hlen] at hrun;refine ⟨.agg (List.ofFn f).toArray,by simp[loadVar,jZ hag,aW hn,hrun],.agg _ _ _ (by simpa using hl) (λi y hy=>?_) (λi y v hy hv=>?_)⟩
   ·have hi:i<n:=by rw[<-hl];exact (List.getElem?_eq_some_iff.1 hy).1
    obtain ⟨_,y',h1,h2,_⟩:=hf ⟨i,hi⟩;rw[hy] at h1;injection h1 with h1;subst h1;exact h2
   ·have hi:i<n:=by rw[<-hl];exact (List.getElem?_eq_some_iff.1 hy).1
    obtain ⟨_,y',h1,h2,h3⟩:=hf ⟨i,hi⟩;rw[hy] at h1;injection h1 with h1;subst h1;simp[hi] at hv;rw[<-hv];exact h3.mono hb
  ·cases h
theorem rY (hr:Rel C A bd w γ hg nx){id sz ep:Nat}{rows:List (List AV)}{loose fz:Bool}(hid:hg id=.cells sz rows ep loose fz)
  {i:Nat} {row:List AV} (hi:rows[i]?=some row) (j:Nat) (y:AV) (hy:row[j]?=some y) :
  y.one=true/\∃v,w.cell? (adr (γ id).blk ((γ id).base+i*sz+j))=some v/\RV w γ A bd y v:=by
 have hob:=hr.obj id;rw[hid] at hob;obtain ⟨k1,k2,k3,k4,k5,k6,c,e,k7,k8,k9,k10⟩:=hob;obtain ⟨a,v,b1,b2⟩:=k10 i j row y hi hy;exact ⟨a,v,by rw[j_ k7];exact b1,b2⟩
theorem aD {a b:Nat}(h:Nat.beq a b=true):a=b:=Nat.eq_of_beq_eq_true h
def ValSim (C:Cfg)(A:Nat->Nat->Prop)(bd:Nat)(w:World)(γ:Gm)(m:Sem Value):OR->Prop
 | .fail=>True
 | .val x=>∃v,m.run C.P w=.ok v w/\RV w γ A bd x v
 | _=>False
theorem mo {m:Sem Value}{x:Option AV}(h:∀y,x=some y->∃v,m.run C.P w=.ok v w/\RV w γ A bd y v):ValSim C A bd w γ m (orV x):=by
 cases x with
 | none=>trivial
 | some y=>exact h y rfl
theorem C8 {ty:TypeId}{ag:Bool}{n:Nat}{a:T->AV}{t:T}{g:G}{va:Value}(hr:Rel C A bd w γ hg nx)
  (ha:RV w γ A bd (a t) va) (hag:p_ C.P ty=some ag) (hn:szT C.P ty=some n) (agree:∀id∈ak (a t),hg id=g.h.get id) :
  ValSim C A bd w γ (Instr.loadAt ty va) (lC ag n a t g):=by
 unfold lC;generalize a t=x at *;cases ha with
 | tptr _ tag sz rows i0 off0 b o cell ht hb hm ha' hrl ho hw h =>
  simp only[c_];cases hrow:rows[i0]? with
  | none=>trivial
  | some row =>
   refine mo λy hp=>?_;obtain ⟨v,h1,h2⟩:=sN (C:=C) (ty:=ty) (w:=w) (γ:=γ) (A:=A) (bd:=bd) ht (b:=b) (o:=o+i0*sz) (λj y hy=>⟨ho i0 j row y hrow hy,_,hw i0 j row y hrow hy,h i0 j row y hrow hy⟩) hag hn hp;exact ⟨v,by simp[Instr.loadAt,Instr.sureAddr,h1],h2⟩
 | hptr _ id ep i off b o hk he h =>
  have hagree:=agree id (by simp[ak]);simp only[G.get_eq,<-hagree];cases hid:hg id with
  | cells sz rows ep' loose fz =>
   simp only[aa]
   split
   ·rename_i hep;have hep:=aD hep;have hob:=hr.obj id;rw[hid] at hob;obtain ⟨k1,k2,k3,_⟩:=hob;obtain ⟨c1,c2⟩:=h (hep.trans k2.symm);simp only[c_];cases hrow:rows[i]? with
    | none=>trivial
    | some row =>
     refine mo λy hp=>?_;obtain ⟨v,h1,h2⟩:=sN (C:=C) (ty:=ty) (w:=w) (γ:=γ) (A:=A) (bd:=bd) (Nat.le_refl _) (b:=(γ id).blk) (o:=(γ id).base+i*sz) (rY hr hid hrow) hag hn hp;refine ⟨v,?_,h2⟩;rw[c1,c2,k3];simp[Instr.loadAt,Instr.sureAddr,h1]
   ·trivial
  | _=>trivial
 | _=>trivial
end
end Hx
end
section
namespace Hx
open Go
theorem Ja {i i' j sz:Nat}(hj:j<sz)(h1:i*sz<=i'*sz+j)(h2:i'*sz+j<i*sz+sz):i'=i:=by
 rcases Nat.lt_trichotomy i' i with h | h | h
 ·have:(i'+1)*sz<=i*sz:=Nat.mul_le_mul_right _ h;rw[Nat.add_mul,Nat.one_mul] at this;omega
 ·exact h
 ·have:(i+1)*sz<=i'*sz:=Nat.mul_le_mul_right _ h;rw[Nat.add_mul,Nat.one_mul] at this;omega
theorem pg {row row':List AV}{off:Nat}{cs:List AV}(h:bL row off cs=some row') :
  row'.length=row.length/\off+cs.length<=row.length/\∀j,row'[j]?=if off<=j/\j<off+cs.length then cs[j - off]? else row[j]?:=by
 unfold bL at h;simp only[aw,fA,bh,bg,aa] at h
 split at h
 ·rename_i hle;rw[Nat.ble_eq] at hle;injection h with h
  split at h
  ·rename_i c;subst h;refine ⟨by simp,hle,λj=>?_⟩;simp only[List.length_cons,List.length_nil] at hle ⊢;rw[List.getElem?_set]
   by_cases hj:off=j
   ·subst hj;rw[if_pos rfl,if_pos (by omega),if_pos (by omega)];simp
   ·rw[if_neg hj,if_neg (by omega)]
  ·subst h;refine ⟨by simp;omega,hle,λj=>?_⟩
   by_cases h1:j<off
   ·rw[if_neg (by omega),List.getElem?_append_left (by simp;omega),List.getElem?_take_of_lt h1]
   ·rw[List.getElem?_append_right (by simp;omega)];simp only[List.length_take,Nat.min_eq_left (show off<=row.length by omega)]
    by_cases h2:j<off+cs.length
    ·rw[if_pos ⟨by omega,h2⟩,List.getElem?_append_left (by omega)]
    ·rw[if_neg (by omega),List.getElem?_append_right (by omega),List.getElem?_drop];congr 1;omega
 ·cases h
section
variable {C:Cfg}{A:Nat->Nat->Prop}{bd:Nat}{w:World}{γ:Gm}{hg:Nat->AObj}{nx:Nat}
def cF (C:Cfg)(A:Nat->Nat->Prop)(bd:Nat)(w:World)(γ:Gm)(hg:Nat->AObj)(nx:Nat)(m:Sem Value)(g:G):OR->Prop
 | .fail=>True
 | .val x=>∃v,m.run C.P w=.ok v w/\RV w γ A bd x v
 | .upd x g'=>∃v w' γ' id ob,m.run C.P w=.ok v w'/\RV w' γ' A bd x v/\Stp w γ w' γ' /\
   ((g'=g.put id ob/\Rel C A bd w' γ' (upd hg id ob) nx)\/(g'=g.new ob/\id=g.nx/\Rel C A bd w' γ' (upd hg id ob) (Nat.max nx (g.nx+1))))
 | .dfr _=>False
theorem b_:RV w γ A bd AV.undef undef:=.tup _ [] #[] rfl (λi x v h=>by simp at h)
theorem H5 {ty:TypeId}{n:Nat}{a x:T->AV}{t:T}{g:G}{va vx:Value}(hr:Rel C A bd w γ hg nx)
  (ha:RV w γ A bd (a t) va) (hx:RV w γ A bd (x t) vx) (hn:szT C.P ty=some n) (agree:∀id∈ak (a t),hg id=g.h.get id) :
  cF C A bd w γ hg nx (do Instr.storeAt ty va vx;pure undef) g (m_ n a x t g):=by
 unfold m_;generalize a t=y at *;generalize x t=z at *;cases ha with
 | hptr _ id ep i off b o hk he h =>
  have hagree:=agree id (by simp[ak]);simp only[G.get_eq,<-hagree];cases hid:hg id with
  | cells sz rows ep' loose fz =>
   simp only[aa,aw,c_,fA]
   split
   ·rename_i hc;simp only[Bool.and_eq_true,notb_eq,Bool.not_eq_true'] at hc;obtain ⟨⟨⟨hep,hlen⟩,hfz⟩,htup⟩:=hc;have hep:=aD hep;have hlen:=aD hlen;subst hfz;subst hep;have hob:=hr.obj id;rw[hid] at hob;obtain ⟨k1,k2,k3,k4,k5,k6,c,e,k7,k8,k9,k10⟩:=hob;obtain ⟨c1,c2⟩:=h k2.symm;rw[k3] at c2;cases hrow:rows[i]? with
    | none=>trivial
    | some row =>
     dsimp only;cases hp:bL row off z.cells with
     | none=>trivial
     | some row' =>
      obtain ⟨p1,p2,p3⟩:=pg hp;obtain ⟨q1,q2⟩:=nz hx htup;have hrl:row.length=sz:=k9 i row hrow;have hi:i<rows.length:=(List.getElem?_eq_some_iff.1 hrow).1;have hmul:(i+1)*sz<=rows.length*sz:=Nat.mul_le_mul_right _ hi;rw[Nat.add_mul,Nat.one_mul] at hmul;have hvl:vx.cells.toList.length=z.cells.length:=q1.1.symm;obtain ⟨w',r1,r2,r3⟩:=hr.storeCells hid (rows':=rows.set i row') (o:=(γ id).base+i*sz+off) (vs:=vx.cells.toList) q1 q2 (by simp)
       (λi' r' hr'=>by
        rw[List.getElem?_set] at hr'
        by_cases hii:i=i'
        ·subst hii;rw[if_pos rfl,if_pos hi] at hr';injection hr' with hr';subst hr';rw[p1];exact hrl
        ·rw[if_neg hii] at hr';exact k9 i' r' hr')
       ⟨by omega,by rw[hvl];omega⟩
       (λi' j r' y hr' hy=>by
        rw[List.getElem?_set] at hr'
        by_cases hii:i=i'
        ·subst hii;rw[if_pos rfl,if_pos hi] at hr';injection hr' with hr';subst hr';have:=p3 j;rw[hy] at this
         split
         ·rename_i hcond;rw[hvl] at hcond;rw[if_pos (by omega)] at this;rw[show (γ id).base+i*sz+j - ((γ id).base+i*sz+off)=j - off from by omega];exact this.symm
         ·rename_i hcond;rw[hvl] at hcond;rw[if_neg (by omega)] at this;exact ⟨row,hrow,this.symm⟩
        ·rw[if_neg hii] at hr';have hj:j<sz:=by rw[<-k9 i' r' hr'];exact (List.getElem?_eq_some_iff.1 hy).1
         rw[if_neg]
         ·exact ⟨r',hr',hy⟩
         ·rw[hvl];rintro ⟨l1,l2⟩;exact hii (Ja (i:=i) (i':=i') hj (by omega) (by omega)).symm) C.P
      refine ⟨undef,w',γ,id,.cells sz (rows.set i row') ep loose false,?_,b_,r3,.inl ⟨rfl,r2⟩⟩;have hsz:vx.cells.size=n:=by rw[<-hlen,<-hvl];simp
      rw[c1,c2];simp[Instr.storeAt,Instr.sureAddr,storeVar,aW hn,hsz,r1]
   ·trivial
  | _=>trivial
 | _=>trivial
theorem BQ {sz:Nat}{rows:List (List AV)}{cs:Array Value}(e:TypeId)(hr:Rel C A bd w γ hg nx){g:G}(hf:(γ g.nx).kind=0)
  (hrow:∀(i:Nat) row,rows[i]?=some row->row.length=sz)
  (hv:∀(i j:Nat) row x,rows[i]?=some row->row[j]?=some x->x.one=true/\∃v,cs[i*sz+j]?=some v/\RV w γ A bd x v)
  (loose:Bool) (slack:Nat) (hs:(loose=false->slack=0)/\(loose=true->rows.length+slack<=9223372036854775807)) (hc:(rows.length+slack)*sz<=cs.size) :
  ∃γ',Rel C A bd (World.add w (.cells cs e (0,0))) γ' (upd hg g.nx (.cells sz rows 0 loose false)) (Nat.max nx (g.nx+1))/\Stp w γ (World.add w (.cells cs e (0,0))) γ' /\
   (γ' g.nx).kind=1/\(γ' g.nx).ep=0/\(γ' g.nx).sz=sz/\(γ' g.nx).n=rows.length/\(γ' g.nx).blk=w.heap.size/\(γ' g.nx).base=0/\(γ' g.nx).slack=slack :=
 hr.newCells e hf (Nat.le_max_left _ _) (Nat.lt_of_lt_of_le (Nat.lt_succ_self _) (Nat.le_max_right _ _)) hs hc hrow hv
theorem fM {P:Program}(e:TypeId)(cs:Array Value):(newRow e cs).run P w=.ok (adr w.heap.size 0) (World.add w (.cells cs e (0,0))):=by simp[newRow,adr,World.add]
theorem K6 {ty:TypeId}{x:AV}{v:Value}{g:G}(hr:Rel C A bd w γ hg nx)(hx:RV w γ A bd x v)(hf:(γ g.nx).kind=0)(ht:x.isTup=false) :
  cF C A bd w γ hg nx (Instr.box ty v) g (.upd (.hptr g.nx 0 0 0) (g.new (.cells (aY x.cells) [x.cells] 0 false false))):=by
 obtain ⟨q1,q2⟩:=nz hx ht;obtain ⟨γ',r1,r2,r3,r4,r5,r6,r7,r8,r9⟩:=BQ (sz:=x.cells.length) (rows:=[x.cells]) (cs:=v.cells) ty hr hf
  (λi row h=>by cases i with | zero=>simp at h;rw[<-h] | succ i=>simp at h)
  (λi j row y h hy=>by
   cases i with
   | zero =>
    simp at h;subst h;have hlt:j<v.cells.toList.length:=by rw[<-q1.1];exact (List.getElem?_eq_some_iff.1 hy).1
    have he:=List.getElem?_eq_getElem hlt;exact ⟨q2 j y hy,_,by simpa using he,q1.2 j y _ hy he⟩
   | succ i=>simp at h) false 0 ⟨λ_=>rfl,λh=>by cases h⟩ (by
    have:=q1.1;simp at this;simp[this])
 rw[aw];refine ⟨.pointer (some (adr w.heap.size 0)),_,γ',g.nx,_,?_,?_,r2,.inr ⟨rfl,rfl,r1⟩⟩
 ·simp[Instr.box,newVar,fM]
 ·exact .hptr _ _ _ _ _ _ _ r3 (by omega) (λ_=>⟨r7.symm,by rw[r8];simp⟩)
end
end Hx
end
