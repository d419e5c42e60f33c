/- A part of the proof. -/
import GoSem.Step
import Derived.RangeFuncIn
import Derived.Laws.Sem
import Derived.Laws.Tables
set_option linter.all false
section
namespace Hx
open Go
def XG:=@And.intro
def XH:=@Nat.le_refl
def XI:=@List.getElem?_eq_some_iff
def XJ:=@List.getElem?_eq_getElem
def XK:=@List.getElem?_map
def XL:=@List.mem_of_getElem?
def XM:=@Bool.and_eq_true
def XN:=@List.length_map
def XO:=@if_pos
def XP:=@Option.getD_some
def XQ:=@List.all_eq_true
def XR:=@Nat.succ_pos
def XS:=@if_neg
def XT:=@Result.andThen_ok
def XU:=@Int.eq_ofNat_of_zero_le
def XV:=@List.take_length
def XW:=@List.getElem?_append_left
def XX:=@Nat.lt_of_lt_of_le
def XY:=@List.cons_append
def XZ:=@List.take_of_length_le
def X0:=@List.mem_range
def X3:=@List.nil_append
def X4:=@List.take_succ_eq_append_getElem
def X5:=@List.length_take
def X6:=@List.append_nil
def X7:=@List.reverse_cons
def X8:=@List.reverse_nil
def X9:=@decide_eq_true_eq
def X_:=@List.getElem?_append_right
def Ya:=@Nat.le_trans
def Yb:=@Sem.run_bind
def Yc:=@List.not_mem_nil
def Yd:=@List.getElem?_of_mem
def Ye:=@Nat.mul_le_mul_right
def Yf:=@List.mem_append
def Yg:=@List.getElem?_eq_none
def Yh:=@List.mem_cons
def Yi:=@Nat.zero_le
def Yj:=@decide_eq_true
def Yk:=@Nat.add_mul
def Yl:=@Nat.beq_refl
def Ym:=@List.mem_of_mem_take
def Yn:=@Array.getElem?_eq_getElem
def Yo:=@List.length_append
def Yp:=@List.length_cons
def Yq:=@decide_eq_false
def Yr:=@Nat.pow_le_pow_right
def Ys:=@List.mem_map
def Yt:=@Nat.ble_eq
def Yu:=@Sem.run_pure
def Yv:=@List.getElem?_take_of_lt
def Yw:=@List.mem_cons_of_mem
def Yx:=@Array.getD_eq_getD_getElem?
def Yy:=@List.mem_singleton
def Yz:=@List.head?_cons
def YA:=@List.append_assoc
def YB:=@List.getElem?_set
def YC:=@List.take_append_drop
def YD:=@List.head?_nil
def YE:=@Bool.or_eq_true
def YF:=@List.range_succ
def YG:=@Nat.min_eq_left
def YH:=@List.getElem?_drop
def YI:=@Int.mul_le_mul_of_nonneg_right
def YJ:=@Nat.eq_of_beq_eq_true
def YK:=@List.eq_nil_of_length_eq_zero
def YL:=@List.flatMap_cons
def YM:=@Nat.blt_eq
def YN:=@Nat.sub_self
def YO:=@Bool.true_and
def YP:=@List.flatMap_nil
def YQ:=@List.mem_cons_self
def YR:=@Option.map_some
def YS:=@List.map_set
def YT:=@Nat.zero_add
def YU:=@Option.getD_none
def YV:=@List.map_append
def YW:=@Nat.div_add_mod
def YX:=@Nat.mod_lt
def YY:=@List.drop_eq_getElem_cons
def YZ:=@List.map_congr_left
def Y0:=@List.getElem?_concat_length
def Y1:=@Nat.div_div_eq_div_mul
def Y2:=@List.mem_of_mem_drop
def Y3:=@List.set_append_right
def Y4:=@List.replicate_succ
def Y5:=@Ne.symm
def Y6:=@Int.ofNat_eq_natCast
def Y7:=@List.mem_iff_getElem
def Y8:=@Nat.one_mul
def Y9:=@Option.some.injEq
def Y_:=@Nat.le_max_left
def Za:=@Bool.not_eq_true
def Zb:=@List.drop_drop
def Zc:=@List.drop_zero
def Zd:=@List.ext_getElem?
def Ze:=@Classical.byContradiction
def Zf:=@Nat.add_zero
def Zg:=@Int.mul_nonneg
def Zh:=@Nat.div_le_self
def Zi:=@List.getElem_mem
def Zj:=@List.length_singleton
def Zk:=@Bool.not_eq_true'
def Zl:=@List.map_nil
def Zm:=@Nat.mul_comm
def Zn:=@Nat.pow_succ
def Zo:=@Nat.sub_zero
def Zp:=@List.getElem?_replicate
def Zq:=@List.length_eq_zero_iff
def Zr:=@Array.getElem?_setIfInBounds_ne
def Zs:=@List.getD_eq_getElem?_getD
def Zt:=@List.set_cons_zero
def Zu:=@Nat.add_sub_cancel
def Zv:=@List.getElem?_set_self
def Zw:=@Nat.div_eq_of_lt
def Zx:=@Nat.le_max_right
def Zy:=@List.mem_or_eq_of_mem_set
def Zz:=@Int.add_mul
def ZA:=@List.mem_append_right
def ZB:=@Int.mul_assoc
def ZC:=@List.getElem?_take
def ZD:=@List.length_drop
def ZE:=@List.mem_append_left
def ZF:=@List.mem_flatMap
def ZG:=@Option.bind_some
def ZH:=@List.sum_cons
def ZI:=@Array.getElem?_eq_none
def ZJ:=@Bool.eq_false_iff
def ZK:=@Bool.not_false
def ZL:=@List.flatten_cons
def ZM:=@List.foldl_append
def ZN:=@Nat.lt_or_ge
def ZO:=@List.getElem?_range
def ZP:=@Int.natCast_mul
def ZQ:=@or_false
def ZR:=@Bool.false_eq_true
def ZS:=@Int.natCast_nonneg
def ZT:=@List.mem_replicate
def ZU:=@Nat.lt_succ_self
def ZV:=@Bool.true_or
def ZW:=@Nat.div_lt_of_lt_mul
def ZX:=@Int.toNat_natCast
def ZY:=@List.getElem?_cons_succ
def ZZ:=@Array.getElem?_setIfInBounds
def Z0:=@Bool.eq_iff_iff
def Z1:=@List.foldl_cons
def Z2:=@List.length_nil
def Z3:=@List.flatMap_append
def Z4:=@List.take_succ_cons
def Z5:=@Int.mul_comm
def Z6:=@Nat.ne_of_beq_eq_false
def Z7:=@List.map_cons
def Z8:=@Nat.mod_eq_of_lt
def Z9:=@Array.getElem?_eq_some_iff
def Z_:=@Int.mul_le_mul
def aaa:=@List.set_cons_succ
def aab:=@List.zip_cons_cons
def aac:=@Option.isSome_some
def aad:=@List.contains_iff_mem
def aae:=@Nat.le_div_iff_mul_le
def Vv:=@Int.pow_succ
def aag:=@List.getElem?_set_ne
def VT:=@Bool.and_self
def aai:=@List.append_cancel_right
def Qc:=@Nat.add_assoc
def aak:=@List.drop_succ_cons
def aal:=@List.map_eq_nil_iff
def aam:=@List.take_append_of_le_length
def aan:=@List.sum_append
def aao:=@Nat.not_lt_zero
def aap:=@Array.getElem?_toList
def aaq:=@List.take_add_one
def On:=@Array.ext'
def aas:=@Array.getElem?_append_left
def Sq:=@Int.le_refl
def Ra:=@Int.one_mul
def aav:=@List.getElem?_append
def aaw:=@List.range_eq_range'
def aax:=@Int.natCast_emod
def aay:=@Nat.div_mul_le_self
def aaz:=@Nat.mul_le_mul_left
def aaA:=@Bool.false_or
def aaB:=@Int.lt_irrefl
def aaC:=@List.map_take
def aaD:=@Nat.mul_assoc
def aaE:=@List.length_set
def aaF:=@Int.emod_lt_of_pos
def aaG:=@List.filter_append
def aaH:=@Nat.and_lt_two_pow
def aaI:=@Nat.eq_zero_or_pos
def aaJ:=@Nat.lt_of_le_of_lt
def aaK:=@Nat.xor_lt_two_pow
def R6:=@Int.mul_add
def aaM:=@List.getLast?_cons_cons
def R5:=@Nat.div_one
def aaO:=@List.set_eq_take_append_cons_drop
def aaP:=@Bool.and_false
def aaQ:=@Int.emod_eq_of_lt
def aaR:=@List.take_zero
def aaS:=@Nat.lt_succ_of_lt
def aaT:=@Nat.lt_trichotomy
def aaU:=@Nat.or_lt_two_pow
def aaV:=@Nat.zero_mul
def aaW:=@List.singleton_append
def aaX:=@List.ext_getElem
def aaY:=@List.range'_succ
def aaZ:=@Nat.max_eq_right
def Or:=@Nat.max_le
def aa1:=@Bool.and_true
def aa2:=@Int.mul_le_mul_of_nonneg_left
def aa3:=@Nat.eq_of_testBit_eq
def aa4:=@Int.ediv_nonneg
def aa5:=@Int.emod_nonneg
def aa6:=@Int.natCast_pow
def aa7:=@Nat.le_antisymm
def aa8:=@Nat.max_eq_left
def aa9:=@Array.length_toList
def aa_:=@List.length_pos_iff
def aba:=@List.replicate_zero
def abb:=@Array.getElem?_append_right
def abc:=@Int.add_zero
def abd:=@Array.foldl_toList
def abe:=@List.take_take
def abf:=@Nat.mul_le_mul
def abg:=@Array.mapM_eq_mapM_toList
def abh:=@Array.size_append
def abi:=@Nat.le_succ
def abj:=@of_decide_eq_true
def abk:=@Array.getElem?_replicate
def abl:=@Bool.not_true
def abm:=@Option.isSome_iff_exists
def abn:=@List.getElem?_cons_zero
def abo:=@List.getElem_map
def abp:=@Nat.lt_of_not_le
def abq:=@Bool.or_true
def abr:=@Int.zero_mul
def abs:=@List.drop_eq_nil_of_le
def abt:=@List.drop_of_length_le
def abu:=@Nat.pow_zero
def abv:=@Int.natCast_add
def abw:=@List.all_append
def abx:=@Option.map_none
def aby:=@List.length_filter_le
def abz:=@List.length_replicate
def abA:=@Nat.div_lt_iff_lt_mul
def abB:=@Bool.false_and
def abC:=@Int.negSucc_eq
def abD:=@List.mapM_cons
def abE:=@Array.toList_zipIdx
def abF:=@Int.toNat_of_nonneg
def abG:=@List.flatten_append
def abH:=@Nat.testBit_two_pow
def abI:=@Prod.mk.injEq
def abJ:=@Array.ext_getElem?
def abK:=@Bool.not_eq_false'
def abL:=@List.getElem?_ofFn
def abM:=@Nat.and_one_is_mod
def abN:=@Nat.pos_of_ne_zero
def abO:=@of_decide_eq_false
def abP:=@Int.add_comm
def abQ:=@Int.le_trans
def abR:=@Int.lt_trichotomy
def abS:=@Int.mul_zero
def abT:=@List.any_eq_false
def abU:=@List.length_range
def abV:=@List.map_map
def abW:=@List.zip_nil_left
def abX:=@Nat.add_comm
def abY:=@Nat.mul_left_comm
def abZ:=@Nat.pow_add
def ab0:=@Nat.beq_eq
end Hx
end
set_option maxRecDepth 20000
set_option maxHeartbeats 8000000
namespace Hx
open Go
noncomputable section
variable {ty e t:TypeId}{v va vi y:Value}{n b off i bd bytes ep len:Nat}{c:Array Value}{w w':World}{loose ag:Bool}{P:Program}
inductive AV where
 |bool (b:Bool)
 |int (k:IntKind) (n:Int)
 |str (s:ByteArray)
 |WM (vs:List AV)
 |agg (cs:List AV)
 |WQ|XC|WT|V8|WB
 |Wd
 |WO (tag:Nat) (sz:Nat) (rows:List (List AV))
 |Xn (tag:Nat) (sz:Nat) (rows:List (List AV)) (i off:Nat)
 |Xj (id ep off len:Nat) (lim:Option Nat)
 |W9 (id ep i off:Nat)
 |W_ (f:Nat) (first cap:List AV)
 |hmap (id:Nat)
 |V9 (t:Nat) (v:AV)
 |VZ (id:Nat)
 deriving Inhabited
abbrev AV.undef:AV:=.WM []
def AV.cells:AV->List AV
 |.agg cs=>cs
 |v=>[v]
def AV.one:AV->Bool
 |.WM _|.agg _=>false
 |_=>true
def AV.isTup:AV->Bool
 |.WM _=>true
 |_=>false
structure Wv (α:Type) where
 run:α
abbrev ax {α:Type}(b:Bool)(x y:α):α:=@Bool.rec (λ_=>α) y x b
def m_(b:Bool):Bool:=@Bool.rec (λ_=>Bool) true false b
inductive Tr (α:Type) where
 |nil
 |node (v:α) (l r:Tr α)
def Tr.get{α:Type}(e:α):Tr α->Nat->α
 |.nil,_=>e
 |.node v _ _,0=>v
 |.node _ l r,m+1=>ax (Nat.beq (m % 2) 0) (Tr.get e l (m / 2)) (Tr.get e r (m / 2))
def gpF{α:Type}(e:α):Nat->Nat->Wv (Tr α->α)
 |0,_=>⟨λ_=>e⟩
 |_+1,0=>⟨λt=>@Tr.rec α (λ_=>α) e (λv _ _ _ _=>v) t⟩
 | f+1,m+1=>ax (Nat.beq (m % 2) 0)
   ⟨λt=>@Tr.rec α (λ_=>α) e (λ_ l _ _ _=>(gpF e f (m / 2)).run l) t⟩
   ⟨λt=>@Tr.rec α (λ_=>α) e (λ_ _ r _ _=>(gpF e f (m / 2)).run r) t⟩
def gp{α:Type}(e:α)(n:Nat):Wv (Tr α->α):=gpF e (n+1) n
def Ke{α:Type}(e:α):Nat->Nat->Wv (Tr α->α->Tr α)
 |0,_=>⟨λt _=>t⟩
 |_+1,0=>⟨λt x=>@Tr.rec α (λ_=>Tr α) (.node x .nil .nil) (λ_ l r _ _=>.node x l r) t⟩
 | f+1,m+1=>ax (Nat.beq (m % 2) 0)
   ⟨λt x=>@Tr.rec α (λ_=>Tr α) (.node e ((Ke e f (m / 2)).run .nil x) .nil) (λv l r _ _=>.node v ((Ke e f (m / 2)).run l x) r) t⟩
   ⟨λt x=>@Tr.rec α (λ_=>Tr α) (.node e .nil ((Ke e f (m / 2)).run .nil x)) (λv l r _ _=>.node v l ((Ke e f (m / 2)).run r x)) t⟩
def sp{α:Type}(e:α)(n:Nat):Wv (Tr α->α->Tr α):=Ke e (n+1) n
def Tr.put{α:Type}(e:α)(t:Tr α)(n:Nat)(x:α):Tr α:=(sp e n).run t x
def IX{α:Type}(n:Nat):List α->Option α :=
 @Nat.rec (λ_=>List α->Option α) (λl=>@List.rec α (λ_=>Option α) none (λa _ _=>some a) l)
  (λ_ ih l=>@List.rec α (λ_=>Option α) none (λ_ t _=>ih t) l) n
def N6{α:Type}(n:Nat)(x:α):List α->List α :=
 @Nat.rec (λ_=>List α->List α) (λl=>@List.rec α (λ_=>List α) [] (λ_ t _=>x::t) l)
  (λ_ ih l=>@List.rec α (λ_=>List α) [] (λa t _=>a::ih t) l) n
def bD{α:Type}(l:List α):Nat:=@List.rec α (λ_=>Nat) 0 (λ_ _ n=>Nat.succ n) l
def gG{α:Type}(n:Nat):List α->List α :=@Nat.rec (λ_=>List α->List α) (λl=>l) (λ_ ih l=>@List.rec α (λ_=>List α) [] (λ_ t _=>ih t) l) n
def h_{α:Type}(n:Nat):List α->List α :=@Nat.rec (λ_=>List α->List α) (λ_=>[]) (λ_ ih l=>@List.rec α (λ_=>List α) [] (λa t _=>a::ih t) l) n
inductive Xh where
 |none
 |cells (sz:Nat) (rows:List (List AV)) (ep:Nat) (loose fz:Bool)
 |map (es:List (AV×AV))
 |loop (nt:Nat) (t:Tr AV) (ps:List Nat) (assign body:Code) (Xi:Nat) (st:LoopState) (pend:Option Code)
 |Xi (live:Bool)
@[match_pattern,reducible] def Xy (k:Nat)(r:List (List AV)):Xh:=.cells k r 0 false false
abbrev T:=Tr AV
abbrev H:=Tr Xh
def H.get(h:H)(i:Nat):Xh:=(gp Xh.none i).run h
def H.put(h:H)(i:Nat)(o:Xh):H:=(sp Xh.none i).run h o
structure G where
 h:H
 nx:Nat
 lg:List Nat
def G.empty:G:=⟨.nil,0,[]⟩
def G.put(g:G)(id:Nat)(o:Xh):G:=@G.rec (λ_=>G) (λh nx lg=>⟨h.put id o,nx,id::lg⟩) g
def G.new(g:G)(o:Xh):G:=@G.rec (λ_=>G) (λh nx lg=>⟨h.put nx o,Nat.succ nx,nx::lg⟩) g
def G.get(g:G)(i:Nat):Xh:=H.get g.h i
inductive Xo where
 |call (f:AV) (args:List AV)
 |mark (id:Nat)
inductive Ex where
 |norm
 |exit (id:Nat)
 |ret
inductive CR where
 |fail
 |ok (e:Ex) (t:T) (df:List Xo) (g:G)
inductive FR where
 |fail
 |ok (v:AV) (g:G)
inductive OR where
 |fail
 |val (v:AV)
 |upd (v:AV) (g:G)
 |Xi (a:Xo)
structure IH where
 code:Nat->Nat->Option Nat->Code->T->List Xo->G->CR
 call:Nat->Nat->List AV->G->FR
structure Xg where
 P:Program
 ON:Nat->Bool
 ext:Nat->Option (Nat->List AV->G->OR)
 V_:Nat->Option (Nat×List (List AV))
abbrev Ou:=IH->Nat->Option Nat->T->G->OR
section types
variable (P:Program)
def Wx(t:TypeId):Option Nat:=(P.info? t).map (·.size)
def lj(t:TypeId):Option Nat:=(P.info? t).map (·.bytes)
def vy(t:TypeId):Option Bool :=
 match P.underlying t with
 |some (.struct _)|some (.array _ _)=>some true
 |some _=>some false
 |none=>none
def ofV:Value->Option AV
 |.bool b=>some (.bool b)
 |.int k n=>some (.int k n)
 |.string s=>some (.str s)
 |.pointer none=>some .WQ
 |.slice none 0 0=>some .XC
 |.map none=>some .V8
 |.nilFunc=>some .WT
 |.nilIface=>some .WB
 |_=>none
def D_:List Value->Option (List AV)
 |[]=>some []
 | v::vs=>match ofV v,D_ vs with
  |some a,some as=>some (a::as)
  |_,_=>none
def gj(t:TypeId):Option (List AV):=(P.info? t).bind λi=>i.zero.bind λv=>D_ v.cells.toList
def JN(t:TypeId):Option AV:=(P.info? t).bind λi=>i.zero.bind λv=>match v with
 |.agg cs=>(D_ cs.toList).map .agg
 |v=>ofV v
def nj(t:TypeId):Option TypeId:=match P.underlying t with|some (.slice e)=>some e|_=>none
def wH(t:TypeId)(f:Nat):Option (Nat×TypeId) :=
 match P.underlying t with
 |some (.struct fs)=>match fs[f]? with|some x=>some (x.offset,x.type)|none=>none
 |_=>none
end types
def aD{α β:Type}(f:α->Option β):List α->Option (List β)
 |[]=>some []
 | v::vs=>match f v with
  | some a=>match aD f vs with
   |some as=>some (a::as)
   |none=>none
  |none=>none
def aW(C:Xg):Operand->Option (Wv (T->AV))
 |.tmp n=>some (gp AV.undef n)
 |.const v=>match ofV v with|some a=>some ⟨λ_=>a⟩|none=>none
 |.global g=>match C.V_ g with|some (sz,rows)=>some ⟨λ_=>.Xn 0 sz rows 0 0⟩|none=>none
 |.func f=>some ⟨λ_=>.W_ f [] []⟩
def cp(C:Xg):List Operand->Option (Wv (T->List AV))
 |[]=>some ⟨λ_=>[]⟩
 | x::xs=>match aW C x,cp C xs with
  |some a,some as=>some ⟨λt=>a.run t::as.run t⟩
  |_,_=>none
def xf(k:IntKind)(n:Int):Int :=
 match k,n with
 |.i64,.ofNat m=>ax (Nat.blt m 9223372036854775808) (.ofNat m) (IntKind.wrap .i64 (.ofNat m))
 |.i64,.negSucc m=>ax (Nat.blt m 9223372036854775808) (.negSucc m) (IntKind.wrap .i64 (.negSucc m))
 |.u64,.ofNat m=>.ofNat (m % 18446744073709551616)
 |.u8,.ofNat m=>.ofNat (m % 256)
 |k,n=>IntKind.wrap k n
def B_:Int->Int->Bool
 |.ofNat m,.ofNat n=>Nat.blt m n
 |.ofNat _,.negSucc _=>false
 |.negSucc _,.ofNat _=>true
 |.negSucc m,.negSucc n=>Nat.blt n m
def PN:Int->Int->Bool
 |.ofNat m,.ofNat n=>Nat.beq m n
 |.ofNat _,.negSucc _=>false
 |.negSucc _,.ofNat _=>false
 |.negSucc m,.negSucc n=>Nat.beq m n
def tc:Sem Value->Option AV
 |.pure (.int k n)=>some (.int k n)
 |.pure (.bool b)=>some (.bool b)
 |_=>none
def SJ(k:IntKind):Int->Int->Option AV
 |.ofNat m,.ofNat (n+1)=>some (.int k (xf k (.ofNat (m / (n+1)))))
 |a,b=>tc (Op.intDiv .quo k a b)
def SV(k:IntKind):Int->Int->Option AV
 |.ofNat m,.ofNat (n+1)=>some (.int k (.ofNat (m % (n+1))))
 |a,b=>tc (Op.intDiv .rem k a b)
def nG(k:IntKind)(m n:Nat):Bool :=
 match k with
 |.u64=>Nat.blt m 18446744073709551616&&Nat.blt n 18446744073709551616
 |.i64=>Nat.blt m 9223372036854775808&&Nat.blt n 9223372036854775808
 |_=>false
def Tp(op:BinOp)(k:IntKind):Int->Int->Option AV
 | .ofNat m,.ofNat n=>ax (nG k m n)
   (match op with
    |.and=>some (.int k (.ofNat (Nat.land m n)))
    |.or=>some (.int k (.ofNat (Nat.lor m n)))
    |.xor=>some (.int k (.ofNat (Nat.xor m n)))
    |.andNot=>some (.int k (.ofNat (Nat.xor m (Nat.land m n))))
    |_=>none)
   (tc (Op.intBits op k (.ofNat m) (.ofNat n)))
 |a,b=>tc (Op.intBits op k a b)
def Q4(k:IntKind):Int->Int->Option AV
 |.ofNat m,.ofNat n=>some (.int k (xf k (.ofNat (m*2 ^ (Nat.min n k.bits)))))
 |a,b=>tc (Op.shift .shl k a k b)
def Q5(k:IntKind):Int->Int->Option AV
 |.ofNat m,.ofNat n=>some (.int k (.ofNat (m / 2 ^ (Nat.min n k.bits))))
 |a,b=>tc (Op.shift .shr k a k b)
def dA:IntKind->IntKind->Bool
 |.i64,.i64=>true
 |.u64,.u64=>true
 |a,b=>decide (a=b)
def fZ:BinOp->Wv (IntKind->Int->IntKind->Int->Option AV)
 |.add=>⟨λk a k' b=>ax (dA k k') (some (.int k (xf k (a+b)))) none⟩
 |.sub=>⟨λk a k' b=>ax (dA k k') (some (.int k (xf k (a - b)))) none⟩
 |.mul=>⟨λk a k' b=>ax (dA k k') (some (.int k (xf k (a*b)))) none⟩
 |.quo=>⟨λk a k' b=>ax (dA k k') (SJ k a b) none⟩
 |.rem=>⟨λk a k' b=>ax (dA k k') (SV k a b) none⟩
 |.eql=>⟨λk a k' b=>ax (dA k k') (some (.bool (PN a b))) none⟩
 |.neq=>⟨λk a k' b=>ax (dA k k') (some (.bool (m_ (PN a b)))) none⟩
 |.lss=>⟨λk a k' b=>ax (dA k k') (some (.bool (B_ a b))) none⟩
 |.leq=>⟨λk a k' b=>ax (dA k k') (some (.bool (m_ (B_ b a)))) none⟩
 |.gtr=>⟨λk a k' b=>ax (dA k k') (some (.bool (B_ b a))) none⟩
 |.geq=>⟨λk a k' b=>ax (dA k k') (some (.bool (m_ (B_ a b)))) none⟩
 |.shl=>⟨λk a _ b=>Q4 k a b⟩
 |.shr=>⟨λk a _ b=>Q5 k a b⟩
 |op=>⟨λk a k' b=>ax (dA k k') (Tp op k a b) none⟩
def zL:TypeDesc->Bool
 |.bool|.int _|.string=>true
 |_=>false
def Du(P:Program)(rec:TypeId->Option (List TypeDesc)):List Field->Nat->Option (List TypeDesc)
 |[],_=>some []
 | f::fs,k=>match rec f.type with
  | some ds=>match Du P rec fs (k+ds.length) with
   | some r => ax ((f.name != "_") && Nat.beq f.offset k && (Wx P f.type == some ds.length)) (some (ds ++ r)) none
   |none=>none
  |none=>none
def Br(P:Program):Nat->TypeId->Option (List TypeDesc)
 |0,_=>none
 | d+1,t=>match P.underlying t with
  |some (.struct fs)=>ax (P.stoodInHeld t) none (Du P (Br P d) fs.toList 0)
  | some (.array n e)=>match Br P d e with
   |some ds=>ax (Wx P e == some ds.length) (some (List.replicate n ds).flatten) none
   |none=>none
  |some d=>ax (zL d) (some [d]) none
  |none=>none
def t8(P:Program)(t:TypeId):Option (List TypeDesc) :=ax (P.eqGuardType P.depth t) none (Br P 8 t)
def Kj:TypeDesc->AV->Bool
 |.bool,.bool _=>true
 |.int k,.int k' _=>dA k k'
 |.string,.str _=>true
 |_,_=>false
def ua:List TypeDesc->List AV->Bool
 |[],[]=>true
 |d::ds,v::vs=>ax (Kj d v) (ua ds vs) false
 |_,_=>false
def Kb:AV->AV->Option Bool
 |.int k a,.int k' b=>ax (dA k k') (some (PN a b)) none
 |.bool a,.bool b=>some (ax a b (m_ b))
 |.str a,.str b=>some (decide (a=b))
 |_,_=>none
def xn:List AV->List AV->Option Bool
 |[],[]=>some true
 | a::as,b::bs=>match Kb a b,xn as bs with
  |some x,some y=>some (ax x y false)
  |_,_=>none
 |_,_=>none
inductive Uu where
 |flat (ds:List TypeDesc)|slice|func|bool|iface (empty:Bool)|other
def tH(P:Program)(t:TypeId):Uu :=
 match P.underlying t with
 |some (.slice _)=>.slice
 |some (.func _ _ _)=>.func
 |some .bool=>.bool
 |some (.interface ms)=>.iface ms.isEmpty
 |some (.struct _)|some (.array _ _)=>match t8 P t with|some ds=>.flat ds|none=>.other
 |_=>.other
def UI(k:Uu)(x y:AV):Option Bool :=
 match k with
 | .flat ds=>match x,y with
  |.agg xs,.agg ys=>ax (ua ds xs&&ua ds ys) (xn xs ys) none
  |_,_=>none
 | .slice=>match x,y with
  |.XC,.XC=>some true
  |.XC,.WO ..|.XC,.Xj ..|.XC,.Wd|.WO ..,.XC|.Xj ..,.XC|.Wd,.XC=>some false
  |_,_=>none
 | .func=>match x,y with
  |.WT,.WT=>some true
  |.WT,.W_ ..|.W_ ..,.WT|.WT,.VZ _|.VZ _,.WT=>some false
  |_,_=>none
 | .bool=>match x,y with
  |.bool a,.bool b=>some (ax a b (m_ b))
  |_,_=>none
 | .iface e=>match x,y with
  |.WB,.WB=>ax e (some true) none
  |.WB,.V9 ..|.V9 ..,.WB=>some false
  |_,_=>none
 |.other=>none
def VW:Option AV->OR
 |some v=>.val v
 |none=>.fail
def CN(P:Program)(op:BinOp)(t:TypeId):Wv (AV->AV->OR) :=
 match op with
 | .eql=>match tH P t with
  |.other=>⟨λx y=>match x,y with|.int k a,.int k' b=>VW ((fZ .eql).run k a k' b)|_,_=>.fail⟩
  |ek=>⟨λx y=>match UI ek x y with|some b=>.val (.bool b)|none=>.fail⟩
 | .neq=>match tH P t with
  |.other=>⟨λx y=>match x,y with|.int k a,.int k' b=>VW ((fZ .neq).run k a k' b)|_,_=>.fail⟩
  |ek=>⟨λx y=>match UI ek x y with|some b=>.val (.bool (m_ b))|none=>.fail⟩
 |op=>⟨λx y=>match x,y with|.int k a,.int k' b=>VW ((fZ op).run k a k' b)|_,_=>.fail⟩
def unA(op:UnOp):Wv (AV->OR) :=
 match op with
 |.not=>⟨λx=>match x with|.bool b=>.val (.bool (m_ b))|_=>.fail⟩
 |op=>⟨λx=>match x with|.int k n=>VW (tc (Op.unary op (.int k n)))|_=>.fail⟩
def cD(agg:Bool)(n:Nat)(row:List AV)(off:Nat):Option AV :=ax agg (let cs:=h_ n (gG off row);ax (Nat.beq (bD cs) n) (some (.agg cs)) none) (IX off row)
def cN(row:List AV)(off:Nat)(cs:List AV):Option (List AV) :=
 ax (Nat.ble (off+bD cs) (bD row))
  (some (match cs with
   |[c]=>N6 off c row
   |cs=>h_ off row++(cs++gG (off+bD cs) row)))
  none
def cd(lim:Nat):AV->Option Nat
 |.int _ (.ofNat n)=>ax (Nat.ble n lim) (some n) none
 |_=>none
def aS(dflt lim:Nat):Option AV->Option Nat
 |none=>some dflt
 |some v=>cd lim v
def gz(n:Nat)(row:List AV):List (List AV):=List.replicate n row
def d_:List AV->List ((Nat×Nat)×AV)->Option (List AV)
 |cells,[]=>some cells
 | cells,((off,size),v)::rest =>ax (Nat.beq (bD v.cells) size&&m_ v.isTup) (match cN cells off v.cells with|some cs=>d_ cs rest|none=>none) none
def cY(sz:Nat):List (List AV)->List (Nat×AV)->Option (List (List AV))
 |rows,[]=>some rows
 |rows,(i,v)::rest=>ax (Nat.beq (bD v.cells) sz&&Nat.blt i (bD rows)&&m_ v.isTup) (cY sz (N6 i v.cells rows) rest) none
def ak(h:H)(sz:Nat):AV->Option (List (List AV))
 |.XC=>some []
 |.Wd=>some []
 |.WO _ sz' rows=>ax (Nat.beq sz sz' || rows.isEmpty) (some rows) none
 | .Xj id ep off len _=>match h.get id with
  |.cells sz' rows ep' _ _=>ax (Nat.beq ep ep'&&Nat.beq sz sz'&&Nat.ble (off+len) (bD rows)) (some (h_ len (gG off rows))) none
  |_=>none
 |_=>none
def mb(rows:List (List AV))(off:Nat)(new:List (List AV)):List (List AV) :=
 match new with
 |[r]=>N6 off r rows
 |new=>h_ off rows++(new++gG (off+bD new) rows)
def aH:Nat:=1099511627776
def bB(sz bytes:Nat)(s:AV)(new:List (List AV))(g:G):OR :=
  match s with
  | .XC| .Wd=>match new with
   |[]=>.val s
   |_=>ax (Nat.ble (bD new*bytes) aH) (.upd (.Xj g.nx 0 0 (bD new) none) (g.new (.cells sz new 0 true false))) .fail
  | .WO ..=>match new with
   |[]=>.val s
   |_=>.fail
  | .Xj id ep off len lim=>match g.get id with
   | .cells sz' rows ep' loose fz =>
    ax (Nat.beq ep ep'&&Nat.beq sz sz'&&Nat.ble (off+len) (bD rows)&&Nat.ble ((len+bD new)*bytes) aH)
     (ax (Nat.ble (len+bD new) (lim.getD (bD rows - off)))
       (match new with
        |[]=>.val s
        | _=>ax (Nat.ble (off+len+bD new) (bD rows)&&m_ fz)
         (.upd (.Xj id ep off (len+bD new) lim) (g.put id (.cells sz (mb rows (off+len) new) ep loose fz))) .fail)
       (ax (lim.isSome || m_ loose)
        (.upd (.Xj g.nx 0 0 (len+bD new) none) (g.new (.cells sz (h_ len (gG off rows)++new) 0 true false)))
        (ax fz .fail (.upd (.Xj id (Nat.succ ep) 0 (len+bD new) none) (g.put id (.cells sz (h_ len (gG off rows)++new) (Nat.succ ep) true false))))))
     .fail
   |_=>.fail
  |_=>.fail
def cZ(sz bytes:Nat)(s x:AV)(g:G):OR :=
 match ak g.h sz x with
 |none=>.fail
 |some new=>bB sz bytes s new g
def nA(sz bytes:Nat)(zero:List AV)(s x:AV)(g:G):OR :=
 match cd aH x with
 |none=>.fail
 |some n=>ax (Nat.ble (n*bytes) aH) (bB sz bytes s (gz n zero) g) .fail
def Lx(sz:Nat)(d x:AV)(g:G):OR:=.fail
def ip(sz:Nat)(x:AV)(lo hi mx:Option AV)(h:H):Option AV :=
 match x with
 | .XC=>match aS 0 0 lo,aS 0 0 hi,aS 0 0 mx with
  |some _,some _,some _=>some .XC
  |_,_,_=>none
 | .Wd=>match aS 0 0 lo,aS 0 0 hi,aS 0 0 mx with
  |some _,some _,some _=>some .Wd
  |_,_,_=>none
 | .WO tag sz' rows=>match mx with
  | none=>match aS (bD rows) (bD rows) hi with
   |none=>none
   | some h=>match aS 0 h lo with
    |none=>none
    |some l=>ax (Nat.beq sz sz') (some (.WO tag sz (h_ (h - l) (gG l rows)))) none
  | some m=>match cd 0 m,aS 0 0 hi,aS 0 0 lo with
   |some _,some _,some _=>some .Wd
   |_,_,_=>none
 | .Xj id ep off len lim=>match h.get id with
  | .cells sz' rows ep' loose _ =>
   ax (Nat.beq ep ep'&&Nat.beq sz sz'&&Nat.ble (off+len) (bD rows))
    (match aS (lim.getD (bD rows - off)) (lim.getD (bD rows - off)) mx with
     |none=>none
     | some m=>match aS len m hi with
      |none=>none
      | some h=>match aS 0 h lo with
       |none=>none
       | some l =>
        ax (Nat.beq m l)
         (ax (mx.isSome || lim.isSome || m_ loose) (some .Wd) (some (.WO 0 sz [])))
         (some (.Xj id ep (off+l) (h - l) (match mx with|some _=>some (m - l)|none=>lim.map (· - l))))) none
  |_=>none
 |_=>none
inductive UV where
 |one (d:TypeDesc)|flat (ds:List TypeDesc)|other
def qq(P:Program)(t:TypeId):UV :=
 match P.underlying t with
 |some (.struct _)|some (.array _ _)=>match t8 P t with|some ds=>.flat ds|none=>.other
 |some d=>ax (zL d) (.one d) .other
 |none=>.other
abbrev JU:=T->G->OR
def pj(ag:Bool)(n:Nat)(a:T->AV):JU:=λt g =>
 match a t with
 | .Xn _ _ rows i off=>match IX i rows with
  |some row=>VW (cD ag n row off)
  |none=>.fail
 | .W9 id ep i off=>match g.get id with
  | .cells _ rows ep' _ _=>ax (Nat.beq ep ep') (match IX i rows with
   |some row=>VW (cD ag n row off)
   |none=>.fail) .fail
  |_=>.fail
 |_=>.fail
def rj(n:Nat)(a x:T->AV):JU:=λt g =>
 match a t with
 | .W9 id ep i off=>match g.get id with
  | .cells sz rows ep' loose fz=>ax (Nat.beq ep ep'&&Nat.beq (bD (x t).cells) n&&m_ fz&&m_ (x t).isTup) (match IX i rows with
   | some row=>match cN row off (x t).cells with
    |some row'=>.upd .undef (g.put id (.cells sz (N6 i row' rows) ep loose fz))
    |none=>.fail
   |none=>.fail) .fail
  |_=>.fail
 |_=>.fail
def Gv(cs:List AV):JU:=λ_ g=>.upd (.W9 g.nx 0 0 0) (g.new (Xy (bD cs) [cs]))
def OT(a:T->AV):JU:=λt g=>ax (a t).isTup .fail (.upd (.W9 g.nx 0 0 0) (g.new (Xy (bD (a t).cells) [(a t).cells])))
def qC(zero:List AV)(pl:List (Nat×Nat))(vs:T->List AV):JU:=λt _ =>match d_ zero (pl.zip (vs t)) with|some cs=>.val (.agg cs)|none=>.fail
def ju(sz len:Nat)(zrows:List (List AV))(is:List Nat)(vs:T->List AV):JU:=λt g =>
 match cY sz zrows (is.zip (vs t)) with
 |some rows=>.upd (.Xj g.nx 0 0 len none) (g.new (Xy sz rows))
 |none=>.fail
def lQ(fo:Nat)(a:T->AV):JU:=λt _ =>
 match a t with
 |.Xn l sz rows i off=>.val (.Xn l sz rows i (off+fo))
 |.W9 id ep i off=>.val (.W9 id ep i (off+fo))
 |_=>.fail
def iY(sz:Nat)(a ix:T->AV):JU:=λt g =>
 match a t with
 | .WO l sz' rows=>match ix t with
  |.int _ (.ofNat i)=>ax (Nat.beq sz sz'&&Nat.blt i (bD rows)) (.val (.Xn l sz rows i 0)) .fail
  |_=>.fail
 | .Xj id ep off len _=>match ix t with
  | .int _ (.ofNat i)=>match g.get id with
   |.cells sz' _ ep' _ _=>ax (Nat.beq ep ep'&&Nat.beq sz sz'&&Nat.blt i len) (.val (.W9 id ep (off+i) 0)) .fail
   |_=>.fail
  |_=>.fail
 |_=>.fail
def pg(n sz:Nat)(a ix:T->AV):JU:=λt _ =>
 match ix t with
 | .int _ (.ofNat i)=>ax (Nat.blt i n) (match a t with
  |.Xn l sz' rows j off=>.val (.Xn l sz' rows j (off+i*sz))
  |.W9 id ep j off=>.val (.W9 id ep j (off+i*sz))
  |_=>.fail) .fail
 |_=>.fail
def yQ(ag:Bool)(n sz:Nat)(a ix:T->AV):JU:=λt _ =>
 match a t with
 | .agg cs=>match ix t with
  |.int _ (.ofNat i)=>ax (Nat.blt i n) (VW (cD ag sz cs (i*sz))) .fail
  |_=>.fail
 |_=>.fail
def sZ(a ix:T->AV):JU:=λt _ =>
 match a t with
 | .str s=>match ix t with
  | .int _ (.ofNat i)=>match IX i s.data.toList with
   |some b=>.val (.int .u8 (.ofNat b.toNat))
   |none=>.fail
  |_=>.fail
 |_=>.fail
def jo(sz bytes:Nat)(zero:List AV)(l c:T->AV):JU:=λt g =>
 match cd aH (c t) with
 | some cn=>match cd cn (l t) with
  | some ln=>ax (Nat.ble (cn*bytes) aH)
   (.upd (.Xj g.nx 0 0 ln none) (g.new (Xy sz (gz cn zero)))) .fail
  |none=>.fail
 |none=>.fail
def zR(kk:UV)(zero:AV)(ok:Bool)(m k:T->AV):JU:=λ_ _=>.fail
def yR(kk:UV)(m k x:T->AV):JU:=λ_ _=>.fail
def xx(kk:UV)(zero:AV)(m k:T->AV):JU:=λ_ _=>.fail
def pL(m st x:T->AV):JU:=λ_ _=>.fail
def J5(sz:Nat)(zero:List AV)(x:AV)(g:G):OR:=.fail
inductive Uw where
 |slice|array (n:Nat)|map|str|other
def nE(P:Program)(t:TypeId):Uw :=
 match P.underlying t with
 |some (.slice _)=>.slice
 |some (.array n _)=>.array n
 |some (.map _ _)=>.map
 |some .string=>.str
 |_=>.other
def bC(k:Uw)(x:AV)(g:G):OR :=
 match k with
 | .slice=>match x with
  |.XC|.Wd=>.val (.int .i64 0)
  |.WO _ _ rows=>.val (.int .i64 (.ofNat (bD rows)))
  |.Xj _ _ _ n _=>.val (.int .i64 (.ofNat n))
  |_=>.fail
 |.array n=>.val (.int .i64 (.ofNat n))
 | .map=>match x with
  |.V8=>.val (.int .i64 0)
  |.hmap id=>match g.get id with|.map es=>.val (.int .i64 (.ofNat (bD es)))|_=>.fail
  |_=>.fail
 |.str=>match x with|.str s=>.val (.int .i64 (.ofNat s.size))|_=>.fail
 |.other=>.fail
def HX(x:AV)(g:G):OR :=
 match x with
 |.XC|.Wd=>.val (.int .i64 0)
 | .Xj id ep off _ lim=>match g.get id with
  |.cells _ rows ep' loose _=>ax (Nat.beq ep ep'&&(lim.isSome || m_ loose)) (.val (.int .i64 (.ofNat (lim.getD (bD rows - off))))) .fail
  |_=>.fail
 |_=>.fail
def dP(C:Xg)(b:Builtin)(argTypes:Array TypeId)(args:List Operand):Option (Wv JU) :=
 match b,args with
 | .len,[x]=>match argTypes[0]?,aW C x with
  |some t,some a=>some ⟨λs g=>bC (nE C.P t) (a.run s) g⟩
  |_,_=>none
 | .append,[a,x]=>match argTypes[0]?,argTypes[1]?,aW C a,aW C x with
  | some t,some xt,some av,some xv=>match nj C.P t,C.P.underlying xt with
   | some e,some (.slice _)=>match Wx C.P e,lj C.P e,gj C.P e with
    |some sz,some bytes,some zero=>ax (Nat.beq (bD zero) sz&&Nat.blt 0 sz&&Nat.blt 0 bytes) (some ⟨λs g=>cZ sz bytes (av.run s) (xv.run s) g⟩) none
    |_,_,_=>none
   | some e,some (.int _)=>match Wx C.P e,lj C.P e,gj C.P e with
    |some sz,some bytes,some zero=>ax (Nat.beq (bD zero) sz&&Nat.blt 0 sz&&Nat.blt 0 bytes) (some ⟨λs g=>nA sz bytes zero (av.run s) (xv.run s) g⟩) none
    |_,_,_=>none
   |_,_=>none
  |_,_,_,_=>none
 | .copy,[a,x]=>match argTypes[0]?,aW C a,aW C x with
  | some t,some av,some xv=>match nj C.P t with
   | some e=>match Wx C.P e with
    |some sz=>some ⟨λs g=>Lx sz (av.run s) (xv.run s) g⟩
    |none=>none
   |none=>none
  |_,_,_=>none
 | .cap,[x]=>match argTypes[0]?,aW C x with
  | some t,some a=>match nj C.P t with
   |some _=>some ⟨λs g=>HX (a.run s) g⟩
   |none=>none
  |_,_=>none
 | .clear,[x]=>match argTypes[0]?,aW C x with
  | some t,some a=>match nj C.P t with
   | some e=>match Wx C.P e,gj C.P e with
    |some sz,some zero=>ax (Nat.beq (bD zero) sz&&Nat.blt 0 sz) (some ⟨λs g=>J5 sz zero (a.run s) g⟩) none
    |_,_=>none
   |none=>none
  |_,_=>none
 | .max,[x,y]=>match aW C x,aW C y with
  | some a,some b=>some ⟨λs _=>match a.run s with
   | .int k m=>match b.run s with
    |.int k' n=>ax (dA k k') (.val (.int k (ax (B_ m n) n m))) .fail
    |_=>.fail
   |_=>.fail⟩
  |_,_=>none
 | .min,[x,y]=>match aW C x,aW C y with
  | some a,some b=>some ⟨λs _=>match a.run s with
   | .int k m=>match b.run s with
    |.int k' n=>ax (dA k k') (.val (.int k (ax (B_ n m) n m))) .fail
    |_=>.fail
   |_=>.fail⟩
  |_,_=>none
 |_,_=>none
def il{α:Type}(f:α->Option Nat):List α->Option Nat
 |[]=>some 0
 | v::vs=>match f v with
  | some a=>match il f vs with
   |some b=>some (Nat.max a b)
   |none=>none
  |none=>none
def gg:Nat->AV->Option Nat
 |0,_=>none
 | f+1,v=>match v with
  |.WO l _ _=>some l
  |.Xn l _ _ _ _=>some l
  |.agg cs=>il (gg f) cs
  |.WM cs=>il (gg f) cs
  |.W_ _ a c=>il (gg f) (a++c)
  |.V9 _ v=>gg f v
  |.Xj ..|.W9 ..|.hmap _|.VZ _=>none
  |_=>some 0
def aF:Nat:=24
def jf(rows:List (List AV)):Option Nat:=il (il (gg aF)) rows
def nN(n sz:Nat)(a:T->AV)(lo hi:T->Option AV):JU:=λ_ _=>.fail
def cT(C:Xg):Op->Option (Wv JU)
 |.move x|.assign x=>match aW C x with|some a=>some ⟨λt _=>.val (a.run t)⟩|none=>none
 | .pick c a b=>match aW C c,aW C a,aW C b with
  |some c,some a,some b=>some ⟨λt _=>match c.run t with|.bool q=>ax q (.val (a.run t)) (.val (b.run t))|_=>.fail⟩
  |_,_,_=>none
 | .alloc ty=>match gj C.P ty with
  |some cs=>some ⟨Gv cs⟩
  |none=>none
 | .box _ x=>match aW C x with
  |some a=>some ⟨OT a.run⟩
  |none=>none
 | .build ty parts=>match gj C.P ty,cp C (parts.toList.map (·.2)) with
  | some zero,some vs =>
   match C.P.underlying ty with
   | some (.struct fs)=>match aD (λf:Field=>match Wx C.P f.type with| some n=>some (f.offset,n)| none=>none) fs.toList with
    | some places=>match aD (λi=>places[i]?) (parts.toList.map (·.1)) with
     |some pl=>some ⟨qC zero pl vs.run⟩
     |none=>none
    |none=>none
   | some (.array _ e)=>match Wx C.P e with
    |some n=>some ⟨qC zero ((parts.toList.map (·.1)).map λi=>(i*n,n)) vs.run⟩
    |none=>none
   |_=>none
  |_,_=>none
 | .buildSlice ty len parts=>match nj C.P ty,cp C (parts.toList.map (·.2)) with
  | some e,some vs=>match Wx C.P e,gj C.P e with
   | some sz,some zero=>ax (Nat.beq (bD zero) sz&&Nat.blt 0 sz&&Nat.ble (len*sz) 1048576)
    (some ⟨ju sz len (gz len zero) (parts.toList.map (·.1)) vs.run⟩) none
   |_,_=>none
  |_,_=>none
 | .load ty a=>match aW C a,vy C.P ty,Wx C.P ty with
  |some a,some ag,some n=>some ⟨pj ag n a.run⟩
  |_,_,_=>none
 | .store ty a x=>match aW C a,aW C x,Wx C.P ty with
  |some a,some x,some n=>some ⟨rj n a.run x.run⟩
  |_,_,_=>none
 | .nilCheck x=>match aW C x with
  | some a=>some ⟨λt _=>match a.run t with
   |.Xn l sz rows i off=>.val (.Xn l sz rows i off)
   |.W9 id ep i off=>.val (.W9 id ep i off)
   |.W_ f a c=>.val (.W_ f a c)
   |.VZ id=>.val (.VZ id)
   |_=>.fail⟩
  |none=>none
 | .binOp op ty x y _=>match aW C x,aW C y with
  |some a,some b=>some ⟨λt _=>(CN C.P op ty).run (a.run t) (b.run t)⟩
  |_,_=>none
 | .unOp op _ x=>match aW C x with
  |some a=>some ⟨λt _=>(unA op).run (a.run t)⟩
  |none=>none
 | .convert src dst x=>match aW C x,C.P.underlying src,C.P.underlying dst with
  |some a,some _,some (.int k)=>some ⟨λt _=>match a.run t with|.int _ n=>.val (.int k (xf k n))|_=>.fail⟩
  |_,_,_=>none
 | .makeInterface ty x=>match aW C x,C.P.underlying ty with
  |some _,some (.interface _)=>none
  |some a,some _=>some ⟨λt _=>.val (.V9 ty (a.run t))⟩
  |_,_=>none
 | .makeFunc (.func f) first captured=>match cp C first.toList,cp C captured.toList with
  |some a,some c=>some ⟨λt _=>.val (.W_ f (a.run t) (c.run t))⟩
  |_,_=>none
 | .makeMap ty none=>match C.P.underlying ty with
  |some (.map _ _)=>some ⟨λ_ g=>.upd (.hmap g.nx) (g.new (.map []))⟩
  |_=>none
 | .makeSlice ty l c=>match nj C.P ty,aW C l,aW C c with
  | some e,some l,some c=>match Wx C.P e,lj C.P e,gj C.P e with
   |some sz,some bytes,some zero=>ax (Nat.beq (bD zero) sz&&Nat.blt 0 sz) (some ⟨jo sz bytes zero l.run c.run⟩) none
   |_,_,_=>none
  |_,_,_=>none
 | .slice ty x lo hi none=>match C.P.underlying ty,aW C x,cp C lo.toList,cp C hi.toList with
  | some (.slice e),some x,some l,some h=>match Wx C.P e with
   |some sz=>some ⟨λt g=>VW (ip sz (x.run t) (l.run t).head? (h.run t).head? none g.h)⟩
   |none=>none
  | some (.array n e),some x,some l,some h=>match Wx C.P e with
   |some (sz+1)=>some ⟨nN n (sz+1) x.run (λt=>(l.run t).head?) (λt=>(h.run t).head?)⟩
   |_=>none
  |_,_,_,_=>none
 | .slice ty x lo (some hi) (some mx)=>match nj C.P ty,aW C x,cp C lo.toList,aW C hi,aW C mx with
  | some e,some x,some l,some h,some m=>match Wx C.P e with
   |some sz=>some ⟨λt g=>VW (ip sz (x.run t) (l.run t).head? (some (h.run t)) (some (m.run t)) g.h)⟩
   |none=>none
  |_,_,_,_,_=>none
 | .fieldAddr ty x f=>match aW C x,wH C.P ty f with
  | some a,some (fo,ft)=>match Wx C.P ft with
   |some (_+1)=>some ⟨lQ fo a.run⟩
   |_=>none
  |_,_=>none
 | .field ty x f=>match aW C x,wH C.P ty f with
  | some a,some (fo,ft)=>match vy C.P ft,Wx C.P ft with
   |some ag,some n=>some ⟨λt _=>match a.run t with|.agg cs=>VW (cD ag n cs fo)|_=>.fail⟩
   |_,_=>none
  |_,_=>none
 | .indexAddr ty x ix=>match aW C x,aW C ix with
  | some a,some i=>match C.P.underlying ty with
   | some (.slice e)=>match Wx C.P e with
    |some sz=>some ⟨iY sz a.run i.run⟩
    |none=>none
   | some (.array n e)=>match Wx C.P e with
    |some sz=>some ⟨pg n sz a.run i.run⟩
    |none=>none
   |_=>none
  |_,_=>none
 | .index ty x ix=>match aW C x,aW C ix with
  | some a,some i=>match C.P.underlying ty with
   | some (.array n e)=>match vy C.P e,Wx C.P e with
    |some ag,some sz=>some ⟨yQ ag n sz a.run i.run⟩
    |_,_=>none
   |some .string=>some ⟨sZ a.run i.run⟩
   |_=>none
  |_,_=>none
 | .lookup ty x k ok=>match aW C x,aW C k,C.P.underlying ty with
  | some m,some k,some (.map kt et)=>match JN C.P et with
   |some z=>some ⟨zR (qq C.P kt) z ok m.run k.run⟩
   |none=>none
  |_,_,_=>none
 | .mapUpdate ty m k x| .insert ty m k x=>match aW C m,aW C k,aW C x,C.P.underlying ty with
  |some m,some k,some x,some (.map kt _)=>some ⟨yR (qq C.P kt) m.run k.run x.run⟩
  |_,_,_,_=>none
 | .mapEntry ty m k=>match aW C m,aW C k,C.P.underlying ty with
  | some m,some k,some (.map kt et)=>match JN C.P et with
   |some z=>some ⟨xx (qq C.P kt) z m.run k.run⟩
   |none=>none
  |_,_,_=>none
 | .entryStore _ m st x=>match aW C m,aW C st,aW C x with
  |some m,some st,some x=>some ⟨pL m.run st.run x.run⟩
  |_,_,_=>none
 | .extract x i=>match aW C x with
  |some a=>some ⟨λt _=>match a.run t with|.WM vs=>VW (IX i vs)|_=>.fail⟩
  |none=>none
 |.call { callee:=.builtin b,args,argTypes }=>dP C b argTypes args.toList
 |_=>none
def Xm(h:H)(tag:Nat):Nat->AV->Option AV
 |0,_=>none
 | f+1,v=>match v with
  |.agg cs=>match aD (Xm h tag f) cs with|some as=>some (.agg as)|none=>none
  |.WM cs=>match aD (Xm h tag f) cs with|some as=>some (.WM as)|none=>none
  | .W_ g a c=>match aD (Xm h tag f) a,aD (Xm h tag f) c with
   |some as,some cs=>some (.W_ g as cs)
   |_,_=>none
  |.V9 t x=>match Xm h tag f x with|some a=>some (.V9 t a)|none=>none
  | .Xj id ep off len _=>match h.get id with
   | .cells sz rows ep' _ _=>ax (Nat.beq ep ep'&&Nat.ble (off+len) (bD rows))
    (match aD (aD (Xm h tag f)) (h_ len (gG off rows)) with
     | some rs=>match jf rs with
      |some m=>some (.WO (Nat.max tag m) sz rs)
      |none=>none
     |none=>none) none
   |_=>none
  | .W9 id ep i off=>match h.get id with
   | .cells sz rows ep' _ _=>ax (Nat.beq ep ep')
    (match aD (aD (Xm h tag f)) rows with
     | some rs=>match jf rs with
      |some m=>some (.Xn (Nat.max tag m) sz rs i off)
      |none=>none
     |none=>none) none
   |_=>none
  |.hmap _=>none
  |.VZ _=>none
  |v=>some v
def aL(h:H):Nat->AV->List Nat
 |0,_=>[]
 | f+1,v=>match v with
  |.agg cs=>cs.flatMap (aL h f)
  |.WM cs=>cs.flatMap (aL h f)
  |.W_ _ a c=>a.flatMap (aL h f)++c.flatMap (aL h f)
  |.V9 _ x=>aL h f x
  | .Xj id _ off len _=>id::(match h.get id with
   |.cells _ rows _ _ _=>(h_ len (gG off rows)).flatMap (·.flatMap (aL h f))
   |_=>[])
  | .W9 id _ _ _=>id::(match h.get id with
   |.cells _ rows _ _ _=>rows.flatMap (·.flatMap (aL h f))
   |_=>[])
  |.hmap id=>[id]
  |_=>[]
def dV(d:Nat):Nat->AV->Option AV
 |0,_=>none
 | f+1,v=>match v with
  | .WO t sz rows=>ax (Nat.beq t d) (match aD (aD (dV d f)) rows with
   | some rs=>match jf rs with
    |some m=>some (.WO m sz rs)
    |none=>none
   |none=>none) (some v)
  | .Xn t sz rows i off=>ax (Nat.beq t d) (match aD (aD (dV d f)) rows with
   | some rs=>match jf rs with
    |some m=>some (.Xn m sz rs i off)
    |none=>none
   |none=>none) (some v)
  |.agg cs=>match aD (dV d f) cs with|some as=>some (.agg as)|none=>none
  |.WM cs=>match aD (dV d f) cs with|some as=>some (.WM as)|none=>none
  | .W_ g a c=>match aD (dV d f) a,aD (dV d f) c with
   |some as,some cs=>some (.W_ g as cs)
   |_,_=>none
  |.V9 t x=>match dV d f x with|some a=>some (.V9 t a)|none=>none
  |v=>some v
def cR(g:G):List Nat->G
 |[]=>g
 | i::is=>match g.get i with
  |.cells sz rows ep loose _=>cR (g.put i (.cells sz rows ep loose true)) is
  |_=>cR g is
def aj(ih:IH)(d:Nat)(g:G)(f:Nat)(args:List AV):OR :=
 match aD (Xm g.h d aF) args with
 |none=>.fail
 | some as=>match ih.call (Nat.succ d) f as G.empty with
  |.fail=>.fail
  | .ok r g'=>match Xm g'.h 0 aF r with
   |none=>.fail
   | some r'=>match gg aF r' with
    |none=>.fail
    | some m=>ax (Nat.blt m d) (.val r')
     (match dV d aF r' with
      |none=>.fail
      | some r''=>match gg aF r'' with
       |none=>.fail
       |some m'=>ax (Nat.blt m' d) (.upd r'' (cR g (args.flatMap (aL g.h aF)))) .fail)
def dN:T->Nat->List Nat->List AV->Option T
 |t,_,[],[]=>some t
 |t,nt,p::ps,v::vs=>ax (Nat.blt p nt) (dN ((sp AV.undef p).run t v) nt ps vs) none
 |_,_,_,_=>none
def da(ih:IH)(d:Nat)(id:Nat)(args:List AV)(g:G):OR :=
 match g.get id with
 | .loop nt t ps assign body _ _ _=>match dN t nt ps args with
  |none=>.fail
  | some t'=>match ih.code nt d (some id) assign t' [] g with
   | .ok .norm t1 [] g1=>match g1.get id with
    | .loop nt1 t ps assign1 body1 Xi .ready pend =>
     match ih.code nt d (some id) body t1 [] (g1.put id (.loop nt1 t ps assign1 body1 Xi .busy pend)) with
     | .ok e _ [] g2=>match g2.get id with
      | .loop nt t ps assign body Xi _ _=>match e with
       |.norm=>.upd (.bool true) (g2.put id (.loop nt t ps assign body Xi .ready none))
       |.exit j=>.upd (.bool false) (g2.put id (.loop nt t ps assign body Xi .done (some (.exit j))))
       |.ret=>.upd (.bool false) (g2.put id (.loop nt t ps assign body Xi .done (some .ret)))
      |_=>.fail
     |_=>.fail
    |_=>.fail
   |_=>.fail
 |_=>.fail
def K3:FR->OR
 |.ok v g=>.upd v g
 |.fail=>.fail
def kT(C:Xg)(ih:IH)(d:Nat)(fv:AV)(vs:List AV)(g:G):OR :=
 match fv with
 | .W_ f first cap=>match C.ext f with
  |some e=>e d (first++(vs++cap)) g
  |none=>ax (C.ON f) (aj ih d g f (first++(vs++cap))) (K3 (ih.call d f (first++(vs++cap)) g))
 |.VZ id=>da ih d id vs g
 |_=>.fail
def Jc(C:Xg):Op->Option (Wv Ou)
 | .call { callee:=.value (.func f),args,.. }=>match cp C args.toList with
  | some vs=>match C.ext f with
   |some e=>some ⟨λ_ d _ t g=>e d (vs.run t) g⟩
   |none=>ax (C.ON f) (some ⟨λih d _ t g=>aj ih d g f (vs.run t)⟩) (some ⟨λih d _ t g=>K3 (ih.call d f (vs.run t) g)⟩)
  |none=>none
 | .call { callee:=.value fo,args,.. }=>match aW C fo,cp C args.toList with
  |some fv,some vs=>some ⟨λih d _ t g=>kT C ih d (fv.run t) (vs.run t) g⟩
  |_,_=>none
 |.call { callee:=.builtin .recover,.. }=>some ⟨λ_ _ _ _ _=>.val .WB⟩
 | .defer { callee:=.value fo,args,.. }=>match aW C fo,cp C args.toList with
  | some fv,some vs=>some ⟨λ_ _ rd t _=>match rd with
   |some _=>.fail
   | none=>match fv.run t with
    |.W_ f first cap=>.Xi (.call (.W_ f [] cap) (first++vs.run t))
    |_=>.fail⟩
  |_,_=>none
 | op=>match cT C op with
  |some s=>some ⟨λ_ _ _ t g=>s.run t g⟩
  |none=>none
def cI(C:Xg)(op:Op):Wv Ou :=
 match Jc C op with
 |some f=>f
 |none=>⟨λ_ _ _ _ _=>.fail⟩
structure Looks where
 rd:List Nat
 sr:List (Nat×Nat)
 soft:List (Nat×Nat)
 big:Bool
def aw:AV->List Nat
 |.W9 id _ _ _=>[id]
 |.Xj id _ _ _ _=>[id]
 |.hmap id=>[id]
 |_=>[]
def Ae:AV->List Nat
 |.hmap id=>[id]
 |_=>[]
def Mn:AV->List Nat
 |.Xj id _ _ (_+1) _=>[id]
 |_=>[]
def nz(C:Xg)(b:Builtin)(argTypes:Array TypeId):AV->List Nat :=
 match b with
 | .len=>match argTypes[0]? with
  | some t=>match nE C.P t with
   |.map=>Ae
   |_=>λ_=>[]
  |none=>λ_=>[]
 |.clear=>Mn
 |_=>aw
def aC:Looks:=⟨[],[],[],false⟩
def cz:Looks:=⟨[],[],[],true⟩
def am(l:List Nat):Looks:=⟨l,[],[],false⟩
def aV(C:Xg)(op:Op):Wv (T->G->Looks) :=
 match op with
 | .load _ a| .store _ a _| .slice _ a _ _ _| .lookup _ a _ true| .mapUpdate _ a _ _| .insert _ a _ _| .entryStore _ a _ _=>match aW C a with
  |some a=>⟨λt _=>am (aw (a.run t))⟩
  |none=>⟨λ_ _=>cz⟩
 | .lookup ty a _ false=>match aW C a with
  |some a=>⟨λt _=>⟨[],(aw (a.run t)).map (·,ty),[],false⟩⟩
  |none=>⟨λ_ _=>cz⟩
 | .mapEntry ty a _=>match aW C a with
  |some a=>⟨λt _=>⟨aw (a.run t),[],(aw (a.run t)).map (·,ty),false⟩⟩
  |none=>⟨λ_ _=>cz⟩
 | .indexAddr ty a _=>match C.P.underlying ty,aW C a with
  |some (.slice _),some a=>⟨λt _=>am (aw (a.run t))⟩
  |_,_=>⟨λ_ _=>aC⟩
 | .call { callee:=.builtin b,args,argTypes }=>match cp C args.toList with
  |some vs=>⟨λt _=>am ((vs.run t).flatMap (nz C b argTypes))⟩
  |none=>⟨λ_ _=>cz⟩
 | .call { callee:=.value fo,args,.. }=>match aW C fo,cp C args.toList with
  | some fv,some vs=>⟨λt g=>match fv.run t with
   |.W_ f first cap=>ax ((C.ext f).isSome || C.ON f) (am ((first++(vs.run t++cap)).flatMap (aL g.h aF))) cz
   |_=>cz⟩
  |_,_=>⟨λ_ _=>cz⟩
 |.defer _=>⟨λ_ _=>cz⟩
 |_=>⟨λ_ _=>aC⟩
structure W7 where
 lk:Looks
 wr:List Nat
abbrev RFn:=IH->Nat->Option Nat->T->List Xo->G->CR
def ta(nt:Nat):Option Nat->Option (Wv (T->AV->T))
 |none=>some ⟨λt _=>t⟩
 |some d=>ax (Nat.blt d nt) (some (sp AV.undef d)) none
def jP(ops:List Oper):Option (Nat×Bool)->Option (Wv (T->Option Bool))
 |none=>some ⟨λ_=>some true⟩
 | some (j,want)=>match ops[j]? with
  | some oj=>match oj.dst with
   | some d=>some ⟨λt=>match (gp AV.undef d).run t with
    |.bool b=>some (ax want b (m_ b))
    |.WM _=>some false
    |_=>none⟩
   |none=>none
  |none=>none
def rx(out:T->AV->T)(next:T->List Xo->G->CR)(t:T)(df:List Xo)(g:G):OR->CR
 |.fail=>.fail
 |.val v=>next (out t v) df g
 |.upd v g'=>next (out t v) df g'
 |.Xi a=>next (out t .undef) (a::df) g
def FI:Wv RFn:=⟨λ_ _ _ _ _ _=>.fail⟩
def lA(C:Xg)(nt:Nat)(all:List Oper):List Oper->Wv RFn
 |[]=>⟨λ_ _ _ t df g=>.ok .norm t df g⟩
 | o::rest=>match ta nt o.dst with
  | some out=>match o.guard with
   |none=>⟨λih d rd t df g=>rx out.run ((lA C nt all rest).run ih d rd) t df g ((cI C o.op).run ih d rd t g)⟩
   | some gd=>match jP all (some gd) with
    | some q=>⟨λih d rd t df g=>match q.run t with
     |some true=>rx out.run ((lA C nt all rest).run ih d rd) t df g ((cI C o.op).run ih d rd t g)
     |some false=>(lA C nt all rest).run ih d rd (out.run t .undef) df g
     |none=>.fail⟩
    |none=>FI
  |none=>FI
def bN:List Oper->List Nat->List Nat
 |[],acc=>acc
 | o::rest,acc =>bN rest (acc++[o.after.toList.foldl (λm e=>ax (Region.binds .any e) (m ||| 2 ^ e.on ||| acc.getD e.on 0) m) 0])
def xH(ops:List Oper)(o:Oper):List Nat :=
 (o.op.operands.toList.filterMap fun|.tmp t=>some t|_=>none) ++
 (match o.guard with
  |some (g,_)=>match ops[g]? with|some og=>og.dst.toList|none=>[]
  |none=>[])
def lX(ops:List Oper)(x y:Oper):Bool :=
 (match x.dst with|some d=>!(xH ops y).contains d&&y.dst != some d|none=>true) &&
 (match y.dst with|some d=>!(xH ops x).contains d|none=>true)
def meets(a b:List Nat):Bool:=a.any λx=>b.contains x
def Uf(l:List (Nat×Nat)):List Nat:=l.map (·.1)
def Hc(p:Nat×Nat):List (Nat×Nat)->Bool
 |[]=>false
 |q::r=>ax (Nat.beq p.1 q.1&&Nat.beq p.2 q.2) true (Hc p r)
def kH(x y:W7):Bool :=
 match x.wr with
 |[]=>true
 |_=>!y.lk.big&&!meets x.wr y.wr&&!meets x.wr y.lk.rd&&!meets x.wr (Uf y.lk.sr)
def gx(x y:W7):Bool :=
 match x.wr with
 |[]=>true
 |_=>!y.lk.big&&!meets x.wr y.wr&&!meets x.wr y.lk.rd&&(!meets x.wr (Uf y.lk.sr) || y.lk.sr.all λp=>Hc p x.lk.soft)
def bX(x y:W7):Bool:=kH x y&&gx y x
def fk(pm:List Nat)(i:Nat)(x:W7):Nat->List W7->Nat
 |_,[]=>0
 |j,y::r=>ax ((pm.getD j 0).testBit i || !meets y.wr (Uf x.lk.sr)) (fk pm i x (Nat.succ j) r) (Nat.succ (fk pm i x (Nat.succ j) r))
def wZ(pm:List Nat):Nat->List W7->Bool
 |_,[]=>true
 |i,x::r=>ax (match x.lk.sr with|[]=>true|_=>Nat.ble (fk pm i x (Nat.succ i) r) 1) (wZ pm (Nat.succ i) r) false
def gk{α:Type}(f:Nat->α->Nat->α->Bool)(i:Nat)(x:α):Nat->List α->Bool
 |_,[]=>true
 |j,y::r=>f i x j y&&gk f i x (j+1) r
def mf{α:Type}(f:Nat->α->Nat->α->Bool):Nat->List α->Bool
 |_,[]=>true
 |i,x::rest=>gk f i x (i+1) rest&&mf f (i+1) rest
def rO:Nat->List Oper->Bool
 |_,[]=>true
 |i,o::r=>(o.after.toList.all λe=>!Region.binds .any e || Nat.blt e.on i)&&rO (i+1) r
def pf(pm:List Nat):Nat->List Oper->Bool
 |_,[]=>true
 |i,o::r=>(match o.guard with|none=>true|some (j,_)=>(pm.getD i 0).testBit j)&&pf pm (i+1) r
def G_(ops:List Oper):Bool :=
 let pm:=bN ops []
 rO 0 ops&&pf pm 0 ops&&mf (λi x j y=>(pm.getD j 0).testBit i || lX ops x y) 0 ops
def t9(pm:List Nat)(fs:List W7):Bool :=ax (mf (λi x j y=>(pm.getD j 0).testBit i || bX x y) 0 fs) (wZ pm 0 fs) false
def Cx(C:Xg):Op->Bool
 |.alloc _|.box ..|.buildSlice ..|.store ..|.makeSlice ..|.makeMap ..|.mapUpdate ..|.insert ..|.mapEntry ..|.entryStore ..|.defer _=>false
 |.call { callee:=.builtin .append,.. }|.call { callee:=.builtin .copy,.. }|.call { callee:=.builtin .clear,.. }=>false
 |.slice ty _ _ _ _=>match C.P.underlying ty with|some (.slice _)=>true|_=>false
 |.call { callee:=.value (.func f),.. }=>C.ON f
 |.call { callee:=.value _,.. }=>false
 |_=>true
abbrev Vw:=IH->Nat->Option Nat->T->List Xo->G->List W7->CR
def aQ(g:G)(lg:List Nat):G:=@G.rec (λ_=>G) (λh nx _=>⟨h,nx,lg⟩) g
def mg(g:G)(lg:List Nat):G:=@G.rec (λ_=>G) (λh nx _=>⟨h,Nat.succ nx,lg⟩) g
def mH(out:T->AV->T)(next:T->List Xo->G->List W7->CR)(t:T)(df:List Xo)(g:G)(fs:List W7)(lk:Looks):OR->CR
 |.fail=>.fail
 |.val v=>next (out t v) df (mg g g.lg) (⟨lk,[]⟩::fs)
 |.upd v g'=>next (out t v) df (mg g' (g'.lg++g.lg)) (⟨lk,g'.lg⟩::fs)
 |.Xi _=>.fail
def jO(C:Xg)(nt:Nat)(pm:List Nat)(all:List Oper):Nat->List Oper->Wv Vw
 |_,[]=>⟨λ_ _ _ t df g fs=>ax (t9 pm fs.reverse) (.ok .norm t df g) .fail⟩
 | i,o::rest=>match ta nt o.dst,jP all o.guard with
  | some out,some q=>⟨λih d rd t df g fs=>match q.run t with
     |some true=>mH out.run ((jO C nt pm all (i+1) rest).run ih d rd) t df g fs ((aV C o.op).run t g) ((cI C o.op).run ih d rd t (aQ g []))
     |some false=>(jO C nt pm all (i+1) rest).run ih d rd (out.run t .undef) df g (⟨aC,[]⟩::fs)
     |none=>.fail⟩
  |_,_=>⟨λ_ _ _ _ _ _ _=>.fail⟩
def pt(g0:G):CR->CR
 |.ok e t df g=>match g.lg with|[]=>ax (Nat.beq g.nx g0.nx) (.ok e t df g0) .fail|_=>.fail
 |.fail=>.fail
def gm(C:Xg)(nt:Nat)(ops:List Oper)(draw:Bool):Wv RFn :=
 ax draw
  (ax (G_ ops)
   (ax (ops.all λo=>Cx C o.op)
    ⟨λih d rd t df g=>pt g ((lA C nt ops ops).run ih d rd t df (aQ g []))⟩
    ⟨λih d rd t df g=>(jO C nt (bN ops []) ops 0 ops).run ih d rd t df g []⟩) FI)
  (lA C nt ops ops)
def eC(ih:IH)(nt d:Nat)(rd:Option Nat)(id:Nat)(t:T)(df:List Xo)(g2:G):CR :=
 match g2.get id with
 | .loop nt' t' ps assign body Xi st pend=>match st with
  |.busy=>.fail
  | _=>match pend with
   |none=>.ok .norm t df (g2.put id (.loop nt' t' ps assign body Xi .exhausted pend))
   |some c=>ih.code nt d rd c t df (g2.put id (.loop nt' t' ps assign body Xi .exhausted pend))
 |_=>.fail
def dw(C:Xg)(ih:IH)(nt d:Nat)(rd:Option Nat)(fv:AV)(ps:List Nat)(assign body:Code)(t:T)(df:List Xo)(Xi:Nat)(g:G):CR :=
 match fv with
 | .W_ f first cap=>ax (C.ext f).isSome .fail
  (match ih.call d f (first++(.VZ g.nx::cap)) (g.new (.loop nt t ps assign body Xi .ready none)) with
  |.ok _ g2=>eC ih nt d rd g.nx t df g2
  |.fail=>.fail)
 |_=>.fail
def pu(C:Xg)(nt:Nat)(fo:T->AV)(ps:List Nat)(assign body:Code):RFn:=λih d rd t df g =>
 match rd with
 | some l=>match g.get l with
  |.loop _ _ _ _ _ Xi _ _=>dw C ih nt d rd (fo t) ps assign body t df Xi g
  |_=>.fail
 |none=>dw C ih nt d rd (fo t) ps assign body t (.mark g.nx::df) g.nx (g.new (.Xi true))
def Fk(k:T->List Xo->G->CR):CR->CR
 |.ok .norm t df g=>k t df g
 |r=>r
def yi(id:Nat):CR->CR
 |.ok (.exit j) t df g=>ax (Nat.beq j id) (.ok .norm t df g) (.ok (.exit j) t df g)
 |r=>r
def aR(C:Xg)(nt:Nat):Code->Wv RFn
 |.skip=>⟨λ_ _ _ t df g=>.ok .norm t df g⟩
 |.label _=>⟨λ_ _ _ t df g=>.ok .norm t df g⟩
 |.region _ ops draw=>gm C nt ops.toList draw
 |.seq a b=>⟨λih d rd t df g=>Fk ((aR C nt b).run ih d rd) ((aR C nt a).run ih d rd t df g)⟩
 | .cond c a b=>match aW C c with
  | some q=>⟨λih d rd t df g=>match q.run t with
   |.bool v=>ax v ((aR C nt a).run ih d rd t df g) ((aR C nt b).run ih d rd t df g)
   |_=>.fail⟩
  |none=>FI
 |.block id body=>⟨λih d rd t df g=>yi id ((aR C nt body).run ih d rd t df g)⟩
 |.loop body=>⟨λih d rd t df g=>Fk (λt df g=>ih.code nt d rd (.loop body) t df g) ((aR C nt body).run ih d rd t df g)⟩
 |.scope body=>aR C nt body
 |.exit id=>⟨λ_ _ _ t df g=>.ok (.exit id) t df g⟩
 |.ret=>⟨λ_ _ _ t df g=>.ok .ret t df g⟩
 | .rangeFunc f ps assign body=>match aW C f with
  |some a=>⟨pu C nt a.run ps.toList assign body⟩
  |none=>FI
 |_=>FI
def O4(C:Xg)(ih:IH)(nt d:Nat)(rd:Option Nat)(c:Code)(t:T)(df:List Xo)(g:G):CR :=(aR C nt c).run ih d rd t df g
def eE(ih:IH)(d:Nat):List Xo->G->Option G
 |[],g=>some g
 | .mark id::ds,g=>match g.get id with
  |.Xi true=>eE ih d ds (g.put id (.Xi false))
  |_=>none
 | .call (.W_ f first cap) args::ds,g=>match ih.call d f (first++(args++cap)) g with
  |.ok _ g'=>eE ih d ds g'
  |.fail=>none
 |.call _ _::_,_=>none
def pE(C:Xg):List ResultVar->Option (Wv (T->G->Option (List AV)))
 |[]=>some ⟨λ_ _=>some []⟩
 | .tmp n::rs=>match pE C rs with
  |some k=>some ⟨λt g=>match k.run t g with|some vs=>some ((gp AV.undef n).run t::vs)|none=>none⟩
  |none=>none
 | .cell a ty::rs=>match pE C rs,cT C (.load ty (.tmp a)) with
  | some k,some l=>some ⟨λt g=>match l.run t g with
   |.val v=>(match k.run t g with|some vs=>some (v::vs)|none=>none)
   |_=>none⟩
  |_,_=>none
def bJ:Nat->List AV->T->T
 |_,[],t=>t
 |i,v::vs,t=>bJ (i+1) vs ((sp AV.undef i).run t v)
def fg:List AV->AV
 |[v]=>v
 |vs=>.WM vs
def bV(ih:IH)(d:Nat)(res:T->G->Option (List AV))(t:T)(df:List Xo)(g:G):FR :=
 match eE ih d df g with
 |none=>.fail
 | some g'=>match res t g' with
  |some vs=>.ok (fg vs) g'
  |none=>.fail
def UL(C:Xg)(f:Nat):Option (Wv (IH->Nat->List AV->G->FR)) :=
 match C.P.funcs[f]? with
 |none=>none
 | some fn=>match fn.body with
  |none=>none
  | some c=>match pE C fn.results.toList with
   | some r => ax (fn.name == "runtime.NumGoroutine") none
    (some ⟨λih d args g=>ax (Nat.ble (bD args) fn.ntmps)
     (match (aR C fn.ntmps c).run ih d none (bJ 0 args .nil) [] g with
      |.ok (.exit _) _ _ _=>.fail
      |.ok _ t df g'=>bV ih d r.run t df g'
      |.fail=>.fail) .fail⟩)
   |none=>none
def eU(C:Xg)(ih:IH)(d f:Nat)(args:List AV)(g:G):FR :=
 match UL C f with
 |some x=>x.run ih d args g
 |none=>.fail
def IH.zero:IH:=⟨λ_ _ _ _ _ _ _=>.fail,λ_ _ _ _=>.fail⟩
def KW(C:Xg)(ih:IH):IH:=⟨O4 C ih,eU C ih⟩
def OU(C:Xg)(n:Nat):IH:=@Nat.rec (λ_=>IH) IH.zero (λ_ ih=>KW C ih) n
def aJ{c:Prop} [Decidable c]{α:Type}{t e:α}(h:¬c:=by omega):ite c t e=e:=XS h
def dk{c:Prop} [Decidable c]{α:Type}{t e:α}(h:c:=by omega):ite c t e=t:=XO h
def NP{α:Type}{l:List α}(h:i<l.length:=by omega):l[i]?=some l[i]:=XJ h
@[simp] theorem WK {α:Type} (x y:α):ax true x y=x:=rfl
@[simp] theorem Wn {α:Type} (x y:α):ax false x y=y:=rfl
def aa{α:Type}(b:Bool)(x y:α):ax b x y=if b=true then x else y:=by cases b<;>rfl
@[simp] theorem WU (b:Bool):m_ b = !b:=by cases b<;>rfl
def gy{α:Type}(n:Nat):∀l:List α,IX n l=l[n]?:=by
 induction n with
 |zero=>intro l;cases l<;>rfl
 | succ n ih=>intro l;cases l with
  |nil=>rfl
  |cons a t=>simp only[ZY];exact ih t
def kK{α:Type}(n:Nat)(x:α):∀l:List α,N6 n x l=l.set n x:=by
 induction n with
 |zero=>intro l;cases l<;>rfl
 | succ n ih=>intro l;cases l with
  |nil=>rfl
  |cons a t=>simp only[aaa];exact congrArg (a::·) (ih t)
def ay{α:Type}(l:List α):bD l=l.length:=by
 induction l with
 |nil=>rfl
 |cons a t ih=>exact congrArg Nat.succ ih
def bK{α:Type}(n:Nat):∀l:List α,gG n l=l.drop n:=by
 induction n with
 |zero=>intro l;rfl
 | succ n ih=>intro l;cases l with
  |nil=>rfl
  |cons a t=>simp only[aak];exact ih t
def bI{α:Type}(n:Nat):∀l:List α,h_ n l=l.take n:=by
 induction n with
 |zero=>intro l;rfl
 | succ n ih=>intro l;cases l with
  |nil=>rfl
  |cons a t=>simp only[Z4];exact congrArg (a::·) (ih t)
section tr
variable {α:Type}(e:α)
def Sa:∀(f n:Nat) (t:Tr α),n<f->(gpF e f n).run t=t.get e n:=by
 intro f
 induction f with
 |zero=>intro n t h;omega
 | succ f ih =>
  intro n t h;cases n with
  |zero=>cases t<;>rfl
  | succ m =>
   have hm:m / 2<f:=by omega
   simp only[gpF];cases hb:Nat.beq (m % 2) 0
   ·cases t with
    |nil=>rfl
    |node v l r=>simp only[Tr.get,hb];exact ih _ _ hm
   ·cases t with
    |nil=>rfl
    |node v l r=>simp only[Tr.get,hb];exact ih _ _ hm
@[simp] theorem Wz (n:Nat) (t:Tr α):(gp e n).run t=t.get e n:=Sa e (n+1) n t (by omega)
def VV(n:Nat):(Tr.nil:Tr α).get e n=e:=by cases n<;>rfl
def Ti:∀(f n:Nat) (t:Tr α) (x:α) (k:Nat),n<f->((Ke e f n).run t x).get e k=if k=n then x else t.get e k:=by
 intro f
 induction f with
 |zero=>intro n t x k h;omega
 | succ f ih =>
  intro n t x k h;cases n with
  | zero=>cases t with
   | nil=>cases k with
    |zero=>rfl
    |succ k=>simp only[Ke,Tr.get];cases Nat.beq (k % 2) 0<;>simp
   |node v l r=>cases k<;>simp[Ke,Tr.get]
  | succ m =>
   have hm:m / 2<f:=by omega
   simp only[Ke];cases hb:Nat.beq (m % 2) 0
   ·have b:m % 2=1:=by have:=Z6 hb;omega
    cases t with
    | nil =>
     try simp only[Wn]
     cases k with
     |zero=>simp[Tr.get]
     | succ k =>
      simp only[Tr.get];cases hk:Nat.beq (k % 2) 0
      ·try simp only[Wn]
       rw[ih _ _ _ _ hm,VV];have a:k % 2=1:=by have:=Z6 hk;omega
       by_cases h2:k=m
       ·subst h2;simp
       ·rw[aJ,aJ]
      ·have a:k % 2=0:=YJ hk
       try simp only[WK]
       rw[aJ]
    | node v l r =>
     try simp only[Wn]
     cases k with
     |zero=>simp[Tr.get]
     | succ k =>
      simp only[Tr.get];cases hk:Nat.beq (k % 2) 0
      ·try simp only[Wn]
       rw[ih _ _ _ _ hm];have a:k % 2=1:=by have:=Z6 hk;omega
       by_cases h2:k=m
       ·subst h2;simp
       ·rw[aJ,aJ]
      ·have a:k % 2=0:=YJ hk
       try simp only[WK]
       rw[aJ]
   ·have b:m % 2=0:=YJ hb;cases t with
    | nil =>
     try simp only[WK]
     cases k with
     |zero=>simp[Tr.get]
     | succ k =>
      simp only[Tr.get];cases hk:Nat.beq (k % 2) 0
      ·have a:k % 2=1:=by have:=Z6 hk;omega
       try simp only[Wn]
       rw[aJ]
      ·try simp only[WK]
       rw[ih _ _ _ _ hm,VV];have a:k % 2=0:=YJ hk
       by_cases h2:k=m
       ·subst h2;simp
       ·rw[aJ,aJ]
    | node v l r =>
     try simp only[WK]
     cases k with
     |zero=>simp[Tr.get]
     | succ k =>
      simp only[Tr.get];cases hk:Nat.beq (k % 2) 0
      ·have a:k % 2=1:=by have:=Z6 hk;omega
       try simp only[Wn]
       rw[aJ]
      ·try simp only[WK]
       rw[ih _ _ _ _ hm];have a:k % 2=0:=YJ hk
       by_cases h2:k=m
       ·subst h2;simp
       ·rw[aJ,aJ]
@[simp] theorem Vc (n:Nat) (t:Tr α) (x:α) (k:Nat):((sp e n).run t x).get e k=if k=n then x else t.get e k :=Ti e (n+1) n t x k (by omega)
end tr
def VO(h:H)(i:Nat)(o:Xh)(k:Nat):(h.put i o).get k=if k=i then o else h.get k:=by simp[H.get,H.put]
@[simp] theorem G.get_eq (g:G) (i:Nat):g.get i=g.h.get i:=rfl
@[simp] theorem G.put_h (g:G) (i:Nat) (o:Xh):(g.put i o).h=g.h.put i o:=by cases g;rfl
@[simp] theorem G.put_nx (g:G) (i:Nat) (o:Xh):(g.put i o).nx=g.nx:=by cases g;rfl
@[simp] theorem G.put_lg (g:G) (i:Nat) (o:Xh):(g.put i o).lg=i::g.lg:=by cases g;rfl
@[simp] theorem G.new_h (g:G) (o:Xh):(g.new o).h=g.h.put g.nx o:=by cases g;rfl
@[simp] theorem G.new_nx (g:G) (o:Xh):(g.new o).nx=g.nx+1:=by cases g;rfl
@[simp] theorem G.new_lg (g:G) (o:Xh):(g.new o).lg=g.nx::g.lg:=by cases g;rfl
@[simp] theorem WS (g:G) (l:List Nat):(mg g l).h=g.h:=by cases g;rfl
@[simp] theorem Ue (g:G) (l:List Nat):(mg g l).nx=g.nx+1:=by cases g;rfl
@[simp] theorem Og (g:G) (l:List Nat):(mg g l).lg=l:=by cases g;rfl
@[simp] theorem Ws (g:G) (l:List Nat):(aQ g l).h=g.h:=by cases g;rfl
@[simp] theorem Wo (g:G) (l:List Nat):(aQ g l).nx=g.nx:=by cases g;rfl
@[simp] theorem Vb (g:G) (l:List Nat):(aQ g l).lg=l:=by cases g;rfl
def pC(m:Nat)(h:m<2^63):IntKind.wrap .i64 (Int.ofNat m)=Int.ofNat m:=by have e:(Int.ofNat m) % (2 ^ 64:Int)=Int.ofNat m:=aaQ (ZS m) (by simp only[Y6];omega);unfold IntKind.wrap;simp only[IntKind.bits,IntKind.signed,e,YO,X9];rw[XS (by simp only[Y6];omega)]
def Ap(z:Int)(h:-2^63<=z)(h0:z<0):IntKind.wrap .i64 z=z:=by
 have e:z % (2 ^ 64:Int)=z+2 ^ 64:=by rw[<-Int.add_emod_right,aaQ]<;>omega
 unfold IntKind.wrap;simp only[IntKind.bits,IntKind.signed,e,YO,X9]
 split<;>omega
def Bl(m:Nat)(h:m<2^63):IntKind.wrap .i64 (Int.negSucc m)=Int.negSucc m:=by have h1:=abC m;generalize Int.negSucc m=z at *;exact Ap z (by omega) (by omega)
def jc(k:IntKind)(n:Int):xf k n=k.wrap n:=by
 unfold xf
 split
 ·rename_i m;rw[aa];split
  ·rename_i h;rw[YM]at h;exact (pC m h).symm
  ·rfl
 ·rename_i m;rw[aa];split
  ·rename_i h;rw[YM]at h;exact (Bl m h).symm
  ·rfl
 ·simp only[IntKind.wrap,IntKind.bits,IntKind.signed];rfl
 ·simp only[IntKind.wrap,IntKind.bits,IntKind.signed];rfl
 ·rfl
def nD(a b:Int):B_ a b=decide (a<b):=by rw[Z0,decide_eq_true_iff];cases a<;>cases b<;>simp only[B_,YM,abC,Y6,ZR,false_iff,true_iff]<;>omega
def Cp(a b:Int):PN a b=decide (a=b):=by
 rw[Z0,decide_eq_true_iff];cases a<;>cases b<;>simp only[PN,abC,Y6,ZR,false_iff]
 ·rw[ab0];omega
 ·omega
 ·omega
 ·rw[ab0];omega
def FV(a b:IntKind):dA a b=decide (a=b):=by cases a<;>cases b<;>rfl
section
variable {x:AV}
structure Gh where
 kind:Nat
 ep:Nat
 sz:Nat
 n:Nat
 blk:Nat
 base:Nat
 WV:Nat
 wr:Bool
abbrev Gm:=Nat->Gh
def Nc(γ:Gm)(b:Nat):Prop:=∃id,(γ id).kind≠0/\(γ id).wr=true/\(γ id).blk=b
def Wy(b o:Nat):Addr:=⟨b,o,none⟩
def ni(lim:Option Nat)(off cap:Nat)(g:Gh):Prop :=
 match lim with
 |some c=>cap=c/\off+c<=g.n
 |none=>off+cap=g.n+g.WV
inductive Closed:AV->Prop
 |bool (b:Bool):Closed (.bool b)
 |int (k:IntKind) (n:Int):Closed (.int k n)
 |str (s:ByteArray):Closed (.str s)
 |WM (xs:List AV) (h:∀x∈xs,Closed x):Closed (.WM xs)
 |agg (xs:List AV) (h:∀x∈xs,Closed x):Closed (.agg xs)
 |WQ:Closed .WQ
 |XC:Closed .XC
 |WT:Closed .WT
 |V8:Closed .V8
 |WB:Closed .WB
 |Wd:Closed .Wd
 |WO (tag sz:Nat) (rows:List (List AV)) (h:∀row∈rows,∀x∈row,Closed x):Closed (.WO tag sz rows)
 |Xn (tag sz:Nat) (rows:List (List AV)) (i off:Nat) (h:∀row∈rows,∀x∈row,Closed x):Closed (.Xn tag sz rows i off)
 |W_ (f:Nat) (xs ys:List AV) (h:∀x∈xs,Closed x) (h2:∀x∈ys,Closed x):Closed (.W_ f xs ys)
 |V9 (t:Nat) (x:AV) (h:Closed x):Closed (.V9 t x)
inductive RV (w:World) (γ:Gm) (A:Nat->Nat->Prop):Nat->AV->Value->Prop
 |bool (bd:Nat) (b:Bool):RV w γ A bd (.bool b) (.bool b)
 |int (bd:Nat) (k:IntKind) (n:Int):RV w γ A bd (.int k n) (.int k n)
 |str (bd:Nat) (s:ByteArray):RV w γ A bd (.str s) (.string s)
 | WM (bd:Nat) (xs:List AV) (vs:Array Value) (hl:xs.length=vs.size)
   (h:∀(i:Nat) x v,xs[i]?=some x->vs[i]?=some v->RV w γ A bd x v):RV w γ A bd (.WM xs) (.tuple vs)
 | agg (bd:Nat) (xs:List AV) (vs:Array Value) (hl:xs.length=vs.size) (h1:∀(i:Nat) x,xs[i]?=some x->x.one=true)
   (h:∀(i:Nat) x v,xs[i]?=some x->vs[i]?=some v->RV w γ A bd x v):RV w γ A bd (.agg xs) (.agg vs)
 |WQ (bd:Nat):RV w γ A bd .WQ (.pointer none)
 |XC (bd:Nat):RV w γ A bd .XC (.slice none 0 0)
 |WT (bd:Nat):RV w γ A bd .WT .nilFunc
 |V8 (bd:Nat):RV w γ A bd .V8 (.map none)
 |WB (bd:Nat):RV w γ A bd .WB .nilIface
 |Wd (bd:Nat) (a:Addr):RV w γ A bd .Wd (.slice (some a) 0 0)
 | WO (bd tag sz:Nat) (rows:List (List AV)) (b o cap:Nat) (cell:Nat->Nat->Value) (ht:tag<=bd) (hc:rows.length<=cap)
   (hb:b<w.heap.size) (hm:¬Nc γ b) (ha:¬A tag b)
   (hr:∀(i:Nat) row,rows[i]?=some row->row.length=sz)
   (ho:∀(i j:Nat) row x,rows[i]?=some row->row[j]?=some x->x.one=true)
   (hw:∀(i j:Nat) row x,rows[i]?=some row->row[j]?=some x->w.cell? (Wy b (o+i*sz+j))=some (cell i j))
   (h:∀(i j:Nat) row x,rows[i]?=some row->row[j]?=some x->RV w γ A tag x (cell i j))
   (hcl:∀row∈rows,∀x∈row,Closed x) :
   RV w γ A bd (.WO tag sz rows) (.slice (some (Wy b o)) rows.length cap)
 |Wt (bd tag sz:Nat) (a:Addr) (cap:Nat) (ht:tag<=bd):RV w γ A bd (.WO tag sz []) (.slice (some a) 0 cap)
 | Xn (bd tag sz:Nat) (rows:List (List AV)) (i0 Wg b o:Nat) (cell:Nat->Nat->Value) (ht:tag<=bd)
   (hb:b<w.heap.size) (hm:¬Nc γ b) (ha:¬A tag b)
   (hr:∀(i:Nat) row,rows[i]?=some row->row.length=sz)
   (ho:∀(i j:Nat) row x,rows[i]?=some row->row[j]?=some x->x.one=true)
   (hw:∀(i j:Nat) row x,rows[i]?=some row->row[j]?=some x->w.cell? (Wy b (o+i*sz+j))=some (cell i j))
   (h:∀(i j:Nat) row x,rows[i]?=some row->row[j]?=some x->RV w γ A tag x (cell i j))
   (hcl:∀row∈rows,∀x∈row,Closed x) :
   RV w γ A bd (.Xn tag sz rows i0 Wg) (.pointer (some (Wy b (o+i0*sz+Wg))))
 | Xj (bd id ep off len:Nat) (lim:Option Nat) (b o cap:Nat) (hk:(γ id).kind=1) (he:ep<=(γ id).ep) (hc:len<=cap)
   (h:ep=(γ id).ep->b=(γ id).blk/\o=(γ id).base+off*(γ id).sz/\ni lim off cap (γ id)) :
   RV w γ A bd (.Xj id ep off len lim) (.slice (some (Wy b o)) len cap)
 | W9 (bd id ep i off:Nat) (b o:Nat) (hk:(γ id).kind=1) (he:ep<=(γ id).ep)
   (h:ep=(γ id).ep->b=(γ id).blk/\o=(γ id).base+i*(γ id).sz+off) :
   RV w γ A bd (.W9 id ep i off) (.pointer (some (Wy b o)))
 | W_ (bd f:Nat) (xs ys:List AV) (vs us:Array Value) (hl:xs.length=vs.size) (hl2:ys.length=us.size)
   (h:∀(i:Nat) x v,xs[i]?=some x->vs[i]?=some v->RV w γ A bd x v)
   (h2:∀(i:Nat) x v,ys[i]?=some x->us[i]?=some v->RV w γ A bd x v):RV w γ A bd (.W_ f xs ys) (.func (.func f) vs us)
 |hmap (bd id b:Nat) (hk:(γ id).kind=2) (hb:b=(γ id).blk):RV w γ A bd (.hmap id) (.map (some b))
 |V9 (bd t:Nat) (x:AV) (v:Value) (h:RV w γ A bd x v):RV w γ A bd (.V9 t x) (.iface t v)
 |VZ (bd id b:Nat) (hk:(γ id).kind=3) (hb:b=(γ id).blk):RV w γ A bd (.VZ id) (.func (.yield b) #[] #[])
def Wa(w:World)(γ:Gm)(A:Nat->Nat->Prop)(bd:Nat)(xs:List AV)(vs:List Value):Prop :=xs.length=vs.length/\∀(i:Nat) x v,xs[i]?=some x->vs[i]?=some v->RV w γ A bd x v
def RV.mono{γ:Gm}{A:Nat->Nat->Prop}{bd':Nat}(h:RV w γ A bd x v)(hb:bd<=bd') :
  RV w γ A bd' x v:=by
 induction h generalizing bd' with
 |bool=>exact .bool _ _
 |int=>exact .int _ _ _
 |str=>exact .str _ _
 |WM _ xs vs hl _ ih=>exact .WM _ _ _ hl λi x v h1 h2=>ih i x v h1 h2 hb
 |agg _ xs vs hl h1 _ ih=>exact .agg _ _ _ hl h1 λi x v h1 h2=>ih i x v h1 h2 hb
 |WQ=>exact .WQ _
 |XC=>exact .XC _
 |WT=>exact .WT _
 |V8=>exact .V8 _
 |WB=>exact .WB _
 |Wd=>exact .Wd _ _
 |WO _ tag sz rows b o cap cell ht hc hb' hm ha hr ho hw h hcl _=>exact .WO _ tag sz rows b o cap cell (Ya ht hb) hc hb' hm ha hr ho hw h hcl
 |Wt _ tag sz a cap ht=>exact .Wt _ tag sz a cap (Ya ht hb)
 |Xn _ tag sz rows i0 Wg b o cell ht hb' hm ha hr ho hw h hcl _=>exact .Xn _ tag sz rows i0 Wg b o cell (Ya ht hb) hb' hm ha hr ho hw h hcl
 |Xj _ id ep off len lim b o cap hk he hc h=>exact .Xj _ id ep off len lim b o cap hk he hc h
 |W9 _ id ep i off b o hk he h=>exact .W9 _ id ep i off b o hk he h
 |W_ _ f xs ys vs us hl hl2 _ _ ih ih2=>exact .W_ _ f xs ys vs us hl hl2 (λi x v h1 h2=>ih i x v h1 h2 hb) (λi x v h1 h2=>ih2 i x v h1 h2 hb)
 |hmap _ id b hk hb'=>exact .hmap _ id b hk hb'
 |V9 _ t x v _ ih=>exact .V9 _ t x v (ih hb)
 |VZ _ id b hk hb'=>exact .VZ _ id b hk hb'
structure Stp (w:World) (γ:Gm) (w':World) (γ':Gm):Prop where
 sz:w.heap.size<=w'.heap.size
 os:w'.os=w.os
 tape:w'.tape=w.tape
 output:w'.output=w.output
 fr:∀b,b<w.heap.size->¬Nc γ b->w'.heap[b]?=w.heap[b]?
 mt:∀b,b<w.heap.size->Nc γ' b->Nc γ b
 kind:∀id,(γ id).kind≠0->(γ' id).kind=(γ id).kind/\(γ' id).blk=(γ id).blk\/(γ id).kind=1/\(γ' id).kind=1/\(γ id).ep<(γ' id).ep
 ep:∀id,(γ id).kind=1->(γ id).ep<=(γ' id).ep /\
  ((γ' id).ep=(γ id).ep->(γ' id).sz=(γ id).sz/\(γ' id).n=(γ id).n/\(γ' id).blk=(γ id).blk/\(γ' id).base=(γ id).base/\(γ' id).WV=(γ id).WV)
 dr:w.drawn<=w'.drawn
def Stp.refl(w:World)(γ:Gm):Stp w γ w γ :=⟨XH _,rfl,rfl,rfl,λ_ _ _=>rfl,λ_ _ h=>h,λ_ _=>.inl ⟨rfl,rfl⟩,λ_ _=>⟨XH _,λ_=>⟨rfl,rfl,rfl,rfl,rfl⟩⟩,XH _⟩
def Stp.kind_eq{γ γ':Gm}(h:Stp w γ w' γ'){id:Nat}(hk:(γ id).kind≠0):(γ' id).kind=(γ id).kind:=by
 rcases h.kind id hk with h1|h1
 ·exact h1.1
 ·rw[h1.1,h1.2.1]
def Stp.blk_eq{γ γ':Gm}(h:Stp w γ w' γ'){id:Nat}(hk:(γ id).kind≠0)(h1:(γ id).kind≠1):(γ' id).blk=(γ id).blk:=by
 rcases h.kind id hk with h2|h2
 ·exact h2.2
 ·exact absurd h2.1 h1
def Stp.trans{w w' w'':World}{γ γ' γ'':Gm}(h:Stp w γ w' γ')(h':Stp w' γ' w'' γ''):Stp w γ w'' γ'' where
 sz:=Ya h.sz h'.sz
 os:=h'.os.trans h.os
 tape:=h'.tape.trans h.tape
 output:=h'.output.trans h.output
 fr b hb hm:=by rw[h'.fr b (XX hb h.sz) (λk=>hm (h.mt b hb k)),h.fr b hb hm]
 mt b hb k:=h.mt b hb (h'.mt b (XX hb h.sz) k)
 kind id hk:=by
  have h1:=h.kind_eq hk;have d:(γ' id).kind≠0:=by rw[h1];exact hk
  rcases h.kind id hk with a|a
  ·rcases h'.kind id d with c|c
   ·exact .inl ⟨c.1.trans a.1,c.2.trans a.2⟩
   ·refine .inr ⟨by rw[<-a.1];exact c.1,c.2.1,aaJ (h.ep id (by rw[<-a.1];exact c.1)).1 c.2.2⟩
  ·exact .inr ⟨a.1,by rw[h'.kind_eq d,a.2.1],XX a.2.2 (h'.ep id a.2.1).1⟩
 ep id hk:=by
  have h1:=h.ep id hk;have d:(γ' id).kind=1:=by rw[h.kind_eq (by rw[hk];decide),hk]
  have h2:=h'.ep id d;refine⟨Ya h1.1 h2.1,λhe=>?_⟩;have e1:(γ' id).ep=(γ id).ep:=aa7 (by rw[<-he];exact h2.1) h1.1;have e2:(γ'' id).ep=(γ' id).ep:=by rw[he,e1]
  let⟨a1,a2,e,a4,f⟩:=h1.2 e1;let⟨b1,b2,i,j,l⟩:=h2.2 e2;exact⟨b1.trans a1,b2.trans a2,i.trans e,j.trans a4,l.trans f⟩
 dr:=Ya h.dr h'.dr
def Ci{a:Addr}(h:w'.heap[a.block]?=w.heap[a.block]?):w'.cell? a=w.cell? a:=by simp only[World.cell?,h]
def Km{a:Addr}(h:w.cell? a=some v):a.block<w.heap.size:=by
 simp only[World.cell?]at h;rcases ZN a.block w.heap.size with hl|hl
 ·exact hl
 ·rw[ZI hl]at h;simp at h
def RV.step{γ γ':Gm}{A:Nat->Nat->Prop}(h:RV w γ A bd x v)(s:Stp w γ w' γ') :
  RV w' γ' A bd x v:=by
 induction h with
 |bool=>exact .bool _ _
 |int=>exact .int _ _ _
 |str=>exact .str _ _
 |WM _ xs vs hl _ ih=>exact .WM _ _ _ hl ih
 |agg _ xs vs hl h1 _ ih=>exact .agg _ _ _ hl h1 ih
 |WQ=>exact .WQ _
 |XC=>exact .XC _
 |WT=>exact .WT _
 |V8=>exact .V8 _
 |WB=>exact .WB _
 |Wd=>exact .Wd _ _
 | WO _ tag sz rows b o cap cell ht hc hb hm ha hr ho hw _ hcl ih =>refine .WO _ tag sz rows b o cap cell ht hc (XX hb s.sz) (λk=>hm (s.mt b hb k)) ha hr ho (λi j row x h1 h2=>?_) ih hcl;rw[Ci (s.fr b hb hm)];exact hw i j row x h1 h2
 |Wt _ tag sz a cap ht=>exact .Wt _ tag sz a cap ht
 | Xn _ tag sz rows i0 Wg b o cell ht hb hm ha hr ho hw _ hcl ih =>refine .Xn _ tag sz rows i0 Wg b o cell ht (XX hb s.sz) (λk=>hm (s.mt b hb k)) ha hr ho (λi j row x h1 h2=>?_) ih hcl;rw[Ci (s.fr b hb hm)];exact hw i j row x h1 h2
 | Xj _ id ep off len lim b o cap hk he hc h =>have e:=s.ep id hk;refine .Xj _ id ep off len lim b o cap (by rw[s.kind_eq (by rw[hk];decide),hk]) (Ya he e.1) hc λh'=>?_;have e1:(γ' id).ep=(γ id).ep:=aa7 (by rw[<-h'];exact he) e.1;let⟨a1,a2,c,a4,l⟩:=e.2 e1;let⟨c1,d,m⟩:=h (h'.trans e1);refine⟨by rw[c];exact c1,by rw[a1,a4];exact d,?_⟩;unfold ni at *;cases lim<;>simp only[a2,l]at *<;>exact m
 | W9 _ id ep i off b o hk he h =>have e:=s.ep id hk;refine .W9 _ id ep i off b o (by rw[s.kind_eq (by rw[hk];decide),hk]) (Ya he e.1) λh'=>?_;have e1:(γ' id).ep=(γ id).ep:=aa7 (by rw[<-h'];exact he) e.1;let⟨a1,a2,c,a4,l⟩:=e.2 e1;let⟨c1,d⟩:=h (h'.trans e1);exact⟨by rw[c];exact c1,by rw[a1,a4];exact d⟩
 |W_ _ f xs ys vs us hl hl2 _ _ ih ih2=>exact .W_ _ f xs ys vs us hl hl2 ih ih2
 | hmap _ id b hk hb =>exact .hmap _ id b (by rw[s.kind_eq (by rw[hk];decide),hk]) (by rw[s.blk_eq (by rw[hk];decide) (by rw[hk];decide)];exact hb)
 |V9 _ t x v _ ih=>exact .V9 _ t x v ih
 | VZ _ id b hk hb =>exact .VZ _ id b (by rw[s.kind_eq (by rw[hk];decide),hk]) (by rw[s.blk_eq (by rw[hk];decide) (by rw[hk];decide)];exact hb)
def RV.heap{γ:Gm}{A:Nat->Nat->Prop}(h:RV w γ A bd x v)(hh:w'.heap=w.heap):RV w' γ A bd x v:=by
 have hc:∀a,w'.cell? a=w.cell? a:=λa=>Ci (by rw[hh])
 induction h with
 |bool=>exact .bool _ _
 |int=>exact .int _ _ _
 |str=>exact .str _ _
 |WM _ xs vs hl _ ih=>exact .WM _ _ _ hl ih
 |agg _ xs vs hl h1 _ ih=>exact .agg _ _ _ hl h1 ih
 |WQ=>exact .WQ _
 |XC=>exact .XC _
 |WT=>exact .WT _
 |V8=>exact .V8 _
 |WB=>exact .WB _
 |Wd=>exact .Wd _ _
 |WO _ tag sz rows b o cap cell ht hc' hb hm ha hr ho hw _ hcl ih=>exact .WO _ tag sz rows b o cap cell ht hc' (by rw[hh];exact hb) hm ha hr ho (λi j row x h1 h2=>by rw[hc];exact hw i j row x h1 h2) ih hcl
 |Wt _ tag sz a cap ht=>exact .Wt _ tag sz a cap ht
 |Xn _ tag sz rows i0 Wg b o cell ht hb hm ha hr ho hw _ hcl ih=>exact .Xn _ tag sz rows i0 Wg b o cell ht (by rw[hh];exact hb) hm ha hr ho (λi j row x h1 h2=>by rw[hc];exact hw i j row x h1 h2) ih hcl
 |Xj _ id ep off len lim b o cap hk he hc' h=>exact .Xj _ id ep off len lim b o cap hk he hc' h
 |W9 _ id ep i off b o hk he h=>exact .W9 _ id ep i off b o hk he h
 |W_ _ f xs ys vs us hl hl2 _ _ ih ih2=>exact .W_ _ f xs ys vs us hl hl2 ih ih2
 |hmap _ id b hk hb=>exact .hmap _ id b hk hb
 |V9 _ t x v _ ih=>exact .V9 _ t x v ih
 |VZ _ id b hk hb=>exact .VZ _ id b hk hb
def Wa.step{w w':World}{γ γ':Gm}{A:Nat->Nat->Prop}{bd:Nat}{xs:List AV}{vs:List Value}(h:Wa w γ A bd xs vs)(s:Stp w γ w' γ') :
  Wa w' γ' A bd xs vs:=⟨h.1,λi x v h1 h2=>(h.2 i x v h1 h2).step s⟩
def WC(w:World)(γ:Gm)(A:Nat->Nat->Prop)(bd:Nat)(id:Nat):Xh->Prop
 |.none=>(γ id).kind=0
 | .cells sz rows ep loose fz=>(γ id).kind=1/\(γ id).ep=ep/\(γ id).sz=sz/\(γ id).n=rows.length/\((loose=false->(γ id).WV=0)/\(loose=true->rows.length+(γ id).WV<=9223372036854775807))/\(γ id).wr = !fz /\
   ∃(c:Array Value) (elem:TypeId),w.heap[(γ id).blk]?=some (.cells c elem (0,0))/\(γ id).base+(rows.length+(γ id).WV)*sz<=c.size /\
    (∀(i:Nat) row,rows[i]?=some row->row.length=sz) /\
    (∀(i j:Nat) row x,rows[i]?=some row->row[j]?=some x->x.one=true/\∃v,c[(γ id).base+i*sz+j]?=some v/\RV w γ A bd x v)
 | .map es=>(γ id).kind=2/\(γ id).wr=true /\
   ∃esC:Array MapEntry,w.heap[(γ id).blk]?=some (.map esC esC.size)/\es.length=esC.size /\
    (∀(i:Nat) k x e,es[i]?=some (k,x)->esC[i]?=some e->e.born=i/\RV w γ A bd k e.key/\RV w γ A bd x e.val)
 | .loop nt t ps assign body Xi st pend=>(γ id).kind=3/\(γ id).wr=true /\
   ∃L:Loop,w.heap[(γ id).blk]?=some (.loop L)/\L.state=st/\L.pending=pend/\L.params.toList=ps/\L.assign=assign/\L.body=body/\L.tmps.size=nt /\
    (∀i,RV w γ A bd (t.get AV.undef i) (L.tmps.getD i undef))/\(γ Xi).kind=4/\L.defers=(γ Xi).blk
 |.Xi live=>(γ id).kind=4/\(γ id).wr=true/\w.heap[(γ id).blk]?=some (.deferred (if live then some [] else none))
structure W4 (C:Xg) (A:Nat->Nat->Prop) (bd:Nat) (w:World) (γ:Gm) (hg:Nat->Xh) (nx:Nat):Prop where
 obj:∀id,WC w γ A bd id (hg id)
 lt:∀id,(γ id).kind≠0->id<nx/\(γ id).blk<w.heap.size
 inj:∀i j,(γ i).kind≠0->(γ j).kind≠0->(γ i).blk=(γ j).blk->i=j
 av:∀id,(γ id).kind≠0->∀t,¬A t (γ id).blk
 ab:∀t b,A t b->b<w.heap.size
 V_:∀g sz rows,C.V_ g=some (sz,rows)->RV w γ A bd (.Xn 0 sz rows 0 0) (.pointer (some ⟨g,0,none⟩))
end
section
variable {γ:Gm}
section
variable {P:Program}{w:World}
def jL(b o n:Nat):(Wy b o).add n=Wy b (o+n):=by
 unfold Addr.add Wy;split
 ·rename_i h;subst h;rfl
 ·rfl
def py{i:TypeInfo}(h:P.info? t=some i):(typeInfo t).run P w=.ok i w:=by simp[typeInfo,h]
def bH(h:Wx P t=some n):(Go.sizeOf t).run P w=.ok n w:=by
 unfold Wx at h;cases hi:P.info? t with
 |none=>rw[hi]at h;cases h
 |some i=>rw[hi]at h;simp at h;simp[Go.sizeOf,py hi,h]
def aN{d:TypeDesc}(h:P.underlying t=some d):(underlying t).run P w=.ok d w:=by simp[underlying,h]
def nL{b:Bool}(h:vy P t=some b):(isAgg t).run P w=.ok b w:=by
 unfold vy at h;cases hd:P.underlying t with
 |none=>rw[hd]at h;cases h
 |some d=>rw[hd]at h;cases d<;>simp at h<;>subst h<;>simp[isAgg,aN hd]
def zQ{o:Nat}:∀(n i:Nat) (acc:Array Value) (cs:List Value),cs.length=n ->
  (∀(j:Nat) c,cs[j]?=some c->w.cell? (Wy b (o+(i+j)))=some c) ->
  (loadCellsFrom (Wy b o) i n acc).run P w=.ok (acc++cs.toArray) w:=by
 intro n
 induction n with
 |zero=>intro i acc cs hl _;have:cs=[]:=YK hl;subst this;simp[loadCellsFrom]
 | succ n ih =>
  intro i acc cs hl h;cases cs with
  |nil=>cases hl
  | cons c cs =>
   have h0:=h 0 c rfl;simp only[Zf]at h0;simp only[loadCellsFrom,Yb,run_load,jL,h0,XT];rw[ih (i+1) (acc.push c) cs (by simpa using hl) (λj x hj=>by have:=h (j+1) x (by simpa using hj);rw[show i+1+j=i+(j+1) from by omega];exact this)]
   simp
def x9{o:Nat}{cs:List Value}(h:∀(j:Nat) c,cs[j]?=some c->w.cell? (Wy b (o+j))=some c) :
  (loadCells (Wy b o) cs.length).run P w=.ok cs.toArray w:=by
 unfold loadCells;rw[zQ cs.length 0 #[] cs rfl (λj c hj=>by simpa using h j c hj)];simp
def World.setBlk(w:World)(b:Nat)(o:Obj):World:={ w with heap:=w.heap.setIfInBounds b o }
def bU(c:Array Value)(o:Nat):List Value->Array Value
 |[]=>c
 |v::vs=>bU (c.setIfInBounds o v) (o+1) vs
def ja(vs:List Value):∀(c:Array Value) (o:Nat),(bU c o vs).size=c.size:=by
 induction vs with
 |nil=>intro c o;rfl
 |cons v vs ih=>intro c o;simp[bU,ih]
def kJ(vs:List Value):∀(c:Array Value) (o k:Nat),o+vs.length<=c.size ->
  (bU c o vs)[k]?=if o<=k/\k<o+vs.length then vs[k - o]? else c[k]?:=by
 induction vs with
 |nil=>intro c o k _;simp[bU];intro h1 h2;omega
 | cons v vs ih =>
  intro c o k h;simp only[Yp]at h;simp only[bU];rw[ih _ _ _ (by simp;omega)];simp only[Yp]
  by_cases h1:k=o
  ·subst h1;rw[aJ,XO ⟨XH _,by omega⟩];simp[ZZ];omega
  ·by_cases h2:o<=k/\k<o+(vs.length+1)
   ·rw[dk,XO h2,show k - o=(k - (o+1))+1 from by omega];rfl
   ·rw[aJ,XS h2,Zr (by omega)]
def eF(b:Nat)(o:Obj)(k:Nat):(World.setBlk w b o).heap[k]?=if k=b/\b<w.heap.size then some o else w.heap[k]?:=by
 simp only[World.setBlk,ZZ]
 by_cases h:b=k
 ·subst h;simp;split
  ·rfl
  ·rename_i a;rw[ZI (by omega)]
 ·rw[XS h,aJ]
def Fl(b:Nat)(o o':Obj):World.setBlk (World.setBlk w b o) b o'=World.setBlk w b o':=by simp only[World.setBlk,Array.setIfInBounds_setIfInBounds]
@[simp] theorem Q3 (b:Nat) (o:Obj):(World.setBlk w b o).heap.size=w.heap.size:=by simp[World.setBlk]
def KS{o:Nat}{f:Nat×Nat}(h:w.heap[b]?=some (.cells c e f)) :
  w.setCell (Wy b o) v=World.setBlk w b (.cells (c.setIfInBounds o v) e f):=by
 have hb:b<w.heap.size:=by
  rcases ZN b w.heap.size with hl|hl
  ·exact hl
  ·rw[ZI hl]at h;cases h
 have hx:w.heap[b]=.cells c e f:=by simpa [Yn hb] using h
 simp only[World.setCell,World.setBlk,Wy];congr 1;apply abJ;intro k;rw[Array.getElem?_modify,ZZ]
 by_cases hk:b=k
 ·subst hk;simp[hb,hx]
 ·rw[XS hk,XS hk]
def HY{o:Nat}{f:Nat×Nat}(h:w.heap[b]?=some (.cells c e f)):w.cell? (Wy b o)=c[o]?:=by simp[World.cell?,Wy,h]
def xa{o:Nat}:∀(vs:List Value) (i:Nat) (w:World) (c:Array Value),w.heap[b]?=some (.cells c e (0,0)) ->
  o+i+vs.length<=c.size->(∀v∈vs,v.oneCell'=true) ->
  (storeCells (Wy b o) vs i).run P w=.ok () (World.setBlk w b (.cells (bU c (o+i) vs) e (0,0))):=by
 intro vs
 induction vs with
 | nil =>
  intro i w c h _ _;have hb:b<w.heap.size:=by
   rcases ZN b w.heap.size with hl|hl
   ·exact hl
   ·rw[ZI hl]at h;cases h
  have:World.setBlk w b (.cells c e (0,0))=w:=by
   have hx:w.heap[b]=.cells c e (0,0):=by simpa [Yn hb] using h
   simp only[World.setBlk];congr 1;apply abJ;intro k;rw[ZZ]
   split
   ·rename_i hk;subst hk;simp[hb,hx]
   ·rfl
  simp[storeCells,bU,this]
 | cons v vs ih =>
  intro i w c h hs h1;simp only[Yp]at hs;have hv:v.oneCell'=true:=h1 v (by simp);have a:w.cell? (Wy b (o+i))=c[o+i]?:=HY h;have f:o+i<c.size:=by omega
  have d:w.frozen? (Wy b (o+i))=false:=by simp[World.frozen?,Wy,h]
  simp only[storeCells,Yb,jL,run_store P w _ v _ hv,a,Yn f,d];simp only[ZR,if_false,XT,KS h];have hb:b<w.heap.size:=by
   rcases ZN b w.heap.size with hl|hl
   ·exact hl
   ·rw[ZI hl]at h;cases h
  rw[ih (i+1) _ (c.setIfInBounds (o+i) v) (by rw[eF];simp[hb]) (by simp;omega) (λx hx=>h1 x (by simp[hx])),Fl]
  rfl
end
def Qm{w:World}{A:Nat->Nat->Prop}{x:AV}(h:RV w γ A bd x v)(h1:x.one=true) :
  v.oneCell'=true/\v.cells=#[v]:=by
 cases h<;>first| (cases h1;done)|exact⟨rfl,rfl⟩
def zx{w:World}{A:Nat->Nat->Prop}{x:AV}(h:RV w γ A bd x v)(ht:x.isTup=false) :
  Wa w γ A bd x.cells v.cells.toList/\(∀(i:Nat) y,x.cells[i]?=some y->y.one=true):=by
 by_cases h1:x.one=true
 ·have hx:x.cells=[x]:=by cases x<;>first|rfl|cases h1
  let⟨_,h3⟩:=Qm h h1;rw[hx,h3];refine⟨⟨rfl,λi y u hy hu=>?_⟩,λi y hy=>?_⟩
  ·cases i with
   |zero=>simp at hy hu;subst hy;subst hu;exact h
   |succ i=>simp at hy
  ·cases i with
   |zero=>simp at hy;subst hy;exact h1
   |succ i=>simp at hy
 ·cases h<;>first| (exact absurd rfl h1)| (cases ht;done)|skip
  rename_i xs vs hl k h';exact⟨⟨by simpa [AV.cells,Value.cells] using hl,λi y u hy hu=>h' i y u hy (by simpa [Value.cells] using hu)⟩,k⟩
def Mu{w:World}{A:Nat->Nat->Prop}{xs:List AV}{vs:List Value}(h:Wa w γ A bd xs vs)
  (h1:∀(i:Nat) y,xs[i]?=some y->y.one=true):∀v∈vs,v.oneCell'=true:=by
 intro v hv;let⟨i,hi⟩:=Yd hv;have hlt:i<xs.length:=by rw[h.1];exact (XI.1 hi).1
 exact (Qm (h.2 i _ v (XJ hlt) hi) (h1 i _ (XJ hlt))).1
end
def upd{α:Type}(f:Nat->α)(i:Nat)(x:α):Nat->α:=λk=>if k=i then x else f k
@[simp] theorem upd_same {α:Type} (f:Nat->α) (i:Nat) (x:α):upd f i x i=x:=by simp[upd]
def dD{α:Type}(f:Nat->α){k:Nat}(x:α)(h:k≠i):upd f i x k=f k:=by simp[upd,h]
section
variable {C:Xg}{A:Nat->Nat->Prop}{bd:Nat}{w w':World}{γ γ':Gm}{hg:Nat->Xh}{nx nx':Nat}
def WC.step{j:Nat}{o:Xh}(h:WC w γ A bd j o)(s:Stp w γ w' γ')(hj:γ' j=γ j)
  (hb:(γ j).kind≠0->o≠.none->w'.heap[(γ j).blk]?=w.heap[(γ j).blk]?):WC w' γ' A bd j o:=by
 cases o with
 |none=>simpa only[WC,hj] using h
 | cells sz rows ep loose fz =>
  let⟨h1,h2,h3,h4,h5,h6,c,e,h7,h8,h9,Xp⟩:=h;simp only[WC,hj];refine⟨h1,h2,h3,h4,h5,h6,c,e,?_,h8,h9,λi j' row x hr hx=>?_⟩
  ·rw[hb (by rw[h1];decide) (by simp)];exact h7
  ·let⟨a,v,b1,b2⟩:=Xp i j' row x hr hx;exact⟨a,v,b1,b2.step s⟩
 | map es =>let⟨h1,h2,esC,h3,h4,h5⟩:=h;simp only[WC,hj];refine⟨h1,h2,esC,by rw[hb (by rw[h1];decide) (by simp)];exact h3,h4,λi k x e a b=>?_⟩;let⟨c1,l,m⟩:=h5 i k x e a b;exact⟨c1,l.step s,m.step s⟩
 | loop nt t ps assign body Xi st pend =>
  let⟨h1,h2,L,h3,h4,h5,h6,h7,h8,h9,Xp,d,f⟩:=h;simp only[WC,hj];have hd:(γ Xi).kind≠0:=by rw[d];decide
  refine⟨h1,h2,L,by rw[hb (by rw[h1];decide) (by simp)];exact h3,h4,h5,h6,h7,h8,h9,λi=>(Xp i).step s,by rw[s.kind_eq hd,d],?_⟩;rw[f,s.blk_eq hd (by rw[d];decide)]
 | Xi live =>let⟨h1,h2,h3⟩:=h;simp only[WC,hj];exact⟨h1,h2,by rw[hb (by rw[h1];decide) (by simp)];exact h3⟩
def W4.set(h:W4 C A bd w γ hg nx){id:Nat}{gh:Gh}{o:Xh}(hγ:γ'=upd γ id gh)(s:Stp w γ w' γ')(hn:nx<=nx')
  (ho:WC w' γ' A bd id o) (hlt:id<nx'/\gh.blk<w'.heap.size) (hinj:∀j,j≠id->(γ j).kind≠0->(γ j).blk≠gh.blk)
  (hav:∀t,¬A t gh.blk)
  (hoth:∀j,j≠id->(γ j).kind≠0->hg j≠.none->w'.heap[(γ j).blk]?=w.heap[(γ j).blk]?) :
  W4 C A bd w' γ' (upd hg id o) nx':=by
 subst hγ;constructor
 ·intro j
  by_cases k:j=id
  ·subst k;simpa using ho
  ·rw[dD _ _ k];exact (h.obj j).step s (dD _ _ k) (hoth j k)
 ·intro j hk
  by_cases k:j=id
  ·subst k;simpa using hlt
  ·rw[dD _ _ k]at hk ⊢;exact⟨XX (h.lt j hk).1 hn,XX (h.lt j hk).2 s.sz⟩
 ·intro i j hi k e
  by_cases h1:i=id<;>by_cases h2:j=id
  ·rw[h1,h2]
  ·subst h1;rw[dD _ _ h2]at k e;simp only[upd_same]at e;exact absurd e.symm (hinj j h2 k)
  ·subst h2;rw[dD _ _ h1]at hi e;simp only[upd_same]at e;exact absurd e (hinj i h1 hi)
  ·rw[dD _ _ h1]at hi e;rw[dD _ _ h2]at k e;exact h.inj i j hi k e
 ·intro j hk
  by_cases k:j=id
  ·subst k;simpa using hav
  ·rw[dD _ _ k]at hk ⊢;exact h.av j hk
 ·intro t b hb;exact XX (h.ab t b hb) s.sz
 ·intro g sz rows hg';exact (h.V_ g sz rows hg').step s
def W4.up(h:W4 C A bd w γ hg nx)(hn:nx<=nx'):W4 C A bd w γ hg nx' :=⟨h.obj,λid hk=>⟨XX (h.lt id hk).1 hn,(h.lt id hk).2⟩,h.inj,h.av,h.ab,h.V_⟩
def Bg{id:Nat}{o:Obj}(hk:(γ id).kind≠0)(hw:(γ id).wr=true):Stp w γ (World.setBlk w (γ id).blk o) γ where
 sz:=by simp
 os:=rfl
 tape:=rfl
 output:=rfl
 fr b hb hm:=by rw[eF,XS];rintro⟨h,_⟩;exact hm ⟨id,hk,hw,h.symm⟩
 mt b _ h:=h
 kind _ _:=.inl ⟨rfl,rfl⟩
 ep _ _:=⟨XH _,λ_=>⟨rfl,rfl,rfl,rfl,rfl⟩⟩
 dr:=XH _
theorem W4.setBlk(h:W4 C A bd w γ hg nx){id:Nat}{o:Obj}{ao:Xh}(hk:(γ id).kind≠0)(hw:(γ id).wr=true)
  (ho:WC (World.setBlk w (γ id).blk o) γ A bd id ao) :
  W4 C A bd (World.setBlk w (γ id).blk o) γ (upd hg id ao) nx/\Stp w γ (World.setBlk w (γ id).blk o) γ:=by
 have s:=Bg (w:=w) (o:=o) hk hw;refine⟨?_,s⟩;have e:γ=upd γ id (γ id):=by funext k;unfold upd;split<;>simp_all
 refine h.set (gh:=γ id) e s (XH _) ho ?_ ?_ ?_ ?_
 ·have:=h.lt id hk;exact⟨this.1,by simpa using this.2⟩
 ·intro j b a eb;exact b (h.inj j id a hk eb)
 ·exact h.av id hk
 ·intro j b a _;rw[eF,XS];rintro⟨eb,_⟩;exact b (h.inj j id a hk eb)
def World.add(w:World)(o:Obj):World:={ w with heap:=w.heap.push o }
@[simp] theorem M3 (o:Obj):(World.add w o).heap.size=w.heap.size+1:=by simp[World.add]
def me(o:Obj)(b:Nat):(World.add w o).heap[b]?=if b=w.heap.size then some o else w.heap[b]?:=by simp only[World.add,Array.getElem?_push]
def Hu{id:Nat}{gh:Gh}{o:Obj}(hid:(γ id).kind=0)(hb:gh.blk=w.heap.size):Stp w γ (World.add w o) (upd γ id gh) where
 sz:=by simp
 os:=rfl
 tape:=rfl
 output:=rfl
 fr b hb' _:=by rw[me,aJ]
 mt b hb':=by
  rintro⟨j,h1,h2,h3⟩
  by_cases hj:j=id
  ·subst hj;simp only[upd_same]at h3;omega
  ·rw[dD _ _ hj]at h1 h2 h3;exact⟨j,h1,h2,h3⟩
 kind j hj:=by
  have:j≠id:=by rintro rfl;exact hj hid
  rw[dD _ _ this];exact .inl ⟨rfl,rfl⟩
 ep j hj:=by
  have:j≠id:=by rintro rfl;rw[hid]at hj;cases hj
  rw[dD _ _ this];exact⟨XH _,λ_=>⟨rfl,rfl,rfl,rfl,rfl⟩⟩
 dr:=XH _
theorem W4.add(h:W4 C A bd w γ hg nx){id:Nat}{gh:Gh}{o:Obj}{ao:Xh}(hid:(γ id).kind=0)(hb:gh.blk=w.heap.size)
  (hn:nx<=nx') (hi:id<nx') (ho:WC (World.add w o) (upd γ id gh) A bd id ao) :
  W4 C A bd (World.add w o) (upd γ id gh) (upd hg id ao) nx'/\Stp w γ (World.add w o) (upd γ id gh):=by
 have s:=Hu (w:=w) (o:=o) hid hb;refine⟨h.set (gh:=gh) rfl s hn ho ⟨hi,by simp[hb]⟩ ?_ ?_ ?_,s⟩
 ·intro j _ k e;have:=(h.lt j k).2;omega
 ·intro t ht;have:=h.ab t _ ht;omega
 ·intro j _ k _;have:=(h.lt j k).2;rw[me,aJ]
end
section
variable {C:Xg}{A:Nat->Nat->Prop}{bd:Nat}{w:World}{γ:Gm}{hg:Nat->Xh}{nx nx':Nat}
theorem W4.newCells(h:W4 C A bd w γ hg nx){id sz WV:Nat}{rows:List (List AV)}(e:TypeId)
  (hid:(γ id).kind=0) (hn:nx<=nx') (hi:id<nx') (hs:(loose=false->WV=0)/\(loose=true->rows.length+WV<=9223372036854775807)) (hc:(rows.length+WV)*sz<=c.size)
  (hr:∀(i:Nat) row,rows[i]?=some row->row.length=sz)
  (hv:∀(i j:Nat) row x,rows[i]?=some row->row[j]?=some x->x.one=true/\∃v,c[i*sz+j]?=some v/\RV w γ A bd x v) :
  ∃γ',W4 C A bd (World.add w (.cells c e (0,0))) γ' (upd hg id (.cells sz rows 0 loose false)) nx'/\Stp w γ (World.add w (.cells c e (0,0))) γ' /\
   (γ' id).kind=1/\(γ' id).ep=0/\(γ' id).sz=sz/\(γ' id).n=rows.length/\(γ' id).blk=w.heap.size/\(γ' id).base=0/\(γ' id).WV=WV:=by
 let gh:Gh:=⟨1,0,sz,rows.length,w.heap.size,0,WV,true⟩
 have s:=Hu (w:=w) (o:=.cells c e (0,0)) (gh:=gh) hid rfl;obtain⟨r,s'⟩:=h.add (id:=id) (gh:=gh) (o:=.cells c e (0,0)) (ao:=.cells sz rows 0 loose false) hid rfl hn hi (by simp only[WC,upd_same];refine⟨rfl,rfl,rfl,rfl,hs,rfl,c,e,by rw[me];simp[gh],by simpa [gh] using hc,hr,λi j row x h1 h2=>?_⟩;obtain⟨a,v,b1,b2⟩:=hv i j row x h1 h2;exact⟨a,v,by simpa [gh] using b1,b2.step s⟩)
 exact⟨_,r,s',by simp[gh],by simp[gh],by simp[gh],by simp[gh],by simp[gh],by simp[gh],by simp[gh]⟩
def W4.storeCells(h:W4 C A bd w γ hg nx){id sz ep:Nat}{rows rows':List (List AV)}{loose:Bool}
  (hid:hg id=.cells sz rows ep loose false) {o:Nat} {vs:List Value} {xs:List AV}
  (hvs:Wa w γ A bd xs vs) (h1:∀(i:Nat) y,xs[i]?=some y->y.one=true)
  (hlen:rows'.length=rows.length) (hr':∀(i:Nat) row,rows'[i]?=some row->row.length=sz)
  (hin:(γ id).base<=o/\o+vs.length<=(γ id).base+rows.length*sz)
  (hcells:∀(i j:Nat) row x,rows'[i]?=some row->row[j]?=some x ->
   (if o<=(γ id).base+i*sz+j/\(γ id).base+i*sz+j<o+vs.length then xs[(γ id).base+i*sz+j - o]?=some x
    else ∃WA,rows[i]?=some WA/\WA[j]?=some x)) (P:Program) :
  ∃w',(Go.storeCells (Wy (γ id).blk o) vs).run P w=.ok () w' /\
   W4 C A bd w' γ (upd hg id (.cells sz rows' ep loose false)) nx/\Stp w γ w' γ:=by
 have f:=h.obj id;rw[hid]at f;obtain⟨n,k2,q,t,u,z,c,e,B,D,E,m⟩:=f;have l:o+vs.length<=c.size:=by have:rows.length*sz<=(rows.length+(γ id).WV)*sz:=Ye _ (by omega);omega
 have d:=xa (P:=P) vs 0 w c B (by simpa using l) (Mu hvs h1);simp only[Zf]at d;have hk:(γ id).kind≠0:=by rw[n];decide
 have hw:(γ id).wr=true:=by simpa using z
 have s:=Bg (w:=w) (o:=.cells (bU c o vs) e (0,0)) hk hw;obtain⟨r,s'⟩:=h.setBlk (id:=id) (o:=.cells (bU c o vs) e (0,0)) (ao:=.cells sz rows' ep loose false) hk hw (by
  refine⟨n,k2,q,by rw[t,hlen],by rw[hlen];exact u,by simpa using hw,bU c o vs,e,?_,by rw[ja,hlen];exact D,hr',λi j row x a b=>?_⟩
  ·rw[eF];simp[(h.lt id hk).2]
  ·have hc:=hcells i j row x a b;rw[kJ _ _ _ _ l]
   split at hc
   ·rename_i k;rw[XO k];have hlt:(γ id).base+i*sz+j - o<vs.length:=by omega
    refine⟨h1 _ _ hc,vs[(γ id).base+i*sz+j - o],XJ hlt,?_⟩;exact (hvs.2 _ _ _ hc (XJ hlt)).step s
   ·rename_i k;rw[XS k];obtain⟨WA,c1,p⟩:=hc;obtain⟨d1,v,d2,d3⟩:=m i j WA x c1 p;exact⟨d1,v,d2,d3.step s⟩)
 exact⟨_,d,r,s'⟩
end
def TR(w:World)(γ:Gm)(A:Nat->Nat->Prop)(bd:Nat)(nt:Nat)(t:T)(tmps:Array Value):Prop :=tmps.size=nt/\∀i,RV w γ A bd (t.get AV.undef i) (tmps.getD i undef)
def HF(P:Program)(o:Oper)(ev:Operand->Value)(w:World)(v:Value)(w':World):Prop :=(execOp ev o).run P w=.ok (.value v) w'\/((execOp ev o).run P w=.ok .skip w'/\v=undef)
def NK(C:Xg)(A:Nat->Nat->Prop)(bd:Nat)(w:World)(γ:Gm)(hg:Nat->Xh)(nx:Nat)(o:Oper)(ev:Operand->Value)(g:G):OR->Prop
 |.fail=>True
 |.val x=>∃v,HF C.P o ev w v w/\RV w γ A bd x v
 | .upd x g'=>∃v w' γ' id ob,HF C.P o ev w v w'/\RV w' γ' A bd x v/\Stp w γ w' γ' /\
   ((g'=g.put id ob/\W4 C A bd w' γ' (upd hg id ob) nx)\/(g'=g.new ob/\id=g.nx/\W4 C A bd w' γ' (upd hg id ob) (Nat.max nx (g.nx+1))))
 |.Xi _=>False
section
variable {C:Xg}{A:Nat->Nat->Prop}{bd:Nat}{w:World}{γ:Gm}{hg:Nat->Xh}{nx:Nat}
def Qk{a:AV}(h:ofV v=some a):RV w γ A bd a v/\a.one=true:=by
 unfold ofV at h
 split at h<;>first| (cases h;done)| (cases h;exact⟨by constructor,rfl⟩)
def xA:∀{vs:List Value} {as:List AV},D_ vs=some as->Wa w γ A bd as vs/\∀(i:Nat) y,as[i]?=some y->y.one=true:=by
 intro vs
 induction vs with
 |nil=>intro as h;simp[D_]at h;subst h;exact⟨⟨rfl,λi x v h=>by simp at h⟩,λi y h=>by simp at h⟩
 | cons v vs ih =>
  intro as h;simp only[D_]at h
  split at h
  ·rename_i a as' h1 h2;injection h with h;subst h;obtain⟨p,q⟩:=Qk (w:=w) (γ:=γ) (A:=A) (bd:=bd) h1;let⟨r,s⟩:=ih h2;refine⟨⟨by simp[r.1],λi x u hx hu=>?_⟩,λi y hy=>?_⟩
   ·cases i with
    |zero=>simp at hx hu;subst hx;subst hu;exact p
    |succ i=>exact r.2 i x u (by simpa using hx) (by simpa using hu)
   ·cases i with
    |zero=>simp at hy;subst hy;exact q
    |succ i=>exact s i y (by simpa using hy)
  ·cases h
def aA{x:Operand}{s:Wv (T->AV)}{nt:Nat}{t:T}{a:Act}(h:aW C x=some s)(ht:TR w γ A bd nt t a.tmps)(hr:W4 C A bd w γ hg nx) :
  RV w γ A bd (s.run t) (a.eval x):=by
 cases x with
 |tmp n=>simp[aW]at h;subst h;rw[Wz];exact ht.2 n
 | const v =>
  simp only[aW]at h
  split at h
  ·rename_i a' h1;cases h;exact (Qk h1).1
  ·cases h
 | global g =>
  simp only[aW]at h
  split at h
  ·rename_i sz rows h1;cases h;exact hr.V_ g sz rows h1
  ·cases h
 | func f =>simp[aW]at h;subst h;exact .W_ _ f [] [] #[] #[] rfl rfl (λi x v h=>by simp at h) (λi x v h=>by simp at h)
def i_{nt:Nat}{t:T}{a:Act}(ht:TR w γ A bd nt t a.tmps)(hr:W4 C A bd w γ hg nx):∀{xs:List Operand} {s:Wv (T->List AV)},
  cp C xs=some s->Wa w γ A bd (s.run t) (xs.map a.eval):=by
 intro xs
 induction xs with
 |nil=>intro s h;simp[cp]at h;subst h;exact⟨rfl,λi x v h=>by simp at h⟩
 | cons x xs ih =>
  intro s h;simp only[cp]at h
  split at h
  ·rename_i a' as' h1 h2;cases h;have p:=aA h1 ht hr;have q:=ih h2;refine⟨by simp[q.1],λi y u hy hu=>?_⟩;cases i with
   |zero=>simp at hy hu;subst hy;subst hu;exact p
   |succ i=>exact q.2 i y u (by simpa using hy) (by simpa using hu)
  ·cases h
def xZ{row:List AV}{o:Nat}{x:AV}{bd':Nat}(hb:bd'<=bd)
  (hcell:∀(j:Nat) y,row[j]?=some y->y.one=true/\∃v,w.cell? (Wy b (o+j))=some v/\RV w γ A bd' y v)
  (hag:vy C.P ty=some ag) (hn:Wx C.P ty=some n) (h:cD ag n row off=some x) :
  ∃v,(loadVar ty (Wy b (o+off))).run C.P w=.ok v w/\RV w γ A bd x v:=by
 unfold cD at h;cases ag with
 | false =>simp only[gy]at h;let⟨_,v,h1,h2⟩:=hcell off x h;exact⟨v,by simp[loadVar,nL hag,h1],h2.mono hb⟩
 | true =>
  simp only[bI,bK,ay,aa]at h
  split at h
  ·rename_i hl;rw[ab0]at hl;cases h;have l:∀j:Fin n,∃v,w.cell? (Wy b (o+off+j))=some v/\∃y,(List.take n (List.drop off row))[j.1]?=some y/\y.one=true/\RV w γ A bd' y v:=by
    intro j;have m:j.1<(List.take n (List.drop off row)).length:=by rw[hl];exact j.2
    have e:(List.take n (List.drop off row))[j.1]?=row[off+j.1]?:=by rw[Yv j.2,YH]
    have d:=XJ m;obtain⟨c1,v,p,q⟩:=hcell (off+j.1) _ (e ▸ d);exact⟨v,by rw[Qc];exact p,_,d,c1,q⟩
   let f:Fin n->Value:=λj=>Classical.choose (l j)
   have hf:∀j:Fin n,w.cell? (Wy b (o+off+j))=some (f j)/\∃y,(List.take n (List.drop off row))[j.1]?=some y/\y.one=true/\RV w γ A bd' y (f j) :=λj=>Classical.choose_spec (l j)
   have k:(List.ofFn f).length=n:=by simp
   have a:=x9 (P:=C.P) (w:=w) (b:=b) (o:=o+off) (cs:=List.ofFn f) (λj c hc=>by
    have m:j<n:=by rw[<-k];exact (XI.1 hc).1
    rw[abL]at hc;simp[m]at hc;rw[<-hc];exact (hf ⟨j,m⟩).1)
   rw[k]at a;refine⟨.agg (List.ofFn f).toArray,by simp[loadVar,nL hag,bH hn,a],.agg _ _ _ (by simpa using hl) (λi y d=>?_) (λi y v d hv=>?_)⟩
   ·have hi:i<n:=by rw[<-hl];exact (XI.1 d).1
    let⟨_,y',h1,h2,_⟩:=hf ⟨i,hi⟩;rw[d]at h1;cases h1;exact h2
   ·have hi:i<n:=by rw[<-hl];exact (XI.1 d).1
    let⟨_,y',h1,h2,h3⟩:=hf ⟨i,hi⟩;rw[d]at h1;cases h1;simp[hi]at hv;rw[<-hv];exact h3.mono hb
  ·cases h
def Ba(hr:W4 C A bd w γ hg nx){id sz:Nat}{rows:List (List AV)}{fz:Bool}(hid:hg id=.cells sz rows ep loose fz)
   {row:List AV} (hi:rows[i]?=some row) (j:Nat) (y:AV) (hy:row[j]?=some y) :
  y.one=true/\∃v,w.cell? (Wy (γ id).blk ((γ id).base+i*sz+j))=some v/\RV w γ A bd y v:=by
 have h:=hr.obj id;rw[hid]at h;let⟨d,k2,f,l,m,n,c,e,b,o,p,k⟩:=h;let⟨a,v,b1,b2⟩:=k i j row y hi hy;exact⟨a,v,by rw[HY b];exact b1,b2⟩
def ba{a:Nat}(h:Nat.beq a b=true):a=b:=YJ h
def WP(C:Xg)(A:Nat->Nat->Prop)(bd:Nat)(w:World)(γ:Gm)(m:Sem Value):OR->Prop
 |.fail=>True
 |.val x=>∃v,m.run C.P w=.ok v w/\RV w γ A bd x v
 |_=>False
def qr{m:Sem Value}{x:Option AV}(h:∀y,x=some y->∃v,m.run C.P w=.ok v w/\RV w γ A bd y v):WP C A bd w γ m (VW x):=by
 cases x with
 |none=>trivial
 |some y=>exact h y rfl
def IK{a:T->AV}{t:T}{g:G}(hr:W4 C A bd w γ hg nx)
  (ha:RV w γ A bd (a t) va) (hag:vy C.P ty=some ag) (hn:Wx C.P ty=some n) (agree:∀id∈aw (a t),hg id=g.h.get id) :
  WP C A bd w γ (Instr.loadAt ty va) (pj ag n a t g):=by
 unfold pj;generalize a t=x at *;cases ha with
 | Xn _ tag sz rows i0 Wg b o cell ht hb hm ha' hrl ho hw h =>
  simp only[gy];cases hrow:rows[i0]? with
  |none=>trivial
  | some row =>refine qr λy hp=>?_;let⟨v,h1,h2⟩:=xZ ht (λj y hy=>⟨ho i0 j row y hrow hy,_,hw i0 j row y hrow hy,h i0 j row y hrow hy⟩) hag hn hp;exact⟨v,by simp[Instr.loadAt,Instr.sureAddr,h1],h2⟩
 | W9 _ id ep i off b o hk he h =>
  have k:=agree id (by simp[aw]);simp only[G.get_eq,<-k];cases hid:hg id with
  | cells sz rows ep' loose fz =>
   simp only[aa]
   split
   ·rename_i c;have c:=ba c;have d:=hr.obj id;rw[hid]at d;let⟨l,k2,f,_⟩:=d;let⟨c1,e⟩:=h (c.trans k2.symm);simp only[gy];cases hrow:rows[i]? with
    |none=>trivial
    | some row =>refine qr λy hp=>?_;let⟨v,h1,h2⟩:=xZ (XH _) (Ba hr hid hrow) hag hn hp;refine⟨v,?_,h2⟩;rw[c1,e,f];simp[Instr.loadAt,Instr.sureAddr,h1]
   ·trivial
  |_=>trivial
 |_=>trivial
end
section
variable {g:G}
def PM{i' j sz:Nat}(hj:j<sz)(h1:i*sz<=i'*sz+j)(h2:i'*sz+j<i*sz+sz):i'=i:=by
 rcases aaT i' i with h|h|h
 ·have:(i'+1)*sz<=i*sz:=Ye _ h;rw[Yk,Y8]at this;omega
 ·exact h
 ·have:(i+1)*sz<=i'*sz:=Ye _ h;rw[Yk,Y8]at this;omega
def ug{row row':List AV}{cs:List AV}(h:cN row off cs=some row') :
  row'.length=row.length/\off+cs.length<=row.length/\∀j,row'[j]?=if off<=j/\j<off+cs.length then cs[j - off]? else row[j]?:=by
 unfold cN at h;simp only[ay,kK,bI,bK,aa]at h
 split at h
 ·rename_i k;rw[Yt]at k;injection h with h
  split at h
  ·rename_i c;subst h;refine⟨by simp,k,λj=>?_⟩;simp only[Yp,Z2]at k ⊢;rw[YB]
   by_cases hj:off=j
   ·subst hj;rw[XO rfl,dk,dk];simp
   ·rw[XS hj,aJ]
  ·subst h;refine⟨by simp;omega,k,λj=>?_⟩
   by_cases h1:j<off
   ·rw[aJ,XW (by simp;omega),Yv h1]
   ·rw[X_ (by simp;omega)];simp only[X5,YG (show off<=row.length by omega)]
    by_cases h2:j<off+cs.length
    ·rw[XO ⟨by omega,h2⟩,XW (by omega)]
    ·rw[aJ,X_ (by omega),YH];congr 1;omega
 ·cases h
section
variable {C:Xg}{A:Nat->Nat->Prop}{bd:Nat}{w:World}{γ:Gm}{hg:Nat->Xh}{nx:Nat}
def dE(C:Xg)(A:Nat->Nat->Prop)(bd:Nat)(w:World)(γ:Gm)(hg:Nat->Xh)(nx:Nat)(m:Sem Value)(g:G):OR->Prop
 |.fail=>True
 |.val x=>∃v,m.run C.P w=.ok v w/\RV w γ A bd x v
 | .upd x g'=>∃v w' γ' id ob,m.run C.P w=.ok v w'/\RV w' γ' A bd x v/\Stp w γ w' γ' /\
   ((g'=g.put id ob/\W4 C A bd w' γ' (upd hg id ob) nx)\/(g'=g.new ob/\id=g.nx/\W4 C A bd w' γ' (upd hg id ob) (Nat.max nx (g.nx+1))))
 |.Xi _=>False
def pB:RV w γ A bd AV.undef undef:=.WM _ [] #[] rfl (λi x v h=>by simp at h)
def Ob{a x:T->AV}{t:T}{vx:Value}(hr:W4 C A bd w γ hg nx)
  (ha:RV w γ A bd (a t) va) (hx:RV w γ A bd (x t) vx) (hn:Wx C.P ty=some n) (agree:∀id∈aw (a t),hg id=g.h.get id) :
  dE C A bd w γ hg nx (do Instr.storeAt ty va vx;pure undef) g (rj n a x t g):=by
 unfold rj;generalize a t=y at *;generalize x t=z at *;cases ha with
 | W9 _ id ep i off b o hk he h =>
  have m:=agree id (by simp[aw]);simp only[G.get_eq,<-m];cases hid:hg id with
  | cells sz rows ep' loose fz =>
   simp only[aa,ay,gy,kK]
   split
   ·rename_i hc;simp only[XM,WU,Zk]at hc;let⟨⟨⟨p,f⟩,u⟩,s⟩:=hc;have p:=ba p;have f:=ba f;subst u;subst p;have r:=hr.obj id;rw[hid]at r;let⟨Q,k2,J,R,S,U,c,e,V,W,D,I⟩:=r;let⟨c1,E⟩:=h k2.symm;rw[J]at E;cases hrow:rows[i]? with
    |none=>trivial
    | some row =>
     dsimp only;cases hp:cN row off z.cells with
     |none=>trivial
     | some row' =>
      obtain⟨K,X,L⟩:=ug hp;obtain⟨F,q2⟩:=zx hx s;have v:row.length=sz:=D i row hrow;have hi:i<rows.length:=(XI.1 hrow).1;have q:(i+1)*sz<=rows.length*sz:=Ye _ hi;rw[Yk,Y8]at q;have l:vx.cells.toList.length=z.cells.length:=F.1.symm;obtain⟨w',M,N,O⟩:=hr.storeCells hid (rows':=rows.set i row') (o:=(γ id).base+i*sz+off) (vs:=vx.cells.toList) F q2 (by simp)
       (λi' r' k=>by
        rw[YB]at k
        by_cases hii:i=i'
        ·subst hii;rw[XO rfl,XO hi]at k;injection k with k;subst k;rw[K];exact v
        ·rw[XS hii]at k;exact D i' r' k)
       ⟨by omega,by rw[l];omega⟩
       (λi' j r' y k hy=>by
        rw[YB]at k
        by_cases hii:i=i'
        ·subst hii;rw[XO rfl,XO hi]at k;injection k with k;subst k;have:=L j;rw[hy]at this
         split
         ·rename_i d;rw[l]at d;rw[dk]at this;rw[show (γ id).base+i*sz+j - ((γ id).base+i*sz+off)=j - off from by omega];exact this.symm
         ·rename_i d;rw[l]at d;rw[aJ]at this;exact⟨row,hrow,this.symm⟩
        ·rw[XS hii]at k;have H:j<sz:=by rw[<-D i' r' k];exact (XI.1 hy).1
         rw[XS]
         ·exact⟨r',k,hy⟩
         ·rw[l];rintro⟨l1,l2⟩;exact hii (PM (i:=i) (i':=i') H (by omega) (by omega)).symm) C.P
      refine⟨undef,w',γ,id,.cells sz (rows.set i row') ep loose false,?_,pB,O,.inl ⟨rfl,N⟩⟩;have B:vx.cells.size=n:=by rw[<-f,<-l];simp
      rw[c1,E];simp[Instr.storeAt,Instr.sureAddr,storeVar,bH hn,B,M]
   ·trivial
  |_=>trivial
 |_=>trivial
def G7{sz:Nat}{rows:List (List AV)}{cs:Array Value}(e:TypeId)(hr:W4 C A bd w γ hg nx)(hf:(γ g.nx).kind=0)
  (hrow:∀(i:Nat) row,rows[i]?=some row->row.length=sz)
  (hv:∀(i j:Nat) row x,rows[i]?=some row->row[j]?=some x->x.one=true/\∃v,cs[i*sz+j]?=some v/\RV w γ A bd x v)
  (loose:Bool) (WV:Nat) (hs:(loose=false->WV=0)/\(loose=true->rows.length+WV<=9223372036854775807)) (hc:(rows.length+WV)*sz<=cs.size) :
  ∃γ',W4 C A bd (World.add w (.cells cs e (0,0))) γ' (upd hg g.nx (.cells sz rows 0 loose false)) (Nat.max nx (g.nx+1))/\Stp w γ (World.add w (.cells cs e (0,0))) γ' /\
   (γ' g.nx).kind=1/\(γ' g.nx).ep=0/\(γ' g.nx).sz=sz/\(γ' g.nx).n=rows.length/\(γ' g.nx).blk=w.heap.size/\(γ' g.nx).base=0/\(γ' g.nx).WV=WV :=
 hr.newCells e hf (Y_ _ _) (XX (ZU _) (Zx _ _)) hs hc hrow hv
def js(e:TypeId)(cs:Array Value):(newRow e cs).run P w=.ok (Wy w.heap.size 0) (World.add w (.cells cs e (0,0))):=by simp[newRow,Wy,World.add]
theorem RO{x:AV}(hr:W4 C A bd w γ hg nx)(hx:RV w γ A bd x v)(hf:(γ g.nx).kind=0)(ht:x.isTup=false) :
  dE C A bd w γ hg nx (Instr.box ty v) g (.upd (.W9 g.nx 0 0 0) (g.new (Xy (bD x.cells) [x.cells]))):=by
 obtain⟨k,q2⟩:=zx hx ht;obtain⟨γ',a,b,c,f,r5,l,d,e,m⟩:=G7 (sz:=x.cells.length) (rows:=[x.cells]) (cs:=v.cells) ty hr hf
  (λi row h=>by cases i with|zero=>simp at h;rw[<-h]|succ i=>simp at h)
  (λi j row y h hy=>by
   cases i with
   | zero =>
    simp at h;subst h;have hlt:j<v.cells.toList.length:=by rw[<-k.1];exact (XI.1 hy).1
    have he:=XJ hlt;exact⟨q2 j y hy,_,by simpa using he,k.2 j y _ hy he⟩
   | succ i=>simp at h) false 0 ⟨λ_=>rfl,λh=>by cases h⟩ (by have:=k.1;simp at this;simp[this])
 rw[ay];refine⟨.pointer (some (Wy w.heap.size 0)),_,γ',g.nx,_,?_,?_,b,.inr ⟨rfl,rfl,a⟩⟩
 ·simp[Instr.box,newVar,js]
 ·exact .W9 _ _ _ _ _ _ _ c (by omega) (λ_=>⟨d.symm,by rw[e];simp⟩)
end
end
section
variable {cs:List AV}
section
variable {C:Xg}{A:Nat->Nat->Prop}{bd:Nat}{w:World}{γ:Gm}{hg:Nat->Xh}{nx:Nat}
def te(h:gj P ty=some cs):∃v,(zeroValue ty).run P w=.ok v w/\D_ v.cells.toList=some cs:=by
 unfold gj at h;cases hi:P.info? ty with
 |none=>rw[hi]at h;cases h
 | some i =>
  rw[hi]at h;cases hz:i.zero with
  |none=>simp[hz]at h
  |some v=>simp[hz]at h;exact⟨v,by simp[zeroValue,py hi,hz],h⟩
def MY{g:G}(hr:W4 C A bd w γ hg nx)(hz:gj C.P ty=some cs)(hf:(γ g.nx).kind=0)(t:T) :
  dE C A bd w γ hg nx (Instr.alloc ty true (.tuple #[])) g (Gv cs t g):=by
 obtain⟨v,h1,h2⟩:=te (w:=w) hz;obtain⟨k,q2⟩:=xA (w:=w) (γ:=γ) (A:=A) (bd:=bd) h2;obtain⟨γ',a,b,c,f,r5,l,d,e,m⟩:=G7 (sz:=cs.length) (rows:=[cs]) (cs:=v.cells) ty hr hf
  (λi row h=>by cases i with|zero=>simp at h;rw[<-h]|succ i=>simp at h)
  (λi j row y h hy=>by
   cases i with
   | zero =>
    simp at h;subst h;have hlt:j<v.cells.toList.length:=by rw[<-k.1];exact (XI.1 hy).1
    have he:=XJ hlt;exact⟨q2 j y hy,_,by simpa using he,k.2 j y _ hy he⟩
   | succ i=>simp at h) false 0 ⟨λ_=>rfl,λh=>by cases h⟩ (by have:=k.1;simp at this;simp[this])
 unfold Gv;rw[ay];refine⟨.pointer (some (Wy w.heap.size 0)),_,γ',g.nx,_,?_,?_,b,.inr ⟨rfl,rfl,a⟩⟩
 ·simp[Instr.alloc,newVar,js,h1]
 ·exact .W9 _ _ _ _ _ _ _ c (by omega) (λ_=>⟨d.symm,by rw[e];simp⟩)
def zM(vs:List Value):∀(off k:Nat) (c:Array Value),
  (vs.zipIdx k).foldl (λcs (p:Value×Nat)=>cs.setIfInBounds (off+p.2) p.1) c=bU c (off+k) vs:=by
 induction vs with
 |nil=>intro off k c;rfl
 |cons v vs ih=>intro off k c;simp only[List.zipIdx_cons,Z1,bU];rw[ih];rfl
def rD(w:World)(γ:Gm)(A:Nat->Nat->Prop)(bd:Nat)(xs:List AV)(c:Array Value):Prop :=Wa w γ A bd xs c.toList/\∀(i:Nat) y,xs[i]?=some y->y.one=true
def Hf{xs row':List AV}{vs:List Value}(h:rD w γ A bd xs c)(hv:Wa w γ A bd cs vs)
  (h1:∀(i:Nat) y,cs[i]?=some y->y.one=true) (hp:cN xs off cs=some row'):rD w γ A bd row' (bU c off vs):=by
 let⟨a,b,k⟩:=ug hp;have hl:off+vs.length<=c.size:=by have:=h.1.1;have:=hv.1;simp at *;omega
 refine⟨⟨by have:=h.1.1;simp[ja]at *;omega,λi x v hx hv'=>?_⟩,λi y hy=>?_⟩
 ·rw[k]at hx;simp only[aap]at hv';rw[kJ _ _ _ _ hl]at hv';have:=hv.1
  split at hx
  ·rw[dk]at hv';exact hv.2 _ _ _ hx hv'
  ·rw[aJ]at hv';exact h.1.2 _ _ _ hx (by simpa using hv')
 ·rw[k]at hy
  split at hy
  ·exact h1 _ _ hy
  ·exact h.2 _ _ hy
def Nr{place:Nat->Option (Nat×Nat)}:∀{is:List Nat} {pl:List (Nat×Nat)} {xs:List AV} {vs:List Value} {zero cs:List AV} {c:Array Value},
  aD place is=some pl->rD w γ A bd zero c->Wa w γ A bd xs vs->d_ zero (pl.zip xs)=some cs->is.length=xs.length ->
  ∃c',Instr.fill place c (is.zip vs)=some c'/\rD w γ A bd cs c':=by
 intro is
 induction is with
 | nil =>intro pl xs vs zero cs c hp hc hv h hl;simp[aD]at hp;subst hp;have:xs=[]:=YK hl.symm;subst this;simp[d_]at h;subst h;exact⟨c,by simp[Instr.fill],hc⟩
 | cons i is ih =>
  intro pl xs vs zero cs c hp hc hv h hl;cases xs with
  |nil=>cases hl
  | cons x xs =>
   cases vs with
   |nil=>have:=hv.1;cases this
   | cons v vs =>
    simp only[aD]at hp;cases hpi:place i with
    |none=>rw[hpi]at hp;cases hp
    | some q =>
     rw[hpi]at hp;cases hpr:aD place is with
     |none=>rw[hpr]at hp;cases hp
     | some pl' =>
      rw[hpr]at hp;cases hp;let⟨off,size⟩:=q;simp only[aab,d_,aa,ay]at h
      split at h
      ·rename_i a;simp only[XM,WU,Zk]at a;let⟨h1,h2⟩:=a;have h1:=ba h1;cases hput:cN zero off x.cells with
       |none=>rw[hput]at h;cases h
       | some row' =>
        rw[hput]at h;have hx:=hv.2 0 x v rfl rfl;let⟨e,q2⟩:=zx hx h2;have d:v.cells.size=size:=by rw[<-h1];have:=e.1;simp at this;exact this.symm
        have j:=(ug hput).2.1;have f:zero.length=c.size:=by have:=hc.1.1;simpa using this
        obtain⟨c',l,m⟩:=ih (c:=bU c off v.cells.toList) hpr (Hf hc e q2 hput) ⟨by have:=hv.1;simpa using this,λk y u hy hu=>hv.2 (k+1) y u (by simpa using hy) (by simpa using hu)⟩ h (by simpa using hl);refine⟨c',?_,m⟩;have b:(v.cells.zipIdx.foldl (λcs (p:Value×Nat)=>cs.setIfInBounds (off+p.2) p.1) c)=bU c off v.cells.toList:=by rw[<-abd,abE];exact zM _ _ _ _
        simp only[aab,Instr.fill,hpi];rw[XS (by simp[d];omega)];rw[show (v.cells.zipIdx.foldl (λcs x=>cs.setIfInBounds (off+x.2) x.1) c)=_ from b];exact l
      ·cases h
def Fu{parts:Array (Nat×Operand)}{zero:List AV}{pl:List (Nat×Nat)}{vs:T->List AV}{t:T}{g:G}{place:Nat->Option (Nat×Nat)}
  {ev:Operand->Value} (hz:gj C.P ty=some zero) (hv:Wa w γ A bd (vs t) ((parts.toList.map (·.2)).map ev))
  (hp:aD place (parts.toList.map (·.1))=some pl)
  (hrun:∀(z:Value) (cells:Array Value),(zeroValue ty).run C.P w=.ok z w->Instr.fill place z.cells ((parts.map λ(i,x)=>(i,ev x)).toList)=some cells ->
   (Instr.build ty (parts.map λ(i,x)=>(i,ev x))).run C.P w=.ok (.agg cells) w) :
  WP C A bd w γ (Instr.build ty (parts.map λ(i,x)=>(i,ev x))) (qC zero pl vs t g):=by
 unfold qC;cases hfl:d_ zero (pl.zip (vs t)) with
 |none=>trivial
 | some cs =>
  obtain⟨z,a,b⟩:=te (w:=w) hz;have zr:=xA (w:=w) (γ:=γ) (A:=A) (bd:=bd) b;have hl:(parts.toList.map (·.1)).length=(vs t).length:=by have:=hv.1;simp at *;omega
  obtain⟨c',k,h⟩:=Nr (c:=z.cells) hp zr hv hfl hl;have e:(parts.map λ(i,x)=>(i,ev x)).toList=(parts.toList.map (·.1)).zip ((parts.toList.map (·.2)).map ev):=by
   rw[Array.toList_map]
   induction parts.toList with
   |nil=>rfl
   |cons p ps ih=>simp[ih]
  exact⟨.agg c',hrun z c' a (by rw[e];exact k),.agg _ _ _ (by have:=h.1.1;simpa using this) h.2 (λi x v hx hv=>h.1.2 i x v hx (by simpa using hv))⟩
end
end
def L8{j sz:Nat}(hj:j<sz):(i*sz+j) % sz=j:=by rw[abX,Nat.add_mul_mod_self_right,Z8 hj]
section
variable {C:Xg}{A:Nat->Nat->Prop}{bd:Nat}{w:World}{γ:Gm}{hg:Nat->Xh}{nx:Nat}
def kN(zero:Array Value)(n:Nat):Array Value:=(Array.range n).map (zero[· % zero.size]!)
def uA(zero:Array Value)(n:Nat):(kN zero n).size=n:=by simp[kN]
def Oq{zero:Array Value}{k:Nat}(h:k<n)(hz:0<zero.size):(kN zero n)[k]?=zero[k % zero.size]?:=by have h2:k % zero.size<zero.size:=YX _ hz;simp[kN,h,Yn h2,getElem!_pos zero (k % zero.size) h2]
def Jl{row r:List AV}(h:(gz n row)[i]?=some r):r=row/\i<n:=by
 unfold gz at h;rw[Zp]at h
 split at h
 ·injection h with h;exact⟨h.symm,by assumption⟩
 ·cases h
def Xe(w:World)(γ:Gm)(A:Nat->Nat->Prop)(bd sz:Nat)(rows:List (List AV))(c:Array Value):Prop :=
 rows.length*sz<=c.size/\(∀(i:Nat) row,rows[i]?=some row->row.length=sz) /\
 ∀(i j:Nat) row x,rows[i]?=some row->row[j]?=some x->x.one=true/\∃v,c[i*sz+j]?=some v/\RV w γ A bd x v
def Bm{ty:TypeId}{zero:List AV}{z:Value}{sz m:Nat}(hz:D_ z.cells.toList=some zero)(hsz:zero.length=sz)(h0:0<sz)(hn:n*sz<=m) :
  Xe w γ A bd sz (gz n zero) (kN z.cells m):=by
 obtain⟨b,q2⟩:=xA (w:=w) (γ:=γ) (A:=A) (bd:=bd) hz;have a:z.cells.size=sz:=by have:=b.1;simp at this;omega
 refine⟨by simp[gz,uA,hn],λi row h=>by rw[(Jl h).1];exact hsz,λi j row x h hx=>?_⟩;obtain⟨e,hi⟩:=Jl h;subst e;have c:j<sz:=by rw[<-hsz];exact (XI.1 hx).1
 have hlt:i*sz+j<n*sz:=by have:(i+1)*sz<=n*sz:=Ye _ hi;rw[Yk,Y8]at this;omega
 have k:j<z.cells.toList.length:=by simp;omega
 refine⟨q2 j x hx,z.cells.toList[j],?_,b.2 j x _ hx (XJ k)⟩;rw[Oq (by omega) (by omega),a,L8 c];have:j<z.cells.size:=by omega
 simp[this]
def GP{sz:Nat}(h0:0<sz):∀{is:List Nat} {xs:List AV} {vs:List Value} {rows rows':List (List AV)} {c:Array Value} {n:Nat},
  Xe w γ A bd sz rows c->rows.length=n->c.size=n*sz->Wa w γ A bd xs vs->cY sz rows (is.zip xs)=some rows'->is.length=xs.length ->
  ∃c',Instr.fill (λi=>some (i*sz,sz)) c (is.zip vs)=some c'/\Xe w γ A bd sz rows' c'/\rows'.length=n/\c'.size=n*sz:=by
 intro is
 induction is with
 | nil =>intro xs vs rows rows' c n hc hl b hv h d;have:xs=[]:=YK d.symm;subst this;simp[cY]at h;subst h;exact⟨c,by simp[Instr.fill],hc,hl,b⟩
 | cons i is ih =>
  intro xs vs rows rows' c n hc hl b hv h d;cases xs with
  |nil=>cases d
  | cons x xs =>
   cases vs with
   |nil=>have:=hv.1;cases this
   | cons v vs =>
    simp only[aab,cY,aa,ay,kK]at h
    split at h
    ·rename_i a;simp only[XM,WU,Zk,YM]at a;let⟨⟨h1,h2⟩,h3⟩:=a;have h1:=ba h1;have hx:=hv.2 0 x v rfl rfl;let⟨t,q2⟩:=zx hx h3;have m:v.cells.toList.length=sz:=by rw[<-t.1,h1]
     have e:(i+1)*sz<=rows.length*sz:=Ye _ h2;rw[Yk,Y8]at e;have q:i*sz+v.cells.toList.length<=c.size:=by rw[m,b,<-hl];exact e
     have o:Xe w γ A bd sz (rows.set i x.cells) (bU c (i*sz) v.cells.toList):=by
      refine⟨by rw[ja,aaE];exact hc.1,λk row hk=>?_,λk j row y hk hy=>?_⟩
      ·rw[YB]at hk
       by_cases hik:i=k
       ·subst hik;rw[XO rfl,XO h2]at hk;cases hk;exact h1
       ·rw[XS hik]at hk;exact hc.2.1 k row hk
      ·rw[YB]at hk;rw[kJ _ _ _ _ q]
       by_cases hik:i=k
       ·subst hik;rw[XO rfl,XO h2]at hk;injection hk with hk;subst hk;have s:j<sz:=by rw[<-h1];exact (XI.1 hy).1
        have l:j<v.cells.toList.length:=by omega
        rw[dk,show i*sz+j - i*sz=j from by omega];exact⟨q2 j y hy,_,XJ l,t.2 j y _ hy (XJ l)⟩
       ·rw[XS hik]at hk;have s:j<sz:=by rw[<-hc.2.1 k row hk];exact (XI.1 hy).1
        rw[XS]
        ·exact hc.2.2 k j row y hk hy
        ·rintro⟨l1,l2⟩;exact hik (PM (i:=i) (i':=k) s l1 (by omega)).symm
     obtain⟨c',z,B,C,D⟩:=ih (c:=bU c (i*sz) v.cells.toList) (n:=n) o (by simp[hl]) (by rw[ja];exact b)
      ⟨by have:=hv.1;simpa using this,λk y u hy hu=>hv.2 (k+1) y u (by simpa using hy) (by simpa using hu)⟩ h (by simpa using d)
     refine⟨c',?_,B,C,D⟩;have f:(v.cells.zipIdx.foldl (λcs (p:Value×Nat)=>cs.setIfInBounds (i*sz+p.2) p.1) c)=bU c (i*sz) v.cells.toList:=by rw[<-abd,abE];exact zM _ _ _ _
     have r:v.cells.size=sz:=by simpa using m
     simp only[aab,Instr.fill];rw[XS (by simp[r];rw[b,<-hl];omega)];rw[show (v.cells.zipIdx.foldl (λcs x=>cs.setIfInBounds (i*sz+x.2) x.1) c)=_ from f];exact z
    ·cases h
def ud{sz:Nat}{rows:List (List AV)}{cs:Array Value}(e:TypeId)(hr:W4 C A bd w γ hg nx){g:G}(hf:(γ g.nx).kind=0)
  (h:Xe w γ A bd sz rows cs) (len cap:Nat) (loose:Bool) (WV:Nat) (hs:(loose=false->WV=0)/\(loose=true->rows.length+WV<=9223372036854775807)) (hc:(rows.length+WV)*sz<=cs.size)
  (hcap:cap=rows.length+WV) (hlen:len<=rows.length) :
  ∃γ',W4 C A bd (World.add w (.cells cs e (0,0))) γ' (upd hg g.nx (.cells sz rows 0 loose false)) (Nat.max nx (g.nx+1))/\Stp w γ (World.add w (.cells cs e (0,0))) γ' /\
   RV (World.add w (.cells cs e (0,0))) γ' A bd (.Xj g.nx 0 0 len none) (.slice (some (Wy w.heap.size 0)) len cap):=by
 let⟨γ',k,a,b,j,r5,c,d,f,i⟩:=G7 e hr hf h.2.1 h.2.2 loose WV hs hc;refine⟨γ',k,a,.Xj _ _ _ _ _ _ _ _ _ b (by omega) (by omega) λ_=>⟨d.symm,by rw[f];simp,?_⟩⟩;simp only[ni,c,i];omega
def CP{sz:Nat}{parts:Array (Nat×Operand)}{zero:List AV}{vs:T->List AV}{t:T}{g:G}{ev:Operand->Value}
  (hr:W4 C A bd w γ hg nx) (hf:(γ g.nx).kind=0) (hu:C.P.underlying ty=some (.slice e)) (hsz:Wx C.P e=some sz) (hz:gj C.P e=some zero)
  (hzl:zero.length=sz) (h0:0<sz) (hsmall:len*sz<=1048576) (hv:Wa w γ A bd (vs t) ((parts.toList.map (·.2)).map ev)) :
  dE C A bd w γ hg nx (Instr.buildSlice ty len (parts.map λ(i,x)=>(i,ev x))) g (ju sz len (gz len zero) (parts.toList.map (·.1)) vs t g):=by
 unfold ju;cases hfl:cY sz (gz len zero) ((parts.toList.map (·.1)).zip (vs t)) with
 |none=>trivial
 | some rows =>
  obtain⟨z,q,f⟩:=te (w:=w) hz;have j:z.cells.size=sz:=by have:=(xA (w:=w) (γ:=γ) (A:=A) (bd:=bd) f).1.1;simp at this;omega
  have hl:(parts.toList.map (·.1)).length=(vs t).length:=by have:=hv.1;simp at *;omega
  obtain⟨c',a,d,r,s⟩:=GP h0 (c:=kN z.cells (len*sz)) (n:=len) (Bm (ty:=e) (w:=w) (γ:=γ) (A:=A) (bd:=bd) f hzl h0 (XH _)) (by simp[gz]) (uA _ _) hv hfl hl;have he:(parts.map λ(i,x)=>(i,ev x)).toList=(parts.toList.map (·.1)).zip ((parts.toList.map (·.2)).map ev):=by
   rw[Array.toList_map]
   induction parts.toList with
   |nil=>rfl
   |cons p ps ih=>simp[ih]
  have k:(Instr.buildSlice ty len (parts.map λ(i,x)=>(i,ev x))).run C.P w=.ok (.slice (some (Wy w.heap.size 0)) len len) (World.add w (.cells c' e (0,0))):=by
   have b:¬(2 ^ 24<len*sz):=by omega
   unfold Instr.buildSlice;rw[he]
   by_cases h:len*sz=0
   ·have e0:kN z.cells (len*sz)=#[]:=by rw[h];simp[kN]
    rw[e0]at a;have e1:(Array.range 0).map (λx=>(#[]:Array Value)[x % (#[]:Array Value).size]!)=#[]:=by simp
    simp only[Yb,aN hu,XT,bH hsz];rw[aJ];simp only[Yb,h,if_true,Yu,XT,e1,a,js]
   ·have e0:(Array.range (len*sz)).map (λx=>z.cells[x % z.cells.size]!)=kN z.cells (len*sz):=rfl;simp only[Yb,aN hu,XT,bH hsz];rw[aJ];simp only[Yb,h,if_false,q,XT,Yu,e0,a,js]
  obtain⟨γ',l,m,o⟩:=ud (w:=w) e hr hf d len len false 0 ⟨λ_=>rfl,λh=>by cases h⟩ (by rw[Zf];exact d.1) (by omega) (by omega);exact⟨_,_,γ',g.nx,_,k,o,m,.inr ⟨rfl,rfl,l⟩⟩
end
section
variable {t:T}{g:G}{a ix:T->AV}
section
variable {C:Xg}{A:Nat->Nat->Prop}{bd:Nat}{w:World}{γ:Gm}{hg:Nat->Xh}{nx:Nat}
def zT{lim:Nat}{x:AV}(h:cd lim x=some n)(hv:RV w γ A bd x v):n<=lim/\∃k,v=.int k (n:Int):=by
 unfold cd at h
 split at h
 ·rw[aa]at h
  split at h
  ·rename_i hl;rw[Yt]at hl;cases h;cases hv;exact⟨hl,_,rfl⟩
  ·cases h
 ·cases h
def uz(n:Nat)(h:n<2^63):IntKind.wrap .i64 (n:Int)=(n:Int):=pC n h
def Fj{sz:Nat}{zero:List AV}{l c:T->AV}{vl vc:Value}
  (hr:W4 C A bd w γ hg nx) (hf:(γ g.nx).kind=0) (hu:C.P.underlying ty=some (.slice e)) (hsz:Wx C.P e=some sz) (hby:lj C.P e=some bytes) (hz:gj C.P e=some zero)
  (hzl:zero.length=sz) (h0:0<sz) (hl:RV w γ A bd (l t) vl) (hc:RV w γ A bd (c t) vc) :
  dE C A bd w γ hg nx (Instr.makeSlice ty vl vc) g (jo sz bytes zero l c t g):=by
 unfold jo;cases hcn:cd aH (c t) with
 |none=>trivial
 | some cn =>
  dsimp only;cases hln:cd cn (l t) with
  |none=>trivial
  | some ln =>
   dsimp only;rw[aa]
   split
   ·rename_i k;rw[Yt]at k;obtain⟨c1,kc,rfl⟩:=zT hcn hc;obtain⟨l1,kl,rfl⟩:=zT hln hl;obtain⟨z,q,a⟩:=te (w:=w) hz;have f:z.cells.size=sz:=by have:=(xA (w:=w) (γ:=γ) (A:=A) (bd:=bd) a).1.1;simp at this;omega
    unfold aH at c1 k;obtain⟨γ',m,o,p⟩:=ud (w:=w) (cs:=kN z.cells (cn*sz)) e hr hf (Bm (ty:=e) (n:=cn) a hzl h0 (XH _)) ln cn false 0 ⟨λ_=>rfl,λh=>by cases h⟩
     (by simp[gz,uA]) (by simp[gz]) (by simpa [gz] using l1)
    refine⟨_,_,γ',g.nx,_,?_,p,o,.inr ⟨rfl,rfl,m⟩⟩;have hi:∃i,C.P.info? e=some i/\i.bytes=bytes:=by
     unfold lj at hby;cases hie:C.P.info? e with
     |none=>rw[hie]at hby;cases hby
     |some i=>rw[hie]at hby;simp at hby;exact⟨i,rfl,hby⟩
    obtain⟨i,i1,j⟩:=hi;have w1:=uz ln (by omega);have w2:=uz cn (by omega);have b:¬((bytes:Int)*(cn:Int) > 2 ^ 48):=by rw[<-ZP,Zm];omega
    have d:¬((bytes:Int)*(ln:Int) > 2 ^ 48):=by have h3:ln*bytes<=cn*bytes:=Ye _ l1;rw[<-ZP,Zm];omega
    unfold Instr.makeSlice;simp only[Yb,aN hu,XT,asInt,asIntOf,Yu,py i1,j,w1,w2];rw[XS (by simp only[YE,X9,not_or];omega)];simp only[Yb,run_askRoom,XT,bH hsz,ZX]
    by_cases h:cn*sz=0
    ·have e0:kN z.cells (cn*sz)=#[]:=by rw[h];simp[kN]
     have e1:(Array.range 0).map (λx=>(#[]:Array Value)[x % (#[]:Array Value).size]!)=#[]:=by simp
     rw[e0,h];simp only[if_true,Yb,Yu,XT,e1,js]
    ·have e0:(Array.range (cn*sz)).map (λx=>z.cells[x % z.cells.size]!)=kN z.cells (cn*sz):=rfl;simp only[h,if_false,Yb,q,XT,Yu,e0,js]
   ·trivial
def wG{f:Field}{o:Nat}(hn:Wx C.P f.type=some (n+1)):(fieldPlace (Wy b o) f).run C.P w=.ok (Wy b (o+f.offset)) w:=by unfold fieldPlace;simp only[Yb,bH hn,XT];rw[aJ];simp[jL]
def Fc{f fo:Nat}{ft:TypeId}
  (ha:RV w γ A bd (a t) va) (hf:wH C.P ty f=some (fo,ft)) (hn:Wx C.P ft=some (n+1)) :
  WP C A bd w γ (Instr.fieldAt ty va f) (lQ fo a t g):=by
 unfold wH at hf;cases hu:C.P.underlying ty with
 |none=>rw[hu]at hf;cases hf
 | some d =>
  rw[hu]at hf;cases d with
  | struct fs =>
   dsimp only at hf;cases hx:fs[f]? with
   |none=>rw[hx]at hf;cases hf
   | some x =>
    rw[hx]at hf;injection hf with hf;cases hf;unfold lQ;generalize a t=y at *;cases ha with
    | Xn _ tag sz rows i0 Wg b o cell ht hb hm ha' hrl ho hw h hcl =>refine⟨_,?_,.Xn _ tag sz rows i0 (Wg+x.offset) b o cell ht hb hm ha' hrl ho hw h hcl⟩;simp[Instr.fieldAt,aN hu,hx,Instr.sureAddr,wG hn,Qc]
    | W9 _ id ep i off b o hk he h =>
     refine⟨.pointer (some (Wy b (o+x.offset))),?_,.W9 _ id ep i (off+x.offset) b _ hk he λe=>?_⟩
     ·simp[Instr.fieldAt,aN hu,hx,Instr.sureAddr,wG hn]
     ·let⟨c1,k⟩:=h e;exact⟨c1,by rw[k];omega⟩
    |_=>trivial
  |_=>cases hf
def Ja{cs:List AV}{x:AV}(hc:rD w γ A bd cs c)
  (hag:vy C.P ty=some ag) (hn:Wx C.P ty=some n) (h:cD ag n cs off=some x):∃v,(part ty c off).run C.P w=.ok v w/\RV w γ A bd x v:=by
 unfold cD at h;cases ag with
 | false =>
  simp only[gy]at h;have hl:off<c.toList.length:=by rw[<-hc.1.1];exact (XI.1 h).1
  have k:off<c.size:=by simpa using hl
  refine⟨c[off],?_,hc.1.2 off x _ h (by simp[k])⟩;simp[part,nL hag,k]
 | true =>
  simp only[bI,bK,ay,aa]at h
  split at h
  ·rename_i hl;have hl:=ba hl;cases h;have a:cs.length=c.size:=by have:=hc.1.1;simpa using this
   have b:off+n<=c.size\/n=0:=by simp at hl;omega
   refine⟨.agg (c.extract off (off+n)),by simp[part,nL hag,bH hn],.agg _ _ _ (by rw[hl];simp;omega) (λi y hy=>?_) (λi y v hy hv=>?_)⟩
   ·have hi:i<n:=by rw[<-hl];exact (XI.1 hy).1
    rw[Yv hi,YH]at hy;exact hc.2 _ _ hy
   ·have hi:i<n:=by rw[<-hl];exact (XI.1 hy).1
    rw[Yv hi,YH]at hy;rw[Array.getElem?_extract]at hv
    split at hv
    ·exact hc.1.2 _ _ _ hy (by simpa using hv)
    ·cases hv
  ·cases h
def Fq{cs:List AV}(h:RV w γ A bd (.agg cs) v):∃c,v=.agg c/\rD w γ A bd cs c:=by
 cases h with
 |agg _ _ c hl h1 h'=>exact⟨c,rfl,⟨by simpa using hl,λi x v hx hv=>h' i x v hx (by simpa using hv)⟩,h1⟩
def Nq{f fo:Nat}{ft:TypeId}{y:AV}
  (ha:RV w γ A bd y va) (hf:wH C.P ty f=some (fo,ft)) (hag:vy C.P ft=some ag) (hn:Wx C.P ft=some n) :
  WP C A bd w γ (Instr.field ty va f) (match y with|.agg cs=>VW (cD ag n cs fo)|_=>.fail):=by
 unfold wH at hf;cases hu:C.P.underlying ty with
 |none=>rw[hu]at hf;cases hf
 | some d =>
  rw[hu]at hf;cases d with
  | struct fs =>
   dsimp only at hf;cases hx:fs[f]? with
   |none=>rw[hx]at hf;cases hf
   | some x =>
    rw[hx]at hf;injection hf with hf;cases hf;cases y with
    | agg cs =>obtain⟨c,rfl,hc⟩:=Fq ha;refine qr λz hz=>?_;let⟨v,h1,h2⟩:=Ja hc hag hn hz;exact⟨v,by simp[Instr.field,aN hu,hx,asAgg,h1],h2⟩
    |_=>trivial
  |_=>cases hf
def DF{k:IntKind}{n:Int}(h:RV w γ A bd (.int k n) v):v=.int k n:=by cases h;rfl
def Iw{sz:Nat}(hr:W4 C A bd w γ hg nx)
  (ha:RV w γ A bd (a t) va) (hi:RV w γ A bd (ix t) vi) (hu:C.P.underlying ty=some (.slice e)) (hsz:Wx C.P e=some sz)
  (agree:∀id∈aw (a t),hg id=g.h.get id) :
  WP C A bd w γ (Instr.indexAt ty va vi) (iY sz a ix t g):=by
 unfold iY;generalize a t=y at *;generalize ix t=z at *;cases ha with
 | WO _ tag sz' rows b o cap cell ht hc hb hm ha' hrl ho hw h hcl =>
  dsimp only
  split
  ·rename_i k i;rw[aa]
   split
   ·rename_i c;simp only[XM,YM,ay]at c;let⟨h1,h2⟩:=c;have h1:=ba h1;subst h1;have f:=DF hi;subst f;refine⟨_,?_,.Xn _ tag sz rows i 0 b o cell ht hb hm ha' hrl ho hw h hcl⟩;simp[Instr.indexAt,asIntOf,aN hu,h2,bH hsz,jL]
   ·trivial
  ·trivial
 | Wt _ tag sz' a' cap ht =>
  dsimp only
  split
  ·rename_i k i;rw[aa]
   split
   ·rename_i c;simp[ay]at c
   ·trivial
  ·trivial
 | Xj _ id ep off len lim b o cap hk he hc h =>
  have d:=agree id (by simp[aw]);dsimp only
  split
  ·rename_i k i;simp only[G.get_eq,<-d];cases hid:hg id with
   | cells sz' rows ep' loose fz =>
    dsimp only;rw[aa]
    split
    ·rename_i c;simp only[XM,YM]at c;let⟨⟨h1,h2⟩,h3⟩:=c;have h1:=ba h1;have h2:=ba h2;subst h2;have f:=DF hi;subst f;have j:=hr.obj id;rw[hid]at j;let⟨n,k2,m,_⟩:=j;let⟨c1,l,_⟩:=h (h1.trans k2.symm);refine⟨.pointer (some (Wy b (o+i*sz))),?_,.W9 _ id ep (off+i) 0 b _ hk he λ_=>⟨c1,?_⟩⟩
     ·simp[Instr.indexAt,asIntOf,aN hu,h3,bH hsz,jL]
     ·rw[l,m,Yk];omega
    ·trivial
   |_=>trivial
  ·trivial
 |_=>trivial
def Iv{sz:Nat}
  (ha:RV w γ A bd (a t) va) (hi:RV w γ A bd (ix t) vi) (hu:C.P.underlying ty=some (.array n e)) (hsz:Wx C.P e=some sz) :
  WP C A bd w γ (Instr.indexAt ty va vi) (pg n sz a ix t g):=by
 unfold pg;generalize a t=y at *;generalize ix t=z at *
 split
 ·rename_i k i;rw[aa]
  split
  ·rename_i hlt;rw[YM]at hlt;have c:=DF hi;subst c;have h2:=hlt;cases ha with
   | Xn _ tag sz' rows i0 Wg b o cell ht hb hm ha' hrl ho hw h hcl =>refine⟨_,?_,.Xn _ tag sz' rows i0 (Wg+i*sz) b o cell ht hb hm ha' hrl ho hw h hcl⟩;simp[Instr.indexAt,asIntOf,aN hu,h2,bH hsz,jL,Instr.sureAddr,Qc]
   | W9 _ id ep j off b o hk he h =>
    refine⟨.pointer (some (Wy b (o+i*sz))),?_,.W9 _ id ep j (off+i*sz) b _ hk he λe=>?_⟩
    ·simp[Instr.indexAt,asIntOf,aN hu,h2,bH hsz,jL,Instr.sureAddr]
    ·let⟨c1,d⟩:=h e;exact⟨c1,by rw[d];omega⟩
   |_=>trivial
  ·trivial
 ·trivial
def Ny{sz:Nat}
  (ha:RV w γ A bd (a t) va) (hi:RV w γ A bd (ix t) vi) (hu:C.P.underlying ty=some (.array n e)) (hag:vy C.P e=some ag) (hsz:Wx C.P e=some sz) :
  WP C A bd w γ (Instr.index ty va vi) (yQ ag n sz a ix t g):=by
 unfold yQ;generalize a t=y at *;generalize ix t=z at *;cases y with
 | agg cs =>
  dsimp only
  split
  ·rename_i k i;rw[aa]
   split
   ·rename_i hlt;rw[YM]at hlt;have h:=DF hi;subst h;have h2:=hlt;obtain⟨c,rfl,hc⟩:=Fq ha;refine qr λx hx=>?_;let⟨v,h1,h3⟩:=Ja hc hag hsz hx;exact⟨v,by simp[Instr.index,asIntOf,aN hu,h2,bH hsz,h1],h3⟩
   ·trivial
  ·trivial
 |_=>trivial
def GU
  (ha:RV w γ A bd (a t) va) (hi:RV w γ A bd (ix t) vi) (hu:C.P.underlying ty=some .string) :
  WP C A bd w γ (Instr.index ty va vi) (sZ a ix t g):=by
 unfold sZ;generalize a t=y at *;generalize ix t=z at *;cases ha with
 | str _ s =>
  dsimp only
  split
  ·rename_i k i;simp only[gy];cases hb:s.data.toList[i]? with
   |none=>trivial
   | some b =>
    have c:=DF hi;subst c;refine⟨.int .u8 b.toNat,?_,.int _ _ _⟩;have hlt:i<s.size:=by have:=(XI.1 hb).1;simpa using this
    have h:s[i]?=some b:=by rw[getElem?_pos s i hlt];have:=(XI.1 hb).2;rw[Array.getElem_toList]at this;exact congrArg some this
    simp[Instr.index,asIntOf,aN hu,h]
  ·trivial
 |_=>trivial
end
end
section
variable {rows:List (List AV)}
section
variable {C:Xg}{A:Nat->Nat->Prop}{bd:Nat}{w w':World}{γ γ':Gm}{hg:Nat->Xh}{nx:Nat}
def tO(w:World)(γ:Gm)(A:Nat->Nat->Prop)(bd sz:Nat)(rows:List (List AV))(b o:Nat):Prop :=
 (∀(i:Nat) row,rows[i]?=some row->row.length=sz) /\
 ∀(i j:Nat) row x,rows[i]?=some row->row[j]?=some x->x.one=true/\∃v,w.cell? (Wy b (o+i*sz+j))=some v/\RV w γ A bd x v
def F9{sz k:Nat}(hr:∀(i:Nat) row,rows[i]?=some row->row.length=sz)(hk:k<rows.length*sz) :
  ∃row x,rows[k / sz]?=some row/\row[k % sz]?=some x:=by
 have h0:0<sz:=by
  rcases aaI sz with h|h
  ·subst h;simp at hk
  ·exact h
 have hi:k / sz<rows.length:=by rw[abA h0];exact hk
 have e:=XJ hi;have hl:=hr _ _ e;have a:k % sz<rows[k / sz].length:=by rw[hl];exact YX _ h0
 exact⟨_,_,e,XJ a⟩
def DU{sz o:Nat}(h:tO w γ A bd sz rows b o)(P:Program) :
  ∃c,(loadCells (Wy b o) (rows.length*sz)).run P w=.ok c w/\c.size=rows.length*sz/\Xe w γ A bd sz rows c:=by
 have n:∀k:Fin (rows.length*sz),∃v,w.cell? (Wy b (o+k.1))=some v/\∀row x,rows[k.1 / sz]?=some row->row[k.1 % sz]?=some x->x.one=true/\RV w γ A bd x v:=by
  intro k;obtain⟨row,x,h1,h2⟩:=F9 h.1 k.2;obtain⟨a,v,c1,q⟩:=h.2 _ _ row x h1 h2;refine⟨v,?_,λrow' x' d e=>?_⟩
  ·have:o+k.1 / sz*sz+k.1 % sz=o+k.1:=by rw[Qc,Zm,YW]
   rw[<-this];exact c1
  ·rw[h1]at d;injection d with d;subst d;rw[h2]at e;injection e with e;subst e;exact⟨a,q⟩
 let f:Fin (rows.length*sz)->Value:=λk=>Classical.choose (n k)
 have hf:=λk=>Classical.choose_spec (n k);have l:(List.ofFn f).length=rows.length*sz:=by simp
 have m:=x9 (P:=P) (w:=w) (b:=b) (o:=o) (cs:=List.ofFn f) (λj c hc=>by
  have p:j<rows.length*sz:=by rw[<-l];exact (XI.1 hc).1
  rw[abL]at hc;simp[p]at hc;rw[<-hc];exact (hf ⟨j,p⟩).1)
 rw[l]at m;refine⟨_,m,by simp,by simp,h.1,λi j row x h1 h2=>?_⟩;have hi:i<rows.length:=(XI.1 h1).1;have p:j<sz:=by rw[<-h.1 i row h1];exact (XI.1 h2).1
 have hk:i*sz+j<rows.length*sz:=by have:(i+1)*sz<=rows.length*sz:=Ye _ hi;rw[Yk,Y8]at this;omega
 have e1:(i*sz+j) / sz=i:=by rw[abX,Nat.add_mul_div_right _ _ (by omega),Zw p];omega
 obtain⟨a,b'⟩:=(hf ⟨i*sz+j,hk⟩).2 row x (by rw[e1];exact h1) (by rw[L8 p];exact h2);exact⟨a,f ⟨i*sz+j,hk⟩,by simp[hk],b'⟩
def tO.sub{sz o:Nat}(h:tO w γ A bd sz rows b o)(l n:Nat):tO w γ A bd sz ((rows.drop l).take n) b (o+l*sz):=by
 refine⟨λi row hi=>?_,λi j row x hi hj=>?_⟩
 ·have k:i<n:=by have:=(XI.1 hi).1;simp at this;omega
  rw[Yv k,YH]at hi;exact h.1 _ _ hi
 ·have k:i<n:=by have:=(XI.1 hi).1;simp at this;omega
  rw[Yv k,YH]at hi;let⟨a,v,c1,c⟩:=h.2 _ _ row x hi hj;exact⟨a,v,by rw[show o+l*sz+i*sz+j=o+(l+i)*sz+j from by rw[Yk];omega];exact c1,c⟩
def D8(hr:W4 C A bd w γ hg nx){id sz:Nat}{fz:Bool}(hid:hg id=.cells sz rows ep loose fz) :
  tO w γ A bd sz rows (γ id).blk (γ id).base:=by
 have h:=hr.obj id;rw[hid]at h;let⟨b,k2,d,f,l,m,c,e,n,o,a,k⟩:=h;exact⟨a,λi j row x h1 h2=>Ba hr hid h1 j x h2⟩
def KH(hr:W4 C A bd w γ hg nx){sz:Nat}{x:AV}{h:H}(hx:RV w γ A bd x v)
  (hrow:ak h sz x=some rows) (agree:∀id∈aw x,hg id=h.get id) :
  ∃b o cap,(v=.slice none 0 0/\rows=[]\/v=.slice (some (Wy b o)) rows.length cap\/(∃a,v=.slice (some a) 0 cap)/\rows=[])/\tO w γ A bd sz rows b o:=by
 unfold ak at hrow;cases hx with
 |XC=>cases hrow;exact⟨0,0,0,.inl ⟨rfl,rfl⟩,λi row h=>by simp at h,λi j row x h=>by simp at h⟩
 |Wd _ a=>cases hrow;exact⟨0,0,0,.inr (.inr ⟨⟨a,rfl⟩,rfl⟩),λi row h=>by simp at h,λi j row x h=>by simp at h⟩
 | Wt _ tag sz' a cap ht =>
  simp only[aa]at hrow
  split at hrow
  ·cases hrow;exact⟨0,0,cap,.inr (.inr ⟨⟨a,rfl⟩,rfl⟩),λi row h=>by simp at h,λi j row x h=>by simp at h⟩
  ·cases hrow
 | WO _ tag sz' rows' b o cap cell ht hc hb hm ha hrl ho hw h =>
  simp only[aa]at hrow
  split at hrow
  ·rename_i hcond;injection hrow with hrow;subst hrow;refine⟨b,o,cap,.inr (.inl rfl),?_⟩;simp only[YE]at hcond;rcases hcond with hcond|hcond
   ·have:=ba hcond;subst this;exact⟨hrl,λi j row x h1 h2=>⟨ho i j row x h1 h2,_,hw i j row x h1 h2,(h i j row x h1 h2).mono ht⟩⟩
   ·have:rows'=[]:=by cases rows'<;>simp_all
    subst this;exact⟨λi row h=>by simp at h,λi j row x h=>by simp at h⟩
  ·cases hrow
 | Xj _ id ep off len lim b o cap hk he hc h =>
  have k:=agree id (by simp[aw]);dsimp only at hrow;rw[<-k]at hrow;cases hid:hg id with
  | cells sz' rows' ep' loose fz =>
   rw[hid]at hrow;simp only[aa,ay,bI,bK]at hrow
   split at hrow
   ·rename_i hcond;simp only[XM,Yt]at hcond;let⟨⟨h1,h2⟩,h3⟩:=hcond;have h1:=ba h1;have h2:=ba h2;subst h2;cases hrow;have c:=hr.obj id;rw[hid]at c;let⟨f,k2,e,_⟩:=c;let⟨c1,d,_⟩:=h (h1.trans k2.symm);refine⟨b,o,cap,.inr (.inl ?_),?_⟩
    ·simp;omega
    ·rw[c1,d,e];exact (D8 hr hid).sub off len
   ·cases hrow
  |_=>rw[hid]at hrow;cases hrow
 |_=>cases hrow
def Xe.append{sz:Nat}{r1 r2:List (List AV)}{c1 c2:Array Value}(h1:Xe w γ A bd sz r1 c1)(e1:c1.size=r1.length*sz)(h2:Xe w γ A bd sz r2 c2) :
  Xe w γ A bd sz (r1++r2) (c1++c2):=by
 refine⟨by have:=h2.1;simp[Yk];omega,λi row hi=>?_,λi j row x hi hj=>?_⟩
 ·rw[aav]at hi
  split at hi
  ·exact h1.2.1 _ _ hi
  ·exact h2.2.1 _ _ hi
 ·rw[aav]at hi
  split at hi
  ·rename_i hlt;let⟨a,v,b1,b2⟩:=h1.2.2 i j row x hi hj;have h:=(Z9.1 b1).1;exact⟨a,v,by rw[aas h];exact b1,b2⟩
  ·rename_i k;let⟨a,v,b1,b2⟩:=h2.2.2 _ j row x hi hj;have:i*sz=r1.length*sz+(i - r1.length)*sz:=by rw[<-Yk];congr 1;omega
   refine⟨a,v,?_,b2⟩;rw[abb (by omega),<-b1];congr 1;omega
def Xe.more{sz:Nat}{r1:List (List AV)}{c1 c2:Array Value}(h1:Xe w γ A bd sz r1 c1):Xe w γ A bd sz r1 (c1++c2):=by refine⟨by have:=h1.1;simp;omega,h1.2.1,λi j row x hi hj=>?_⟩;let⟨a,v,b1,b2⟩:=h1.2.2 i j row x hi hj;have h:=(Z9.1 b1).1;exact⟨a,v,by rw[aas h];exact b1,b2⟩
def Xe.step{sz:Nat}{r1:List (List AV)}{c1:Array Value}(h1:Xe w γ A bd sz r1 c1)(s:Stp w γ w' γ'):Xe w' γ' A bd sz r1 c1 :=⟨h1.1,h1.2.1,λi j row x hi hj=>let ⟨a,v,b1,b2⟩:=h1.2.2 i j row x hi hj;⟨a,v,b1,b2.step s⟩⟩
def Xe.flat{sz:Nat}(h:Xe w γ A bd sz rows c)(e:c.size=rows.length*sz) :
  Wa w γ A bd rows.flatten c.toList/\(∀(i:Nat) y,rows.flatten[i]?=some y->y.one=true) /\
  (∀(i j:Nat) row,rows[i]?=some row->j<sz->rows.flatten[i*sz+j]?=row[j]?):=by
 have f:rows.flatten.length=rows.length*sz:=by
  have h2:=h.2.1;clear e h
  induction rows with
  |nil=>simp
  | cons r rs ih =>have h0:=h2 0 r rfl;simp only[ZL,Yo,Yp,Yk,Y8];rw[ih (λi row hi=>h2 (i+1) row (by simpa using hi)),h0];omega
 have d:∀(i j:Nat) row,rows[i]?=some row->j<sz->rows.flatten[i*sz+j]?=row[j]?:=by
  have h2:=h.2.1;clear e f h
  induction rows with
  |nil=>intro i j row hi;simp at hi
  | cons r rs ih =>
   intro i j row hi m;have h0:=h2 0 r rfl;cases i with
   |zero=>simp at hi;subst hi;simp only[ZL,aaV,YT];rw[XW (by omega)]
   | succ i =>simp only[ZL];rw[Yk,Y8,X_ (by omega),h0,show i*sz+sz+j - sz=i*sz+j from by omega];exact ih (λi row hi=>h2 (i+1) row (by simpa using hi)) i j row (by simpa using hi) m
 have b:∀(k:Nat) y,rows.flatten[k]?=some y->∃row,rows[k / sz]?=some row/\row[k % sz]?=some y/\k / sz*sz+k % sz=k:=by
  intro k y l;have hk:k<rows.length*sz:=by rw[<-f];exact (XI.1 l).1
  let⟨row,x,h1,h2⟩:=F9 h.2.1 hk;have h0:0<sz:=by
   rcases aaI sz with h|h
   ·subst h;simp at hk
   ·exact h
  have ek:k / sz*sz+k % sz=k:=by rw[Zm,YW]
  have:=d _ _ row h1 (YX k h0);rw[ek,l]at this;exact⟨row,h1,this.symm,ek⟩
 refine⟨⟨by rw[f];simp[e],λk y v l hv=>?_⟩,λk y l=>?_,d⟩
 ·let⟨row,h1,h2,h3⟩:=b k y l;let⟨a,u,b1,b2⟩:=h.2.2 _ _ row y h1 h2;rw[h3]at b1;simp only[aap]at hv;rw[hv]at b1;cases b1;exact b2
 ·let⟨row,h1,h2,h3⟩:=b k y l;exact (h.2.2 _ _ row y h1 h2).1
end
end
section
variable {rows:List (List AV)}
section
variable {C:Xg}{A:Nat->Nat->Prop}{bd:Nat}{w w':World}{γ γ':Gm}{hg:Nat->Xh}{nx:Nat}
def World.drewn(w:World):World:={ w with drawn:=w.drawn+1 }
def Bh:Stp w γ (World.drewn w) γ :=⟨XH _,rfl,rfl,rfl,λ_ _ _=>rfl,λ_ _ h=>h,λ_ _=>.inl ⟨rfl,rfl⟩,λ_ _=>⟨XH _,λ_=>⟨rfl,rfl,rfl,rfl,rfl⟩⟩,abi _⟩
def W4.stpSame(h:W4 C A bd w γ hg nx)(s:Stp w γ w' γ)(hh:w'.heap=w.heap):W4 C A bd w' γ hg nx where
 obj id:=(h.obj id).step s rfl (λ_ _=>by rw[hh])
 lt id hk:=by rw[hh];exact h.lt id hk
 inj:=h.inj
 av:=h.av
 ab t b hb:=by rw[hh];exact h.ab t b hb
 V_ g sz rows hg:=(h.V_ g sz rows hg).step s
def Ca(need cap:Nat)(h:cap<need):Builtin.nextslicecap need cap<=2*need+192:=by
 have grow:∀(r c:Nat),c<=2*need+192->Builtin.growBy need r c<=2*need+192:=by
  intro r
  induction r with
  |zero=>intro c hc;exact hc
  | succ r ih =>
   intro c hc;simp only[Builtin.growBy]
   split
   ·exact hc
   ·exact ih _ (by omega)
 unfold Builtin.nextslicecap
 split
 ·omega
 ·split
  ·omega
  ·exact grow _ _ (by omega)
def Ql:∀{vs:List Value} {as:List AV},D_ vs=some as->vs.length=as.length:=by
 intro vs
 induction vs with
 |nil=>intro as h;simp[D_]at h;subst h;rfl
 | cons v vs ih =>
  intro as h;simp only[D_]at h
  split at h
  ·rename_i a as' h1 h2;cases h;simp[ih h2]
  ·cases h
structure Src (C:Xg) (A:Nat->Nat->Prop) (bd sz:Nat) (w:World) (γ:Gm) (new:List (List AV)) (m:Sem (Array Value)):Prop where
 run:∀w1:World,w1.heap=w.heap->∃c,m.run C.P w1=.ok c w1/\c.size=new.length*sz/\Xe w γ A bd sz new c
def jN(e:TypeId)(sz bytes:Nat)(base:Option Addr)(sLen sCap n:Nat)(kN:Bool)(s x:Value)(appended:Sem (Array Value)):Sem Value:=do
 let need:=sLen+n
 if need<=sCap then
  let new <-appended
  if let some a:=base then storeCells (a.add (sLen*sz)) new.toList
  pure (.slice base need sCap)
 else
  if (need : Int) > IntKind.i64.max ∧ (kN ∨ (← typeInfo e).bytes = 0) then runtimePanic (.error "growslice: len out of range")
  if Builtin.nextslicecap need sCap * (← typeInfo e).bytes > 2 ^ 48 then (if kN then runtimePanic (.error "growslice: len out of range") else do
   if !(<-Builtin.mayShare sz sLen n base x) then mark .noRoom
   unsupported (.resourceLimit "append: a slice or a string whose bytes no memory bears"))
  let newCap <-choose (.appendCap need sCap e)
  askRoom (newCap*(<-typeInfo e).bytes)
  let old <-Builtin.firstCells sz sLen s
  let new <-appended
  let rest:=Builtin.zeroCells (<-zeroValue e).cells (newCap - need)
  pure (.slice (some (<-newRow e (old++new++rest))) need newCap)
def tp{sz:Nat}{base:Option Addr}{sLen sCap:Nat}{zs:Bool}{s x:Value}{appended:Sem (Array Value)}{zero:List AV}
  (hby:lj C.P e=some bytes) (hz:gj C.P e=some zero) (hzl:zero.length=sz) (h0:0<bytes) (hroom:(sLen+n)*bytes<=aH) (hn:¬sLen+n<=sCap)
  {oldc newc:Array Value} (hold:(Builtin.firstCells sz sLen s).run C.P (World.drewn w)=.ok oldc (World.drewn w))
  (hnew:appended.run C.P (World.drewn w)=.ok newc (World.drewn w)) :
  ∃newCap rest,(sLen+n<=newCap/\newCap<=9223372036854775807)/\rest.size=(newCap - (sLen+n))*sz /\
   (jN e sz bytes base sLen sCap n zs s x appended).run C.P w =
    .ok (.slice (some (Wy w.heap.size 0)) (sLen+n) newCap) (World.add (World.drewn w) (.cells (oldc++newc++rest) e (0,0))):=by
 have hi:∃i,C.P.info? e=some i/\i.bytes=bytes:=by
  unfold lj at hby;cases hie:C.P.info? e with
  |none=>rw[hie]at hby;cases hby
  |some i=>rw[hie]at hby;simp at hby;exact⟨i,rfl,hby⟩
 obtain⟨i,i1,l⟩:=hi;obtain⟨z,p,r⟩:=te (w:=World.drewn w) hz;have f:z.cells.size=sz:=by have:=Ql r;simp at this;omega
 unfold aH at hroom;have o:sLen+n<=(sLen+n)*bytes:=Nat.le_mul_of_pos_right _ h0;have d:=Ca (sLen+n) sCap (by omega);have m:Builtin.nextslicecap (sLen+n) sCap*bytes<=2 ^ 48:=by
  have h1:Builtin.nextslicecap (sLen+n) sCap*bytes<=(2*(sLen+n)+192)*bytes:=Ye _ d;have h2:bytes<=(sLen+n)*bytes:=Nat.le_mul_of_pos_left _ (by omega);have h3:(2*(sLen+n)+192)*bytes=2*((sLen+n)*bytes)+192*bytes:=by rw[Yk,aaD]
  omega
 let q:Question:=.appendCap (sLen+n) sCap e
 let newCap:=q.cut (w.tape w.drawn q)
 have k:sLen+n<=newCap/\newCap<=9223372036854775807:=by have j:w.tape w.drawn q % (2 ^ 63 - (sLen+n))<2 ^ 63 - (sLen+n):=YX _ (by omega);have:newCap=(sLen+n)+w.tape w.drawn q % (2 ^ 63 - (sLen+n)):=rfl;omega
 refine⟨newCap,Builtin.zeroCells z.cells (newCap - (sLen+n)),k,by simp[Builtin.zeroCells,f],?_⟩;unfold jN;have a:¬(((sLen+n:Nat):Int) > IntKind.i64.max):=by
  have:IntKind.i64.max=9223372036854775807:=by decide
  rw[this];omega
 have b:(choose (.appendCap (sLen+n) sCap e)).run C.P w=.ok newCap (World.drewn w):=by rw[run_choose];rfl
 have c:¬(Builtin.nextslicecap (sLen+n) sCap*bytes > 2 ^ 48):=by omega
 dsimp only;rw[XS hn];simp only[Yb,py i1,XT,l];rw[XS (λh=>a h.1)];simp only[XT,Yb,py i1,l];rw[XS c];simp only[Yb,Yu,XT,b,py i1,run_askRoom,hold,hnew,p,js]
 rfl
def vz{sz:Nat}{base:Option Addr}{sLen sCap:Nat}{zs:Bool}{s x:Value}{appended:Sem (Array Value)}
  (hn:sLen+n<=sCap) {newc:Array Value} (hnew:appended.run C.P w=.ok newc w) :
  (jN e sz bytes base sLen sCap n zs s x appended).run C.P w =
   match base with
   |none=>.ok (.slice none (sLen+n) sCap) w
   |some a=>((storeCells (a.add (sLen*sz)) newc.toList).run C.P w).andThen λ_ w'=>.ok (.slice (some a) (sLen+n) sCap) w':=by
 unfold jN;dsimp only;rw[XO hn];simp only[Yb,hnew,XT];cases base with
 |none=>simp
 |some a=>simp
def PD(hr:W4 C A bd w γ hg nx){id sz:Nat}{lim:Option Nat}{fz:Bool}
  (hv:RV w γ A bd (.Xj id ep off len lim) v) (hid:hg id=.cells sz rows ep loose fz) :
  ∃cap,v=.slice (some (Wy (γ id).blk ((γ id).base+off*sz))) len cap/\len<=cap/\ni lim off cap (γ id):=by
 cases hv with
 | Xj _ _ _ _ _ _ b o cap hk he hc h =>have k:=hr.obj id;rw[hid]at k;let⟨e,k2,d,_⟩:=k;let⟨c1,a,c⟩:=h k2.symm;exact⟨cap,by rw[c1,a,d],hc,c⟩
def wI{o cap sz:Nat}(h:tO w γ A bd sz rows b o)(hl:rows.length=len) :
  ∃c,(Builtin.firstCells sz len (.slice (some (Wy b o)) len cap)).run P w=.ok c w/\c.size=rows.length*sz/\Xe w γ A bd sz rows c:=by
 let⟨c,h1,h2,h3⟩:=DU h P;exact⟨c,by simp only[Builtin.firstCells];rw[<-hl];exact h1,h2,h3⟩
def tO.same{sz o:Nat}(h:tO w γ A bd sz rows b o)(s:Stp w γ w' γ)(hh:w'.heap=w.heap):tO w' γ A bd sz rows b o :=⟨h.1,λi j row x h1 h2=>let ⟨a,v,c,d⟩:=h.2 i j row x h1 h2;⟨a,v,by rw[Ci (w:=w) (w':=w') (by rw[hh])];exact c,d.step s⟩⟩
def Xe.back{sz:Nat}(h:Xe (World.drewn w) γ A bd sz rows c):Xe w γ A bd sz rows c:=by let⟨h1,h2,h3⟩:=h;exact⟨h1,h2,λi j row x a b=>let ⟨c,v,d,e⟩:=h3 i j row x a b;⟨c,v,d,e.heap rfl⟩⟩
def FO{sz:Nat}{cs:Array Value}(hr:W4 C A bd w γ hg nx){g:G}(hf:(γ g.nx).kind=0)
  (h:Xe w γ A bd sz rows cs) (len cap:Nat) (hc:cap*sz<=cs.size) (hcap:rows.length<=cap) (hlen:len=rows.length) (hmax:cap<=9223372036854775807) :
  ∃γ',W4 C A bd (World.add (World.drewn w) (.cells cs e (0,0))) γ' (upd hg g.nx (.cells sz rows 0 true false)) (Nat.max nx (g.nx+1)) /\
   Stp w γ (World.add (World.drewn w) (.cells cs e (0,0))) γ' /\
   RV (World.add (World.drewn w) (.cells cs e (0,0))) γ' A bd (.Xj g.nx 0 0 len none) (.slice (some (Wy w.heap.size 0)) len cap):=by
 have a:Stp w γ (World.drewn w) γ:=Bh;have k:=hr.stpSame a rfl;let⟨γ',b,c,d⟩:=ud e k hf (h.step a) len cap true (cap - rows.length) ⟨λh=>(by cases h),λ_=>(by omega)⟩
  (by rw[show rows.length+(cap - rows.length)=cap from by omega];exact hc) (by omega) (by omega)
 exact⟨γ',b,a.trans c,d⟩
def W4.moved(hr:W4 C A bd w γ hg nx){id:Nat}{sz:Nat}{rows':List (List AV)}(hid:hg id=.cells sz rows ep loose false)
  {w1:World} {gh:Gh} (h1:gh.kind=1) (h2:gh.ep=ep+1) (h3:gh.sz=sz) (h4:gh.n=rows'.length) (h5:gh.wr=true)
  (hos:w1.os=w.os/\w1.tape=w.tape/\w1.output=w.output/\w.heap.size<=w1.heap.size) (hdr:w.drawn<=w1.drawn)
  (hmax:rows'.length+gh.WV<=9223372036854775807) (hb:gh.blk=(γ id).blk\/(gh.blk=w.heap.size/\w.heap.size<w1.heap.size))
  (hheap:∀b,b<w.heap.size->b≠(γ id).blk->w1.heap[b]?=w.heap[b]?)
    (hc:w1.heap[gh.blk]?=some (.cells c e (0,0))) (hsz:gh.base+(rows'.length+gh.WV)*sz<=c.size)
  (hrl:∀(i:Nat) row,rows'[i]?=some row->row.length=sz)
  (hcell:∀(i j:Nat) row x,rows'[i]?=some row->row[j]?=some x->x.one=true/\∃v,c[gh.base+i*sz+j]?=some v/\RV w γ A bd x v) :
  W4 C A bd w1 (upd γ id gh) (upd hg id (.cells sz rows' (ep+1) true false)) nx/\Stp w γ w1 (upd γ id gh):=by
 have k:=hr.obj id;rw[hid]at k;let⟨f,k2,r,u,y,o,_⟩:=k;have hk:(γ id).kind≠0:=by rw[f];decide
 have hw:(γ id).wr=true:=by simpa using o
 have hlt:=hr.lt id hk;have s:Stp w γ w1 (upd γ id gh):=by
  refine⟨hos.2.2.2,hos.1,hos.2.1,hos.2.2.1,λb hb' hm=>hheap b hb' (λe=>hm ⟨id,hk,hw,e.symm⟩),λb hb'=>?_,λj hj=>?_,λj hj=>?_,hdr⟩
  ·rintro⟨j,l,m,d⟩
   by_cases hj:j=id
   ·subst hj;simp only[upd_same]at d;rcases hb with hb|hb
    ·exact⟨j,hk,hw,by rw[<-hb];exact d⟩
    ·omega
   ·rw[dD _ _ hj]at l m d;exact⟨j,l,m,d⟩
  ·by_cases hji:j=id
   ·subst hji;rw[upd_same];exact .inr ⟨f,h1,by rw[h2,k2];omega⟩
   ·rw[dD _ _ hji];exact .inl ⟨rfl,rfl⟩
  ·by_cases hji:j=id
   ·subst hji;rw[upd_same,h2,k2];exact⟨by omega,λh=>by omega⟩
   ·rw[dD _ _ hji];exact⟨XH _,λ_=>⟨rfl,rfl,rfl,rfl,rfl⟩⟩
 refine⟨hr.set rfl s (XH _) ?_ ⟨hlt.1,?_⟩ (λj hj hkj e=>?_) ?_ (λj hj hkj _=>?_),s⟩
 ·simp only[WC,upd_same];refine⟨h1,h2,h3,h4,⟨λh=>(by cases h),λ_=>hmax⟩,by rw[h5];rfl,c,e,hc,hsz,hrl,λi j row x a b=>?_⟩;let⟨p,v,q,q2⟩:=hcell i j row x a b;exact⟨p,v,q,q2.step s⟩
 ·rcases hb with hb|hb
  ·rw[hb];omega
  ·omega
 ·rcases hb with hb|hb
  ·exact hj (hr.inj j id hkj hk (by rw[e,hb]))
  ·have:=(hr.lt j hkj).2;omega
 ·rcases hb with hb|hb
  ·rw[hb];exact hr.av id hk
  ·exact λt ht=>by have:=hr.ab t _ ht;omega
 ·exact hheap _ (hr.lt j hkj).2 (λe=>hj (hr.inj j id hkj hk e))
end
end
section
variable {rows:List (List AV)}
section
variable {C:Xg}{A:Nat->Nat->Prop}{bd:Nat}{w w':World}{γ γ':Gm}{hg:Nat->Xh}{nx:Nat}
def EC(a:Addr):(storeCells a []).run P w=.ok () w:=rfl
def Jf{new:List (List AV)}(h:off+new.length<=rows.length) :
  (mb rows off new).length=rows.length/\∀i,(mb rows off new)[i]?=if off<=i/\i<off+new.length then new[i - off]? else rows[i]?:=by
 unfold mb;simp only[kK,bI,bK,ay]
 split
 ·rename_i r;refine⟨by simp,λi=>?_⟩;simp only[Yp,Z2]at h ⊢;rw[YB]
  by_cases hi:off=i
  ·subst hi;rw[XO rfl,dk,dk];simp
  ·rw[XS hi,aJ]
 ·refine⟨by simp;omega,λi=>?_⟩
  by_cases h1:i<off
  ·rw[aJ,XW (by simp;omega),Yv h1]
  ·rw[X_ (by simp;omega)];simp only[X5,YG (show off<=rows.length by omega)]
   by_cases h2:i<off+new.length
   ·rw[XO ⟨by omega,h2⟩,XW (by omega)]
   ·rw[aJ,X_ (by omega),YH];congr 1;omega
def W4.storeRows(hr:W4 C A bd w γ hg nx){id sz:Nat}{new:List (List AV)}(hid:hg id=.cells sz rows ep loose false)
   (hc:Xe w γ A bd sz new c) (hcs:c.size=new.length*sz) (hle:off+new.length<=rows.length) (P:Program) :
  ∃w',(Go.storeCells (Wy (γ id).blk ((γ id).base+off*sz)) c.toList).run P w=.ok () w' /\
   W4 C A bd w' γ (upd hg id (.cells sz (mb rows off new) ep loose false)) nx/\Stp w γ w' γ:=by
 let⟨n,f⟩:=Jf hle;have a:=hr.obj id;rw[hid]at a;let⟨p,k2,q,r,s,t,cc,e,u,v,d,m⟩:=a;obtain⟨f1,f2,l⟩:=hc.flat hcs;have hcl:c.toList.length=new.length*sz:=by simp[hcs]
 have k:(off+new.length)*sz<=rows.length*sz:=Ye _ hle;rw[Yk]at k;refine hr.storeCells hid (o:=(γ id).base+off*sz) (xs:=new.flatten) f1 f2 n (λi row hi=>?_) ⟨by omega,by omega⟩ (λi j row x hi hj=>?_) P
 ·rw[f]at hi
  split at hi
  ·exact hc.2.1 _ _ hi
  ·exact d _ _ hi
 ·rw[f]at hi;rw[hcl];have b:j<sz:=by
   have hl:row.length=sz:=by
    split at hi
    ·exact hc.2.1 _ _ hi
    ·exact d _ _ hi
   rw[<-hl];exact (XI.1 hj).1
  by_cases hcond:off<=i/\i<off+new.length
  ·rw[XO hcond]at hi;have h1:off*sz<=i*sz:=Ye _ hcond.1;have h2:(i+1)*sz<=(off+new.length)*sz:=Ye _ hcond.2;rw[Yk,Y8,Yk]at h2;rw[dk];have h3:(i - off)*sz+off*sz=i*sz:=by rw[<-Yk];congr 1;omega
   rw[show (γ id).base+i*sz+j - ((γ id).base+off*sz)=(i - off)*sz+j from by omega,l _ _ row hi b];exact hj
  ·rw[XS hcond]at hi;rw[XS]
   ·exact⟨row,hi,hj⟩
   ·rintro⟨l1,l2⟩;apply hcond;refine⟨?_,?_⟩
    ·rcases ZN i off with h|h
     ·have:(i+1)*sz<=off*sz:=Ye _ h;rw[Yk,Y8]at this;omega
     ·exact h
    ·rcases ZN i (off+new.length) with h|h
     ·exact h
     ·have:(off+new.length)*sz<=i*sz:=Ye _ h;rw[Yk]at this;omega
def Rd(h:off+len<=rows.length):((rows.drop off).take len).length=len:=by simp;omega
noncomputable def CK(sz bytes:Nat)(s0:AV)(new:List (List AV))(g:G):OR :=
 match new with
 |[]=>.val s0
 |_=>ax (Nat.ble (bD new*bytes) aH) (.upd (.Xj g.nx 0 0 (bD new) none) (g.new (.cells sz new 0 true false))) .fail
def vA{sz:Nat}{zero:List AV}{s:AV}{x:Value}{new:List (List AV)}{zs:Bool}{appended:Sem (Array Value)}{g:G}
  (hr:W4 C A bd w γ hg nx) (hf:(γ g.nx).kind=0) (hs:RV w γ A bd s v) (hby:lj C.P e=some bytes) (hz:gj C.P e=some zero) (hzl:zero.length=sz)
  (hb0:0<bytes) (happ:∀w1:World,w1=w\/w1=World.drewn w->∃c,appended.run C.P w1=.ok c w1/\c.size=new.length*sz/\Xe w γ A bd sz new c)
  (agree:∀id∈aw s,hg id=g.h.get id) :
  bB sz bytes s new g=.fail\/∃base sLen sCap,v=.slice base sLen sCap /\
   dE C A bd w γ hg nx (jN e sz bytes base sLen sCap new.length zs v x appended) g (bB sz bytes s new g):=by
 have D:∀(base:Option Addr) (cap:Nat),new=[]->∀len,len<=cap->(jN e sz bytes base len cap new.length zs (.slice base len cap) x appended).run C.P w=.ok (.slice base len cap) w:=by
  intro base cap hn len hl;obtain⟨c,c1,u,_⟩:=happ w (.inl rfl);have K:c=#[]:=by rw[hn]at u;simpa using u
  rw[vz (by rw[hn];simpa using hl) c1,hn,K];cases base<;>simp[EC]
 have B:∀(base:Option Addr) (W:AV),RV w γ A bd W (.slice base 0 0)->(Builtin.firstCells sz 0 (.slice base 0 0)).run C.P (World.drewn w)=.ok #[] (World.drewn w) ->
   CK sz bytes W new g=.fail \/
   dE C A bd w γ hg nx (jN e sz bytes base 0 0 new.length zs (.slice base 0 0) x appended) g (CK sz bytes W new g):=by
  intro base W hd V;rcases hnew:new with _|⟨r,rs⟩
  ·exact .inr ⟨.slice base 0 0,hnew ▸ D base 0 hnew 0 (XH _),hd⟩
  ·rw[<-hnew];have h9:CK sz bytes W new g=ax (Nat.ble (bD new*bytes) aH) (OR.upd (.Xj g.nx 0 0 (bD new) none) (g.new (.cells sz new 0 true false))) OR.fail:=by rw[hnew];rfl
   rw[h9];simp only[ay,aa]
   split
   ·rename_i I;rw[Yt]at I;refine .inr ?_;obtain⟨c,c1,u,E⟩:=happ (World.drewn w) (.inr rfl);have hq:0<new.length:=by rw[hnew];simp
    obtain⟨newCap,rest,n1,n2,n3⟩:=tp (zs:=zs) (x:=x) (w:=w) hby hz hzl hb0 (sLen:=0) (n:=new.length) (sCap:=0) (by simpa using I) (by omega) V c1;have z:newCap*sz<=(#[]++c++rest).size:=by simp only[abh,n2,u,List.size_toArray,Z2];rw[YT,<-Yk];apply Ye;omega
    obtain⟨γ',R,S,s3⟩:=FO (e:=e) (cs:=#[]++c++rest) hr hf (by simpa using E.more) new.length newCap z (by omega) rfl n1.2;rw[YT]at n3;exact⟨_,_,γ',g.nx,_,n3,s3,S,.inr ⟨rfl,rfl,R⟩⟩
   ·exact .inl rfl
 unfold bB;cases hs with
 |XC=>exact (B none .XC (.XC _) (by simp[Builtin.firstCells])).imp id λh=>⟨none,0,0,rfl,h⟩
 |Wd _ a=>exact (B (some a) .Wd (.Wd _ a) (by simp[Builtin.firstCells,loadCells,loadCellsFrom])).imp id λh=>⟨some a,0,0,rfl,h⟩
 | WO _ tag sz' rows b o cap cell ht hc hb hm ha hrl ho hw h hcl =>
  cases hnew:new with
  | nil =>refine .inr ⟨some (Wy b o),rows.length,cap,rfl,.slice (some (Wy b o)) rows.length cap,(hnew ▸ D _ cap hnew rows.length hc),.WO _ tag sz' rows b o cap cell ht hc hb hm ha hrl ho hw h hcl⟩
  |cons r rs=>exact .inl rfl
 | Wt _ tag sz' a cap ht =>
  cases hnew:new with
  |nil=>exact .inr ⟨some a,0,cap,rfl,.slice (some a) 0 cap,(hnew ▸ D _ cap hnew 0 (Yi _)),.Wt _ tag sz' a cap ht⟩
  |cons r rs=>exact .inl rfl
 | Xj _ id ep off len lim b0 o0 cap0 hk he K h0 =>
  have J:=agree id (by simp[aw]);simp only[G.get_eq,<-J];cases hid:hg id with
  | cells sz' rows ep' loose fz =>
   dsimp only;simp only[ay,aa]
   split
   ·rename_i F;simp only[XM,Yt]at F;obtain⟨⟨⟨h1,h2⟩,h3⟩,h4⟩:=F;have h1:=ba h1;have h2:=ba h2;subst h1;subst h2;obtain⟨cap,hv,h8,f⟩:=PD hr (RV.Xj bd id ep off len lim b0 o0 cap0 hk he K h0) hid;rw[hv];have U:=hr.obj id;rw[hid]at U;obtain⟨k1,k2,k3,k4,k5,k6,cc,ee,k7,k8,k9,hh⟩:=U
    split
    ·rename_i d;rw[Yt]at d;have p:len+new.length<=cap:=by
      unfold ni at f;cases lim with
      |none=>simp at d;dsimp only at f;omega
      |some c=>simp at d;dsimp only at f;omega
     cases hnew:new with
     | nil =>refine .inr ⟨some (Wy (γ id).blk ((γ id).base+off*sz)),len,cap,rfl,.slice (some (Wy (γ id).blk ((γ id).base+off*sz))) len cap,(hnew ▸ D _ cap hnew len h8),?_⟩;rw[<-hv];exact RV.Xj bd id ep off len lim b0 o0 cap0 hk he K h0
     | cons r rs =>
      dsimp only;rw[<-hnew]
      split
      ·rename_i T;simp only[XM,Yt,WU,Zk]at T;obtain⟨h5,h6⟩:=T;subst h6;refine .inr ⟨_,_,_,rfl,?_⟩;obtain⟨c,c1,u,E⟩:=happ w (.inl rfl);obtain⟨w',r1,r2,r3⟩:=hr.storeRows hid (off:=off+len) E u (by omega) C.P;refine⟨.slice (some (Wy (γ id).blk ((γ id).base+off*sz))) (len+new.length) cap,w',γ,id,_,?_,?_,r3,.inl ⟨rfl,r2⟩⟩
       ·rw[vz p c1];dsimp only;rw[jL,show (γ id).base+off*sz+len*sz=(γ id).base+(off+len)*sz from by rw[Yk];omega,r1]
        rfl
       ·exact .Xj _ id ep off _ lim _ _ cap k1 (by omega) p (λ_=>⟨rfl,by rw[k3],f⟩)
      ·exact .inl rfl
    ·rename_i l;rw[Yt]at l;have t:=(D8 hr hid).sub off len;have k:=Rd (rows:=rows) (off:=off) (len:=len) h3;have M:Stp w γ (World.drewn w) γ:=Bh
     split
     ·rename_i q;refine .inr ⟨_,_,_,rfl,?_⟩;have Y:¬len+new.length<=cap:=by
       unfold ni at f;cases lim with
       | none =>simp at q;dsimp only at f;have:=k5.1 q;simp at l;omega
       |some c=>simp at l;dsimp only at f;omega
      obtain⟨c,c1,u,E⟩:=happ (World.drewn w) (.inr rfl);obtain⟨oc,o1,o2,o3⟩:=wI (P:=C.P) (cap:=cap) (t.same M rfl) k;rw[k]at o2;obtain⟨newCap,rest,n1,n2,n3⟩:=tp (zs:=zs) (x:=x) (w:=w) hby hz hzl hb0 (sLen:=len) (n:=new.length) (sCap:=cap) (base:=some (Wy (γ id).blk ((γ id).base+off*sz))) (by simpa using h4) Y o1 c1;have z:newCap*sz<=(oc++c++rest).size:=by simp only[abh,n2,u,o2];rw[<-Yk,<-Yk];apply Ye;omega
      have m:Xe w γ A bd sz ((rows.drop off).take len++new) (oc++c++rest):=(o3.back.append (by rw[k];exact o2) E).more;obtain⟨γ',R,S,s3⟩:=FO (e:=e) (cs:=oc++c++rest) hr hf m (len+new.length) newCap z (by simp[k];omega) (by simp[k]) n1.2;refine⟨_,_,γ',g.nx,_,n3,s3,S,.inr ⟨?_,rfl,R⟩⟩;simp only[bI,bK]
     ·rename_i X
      split
      ·exact .inl rfl
      ·rename_i N;have N:fz=false:=by simpa using N
       subst N;have hl:lim=none/\loose=true:=by cases lim<;>cases loose<;>simp_all
       obtain⟨h7,hl2⟩:=hl;subst h7;subst hl2;have hp:off+cap=rows.length+(γ id).WV:=by unfold ni at f;dsimp only at f;omega
       refine .inr ⟨_,_,_,rfl,?_⟩
       by_cases d:len+new.length<=cap
       ·
        obtain⟨c,c1,u,E⟩:=happ w (.inl rfl);have H:(γ id).base+off*sz+len*sz+c.toList.length<=cc.size:=by have:(off+(len+new.length))*sz<=(rows.length+(γ id).WV)*sz:=Ye _ (by omega);rw[Yk,Yk]at this;simp[u];omega
        obtain⟨f1,f2,f3⟩:=E.flat u;have L:=xa (P:=C.P) c.toList 0 w cc k7 (o:=(γ id).base+off*sz+len*sz) (by simpa using H) (Mu f1 f2);simp only[Zf]at L
        let gh:Gh:=⟨1,ep+1,sz,len+new.length,(γ id).blk,(γ id).base+off*sz,cap - (len+new.length),true⟩
        obtain⟨R,S⟩:=hr.moved hid (w1:=World.setBlk w (γ id).blk (.cells (bU cc ((γ id).base+off*sz+len*sz) c.toList) ee (0,0))) (gh:=gh)
         (rows':=(rows.drop off).take len++new) rfl rfl rfl (by simp[gh,k]) rfl ⟨rfl,rfl,rfl,by simp⟩ (XH _) (by have:=k5.2 rfl;simp[gh,k];omega) (.inl rfl)
         (λb _ hb=>by rw[eF,XS];rintro⟨e,_⟩;exact hb e)
         (c:=bU cc ((γ id).base+off*sz+len*sz) c.toList) (e:=ee)
         (by rw[eF];simp[gh,(hr.lt id (by rw[k1];decide)).2])
         (by simp only[gh,ja,Yo,k];have:(off+cap)*sz<=(rows.length+(γ id).WV)*sz:=Ye _ (by omega);rw[Yk]at this;rw[show len+new.length+(cap - (len+new.length))=cap from by omega];omega)
         (λi row hi=>by
          rw[aav]at hi
          split at hi
          ·exact t.1 _ _ hi
          ·exact E.2.1 _ _ hi)
         (λi j row y hi hj=>by
          rw[aav,k]at hi
          split at hi
          ·rename_i Q;have O:=hi;rw[Yv Q,YH]at O;have Z:j<sz:=by rw[<-k9 _ _ O];exact (XI.1 hj).1
           obtain⟨a,v,b1,b2⟩:=hh _ j row y O hj;refine⟨a,v,?_,b2⟩;rw[kJ _ _ _ _ H,XS]
           ·simp only[gh];rw[show (γ id).base+off*sz+i*sz+j=(γ id).base+(off+i)*sz+j from by rw[Yk];omega];exact b1
           ·simp only[gh];have:(i+1)*sz<=len*sz:=Ye _ Q;rw[Yk,Y8]at this;omega
          ·rename_i Q;have Z:j<sz:=by rw[<-E.2.1 _ _ hi];exact (XI.1 hj).1
           have hlt:i - len<new.length:=(XI.1 hi).1;obtain⟨a,v,b1,b2⟩:=E.2.2 _ j row y hi hj;refine⟨a,v,?_,b2⟩;have e1:i*sz=len*sz+(i - len)*sz:=by rw[<-Yk];congr 1;omega
           have e2:(i - len+1)*sz<=new.length*sz:=Ye _ hlt;rw[Yk,Y8]at e2;rw[kJ _ _ _ _ H];simp only[gh];rw[XO (by simp[u];omega),show (γ id).base+off*sz+i*sz+j - ((γ id).base+off*sz+len*sz)=(i - len)*sz+j from by omega];simpa using b1)
        refine⟨.slice (some (Wy (γ id).blk ((γ id).base+off*sz))) (len+new.length) cap,_,_,id,_,?_,?_,S,.inl ⟨?_,R⟩⟩
        ·rw[vz d c1];dsimp only;rw[jL,L];rfl
        ·refine .Xj _ id (ep+1) 0 _ none _ _ cap (by simp[gh]) (by simp[gh]) d (λ_=>⟨by simp[gh],by simp[gh],?_⟩);simp only[ni,upd_same,gh];omega
        ·simp only[bI,bK]
       ·
        obtain⟨c,c1,u,E⟩:=happ (World.drewn w) (.inr rfl);obtain⟨oc,o1,o2,o3⟩:=wI (P:=C.P) (cap:=cap) (t.same M rfl) k;rw[k]at o2;obtain⟨newCap,rest,n1,n2,n3⟩:=tp (zs:=zs) (x:=x) (w:=w) hby hz hzl hb0 (sLen:=len) (n:=new.length) (sCap:=cap) (base:=some (Wy (γ id).blk ((γ id).base+off*sz))) (by simpa using h4) d o1 c1;have z:newCap*sz<=(oc++c++rest).size:=by simp only[abh,n2,u,o2];rw[<-Yk,<-Yk];apply Ye;omega
        have m:Xe w γ A bd sz ((rows.drop off).take len++new) (oc++c++rest):=(o3.back.append (by rw[k];exact o2) E).more
        let gh:Gh:=⟨1,ep+1,sz,len+new.length,w.heap.size,0,newCap - (len+new.length),true⟩
        obtain⟨R,S⟩:=hr.moved hid (w1:=World.add (World.drewn w) (.cells (oc++c++rest) e (0,0))) (gh:=gh)
         (rows':=(rows.drop off).take len++new) rfl rfl rfl (by simp[gh,k]) rfl ⟨rfl,rfl,rfl,by simp[World.drewn]⟩ (abi _) (by have:=n1.1;have:=n1.2;simp[gh,k];omega) (.inr ⟨rfl,by simp[World.drewn]⟩)
         (λb hb _=>by rw[me,XS (by simp[World.drewn];omega)];rfl)
         (c:=oc++c++rest) (e:=e) (by rw[me];simp[gh,World.drewn])
         (by simp only[gh,Yo,k];rw[show len+new.length+(newCap - (len+new.length))=newCap from by omega];omega)
         m.2.1 (λi j row y hi hj=>by simpa [gh] using m.2.2 i j row y hi hj)
        refine⟨_,_,_,id,_,n3,?_,S,.inl ⟨?_,R⟩⟩
        ·refine .Xj _ id (ep+1) 0 _ none _ _ newCap (by simp[gh]) (by simp[gh]) n1.1 (λ_=>⟨by simp[gh],by simp[gh],?_⟩);simp only[ni,upd_same,gh];omega
        ·simp only[bI,bK]
   ·exact .inl rfl
  |_=>exact .inl rfl
 |_=>exact .inl rfl
end
end
section
variable {x:AV}{g:G}
section
variable {C:Xg}{A:Nat->Nat->Prop}{bd:Nat}{w w':World}{γ γ':Gm}{hg:Nat->Xh}{nx:Nat}
def UO(hr:W4 C A bd w γ hg nx){sz:Nat}{h:H}{rows:List (List AV)}(hx:RV w γ A bd x v)
  (hrow:ak h sz x=some rows) (agree:∀id∈aw x,hg id=h.get id) (P:Program) :
  ∃base cap,v=.slice base rows.length cap/\∀n,n<=rows.length->∀w1:World,w1=w\/w1=World.drewn w ->
   ∃c,(Builtin.firstCells sz n v).run P w1=.ok c w1/\c.size=n*sz/\Xe w γ A bd sz (rows.take n) c:=by
 let⟨b,o,cap,hv,e⟩:=KH hr hx hrow agree;have d:Xe w γ A bd sz [] #[]:=⟨by simp,λi row h=>by simp at h,λi j row x h=>by simp at h⟩;rcases hv with⟨rfl,rfl⟩|rfl|⟨⟨a,rfl⟩,rfl⟩
 ·exact⟨none,0,rfl,λn hn w1 _=>⟨#[],by simp[Builtin.firstCells],by simp at hn;simp[hn],by simpa using d⟩⟩
 ·refine⟨some (Wy b o),cap,rfl,λn hn w1 h1=>?_⟩;have k:=e.sub 0 n;simp only[Zc,aaV,Zf]at k;have hl:(rows.take n).length=n:=by simp[hn]
  rcases h1 with rfl|rfl
  ·have:=DU k P;rw[hl]at this;simpa [Builtin.firstCells] using this
  ·have:=DU (k.same Bh rfl) P;rw[hl]at this;let⟨c,c1,f,l⟩:=this;exact⟨c,by simpa [Builtin.firstCells] using c1,f,l.back⟩
 ·refine⟨some a,cap,rfl,λn hn w1 _=>?_⟩;simp at hn;subst hn;exact⟨#[],by simp[Builtin.firstCells,loadCells,loadCellsFrom],by simp,by simpa using d⟩
def JT{argTypes:Array TypeId}{xt e':TypeId}{sz:Nat}{zero:List AV}{s:AV}
  (hr:W4 C A bd w γ hg nx) (hf:(γ g.nx).kind=0) (h0:argTypes[0]?=some t) (h1:argTypes[1]?=some xt) (hu:C.P.underlying t=some (.slice e)) (hux:C.P.underlying xt=some (.slice e'))
  (hsz:Wx C.P e=some sz) (hby:lj C.P e=some bytes) (hz:gj C.P e=some zero) (hzl:zero.length=sz) (hb0:0<bytes)
  (hs:RV w γ A bd s v) (hx:RV w γ A bd x y) (agree:∀id∈aw s,hg id=g.h.get id) (agree':∀id∈aw x,hg id=g.h.get id) :
  dE C A bd w γ hg nx (Builtin.append_ argTypes ty #[v,y]) g (cZ sz bytes s x g):=by
 unfold cZ;cases hrow:ak g.h sz x with
 |none=>trivial
 | some new =>
  dsimp only;obtain⟨xb,xc,rfl,k⟩:=UO hr hx hrow agree' C.P;rcases vA hr hf hs hby hz hzl hb0
    (λw1 h=>by simpa using k new.length (XH _) w1 h) agree with h|⟨base,sLen,sCap,rfl,h⟩
  ·rw[h];trivial
  ·have e1:(Builtin.append_ argTypes ty #[.slice base sLen sCap,.slice xb new.length xc]).run C.P w =
     (jN e sz bytes base sLen sCap new.length false (.slice base sLen sCap) (.slice xb new.length xc) (Builtin.firstCells sz new.length (.slice xb new.length xc))).run C.P w:=by
    unfold Builtin.append_ jN;have a0:(#[Value.slice base sLen sCap,Value.slice xb new.length xc]:Array Value)[0]?=some (.slice base sLen sCap):=rfl;have a1:(#[Value.slice base sLen sCap,Value.slice xb new.length xc]:Array Value)[1]?=some (.slice xb new.length xc):=rfl;simp only[h0,h1,a0,a1,Yb,aN hu,aN hux,bH hsz,Builtin.lenOf,XT,Yu]
    rfl
   generalize bB sz bytes s new g=r at h ⊢;cases r<;>simpa only[dE,e1] using h
def HJ{argTypes:Array TypeId}{xt:TypeId}{k:IntKind}{sz:Nat}{zero:List AV}{s:AV}
  (hr:W4 C A bd w γ hg nx) (hf:(γ g.nx).kind=0) (h0:argTypes[0]?=some t) (h1:argTypes[1]?=some xt) (hu:C.P.underlying t=some (.slice e)) (hux:C.P.underlying xt=some (.int k))
  (hsz:Wx C.P e=some sz) (hby:lj C.P e=some bytes) (hz:gj C.P e=some zero) (hzl:zero.length=sz) (hs0:0<sz) (hb0:0<bytes)
  (hs:RV w γ A bd s v) (hx:RV w γ A bd x y) (agree:∀id∈aw s,hg id=g.h.get id) :
  dE C A bd w γ hg nx (Builtin.append_ argTypes ty #[v,y]) g (nA sz bytes zero s x g):=by
 unfold nA;cases hn:cd aH x with
 |none=>trivial
 | some n =>
  dsimp only;rw[aa]
  split
  ·rename_i a;rw[Yt]at a;obtain⟨n1,kk,rfl⟩:=zT hn hx;have hl:(gz n zero).length=n:=by simp[gz]
   have b:∀w1:World,w1=w\/w1=World.drewn w->∃c,(if n*sz=0 then pure #[] else do pure (Builtin.zeroCells (<-zeroValue e).cells n):Sem (Array Value)).run C.P w1=.ok c w1 /\
     c.size=(gz n zero).length*sz/\Xe w γ A bd sz (gz n zero) c:=by
    intro w1 _;obtain⟨z,o,l⟩:=te (w:=w1) hz;have j:z.cells.size=sz:=by have:=(xA (w:=w) (γ:=γ) (A:=A) (bd:=bd) l).1.1;simp at this;omega
    refine⟨kN z.cells (n*sz),?_,by rw[hl];simp[uA],Bm (ty:=e) l hzl hs0 (XH _)⟩
    by_cases h:n*sz=0
    ·rw[XO h,h];simp[kN]
    ·rw[XS h];simp[o,Builtin.zeroCells,kN,j]
   rcases vA (e:=e) (new:=gz n zero) (zs:=true) (x:=.int kk (n:Int)) hr hf hs hby hz hzl hb0 b agree with h|⟨base,sLen,sCap,rfl,h⟩
   ·rw[h];trivial
   ·rw[hl]at h;have hi:∃i,C.P.info? e=some i/\i.bytes=bytes:=by
     unfold lj at hby;cases hie:C.P.info? e with
     |none=>rw[hie]at hby;cases hby
     |some i=>rw[hie]at hby;simp at hby;exact⟨i,rfl,hby⟩
    obtain⟨i,i1,m⟩:=hi;unfold aH at n1 a;have w1:=uz n (by omega);have f:¬((n:Int)*(bytes:Int) > 2 ^ 48):=by rw[<-ZP];omega
    have e1:(Builtin.append_ argTypes ty #[.slice base sLen sCap,.int kk (n:Int)]).run C.P w =
      (jN e sz bytes base sLen sCap n true (.slice base sLen sCap) (.int kk (n:Int)) (if n*sz=0 then pure #[] else do pure (Builtin.zeroCells (<-zeroValue e).cells n))).run C.P w:=by
     unfold Builtin.append_ jN;have d:¬((n:Int)<0):=by omega
     have a0:(#[Value.slice base sLen sCap,Value.int kk (n:Int)]:Array Value)[0]?=some (.slice base sLen sCap):=rfl;have a1:(#[Value.slice base sLen sCap,Value.int kk (n:Int)]:Array Value)[1]?=some (.int kk (n:Int)):=rfl;simp only[h0,h1,a0,a1,Yb,aN hu,aN hux,bH hsz,XT,Yu,if_true,asInt,asIntOf,w1,py i1,m,XS f,XS d]
     rfl
    generalize bB sz bytes s (gz n zero) g=r at h ⊢;cases r<;>simpa only[dE,e1] using h
  ·trivial
def O5{argTypes:Array TypeId}{sz:Nat}{d:AV}
  (hr:W4 C A bd w γ hg nx) (h0:argTypes[0]?=some t) (hu:C.P.underlying t=some (.slice e)) (hsz:Wx C.P e=some sz)
  (hd:RV w γ A bd d v) (hx:RV w γ A bd x y) (agree:∀id∈aw d,hg id=g.h.get id) (agree':∀id∈aw x,hg id=g.h.get id) :
  dE C A bd w γ hg nx (Builtin.copy_ argTypes ty #[v,y]) g (Lx sz d x g):=True.intro
def M9{argTypes:Array TypeId}{sz:Nat}{zero:List AV}
  (hr:W4 C A bd w γ hg nx) (h0:argTypes[0]?=some t) (hu:C.P.underlying t=some (.slice e)) (hz:gj C.P e=some zero) (hzl:zero.length=sz) (hs0:0<sz)
  (hx:RV w γ A bd x y) (agree:∀id∈Mn x,hg id=g.h.get id) :
  dE C A bd w γ hg nx (Builtin.clear_ argTypes ty #[y]) g (J5 sz zero x g):=True.intro
end
end
end
end Hx
