/- A part of the proof: what the functions of the chapter compute. -/
import GoSem.Step
import Derived.RangeFuncIn
import Derived.Laws.Sem
import Derived.Laws.Tables
set_option linter.all false
section
namespace Hx
open Go
theorem Qs:type_of% @And.intro:=@And.intro
theorem Qt:type_of% @List.getElem?_eq_some_iff:=@List.getElem?_eq_some_iff
theorem Qu:type_of% @List.getElem?_eq_getElem:=@List.getElem?_eq_getElem
theorem Qv:type_of% @Nat.le_refl:=@Nat.le_refl
theorem Qw:type_of% @if_neg:=@if_neg
theorem Qx:type_of% @List.getElem?_map:=@List.getElem?_map
theorem Qy:type_of% @Bool.and_eq_true:=@Bool.and_eq_true
theorem Qz:type_of% @List.mem_of_getElem?:=@List.mem_of_getElem?
theorem QA:type_of% @if_pos:=@if_pos
theorem QB:type_of% @Result.andThen_ok:=@Result.andThen_ok
theorem QC:type_of% @Option.getD_some:=@Option.getD_some
theorem QD:type_of% @Int.eq_ofNat_of_zero_le:=@Int.eq_ofNat_of_zero_le
theorem QE:type_of% @List.getElem?_append_left:=@List.getElem?_append_left
theorem QF:type_of% @Sem.run_bind:=@Sem.run_bind
theorem QG:type_of% @List.not_mem_nil:=@List.not_mem_nil
theorem QH:type_of% @Array.getElem?_eq_getElem:=@Array.getElem?_eq_getElem
theorem QI:type_of% @List.cons_append:=@List.cons_append
theorem QJ:type_of% @List.length_map:=@List.length_map
theorem QK:type_of% @Nat.mul_le_mul_right:=@Nat.mul_le_mul_right
theorem QL:type_of% @List.getElem?_append_right:=@List.getElem?_append_right
theorem QM:type_of% @Nat.succ_pos:=@Nat.succ_pos
theorem QN:type_of% @List.append_nil:=@List.append_nil
theorem QO:type_of% @List.getElem?_of_mem:=@List.getElem?_of_mem
theorem QQ:type_of% @decide_eq_true_eq:=@decide_eq_true_eq
theorem QR:type_of% @Nat.add_mul:=@Nat.add_mul
theorem QS:type_of% @List.all_eq_true:=@List.all_eq_true
theorem QU:type_of% @List.eq_nil_of_length_eq_zero:=@List.eq_nil_of_length_eq_zero
theorem QV:type_of% @Nat.lt_of_lt_of_le:=@Nat.lt_of_lt_of_le
theorem QW:type_of% @Nat.le_trans:=@Nat.le_trans
theorem QX:type_of% @List.mem_range:=@List.mem_range
theorem QY:type_of% @List.nil_append:=@List.nil_append
theorem QZ:type_of% @List.reverse_nil:=@List.reverse_nil
theorem Q0:type_of% @List.mem_append:=@List.mem_append
theorem Q2:type_of% @List.reverse_cons:=@List.reverse_cons
theorem Q3:type_of% @Sem.run_pure:=@Sem.run_pure
theorem Q4:type_of% @List.take_length:=@List.take_length
theorem Q5:type_of% @List.getElem?_drop:=@List.getElem?_drop
theorem Q6:type_of% @Nat.ble_eq:=@Nat.ble_eq
theorem Q7:type_of% @Nat.beq_refl:=@Nat.beq_refl
theorem Q8:type_of% @List.mem_cons:=@List.mem_cons
theorem Q9:type_of% @List.length_cons:=@List.length_cons
theorem Q_:type_of% @List.length_take:=@List.length_take
theorem Ra:type_of% @List.getElem?_take_of_lt:=@List.getElem?_take_of_lt
theorem Rb:type_of% @Int.toNat_natCast:=@Int.toNat_natCast
theorem Rc:type_of% @Nat.zero_add:=@Nat.zero_add
theorem Rd:type_of% @List.mem_of_mem_drop:=@List.mem_of_mem_drop
theorem Re:type_of% @Array.getD_eq_getD_getElem?:=@Array.getD_eq_getD_getElem?
theorem Rf:type_of% @Nat.zero_le:=@Nat.zero_le
theorem Rg:type_of% @List.mem_singleton:=@List.mem_singleton
theorem Rh:type_of% @List.map_nil:=@List.map_nil
theorem Ri:type_of% @List.mem_map:=@List.mem_map
theorem Rj:type_of% @List.mem_cons_of_mem:=@List.mem_cons_of_mem
theorem Rk:type_of% @Bool.or_eq_true:=@Bool.or_eq_true
theorem Rl:type_of% @List.flatMap_cons:=@List.flatMap_cons
theorem Rm:type_of% @List.mem_cons_self:=@List.mem_cons_self
theorem Rn:type_of% @Nat.blt_eq:=@Nat.blt_eq
theorem Ro:type_of% @Nat.eq_of_beq_eq_true:=@Nat.eq_of_beq_eq_true
theorem Rq:type_of% @Int.natCast_mul:=@Int.natCast_mul
theorem Rr:type_of% @List.getElem?_set_self:=@List.getElem?_set_self
theorem Rs:type_of% @List.mem_of_mem_take:=@List.mem_of_mem_take
theorem Ru:type_of% @List.getElem?_set:=@List.getElem?_set
theorem Rv:type_of% @Option.some.injEq:=@Option.some.injEq
theorem Rx:type_of% @List.map_cons:=@List.map_cons
theorem Ry:type_of% @List.take_append_drop:=@List.take_append_drop
theorem Rz:type_of% @Option.map_some:=@Option.map_some
theorem RA:type_of% @List.drop_eq_getElem_cons:=@List.drop_eq_getElem_cons
theorem RB:type_of% @Nat.one_mul:=@Nat.one_mul
theorem RC:type_of% @List.getElem?_concat_length:=@List.getElem?_concat_length
theorem RD:type_of% @List.map_set:=@List.map_set
theorem RE:type_of% @List.take_of_length_le:=@List.take_of_length_le
theorem RF:type_of% @Nat.sub_self:=@Nat.sub_self
theorem RG:type_of% @List.append_assoc:=@List.append_assoc
theorem RH:type_of% @Array.getElem?_eq_some_iff:=@Array.getElem?_eq_some_iff
theorem RI:type_of% @List.drop_drop:=@List.drop_drop
theorem RJ:type_of% @Ne.symm:=@Ne.symm
theorem RK:type_of% @Classical.byContradiction:=@Classical.byContradiction
theorem RL:type_of% @Bool.not_eq_true:=@Bool.not_eq_true
theorem RM:type_of% @List.flatMap_nil:=@List.flatMap_nil
theorem RN:type_of% @Nat.le_max_left:=@Nat.le_max_left
theorem RO:type_of% @Nat.mod_eq_of_lt:=@Nat.mod_eq_of_lt
theorem RP:type_of% @Array.getElem?_eq_none:=@Array.getElem?_eq_none
theorem RQ:type_of% @Bool.not_eq_true':=@Bool.not_eq_true'
theorem RR:type_of% @Int.ofNat_eq_natCast:=@Int.ofNat_eq_natCast
theorem RS:type_of% @Bool.true_and:=@Bool.true_and
theorem RT:type_of% @List.replicate_succ:=@List.replicate_succ
theorem RU:type_of% @List.mem_iff_getElem:=@List.mem_iff_getElem
theorem RW:type_of% @List.length_append:=@List.length_append
theorem RX:type_of% @Nat.lt_or_ge:=@Nat.lt_or_ge
theorem RY:type_of% @Array.getElem?_setIfInBounds:=@Array.getElem?_setIfInBounds
theorem RZ:type_of% @List.getElem_mem:=@List.getElem_mem
theorem R0:type_of% @List.map_congr_left:=@List.map_congr_left
theorem R1:type_of% @List.mem_append_right:=@List.mem_append_right
theorem R2:type_of% @List.set_append_right:=@List.set_append_right
theorem R3:type_of% @Array.getElem?_setIfInBounds_ne:=@Array.getElem?_setIfInBounds_ne
theorem R4:type_of% @Array.getElem?_append_left:=@Array.getElem?_append_left
theorem R5:type_of% @List.getD_eq_getElem?_getD:=@List.getD_eq_getElem?_getD
theorem R6:type_of% @List.mem_append_left:=@List.mem_append_left
theorem R7:type_of% @Nat.add_zero:=@Nat.add_zero
theorem R8:type_of% @Nat.le_max_right:=@Nat.le_max_right
theorem R9:type_of% @Option.bind_some:=@Option.bind_some
theorem R_:type_of% @Nat.mod_lt:=@Nat.mod_lt
theorem Sa:type_of% @List.flatten_cons:=@List.flatten_cons
theorem Sb:type_of% @Nat.add_mul_div_right:=@Nat.add_mul_div_right
theorem Sc:type_of% @List.length_nil:=@List.length_nil
theorem Sd:type_of% @List.range_succ:=@List.range_succ
theorem Se:type_of% @Bool.false_eq_true:=@Bool.false_eq_true
theorem Sf:type_of% @List.set_cons_zero:=@List.set_cons_zero
theorem Sg:type_of% @Nat.add_assoc:=@Nat.add_assoc
theorem Si:type_of% @List.take_succ_eq_append_getElem:=@List.take_succ_eq_append_getElem
theorem Sj:type_of% @Nat.add_comm:=@Nat.add_comm
theorem Sk:type_of% @Nat.add_mul_mod_self_right:=@Nat.add_mul_mod_self_right
theorem Sl:type_of% @List.length_set:=@List.length_set
theorem Sm:type_of% @Nat.le_succ:=@Nat.le_succ
theorem Sn:type_of% @Nat.min_eq_left:=@Nat.min_eq_left
theorem So:type_of% @decide_eq_false:=@decide_eq_false
theorem Sp:type_of% @List.contains_iff_mem:=@List.contains_iff_mem
theorem Sq:type_of% @List.getElem?_eq_none:=@List.getElem?_eq_none
theorem Sr:type_of% @Int.emod_lt_of_pos:=@Int.emod_lt_of_pos
theorem Ss:type_of% @List.zip_cons_cons:=@List.zip_cons_cons
theorem Su:type_of% @Nat.div_eq_of_lt:=@Nat.div_eq_of_lt
theorem Sv:type_of% @List.sum_cons:=@List.sum_cons
theorem Sw:type_of% @Nat.mul_comm:=@Nat.mul_comm
theorem Sx:type_of% @Int.mul_le_mul_of_nonneg_left:=@Int.mul_le_mul_of_nonneg_left
theorem Sy:type_of% @Int.mul_nonneg:=@Int.mul_nonneg
theorem Sz:type_of% @List.drop_zero:=@List.drop_zero
theorem SA:type_of% @List.getElem?_append:=@List.getElem?_append
theorem SB:type_of% @List.getElem?_set_ne:=@List.getElem?_set_ne
theorem SD:type_of% @Nat.mul_le_mul:=@Nat.mul_le_mul
theorem SE:type_of% @List.getElem?_cons_succ:=@List.getElem?_cons_succ
theorem SG:type_of% @List.take_add_one:=@List.take_add_one
theorem SH:type_of% @Bool.eq_iff_iff:=@Bool.eq_iff_iff
theorem SJ:type_of% @Int.emod_nonneg:=@Int.emod_nonneg
theorem SK:type_of% @List.foldl_cons:=@List.foldl_cons
theorem SL:type_of% @List.map_append:=@List.map_append
theorem SM:type_of% @Nat.ne_of_beq_eq_false:=@Nat.ne_of_beq_eq_false
theorem SN:type_of% @Nat.sub_zero:=@Nat.sub_zero
theorem SP:type_of% @Nat.mul_assoc:=@Nat.mul_assoc
theorem SQ:type_of% @List.mem_flatMap:=@List.mem_flatMap
theorem SS:type_of% @Option.getD_none:=@Option.getD_none
theorem ST:type_of% @Bool.not_false:=@Bool.not_false
theorem SU:type_of% @Int.natCast_nonneg:=@Int.natCast_nonneg
theorem SV:type_of% @List.getElem?_take:=@List.getElem?_take
theorem SW:type_of% @Nat.lt_of_le_of_lt:=@Nat.lt_of_le_of_lt
theorem SX:type_of% @Option.isSome_some:=@Option.isSome_some
theorem SY:type_of% @or_false:=@or_false
theorem SZ:type_of% @List.foldl_append:=@List.foldl_append
theorem S0:type_of% @Bool.and_self:=@Bool.and_self
theorem S1:type_of% @List.append_cancel_right:=@List.append_cancel_right
theorem S2:type_of% @Array.getElem?_push:=@Array.getElem?_push
theorem S3:type_of% @List.getElem?_range:=@List.getElem?_range
theorem S4:type_of% @List.ext_getElem:=@List.ext_getElem
theorem S5:type_of% @List.getElem?_cons_zero:=@List.getElem?_cons_zero
theorem S6:type_of% @List.length_drop:=@List.length_drop
theorem S7:type_of% @List.length_eq_zero_iff:=@List.length_eq_zero_iff
theorem S8:type_of% @decide_eq_true:=@decide_eq_true
theorem S9:type_of% @Array.ext_getElem?:=@Array.ext_getElem?
theorem Ta:type_of% @List.drop_of_length_le:=@List.drop_of_length_le
theorem Tb:type_of% @Nat.xor_lt_two_pow:=@Nat.xor_lt_two_pow
theorem Tc:type_of% @Array.getElem?_modify:=@Array.getElem?_modify
theorem Td:type_of% @Array.getElem?_toList:=@Array.getElem?_toList
theorem Te:type_of% @Nat.or_lt_two_pow:=@Nat.or_lt_two_pow
theorem Tf:type_of% @Array.ext':=@Array.ext'
theorem Tg:type_of% @List.range_eq_range':=@List.range_eq_range'
theorem Th:type_of% @Nat.pow_le_pow_right:=@Nat.pow_le_pow_right
theorem Ti:type_of% @List.range'_succ:=@List.range'_succ
theorem Tj:type_of% @Nat.zero_mul:=@Nat.zero_mul
theorem Tk:type_of% @List.drop_succ_cons:=@List.drop_succ_cons
theorem Tl:type_of% @List.take_succ_cons:=@List.take_succ_cons
theorem Tm:type_of% @Int.mul_assoc:=@Int.mul_assoc
theorem Tn:type_of% @Int.natCast_add:=@Int.natCast_add
theorem To:type_of% @List.head?_cons:=@List.head?_cons
theorem Tp:type_of% @Nat.div_add_mod:=@Nat.div_add_mod
theorem Tq:type_of% @Nat.div_le_self:=@Nat.div_le_self
theorem Ts:type_of% @List.mem_replicate:=@List.mem_replicate
theorem Tt:type_of% @List.set_cons_succ:=@List.set_cons_succ
theorem Tu:type_of% @Nat.and_lt_two_pow:=@Nat.and_lt_two_pow
theorem Tv:type_of% @Int.add_mul:=@Int.add_mul
theorem Tw:type_of% @Int.mul_add:=@Int.mul_add
theorem Tx:type_of% @Bool.true_or:=@Bool.true_or
theorem Ty:type_of% @Int.mul_le_mul:=@Int.mul_le_mul
theorem Tz:type_of% @List.head?_nil:=@List.head?_nil
theorem TA:type_of% @List.take_zero:=@List.take_zero
theorem TB:type_of% @Nat.max_le:=@Nat.max_le
theorem TC:type_of% @Bool.and_true:=@Bool.and_true
end Hx
end
set_option maxRecDepth 20000
set_option maxHeartbeats 8000000
namespace Hx
open Go
noncomputable section
variable {ty e t:TypeId}{n b off bd i ep len bytes:Nat}{v va vi:Value}{c:Array Value}{w w':World}{loose ag:Bool}{P:Program}
inductive AV where
 |bool (b:Bool)
 |int (k:IntKind) (n:Int)
 |str (s:ByteArray)
 |tup (vs:List AV)
 |agg (cs:List AV)
 |nilp|nils|nilf|nilm|nili
 |esl
 |tsl (tag:Nat) (sz:Nat) (rows:List (List AV))
 |tptr (tag:Nat) (sz:Nat) (rows:List (List AV)) (i off:Nat)
 |hsl (id ep off len:Nat) (lim:Option Nat)
 |hptr (id ep i off:Nat)
 |clo (f:Nat) (first cap:List AV)
 |hmap (id:Nat)
 |ifc (t:Nat) (v:AV)
 |yld (id:Nat)
 deriving Inhabited
abbrev AV.undef:AV:=.tup []
def AV.cells:AV->List AV
 |.agg cs=>cs
 |v=>[v]
def AV.one:AV->Bool
 |.tup _|.agg _=>false
 |_=>true
def AV.isTup:AV->Bool
 |.tup _=>true
 |_=>false
structure Stg (α:Type) where
 run:α
abbrev ap {α:Type}(b:Bool)(x y:α):α:=@Bool.rec (λ_=>α) y x b
def iA(b:Bool):Bool:=@Bool.rec (λ_=>Bool) true false b
inductive Tr (α:Type) where
 |nil
 |node (v:α) (l r:Tr α)
def Tr.get{α:Type}(e:α):Tr α->Nat->α
 |.nil,_=>e
 |.node v _ _,0=>v
 |.node _ l r,m+1=>ap (Nat.beq (m % 2) 0) (Tr.get e l (m / 2)) (Tr.get e r (m / 2))
def gpF{α:Type}(e:α):Nat->Nat->Stg (Tr α->α)
 |0,_=>⟨λ_=>e⟩
 |_+1,0=>⟨λt=>@Tr.rec α (λ_=>α) e (λv _ _ _ _=>v) t⟩
 | f+1,m+1=>ap (Nat.beq (m % 2) 0)
   ⟨λt=>@Tr.rec α (λ_=>α) e (λ_ l _ _ _=>(gpF e f (m / 2)).run l) t⟩
   ⟨λt=>@Tr.rec α (λ_=>α) e (λ_ _ r _ _=>(gpF e f (m / 2)).run r) t⟩
def gp{α:Type}(e:α)(n:Nat):Stg (Tr α->α):=gpF e (n+1) n
def spF{α:Type}(e:α):Nat->Nat->Stg (Tr α->α->Tr α)
 |0,_=>⟨λt _=>t⟩
 |_+1,0=>⟨λt x=>@Tr.rec α (λ_=>Tr α) (.node x .nil .nil) (λ_ l r _ _=>.node x l r) t⟩
 | f+1,m+1=>ap (Nat.beq (m % 2) 0)
   ⟨λt x=>@Tr.rec α (λ_=>Tr α) (.node e ((spF e f (m / 2)).run .nil x) .nil) (λv l r _ _=>.node v ((spF e f (m / 2)).run l x) r) t⟩
   ⟨λt x=>@Tr.rec α (λ_=>Tr α) (.node e .nil ((spF e f (m / 2)).run .nil x)) (λv l r _ _=>.node v l ((spF e f (m / 2)).run r x)) t⟩
def sp{α:Type}(e:α)(n:Nat):Stg (Tr α->α->Tr α):=spF e (n+1) n
def Tr.put{α:Type}(e:α)(t:Tr α)(n:Nat)(x:α):Tr α:=(sp e n).run t x
def zA{α:Type}(n:Nat):List α->Option α :=
 @Nat.rec (λ_=>List α->Option α) (λl=>@List.rec α (λ_=>Option α) none (λa _ _=>some a) l)
  (λ_ ih l=>@List.rec α (λ_=>Option α) none (λ_ t _=>ih t) l) n
def FU{α:Type}(n:Nat)(x:α):List α->List α :=
 @Nat.rec (λ_=>List α->List α) (λl=>@List.rec α (λ_=>List α) [] (λ_ t _=>x::t) l)
  (λ_ ih l=>@List.rec α (λ_=>List α) [] (λa t _=>a::ih t) l) n
def aZ{α:Type}(l:List α):Nat:=@List.rec α (λ_=>Nat) 0 (λ_ _ n=>Nat.succ n) l
def gH{α:Type}(n:Nat):List α->List α :=
 @Nat.rec (λ_=>List α->List α) (λl=>l) (λ_ ih l=>@List.rec α (λ_=>List α) [] (λ_ t _=>ih t) l) n
def iG{α:Type}(n:Nat):List α->List α :=
 @Nat.rec (λ_=>List α->List α) (λ_=>[]) (λ_ ih l=>@List.rec α (λ_=>List α) [] (λa t _=>a::ih t) l) n
inductive AObj where
 |none
 |cells (sz:Nat) (rows:List (List AV)) (ep:Nat) (loose fz:Bool)
 |map (es:List (AV×AV))
 |loop (nt:Nat) (t:Tr AV) (ps:List Nat) (assign body:Code) (dfr:Nat) (st:LoopState) (pend:Option Code)
 |dfr (live:Bool)
@[match_pattern,reducible] def TD (k:Nat)(r:List (List AV)):AObj:=.cells k r 0 false false
abbrev T:=Tr AV
abbrev H:=Tr AObj
def H.get(h:H)(i:Nat):AObj:=(gp AObj.none i).run h
def H.put(h:H)(i:Nat)(o:AObj):H:=(sp AObj.none i).run h o
structure G where
 h:H
 nx:Nat
 lg:List Nat
def G.empty:G:=⟨.nil,0,[]⟩
def G.put(g:G)(id:Nat)(o:AObj):G:=@G.rec (λ_=>G) (λh nx lg=>⟨h.put id o,nx,id::lg⟩) g
def G.new(g:G)(o:AObj):G:=@G.rec (λ_=>G) (λh nx lg=>⟨h.put nx o,Nat.succ nx,nx::lg⟩) g
def G.get(g:G)(i:Nat):AObj:=H.get g.h i
inductive ADf where
 |call (f:AV) (args:List AV)
 |mark (id:Nat)
inductive Ex where
 |norm
 |exit (id:Nat)
 |ret
inductive CR where
 |fail
 |ok (e:Ex) (t:T) (df:List ADf) (g:G)
inductive FR where
 |fail
 |ok (v:AV) (g:G)
inductive OR where
 |fail
 |val (v:AV)
 |upd (v:AV) (g:G)
 |dfr (a:ADf)
structure IH where
 code:Nat->Nat->Option Nat->Code->T->List ADf->G->CR
 call:Nat->Nat->List AV->G->FR
structure Cfg where
 P:Program
 iso:Nat->Bool
 ext:Nat->Option (Nat->List AV->G->OR)
 glob:Nat->Option (Nat×List (List AV))
abbrev I5:=IH->Nat->Option Nat->T->G->OR
section types
variable (P:Program)
def szT(t:TypeId):Option Nat:=(P.info? t).map (·.size)
def iT(t:TypeId):Option Nat:=(P.info? t).map (·.bytes)
def qF(t:TypeId):Option Bool :=
 match P.underlying t with
 |some (.struct _)|some (.array _ _)=>some true
 |some _=>some false
 |none=>none
def ofV:Value->Option AV
 |.bool b=>some (.bool b)
 |.int k n=>some (.int k n)
 |.string s=>some (.str s)
 |.pointer none=>some .nilp
 |.slice none 0 0=>some .nils
 |.map none=>some .nilm
 |.nilFunc=>some .nilf
 |.nilIface=>some .nili
 |_=>none
def xB:List Value->Option (List AV)
 |[]=>some []
 | v::vs=>match ofV v,xB vs with
  |some a,some as=>some (a::as)
  |_,_=>none
def fm(t:TypeId):Option (List AV):=(P.info? t).bind λi=>i.zero.bind λv=>xB v.cells.toList
def wU(t:TypeId):Option AV:=(P.info? t).bind λi=>i.zero.bind λv=>match v with
 |.agg cs=>(xB cs.toList).map .agg
 |v=>ofV v
def j3(t:TypeId):Option TypeId:=match P.underlying t with|some (.slice e)=>some e|_=>none
def ro(t:TypeId)(f:Nat):Option (Nat×TypeId) :=
 match P.underlying t with
 |some (.struct fs)=>match fs[f]? with|some x=>some (x.offset,x.type)|none=>none
 |_=>none
end types
def aF{α β:Type}(f:α->Option β):List α->Option (List β)
 |[]=>some []
 | v::vs=>match f v with
  | some a=>match aF f vs with
   |some as=>some (a::as)
   |none=>none
  |none=>none
def aN(C:Cfg):Operand->Option (Stg (T->AV))
 |.tmp n=>some (gp AV.undef n)
 |.const v=>match ofV v with|some a=>some ⟨λ_=>a⟩|none=>none
 |.global g=>match C.glob g with|some (sz,rows)=>some ⟨λ_=>.tptr 0 sz rows 0 0⟩|none=>none
 |.func f=>some ⟨λ_=>.clo f [] []⟩
def bL(C:Cfg):List Operand->Option (Stg (T->List AV))
 |[]=>some ⟨λ_=>[]⟩
 | x::xs=>match aN C x,bL C xs with
  |some a,some as=>some ⟨λt=>a.run t::as.run t⟩
  |_,_=>none
def se(k:IntKind)(n:Int):Int :=
 match k,n with
 |.i64,.ofNat m=>ap (Nat.blt m 9223372036854775808) (.ofNat m) (IntKind.wrap .i64 (.ofNat m))
 |.i64,.negSucc m=>ap (Nat.blt m 9223372036854775808) (.negSucc m) (IntKind.wrap .i64 (.negSucc m))
 |.u64,.ofNat m=>.ofNat (m % 18446744073709551616)
 |.u8,.ofNat m=>.ofNat (m % 256)
 |k,n=>IntKind.wrap k n
def xy:Int->Int->Bool
 |.ofNat m,.ofNat n=>Nat.blt m n
 |.ofNat _,.negSucc _=>false
 |.negSucc _,.ofNat _=>true
 |.negSucc m,.negSucc n=>Nat.blt n m
def Ig:Int->Int->Bool
 |.ofNat m,.ofNat n=>Nat.beq m n
 |.ofNat _,.negSucc _=>false
 |.negSucc _,.ofNat _=>false
 |.negSucc m,.negSucc n=>Nat.beq m n
def rJ:Sem Value->Option AV
 |.pure (.int k n)=>some (.int k n)
 |.pure (.bool b)=>some (.bool b)
 |_=>none
def Mo(k:IntKind):Int->Int->Option AV
 |.ofNat m,.ofNat (n+1)=>some (.int k (se k (.ofNat (m / (n+1)))))
 |a,b=>rJ (Op.intDiv .quo k a b)
def Mv(k:IntKind):Int->Int->Option AV
 |.ofNat m,.ofNat (n+1)=>some (.int k (.ofNat (m % (n+1))))
 |a,b=>rJ (Op.intDiv .rem k a b)
def kK(k:IntKind)(m n:Nat):Bool :=
 match k with
 |.u64=>Nat.blt m 18446744073709551616&&Nat.blt n 18446744073709551616
 |.i64=>Nat.blt m 9223372036854775808&&Nat.blt n 9223372036854775808
 |_=>false
def MY(op:BinOp)(k:IntKind):Int->Int->Option AV
 | .ofNat m,.ofNat n=>ap (kK k m n)
   (match op with
    |.and=>some (.int k (.ofNat (Nat.land m n)))
    |.or=>some (.int k (.ofNat (Nat.lor m n)))
    |.xor=>some (.int k (.ofNat (Nat.xor m n)))
    |.andNot=>some (.int k (.ofNat (Nat.xor m (Nat.land m n))))
    |_=>none)
   (rJ (Op.intBits op k (.ofNat m) (.ofNat n)))
 |a,b=>rJ (Op.intBits op k a b)
def K1(k:IntKind):Int->Int->Option AV
 |.ofNat m,.ofNat n=>some (.int k (se k (.ofNat (m*2 ^ (Nat.min n k.bits)))))
 |a,b=>rJ (Op.shift .shl k a k b)
def K2(k:IntKind):Int->Int->Option AV
 |.ofNat m,.ofNat n=>some (.int k (.ofNat (m / 2 ^ (Nat.min n k.bits))))
 |a,b=>rJ (Op.shift .shr k a k b)
def cC:IntKind->IntKind->Bool
 |.i64,.i64=>true
 |.u64,.u64=>true
 |a,b=>decide (a=b)
def e_:BinOp->Stg (IntKind->Int->IntKind->Int->Option AV)
 |.add=>⟨λk a k' b=>ap (cC k k') (some (.int k (se k (a+b)))) none⟩
 |.sub=>⟨λk a k' b=>ap (cC k k') (some (.int k (se k (a - b)))) none⟩
 |.mul=>⟨λk a k' b=>ap (cC k k') (some (.int k (se k (a*b)))) none⟩
 |.quo=>⟨λk a k' b=>ap (cC k k') (Mo k a b) none⟩
 |.rem=>⟨λk a k' b=>ap (cC k k') (Mv k a b) none⟩
 |.eql=>⟨λk a k' b=>ap (cC k k') (some (.bool (Ig a b))) none⟩
 |.neq=>⟨λk a k' b=>ap (cC k k') (some (.bool (iA (Ig a b)))) none⟩
 |.lss=>⟨λk a k' b=>ap (cC k k') (some (.bool (xy a b))) none⟩
 |.leq=>⟨λk a k' b=>ap (cC k k') (some (.bool (iA (xy b a)))) none⟩
 |.gtr=>⟨λk a k' b=>ap (cC k k') (some (.bool (xy b a))) none⟩
 |.geq=>⟨λk a k' b=>ap (cC k k') (some (.bool (iA (xy a b)))) none⟩
 |.shl=>⟨λk a _ b=>K1 k a b⟩
 |.shr=>⟨λk a _ b=>K2 k a b⟩
 |op=>⟨λk a k' b=>ap (cC k k') (MY op k a b) none⟩
def lX:TypeDesc->Bool
 |.bool|.int _|.string=>true
 |_=>false
def tV(P:Program)(rec:TypeId->Option (List TypeDesc)):List Field->Nat->Option (List TypeDesc)
 |[],_=>some []
 | f::fs,k=>match rec f.type with
  | some ds=>match tV P rec fs (k+ds.length) with
   | some r => ap ((f.name != "_") && Nat.beq f.offset k && (szT P f.type == some ds.length)) (some (ds ++ r)) none
   |none=>none
  |none=>none
def lY(P:Program):Nat->TypeId->Option (List TypeDesc)
 |0,_=>none
 | d+1,t=>match P.underlying t with
  |some (.struct fs)=>ap (P.stoodInHeld t) none (tV P (lY P d) fs.toList 0)
  | some (.array n e)=>match lY P d e with
   |some ds=>ap (szT P e == some ds.length) (some (List.replicate n ds).flatten) none
   |none=>none
  |some d=>ap (lX d) (some [d]) none
  |none=>none
def jj(P:Program)(t:TypeId):Option (List TypeDesc) :=
 ap (P.eqGuardType P.depth t) none (lY P 8 t)
def nE:TypeDesc->AV->Bool
 |.bool,.bool _=>true
 |.int k,.int k' _=>cC k k'
 |.string,.str _=>true
 |_,_=>false
def dQ:List TypeDesc->List AV->Bool
 |[],[]=>true
 |d::ds,v::vs=>ap (nE d v) (dQ ds vs) false
 |_,_=>false
def pf:AV->AV->Option Bool
 |.int k a,.int k' b=>ap (cC k k') (some (Ig a b)) none
 |.bool a,.bool b=>some (ap a b (iA b))
 |.str a,.str b=>some (decide (a=b))
 |_,_=>none
def eC:List AV->List AV->Option Bool
 |[],[]=>some true
 | a::as,b::bs=>match pf a b,eC as bs with
  |some x,some y=>some (ap x y false)
  |_,_=>none
 |_,_=>none
inductive EqKind where
 |flat (ds:List TypeDesc)|slice|func|bool|iface (empty:Bool)|other
def pg(P:Program)(t:TypeId):EqKind :=
 match P.underlying t with
 |some (.slice _)=>.slice
 |some (.func _ _ _)=>.func
 |some .bool=>.bool
 |some (.interface ms)=>.iface ms.isEmpty
 |some (.struct _)|some (.array _ _)=>match jj P t with|some ds=>.flat ds|none=>.other
 |_=>.other
def eqA(k:EqKind)(x y:AV):Option Bool :=
 match k with
 | .flat ds=>match x,y with
  |.agg xs,.agg ys=>ap (dQ ds xs&&dQ ds ys) (eC xs ys) none
  |_,_=>none
 | .slice=>match x,y with
  |.nils,.nils=>some true
  |.nils,.tsl ..|.nils,.hsl ..|.nils,.esl|.tsl ..,.nils|.hsl ..,.nils|.esl,.nils=>some false
  |_,_=>none
 | .func=>match x,y with
  |.nilf,.nilf=>some true
  |.nilf,.clo ..|.clo ..,.nilf|.nilf,.yld _|.yld _,.nilf=>some false
  |_,_=>none
 | .bool=>match x,y with
  |.bool a,.bool b=>some (ap a b (iA b))
  |_,_=>none
 | .iface e=>match x,y with
  |.nili,.nili=>ap e (some true) none
  |.nili,.ifc ..|.ifc ..,.nili=>some false
  |_,_=>none
 |.other=>none
def orV:Option AV->OR
 |some v=>.val v
 |none=>.fail
def yj(P:Program)(op:BinOp)(t:TypeId):Stg (AV->AV->OR) :=
 match op with
 | .eql=>match pg P t with
  |.other=>⟨λx y=>match x,y with|.int k a,.int k' b=>orV ((e_ .eql).run k a k' b)|_,_=>.fail⟩
  |ek=>⟨λx y=>match eqA ek x y with|some b=>.val (.bool b)|none=>.fail⟩
 | .neq=>match pg P t with
  |.other=>⟨λx y=>match x,y with|.int k a,.int k' b=>orV ((e_ .neq).run k a k' b)|_,_=>.fail⟩
  |ek=>⟨λx y=>match eqA ek x y with|some b=>.val (.bool (iA b))|none=>.fail⟩
 |op=>⟨λx y=>match x,y with|.int k a,.int k' b=>orV ((e_ op).run k a k' b)|_,_=>.fail⟩
def unA(op:UnOp):Stg (AV->OR) :=
 match op with
 |.not=>⟨λx=>match x with|.bool b=>.val (.bool (iA b))|_=>.fail⟩
 |op=>⟨λx=>match x with|.int k n=>orV (rJ (Op.unary op (.int k n)))|_=>.fail⟩
def bN(agg:Bool)(n:Nat)(row:List AV)(off:Nat):Option AV :=
 ap agg (let cs:=iG n (gH off row);ap (Nat.beq (aZ cs) n) (some (.agg cs)) none) (zA off row)
def bY(row:List AV)(off:Nat)(cs:List AV):Option (List AV) :=
 ap (Nat.ble (off+aZ cs) (aZ row))
  (some (match cs with
   |[c]=>FU off c row
   |cs=>iG off row++(cs++gH (off+aZ cs) row)))
  none
def cL(lim:Nat):AV->Option Nat
 |.int _ (.ofNat n)=>ap (Nat.ble n lim) (some n) none
 |_=>none
def aW(dflt lim:Nat):Option AV->Option Nat
 |none=>some dflt
 |some v=>cL lim v
def gc(n:Nat)(row:List AV):List (List AV):=List.replicate n row
def cX:List AV->List ((Nat×Nat)×AV)->Option (List AV)
 |cells,[]=>some cells
 | cells,((off,size),v)::rest =>
  ap (Nat.beq (aZ v.cells) size&&iA v.isTup) (match bY cells off v.cells with|some cs=>cX cs rest|none=>none) none
def fW(sz:Nat):List (List AV)->List (Nat×AV)->Option (List (List AV))
 |rows,[]=>some rows
 |rows,(i,v)::rest=>ap (Nat.beq (aZ v.cells) sz&&Nat.blt i (aZ rows)&&iA v.isTup) (fW sz (FU i v.cells rows) rest) none
def af(h:H)(sz:Nat):AV->Option (List (List AV))
 |.nils=>some []
 |.esl=>some []
 |.tsl _ sz' rows=>ap (Nat.beq sz sz' || rows.isEmpty) (some rows) none
 | .hsl id ep off len _=>match h.get id with
  |.cells sz' rows ep' _ _=>ap (Nat.beq ep ep'&&Nat.beq sz sz'&&Nat.ble (off+len) (aZ rows)) (some (iG len (gH off rows))) none
  |_=>none
 |_=>none
def kH(rows:List (List AV))(off:Nat)(new:List (List AV)):List (List AV) :=
 match new with
 |[r]=>FU off r rows
 |new=>iG off rows++(new++gH (off+aZ new) rows)
def aQ:Nat:=1099511627776
def bg(sz bytes:Nat)(s:AV)(new:List (List AV))(g:G):OR :=
  match s with
  | .nils| .esl=>match new with
   |[]=>.val s
   |_=>ap (Nat.ble (aZ new*bytes) aQ) (.upd (.hsl g.nx 0 0 (aZ new) none) (g.new (.cells sz new 0 true false))) .fail
  | .tsl ..=>match new with
   |[]=>.val s
   |_=>.fail
  | .hsl id ep off len lim=>match g.get id with
   | .cells sz' rows ep' loose fz =>
    ap (Nat.beq ep ep'&&Nat.beq sz sz'&&Nat.ble (off+len) (aZ rows)&&Nat.ble ((len+aZ new)*bytes) aQ)
     (ap (Nat.ble (len+aZ new) (lim.getD (aZ rows - off)))
       (match new with
        |[]=>.val s
        | _=>ap (Nat.ble (off+len+aZ new) (aZ rows)&&iA fz)
         (.upd (.hsl id ep off (len+aZ new) lim) (g.put id (.cells sz (kH rows (off+len) new) ep loose fz))) .fail)
       (ap (lim.isSome || iA loose)
        (.upd (.hsl g.nx 0 0 (len+aZ new) none) (g.new (.cells sz (iG len (gH off rows)++new) 0 true false)))
        (ap fz .fail (.upd (.hsl id (Nat.succ ep) 0 (len+aZ new) none) (g.put id (.cells sz (iG len (gH off rows)++new) (Nat.succ ep) true false))))))
     .fail
   |_=>.fail
  |_=>.fail
def dh(sz bytes:Nat)(s x:AV)(g:G):OR :=
 match af g.h sz x with
 |none=>.fail
 |some new=>bg sz bytes s new g
def ur(sz bytes:Nat)(zero:List AV)(s x:AV)(g:G):OR :=
 match cL aQ x with
 |none=>.fail
 |some n=>ap (Nat.ble (n*bytes) aQ) (bg sz bytes s (gc n zero) g) .fail
def A1(sz:Nat)(d x:AV)(g:G):OR :=
 match af g.h sz x with
 |none=>.fail
 | some src=>match d with
  |.nils|.esl=>.val (.int .i64 0)
  |.tsl _ _ rows=>ap (rows.isEmpty || src.isEmpty) (.val (.int .i64 0)) .fail
  | .hsl id ep off len _=>match g.get id with
   | .cells sz' rows ep' loose fz =>
    ap (Nat.beq ep ep'&&Nat.beq sz sz'&&Nat.ble (off+len) (aZ rows)&&iA fz)
     (.upd (.int .i64 (Nat.min (aZ src) len)) (g.put id (.cells sz (kH rows off (iG (Nat.min (aZ src) len) src)) ep loose fz))) .fail
   |_=>.fail
  |_=>.fail
def nI(sz:Nat)(x:AV)(lo hi mx:Option AV)(h:H):Option AV :=
 match x with
 | .nils=>match aW 0 0 lo,aW 0 0 hi,aW 0 0 mx with
  |some _,some _,some _=>some .nils
  |_,_,_=>none
 | .esl=>match aW 0 0 lo,aW 0 0 hi,aW 0 0 mx with
  |some _,some _,some _=>some .esl
  |_,_,_=>none
 | .tsl tag sz' rows=>match mx with
  | none=>match aW (aZ rows) (aZ rows) hi with
   |none=>none
   | some h=>match aW 0 h lo with
    |none=>none
    |some l=>ap (Nat.beq sz sz') (some (.tsl tag sz (iG (h - l) (gH l rows)))) none
  | some m=>match cL 0 m,aW 0 0 hi,aW 0 0 lo with
   |some _,some _,some _=>some .esl
   |_,_,_=>none
 | .hsl id ep off len lim=>match h.get id with
  | .cells sz' rows ep' loose _ =>
   ap (Nat.beq ep ep'&&Nat.beq sz sz'&&Nat.ble (off+len) (aZ rows))
    (match aW (lim.getD (aZ rows - off)) (lim.getD (aZ rows - off)) mx with
     |none=>none
     | some m=>match aW len m hi with
      |none=>none
      | some h=>match aW 0 h lo with
       |none=>none
       | some l =>
        ap (Nat.beq m l)
         (ap (mx.isSome || lim.isSome || iA loose) (some .esl) (some (.tsl 0 sz [])))
         (some (.hsl id ep (off+l) (h - l) (match mx with|some _=>some (m - l)|none=>lim.map (· - l))))) none
  |_=>none
 |_=>none
def oR(k k':AV):Option Bool :=
 match k with
 |.agg xs=>match k' with|.agg ys=>eC xs ys|_=>none
 |x=>match k' with|.agg _=>none|y=>pf x y
def mM(k:AV):List (AV×AV)->Option (Option AV)
 |[]=>some none
 | (k',v)::es=>match oR k k' with
  |some true=>some (some v)
  |some false=>mM k es
  |none=>none
def IJ(k v:AV):List (AV×AV)->Option (List (AV×AV))
 |[]=>some [(k,v)]
 | (k',v')::es=>match oR k k' with
  |some true=>some ((k,v)::es)
  |some false=>match IJ k v es with|some r=>some ((k',v')::r)|none=>none
  |none=>none
inductive KeyKind where
 |one (d:TypeDesc)|flat (ds:List TypeDesc)|other
def fE(P:Program)(t:TypeId):KeyKind :=
 match P.underlying t with
 |some (.struct _)|some (.array _ _)=>match jj P t with|some ds=>.flat ds|none=>.other
 |some d=>ap (lX d) (.one d) .other
 |none=>.other
def mQ:KeyKind->AV->Bool
 |.one d,v=>nE d v
 |.flat ds,.agg vs=>dQ ds vs
 |_,_=>false
abbrev SFn:=T->G->OR
def l8(ag:Bool)(n:Nat)(a:T->AV):SFn:=λt g =>
 match a t with
 | .tptr _ _ rows i off=>match zA i rows with
  |some row=>orV (bN ag n row off)
  |none=>.fail
 | .hptr id ep i off=>match g.get id with
  | .cells _ rows ep' _ _=>ap (Nat.beq ep ep') (match zA i rows with
   |some row=>orV (bN ag n row off)
   |none=>.fail) .fail
  |_=>.fail
 |_=>.fail
def nK(n:Nat)(a x:T->AV):SFn:=λt g =>
 match a t with
 | .hptr id ep i off=>match g.get id with
  | .cells sz rows ep' loose fz=>ap (Nat.beq ep ep'&&Nat.beq (aZ (x t).cells) n&&iA fz&&iA (x t).isTup) (match zA i rows with
   | some row=>match bY row off (x t).cells with
    |some row'=>.upd .undef (g.put id (.cells sz (FU i row' rows) ep loose fz))
    |none=>.fail
   |none=>.fail) .fail
  |_=>.fail
 |_=>.fail
def BF(cs:List AV):SFn:=λ_ g=>.upd (.hptr g.nx 0 0 0) (g.new (TD (aZ cs) [cs]))
def Jc(a:T->AV):SFn:=λt g=>ap (a t).isTup .fail (.upd (.hptr g.nx 0 0 0) (g.new (TD (aZ (a t).cells) [(a t).cells])))
def mY(zero:List AV)(pl:List (Nat×Nat))(vs:T->List AV):SFn:=λt _ =>
 match cX zero (pl.zip (vs t)) with|some cs=>.val (.agg cs)|none=>.fail
def gG(sz len:Nat)(zrows:List (List AV))(is:List Nat)(vs:T->List AV):SFn:=λt g =>
 match fW sz zrows (is.zip (vs t)) with
 |some rows=>.upd (.hsl g.nx 0 0 len none) (g.new (TD sz rows))
 |none=>.fail
def i_(fo:Nat)(a:T->AV):SFn:=λt _ =>
 match a t with
 |.tptr l sz rows i off=>.val (.tptr l sz rows i (off+fo))
 |.hptr id ep i off=>.val (.hptr id ep i (off+fo))
 |_=>.fail
def fY(sz:Nat)(a ix:T->AV):SFn:=λt g =>
 match a t with
 | .tsl l sz' rows=>match ix t with
  |.int _ (.ofNat i)=>ap (Nat.beq sz sz'&&Nat.blt i (aZ rows)) (.val (.tptr l sz rows i 0)) .fail
  |_=>.fail
 | .hsl id ep off len _=>match ix t with
  | .int _ (.ofNat i)=>match g.get id with
   |.cells sz' _ ep' _ _=>ap (Nat.beq ep ep'&&Nat.beq sz sz'&&Nat.blt i len) (.val (.hptr id ep (off+i) 0)) .fail
   |_=>.fail
  |_=>.fail
 |_=>.fail
def l6(n sz:Nat)(a ix:T->AV):SFn:=λt _ =>
 match ix t with
 | .int _ (.ofNat i)=>ap (Nat.blt i n) (match a t with
  |.tptr l sz' rows j off=>.val (.tptr l sz' rows j (off+i*sz))
  |.hptr id ep j off=>.val (.hptr id ep j (off+i*sz))
  |_=>.fail) .fail
 |_=>.fail
def tX(ag:Bool)(n sz:Nat)(a ix:T->AV):SFn:=λt _ =>
 match a t with
 | .agg cs=>match ix t with
  |.int _ (.ofNat i)=>ap (Nat.blt i n) (orV (bN ag sz cs (i*sz))) .fail
  |_=>.fail
 |_=>.fail
def oQ(a ix:T->AV):SFn:=λt _ =>
 match a t with
 | .str s=>match ix t with
  | .int _ (.ofNat i)=>match zA i s.data.toList with
   |some b=>.val (.int .u8 (.ofNat b.toNat))
   |none=>.fail
  |_=>.fail
 |_=>.fail
def gA(sz bytes:Nat)(zero:List AV)(l c:T->AV):SFn:=λt g =>
 match cL aQ (c t) with
 | some cn=>match cL cn (l t) with
  | some ln=>ap (Nat.ble (cn*bytes) aQ)
   (.upd (.hsl g.nx 0 0 ln none) (g.new (TD sz (gc cn zero)))) .fail
  |none=>.fail
 |none=>.fail
def di(kk:KeyKind)(zero:AV)(ok:Bool)(m k:T->AV):SFn:=λt g =>
 ap (mQ kk (k t))
  (match (match m t with
          |.nilm=>some []
          |.hmap id=>match g.get id with|.map es=>some es|_=>none
          |_=>none) with
   | some es=>match mM (k t) es with
    |some (some v)=>.val (ap ok (.tup [v,.bool true]) v)
    |some none=>.val (ap ok (.tup [zero,.bool false]) zero)
    |none=>.fail
   |none=>.fail) .fail
def fd(kk:KeyKind)(m k x:T->AV):SFn:=λt g =>
 ap (mQ kk (k t))
  (match m t with
   | .hmap id=>match g.get id with
    | .map es=>match IJ (k t) (x t) es with
     |some es'=>.upd .undef (g.put id (.map es'))
     |none=>.fail
    |_=>.fail
   |_=>.fail) .fail
def iy(k:AV):Nat->List (AV×AV)->Option (Option (Nat×AV))
 |_,[]=>some none
 | i,(k',v)::es=>match oR k k' with
  |some true=>some (some (i,v))
  |some false=>iy k (Nat.succ i) es
  |none=>none
def fF(kk:KeyKind)(zero:AV)(m k:T->AV):SFn:=λt g =>
 ap (mQ kk (k t))
  (match m t with
   | .hmap id=>match g.get id with
    | .map es=>match iy (k t) 0 es with
     |some (some (i,v))=>.val (.tup [v,.int .i64 (.ofNat i)])
     |some none=>.upd (.tup [zero,.int .i64 (.ofNat (aZ es))]) (g.put id (.map (es++[(k t,zero)])))
     |none=>.fail
    |_=>.fail
   |_=>.fail) .fail
def gI(m st x:T->AV):SFn:=λt g =>
 match m t with
 | .hmap id=>match g.get id with
  | .map es=>match st t with
   | .int _ (.ofNat i)=>match zA i es with
    |some (k,_)=>.upd .undef (g.put id (.map (FU i (k,x t) es)))
    |none=>.fail
   |_=>.fail
  |_=>.fail
 |_=>.fail
def yF(sz:Nat)(zero:List AV)(x:AV)(g:G):OR :=
 match x with
 |.nils|.esl=>.val .undef
 |.tsl _ _ []=>.val .undef
 | .hsl id ep off len _=>match len with
  |0=>.val .undef
  | _=>match g.get id with
   | .cells sz' rows ep' loose fz =>
    ap (Nat.beq ep ep'&&Nat.beq sz sz'&&Nat.ble (off+len) (aZ rows)&&iA fz)
     (.upd .undef (g.put id (.cells sz (kH rows off (gc len zero)) ep loose fz))) .fail
   |_=>.fail
 |_=>.fail
inductive LenKind where
 |slice|array (n:Nat)|map|str|other
def kG(P:Program)(t:TypeId):LenKind :=
 match P.underlying t with
 |some (.slice _)=>.slice
 |some (.array n _)=>.array n
 |some (.map _ _)=>.map
 |some .string=>.str
 |_=>.other
def gz(k:LenKind)(x:AV)(g:G):OR :=
 match k with
 | .slice=>match x with
  |.nils|.esl=>.val (.int .i64 0)
  |.tsl _ _ rows=>.val (.int .i64 (.ofNat (aZ rows)))
  |.hsl _ _ _ n _=>.val (.int .i64 (.ofNat n))
  |_=>.fail
 |.array n=>.val (.int .i64 (.ofNat n))
 | .map=>match x with
  |.nilm=>.val (.int .i64 0)
  |.hmap id=>match g.get id with|.map es=>.val (.int .i64 (.ofNat (aZ es)))|_=>.fail
  |_=>.fail
 |.str=>match x with|.str s=>.val (.int .i64 (.ofNat s.size))|_=>.fail
 |.other=>.fail
def Jj(x:AV)(g:G):OR :=
 match x with
 |.nils|.esl=>.val (.int .i64 0)
 | .hsl id ep off _ lim=>match g.get id with
  |.cells _ rows ep' loose _=>ap (Nat.beq ep ep'&&(lim.isSome || iA loose)) (.val (.int .i64 (.ofNat (lim.getD (aZ rows - off))))) .fail
  |_=>.fail
 |_=>.fail
def cT(C:Cfg)(b:Builtin)(argTypes:Array TypeId)(args:List Operand):Option (Stg SFn) :=
 match b,args with
 | .len,[x]=>match argTypes[0]?,aN C x with
  |some t,some a=>some ⟨λs g=>gz (kG C.P t) (a.run s) g⟩
  |_,_=>none
 | .append,[a,x]=>match argTypes[0]?,argTypes[1]?,aN C a,aN C x with
  | some t,some xt,some av,some xv=>match j3 C.P t,C.P.underlying xt with
   | some e,some (.slice _)=>match szT C.P e,iT C.P e,fm C.P e with
    |some sz,some bytes,some zero=>ap (Nat.beq (aZ zero) sz&&Nat.blt 0 sz&&Nat.blt 0 bytes) (some ⟨λs g=>dh sz bytes (av.run s) (xv.run s) g⟩) none
    |_,_,_=>none
   | some e,some (.int _)=>match szT C.P e,iT C.P e,fm C.P e with
    |some sz,some bytes,some zero=>ap (Nat.beq (aZ zero) sz&&Nat.blt 0 sz&&Nat.blt 0 bytes) (some ⟨λs g=>ur sz bytes zero (av.run s) (xv.run s) g⟩) none
    |_,_,_=>none
   |_,_=>none
  |_,_,_,_=>none
 | .copy,[a,x]=>match argTypes[0]?,aN C a,aN C x with
  | some t,some av,some xv=>match j3 C.P t with
   | some e=>match szT C.P e with
    |some sz=>some ⟨λs g=>A1 sz (av.run s) (xv.run s) g⟩
    |none=>none
   |none=>none
  |_,_,_=>none
 | .cap,[x]=>match argTypes[0]?,aN C x with
  | some t,some a=>match j3 C.P t with
   |some _=>some ⟨λs g=>Jj (a.run s) g⟩
   |none=>none
  |_,_=>none
 | .clear,[x]=>match argTypes[0]?,aN C x with
  | some t,some a=>match j3 C.P t with
   | some e=>match szT C.P e,fm C.P e with
    |some sz,some zero=>ap (Nat.beq (aZ zero) sz&&Nat.blt 0 sz) (some ⟨λs g=>yF sz zero (a.run s) g⟩) none
    |_,_=>none
   |none=>none
  |_,_=>none
 | .max,[x,y]=>match aN C x,aN C y with
  | some a,some b=>some ⟨λs _=>match a.run s with
   | .int k m=>match b.run s with
    |.int k' n=>ap (cC k k') (.val (.int k (ap (xy m n) n m))) .fail
    |_=>.fail
   |_=>.fail⟩
  |_,_=>none
 | .min,[x,y]=>match aN C x,aN C y with
  | some a,some b=>some ⟨λs _=>match a.run s with
   | .int k m=>match b.run s with
    |.int k' n=>ap (cC k k') (.val (.int k (ap (xy n m) n m))) .fail
    |_=>.fail
   |_=>.fail⟩
  |_,_=>none
 |_,_=>none
def gB{α:Type}(f:α->Option Nat):List α->Option Nat
 |[]=>some 0
 | v::vs=>match f v with
  | some a=>match gB f vs with
   |some b=>some (Nat.max a b)
   |none=>none
  |none=>none
def dU:Nat->AV->Option Nat
 |0,_=>none
 | f+1,v=>match v with
  |.tsl l _ _=>some l
  |.tptr l _ _ _ _=>some l
  |.agg cs=>gB (dU f) cs
  |.tup cs=>gB (dU f) cs
  |.clo _ a c=>gB (dU f) (a++c)
  |.ifc _ v=>dU f v
  |.hsl ..|.hptr ..|.hmap _|.yld _=>none
  |_=>some 0
def aD:Nat:=24
def fG(rows:List (List AV)):Option Nat:=gB (gB (dU aD)) rows
def pd(sz:Nat):Nat->List AV->List (List AV)
 |0,_=>[]
 |n+1,cs=>iG sz cs::pd sz n (gH sz cs)
def gX(n sz:Nat)(a:T->AV)(lo hi:T->Option AV):SFn:=λt g =>
 match aW n n (hi t) with
 |none=>.fail
 | some h=>match aW 0 h (lo t) with
  |none=>.fail
  | some l=>match a t with
   | .tptr tag _ rows i off=>match zA i rows with
    |some row=>ap (Nat.ble (off+n*sz) (aZ row)) (.val (.tsl tag sz (pd sz (h - l) (gH (off+l*sz) row)))) .fail
    |none=>.fail
   | .hptr id ep i off=>match g.get id with
    | .cells sz' rows ep' loose _=>ap (Nat.beq ep ep') (match zA i rows with
     | some row=>ap (Nat.ble (off+n*sz) (aZ row))
      ((λrs=>match fG rs with
        |some m=>.upd (.tsl m sz rs) (g.put id (.cells sz' rows ep' loose true))
        |none=>.fail) (pd sz (h - l) (gH (off+l*sz) row))) .fail
     |none=>.fail) .fail
    |_=>.fail
   |_=>.fail
def cd(C:Cfg):Op->Option (Stg SFn)
 |.move x|.assign x=>match aN C x with|some a=>some ⟨λt _=>.val (a.run t)⟩|none=>none
 | .pick c a b=>match aN C c,aN C a,aN C b with
  |some c,some a,some b=>some ⟨λt _=>match c.run t with|.bool q=>ap q (.val (a.run t)) (.val (b.run t))|_=>.fail⟩
  |_,_,_=>none
 | .alloc ty=>match fm C.P ty with
  |some cs=>some ⟨BF cs⟩
  |none=>none
 | .box _ x=>match aN C x with
  |some a=>some ⟨Jc a.run⟩
  |none=>none
 | .build ty parts=>match fm C.P ty,bL C (parts.toList.map (·.2)) with
  | some zero,some vs =>
   match C.P.underlying ty with
   | some (.struct fs)=>match aF (λf:Field=>match szT C.P f.type with| some n=>some (f.offset,n)| none=>none) fs.toList with
    | some places=>match aF (λi=>places[i]?) (parts.toList.map (·.1)) with
     |some pl=>some ⟨mY zero pl vs.run⟩
     |none=>none
    |none=>none
   | some (.array _ e)=>match szT C.P e with
    |some n=>some ⟨mY zero ((parts.toList.map (·.1)).map λi=>(i*n,n)) vs.run⟩
    |none=>none
   |_=>none
  |_,_=>none
 | .buildSlice ty len parts=>match j3 C.P ty,bL C (parts.toList.map (·.2)) with
  | some e,some vs=>match szT C.P e,fm C.P e with
   | some sz,some zero=>ap (Nat.beq (aZ zero) sz&&Nat.blt 0 sz&&Nat.ble (len*sz) 1048576)
    (some ⟨gG sz len (gc len zero) (parts.toList.map (·.1)) vs.run⟩) none
   |_,_=>none
  |_,_=>none
 | .load ty a=>match aN C a,qF C.P ty,szT C.P ty with
  |some a,some ag,some n=>some ⟨l8 ag n a.run⟩
  |_,_,_=>none
 | .store ty a x=>match aN C a,aN C x,szT C.P ty with
  |some a,some x,some n=>some ⟨nK n a.run x.run⟩
  |_,_,_=>none
 | .nilCheck x=>match aN C x with
  | some a=>some ⟨λt _=>match a.run t with
   |.tptr l sz rows i off=>.val (.tptr l sz rows i off)
   |.hptr id ep i off=>.val (.hptr id ep i off)
   |.clo f a c=>.val (.clo f a c)
   |.yld id=>.val (.yld id)
   |_=>.fail⟩
  |none=>none
 | .binOp op ty x y _=>match aN C x,aN C y with
  |some a,some b=>some ⟨λt _=>(yj C.P op ty).run (a.run t) (b.run t)⟩
  |_,_=>none
 | .unOp op _ x=>match aN C x with
  |some a=>some ⟨λt _=>(unA op).run (a.run t)⟩
  |none=>none
 | .convert src dst x=>match aN C x,C.P.underlying src,C.P.underlying dst with
  |some a,some _,some (.int k)=>some ⟨λt _=>match a.run t with|.int _ n=>.val (.int k (se k n))|_=>.fail⟩
  |_,_,_=>none
 | .makeInterface ty x=>match aN C x,C.P.underlying ty with
  |some _,some (.interface _)=>none
  |some a,some _=>some ⟨λt _=>.val (.ifc ty (a.run t))⟩
  |_,_=>none
 | .makeFunc (.func f) first captured=>match bL C first.toList,bL C captured.toList with
  |some a,some c=>some ⟨λt _=>.val (.clo f (a.run t) (c.run t))⟩
  |_,_=>none
 | .makeMap ty none=>match C.P.underlying ty with
  |some (.map _ _)=>some ⟨λ_ g=>.upd (.hmap g.nx) (g.new (.map []))⟩
  |_=>none
 | .makeSlice ty l c=>match j3 C.P ty,aN C l,aN C c with
  | some e,some l,some c=>match szT C.P e,iT C.P e,fm C.P e with
   |some sz,some bytes,some zero=>ap (Nat.beq (aZ zero) sz&&Nat.blt 0 sz) (some ⟨gA sz bytes zero l.run c.run⟩) none
   |_,_,_=>none
  |_,_,_=>none
 | .slice ty x lo hi none=>match C.P.underlying ty,aN C x,bL C lo.toList,bL C hi.toList with
  | some (.slice e),some x,some l,some h=>match szT C.P e with
   |some sz=>some ⟨λt g=>orV (nI sz (x.run t) (l.run t).head? (h.run t).head? none g.h)⟩
   |none=>none
  | some (.array n e),some x,some l,some h=>match szT C.P e with
   |some (sz+1)=>some ⟨gX n (sz+1) x.run (λt=>(l.run t).head?) (λt=>(h.run t).head?)⟩
   |_=>none
  |_,_,_,_=>none
 | .slice ty x lo (some hi) (some mx)=>match j3 C.P ty,aN C x,bL C lo.toList,aN C hi,aN C mx with
  | some e,some x,some l,some h,some m=>match szT C.P e with
   |some sz=>some ⟨λt g=>orV (nI sz (x.run t) (l.run t).head? (some (h.run t)) (some (m.run t)) g.h)⟩
   |none=>none
  |_,_,_,_,_=>none
 | .fieldAddr ty x f=>match aN C x,ro C.P ty f with
  | some a,some (fo,ft)=>match szT C.P ft with
   |some (_+1)=>some ⟨i_ fo a.run⟩
   |_=>none
  |_,_=>none
 | .field ty x f=>match aN C x,ro C.P ty f with
  | some a,some (fo,ft)=>match qF C.P ft,szT C.P ft with
   |some ag,some n=>some ⟨λt _=>match a.run t with|.agg cs=>orV (bN ag n cs fo)|_=>.fail⟩
   |_,_=>none
  |_,_=>none
 | .indexAddr ty x ix=>match aN C x,aN C ix with
  | some a,some i=>match C.P.underlying ty with
   | some (.slice e)=>match szT C.P e with
    |some sz=>some ⟨fY sz a.run i.run⟩
    |none=>none
   | some (.array n e)=>match szT C.P e with
    |some sz=>some ⟨l6 n sz a.run i.run⟩
    |none=>none
   |_=>none
  |_,_=>none
 | .index ty x ix=>match aN C x,aN C ix with
  | some a,some i=>match C.P.underlying ty with
   | some (.array n e)=>match qF C.P e,szT C.P e with
    |some ag,some sz=>some ⟨tX ag n sz a.run i.run⟩
    |_,_=>none
   |some .string=>some ⟨oQ a.run i.run⟩
   |_=>none
  |_,_=>none
 | .lookup ty x k ok=>match aN C x,aN C k,C.P.underlying ty with
  | some m,some k,some (.map kt et)=>match wU C.P et with
   |some z=>some ⟨di (fE C.P kt) z ok m.run k.run⟩
   |none=>none
  |_,_,_=>none
 | .mapUpdate ty m k x| .insert ty m k x=>match aN C m,aN C k,aN C x,C.P.underlying ty with
  |some m,some k,some x,some (.map kt _)=>some ⟨fd (fE C.P kt) m.run k.run x.run⟩
  |_,_,_,_=>none
 | .mapEntry ty m k=>match aN C m,aN C k,C.P.underlying ty with
  | some m,some k,some (.map kt et)=>match wU C.P et with
   |some z=>some ⟨fF (fE C.P kt) z m.run k.run⟩
   |none=>none
  |_,_,_=>none
 | .entryStore _ m st x=>match aN C m,aN C st,aN C x with
  |some m,some st,some x=>some ⟨gI m.run st.run x.run⟩
  |_,_,_=>none
 | .extract x i=>match aN C x with
  |some a=>some ⟨λt _=>match a.run t with|.tup vs=>orV (zA i vs)|_=>.fail⟩
  |none=>none
 |.call { callee:=.builtin b,args,argTypes }=>cT C b argTypes args.toList
 |_=>none
def snap(h:H)(tag:Nat):Nat->AV->Option AV
 |0,_=>none
 | f+1,v=>match v with
  |.agg cs=>match aF (snap h tag f) cs with|some as=>some (.agg as)|none=>none
  |.tup cs=>match aF (snap h tag f) cs with|some as=>some (.tup as)|none=>none
  | .clo g a c=>match aF (snap h tag f) a,aF (snap h tag f) c with
   |some as,some cs=>some (.clo g as cs)
   |_,_=>none
  |.ifc t x=>match snap h tag f x with|some a=>some (.ifc t a)|none=>none
  | .hsl id ep off len _=>match h.get id with
   | .cells sz rows ep' _ _=>ap (Nat.beq ep ep'&&Nat.ble (off+len) (aZ rows))
    (match aF (aF (snap h tag f)) (iG len (gH off rows)) with
     | some rs=>match fG rs with
      |some m=>some (.tsl (Nat.max tag m) sz rs)
      |none=>none
     |none=>none) none
   |_=>none
  | .hptr id ep i off=>match h.get id with
   | .cells sz rows ep' _ _=>ap (Nat.beq ep ep')
    (match aF (aF (snap h tag f)) rows with
     | some rs=>match fG rs with
      |some m=>some (.tptr (Nat.max tag m) sz rs i off)
      |none=>none
     |none=>none) none
   |_=>none
  |.hmap _=>none
  |.yld _=>none
  |v=>some v
def aH(h:H):Nat->AV->List Nat
 |0,_=>[]
 | f+1,v=>match v with
  |.agg cs=>cs.flatMap (aH h f)
  |.tup cs=>cs.flatMap (aH h f)
  |.clo _ a c=>a.flatMap (aH h f)++c.flatMap (aH h f)
  |.ifc _ x=>aH h f x
  | .hsl id _ off len _=>id::(match h.get id with
   |.cells _ rows _ _ _=>(iG len (gH off rows)).flatMap (·.flatMap (aH h f))
   |_=>[])
  | .hptr id _ _ _=>id::(match h.get id with
   |.cells _ rows _ _ _=>rows.flatMap (·.flatMap (aH h f))
   |_=>[])
  |.hmap id=>[id]
  |_=>[]
def da(d:Nat):Nat->AV->Option AV
 |0,_=>none
 | f+1,v=>match v with
  | .tsl t sz rows=>ap (Nat.beq t d) (match aF (aF (da d f)) rows with
   | some rs=>match fG rs with
    |some m=>some (.tsl m sz rs)
    |none=>none
   |none=>none) (some v)
  | .tptr t sz rows i off=>ap (Nat.beq t d) (match aF (aF (da d f)) rows with
   | some rs=>match fG rs with
    |some m=>some (.tptr m sz rs i off)
    |none=>none
   |none=>none) (some v)
  |.agg cs=>match aF (da d f) cs with|some as=>some (.agg as)|none=>none
  |.tup cs=>match aF (da d f) cs with|some as=>some (.tup as)|none=>none
  | .clo g a c=>match aF (da d f) a,aF (da d f) c with
   |some as,some cs=>some (.clo g as cs)
   |_,_=>none
  |.ifc t x=>match da d f x with|some a=>some (.ifc t a)|none=>none
  |v=>some v
def ch(g:G):List Nat->G
 |[]=>g
 | i::is=>match g.get i with
  |.cells sz rows ep loose _=>ch (g.put i (.cells sz rows ep loose true)) is
  |_=>ch g is
def ah(ih:IH)(d:Nat)(g:G)(f:Nat)(args:List AV):OR :=
 match aF (snap g.h d aD) args with
 |none=>.fail
 | some as=>match ih.call (Nat.succ d) f as G.empty with
  |.fail=>.fail
  | .ok r g'=>match snap g'.h 0 aD r with
   |none=>.fail
   | some r'=>match dU aD r' with
    |none=>.fail
    | some m=>ap (Nat.blt m d) (.val r')
     (match da d aD r' with
      |none=>.fail
      | some r''=>match dU aD r'' with
       |none=>.fail
       |some m'=>ap (Nat.blt m' d) (.upd r'' (ch g (args.flatMap (aH g.h aD)))) .fail)
def dK:T->Nat->List Nat->List AV->Option T
 |t,_,[],[]=>some t
 |t,nt,p::ps,v::vs=>ap (Nat.blt p nt) (dK ((sp AV.undef p).run t v) nt ps vs) none
 |_,_,_,_=>none
def cQ(ih:IH)(d:Nat)(id:Nat)(args:List AV)(g:G):OR :=
 match g.get id with
 | .loop nt t ps assign body _ _ _=>match dK t nt ps args with
  |none=>.fail
  | some t'=>match ih.code nt d (some id) assign t' [] g with
   | .ok .norm t1 [] g1=>match g1.get id with
    | .loop nt1 t ps assign1 body1 dfr .ready pend =>
     match ih.code nt d (some id) body t1 [] (g1.put id (.loop nt1 t ps assign1 body1 dfr .busy pend)) with
     | .ok e _ [] g2=>match g2.get id with
      | .loop nt t ps assign body dfr _ _=>match e with
       |.norm=>.upd (.bool true) (g2.put id (.loop nt t ps assign body dfr .ready none))
       |.exit j=>.upd (.bool false) (g2.put id (.loop nt t ps assign body dfr .done (some (.exit j))))
       |.ret=>.upd (.bool false) (g2.put id (.loop nt t ps assign body dfr .done (some .ret)))
      |_=>.fail
     |_=>.fail
    |_=>.fail
   |_=>.fail
 |_=>.fail
def orF:FR->OR
 |.ok v g=>.upd v g
 |.fail=>.fail
def lj(C:Cfg)(ih:IH)(d:Nat)(fv:AV)(vs:List AV)(g:G):OR :=
 match fv with
 | .clo f first cap=>match C.ext f with
  |some e=>e d (first++(vs++cap)) g
  |none=>ap (C.iso f) (ah ih d g f (first++(vs++cap))) (orF (ih.call d f (first++(vs++cap)) g))
 |.yld id=>cQ ih d id vs g
 |_=>.fail
def cOp(C:Cfg):Op->Option (Stg I5)
 | .call { callee:=.value (.func f),args,.. }=>match bL C args.toList with
  | some vs=>match C.ext f with
   |some e=>some ⟨λ_ d _ t g=>e d (vs.run t) g⟩
   |none=>ap (C.iso f) (some ⟨λih d _ t g=>ah ih d g f (vs.run t)⟩) (some ⟨λih d _ t g=>orF (ih.call d f (vs.run t) g)⟩)
  |none=>none
 | .call { callee:=.value fo,args,.. }=>match aN C fo,bL C args.toList with
  |some fv,some vs=>some ⟨λih d _ t g=>lj C ih d (fv.run t) (vs.run t) g⟩
  |_,_=>none
 |.call { callee:=.builtin .recover,.. }=>some ⟨λ_ _ _ _ _=>.val .nili⟩
 | .defer { callee:=.value fo,args,.. }=>match aN C fo,bL C args.toList with
  | some fv,some vs=>some ⟨λ_ _ rd t _=>match rd with
   |some _=>.fail
   | none=>match fv.run t with
    |.clo f first cap=>.dfr (.call (.clo f [] cap) (first++vs.run t))
    |_=>.fail⟩
  |_,_=>none
 | op=>match cd C op with
  |some s=>some ⟨λ_ _ _ t g=>s.run t g⟩
  |none=>none
def b_(C:Cfg)(op:Op):Stg I5 :=
 match cOp C op with
 |some f=>f
 |none=>⟨λ_ _ _ _ _=>.fail⟩
structure Looks where
 rd:List Nat
 sr:List (Nat×Nat)
 soft:List (Nat×Nat)
 big:Bool
def am:AV->List Nat
 |.hptr id _ _ _=>[id]
 |.hsl id _ _ _ _=>[id]
 |.hmap id=>[id]
 |_=>[]
def vp:AV->List Nat
 |.hmap id=>[id]
 |_=>[]
def sH:AV->List Nat
 |.hsl id _ _ (_+1) _=>[id]
 |_=>[]
def kw(C:Cfg)(b:Builtin)(argTypes:Array TypeId):AV->List Nat :=
 match b with
 | .len=>match argTypes[0]? with
  | some t=>match kG C.P t with
   |.map=>vp
   |_=>λ_=>[]
  |none=>λ_=>[]
 |.clear=>sH
 |_=>am
def aw:Looks:=⟨[],[],[],false⟩
def cA:Looks:=⟨[],[],[],true⟩
def ak(l:List Nat):Looks:=⟨l,[],[],false⟩
def aL(C:Cfg)(op:Op):Stg (T->G->Looks) :=
 match op with
 | .load _ a| .store _ a _| .slice _ a _ _ _| .lookup _ a _ true| .mapUpdate _ a _ _| .insert _ a _ _| .entryStore _ a _ _=>match aN C a with
  |some a=>⟨λt _=>ak (am (a.run t))⟩
  |none=>⟨λ_ _=>cA⟩
 | .lookup ty a _ false=>match aN C a with
  |some a=>⟨λt _=>⟨[],(am (a.run t)).map (·,ty),[],false⟩⟩
  |none=>⟨λ_ _=>cA⟩
 | .mapEntry ty a _=>match aN C a with
  |some a=>⟨λt _=>⟨am (a.run t),[],(am (a.run t)).map (·,ty),false⟩⟩
  |none=>⟨λ_ _=>cA⟩
 | .indexAddr ty a _=>match C.P.underlying ty,aN C a with
  |some (.slice _),some a=>⟨λt _=>ak (am (a.run t))⟩
  |_,_=>⟨λ_ _=>aw⟩
 | .call { callee:=.builtin b,args,argTypes }=>match bL C args.toList with
  |some vs=>⟨λt _=>ak ((vs.run t).flatMap (kw C b argTypes))⟩
  |none=>⟨λ_ _=>cA⟩
 | .call { callee:=.value fo,args,.. }=>match aN C fo,bL C args.toList with
  | some fv,some vs=>⟨λt g=>match fv.run t with
   |.clo f first cap=>ap ((C.ext f).isSome || C.iso f) (ak ((first++(vs.run t++cap)).flatMap (aH g.h aD))) cA
   |_=>cA⟩
  |_,_=>⟨λ_ _=>cA⟩
 |.defer _=>⟨λ_ _=>cA⟩
 |_=>⟨λ_ _=>aw⟩
structure Foot where
 lk:Looks
 wr:List Nat
abbrev RFn:=IH->Nat->Option Nat->T->List ADf->G->CR
def oT(nt:Nat):Option Nat->Option (Stg (T->AV->T))
 |none=>some ⟨λt _=>t⟩
 |some d=>ap (Nat.blt d nt) (some (sp AV.undef d)) none
def hZ(ops:List Oper):Option (Nat×Bool)->Option (Stg (T->Option Bool))
 |none=>some ⟨λ_=>some true⟩
 | some (j,want)=>match ops[j]? with
  | some oj=>match oj.dst with
   | some d=>some ⟨λt=>match (gp AV.undef d).run t with
    |.bool b=>some (ap want b (iA b))
    |.tup _=>some false
    |_=>none⟩
   |none=>none
  |none=>none
def nM(out:T->AV->T)(next:T->List ADf->G->CR)(t:T)(df:List ADf)(g:G):OR->CR
 |.fail=>.fail
 |.val v=>next (out t v) df g
 |.upd v g'=>next (out t v) df g'
 |.dfr a=>next (out t .undef) (a::df) g
def A6:Stg RFn:=⟨λ_ _ _ _ _ _=>.fail⟩
def iV(C:Cfg)(nt:Nat)(all:List Oper):List Oper->Stg RFn
 |[]=>⟨λ_ _ _ t df g=>.ok .norm t df g⟩
 | o::rest=>match oT nt o.dst with
  | some out=>match o.guard with
   |none=>⟨λih d rd t df g=>nM out.run ((iV C nt all rest).run ih d rd) t df g ((b_ C o.op).run ih d rd t g)⟩
   | some gd=>match hZ all (some gd) with
    | some q=>⟨λih d rd t df g=>match q.run t with
     |some true=>nM out.run ((iV C nt all rest).run ih d rd) t df g ((b_ C o.op).run ih d rd t g)
     |some false=>(iV C nt all rest).run ih d rd (out.run t .undef) df g
     |none=>.fail⟩
    |none=>A6
  |none=>A6
def bi:List Oper->List Nat->List Nat
 |[],acc=>acc
 | o::rest,acc =>
  bi rest (acc++[o.after.toList.foldl (λm e=>ap (Region.binds .any e) (m ||| 2 ^ e.on ||| acc.getD e.on 0) m) 0])
def sN(ops:List Oper)(o:Oper):List Nat :=
 (o.op.operands.toList.filterMap fun|.tmp t=>some t|_=>none) ++
 (match o.guard with
  |some (g,_)=>match ops[g]? with|some og=>og.dst.toList|none=>[]
  |none=>[])
def jg(ops:List Oper)(x y:Oper):Bool :=
 (match x.dst with|some d=>!(sN ops y).contains d&&y.dst != some d|none=>true) &&
 (match y.dst with|some d=>!(sN ops x).contains d|none=>true)
def meets(a b:List Nat):Bool:=a.any λx=>b.contains x
def fst1(l:List (Nat×Nat)):List Nat:=l.map (·.1)
def Co(p:Nat×Nat):List (Nat×Nat)->Bool
 |[]=>false
 |q::r=>ap (Nat.beq p.1 q.1&&Nat.beq p.2 q.2) true (Co p r)
def iz(x y:Foot):Bool :=
 match x.wr with
 |[]=>true
 |_=>!y.lk.big&&!meets x.wr y.wr&&!meets x.wr y.lk.rd&&!meets x.wr (fst1 y.lk.sr)
def fD(x y:Foot):Bool :=
 match x.wr with
 |[]=>true
 |_=>!y.lk.big&&!meets x.wr y.wr&&!meets x.wr y.lk.rd&&(!meets x.wr (fst1 y.lk.sr) || y.lk.sr.all λp=>Co p x.lk.soft)
def bM(x y:Foot):Bool:=iz x y&&fD y x
def eh(pm:List Nat)(i:Nat)(x:Foot):Nat->List Foot->Nat
 |_,[]=>0
 |j,y::r=>ap ((pm.getD j 0).testBit i || !meets y.wr (fst1 x.lk.sr)) (eh pm i x (Nat.succ j) r) (Nat.succ (eh pm i x (Nat.succ j) r))
def rV(pm:List Nat):Nat->List Foot->Bool
 |_,[]=>true
 |i,x::r=>ap (match x.lk.sr with|[]=>true|_=>Nat.ble (eh pm i x (Nat.succ i) r) 1) (rV pm (Nat.succ i) r) false
def fq{α:Type}(f:Nat->α->Nat->α->Bool)(i:Nat)(x:α):Nat->List α->Bool
 |_,[]=>true
 |j,y::r=>f i x j y&&fq f i x (j+1) r
def jr{α:Type}(f:Nat->α->Nat->α->Bool):Nat->List α->Bool
 |_,[]=>true
 |i,x::rest=>fq f i x (i+1) rest&&jr f (i+1) rest
def nZ:Nat->List Oper->Bool
 |_,[]=>true
 |i,o::r=>(o.after.toList.all λe=>!Region.binds .any e || Nat.blt e.on i)&&nZ (i+1) r
def lZ(pm:List Nat):Nat->List Oper->Bool
 |_,[]=>true
 |i,o::r=>(match o.guard with|none=>true|some (j,_)=>(pm.getD i 0).testBit j)&&lZ pm (i+1) r
def Cm(ops:List Oper):Bool :=
 let pm:=bi ops []
 nZ 0 ops&&lZ pm 0 ops&&jr (λi x j y=>(pm.getD j 0).testBit i || jg ops x y) 0 ops
def mN(pm:List Nat)(fs:List Foot):Bool :=
 ap (jr (λi x j y=>(pm.getD j 0).testBit i || bM x y) 0 fs) (rV pm 0 fs) false
def xS(C:Cfg):Op->Bool
 |.alloc _|.box ..|.buildSlice ..|.store ..|.makeSlice ..|.makeMap ..|.mapUpdate ..|.insert ..|.mapEntry ..|.entryStore ..|.defer _=>false
 |.call { callee:=.builtin .append,.. }|.call { callee:=.builtin .copy,.. }|.call { callee:=.builtin .clear,.. }=>false
 |.slice ty _ _ _ _=>match C.P.underlying ty with|some (.slice _)=>true|_=>false
 |.call { callee:=.value (.func f),.. }=>C.iso f
 |.call { callee:=.value _,.. }=>false
 |_=>true
abbrev OO:=IH->Nat->Option Nat->T->List ADf->G->List Foot->CR
def aK(g:G)(lg:List Nat):G:=@G.rec (λ_=>G) (λh nx _=>⟨h,nx,lg⟩) g
def iH(g:G)(lg:List Nat):G:=@G.rec (λ_=>G) (λh nx _=>⟨h,Nat.succ nx,lg⟩) g
def jJ(out:T->AV->T)(next:T->List ADf->G->List Foot->CR)(t:T)(df:List ADf)(g:G)(fs:List Foot)(lk:Looks):OR->CR
 |.fail=>.fail
 |.val v=>next (out t v) df (iH g g.lg) (⟨lk,[]⟩::fs)
 |.upd v g'=>next (out t v) df (iH g' (g'.lg++g.lg)) (⟨lk,g'.lg⟩::fs)
 |.dfr _=>.fail
def g_(C:Cfg)(nt:Nat)(pm:List Nat)(all:List Oper):Nat->List Oper->Stg OO
 |_,[]=>⟨λ_ _ _ t df g fs=>ap (mN pm fs.reverse) (.ok .norm t df g) .fail⟩
 | i,o::rest=>match oT nt o.dst,hZ all o.guard with
  | some out,some q=>⟨λih d rd t df g fs=>match q.run t with
     |some true=>jJ out.run ((g_ C nt pm all (i+1) rest).run ih d rd) t df g fs ((aL C o.op).run t g) ((b_ C o.op).run ih d rd t (aK g []))
     |some false=>(g_ C nt pm all (i+1) rest).run ih d rd (out.run t .undef) df g (⟨aw,[]⟩::fs)
     |none=>.fail⟩
  |_,_=>⟨λ_ _ _ _ _ _ _=>.fail⟩
def mb(g0:G):CR->CR
 |.ok e t df g=>match g.lg with|[]=>ap (Nat.beq g.nx g0.nx) (.ok e t df g0) .fail|_=>.fail
 |.fail=>.fail
def fu(C:Cfg)(nt:Nat)(ops:List Oper)(draw:Bool):Stg RFn :=
 ap draw
  (ap (Cm ops)
   (ap (ops.all λo=>xS C o.op)
    ⟨λih d rd t df g=>mb g ((iV C nt ops ops).run ih d rd t df (aK g []))⟩
    ⟨λih d rd t df g=>(g_ C nt (bi ops []) ops 0 ops).run ih d rd t df g []⟩) A6)
  (iV C nt ops ops)
def dJ(ih:IH)(nt d:Nat)(rd:Option Nat)(id:Nat)(t:T)(df:List ADf)(g2:G):CR :=
 match g2.get id with
 | .loop nt' t' ps assign body dfr st pend=>match st with
  |.busy=>.fail
  | _=>match pend with
   |none=>.ok .norm t df (g2.put id (.loop nt' t' ps assign body dfr .exhausted pend))
   |some c=>ih.code nt d rd c t df (g2.put id (.loop nt' t' ps assign body dfr .exhausted pend))
 |_=>.fail
def cG(C:Cfg)(ih:IH)(nt d:Nat)(rd:Option Nat)(fv:AV)(ps:List Nat)(assign body:Code)(t:T)(df:List ADf)(dfr:Nat)(g:G):CR :=
 match fv with
 | .clo f first cap=>ap (C.ext f).isSome .fail
  (match ih.call d f (first++(.yld g.nx::cap)) (g.new (.loop nt t ps assign body dfr .ready none)) with
  |.ok _ g2=>dJ ih nt d rd g.nx t df g2
  |.fail=>.fail)
 |_=>.fail
def mc(C:Cfg)(nt:Nat)(fo:T->AV)(ps:List Nat)(assign body:Code):RFn:=λih d rd t df g =>
 match rd with
 | some l=>match g.get l with
  |.loop _ _ _ _ _ dfr _ _=>cG C ih nt d rd (fo t) ps assign body t df dfr g
  |_=>.fail
 |none=>cG C ih nt d rd (fo t) ps assign body t (.mark g.nx::df) g.nx (g.new (.dfr true))
def AJ(k:T->List ADf->G->CR):CR->CR
 |.ok .norm t df g=>k t df g
 |r=>r
def tA(id:Nat):CR->CR
 |.ok (.exit j) t df g=>ap (Nat.beq j id) (.ok .norm t df g) (.ok (.exit j) t df g)
 |r=>r
def aM(C:Cfg)(nt:Nat):Code->Stg RFn
 |.skip=>⟨λ_ _ _ t df g=>.ok .norm t df g⟩
 |.label _=>⟨λ_ _ _ t df g=>.ok .norm t df g⟩
 |.region _ ops draw=>fu C nt ops.toList draw
 |.seq a b=>⟨λih d rd t df g=>AJ ((aM C nt b).run ih d rd) ((aM C nt a).run ih d rd t df g)⟩
 | .cond c a b=>match aN C c with
  | some q=>⟨λih d rd t df g=>match q.run t with
   |.bool v=>ap v ((aM C nt a).run ih d rd t df g) ((aM C nt b).run ih d rd t df g)
   |_=>.fail⟩
  |none=>A6
 |.block id body=>⟨λih d rd t df g=>tA id ((aM C nt body).run ih d rd t df g)⟩
 |.loop body=>⟨λih d rd t df g=>AJ (λt df g=>ih.code nt d rd (.loop body) t df g) ((aM C nt body).run ih d rd t df g)⟩
 |.scope body=>aM C nt body
 |.exit id=>⟨λ_ _ _ t df g=>.ok (.exit id) t df g⟩
 |.ret=>⟨λ_ _ _ t df g=>.ok .ret t df g⟩
 | .rangeFunc f ps assign body=>match aN C f with
  |some a=>⟨mc C nt a.run ps.toList assign body⟩
  |none=>A6
 |_=>A6
def Jn(C:Cfg)(ih:IH)(nt d:Nat)(rd:Option Nat)(c:Code)(t:T)(df:List ADf)(g:G):CR :=
 (aM C nt c).run ih d rd t df g
def eH(ih:IH)(d:Nat):List ADf->G->Option G
 |[],g=>some g
 | .mark id::ds,g=>match g.get id with
  |.dfr true=>eH ih d ds (g.put id (.dfr false))
  |_=>none
 | .call (.clo f first cap) args::ds,g=>match ih.call d f (first++(args++cap)) g with
  |.ok _ g'=>eH ih d ds g'
  |.fail=>none
 |.call _ _::_,_=>none
def mq(C:Cfg):List ResultVar->Option (Stg (T->G->Option (List AV)))
 |[]=>some ⟨λ_ _=>some []⟩
 | .tmp n::rs=>match mq C rs with
  |some k=>some ⟨λt g=>match k.run t g with|some vs=>some ((gp AV.undef n).run t::vs)|none=>none⟩
  |none=>none
 | .cell a ty::rs=>match mq C rs,cd C (.load ty (.tmp a)) with
  | some k,some l=>some ⟨λt g=>match l.run t g with
   |.val v=>(match k.run t g with|some vs=>some (v::vs)|none=>none)
   |_=>none⟩
  |_,_=>none
def bh:Nat->List AV->T->T
 |_,[],t=>t
 |i,v::vs,t=>bh (i+1) vs ((sp AV.undef i).run t v)
def iB:List AV->AV
 |[v]=>v
 |vs=>.tup vs
def bB(ih:IH)(d:Nat)(res:T->G->Option (List AV))(t:T)(df:List ADf)(g:G):FR :=
 match eH ih d df g with
 |none=>.fail
 | some g'=>match res t g' with
  |some vs=>.ok (iB vs) g'
  |none=>.fail
def cFn(C:Cfg)(f:Nat):Option (Stg (IH->Nat->List AV->G->FR)) :=
 match C.P.funcs[f]? with
 |none=>none
 | some fn=>match fn.body with
  |none=>none
  | some c=>match mq C fn.results.toList with
   | some r => ap (fn.name == "runtime.NumGoroutine") none
    (some ⟨λih d args g=>ap (Nat.ble (aZ args) fn.ntmps)
     (match (aM C fn.ntmps c).run ih d none (bh 0 args .nil) [] g with
      |.ok (.exit _) _ _ _=>.fail
      |.ok _ t df g'=>bB ih d r.run t df g'
      |.fail=>.fail) .fail⟩)
   |none=>none
def dX(C:Cfg)(ih:IH)(d f:Nat)(args:List AV)(g:G):FR :=
 match cFn C f with
 |some x=>x.run ih d args g
 |none=>.fail
def IH.zero:IH:=⟨λ_ _ _ _ _ _ _=>.fail,λ_ _ _ _=>.fail⟩
def FZ(C:Cfg)(ih:IH):IH:=⟨Jn C ih,dX C ih⟩
def sem(C:Cfg)(n:Nat):IH:=@Nat.rec (λ_=>IH) IH.zero (λ_ ih=>FZ C ih) n
@[simp] theorem bif'_true {α:Type} (x y:α):ap true x y=x:=rfl
@[simp] theorem bif'_false {α:Type} (x y:α):ap false x y=y:=rfl
theorem aa{α:Type}(b:Bool)(x y:α):ap b x y=if b=true then x else y:=by cases b<;>rfl
@[simp] theorem notb_eq (b:Bool):iA b = !b:=by cases b<;>rfl
theorem cY{α:Type}(n:Nat):∀l:List α,zA n l=l[n]?:=by
 induction n with
 |zero=>intro l;cases l<;>rfl
 | succ n ih=>intro l;cases l with
  |nil=>rfl
  |cons a t=>simp only[SE];exact ih t
theorem iD{α:Type}(n:Nat)(x:α):∀l:List α,FU n x l=l.set n x:=by
 induction n with
 |zero=>intro l;cases l<;>rfl
 | succ n ih=>intro l;cases l with
  |nil=>rfl
  |cons a t=>simp only[Tt];exact congrArg (a::·) (ih t)
theorem au{α:Type}(l:List α):aZ l=l.length:=by
 induction l with
 |nil=>rfl
 |cons a t ih=>exact congrArg Nat.succ ih
theorem aX{α:Type}(n:Nat):∀l:List α,gH n l=l.drop n:=by
 induction n with
 |zero=>intro l;rfl
 | succ n ih=>intro l;cases l with
  |nil=>rfl
  |cons a t=>simp only[Tk];exact ih t
theorem a_{α:Type}(n:Nat):∀l:List α,iG n l=l.take n:=by
 induction n with
 |zero=>intro l;rfl
 | succ n ih=>intro l;cases l with
  |nil=>rfl
  |cons a t=>simp only[Tl];exact congrArg (a::·) (ih t)
section tr
variable {α:Type}(e:α)
theorem L1:∀(f n:Nat) (t:Tr α),n<f->(gpF e f n).run t=t.get e n:=by
 intro f
 induction f with
 |zero=>intro n t h;omega
 | succ f ih =>
  intro n t h;cases n with
  |zero=>cases t<;>rfl
  | succ m =>
   have hm:m / 2<f:=by omega
   simp only[gpF];cases hb:Nat.beq (m % 2) 0
   ·cases t with
    |nil=>rfl
    |node v l r=>simp only[Tr.get,hb];exact ih _ _ hm
   ·cases t with
    |nil=>rfl
    |node v l r=>simp only[Tr.get,hb];exact ih _ _ hm
@[simp] theorem gp_run (n:Nat) (t:Tr α):(gp e n).run t=t.get e n:=L1 e (n+1) n t (by omega)
theorem Pc(n:Nat):(Tr.nil:Tr α).get e n=e:=by cases n<;>rfl
theorem MQ:∀(f n:Nat) (t:Tr α) (x:α) (k:Nat),n<f->((spF e f n).run t x).get e k=if k=n then x else t.get e k:=by
 intro f
 induction f with
 |zero=>intro n t x k h;omega
 | succ f ih =>
  intro n t x k h;cases n with
  | zero=>cases t with
   | nil=>cases k with
    |zero=>rfl
    |succ k=>simp only[spF,Tr.get];cases Nat.beq (k % 2) 0<;>simp
   |node v l r=>cases k<;>simp[spF,Tr.get]
  | succ m =>
   have hm:m / 2<f:=by omega
   simp only[spF];cases hb:Nat.beq (m % 2) 0
   ·have b:m % 2=1:=by have:=SM hb;omega
    cases t with
    | nil =>
     try simp only[bif'_false]
     cases k with
     |zero=>simp[Tr.get]
     | succ k =>
      simp only[Tr.get];cases hk:Nat.beq (k % 2) 0
      ·try simp only[bif'_false]
       rw[ih _ _ _ _ hm,Pc];have a:k % 2=1:=by have:=SM hk;omega
       by_cases h2:k=m
       ·subst h2;simp
       ·rw[Qw (by omega),Qw (by omega)]
      ·have a:k % 2=0:=Ro hk
       try simp only[bif'_true]
       rw[Qw (by omega)]
    | node v l r =>
     try simp only[bif'_false]
     cases k with
     |zero=>simp[Tr.get]
     | succ k =>
      simp only[Tr.get];cases hk:Nat.beq (k % 2) 0
      ·try simp only[bif'_false]
       rw[ih _ _ _ _ hm];have a:k % 2=1:=by have:=SM hk;omega
       by_cases h2:k=m
       ·subst h2;simp
       ·rw[Qw (by omega),Qw (by omega)]
      ·have a:k % 2=0:=Ro hk
       try simp only[bif'_true]
       rw[Qw (by omega)]
   ·have b:m % 2=0:=Ro hb;cases t with
    | nil =>
     try simp only[bif'_true]
     cases k with
     |zero=>simp[Tr.get]
     | succ k =>
      simp only[Tr.get];cases hk:Nat.beq (k % 2) 0
      ·have a:k % 2=1:=by have:=SM hk;omega
       try simp only[bif'_false]
       rw[Qw (by omega)]
      ·try simp only[bif'_true]
       rw[ih _ _ _ _ hm,Pc];have a:k % 2=0:=Ro hk
       by_cases h2:k=m
       ·subst h2;simp
       ·rw[Qw (by omega),Qw (by omega)]
    | node v l r =>
     try simp only[bif'_true]
     cases k with
     |zero=>simp[Tr.get]
     | succ k =>
      simp only[Tr.get];cases hk:Nat.beq (k % 2) 0
      ·have a:k % 2=1:=by have:=SM hk;omega
       try simp only[bif'_false]
       rw[Qw (by omega)]
      ·try simp only[bif'_true]
       rw[ih _ _ _ _ hm];have a:k % 2=0:=Ro hk
       by_cases h2:k=m
       ·subst h2;simp
       ·rw[Qw (by omega),Qw (by omega)]
@[simp] theorem sp_get (n:Nat) (t:Tr α) (x:α) (k:Nat):((sp e n).run t x).get e k=if k=n then x else t.get e k :=
 MQ e (n+1) n t x k (by omega)
end tr
theorem O6(h:H)(i:Nat)(o:AObj)(k:Nat):(h.put i o).get k=if k=i then o else h.get k:=by simp[H.get,H.put]
@[simp] theorem G.get_eq (g:G) (i:Nat):g.get i=g.h.get i:=rfl
@[simp] theorem G.put_h (g:G) (i:Nat) (o:AObj):(g.put i o).h=g.h.put i o:=by cases g;rfl
@[simp] theorem G.put_nx (g:G) (i:Nat) (o:AObj):(g.put i o).nx=g.nx:=by cases g;rfl
@[simp] theorem G.put_lg (g:G) (i:Nat) (o:AObj):(g.put i o).lg=i::g.lg:=by cases g;rfl
@[simp] theorem G.new_h (g:G) (o:AObj):(g.new o).h=g.h.put g.nx o:=by cases g;rfl
@[simp] theorem G.new_nx (g:G) (o:AObj):(g.new o).nx=g.nx+1:=by cases g;rfl
@[simp] theorem G.new_lg (g:G) (o:AObj):(g.new o).lg=g.nx::g.lg:=by cases g;rfl
@[simp] theorem bumpG_h (g:G) (l:List Nat):(iH g l).h=g.h:=by cases g;rfl
@[simp] theorem bumpG_nx (g:G) (l:List Nat):(iH g l).nx=g.nx+1:=by cases g;rfl
@[simp] theorem bumpG_lg (g:G) (l:List Nat):(iH g l).lg=l:=by cases g;rfl
@[simp] theorem setLog_h (g:G) (l:List Nat):(aK g l).h=g.h:=by cases g;rfl
@[simp] theorem setLog_nx (g:G) (l:List Nat):(aK g l).nx=g.nx:=by cases g;rfl
@[simp] theorem setLog_lg (g:G) (l:List Nat):(aK g l).lg=l:=by cases g;rfl
theorem mj(m:Nat)(h:m<9223372036854775808):IntKind.wrap .i64 (Int.ofNat m)=Int.ofNat m:=by have e:(Int.ofNat m) % (2 ^ 64:Int)=Int.ofNat m:=Int.emod_eq_of_lt (SU m) (by simp only[RR];omega);unfold IntKind.wrap;simp only[IntKind.bits,IntKind.signed,e,RS,QQ];rw[Qw (by simp only[RR];omega)]
theorem vC(z:Int)(h:-9223372036854775808<=z)(h0:z<0):IntKind.wrap .i64 z=z:=by
 have e:z % (2 ^ 64:Int)=z+2 ^ 64:=by rw[<-Int.add_emod_right,Int.emod_eq_of_lt]<;>omega
 unfold IntKind.wrap;simp only[IntKind.bits,IntKind.signed,e,RS,QQ]
 split<;>omega
theorem wB(m:Nat)(h:m<9223372036854775808):IntKind.wrap .i64 (Int.negSucc m)=Int.negSucc m:=by have h1:=Int.negSucc_eq m;generalize Int.negSucc m=z at *;exact vC z (by omega) (by omega)
theorem gg(k:IntKind)(n:Int):se k n=k.wrap n:=by
 unfold se
 split
 ·rename_i m;rw[aa];split
  ·rename_i h;rw[Rn]at h;exact (mj m h).symm
  ·rfl
 ·rename_i m;rw[aa];split
  ·rename_i h;rw[Rn]at h;exact (wB m h).symm
  ·rfl
 ·simp only[IntKind.wrap,IntKind.bits,IntKind.signed];rfl
 ·simp only[IntKind.wrap,IntKind.bits,IntKind.signed];rfl
 ·rfl
theorem kA(a b:Int):xy a b=decide (a<b):=by rw[SH,decide_eq_true_iff];cases a<;>cases b<;>simp only[xy,Rn,Int.negSucc_eq,RR,Se,false_iff,true_iff]<;>omega
theorem uU(a b:Int):Ig a b=decide (a=b):=by
 rw[SH,decide_eq_true_iff];cases a<;>cases b<;>simp only[Ig,Int.negSucc_eq,RR,Se,false_iff]
 ·rw[Nat.beq_eq];omega
 ·omega
 ·omega
 ·rw[Nat.beq_eq];omega
theorem kT(a b:IntKind):cC a b=decide (a=b):=by cases a<;>cases b<;>rfl
section
variable {x:AV}
structure Gh where
 kind:Nat
 ep:Nat
 sz:Nat
 n:Nat
 blk:Nat
 base:Nat
 slack:Nat
 wr:Bool
abbrev Gm:=Nat->Gh
def Mut(γ:Gm)(b:Nat):Prop:=∃id,(γ id).kind≠0/\(γ id).wr=true/\(γ id).blk=b
def adr(b o:Nat):Addr:=⟨b,o,none⟩
def gZ(lim:Option Nat)(off cap:Nat)(g:Gh):Prop :=
 match lim with
 |some c=>cap=c/\off+c<=g.n
 |none=>off+cap=g.n+g.slack
inductive Closed:AV->Prop
 |bool (b:Bool):Closed (.bool b)
 |int (k:IntKind) (n:Int):Closed (.int k n)
 |str (s:ByteArray):Closed (.str s)
 |tup (xs:List AV) (h:∀x∈xs,Closed x):Closed (.tup xs)
 |agg (xs:List AV) (h:∀x∈xs,Closed x):Closed (.agg xs)
 |nilp:Closed .nilp
 |nils:Closed .nils
 |nilf:Closed .nilf
 |nilm:Closed .nilm
 |nili:Closed .nili
 |esl:Closed .esl
 |tsl (tag sz:Nat) (rows:List (List AV)) (h:∀row∈rows,∀x∈row,Closed x):Closed (.tsl tag sz rows)
 |tptr (tag sz:Nat) (rows:List (List AV)) (i off:Nat) (h:∀row∈rows,∀x∈row,Closed x):Closed (.tptr tag sz rows i off)
 |clo (f:Nat) (xs ys:List AV) (h:∀x∈xs,Closed x) (h2:∀x∈ys,Closed x):Closed (.clo f xs ys)
 |ifc (t:Nat) (x:AV) (h:Closed x):Closed (.ifc t x)
inductive RV (w:World) (γ:Gm) (A:Nat->Nat->Prop):Nat->AV->Value->Prop
 |bool (bd:Nat) (b:Bool):RV w γ A bd (.bool b) (.bool b)
 |int (bd:Nat) (k:IntKind) (n:Int):RV w γ A bd (.int k n) (.int k n)
 |str (bd:Nat) (s:ByteArray):RV w γ A bd (.str s) (.string s)
 | tup (bd:Nat) (xs:List AV) (vs:Array Value) (hl:xs.length=vs.size)
   (h:∀(i:Nat) x v,xs[i]?=some x->vs[i]?=some v->RV w γ A bd x v):RV w γ A bd (.tup xs) (.tuple vs)
 | agg (bd:Nat) (xs:List AV) (vs:Array Value) (hl:xs.length=vs.size) (h1:∀(i:Nat) x,xs[i]?=some x->x.one=true)
   (h:∀(i:Nat) x v,xs[i]?=some x->vs[i]?=some v->RV w γ A bd x v):RV w γ A bd (.agg xs) (.agg vs)
 |nilp (bd:Nat):RV w γ A bd .nilp (.pointer none)
 |nils (bd:Nat):RV w γ A bd .nils (.slice none 0 0)
 |nilf (bd:Nat):RV w γ A bd .nilf .nilFunc
 |nilm (bd:Nat):RV w γ A bd .nilm (.map none)
 |nili (bd:Nat):RV w γ A bd .nili .nilIface
 |esl (bd:Nat) (a:Addr):RV w γ A bd .esl (.slice (some a) 0 0)
 | tsl (bd tag sz:Nat) (rows:List (List AV)) (b o cap:Nat) (cell:Nat->Nat->Value) (ht:tag<=bd) (hc:rows.length<=cap)
   (hb:b<w.heap.size) (hm:¬Mut γ b) (ha:¬A tag b)
   (hr:∀(i:Nat) row,rows[i]?=some row->row.length=sz)
   (ho:∀(i j:Nat) row x,rows[i]?=some row->row[j]?=some x->x.one=true)
   (hw:∀(i j:Nat) row x,rows[i]?=some row->row[j]?=some x->w.cell? (adr b (o+i*sz+j))=some (cell i j))
   (h:∀(i j:Nat) row x,rows[i]?=some row->row[j]?=some x->RV w γ A tag x (cell i j))
   (hcl:∀row∈rows,∀x∈row,Closed x) :
   RV w γ A bd (.tsl tag sz rows) (.slice (some (adr b o)) rows.length cap)
 |tnil (bd tag sz:Nat) (a:Addr) (cap:Nat) (ht:tag<=bd):RV w γ A bd (.tsl tag sz []) (.slice (some a) 0 cap)
 | tptr (bd tag sz:Nat) (rows:List (List AV)) (i0 off0 b o:Nat) (cell:Nat->Nat->Value) (ht:tag<=bd)
   (hb:b<w.heap.size) (hm:¬Mut γ b) (ha:¬A tag b)
   (hr:∀(i:Nat) row,rows[i]?=some row->row.length=sz)
   (ho:∀(i j:Nat) row x,rows[i]?=some row->row[j]?=some x->x.one=true)
   (hw:∀(i j:Nat) row x,rows[i]?=some row->row[j]?=some x->w.cell? (adr b (o+i*sz+j))=some (cell i j))
   (h:∀(i j:Nat) row x,rows[i]?=some row->row[j]?=some x->RV w γ A tag x (cell i j))
   (hcl:∀row∈rows,∀x∈row,Closed x) :
   RV w γ A bd (.tptr tag sz rows i0 off0) (.pointer (some (adr b (o+i0*sz+off0))))
 | hsl (bd id ep off len:Nat) (lim:Option Nat) (b o cap:Nat) (hk:(γ id).kind=1) (he:ep<=(γ id).ep) (hc:len<=cap)
   (h:ep=(γ id).ep->b=(γ id).blk/\o=(γ id).base+off*(γ id).sz/\gZ lim off cap (γ id)) :
   RV w γ A bd (.hsl id ep off len lim) (.slice (some (adr b o)) len cap)
 | hptr (bd id ep i off:Nat) (b o:Nat) (hk:(γ id).kind=1) (he:ep<=(γ id).ep)
   (h:ep=(γ id).ep->b=(γ id).blk/\o=(γ id).base+i*(γ id).sz+off) :
   RV w γ A bd (.hptr id ep i off) (.pointer (some (adr b o)))
 | clo (bd f:Nat) (xs ys:List AV) (vs us:Array Value) (hl:xs.length=vs.size) (hl2:ys.length=us.size)
   (h:∀(i:Nat) x v,xs[i]?=some x->vs[i]?=some v->RV w γ A bd x v)
   (h2:∀(i:Nat) x v,ys[i]?=some x->us[i]?=some v->RV w γ A bd x v):RV w γ A bd (.clo f xs ys) (.func (.func f) vs us)
 |hmap (bd id b:Nat) (hk:(γ id).kind=2) (hb:b=(γ id).blk):RV w γ A bd (.hmap id) (.map (some b))
 |ifc (bd t:Nat) (x:AV) (v:Value) (h:RV w γ A bd x v):RV w γ A bd (.ifc t x) (.iface t v)
 |yld (bd id b:Nat) (hk:(γ id).kind=3) (hb:b=(γ id).blk):RV w γ A bd (.yld id) (.func (.yield b) #[] #[])
def RVs(w:World)(γ:Gm)(A:Nat->Nat->Prop)(bd:Nat)(xs:List AV)(vs:List Value):Prop :=
 xs.length=vs.length/\∀(i:Nat) x v,xs[i]?=some x->vs[i]?=some v->RV w γ A bd x v
theorem RV.mono{γ:Gm}{A:Nat->Nat->Prop}{bd':Nat}(h:RV w γ A bd x v)(hb:bd<=bd') :
  RV w γ A bd' x v:=by
 induction h generalizing bd' with
 |bool=>exact .bool _ _
 |int=>exact .int _ _ _
 |str=>exact .str _ _
 |tup _ xs vs hl _ ih=>exact .tup _ _ _ hl λi x v h1 h2=>ih i x v h1 h2 hb
 |agg _ xs vs hl h1 _ ih=>exact .agg _ _ _ hl h1 λi x v h1 h2=>ih i x v h1 h2 hb
 |nilp=>exact .nilp _
 |nils=>exact .nils _
 |nilf=>exact .nilf _
 |nilm=>exact .nilm _
 |nili=>exact .nili _
 |esl=>exact .esl _ _
 |tsl _ tag sz rows b o cap cell ht hc hb' hm ha hr ho hw h hcl _=>exact .tsl _ tag sz rows b o cap cell (QW ht hb) hc hb' hm ha hr ho hw h hcl
 |tnil _ tag sz a cap ht=>exact .tnil _ tag sz a cap (QW ht hb)
 |tptr _ tag sz rows i0 off0 b o cell ht hb' hm ha hr ho hw h hcl _=>exact .tptr _ tag sz rows i0 off0 b o cell (QW ht hb) hb' hm ha hr ho hw h hcl
 |hsl _ id ep off len lim b o cap hk he hc h=>exact .hsl _ id ep off len lim b o cap hk he hc h
 |hptr _ id ep i off b o hk he h=>exact .hptr _ id ep i off b o hk he h
 |clo _ f xs ys vs us hl hl2 _ _ ih ih2=>exact .clo _ f xs ys vs us hl hl2 (λi x v h1 h2=>ih i x v h1 h2 hb) (λi x v h1 h2=>ih2 i x v h1 h2 hb)
 |hmap _ id b hk hb'=>exact .hmap _ id b hk hb'
 |ifc _ t x v _ ih=>exact .ifc _ t x v (ih hb)
 |yld _ id b hk hb'=>exact .yld _ id b hk hb'
structure Stp (w:World) (γ:Gm) (w':World) (γ':Gm):Prop where
 sz:w.heap.size<=w'.heap.size
 os:w'.os=w.os
 tape:w'.tape=w.tape
 output:w'.output=w.output
 fr:∀b,b<w.heap.size->¬Mut γ b->w'.heap[b]?=w.heap[b]?
 mt:∀b,b<w.heap.size->Mut γ' b->Mut γ b
 kind:∀id,(γ id).kind≠0->(γ' id).kind=(γ id).kind/\(γ' id).blk=(γ id).blk\/(γ id).kind=1/\(γ' id).kind=1/\(γ id).ep<(γ' id).ep
 ep:∀id,(γ id).kind=1->(γ id).ep<=(γ' id).ep /\
  ((γ' id).ep=(γ id).ep->(γ' id).sz=(γ id).sz/\(γ' id).n=(γ id).n/\(γ' id).blk=(γ id).blk/\(γ' id).base=(γ id).base/\(γ' id).slack=(γ id).slack)
 dr:w.drawn<=w'.drawn
theorem Stp.refl(w:World)(γ:Gm):Stp w γ w γ :=
 ⟨Qv _,rfl,rfl,rfl,λ_ _ _=>rfl,λ_ _ h=>h,λ_ _=>.inl ⟨rfl,rfl⟩,λ_ _=>⟨Qv _,λ_=>⟨rfl,rfl,rfl,rfl,rfl⟩⟩,Qv _⟩
theorem Stp.kind_eq{γ γ':Gm}(h:Stp w γ w' γ'){id:Nat}(hk:(γ id).kind≠0):(γ' id).kind=(γ id).kind:=by
 rcases h.kind id hk with h1|h1
 ·exact h1.1
 ·rw[h1.1,h1.2.1]
theorem Stp.blk_eq{γ γ':Gm}(h:Stp w γ w' γ'){id:Nat}(hk:(γ id).kind≠0)(h1:(γ id).kind≠1):(γ' id).blk=(γ id).blk:=by
 rcases h.kind id hk with h2|h2
 ·exact h2.2
 ·exact absurd h2.1 h1
theorem Stp.trans{w w' w'':World}{γ γ' γ'':Gm}(h:Stp w γ w' γ')(h':Stp w' γ' w'' γ''):Stp w γ w'' γ'' where
 sz:=QW h.sz h'.sz
 os:=h'.os.trans h.os
 tape:=h'.tape.trans h.tape
 output:=h'.output.trans h.output
 fr b hb hm:=by rw[h'.fr b (QV hb h.sz) (λk=>hm (h.mt b hb k)),h.fr b hb hm]
 mt b hb k:=h.mt b hb (h'.mt b (QV hb h.sz) k)
 kind id hk:=by
  have h1:=h.kind_eq hk;have d:(γ' id).kind≠0:=by rw[h1];exact hk
  rcases h.kind id hk with a|a
  ·rcases h'.kind id d with c|c
   ·exact .inl ⟨c.1.trans a.1,c.2.trans a.2⟩
   ·refine .inr ⟨by rw[<-a.1];exact c.1,c.2.1,SW (h.ep id (by rw[<-a.1];exact c.1)).1 c.2.2⟩
  ·exact .inr ⟨a.1,by rw[h'.kind_eq d,a.2.1],QV a.2.2 (h'.ep id a.2.1).1⟩
 ep id hk:=by
  have h1:=h.ep id hk;have d:(γ' id).kind=1:=by rw[h.kind_eq (by rw[hk];decide),hk]
  have h2:=h'.ep id d;refine⟨QW h1.1 h2.1,λhe=>?_⟩;have e1:(γ' id).ep=(γ id).ep:=Nat.le_antisymm (by rw[<-he];exact h2.1) h1.1;have i:(γ'' id).ep=(γ' id).ep:=by rw[he,e1]
  obtain⟨a1,a2,a3,a4,e⟩:=h1.2 e1;obtain⟨b1,b2,b3,b4,f⟩:=h2.2 i;exact⟨b1.trans a1,b2.trans a2,b3.trans a3,b4.trans a4,f.trans e⟩
 dr:=QW h.dr h'.dr
theorem xJ{a:Addr}(h:w'.heap[a.block]?=w.heap[a.block]?):w'.cell? a=w.cell? a:=by simp only[World.cell?,h]
theorem Fo{a:Addr}(h:w.cell? a=some v):a.block<w.heap.size:=by
 simp only[World.cell?]at h;rcases RX a.block w.heap.size with hl|hl
 ·exact hl
 ·rw[RP hl]at h;simp at h
theorem RV.step{γ γ':Gm}{A:Nat->Nat->Prop}(h:RV w γ A bd x v)(s:Stp w γ w' γ') :
  RV w' γ' A bd x v:=by
 induction h with
 |bool=>exact .bool _ _
 |int=>exact .int _ _ _
 |str=>exact .str _ _
 |tup _ xs vs hl _ ih=>exact .tup _ _ _ hl ih
 |agg _ xs vs hl h1 _ ih=>exact .agg _ _ _ hl h1 ih
 |nilp=>exact .nilp _
 |nils=>exact .nils _
 |nilf=>exact .nilf _
 |nilm=>exact .nilm _
 |nili=>exact .nili _
 |esl=>exact .esl _ _
 | tsl _ tag sz rows b o cap cell ht hc hb hm ha hr ho hw _ hcl ih =>
  refine .tsl _ tag sz rows b o cap cell ht hc (QV hb s.sz) (λk=>hm (s.mt b hb k)) ha hr ho (λi j row x h1 h2=>?_) ih hcl;rw[xJ (a:=adr b _) (s.fr b hb hm)];exact hw i j row x h1 h2
 |tnil _ tag sz a cap ht=>exact .tnil _ tag sz a cap ht
 | tptr _ tag sz rows i0 off0 b o cell ht hb hm ha hr ho hw _ hcl ih =>
  refine .tptr _ tag sz rows i0 off0 b o cell ht (QV hb s.sz) (λk=>hm (s.mt b hb k)) ha hr ho (λi j row x h1 h2=>?_) ih hcl;rw[xJ (a:=adr b _) (s.fr b hb hm)];exact hw i j row x h1 h2
 | hsl _ id ep off len lim b o cap hk he hc h =>
  have e:=s.ep id hk;refine .hsl _ id ep off len lim b o cap (by rw[s.kind_eq (by rw[hk];decide),hk]) (QW he e.1) hc λh'=>?_;have e1:(γ' id).ep=(γ id).ep:=Nat.le_antisymm (by rw[<-h'];exact he) e.1;obtain⟨a1,a2,a3,a4,d⟩:=e.2 e1;obtain⟨c1,c,l⟩:=h (h'.trans e1);refine⟨by rw[a3];exact c1,by rw[a1,a4];exact c,?_⟩;unfold gZ at *;cases lim<;>simp only[a2,d]at *<;>exact l
 | hptr _ id ep i off b o hk he h =>
  have e:=s.ep id hk;refine .hptr _ id ep i off b o (by rw[s.kind_eq (by rw[hk];decide),hk]) (QW he e.1) λh'=>?_;have e1:(γ' id).ep=(γ id).ep:=Nat.le_antisymm (by rw[<-h'];exact he) e.1;obtain⟨a1,a2,a3,a4,d⟩:=e.2 e1;obtain⟨c1,c⟩:=h (h'.trans e1);exact⟨by rw[a3];exact c1,by rw[a1,a4];exact c⟩
 |clo _ f xs ys vs us hl hl2 _ _ ih ih2=>exact .clo _ f xs ys vs us hl hl2 ih ih2
 | hmap _ id b hk hb =>
  exact .hmap _ id b (by rw[s.kind_eq (by rw[hk];decide),hk]) (by rw[s.blk_eq (by rw[hk];decide) (by rw[hk];decide)];exact hb)
 |ifc _ t x v _ ih=>exact .ifc _ t x v ih
 | yld _ id b hk hb =>
  exact .yld _ id b (by rw[s.kind_eq (by rw[hk];decide),hk]) (by rw[s.blk_eq (by rw[hk];decide) (by rw[hk];decide)];exact hb)
theorem RV.heap{γ:Gm}{A:Nat->Nat->Prop}(h:RV w γ A bd x v)(hh:w'.heap=w.heap):RV w' γ A bd x v:=by
 have hc:∀a,w'.cell? a=w.cell? a:=λa=>xJ (by rw[hh])
 induction h with
 |bool=>exact .bool _ _
 |int=>exact .int _ _ _
 |str=>exact .str _ _
 |tup _ xs vs hl _ ih=>exact .tup _ _ _ hl ih
 |agg _ xs vs hl h1 _ ih=>exact .agg _ _ _ hl h1 ih
 |nilp=>exact .nilp _
 |nils=>exact .nils _
 |nilf=>exact .nilf _
 |nilm=>exact .nilm _
 |nili=>exact .nili _
 |esl=>exact .esl _ _
 |tsl _ tag sz rows b o cap cell ht hc' hb hm ha hr ho hw _ hcl ih=>exact .tsl _ tag sz rows b o cap cell ht hc' (by rw[hh];exact hb) hm ha hr ho (λi j row x h1 h2=>by rw[hc];exact hw i j row x h1 h2) ih hcl
 |tnil _ tag sz a cap ht=>exact .tnil _ tag sz a cap ht
 |tptr _ tag sz rows i0 off0 b o cell ht hb hm ha hr ho hw _ hcl ih=>exact .tptr _ tag sz rows i0 off0 b o cell ht (by rw[hh];exact hb) hm ha hr ho (λi j row x h1 h2=>by rw[hc];exact hw i j row x h1 h2) ih hcl
 |hsl _ id ep off len lim b o cap hk he hc' h=>exact .hsl _ id ep off len lim b o cap hk he hc' h
 |hptr _ id ep i off b o hk he h=>exact .hptr _ id ep i off b o hk he h
 |clo _ f xs ys vs us hl hl2 _ _ ih ih2=>exact .clo _ f xs ys vs us hl hl2 ih ih2
 |hmap _ id b hk hb=>exact .hmap _ id b hk hb
 |ifc _ t x v _ ih=>exact .ifc _ t x v ih
 |yld _ id b hk hb=>exact .yld _ id b hk hb
theorem RVs.step{w w':World}{γ γ':Gm}{A:Nat->Nat->Prop}{bd:Nat}{xs:List AV}{vs:List Value}(h:RVs w γ A bd xs vs)(s:Stp w γ w' γ') :
  RVs w' γ' A bd xs vs:=⟨h.1,λi x v h1 h2=>(h.2 i x v h1 h2).step s⟩
def ObjRel(w:World)(γ:Gm)(A:Nat->Nat->Prop)(bd:Nat)(id:Nat):AObj->Prop
 |.none=>(γ id).kind=0
 | .cells sz rows ep loose fz=>(γ id).kind=1/\(γ id).ep=ep/\(γ id).sz=sz/\(γ id).n=rows.length/\((loose=false->(γ id).slack=0)/\(loose=true->rows.length+(γ id).slack<=9223372036854775807))/\(γ id).wr = !fz /\
   ∃(c:Array Value) (elem:TypeId),w.heap[(γ id).blk]?=some (.cells c elem (0,0))/\(γ id).base+(rows.length+(γ id).slack)*sz<=c.size /\
    (∀(i:Nat) row,rows[i]?=some row->row.length=sz) /\
    (∀(i j:Nat) row x,rows[i]?=some row->row[j]?=some x->x.one=true/\∃v,c[(γ id).base+i*sz+j]?=some v/\RV w γ A bd x v)
 | .map es=>(γ id).kind=2/\(γ id).wr=true /\
   ∃esC:Array MapEntry,w.heap[(γ id).blk]?=some (.map esC esC.size)/\es.length=esC.size /\
    (∀(i:Nat) k x e,es[i]?=some (k,x)->esC[i]?=some e->e.born=i/\RV w γ A bd k e.key/\RV w γ A bd x e.val)
 | .loop nt t ps assign body dfr st pend=>(γ id).kind=3/\(γ id).wr=true /\
   ∃L:Loop,w.heap[(γ id).blk]?=some (.loop L)/\L.state=st/\L.pending=pend/\L.params.toList=ps/\L.assign=assign/\L.body=body/\L.tmps.size=nt /\
    (∀i,RV w γ A bd (t.get AV.undef i) (L.tmps.getD i undef))/\(γ dfr).kind=4/\L.defers=(γ dfr).blk
 |.dfr live=>(γ id).kind=4/\(γ id).wr=true/\w.heap[(γ id).blk]?=some (.deferred (if live then some [] else none))
structure Rel (C:Cfg) (A:Nat->Nat->Prop) (bd:Nat) (w:World) (γ:Gm) (hg:Nat->AObj) (nx:Nat):Prop where
 obj:∀id,ObjRel w γ A bd id (hg id)
 lt:∀id,(γ id).kind≠0->id<nx/\(γ id).blk<w.heap.size
 inj:∀i j,(γ i).kind≠0->(γ j).kind≠0->(γ i).blk=(γ j).blk->i=j
 av:∀id,(γ id).kind≠0->∀t,¬A t (γ id).blk
 ab:∀t b,A t b->b<w.heap.size
 glob:∀g sz rows,C.glob g=some (sz,rows)->RV w γ A bd (.tptr 0 sz rows 0 0) (.pointer (some ⟨g,0,none⟩))
end
section
variable {γ:Gm}
section
variable {P:Program}{w:World}
theorem fp(b o n:Nat):(adr b o).add n=adr b (o+n):=by
 unfold Addr.add adr;split
 ·rename_i h;subst h;rfl
 ·rfl
theorem jH{i:TypeInfo}(h:P.info? t=some i):(typeInfo t).run P w=.ok i w:=by simp[typeInfo,h]
theorem aT(h:szT P t=some n):(Go.sizeOf t).run P w=.ok n w:=by
 unfold szT at h;cases hi:P.info? t with
 |none=>rw[hi]at h;cases h
 |some i=>rw[hi]at h;simp at h;simp[Go.sizeOf,jH hi,h]
theorem aC{d:TypeDesc}(h:P.underlying t=some d):(underlying t).run P w=.ok d w:=by simp[underlying,h]
theorem kX{b:Bool}(h:qF P t=some b):(isAgg t).run P w=.ok b w:=by
 unfold qF at h;cases hd:P.underlying t with
 |none=>rw[hd]at h;cases h
 |some d=>rw[hd]at h;cases d<;>simp at h<;>subst h<;>simp[isAgg,aC hd]
theorem uY{o:Nat}:∀(n i:Nat) (acc:Array Value) (cs:List Value),cs.length=n ->
  (∀(j:Nat) c,cs[j]?=some c->w.cell? (adr b (o+(i+j)))=some c) ->
  (loadCellsFrom (adr b o) i n acc).run P w=.ok (acc++cs.toArray) w:=by
 intro n
 induction n with
 |zero=>intro i acc cs hl _;have:cs=[]:=QU hl;subst this;simp[loadCellsFrom]
 | succ n ih =>
  intro i acc cs hl h;cases cs with
  |nil=>cases hl
  | cons c cs =>
   have h0:=h 0 c rfl;simp only[R7]at h0;simp only[loadCellsFrom,QF,run_load,fp,h0,QB];rw[ih (i+1) (acc.push c) cs (by simpa using hl) (λj x hj=>by
    have:=h (j+1) x (by simpa using hj);rw[show i+1+j=i+(j+1) from by omega];exact this)]
   simp
theorem tu{o:Nat}{cs:List Value}(h:∀(j:Nat) c,cs[j]?=some c->w.cell? (adr b (o+j))=some c) :
  (loadCells (adr b o) cs.length).run P w=.ok cs.toArray w:=by
 unfold loadCells;rw[uY cs.length 0 #[] cs rfl (λj c hj=>by simpa using h j c hj)];simp
def World.setBlk(w:World)(b:Nat)(o:Obj):World:={ w with heap:=w.heap.setIfInBounds b o }
def a9(c:Array Value)(o:Nat):List Value->Array Value
 |[]=>c
 |v::vs=>a9 (c.setIfInBounds o v) (o+1) vs
theorem bI(vs:List Value):∀(c:Array Value) (o:Nat),(a9 c o vs).size=c.size:=by
 induction vs with
 |nil=>intro c o;rfl
 |cons v vs ih=>intro c o;simp[a9,ih]
theorem bW(vs:List Value):∀(c:Array Value) (o k:Nat),o+vs.length<=c.size ->
  (a9 c o vs)[k]?=if o<=k/\k<o+vs.length then vs[k - o]? else c[k]?:=by
 induction vs with
 |nil=>intro c o k _;simp[a9];intro h1 h2;omega
 | cons v vs ih =>
  intro c o k h;simp only[Q9]at h;simp only[a9];rw[ih _ _ _ (by simp;omega)];simp only[Q9]
  by_cases h1:k=o
  ·subst h1;rw[Qw (by omega),QA ⟨Qv _,by omega⟩];simp[RY];omega
  ·by_cases h2:o<=k/\k<o+(vs.length+1)
   ·rw[QA (by omega),QA h2,show k - o=(k - (o+1))+1 from by omega];rfl
   ·rw[Qw (by omega),Qw h2,R3 (by omega)]
theorem aR(b:Nat)(o:Obj)(k:Nat):(World.setBlk w b o).heap[k]?=if k=b/\b<w.heap.size then some o else w.heap[k]?:=by
 simp only[World.setBlk,RY]
 by_cases h:b=k
 ·subst h;simp;split
  ·rfl
  ·rename_i a;rw[RP (by omega)]
 ·rw[Qw h,Qw (by omega)]
theorem nH(b:Nat)(o o':Obj):World.setBlk (World.setBlk w b o) b o'=World.setBlk w b o':=by simp only[World.setBlk,Array.setIfInBounds_setIfInBounds]
@[simp] theorem setBlk_size (b:Nat) (o:Obj):(World.setBlk w b o).heap.size=w.heap.size:=by simp[World.setBlk]
theorem zQ{o:Nat}{f:Nat×Nat}(h:w.heap[b]?=some (.cells c e f)) :
  w.setCell (adr b o) v=World.setBlk w b (.cells (c.setIfInBounds o v) e f):=by
 have hb:b<w.heap.size:=by
  rcases RX b w.heap.size with hl|hl
  ·exact hl
  ·rw[RP hl]at h;cases h
 have hx:w.heap[b]=.cells c e f:=by simpa [QH hb] using h
 simp only[World.setCell,World.setBlk,adr];congr 1;apply S9;intro k;rw[Tc,RY]
 by_cases hk:b=k
 ·subst hk;simp[hb,hx]
 ·rw[Qw hk,Qw hk]
theorem nW{o:Nat}{f:Nat×Nat}(h:w.heap[b]?=some (.cells c e f)):w.cell? (adr b o)=c[o]?:=by simp[World.cell?,adr,h]
theorem rY{o:Nat}:∀(vs:List Value) (i:Nat) (w:World) (c:Array Value),w.heap[b]?=some (.cells c e (0,0)) ->
  o+i+vs.length<=c.size->(∀v∈vs,v.oneCell'=true) ->
  (storeCells (adr b o) vs i).run P w=.ok () (World.setBlk w b (.cells (a9 c (o+i) vs) e (0,0))):=by
 intro vs
 induction vs with
 | nil =>
  intro i w c h _ _;have hb:b<w.heap.size:=by
   rcases RX b w.heap.size with hl|hl
   ·exact hl
   ·rw[RP hl]at h;cases h
  have:World.setBlk w b (.cells c e (0,0))=w:=by
   have hx:w.heap[b]=.cells c e (0,0):=by simpa [QH hb] using h
   simp only[World.setBlk];congr 1;apply S9;intro k;rw[RY]
   split
   ·rename_i hk;subst hk;simp[hb,hx]
   ·rfl
  simp[storeCells,a9,this]
 | cons v vs ih =>
  intro i w c h hs h1;simp only[Q9]at hs;have j:v.oneCell'=true:=h1 v (by simp);have a:w.cell? (adr b (o+i))=c[o+i]?:=nW h;have f:o+i<c.size:=by omega
  have d:w.frozen? (adr b (o+i))=false:=by simp[World.frozen?,adr,h]
  simp only[storeCells,QF,fp,run_store P w _ v _ j,a,QH f,d];simp only[Se,if_false,QB,zQ h];have hb:b<w.heap.size:=by
   rcases RX b w.heap.size with hl|hl
   ·exact hl
   ·rw[RP hl]at h;cases h
  rw[ih (i+1) _ (c.setIfInBounds (o+i) v) (by rw[aR];simp[hb]) (by simp;omega) (λx hx=>h1 x (by simp[hx])),nH]
  rfl
end
theorem Fy{w:World}{A:Nat->Nat->Prop}{x:AV}(h:RV w γ A bd x v)(h1:x.one=true) :
  v.oneCell'=true/\v.cells=#[v]:=by
 cases h<;>first| (cases h1;done)|exact⟨rfl,rfl⟩
theorem nX{w:World}{A:Nat->Nat->Prop}{x:AV}(h:RV w γ A bd x v)(ht:x.isTup=false) :
  RVs w γ A bd x.cells v.cells.toList/\(∀(i:Nat) y,x.cells[i]?=some y->y.one=true):=by
 by_cases h1:x.one=true
 ·have hx:x.cells=[x]:=by cases x<;>first|rfl|cases h1
  obtain⟨_,a⟩:=Fy h h1;rw[hx,a];refine⟨⟨rfl,λi y u hy hu=>?_⟩,λi y hy=>?_⟩
  ·cases i with
   |zero=>simp at hy hu;subst hy;subst hu;exact h
   |succ i=>simp at hy
  ·cases i with
   |zero=>simp at hy;subst hy;exact h1
   |succ i=>simp at hy
 ·cases h<;>first| (exact absurd rfl h1)| (cases ht;done)|skip
  rename_i xs vs hl k h';exact⟨⟨by simpa [AV.cells,Value.cells] using hl,λi y u hy hu=>h' i y u hy (by simpa [Value.cells] using hu)⟩,k⟩
theorem Hl{w:World}{A:Nat->Nat->Prop}{xs:List AV}{vs:List Value}(h:RVs w γ A bd xs vs)
  (h1:∀(i:Nat) y,xs[i]?=some y->y.one=true):∀v∈vs,v.oneCell'=true:=by
 intro v k;obtain⟨i,hi⟩:=QO k;have hlt:i<xs.length:=by rw[h.1];exact (Qt.1 hi).1
 exact (Fy (h.2 i _ v (Qu hlt) hi) (h1 i _ (Qu hlt))).1
end
def upd{α:Type}(f:Nat->α)(i:Nat)(x:α):Nat->α:=λk=>if k=i then x else f k
@[simp] theorem upd_same {α:Type} (f:Nat->α) (i:Nat) (x:α):upd f i x i=x:=by simp[upd]
theorem ct{α:Type}(f:Nat->α){k:Nat}(x:α)(h:k≠i):upd f i x k=f k:=by simp[upd,h]
section
variable {C:Cfg}{A:Nat->Nat->Prop}{bd:Nat}{w w':World}{γ γ':Gm}{hg:Nat->AObj}{nx nx':Nat}
theorem ObjRel.step{j:Nat}{o:AObj}(h:ObjRel w γ A bd j o)(s:Stp w γ w' γ')(hj:γ' j=γ j)
  (hb:(γ j).kind≠0->o≠.none->w'.heap[(γ j).blk]?=w.heap[(γ j).blk]?):ObjRel w' γ' A bd j o:=by
 cases o with
 |none=>simpa only[ObjRel,hj] using h
 | cells sz rows ep loose fz =>
  obtain⟨h1,h2,l,h4,h5,n,c,e,h7,h8,h9,d⟩:=h;simp only[ObjRel,hj];refine⟨h1,h2,l,h4,h5,n,c,e,?_,h8,h9,λi j' row x hr hx=>?_⟩
  ·rw[hb (by rw[h1];decide) (by simp)];exact h7
  ·obtain⟨a,v,b1,b2⟩:=d i j' row x hr hx;exact⟨a,v,b1,b2.step s⟩
 | map es =>
  obtain⟨h1,h2,esC,l,h4,h5⟩:=h;simp only[ObjRel,hj];refine⟨h1,h2,esC,by rw[hb (by rw[h1];decide) (by simp)];exact l,h4,λi k x e a b=>?_⟩;obtain⟨c1,p,q⟩:=h5 i k x e a b;exact⟨c1,p.step s,q.step s⟩
 | loop nt t ps assign body dfr st pend =>
  obtain⟨h1,h2,L,l,h4,h5,n,h7,h8,h9,d,f,m⟩:=h;simp only[ObjRel,hj];have hd:(γ dfr).kind≠0:=by rw[f];decide
  refine⟨h1,h2,L,by rw[hb (by rw[h1];decide) (by simp)];exact l,h4,h5,n,h7,h8,h9,λi=>(d i).step s,by rw[s.kind_eq hd,f],?_⟩;rw[m,s.blk_eq hd (by rw[f];decide)]
 | dfr live =>
  obtain⟨h1,h2,l⟩:=h;simp only[ObjRel,hj];exact⟨h1,h2,by rw[hb (by rw[h1];decide) (by simp)];exact l⟩
theorem Rel.set(h:Rel C A bd w γ hg nx){id:Nat}{gh:Gh}{o:AObj}(hγ:γ'=upd γ id gh)(s:Stp w γ w' γ')(hn:nx<=nx')
  (ho:ObjRel w' γ' A bd id o) (hlt:id<nx'/\gh.blk<w'.heap.size) (hinj:∀j,j≠id->(γ j).kind≠0->(γ j).blk≠gh.blk)
  (hav:∀t,¬A t gh.blk)
  (hoth:∀j,j≠id->(γ j).kind≠0->hg j≠.none->w'.heap[(γ j).blk]?=w.heap[(γ j).blk]?) :
  Rel C A bd w' γ' (upd hg id o) nx':=by
 subst hγ;constructor
 ·intro j
  by_cases k:j=id
  ·subst k;simpa using ho
  ·rw[ct _ _ k];exact (h.obj j).step s (ct _ _ k) (hoth j k)
 ·intro j hk
  by_cases k:j=id
  ·subst k;simpa using hlt
  ·rw[ct _ _ k]at hk ⊢;exact⟨QV (h.lt j hk).1 hn,QV (h.lt j hk).2 s.sz⟩
 ·intro i j hi k e
  by_cases h1:i=id<;>by_cases h2:j=id
  ·rw[h1,h2]
  ·subst h1;rw[ct _ _ h2]at k e;simp only[upd_same]at e;exact absurd e.symm (hinj j h2 k)
  ·subst h2;rw[ct _ _ h1]at hi e;simp only[upd_same]at e;exact absurd e (hinj i h1 hi)
  ·rw[ct _ _ h1]at hi e;rw[ct _ _ h2]at k e;exact h.inj i j hi k e
 ·intro j hk
  by_cases k:j=id
  ·subst k;simpa using hav
  ·rw[ct _ _ k]at hk ⊢;exact h.av j hk
 ·intro t b hb;exact QV (h.ab t b hb) s.sz
 ·intro g sz rows hg';exact (h.glob g sz rows hg').step s
theorem Rel.up(h:Rel C A bd w γ hg nx)(hn:nx<=nx'):Rel C A bd w γ hg nx' :=
 ⟨h.obj,λid hk=>⟨QV (h.lt id hk).1 hn,(h.lt id hk).2⟩,h.inj,h.av,h.ab,h.glob⟩
theorem sO{id:Nat}{o:Obj}(hk:(γ id).kind≠0)(hw:(γ id).wr=true):Stp w γ (World.setBlk w (γ id).blk o) γ where
 sz:=by simp
 os:=rfl
 tape:=rfl
 output:=rfl
 fr b hb hm:=by rw[aR,Qw];rintro⟨h,_⟩;exact hm ⟨id,hk,hw,h.symm⟩
 mt b _ h:=h
 kind _ _:=.inl ⟨rfl,rfl⟩
 ep _ _:=⟨Qv _,λ_=>⟨rfl,rfl,rfl,rfl,rfl⟩⟩
 dr:=Qv _
theorem Rel.setBlk(h:Rel C A bd w γ hg nx){id:Nat}{o:Obj}{ao:AObj}(hk:(γ id).kind≠0)(hw:(γ id).wr=true)
  (ho:ObjRel (World.setBlk w (γ id).blk o) γ A bd id ao) :
  Rel C A bd (World.setBlk w (γ id).blk o) γ (upd hg id ao) nx/\Stp w γ (World.setBlk w (γ id).blk o) γ:=by
 have s:=sO (w:=w) (o:=o) hk hw;refine⟨?_,s⟩;have e:γ=upd γ id (γ id):=by funext k;unfold upd;split<;>simp_all
 refine h.set (gh:=γ id) e s (Qv _) ho ?_ ?_ ?_ ?_
 ·have:=h.lt id hk;exact⟨this.1,by simpa using this.2⟩
 ·intro j b a eb;exact b (h.inj j id a hk eb)
 ·exact h.av id hk
 ·intro j b a _;rw[aR,Qw];rintro⟨eb,_⟩;exact b (h.inj j id a hk eb)
def World.add(w:World)(o:Obj):World:={ w with heap:=w.heap.push o }
@[simp] theorem add_size (o:Obj):(World.add w o).heap.size=w.heap.size+1:=by simp[World.add]
theorem jq(o:Obj)(b:Nat):(World.add w o).heap[b]?=if b=w.heap.size then some o else w.heap[b]?:=by simp only[World.add,S2]
theorem CE{id:Nat}{gh:Gh}{o:Obj}(hid:(γ id).kind=0)(hb:gh.blk=w.heap.size):Stp w γ (World.add w o) (upd γ id gh) where
 sz:=by simp
 os:=rfl
 tape:=rfl
 output:=rfl
 fr b hb' _:=by rw[jq,Qw (by omega)]
 mt b hb':=by
  rintro⟨j,h1,h2,h⟩
  by_cases hj:j=id
  ·subst hj;simp only[upd_same]at h;omega
  ·rw[ct _ _ hj]at h1 h2 h;exact⟨j,h1,h2,h⟩
 kind j hj:=by
  have:j≠id:=by rintro rfl;exact hj hid
  rw[ct _ _ this];exact .inl ⟨rfl,rfl⟩
 ep j hj:=by
  have:j≠id:=by rintro rfl;rw[hid]at hj;cases hj
  rw[ct _ _ this];exact⟨Qv _,λ_=>⟨rfl,rfl,rfl,rfl,rfl⟩⟩
 dr:=Qv _
theorem Rel.add(h:Rel C A bd w γ hg nx){id:Nat}{gh:Gh}{o:Obj}{ao:AObj}(hid:(γ id).kind=0)(hb:gh.blk=w.heap.size)
  (hn:nx<=nx') (hi:id<nx') (ho:ObjRel (World.add w o) (upd γ id gh) A bd id ao) :
  Rel C A bd (World.add w o) (upd γ id gh) (upd hg id ao) nx'/\Stp w γ (World.add w o) (upd γ id gh):=by
 have s:=CE (w:=w) (o:=o) hid hb;refine⟨h.set (gh:=gh) rfl s hn ho ⟨hi,by simp[hb]⟩ ?_ ?_ ?_,s⟩
 ·intro j _ k e;have:=(h.lt j k).2;omega
 ·intro t ht;have:=h.ab t _ ht;omega
 ·intro j _ k _;have:=(h.lt j k).2;rw[jq,Qw (by omega)]
end
section
variable {C:Cfg}{A:Nat->Nat->Prop}{bd:Nat}{w:World}{γ:Gm}{hg:Nat->AObj}{nx nx':Nat}
theorem Rel.newCells(h:Rel C A bd w γ hg nx){id sz slack:Nat}{rows:List (List AV)}(e:TypeId)
  (hid:(γ id).kind=0) (hn:nx<=nx') (hi:id<nx') (hs:(loose=false->slack=0)/\(loose=true->rows.length+slack<=9223372036854775807)) (hc:(rows.length+slack)*sz<=c.size)
  (hr:∀(i:Nat) row,rows[i]?=some row->row.length=sz)
  (hv:∀(i j:Nat) row x,rows[i]?=some row->row[j]?=some x->x.one=true/\∃v,c[i*sz+j]?=some v/\RV w γ A bd x v) :
  ∃γ',Rel C A bd (World.add w (.cells c e (0,0))) γ' (upd hg id (.cells sz rows 0 loose false)) nx'/\Stp w γ (World.add w (.cells c e (0,0))) γ' /\
   (γ' id).kind=1/\(γ' id).ep=0/\(γ' id).sz=sz/\(γ' id).n=rows.length/\(γ' id).blk=w.heap.size/\(γ' id).base=0/\(γ' id).slack=slack:=by
 let gh:Gh:=⟨1,0,sz,rows.length,w.heap.size,0,slack,true⟩
 have s:=CE (w:=w) (o:=.cells c e (0,0)) (gh:=gh) hid rfl;obtain⟨r,s'⟩:=h.add (id:=id) (gh:=gh) (o:=.cells c e (0,0)) (ao:=.cells sz rows 0 loose false) hid rfl hn hi (by
  simp only[ObjRel,upd_same];refine⟨rfl,rfl,rfl,rfl,hs,rfl,c,e,by rw[jq];simp[gh],by simpa [gh] using hc,hr,λi j row x h1 h2=>?_⟩;obtain⟨a,v,b1,b2⟩:=hv i j row x h1 h2;exact⟨a,v,by simpa [gh] using b1,b2.step s⟩)
 exact⟨_,r,s',by simp[gh],by simp[gh],by simp[gh],by simp[gh],by simp[gh],by simp[gh],by simp[gh]⟩
theorem Rel.storeCells(h:Rel C A bd w γ hg nx){id sz ep:Nat}{rows rows':List (List AV)}{loose:Bool}
  (hid:hg id=.cells sz rows ep loose false) {o:Nat} {vs:List Value} {xs:List AV}
  (hvs:RVs w γ A bd xs vs) (h1:∀(i:Nat) y,xs[i]?=some y->y.one=true)
  (hlen:rows'.length=rows.length) (hr':∀(i:Nat) row,rows'[i]?=some row->row.length=sz)
  (hin:(γ id).base<=o/\o+vs.length<=(γ id).base+rows.length*sz)
  (hcells:∀(i j:Nat) row x,rows'[i]?=some row->row[j]?=some x ->
   (if o<=(γ id).base+i*sz+j/\(γ id).base+i*sz+j<o+vs.length then xs[(γ id).base+i*sz+j - o]?=some x
    else ∃row0,rows[i]?=some row0/\row0[j]?=some x)) (P:Program) :
  ∃w',(Go.storeCells (adr (γ id).blk o) vs).run P w=.ok () w' /\
   Rel C A bd w' γ (upd hg id (.cells sz rows' ep loose false)) nx/\Stp w γ w' γ:=by
 have f:=h.obj id;rw[hid]at f;obtain⟨n,k2,q,t,u,z,c,e,B,D,E,m⟩:=f;have l:o+vs.length<=c.size:=by have:rows.length*sz<=(rows.length+(γ id).slack)*sz:=QK _ (by omega);omega
 have d:=rY (P:=P) vs 0 w c B (by simpa using l) (Hl hvs h1);simp only[R7]at d;have hk:(γ id).kind≠0:=by rw[n];decide
 have hw:(γ id).wr=true:=by simpa using z
 have s:=sO (w:=w) (o:=.cells (a9 c o vs) e (0,0)) hk hw;obtain⟨r,s'⟩:=h.setBlk (id:=id) (o:=.cells (a9 c o vs) e (0,0)) (ao:=.cells sz rows' ep loose false) hk hw (by
  refine⟨n,k2,q,by rw[t,hlen],by rw[hlen];exact u,by simpa using hw,a9 c o vs,e,?_,by rw[bI,hlen];exact D,hr',λi j row x a b=>?_⟩
  ·rw[aR];simp[(h.lt id hk).2]
  ·have hc:=hcells i j row x a b;rw[bW _ _ _ _ l]
   split at hc
   ·rename_i k;rw[QA k];have hlt:(γ id).base+i*sz+j - o<vs.length:=by omega
    refine⟨h1 _ _ hc,vs[(γ id).base+i*sz+j - o],Qu hlt,?_⟩;exact (hvs.2 _ _ _ hc (Qu hlt)).step s
   ·rename_i k;rw[Qw k];obtain⟨row0,c1,p⟩:=hc;obtain⟨d1,v,d2,d3⟩:=m i j row0 x c1 p;exact⟨d1,v,d2,d3.step s⟩)
 exact⟨_,d,r,s'⟩
end
def TR(w:World)(γ:Gm)(A:Nat->Nat->Prop)(bd:Nat)(nt:Nat)(t:T)(tmps:Array Value):Prop :=
 tmps.size=nt/\∀i,RV w γ A bd (t.get AV.undef i) (tmps.getD i undef)
def CO(P:Program)(o:Oper)(ev:Operand->Value)(w:World)(v:Value)(w':World):Prop :=
 (execOp ev o).run P w=.ok (.value v) w'\/((execOp ev o).run P w=.ok .skip w'/\v=undef)
def OpSim(C:Cfg)(A:Nat->Nat->Prop)(bd:Nat)(w:World)(γ:Gm)(hg:Nat->AObj)(nx:Nat)(o:Oper)(ev:Operand->Value)(g:G):OR->Prop
 |.fail=>True
 |.val x=>∃v,CO C.P o ev w v w/\RV w γ A bd x v
 | .upd x g'=>∃v w' γ' id ob,CO C.P o ev w v w'/\RV w' γ' A bd x v/\Stp w γ w' γ' /\
   ((g'=g.put id ob/\Rel C A bd w' γ' (upd hg id ob) nx)\/(g'=g.new ob/\id=g.nx/\Rel C A bd w' γ' (upd hg id ob) (Nat.max nx (g.nx+1))))
 |.dfr _=>False
section
variable {C:Cfg}{A:Nat->Nat->Prop}{bd:Nat}{w:World}{γ:Gm}{hg:Nat->AObj}{nx:Nat}
theorem Fw{a:AV}(h:ofV v=some a):RV w γ A bd a v/\a.one=true:=by
 unfold ofV at h
 split at h<;>first| (cases h;done)| (injection h with h;subst h;exact⟨by constructor,rfl⟩)
theorem mS:∀{vs:List Value} {as:List AV},xB vs=some as->RVs w γ A bd as vs/\∀(i:Nat) y,as[i]?=some y->y.one=true:=by
 intro vs
 induction vs with
 |nil=>intro as h;simp[xB]at h;subst h;exact⟨⟨rfl,λi x v h=>by simp at h⟩,λi y h=>by simp at h⟩
 | cons v vs ih =>
  intro as h;simp only[xB]at h
  split at h
  ·rename_i a as' h1 h2;injection h with h;subst h;obtain⟨p,q⟩:=Fw (w:=w) (γ:=γ) (A:=A) (bd:=bd) h1;obtain⟨r,s⟩:=ih h2;refine⟨⟨by simp[r.1],λi x u hx hu=>?_⟩,λi y hy=>?_⟩
   ·cases i with
    |zero=>simp at hx hu;subst hx;subst hu;exact p
    |succ i=>exact r.2 i x u (by simpa using hx) (by simpa using hu)
   ·cases i with
    |zero=>simp at hy;subst hy;exact q
    |succ i=>exact s i y (by simpa using hy)
  ·cases h
theorem ax{x:Operand}{s:Stg (T->AV)}{nt:Nat}{t:T}{a:Act}(h:aN C x=some s)(ht:TR w γ A bd nt t a.tmps)(hr:Rel C A bd w γ hg nx) :
  RV w γ A bd (s.run t) (a.eval x):=by
 cases x with
 |tmp n=>simp[aN]at h;subst h;rw[gp_run];exact ht.2 n
 | const v =>
  simp only[aN]at h
  split at h
  ·rename_i a' h1;injection h with h;subst h;exact (Fw h1).1
  ·cases h
 | global g =>
  simp only[aN]at h
  split at h
  ·rename_i sz rows h1;injection h with h;subst h;exact hr.glob g sz rows h1
  ·cases h
 | func f =>
  simp[aN]at h;subst h;exact .clo _ f [] [] #[] #[] rfl rfl (λi x v h=>by simp at h) (λi x v h=>by simp at h)
theorem ge{nt:Nat}{t:T}{a:Act}(ht:TR w γ A bd nt t a.tmps)(hr:Rel C A bd w γ hg nx):∀{xs:List Operand} {s:Stg (T->List AV)},
  bL C xs=some s->RVs w γ A bd (s.run t) (xs.map a.eval):=by
 intro xs
 induction xs with
 |nil=>intro s h;simp[bL]at h;subst h;exact⟨rfl,λi x v h=>by simp at h⟩
 | cons x xs ih =>
  intro s h;simp only[bL]at h
  split at h
  ·rename_i a' as' h1 h2;injection h with h;subst h;have p:=ax h1 ht hr;have q:=ih h2;refine⟨by simp[q.1],λi y u hy hu=>?_⟩;cases i with
   |zero=>simp at hy hu;subst hy;subst hu;exact p
   |succ i=>exact q.2 i y u (by simpa using hy) (by simpa using hu)
  ·cases h
theorem tp{row:List AV}{o:Nat}{x:AV}{bd':Nat}(hb:bd'<=bd)
  (hcell:∀(j:Nat) y,row[j]?=some y->y.one=true/\∃v,w.cell? (adr b (o+j))=some v/\RV w γ A bd' y v)
  (hag:qF C.P ty=some ag) (hn:szT C.P ty=some n) (h:bN ag n row off=some x) :
  ∃v,(loadVar ty (adr b (o+off))).run C.P w=.ok v w/\RV w γ A bd x v:=by
 unfold bN at h;cases ag with
 | false =>
  simp only[cY]at h;obtain⟨_,v,h1,h2⟩:=hcell off x h;exact⟨v,by simp[loadVar,kX hag,h1],h2.mono hb⟩
 | true =>
  simp only[a_,aX,au,aa]at h
  split at h
  ·rename_i hl;rw[Nat.beq_eq]at hl;injection h with h;subst h;have l:∀j:Fin n,∃v,w.cell? (adr b (o+off+j))=some v/\∃y,(List.take n (List.drop off row))[j.1]?=some y/\y.one=true/\RV w γ A bd' y v:=by
    intro j;have m:j.1<(List.take n (List.drop off row)).length:=by rw[hl];exact j.2
    have e:(List.take n (List.drop off row))[j.1]?=row[off+j.1]?:=by rw[Ra j.2,Q5]
    have d:=Qu m;obtain⟨c1,v,p,q⟩:=hcell (off+j.1) _ (e ▸ d);exact⟨v,by rw[Sg];exact p,_,d,c1,q⟩
   let f:Fin n->Value:=λj=>Classical.choose (l j)
   have hf:∀j:Fin n,w.cell? (adr b (o+off+j))=some (f j)/\∃y,(List.take n (List.drop off row))[j.1]?=some y/\y.one=true/\RV w γ A bd' y (f j) :=
    λj=>Classical.choose_spec (l j)
   have k:(List.ofFn f).length=n:=by simp
   have a:=tu (P:=C.P) (w:=w) (b:=b) (o:=o+off) (cs:=List.ofFn f) (λj c hc=>by
    have m:j<n:=by rw[<-k];exact (Qt.1 hc).1
    rw[List.getElem?_ofFn]at hc;simp[m]at hc;rw[<-hc];exact (hf ⟨j,m⟩).1)
   rw[k]at a;refine⟨.agg (List.ofFn f).toArray,by simp[loadVar,kX hag,aT hn,a],.agg _ _ _ (by simpa using hl) (λi y d=>?_) (λi y v d hv=>?_)⟩
   ·have hi:i<n:=by rw[<-hl];exact (Qt.1 d).1
    obtain⟨_,y',h1,h2,_⟩:=hf ⟨i,hi⟩;rw[d]at h1;injection h1 with h1;subst h1;exact h2
   ·have hi:i<n:=by rw[<-hl];exact (Qt.1 d).1
    obtain⟨_,y',h1,h2,r⟩:=hf ⟨i,hi⟩;rw[d]at h1;injection h1 with h1;subst h1;simp[hi]at hv;rw[<-hv];exact r.mono hb
  ·cases h
theorem sJ(hr:Rel C A bd w γ hg nx){id sz:Nat}{rows:List (List AV)}{fz:Bool}(hid:hg id=.cells sz rows ep loose fz)
   {row:List AV} (hi:rows[i]?=some row) (j:Nat) (y:AV) (hy:row[j]?=some y) :
  y.one=true/\∃v,w.cell? (adr (γ id).blk ((γ id).base+i*sz+j))=some v/\RV w γ A bd y v:=by
 have h:=hr.obj id;rw[hid]at h;obtain⟨d,k2,f,l,m,n,c,e,b,o,p,k⟩:=h;obtain⟨a,v,b1,b2⟩:=k i j row y hi hy;exact⟨a,v,by rw[nW b];exact b1,b2⟩
theorem ay{a:Nat}(h:Nat.beq a b=true):a=b:=Ro h
def ValSim(C:Cfg)(A:Nat->Nat->Prop)(bd:Nat)(w:World)(γ:Gm)(m:Sem Value):OR->Prop
 |.fail=>True
 |.val x=>∃v,m.run C.P w=.ok v w/\RV w γ A bd x v
 |_=>False
theorem mT{m:Sem Value}{x:Option AV}(h:∀y,x=some y->∃v,m.run C.P w=.ok v w/\RV w γ A bd y v):ValSim C A bd w γ m (orV x):=by
 cases x with
 |none=>trivial
 |some y=>exact h y rfl
theorem DM{a:T->AV}{t:T}{g:G}(hr:Rel C A bd w γ hg nx)
  (ha:RV w γ A bd (a t) va) (hag:qF C.P ty=some ag) (hn:szT C.P ty=some n) (agree:∀id∈am (a t),hg id=g.h.get id) :
  ValSim C A bd w γ (Instr.loadAt ty va) (l8 ag n a t g):=by
 unfold l8;generalize a t=x at *;cases ha with
 | tptr _ tag sz rows i0 off0 b o cell ht hb hm ha' hrl ho hw h =>
  simp only[cY];cases hrow:rows[i0]? with
  |none=>trivial
  | some row =>
   refine mT λy hp=>?_;obtain⟨v,h1,h2⟩:=tp (C:=C) (ty:=ty) (w:=w) (γ:=γ) (A:=A) (bd:=bd) ht (b:=b) (o:=o+i0*sz) (λj y hy=>⟨ho i0 j row y hrow hy,_,hw i0 j row y hrow hy,h i0 j row y hrow hy⟩) hag hn hp;exact⟨v,by simp[Instr.loadAt,Instr.sureAddr,h1],h2⟩
 | hptr _ id ep i off b o hk he h =>
  have k:=agree id (by simp[am]);simp only[G.get_eq,<-k];cases hid:hg id with
  | cells sz rows ep' loose fz =>
   simp only[aa]
   split
   ·rename_i c;have c:=ay c;have d:=hr.obj id;rw[hid]at d;obtain⟨l,k2,f,_⟩:=d;obtain⟨c1,e⟩:=h (c.trans k2.symm);simp only[cY];cases hrow:rows[i]? with
    |none=>trivial
    | some row =>
     refine mT λy hp=>?_;obtain⟨v,h1,h2⟩:=tp (C:=C) (ty:=ty) (w:=w) (γ:=γ) (A:=A) (bd:=bd) (Qv _) (b:=(γ id).blk) (o:=(γ id).base+i*sz) (sJ hr hid hrow) hag hn hp;refine⟨v,?_,h2⟩;rw[c1,e,f];simp[Instr.loadAt,Instr.sureAddr,h1]
   ·trivial
  |_=>trivial
 |_=>trivial
end
section
variable {g:G}
theorem J0{i' j sz:Nat}(hj:j<sz)(h1:i*sz<=i'*sz+j)(h2:i'*sz+j<i*sz+sz):i'=i:=by
 rcases Nat.lt_trichotomy i' i with h|h|h
 ·have:(i'+1)*sz<=i*sz:=QK _ h;rw[QR,RB]at this;omega
 ·exact h
 ·have:(i+1)*sz<=i'*sz:=QK _ h;rw[QR,RB]at this;omega
theorem pM{row row':List AV}{cs:List AV}(h:bY row off cs=some row') :
  row'.length=row.length/\off+cs.length<=row.length/\∀j,row'[j]?=if off<=j/\j<off+cs.length then cs[j - off]? else row[j]?:=by
 unfold bY at h;simp only[au,iD,a_,aX,aa]at h
 split at h
 ·rename_i k;rw[Q6]at k;injection h with h
  split at h
  ·rename_i c;subst h;refine⟨by simp,k,λj=>?_⟩;simp only[Q9,Sc]at k ⊢;rw[Ru]
   by_cases hj:off=j
   ·subst hj;rw[QA rfl,QA (by omega),QA (by omega)];simp
   ·rw[Qw hj,Qw (by omega)]
  ·subst h;refine⟨by simp;omega,k,λj=>?_⟩
   by_cases h1:j<off
   ·rw[Qw (by omega),QE (by simp;omega),Ra h1]
   ·rw[QL (by simp;omega)];simp only[Q_,Sn (show off<=row.length by omega)]
    by_cases h2:j<off+cs.length
    ·rw[QA ⟨by omega,h2⟩,QE (by omega)]
    ·rw[Qw (by omega),QL (by omega),Q5];congr 1;omega
 ·cases h
section
variable {C:Cfg}{A:Nat->Nat->Prop}{bd:Nat}{w:World}{γ:Gm}{hg:Nat->AObj}{nx:Nat}
def cM(C:Cfg)(A:Nat->Nat->Prop)(bd:Nat)(w:World)(γ:Gm)(hg:Nat->AObj)(nx:Nat)(m:Sem Value)(g:G):OR->Prop
 |.fail=>True
 |.val x=>∃v,m.run C.P w=.ok v w/\RV w γ A bd x v
 | .upd x g'=>∃v w' γ' id ob,m.run C.P w=.ok v w'/\RV w' γ' A bd x v/\Stp w γ w' γ' /\
   ((g'=g.put id ob/\Rel C A bd w' γ' (upd hg id ob) nx)\/(g'=g.new ob/\id=g.nx/\Rel C A bd w' γ' (upd hg id ob) (Nat.max nx (g.nx+1))))
 |.dfr _=>False
theorem cz:RV w γ A bd AV.undef undef:=.tup _ [] #[] rfl (λi x v h=>by simp at h)
theorem IR{a x:T->AV}{t:T}{vx:Value}(hr:Rel C A bd w γ hg nx)
  (ha:RV w γ A bd (a t) va) (hx:RV w γ A bd (x t) vx) (hn:szT C.P ty=some n) (agree:∀id∈am (a t),hg id=g.h.get id) :
  cM C A bd w γ hg nx (do Instr.storeAt ty va vx;pure undef) g (nK n a x t g):=by
 unfold nK;generalize a t=y at *;generalize x t=z at *;cases ha with
 | hptr _ id ep i off b o hk he h =>
  have m:=agree id (by simp[am]);simp only[G.get_eq,<-m];cases hid:hg id with
  | cells sz rows ep' loose fz =>
   simp only[aa,au,cY,iD]
   split
   ·rename_i hc;simp only[Qy,notb_eq,RQ]at hc;obtain⟨⟨⟨p,f⟩,u⟩,s⟩:=hc;have p:=ay p;have f:=ay f;subst u;subst p;have r:=hr.obj id;rw[hid]at r;obtain⟨M,k2,I,N,O,Q,c,e,R,S,D,H⟩:=r;obtain⟨c1,E⟩:=h k2.symm;rw[I]at E;cases hrow:rows[i]? with
    |none=>trivial
    | some row =>
     dsimp only;cases hp:bY row off z.cells with
     |none=>trivial
     | some row' =>
      obtain⟨p1,p2,p3⟩:=pM hp;obtain⟨q1,q2⟩:=nX hx s;have v:row.length=sz:=D i row hrow;have hi:i<rows.length:=(Qt.1 hrow).1;have q:(i+1)*sz<=rows.length*sz:=QK _ hi;rw[QR,RB]at q;have l:vx.cells.toList.length=z.cells.length:=q1.1.symm;obtain⟨w',J,K,L⟩:=hr.storeCells hid (rows':=rows.set i row') (o:=(γ id).base+i*sz+off) (vs:=vx.cells.toList) q1 q2 (by simp)
       (λi' r' k=>by
        rw[Ru]at k
        by_cases hii:i=i'
        ·subst hii;rw[QA rfl,QA hi]at k;injection k with k;subst k;rw[p1];exact v
        ·rw[Qw hii]at k;exact D i' r' k)
       ⟨by omega,by rw[l];omega⟩
       (λi' j r' y k hy=>by
        rw[Ru]at k
        by_cases hii:i=i'
        ·subst hii;rw[QA rfl,QA hi]at k;injection k with k;subst k;have:=p3 j;rw[hy]at this
         split
         ·rename_i d;rw[l]at d;rw[QA (by omega)]at this;rw[show (γ id).base+i*sz+j - ((γ id).base+i*sz+off)=j - off from by omega];exact this.symm
         ·rename_i d;rw[l]at d;rw[Qw (by omega)]at this;exact⟨row,hrow,this.symm⟩
        ·rw[Qw hii]at k;have F:j<sz:=by rw[<-D i' r' k];exact (Qt.1 hy).1
         rw[Qw]
         ·exact⟨r',k,hy⟩
         ·rw[l];rintro⟨l1,l2⟩;exact hii (J0 (i:=i) (i':=i') F (by omega) (by omega)).symm) C.P
      refine⟨undef,w',γ,id,.cells sz (rows.set i row') ep loose false,?_,cz,L,.inl ⟨rfl,K⟩⟩;have B:vx.cells.size=n:=by rw[<-f,<-l];simp
      rw[c1,E];simp[Instr.storeAt,Instr.sureAddr,storeVar,aT hn,B,J]
   ·trivial
  |_=>trivial
 |_=>trivial
theorem Ch{sz:Nat}{rows:List (List AV)}{cs:Array Value}(e:TypeId)(hr:Rel C A bd w γ hg nx)(hf:(γ g.nx).kind=0)
  (hrow:∀(i:Nat) row,rows[i]?=some row->row.length=sz)
  (hv:∀(i j:Nat) row x,rows[i]?=some row->row[j]?=some x->x.one=true/\∃v,cs[i*sz+j]?=some v/\RV w γ A bd x v)
  (loose:Bool) (slack:Nat) (hs:(loose=false->slack=0)/\(loose=true->rows.length+slack<=9223372036854775807)) (hc:(rows.length+slack)*sz<=cs.size) :
  ∃γ',Rel C A bd (World.add w (.cells cs e (0,0))) γ' (upd hg g.nx (.cells sz rows 0 loose false)) (Nat.max nx (g.nx+1))/\Stp w γ (World.add w (.cells cs e (0,0))) γ' /\
   (γ' g.nx).kind=1/\(γ' g.nx).ep=0/\(γ' g.nx).sz=sz/\(γ' g.nx).n=rows.length/\(γ' g.nx).blk=w.heap.size/\(γ' g.nx).base=0/\(γ' g.nx).slack=slack :=
 hr.newCells e hf (RN _ _) (QV (Nat.lt_succ_self _) (R8 _ _)) hs hc hrow hv
theorem gC(e:TypeId)(cs:Array Value):(newRow e cs).run P w=.ok (adr w.heap.size 0) (World.add w (.cells cs e (0,0))):=by simp[newRow,adr,World.add]
theorem LC{x:AV}(hr:Rel C A bd w γ hg nx)(hx:RV w γ A bd x v)(hf:(γ g.nx).kind=0)(ht:x.isTup=false) :
  cM C A bd w γ hg nx (Instr.box ty v) g (.upd (.hptr g.nx 0 0 0) (g.new (TD (aZ x.cells) [x.cells]))):=by
 obtain⟨q1,q2⟩:=nX hx ht;obtain⟨γ',k,a,b,e,r5,f,c,d,l⟩:=Ch (sz:=x.cells.length) (rows:=[x.cells]) (cs:=v.cells) ty hr hf
  (λi row h=>by cases i with|zero=>simp at h;rw[<-h]|succ i=>simp at h)
  (λi j row y h hy=>by
   cases i with
   | zero =>
    simp at h;subst h;have hlt:j<v.cells.toList.length:=by rw[<-q1.1];exact (Qt.1 hy).1
    have he:=Qu hlt;exact⟨q2 j y hy,_,by simpa using he,q1.2 j y _ hy he⟩
   | succ i=>simp at h) false 0 ⟨λ_=>rfl,λh=>by cases h⟩ (by
    have:=q1.1;simp at this;simp[this])
 rw[au];refine⟨.pointer (some (adr w.heap.size 0)),_,γ',g.nx,_,?_,?_,a,.inr ⟨rfl,rfl,k⟩⟩
 ·simp[Instr.box,newVar,gC]
 ·exact .hptr _ _ _ _ _ _ _ b (by omega) (λ_=>⟨c.symm,by rw[d];simp⟩)
end
end
section
variable {cs:List AV}
section
variable {C:Cfg}{A:Nat->Nat->Prop}{bd:Nat}{w:World}{γ:Gm}{hg:Nat->AObj}{nx:Nat}
theorem me(h:fm P ty=some cs):∃v,(zeroValue ty).run P w=.ok v w/\xB v.cells.toList=some cs:=by
 unfold fm at h;cases hi:P.info? ty with
 |none=>rw[hi]at h;cases h
 | some i =>
  rw[hi]at h;cases hz:i.zero with
  |none=>simp[hz]at h
  |some v=>simp[hz]at h;exact⟨v,by simp[zeroValue,jH hi,hz],h⟩
theorem HL{g:G}(hr:Rel C A bd w γ hg nx)(hz:fm C.P ty=some cs)(hf:(γ g.nx).kind=0)(t:T) :
  cM C A bd w γ hg nx (Instr.alloc ty true (.tuple #[])) g (BF cs t g):=by
 obtain⟨v,h1,h2⟩:=me (w:=w) hz;obtain⟨q1,q2⟩:=mS (w:=w) (γ:=γ) (A:=A) (bd:=bd) h2;obtain⟨γ',k,a,b,e,r5,f,c,d,l⟩:=Ch (sz:=cs.length) (rows:=[cs]) (cs:=v.cells) ty hr hf
  (λi row h=>by cases i with|zero=>simp at h;rw[<-h]|succ i=>simp at h)
  (λi j row y h hy=>by
   cases i with
   | zero =>
    simp at h;subst h;have hlt:j<v.cells.toList.length:=by rw[<-q1.1];exact (Qt.1 hy).1
    have he:=Qu hlt;exact⟨q2 j y hy,_,by simpa using he,q1.2 j y _ hy he⟩
   | succ i=>simp at h) false 0 ⟨λ_=>rfl,λh=>by cases h⟩ (by
    have:=q1.1;simp at this;simp[this])
 unfold BF;rw[au];refine⟨.pointer (some (adr w.heap.size 0)),_,γ',g.nx,_,?_,?_,a,.inr ⟨rfl,rfl,k⟩⟩
 ·simp[Instr.alloc,newVar,gC,h1]
 ·exact .hptr _ _ _ _ _ _ _ b (by omega) (λ_=>⟨c.symm,by rw[d];simp⟩)
theorem uS(vs:List Value):∀(off k:Nat) (c:Array Value),
  (vs.zipIdx k).foldl (λcs (p:Value×Nat)=>cs.setIfInBounds (off+p.2) p.1) c=a9 c (off+k) vs:=by
 induction vs with
 |nil=>intro off k c;rfl
 |cons v vs ih=>intro off k c;simp only[List.zipIdx_cons,SK,a9];rw[ih];rfl
def nP(w:World)(γ:Gm)(A:Nat->Nat->Prop)(bd:Nat)(xs:List AV)(c:Array Value):Prop :=
 RVs w γ A bd xs c.toList/\∀(i:Nat) y,xs[i]?=some y->y.one=true
theorem Cp{xs row':List AV}{vs:List Value}(h:nP w γ A bd xs c)(hv:RVs w γ A bd cs vs)
  (h1:∀(i:Nat) y,cs[i]?=some y->y.one=true) (hp:bY xs off cs=some row'):nP w γ A bd row' (a9 c off vs):=by
 obtain⟨p1,p2,p3⟩:=pM hp;have hl:off+vs.length<=c.size:=by have:=h.1.1;have:=hv.1;simp at *;omega
 refine⟨⟨by have:=h.1.1;simp[bI]at *;omega,λi x v hx hv'=>?_⟩,λi y hy=>?_⟩
 ·rw[p3]at hx;simp only[Td]at hv';rw[bW _ _ _ _ hl]at hv';have:=hv.1
  split at hx
  ·rw[QA (by omega)]at hv';exact hv.2 _ _ _ hx hv'
  ·rw[Qw (by omega)]at hv';exact h.1.2 _ _ _ hx (by simpa using hv')
 ·rw[p3]at hy
  split at hy
  ·exact h1 _ _ hy
  ·exact h.2 _ _ hy
theorem Ic{place:Nat->Option (Nat×Nat)}:∀{is:List Nat} {pl:List (Nat×Nat)} {xs:List AV} {vs:List Value} {zero cs:List AV} {c:Array Value},
  aF place is=some pl->nP w γ A bd zero c->RVs w γ A bd xs vs->cX zero (pl.zip xs)=some cs->is.length=xs.length ->
  ∃c',Instr.fill place c (is.zip vs)=some c'/\nP w γ A bd cs c':=by
 intro is
 induction is with
 | nil =>
  intro pl xs vs zero cs c hp hc d h hl;simp[aF]at hp;subst hp;have:xs=[]:=QU hl.symm;subst this;simp[cX]at h;subst h;exact⟨c,by simp[Instr.fill],hc⟩
 | cons i is ih =>
  intro pl xs vs zero cs c hp hc d h hl;cases xs with
  |nil=>cases hl
  | cons x xs =>
   cases vs with
   |nil=>have:=d.1;cases this
   | cons v vs =>
    simp only[aF]at hp;cases hpi:place i with
    |none=>rw[hpi]at hp;cases hp
    | some q =>
     rw[hpi]at hp;cases hpr:aF place is with
     |none=>rw[hpr]at hp;cases hp
     | some pl' =>
      rw[hpr]at hp;injection hp with hp;subst hp;obtain⟨off,size⟩:=q;simp only[Ss,cX,aa,au]at h
      split at h
      ·rename_i a;simp only[Qy,notb_eq,RQ]at a;obtain⟨h1,h2⟩:=a;have h1:=ay h1;cases hput:bY zero off x.cells with
       |none=>rw[hput]at h;cases h
       | some row' =>
        rw[hput]at h;have hx:=d.2 0 x v rfl rfl;obtain⟨q1,q2⟩:=nX hx h2;have e:v.cells.size=size:=by rw[<-h1];have:=q1.1;simp at this;exact this.symm
        have j:=(pM hput).2.1;have f:zero.length=c.size:=by have:=hc.1.1;simpa using this
        obtain⟨c',l,m⟩:=ih (c:=a9 c off v.cells.toList) hpr (Cp hc q1 q2 hput) ⟨by have:=d.1;simpa using this,λk y u hy hu=>d.2 (k+1) y u (by simpa using hy) (by simpa using hu)⟩ h (by simpa using hl);refine⟨c',?_,m⟩;have b:(v.cells.zipIdx.foldl (λcs (p:Value×Nat)=>cs.setIfInBounds (off+p.2) p.1) c)=a9 c off v.cells.toList:=by rw[<-Array.foldl_toList,Array.toList_zipIdx];exact uS _ _ _ _
        simp only[Ss,Instr.fill,hpi];rw[Qw (by simp[e];omega)];rw[show (v.cells.zipIdx.foldl (λcs x=>cs.setIfInBounds (off+x.2) x.1) c)=_ from b];exact l
      ·cases h
theorem AU{parts:Array (Nat×Operand)}{zero:List AV}{pl:List (Nat×Nat)}{vs:T->List AV}{t:T}{g:G}{place:Nat->Option (Nat×Nat)}
  {ev:Operand->Value} (hz:fm C.P ty=some zero) (hv:RVs w γ A bd (vs t) ((parts.toList.map (·.2)).map ev))
  (hp:aF place (parts.toList.map (·.1))=some pl)
  (hrun:∀(z:Value) (cells:Array Value),(zeroValue ty).run C.P w=.ok z w->Instr.fill place z.cells ((parts.map λ(i,x)=>(i,ev x)).toList)=some cells ->
   (Instr.build ty (parts.map λ(i,x)=>(i,ev x))).run C.P w=.ok (.agg cells) w) :
  ValSim C A bd w γ (Instr.build ty (parts.map λ(i,x)=>(i,ev x))) (mY zero pl vs t g):=by
 unfold mY;cases hfl:cX zero (pl.zip (vs t)) with
 |none=>trivial
 | some cs =>
  obtain⟨z,a,b⟩:=me (w:=w) hz;have zr:=mS (w:=w) (γ:=γ) (A:=A) (bd:=bd) b;have hl:(parts.toList.map (·.1)).length=(vs t).length:=by have:=hv.1;simp at *;omega
  obtain⟨c',k,h⟩:=Ic (c:=z.cells) hp zr hv hfl hl;have e:(parts.map λ(i,x)=>(i,ev x)).toList=(parts.toList.map (·.1)).zip ((parts.toList.map (·.2)).map ev):=by
   rw[Array.toList_map]
   induction parts.toList with
   |nil=>rfl
   |cons p ps ih=>simp[ih]
  exact⟨.agg c',hrun z c' a (by rw[e];exact k),.agg _ _ _ (by have:=h.1.1;simpa using this) h.2 (λi x v hx hv=>h.1.2 i x v hx (by simpa using hv))⟩
end
end
theorem GW{j sz:Nat}(hj:j<sz):(i*sz+j) % sz=j:=by rw[Sj,Sk,RO hj]
section
variable {C:Cfg}{A:Nat->Nat->Prop}{bd:Nat}{w:World}{γ:Gm}{hg:Nat->AObj}{nx:Nat}
def gi(zero:Array Value)(n:Nat):Array Value:=(Array.range n).map (zero[· % zero.size]!)
theorem mo(zero:Array Value)(n:Nat):(gi zero n).size=n:=by simp[gi]
theorem IZ{zero:Array Value}{k:Nat}(h:k<n)(hz:0<zero.size):(gi zero n)[k]?=zero[k % zero.size]?:=by have h2:k % zero.size<zero.size:=R_ _ hz;simp[gi,h,QH h2,getElem!_pos zero (k % zero.size) h2]
theorem Ep{row r:List AV}(h:(gc n row)[i]?=some r):r=row/\i<n:=by
 unfold gc at h;rw[List.getElem?_replicate]at h
 split at h
 ·injection h with h;exact⟨h.symm,by assumption⟩
 ·cases h
def RowsRel(w:World)(γ:Gm)(A:Nat->Nat->Prop)(bd sz:Nat)(rows:List (List AV))(c:Array Value):Prop :=
 rows.length*sz<=c.size/\(∀(i:Nat) row,rows[i]?=some row->row.length=sz) /\
 ∀(i j:Nat) row x,rows[i]?=some row->row[j]?=some x->x.one=true/\∃v,c[i*sz+j]?=some v/\RV w γ A bd x v
theorem sR{ty:TypeId}{zero:List AV}{z:Value}{sz m:Nat}(hz:xB z.cells.toList=some zero)(hsz:zero.length=sz)(h0:0<sz)(hn:n*sz<=m) :
  RowsRel w γ A bd sz (gc n zero) (gi z.cells m):=by
 obtain⟨q1,q2⟩:=mS (w:=w) (γ:=γ) (A:=A) (bd:=bd) hz;have a:z.cells.size=sz:=by have:=q1.1;simp at this;omega
 refine⟨by simp[gc,mo,hn],λi row h=>by rw[(Ep h).1];exact hsz,λi j row x h hx=>?_⟩;obtain⟨e,hi⟩:=Ep h;subst e;have b:j<sz:=by rw[<-hsz];exact (Qt.1 hx).1
 have hlt:i*sz+j<n*sz:=by have:(i+1)*sz<=n*sz:=QK _ hi;rw[QR,RB]at this;omega
 have k:j<z.cells.toList.length:=by simp;omega
 refine⟨q2 j x hx,z.cells.toList[j],?_,q1.2 j x _ hx (Qu k)⟩;rw[IZ (by omega) (by omega),a,GW b];have:j<z.cells.size:=by omega
 simp[this]
theorem B2{sz:Nat}(h0:0<sz):∀{is:List Nat} {xs:List AV} {vs:List Value} {rows rows':List (List AV)} {c:Array Value} {n:Nat},
  RowsRel w γ A bd sz rows c->rows.length=n->c.size=n*sz->RVs w γ A bd xs vs->fW sz rows (is.zip xs)=some rows'->is.length=xs.length ->
  ∃c',Instr.fill (λi=>some (i*sz,sz)) c (is.zip vs)=some c'/\RowsRel w γ A bd sz rows' c'/\rows'.length=n/\c'.size=n*sz:=by
 intro is
 induction is with
 | nil =>
  intro xs vs rows rows' c n hc hl b m h d;have:xs=[]:=QU d.symm;subst this;simp[fW]at h;subst h;exact⟨c,by simp[Instr.fill],hc,hl,b⟩
 | cons i is ih =>
  intro xs vs rows rows' c n hc hl b m h d;cases xs with
  |nil=>cases d
  | cons x xs =>
   cases vs with
   |nil=>have:=m.1;cases this
   | cons v vs =>
    simp only[Ss,fW,aa,au,iD]at h
    split at h
    ·rename_i a;simp only[Qy,notb_eq,RQ,Rn]at a;obtain⟨⟨h1,h2⟩,z⟩:=a;have h1:=ay h1;have hx:=m.2 0 x v rfl rfl;obtain⟨q1,q2⟩:=nX hx z;have o:v.cells.toList.length=sz:=by rw[<-q1.1,h1]
     have e:(i+1)*sz<=rows.length*sz:=QK _ h2;rw[QR,RB]at e;have r:i*sz+v.cells.toList.length<=c.size:=by rw[o,b,<-hl];exact e
     have q:RowsRel w γ A bd sz (rows.set i x.cells) (a9 c (i*sz) v.cells.toList):=by
      refine⟨by rw[bI,Sl];exact hc.1,λk row hk=>?_,λk j row y hk hy=>?_⟩
      ·rw[Ru]at hk
       by_cases hik:i=k
       ·subst hik;rw[QA rfl,QA h2]at hk;injection hk with hk;subst hk;exact h1
       ·rw[Qw hik]at hk;exact hc.2.1 k row hk
      ·rw[Ru]at hk;rw[bW _ _ _ _ r]
       by_cases hik:i=k
       ·subst hik;rw[QA rfl,QA h2]at hk;injection hk with hk;subst hk;have t:j<sz:=by rw[<-h1];exact (Qt.1 hy).1
        have l:j<v.cells.toList.length:=by omega
        rw[QA (by omega),show i*sz+j - i*sz=j from by omega];exact⟨q2 j y hy,_,Qu l,q1.2 j y _ hy (Qu l)⟩
       ·rw[Qw hik]at hk;have t:j<sz:=by rw[<-hc.2.1 k row hk];exact (Qt.1 hy).1
        rw[Qw]
        ·exact hc.2.2 k j row y hk hy
        ·rintro⟨l1,l2⟩;exact hik (J0 (i:=i) (i':=k) t l1 (by omega)).symm
     obtain⟨c',B,C,D,E⟩:=ih (c:=a9 c (i*sz) v.cells.toList) (n:=n) q (by simp[hl]) (by rw[bI];exact b)
      ⟨by have:=m.1;simpa using this,λk y u hy hu=>m.2 (k+1) y u (by simpa using hy) (by simpa using hu)⟩ h (by simpa using d)
     refine⟨c',?_,C,D,E⟩;have f:(v.cells.zipIdx.foldl (λcs (p:Value×Nat)=>cs.setIfInBounds (i*sz+p.2) p.1) c)=a9 c (i*sz) v.cells.toList:=by rw[<-Array.foldl_toList,Array.toList_zipIdx];exact uS _ _ _ _
     have s:v.cells.size=sz:=by simpa using o
     simp only[Ss,Instr.fill];rw[Qw (by simp[s];rw[b,<-hl];omega)];rw[show (v.cells.zipIdx.foldl (λcs x=>cs.setIfInBounds (i*sz+x.2) x.1) c)=_ from f];exact B
    ·cases h
theorem pJ{sz:Nat}{rows:List (List AV)}{cs:Array Value}(e:TypeId)(hr:Rel C A bd w γ hg nx){g:G}(hf:(γ g.nx).kind=0)
  (h:RowsRel w γ A bd sz rows cs) (len cap:Nat) (loose:Bool) (slack:Nat) (hs:(loose=false->slack=0)/\(loose=true->rows.length+slack<=9223372036854775807)) (hc:(rows.length+slack)*sz<=cs.size)
  (hcap:cap=rows.length+slack) (hlen:len<=rows.length) :
  ∃γ',Rel C A bd (World.add w (.cells cs e (0,0))) γ' (upd hg g.nx (.cells sz rows 0 loose false)) (Nat.max nx (g.nx+1))/\Stp w γ (World.add w (.cells cs e (0,0))) γ' /\
   RV (World.add w (.cells cs e (0,0))) γ' A bd (.hsl g.nx 0 0 len none) (.slice (some (adr w.heap.size 0)) len cap):=by
 obtain⟨γ',k,a,b,j,r5,c,d,f,i⟩:=Ch (sz:=sz) (rows:=rows) (cs:=cs) e hr hf h.2.1 h.2.2 loose slack hs hc;refine⟨γ',k,a,.hsl _ _ _ _ _ _ _ _ _ b (by omega) (by omega) λ_=>⟨d.symm,by rw[f];simp,?_⟩⟩;simp only[gZ,c,i];omega
theorem yq{sz:Nat}{parts:Array (Nat×Operand)}{zero:List AV}{vs:T->List AV}{t:T}{g:G}{ev:Operand->Value}
  (hr:Rel C A bd w γ hg nx) (hf:(γ g.nx).kind=0) (hu:C.P.underlying ty=some (.slice e)) (hsz:szT C.P e=some sz) (hz:fm C.P e=some zero)
  (hzl:zero.length=sz) (h0:0<sz) (hsmall:len*sz<=1048576) (hv:RVs w γ A bd (vs t) ((parts.toList.map (·.2)).map ev)) :
  cM C A bd w γ hg nx (Instr.buildSlice ty len (parts.map λ(i,x)=>(i,ev x))) g (gG sz len (gc len zero) (parts.toList.map (·.1)) vs t g):=by
 unfold gG;cases hfl:fW sz (gc len zero) ((parts.toList.map (·.1)).zip (vs t)) with
 |none=>trivial
 | some rows =>
  obtain⟨z,q,f⟩:=me (w:=w) hz;have j:z.cells.size=sz:=by have:=(mS (w:=w) (γ:=γ) (A:=A) (bd:=bd) f).1.1;simp at this;omega
  have hl:(parts.toList.map (·.1)).length=(vs t).length:=by have:=hv.1;simp at *;omega
  obtain⟨c',a,d,r,s⟩:=B2 h0 (c:=gi z.cells (len*sz)) (n:=len) (sR (ty:=e) (w:=w) (γ:=γ) (A:=A) (bd:=bd) f hzl h0 (Qv _)) (by simp[gc]) (mo _ _) hv hfl hl;have he:(parts.map λ(i,x)=>(i,ev x)).toList=(parts.toList.map (·.1)).zip ((parts.toList.map (·.2)).map ev):=by
   rw[Array.toList_map]
   induction parts.toList with
   |nil=>rfl
   |cons p ps ih=>simp[ih]
  have k:(Instr.buildSlice ty len (parts.map λ(i,x)=>(i,ev x))).run C.P w=.ok (.slice (some (adr w.heap.size 0)) len len) (World.add w (.cells c' e (0,0))):=by
   have b:¬(2 ^ 24<len*sz):=by omega
   unfold Instr.buildSlice;rw[he]
   by_cases h:len*sz=0
   ·have e0:gi z.cells (len*sz)=#[]:=by rw[h];simp[gi]
    rw[e0]at a;have e1:(Array.range 0).map (λx=>(#[]:Array Value)[x % (#[]:Array Value).size]!)=#[]:=by simp
    simp only[QF,aC hu,QB,aT hsz];rw[Qw (by omega)];simp only[QF,h,if_true,Q3,QB,e1,a,gC]
   ·have e0:(Array.range (len*sz)).map (λx=>z.cells[x % z.cells.size]!)=gi z.cells (len*sz):=rfl;simp only[QF,aC hu,QB,aT hsz];rw[Qw (by omega)];simp only[QF,h,if_false,q,QB,Q3,e0,a,gC]
  obtain⟨γ',l,m,o⟩:=pJ (w:=w) e hr hf d len len false 0 ⟨λ_=>rfl,λh=>by cases h⟩ (by rw[R7];exact d.1) (by omega) (by omega);exact⟨_,_,γ',g.nx,_,k,o,m,.inr ⟨rfl,rfl,l⟩⟩
end
section
variable {t:T}{g:G}{a ix:T->AV}
section
variable {C:Cfg}{A:Nat->Nat->Prop}{bd:Nat}{w:World}{γ:Gm}{hg:Nat->AObj}{nx:Nat}
theorem u9{lim:Nat}{x:AV}(h:cL lim x=some n)(hv:RV w γ A bd x v):n<=lim/\∃k,v=.int k (n:Int):=by
 unfold cL at h
 split at h
 ·rw[aa]at h
  split at h
  ·rename_i hl;rw[Q6]at hl;injection h with h;subst h;cases hv;exact⟨hl,_,rfl⟩
  ·cases h
 ·cases h
theorem pU(n:Nat)(h:n<9223372036854775808):IntKind.wrap .i64 (n:Int)=(n:Int):=mj n h
theorem AG{sz:Nat}{zero:List AV}{l c:T->AV}{vl vc:Value}
  (hr:Rel C A bd w γ hg nx) (hf:(γ g.nx).kind=0) (hu:C.P.underlying ty=some (.slice e)) (hsz:szT C.P e=some sz) (hby:iT C.P e=some bytes) (hz:fm C.P e=some zero)
  (hzl:zero.length=sz) (h0:0<sz) (hl:RV w γ A bd (l t) vl) (hc:RV w γ A bd (c t) vc) :
  cM C A bd w γ hg nx (Instr.makeSlice ty vl vc) g (gA sz bytes zero l c t g):=by
 unfold gA;cases hcn:cL aQ (c t) with
 |none=>trivial
 | some cn =>
  dsimp only;cases hln:cL cn (l t) with
  |none=>trivial
  | some ln =>
   dsimp only;rw[aa]
   split
   ·rename_i k;rw[Q6]at k;obtain⟨c1,kc,rfl⟩:=u9 hcn hc;obtain⟨l1,kl,rfl⟩:=u9 hln hl;obtain⟨z,s,a⟩:=me (w:=w) hz;have f:z.cells.size=sz:=by have:=(mS (w:=w) (γ:=γ) (A:=A) (bd:=bd) a).1.1;simp at this;omega
    unfold aQ at c1 k;obtain⟨γ',o,p,q⟩:=pJ (w:=w) (cs:=gi z.cells (cn*sz)) e hr hf (sR (ty:=e) (n:=cn) a hzl h0 (Qv _)) ln cn false 0 ⟨λ_=>rfl,λh=>by cases h⟩
     (by simp[gc,mo]) (by simp[gc]) (by simpa [gc] using l1)
    refine⟨_,_,γ',g.nx,_,?_,q,p,.inr ⟨rfl,rfl,o⟩⟩;have hi:∃i,C.P.info? e=some i/\i.bytes=bytes:=by
     unfold iT at hby;cases hie:C.P.info? e with
     |none=>rw[hie]at hby;cases hby
     |some i=>rw[hie]at hby;simp at hby;exact⟨i,rfl,hby⟩
    obtain⟨i,j,m⟩:=hi;have w1:=pU ln (by omega);have r:=pU cn (by omega);have b:¬((bytes:Int)*(cn:Int) > 2 ^ 48):=by rw[<-Rq,Sw];omega
    have d:¬((bytes:Int)*(ln:Int) > 2 ^ 48):=by have u:ln*bytes<=cn*bytes:=QK _ l1;rw[<-Rq,Sw];omega
    unfold Instr.makeSlice;simp only[QF,aC hu,QB,asInt,asIntOf,Q3,jH j,m,w1,r];rw[Qw (by simp only[Rk,QQ,not_or];omega)];simp only[QF,run_askRoom,QB,aT hsz,Rb]
    by_cases h:cn*sz=0
    ·have e0:gi z.cells (cn*sz)=#[]:=by rw[h];simp[gi]
     have e1:(Array.range 0).map (λx=>(#[]:Array Value)[x % (#[]:Array Value).size]!)=#[]:=by simp
     rw[e0,h];simp only[if_true,QF,Q3,QB,e1,gC]
    ·have e0:(Array.range (cn*sz)).map (λx=>z.cells[x % z.cells.size]!)=gi z.cells (cn*sz):=rfl;simp only[h,if_false,QF,s,QB,Q3,e0,gC]
   ·trivial
theorem rn{f:Field}{o:Nat}(hn:szT C.P f.type=some (n+1)):(fieldPlace (adr b o) f).run C.P w=.ok (adr b (o+f.offset)) w:=by unfold fieldPlace;simp only[QF,aT hn,QB];rw[Qw (by omega)];simp[fp]
theorem AB{f fo:Nat}{ft:TypeId}
  (ha:RV w γ A bd (a t) va) (hf:ro C.P ty f=some (fo,ft)) (hn:szT C.P ft=some (n+1)) :
  ValSim C A bd w γ (Instr.fieldAt ty va f) (i_ fo a t g):=by
 unfold ro at hf;cases hu:C.P.underlying ty with
 |none=>rw[hu]at hf;cases hf
 | some d =>
  rw[hu]at hf;cases d with
  | struct fs =>
   dsimp only at hf;cases hx:fs[f]? with
   |none=>rw[hx]at hf;cases hf
   | some x =>
    rw[hx]at hf;injection hf with hf;injection hf with h1 h2;subst h1;subst h2;unfold i_;generalize a t=y at *;cases ha with
    | tptr _ tag sz rows i0 off0 b o cell ht hb hm ha' hrl ho hw h hcl =>
     refine⟨_,?_,.tptr _ tag sz rows i0 (off0+x.offset) b o cell ht hb hm ha' hrl ho hw h hcl⟩;simp[Instr.fieldAt,aC hu,hx,Instr.sureAddr,rn hn,Sg]
    | hptr _ id ep i off b o hk he h =>
     refine⟨.pointer (some (adr b (o+x.offset))),?_,.hptr _ id ep i (off+x.offset) b _ hk he λe=>?_⟩
     ·simp[Instr.fieldAt,aC hu,hx,Instr.sureAddr,rn hn]
     ·obtain⟨c1,k⟩:=h e;exact⟨c1,by rw[k];omega⟩
    |_=>trivial
  |_=>cases hf
theorem Ed{cs:List AV}{x:AV}(hc:nP w γ A bd cs c)
  (hag:qF C.P ty=some ag) (hn:szT C.P ty=some n) (h:bN ag n cs off=some x):∃v,(part ty c off).run C.P w=.ok v w/\RV w γ A bd x v:=by
 unfold bN at h;cases ag with
 | false =>
  simp only[cY]at h;have hl:off<c.toList.length:=by rw[<-hc.1.1];exact (Qt.1 h).1
  have k:off<c.size:=by simpa using hl
  refine⟨c[off],?_,hc.1.2 off x _ h (by simp[k])⟩;simp[part,kX hag,k]
 | true =>
  simp only[a_,aX,au,aa]at h
  split at h
  ·rename_i hl;have hl:=ay hl;injection h with h;subst h;have a:cs.length=c.size:=by have:=hc.1.1;simpa using this
   have b:off+n<=c.size\/n=0:=by simp at hl;omega
   refine⟨.agg (c.extract off (off+n)),by simp[part,kX hag,aT hn],.agg _ _ _ (by rw[hl];simp;omega) (λi y hy=>?_) (λi y v hy hv=>?_)⟩
   ·have hi:i<n:=by rw[<-hl];exact (Qt.1 hy).1
    rw[Ra hi,Q5]at hy;exact hc.2 _ _ hy
   ·have hi:i<n:=by rw[<-hl];exact (Qt.1 hy).1
    rw[Ra hi,Q5]at hy;rw[Array.getElem?_extract]at hv
    split at hv
    ·exact hc.1.2 _ _ _ hy (by simpa using hv)
    ·cases hv
  ·cases h
theorem AP{cs:List AV}(h:RV w γ A bd (.agg cs) v):∃c,v=.agg c/\nP w γ A bd cs c:=by
 cases h with
 |agg _ _ c hl h1 h'=>exact⟨c,rfl,⟨by simpa using hl,λi x v hx hv=>h' i x v hx (by simpa using hv)⟩,h1⟩
theorem Ib{f fo:Nat}{ft:TypeId}{y:AV}
  (ha:RV w γ A bd y va) (hf:ro C.P ty f=some (fo,ft)) (hag:qF C.P ft=some ag) (hn:szT C.P ft=some n) :
  ValSim C A bd w γ (Instr.field ty va f) (match y with|.agg cs=>orV (bN ag n cs fo)|_=>.fail):=by
 unfold ro at hf;cases hu:C.P.underlying ty with
 |none=>rw[hu]at hf;cases hf
 | some d =>
  rw[hu]at hf;cases d with
  | struct fs =>
   dsimp only at hf;cases hx:fs[f]? with
   |none=>rw[hx]at hf;cases hf
   | some x =>
    rw[hx]at hf;injection hf with hf;injection hf with h1 h2;subst h1;subst h2;cases y with
    | agg cs =>
     obtain⟨c,rfl,hc⟩:=AP ha;refine mT λz hz=>?_;obtain⟨v,h1,h2⟩:=Ed hc hag hn hz;exact⟨v,by simp[Instr.field,aC hu,hx,asAgg,h1],h2⟩
    |_=>trivial
  |_=>cases hf
theorem ze{k:IntKind}{n:Int}(h:RV w γ A bd (.int k n) v):v=.int k n:=by cases h;rfl
theorem Dw{sz:Nat}(hr:Rel C A bd w γ hg nx)
  (ha:RV w γ A bd (a t) va) (hi:RV w γ A bd (ix t) vi) (hu:C.P.underlying ty=some (.slice e)) (hsz:szT C.P e=some sz)
  (agree:∀id∈am (a t),hg id=g.h.get id) :
  ValSim C A bd w γ (Instr.indexAt ty va vi) (fY sz a ix t g):=by
 unfold fY;generalize a t=y at *;generalize ix t=z at *;cases ha with
 | tsl _ tag sz' rows b o cap cell ht hc hb hm ha' hrl ho hw h hcl =>
  dsimp only
  split
  ·rename_i k i;rw[aa]
   split
   ·rename_i c;simp only[Qy,Rn,au]at c;obtain⟨h1,h2⟩:=c;have h1:=ay h1;subst h1;have f:=ze hi;subst f;refine⟨_,?_,.tptr _ tag sz rows i 0 b o cell ht hb hm ha' hrl ho hw h hcl⟩;simp[Instr.indexAt,asIntOf,aC hu,h2,aT hsz,fp]
   ·trivial
  ·trivial
 | tnil _ tag sz' a' cap ht =>
  dsimp only
  split
  ·rename_i k i;rw[aa]
   split
   ·rename_i c;simp[au]at c
   ·trivial
  ·trivial
 | hsl _ id ep off len lim b o cap hk he hc h =>
  have d:=agree id (by simp[am]);dsimp only
  split
  ·rename_i k i;simp only[G.get_eq,<-d];cases hid:hg id with
   | cells sz' rows ep' loose fz =>
    dsimp only;rw[aa]
    split
    ·rename_i c;simp only[Qy,Rn]at c;obtain⟨⟨h1,h2⟩,m⟩:=c;have h1:=ay h1;have h2:=ay h2;subst h2;have f:=ze hi;subst f;have j:=hr.obj id;rw[hid]at j;obtain⟨p,k2,n,_⟩:=j;obtain⟨c1,l,_⟩:=h (h1.trans k2.symm);refine⟨.pointer (some (adr b (o+i*sz))),?_,.hptr _ id ep (off+i) 0 b _ hk he λ_=>⟨c1,?_⟩⟩
     ·simp[Instr.indexAt,asIntOf,aC hu,m,aT hsz,fp]
     ·rw[l,n,QR];omega
    ·trivial
   |_=>trivial
  ·trivial
 |_=>trivial
theorem Dv{sz:Nat}
  (ha:RV w γ A bd (a t) va) (hi:RV w γ A bd (ix t) vi) (hu:C.P.underlying ty=some (.array n e)) (hsz:szT C.P e=some sz) :
  ValSim C A bd w γ (Instr.indexAt ty va vi) (l6 n sz a ix t g):=by
 unfold l6;generalize a t=y at *;generalize ix t=z at *
 split
 ·rename_i k i;rw[aa]
  split
  ·rename_i hlt;rw[Rn]at hlt;have c:=ze hi;subst c;have h2:=hlt;cases ha with
   | tptr _ tag sz' rows i0 off0 b o cell ht hb hm ha' hrl ho hw h hcl =>
    refine⟨_,?_,.tptr _ tag sz' rows i0 (off0+i*sz) b o cell ht hb hm ha' hrl ho hw h hcl⟩;simp[Instr.indexAt,asIntOf,aC hu,h2,aT hsz,fp,Instr.sureAddr,Sg]
   | hptr _ id ep j off b o hk he h =>
    refine⟨.pointer (some (adr b (o+i*sz))),?_,.hptr _ id ep j (off+i*sz) b _ hk he λe=>?_⟩
    ·simp[Instr.indexAt,asIntOf,aC hu,h2,aT hsz,fp,Instr.sureAddr]
    ·obtain⟨c1,d⟩:=h e;exact⟨c1,by rw[d];omega⟩
   |_=>trivial
  ·trivial
 ·trivial
theorem Ii{sz:Nat}
  (ha:RV w γ A bd (a t) va) (hi:RV w γ A bd (ix t) vi) (hu:C.P.underlying ty=some (.array n e)) (hag:qF C.P e=some ag) (hsz:szT C.P e=some sz) :
  ValSim C A bd w γ (Instr.index ty va vi) (tX ag n sz a ix t g):=by
 unfold tX;generalize a t=y at *;generalize ix t=z at *;cases y with
 | agg cs =>
  dsimp only
  split
  ·rename_i k i;rw[aa]
   split
   ·rename_i hlt;rw[Rn]at hlt;have h:=ze hi;subst h;have h2:=hlt;obtain⟨c,rfl,hc⟩:=AP ha;refine mT λx hx=>?_;obtain⟨v,h1,b⟩:=Ed hc hag hsz hx;exact⟨v,by simp[Instr.index,asIntOf,aC hu,h2,aT hsz,h1],b⟩
   ·trivial
  ·trivial
 |_=>trivial
theorem B7
  (ha:RV w γ A bd (a t) va) (hi:RV w γ A bd (ix t) vi) (hu:C.P.underlying ty=some .string) :
  ValSim C A bd w γ (Instr.index ty va vi) (oQ a ix t g):=by
 unfold oQ;generalize a t=y at *;generalize ix t=z at *;cases ha with
 | str _ s =>
  dsimp only
  split
  ·rename_i k i;simp only[cY];cases hb:s.data.toList[i]? with
   |none=>trivial
   | some b =>
    have c:=ze hi;subst c;refine⟨.int .u8 b.toNat,?_,.int _ _ _⟩;have hlt:i<s.size:=by have:=(Qt.1 hb).1;simpa using this
    have h:s[i]?=some b:=by rw[getElem?_pos s i hlt];have:=(Qt.1 hb).2;rw[Array.getElem_toList]at this;exact congrArg some this
    simp[Instr.index,asIntOf,aC hu,h]
  ·trivial
 |_=>trivial
end
end
section
variable {rows:List (List AV)}
section
variable {C:Cfg}{A:Nat->Nat->Prop}{bd:Nat}{w w':World}{γ γ':Gm}{hg:Nat->AObj}{nx:Nat}
def RowsAt(w:World)(γ:Gm)(A:Nat->Nat->Prop)(bd sz:Nat)(rows:List (List AV))(b o:Nat):Prop :=
 (∀(i:Nat) row,rows[i]?=some row->row.length=sz) /\
 ∀(i j:Nat) row x,rows[i]?=some row->row[j]?=some x->x.one=true/\∃v,w.cell? (adr b (o+i*sz+j))=some v/\RV w γ A bd x v
theorem Bm{sz k:Nat}(hr:∀(i:Nat) row,rows[i]?=some row->row.length=sz)(hk:k<rows.length*sz) :
  ∃row x,rows[k / sz]?=some row/\row[k % sz]?=some x:=by
 have h0:0<sz:=by
  rcases Nat.eq_zero_or_pos sz with h|h
  ·subst h;simp at hk
  ·exact h
 have hi:k / sz<rows.length:=by rw[Nat.div_lt_iff_lt_mul h0];exact hk
 have e:=Qu hi;have hl:=hr _ _ e;have a:k % sz<rows[k / sz].length:=by rw[hl];exact R_ _ h0
 exact⟨_,_,e,Qu a⟩
theorem zo{sz o:Nat}(h:RowsAt w γ A bd sz rows b o)(P:Program) :
  ∃c,(loadCells (adr b o) (rows.length*sz)).run P w=.ok c w/\c.size=rows.length*sz/\RowsRel w γ A bd sz rows c:=by
 have n:∀k:Fin (rows.length*sz),∃v,w.cell? (adr b (o+k.1))=some v/\∀row x,rows[k.1 / sz]?=some row->row[k.1 % sz]?=some x->x.one=true/\RV w γ A bd x v:=by
  intro k;obtain⟨row,x,h1,h2⟩:=Bm h.1 k.2;obtain⟨a,v,c1,q⟩:=h.2 _ _ row x h1 h2;refine⟨v,?_,λrow' x' d e=>?_⟩
  ·have:o+k.1 / sz*sz+k.1 % sz=o+k.1:=by rw[Sg,Sw,Tp]
   rw[<-this];exact c1
  ·rw[h1]at d;injection d with d;subst d;rw[h2]at e;injection e with e;subst e;exact⟨a,q⟩
 let f:Fin (rows.length*sz)->Value:=λk=>Classical.choose (n k)
 have hf:=λk=>Classical.choose_spec (n k);have l:(List.ofFn f).length=rows.length*sz:=by simp
 have m:=tu (P:=P) (w:=w) (b:=b) (o:=o) (cs:=List.ofFn f) (λj c hc=>by
  have p:j<rows.length*sz:=by rw[<-l];exact (Qt.1 hc).1
  rw[List.getElem?_ofFn]at hc;simp[p]at hc;rw[<-hc];exact (hf ⟨j,p⟩).1)
 rw[l]at m;refine⟨_,m,by simp,by simp,h.1,λi j row x h1 h2=>?_⟩;have hi:i<rows.length:=(Qt.1 h1).1;have p:j<sz:=by rw[<-h.1 i row h1];exact (Qt.1 h2).1
 have hk:i*sz+j<rows.length*sz:=by have:(i+1)*sz<=rows.length*sz:=QK _ hi;rw[QR,RB]at this;omega
 have e1:(i*sz+j) / sz=i:=by rw[Sj,Sb _ _ (by omega),Su p];omega
 obtain⟨a,b'⟩:=(hf ⟨i*sz+j,hk⟩).2 row x (by rw[e1];exact h1) (by rw[GW p];exact h2);exact⟨a,f ⟨i*sz+j,hk⟩,by simp[hk],b'⟩
theorem RowsAt.sub{sz o:Nat}(h:RowsAt w γ A bd sz rows b o)(l n:Nat):RowsAt w γ A bd sz ((rows.drop l).take n) b (o+l*sz):=by
 refine⟨λi row hi=>?_,λi j row x hi hj=>?_⟩
 ·have k:i<n:=by have:=(Qt.1 hi).1;simp at this;omega
  rw[Ra k,Q5]at hi;exact h.1 _ _ hi
 ·have k:i<n:=by have:=(Qt.1 hi).1;simp at this;omega
  rw[Ra k,Q5]at hi;obtain⟨a,v,c1,c⟩:=h.2 _ _ row x hi hj;exact⟨a,v,by rw[show o+l*sz+i*sz+j=o+(l+i)*sz+j from by rw[QR];omega];exact c1,c⟩
theorem zB(hr:Rel C A bd w γ hg nx){id sz:Nat}{fz:Bool}(hid:hg id=.cells sz rows ep loose fz) :
  RowsAt w γ A bd sz rows (γ id).blk (γ id).base:=by
 have h:=hr.obj id;rw[hid]at h;obtain⟨b,k2,d,f,l,m,c,e,n,o,a,k⟩:=h;exact⟨a,λi j row x h1 h2=>sJ hr hid h1 j x h2⟩
theorem FH(hr:Rel C A bd w γ hg nx){sz:Nat}{x:AV}{h:H}(hx:RV w γ A bd x v)
  (hrow:af h sz x=some rows) (agree:∀id∈am x,hg id=h.get id) :
  ∃b o cap,(v=.slice none 0 0/\rows=[]\/v=.slice (some (adr b o)) rows.length cap\/(∃a,v=.slice (some a) 0 cap)/\rows=[])/\RowsAt w γ A bd sz rows b o:=by
 unfold af at hrow;cases hx with
 |nils=>injection hrow with hrow;subst hrow;exact⟨0,0,0,.inl ⟨rfl,rfl⟩,λi row h=>by simp at h,λi j row x h=>by simp at h⟩
 |esl _ a=>injection hrow with hrow;subst hrow;exact⟨0,0,0,.inr (.inr ⟨⟨a,rfl⟩,rfl⟩),λi row h=>by simp at h,λi j row x h=>by simp at h⟩
 | tnil _ tag sz' a cap ht =>
  simp only[aa]at hrow
  split at hrow
  ·injection hrow with hrow;subst hrow;exact⟨0,0,cap,.inr (.inr ⟨⟨a,rfl⟩,rfl⟩),λi row h=>by simp at h,λi j row x h=>by simp at h⟩
  ·cases hrow
 | tsl _ tag sz' rows' b o cap cell ht hc hb hm ha hrl ho hw h =>
  simp only[aa]at hrow
  split at hrow
  ·rename_i hcond;injection hrow with hrow;subst hrow;refine⟨b,o,cap,.inr (.inl rfl),?_⟩;simp only[Rk]at hcond;rcases hcond with hcond|hcond
   ·have:=ay hcond;subst this;exact⟨hrl,λi j row x h1 h2=>⟨ho i j row x h1 h2,_,hw i j row x h1 h2,(h i j row x h1 h2).mono ht⟩⟩
   ·have:rows'=[]:=by cases rows'<;>simp_all
    subst this;exact⟨λi row h=>by simp at h,λi j row x h=>by simp at h⟩
  ·cases hrow
 | hsl _ id ep off len lim b o cap hk he hc h =>
  have k:=agree id (by simp[am]);dsimp only at hrow;rw[<-k]at hrow;cases hid:hg id with
  | cells sz' rows' ep' loose fz =>
   rw[hid]at hrow;simp only[aa,au,a_,aX]at hrow
   split at hrow
   ·rename_i hcond;simp only[Qy,Q6]at hcond;obtain⟨⟨h1,h2⟩,f⟩:=hcond;have h1:=ay h1;have h2:=ay h2;subst h2;injection hrow with hrow;subst hrow;have c:=hr.obj id;rw[hid]at c;obtain⟨l,k2,e,_⟩:=c;obtain⟨c1,d,_⟩:=h (h1.trans k2.symm);refine⟨b,o,cap,.inr (.inl ?_),?_⟩
    ·simp;omega
    ·rw[c1,d,e];exact (zB hr hid).sub off len
   ·cases hrow
  |_=>rw[hid]at hrow;cases hrow
 |_=>cases hrow
theorem RowsRel.append{sz:Nat}{r1 r2:List (List AV)}{c1 c2:Array Value}(h1:RowsRel w γ A bd sz r1 c1)(e1:c1.size=r1.length*sz)(h2:RowsRel w γ A bd sz r2 c2) :
  RowsRel w γ A bd sz (r1++r2) (c1++c2):=by
 refine⟨by have:=h2.1;simp[QR];omega,λi row hi=>?_,λi j row x hi hj=>?_⟩
 ·rw[SA]at hi
  split at hi
  ·exact h1.2.1 _ _ hi
  ·exact h2.2.1 _ _ hi
 ·rw[SA]at hi
  split at hi
  ·rename_i hlt;obtain⟨a,v,b1,b2⟩:=h1.2.2 i j row x hi hj;have h:=(RH.1 b1).1;exact⟨a,v,by rw[R4 h];exact b1,b2⟩
  ·rename_i k;obtain⟨a,v,b1,b2⟩:=h2.2.2 _ j row x hi hj;have:i*sz=r1.length*sz+(i - r1.length)*sz:=by rw[<-QR];congr 1;omega
   refine⟨a,v,?_,b2⟩;rw[Array.getElem?_append_right (by omega),<-b1];congr 1;omega
theorem RowsRel.more{sz:Nat}{r1:List (List AV)}{c1 c2:Array Value}(h1:RowsRel w γ A bd sz r1 c1):RowsRel w γ A bd sz r1 (c1++c2):=by refine⟨by have:=h1.1;simp;omega,h1.2.1,λi j row x hi hj=>?_⟩;obtain⟨a,v,b1,b2⟩:=h1.2.2 i j row x hi hj;have h:=(RH.1 b1).1;exact⟨a,v,by rw[R4 h];exact b1,b2⟩
theorem RowsRel.step{sz:Nat}{r1:List (List AV)}{c1:Array Value}(h1:RowsRel w γ A bd sz r1 c1)(s:Stp w γ w' γ'):RowsRel w' γ' A bd sz r1 c1 :=
 ⟨h1.1,h1.2.1,λi j row x hi hj=>let ⟨a,v,b1,b2⟩:=h1.2.2 i j row x hi hj;⟨a,v,b1,b2.step s⟩⟩
theorem RowsRel.flat{sz:Nat}(h:RowsRel w γ A bd sz rows c)(e:c.size=rows.length*sz) :
  RVs w γ A bd rows.flatten c.toList/\(∀(i:Nat) y,rows.flatten[i]?=some y->y.one=true) /\
  (∀(i j:Nat) row,rows[i]?=some row->j<sz->rows.flatten[i*sz+j]?=row[j]?):=by
 have f:rows.flatten.length=rows.length*sz:=by
  have h2:=h.2.1;clear e h
  induction rows with
  |nil=>simp
  | cons r rs ih =>
   have h0:=h2 0 r rfl;simp only[Sa,RW,Q9,QR,RB];rw[ih (λi row hi=>h2 (i+1) row (by simpa using hi)),h0];omega
 have d:∀(i j:Nat) row,rows[i]?=some row->j<sz->rows.flatten[i*sz+j]?=row[j]?:=by
  have h2:=h.2.1;clear e f h
  induction rows with
  |nil=>intro i j row hi;simp at hi
  | cons r rs ih =>
   intro i j row hi n;have h0:=h2 0 r rfl;cases i with
   |zero=>simp at hi;subst hi;simp only[Sa,Tj,Rc];rw[QE (by omega)]
   | succ i =>
    simp only[Sa];rw[QR,RB,QL (by omega),h0,show i*sz+sz+j - sz=i*sz+j from by omega];exact ih (λi row hi=>h2 (i+1) row (by simpa using hi)) i j row (by simpa using hi) n
 have b:∀(k:Nat) y,rows.flatten[k]?=some y->∃row,rows[k / sz]?=some row/\row[k % sz]?=some y/\k / sz*sz+k % sz=k:=by
  intro k y l;have hk:k<rows.length*sz:=by rw[<-f];exact (Qt.1 l).1
  obtain⟨row,x,h1,h2⟩:=Bm h.2.1 hk;have h0:0<sz:=by
   rcases Nat.eq_zero_or_pos sz with h|h
   ·subst h;simp at hk
   ·exact h
  have ek:k / sz*sz+k % sz=k:=by rw[Sw,Tp]
  have:=d _ _ row h1 (R_ k h0);rw[ek,l]at this;exact⟨row,h1,this.symm,ek⟩
 refine⟨⟨by rw[f];simp[e],λk y v l hv=>?_⟩,λk y l=>?_,d⟩
 ·obtain⟨row,h1,h2,m⟩:=b k y l;obtain⟨a,u,b1,b2⟩:=h.2.2 _ _ row y h1 h2;rw[m]at b1;simp only[Td]at hv;rw[hv]at b1;injection b1 with b1;subst b1;exact b2
 ·obtain⟨row,h1,h2,m⟩:=b k y l;exact (h.2.2 _ _ row y h1 h2).1
end
end
section
variable {rows:List (List AV)}
section
variable {C:Cfg}{A:Nat->Nat->Prop}{bd:Nat}{w w':World}{γ γ':Gm}{hg:Nat->AObj}{nx:Nat}
def World.drewn(w:World):World:={ w with drawn:=w.drawn+1 }
theorem wy:Stp w γ (World.drewn w) γ :=
 ⟨Qv _,rfl,rfl,rfl,λ_ _ _=>rfl,λ_ _ h=>h,λ_ _=>.inl ⟨rfl,rfl⟩,λ_ _=>⟨Qv _,λ_=>⟨rfl,rfl,rfl,rfl,rfl⟩⟩,Sm _⟩
theorem Rel.stpSame(h:Rel C A bd w γ hg nx)(s:Stp w γ w' γ)(hh:w'.heap=w.heap):Rel C A bd w' γ hg nx where
 obj id:=(h.obj id).step s rfl (λ_ _=>by rw[hh])
 lt id hk:=by rw[hh];exact h.lt id hk
 inj:=h.inj
 av:=h.av
 ab t b hb:=by rw[hh];exact h.ab t b hb
 glob g sz rows hg:=(h.glob g sz rows hg).step s
theorem xA(need cap:Nat)(h:cap<need):Builtin.nextslicecap need cap<=2*need+192:=by
 have grow:∀(r c:Nat),c<=2*need+192->Builtin.growBy need r c<=2*need+192:=by
  intro r
  induction r with
  |zero=>intro c hc;exact hc
  | succ r ih =>
   intro c hc;simp only[Builtin.growBy]
   split
   ·exact hc
   ·exact ih _ (by omega)
 unfold Builtin.nextslicecap
 split
 ·omega
 ·split
  ·omega
  ·exact grow _ _ (by omega)
theorem Kr:∀{vs:List Value} {as:List AV},xB vs=some as->vs.length=as.length:=by
 intro vs
 induction vs with
 |nil=>intro as h;simp[xB]at h;subst h;rfl
 | cons v vs ih =>
  intro as h;simp only[xB]at h
  split at h
  ·rename_i a as' h1 h2;injection h with h;subst h;simp[ih h2]
  ·cases h
structure Src (C:Cfg) (A:Nat->Nat->Prop) (bd sz:Nat) (w:World) (γ:Gm) (new:List (List AV)) (m:Sem (Array Value)):Prop where
 run:∀w1:World,w1.heap=w.heap->∃c,m.run C.P w1=.ok c w1/\c.size=new.length*sz/\RowsRel w γ A bd sz new c
def g9(e:TypeId)(sz bytes:Nat)(base:Option Addr)(sLen sCap n:Nat)(gi:Bool)(s x:Value)(appended:Sem (Array Value)):Sem Value:=do
 let need:=sLen+n
 if need<=sCap then
  let new <-appended
  if let some a:=base then storeCells (a.add (sLen*sz)) new.toList
  pure (.slice base need sCap)
 else
  if (need : Int) > IntKind.i64.max ∧ (gi ∨ (← typeInfo e).bytes = 0) then runtimePanic (.error "growslice: len out of range")
  if Builtin.nextslicecap need sCap * (← typeInfo e).bytes > 2 ^ 48 then (if gi then runtimePanic (.error "growslice: len out of range") else do
   if !(<-Builtin.mayShare sz sLen n base x) then mark .noRoom
   unsupported (.resourceLimit "append: a slice or a string whose bytes no memory bears"))
  let newCap <-choose (.appendCap need sCap e)
  askRoom (newCap*(<-typeInfo e).bytes)
  let old <-Builtin.firstCells sz sLen s
  let new <-appended
  let rest:=Builtin.zeroCells (<-zeroValue e).cells (newCap - need)
  pure (.slice (some (<-newRow e (old++new++rest))) need newCap)
theorem o6{sz:Nat}{base:Option Addr}{sLen sCap:Nat}{zs:Bool}{s x:Value}{appended:Sem (Array Value)}{zero:List AV}
  (hby:iT C.P e=some bytes) (hz:fm C.P e=some zero) (hzl:zero.length=sz) (h0:0<bytes) (hroom:(sLen+n)*bytes<=aQ) (hn:¬sLen+n<=sCap)
  {oldc newc:Array Value} (hold:(Builtin.firstCells sz sLen s).run C.P (World.drewn w)=.ok oldc (World.drewn w))
  (hnew:appended.run C.P (World.drewn w)=.ok newc (World.drewn w)) :
  ∃newCap rest,(sLen+n<=newCap/\newCap<=9223372036854775807)/\rest.size=(newCap - (sLen+n))*sz /\
   (g9 e sz bytes base sLen sCap n zs s x appended).run C.P w =
    .ok (.slice (some (adr w.heap.size 0)) (sLen+n) newCap) (World.add (World.drewn w) (.cells (oldc++newc++rest) e (0,0))):=by
 have hi:∃i,C.P.info? e=some i/\i.bytes=bytes:=by
  unfold iT at hby;cases hie:C.P.info? e with
  |none=>rw[hie]at hby;cases hby
  |some i=>rw[hie]at hby;simp at hby;exact⟨i,rfl,hby⟩
 obtain⟨i,j,m⟩:=hi;obtain⟨z,r,t⟩:=me (w:=World.drewn w) hz;have f:z.cells.size=sz:=by have:=Kr t;simp at this;omega
 unfold aQ at hroom;have p:sLen+n<=(sLen+n)*bytes:=Nat.le_mul_of_pos_right _ h0;have d:=xA (sLen+n) sCap (by omega);have o:Builtin.nextslicecap (sLen+n) sCap*bytes<=2 ^ 48:=by
  have h1:Builtin.nextslicecap (sLen+n) sCap*bytes<=(2*(sLen+n)+192)*bytes:=QK _ d;have h2:bytes<=(sLen+n)*bytes:=Nat.le_mul_of_pos_left _ (by omega);have u:(2*(sLen+n)+192)*bytes=2*((sLen+n)*bytes)+192*bytes:=by rw[QR,SP]
  omega
 let q:Question:=.appendCap (sLen+n) sCap e
 let newCap:=q.cut (w.tape w.drawn q)
 have k:sLen+n<=newCap/\newCap<=9223372036854775807:=by have l:w.tape w.drawn q % (2 ^ 63 - (sLen+n))<2 ^ 63 - (sLen+n):=R_ _ (by omega);have:newCap=(sLen+n)+w.tape w.drawn q % (2 ^ 63 - (sLen+n)):=rfl;omega
 refine⟨newCap,Builtin.zeroCells z.cells (newCap - (sLen+n)),k,by simp[Builtin.zeroCells,f],?_⟩;unfold g9;have a:¬(((sLen+n:Nat):Int) > IntKind.i64.max):=by
  have:IntKind.i64.max=9223372036854775807:=by decide
  rw[this];omega
 have b:(choose (.appendCap (sLen+n) sCap e)).run C.P w=.ok newCap (World.drewn w):=by rw[run_choose];rfl
 have c:¬(Builtin.nextslicecap (sLen+n) sCap*bytes > 2 ^ 48):=by omega
 dsimp only;rw[Qw hn];simp only[QF,jH j,QB,m];rw[Qw (λh=>a h.1)];simp only[QB,QF,jH j,m];rw[Qw c];simp only[QF,Q3,QB,b,jH j,run_askRoom,hold,hnew,r,gC]
 rfl
theorem qG{sz:Nat}{base:Option Addr}{sLen sCap:Nat}{zs:Bool}{s x:Value}{appended:Sem (Array Value)}
  (hn:sLen+n<=sCap) {newc:Array Value} (hnew:appended.run C.P w=.ok newc w) :
  (g9 e sz bytes base sLen sCap n zs s x appended).run C.P w =
   match base with
   |none=>.ok (.slice none (sLen+n) sCap) w
   |some a=>((storeCells (a.add (sLen*sz)) newc.toList).run C.P w).andThen λ_ w'=>.ok (.slice (some a) (sLen+n) sCap) w':=by
 unfold g9;dsimp only;rw[QA hn];simp only[QF,hnew,QB];cases base with
 |none=>simp
 |some a=>simp
theorem tW(hr:Rel C A bd w γ hg nx){id sz:Nat}{lim:Option Nat}{fz:Bool}
  (hv:RV w γ A bd (.hsl id ep off len lim) v) (hid:hg id=.cells sz rows ep loose fz) :
  ∃cap,v=.slice (some (adr (γ id).blk ((γ id).base+off*sz))) len cap/\len<=cap/\gZ lim off cap (γ id):=by
 cases hv with
 | hsl _ _ _ _ _ _ b o cap hk he hc h =>
  have k:=hr.obj id;rw[hid]at k;obtain⟨e,k2,d,_⟩:=k;obtain⟨c1,a,c⟩:=h k2.symm;exact⟨cap,by rw[c1,a,d],hc,c⟩
theorem rA{o cap sz:Nat}(h:RowsAt w γ A bd sz rows b o)(hl:rows.length=len) :
  ∃c,(Builtin.firstCells sz len (.slice (some (adr b o)) len cap)).run P w=.ok c w/\c.size=rows.length*sz/\RowsRel w γ A bd sz rows c:=by
 obtain⟨c,h1,h2,k⟩:=zo h P;exact⟨c,by simp only[Builtin.firstCells];rw[<-hl];exact h1,h2,k⟩
theorem RowsAt.same{sz o:Nat}(h:RowsAt w γ A bd sz rows b o)(s:Stp w γ w' γ)(hh:w'.heap=w.heap):RowsAt w' γ A bd sz rows b o :=
 ⟨h.1,λi j row x h1 h2=>let ⟨a,v,c,d⟩:=h.2 i j row x h1 h2;⟨a,v,by rw[xJ (w:=w) (w':=w') (by rw[hh])];exact c,d.step s⟩⟩
theorem RowsRel.back{sz:Nat}(h:RowsRel (World.drewn w) γ A bd sz rows c):RowsRel w γ A bd sz rows c:=by obtain⟨h1,h2,k⟩:=h;exact⟨h1,h2,λi j row x a b=>let ⟨c,v,d,e⟩:=k i j row x a b;⟨c,v,d,e.heap rfl⟩⟩
theorem wg{sz:Nat}{cs:Array Value}(hr:Rel C A bd w γ hg nx){g:G}(hf:(γ g.nx).kind=0)
  (h:RowsRel w γ A bd sz rows cs) (len cap:Nat) (hc:cap*sz<=cs.size) (hcap:rows.length<=cap) (hlen:len=rows.length) (hmax:cap<=9223372036854775807) :
  ∃γ',Rel C A bd (World.add (World.drewn w) (.cells cs e (0,0))) γ' (upd hg g.nx (.cells sz rows 0 true false)) (Nat.max nx (g.nx+1)) /\
   Stp w γ (World.add (World.drewn w) (.cells cs e (0,0))) γ' /\
   RV (World.add (World.drewn w) (.cells cs e (0,0))) γ' A bd (.hsl g.nx 0 0 len none) (.slice (some (adr w.heap.size 0)) len cap):=by
 have a:Stp w γ (World.drewn w) γ:=wy;have k:=hr.stpSame a rfl;obtain⟨γ',b,c,d⟩:=pJ (w:=World.drewn w) e k hf (h.step a) len cap true (cap - rows.length) ⟨λh=>(by cases h),λ_=>(by omega)⟩
  (by rw[show rows.length+(cap - rows.length)=cap from by omega];exact hc) (by omega) (by omega)
 exact⟨γ',b,a.trans c,d⟩
theorem Rel.moved(hr:Rel C A bd w γ hg nx){id:Nat}{sz:Nat}{rows':List (List AV)}(hid:hg id=.cells sz rows ep loose false)
  {w1:World} {gh:Gh} (h1:gh.kind=1) (h2:gh.ep=ep+1) (h3:gh.sz=sz) (h4:gh.n=rows'.length) (h5:gh.wr=true)
  (hos:w1.os=w.os/\w1.tape=w.tape/\w1.output=w.output/\w.heap.size<=w1.heap.size) (hdr:w.drawn<=w1.drawn)
  (hmax:rows'.length+gh.slack<=9223372036854775807) (hb:gh.blk=(γ id).blk\/(gh.blk=w.heap.size/\w.heap.size<w1.heap.size))
  (hheap:∀b,b<w.heap.size->b≠(γ id).blk->w1.heap[b]?=w.heap[b]?)
    (hc:w1.heap[gh.blk]?=some (.cells c e (0,0))) (hsz:gh.base+(rows'.length+gh.slack)*sz<=c.size)
  (hrl:∀(i:Nat) row,rows'[i]?=some row->row.length=sz)
  (hcell:∀(i j:Nat) row x,rows'[i]?=some row->row[j]?=some x->x.one=true/\∃v,c[gh.base+i*sz+j]?=some v/\RV w γ A bd x v) :
  Rel C A bd w1 (upd γ id gh) (upd hg id (.cells sz rows' (ep+1) true false)) nx/\Stp w γ w1 (upd γ id gh):=by
 have k:=hr.obj id;rw[hid]at k;obtain⟨f,k2,q,r,u,o,_⟩:=k;have hk:(γ id).kind≠0:=by rw[f];decide
 have hw:(γ id).wr=true:=by simpa using o
 have hlt:=hr.lt id hk;have s:Stp w γ w1 (upd γ id gh):=by
  refine⟨hos.2.2.2,hos.1,hos.2.1,hos.2.2.1,λb hb' hm=>hheap b hb' (λe=>hm ⟨id,hk,hw,e.symm⟩),λb hb'=>?_,λj hj=>?_,λj hj=>?_,hdr⟩
  ·rintro⟨j,l,m,d⟩
   by_cases hj:j=id
   ·subst hj;simp only[upd_same]at d;rcases hb with hb|hb
    ·exact⟨j,hk,hw,by rw[<-hb];exact d⟩
    ·omega
   ·rw[ct _ _ hj]at l m d;exact⟨j,l,m,d⟩
  ·by_cases hji:j=id
   ·subst hji;rw[upd_same];exact .inr ⟨f,h1,by rw[h2,k2];omega⟩
   ·rw[ct _ _ hji];exact .inl ⟨rfl,rfl⟩
  ·by_cases hji:j=id
   ·subst hji;rw[upd_same,h2,k2];exact⟨by omega,λh=>by omega⟩
   ·rw[ct _ _ hji];exact⟨Qv _,λ_=>⟨rfl,rfl,rfl,rfl,rfl⟩⟩
 refine⟨hr.set rfl s (Qv _) ?_ ⟨hlt.1,?_⟩ (λj hj hkj e=>?_) ?_ (λj hj hkj _=>?_),s⟩
 ·simp only[ObjRel,upd_same];refine⟨h1,h2,h3,h4,⟨λh=>(by cases h),λ_=>hmax⟩,by rw[h5];rfl,c,e,hc,hsz,hrl,λi j row x a b=>?_⟩;obtain⟨p,v,q1,q2⟩:=hcell i j row x a b;exact⟨p,v,q1,q2.step s⟩
 ·rcases hb with hb|hb
  ·rw[hb];omega
  ·omega
 ·rcases hb with hb|hb
  ·exact hj (hr.inj j id hkj hk (by rw[e,hb]))
  ·have:=(hr.lt j hkj).2;omega
 ·rcases hb with hb|hb
  ·rw[hb];exact hr.av id hk
  ·exact λt ht=>by have:=hr.ab t _ ht;omega
 ·exact hheap _ (hr.lt j hkj).2 (λe=>hj (hr.inj j id hkj hk e))
end
end
section
variable {rows:List (List AV)}
section
variable {C:Cfg}{A:Nat->Nat->Prop}{bd:Nat}{w w':World}{γ γ':Gm}{hg:Nat->AObj}{nx:Nat}
theorem iF(a:Addr):(storeCells a []).run P w=.ok () w:=rfl
theorem Ei{new:List (List AV)}(h:off+new.length<=rows.length) :
  (kH rows off new).length=rows.length/\∀i,(kH rows off new)[i]?=if off<=i/\i<off+new.length then new[i - off]? else rows[i]?:=by
 unfold kH;simp only[iD,a_,aX,au]
 split
 ·rename_i r;refine⟨by simp,λi=>?_⟩;simp only[Q9,Sc]at h ⊢;rw[Ru]
  by_cases hi:off=i
  ·subst hi;rw[QA rfl,QA (by omega),QA (by omega)];simp
  ·rw[Qw hi,Qw (by omega)]
 ·refine⟨by simp;omega,λi=>?_⟩
  by_cases h1:i<off
  ·rw[Qw (by omega),QE (by simp;omega),Ra h1]
  ·rw[QL (by simp;omega)];simp only[Q_,Sn (show off<=rows.length by omega)]
   by_cases h2:i<off+new.length
   ·rw[QA ⟨by omega,h2⟩,QE (by omega)]
   ·rw[Qw (by omega),QL (by omega),Q5];congr 1;omega
theorem Rel.storeRows(hr:Rel C A bd w γ hg nx){id sz:Nat}{new:List (List AV)}(hid:hg id=.cells sz rows ep loose false)
   (hc:RowsRel w γ A bd sz new c) (hcs:c.size=new.length*sz) (hle:off+new.length<=rows.length) (P:Program) :
  ∃w',(Go.storeCells (adr (γ id).blk ((γ id).base+off*sz)) c.toList).run P w=.ok () w' /\
   Rel C A bd w' γ (upd hg id (.cells sz (kH rows off new) ep loose false)) nx/\Stp w γ w' γ:=by
 obtain⟨p1,p2⟩:=Ei hle;have a:=hr.obj id;rw[hid]at a;obtain⟨n,k2,p,q,r,s,cc,e,t,u,d,l⟩:=a;obtain⟨f1,f2,f⟩:=hc.flat hcs;have hcl:c.toList.length=new.length*sz:=by simp[hcs]
 have k:(off+new.length)*sz<=rows.length*sz:=QK _ hle;rw[QR]at k;refine hr.storeCells hid (o:=(γ id).base+off*sz) (xs:=new.flatten) f1 f2 p1 (λi row hi=>?_) ⟨by omega,by omega⟩ (λi j row x hi hj=>?_) P
 ·rw[p2]at hi
  split at hi
  ·exact hc.2.1 _ _ hi
  ·exact d _ _ hi
 ·rw[p2]at hi;rw[hcl];have b:j<sz:=by
   have hl:row.length=sz:=by
    split at hi
    ·exact hc.2.1 _ _ hi
    ·exact d _ _ hi
   rw[<-hl];exact (Qt.1 hj).1
  by_cases hcond:off<=i/\i<off+new.length
  ·rw[QA hcond]at hi;have h1:off*sz<=i*sz:=QK _ hcond.1;have h2:(i+1)*sz<=(off+new.length)*sz:=QK _ hcond.2;rw[QR,RB,QR]at h2;rw[QA (by omega)];have m:(i - off)*sz+off*sz=i*sz:=by rw[<-QR];congr 1;omega
   rw[show (γ id).base+i*sz+j - ((γ id).base+off*sz)=(i - off)*sz+j from by omega,f _ _ row hi b];exact hj
  ·rw[Qw hcond]at hi;rw[Qw]
   ·exact⟨row,hi,hj⟩
   ·rintro⟨l1,l2⟩;apply hcond;refine⟨?_,?_⟩
    ·rcases RX i off with h|h
     ·have:(i+1)*sz<=off*sz:=QK _ h;rw[QR,RB]at this;omega
     ·exact h
    ·rcases RX i (off+new.length) with h|h
     ·exact h
     ·have:(off+new.length)*sz<=i*sz:=QK _ h;rw[QR]at this;omega
theorem K7(h:off+len<=rows.length):((rows.drop off).take len).length=len:=by simp;omega
noncomputable def yh(sz bytes:Nat)(s0:AV)(new:List (List AV))(g:G):OR :=
 match new with
 |[]=>.val s0
 |_=>ap (Nat.ble (aZ new*bytes) aQ) (.upd (.hsl g.nx 0 0 (aZ new) none) (g.new (.cells sz new 0 true false))) .fail
theorem qH{sz:Nat}{zero:List AV}{s:AV}{x:Value}{new:List (List AV)}{zs:Bool}{appended:Sem (Array Value)}{g:G}
  (hr:Rel C A bd w γ hg nx) (hf:(γ g.nx).kind=0) (hs:RV w γ A bd s v) (hby:iT C.P e=some bytes) (hz:fm C.P e=some zero) (hzl:zero.length=sz)
  (hb0:0<bytes) (happ:∀w1:World,w1=w\/w1=World.drewn w->∃c,appended.run C.P w1=.ok c w1/\c.size=new.length*sz/\RowsRel w γ A bd sz new c)
  (agree:∀id∈am s,hg id=g.h.get id) :
  bg sz bytes s new g=.fail\/∃base sLen sCap,v=.slice base sLen sCap /\
   cM C A bd w γ hg nx (g9 e sz bytes base sLen sCap new.length zs v x appended) g (bg sz bytes s new g):=by
 have D:∀(base:Option Addr) (cap:Nat),new=[]->∀len,len<=cap->(g9 e sz bytes base len cap new.length zs (.slice base len cap) x appended).run C.P w=.ok (.slice base len cap) w:=by
  intro base cap hn len hl;obtain⟨c,c1,u,_⟩:=happ w (.inl rfl);have K:c=#[]:=by rw[hn]at u;simpa using u
  rw[qG (by rw[hn];simpa using hl) c1,hn,K];cases base<;>simp[iF]
 have B:∀(base:Option Addr) (W:AV),RV w γ A bd W (.slice base 0 0)->(Builtin.firstCells sz 0 (.slice base 0 0)).run C.P (World.drewn w)=.ok #[] (World.drewn w) ->
   yh sz bytes W new g=.fail \/
   cM C A bd w γ hg nx (g9 e sz bytes base 0 0 new.length zs (.slice base 0 0) x appended) g (yh sz bytes W new g):=by
  intro base W hd V;rcases hnew:new with _|⟨r,rs⟩
  ·exact .inr ⟨.slice base 0 0,hnew ▸ D base 0 hnew 0 (Qv _),hd⟩
  ·rw[<-hnew];have h9:yh sz bytes W new g=ap (Nat.ble (aZ new*bytes) aQ) (OR.upd (.hsl g.nx 0 0 (aZ new) none) (g.new (.cells sz new 0 true false))) OR.fail:=by rw[hnew];rfl
   rw[h9];simp only[au,aa]
   split
   ·rename_i I;rw[Q6]at I;refine .inr ?_;obtain⟨c,c1,u,E⟩:=happ (World.drewn w) (.inr rfl);have hq:0<new.length:=by rw[hnew];simp
    obtain⟨newCap,rest,n1,n2,n3⟩:=o6 (zs:=zs) (x:=x) (w:=w) hby hz hzl hb0 (sLen:=0) (n:=new.length) (sCap:=0) (by simpa using I) (by omega) V c1;have z:newCap*sz<=(#[]++c++rest).size:=by simp only[Array.size_append,n2,u,List.size_toArray,Sc];rw[Rc,<-QR];apply QK;omega
    obtain⟨γ',R,S,s3⟩:=wg (e:=e) (cs:=#[]++c++rest) hr hf (by simpa using E.more) new.length newCap z (by omega) rfl n1.2;rw[Rc]at n3;exact⟨_,_,γ',g.nx,_,n3,s3,S,.inr ⟨rfl,rfl,R⟩⟩
   ·exact .inl rfl
 unfold bg;cases hs with
 |nils=>exact (B none .nils (.nils _) (by simp[Builtin.firstCells])).imp id λh=>⟨none,0,0,rfl,h⟩
 |esl _ a=>exact (B (some a) .esl (.esl _ a) (by simp[Builtin.firstCells,loadCells,loadCellsFrom])).imp id λh=>⟨some a,0,0,rfl,h⟩
 | tsl _ tag sz' rows b o cap cell ht hc hb hm ha hrl ho hw h hcl =>
  cases hnew:new with
  | nil =>
   refine .inr ⟨some (adr b o),rows.length,cap,rfl,.slice (some (adr b o)) rows.length cap,(hnew ▸ D _ cap hnew rows.length hc),.tsl _ tag sz' rows b o cap cell ht hc hb hm ha hrl ho hw h hcl⟩
  |cons r rs=>exact .inl rfl
 | tnil _ tag sz' a cap ht =>
  cases hnew:new with
  |nil=>exact .inr ⟨some a,0,cap,rfl,.slice (some a) 0 cap,(hnew ▸ D _ cap hnew 0 (Rf _)),.tnil _ tag sz' a cap ht⟩
  |cons r rs=>exact .inl rfl
 | hsl _ id ep off len lim b0 o0 cap0 hk he K h0 =>
  have J:=agree id (by simp[am]);simp only[G.get_eq,<-J];cases hid:hg id with
  | cells sz' rows ep' loose fz =>
   dsimp only;simp only[au,aa]
   split
   ·rename_i F;simp only[Qy,Q6]at F;obtain⟨⟨⟨h1,h2⟩,h3⟩,h4⟩:=F;have h1:=ay h1;have h2:=ay h2;subst h1;subst h2;obtain⟨cap,hv,h8,f⟩:=tW hr (RV.hsl bd id ep off len lim b0 o0 cap0 hk he K h0) hid;rw[hv];have U:=hr.obj id;rw[hid]at U;obtain⟨k1,k2,k3,k4,k5,k6,cc,ee,k7,k8,k9,hh⟩:=U
    split
    ·rename_i d;rw[Q6]at d;have p:len+new.length<=cap:=by
      unfold gZ at f;cases lim with
      |none=>simp at d;dsimp only at f;omega
      |some c=>simp at d;dsimp only at f;omega
     cases hnew:new with
     | nil =>
      refine .inr ⟨some (adr (γ id).blk ((γ id).base+off*sz)),len,cap,rfl,.slice (some (adr (γ id).blk ((γ id).base+off*sz))) len cap,(hnew ▸ D _ cap hnew len h8),?_⟩;rw[<-hv];exact RV.hsl bd id ep off len lim b0 o0 cap0 hk he K h0
     | cons r rs =>
      dsimp only;rw[<-hnew]
      split
      ·rename_i T;simp only[Qy,Q6,notb_eq,RQ]at T;obtain⟨h5,h6⟩:=T;subst h6;refine .inr ⟨_,_,_,rfl,?_⟩;obtain⟨c,c1,u,E⟩:=happ w (.inl rfl);obtain⟨w',r1,r2,r3⟩:=hr.storeRows hid (off:=off+len) E u (by omega) C.P;refine⟨.slice (some (adr (γ id).blk ((γ id).base+off*sz))) (len+new.length) cap,w',γ,id,_,?_,?_,r3,.inl ⟨rfl,r2⟩⟩
       ·rw[qG p c1];dsimp only;rw[fp,show (γ id).base+off*sz+len*sz=(γ id).base+(off+len)*sz from by rw[QR];omega,r1]
        rfl
       ·exact .hsl _ id ep off _ lim _ _ cap k1 (by omega) p (λ_=>⟨rfl,by rw[k3],f⟩)
      ·exact .inl rfl
    ·rename_i l;rw[Q6]at l;have t:=(zB hr hid).sub off len;have k:=K7 (rows:=rows) (off:=off) (len:=len) h3;have M:Stp w γ (World.drewn w) γ:=wy
     split
     ·rename_i q;refine .inr ⟨_,_,_,rfl,?_⟩;have Y:¬len+new.length<=cap:=by
       unfold gZ at f;cases lim with
       | none =>
        simp at q;dsimp only at f;have:=k5.1 q;simp at l;omega
       |some c=>simp at l;dsimp only at f;omega
      obtain⟨c,c1,u,E⟩:=happ (World.drewn w) (.inr rfl);obtain⟨oc,o1,o2,o3⟩:=rA (P:=C.P) (cap:=cap) (t.same M rfl) k;rw[k]at o2;obtain⟨newCap,rest,n1,n2,n3⟩:=o6 (zs:=zs) (x:=x) (w:=w) hby hz hzl hb0 (sLen:=len) (n:=new.length) (sCap:=cap) (base:=some (adr (γ id).blk ((γ id).base+off*sz))) (by simpa using h4) Y o1 c1;have z:newCap*sz<=(oc++c++rest).size:=by simp only[Array.size_append,n2,u,o2];rw[<-QR,<-QR];apply QK;omega
      have m:RowsRel w γ A bd sz ((rows.drop off).take len++new) (oc++c++rest):=(o3.back.append (by rw[k];exact o2) E).more;obtain⟨γ',R,S,s3⟩:=wg (e:=e) (cs:=oc++c++rest) hr hf m (len+new.length) newCap z (by simp[k];omega) (by simp[k]) n1.2;refine⟨_,_,γ',g.nx,_,n3,s3,S,.inr ⟨?_,rfl,R⟩⟩;simp only[a_,aX]
     ·rename_i X
      split
      ·exact .inl rfl
      ·rename_i N;have N:fz=false:=by simpa using N
       subst N;have hl:lim=none/\loose=true:=by cases lim<;>cases loose<;>simp_all
       obtain⟨h7,hl2⟩:=hl;subst h7;subst hl2;have hp:off+cap=rows.length+(γ id).slack:=by unfold gZ at f;dsimp only at f;omega
       refine .inr ⟨_,_,_,rfl,?_⟩
       by_cases d:len+new.length<=cap
       ·
        obtain⟨c,c1,u,E⟩:=happ w (.inl rfl);have H:(γ id).base+off*sz+len*sz+c.toList.length<=cc.size:=by have:(off+(len+new.length))*sz<=(rows.length+(γ id).slack)*sz:=QK _ (by omega);rw[QR,QR]at this;simp[u];omega
        obtain⟨f1,f2,f3⟩:=E.flat u;have L:=rY (P:=C.P) c.toList 0 w cc k7 (o:=(γ id).base+off*sz+len*sz) (by simpa using H) (Hl f1 f2);simp only[R7]at L
        let gh:Gh:=⟨1,ep+1,sz,len+new.length,(γ id).blk,(γ id).base+off*sz,cap - (len+new.length),true⟩
        obtain⟨R,S⟩:=hr.moved hid (w1:=World.setBlk w (γ id).blk (.cells (a9 cc ((γ id).base+off*sz+len*sz) c.toList) ee (0,0))) (gh:=gh)
         (rows':=(rows.drop off).take len++new) rfl rfl rfl (by simp[gh,k]) rfl ⟨rfl,rfl,rfl,by simp⟩ (Qv _) (by have:=k5.2 rfl;simp[gh,k];omega) (.inl rfl)
         (λb _ hb=>by rw[aR,Qw];rintro⟨e,_⟩;exact hb e)
         (c:=a9 cc ((γ id).base+off*sz+len*sz) c.toList) (e:=ee)
         (by rw[aR];simp[gh,(hr.lt id (by rw[k1];decide)).2])
         (by
          simp only[gh,bI,RW,k];have:(off+cap)*sz<=(rows.length+(γ id).slack)*sz:=QK _ (by omega);rw[QR]at this;rw[show len+new.length+(cap - (len+new.length))=cap from by omega];omega)
         (λi row hi=>by
          rw[SA]at hi
          split at hi
          ·exact t.1 _ _ hi
          ·exact E.2.1 _ _ hi)
         (λi j row y hi hj=>by
          rw[SA,k]at hi
          split at hi
          ·rename_i Q;have O:=hi;rw[Ra Q,Q5]at O;have Z:j<sz:=by rw[<-k9 _ _ O];exact (Qt.1 hj).1
           obtain⟨a,v,b1,b2⟩:=hh _ j row y O hj;refine⟨a,v,?_,b2⟩;rw[bW _ _ _ _ H,Qw]
           ·simp only[gh];rw[show (γ id).base+off*sz+i*sz+j=(γ id).base+(off+i)*sz+j from by rw[QR];omega];exact b1
           ·simp only[gh];have:(i+1)*sz<=len*sz:=QK _ Q;rw[QR,RB]at this;omega
          ·rename_i Q;have Z:j<sz:=by rw[<-E.2.1 _ _ hi];exact (Qt.1 hj).1
           have hlt:i - len<new.length:=(Qt.1 hi).1;obtain⟨a,v,b1,b2⟩:=E.2.2 _ j row y hi hj;refine⟨a,v,?_,b2⟩;have e1:i*sz=len*sz+(i - len)*sz:=by rw[<-QR];congr 1;omega
           have e2:(i - len+1)*sz<=new.length*sz:=QK _ hlt;rw[QR,RB]at e2;rw[bW _ _ _ _ H];simp only[gh];rw[QA (by simp[u];omega),show (γ id).base+off*sz+i*sz+j - ((γ id).base+off*sz+len*sz)=(i - len)*sz+j from by omega];simpa using b1)
        refine⟨.slice (some (adr (γ id).blk ((γ id).base+off*sz))) (len+new.length) cap,_,_,id,_,?_,?_,S,.inl ⟨?_,R⟩⟩
        ·rw[qG d c1];dsimp only;rw[fp,L];rfl
        ·refine .hsl _ id (ep+1) 0 _ none _ _ cap (by simp[gh]) (by simp[gh]) d (λ_=>⟨by simp[gh],by simp[gh],?_⟩);simp only[gZ,upd_same,gh];omega
        ·simp only[a_,aX]
       ·
        obtain⟨c,c1,u,E⟩:=happ (World.drewn w) (.inr rfl);obtain⟨oc,o1,o2,o3⟩:=rA (P:=C.P) (cap:=cap) (t.same M rfl) k;rw[k]at o2;obtain⟨newCap,rest,n1,n2,n3⟩:=o6 (zs:=zs) (x:=x) (w:=w) hby hz hzl hb0 (sLen:=len) (n:=new.length) (sCap:=cap) (base:=some (adr (γ id).blk ((γ id).base+off*sz))) (by simpa using h4) d o1 c1;have z:newCap*sz<=(oc++c++rest).size:=by simp only[Array.size_append,n2,u,o2];rw[<-QR,<-QR];apply QK;omega
        have m:RowsRel w γ A bd sz ((rows.drop off).take len++new) (oc++c++rest):=(o3.back.append (by rw[k];exact o2) E).more
        let gh:Gh:=⟨1,ep+1,sz,len+new.length,w.heap.size,0,newCap - (len+new.length),true⟩
        obtain⟨R,S⟩:=hr.moved hid (w1:=World.add (World.drewn w) (.cells (oc++c++rest) e (0,0))) (gh:=gh)
         (rows':=(rows.drop off).take len++new) rfl rfl rfl (by simp[gh,k]) rfl ⟨rfl,rfl,rfl,by simp[World.drewn]⟩ (Sm _) (by have:=n1.1;have:=n1.2;simp[gh,k];omega) (.inr ⟨rfl,by simp[World.drewn]⟩)
         (λb hb _=>by rw[jq,Qw (by simp[World.drewn];omega)];rfl)
         (c:=oc++c++rest) (e:=e) (by rw[jq];simp[gh,World.drewn])
         (by simp only[gh,RW,k];rw[show len+new.length+(newCap - (len+new.length))=newCap from by omega];omega)
         m.2.1 (λi j row y hi hj=>by simpa [gh] using m.2.2 i j row y hi hj)
        refine⟨_,_,_,id,_,n3,?_,S,.inl ⟨?_,R⟩⟩
        ·refine .hsl _ id (ep+1) 0 _ none _ _ newCap (by simp[gh]) (by simp[gh]) n1.1 (λ_=>⟨by simp[gh],by simp[gh],?_⟩);simp only[gZ,upd_same,gh];omega
        ·simp only[a_,aX]
   ·exact .inl rfl
  |_=>exact .inl rfl
 |_=>exact .inl rfl
end
end
end
end Hx
