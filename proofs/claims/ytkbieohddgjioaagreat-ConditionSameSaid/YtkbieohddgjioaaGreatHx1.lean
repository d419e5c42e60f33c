/- A part of the proof: what the functions of the chapter compute. -/
import GoSem.Step
import Derived.RangeFuncIn
import Derived.Laws.Sem
import Derived.Laws.Tables
set_option linter.all false
section
namespace Hx
open Go
theorem R3:type_of% @And.intro:=@And.intro
theorem R4:type_of% @List.getElem?_eq_getElem:=@List.getElem?_eq_getElem
theorem R5:type_of% @Nat.le_refl:=@Nat.le_refl
theorem R6:type_of% @List.getElem?_eq_some_iff:=@List.getElem?_eq_some_iff
theorem R7:type_of% @Bool.and_eq_true:=@Bool.and_eq_true
theorem R8:type_of% @Int.eq_ofNat_of_zero_le:=@Int.eq_ofNat_of_zero_le
theorem R9:type_of% @List.mem_of_getElem?:=@List.mem_of_getElem?
theorem R_:type_of% @List.getElem?_map:=@List.getElem?_map
theorem Sa:type_of% @if_neg:=@if_neg
theorem Sb:type_of% @if_pos:=@if_pos
theorem Sc:type_of% @Result.andThen_ok:=@Result.andThen_ok
theorem Sd:type_of% @List.cons_append:=@List.cons_append
theorem Se:type_of% @Option.getD_some:=@Option.getD_some
theorem Sf:type_of% @List.nil_append:=@List.nil_append
theorem Sg:type_of% @decide_eq_true_eq:=@decide_eq_true_eq
theorem Si:type_of% @List.reverse_cons:=@List.reverse_cons
theorem Sj:type_of% @List.getElem?_append_right:=@List.getElem?_append_right
theorem Sk:type_of% @List.not_mem_nil:=@List.not_mem_nil
theorem Sl:type_of% @List.reverse_nil:=@List.reverse_nil
theorem Sm:type_of% @List.mem_range:=@List.mem_range
theorem Sn:type_of% @Sem.run_bind:=@Sem.run_bind
theorem So:type_of% @List.getElem?_append_left:=@List.getElem?_append_left
theorem Sq:type_of% @List.mem_cons:=@List.mem_cons
theorem Ss:type_of% @List.length_map:=@List.length_map
theorem Su:type_of% @List.append_nil:=@List.append_nil
theorem Sv:type_of% @Array.getElem?_eq_getElem:=@Array.getElem?_eq_getElem
theorem Sw:type_of% @Nat.mul_le_mul_right:=@Nat.mul_le_mul_right
theorem Sx:type_of% @Int.toNat_natCast:=@Int.toNat_natCast
theorem Sy:type_of% @List.all_eq_true:=@List.all_eq_true
theorem Sz:type_of% @Nat.le_trans:=@Nat.le_trans
theorem SA:type_of% @Nat.add_mul:=@Nat.add_mul
theorem SB:type_of% @Nat.lt_of_lt_of_le:=@Nat.lt_of_lt_of_le
theorem SD:type_of% @List.eq_nil_of_length_eq_zero:=@List.eq_nil_of_length_eq_zero
theorem SE:type_of% @List.getElem?_of_mem:=@List.getElem?_of_mem
theorem SG:type_of% @List.mem_append:=@List.mem_append
theorem SH:type_of% @Nat.succ_pos:=@Nat.succ_pos
theorem SJ:type_of% @List.length_cons:=@List.length_cons
theorem SK:type_of% @List.mem_singleton:=@List.mem_singleton
theorem SL:type_of% @List.length_take:=@List.length_take
theorem SM:type_of% @List.mem_of_mem_take:=@List.mem_of_mem_take
theorem SN:type_of% @List.getElem?_take_of_lt:=@List.getElem?_take_of_lt
theorem SP:type_of% @Bool.not_eq_true':=@Bool.not_eq_true'
theorem SQ:type_of% @Nat.beq_refl:=@Nat.beq_refl
theorem SS:type_of% @Nat.ble_eq:=@Nat.ble_eq
theorem ST:type_of% @List.getElem?_drop:=@List.getElem?_drop
theorem SU:type_of% @Nat.zero_add:=@Nat.zero_add
theorem SV:type_of% @Sem.run_pure:=@Sem.run_pure
theorem SW:type_of% @List.take_append_drop:=@List.take_append_drop
theorem SX:type_of% @List.mem_map:=@List.mem_map
theorem SY:type_of% @Bool.or_eq_true:=@Bool.or_eq_true
theorem SZ:type_of% @List.length_append:=@List.length_append
theorem S1:type_of% @List.take_length:=@List.take_length
theorem S2:type_of% @Nat.zero_le:=@Nat.zero_le
theorem S3:type_of% @List.getElem?_cons_zero:=@List.getElem?_cons_zero
theorem S4:type_of% @Array.getD_eq_getD_getElem?:=@Array.getD_eq_getD_getElem?
theorem S5:type_of% @List.take_of_length_le:=@List.take_of_length_le
theorem S6:type_of% @decide_eq_false:=@decide_eq_false
theorem S7:type_of% @List.append_assoc:=@List.append_assoc
theorem S8:type_of% @List.getElem?_set:=@List.getElem?_set
theorem S9:type_of% @Option.some.injEq:=@Option.some.injEq
theorem Ta:type_of% @List.getElem_mem:=@List.getElem_mem
theorem Tb:type_of% @List.filter_cons_of_neg:=@List.filter_cons_of_neg
theorem Tc:type_of% @List.flatMap_cons:=@List.flatMap_cons
theorem Td:type_of% @Bool.true_and:=@Bool.true_and
theorem Te:type_of% @List.map_cons:=@List.map_cons
theorem Tf:type_of% @List.drop_eq_getElem_cons:=@List.drop_eq_getElem_cons
theorem Tg:type_of% @Nat.blt_eq:=@Nat.blt_eq
theorem Th:type_of% @Nat.sub_self:=@Nat.sub_self
theorem Ti:type_of% @List.map_congr_left:=@List.map_congr_left
theorem Tj:type_of% @List.mem_cons_of_mem:=@List.mem_cons_of_mem
theorem Tk:type_of% @List.mem_filter:=@List.mem_filter
theorem Tl:type_of% @List.mem_iff_getElem:=@List.mem_iff_getElem
theorem Tm:type_of% @List.filter_cons_of_pos:=@List.filter_cons_of_pos
theorem Tn:type_of% @Classical.byContradiction:=@Classical.byContradiction
theorem To:type_of% @Ne.symm:=@Ne.symm
theorem Tp:type_of% @Nat.eq_of_beq_eq_true:=@Nat.eq_of_beq_eq_true
theorem Tq:type_of% @Nat.one_mul:=@Nat.one_mul
theorem Ts:type_of% @List.mem_cons_self:=@List.mem_cons_self
theorem Tt:type_of% @Int.natCast_mul:=@Int.natCast_mul
theorem Tu:type_of% @List.getElem?_set_self:=@List.getElem?_set_self
theorem Tv:type_of% @List.mem_of_mem_drop:=@List.mem_of_mem_drop
theorem Tw:type_of% @List.range_succ:=@List.range_succ
theorem Tx:type_of% @decide_eq_true:=@decide_eq_true
theorem Ty:type_of% @List.getElem?_set_ne:=@List.getElem?_set_ne
theorem Tz:type_of% @Bool.eq_iff_iff:=@Bool.eq_iff_iff
theorem TA:type_of% @List.map_append:=@List.map_append
theorem TB:type_of% @Array.getElem?_eq_some_iff:=@Array.getElem?_eq_some_iff
theorem TC:type_of% @Bool.false_eq_true:=@Bool.false_eq_true
theorem TD:type_of% @Nat.mod_lt:=@Nat.mod_lt
theorem TE:type_of% @List.set_append_right:=@List.set_append_right
theorem TF:type_of% @List.getElem?_cons_succ:=@List.getElem?_cons_succ
theorem TG:type_of% @List.pairwise_iff_getElem:=@List.pairwise_iff_getElem
theorem TH:type_of% @List.flatMap_nil:=@List.flatMap_nil
theorem TJ:type_of% @Nat.le_max_left:=@Nat.le_max_left
theorem TK:type_of% @Nat.mod_eq_of_lt:=@Nat.mod_eq_of_lt
theorem TL:type_of% @Array.getElem?_eq_none:=@Array.getElem?_eq_none
theorem TM:type_of% @Bool.eq_false_iff:=@Bool.eq_false_iff
theorem TN:type_of% @Int.ofNat_eq_natCast:=@Int.ofNat_eq_natCast
theorem TO:type_of% @List.drop_drop:=@List.drop_drop
theorem TP:type_of% @List.map_nil:=@List.map_nil
theorem TQ:type_of% @List.map_set:=@List.map_set
theorem TS:type_of% @List.mem_append_left:=@List.mem_append_left
theorem TT:type_of% @List.take_succ_eq_append_getElem:=@List.take_succ_eq_append_getElem
theorem TU:type_of% @List.mem_append_right:=@List.mem_append_right
theorem TV:type_of% @Nat.add_zero:=@Nat.add_zero
theorem TW:type_of% @Nat.lt_or_ge:=@Nat.lt_or_ge
theorem TX:type_of% @Array.getElem?_setIfInBounds:=@Array.getElem?_setIfInBounds
theorem TY:type_of% @Option.map_some:=@Option.map_some
theorem TZ:type_of% @Nat.add_assoc:=@Nat.add_assoc
theorem T0:type_of% @List.getElem?_eq_none:=@List.getElem?_eq_none
theorem T2:type_of% @List.length_singleton:=@List.length_singleton
theorem T3:type_of% @Array.getElem?_setIfInBounds_ne:=@Array.getElem?_setIfInBounds_ne
theorem T4:type_of% @Array.getElem?_append_left:=@Array.getElem?_append_left
theorem T5:type_of% @List.filter_append:=@List.filter_append
theorem T6:type_of% @List.getD_eq_getElem?_getD:=@List.getD_eq_getElem?_getD
theorem T7:type_of% @List.foldl_cons:=@List.foldl_cons
theorem T8:type_of% @List.length_nil:=@List.length_nil
theorem T9:type_of% @Nat.div_le_self:=@Nat.div_le_self
theorem T_:type_of% @Nat.min_eq_left:=@Nat.min_eq_left
theorem Ua:type_of% @Nat.testBit_and:=@Nat.testBit_and
theorem Ub:type_of% @Bool.not_eq_true:=@Bool.not_eq_true
theorem Uc:type_of% @Nat.add_comm:=@Nat.add_comm
theorem Ud:type_of% @Nat.le_max_right:=@Nat.le_max_right
theorem Ue:type_of% @List.replicate_succ:=@List.replicate_succ
theorem Uf:type_of% @List.filter_congr:=@List.filter_congr
theorem Ug:type_of% @List.flatten_cons:=@List.flatten_cons
theorem Uh:type_of% @Nat.add_mul_div_right:=@Nat.add_mul_div_right
theorem Ui:type_of% @or_false:=@or_false
theorem Uj:type_of% @Nat.mul_comm:=@Nat.mul_comm
theorem Uk:type_of% @List.set_cons_zero:=@List.set_cons_zero
theorem Um:type_of% @Option.bind_some:=@Option.bind_some
theorem Un:type_of% @Option.getD_none:=@Option.getD_none
theorem Uq:type_of% @Int.mul_assoc:=@Int.mul_assoc
theorem Ur:type_of% @List.ext_getElem?:=@List.ext_getElem?
theorem Us:type_of% @Nat.add_mul_mod_self_right:=@Nat.add_mul_mod_self_right
theorem Ut:type_of% @Nat.or_lt_two_pow:=@Nat.or_lt_two_pow
theorem Uu:type_of% @Nat.sub_zero:=@Nat.sub_zero
theorem Uv:type_of% @List.getElem?_take:=@List.getElem?_take
theorem Uw:type_of% @List.zip_cons_cons:=@List.zip_cons_cons
theorem Ux:type_of% @Nat.div_eq_of_lt:=@Nat.div_eq_of_lt
theorem Uy:type_of% @Nat.lt_of_le_of_lt:=@Nat.lt_of_le_of_lt
theorem Uz:type_of% @List.drop_zero:=@List.drop_zero
theorem UA:type_of% @List.getElem?_append:=@List.getElem?_append
theorem UB:type_of% @List.length_eq_zero_iff:=@List.length_eq_zero_iff
theorem UC:type_of% @List.take_add_one:=@List.take_add_one
theorem UD:type_of% @List.length_set:=@List.length_set
theorem UE:type_of% @List.filter_eq_nil_iff:=@List.filter_eq_nil_iff
theorem UF:type_of% @Nat.ne_of_beq_eq_false:=@Nat.ne_of_beq_eq_false
theorem UG:type_of% @List.sum_cons:=@List.sum_cons
theorem UH:type_of% @List.mem_flatMap:=@List.mem_flatMap
theorem UI:type_of% @Int.mul_nonneg:=@Int.mul_nonneg
theorem UJ:type_of% @Int.natCast_nonneg:=@Int.natCast_nonneg
theorem UK:type_of% @List.mem_replicate:=@List.mem_replicate
theorem UL:type_of% @List.pairwise_cons:=@List.pairwise_cons
theorem UM:type_of% @List.contains_iff_mem:=@List.contains_iff_mem
theorem UN:type_of% @List.head?_cons:=@List.head?_cons
theorem UO:type_of% @Nat.div_add_mod:=@Nat.div_add_mod
theorem UP:type_of% @List.foldl_append:=@List.foldl_append
theorem UQ:type_of% @Bool.and_self:=@Bool.and_self
theorem UR:type_of% @List.append_cancel_right:=@List.append_cancel_right
theorem US:type_of% @Array.getElem?_push:=@Array.getElem?_push
theorem UT:type_of% @List.filter_eq_self:=@List.filter_eq_self
theorem UU:type_of% @List.getElem?_range:=@List.getElem?_range
theorem UV:type_of% @Bool.not_false:=@Bool.not_false
theorem UW:type_of% @List.getElem?_replicate:=@List.getElem?_replicate
theorem UX:type_of% @List.getElem_map:=@List.getElem_map
theorem UY:type_of% @List.head?_nil:=@List.head?_nil
theorem UZ:type_of% @List.length_drop:=@List.length_drop
theorem U0:type_of% @decide_eq_false_iff_not:=@decide_eq_false_iff_not
theorem U1:type_of% @Array.ext_getElem?:=@Array.ext_getElem?
theorem U2:type_of% @Bool.true_or:=@Bool.true_or
theorem U3:type_of% @List.drop_of_length_le:=@List.drop_of_length_le
theorem U4:type_of% @List.set_cons_succ:=@List.set_cons_succ
theorem U5:type_of% @Nat.add_sub_cancel:=@Nat.add_sub_cancel
theorem U6:type_of% @Int.natCast_add:=@Int.natCast_add
theorem U7:type_of% @List.nodup_cons:=@List.nodup_cons
theorem U8:type_of% @Nat.mul_assoc:=@Nat.mul_assoc
theorem U9:type_of% @Array.getElem?_modify:=@Array.getElem?_modify
theorem U_:type_of% @Array.getElem?_toList:=@Array.getElem?_toList
theorem Va:type_of% @List.length_filter_le:=@List.length_filter_le
theorem Vb:type_of% @List.length_replicate:=@List.length_replicate
theorem Vc:type_of% @List.singleton_append:=@List.singleton_append
theorem Vd:type_of% @Int.emod_eq_of_lt:=@Int.emod_eq_of_lt
theorem Ve:type_of% @Bool.or_eq_false_iff:=@Bool.or_eq_false_iff
theorem Vf:type_of% @Int.add_mul:=@Int.add_mul
theorem Vg:type_of% @Nat.pow_le_pow_right:=@Nat.pow_le_pow_right
theorem Vh:type_of% @Int.mul_comm:=@Int.mul_comm
theorem Vi:type_of% @List.any_eq_true:=@List.any_eq_true
theorem Vj:type_of% @List.ext_getElem:=@List.ext_getElem
theorem Vk:type_of% @List.nodup_range:=@List.nodup_range
theorem Vl:type_of% @Nat.lt_succ_self:=@Nat.lt_succ_self
theorem Vm:type_of% @Nat.zero_mul:=@Nat.zero_mul
theorem Vn:type_of% @Int.toNat_of_nonneg:=@Int.toNat_of_nonneg
theorem Vo:type_of% @List.drop_succ_cons:=@List.drop_succ_cons
theorem Vp:type_of% @List.take_succ_cons:=@List.take_succ_cons
theorem Vq:type_of% @Nat.mul_le_mul_left:=@Nat.mul_le_mul_left
theorem Vr:type_of% @Bool.false_ne_true:=@Bool.false_ne_true
theorem Vt:type_of% @Int.emod_lt_of_pos:=@Int.emod_lt_of_pos
theorem Vu:type_of% @List.filter_filter:=@List.filter_filter
theorem Vv:type_of% @Nat.and_lt_two_pow:=@Nat.and_lt_two_pow
theorem Vw:type_of% @Nat.xor_lt_two_pow:=@Nat.xor_lt_two_pow
theorem Vx:type_of% @Bool.or_true:=@Bool.or_true
theorem Vy:type_of% @Int.mul_le_mul:=@Int.mul_le_mul
theorem Vz:type_of% @List.take_zero:=@List.take_zero
theorem VA:type_of% @Nat.mul_le_mul:=@Nat.mul_le_mul
theorem VB:type_of% @Nat.max_le:=@Nat.max_le
theorem VC:type_of% @Bool.and_true:=@Bool.and_true
theorem VD:type_of% @Int.le_refl:=@Int.le_refl
theorem VE:type_of% @Nat.mul_one:=@Nat.mul_one
theorem VF:type_of% @Array.ext':=@Array.ext'
end Hx
end
section
namespace Hx
open Go
noncomputable section
inductive AV where
 |bool (b:Bool)
 |int (k:IntKind) (n:Int)
 |str (s:ByteArray)
 |tup (vs:List AV)
 |agg (cs:List AV)
 |nilp|nils|nilf|nilm|nili
 |esl
 |tsl (tag:Nat) (sz:Nat) (rows:List (List AV))
 |tptr (tag:Nat) (sz:Nat) (rows:List (List AV)) (i off:Nat)
 |hsl (id ep off len:Nat) (lim:Option Nat)
 |hptr (id ep i off:Nat)
 |clo (f:Nat) (first cap:List AV)
 |hmap (id:Nat)
 |ifc (t:Nat) (v:AV)
 |yld (id:Nat)
 deriving Inhabited
abbrev AV.undef:AV:=.tup []
def AV.cells:AV->List AV
 |.agg cs=>cs
 |v=>[v]
def AV.one:AV->Bool
 |.tup _|.agg _=>false
 |_=>true
def AV.isTup:AV->Bool
 |.tup _=>true
 |_=>false
structure Stg (α:Type) where
 run:α
abbrev aB {α:Type}(b:Bool)(x y:α):α:=@Bool.rec (λ_=>α) y x b
def j3(b:Bool):Bool:=@Bool.rec (λ_=>Bool) true false b
inductive Tr (α:Type) where
 |nil
 |node (v:α) (l r:Tr α)
def Tr.get{α:Type}(e:α):Tr α->Nat->α
 |.nil,_=>e
 |.node v _ _,0=>v
 |.node _ l r,m+1=>aB (Nat.beq (m % 2) 0) (Tr.get e l (m / 2)) (Tr.get e r (m / 2))
def gpF{α:Type}(e:α):Nat->Nat->Stg (Tr α->α)
 |0,_=>⟨λ_=>e⟩
 |_+1,0=>⟨λt=>@Tr.rec α (λ_=>α) e (λv _ _ _ _=>v) t⟩
 | f+1,m+1=>aB (Nat.beq (m % 2) 0)
   ⟨λt=>@Tr.rec α (λ_=>α) e (λ_ l _ _ _=>(gpF e f (m / 2)).run l) t⟩
   ⟨λt=>@Tr.rec α (λ_=>α) e (λ_ _ r _ _=>(gpF e f (m / 2)).run r) t⟩
def gp{α:Type}(e:α)(n:Nat):Stg (Tr α->α):=gpF e (n+1) n
def spF{α:Type}(e:α):Nat->Nat->Stg (Tr α->α->Tr α)
 |0,_=>⟨λt _=>t⟩
 |_+1,0=>⟨λt x=>@Tr.rec α (λ_=>Tr α) (.node x .nil .nil) (λ_ l r _ _=>.node x l r) t⟩
 | f+1,m+1=>aB (Nat.beq (m % 2) 0)
   ⟨λt x=>@Tr.rec α (λ_=>Tr α) (.node e ((spF e f (m / 2)).run .nil x) .nil) (λv l r _ _=>.node v ((spF e f (m / 2)).run l x) r) t⟩
   ⟨λt x=>@Tr.rec α (λ_=>Tr α) (.node e .nil ((spF e f (m / 2)).run .nil x)) (λv l r _ _=>.node v l ((spF e f (m / 2)).run r x)) t⟩
def sp{α:Type}(e:α)(n:Nat):Stg (Tr α->α->Tr α):=spF e (n+1) n
def Tr.put{α:Type}(e:α)(t:Tr α)(n:Nat)(x:α):Tr α:=(sp e n).run t x
def zY{α:Type}(n:Nat):List α->Option α :=
 @Nat.rec (λ_=>List α->Option α) (λl=>@List.rec α (λ_=>Option α) none (λa _ _=>some a) l)
  (λ_ ih l=>@List.rec α (λ_=>Option α) none (λ_ t _=>ih t) l) n
def GG{α:Type}(n:Nat)(x:α):List α->List α :=
 @Nat.rec (λ_=>List α->List α) (λl=>@List.rec α (λ_=>List α) [] (λ_ t _=>x::t) l)
  (λ_ ih l=>@List.rec α (λ_=>List α) [] (λa t _=>a::ih t) l) n
def bz{α:Type}(l:List α):Nat:=@List.rec α (λ_=>Nat) 0 (λ_ _ n=>Nat.succ n) l
def jz{α:Type}(n:Nat):List α->List α :=
 @Nat.rec (λ_=>List α->List α) (λl=>l) (λ_ ih l=>@List.rec α (λ_=>List α) [] (λ_ t _=>ih t) l) n
def kg{α:Type}(n:Nat):List α->List α :=
 @Nat.rec (λ_=>List α->List α) (λ_=>[]) (λ_ ih l=>@List.rec α (λ_=>List α) [] (λa t _=>a::ih t) l) n
inductive AObj where
 |none
 |cells (sz:Nat) (rows:List (List AV)) (ep:Nat) (loose fz:Bool)
 |map (es:List (AV×AV))
 |loop (nt:Nat) (t:Tr AV) (ps:List Nat) (assign body:Code) (dfr:Nat) (st:LoopState) (pend:Option Code)
 |dfr (live:Bool)
@[match_pattern,reducible] def VG (k:Nat)(r:List (List AV)):AObj:=.cells k r 0 false false
abbrev T:=Tr AV
abbrev H:=Tr AObj
def H.get(h:H)(i:Nat):AObj:=(gp AObj.none i).run h
def H.put(h:H)(i:Nat)(o:AObj):H:=(sp AObj.none i).run h o
structure G where
 h:H
 nx:Nat
 lg:List Nat
def G.empty:G:=⟨.nil,0,[]⟩
def G.put(g:G)(id:Nat)(o:AObj):G:=@G.rec (λ_=>G) (λh nx lg=>⟨h.put id o,nx,id::lg⟩) g
def G.new(g:G)(o:AObj):G:=@G.rec (λ_=>G) (λh nx lg=>⟨h.put nx o,Nat.succ nx,nx::lg⟩) g
def G.get(g:G)(i:Nat):AObj:=H.get g.h i
inductive ADf where
 |call (f:AV) (args:List AV)
 |mark (id:Nat)
inductive Ex where
 |norm
 |exit (id:Nat)
 |ret
inductive CR where
 |fail
 |ok (e:Ex) (t:T) (df:List ADf) (g:G)
inductive FR where
 |fail
 |ok (v:AV) (g:G)
inductive OR where
 |fail
 |val (v:AV)
 |upd (v:AV) (g:G)
 |dfr (a:ADf)
structure IH where
 code:Nat->Nat->Option Nat->Code->T->List ADf->G->CR
 call:Nat->Nat->List AV->G->FR
structure Cfg where
 P:Program
 iso:Nat->Bool
 ext:Nat->Option (Nat->List AV->G->OR)
 glob:Nat->Option (Nat×List (List AV))
abbrev Kg:=IH->Nat->Option Nat->T->G->OR
section types
variable (P:Program)
def szT(t:TypeId):Option Nat:=(P.info? t).map (·.size)
def kh(t:TypeId):Option Nat:=(P.info? t).map (·.bytes)
def rL(t:TypeId):Option Bool :=
 match P.underlying t with
 |some (.struct _)|some (.array _ _)=>some true
 |some _=>some false
 |none=>none
def ofV:Value->Option AV
 |.bool b=>some (.bool b)
 |.int k n=>some (.int k n)
 |.string s=>some (.str s)
 |.pointer none=>some .nilp
 |.slice none 0 0=>some .nils
 |.map none=>some .nilm
 |.nilFunc=>some .nilf
 |.nilIface=>some .nili
 |_=>none
def yj:List Value->Option (List AV)
 |[]=>some []
 | v::vs=>match ofV v,yj vs with
  |some a,some as=>some (a::as)
  |_,_=>none
def gK(t:TypeId):Option (List AV):=(P.info? t).bind λi=>i.zero.bind λv=>yj v.cells.toList
def ur(t:TypeId):Option AV:=(P.info? t).bind λi=>i.zero.bind λv=>match v with
 |.agg cs=>(yj cs.toList).map .agg
 |v=>ofV v
def l6(t:TypeId):Option TypeId:=match P.underlying t with|some (.slice e)=>some e|_=>none
def s_(t:TypeId)(f:Nat):Option (Nat×TypeId) :=
 match P.underlying t with
 |some (.struct fs)=>match fs[f]? with|some x=>some (x.offset,x.type)|none=>none
 |_=>none
end types
def aJ{α β:Type}(f:α->Option β):List α->Option (List β)
 |[]=>some []
 | v::vs=>match f v with
  | some a=>match aJ f vs with
   |some as=>some (a::as)
   |none=>none
  |none=>none
def aT(C:Cfg):Operand->Option (Stg (T->AV))
 |.tmp n=>some (gp AV.undef n)
 |.const v=>match ofV v with|some a=>some ⟨λ_=>a⟩|none=>none
 |.global g=>match C.glob g with|some (sz,rows)=>some ⟨λ_=>.tptr 0 sz rows 0 0⟩|none=>none
 |.func f=>some ⟨λ_=>.clo f [] []⟩
def bV(C:Cfg):List Operand->Option (Stg (T->List AV))
 |[]=>some ⟨λ_=>[]⟩
 | x::xs=>match aT C x,bV C xs with
  |some a,some as=>some ⟨λt=>a.run t::as.run t⟩
  |_,_=>none
def tz(k:IntKind)(n:Int):Int :=
 match k,n with
 |.i64,.ofNat m=>aB (Nat.blt m 9223372036854775808) (.ofNat m) (IntKind.wrap .i64 (.ofNat m))
 |.i64,.negSucc m=>aB (Nat.blt m 9223372036854775808) (.negSucc m) (IntKind.wrap .i64 (.negSucc m))
 |.u64,.ofNat m=>.ofNat (m % 18446744073709551616)
 |.u8,.ofNat m=>.ofNat (m % 256)
 |k,n=>IntKind.wrap k n
def ye:Int->Int->Bool
 |.ofNat m,.ofNat n=>Nat.blt m n
 |.ofNat _,.negSucc _=>false
 |.negSucc _,.ofNat _=>true
 |.negSucc m,.negSucc n=>Nat.blt n m
def D_:Int->Int->Bool
 |.ofNat m,.ofNat n=>Nat.beq m n
 |.ofNat _,.negSucc _=>false
 |.negSucc _,.ofNat _=>false
 |.negSucc m,.negSucc n=>Nat.beq m n
def qi:Sem Value->Option AV
 |.pure (.int k n)=>some (.int k n)
 |.pure (.bool b)=>some (.bool b)
 |_=>none
def OJ(k:IntKind):Int->Int->Option AV
 |.ofNat m,.ofNat (n+1)=>some (.int k (tz k (.ofNat (m / (n+1)))))
 |a,b=>qi (Op.intDiv .quo k a b)
def ON(k:IntKind):Int->Int->Option AV
 |.ofNat m,.ofNat (n+1)=>some (.int k (.ofNat (m % (n+1))))
 |a,b=>qi (Op.intDiv .rem k a b)
def mB(k:IntKind)(m n:Nat):Bool :=
 match k with
 |.u64=>Nat.blt m 18446744073709551616&&Nat.blt n 18446744073709551616
 |.i64=>Nat.blt m 9223372036854775808&&Nat.blt n 9223372036854775808
 |_=>false
def Ph(op:BinOp)(k:IntKind):Int->Int->Option AV
 | .ofNat m,.ofNat n=>aB (mB k m n)
   (match op with
    |.and=>some (.int k (.ofNat (Nat.land m n)))
    |.or=>some (.int k (.ofNat (Nat.lor m n)))
    |.xor=>some (.int k (.ofNat (Nat.xor m n)))
    |.andNot=>some (.int k (.ofNat (Nat.xor m (Nat.land m n))))
    |_=>none)
   (qi (Op.intBits op k (.ofNat m) (.ofNat n)))
 |a,b=>qi (Op.intBits op k a b)
def MW(k:IntKind):Int->Int->Option AV
 |.ofNat m,.ofNat n=>some (.int k (tz k (.ofNat (m*2 ^ (Nat.min n k.bits)))))
 |a,b=>qi (Op.shift .shl k a k b)
def MX(k:IntKind):Int->Int->Option AV
 |.ofNat m,.ofNat n=>some (.int k (.ofNat (m / 2 ^ (Nat.min n k.bits))))
 |a,b=>qi (Op.shift .shr k a k b)
def cV:IntKind->IntKind->Bool
 |.i64,.i64=>true
 |.u64,.u64=>true
 |a,b=>decide (a=b)
def gD:BinOp->Stg (IntKind->Int->IntKind->Int->Option AV)
 |.add=>⟨λk a k' b=>aB (cV k k') (some (.int k (tz k (a+b)))) none⟩
 |.sub=>⟨λk a k' b=>aB (cV k k') (some (.int k (tz k (a - b)))) none⟩
 |.mul=>⟨λk a k' b=>aB (cV k k') (some (.int k (tz k (a*b)))) none⟩
 |.quo=>⟨λk a k' b=>aB (cV k k') (OJ k a b) none⟩
 |.rem=>⟨λk a k' b=>aB (cV k k') (ON k a b) none⟩
 |.eql=>⟨λk a k' b=>aB (cV k k') (some (.bool (D_ a b))) none⟩
 |.neq=>⟨λk a k' b=>aB (cV k k') (some (.bool (j3 (D_ a b)))) none⟩
 |.lss=>⟨λk a k' b=>aB (cV k k') (some (.bool (ye a b))) none⟩
 |.leq=>⟨λk a k' b=>aB (cV k k') (some (.bool (j3 (ye b a)))) none⟩
 |.gtr=>⟨λk a k' b=>aB (cV k k') (some (.bool (ye b a))) none⟩
 |.geq=>⟨λk a k' b=>aB (cV k k') (some (.bool (j3 (ye a b)))) none⟩
 |.shl=>⟨λk a _ b=>MW k a b⟩
 |.shr=>⟨λk a _ b=>MX k a b⟩
 |op=>⟨λk a k' b=>aB (cV k k') (Ph op k a b) none⟩
def nj:TypeDesc->Bool
 |.bool|.int _|.string=>true
 |_=>false
def uG(P:Program)(rec:TypeId->Option (List TypeDesc)):List Field->Nat->Option (List TypeDesc)
 |[],_=>some []
 | f::fs,k=>match rec f.type with
  | some ds=>match uG P rec fs (k+ds.length) with
   | some r => aB ((f.name != "_") && Nat.beq f.offset k && (szT P f.type == some ds.length)) (some (ds ++ r)) none
   |none=>none
  |none=>none
def nk(P:Program):Nat->TypeId->Option (List TypeDesc)
 |0,_=>none
 | d+1,t=>match P.underlying t with
  |some (.struct fs)=>aB (P.stoodInHeld t) none (uG P (nk P d) fs.toList 0)
  | some (.array n e)=>match nk P d e with
   |some ds=>aB (szT P e == some ds.length) (some (List.replicate n ds).flatten) none
   |none=>none
  |some d=>aB (nj d) (some [d]) none
  |none=>none
def kZ(P:Program)(t:TypeId):Option (List TypeDesc) :=
 aB (P.eqGuardType P.depth t) none (nk P 8 t)
def pu:TypeDesc->AV->Bool
 |.bool,.bool _=>true
 |.int k,.int k' _=>cV k k'
 |.string,.str _=>true
 |_,_=>false
def dU:List TypeDesc->List AV->Bool
 |[],[]=>true
 |d::ds,v::vs=>aB (pu d v) (dU ds vs) false
 |_,_=>false
def mP:AV->AV->Option Bool
 |.int k a,.int k' b=>aB (cV k k') (some (D_ a b)) none
 |.bool a,.bool b=>some (aB a b (j3 b))
 |.str a,.str b=>some (decide (a=b))
 |_,_=>none
def dg:List AV->List AV->Option Bool
 |[],[]=>some true
 | a::as,b::bs=>match mP a b,dg as bs with
  |some x,some y=>some (aB x y false)
  |_,_=>none
 |_,_=>none
inductive EqKind where
 |flat (ds:List TypeDesc)|slice|func|bool|iface (empty:Bool)|other
def qx(P:Program)(t:TypeId):EqKind :=
 match P.underlying t with
 |some (.slice _)=>.slice
 |some (.func _ _ _)=>.func
 |some .bool=>.bool
 |some (.interface ms)=>.iface ms.isEmpty
 |some (.struct _)|some (.array _ _)=>match kZ P t with|some ds=>.flat ds|none=>.other
 |_=>.other
def eqA(k:EqKind)(x y:AV):Option Bool :=
 match k with
 | .flat ds=>match x,y with
  |.agg xs,.agg ys=>aB (dU ds xs&&dU ds ys) (dg xs ys) none
  |_,_=>none
 | .slice=>match x,y with
  |.nils,.nils=>some true
  |.nils,.tsl ..|.nils,.hsl ..|.nils,.esl|.tsl ..,.nils|.hsl ..,.nils|.esl,.nils=>some false
  |_,_=>none
 | .func=>match x,y with
  |.nilf,.nilf=>some true
  |.nilf,.clo ..|.clo ..,.nilf|.nilf,.yld _|.yld _,.nilf=>some false
  |_,_=>none
 | .bool=>match x,y with
  |.bool a,.bool b=>some (aB a b (j3 b))
  |_,_=>none
 | .iface e=>match x,y with
  |.nili,.nili=>aB e (some true) none
  |.nili,.ifc ..|.ifc ..,.nili=>some false
  |_,_=>none
 |.other=>none
def orV:Option AV->OR
 |some v=>.val v
 |none=>.fail
def yR(P:Program)(op:BinOp)(t:TypeId):Stg (AV->AV->OR) :=
 match op with
 | .eql=>match qx P t with
  |.other=>⟨λx y=>match x,y with|.int k a,.int k' b=>orV ((gD .eql).run k a k' b)|_,_=>.fail⟩
  |ek=>⟨λx y=>match eqA ek x y with|some b=>.val (.bool b)|none=>.fail⟩
 | .neq=>match qx P t with
  |.other=>⟨λx y=>match x,y with|.int k a,.int k' b=>orV ((gD .neq).run k a k' b)|_,_=>.fail⟩
  |ek=>⟨λx y=>match eqA ek x y with|some b=>.val (.bool (j3 b))|none=>.fail⟩
 |op=>⟨λx y=>match x,y with|.int k a,.int k' b=>orV ((gD op).run k a k' b)|_,_=>.fail⟩
def unA(op:UnOp):Stg (AV->OR) :=
 match op with
 |.not=>⟨λx=>match x with|.bool b=>.val (.bool (j3 b))|_=>.fail⟩
 |op=>⟨λx=>match x with|.int k n=>orV (qi (Op.unary op (.int k n)))|_=>.fail⟩
def bT(agg:Bool)(n:Nat)(row:List AV)(off:Nat):Option AV :=
 aB agg (let cs:=kg n (jz off row);aB (Nat.beq (bz cs) n) (some (.agg cs)) none) (zY off row)
def bw(row:List AV)(off:Nat)(cs:List AV):Option (List AV) :=
 aB (Nat.ble (off+bz cs) (bz row))
  (some (match cs with
   |[c]=>GG off c row
   |cs=>kg off row++(cs++jz (off+bz cs) row)))
  none
def dP(lim:Nat):AV->Option Nat
 |.int _ (.ofNat n)=>aB (Nat.ble n lim) (some n) none
 |_=>none
def bo(dflt lim:Nat):Option AV->Option Nat
 |none=>some dflt
 |some v=>dP lim v
def jt(n:Nat)(row:List AV):List (List AV):=List.replicate n row
def eH:List AV->List ((Nat×Nat)×AV)->Option (List AV)
 |cells,[]=>some cells
 | cells,((off,size),v)::rest =>
  aB (Nat.beq (bz v.cells) size&&j3 v.isTup) (match bw cells off v.cells with|some cs=>eH cs rest|none=>none) none
def iG(sz:Nat):List (List AV)->List (Nat×AV)->Option (List (List AV))
 |rows,[]=>some rows
 |rows,(i,v)::rest=>aB (Nat.beq (bz v.cells) sz&&Nat.blt i (bz rows)&&j3 v.isTup) (iG sz (GG i v.cells rows) rest) none
def ak(h:H)(sz:Nat):AV->Option (List (List AV))
 |.nils=>some []
 |.esl=>some []
 |.tsl _ sz' rows=>aB (Nat.beq sz sz' || rows.isEmpty) (some rows) none
 | .hsl id ep off len _=>match h.get id with
  |.cells sz' rows ep' _ _=>aB (Nat.beq ep ep'&&Nat.beq sz sz'&&Nat.ble (off+len) (bz rows)) (some (kg len (jz off rows))) none
  |_=>none
 |_=>none
def my(rows:List (List AV))(off:Nat)(new:List (List AV)):List (List AV) :=
 match new with
 |[r]=>GG off r rows
 |new=>kg off rows++(new++jz (off+bz new) rows)
def aY:Nat:=1099511627776
def bf(sz bytes:Nat)(s:AV)(new:List (List AV))(g:G):OR :=
  match s with
  | .nils| .esl=>match new with
   |[]=>.val s
   |_=>aB (Nat.ble (bz new*bytes) aY) (.upd (.hsl g.nx 0 0 (bz new) none) (g.new (.cells sz new 0 true false))) .fail
  | .tsl ..=>match new with
   |[]=>.val s
   |_=>.fail
  | .hsl id ep off len lim=>match g.get id with
   | .cells sz' rows ep' loose fz =>
    aB (Nat.beq ep ep'&&Nat.beq sz sz'&&Nat.ble (off+len) (bz rows)&&Nat.ble ((len+bz new)*bytes) aY)
     (aB (Nat.ble (len+bz new) (lim.getD (bz rows - off)))
       (match new with
        |[]=>.val s
        | _=>aB (Nat.ble (off+len+bz new) (bz rows)&&j3 fz)
         (.upd (.hsl id ep off (len+bz new) lim) (g.put id (.cells sz (my rows (off+len) new) ep loose fz))) .fail)
       (aB (lim.isSome || j3 loose)
        (.upd (.hsl g.nx 0 0 (len+bz new) none) (g.new (.cells sz (kg len (jz off rows)++new) 0 true false)))
        (aB fz .fail (.upd (.hsl id (Nat.succ ep) 0 (len+bz new) none) (g.put id (.cells sz (kg len (jz off rows)++new) (Nat.succ ep) true false))))))
     .fail
   |_=>.fail
  |_=>.fail
def dC(sz bytes:Nat)(s x:AV)(g:G):OR :=
 match ak g.h sz x with
 |none=>.fail
 |some new=>bf sz bytes s new g
def u9(sz bytes:Nat)(zero:List AV)(s x:AV)(g:G):OR :=
 match dP aY x with
 |none=>.fail
 |some n=>aB (Nat.ble (n*bytes) aY) (bf sz bytes s (jt n zero) g) .fail
def Bg(sz:Nat)(d x:AV)(g:G):OR :=
 match ak g.h sz x with
 |none=>.fail
 | some src=>match d with
  |.nils|.esl=>.val (.int .i64 0)
  |.tsl _ _ rows=>aB (rows.isEmpty || src.isEmpty) (.val (.int .i64 0)) .fail
  | .hsl id ep off len _=>match g.get id with
   | .cells sz' rows ep' loose fz =>
    aB (Nat.beq ep ep'&&Nat.beq sz sz'&&Nat.ble (off+len) (bz rows)&&j3 fz)
     (.upd (.int .i64 (Nat.min (bz src) len)) (g.put id (.cells sz (my rows off (kg (Nat.min (bz src) len) src)) ep loose fz))) .fail
   |_=>.fail
  |_=>.fail
def nM(sz:Nat)(x:AV)(lo hi mx:Option AV)(h:H):Option AV :=
 match x with
 | .nils=>match bo 0 0 lo,bo 0 0 hi,bo 0 0 mx with
  |some _,some _,some _=>some .nils
  |_,_,_=>none
 | .esl=>match bo 0 0 lo,bo 0 0 hi,bo 0 0 mx with
  |some _,some _,some _=>some .esl
  |_,_,_=>none
 | .tsl tag sz' rows=>match mx with
  | none=>match bo (bz rows) (bz rows) hi with
   |none=>none
   | some h=>match bo 0 h lo with
    |none=>none
    |some l=>aB (Nat.beq sz sz') (some (.tsl tag sz (kg (h - l) (jz l rows)))) none
  | some m=>match dP 0 m,bo 0 0 hi,bo 0 0 lo with
   |some _,some _,some _=>some .esl
   |_,_,_=>none
 | .hsl id ep off len lim=>match h.get id with
  | .cells sz' rows ep' loose _ =>
   aB (Nat.beq ep ep'&&Nat.beq sz sz'&&Nat.ble (off+len) (bz rows))
    (match bo (lim.getD (bz rows - off)) (lim.getD (bz rows - off)) mx with
     |none=>none
     | some m=>match bo len m hi with
      |none=>none
      | some h=>match bo 0 h lo with
       |none=>none
       | some l =>
        aB (Nat.beq m l)
         (aB (mx.isSome || lim.isSome || j3 loose) (some .esl) (some (.tsl 0 sz [])))
         (some (.hsl id ep (off+l) (h - l) (match mx with|some _=>some (m - l)|none=>lim.map (· - l))))) none
  |_=>none
 |_=>none
def oy(k k':AV):Option Bool :=
 match k with
 |.agg xs=>match k' with|.agg ys=>dg xs ys|_=>none
 |x=>match k' with|.agg _=>none|y=>mP x y
def mg(k:AV):List (AV×AV)->Option (Option AV)
 |[]=>some none
 | (k',v)::es=>match oy k k' with
  |some true=>some (some v)
  |some false=>mg k es
  |none=>none
def EY(k v:AV):List (AV×AV)->Option (List (AV×AV))
 |[]=>some [(k,v)]
 | (k',v')::es=>match oy k k' with
  |some true=>some ((k,v)::es)
  |some false=>match EY k v es with|some r=>some ((k',v')::r)|none=>none
  |none=>none
inductive KeyKind where
 |one (d:TypeDesc)|flat (ds:List TypeDesc)|other
def cI(P:Program)(t:TypeId):KeyKind :=
 match P.underlying t with
 |some (.struct _)|some (.array _ _)=>match kZ P t with|some ds=>.flat ds|none=>.other
 |some d=>aB (nj d) (.one d) .other
 |none=>.other
def nC:KeyKind->AV->Bool
 |.one d,v=>pu d v
 |.flat ds,.agg vs=>dU ds vs
 |_,_=>false
abbrev SFn:=T->G->OR
def nD(ag:Bool)(n:Nat)(a:T->AV):SFn:=λt g =>
 match a t with
 | .tptr _ _ rows i off=>match zY i rows with
  |some row=>orV (bT ag n row off)
  |none=>.fail
 | .hptr id ep i off=>match g.get id with
  | .cells _ rows ep' _ _=>aB (Nat.beq ep ep') (match zY i rows with
   |some row=>orV (bT ag n row off)
   |none=>.fail) .fail
  |_=>.fail
 |_=>.fail
def pB(n:Nat)(a x:T->AV):SFn:=λt g =>
 match a t with
 | .hptr id ep i off=>match g.get id with
  | .cells sz rows ep' loose fz=>aB (Nat.beq ep ep'&&Nat.beq (bz (x t).cells) n&&j3 fz&&j3 (x t).isTup) (match zY i rows with
   | some row=>match bw row off (x t).cells with
    |some row'=>.upd .undef (g.put id (.cells sz (GG i row' rows) ep loose fz))
    |none=>.fail
   |none=>.fail) .fail
  |_=>.fail
 |_=>.fail
def BW(cs:List AV):SFn:=λ_ g=>.upd (.hptr g.nx 0 0 0) (g.new (VG (bz cs) [cs]))
def Kq(a:T->AV):SFn:=λt g=>aB (a t).isTup .fail (.upd (.hptr g.nx 0 0 0) (g.new (VG (bz (a t).cells) [(a t).cells])))
def oP(zero:List AV)(pl:List (Nat×Nat))(vs:T->List AV):SFn:=λt _ =>
 match eH zero (pl.zip (vs t)) with|some cs=>.val (.agg cs)|none=>.fail
def i_(sz len:Nat)(zrows:List (List AV))(is:List Nat)(vs:T->List AV):SFn:=λt g =>
 match iG sz zrows (is.zip (vs t)) with
 |some rows=>.upd (.hsl g.nx 0 0 len none) (g.new (VG sz rows))
 |none=>.fail
def kM(fo:Nat)(a:T->AV):SFn:=λt _ =>
 match a t with
 |.tptr l sz rows i off=>.val (.tptr l sz rows i (off+fo))
 |.hptr id ep i off=>.val (.hptr id ep i (off+fo))
 |_=>.fail
def iH(sz:Nat)(a ix:T->AV):SFn:=λt g =>
 match a t with
 | .tsl l sz' rows=>match ix t with
  |.int _ (.ofNat i)=>aB (Nat.beq sz sz'&&Nat.blt i (bz rows)) (.val (.tptr l sz rows i 0)) .fail
  |_=>.fail
 | .hsl id ep off len _=>match ix t with
  | .int _ (.ofNat i)=>match g.get id with
   |.cells sz' _ ep' _ _=>aB (Nat.beq ep ep'&&Nat.beq sz sz'&&Nat.blt i len) (.val (.hptr id ep (off+i) 0)) .fail
   |_=>.fail
  |_=>.fail
 |_=>.fail
def nz(n sz:Nat)(a ix:T->AV):SFn:=λt _ =>
 match ix t with
 | .int _ (.ofNat i)=>aB (Nat.blt i n) (match a t with
  |.tptr l sz' rows j off=>.val (.tptr l sz' rows j (off+i*sz))
  |.hptr id ep j off=>.val (.hptr id ep j (off+i*sz))
  |_=>.fail) .fail
 |_=>.fail
def uJ(ag:Bool)(n sz:Nat)(a ix:T->AV):SFn:=λt _ =>
 match a t with
 | .agg cs=>match ix t with
  |.int _ (.ofNat i)=>aB (Nat.blt i n) (orV (bT ag sz cs (i*sz))) .fail
  |_=>.fail
 |_=>.fail
def qc(a ix:T->AV):SFn:=λt _ =>
 match a t with
 | .str s=>match ix t with
  | .int _ (.ofNat i)=>match zY i s.data.toList with
   |some b=>.val (.int .u8 (.ofNat b.toNat))
   |none=>.fail
  |_=>.fail
 |_=>.fail
def iX(sz bytes:Nat)(zero:List AV)(l c:T->AV):SFn:=λt g =>
 match dP aY (c t) with
 | some cn=>match dP cn (l t) with
  | some ln=>aB (Nat.ble (cn*bytes) aY)
   (.upd (.hsl g.nx 0 0 ln none) (g.new (VG sz (jt cn zero)))) .fail
  |none=>.fail
 |none=>.fail
def cJ(kk:KeyKind)(zero:AV)(ok:Bool)(m k:T->AV):SFn:=λt g =>
 aB (nC kk (k t))
  (match (match m t with
          |.nilm=>some []
          |.hmap id=>match g.get id with|.map es=>some es|_=>none
          |_=>none) with
   | some es=>match mg (k t) es with
    |some (some v)=>.val (aB ok (.tup [v,.bool true]) v)
    |some none=>.val (aB ok (.tup [zero,.bool false]) zero)
    |none=>.fail
   |none=>.fail) .fail
def cW(kk:KeyKind)(m k x:T->AV):SFn:=λt g =>
 aB (nC kk (k t))
  (match m t with
   | .hmap id=>match g.get id with
    | .map es=>match EY (k t) (x t) es with
     |some es'=>.upd .undef (g.put id (.map es'))
     |none=>.fail
    |_=>.fail
   |_=>.fail) .fail
def jQ(k:AV):Nat->List (AV×AV)->Option (Option (Nat×AV))
 |_,[]=>some none
 | i,(k',v)::es=>match oy k k' with
  |some true=>some (some (i,v))
  |some false=>jQ k (Nat.succ i) es
  |none=>none
def gQ(kk:KeyKind)(zero:AV)(m k:T->AV):SFn:=λt g =>
 aB (nC kk (k t))
  (match m t with
   | .hmap id=>match g.get id with
    | .map es=>match jQ (k t) 0 es with
     |some (some (i,v))=>.val (.tup [v,.int .i64 (.ofNat i)])
     |some none=>.upd (.tup [zero,.int .i64 (.ofNat (bz es))]) (g.put id (.map (es++[(k t,zero)])))
     |none=>.fail
    |_=>.fail
   |_=>.fail) .fail
def jb(m st x:T->AV):SFn:=λt g =>
 match m t with
 | .hmap id=>match g.get id with
  | .map es=>match st t with
   | .int _ (.ofNat i)=>match zY i es with
    |some (k,_)=>.upd .undef (g.put id (.map (GG i (k,x t) es)))
    |none=>.fail
   |_=>.fail
  |_=>.fail
 |_=>.fail
def zb(sz:Nat)(zero:List AV)(x:AV)(g:G):OR :=
 match x with
 |.nils|.esl=>.val .undef
 |.tsl _ _ []=>.val .undef
 | .hsl id ep off len _=>match len with
  |0=>.val .undef
  | _=>match g.get id with
   | .cells sz' rows ep' loose fz =>
    aB (Nat.beq ep ep'&&Nat.beq sz sz'&&Nat.ble (off+len) (bz rows)&&j3 fz)
     (.upd .undef (g.put id (.cells sz (my rows off (jt len zero)) ep loose fz))) .fail
   |_=>.fail
 |_=>.fail
inductive LenKind where
 |slice|array (n:Nat)|map|str|other
def mq(P:Program)(t:TypeId):LenKind :=
 match P.underlying t with
 |some (.slice _)=>.slice
 |some (.array n _)=>.array n
 |some (.map _ _)=>.map
 |some .string=>.str
 |_=>.other
def dO(k:LenKind)(x:AV)(g:G):OR :=
 match k with
 | .slice=>match x with
  |.nils|.esl=>.val (.int .i64 0)
  |.tsl _ _ rows=>.val (.int .i64 (.ofNat (bz rows)))
  |.hsl _ _ _ n _=>.val (.int .i64 (.ofNat n))
  |_=>.fail
 |.array n=>.val (.int .i64 (.ofNat n))
 | .map=>match x with
  |.nilm=>.val (.int .i64 0)
  |.hmap id=>match g.get id with|.map es=>.val (.int .i64 (.ofNat (bz es)))|_=>.fail
  |_=>.fail
 |.str=>match x with|.str s=>.val (.int .i64 (.ofNat s.size))|_=>.fail
 |.other=>.fail
def Kz(x:AV)(g:G):OR :=
 match x with
 |.nils|.esl=>.val (.int .i64 0)
 | .hsl id ep off _ lim=>match g.get id with
  |.cells _ rows ep' loose _=>aB (Nat.beq ep ep'&&(lim.isSome || j3 loose)) (.val (.int .i64 (.ofNat (lim.getD (bz rows - off))))) .fail
  |_=>.fail
 |_=>.fail
def dD(C:Cfg)(b:Builtin)(argTypes:Array TypeId)(args:List Operand):Option (Stg SFn) :=
 match b,args with
 | .len,[x]=>match argTypes[0]?,aT C x with
  |some t,some a=>some ⟨λs g=>dO (mq C.P t) (a.run s) g⟩
  |_,_=>none
 | .append,[a,x]=>match argTypes[0]?,argTypes[1]?,aT C a,aT C x with
  | some t,some xt,some av,some xv=>match l6 C.P t,C.P.underlying xt with
   | some e,some (.slice _)=>match szT C.P e,kh C.P e,gK C.P e with
    |some sz,some bytes,some zero=>aB (Nat.beq (bz zero) sz&&Nat.blt 0 sz&&Nat.blt 0 bytes) (some ⟨λs g=>dC sz bytes (av.run s) (xv.run s) g⟩) none
    |_,_,_=>none
   | some e,some (.int _)=>match szT C.P e,kh C.P e,gK C.P e with
    |some sz,some bytes,some zero=>aB (Nat.beq (bz zero) sz&&Nat.blt 0 sz&&Nat.blt 0 bytes) (some ⟨λs g=>u9 sz bytes zero (av.run s) (xv.run s) g⟩) none
    |_,_,_=>none
   |_,_=>none
  |_,_,_,_=>none
 | .copy,[a,x]=>match argTypes[0]?,aT C a,aT C x with
  | some t,some av,some xv=>match l6 C.P t with
   | some e=>match szT C.P e with
    |some sz=>some ⟨λs g=>Bg sz (av.run s) (xv.run s) g⟩
    |none=>none
   |none=>none
  |_,_,_=>none
 | .cap,[x]=>match argTypes[0]?,aT C x with
  | some t,some a=>match l6 C.P t with
   |some _=>some ⟨λs g=>Kz (a.run s) g⟩
   |none=>none
  |_,_=>none
 | .clear,[x]=>match argTypes[0]?,aT C x with
  | some t,some a=>match l6 C.P t with
   | some e=>match szT C.P e,gK C.P e with
    |some sz,some zero=>aB (Nat.beq (bz zero) sz&&Nat.blt 0 sz) (some ⟨λs g=>zb sz zero (a.run s) g⟩) none
    |_,_=>none
   |none=>none
  |_,_=>none
 | .max,[x,y]=>match aT C x,aT C y with
  | some a,some b=>some ⟨λs _=>match a.run s with
   | .int k m=>match b.run s with
    |.int k' n=>aB (cV k k') (.val (.int k (aB (ye m n) n m))) .fail
    |_=>.fail
   |_=>.fail⟩
  |_,_=>none
 | .min,[x,y]=>match aT C x,aT C y with
  | some a,some b=>some ⟨λs _=>match a.run s with
   | .int k m=>match b.run s with
    |.int k' n=>aB (cV k k') (.val (.int k (aB (ye n m) n m))) .fail
    |_=>.fail
   |_=>.fail⟩
  |_,_=>none
 |_,_=>none
def iK{α:Type}(f:α->Option Nat):List α->Option Nat
 |[]=>some 0
 | v::vs=>match f v with
  | some a=>match iK f vs with
   |some b=>some (Nat.max a b)
   |none=>none
  |none=>none
def fp:Nat->AV->Option Nat
 |0,_=>none
 | f+1,v=>match v with
  |.tsl l _ _=>some l
  |.tptr l _ _ _ _=>some l
  |.agg cs=>iK (fp f) cs
  |.tup cs=>iK (fp f) cs
  |.clo _ a c=>iK (fp f) (a++c)
  |.ifc _ v=>fp f v
  |.hsl ..|.hptr ..|.hmap _|.yld _=>none
  |_=>some 0
def aE:Nat:=24
def gW(rows:List (List AV)):Option Nat:=iK (iK (fp aE)) rows
def qw(sz:Nat):Nat->List AV->List (List AV)
 |0,_=>[]
 |n+1,cs=>kg sz cs::qw sz n (jz sz cs)
def jr(n sz:Nat)(a:T->AV)(lo hi:T->Option AV):SFn:=λt g =>
 match bo n n (hi t) with
 |none=>.fail
 | some h=>match bo 0 h (lo t) with
  |none=>.fail
  | some l=>match a t with
   | .tptr tag _ rows i off=>match zY i rows with
    |some row=>aB (Nat.ble (off+n*sz) (bz row)) (.val (.tsl tag sz (qw sz (h - l) (jz (off+l*sz) row)))) .fail
    |none=>.fail
   | .hptr id ep i off=>match g.get id with
    | .cells sz' rows ep' loose _=>aB (Nat.beq ep ep') (match zY i rows with
     | some row=>aB (Nat.ble (off+n*sz) (bz row))
      ((λrs=>match gW rs with
        |some m=>.upd (.tsl m sz rs) (g.put id (.cells sz' rows ep' loose true))
        |none=>.fail) (qw sz (h - l) (jz (off+l*sz) row))) .fail
     |none=>.fail) .fail
    |_=>.fail
   |_=>.fail
def cm(C:Cfg):Op->Option (Stg SFn)
 |.move x|.assign x=>match aT C x with|some a=>some ⟨λt _=>.val (a.run t)⟩|none=>none
 | .pick c a b=>match aT C c,aT C a,aT C b with
  |some c,some a,some b=>some ⟨λt _=>match c.run t with|.bool q=>aB q (.val (a.run t)) (.val (b.run t))|_=>.fail⟩
  |_,_,_=>none
 | .alloc ty=>match gK C.P ty with
  |some cs=>some ⟨BW cs⟩
  |none=>none
 | .box _ x=>match aT C x with
  |some a=>some ⟨Kq a.run⟩
  |none=>none
 | .build ty parts=>match gK C.P ty,bV C (parts.toList.map (·.2)) with
  | some zero,some vs =>
   match C.P.underlying ty with
   | some (.struct fs)=>match aJ (λf:Field=>match szT C.P f.type with| some n=>some (f.offset,n)| none=>none) fs.toList with
    | some places=>match aJ (λi=>places[i]?) (parts.toList.map (·.1)) with
     |some pl=>some ⟨oP zero pl vs.run⟩
     |none=>none
    |none=>none
   | some (.array _ e)=>match szT C.P e with
    |some n=>some ⟨oP zero ((parts.toList.map (·.1)).map λi=>(i*n,n)) vs.run⟩
    |none=>none
   |_=>none
  |_,_=>none
 | .buildSlice ty len parts=>match l6 C.P ty,bV C (parts.toList.map (·.2)) with
  | some e,some vs=>match szT C.P e,gK C.P e with
   | some sz,some zero=>aB (Nat.beq (bz zero) sz&&Nat.blt 0 sz&&Nat.ble (len*sz) 1048576)
    (some ⟨i_ sz len (jt len zero) (parts.toList.map (·.1)) vs.run⟩) none
   |_,_=>none
  |_,_=>none
 | .load ty a=>match aT C a,rL C.P ty,szT C.P ty with
  |some a,some ag,some n=>some ⟨nD ag n a.run⟩
  |_,_,_=>none
 | .store ty a x=>match aT C a,aT C x,szT C.P ty with
  |some a,some x,some n=>some ⟨pB n a.run x.run⟩
  |_,_,_=>none
 | .nilCheck x=>match aT C x with
  | some a=>some ⟨λt _=>match a.run t with
   |.tptr l sz rows i off=>.val (.tptr l sz rows i off)
   |.hptr id ep i off=>.val (.hptr id ep i off)
   |.clo f a c=>.val (.clo f a c)
   |.yld id=>.val (.yld id)
   |_=>.fail⟩
  |none=>none
 | .binOp op ty x y _=>match aT C x,aT C y with
  |some a,some b=>some ⟨λt _=>(yR C.P op ty).run (a.run t) (b.run t)⟩
  |_,_=>none
 | .unOp op _ x=>match aT C x with
  |some a=>some ⟨λt _=>(unA op).run (a.run t)⟩
  |none=>none
 | .convert src dst x=>match aT C x,C.P.underlying src,C.P.underlying dst with
  |some a,some _,some (.int k)=>some ⟨λt _=>match a.run t with|.int _ n=>.val (.int k (tz k n))|_=>.fail⟩
  |_,_,_=>none
 | .makeInterface ty x=>match aT C x,C.P.underlying ty with
  |some _,some (.interface _)=>none
  |some a,some _=>some ⟨λt _=>.val (.ifc ty (a.run t))⟩
  |_,_=>none
 | .makeFunc (.func f) first captured=>match bV C first.toList,bV C captured.toList with
  |some a,some c=>some ⟨λt _=>.val (.clo f (a.run t) (c.run t))⟩
  |_,_=>none
 | .makeMap ty none=>match C.P.underlying ty with
  |some (.map _ _)=>some ⟨λ_ g=>.upd (.hmap g.nx) (g.new (.map []))⟩
  |_=>none
 | .makeSlice ty l c=>match l6 C.P ty,aT C l,aT C c with
  | some e,some l,some c=>match szT C.P e,kh C.P e,gK C.P e with
   |some sz,some bytes,some zero=>aB (Nat.beq (bz zero) sz&&Nat.blt 0 sz) (some ⟨iX sz bytes zero l.run c.run⟩) none
   |_,_,_=>none
  |_,_,_=>none
 | .slice ty x lo hi none=>match C.P.underlying ty,aT C x,bV C lo.toList,bV C hi.toList with
  | some (.slice e),some x,some l,some h=>match szT C.P e with
   |some sz=>some ⟨λt g=>orV (nM sz (x.run t) (l.run t).head? (h.run t).head? none g.h)⟩
   |none=>none
  | some (.array n e),some x,some l,some h=>match szT C.P e with
   |some (sz+1)=>some ⟨jr n (sz+1) x.run (λt=>(l.run t).head?) (λt=>(h.run t).head?)⟩
   |_=>none
  |_,_,_,_=>none
 | .slice ty x lo (some hi) (some mx)=>match l6 C.P ty,aT C x,bV C lo.toList,aT C hi,aT C mx with
  | some e,some x,some l,some h,some m=>match szT C.P e with
   |some sz=>some ⟨λt g=>orV (nM sz (x.run t) (l.run t).head? (some (h.run t)) (some (m.run t)) g.h)⟩
   |none=>none
  |_,_,_,_,_=>none
 | .fieldAddr ty x f=>match aT C x,s_ C.P ty f with
  | some a,some (fo,ft)=>match szT C.P ft with
   |some (_+1)=>some ⟨kM fo a.run⟩
   |_=>none
  |_,_=>none
 | .field ty x f=>match aT C x,s_ C.P ty f with
  | some a,some (fo,ft)=>match rL C.P ft,szT C.P ft with
   |some ag,some n=>some ⟨λt _=>match a.run t with|.agg cs=>orV (bT ag n cs fo)|_=>.fail⟩
   |_,_=>none
  |_,_=>none
 | .indexAddr ty x ix=>match aT C x,aT C ix with
  | some a,some i=>match C.P.underlying ty with
   | some (.slice e)=>match szT C.P e with
    |some sz=>some ⟨iH sz a.run i.run⟩
    |none=>none
   | some (.array n e)=>match szT C.P e with
    |some sz=>some ⟨nz n sz a.run i.run⟩
    |none=>none
   |_=>none
  |_,_=>none
 | .index ty x ix=>match aT C x,aT C ix with
  | some a,some i=>match C.P.underlying ty with
   | some (.array n e)=>match rL C.P e,szT C.P e with
    |some ag,some sz=>some ⟨uJ ag n sz a.run i.run⟩
    |_,_=>none
   |some .string=>some ⟨qc a.run i.run⟩
   |_=>none
  |_,_=>none
 | .lookup ty x k ok=>match aT C x,aT C k,C.P.underlying ty with
  | some m,some k,some (.map kt et)=>match ur C.P et with
   |some z=>some ⟨cJ (cI C.P kt) z ok m.run k.run⟩
   |none=>none
  |_,_,_=>none
 | .mapUpdate ty m k x| .insert ty m k x=>match aT C m,aT C k,aT C x,C.P.underlying ty with
  |some m,some k,some x,some (.map kt _)=>some ⟨cW (cI C.P kt) m.run k.run x.run⟩
  |_,_,_,_=>none
 | .mapEntry ty m k=>match aT C m,aT C k,C.P.underlying ty with
  | some m,some k,some (.map kt et)=>match ur C.P et with
   |some z=>some ⟨gQ (cI C.P kt) z m.run k.run⟩
   |none=>none
  |_,_,_=>none
 | .entryStore _ m st x=>match aT C m,aT C st,aT C x with
  |some m,some st,some x=>some ⟨jb m.run st.run x.run⟩
  |_,_,_=>none
 | .extract x i=>match aT C x with
  |some a=>some ⟨λt _=>match a.run t with|.tup vs=>orV (zY i vs)|_=>.fail⟩
  |none=>none
 |.call { callee:=.builtin b,args,argTypes }=>dD C b argTypes args.toList
 |_=>none
def snap(h:H)(tag:Nat):Nat->AV->Option AV
 |0,_=>none
 | f+1,v=>match v with
  |.agg cs=>match aJ (snap h tag f) cs with|some as=>some (.agg as)|none=>none
  |.tup cs=>match aJ (snap h tag f) cs with|some as=>some (.tup as)|none=>none
  | .clo g a c=>match aJ (snap h tag f) a,aJ (snap h tag f) c with
   |some as,some cs=>some (.clo g as cs)
   |_,_=>none
  |.ifc t x=>match snap h tag f x with|some a=>some (.ifc t a)|none=>none
  | .hsl id ep off len _=>match h.get id with
   | .cells sz rows ep' _ _=>aB (Nat.beq ep ep'&&Nat.ble (off+len) (bz rows))
    (match aJ (aJ (snap h tag f)) (kg len (jz off rows)) with
     | some rs=>match gW rs with
      |some m=>some (.tsl (Nat.max tag m) sz rs)
      |none=>none
     |none=>none) none
   |_=>none
  | .hptr id ep i off=>match h.get id with
   | .cells sz rows ep' _ _=>aB (Nat.beq ep ep')
    (match aJ (aJ (snap h tag f)) rows with
     | some rs=>match gW rs with
      |some m=>some (.tptr (Nat.max tag m) sz rs i off)
      |none=>none
     |none=>none) none
   |_=>none
  |.hmap _=>none
  |.yld _=>none
  |v=>some v
def aC(h:H):Nat->AV->List Nat
 |0,_=>[]
 | f+1,v=>match v with
  |.agg cs=>cs.flatMap (aC h f)
  |.tup cs=>cs.flatMap (aC h f)
  |.clo _ a c=>a.flatMap (aC h f)++c.flatMap (aC h f)
  |.ifc _ x=>aC h f x
  | .hsl id _ off len _=>id::(match h.get id with
   |.cells _ rows _ _ _=>(kg len (jz off rows)).flatMap (·.flatMap (aC h f))
   |_=>[])
  | .hptr id _ _ _=>id::(match h.get id with
   |.cells _ rows _ _ _=>rows.flatMap (·.flatMap (aC h f))
   |_=>[])
  |.hmap id=>[id]
  |_=>[]
def dH(d:Nat):Nat->AV->Option AV
 |0,_=>none
 | f+1,v=>match v with
  | .tsl t sz rows=>aB (Nat.beq t d) (match aJ (aJ (dH d f)) rows with
   | some rs=>match gW rs with
    |some m=>some (.tsl m sz rs)
    |none=>none
   |none=>none) (some v)
  | .tptr t sz rows i off=>aB (Nat.beq t d) (match aJ (aJ (dH d f)) rows with
   | some rs=>match gW rs with
    |some m=>some (.tptr m sz rs i off)
    |none=>none
   |none=>none) (some v)
  |.agg cs=>match aJ (dH d f) cs with|some as=>some (.agg as)|none=>none
  |.tup cs=>match aJ (dH d f) cs with|some as=>some (.tup as)|none=>none
  | .clo g a c=>match aJ (dH d f) a,aJ (dH d f) c with
   |some as,some cs=>some (.clo g as cs)
   |_,_=>none
  |.ifc t x=>match dH d f x with|some a=>some (.ifc t a)|none=>none
  |v=>some v
def ct(g:G):List Nat->G
 |[]=>g
 | i::is=>match g.get i with
  |.cells sz rows ep loose _=>ct (g.put i (.cells sz rows ep loose true)) is
  |_=>ct g is
def ah(ih:IH)(d:Nat)(g:G)(f:Nat)(args:List AV):OR :=
 match aJ (snap g.h d aE) args with
 |none=>.fail
 | some as=>match ih.call (Nat.succ d) f as G.empty with
  |.fail=>.fail
  | .ok r g'=>match snap g'.h 0 aE r with
   |none=>.fail
   | some r'=>match fp aE r' with
    |none=>.fail
    | some m=>aB (Nat.blt m d) (.val r')
     (match dH d aE r' with
      |none=>.fail
      | some r''=>match fp aE r'' with
       |none=>.fail
       |some m'=>aB (Nat.blt m' d) (.upd r'' (ct g (args.flatMap (aC g.h aE)))) .fail)
def cP:T->Nat->List Nat->List AV->Option T
 |t,_,[],[]=>some t
 |t,nt,p::ps,v::vs=>aB (Nat.blt p nt) (cP ((sp AV.undef p).run t v) nt ps vs) none
 |_,_,_,_=>none
def cp(ih:IH)(d:Nat)(id:Nat)(args:List AV)(g:G):OR :=
 match g.get id with
 | .loop nt t ps assign body _ _ _=>match cP t nt ps args with
  |none=>.fail
  | some t'=>match ih.code nt d (some id) assign t' [] g with
   | .ok .norm t1 [] g1=>match g1.get id with
    | .loop nt1 t ps assign1 body1 dfr .ready pend =>
     match ih.code nt d (some id) body t1 [] (g1.put id (.loop nt1 t ps assign1 body1 dfr .busy pend)) with
     | .ok e _ [] g2=>match g2.get id with
      | .loop nt t ps assign body dfr _ _=>match e with
       |.norm=>.upd (.bool true) (g2.put id (.loop nt t ps assign body dfr .ready none))
       |.exit j=>.upd (.bool false) (g2.put id (.loop nt t ps assign body dfr .done (some (.exit j))))
       |.ret=>.upd (.bool false) (g2.put id (.loop nt t ps assign body dfr .done (some .ret)))
      |_=>.fail
     |_=>.fail
    |_=>.fail
   |_=>.fail
 |_=>.fail
def orF:FR->OR
 |.ok v g=>.upd v g
 |.fail=>.fail
def fd(C:Cfg)(ih:IH)(d:Nat)(fv:AV)(vs:List AV)(g:G):OR :=
 match fv with
 | .clo f first cap=>match C.ext f with
  |some e=>e d (first++(vs++cap)) g
  |none=>aB (C.iso f) (ah ih d g f (first++(vs++cap))) (orF (ih.call d f (first++(vs++cap)) g))
 |.yld id=>cp ih d id vs g
 |_=>.fail
def cOp(C:Cfg):Op->Option (Stg Kg)
 | .call { callee:=.value (.func f),args,.. }=>match bV C args.toList with
  | some vs=>match C.ext f with
   |some e=>some ⟨λ_ d _ t g=>e d (vs.run t) g⟩
   |none=>aB (C.iso f) (some ⟨λih d _ t g=>ah ih d g f (vs.run t)⟩) (some ⟨λih d _ t g=>orF (ih.call d f (vs.run t) g)⟩)
  |none=>none
 | .call { callee:=.value fo,args,.. }=>match aT C fo,bV C args.toList with
  |some fv,some vs=>some ⟨λih d _ t g=>fd C ih d (fv.run t) (vs.run t) g⟩
  |_,_=>none
 |.call { callee:=.builtin .recover,.. }=>some ⟨λ_ _ _ _ _=>.val .nili⟩
 | .defer { callee:=.value fo,args,.. }=>match aT C fo,bV C args.toList with
  | some fv,some vs=>some ⟨λ_ _ rd t _=>match rd with
   |some _=>.fail
   | none=>match fv.run t with
    |.clo f first cap=>.dfr (.call (.clo f [] cap) (first++vs.run t))
    |_=>.fail⟩
  |_,_=>none
 | op=>match cm C op with
  |some s=>some ⟨λ_ _ _ t g=>s.run t g⟩
  |none=>none
def dj(C:Cfg)(op:Op):Stg Kg :=
 match cOp C op with
 |some f=>f
 |none=>⟨λ_ _ _ _ _=>.fail⟩
structure Looks where
 rd:List Nat
 sr:List (Nat×Nat)
 soft:List (Nat×Nat)
 big:Bool
def ae:AV->List Nat
 |.hptr id _ _ _=>[id]
 |.hsl id _ _ _ _=>[id]
 |.hmap id=>[id]
 |_=>[]
def wn:AV->List Nat
 |.hmap id=>[id]
 |_=>[]
def tK:AV->List Nat
 |.hsl id _ _ (_+1) _=>[id]
 |_=>[]
def mh(C:Cfg)(b:Builtin)(argTypes:Array TypeId):AV->List Nat :=
 match b with
 | .len=>match argTypes[0]? with
  | some t=>match mq C.P t with
   |.map=>wn
   |_=>λ_=>[]
  |none=>λ_=>[]
 |.clear=>tK
 |_=>ae
def ap:Looks:=⟨[],[],[],false⟩
def da:Looks:=⟨[],[],[],true⟩
def ac(l:List Nat):Looks:=⟨l,[],[],false⟩
def aN(C:Cfg)(op:Op):Stg (T->G->Looks) :=
 match op with
 | .load _ a| .store _ a _| .slice _ a _ _ _| .lookup _ a _ true| .mapUpdate _ a _ _| .insert _ a _ _| .entryStore _ a _ _=>match aT C a with
  |some a=>⟨λt _=>ac (ae (a.run t))⟩
  |none=>⟨λ_ _=>da⟩
 | .lookup ty a _ false=>match aT C a with
  |some a=>⟨λt _=>⟨[],(ae (a.run t)).map (·,ty),[],false⟩⟩
  |none=>⟨λ_ _=>da⟩
 | .mapEntry ty a _=>match aT C a with
  |some a=>⟨λt _=>⟨ae (a.run t),[],(ae (a.run t)).map (·,ty),false⟩⟩
  |none=>⟨λ_ _=>da⟩
 | .indexAddr ty a _=>match C.P.underlying ty,aT C a with
  |some (.slice _),some a=>⟨λt _=>ac (ae (a.run t))⟩
  |_,_=>⟨λ_ _=>ap⟩
 | .call { callee:=.builtin b,args,argTypes }=>match bV C args.toList with
  |some vs=>⟨λt _=>ac ((vs.run t).flatMap (mh C b argTypes))⟩
  |none=>⟨λ_ _=>da⟩
 | .call { callee:=.value fo,args,.. }=>match aT C fo,bV C args.toList with
  | some fv,some vs=>⟨λt g=>match fv.run t with
   |.clo f first cap=>aB ((C.ext f).isSome || C.iso f) (ac ((first++(vs.run t++cap)).flatMap (aC g.h aE))) da
   |_=>da⟩
  |_,_=>⟨λ_ _=>da⟩
 |.defer _=>⟨λ_ _=>da⟩
 |_=>⟨λ_ _=>ap⟩
structure Foot where
 lk:Looks
 wr:List Nat
abbrev RFn:=IH->Nat->Option Nat->T->List ADf->G->CR
def uN(nt:Nat):Option Nat->Option (Stg (T->AV->T))
 |none=>some ⟨λt _=>t⟩
 |some d=>aB (Nat.blt d nt) (some (sp AV.undef d)) none
def ko(ops:List Oper):Option (Nat×Bool)->Option (Stg (T->Option Bool))
 |none=>some ⟨λ_=>some true⟩
 | some (j,want)=>match ops[j]? with
  | some oj=>match oj.dst with
   | some d=>some ⟨λt=>match (gp AV.undef d).run t with
    |.bool b=>some (aB want b (j3 b))
    |.tup _=>some false
    |_=>none⟩
   |none=>none
  |none=>none
def pC(out:T->AV->T)(next:T->List ADf->G->CR)(t:T)(df:List ADf)(g:G):OR->CR
 |.fail=>.fail
 |.val v=>next (out t v) df g
 |.upd v g'=>next (out t v) df g'
 |.dfr a=>next (out t .undef) (a::df) g
def Bl:Stg RFn:=⟨λ_ _ _ _ _ _=>.fail⟩
def ku(C:Cfg)(nt:Nat)(all:List Oper):List Oper->Stg RFn
 |[]=>⟨λ_ _ _ t df g=>.ok .norm t df g⟩
 | o::rest=>match uN nt o.dst with
  | some out=>match o.guard with
   |none=>⟨λih d rd t df g=>pC out.run ((ku C nt all rest).run ih d rd) t df g ((dj C o.op).run ih d rd t g)⟩
   | some gd=>match ko all (some gd) with
    | some q=>⟨λih d rd t df g=>match q.run t with
     |some true=>pC out.run ((ku C nt all rest).run ih d rd) t df g ((dj C o.op).run ih d rd t g)
     |some false=>(ku C nt all rest).run ih d rd (out.run t .undef) df g
     |none=>.fail⟩
    |none=>Bl
  |none=>Bl
def br:List Oper->List Nat->List Nat
 |[],acc=>acc
 | o::rest,acc =>
  br rest (acc++[o.after.toList.foldl (λm e=>aB (Region.binds .any e) (m ||| 2 ^ e.on ||| acc.getD e.on 0) m) 0])
def tP(ops:List Oper)(o:Oper):List Nat :=
 (o.op.operands.toList.filterMap fun|.tmp t=>some t|_=>none) ++
 (match o.guard with
  |some (g,_)=>match ops[g]? with|some og=>og.dst.toList|none=>[]
  |none=>[])
def kV(ops:List Oper)(x y:Oper):Bool :=
 (match x.dst with|some d=>!(tP ops y).contains d&&y.dst != some d|none=>true) &&
 (match y.dst with|some d=>!(tP ops x).contains d|none=>true)
def meets(a b:List Nat):Bool:=a.any λx=>b.contains x
def fst1(l:List (Nat×Nat)):List Nat:=l.map (·.1)
def CL(p:Nat×Nat):List (Nat×Nat)->Bool
 |[]=>false
 |q::r=>aB (Nat.beq p.1 q.1&&Nat.beq p.2 q.2) true (CL p r)
def lG(x y:Foot):Bool :=
 match x.wr with
 |[]=>true
 |_=>!y.lk.big&&!meets x.wr y.wr&&!meets x.wr y.lk.rd&&!meets x.wr (fst1 y.lk.sr)
def jp(x y:Foot):Bool :=
 match x.wr with
 |[]=>true
 |_=>!y.lk.big&&!meets x.wr y.wr&&!meets x.wr y.lk.rd&&(!meets x.wr (fst1 y.lk.sr) || y.lk.sr.all λp=>CL p x.lk.soft)
def cz(x y:Foot):Bool:=lG x y&&jp y x
def fC(pm:List Nat)(i:Nat)(x:Foot):Nat->List Foot->Nat
 |_,[]=>0
 |j,y::r=>aB ((pm.getD j 0).testBit i || !meets y.wr (fst1 x.lk.sr)) (fC pm i x (Nat.succ j) r) (Nat.succ (fC pm i x (Nat.succ j) r))
def tu(pm:List Nat):Nat->List Foot->Bool
 |_,[]=>true
 |i,x::r=>aB (match x.lk.sr with|[]=>true|_=>Nat.ble (fC pm i x (Nat.succ i) r) 1) (tu pm (Nat.succ i) r) false
def gM{α:Type}(f:Nat->α->Nat->α->Bool)(i:Nat)(x:α):Nat->List α->Bool
 |_,[]=>true
 |j,y::r=>f i x j y&&gM f i x (j+1) r
def lq{α:Type}(f:Nat->α->Nat->α->Bool):Nat->List α->Bool
 |_,[]=>true
 |i,x::rest=>gM f i x (i+1) rest&&lq f (i+1) rest
def pM:Nat->List Oper->Bool
 |_,[]=>true
 |i,o::r=>(o.after.toList.all λe=>!Region.binds .any e || Nat.blt e.on i)&&pM (i+1) r
def nq(pm:List Nat):Nat->List Oper->Bool
 |_,[]=>true
 |i,o::r=>(match o.guard with|none=>true|some (j,_)=>(pm.getD i 0).testBit j)&&nq pm (i+1) r
def CJ(ops:List Oper):Bool :=
 let pm:=br ops []
 pM 0 ops&&nq pm 0 ops&&lq (λi x j y=>(pm.getD j 0).testBit i || kV ops x y) 0 ops
def qG(pm:List Nat)(fs:List Foot):Bool :=
 aB (lq (λi x j y=>(pm.getD j 0).testBit i || cz x y) 0 fs) (tu pm 0 fs) false
def yD(C:Cfg):Op->Bool
 |.alloc _|.box ..|.buildSlice ..|.store ..|.makeSlice ..|.makeMap ..|.mapUpdate ..|.insert ..|.mapEntry ..|.entryStore ..|.defer _=>false
 |.call { callee:=.builtin .append,.. }|.call { callee:=.builtin .copy,.. }|.call { callee:=.builtin .clear,.. }=>false
 |.slice ty _ _ _ _=>match C.P.underlying ty with|some (.slice _)=>true|_=>false
 |.call { callee:=.value (.func f),.. }=>C.iso f
 |.call { callee:=.value _,.. }=>false
 |_=>true
abbrev RH:=IH->Nat->Option Nat->T->List ADf->G->List Foot->CR
def aP(g:G)(lg:List Nat):G:=@G.rec (λ_=>G) (λh nx _=>⟨h,nx,lg⟩) g
def pF(g:G)(lg:List Nat):G:=@G.rec (λ_=>G) (λh nx _=>⟨h,Nat.succ nx,lg⟩) g
def lK(out:T->AV->T)(next:T->List ADf->G->List Foot->CR)(t:T)(df:List ADf)(g:G)(fs:List Foot)(lk:Looks):OR->CR
 |.fail=>.fail
 |.val v=>next (out t v) df (pF g g.lg) (⟨lk,[]⟩::fs)
 |.upd v g'=>next (out t v) df (pF g' (g'.lg++g.lg)) (⟨lk,g'.lg⟩::fs)
 |.dfr _=>.fail
def jx(C:Cfg)(nt:Nat)(pm:List Nat)(all:List Oper):Nat->List Oper->Stg RH
 |_,[]=>⟨λ_ _ _ t df g fs=>aB (qG pm fs.reverse) (.ok .norm t df g) .fail⟩
 | i,o::rest=>match uN nt o.dst,ko all o.guard with
  | some out,some q=>⟨λih d rd t df g fs=>match q.run t with
     |some true=>lK out.run ((jx C nt pm all (i+1) rest).run ih d rd) t df g fs ((aN C o.op).run t g) ((dj C o.op).run ih d rd t (aP g []))
     |some false=>(jx C nt pm all (i+1) rest).run ih d rd (out.run t .undef) df g (⟨ap,[]⟩::fs)
     |none=>.fail⟩
  |_,_=>⟨λ_ _ _ _ _ _ _=>.fail⟩
def nG(g0:G):CR->CR
 |.ok e t df g=>match g.lg with|[]=>aB (Nat.beq g.nx g0.nx) (.ok e t df g0) .fail|_=>.fail
 |.fail=>.fail
def gN(C:Cfg)(nt:Nat)(ops:List Oper)(draw:Bool):Stg RFn :=
 aB draw
  (aB (CJ ops)
   (aB (ops.all λo=>yD C o.op)
    ⟨λih d rd t df g=>nG g ((ku C nt ops ops).run ih d rd t df (aP g []))⟩
    ⟨λih d rd t df g=>(jx C nt (br ops []) ops 0 ops).run ih d rd t df g []⟩) Bl)
  (ku C nt ops ops)
def eL(ih:IH)(nt d:Nat)(rd:Option Nat)(id:Nat)(t:T)(df:List ADf)(g2:G):CR :=
 match g2.get id with
 | .loop nt' t' ps assign body dfr st pend=>match st with
  |.busy=>.fail
  | _=>match pend with
   |none=>.ok .norm t df (g2.put id (.loop nt' t' ps assign body dfr .exhausted pend))
   |some c=>ih.code nt d rd c t df (g2.put id (.loop nt' t' ps assign body dfr .exhausted pend))
 |_=>.fail
def cO(C:Cfg)(ih:IH)(nt d:Nat)(rd:Option Nat)(fv:AV)(ps:List Nat)(assign body:Code)(t:T)(df:List ADf)(dfr:Nat)(g:G):CR :=
 match fv with
 | .clo f first cap=>aB (C.ext f).isSome .fail
  (match ih.call d f (first++(.yld g.nx::cap)) (g.new (.loop nt t ps assign body dfr .ready none)) with
  |.ok _ g2=>eL ih nt d rd g.nx t df g2
  |.fail=>.fail)
 |_=>.fail
def nH(C:Cfg)(nt:Nat)(fo:T->AV)(ps:List Nat)(assign body:Code):RFn:=λih d rd t df g =>
 match rd with
 | some l=>match g.get l with
  |.loop _ _ _ _ _ dfr _ _=>cO C ih nt d rd (fo t) ps assign body t df dfr g
  |_=>.fail
 |none=>cO C ih nt d rd (fo t) ps assign body t (.mark g.nx::df) g.nx (g.new (.dfr true))
def AY(k:T->List ADf->G->CR):CR->CR
 |.ok .norm t df g=>k t df g
 |r=>r
def uu(id:Nat):CR->CR
 |.ok (.exit j) t df g=>aB (Nat.beq j id) (.ok .norm t df g) (.ok (.exit j) t df g)
 |r=>r
def aU(C:Cfg)(nt:Nat):Code->Stg RFn
 |.skip=>⟨λ_ _ _ t df g=>.ok .norm t df g⟩
 |.label _=>⟨λ_ _ _ t df g=>.ok .norm t df g⟩
 |.region _ ops draw=>gN C nt ops.toList draw
 |.seq a b=>⟨λih d rd t df g=>AY ((aU C nt b).run ih d rd) ((aU C nt a).run ih d rd t df g)⟩
 | .cond c a b=>match aT C c with
  | some q=>⟨λih d rd t df g=>match q.run t with
   |.bool v=>aB v ((aU C nt a).run ih d rd t df g) ((aU C nt b).run ih d rd t df g)
   |_=>.fail⟩
  |none=>Bl
 |.block id body=>⟨λih d rd t df g=>uu id ((aU C nt body).run ih d rd t df g)⟩
 |.loop body=>⟨λih d rd t df g=>AY (λt df g=>ih.code nt d rd (.loop body) t df g) ((aU C nt body).run ih d rd t df g)⟩
 |.scope body=>aU C nt body
 |.exit id=>⟨λ_ _ _ t df g=>.ok (.exit id) t df g⟩
 |.ret=>⟨λ_ _ _ t df g=>.ok .ret t df g⟩
 | .rangeFunc f ps assign body=>match aT C f with
  |some a=>⟨nH C nt a.run ps.toList assign body⟩
  |none=>Bl
 |_=>Bl
def KH(C:Cfg)(ih:IH)(nt d:Nat)(rd:Option Nat)(c:Code)(t:T)(df:List ADf)(g:G):CR :=
 (aU C nt c).run ih d rd t df g
def fS(ih:IH)(d:Nat):List ADf->G->Option G
 |[],g=>some g
 | .mark id::ds,g=>match g.get id with
  |.dfr true=>fS ih d ds (g.put id (.dfr false))
  |_=>none
 | .call (.clo f first cap) args::ds,g=>match ih.call d f (first++(args++cap)) g with
  |.ok _ g'=>fS ih d ds g'
  |.fail=>none
 |.call _ _::_,_=>none
def vg(C:Cfg):List ResultVar->Option (Stg (T->G->Option (List AV)))
 |[]=>some ⟨λ_ _=>some []⟩
 | .tmp n::rs=>match vg C rs with
  |some k=>some ⟨λt g=>match k.run t g with|some vs=>some ((gp AV.undef n).run t::vs)|none=>none⟩
  |none=>none
 | .cell a ty::rs=>match vg C rs,cm C (.load ty (.tmp a)) with
  | some k,some l=>some ⟨λt g=>match l.run t g with
   |.val v=>(match k.run t g with|some vs=>some (v::vs)|none=>none)
   |_=>none⟩
  |_,_=>none
def co:Nat->List AV->T->T
 |_,[],t=>t
 |i,v::vs,t=>co (i+1) vs ((sp AV.undef i).run t v)
def jT:List AV->AV
 |[v]=>v
 |vs=>.tup vs
def iP(ih:IH)(d:Nat)(res:T->G->Option (List AV))(t:T)(df:List ADf)(g:G):FR :=
 match fS ih d df g with
 |none=>.fail
 | some g'=>match res t g' with
  |some vs=>.ok (jT vs) g'
  |none=>.fail
def cFn(C:Cfg)(f:Nat):Option (Stg (IH->Nat->List AV->G->FR)) :=
 match C.P.funcs[f]? with
 |none=>none
 | some fn=>match fn.body with
  |none=>none
  | some c=>match vg C fn.results.toList with
   | some r => aB (fn.name == "runtime.NumGoroutine") none
    (some ⟨λih d args g=>aB (Nat.ble (bz args) fn.ntmps)
     (match (aU C fn.ntmps c).run ih d none (co 0 args .nil) [] g with
      |.ok (.exit _) _ _ _=>.fail
      |.ok _ t df g'=>iP ih d r.run t df g'
      |.fail=>.fail) .fail⟩)
   |none=>none
def fe(C:Cfg)(ih:IH)(d f:Nat)(args:List AV)(g:G):FR :=
 match cFn C f with
 |some x=>x.run ih d args g
 |none=>.fail
def IH.zero:IH:=⟨λ_ _ _ _ _ _ _=>.fail,λ_ _ _ _=>.fail⟩
def GK(C:Cfg)(ih:IH):IH:=⟨KH C ih,fe C ih⟩
def sem(C:Cfg)(n:Nat):IH:=@Nat.rec (λ_=>IH) IH.zero (λ_ ih=>GK C ih) n
end
end Hx
end
section
namespace Hx
open Go
@[simp] theorem bif'_true {α:Type} (x y:α):aB true x y=x:=rfl
@[simp] theorem bif'_false {α:Type} (x y:α):aB false x y=y:=rfl
theorem aa{α:Type}(b:Bool)(x y:α):aB b x y=if b=true then x else y:=by cases b<;>rfl
@[simp] theorem notb_eq (b:Bool):j3 b = !b:=by cases b<;>rfl
theorem dV{α:Type}(n:Nat):∀l:List α,zY n l=l[n]?:=by
 induction n with
 |zero=>intro l;cases l<;>rfl
 | succ n ih=>intro l;cases l with
  |nil=>rfl
  |cons a t=>simp only[TF];exact ih t
theorem gV{α:Type}(n:Nat)(x:α):∀l:List α,GG n x l=l.set n x:=by
 induction n with
 |zero=>intro l;cases l<;>rfl
 | succ n ih=>intro l;cases l with
  |nil=>rfl
  |cons a t=>simp only[U4];exact congrArg (a::·) (ih t)
theorem ay{α:Type}(l:List α):bz l=l.length:=by
 induction l with
 |nil=>rfl
 |cons a t ih=>exact congrArg Nat.succ ih
theorem bg{α:Type}(n:Nat):∀l:List α,jz n l=l.drop n:=by
 induction n with
 |zero=>intro l;rfl
 | succ n ih=>intro l;cases l with
  |nil=>rfl
  |cons a t=>simp only[Vo];exact ih t
theorem bh{α:Type}(n:Nat):∀l:List α,kg n l=l.take n:=by
 induction n with
 |zero=>intro l;rfl
 | succ n ih=>intro l;cases l with
  |nil=>rfl
  |cons a t=>simp only[Vp];exact congrArg (a::·) (ih t)
section tr
variable {α:Type}(e:α)
theorem N7:∀(f n:Nat) (t:Tr α),n<f->(gpF e f n).run t=t.get e n:=by
 intro f
 induction f with
 |zero=>intro n t h;omega
 | succ f ih =>
  intro n t h;cases n with
  |zero=>cases t<;>rfl
  | succ m =>
   have hm:m / 2<f:=by omega
   simp only[gpF];cases hb:Nat.beq (m % 2) 0
   ·cases t with
    |nil=>rfl
    |node v l r=>simp only[Tr.get,hb];exact ih _ _ hm
   ·cases t with
    |nil=>rfl
    |node v l r=>simp only[Tr.get,hb];exact ih _ _ hm
@[simp] theorem gp_run (n:Nat) (t:Tr α):(gp e n).run t=t.get e n:=N7 e (n+1) n t (by omega)
theorem R1(n:Nat):(Tr.nil:Tr α).get e n=e:=by cases n<;>rfl
theorem O7:∀(f n:Nat) (t:Tr α) (x:α) (k:Nat),n<f->((spF e f n).run t x).get e k=if k=n then x else t.get e k:=by
 intro f
 induction f with
 |zero=>intro n t x k h;omega
 | succ f ih =>
  intro n t x k h;cases n with
  | zero=>cases t with
   | nil=>cases k with
    |zero=>rfl
    |succ k=>simp only[spF,Tr.get];cases Nat.beq (k % 2) 0<;>simp
   |node v l r=>cases k<;>simp[spF,Tr.get]
  | succ m =>
   have hm:m / 2<f:=by omega
   simp only[spF];cases hb:Nat.beq (m % 2) 0
   ·have hb':m % 2=1:=by have:=UF hb;omega
    cases t with
    | nil =>
     try simp only[bif'_false]
     cases k with
     |zero=>simp[Tr.get]
     | succ k =>
      simp only[Tr.get];cases hk:Nat.beq (k % 2) 0
      ·try simp only[bif'_false]
       rw[ih _ _ _ _ hm,R1];have hk':k % 2=1:=by have:=UF hk;omega
       by_cases h2:k=m
       ·subst h2;simp
       ·rw[Sa (by omega),Sa (by omega)]
      ·have hk':k % 2=0:=Tp hk
       try simp only[bif'_true]
       rw[Sa (by omega)]
    | node v l r =>
     try simp only[bif'_false]
     cases k with
     |zero=>simp[Tr.get]
     | succ k =>
      simp only[Tr.get];cases hk:Nat.beq (k % 2) 0
      ·try simp only[bif'_false]
       rw[ih _ _ _ _ hm];have hk':k % 2=1:=by have:=UF hk;omega
       by_cases h2:k=m
       ·subst h2;simp
       ·rw[Sa (by omega),Sa (by omega)]
      ·have hk':k % 2=0:=Tp hk
       try simp only[bif'_true]
       rw[Sa (by omega)]
   ·have hb':m % 2=0:=Tp hb;cases t with
    | nil =>
     try simp only[bif'_true]
     cases k with
     |zero=>simp[Tr.get]
     | succ k =>
      simp only[Tr.get];cases hk:Nat.beq (k % 2) 0
      ·have hk':k % 2=1:=by have:=UF hk;omega
       try simp only[bif'_false]
       rw[Sa (by omega)]
      ·try simp only[bif'_true]
       rw[ih _ _ _ _ hm,R1];have hk':k % 2=0:=Tp hk
       by_cases h2:k=m
       ·subst h2;simp
       ·rw[Sa (by omega),Sa (by omega)]
    | node v l r =>
     try simp only[bif'_true]
     cases k with
     |zero=>simp[Tr.get]
     | succ k =>
      simp only[Tr.get];cases hk:Nat.beq (k % 2) 0
      ·have hk':k % 2=1:=by have:=UF hk;omega
       try simp only[bif'_false]
       rw[Sa (by omega)]
      ·try simp only[bif'_true]
       rw[ih _ _ _ _ hm];have hk':k % 2=0:=Tp hk
       by_cases h2:k=m
       ·subst h2;simp
       ·rw[Sa (by omega),Sa (by omega)]
@[simp] theorem sp_get (n:Nat) (t:Tr α) (x:α) (k:Nat):((sp e n).run t x).get e k=if k=n then x else t.get e k :=
 O7 e (n+1) n t x k (by omega)
end tr
theorem RW(h:H)(i:Nat)(o:AObj)(k:Nat):(h.put i o).get k=if k=i then o else h.get k:=by simp[H.get,H.put]
@[simp] theorem G.get_eq (g:G) (i:Nat):g.get i=g.h.get i:=rfl
@[simp] theorem G.put_h (g:G) (i:Nat) (o:AObj):(g.put i o).h=g.h.put i o:=by cases g;rfl
@[simp] theorem G.put_nx (g:G) (i:Nat) (o:AObj):(g.put i o).nx=g.nx:=by cases g;rfl
@[simp] theorem G.put_lg (g:G) (i:Nat) (o:AObj):(g.put i o).lg=i::g.lg:=by cases g;rfl
@[simp] theorem G.new_h (g:G) (o:AObj):(g.new o).h=g.h.put g.nx o:=by cases g;rfl
@[simp] theorem G.new_nx (g:G) (o:AObj):(g.new o).nx=g.nx+1:=by cases g;rfl
@[simp] theorem G.new_lg (g:G) (o:AObj):(g.new o).lg=g.nx::g.lg:=by cases g;rfl
@[simp] theorem bumpG_h (g:G) (l:List Nat):(pF g l).h=g.h:=by cases g;rfl
@[simp] theorem bumpG_nx (g:G) (l:List Nat):(pF g l).nx=g.nx+1:=by cases g;rfl
@[simp] theorem bumpG_lg (g:G) (l:List Nat):(pF g l).lg=l:=by cases g;rfl
@[simp] theorem setLog_h (g:G) (l:List Nat):(aP g l).h=g.h:=by cases g;rfl
@[simp] theorem setLog_nx (g:G) (l:List Nat):(aP g l).nx=g.nx:=by cases g;rfl
@[simp] theorem setLog_lg (g:G) (l:List Nat):(aP g l).lg=l:=by cases g;rfl
theorem nO(m:Nat)(h:m<9223372036854775808):IntKind.wrap .i64 (Int.ofNat m)=Int.ofNat m:=by have e:(Int.ofNat m) % (2 ^ 64:Int)=Int.ofNat m:=Vd (UJ m) (by simp only[TN];omega);unfold IntKind.wrap;simp only[IntKind.bits,IntKind.signed,e,Td,Sg];rw[Sa (by simp only[TN];omega)]
theorem wG(z:Int)(h:-9223372036854775808<=z)(h0:z<0):IntKind.wrap .i64 z=z:=by
 have e:z % (2 ^ 64:Int)=z+2 ^ 64:=by rw[<-Int.add_emod_right,Vd]<;>omega
 unfold IntKind.wrap;simp only[IntKind.bits,IntKind.signed,e,Td,Sg]
 split<;>omega
theorem xA(m:Nat)(h:m<9223372036854775808):IntKind.wrap .i64 (Int.negSucc m)=Int.negSucc m:=by have h1:=Int.negSucc_eq m;generalize Int.negSucc m=z at *;exact wG z (by omega) (by omega)
theorem iN(k:IntKind)(n:Int):tz k n=k.wrap n:=by
 unfold tz
 split
 ·rename_i m;rw[aa];split
  ·rename_i h;rw[Tg]at h;exact (nO m h).symm
  ·rfl
 ·rename_i m;rw[aa];split
  ·rename_i h;rw[Tg]at h;exact (xA m h).symm
  ·rfl
 ·simp only[IntKind.wrap,IntKind.bits,IntKind.signed];rfl
 ·simp only[IntKind.wrap,IntKind.bits,IntKind.signed];rfl
 ·rfl
theorem mo(a b:Int):ye a b=decide (a<b):=by rw[Tz,decide_eq_true_iff];cases a<;>cases b<;>simp only[ye,Tg,Int.negSucc_eq,TN,TC,false_iff,true_iff]<;>omega
theorem qH(a b:Int):D_ a b=decide (a=b):=by
 rw[Tz,decide_eq_true_iff];cases a<;>cases b<;>simp only[D_,Int.negSucc_eq,TN,TC,false_iff]
 ·rw[Nat.beq_eq];omega
 ·omega
 ·omega
 ·rw[Nat.beq_eq];omega
theorem qe(a b:IntKind):cV a b=decide (a=b):=by cases a<;>cases b<;>rfl
end Hx
end
section
namespace Hx
open Go
structure Gh where
 kind:Nat
 ep:Nat
 sz:Nat
 n:Nat
 blk:Nat
 base:Nat
 slack:Nat
 wr:Bool
abbrev Gm:=Nat->Gh
def Mut(γ:Gm)(b:Nat):Prop:=∃id,(γ id).kind≠0/\(γ id).wr=true/\(γ id).blk=b
def adr(b o:Nat):Addr:=⟨b,o,none⟩
def ju(lim:Option Nat)(off cap:Nat)(g:Gh):Prop :=
 match lim with
 |some c=>cap=c/\off+c<=g.n
 |none=>off+cap=g.n+g.slack
inductive Closed:AV->Prop
 |bool (b:Bool):Closed (.bool b)
 |int (k:IntKind) (n:Int):Closed (.int k n)
 |str (s:ByteArray):Closed (.str s)
 |tup (xs:List AV) (h:∀x∈xs,Closed x):Closed (.tup xs)
 |agg (xs:List AV) (h:∀x∈xs,Closed x):Closed (.agg xs)
 |nilp:Closed .nilp
 |nils:Closed .nils
 |nilf:Closed .nilf
 |nilm:Closed .nilm
 |nili:Closed .nili
 |esl:Closed .esl
 |tsl (tag sz:Nat) (rows:List (List AV)) (h:∀row∈rows,∀x∈row,Closed x):Closed (.tsl tag sz rows)
 |tptr (tag sz:Nat) (rows:List (List AV)) (i off:Nat) (h:∀row∈rows,∀x∈row,Closed x):Closed (.tptr tag sz rows i off)
 |clo (f:Nat) (xs ys:List AV) (h:∀x∈xs,Closed x) (h2:∀x∈ys,Closed x):Closed (.clo f xs ys)
 |ifc (t:Nat) (x:AV) (h:Closed x):Closed (.ifc t x)
inductive RV (w:World) (γ:Gm) (A:Nat->Nat->Prop):Nat->AV->Value->Prop
 |bool (bd:Nat) (b:Bool):RV w γ A bd (.bool b) (.bool b)
 |int (bd:Nat) (k:IntKind) (n:Int):RV w γ A bd (.int k n) (.int k n)
 |str (bd:Nat) (s:ByteArray):RV w γ A bd (.str s) (.string s)
 | tup (bd:Nat) (xs:List AV) (vs:Array Value) (hl:xs.length=vs.size)
   (h:∀(i:Nat) x v,xs[i]?=some x->vs[i]?=some v->RV w γ A bd x v):RV w γ A bd (.tup xs) (.tuple vs)
 | agg (bd:Nat) (xs:List AV) (vs:Array Value) (hl:xs.length=vs.size) (h1:∀(i:Nat) x,xs[i]?=some x->x.one=true)
   (h:∀(i:Nat) x v,xs[i]?=some x->vs[i]?=some v->RV w γ A bd x v):RV w γ A bd (.agg xs) (.agg vs)
 |nilp (bd:Nat):RV w γ A bd .nilp (.pointer none)
 |nils (bd:Nat):RV w γ A bd .nils (.slice none 0 0)
 |nilf (bd:Nat):RV w γ A bd .nilf .nilFunc
 |nilm (bd:Nat):RV w γ A bd .nilm (.map none)
 |nili (bd:Nat):RV w γ A bd .nili .nilIface
 |esl (bd:Nat) (a:Addr):RV w γ A bd .esl (.slice (some a) 0 0)
 | tsl (bd tag sz:Nat) (rows:List (List AV)) (b o cap:Nat) (cell:Nat->Nat->Value) (ht:tag<=bd) (hc:rows.length<=cap)
   (hb:b<w.heap.size) (hm:¬Mut γ b) (ha:¬A tag b)
   (hr:∀(i:Nat) row,rows[i]?=some row->row.length=sz)
   (ho:∀(i j:Nat) row x,rows[i]?=some row->row[j]?=some x->x.one=true)
   (hw:∀(i j:Nat) row x,rows[i]?=some row->row[j]?=some x->w.cell? (adr b (o+i*sz+j))=some (cell i j))
   (h:∀(i j:Nat) row x,rows[i]?=some row->row[j]?=some x->RV w γ A tag x (cell i j))
   (hcl:∀row∈rows,∀x∈row,Closed x) :
   RV w γ A bd (.tsl tag sz rows) (.slice (some (adr b o)) rows.length cap)
 |tnil (bd tag sz:Nat) (a:Addr) (cap:Nat) (ht:tag<=bd):RV w γ A bd (.tsl tag sz []) (.slice (some a) 0 cap)
 | tptr (bd tag sz:Nat) (rows:List (List AV)) (i0 off0 b o:Nat) (cell:Nat->Nat->Value) (ht:tag<=bd)
   (hb:b<w.heap.size) (hm:¬Mut γ b) (ha:¬A tag b)
   (hr:∀(i:Nat) row,rows[i]?=some row->row.length=sz)
   (ho:∀(i j:Nat) row x,rows[i]?=some row->row[j]?=some x->x.one=true)
   (hw:∀(i j:Nat) row x,rows[i]?=some row->row[j]?=some x->w.cell? (adr b (o+i*sz+j))=some (cell i j))
   (h:∀(i j:Nat) row x,rows[i]?=some row->row[j]?=some x->RV w γ A tag x (cell i j))
   (hcl:∀row∈rows,∀x∈row,Closed x) :
   RV w γ A bd (.tptr tag sz rows i0 off0) (.pointer (some (adr b (o+i0*sz+off0))))
 | hsl (bd id ep off len:Nat) (lim:Option Nat) (b o cap:Nat) (hk:(γ id).kind=1) (he:ep<=(γ id).ep) (hc:len<=cap)
   (h:ep=(γ id).ep->b=(γ id).blk/\o=(γ id).base+off*(γ id).sz/\ju lim off cap (γ id)) :
   RV w γ A bd (.hsl id ep off len lim) (.slice (some (adr b o)) len cap)
 | hptr (bd id ep i off:Nat) (b o:Nat) (hk:(γ id).kind=1) (he:ep<=(γ id).ep)
   (h:ep=(γ id).ep->b=(γ id).blk/\o=(γ id).base+i*(γ id).sz+off) :
   RV w γ A bd (.hptr id ep i off) (.pointer (some (adr b o)))
 | clo (bd f:Nat) (xs ys:List AV) (vs us:Array Value) (hl:xs.length=vs.size) (hl2:ys.length=us.size)
   (h:∀(i:Nat) x v,xs[i]?=some x->vs[i]?=some v->RV w γ A bd x v)
   (h2:∀(i:Nat) x v,ys[i]?=some x->us[i]?=some v->RV w γ A bd x v):RV w γ A bd (.clo f xs ys) (.func (.func f) vs us)
 |hmap (bd id b:Nat) (hk:(γ id).kind=2) (hb:b=(γ id).blk):RV w γ A bd (.hmap id) (.map (some b))
 |ifc (bd t:Nat) (x:AV) (v:Value) (h:RV w γ A bd x v):RV w γ A bd (.ifc t x) (.iface t v)
 |yld (bd id b:Nat) (hk:(γ id).kind=3) (hb:b=(γ id).blk):RV w γ A bd (.yld id) (.func (.yield b) #[] #[])
def RVs(w:World)(γ:Gm)(A:Nat->Nat->Prop)(bd:Nat)(xs:List AV)(vs:List Value):Prop :=
 xs.length=vs.length/\∀(i:Nat) x v,xs[i]?=some x->vs[i]?=some v->RV w γ A bd x v
theorem RV.mono{w:World}{γ:Gm}{A:Nat->Nat->Prop}{bd bd':Nat}{x:AV}{v:Value}(h:RV w γ A bd x v)(hb:bd<=bd') :
  RV w γ A bd' x v:=by
 induction h generalizing bd' with
 |bool=>exact .bool _ _
 |int=>exact .int _ _ _
 |str=>exact .str _ _
 |tup _ xs vs hl _ ih=>exact .tup _ _ _ hl λi x v h1 h2=>ih i x v h1 h2 hb
 |agg _ xs vs hl h1 _ ih=>exact .agg _ _ _ hl h1 λi x v h1 h2=>ih i x v h1 h2 hb
 |nilp=>exact .nilp _
 |nils=>exact .nils _
 |nilf=>exact .nilf _
 |nilm=>exact .nilm _
 |nili=>exact .nili _
 |esl=>exact .esl _ _
 |tsl _ tag sz rows b o cap cell ht hc hb' hm ha hr ho hw h hcl _=>exact .tsl _ tag sz rows b o cap cell (Sz ht hb) hc hb' hm ha hr ho hw h hcl
 |tnil _ tag sz a cap ht=>exact .tnil _ tag sz a cap (Sz ht hb)
 |tptr _ tag sz rows i0 off0 b o cell ht hb' hm ha hr ho hw h hcl _=>exact .tptr _ tag sz rows i0 off0 b o cell (Sz ht hb) hb' hm ha hr ho hw h hcl
 |hsl _ id ep off len lim b o cap hk he hc h=>exact .hsl _ id ep off len lim b o cap hk he hc h
 |hptr _ id ep i off b o hk he h=>exact .hptr _ id ep i off b o hk he h
 |clo _ f xs ys vs us hl hl2 _ _ ih ih2=>exact .clo _ f xs ys vs us hl hl2 (λi x v h1 h2=>ih i x v h1 h2 hb) (λi x v h1 h2=>ih2 i x v h1 h2 hb)
 |hmap _ id b hk hb'=>exact .hmap _ id b hk hb'
 |ifc _ t x v _ ih=>exact .ifc _ t x v (ih hb)
 |yld _ id b hk hb'=>exact .yld _ id b hk hb'
structure Stp (w:World) (γ:Gm) (w':World) (γ':Gm):Prop where
 sz:w.heap.size<=w'.heap.size
 os:w'.os=w.os
 tape:w'.tape=w.tape
 output:w'.output=w.output
 fr:∀b,b<w.heap.size->¬Mut γ b->w'.heap[b]?=w.heap[b]?
 mt:∀b,b<w.heap.size->Mut γ' b->Mut γ b
 kind:∀id,(γ id).kind≠0->(γ' id).kind=(γ id).kind/\(γ' id).blk=(γ id).blk\/(γ id).kind=1/\(γ' id).kind=1/\(γ id).ep<(γ' id).ep
 ep:∀id,(γ id).kind=1->(γ id).ep<=(γ' id).ep /\
  ((γ' id).ep=(γ id).ep->(γ' id).sz=(γ id).sz/\(γ' id).n=(γ id).n/\(γ' id).blk=(γ id).blk/\(γ' id).base=(γ id).base/\(γ' id).slack=(γ id).slack)
theorem Stp.refl(w:World)(γ:Gm):Stp w γ w γ :=
 ⟨R5 _,rfl,rfl,rfl,λ_ _ _=>rfl,λ_ _ h=>h,λ_ _=>.inl ⟨rfl,rfl⟩,λ_ _=>⟨R5 _,λ_=>⟨rfl,rfl,rfl,rfl,rfl⟩⟩⟩
theorem Stp.kind_eq{w w':World}{γ γ':Gm}(h:Stp w γ w' γ'){id:Nat}(hk:(γ id).kind≠0):(γ' id).kind=(γ id).kind:=by
 rcases h.kind id hk with h1|h1
 ·exact h1.1
 ·rw[h1.1,h1.2.1]
theorem Stp.blk_eq{w w':World}{γ γ':Gm}(h:Stp w γ w' γ'){id:Nat}(hk:(γ id).kind≠0)(h1:(γ id).kind≠1):(γ' id).blk=(γ id).blk:=by
 rcases h.kind id hk with h2|h2
 ·exact h2.2
 ·exact absurd h2.1 h1
theorem Stp.trans{w w' w'':World}{γ γ' γ'':Gm}(h:Stp w γ w' γ')(h':Stp w' γ' w'' γ''):Stp w γ w'' γ'' where
 sz:=Sz h.sz h'.sz
 os:=h'.os.trans h.os
 tape:=h'.tape.trans h.tape
 output:=h'.output.trans h.output
 fr b hb hm:=by rw[h'.fr b (SB hb h.sz) (λk=>hm (h.mt b hb k)),h.fr b hb hm]
 mt b hb k:=h.mt b hb (h'.mt b (SB hb h.sz) k)
 kind id hk:=by
  have h1:=h.kind_eq hk;have hk':(γ' id).kind≠0:=by rw[h1];exact hk
  rcases h.kind id hk with a|a
  ·rcases h'.kind id hk' with c|c
   ·exact .inl ⟨c.1.trans a.1,c.2.trans a.2⟩
   ·refine .inr ⟨by rw[<-a.1];exact c.1,c.2.1,Uy (h.ep id (by rw[<-a.1];exact c.1)).1 c.2.2⟩
  ·exact .inr ⟨a.1,by rw[h'.kind_eq hk',a.2.1],SB a.2.2 (h'.ep id a.2.1).1⟩
 ep id hk:=by
  have h1:=h.ep id hk;have hk':(γ' id).kind=1:=by rw[h.kind_eq (by rw[hk];decide),hk]
  have h2:=h'.ep id hk';refine⟨Sz h1.1 h2.1,λhe=>?_⟩;have e1:(γ' id).ep=(γ id).ep:=Nat.le_antisymm (by rw[<-he];exact h2.1) h1.1;have e2:(γ'' id).ep=(γ' id).ep:=by rw[he,e1]
  obtain⟨a1,a2,a3,a4,a5⟩:=h1.2 e1;obtain⟨b1,b2,b3,b4,b5⟩:=h2.2 e2;exact⟨b1.trans a1,b2.trans a2,b3.trans a3,b4.trans a4,b5.trans a5⟩
theorem B3{w w':World}{a:Addr}(h:w'.heap[a.block]?=w.heap[a.block]?):w'.cell? a=w.cell? a:=by simp only[World.cell?,h]
theorem Ga{w:World}{a:Addr}{v:Value}(h:w.cell? a=some v):a.block<w.heap.size:=by
 simp only[World.cell?]at h;rcases TW a.block w.heap.size with hl|hl
 ·exact hl
 ·rw[TL hl]at h;simp at h
theorem RV.step{w w':World}{γ γ':Gm}{A:Nat->Nat->Prop}{bd:Nat}{x:AV}{v:Value}(h:RV w γ A bd x v)(s:Stp w γ w' γ') :
  RV w' γ' A bd x v:=by
 induction h with
 |bool=>exact .bool _ _
 |int=>exact .int _ _ _
 |str=>exact .str _ _
 |tup _ xs vs hl _ ih=>exact .tup _ _ _ hl ih
 |agg _ xs vs hl h1 _ ih=>exact .agg _ _ _ hl h1 ih
 |nilp=>exact .nilp _
 |nils=>exact .nils _
 |nilf=>exact .nilf _
 |nilm=>exact .nilm _
 |nili=>exact .nili _
 |esl=>exact .esl _ _
 | tsl _ tag sz rows b o cap cell ht hc hb hm ha hr ho hw _ hcl ih =>
  refine .tsl _ tag sz rows b o cap cell ht hc (SB hb s.sz) (λk=>hm (s.mt b hb k)) ha hr ho (λi j row x h1 h2=>?_) ih hcl;rw[B3 (a:=adr b _) (s.fr b hb hm)];exact hw i j row x h1 h2
 |tnil _ tag sz a cap ht=>exact .tnil _ tag sz a cap ht
 | tptr _ tag sz rows i0 off0 b o cell ht hb hm ha hr ho hw _ hcl ih =>
  refine .tptr _ tag sz rows i0 off0 b o cell ht (SB hb s.sz) (λk=>hm (s.mt b hb k)) ha hr ho (λi j row x h1 h2=>?_) ih hcl;rw[B3 (a:=adr b _) (s.fr b hb hm)];exact hw i j row x h1 h2
 | hsl _ id ep off len lim b o cap hk he hc h =>
  have e:=s.ep id hk;refine .hsl _ id ep off len lim b o cap (by rw[s.kind_eq (by rw[hk];decide),hk]) (Sz he e.1) hc λh'=>?_;have e1:(γ' id).ep=(γ id).ep:=Nat.le_antisymm (by rw[<-h'];exact he) e.1;obtain⟨a1,a2,a3,a4,a5⟩:=e.2 e1;obtain⟨c1,c2,c3⟩:=h (h'.trans e1);refine⟨by rw[a3];exact c1,by rw[a1,a4];exact c2,?_⟩;unfold ju at *;cases lim<;>simp only[a2,a5]at *<;>exact c3
 | hptr _ id ep i off b o hk he h =>
  have e:=s.ep id hk;refine .hptr _ id ep i off b o (by rw[s.kind_eq (by rw[hk];decide),hk]) (Sz he e.1) λh'=>?_;have e1:(γ' id).ep=(γ id).ep:=Nat.le_antisymm (by rw[<-h'];exact he) e.1;obtain⟨a1,a2,a3,a4,a5⟩:=e.2 e1;obtain⟨c1,c2⟩:=h (h'.trans e1);exact⟨by rw[a3];exact c1,by rw[a1,a4];exact c2⟩
 |clo _ f xs ys vs us hl hl2 _ _ ih ih2=>exact .clo _ f xs ys vs us hl hl2 ih ih2
 | hmap _ id b hk hb =>
  exact .hmap _ id b (by rw[s.kind_eq (by rw[hk];decide),hk]) (by rw[s.blk_eq (by rw[hk];decide) (by rw[hk];decide)];exact hb)
 |ifc _ t x v _ ih=>exact .ifc _ t x v ih
 | yld _ id b hk hb =>
  exact .yld _ id b (by rw[s.kind_eq (by rw[hk];decide),hk]) (by rw[s.blk_eq (by rw[hk];decide) (by rw[hk];decide)];exact hb)
theorem RVs.step{w w':World}{γ γ':Gm}{A:Nat->Nat->Prop}{bd:Nat}{xs:List AV}{vs:List Value}(h:RVs w γ A bd xs vs)(s:Stp w γ w' γ') :
  RVs w' γ' A bd xs vs:=⟨h.1,λi x v h1 h2=>(h.2 i x v h1 h2).step s⟩
def ObjRel(w:World)(γ:Gm)(A:Nat->Nat->Prop)(bd:Nat)(id:Nat):AObj->Prop
 |.none=>(γ id).kind=0
 | .cells sz rows ep loose fz=>(γ id).kind=1/\(γ id).ep=ep/\(γ id).sz=sz/\(γ id).n=rows.length/\((loose=false->(γ id).slack=0)/\(loose=true->rows.length+(γ id).slack<=9223372036854775807))/\(γ id).wr = !fz /\
   ∃(c:Array Value) (elem:TypeId),w.heap[(γ id).blk]?=some (.cells c elem (0,0))/\(γ id).base+(rows.length+(γ id).slack)*sz<=c.size /\
    (∀(i:Nat) row,rows[i]?=some row->row.length=sz) /\
    (∀(i j:Nat) row x,rows[i]?=some row->row[j]?=some x->x.one=true/\∃v,c[(γ id).base+i*sz+j]?=some v/\RV w γ A bd x v)
 | .map es=>(γ id).kind=2/\(γ id).wr=true /\
   ∃esC:Array MapEntry,w.heap[(γ id).blk]?=some (.map esC esC.size)/\es.length=esC.size /\
    (∀(i:Nat) k x e,es[i]?=some (k,x)->esC[i]?=some e->e.born=i/\RV w γ A bd k e.key/\RV w γ A bd x e.val)
 | .loop nt t ps assign body dfr st pend=>(γ id).kind=3/\(γ id).wr=true /\
   ∃L:Loop,w.heap[(γ id).blk]?=some (.loop L)/\L.state=st/\L.pending=pend/\L.params.toList=ps/\L.assign=assign/\L.body=body/\L.tmps.size=nt /\
    (∀i,RV w γ A bd (t.get AV.undef i) (L.tmps.getD i undef))/\(γ dfr).kind=4/\L.defers=(γ dfr).blk
 |.dfr live=>(γ id).kind=4/\(γ id).wr=true/\w.heap[(γ id).blk]?=some (.deferred (if live then some [] else none))
structure Rel (C:Cfg) (A:Nat->Nat->Prop) (bd:Nat) (w:World) (γ:Gm) (hg:Nat->AObj) (nx:Nat):Prop where
 obj:∀id,ObjRel w γ A bd id (hg id)
 lt:∀id,(γ id).kind≠0->id<nx/\(γ id).blk<w.heap.size
 inj:∀i j,(γ i).kind≠0->(γ j).kind≠0->(γ i).blk=(γ j).blk->i=j
 av:∀id,(γ id).kind≠0->∀t,¬A t (γ id).blk
 ab:∀t b,A t b->b<w.heap.size
 glob:∀g sz rows,C.glob g=some (sz,rows)->RV w γ A bd (.tptr 0 sz rows 0 0) (.pointer (some ⟨g,0,none⟩))
end Hx
end
section
namespace Hx
open Go
section
variable {P:Program}{w:World}
theorem gL(b o n:Nat):(adr b o).add n=adr b (o+n):=by
 unfold Addr.add adr;split
 ·rename_i h;subst h;rfl
 ·rfl
theorem lI{t:TypeId}{i:TypeInfo}(h:P.info? t=some i):(typeInfo t).run P w=.ok i w:=by simp[typeInfo,h]
theorem ba{t:TypeId}{n:Nat}(h:szT P t=some n):(Go.sizeOf t).run P w=.ok n w:=by
 unfold szT at h;cases hi:P.info? t with
 |none=>rw[hi]at h;cases h
 |some i=>rw[hi]at h;simp at h;simp[Go.sizeOf,lI hi,h]
theorem aF{t:TypeId}{d:TypeDesc}(h:P.underlying t=some d):(underlying t).run P w=.ok d w:=by simp[underlying,h]
theorem mG{t:TypeId}{b:Bool}(h:rL P t=some b):(isAgg t).run P w=.ok b w:=by
 unfold rL at h;cases hd:P.underlying t with
 |none=>rw[hd]at h;cases h
 |some d=>rw[hd]at h;cases d<;>simp at h<;>subst h<;>simp[isAgg,aF hd]
theorem vV{b o:Nat}:∀(n i:Nat) (acc:Array Value) (cs:List Value),cs.length=n ->
  (∀(j:Nat) c,cs[j]?=some c->w.cell? (adr b (o+(i+j)))=some c) ->
  (loadCellsFrom (adr b o) i n acc).run P w=.ok (acc++cs.toArray) w:=by
 intro n
 induction n with
 |zero=>intro i acc cs hl _;have:cs=[]:=SD hl;subst this;simp[loadCellsFrom]
 | succ n ih =>
  intro i acc cs hl h;cases cs with
  |nil=>cases hl
  | cons c cs =>
   have h0:=h 0 c rfl;simp only[TV]at h0;simp only[loadCellsFrom,Sn,run_load,gL,h0,Sc];rw[ih (i+1) (acc.push c) cs (by simpa using hl) (λj x hj=>by
    have:=h (j+1) x (by simpa using hj);rw[show i+1+j=i+(j+1) from by omega];exact this)]
   simp
theorem ui{b o:Nat}{cs:List Value}(h:∀(j:Nat) c,cs[j]?=some c->w.cell? (adr b (o+j))=some c) :
  (loadCells (adr b o) cs.length).run P w=.ok cs.toArray w:=by
 unfold loadCells;rw[vV cs.length 0 #[] cs rfl (λj c hj=>by simpa using h j c hj)];simp
def World.setBlk(w:World)(b:Nat)(o:Obj):World:={ w with heap:=w.heap.setIfInBounds b o }
def bj(c:Array Value)(o:Nat):List Value->Array Value
 |[]=>c
 |v::vs=>bj (c.setIfInBounds o v) (o+1) vs
theorem bP(vs:List Value):∀(c:Array Value) (o:Nat),(bj c o vs).size=c.size:=by
 induction vs with
 |nil=>intro c o;rfl
 |cons v vs ih=>intro c o;simp[bj,ih]
theorem ch(vs:List Value):∀(c:Array Value) (o k:Nat),o+vs.length<=c.size ->
  (bj c o vs)[k]?=if o<=k/\k<o+vs.length then vs[k - o]? else c[k]?:=by
 induction vs with
 |nil=>intro c o k _;simp[bj];intro h1 h2;omega
 | cons v vs ih =>
  intro c o k h;simp only[SJ]at h;simp only[bj];rw[ih _ _ _ (by simp;omega)];simp only[SJ]
  by_cases h1:k=o
  ·subst h1;rw[Sa (by omega),Sb ⟨R5 _,by omega⟩];simp[TX];omega
  ·by_cases h2:o<=k/\k<o+(vs.length+1)
   ·rw[Sb (by omega),Sb h2,show k - o=(k - (o+1))+1 from by omega];rfl
   ·rw[Sa (by omega),Sa h2,T3 (by omega)]
theorem aZ(b:Nat)(o:Obj)(k:Nat):(World.setBlk w b o).heap[k]?=if k=b/\b<w.heap.size then some o else w.heap[k]?:=by
 simp only[World.setBlk,TX]
 by_cases h:b=k
 ·subst h;simp;split
  ·rfl
  ·rename_i hh;rw[TL (by omega)]
 ·rw[Sa h,Sa (by omega)]
theorem pA(b:Nat)(o o':Obj):World.setBlk (World.setBlk w b o) b o'=World.setBlk w b o':=by simp only[World.setBlk,Array.setIfInBounds_setIfInBounds]
@[simp] theorem setBlk_size (b:Nat) (o:Obj):(World.setBlk w b o).heap.size=w.heap.size:=by simp[World.setBlk]
theorem An{b o:Nat}{v:Value}{c:Array Value}{e:TypeId}{f:Nat×Nat}(h:w.heap[b]?=some (.cells c e f)) :
  w.setCell (adr b o) v=World.setBlk w b (.cells (c.setIfInBounds o v) e f):=by
 have hb:b<w.heap.size:=by
  rcases TW b w.heap.size with hl|hl
  ·exact hl
  ·rw[TL hl]at h;cases h
 have hx:w.heap[b]=.cells c e f:=by simpa [Sv hb] using h
 simp only[World.setCell,World.setBlk,adr];congr 1;apply U1;intro k;rw[U9,TX]
 by_cases hk:b=k
 ·subst hk;simp[hb,hx]
 ·rw[Sa hk,Sa hk]
theorem pK{b o:Nat}{c:Array Value}{e:TypeId}{f:Nat×Nat}(h:w.heap[b]?=some (.cells c e f)):w.cell? (adr b o)=c[o]?:=by simp[World.cell?,adr,h]
theorem tx{b o:Nat}{e:TypeId}:∀(vs:List Value) (i:Nat) (w:World) (c:Array Value),w.heap[b]?=some (.cells c e (0,0)) ->
  o+i+vs.length<=c.size->(∀v∈vs,v.oneCell'=true) ->
  (storeCells (adr b o) vs i).run P w=.ok () (World.setBlk w b (.cells (bj c (o+i) vs) e (0,0))):=by
 intro vs
 induction vs with
 | nil =>
  intro i w c h _ _;have hb:b<w.heap.size:=by
   rcases TW b w.heap.size with hl|hl
   ·exact hl
   ·rw[TL hl]at h;cases h
  have:World.setBlk w b (.cells c e (0,0))=w:=by
   have hx:w.heap[b]=.cells c e (0,0):=by simpa [Sv hb] using h
   simp only[World.setBlk];congr 1;apply U1;intro k;rw[TX]
   split
   ·rename_i hk;subst hk;simp[hb,hx]
   ·rfl
  simp[storeCells,bj,this]
 | cons v vs ih =>
  intro i w c h hs h1;simp only[SJ]at hs;have hv:v.oneCell'=true:=h1 v (by simp);have hcell:w.cell? (adr b (o+i))=c[o+i]?:=pK h;have hin:o+i<c.size:=by omega
  have hfz:w.frozen? (adr b (o+i))=false:=by simp[World.frozen?,adr,h]
  simp only[storeCells,Sn,gL,run_store P w _ v _ hv,hcell,Sv hin,hfz];simp only[TC,if_false,Sc,An h];have hb:b<w.heap.size:=by
   rcases TW b w.heap.size with hl|hl
   ·exact hl
   ·rw[TL hl]at h;cases h
  rw[ih (i+1) _ (c.setIfInBounds (o+i) v) (by rw[aZ];simp[hb]) (by simp;omega) (λx hx=>h1 x (by simp[hx])),pA]
  rfl
end
theorem Gl{w:World}{γ:Gm}{A:Nat->Nat->Prop}{bd:Nat}{x:AV}{v:Value}(h:RV w γ A bd x v)(h1:x.one=true) :
  v.oneCell'=true/\v.cells=#[v]:=by
 cases h<;>first| (cases h1;done)|exact⟨rfl,rfl⟩
theorem pL{w:World}{γ:Gm}{A:Nat->Nat->Prop}{bd:Nat}{x:AV}{v:Value}(h:RV w γ A bd x v)(ht:x.isTup=false) :
  RVs w γ A bd x.cells v.cells.toList/\(∀(i:Nat) y,x.cells[i]?=some y->y.one=true):=by
 by_cases h1:x.one=true
 ·have hx:x.cells=[x]:=by cases x<;>first|rfl|cases h1
  obtain⟨_,h3⟩:=Gl h h1;rw[hx,h3];refine⟨⟨rfl,λi y u hy hu=>?_⟩,λi y hy=>?_⟩
  ·cases i with
   |zero=>simp at hy hu;subst hy;subst hu;exact h
   |succ i=>simp at hy
  ·cases i with
   |zero=>simp at hy;subst hy;exact h1
   |succ i=>simp at hy
 ·cases h<;>first| (exact absurd rfl h1)| (cases ht;done)|skip
  rename_i xs vs hl h1' h';exact⟨⟨by simpa [AV.cells,Value.cells] using hl,λi y u hy hu=>h' i y u hy (by simpa [Value.cells] using hu)⟩,h1'⟩
theorem Ie{w:World}{γ:Gm}{A:Nat->Nat->Prop}{bd:Nat}{xs:List AV}{vs:List Value}(h:RVs w γ A bd xs vs)
  (h1:∀(i:Nat) y,xs[i]?=some y->y.one=true):∀v∈vs,v.oneCell'=true:=by
 intro v hv;obtain⟨i,hi⟩:=SE hv;have hlt:i<xs.length:=by rw[h.1];exact (R6.1 hi).1
 exact (Gl (h.2 i _ v (R4 hlt) hi) (h1 i _ (R4 hlt))).1
end Hx
end
section
namespace Hx
open Go
def upd{α:Type}(f:Nat->α)(i:Nat)(x:α):Nat->α:=λk=>if k=i then x else f k
@[simp] theorem upd_same {α:Type} (f:Nat->α) (i:Nat) (x:α):upd f i x i=x:=by simp[upd]
theorem cE{α:Type}(f:Nat->α){i k:Nat}(x:α)(h:k≠i):upd f i x k=f k:=by simp[upd,h]
section
variable {C:Cfg}{A:Nat->Nat->Prop}{bd:Nat}{w w':World}{γ γ':Gm}{hg:Nat->AObj}{nx nx':Nat}
theorem ObjRel.step{j:Nat}{o:AObj}(h:ObjRel w γ A bd j o)(s:Stp w γ w' γ')(hj:γ' j=γ j)
  (hb:(γ j).kind≠0->o≠.none->w'.heap[(γ j).blk]?=w.heap[(γ j).blk]?):ObjRel w' γ' A bd j o:=by
 cases o with
 |none=>simpa only[ObjRel,hj] using h
 | cells sz rows ep loose fz =>
  obtain⟨h1,h2,h3,h4,h5,h6,c,e,h7,h8,h9,h10⟩:=h;simp only[ObjRel,hj];refine⟨h1,h2,h3,h4,h5,h6,c,e,?_,h8,h9,λi j' row x hr hx=>?_⟩
  ·rw[hb (by rw[h1];decide) (by simp)];exact h7
  ·obtain⟨a,v,b1,b2⟩:=h10 i j' row x hr hx;exact⟨a,v,b1,b2.step s⟩
 | map es =>
  obtain⟨h1,h2,esC,h3,h4,h5⟩:=h;simp only[ObjRel,hj];refine⟨h1,h2,esC,by rw[hb (by rw[h1];decide) (by simp)];exact h3,h4,λi k x e a b=>?_⟩;obtain⟨c1,c2,c3⟩:=h5 i k x e a b;exact⟨c1,c2.step s,c3.step s⟩
 | loop nt t ps assign body dfr st pend =>
  obtain⟨h1,h2,L,h3,h4,h5,h6,h7,h8,h9,h10,h11,h12⟩:=h;simp only[ObjRel,hj];have hd:(γ dfr).kind≠0:=by rw[h11];decide
  refine⟨h1,h2,L,by rw[hb (by rw[h1];decide) (by simp)];exact h3,h4,h5,h6,h7,h8,h9,λi=>(h10 i).step s,by rw[s.kind_eq hd,h11],?_⟩;rw[h12,s.blk_eq hd (by rw[h11];decide)]
 | dfr live =>
  obtain⟨h1,h2,h3⟩:=h;simp only[ObjRel,hj];exact⟨h1,h2,by rw[hb (by rw[h1];decide) (by simp)];exact h3⟩
theorem Rel.set(h:Rel C A bd w γ hg nx){id:Nat}{gh:Gh}{o:AObj}(hγ:γ'=upd γ id gh)(s:Stp w γ w' γ')(hn:nx<=nx')
  (ho:ObjRel w' γ' A bd id o) (hlt:id<nx'/\gh.blk<w'.heap.size) (hinj:∀j,j≠id->(γ j).kind≠0->(γ j).blk≠gh.blk)
  (hav:∀t,¬A t gh.blk)
  (hoth:∀j,j≠id->(γ j).kind≠0->hg j≠.none->w'.heap[(γ j).blk]?=w.heap[(γ j).blk]?) :
  Rel C A bd w' γ' (upd hg id o) nx':=by
 subst hγ;constructor
 ·intro j
  by_cases hj:j=id
  ·subst hj;simpa using ho
  ·rw[cE _ _ hj];exact (h.obj j).step s (cE _ _ hj) (hoth j hj)
 ·intro j hk
  by_cases hj:j=id
  ·subst hj;simpa using hlt
  ·rw[cE _ _ hj]at hk ⊢;exact⟨SB (h.lt j hk).1 hn,SB (h.lt j hk).2 s.sz⟩
 ·intro i j hi hj e
  by_cases h1:i=id<;>by_cases h2:j=id
  ·rw[h1,h2]
  ·subst h1;rw[cE _ _ h2]at hj e;simp only[upd_same]at e;exact absurd e.symm (hinj j h2 hj)
  ·subst h2;rw[cE _ _ h1]at hi e;simp only[upd_same]at e;exact absurd e (hinj i h1 hi)
  ·rw[cE _ _ h1]at hi e;rw[cE _ _ h2]at hj e;exact h.inj i j hi hj e
 ·intro j hk
  by_cases hj:j=id
  ·subst hj;simpa using hav
  ·rw[cE _ _ hj]at hk ⊢;exact h.av j hk
 ·intro t b hb;exact SB (h.ab t b hb) s.sz
 ·intro g sz rows hg';exact (h.glob g sz rows hg').step s
theorem Rel.up(h:Rel C A bd w γ hg nx)(hn:nx<=nx'):Rel C A bd w γ hg nx' :=
 ⟨h.obj,λid hk=>⟨SB (h.lt id hk).1 hn,(h.lt id hk).2⟩,h.inj,h.av,h.ab,h.glob⟩
theorem tQ{id:Nat}{o:Obj}(hk:(γ id).kind≠0)(hw:(γ id).wr=true):Stp w γ (World.setBlk w (γ id).blk o) γ where
 sz:=by simp
 os:=rfl
 tape:=rfl
 output:=rfl
 fr b hb hm:=by rw[aZ,Sa];rintro⟨h,_⟩;exact hm ⟨id,hk,hw,h.symm⟩
 mt b _ h:=h
 kind _ _:=.inl ⟨rfl,rfl⟩
 ep _ _:=⟨R5 _,λ_=>⟨rfl,rfl,rfl,rfl,rfl⟩⟩
theorem Rel.setBlk(h:Rel C A bd w γ hg nx){id:Nat}{o:Obj}{ao:AObj}(hk:(γ id).kind≠0)(hw:(γ id).wr=true)
  (ho:ObjRel (World.setBlk w (γ id).blk o) γ A bd id ao) :
  Rel C A bd (World.setBlk w (γ id).blk o) γ (upd hg id ao) nx/\Stp w γ (World.setBlk w (γ id).blk o) γ:=by
 have s:=tQ (w:=w) (o:=o) hk hw;refine⟨?_,s⟩;have e:γ=upd γ id (γ id):=by funext k;unfold upd;split<;>simp_all
 refine h.set (gh:=γ id) e s (R5 _) ho ?_ ?_ ?_ ?_
 ·have:=h.lt id hk;exact⟨this.1,by simpa using this.2⟩
 ·intro j hj hkj eb;exact hj (h.inj j id hkj hk eb)
 ·exact h.av id hk
 ·intro j hj hkj _;rw[aZ,Sa];rintro⟨eb,_⟩;exact hj (h.inj j id hkj hk eb)
def World.add(w:World)(o:Obj):World:={ w with heap:=w.heap.push o }
@[simp] theorem add_size (o:Obj):(World.add w o).heap.size=w.heap.size+1:=by simp[World.add]
theorem lp(o:Obj)(b:Nat):(World.add w o).heap[b]?=if b=w.heap.size then some o else w.heap[b]?:=by simp only[World.add,US]
theorem CY{id:Nat}{gh:Gh}{o:Obj}(hid:(γ id).kind=0)(hb:gh.blk=w.heap.size):Stp w γ (World.add w o) (upd γ id gh) where
 sz:=by simp
 os:=rfl
 tape:=rfl
 output:=rfl
 fr b hb' _:=by rw[lp,Sa (by omega)]
 mt b hb':=by
  rintro⟨j,h1,h2,h3⟩
  by_cases hj:j=id
  ·subst hj;simp only[upd_same]at h3;omega
  ·rw[cE _ _ hj]at h1 h2 h3;exact⟨j,h1,h2,h3⟩
 kind j hj:=by
  have:j≠id:=by rintro rfl;exact hj hid
  rw[cE _ _ this];exact .inl ⟨rfl,rfl⟩
 ep j hj:=by
  have:j≠id:=by rintro rfl;rw[hid]at hj;cases hj
  rw[cE _ _ this];exact⟨R5 _,λ_=>⟨rfl,rfl,rfl,rfl,rfl⟩⟩
theorem Rel.add(h:Rel C A bd w γ hg nx){id:Nat}{gh:Gh}{o:Obj}{ao:AObj}(hid:(γ id).kind=0)(hb:gh.blk=w.heap.size)
  (hn:nx<=nx') (hi:id<nx') (ho:ObjRel (World.add w o) (upd γ id gh) A bd id ao) :
  Rel C A bd (World.add w o) (upd γ id gh) (upd hg id ao) nx'/\Stp w γ (World.add w o) (upd γ id gh):=by
 have s:=CY (w:=w) (o:=o) hid hb;refine⟨h.set (gh:=gh) rfl s hn ho ⟨hi,by simp[hb]⟩ ?_ ?_ ?_,s⟩
 ·intro j _ hkj e;have:=(h.lt j hkj).2;omega
 ·intro t ht;have:=h.ab t _ ht;omega
 ·intro j _ hkj _;have:=(h.lt j hkj).2;rw[lp,Sa (by omega)]
end
section
variable {C:Cfg}{A:Nat->Nat->Prop}{bd:Nat}{w:World}{γ:Gm}{hg:Nat->AObj}{nx nx':Nat}
theorem Rel.newCells(h:Rel C A bd w γ hg nx){id sz slack:Nat}{rows:List (List AV)}{loose:Bool}{c:Array Value}(e:TypeId)
  (hid:(γ id).kind=0) (hn:nx<=nx') (hi:id<nx') (hs:(loose=false->slack=0)/\(loose=true->rows.length+slack<=9223372036854775807)) (hc:(rows.length+slack)*sz<=c.size)
  (hr:∀(i:Nat) row,rows[i]?=some row->row.length=sz)
  (hv:∀(i j:Nat) row x,rows[i]?=some row->row[j]?=some x->x.one=true/\∃v,c[i*sz+j]?=some v/\RV w γ A bd x v) :
  ∃γ',Rel C A bd (World.add w (.cells c e (0,0))) γ' (upd hg id (.cells sz rows 0 loose false)) nx'/\Stp w γ (World.add w (.cells c e (0,0))) γ' /\
   (γ' id).kind=1/\(γ' id).ep=0/\(γ' id).sz=sz/\(γ' id).n=rows.length/\(γ' id).blk=w.heap.size/\(γ' id).base=0/\(γ' id).slack=slack:=by
 let gh:Gh:=⟨1,0,sz,rows.length,w.heap.size,0,slack,true⟩
 have s:=CY (w:=w) (o:=.cells c e (0,0)) (gh:=gh) hid rfl;obtain⟨r,s'⟩:=h.add (id:=id) (gh:=gh) (o:=.cells c e (0,0)) (ao:=.cells sz rows 0 loose false) hid rfl hn hi (by
  simp only[ObjRel,upd_same];refine⟨rfl,rfl,rfl,rfl,hs,rfl,c,e,by rw[lp];simp[gh],by simpa [gh] using hc,hr,λi j row x h1 h2=>?_⟩;obtain⟨a,v,b1,b2⟩:=hv i j row x h1 h2;exact⟨a,v,by simpa [gh] using b1,b2.step s⟩)
 exact⟨_,r,s',by simp[gh],by simp[gh],by simp[gh],by simp[gh],by simp[gh],by simp[gh],by simp[gh]⟩
theorem Rel.storeCells(h:Rel C A bd w γ hg nx){id sz ep:Nat}{rows rows':List (List AV)}{loose:Bool}
  (hid:hg id=.cells sz rows ep loose false) {o:Nat} {vs:List Value} {xs:List AV}
  (hvs:RVs w γ A bd xs vs) (h1:∀(i:Nat) y,xs[i]?=some y->y.one=true)
  (hlen:rows'.length=rows.length) (hr':∀(i:Nat) row,rows'[i]?=some row->row.length=sz)
  (hin:(γ id).base<=o/\o+vs.length<=(γ id).base+rows.length*sz)
  (hcells:∀(i j:Nat) row x,rows'[i]?=some row->row[j]?=some x ->
   (if o<=(γ id).base+i*sz+j/\(γ id).base+i*sz+j<o+vs.length then xs[(γ id).base+i*sz+j - o]?=some x
    else ∃row0,rows[i]?=some row0/\row0[j]?=some x)) (P:Program) :
  ∃w',(Go.storeCells (adr (γ id).blk o) vs).run P w=.ok () w' /\
   Rel C A bd w' γ (upd hg id (.cells sz rows' ep loose false)) nx/\Stp w γ w' γ:=by
 have hob:=h.obj id;rw[hid]at hob;obtain⟨k1,k2,k3,k4,k5,k6,c,e,k7,k8,k9,k10⟩:=hob;have hsz:o+vs.length<=c.size:=by have:rows.length*sz<=(rows.length+(γ id).slack)*sz:=Sw _ (by omega);omega
 have hrun:=tx (P:=P) vs 0 w c k7 (by simpa using hsz) (Ie hvs h1);simp only[TV]at hrun;have hk:(γ id).kind≠0:=by rw[k1];decide
 have hw:(γ id).wr=true:=by simpa using k6
 have s:=tQ (w:=w) (o:=.cells (bj c o vs) e (0,0)) hk hw;obtain⟨r,s'⟩:=h.setBlk (id:=id) (o:=.cells (bj c o vs) e (0,0)) (ao:=.cells sz rows' ep loose false) hk hw (by
  refine⟨k1,k2,k3,by rw[k4,hlen],by rw[hlen];exact k5,by simpa using hw,bj c o vs,e,?_,by rw[bP,hlen];exact k8,hr',λi j row x a b=>?_⟩
  ·rw[aZ];simp[(h.lt id hk).2]
  ·have hc:=hcells i j row x a b;rw[ch _ _ _ _ hsz]
   split at hc
   ·rename_i hcond;rw[Sb hcond];have hlt:(γ id).base+i*sz+j - o<vs.length:=by omega
    refine⟨h1 _ _ hc,vs[(γ id).base+i*sz+j - o],R4 hlt,?_⟩;exact (hvs.2 _ _ _ hc (R4 hlt)).step s
   ·rename_i hcond;rw[Sa hcond];obtain⟨row0,c1,c2⟩:=hc;obtain⟨d1,v,d2,d3⟩:=k10 i j row0 x c1 c2;exact⟨d1,v,d2,d3.step s⟩)
 exact⟨_,hrun,r,s'⟩
end
end Hx
end
section
namespace Hx
open Go
def TR(w:World)(γ:Gm)(A:Nat->Nat->Prop)(bd:Nat)(nt:Nat)(t:T)(tmps:Array Value):Prop :=
 tmps.size=nt/\∀i,RV w γ A bd (t.get AV.undef i) (tmps.getD i undef)
def C8(P:Program)(o:Oper)(ev:Operand->Value)(w:World)(v:Value)(w':World):Prop :=
 (execOp ev o).run P w=.ok (.value v) w'\/((execOp ev o).run P w=.ok .skip w'/\v=undef)
def OpSim(C:Cfg)(A:Nat->Nat->Prop)(bd:Nat)(w:World)(γ:Gm)(hg:Nat->AObj)(nx:Nat)(o:Oper)(ev:Operand->Value)(g:G):OR->Prop
 |.fail=>True
 |.val x=>∃v,C8 C.P o ev w v w/\RV w γ A bd x v
 | .upd x g'=>∃v w' γ' id ob,C8 C.P o ev w v w'/\RV w' γ' A bd x v/\Stp w γ w' γ' /\
   ((g'=g.put id ob/\Rel C A bd w' γ' (upd hg id ob) nx)\/(g'=g.new ob/\id=g.nx/\Rel C A bd w' γ' (upd hg id ob) (Nat.max nx (g.nx+1))))
 |.dfr _=>False
section
variable {C:Cfg}{A:Nat->Nat->Prop}{bd:Nat}{w:World}{γ:Gm}{hg:Nat->AObj}{nx:Nat}
theorem Gk{v:Value}{a:AV}(h:ofV v=some a):RV w γ A bd a v/\a.one=true:=by
 unfold ofV at h
 split at h<;>first| (cases h;done)| (injection h with h;subst h;exact⟨by constructor,rfl⟩)
theorem oB:∀{vs:List Value} {as:List AV},yj vs=some as->RVs w γ A bd as vs/\∀(i:Nat) y,as[i]?=some y->y.one=true:=by
 intro vs
 induction vs with
 |nil=>intro as h;simp[yj]at h;subst h;exact⟨⟨rfl,λi x v h=>by simp at h⟩,λi y h=>by simp at h⟩
 | cons v vs ih =>
  intro as h;simp only[yj]at h
  split at h
  ·rename_i a as' h1 h2;injection h with h;subst h;obtain⟨p,q⟩:=Gk (w:=w) (γ:=γ) (A:=A) (bd:=bd) h1;obtain⟨r,s⟩:=ih h2;refine⟨⟨by simp[r.1],λi x u hx hu=>?_⟩,λi y hy=>?_⟩
   ·cases i with
    |zero=>simp at hx hu;subst hx;subst hu;exact p
    |succ i=>exact r.2 i x u (by simpa using hx) (by simpa using hu)
   ·cases i with
    |zero=>simp at hy;subst hy;exact q
    |succ i=>exact s i y (by simpa using hy)
  ·cases h
theorem aD{x:Operand}{s:Stg (T->AV)}{nt:Nat}{t:T}{a:Act}(h:aT C x=some s)(ht:TR w γ A bd nt t a.tmps)(hr:Rel C A bd w γ hg nx) :
  RV w γ A bd (s.run t) (a.eval x):=by
 cases x with
 |tmp n=>simp[aT]at h;subst h;rw[gp_run];exact ht.2 n
 | const v =>
  simp only[aT]at h
  split at h
  ·rename_i a' h1;injection h with h;subst h;exact (Gk h1).1
  ·cases h
 | global g =>
  simp only[aT]at h
  split at h
  ·rename_i sz rows h1;injection h with h;subst h;exact hr.glob g sz rows h1
  ·cases h
 | func f =>
  simp[aT]at h;subst h;exact .clo _ f [] [] #[] #[] rfl rfl (λi x v h=>by simp at h) (λi x v h=>by simp at h)
theorem jU{nt:Nat}{t:T}{a:Act}(ht:TR w γ A bd nt t a.tmps)(hr:Rel C A bd w γ hg nx):∀{xs:List Operand} {s:Stg (T->List AV)},
  bV C xs=some s->RVs w γ A bd (s.run t) (xs.map a.eval):=by
 intro xs
 induction xs with
 |nil=>intro s h;simp[bV]at h;subst h;exact⟨rfl,λi x v h=>by simp at h⟩
 | cons x xs ih =>
  intro s h;simp only[bV]at h
  split at h
  ·rename_i a' as' h1 h2;injection h with h;subst h;have p:=aD h1 ht hr;have q:=ih h2;refine⟨by simp[q.1],λi y u hy hu=>?_⟩;cases i with
   |zero=>simp at hy hu;subst hy;subst hu;exact p
   |succ i=>exact q.2 i y u (by simpa using hy) (by simpa using hu)
  ·cases h
theorem uh{ag:Bool}{n:Nat}{row:List AV}{off b o:Nat}{x:AV}{ty:TypeId}{bd':Nat}(hb:bd'<=bd)
  (hcell:∀(j:Nat) y,row[j]?=some y->y.one=true/\∃v,w.cell? (adr b (o+j))=some v/\RV w γ A bd' y v)
  (hag:rL C.P ty=some ag) (hn:szT C.P ty=some n) (h:bT ag n row off=some x) :
  ∃v,(loadVar ty (adr b (o+off))).run C.P w=.ok v w/\RV w γ A bd x v:=by
 unfold bT at h;cases ag with
 | false =>
  simp only[dV]at h;obtain⟨_,v,h1,h2⟩:=hcell off x h;exact⟨v,by simp[loadVar,mG hag,h1],h2.mono hb⟩
 | true =>
  simp only[bh,bg,ay,aa]at h
  split at h
  ·rename_i hl;rw[Nat.beq_eq]at hl;injection h with h;subst h;have hex:∀j:Fin n,∃v,w.cell? (adr b (o+off+j))=some v/\∃y,(List.take n (List.drop off row))[j.1]?=some y/\y.one=true/\RV w γ A bd' y v:=by
    intro j;have hj:j.1<(List.take n (List.drop off row)).length:=by rw[hl];exact j.2
    have e:(List.take n (List.drop off row))[j.1]?=row[off+j.1]?:=by rw[SN j.2,ST]
    have hy:=R4 hj;obtain⟨c1,v,c2,c3⟩:=hcell (off+j.1) _ (e ▸ hy);exact⟨v,by rw[TZ];exact c2,_,hy,c1,c3⟩
   let f:Fin n->Value:=λj=>Classical.choose (hex j)
   have hf:∀j:Fin n,w.cell? (adr b (o+off+j))=some (f j)/\∃y,(List.take n (List.drop off row))[j.1]?=some y/\y.one=true/\RV w γ A bd' y (f j) :=
    λj=>Classical.choose_spec (hex j)
   have hlen:(List.ofFn f).length=n:=by simp
   have hrun:=ui (P:=C.P) (w:=w) (b:=b) (o:=o+off) (cs:=List.ofFn f) (λj c hc=>by
    have hj:j<n:=by rw[<-hlen];exact (R6.1 hc).1
    rw[List.getElem?_ofFn]at hc;simp[hj]at hc;rw[<-hc];exact (hf ⟨j,hj⟩).1)
   rw[hlen]at hrun;refine⟨.agg (List.ofFn f).toArray,by simp[loadVar,mG hag,ba hn,hrun],.agg _ _ _ (by simpa using hl) (λi y hy=>?_) (λi y v hy hv=>?_)⟩
   ·have hi:i<n:=by rw[<-hl];exact (R6.1 hy).1
    obtain⟨_,y',h1,h2,_⟩:=hf ⟨i,hi⟩;rw[hy]at h1;injection h1 with h1;subst h1;exact h2
   ·have hi:i<n:=by rw[<-hl];exact (R6.1 hy).1
    obtain⟨_,y',h1,h2,h3⟩:=hf ⟨i,hi⟩;rw[hy]at h1;injection h1 with h1;subst h1;simp[hi]at hv;rw[<-hv];exact h3.mono hb
  ·cases h
theorem tL(hr:Rel C A bd w γ hg nx){id sz ep:Nat}{rows:List (List AV)}{loose fz:Bool}(hid:hg id=.cells sz rows ep loose fz)
  {i:Nat} {row:List AV} (hi:rows[i]?=some row) (j:Nat) (y:AV) (hy:row[j]?=some y) :
  y.one=true/\∃v,w.cell? (adr (γ id).blk ((γ id).base+i*sz+j))=some v/\RV w γ A bd y v:=by
 have hob:=hr.obj id;rw[hid]at hob;obtain⟨k1,k2,k3,k4,k5,k6,c,e,k7,k8,k9,k10⟩:=hob;obtain⟨a,v,b1,b2⟩:=k10 i j row y hi hy;exact⟨a,v,by rw[pK k7];exact b1,b2⟩
theorem aG{a b:Nat}(h:Nat.beq a b=true):a=b:=Tp h
def ValSim(C:Cfg)(A:Nat->Nat->Prop)(bd:Nat)(w:World)(γ:Gm)(m:Sem Value):OR->Prop
 |.fail=>True
 |.val x=>∃v,m.run C.P w=.ok v w/\RV w γ A bd x v
 |_=>False
theorem oD{m:Sem Value}{x:Option AV}(h:∀y,x=some y->∃v,m.run C.P w=.ok v w/\RV w γ A bd y v):ValSim C A bd w γ m (orV x):=by
 cases x with
 |none=>trivial
 |some y=>exact h y rfl
theorem El{ty:TypeId}{ag:Bool}{n:Nat}{a:T->AV}{t:T}{g:G}{va:Value}(hr:Rel C A bd w γ hg nx)
  (ha:RV w γ A bd (a t) va) (hag:rL C.P ty=some ag) (hn:szT C.P ty=some n) (agree:∀id∈ae (a t),hg id=g.h.get id) :
  ValSim C A bd w γ (Instr.loadAt ty va) (nD ag n a t g):=by
 unfold nD;generalize a t=x at *;cases ha with
 | tptr _ tag sz rows i0 off0 b o cell ht hb hm ha' hrl ho hw h =>
  simp only[dV];cases hrow:rows[i0]? with
  |none=>trivial
  | some row =>
   refine oD λy hp=>?_;obtain⟨v,h1,h2⟩:=uh (C:=C) (ty:=ty) (w:=w) (γ:=γ) (A:=A) (bd:=bd) ht (b:=b) (o:=o+i0*sz) (λj y hy=>⟨ho i0 j row y hrow hy,_,hw i0 j row y hrow hy,h i0 j row y hrow hy⟩) hag hn hp;exact⟨v,by simp[Instr.loadAt,Instr.sureAddr,h1],h2⟩
 | hptr _ id ep i off b o hk he h =>
  have hagree:=agree id (by simp[ae]);simp only[G.get_eq,<-hagree];cases hid:hg id with
  | cells sz rows ep' loose fz =>
   simp only[aa]
   split
   ·rename_i hep;have hep:=aG hep;have hob:=hr.obj id;rw[hid]at hob;obtain⟨k1,k2,k3,_⟩:=hob;obtain⟨c1,c2⟩:=h (hep.trans k2.symm);simp only[dV];cases hrow:rows[i]? with
    |none=>trivial
    | some row =>
     refine oD λy hp=>?_;obtain⟨v,h1,h2⟩:=uh (C:=C) (ty:=ty) (w:=w) (γ:=γ) (A:=A) (bd:=bd) (R5 _) (b:=(γ id).blk) (o:=(γ id).base+i*sz) (tL hr hid hrow) hag hn hp;refine⟨v,?_,h2⟩;rw[c1,c2,k3];simp[Instr.loadAt,Instr.sureAddr,h1]
   ·trivial
  |_=>trivial
 |_=>trivial
end
end Hx
end
section
namespace Hx
open Go
theorem Lx{i i' j sz:Nat}(hj:j<sz)(h1:i*sz<=i'*sz+j)(h2:i'*sz+j<i*sz+sz):i'=i:=by
 rcases Nat.lt_trichotomy i' i with h|h|h
 ·have:(i'+1)*sz<=i*sz:=Sw _ h;rw[SA,Tq]at this;omega
 ·exact h
 ·have:(i+1)*sz<=i'*sz:=Sw _ h;rw[SA,Tq]at this;omega
theorem qS{row row':List AV}{off:Nat}{cs:List AV}(h:bw row off cs=some row') :
  row'.length=row.length/\off+cs.length<=row.length/\∀j,row'[j]?=if off<=j/\j<off+cs.length then cs[j - off]? else row[j]?:=by
 unfold bw at h;simp only[ay,gV,bh,bg,aa]at h
 split at h
 ·rename_i hle;rw[SS]at hle;injection h with h
  split at h
  ·rename_i c;subst h;refine⟨by simp,hle,λj=>?_⟩;simp only[SJ,T8]at hle ⊢;rw[S8]
   by_cases hj:off=j
   ·subst hj;rw[Sb rfl,Sb (by omega),Sb (by omega)];simp
   ·rw[Sa hj,Sa (by omega)]
  ·subst h;refine⟨by simp;omega,hle,λj=>?_⟩
   by_cases h1:j<off
   ·rw[Sa (by omega),So (by simp;omega),SN h1]
   ·rw[Sj (by simp;omega)];simp only[SL,T_ (show off<=row.length by omega)]
    by_cases h2:j<off+cs.length
    ·rw[Sb ⟨by omega,h2⟩,So (by omega)]
    ·rw[Sa (by omega),Sj (by omega),ST];congr 1;omega
 ·cases h
section
variable {C:Cfg}{A:Nat->Nat->Prop}{bd:Nat}{w:World}{γ:Gm}{hg:Nat->AObj}{nx:Nat}
def dk(C:Cfg)(A:Nat->Nat->Prop)(bd:Nat)(w:World)(γ:Gm)(hg:Nat->AObj)(nx:Nat)(m:Sem Value)(g:G):OR->Prop
 |.fail=>True
 |.val x=>∃v,m.run C.P w=.ok v w/\RV w γ A bd x v
 | .upd x g'=>∃v w' γ' id ob,m.run C.P w=.ok v w'/\RV w' γ' A bd x v/\Stp w γ w' γ' /\
   ((g'=g.put id ob/\Rel C A bd w' γ' (upd hg id ob) nx)\/(g'=g.new ob/\id=g.nx/\Rel C A bd w' γ' (upd hg id ob) (Nat.max nx (g.nx+1))))
 |.dfr _=>False
theorem dG:RV w γ A bd AV.undef undef:=.tup _ [] #[] rfl (λi x v h=>by simp at h)
theorem J3{ty:TypeId}{n:Nat}{a x:T->AV}{t:T}{g:G}{va vx:Value}(hr:Rel C A bd w γ hg nx)
  (ha:RV w γ A bd (a t) va) (hx:RV w γ A bd (x t) vx) (hn:szT C.P ty=some n) (agree:∀id∈ae (a t),hg id=g.h.get id) :
  dk C A bd w γ hg nx (do Instr.storeAt ty va vx;pure undef) g (pB n a x t g):=by
 unfold pB;generalize a t=y at *;generalize x t=z at *;cases ha with
 | hptr _ id ep i off b o hk he h =>
  have hagree:=agree id (by simp[ae]);simp only[G.get_eq,<-hagree];cases hid:hg id with
  | cells sz rows ep' loose fz =>
   simp only[aa,ay,dV,gV]
   split
   ·rename_i hc;simp only[R7,notb_eq,SP]at hc;obtain⟨⟨⟨hep,hlen⟩,hfz⟩,htup⟩:=hc;have hep:=aG hep;have hlen:=aG hlen;subst hfz;subst hep;have hob:=hr.obj id;rw[hid]at hob;obtain⟨k1,k2,k3,k4,k5,k6,c,e,k7,k8,k9,k10⟩:=hob;obtain⟨c1,c2⟩:=h k2.symm;rw[k3]at c2;cases hrow:rows[i]? with
    |none=>trivial
    | some row =>
     dsimp only;cases hp:bw row off z.cells with
     |none=>trivial
     | some row' =>
      obtain⟨p1,p2,p3⟩:=qS hp;obtain⟨q1,q2⟩:=pL hx htup;have hrl:row.length=sz:=k9 i row hrow;have hi:i<rows.length:=(R6.1 hrow).1;have hmul:(i+1)*sz<=rows.length*sz:=Sw _ hi;rw[SA,Tq]at hmul;have hvl:vx.cells.toList.length=z.cells.length:=q1.1.symm;obtain⟨w',r1,r2,r3⟩:=hr.storeCells hid (rows':=rows.set i row') (o:=(γ id).base+i*sz+off) (vs:=vx.cells.toList) q1 q2 (by simp)
       (λi' r' hr'=>by
        rw[S8]at hr'
        by_cases hii:i=i'
        ·subst hii;rw[Sb rfl,Sb hi]at hr';injection hr' with hr';subst hr';rw[p1];exact hrl
        ·rw[Sa hii]at hr';exact k9 i' r' hr')
       ⟨by omega,by rw[hvl];omega⟩
       (λi' j r' y hr' hy=>by
        rw[S8]at hr'
        by_cases hii:i=i'
        ·subst hii;rw[Sb rfl,Sb hi]at hr';injection hr' with hr';subst hr';have:=p3 j;rw[hy]at this
         split
         ·rename_i hcond;rw[hvl]at hcond;rw[Sb (by omega)]at this;rw[show (γ id).base+i*sz+j - ((γ id).base+i*sz+off)=j - off from by omega];exact this.symm
         ·rename_i hcond;rw[hvl]at hcond;rw[Sa (by omega)]at this;exact⟨row,hrow,this.symm⟩
        ·rw[Sa hii]at hr';have hj:j<sz:=by rw[<-k9 i' r' hr'];exact (R6.1 hy).1
         rw[Sa]
         ·exact⟨r',hr',hy⟩
         ·rw[hvl];rintro⟨l1,l2⟩;exact hii (Lx (i:=i) (i':=i') hj (by omega) (by omega)).symm) C.P
      refine⟨undef,w',γ,id,.cells sz (rows.set i row') ep loose false,?_,dG,r3,.inl ⟨rfl,r2⟩⟩;have hsz:vx.cells.size=n:=by rw[<-hlen,<-hvl];simp
      rw[c1,c2];simp[Instr.storeAt,Instr.sureAddr,storeVar,ba hn,hsz,r1]
   ·trivial
  |_=>trivial
 |_=>trivial
theorem CE{sz:Nat}{rows:List (List AV)}{cs:Array Value}(e:TypeId)(hr:Rel C A bd w γ hg nx){g:G}(hf:(γ g.nx).kind=0)
  (hrow:∀(i:Nat) row,rows[i]?=some row->row.length=sz)
  (hv:∀(i j:Nat) row x,rows[i]?=some row->row[j]?=some x->x.one=true/\∃v,cs[i*sz+j]?=some v/\RV w γ A bd x v)
  (loose:Bool) (slack:Nat) (hs:(loose=false->slack=0)/\(loose=true->rows.length+slack<=9223372036854775807)) (hc:(rows.length+slack)*sz<=cs.size) :
  ∃γ',Rel C A bd (World.add w (.cells cs e (0,0))) γ' (upd hg g.nx (.cells sz rows 0 loose false)) (Nat.max nx (g.nx+1))/\Stp w γ (World.add w (.cells cs e (0,0))) γ' /\
   (γ' g.nx).kind=1/\(γ' g.nx).ep=0/\(γ' g.nx).sz=sz/\(γ' g.nx).n=rows.length/\(γ' g.nx).blk=w.heap.size/\(γ' g.nx).base=0/\(γ' g.nx).slack=slack :=
 hr.newCells e hf (TJ _ _) (SB (Vl _) (Ud _ _)) hs hc hrow hv
theorem iY{P:Program}(e:TypeId)(cs:Array Value):(newRow e cs).run P w=.ok (adr w.heap.size 0) (World.add w (.cells cs e (0,0))):=by simp[newRow,adr,World.add]
theorem NI{ty:TypeId}{x:AV}{v:Value}{g:G}(hr:Rel C A bd w γ hg nx)(hx:RV w γ A bd x v)(hf:(γ g.nx).kind=0)(ht:x.isTup=false) :
  dk C A bd w γ hg nx (Instr.box ty v) g (.upd (.hptr g.nx 0 0 0) (g.new (VG (bz x.cells) [x.cells]))):=by
 obtain⟨q1,q2⟩:=pL hx ht;obtain⟨γ',r1,r2,r3,r4,r5,r6,r7,r8,r9⟩:=CE (sz:=x.cells.length) (rows:=[x.cells]) (cs:=v.cells) ty hr hf
  (λi row h=>by cases i with|zero=>simp at h;rw[<-h]|succ i=>simp at h)
  (λi j row y h hy=>by
   cases i with
   | zero =>
    simp at h;subst h;have hlt:j<v.cells.toList.length:=by rw[<-q1.1];exact (R6.1 hy).1
    have he:=R4 hlt;exact⟨q2 j y hy,_,by simpa using he,q1.2 j y _ hy he⟩
   | succ i=>simp at h) false 0 ⟨λ_=>rfl,λh=>by cases h⟩ (by
    have:=q1.1;simp at this;simp[this])
 rw[ay];refine⟨.pointer (some (adr w.heap.size 0)),_,γ',g.nx,_,?_,?_,r2,.inr ⟨rfl,rfl,r1⟩⟩
 ·simp[Instr.box,newVar,iY]
 ·exact .hptr _ _ _ _ _ _ _ r3 (by omega) (λ_=>⟨r7.symm,by rw[r8];simp⟩)
end
end Hx
end
section
namespace Hx
open Go
section
variable {C:Cfg}{A:Nat->Nat->Prop}{bd:Nat}{w:World}{γ:Gm}{hg:Nat->AObj}{nx:Nat}
theorem nK{P:Program}{ty:TypeId}{cs:List AV}(h:gK P ty=some cs):∃v,(zeroValue ty).run P w=.ok v w/\yj v.cells.toList=some cs:=by
 unfold gK at h;cases hi:P.info? ty with
 |none=>rw[hi]at h;cases h
 | some i =>
  rw[hi]at h;cases hz:i.zero with
  |none=>simp[hz]at h
  |some v=>simp[hz]at h;exact⟨v,by simp[zeroValue,lI hi,hz],h⟩
theorem IE{ty:TypeId}{cs:List AV}{g:G}(hr:Rel C A bd w γ hg nx)(hz:gK C.P ty=some cs)(hf:(γ g.nx).kind=0)(t:T) :
  dk C A bd w γ hg nx (Instr.alloc ty true (.tuple #[])) g (BW cs t g):=by
 obtain⟨v,h1,h2⟩:=nK (w:=w) hz;obtain⟨q1,q2⟩:=oB (w:=w) (γ:=γ) (A:=A) (bd:=bd) h2;obtain⟨γ',r1,r2,r3,r4,r5,r6,r7,r8,r9⟩:=CE (sz:=cs.length) (rows:=[cs]) (cs:=v.cells) ty hr hf
  (λi row h=>by cases i with|zero=>simp at h;rw[<-h]|succ i=>simp at h)
  (λi j row y h hy=>by
   cases i with
   | zero =>
    simp at h;subst h;have hlt:j<v.cells.toList.length:=by rw[<-q1.1];exact (R6.1 hy).1
    have he:=R4 hlt;exact⟨q2 j y hy,_,by simpa using he,q1.2 j y _ hy he⟩
   | succ i=>simp at h) false 0 ⟨λ_=>rfl,λh=>by cases h⟩ (by
    have:=q1.1;simp at this;simp[this])
 unfold BW;rw[ay];refine⟨.pointer (some (adr w.heap.size 0)),_,γ',g.nx,_,?_,?_,r2,.inr ⟨rfl,rfl,r1⟩⟩
 ·simp[Instr.alloc,newVar,iY,h1]
 ·exact .hptr _ _ _ _ _ _ _ r3 (by omega) (λ_=>⟨r7.symm,by rw[r8];simp⟩)
theorem vN(vs:List Value):∀(off k:Nat) (c:Array Value),
  (vs.zipIdx k).foldl (λcs (p:Value×Nat)=>cs.setIfInBounds (off+p.2) p.1) c=bj c (off+k) vs:=by
 induction vs with
 |nil=>intro off k c;rfl
 |cons v vs ih=>intro off k c;simp only[List.zipIdx_cons,T7,bj];rw[ih];rfl
def pE(w:World)(γ:Gm)(A:Nat->Nat->Prop)(bd:Nat)(xs:List AV)(c:Array Value):Prop :=
 RVs w γ A bd xs c.toList/\∀(i:Nat) y,xs[i]?=some y->y.one=true
theorem CM{xs cs row':List AV}{c:Array Value}{vs:List Value}{off:Nat}(h:pE w γ A bd xs c)(hv:RVs w γ A bd cs vs)
  (h1:∀(i:Nat) y,cs[i]?=some y->y.one=true) (hp:bw xs off cs=some row'):pE w γ A bd row' (bj c off vs):=by
 obtain⟨p1,p2,p3⟩:=qS hp;have hl:off+vs.length<=c.size:=by have:=h.1.1;have:=hv.1;simp at *;omega
 refine⟨⟨by have:=h.1.1;simp[bP]at *;omega,λi x v hx hv'=>?_⟩,λi y hy=>?_⟩
 ·rw[p3]at hx;simp only[U_]at hv';rw[ch _ _ _ _ hl]at hv';have:=hv.1
  split at hx
  ·rw[Sb (by omega)]at hv';exact hv.2 _ _ _ hx hv'
  ·rw[Sa (by omega)]at hv';exact h.1.2 _ _ _ hx (by simpa using hv')
 ·rw[p3]at hy
  split at hy
  ·exact h1 _ _ hy
  ·exact h.2 _ _ hy
theorem Jd{place:Nat->Option (Nat×Nat)}:∀{is:List Nat} {pl:List (Nat×Nat)} {xs:List AV} {vs:List Value} {zero cs:List AV} {c:Array Value},
  aJ place is=some pl->pE w γ A bd zero c->RVs w γ A bd xs vs->eH zero (pl.zip xs)=some cs->is.length=xs.length ->
  ∃c',Instr.fill place c (is.zip vs)=some c'/\pE w γ A bd cs c':=by
 intro is
 induction is with
 | nil =>
  intro pl xs vs zero cs c hp hc hv h hl;simp[aJ]at hp;subst hp;have:xs=[]:=SD hl.symm;subst this;simp[eH]at h;subst h;exact⟨c,by simp[Instr.fill],hc⟩
 | cons i is ih =>
  intro pl xs vs zero cs c hp hc hv h hl;cases xs with
  |nil=>cases hl
  | cons x xs =>
   cases vs with
   |nil=>have:=hv.1;cases this
   | cons v vs =>
    simp only[aJ]at hp;cases hpi:place i with
    |none=>rw[hpi]at hp;cases hp
    | some q =>
     rw[hpi]at hp;cases hpr:aJ place is with
     |none=>rw[hpr]at hp;cases hp
     | some pl' =>
      rw[hpr]at hp;injection hp with hp;subst hp;obtain⟨off,size⟩:=q;simp only[Uw,eH,aa,ay]at h
      split at h
      ·rename_i hcond;simp only[R7,notb_eq,SP]at hcond;obtain⟨h1,h2⟩:=hcond;have h1:=aG h1;cases hput:bw zero off x.cells with
       |none=>rw[hput]at h;cases h
       | some row' =>
        rw[hput]at h;have hx:=hv.2 0 x v rfl rfl;obtain⟨q1,q2⟩:=pL hx h2;have hsz:v.cells.size=size:=by rw[<-h1];have:=q1.1;simp at this;exact this.symm
        have hin:=(qS hput).2.1;have hcs:zero.length=c.size:=by have:=hc.1.1;simpa using this
        obtain⟨c',r1,r2⟩:=ih (c:=bj c off v.cells.toList) hpr (CM hc q1 q2 hput) ⟨by have:=hv.1;simpa using this,λk y u hy hu=>hv.2 (k+1) y u (by simpa using hy) (by simpa using hu)⟩ h (by simpa using hl);refine⟨c',?_,r2⟩;have hfold:(v.cells.zipIdx.foldl (λcs (p:Value×Nat)=>cs.setIfInBounds (off+p.2) p.1) c)=bj c off v.cells.toList:=by rw[<-Array.foldl_toList,Array.toList_zipIdx];exact vN _ _ _ _
        simp only[Uw,Instr.fill,hpi];rw[Sa (by simp[hsz];omega)];rw[show (v.cells.zipIdx.foldl (λcs x=>cs.setIfInBounds (off+x.2) x.1) c)=_ from hfold];exact r1
      ·cases h
theorem A9{ty:TypeId}{parts:Array (Nat×Operand)}{zero:List AV}{pl:List (Nat×Nat)}{vs:T->List AV}{t:T}{g:G}{place:Nat->Option (Nat×Nat)}
  {ev:Operand->Value} (hz:gK C.P ty=some zero) (hv:RVs w γ A bd (vs t) ((parts.toList.map (·.2)).map ev))
  (hp:aJ place (parts.toList.map (·.1))=some pl)
  (hrun:∀(z:Value) (cells:Array Value),(zeroValue ty).run C.P w=.ok z w->Instr.fill place z.cells ((parts.map λ(i,x)=>(i,ev x)).toList)=some cells ->
   (Instr.build ty (parts.map λ(i,x)=>(i,ev x))).run C.P w=.ok (.agg cells) w) :
  ValSim C A bd w γ (Instr.build ty (parts.map λ(i,x)=>(i,ev x))) (oP zero pl vs t g):=by
 unfold oP;cases hfl:eH zero (pl.zip (vs t)) with
 |none=>trivial
 | some cs =>
  obtain⟨z,z1,z2⟩:=nK (w:=w) hz;have zr:=oB (w:=w) (γ:=γ) (A:=A) (bd:=bd) z2;have hl:(parts.toList.map (·.1)).length=(vs t).length:=by have:=hv.1;simp at *;omega
  obtain⟨c',r1,r2⟩:=Jd (c:=z.cells) hp zr hv hfl hl;have e:(parts.map λ(i,x)=>(i,ev x)).toList=(parts.toList.map (·.1)).zip ((parts.toList.map (·.2)).map ev):=by
   rw[Array.toList_map]
   induction parts.toList with
   |nil=>rfl
   |cons p ps ih=>simp[ih]
  exact⟨.agg c',hrun z c' z1 (by rw[e];exact r1),.agg _ _ _ (by have:=r2.1.1;simpa using this) r2.2 (λi x v hx hv=>r2.1.2 i x v hx (by simpa using hv))⟩
end
end Hx
end
section
namespace Hx
open Go
theorem HZ{i j sz:Nat}(hj:j<sz):(i*sz+j) % sz=j:=by rw[Uc,Us,TK hj]
section
variable {C:Cfg}{A:Nat->Nat->Prop}{bd:Nat}{w:World}{γ:Gm}{hg:Nat->AObj}{nx:Nat}
def iO(zero:Array Value)(n:Nat):Array Value:=(Array.range n).map (zero[· % zero.size]!)
theorem nP(zero:Array Value)(n:Nat):(iO zero n).size=n:=by simp[iO]
theorem Kb{zero:Array Value}{n k:Nat}(h:k<n)(hz:0<zero.size):(iO zero n)[k]?=zero[k % zero.size]?:=by have h2:k % zero.size<zero.size:=TD _ hz;simp[iO,h,Sv h2,getElem!_pos zero (k % zero.size) h2]
theorem ES{n i:Nat}{row r:List AV}(h:(jt n row)[i]?=some r):r=row/\i<n:=by
 unfold jt at h;rw[UW]at h
 split at h
 ·injection h with h;exact⟨h.symm,by assumption⟩
 ·cases h
def RowsRel(w:World)(γ:Gm)(A:Nat->Nat->Prop)(bd sz:Nat)(rows:List (List AV))(c:Array Value):Prop :=
 rows.length*sz<=c.size/\(∀(i:Nat) row,rows[i]?=some row->row.length=sz) /\
 ∀(i j:Nat) row x,rows[i]?=some row->row[j]?=some x->x.one=true/\∃v,c[i*sz+j]?=some v/\RV w γ A bd x v
theorem tR{ty:TypeId}{zero:List AV}{z:Value}{sz n m:Nat}(hz:yj z.cells.toList=some zero)(hsz:zero.length=sz)(h0:0<sz)(hn:n*sz<=m) :
  RowsRel w γ A bd sz (jt n zero) (iO z.cells m):=by
 obtain⟨q1,q2⟩:=oB (w:=w) (γ:=γ) (A:=A) (bd:=bd) hz;have hzs:z.cells.size=sz:=by have:=q1.1;simp at this;omega
 refine⟨by simp[jt,nP,hn],λi row h=>by rw[(ES h).1];exact hsz,λi j row x h hx=>?_⟩;obtain⟨e,hi⟩:=ES h;subst e;have hj:j<sz:=by rw[<-hsz];exact (R6.1 hx).1
 have hlt:i*sz+j<n*sz:=by have:(i+1)*sz<=n*sz:=Sw _ hi;rw[SA,Tq]at this;omega
 have hj':j<z.cells.toList.length:=by simp;omega
 refine⟨q2 j x hx,z.cells.toList[j],?_,q1.2 j x _ hx (R4 hj')⟩;rw[Kb (by omega) (by omega),hzs,HZ hj];have:j<z.cells.size:=by omega
 simp[this]
theorem Cf{sz:Nat}(h0:0<sz):∀{is:List Nat} {xs:List AV} {vs:List Value} {rows rows':List (List AV)} {c:Array Value} {n:Nat},
  RowsRel w γ A bd sz rows c->rows.length=n->c.size=n*sz->RVs w γ A bd xs vs->iG sz rows (is.zip xs)=some rows'->is.length=xs.length ->
  ∃c',Instr.fill (λi=>some (i*sz,sz)) c (is.zip vs)=some c'/\RowsRel w γ A bd sz rows' c'/\rows'.length=n/\c'.size=n*sz:=by
 intro is
 induction is with
 | nil =>
  intro xs vs rows rows' c n hc hl hcs hv h hle;have:xs=[]:=SD hle.symm;subst this;simp[iG]at h;subst h;exact⟨c,by simp[Instr.fill],hc,hl,hcs⟩
 | cons i is ih =>
  intro xs vs rows rows' c n hc hl hcs hv h hle;cases xs with
  |nil=>cases hle
  | cons x xs =>
   cases vs with
   |nil=>have:=hv.1;cases this
   | cons v vs =>
    simp only[Uw,iG,aa,ay,gV]at h
    split at h
    ·rename_i hcond;simp only[R7,notb_eq,SP,Tg]at hcond;obtain⟨⟨h1,h2⟩,h3⟩:=hcond;have h1:=aG h1;have hx:=hv.2 0 x v rfl rfl;obtain⟨q1,q2⟩:=pL hx h3;have hvl:v.cells.toList.length=sz:=by rw[<-q1.1,h1]
     have hmul:(i+1)*sz<=rows.length*sz:=Sw _ h2;rw[SA,Tq]at hmul;have hin:i*sz+v.cells.toList.length<=c.size:=by rw[hvl,hcs,<-hl];exact hmul
     have hc':RowsRel w γ A bd sz (rows.set i x.cells) (bj c (i*sz) v.cells.toList):=by
      refine⟨by rw[bP,UD];exact hc.1,λk row hk=>?_,λk j row y hk hy=>?_⟩
      ·rw[S8]at hk
       by_cases hik:i=k
       ·subst hik;rw[Sb rfl,Sb h2]at hk;injection hk with hk;subst hk;exact h1
       ·rw[Sa hik]at hk;exact hc.2.1 k row hk
      ·rw[S8]at hk;rw[ch _ _ _ _ hin]
       by_cases hik:i=k
       ·subst hik;rw[Sb rfl,Sb h2]at hk;injection hk with hk;subst hk;have hj:j<sz:=by rw[<-h1];exact (R6.1 hy).1
        have hjl:j<v.cells.toList.length:=by omega
        rw[Sb (by omega),show i*sz+j - i*sz=j from by omega];exact⟨q2 j y hy,_,R4 hjl,q1.2 j y _ hy (R4 hjl)⟩
       ·rw[Sa hik]at hk;have hj:j<sz:=by rw[<-hc.2.1 k row hk];exact (R6.1 hy).1
        rw[Sa]
        ·exact hc.2.2 k j row y hk hy
        ·rintro⟨l1,l2⟩;exact hik (Lx (i:=i) (i':=k) hj l1 (by omega)).symm
     obtain⟨c',r1,r2,r3,r4⟩:=ih (c:=bj c (i*sz) v.cells.toList) (n:=n) hc' (by simp[hl]) (by rw[bP];exact hcs)
      ⟨by have:=hv.1;simpa using this,λk y u hy hu=>hv.2 (k+1) y u (by simpa using hy) (by simpa using hu)⟩ h (by simpa using hle)
     refine⟨c',?_,r2,r3,r4⟩;have hfold:(v.cells.zipIdx.foldl (λcs (p:Value×Nat)=>cs.setIfInBounds (i*sz+p.2) p.1) c)=bj c (i*sz) v.cells.toList:=by rw[<-Array.foldl_toList,Array.toList_zipIdx];exact vN _ _ _ _
     have hvs:v.cells.size=sz:=by simpa using hvl
     simp only[Uw,Instr.fill];rw[Sa (by simp[hvs];rw[hcs,<-hl];omega)];rw[show (v.cells.zipIdx.foldl (λcs x=>cs.setIfInBounds (i*sz+x.2) x.1) c)=_ from hfold];exact r1
    ·cases h
theorem qQ{sz:Nat}{rows:List (List AV)}{cs:Array Value}(e:TypeId)(hr:Rel C A bd w γ hg nx){g:G}(hf:(γ g.nx).kind=0)
  (h:RowsRel w γ A bd sz rows cs) (len cap:Nat) (loose:Bool) (slack:Nat) (hs:(loose=false->slack=0)/\(loose=true->rows.length+slack<=9223372036854775807)) (hc:(rows.length+slack)*sz<=cs.size)
  (hcap:cap=rows.length+slack) (hlen:len<=rows.length) :
  ∃γ',Rel C A bd (World.add w (.cells cs e (0,0))) γ' (upd hg g.nx (.cells sz rows 0 loose false)) (Nat.max nx (g.nx+1))/\Stp w γ (World.add w (.cells cs e (0,0))) γ' /\
   RV (World.add w (.cells cs e (0,0))) γ' A bd (.hsl g.nx 0 0 len none) (.slice (some (adr w.heap.size 0)) len cap):=by
 obtain⟨γ',r1,r2,r3,r4,r5,r6,r7,r8,r9⟩:=CE (sz:=sz) (rows:=rows) (cs:=cs) e hr hf h.2.1 h.2.2 loose slack hs hc;refine⟨γ',r1,r2,.hsl _ _ _ _ _ _ _ _ _ r3 (by omega) (by omega) λ_=>⟨r7.symm,by rw[r8];simp,?_⟩⟩;simp only[ju,r6,r9];omega
theorem yT{ty e:TypeId}{len sz:Nat}{parts:Array (Nat×Operand)}{zero:List AV}{vs:T->List AV}{t:T}{g:G}{ev:Operand->Value}
  (hr:Rel C A bd w γ hg nx) (hf:(γ g.nx).kind=0) (hu:C.P.underlying ty=some (.slice e)) (hsz:szT C.P e=some sz) (hz:gK C.P e=some zero)
  (hzl:zero.length=sz) (h0:0<sz) (hsmall:len*sz<=1048576) (hv:RVs w γ A bd (vs t) ((parts.toList.map (·.2)).map ev)) :
  dk C A bd w γ hg nx (Instr.buildSlice ty len (parts.map λ(i,x)=>(i,ev x))) g (i_ sz len (jt len zero) (parts.toList.map (·.1)) vs t g):=by
 unfold i_;cases hfl:iG sz (jt len zero) ((parts.toList.map (·.1)).zip (vs t)) with
 |none=>trivial
 | some rows =>
  obtain⟨z,z1,z2⟩:=nK (w:=w) hz;have hzs:z.cells.size=sz:=by have:=(oB (w:=w) (γ:=γ) (A:=A) (bd:=bd) z2).1.1;simp at this;omega
  have hl:(parts.toList.map (·.1)).length=(vs t).length:=by have:=hv.1;simp at *;omega
  obtain⟨c',r1,r2,r3,r4⟩:=Cf h0 (c:=iO z.cells (len*sz)) (n:=len) (tR (ty:=e) (w:=w) (γ:=γ) (A:=A) (bd:=bd) z2 hzl h0 (R5 _)) (by simp[jt]) (nP _ _) hv hfl hl;have he:(parts.map λ(i,x)=>(i,ev x)).toList=(parts.toList.map (·.1)).zip ((parts.toList.map (·.2)).map ev):=by
   rw[Array.toList_map]
   induction parts.toList with
   |nil=>rfl
   |cons p ps ih=>simp[ih]
  have hrun:(Instr.buildSlice ty len (parts.map λ(i,x)=>(i,ev x))).run C.P w=.ok (.slice (some (adr w.heap.size 0)) len len) (World.add w (.cells c' e (0,0))):=by
   have hbig:¬(2 ^ 24<len*sz):=by omega
   unfold Instr.buildSlice;rw[he]
   by_cases h:len*sz=0
   ·have e0:iO z.cells (len*sz)=#[]:=by rw[h];simp[iO]
    rw[e0]at r1;have e1:(Array.range 0).map (λx=>(#[]:Array Value)[x % (#[]:Array Value).size]!)=#[]:=by simp
    simp only[Sn,aF hu,Sc,ba hsz];rw[Sa (by omega)];simp only[Sn,h,if_true,SV,Sc,e1,r1,iY]
   ·have e0:(Array.range (len*sz)).map (λx=>z.cells[x % z.cells.size]!)=iO z.cells (len*sz):=rfl;simp only[Sn,aF hu,Sc,ba hsz];rw[Sa (by omega)];simp only[Sn,h,if_false,z1,Sc,SV,e0,r1,iY]
  obtain⟨γ',s1,s2,s3⟩:=qQ (w:=w) e hr hf r2 len len false 0 ⟨λ_=>rfl,λh=>by cases h⟩ (by rw[TV];exact r2.1) (by omega) (by omega);exact⟨_,_,γ',g.nx,_,hrun,s3,s2,.inr ⟨rfl,rfl,s1⟩⟩
end
end Hx
end
section
namespace Hx
open Go
section
variable {C:Cfg}{A:Nat->Nat->Prop}{bd:Nat}{w:World}{γ:Gm}{hg:Nat->AObj}{nx:Nat}
theorem vZ{lim n:Nat}{x:AV}{v:Value}(h:dP lim x=some n)(hv:RV w γ A bd x v):n<=lim/\∃k,v=.int k (n:Int):=by
 unfold dP at h
 split at h
 ·rw[aa]at h
  split at h
  ·rename_i hl;rw[SS]at hl;injection h with h;subst h;cases hv;exact⟨hl,_,rfl⟩
  ·cases h
 ·cases h
theorem qZ(n:Nat)(h:n<9223372036854775808):IntKind.wrap .i64 (n:Int)=(n:Int):=nO n h
theorem AU{ty e:TypeId}{sz bytes:Nat}{zero:List AV}{l c:T->AV}{t:T}{g:G}{vl vc:Value}
  (hr:Rel C A bd w γ hg nx) (hf:(γ g.nx).kind=0) (hu:C.P.underlying ty=some (.slice e)) (hsz:szT C.P e=some sz) (hby:kh C.P e=some bytes) (hz:gK C.P e=some zero)
  (hzl:zero.length=sz) (h0:0<sz) (hl:RV w γ A bd (l t) vl) (hc:RV w γ A bd (c t) vc) :
  dk C A bd w γ hg nx (Instr.makeSlice ty vl vc) g (iX sz bytes zero l c t g):=by
 unfold iX;cases hcn:dP aY (c t) with
 |none=>trivial
 | some cn =>
  dsimp only;cases hln:dP cn (l t) with
  |none=>trivial
  | some ln =>
   dsimp only;rw[aa]
   split
   ·rename_i hroom;rw[SS]at hroom;obtain⟨c1,kc,rfl⟩:=vZ hcn hc;obtain⟨l1,kl,rfl⟩:=vZ hln hl;obtain⟨z,z1,z2⟩:=nK (w:=w) hz;have hzs:z.cells.size=sz:=by have:=(oB (w:=w) (γ:=γ) (A:=A) (bd:=bd) z2).1.1;simp at this;omega
    unfold aY at c1 hroom;obtain⟨γ',s1,s2,s3⟩:=qQ (w:=w) (cs:=iO z.cells (cn*sz)) e hr hf (tR (ty:=e) (n:=cn) z2 hzl h0 (R5 _)) ln cn false 0 ⟨λ_=>rfl,λh=>by cases h⟩
     (by simp[jt,nP]) (by simp[jt]) (by simpa [jt] using l1)
    refine⟨_,_,γ',g.nx,_,?_,s3,s2,.inr ⟨rfl,rfl,s1⟩⟩;have hi:∃i,C.P.info? e=some i/\i.bytes=bytes:=by
     unfold kh at hby;cases hie:C.P.info? e with
     |none=>rw[hie]at hby;cases hby
     |some i=>rw[hie]at hby;simp at hby;exact⟨i,rfl,hby⟩
    obtain⟨i,i1,i2⟩:=hi;have w1:=qZ ln (by omega);have w2:=qZ cn (by omega);have hb1:¬((bytes:Int)*(cn:Int) > 2 ^ 48):=by rw[<-Tt,Uj];omega
    have hb2:¬((bytes:Int)*(ln:Int) > 2 ^ 48):=by have h3:ln*bytes<=cn*bytes:=Sw _ l1;rw[<-Tt,Uj];omega
    unfold Instr.makeSlice;simp only[Sn,aF hu,Sc,asInt,asIntOf,SV,lI i1,i2,w1,w2];rw[Sa (by simp only[SY,Sg,not_or];omega)];simp only[Sn,run_askRoom,Sc,ba hsz,Sx]
    by_cases h:cn*sz=0
    ·have e0:iO z.cells (cn*sz)=#[]:=by rw[h];simp[iO]
     have e1:(Array.range 0).map (λx=>(#[]:Array Value)[x % (#[]:Array Value).size]!)=#[]:=by simp
     rw[e0,h];simp only[if_true,Sn,SV,Sc,e1,iY]
    ·have e0:(Array.range (cn*sz)).map (λx=>z.cells[x % z.cells.size]!)=iO z.cells (cn*sz):=rfl;simp only[h,if_false,Sn,z1,Sc,SV,e0,iY]
   ·trivial
theorem sZ{f:Field}{n b o:Nat}(hn:szT C.P f.type=some (n+1)):(fieldPlace (adr b o) f).run C.P w=.ok (adr b (o+f.offset)) w:=by unfold fieldPlace;simp only[Sn,ba hn,Sc];rw[Sa (by omega)];simp[gL]
theorem AP{ty:TypeId}{f fo n:Nat}{ft:TypeId}{a:T->AV}{t:T}{g:G}{va:Value}
  (ha:RV w γ A bd (a t) va) (hf:s_ C.P ty f=some (fo,ft)) (hn:szT C.P ft=some (n+1)) :
  ValSim C A bd w γ (Instr.fieldAt ty va f) (kM fo a t g):=by
 unfold s_ at hf;cases hu:C.P.underlying ty with
 |none=>rw[hu]at hf;cases hf
 | some d =>
  rw[hu]at hf;cases d with
  | struct fs =>
   dsimp only at hf;cases hx:fs[f]? with
   |none=>rw[hx]at hf;cases hf
   | some x =>
    rw[hx]at hf;injection hf with hf;injection hf with h1 h2;subst h1;subst h2;unfold kM;generalize a t=y at *;cases ha with
    | tptr _ tag sz rows i0 off0 b o cell ht hb hm ha' hrl ho hw h hcl =>
     refine⟨_,?_,.tptr _ tag sz rows i0 (off0+x.offset) b o cell ht hb hm ha' hrl ho hw h hcl⟩;simp[Instr.fieldAt,aF hu,hx,Instr.sureAddr,sZ hn,TZ]
    | hptr _ id ep i off b o hk he h =>
     refine⟨.pointer (some (adr b (o+x.offset))),?_,.hptr _ id ep i (off+x.offset) b _ hk he λe=>?_⟩
     ·simp[Instr.fieldAt,aF hu,hx,Instr.sureAddr,sZ hn]
     ·obtain⟨c1,c2⟩:=h e;exact⟨c1,by rw[c2];omega⟩
    |_=>trivial
  |_=>cases hf
theorem EJ{ty:TypeId}{ag:Bool}{n off:Nat}{cs:List AV}{c:Array Value}{x:AV}(hc:pE w γ A bd cs c)
  (hag:rL C.P ty=some ag) (hn:szT C.P ty=some n) (h:bT ag n cs off=some x):∃v,(part ty c off).run C.P w=.ok v w/\RV w γ A bd x v:=by
 unfold bT at h;cases ag with
 | false =>
  simp only[dV]at h;have hl:off<c.toList.length:=by rw[<-hc.1.1];exact (R6.1 h).1
  have hl':off<c.size:=by simpa using hl
  refine⟨c[off],?_,hc.1.2 off x _ h (by simp[hl'])⟩;simp[part,mG hag,hl']
 | true =>
  simp only[bh,bg,ay,aa]at h
  split at h
  ·rename_i hl;have hl:=aG hl;injection h with h;subst h;have hcs:cs.length=c.size:=by have:=hc.1.1;simpa using this
   have hln:off+n<=c.size\/n=0:=by simp at hl;omega
   refine⟨.agg (c.extract off (off+n)),by simp[part,mG hag,ba hn],.agg _ _ _ (by rw[hl];simp;omega) (λi y hy=>?_) (λi y v hy hv=>?_)⟩
   ·have hi:i<n:=by rw[<-hl];exact (R6.1 hy).1
    rw[SN hi,ST]at hy;exact hc.2 _ _ hy
   ·have hi:i<n:=by rw[<-hl];exact (R6.1 hy).1
    rw[SN hi,ST]at hy;rw[Array.getElem?_extract]at hv
    split at hv
    ·exact hc.1.2 _ _ _ hy (by simpa using hv)
    ·cases hv
  ·cases h
theorem A5{cs:List AV}{v:Value}(h:RV w γ A bd (.agg cs) v):∃c,v=.agg c/\pE w γ A bd cs c:=by
 cases h with
 |agg _ _ c hl h1 h'=>exact⟨c,rfl,⟨by simpa using hl,λi x v hx hv=>h' i x v hx (by simpa using hv)⟩,h1⟩
theorem Jc{ty:TypeId}{f fo n:Nat}{ft:TypeId}{ag:Bool}{y:AV}{va:Value}
  (ha:RV w γ A bd y va) (hf:s_ C.P ty f=some (fo,ft)) (hag:rL C.P ft=some ag) (hn:szT C.P ft=some n) :
  ValSim C A bd w γ (Instr.field ty va f) (match y with|.agg cs=>orV (bT ag n cs fo)|_=>.fail):=by
 unfold s_ at hf;cases hu:C.P.underlying ty with
 |none=>rw[hu]at hf;cases hf
 | some d =>
  rw[hu]at hf;cases d with
  | struct fs =>
   dsimp only at hf;cases hx:fs[f]? with
   |none=>rw[hx]at hf;cases hf
   | some x =>
    rw[hx]at hf;injection hf with hf;injection hf with h1 h2;subst h1;subst h2;cases y with
    | agg cs =>
     obtain⟨c,rfl,hc⟩:=A5 ha;refine oD λz hz=>?_;obtain⟨v,h1,h2⟩:=EJ hc hag hn hz;exact⟨v,by simp[Instr.field,aF hu,hx,asAgg,h1],h2⟩
    |_=>trivial
  |_=>cases hf
theorem zH{k:IntKind}{n:Int}{v:Value}(h:RV w γ A bd (.int k n) v):v=.int k n:=by cases h;rfl
theorem Ed{ty e:TypeId}{sz:Nat}{a ix:T->AV}{t:T}{g:G}{va vi:Value}(hr:Rel C A bd w γ hg nx)
  (ha:RV w γ A bd (a t) va) (hi:RV w γ A bd (ix t) vi) (hu:C.P.underlying ty=some (.slice e)) (hsz:szT C.P e=some sz)
  (agree:∀id∈ae (a t),hg id=g.h.get id) :
  ValSim C A bd w γ (Instr.indexAt ty va vi) (iH sz a ix t g):=by
 unfold iH;generalize a t=y at *;generalize ix t=z at *;cases ha with
 | tsl _ tag sz' rows b o cap cell ht hc hb hm ha' hrl ho hw h hcl =>
  dsimp only
  split
  ·rename_i k i;rw[aa]
   split
   ·rename_i hcond;simp only[R7,Tg,ay]at hcond;obtain⟨h1,h2⟩:=hcond;have h1:=aG h1;subst h1;have hvi:=zH hi;subst hvi;refine⟨_,?_,.tptr _ tag sz rows i 0 b o cell ht hb hm ha' hrl ho hw h hcl⟩;simp[Instr.indexAt,asIntOf,aF hu,h2,ba hsz,gL]
   ·trivial
  ·trivial
 | tnil _ tag sz' a' cap ht =>
  dsimp only
  split
  ·rename_i k i;rw[aa]
   split
   ·rename_i hcond;simp[ay]at hcond
   ·trivial
  ·trivial
 | hsl _ id ep off len lim b o cap hk he hc h =>
  have hagree:=agree id (by simp[ae]);dsimp only
  split
  ·rename_i k i;simp only[G.get_eq,<-hagree];cases hid:hg id with
   | cells sz' rows ep' loose fz =>
    dsimp only;rw[aa]
    split
    ·rename_i hcond;simp only[R7,Tg]at hcond;obtain⟨⟨h1,h2⟩,h3⟩:=hcond;have h1:=aG h1;have h2:=aG h2;subst h2;have hvi:=zH hi;subst hvi;have hob:=hr.obj id;rw[hid]at hob;obtain⟨k1,k2,k3,_⟩:=hob;obtain⟨c1,c2,_⟩:=h (h1.trans k2.symm);refine⟨.pointer (some (adr b (o+i*sz))),?_,.hptr _ id ep (off+i) 0 b _ hk he λ_=>⟨c1,?_⟩⟩
     ·simp[Instr.indexAt,asIntOf,aF hu,h3,ba hsz,gL]
     ·rw[c2,k3,SA];omega
    ·trivial
   |_=>trivial
  ·trivial
 |_=>trivial
theorem Ec{ty e:TypeId}{n sz:Nat}{a ix:T->AV}{t:T}{g:G}{va vi:Value}
  (ha:RV w γ A bd (a t) va) (hi:RV w γ A bd (ix t) vi) (hu:C.P.underlying ty=some (.array n e)) (hsz:szT C.P e=some sz) :
  ValSim C A bd w γ (Instr.indexAt ty va vi) (nz n sz a ix t g):=by
 unfold nz;generalize a t=y at *;generalize ix t=z at *
 split
 ·rename_i k i;rw[aa]
  split
  ·rename_i hlt;rw[Tg]at hlt;have hvi:=zH hi;subst hvi;have h2:=hlt;cases ha with
   | tptr _ tag sz' rows i0 off0 b o cell ht hb hm ha' hrl ho hw h hcl =>
    refine⟨_,?_,.tptr _ tag sz' rows i0 (off0+i*sz) b o cell ht hb hm ha' hrl ho hw h hcl⟩;simp[Instr.indexAt,asIntOf,aF hu,h2,ba hsz,gL,Instr.sureAddr,TZ]
   | hptr _ id ep j off b o hk he h =>
    refine⟨.pointer (some (adr b (o+i*sz))),?_,.hptr _ id ep j (off+i*sz) b _ hk he λe=>?_⟩
    ·simp[Instr.indexAt,asIntOf,aF hu,h2,ba hsz,gL,Instr.sureAddr]
    ·obtain⟨c1,c2⟩:=h e;exact⟨c1,by rw[c2];omega⟩
   |_=>trivial
  ·trivial
 ·trivial
theorem Jl{ty e:TypeId}{ag:Bool}{n sz:Nat}{a ix:T->AV}{t:T}{g:G}{va vi:Value}
  (ha:RV w γ A bd (a t) va) (hi:RV w γ A bd (ix t) vi) (hu:C.P.underlying ty=some (.array n e)) (hag:rL C.P e=some ag) (hsz:szT C.P e=some sz) :
  ValSim C A bd w γ (Instr.index ty va vi) (uJ ag n sz a ix t g):=by
 unfold uJ;generalize a t=y at *;generalize ix t=z at *;cases y with
 | agg cs =>
  dsimp only
  split
  ·rename_i k i;rw[aa]
   split
   ·rename_i hlt;rw[Tg]at hlt;have hvi:=zH hi;subst hvi;have h2:=hlt;obtain⟨c,rfl,hc⟩:=A5 ha;refine oD λx hx=>?_;obtain⟨v,h1,h3⟩:=EJ hc hag hsz hx;exact⟨v,by simp[Instr.index,asIntOf,aF hu,h2,ba hsz,h1],h3⟩
   ·trivial
  ·trivial
 |_=>trivial
theorem Co{ty:TypeId}{a ix:T->AV}{t:T}{g:G}{va vi:Value}
  (ha:RV w γ A bd (a t) va) (hi:RV w γ A bd (ix t) vi) (hu:C.P.underlying ty=some .string) :
  ValSim C A bd w γ (Instr.index ty va vi) (qc a ix t g):=by
 unfold qc;generalize a t=y at *;generalize ix t=z at *;cases ha with
 | str _ s =>
  dsimp only
  split
  ·rename_i k i;simp only[dV];cases hb:s.data.toList[i]? with
   |none=>trivial
   | some b =>
    have hvi:=zH hi;subst hvi;refine⟨.int .u8 b.toNat,?_,.int _ _ _⟩;have hlt:i<s.size:=by have:=(R6.1 hb).1;simpa using this
    have hb':s[i]?=some b:=by rw[getElem?_pos s i hlt];have:=(R6.1 hb).2;rw[Array.getElem_toList]at this;exact congrArg some this
    simp[Instr.index,asIntOf,aF hu,hb']
  ·trivial
 |_=>trivial
end
end Hx
end
section
namespace Hx
open Go
section
variable {C:Cfg}{A:Nat->Nat->Prop}{bd:Nat}{w w':World}{γ γ':Gm}{hg:Nat->AObj}{nx:Nat}
def RowsAt(w:World)(γ:Gm)(A:Nat->Nat->Prop)(bd sz:Nat)(rows:List (List AV))(b o:Nat):Prop :=
 (∀(i:Nat) row,rows[i]?=some row->row.length=sz) /\
 ∀(i j:Nat) row x,rows[i]?=some row->row[j]?=some x->x.one=true/\∃v,w.cell? (adr b (o+i*sz+j))=some v/\RV w γ A bd x v
theorem BE{rows:List (List AV)}{sz k:Nat}(hr:∀(i:Nat) row,rows[i]?=some row->row.length=sz)(hk:k<rows.length*sz) :
  ∃row x,rows[k / sz]?=some row/\row[k % sz]?=some x:=by
 have h0:0<sz:=by
  rcases Nat.eq_zero_or_pos sz with h|h
  ·subst h;simp at hk
  ·exact h
 have hi:k / sz<rows.length:=by rw[Nat.div_lt_iff_lt_mul h0];exact hk
 have e:=R4 hi;have hl:=hr _ _ e;have hj:k % sz<rows[k / sz].length:=by rw[hl];exact TD _ h0
 exact⟨_,_,e,R4 hj⟩
theorem zP{rows:List (List AV)}{sz b o:Nat}(h:RowsAt w γ A bd sz rows b o)(P:Program) :
  ∃c,(loadCells (adr b o) (rows.length*sz)).run P w=.ok c w/\c.size=rows.length*sz/\RowsRel w γ A bd sz rows c:=by
 have hex:∀k:Fin (rows.length*sz),∃v,w.cell? (adr b (o+k.1))=some v/\∀row x,rows[k.1 / sz]?=some row->row[k.1 % sz]?=some x->x.one=true/\RV w γ A bd x v:=by
  intro k;obtain⟨row,x,h1,h2⟩:=BE h.1 k.2;obtain⟨a,v,c1,c2⟩:=h.2 _ _ row x h1 h2;refine⟨v,?_,λrow' x' h1' h2'=>?_⟩
  ·have:o+k.1 / sz*sz+k.1 % sz=o+k.1:=by rw[TZ,Uj,UO]
   rw[<-this];exact c1
  ·rw[h1]at h1';injection h1' with h1';subst h1';rw[h2]at h2';injection h2' with h2';subst h2';exact⟨a,c2⟩
 let f:Fin (rows.length*sz)->Value:=λk=>Classical.choose (hex k)
 have hf:=λk=>Classical.choose_spec (hex k);have hlen:(List.ofFn f).length=rows.length*sz:=by simp
 have hrun:=ui (P:=P) (w:=w) (b:=b) (o:=o) (cs:=List.ofFn f) (λj c hc=>by
  have hj:j<rows.length*sz:=by rw[<-hlen];exact (R6.1 hc).1
  rw[List.getElem?_ofFn]at hc;simp[hj]at hc;rw[<-hc];exact (hf ⟨j,hj⟩).1)
 rw[hlen]at hrun;refine⟨_,hrun,by simp,by simp,h.1,λi j row x h1 h2=>?_⟩;have hi:i<rows.length:=(R6.1 h1).1;have hj:j<sz:=by rw[<-h.1 i row h1];exact (R6.1 h2).1
 have hk:i*sz+j<rows.length*sz:=by have:(i+1)*sz<=rows.length*sz:=Sw _ hi;rw[SA,Tq]at this;omega
 have e1:(i*sz+j) / sz=i:=by rw[Uc,Uh _ _ (by omega),Ux hj];omega
 obtain⟨a,b'⟩:=(hf ⟨i*sz+j,hk⟩).2 row x (by rw[e1];exact h1) (by rw[HZ hj];exact h2);exact⟨a,f ⟨i*sz+j,hk⟩,by simp[hk],b'⟩
theorem RowsAt.sub{rows:List (List AV)}{sz b o:Nat}(h:RowsAt w γ A bd sz rows b o)(l n:Nat):RowsAt w γ A bd sz ((rows.drop l).take n) b (o+l*sz):=by
 refine⟨λi row hi=>?_,λi j row x hi hj=>?_⟩
 ·have hi':i<n:=by have:=(R6.1 hi).1;simp at this;omega
  rw[SN hi',ST]at hi;exact h.1 _ _ hi
 ·have hi':i<n:=by have:=(R6.1 hi).1;simp at this;omega
  rw[SN hi',ST]at hi;obtain⟨a,v,c1,c2⟩:=h.2 _ _ row x hi hj;exact⟨a,v,by rw[show o+l*sz+i*sz+j=o+(l+i)*sz+j from by rw[SA];omega];exact c1,c2⟩
theorem z9(hr:Rel C A bd w γ hg nx){id sz ep:Nat}{rows:List (List AV)}{loose fz:Bool}(hid:hg id=.cells sz rows ep loose fz) :
  RowsAt w γ A bd sz rows (γ id).blk (γ id).base:=by
 have hob:=hr.obj id;rw[hid]at hob;obtain⟨k1,k2,k3,k4,k5,k6,c,e,k7,k8,k9,k10⟩:=hob;exact⟨k9,λi j row x h1 h2=>tL hr hid h1 j x h2⟩
theorem GA(hr:Rel C A bd w γ hg nx){sz:Nat}{x:AV}{v:Value}{h:H}{rows:List (List AV)}(hx:RV w γ A bd x v)
  (hrow:ak h sz x=some rows) (agree:∀id∈ae x,hg id=h.get id) :
  ∃b o cap,(v=.slice none 0 0/\rows=[]\/v=.slice (some (adr b o)) rows.length cap\/(∃a,v=.slice (some a) 0 cap)/\rows=[])/\RowsAt w γ A bd sz rows b o:=by
 unfold ak at hrow;cases hx with
 |nils=>injection hrow with hrow;subst hrow;exact⟨0,0,0,.inl ⟨rfl,rfl⟩,λi row h=>by simp at h,λi j row x h=>by simp at h⟩
 |esl _ a=>injection hrow with hrow;subst hrow;exact⟨0,0,0,.inr (.inr ⟨⟨a,rfl⟩,rfl⟩),λi row h=>by simp at h,λi j row x h=>by simp at h⟩
 | tnil _ tag sz' a cap ht =>
  simp only[aa]at hrow
  split at hrow
  ·injection hrow with hrow;subst hrow;exact⟨0,0,cap,.inr (.inr ⟨⟨a,rfl⟩,rfl⟩),λi row h=>by simp at h,λi j row x h=>by simp at h⟩
  ·cases hrow
 | tsl _ tag sz' rows' b o cap cell ht hc hb hm ha hrl ho hw h =>
  simp only[aa]at hrow
  split at hrow
  ·rename_i hcond;injection hrow with hrow;subst hrow;refine⟨b,o,cap,.inr (.inl rfl),?_⟩;simp only[SY]at hcond;rcases hcond with hcond|hcond
   ·have:=aG hcond;subst this;exact⟨hrl,λi j row x h1 h2=>⟨ho i j row x h1 h2,_,hw i j row x h1 h2,(h i j row x h1 h2).mono ht⟩⟩
   ·have:rows'=[]:=by cases rows'<;>simp_all
    subst this;exact⟨λi row h=>by simp at h,λi j row x h=>by simp at h⟩
  ·cases hrow
 | hsl _ id ep off len lim b o cap hk he hc h =>
  have hagree:=agree id (by simp[ae]);dsimp only at hrow;rw[<-hagree]at hrow;cases hid:hg id with
  | cells sz' rows' ep' loose fz =>
   rw[hid]at hrow;simp only[aa,ay,bh,bg]at hrow
   split at hrow
   ·rename_i hcond;simp only[R7,SS]at hcond;obtain⟨⟨h1,h2⟩,h3⟩:=hcond;have h1:=aG h1;have h2:=aG h2;subst h2;injection hrow with hrow;subst hrow;have hob:=hr.obj id;rw[hid]at hob;obtain⟨k1,k2,k3,_⟩:=hob;obtain⟨c1,c2,_⟩:=h (h1.trans k2.symm);refine⟨b,o,cap,.inr (.inl ?_),?_⟩
    ·simp;omega
    ·rw[c1,c2,k3];exact (z9 hr hid).sub off len
   ·cases hrow
  |_=>rw[hid]at hrow;cases hrow
 |_=>cases hrow
theorem RowsRel.append{sz:Nat}{r1 r2:List (List AV)}{c1 c2:Array Value}(h1:RowsRel w γ A bd sz r1 c1)(e1:c1.size=r1.length*sz)(h2:RowsRel w γ A bd sz r2 c2) :
  RowsRel w γ A bd sz (r1++r2) (c1++c2):=by
 refine⟨by have:=h2.1;simp[SA];omega,λi row hi=>?_,λi j row x hi hj=>?_⟩
 ·rw[UA]at hi
  split at hi
  ·exact h1.2.1 _ _ hi
  ·exact h2.2.1 _ _ hi
 ·rw[UA]at hi
  split at hi
  ·rename_i hlt;obtain⟨a,v,b1,b2⟩:=h1.2.2 i j row x hi hj;have hlt':=(TB.1 b1).1;exact⟨a,v,by rw[T4 hlt'];exact b1,b2⟩
  ·rename_i hge;obtain⟨a,v,b1,b2⟩:=h2.2.2 _ j row x hi hj;have:i*sz=r1.length*sz+(i - r1.length)*sz:=by rw[<-SA];congr 1;omega
   refine⟨a,v,?_,b2⟩;rw[Array.getElem?_append_right (by omega),<-b1];congr 1;omega
theorem RowsRel.more{sz:Nat}{r1:List (List AV)}{c1 c2:Array Value}(h1:RowsRel w γ A bd sz r1 c1):RowsRel w γ A bd sz r1 (c1++c2):=by refine⟨by have:=h1.1;simp;omega,h1.2.1,λi j row x hi hj=>?_⟩;obtain⟨a,v,b1,b2⟩:=h1.2.2 i j row x hi hj;have hlt':=(TB.1 b1).1;exact⟨a,v,by rw[T4 hlt'];exact b1,b2⟩
theorem RowsRel.step{sz:Nat}{r1:List (List AV)}{c1:Array Value}(h1:RowsRel w γ A bd sz r1 c1)(s:Stp w γ w' γ'):RowsRel w' γ' A bd sz r1 c1 :=
 ⟨h1.1,h1.2.1,λi j row x hi hj=>let ⟨a,v,b1,b2⟩:=h1.2.2 i j row x hi hj;⟨a,v,b1,b2.step s⟩⟩
theorem RowsRel.flat{sz:Nat}{rows:List (List AV)}{c:Array Value}(h:RowsRel w γ A bd sz rows c)(e:c.size=rows.length*sz) :
  RVs w γ A bd rows.flatten c.toList/\(∀(i:Nat) y,rows.flatten[i]?=some y->y.one=true) /\
  (∀(i j:Nat) row,rows[i]?=some row->j<sz->rows.flatten[i*sz+j]?=row[j]?):=by
 have hfl:rows.flatten.length=rows.length*sz:=by
  have h2:=h.2.1;clear e h
  induction rows with
  |nil=>simp
  | cons r rs ih =>
   have h0:=h2 0 r rfl;simp only[Ug,SZ,SJ,SA,Tq];rw[ih (λi row hi=>h2 (i+1) row (by simpa using hi)),h0];omega
 have hidx:∀(i j:Nat) row,rows[i]?=some row->j<sz->rows.flatten[i*sz+j]?=row[j]?:=by
  have h2:=h.2.1;clear e hfl h
  induction rows with
  |nil=>intro i j row hi;simp at hi
  | cons r rs ih =>
   intro i j row hi hj;have h0:=h2 0 r rfl;cases i with
   |zero=>simp at hi;subst hi;simp only[Ug,Vm,SU];rw[So (by omega)]
   | succ i =>
    simp only[Ug];rw[SA,Tq,Sj (by omega),h0,show i*sz+sz+j - sz=i*sz+j from by omega];exact ih (λi row hi=>h2 (i+1) row (by simpa using hi)) i j row (by simpa using hi) hj
 have hall:∀(k:Nat) y,rows.flatten[k]?=some y->∃row,rows[k / sz]?=some row/\row[k % sz]?=some y/\k / sz*sz+k % sz=k:=by
  intro k y hy;have hk:k<rows.length*sz:=by rw[<-hfl];exact (R6.1 hy).1
  obtain⟨row,x,h1,h2⟩:=BE h.2.1 hk;have h0:0<sz:=by
   rcases Nat.eq_zero_or_pos sz with h|h
   ·subst h;simp at hk
   ·exact h
  have ek:k / sz*sz+k % sz=k:=by rw[Uj,UO]
  have:=hidx _ _ row h1 (TD k h0);rw[ek,hy]at this;exact⟨row,h1,this.symm,ek⟩
 refine⟨⟨by rw[hfl];simp[e],λk y v hy hv=>?_⟩,λk y hy=>?_,hidx⟩
 ·obtain⟨row,h1,h2,h3⟩:=hall k y hy;obtain⟨a,u,b1,b2⟩:=h.2.2 _ _ row y h1 h2;rw[h3]at b1;simp only[U_]at hv;rw[hv]at b1;injection b1 with b1;subst b1;exact b2
 ·obtain⟨row,h1,h2,h3⟩:=hall k y hy;exact (h.2.2 _ _ row y h1 h2).1
end
end Hx
end
section
namespace Hx
open Go
section
variable {C:Cfg}{A:Nat->Nat->Prop}{bd:Nat}{w w':World}{γ γ':Gm}{hg:Nat->AObj}{nx:Nat}
def World.drewn(w:World):World:={ w with drawn:=w.drawn+1 }
theorem xy:Stp w γ (World.drewn w) γ :=
 ⟨R5 _,rfl,rfl,rfl,λ_ _ _=>rfl,λ_ _ h=>h,λ_ _=>.inl ⟨rfl,rfl⟩,λ_ _=>⟨R5 _,λ_=>⟨rfl,rfl,rfl,rfl,rfl⟩⟩⟩
theorem Rel.stpSame(h:Rel C A bd w γ hg nx)(s:Stp w γ w' γ)(hh:w'.heap=w.heap):Rel C A bd w' γ hg nx where
 obj id:=(h.obj id).step s rfl (λ_ _=>by rw[hh])
 lt id hk:=by rw[hh];exact h.lt id hk
 inj:=h.inj
 av:=h.av
 ab t b hb:=by rw[hh];exact h.ab t b hb
 glob g sz rows hg:=(h.glob g sz rows hg).step s
theorem yh(need cap:Nat)(h:cap<need):Builtin.nextslicecap need cap<=2*need+192:=by
 have grow:∀(r c:Nat),c<=2*need+192->Builtin.growBy need r c<=2*need+192:=by
  intro r
  induction r with
  |zero=>intro c hc;exact hc
  | succ r ih =>
   intro c hc;simp only[Builtin.growBy]
   split
   ·exact hc
   ·exact ih _ (by omega)
 unfold Builtin.nextslicecap
 split
 ·omega
 ·split
  ·omega
  ·exact grow _ _ (by omega)
theorem Mq:∀{vs:List Value} {as:List AV},yj vs=some as->vs.length=as.length:=by
 intro vs
 induction vs with
 |nil=>intro as h;simp[yj]at h;subst h;rfl
 | cons v vs ih =>
  intro as h;simp only[yj]at h
  split at h
  ·rename_i a as' h1 h2;injection h with h;subst h;simp[ih h2]
  ·cases h
structure Src (C:Cfg) (A:Nat->Nat->Prop) (bd sz:Nat) (w:World) (γ:Gm) (new:List (List AV)) (m:Sem (Array Value)):Prop where
 run:∀w1:World,w1.heap=w.heap->∃c,m.run C.P w1=.ok c w1/\c.size=new.length*sz/\RowsRel w γ A bd sz new c
def jv(e:TypeId)(sz bytes:Nat)(base:Option Addr)(sLen sCap n:Nat)(iO:Bool)(s x:Value)(appended:Sem (Array Value)):Sem Value:=do
 let need:=sLen+n
 if need<=sCap then
  let new <-appended
  if let some a:=base then storeCells (a.add (sLen*sz)) new.toList
  pure (.slice base need sCap)
 else
  if (need : Int) > IntKind.i64.max ∧ (iO ∨ (← typeInfo e).bytes = 0) then runtimePanic (.error "growslice: len out of range")
  if Builtin.nextslicecap need sCap * (← typeInfo e).bytes > 2 ^ 48 then (if iO then runtimePanic (.error "growslice: len out of range") else do
   if !(<-Builtin.mayShare sz sLen n base x) then mark .noRoom
   unsupported (.resourceLimit "append: a slice or a string whose bytes no memory bears"))
  let newCap <-choose (.appendCap need sCap e)
  askRoom (newCap*(<-typeInfo e).bytes)
  let old <-Builtin.firstCells sz sLen s
  let new <-appended
  let rest:=Builtin.zeroCells (<-zeroValue e).cells (newCap - need)
  pure (.slice (some (<-newRow e (old++new++rest))) need newCap)
theorem qo{e:TypeId}{sz bytes:Nat}{base:Option Addr}{sLen sCap n:Nat}{zs:Bool}{s x:Value}{appended:Sem (Array Value)}{zero:List AV}
  (hby:kh C.P e=some bytes) (hz:gK C.P e=some zero) (hzl:zero.length=sz) (h0:0<bytes) (hroom:(sLen+n)*bytes<=aY) (hn:¬sLen+n<=sCap)
  {oldc newc:Array Value} (hold:(Builtin.firstCells sz sLen s).run C.P (World.drewn w)=.ok oldc (World.drewn w))
  (hnew:appended.run C.P (World.drewn w)=.ok newc (World.drewn w)) :
  ∃newCap rest,(sLen+n<=newCap/\newCap<=9223372036854775807)/\rest.size=(newCap - (sLen+n))*sz /\
   (jv e sz bytes base sLen sCap n zs s x appended).run C.P w =
    .ok (.slice (some (adr w.heap.size 0)) (sLen+n) newCap) (World.add (World.drewn w) (.cells (oldc++newc++rest) e (0,0))):=by
 have hi:∃i,C.P.info? e=some i/\i.bytes=bytes:=by
  unfold kh at hby;cases hie:C.P.info? e with
  |none=>rw[hie]at hby;cases hby
  |some i=>rw[hie]at hby;simp at hby;exact⟨i,rfl,hby⟩
 obtain⟨i,i1,i2⟩:=hi;obtain⟨z,z1,z2⟩:=nK (w:=World.drewn w) hz;have hzs:z.cells.size=sz:=by have:=Mq z2;simp at this;omega
 unfold aY at hroom;have hle:sLen+n<=(sLen+n)*bytes:=Nat.le_mul_of_pos_right _ h0;have hns:=yh (sLen+n) sCap (by omega);have hb1:Builtin.nextslicecap (sLen+n) sCap*bytes<=2 ^ 48:=by
  have h1:Builtin.nextslicecap (sLen+n) sCap*bytes<=(2*(sLen+n)+192)*bytes:=Sw _ hns;have h2:bytes<=(sLen+n)*bytes:=Nat.le_mul_of_pos_left _ (by omega);have h3:(2*(sLen+n)+192)*bytes=2*((sLen+n)*bytes)+192*bytes:=by rw[SA,U8]
  omega
 let q:Question:=.appendCap (sLen+n) sCap e
 let newCap:=q.cut (w.tape w.drawn q)
 have hcut:sLen+n<=newCap/\newCap<=9223372036854775807:=by have hmod:w.tape w.drawn q % (2 ^ 63 - (sLen+n))<2 ^ 63 - (sLen+n):=TD _ (by omega);have:newCap=(sLen+n)+w.tape w.drawn q % (2 ^ 63 - (sLen+n)):=rfl;omega
 refine⟨newCap,Builtin.zeroCells z.cells (newCap - (sLen+n)),hcut,by simp[Builtin.zeroCells,hzs],?_⟩;unfold jv;have hi64:¬(((sLen+n:Nat):Int) > IntKind.i64.max):=by
  have:IntKind.i64.max=9223372036854775807:=by decide
  rw[this];omega
 have hch:(choose (.appendCap (sLen+n) sCap e)).run C.P w=.ok newCap (World.drewn w):=by rw[run_choose];rfl
 have hnb:¬(Builtin.nextslicecap (sLen+n) sCap*bytes > 2 ^ 48):=by omega
 dsimp only;rw[Sa hn];simp only[Sn,lI i1,Sc,i2];rw[Sa (λh=>hi64 h.1)];simp only[Sc,Sn,lI i1,i2];rw[Sa hnb];simp only[Sn,SV,Sc,hch,lI i1,run_askRoom,hold,hnew,z1,iY]
 rfl
theorem rN{e:TypeId}{sz bytes:Nat}{base:Option Addr}{sLen sCap n:Nat}{zs:Bool}{s x:Value}{appended:Sem (Array Value)}
  (hn:sLen+n<=sCap) {newc:Array Value} (hnew:appended.run C.P w=.ok newc w) :
  (jv e sz bytes base sLen sCap n zs s x appended).run C.P w =
   match base with
   |none=>.ok (.slice none (sLen+n) sCap) w
   |some a=>((storeCells (a.add (sLen*sz)) newc.toList).run C.P w).andThen λ_ w'=>.ok (.slice (some a) (sLen+n) sCap) w':=by
 unfold jv;dsimp only;rw[Sb hn];simp only[Sn,hnew,Sc];cases base with
 |none=>simp
 |some a=>simp
theorem uI(hr:Rel C A bd w γ hg nx){id ep off len sz:Nat}{lim:Option Nat}{v:Value}{rows:List (List AV)}{loose fz:Bool}
  (hv:RV w γ A bd (.hsl id ep off len lim) v) (hid:hg id=.cells sz rows ep loose fz) :
  ∃cap,v=.slice (some (adr (γ id).blk ((γ id).base+off*sz))) len cap/\len<=cap/\ju lim off cap (γ id):=by
 cases hv with
 | hsl _ _ _ _ _ _ b o cap hk he hc h =>
  have hob:=hr.obj id;rw[hid]at hob;obtain⟨k1,k2,k3,_⟩:=hob;obtain⟨c1,c2,c3⟩:=h k2.symm;exact⟨cap,by rw[c1,c2,k3],hc,c3⟩
theorem tb{P:Program}{b o len cap sz:Nat}{rows:List (List AV)}(h:RowsAt w γ A bd sz rows b o)(hl:rows.length=len) :
  ∃c,(Builtin.firstCells sz len (.slice (some (adr b o)) len cap)).run P w=.ok c w/\c.size=rows.length*sz/\RowsRel w γ A bd sz rows c:=by
 obtain⟨c,h1,h2,h3⟩:=zP h P;exact⟨c,by simp only[Builtin.firstCells];rw[<-hl];exact h1,h2,h3⟩
theorem RowsAt.same{rows:List (List AV)}{sz b o:Nat}(h:RowsAt w γ A bd sz rows b o)(s:Stp w γ w' γ)(hh:w'.heap=w.heap):RowsAt w' γ A bd sz rows b o :=
 ⟨h.1,λi j row x h1 h2=>let ⟨a,v,c,d⟩:=h.2 i j row x h1 h2;⟨a,v,by rw[B3 (w:=w) (w':=w') (by rw[hh])];exact c,d.step s⟩⟩
theorem RowsRel.back{rows:List (List AV)}{sz:Nat}{c:Array Value}(h:RowsRel (World.drewn w) γ A bd sz rows c):RowsRel w γ A bd sz rows c:=by
 have s:Stp (World.drewn w) γ w γ :=
  ⟨R5 _,rfl,rfl,rfl,λ_ _ _=>rfl,λ_ _ h=>h,λ_ _=>.inl ⟨rfl,rfl⟩,λ_ _=>⟨R5 _,λ_=>⟨rfl,rfl,rfl,rfl,rfl⟩⟩⟩
 exact h.step s
theorem xf{e:TypeId}{sz:Nat}{rows:List (List AV)}{cs:Array Value}(hr:Rel C A bd w γ hg nx){g:G}(hf:(γ g.nx).kind=0)
  (h:RowsRel w γ A bd sz rows cs) (len cap:Nat) (hc:cap*sz<=cs.size) (hcap:rows.length<=cap) (hlen:len=rows.length) (hmax:cap<=9223372036854775807) :
  ∃γ',Rel C A bd (World.add (World.drewn w) (.cells cs e (0,0))) γ' (upd hg g.nx (.cells sz rows 0 true false)) (Nat.max nx (g.nx+1)) /\
   Stp w γ (World.add (World.drewn w) (.cells cs e (0,0))) γ' /\
   RV (World.add (World.drewn w) (.cells cs e (0,0))) γ' A bd (.hsl g.nx 0 0 len none) (.slice (some (adr w.heap.size 0)) len cap):=by
 have s0:Stp w γ (World.drewn w) γ:=xy;have hr':=hr.stpSame s0 rfl;obtain⟨γ',s1,s2,s3⟩:=qQ (w:=World.drewn w) e hr' hf (h.step s0) len cap true (cap - rows.length) ⟨λh=>(by cases h),λ_=>(by omega)⟩
  (by rw[show rows.length+(cap - rows.length)=cap from by omega];exact hc) (by omega) (by omega)
 exact⟨γ',s1,s0.trans s2,s3⟩
theorem Rel.moved(hr:Rel C A bd w γ hg nx){id:Nat}{sz ep:Nat}{rows rows':List (List AV)}{loose:Bool}(hid:hg id=.cells sz rows ep loose false)
  {w1:World} {gh:Gh} (h1:gh.kind=1) (h2:gh.ep=ep+1) (h3:gh.sz=sz) (h4:gh.n=rows'.length) (h5:gh.wr=true)
  (hos:w1.os=w.os/\w1.tape=w.tape/\w1.output=w.output/\w.heap.size<=w1.heap.size)
  (hmax:rows'.length+gh.slack<=9223372036854775807) (hb:gh.blk=(γ id).blk\/(gh.blk=w.heap.size/\w.heap.size<w1.heap.size))
  (hheap:∀b,b<w.heap.size->b≠(γ id).blk->w1.heap[b]?=w.heap[b]?)
  {c:Array Value} {e:TypeId} (hc:w1.heap[gh.blk]?=some (.cells c e (0,0))) (hsz:gh.base+(rows'.length+gh.slack)*sz<=c.size)
  (hrl:∀(i:Nat) row,rows'[i]?=some row->row.length=sz)
  (hcell:∀(i j:Nat) row x,rows'[i]?=some row->row[j]?=some x->x.one=true/\∃v,c[gh.base+i*sz+j]?=some v/\RV w γ A bd x v) :
  Rel C A bd w1 (upd γ id gh) (upd hg id (.cells sz rows' (ep+1) true false)) nx/\Stp w γ w1 (upd γ id gh):=by
 have hob:=hr.obj id;rw[hid]at hob;obtain⟨k1,k2,k3,k4,k5,k6,_⟩:=hob;have hk:(γ id).kind≠0:=by rw[k1];decide
 have hw:(γ id).wr=true:=by simpa using k6
 have hlt:=hr.lt id hk;have s:Stp w γ w1 (upd γ id gh):=by
  refine⟨hos.2.2.2,hos.1,hos.2.1,hos.2.2.1,λb hb' hm=>hheap b hb' (λe=>hm ⟨id,hk,hw,e.symm⟩),λb hb'=>?_,λj hj=>?_,λj hj=>?_⟩
  ·rintro⟨j,m1,m2,m3⟩
   by_cases hj:j=id
   ·subst hj;simp only[upd_same]at m3;rcases hb with hb|hb
    ·exact⟨j,hk,hw,by rw[<-hb];exact m3⟩
    ·omega
   ·rw[cE _ _ hj]at m1 m2 m3;exact⟨j,m1,m2,m3⟩
  ·by_cases hji:j=id
   ·subst hji;rw[upd_same];exact .inr ⟨k1,h1,by rw[h2,k2];omega⟩
   ·rw[cE _ _ hji];exact .inl ⟨rfl,rfl⟩
  ·by_cases hji:j=id
   ·subst hji;rw[upd_same,h2,k2];exact⟨by omega,λh=>by omega⟩
   ·rw[cE _ _ hji];exact⟨R5 _,λ_=>⟨rfl,rfl,rfl,rfl,rfl⟩⟩
 refine⟨hr.set rfl s (R5 _) ?_ ⟨hlt.1,?_⟩ (λj hj hkj e=>?_) ?_ (λj hj hkj _=>?_),s⟩
 ·simp only[ObjRel,upd_same];refine⟨h1,h2,h3,h4,⟨λh=>(by cases h),λ_=>hmax⟩,by rw[h5];rfl,c,e,hc,hsz,hrl,λi j row x a b=>?_⟩;obtain⟨p,v,q1,q2⟩:=hcell i j row x a b;exact⟨p,v,q1,q2.step s⟩
 ·rcases hb with hb|hb
  ·rw[hb];omega
  ·omega
 ·rcases hb with hb|hb
  ·exact hj (hr.inj j id hkj hk (by rw[e,hb]))
  ·have:=(hr.lt j hkj).2;omega
 ·rcases hb with hb|hb
  ·rw[hb];exact hr.av id hk
  ·exact λt ht=>by have:=hr.ab t _ ht;omega
 ·exact hheap _ (hr.lt j hkj).2 (λe=>hj (hr.inj j id hkj hk e))
end
end Hx
end
section
namespace Hx
open Go
section
variable {C:Cfg}{A:Nat->Nat->Prop}{bd:Nat}{w w':World}{γ γ':Gm}{hg:Nat->AObj}{nx:Nat}
theorem jX{P:Program}(a:Addr):(storeCells a []).run P w=.ok () w:=rfl
theorem EM{rows new:List (List AV)}{off:Nat}(h:off+new.length<=rows.length) :
  (my rows off new).length=rows.length/\∀i,(my rows off new)[i]?=if off<=i/\i<off+new.length then new[i - off]? else rows[i]?:=by
 unfold my;simp only[gV,bh,bg,ay]
 split
 ·rename_i r;refine⟨by simp,λi=>?_⟩;simp only[SJ,T8]at h ⊢;rw[S8]
  by_cases hi:off=i
  ·subst hi;rw[Sb rfl,Sb (by omega),Sb (by omega)];simp
  ·rw[Sa hi,Sa (by omega)]
 ·refine⟨by simp;omega,λi=>?_⟩
  by_cases h1:i<off
  ·rw[Sa (by omega),So (by simp;omega),SN h1]
  ·rw[Sj (by simp;omega)];simp only[SL,T_ (show off<=rows.length by omega)]
   by_cases h2:i<off+new.length
   ·rw[Sb ⟨by omega,h2⟩,So (by omega)]
   ·rw[Sa (by omega),Sj (by omega),ST];congr 1;omega
theorem Rel.storeRows(hr:Rel C A bd w γ hg nx){id sz ep off:Nat}{rows new:List (List AV)}{loose:Bool}(hid:hg id=.cells sz rows ep loose false)
  {c:Array Value} (hc:RowsRel w γ A bd sz new c) (hcs:c.size=new.length*sz) (hle:off+new.length<=rows.length) (P:Program) :
  ∃w',(Go.storeCells (adr (γ id).blk ((γ id).base+off*sz)) c.toList).run P w=.ok () w' /\
   Rel C A bd w' γ (upd hg id (.cells sz (my rows off new) ep loose false)) nx/\Stp w γ w' γ:=by
 obtain⟨p1,p2⟩:=EM hle;have hob:=hr.obj id;rw[hid]at hob;obtain⟨k1,k2,k3,k4,k5,k6,cc,e,k7,k8,k9,k10⟩:=hob;obtain⟨f1,f2,f3⟩:=hc.flat hcs;have hcl:c.toList.length=new.length*sz:=by simp[hcs]
 have hmul:(off+new.length)*sz<=rows.length*sz:=Sw _ hle;rw[SA]at hmul;refine hr.storeCells hid (o:=(γ id).base+off*sz) (xs:=new.flatten) f1 f2 p1 (λi row hi=>?_) ⟨by omega,by omega⟩ (λi j row x hi hj=>?_) P
 ·rw[p2]at hi
  split at hi
  ·exact hc.2.1 _ _ hi
  ·exact k9 _ _ hi
 ·rw[p2]at hi;rw[hcl];have hj':j<sz:=by
   have hl:row.length=sz:=by
    split at hi
    ·exact hc.2.1 _ _ hi
    ·exact k9 _ _ hi
   rw[<-hl];exact (R6.1 hj).1
  by_cases hcond:off<=i/\i<off+new.length
  ·rw[Sb hcond]at hi;have h1:off*sz<=i*sz:=Sw _ hcond.1;have h2:(i+1)*sz<=(off+new.length)*sz:=Sw _ hcond.2;rw[SA,Tq,SA]at h2;rw[Sb (by omega)];have h3:(i - off)*sz+off*sz=i*sz:=by rw[<-SA];congr 1;omega
   rw[show (γ id).base+i*sz+j - ((γ id).base+off*sz)=(i - off)*sz+j from by omega,f3 _ _ row hi hj'];exact hj
  ·rw[Sa hcond]at hi;rw[Sa]
   ·exact⟨row,hi,hj⟩
   ·rintro⟨l1,l2⟩;apply hcond;refine⟨?_,?_⟩
    ·rcases TW i off with h|h
     ·have:(i+1)*sz<=off*sz:=Sw _ h;rw[SA,Tq]at this;omega
     ·exact h
    ·rcases TW i (off+new.length) with h|h
     ·exact h
     ·have:(off+new.length)*sz<=i*sz:=Sw _ h;rw[SA]at this;omega
theorem Nf{rows:List (List AV)}{off len:Nat}(h:off+len<=rows.length):((rows.drop off).take len).length=len:=by simp;omega
noncomputable def yO(sz bytes:Nat)(s0:AV)(new:List (List AV))(g:G):OR :=
 match new with
 |[]=>.val s0
 |_=>aB (Nat.ble (bz new*bytes) aY) (.upd (.hsl g.nx 0 0 (bz new) none) (g.new (.cells sz new 0 true false))) .fail
theorem rO{e:TypeId}{sz bytes:Nat}{zero:List AV}{s:AV}{v x:Value}{new:List (List AV)}{zs:Bool}{appended:Sem (Array Value)}{g:G}
  (hr:Rel C A bd w γ hg nx) (hf:(γ g.nx).kind=0) (hs:RV w γ A bd s v) (hby:kh C.P e=some bytes) (hz:gK C.P e=some zero) (hzl:zero.length=sz)
  (hb0:0<bytes) (happ:∀w1:World,w1=w\/w1=World.drewn w->∃c,appended.run C.P w1=.ok c w1/\c.size=new.length*sz/\RowsRel w γ A bd sz new c)
  (agree:∀id∈ae s,hg id=g.h.get id) :
  bf sz bytes s new g=.fail\/∃base sLen sCap,v=.slice base sLen sCap /\
   dk C A bd w γ hg nx (jv e sz bytes base sLen sCap new.length zs v x appended) g (bf sz bytes s new g):=by
 have hnil:∀(base:Option Addr) (cap:Nat),new=[]->∀len,len<=cap->(jv e sz bytes base len cap new.length zs (.slice base len cap) x appended).run C.P w=.ok (.slice base len cap) w:=by
  intro base cap hn len hl;obtain⟨c,c1,c2,_⟩:=happ w (.inl rfl);have hc0:c=#[]:=by rw[hn]at c2;simpa using c2
  rw[rN (by rw[hn];simpa using hl) c1,hn,hc0];cases base<;>simp[jX]
 have hempty:∀(base:Option Addr) (s0:AV),RV w γ A bd s0 (.slice base 0 0)->(Builtin.firstCells sz 0 (.slice base 0 0)).run C.P (World.drewn w)=.ok #[] (World.drewn w) ->
   yO sz bytes s0 new g=.fail \/
   dk C A bd w γ hg nx (jv e sz bytes base 0 0 new.length zs (.slice base 0 0) x appended) g (yO sz bytes s0 new g):=by
  intro base s0 hs0 hold;rcases hnew:new with _|⟨r,rs⟩
  ·exact .inr ⟨.slice base 0 0,hnew ▸ hnil base 0 hnew 0 (R5 _),hs0⟩
  ·rw[<-hnew];have hne:yO sz bytes s0 new g=aB (Nat.ble (bz new*bytes) aY) (OR.upd (.hsl g.nx 0 0 (bz new) none) (g.new (.cells sz new 0 true false))) OR.fail:=by rw[hnew];rfl
   rw[hne];simp only[ay,aa]
   split
   ·rename_i hroom;rw[SS]at hroom;refine .inr ?_;obtain⟨c,c1,c2,c3⟩:=happ (World.drewn w) (.inr rfl);have hpos:0<new.length:=by rw[hnew];simp
    obtain⟨newCap,rest,n1,n2,n3⟩:=qo (zs:=zs) (x:=x) (w:=w) hby hz hzl hb0 (sLen:=0) (n:=new.length) (sCap:=0) (by simpa using hroom) (by omega) hold c1;have hcap:newCap*sz<=(#[]++c++rest).size:=by simp only[Array.size_append,n2,c2,List.size_toArray,T8];rw[SU,<-SA];apply Sw;omega
    obtain⟨γ',s1,s2,s3⟩:=xf (e:=e) (cs:=#[]++c++rest) hr hf (by simpa using c3.more) new.length newCap hcap (by omega) rfl n1.2;rw[SU]at n3;exact⟨_,_,γ',g.nx,_,n3,s3,s2,.inr ⟨rfl,rfl,s1⟩⟩
   ·exact .inl rfl
 unfold bf;cases hs with
 |nils=>exact (hempty none .nils (.nils _) (by simp[Builtin.firstCells])).imp id λh=>⟨none,0,0,rfl,h⟩
 |esl _ a=>exact (hempty (some a) .esl (.esl _ a) (by simp[Builtin.firstCells,loadCells,loadCellsFrom])).imp id λh=>⟨some a,0,0,rfl,h⟩
 | tsl _ tag sz' rows b o cap cell ht hc hb hm ha hrl ho hw h hcl =>
  cases hnew:new with
  | nil =>
   refine .inr ⟨some (adr b o),rows.length,cap,rfl,.slice (some (adr b o)) rows.length cap,(hnew ▸ hnil _ cap hnew rows.length hc),.tsl _ tag sz' rows b o cap cell ht hc hb hm ha hrl ho hw h hcl⟩
  |cons r rs=>exact .inl rfl
 | tnil _ tag sz' a cap ht =>
  cases hnew:new with
  |nil=>exact .inr ⟨some a,0,cap,rfl,.slice (some a) 0 cap,(hnew ▸ hnil _ cap hnew 0 (S2 _)),.tnil _ tag sz' a cap ht⟩
  |cons r rs=>exact .inl rfl
 | hsl _ id ep off len lim b0 o0 cap0 hk he hc0 h0 =>
  have hagree:=agree id (by simp[ae]);simp only[G.get_eq,<-hagree];cases hid:hg id with
  | cells sz' rows ep' loose fz =>
   dsimp only;simp only[ay,aa]
   split
   ·rename_i hcond;simp only[R7,SS]at hcond;obtain⟨⟨⟨h1,h2⟩,h3⟩,h4⟩:=hcond;have h1:=aG h1;have h2:=aG h2;subst h1;subst h2;obtain⟨cap,hv,hlc,hco⟩:=uI hr (RV.hsl bd id ep off len lim b0 o0 cap0 hk he hc0 h0) hid;rw[hv];have hob:=hr.obj id;rw[hid]at hob;obtain⟨k1,k2,k3,k4,k5,k6,cc,ee,k7,k8,k9,k10⟩:=hob
    split
    ·rename_i hfit;rw[SS]at hfit;have hcapfit:len+new.length<=cap:=by
      unfold ju at hco;cases lim with
      |none=>simp at hfit;dsimp only at hco;omega
      |some c=>simp at hfit;dsimp only at hco;omega
     cases hnew:new with
     | nil =>
      refine .inr ⟨some (adr (γ id).blk ((γ id).base+off*sz)),len,cap,rfl,.slice (some (adr (γ id).blk ((γ id).base+off*sz))) len cap,(hnew ▸ hnil _ cap hnew len hlc),?_⟩;rw[<-hv];exact RV.hsl bd id ep off len lim b0 o0 cap0 hk he hc0 h0
     | cons r rs =>
      dsimp only;rw[<-hnew]
      split
      ·rename_i hc2;simp only[R7,SS,notb_eq,SP]at hc2;obtain⟨h5,h6⟩:=hc2;subst h6;refine .inr ⟨_,_,_,rfl,?_⟩;obtain⟨c,c1,c2,c3⟩:=happ w (.inl rfl);obtain⟨w',r1,r2,r3⟩:=hr.storeRows hid (off:=off+len) c3 c2 (by omega) C.P;refine⟨.slice (some (adr (γ id).blk ((γ id).base+off*sz))) (len+new.length) cap,w',γ,id,_,?_,?_,r3,.inl ⟨rfl,r2⟩⟩
       ·rw[rN hcapfit c1];dsimp only;rw[gL,show (γ id).base+off*sz+len*sz=(γ id).base+(off+len)*sz from by rw[SA];omega,r1]
        rfl
       ·exact .hsl _ id ep off _ lim _ _ cap k1 (by omega) hcapfit (λ_=>⟨rfl,by rw[k3],hco⟩)
      ·exact .inl rfl
    ·rename_i hnofit;rw[SS]at hnofit;have hold0:=(z9 hr hid).sub off len;have hsub:=Nf (rows:=rows) (off:=off) (len:=len) h3;have hstp:Stp w γ (World.drewn w) γ:=xy
     split
     ·rename_i hstrict;refine .inr ⟨_,_,_,rfl,?_⟩;have hgt:¬len+new.length<=cap:=by
       unfold ju at hco;cases lim with
       | none =>
        simp at hstrict;dsimp only at hco;have:=k5.1 hstrict;simp at hnofit;omega
       |some c=>simp at hnofit;dsimp only at hco;omega
      obtain⟨c,c1,c2,c3⟩:=happ (World.drewn w) (.inr rfl);obtain⟨oc,o1,o2,o3⟩:=tb (P:=C.P) (cap:=cap) (hold0.same hstp rfl) hsub;rw[hsub]at o2;obtain⟨newCap,rest,n1,n2,n3⟩:=qo (zs:=zs) (x:=x) (w:=w) hby hz hzl hb0 (sLen:=len) (n:=new.length) (sCap:=cap) (base:=some (adr (γ id).blk ((γ id).base+off*sz))) (by simpa using h4) hgt o1 c1;have hcap:newCap*sz<=(oc++c++rest).size:=by simp only[Array.size_append,n2,c2,o2];rw[<-SA,<-SA];apply Sw;omega
      have hrows:RowsRel w γ A bd sz ((rows.drop off).take len++new) (oc++c++rest):=(o3.back.append (by rw[hsub];exact o2) c3).more;obtain⟨γ',s1,s2,s3⟩:=xf (e:=e) (cs:=oc++c++rest) hr hf hrows (len+new.length) newCap hcap (by simp[hsub];omega) (by simp[hsub]) n1.2;refine⟨_,_,γ',g.nx,_,n3,s3,s2,.inr ⟨?_,rfl,s1⟩⟩;simp only[bh,bg]
     ·rename_i hloose
      split
      ·exact .inl rfl
      ·rename_i hfz;have hfz:fz=false:=by simpa using hfz
       subst hfz;have hl:lim=none/\loose=true:=by cases lim<;>cases loose<;>simp_all
       obtain⟨hl1,hl2⟩:=hl;subst hl1;subst hl2;have hco':off+cap=rows.length+(γ id).slack:=by unfold ju at hco;dsimp only at hco;omega
       refine .inr ⟨_,_,_,rfl,?_⟩
       by_cases hfit:len+new.length<=cap
       ·
        obtain⟨c,c1,c2,c3⟩:=happ w (.inl rfl);have hcsz:(γ id).base+off*sz+len*sz+c.toList.length<=cc.size:=by have:(off+(len+new.length))*sz<=(rows.length+(γ id).slack)*sz:=Sw _ (by omega);rw[SA,SA]at this;simp[c2];omega
        obtain⟨f1,f2,f3⟩:=c3.flat c2;have hrun:=tx (P:=C.P) c.toList 0 w cc k7 (o:=(γ id).base+off*sz+len*sz) (by simpa using hcsz) (Ie f1 f2);simp only[TV]at hrun
        let gh:Gh:=⟨1,ep+1,sz,len+new.length,(γ id).blk,(γ id).base+off*sz,cap - (len+new.length),true⟩
        obtain⟨s1,s2⟩:=hr.moved hid (w1:=World.setBlk w (γ id).blk (.cells (bj cc ((γ id).base+off*sz+len*sz) c.toList) ee (0,0))) (gh:=gh)
         (rows':=(rows.drop off).take len++new) rfl rfl rfl (by simp[gh,hsub]) rfl ⟨rfl,rfl,rfl,by simp⟩ (by have:=k5.2 rfl;simp[gh,hsub];omega) (.inl rfl)
         (λb _ hb=>by rw[aZ,Sa];rintro⟨e,_⟩;exact hb e)
         (c:=bj cc ((γ id).base+off*sz+len*sz) c.toList) (e:=ee)
         (by rw[aZ];simp[gh,(hr.lt id (by rw[k1];decide)).2])
         (by
          simp only[gh,bP,SZ,hsub];have:(off+cap)*sz<=(rows.length+(γ id).slack)*sz:=Sw _ (by omega);rw[SA]at this;rw[show len+new.length+(cap - (len+new.length))=cap from by omega];omega)
         (λi row hi=>by
          rw[UA]at hi
          split at hi
          ·exact hold0.1 _ _ hi
          ·exact c3.2.1 _ _ hi)
         (λi j row y hi hj=>by
          rw[UA,hsub]at hi
          split at hi
          ·rename_i hil;have hi':=hi;rw[SN hil,ST]at hi';have hjs:j<sz:=by rw[<-k9 _ _ hi'];exact (R6.1 hj).1
           obtain⟨a,v,b1,b2⟩:=k10 _ j row y hi' hj;refine⟨a,v,?_,b2⟩;rw[ch _ _ _ _ hcsz,Sa]
           ·simp only[gh];rw[show (γ id).base+off*sz+i*sz+j=(γ id).base+(off+i)*sz+j from by rw[SA];omega];exact b1
           ·simp only[gh];have:(i+1)*sz<=len*sz:=Sw _ hil;rw[SA,Tq]at this;omega
          ·rename_i hil;have hjs:j<sz:=by rw[<-c3.2.1 _ _ hi];exact (R6.1 hj).1
           have hlt:i - len<new.length:=(R6.1 hi).1;obtain⟨a,v,b1,b2⟩:=c3.2.2 _ j row y hi hj;refine⟨a,v,?_,b2⟩;have e1:i*sz=len*sz+(i - len)*sz:=by rw[<-SA];congr 1;omega
           have e2:(i - len+1)*sz<=new.length*sz:=Sw _ hlt;rw[SA,Tq]at e2;rw[ch _ _ _ _ hcsz];simp only[gh];rw[Sb (by simp[c2];omega),show (γ id).base+off*sz+i*sz+j - ((γ id).base+off*sz+len*sz)=(i - len)*sz+j from by omega];simpa using b1)
        refine⟨.slice (some (adr (γ id).blk ((γ id).base+off*sz))) (len+new.length) cap,_,_,id,_,?_,?_,s2,.inl ⟨?_,s1⟩⟩
        ·rw[rN hfit c1];dsimp only;rw[gL,hrun];rfl
        ·refine .hsl _ id (ep+1) 0 _ none _ _ cap (by simp[gh]) (by simp[gh]) hfit (λ_=>⟨by simp[gh],by simp[gh],?_⟩);simp only[ju,upd_same,gh];omega
        ·simp only[bh,bg]
       ·
        obtain⟨c,c1,c2,c3⟩:=happ (World.drewn w) (.inr rfl);obtain⟨oc,o1,o2,o3⟩:=tb (P:=C.P) (cap:=cap) (hold0.same hstp rfl) hsub;rw[hsub]at o2;obtain⟨newCap,rest,n1,n2,n3⟩:=qo (zs:=zs) (x:=x) (w:=w) hby hz hzl hb0 (sLen:=len) (n:=new.length) (sCap:=cap) (base:=some (adr (γ id).blk ((γ id).base+off*sz))) (by simpa using h4) hfit o1 c1;have hcap:newCap*sz<=(oc++c++rest).size:=by simp only[Array.size_append,n2,c2,o2];rw[<-SA,<-SA];apply Sw;omega
        have hrows:RowsRel w γ A bd sz ((rows.drop off).take len++new) (oc++c++rest):=(o3.back.append (by rw[hsub];exact o2) c3).more
        let gh:Gh:=⟨1,ep+1,sz,len+new.length,w.heap.size,0,newCap - (len+new.length),true⟩
        obtain⟨s1,s2⟩:=hr.moved hid (w1:=World.add (World.drewn w) (.cells (oc++c++rest) e (0,0))) (gh:=gh)
         (rows':=(rows.drop off).take len++new) rfl rfl rfl (by simp[gh,hsub]) rfl ⟨rfl,rfl,rfl,by simp[World.drewn]⟩ (by have:=n1.1;have:=n1.2;simp[gh,hsub];omega) (.inr ⟨rfl,by simp[World.drewn]⟩)
         (λb hb _=>by rw[lp,Sa (by simp[World.drewn];omega)];rfl)
         (c:=oc++c++rest) (e:=e) (by rw[lp];simp[gh,World.drewn])
         (by simp only[gh,SZ,hsub];rw[show len+new.length+(newCap - (len+new.length))=newCap from by omega];omega)
         hrows.2.1 (λi j row y hi hj=>by simpa [gh] using hrows.2.2 i j row y hi hj)
        refine⟨_,_,_,id,_,n3,?_,s2,.inl ⟨?_,s1⟩⟩
        ·refine .hsl _ id (ep+1) 0 _ none _ _ newCap (by simp[gh]) (by simp[gh]) n1.1 (λ_=>⟨by simp[gh],by simp[gh],?_⟩);simp only[ju,upd_same,gh];omega
        ·simp only[bh,bg]
   ·exact .inl rfl
  |_=>exact .inl rfl
 |_=>exact .inl rfl
end
end Hx
end
