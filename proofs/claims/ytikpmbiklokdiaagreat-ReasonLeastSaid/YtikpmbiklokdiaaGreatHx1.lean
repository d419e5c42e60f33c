/- A part of the proof: what the functions of the chapter compute. -/
import GoSem.Step
import Derived.RangeFuncIn
import Derived.Laws.Sem
import Derived.Laws.Tables
set_option linter.all false
section
namespace Hx
open Go
theorem Uf:type_of% @And.intro:=@And.intro
theorem Uh:type_of% @List.getElem?_eq_some_iff:=@List.getElem?_eq_some_iff
theorem Ui:type_of% @Nat.le_refl:=@Nat.le_refl
theorem Uj:type_of% @List.getElem?_eq_getElem:=@List.getElem?_eq_getElem
theorem Uk:type_of% @Bool.and_eq_true:=@Bool.and_eq_true
theorem Ul:type_of% @List.mem_of_getElem?:=@List.mem_of_getElem?
theorem Um:type_of% @if_neg:=@if_neg
theorem Un:type_of% @if_pos:=@if_pos
theorem Uo:type_of% @List.getElem?_map:=@List.getElem?_map
theorem Uq:type_of% @Result.andThen_ok:=@Result.andThen_ok
theorem Ur:type_of% @Int.eq_ofNat_of_zero_le:=@Int.eq_ofNat_of_zero_le
theorem Us:type_of% @Option.getD_some:=@Option.getD_some
theorem Ut:type_of% @Sem.run_bind:=@Sem.run_bind
theorem Uu:type_of% @List.not_mem_nil:=@List.not_mem_nil
theorem Uv:type_of% @Array.getElem?_eq_getElem:=@Array.getElem?_eq_getElem
theorem Uw:type_of% @List.mem_range:=@List.mem_range
theorem Ux:type_of% @List.append_nil:=@List.append_nil
theorem Uy:type_of% @Nat.le_trans:=@Nat.le_trans
theorem Uz:type_of% @List.all_eq_true:=@List.all_eq_true
theorem UA:type_of% @List.getElem?_append_right:=@List.getElem?_append_right
theorem UB:type_of% @Nat.mul_le_mul_right:=@Nat.mul_le_mul_right
theorem UC:type_of% @Nat.succ_pos:=@Nat.succ_pos
theorem UD:type_of% @decide_eq_true_eq:=@decide_eq_true_eq
theorem UE:type_of% @List.cons_append:=@List.cons_append
theorem UF:type_of% @List.getElem?_append_left:=@List.getElem?_append_left
theorem UG:type_of% @List.getElem?_of_mem:=@List.getElem?_of_mem
theorem UH:type_of% @Nat.add_mul:=@Nat.add_mul
theorem UI:type_of% @Nat.lt_of_lt_of_le:=@Nat.lt_of_lt_of_le
theorem UJ:type_of% @List.eq_nil_of_length_eq_zero:=@List.eq_nil_of_length_eq_zero
theorem UK:type_of% @List.length_map:=@List.length_map
theorem UL:type_of% @List.mem_append:=@List.mem_append
theorem UM:type_of% @List.nil_append:=@List.nil_append
theorem UN:type_of% @Sem.run_pure:=@Sem.run_pure
theorem UO:type_of% @List.getElem?_drop:=@List.getElem?_drop
theorem UP:type_of% @List.reverse_nil:=@List.reverse_nil
theorem UQ:type_of% @List.reverse_cons:=@List.reverse_cons
theorem UR:type_of% @Nat.ble_eq:=@Nat.ble_eq
theorem US:type_of% @Nat.zero_le:=@Nat.zero_le
theorem UT:type_of% @Nat.beq_refl:=@Nat.beq_refl
theorem UU:type_of% @Nat.zero_add:=@Nat.zero_add
theorem UV:type_of% @List.getElem?_take_of_lt:=@List.getElem?_take_of_lt
theorem UW:type_of% @List.mem_cons:=@List.mem_cons
theorem UX:type_of% @List.length_cons:=@List.length_cons
theorem UY:type_of% @List.flatMap_cons:=@List.flatMap_cons
theorem UZ:type_of% @Bool.or_eq_true:=@Bool.or_eq_true
theorem U0:type_of% @List.length_take:=@List.length_take
theorem U1:type_of% @Array.getD_eq_getD_getElem?:=@Array.getD_eq_getD_getElem?
theorem U2:type_of% @Int.toNat_natCast:=@Int.toNat_natCast
theorem U3:type_of% @List.take_length:=@List.take_length
theorem U4:type_of% @List.mem_map:=@List.mem_map
theorem U5:type_of% @Bool.not_eq_true:=@Bool.not_eq_true
theorem U6:type_of% @List.mem_cons_of_mem:=@List.mem_cons_of_mem
theorem U7:type_of% @Bool.eq_iff_iff:=@Bool.eq_iff_iff
theorem U8:type_of% @List.getD_eq_getElem?_getD:=@List.getD_eq_getElem?_getD
theorem U9:type_of% @List.mem_cons_self:=@List.mem_cons_self
theorem U_:type_of% @Nat.blt_eq:=@Nat.blt_eq
theorem Va:type_of% @decide_eq_false:=@decide_eq_false
theorem Vb:type_of% @Bool.not_eq_true':=@Bool.not_eq_true'
theorem Vc:type_of% @List.mem_singleton:=@List.mem_singleton
theorem Vd:type_of% @Bool.true_and:=@Bool.true_and
theorem Ve:type_of% @Nat.sub_self:=@Nat.sub_self
theorem Vf:type_of% @Array.getElem?_eq_some_iff:=@Array.getElem?_eq_some_iff
theorem Vg:type_of% @List.mem_of_mem_drop:=@List.mem_of_mem_drop
theorem Vh:type_of% @List.mem_of_mem_take:=@List.mem_of_mem_take
theorem Vi:type_of% @List.take_append_drop:=@List.take_append_drop
theorem Vj:type_of% @Nat.eq_of_beq_eq_true:=@Nat.eq_of_beq_eq_true
theorem Vk:type_of% @Nat.one_mul:=@Nat.one_mul
theorem Vl:type_of% @Array.getElem?_eq_none:=@Array.getElem?_eq_none
theorem Vm:type_of% @List.take_of_length_le:=@List.take_of_length_le
theorem Vn:type_of% @Int.natCast_mul:=@Int.natCast_mul
theorem Vo:type_of% @Option.some.injEq:=@Option.some.injEq
theorem Vp:type_of% @Array.getElem?_append_left:=@Array.getElem?_append_left
theorem Vq:type_of% @List.drop_drop:=@List.drop_drop
theorem Vr:type_of% @List.map_congr_left:=@List.map_congr_left
theorem Vt:type_of% @Classical.byContradiction:=@Classical.byContradiction
theorem Vu:type_of% @List.flatMap_nil:=@List.flatMap_nil
theorem Vv:type_of% @Nat.le_max_left:=@Nat.le_max_left
theorem Vw:type_of% @Int.ofNat_eq_natCast:=@Int.ofNat_eq_natCast
theorem Vx:type_of% @List.getElem?_set_self:=@List.getElem?_set_self
theorem Vy:type_of% @List.map_set:=@List.map_set
theorem Vz:type_of% @List.map_nil:=@List.map_nil
theorem VA:type_of% @decide_eq_true:=@decide_eq_true
theorem VB:type_of% @List.append_assoc:=@List.append_assoc
theorem VC:type_of% @Ne.symm:=@Ne.symm
theorem VD:type_of% @List.mem_iff_getElem:=@List.mem_iff_getElem
theorem VE:type_of% @List.pairwise_iff_getElem:=@List.pairwise_iff_getElem
theorem VF:type_of% @Bool.false_eq_true:=@Bool.false_eq_true
theorem VG:type_of% @List.length_append:=@List.length_append
theorem VH:type_of% @Nat.add_zero:=@Nat.add_zero
theorem VI:type_of% @Nat.lt_or_ge:=@Nat.lt_or_ge
theorem VJ:type_of% @Array.getElem?_setIfInBounds:=@Array.getElem?_setIfInBounds
theorem VK:type_of% @Option.map_some:=@Option.map_some
theorem VL:type_of% @List.getElem_mem:=@List.getElem_mem
theorem VM:type_of% @List.map_cons:=@List.map_cons
theorem VN:type_of% @Nat.div_eq_of_lt:=@Nat.div_eq_of_lt
theorem VO:type_of% @List.replicate_succ:=@List.replicate_succ
theorem VP:type_of% @List.contains_iff_mem:=@List.contains_iff_mem
theorem VQ:type_of% @List.mem_append_right:=@List.mem_append_right
theorem VR:type_of% @List.set_append_right:=@List.set_append_right
theorem VT:type_of% @Nat.mod_lt:=@Nat.mod_lt
theorem VU:type_of% @Array.getElem?_setIfInBounds_ne:=@Array.getElem?_setIfInBounds_ne
theorem VV:type_of% @List.mem_append_left:=@List.mem_append_left
theorem VW:type_of% @Nat.le_max_right:=@Nat.le_max_right
theorem VX:type_of% @Option.bind_some:=@Option.bind_some
theorem VY:type_of% @List.drop_eq_getElem_cons:=@List.drop_eq_getElem_cons
theorem VZ:type_of% @List.flatten_cons:=@List.flatten_cons
theorem V1:type_of% @List.getElem?_set:=@List.getElem?_set
theorem V6:type_of% @Nat.le_succ:=@Nat.le_succ
theorem V7:type_of% @Nat.add_mul_div_right:=@Nat.add_mul_div_right
theorem V8:type_of% @List.length_nil:=@List.length_nil
theorem V9:type_of% @Nat.div_le_self:=@Nat.div_le_self
theorem V_:type_of% @List.getElem?_take:=@List.getElem?_take
theorem Wa:type_of% @List.set_cons_zero:=@List.set_cons_zero
theorem Wb:type_of% @List.mem_flatMap:=@List.mem_flatMap
theorem Wc:type_of% @Nat.add_assoc:=@Nat.add_assoc
theorem Wd:type_of% @List.take_succ_eq_append_getElem:=@List.take_succ_eq_append_getElem
theorem We:type_of% @Nat.add_comm:=@Nat.add_comm
theorem Wf:type_of% @Nat.add_mul_mod_self_right:=@Nat.add_mul_mod_self_right
theorem Wg:type_of% @Nat.mul_comm:=@Nat.mul_comm
theorem Wh:type_of% @List.map_append:=@List.map_append
theorem Wi:type_of% @Nat.min_eq_left:=@Nat.min_eq_left
theorem Wj:type_of% @Array.getElem?_modify:=@Array.getElem?_modify
theorem Wk:type_of% @List.zip_cons_cons:=@List.zip_cons_cons
theorem Wl:type_of% @Nat.and_le_right:=@Nat.and_le_right
theorem Wm:type_of% @Nat.lt_of_le_of_lt:=@Nat.lt_of_le_of_lt
theorem Wn:type_of% @Bool.and_self:=@Bool.and_self
theorem Wo:type_of% @List.getElem?_append:=@List.getElem?_append
theorem Wp:type_of% @Nat.eq_of_testBit_eq:=@Nat.eq_of_testBit_eq
theorem Wq:type_of% @Nat.mul_le_mul:=@Nat.mul_le_mul
theorem Wr:type_of% @Nat.pow_le_pow_right:=@Nat.pow_le_pow_right
theorem Ws:type_of% @List.take_add_one:=@List.take_add_one
theorem Wt:type_of% @Nat.ne_of_beq_eq_false:=@Nat.ne_of_beq_eq_false
theorem Wu:type_of% @List.sum_cons:=@List.sum_cons
theorem Wv:type_of% @Nat.max_eq_right:=@Nat.max_eq_right
theorem Ww:type_of% @Nat.mod_eq_of_lt:=@Nat.mod_eq_of_lt
theorem Wx:type_of% @Array.ext_getElem?:=@Array.ext_getElem?
theorem Wy:type_of% @Bool.not_false:=@Bool.not_false
theorem Wz:type_of% @Int.natCast_nonneg:=@Int.natCast_nonneg
theorem WA:type_of% @List.drop_zero:=@List.drop_zero
theorem WB:type_of% @List.mem_replicate:=@List.mem_replicate
theorem WC:type_of% @List.length_filter_le:=@List.length_filter_le
theorem WD:type_of% @List.foldl_cons:=@List.foldl_cons
theorem WE:type_of% @List.length_set:=@List.length_set
theorem WG:type_of% @List.range_succ:=@List.range_succ
theorem WH:type_of% @Bool.true_or:=@Bool.true_or
theorem WI:type_of% @List.map_map:=@List.map_map
theorem WJ:type_of% @Nat.sub_zero:=@Nat.sub_zero
theorem WK:type_of% @or_false:=@or_false
theorem WL:type_of% @List.append_cancel_right:=@List.append_cancel_right
theorem WM:type_of% @Array.getElem?_push:=@Array.getElem?_push
theorem WN:type_of% @List.replicate_zero:=@List.replicate_zero
theorem WO:type_of% @Int.mul_nonneg:=@Int.mul_nonneg
theorem WP:type_of% @List.getElem?_cons_succ:=@List.getElem?_cons_succ
theorem WQ:type_of% @List.length_drop:=@List.length_drop
theorem WR:type_of% @List.length_eq_zero_iff:=@List.length_eq_zero_iff
theorem WS:type_of% @Option.getD_none:=@Option.getD_none
theorem WT:type_of% @List.drop_of_length_le:=@List.drop_of_length_le
theorem WU:type_of% @List.mem_filter:=@List.mem_filter
theorem WV:type_of% @Bool.not_true:=@Bool.not_true
theorem WW:type_of% @Nat.mul_assoc:=@Nat.mul_assoc
theorem WX:type_of% @Array.getElem?_toList:=@Array.getElem?_toList
theorem WY:type_of% @List.getElem?_eq_none:=@List.getElem?_eq_none
theorem WZ:type_of% @Nat.or_lt_two_pow:=@Nat.or_lt_two_pow
theorem W0:type_of% @Array.ext':=@Array.ext'
theorem W4:type_of% @List.getElem?_set_ne:=@List.getElem?_set_ne
theorem W5:type_of% @List.range_eq_range':=@List.range_eq_range'
theorem W6:type_of% @List.any_eq_true:=@List.any_eq_true
theorem W7:type_of% @List.range'_succ:=@List.range'_succ
theorem W8:type_of% @Nat.lt_succ_self:=@Nat.lt_succ_self
theorem W9:type_of% @Nat.zero_mul:=@Nat.zero_mul
theorem W_:type_of% @List.drop_succ_cons:=@List.drop_succ_cons
theorem Xa:type_of% @List.getElem?_range:=@List.getElem?_range
theorem Xb:type_of% @List.take_succ_cons:=@List.take_succ_cons
theorem Xc:type_of% @Int.mul_assoc:=@Int.mul_assoc
theorem Xd:type_of% @List.head?_cons:=@List.head?_cons
theorem Xe:type_of% @Nat.div_add_mod:=@Nat.div_add_mod
theorem Xf:type_of% @Nat.le_antisymm:=@Nat.le_antisymm
theorem Xg:type_of% @Nat.testBit_and:=@Nat.testBit_and
theorem Xh:type_of% @Int.emod_lt_of_pos:=@Int.emod_lt_of_pos
theorem Xi:type_of% @List.set_cons_succ:=@List.set_cons_succ
theorem Xj:type_of% @Nat.and_lt_two_pow:=@Nat.and_lt_two_pow
theorem Xk:type_of% @Nat.xor_lt_two_pow:=@Nat.xor_lt_two_pow
theorem Xl:type_of% @Bool.or_true:=@Bool.or_true
theorem Xm:type_of% @List.head?_nil:=@List.head?_nil
theorem Xn:type_of% @List.take_zero:=@List.take_zero
theorem Xo:type_of% @Nat.beq_eq:=@Nat.beq_eq
theorem Xp:type_of% @Nat.max_le:=@Nat.max_le
theorem Xq:type_of% @Bool.and_true:=@Bool.and_true
theorem Xr:type_of% @Int.add_mul:=@Int.add_mul
end Hx
end
set_option maxRecDepth 20000
set_option maxHeartbeats 8000000
namespace Hx
open Go
noncomputable section
variable {ty e t:TypeId}{n b off bd i ep len bytes:Nat}{v va vi:Value}{c:Array Value}{w w':World}{loose ag:Bool}{P:Program}
inductive AV where
 |bool (b:Bool)
 |int (k:IntKind) (n:Int)
 |str (s:ByteArray)
 |tup (vs:List AV)
 |agg (cs:List AV)
 |nilp|nils|nilf|nilm|nili
 |esl
 |tsl (tag:Nat) (sz:Nat) (rows:List (List AV))
 |tptr (tag:Nat) (sz:Nat) (rows:List (List AV)) (i off:Nat)
 |hsl (id ep off len:Nat) (lim:Option Nat)
 |hptr (id ep i off:Nat)
 |clo (f:Nat) (first cap:List AV)
 |hmap (id:Nat)
 |ifc (t:Nat) (v:AV)
 |yld (id:Nat)
 deriving Inhabited
abbrev AV.undef:AV:=.tup []
def AV.cells:AV->List AV
 |.agg cs=>cs
 |v=>[v]
def AV.one:AV->Bool
 |.tup _|.agg _=>false
 |_=>true
def AV.isTup:AV->Bool
 |.tup _=>true
 |_=>false
structure Stg (α:Type) where
 run:α
abbrev ak {α:Type}(b:Bool)(x y:α):α:=@Bool.rec (λ_=>α) y x b
def ju(b:Bool):Bool:=@Bool.rec (λ_=>Bool) true false b
inductive Tr (α:Type) where
 |nil
 |node (v:α) (l r:Tr α)
def Tr.get{α:Type}(e:α):Tr α->Nat->α
 |.nil,_=>e
 |.node v _ _,0=>v
 |.node _ l r,m+1=>ak (Nat.beq (m % 2) 0) (Tr.get e l (m / 2)) (Tr.get e r (m / 2))
def gpF{α:Type}(e:α):Nat->Nat->Stg (Tr α->α)
 |0,_=>⟨λ_=>e⟩
 |_+1,0=>⟨λt=>@Tr.rec α (λ_=>α) e (λv _ _ _ _=>v) t⟩
 | f+1,m+1=>ak (Nat.beq (m % 2) 0)
   ⟨λt=>@Tr.rec α (λ_=>α) e (λ_ l _ _ _=>(gpF e f (m / 2)).run l) t⟩
   ⟨λt=>@Tr.rec α (λ_=>α) e (λ_ _ r _ _=>(gpF e f (m / 2)).run r) t⟩
def gp{α:Type}(e:α)(n:Nat):Stg (Tr α->α):=gpF e (n+1) n
def spF{α:Type}(e:α):Nat->Nat->Stg (Tr α->α->Tr α)
 |0,_=>⟨λt _=>t⟩
 |_+1,0=>⟨λt x=>@Tr.rec α (λ_=>Tr α) (.node x .nil .nil) (λ_ l r _ _=>.node x l r) t⟩
 | f+1,m+1=>ak (Nat.beq (m % 2) 0)
   ⟨λt x=>@Tr.rec α (λ_=>Tr α) (.node e ((spF e f (m / 2)).run .nil x) .nil) (λv l r _ _=>.node v ((spF e f (m / 2)).run l x) r) t⟩
   ⟨λt x=>@Tr.rec α (λ_=>Tr α) (.node e .nil ((spF e f (m / 2)).run .nil x)) (λv l r _ _=>.node v l ((spF e f (m / 2)).run r x)) t⟩
def sp{α:Type}(e:α)(n:Nat):Stg (Tr α->α->Tr α):=spF e (n+1) n
def Tr.put{α:Type}(e:α)(t:Tr α)(n:Nat)(x:α):Tr α:=(sp e n).run t x
def xV{α:Type}(n:Nat):List α->Option α :=
 @Nat.rec (λ_=>List α->Option α) (λl=>@List.rec α (λ_=>Option α) none (λa _ _=>some a) l)
  (λ_ ih l=>@List.rec α (λ_=>Option α) none (λ_ t _=>ih t) l) n
def Ce{α:Type}(n:Nat)(x:α):List α->List α :=
 @Nat.rec (λ_=>List α->List α) (λl=>@List.rec α (λ_=>List α) [] (λ_ t _=>x::t) l)
  (λ_ ih l=>@List.rec α (λ_=>List α) [] (λa t _=>a::ih t) l) n
def bi{α:Type}(l:List α):Nat:=@List.rec α (λ_=>Nat) 0 (λ_ _ n=>Nat.succ n) l
def iA{α:Type}(n:Nat):List α->List α :=
 @Nat.rec (λ_=>List α->List α) (λl=>l) (λ_ ih l=>@List.rec α (λ_=>List α) [] (λ_ t _=>ih t) l) n
def jB{α:Type}(n:Nat):List α->List α :=
 @Nat.rec (λ_=>List α->List α) (λ_=>[]) (λ_ ih l=>@List.rec α (λ_=>List α) [] (λa t _=>a::ih t) l) n
inductive AObj where
 |none
 |cells (sz:Nat) (rows:List (List AV)) (ep:Nat) (loose fz:Bool)
 |map (es:List (AV×AV))
 |loop (nt:Nat) (t:Tr AV) (ps:List Nat) (assign body:Code) (dfr:Nat) (st:LoopState) (pend:Option Code)
 |dfr (live:Bool)
@[match_pattern,reducible] def Xs (k:Nat)(r:List (List AV)):AObj:=.cells k r 0 false false
abbrev T:=Tr AV
abbrev H:=Tr AObj
def H.get(h:H)(i:Nat):AObj:=(gp AObj.none i).run h
def H.put(h:H)(i:Nat)(o:AObj):H:=(sp AObj.none i).run h o
structure G where
 h:H
 nx:Nat
 lg:List Nat
def G.empty:G:=⟨.nil,0,[]⟩
def G.put(g:G)(id:Nat)(o:AObj):G:=@G.rec (λ_=>G) (λh nx lg=>⟨h.put id o,nx,id::lg⟩) g
def G.new(g:G)(o:AObj):G:=@G.rec (λ_=>G) (λh nx lg=>⟨h.put nx o,Nat.succ nx,nx::lg⟩) g
def G.get(g:G)(i:Nat):AObj:=H.get g.h i
inductive ADf where
 |call (f:AV) (args:List AV)
 |mark (id:Nat)
inductive Ex where
 |norm
 |exit (id:Nat)
 |ret
inductive CR where
 |fail
 |ok (e:Ex) (t:T) (df:List ADf) (g:G)
inductive FR where
 |fail
 |ok (v:AV) (g:G)
inductive OR where
 |fail
 |val (v:AV)
 |upd (v:AV) (g:G)
 |dfr (a:ADf)
structure IH where
 code:Nat->Nat->Option Nat->Code->T->List ADf->G->CR
 call:Nat->Nat->List AV->G->FR
structure Cfg where
 P:Program
 iso:Nat->Bool
 ext:Nat->Option (Nat->List AV->G->OR)
 glob:Nat->Option (Nat×List (List AV))
abbrev LB:=IH->Nat->Option Nat->T->G->OR
section types
variable (P:Program)
def szT(t:TypeId):Option Nat:=(P.info? t).map (·.size)
def jS(t:TypeId):Option Nat:=(P.info? t).map (·.bytes)
def rY(t:TypeId):Option Bool :=
 match P.underlying t with
 |some (.struct _)|some (.array _ _)=>some true
 |some _=>some false
 |none=>none
def ofV:Value->Option AV
 |.bool b=>some (.bool b)
 |.int k n=>some (.int k n)
 |.string s=>some (.str s)
 |.pointer none=>some .nilp
 |.slice none 0 0=>some .nils
 |.map none=>some .nilm
 |.nilFunc=>some .nilf
 |.nilIface=>some .nili
 |_=>none
def y7:List Value->Option (List AV)
 |[]=>some []
 | v::vs=>match ofV v,y7 vs with
  |some a,some as=>some (a::as)
  |_,_=>none
def gm(t:TypeId):Option (List AV):=(P.info? t).bind λi=>i.zero.bind λv=>y7 v.cells.toList
def rR(t:TypeId):Option AV:=(P.info? t).bind λi=>i.zero.bind λv=>match v with
 |.agg cs=>(y7 cs.toList).map .agg
 |v=>ofV v
def me(t:TypeId):Option TypeId:=match P.underlying t with|some (.slice e)=>some e|_=>none
def tw(t:TypeId)(f:Nat):Option (Nat×TypeId) :=
 match P.underlying t with
 |some (.struct fs)=>match fs[f]? with|some x=>some (x.offset,x.type)|none=>none
 |_=>none
end types
def aD{α β:Type}(f:α->Option β):List α->Option (List β)
 |[]=>some []
 | v::vs=>match f v with
  | some a=>match aD f vs with
   |some as=>some (a::as)
   |none=>none
  |none=>none
def aP(C:Cfg):Operand->Option (Stg (T->AV))
 |.tmp n=>some (gp AV.undef n)
 |.const v=>match ofV v with|some a=>some ⟨λ_=>a⟩|none=>none
 |.global g=>match C.glob g with|some (sz,rows)=>some ⟨λ_=>.tptr 0 sz rows 0 0⟩|none=>none
 |.func f=>some ⟨λ_=>.clo f [] []⟩
def bV(C:Cfg):List Operand->Option (Stg (T->List AV))
 |[]=>some ⟨λ_=>[]⟩
 | x::xs=>match aP C x,bV C xs with
  |some a,some as=>some ⟨λt=>a.run t::as.run t⟩
  |_,_=>none
def t_(k:IntKind)(n:Int):Int :=
 match k,n with
 |.i64,.ofNat m=>ak (Nat.blt m 9223372036854775808) (.ofNat m) (IntKind.wrap .i64 (.ofNat m))
 |.i64,.negSucc m=>ak (Nat.blt m 9223372036854775808) (.negSucc m) (IntKind.wrap .i64 (.negSucc m))
 |.u64,.ofNat m=>.ofNat (m % 18446744073709551616)
 |.u8,.ofNat m=>.ofNat (m % 256)
 |k,n=>IntKind.wrap k n
def yZ:Int->Int->Bool
 |.ofNat m,.ofNat n=>Nat.blt m n
 |.ofNat _,.negSucc _=>false
 |.negSucc _,.ofNat _=>true
 |.negSucc m,.negSucc n=>Nat.blt n m
def AG:Int->Int->Bool
 |.ofNat m,.ofNat n=>Nat.beq m n
 |.ofNat _,.negSucc _=>false
 |.negSucc _,.ofNat _=>false
 |.negSucc m,.negSucc n=>Nat.beq m n
def tS:Sem Value->Option AV
 |.pure (.int k n)=>some (.int k n)
 |.pure (.bool b)=>some (.bool b)
 |_=>none
def PB(k:IntKind):Int->Int->Option AV
 |.ofNat m,.ofNat (n+1)=>some (.int k (t_ k (.ofNat (m / (n+1)))))
 |a,b=>tS (Op.intDiv .quo k a b)
def PK(k:IntKind):Int->Int->Option AV
 |.ofNat m,.ofNat (n+1)=>some (.int k (.ofNat (m % (n+1))))
 |a,b=>tS (Op.intDiv .rem k a b)
def mJ(k:IntKind)(m n:Nat):Bool :=
 match k with
 |.u64=>Nat.blt m 18446744073709551616&&Nat.blt n 18446744073709551616
 |.i64=>Nat.blt m 9223372036854775808&&Nat.blt n 9223372036854775808
 |_=>false
def Qa(op:BinOp)(k:IntKind):Int->Int->Option AV
 | .ofNat m,.ofNat n=>ak (mJ k m n)
   (match op with
    |.and=>some (.int k (.ofNat (Nat.land m n)))
    |.or=>some (.int k (.ofNat (Nat.lor m n)))
    |.xor=>some (.int k (.ofNat (Nat.xor m n)))
    |.andNot=>some (.int k (.ofNat (Nat.xor m (Nat.land m n))))
    |_=>none)
   (tS (Op.intBits op k (.ofNat m) (.ofNat n)))
 |a,b=>tS (Op.intBits op k a b)
def N5(k:IntKind):Int->Int->Option AV
 |.ofNat m,.ofNat n=>some (.int k (t_ k (.ofNat (m*2 ^ (Nat.min n k.bits)))))
 |a,b=>tS (Op.shift .shl k a k b)
def N6(k:IntKind):Int->Int->Option AV
 |.ofNat m,.ofNat n=>some (.int k (.ofNat (m / 2 ^ (Nat.min n k.bits))))
 |a,b=>tS (Op.shift .shr k a k b)
def cZ:IntKind->IntKind->Bool
 |.i64,.i64=>true
 |.u64,.u64=>true
 |a,b=>decide (a=b)
def gf:BinOp->Stg (IntKind->Int->IntKind->Int->Option AV)
 |.add=>⟨λk a k' b=>ak (cZ k k') (some (.int k (t_ k (a+b)))) none⟩
 |.sub=>⟨λk a k' b=>ak (cZ k k') (some (.int k (t_ k (a - b)))) none⟩
 |.mul=>⟨λk a k' b=>ak (cZ k k') (some (.int k (t_ k (a*b)))) none⟩
 |.quo=>⟨λk a k' b=>ak (cZ k k') (PB k a b) none⟩
 |.rem=>⟨λk a k' b=>ak (cZ k k') (PK k a b) none⟩
 |.eql=>⟨λk a k' b=>ak (cZ k k') (some (.bool (AG a b))) none⟩
 |.neq=>⟨λk a k' b=>ak (cZ k k') (some (.bool (ju (AG a b)))) none⟩
 |.lss=>⟨λk a k' b=>ak (cZ k k') (some (.bool (yZ a b))) none⟩
 |.leq=>⟨λk a k' b=>ak (cZ k k') (some (.bool (ju (yZ b a)))) none⟩
 |.gtr=>⟨λk a k' b=>ak (cZ k k') (some (.bool (yZ b a))) none⟩
 |.geq=>⟨λk a k' b=>ak (cZ k k') (some (.bool (ju (yZ a b)))) none⟩
 |.shl=>⟨λk a _ b=>N5 k a b⟩
 |.shr=>⟨λk a _ b=>N6 k a b⟩
 |op=>⟨λk a k' b=>ak (cZ k k') (Qa op k a b) none⟩
def nC:TypeDesc->Bool
 |.bool|.int _|.string=>true
 |_=>false
def vQ(P:Program)(rec:TypeId->Option (List TypeDesc)):List Field->Nat->Option (List TypeDesc)
 |[],_=>some []
 | f::fs,k=>match rec f.type with
  | some ds=>match vQ P rec fs (k+ds.length) with
   | some r => ak ((f.name != "_") && Nat.beq f.offset k && (szT P f.type == some ds.length)) (some (ds ++ r)) none
   |none=>none
  |none=>none
def nD(P:Program):Nat->TypeId->Option (List TypeDesc)
 |0,_=>none
 | d+1,t=>match P.underlying t with
  |some (.struct fs)=>ak (P.stoodInHeld t) none (vQ P (nD P d) fs.toList 0)
  | some (.array n e)=>match nD P d e with
   |some ds=>ak (szT P e == some ds.length) (some (List.replicate n ds).flatten) none
   |none=>none
  |some d=>ak (nC d) (some [d]) none
  |none=>none
def kN(P:Program)(t:TypeId):Option (List TypeDesc) :=
 ak (P.eqGuardType P.depth t) none (nD P 8 t)
def pj:TypeDesc->AV->Bool
 |.bool,.bool _=>true
 |.int k,.int k' _=>cZ k k'
 |.string,.str _=>true
 |_,_=>false
def dZ:List TypeDesc->List AV->Bool
 |[],[]=>true
 |d::ds,v::vs=>ak (pj d v) (dZ ds vs) false
 |_,_=>false
def m6:AV->AV->Option Bool
 |.int k a,.int k' b=>ak (cZ k k') (some (AG a b)) none
 |.bool a,.bool b=>some (ak a b (ju b))
 |.str a,.str b=>some (decide (a=b))
 |_,_=>none
def dY:List AV->List AV->Option Bool
 |[],[]=>some true
 | a::as,b::bs=>match m6 a b,dY as bs with
  |some x,some y=>some (ak x y false)
  |_,_=>none
 |_,_=>none
inductive EqKind where
 |flat (ds:List TypeDesc)|slice|func|bool|iface (empty:Bool)|other
def qA(P:Program)(t:TypeId):EqKind :=
 match P.underlying t with
 |some (.slice _)=>.slice
 |some (.func _ _ _)=>.func
 |some .bool=>.bool
 |some (.interface ms)=>.iface ms.isEmpty
 |some (.struct _)|some (.array _ _)=>match kN P t with|some ds=>.flat ds|none=>.other
 |_=>.other
def eqA(k:EqKind)(x y:AV):Option Bool :=
 match k with
 | .flat ds=>match x,y with
  |.agg xs,.agg ys=>ak (dZ ds xs&&dZ ds ys) (dY xs ys) none
  |_,_=>none
 | .slice=>match x,y with
  |.nils,.nils=>some true
  |.nils,.tsl ..|.nils,.hsl ..|.nils,.esl|.tsl ..,.nils|.hsl ..,.nils|.esl,.nils=>some false
  |_,_=>none
 | .func=>match x,y with
  |.nilf,.nilf=>some true
  |.nilf,.clo ..|.clo ..,.nilf|.nilf,.yld _|.yld _,.nilf=>some false
  |_,_=>none
 | .bool=>match x,y with
  |.bool a,.bool b=>some (ak a b (ju b))
  |_,_=>none
 | .iface e=>match x,y with
  |.nili,.nili=>ak e (some true) none
  |.nili,.ifc ..|.ifc ..,.nili=>some false
  |_,_=>none
 |.other=>none
def orV:Option AV->OR
 |some v=>.val v
 |none=>.fail
def zH(P:Program)(op:BinOp)(t:TypeId):Stg (AV->AV->OR) :=
 match op with
 | .eql=>match qA P t with
  |.other=>⟨λx y=>match x,y with|.int k a,.int k' b=>orV ((gf .eql).run k a k' b)|_,_=>.fail⟩
  |ek=>⟨λx y=>match eqA ek x y with|some b=>.val (.bool b)|none=>.fail⟩
 | .neq=>match qA P t with
  |.other=>⟨λx y=>match x,y with|.int k a,.int k' b=>orV ((gf .neq).run k a k' b)|_,_=>.fail⟩
  |ek=>⟨λx y=>match eqA ek x y with|some b=>.val (.bool (ju b))|none=>.fail⟩
 |op=>⟨λx y=>match x,y with|.int k a,.int k' b=>orV ((gf op).run k a k' b)|_,_=>.fail⟩
def unA(op:UnOp):Stg (AV->OR) :=
 match op with
 |.not=>⟨λx=>match x with|.bool b=>.val (.bool (ju b))|_=>.fail⟩
 |op=>⟨λx=>match x with|.int k n=>orV (tS (Op.unary op (.int k n)))|_=>.fail⟩
def ch(agg:Bool)(n:Nat)(row:List AV)(off:Nat):Option AV :=
 ak agg (let cs:=jB n (iA off row);ak (Nat.beq (bi cs) n) (some (.agg cs)) none) (xV off row)
def cH(row:List AV)(off:Nat)(cs:List AV):Option (List AV) :=
 ak (Nat.ble (off+bi cs) (bi row))
  (some (match cs with
   |[c]=>Ce off c row
   |cs=>jB off row++(cs++iA (off+bi cs) row)))
  none
def dN(lim:Nat):AV->Option Nat
 |.int _ (.ofNat n)=>ak (Nat.ble n lim) (some n) none
 |_=>none
def br(dflt lim:Nat):Option AV->Option Nat
 |none=>some dflt
 |some v=>dN lim v
def ib(n:Nat)(row:List AV):List (List AV):=List.replicate n row
def eF:List AV->List ((Nat×Nat)×AV)->Option (List AV)
 |cells,[]=>some cells
 | cells,((off,size),v)::rest =>
  ak (Nat.beq (bi v.cells) size&&ju v.isTup) (match cH cells off v.cells with|some cs=>eF cs rest|none=>none) none
def gY(sz:Nat):List (List AV)->List (Nat×AV)->Option (List (List AV))
 |rows,[]=>some rows
 |rows,(i,v)::rest=>ak (Nat.beq (bi v.cells) sz&&Nat.blt i (bi rows)&&ju v.isTup) (gY sz (Ce i v.cells rows) rest) none
def ah(h:H)(sz:Nat):AV->Option (List (List AV))
 |.nils=>some []
 |.esl=>some []
 |.tsl _ sz' rows=>ak (Nat.beq sz sz' || rows.isEmpty) (some rows) none
 | .hsl id ep off len _=>match h.get id with
  |.cells sz' rows ep' _ _=>ak (Nat.beq ep ep'&&Nat.beq sz sz'&&Nat.ble (off+len) (bi rows)) (some (jB len (iA off rows))) none
  |_=>none
 |_=>none
def mG(rows:List (List AV))(off:Nat)(new:List (List AV)):List (List AV) :=
 match new with
 |[r]=>Ce off r rows
 |new=>jB off rows++(new++iA (off+bi new) rows)
def bz:Nat:=1099511627776
def bA(sz bytes:Nat)(s:AV)(new:List (List AV))(g:G):OR :=
  match s with
  | .nils| .esl=>match new with
   |[]=>.val s
   |_=>ak (Nat.ble (bi new*bytes) bz) (.upd (.hsl g.nx 0 0 (bi new) none) (g.new (.cells sz new 0 true false))) .fail
  | .tsl ..=>match new with
   |[]=>.val s
   |_=>.fail
  | .hsl id ep off len lim=>match g.get id with
   | .cells sz' rows ep' loose fz =>
    ak (Nat.beq ep ep'&&Nat.beq sz sz'&&Nat.ble (off+len) (bi rows)&&Nat.ble ((len+bi new)*bytes) bz)
     (ak (Nat.ble (len+bi new) (lim.getD (bi rows - off)))
       (match new with
        |[]=>.val s
        | _=>ak (Nat.ble (off+len+bi new) (bi rows)&&ju fz)
         (.upd (.hsl id ep off (len+bi new) lim) (g.put id (.cells sz (mG rows (off+len) new) ep loose fz))) .fail)
       (ak (lim.isSome || ju loose)
        (.upd (.hsl g.nx 0 0 (len+bi new) none) (g.new (.cells sz (jB len (iA off rows)++new) 0 true false)))
        (ak fz .fail (.upd (.hsl id (Nat.succ ep) 0 (len+bi new) none) (g.put id (.cells sz (jB len (iA off rows)++new) (Nat.succ ep) true false))))))
     .fail
   |_=>.fail
  |_=>.fail
def eS(sz bytes:Nat)(s x:AV)(g:G):OR :=
 match ah g.h sz x with
 |none=>.fail
 |some new=>bA sz bytes s new g
def wm(sz bytes:Nat)(zero:List AV)(s x:AV)(g:G):OR :=
 match dN bz x with
 |none=>.fail
 |some n=>ak (Nat.ble (n*bytes) bz) (bA sz bytes s (ib n zero) g) .fail
def Cw(sz:Nat)(d x:AV)(g:G):OR :=
 match ah g.h sz x with
 |none=>.fail
 | some src=>match d with
  |.nils|.esl=>.val (.int .i64 0)
  |.tsl _ _ rows=>ak (rows.isEmpty || src.isEmpty) (.val (.int .i64 0)) .fail
  | .hsl id ep off len _=>match g.get id with
   | .cells sz' rows ep' loose fz =>
    ak (Nat.beq ep ep'&&Nat.beq sz sz'&&Nat.ble (off+len) (bi rows)&&ju fz)
     (.upd (.int .i64 (Nat.min (bi src) len)) (g.put id (.cells sz (mG rows off (jB (Nat.min (bi src) len) src)) ep loose fz))) .fail
   |_=>.fail
  |_=>.fail
def rh(sz:Nat)(x:AV)(lo hi mx:Option AV)(h:H):Option AV :=
 match x with
 | .nils=>match br 0 0 lo,br 0 0 hi,br 0 0 mx with
  |some _,some _,some _=>some .nils
  |_,_,_=>none
 | .esl=>match br 0 0 lo,br 0 0 hi,br 0 0 mx with
  |some _,some _,some _=>some .esl
  |_,_,_=>none
 | .tsl tag sz' rows=>match mx with
  | none=>match br (bi rows) (bi rows) hi with
   |none=>none
   | some h=>match br 0 h lo with
    |none=>none
    |some l=>ak (Nat.beq sz sz') (some (.tsl tag sz (jB (h - l) (iA l rows)))) none
  | some m=>match dN 0 m,br 0 0 hi,br 0 0 lo with
   |some _,some _,some _=>some .esl
   |_,_,_=>none
 | .hsl id ep off len lim=>match h.get id with
  | .cells sz' rows ep' loose _ =>
   ak (Nat.beq ep ep'&&Nat.beq sz sz'&&Nat.ble (off+len) (bi rows))
    (match br (lim.getD (bi rows - off)) (lim.getD (bi rows - off)) mx with
     |none=>none
     | some m=>match br len m hi with
      |none=>none
      | some h=>match br 0 h lo with
       |none=>none
       | some l =>
        ak (Nat.beq m l)
         (ak (mx.isSome || lim.isSome || ju loose) (some .esl) (some (.tsl 0 sz [])))
         (some (.hsl id ep (off+l) (h - l) (match mx with|some _=>some (m - l)|none=>lim.map (· - l))))) none
  |_=>none
 |_=>none
def jP(k k':AV):Option Bool :=
 match k with
 |.agg xs=>match k' with|.agg ys=>dY xs ys|_=>none
 |x=>match k' with|.agg _=>none|y=>m6 x y
def jO(k:AV):List (AV×AV)->Option (Option AV)
 |[]=>some none
 | (k',v)::es=>match jP k k' with
  |some true=>some (some v)
  |some false=>jO k es
  |none=>none
def Gz(k v:AV):List (AV×AV)->Option (List (AV×AV))
 |[]=>some [(k,v)]
 | (k',v')::es=>match jP k k' with
  |some true=>some ((k,v)::es)
  |some false=>match Gz k v es with|some r=>some ((k',v')::r)|none=>none
  |none=>none
inductive KeyKind where
 |one (d:TypeDesc)|flat (ds:List TypeDesc)|other
def ck(P:Program)(t:TypeId):KeyKind :=
 match P.underlying t with
 |some (.struct _)|some (.array _ _)=>match kN P t with|some ds=>.flat ds|none=>.other
 |some d=>ak (nC d) (.one d) .other
 |none=>.other
def jQ:KeyKind->AV->Bool
 |.one d,v=>pj d v
 |.flat ds,.agg vs=>dZ ds vs
 |_,_=>false
abbrev SFn:=T->G->OR
def nH(ag:Bool)(n:Nat)(a:T->AV):SFn:=λt g =>
 match a t with
 | .tptr _ _ rows i off=>match xV i rows with
  |some row=>orV (ch ag n row off)
  |none=>.fail
 | .hptr id ep i off=>match g.get id with
  | .cells _ rows ep' _ _=>ak (Nat.beq ep ep') (match xV i rows with
   |some row=>orV (ch ag n row off)
   |none=>.fail) .fail
  |_=>.fail
 |_=>.fail
def pz(n:Nat)(a x:T->AV):SFn:=λt g =>
 match a t with
 | .hptr id ep i off=>match g.get id with
  | .cells sz rows ep' loose fz=>ak (Nat.beq ep ep'&&Nat.beq (bi (x t).cells) n&&ju fz&&ju (x t).isTup) (match xV i rows with
   | some row=>match cH row off (x t).cells with
    |some row'=>.upd .undef (g.put id (.cells sz (Ce i row' rows) ep loose fz))
    |none=>.fail
   |none=>.fail) .fail
  |_=>.fail
 |_=>.fail
def Dq(cs:List AV):SFn:=λ_ g=>.upd (.hptr g.nx 0 0 0) (g.new (Xs (bi cs) [cs]))
def LJ(a:T->AV):SFn:=λt g=>ak (a t).isTup .fail (.upd (.hptr g.nx 0 0 0) (g.new (Xs (bi (a t).cells) [(a t).cells])))
def oG(zero:List AV)(pl:List (Nat×Nat))(vs:T->List AV):SFn:=λt _ =>
 match eF zero (pl.zip (vs t)) with|some cs=>.val (.agg cs)|none=>.fail
def iz(sz len:Nat)(zrows:List (List AV))(is:List Nat)(vs:T->List AV):SFn:=λt g =>
 match gY sz zrows (is.zip (vs t)) with
 |some rows=>.upd (.hsl g.nx 0 0 len none) (g.new (Xs sz rows))
 |none=>.fail
def ki(fo:Nat)(a:T->AV):SFn:=λt _ =>
 match a t with
 |.tptr l sz rows i off=>.val (.tptr l sz rows i (off+fo))
 |.hptr id ep i off=>.val (.hptr id ep i (off+fo))
 |_=>.fail
def gZ(sz:Nat)(a ix:T->AV):SFn:=λt g =>
 match a t with
 | .tsl l sz' rows=>match ix t with
  |.int _ (.ofNat i)=>ak (Nat.beq sz sz'&&Nat.blt i (bi rows)) (.val (.tptr l sz rows i 0)) .fail
  |_=>.fail
 | .hsl id ep off len _=>match ix t with
  | .int _ (.ofNat i)=>match g.get id with
   |.cells sz' _ ep' _ _=>ak (Nat.beq ep ep'&&Nat.beq sz sz'&&Nat.blt i len) (.val (.hptr id ep (off+i) 0)) .fail
   |_=>.fail
  |_=>.fail
 |_=>.fail
def nG(n sz:Nat)(a ix:T->AV):SFn:=λt _ =>
 match ix t with
 | .int _ (.ofNat i)=>ak (Nat.blt i n) (match a t with
  |.tptr l sz' rows j off=>.val (.tptr l sz' rows j (off+i*sz))
  |.hptr id ep j off=>.val (.hptr id ep j (off+i*sz))
  |_=>.fail) .fail
 |_=>.fail
def vT(ag:Bool)(n sz:Nat)(a ix:T->AV):SFn:=λt _ =>
 match a t with
 | .agg cs=>match ix t with
  |.int _ (.ofNat i)=>ak (Nat.blt i n) (orV (ch ag sz cs (i*sz))) .fail
  |_=>.fail
 |_=>.fail
def qf(a ix:T->AV):SFn:=λt _ =>
 match a t with
 | .str s=>match ix t with
  | .int _ (.ofNat i)=>match xV i s.data.toList with
   |some b=>.val (.int .u8 (.ofNat b.toNat))
   |none=>.fail
  |_=>.fail
 |_=>.fail
def it(sz bytes:Nat)(zero:List AV)(l c:T->AV):SFn:=λt g =>
 match dN bz (c t) with
 | some cn=>match dN cn (l t) with
  | some ln=>ak (Nat.ble (cn*bytes) bz)
   (.upd (.hsl g.nx 0 0 ln none) (g.new (Xs sz (ib cn zero)))) .fail
  |none=>.fail
 |none=>.fail
def cz(kk:KeyKind)(zero:AV)(ok:Bool)(m k:T->AV):SFn:=λt g =>
 ak (jQ kk (k t))
  (match (match m t with
          |.nilm=>some []
          |.hmap id=>match g.get id with|.map es=>some es|_=>none
          |_=>none) with
   | some es=>match jO (k t) es with
    |some (some v)=>.val (ak ok (.tup [v,.bool true]) v)
    |some none=>.val (ak ok (.tup [zero,.bool false]) zero)
    |none=>.fail
   |none=>.fail) .fail
def dq(kk:KeyKind)(m k x:T->AV):SFn:=λt g =>
 ak (jQ kk (k t))
  (match m t with
   | .hmap id=>match g.get id with
    | .map es=>match Gz (k t) (x t) es with
     |some es'=>.upd .undef (g.put id (.map es'))
     |none=>.fail
    |_=>.fail
   |_=>.fail) .fail
def gv(k:AV):Nat->List (AV×AV)->Option (Option (Nat×AV))
 |_,[]=>some none
 | i,(k',v)::es=>match jP k k' with
  |some true=>some (some (i,v))
  |some false=>gv k (Nat.succ i) es
  |none=>none
def dh(kk:KeyKind)(zero:AV)(m k:T->AV):SFn:=λt g =>
 ak (jQ kk (k t))
  (match m t with
   | .hmap id=>match g.get id with
    | .map es=>match gv (k t) 0 es with
     |some (some (i,v))=>.val (.tup [v,.int .i64 (.ofNat i)])
     |some none=>.upd (.tup [zero,.int .i64 (.ofNat (bi es))]) (g.put id (.map (es++[(k t,zero)])))
     |none=>.fail
    |_=>.fail
   |_=>.fail) .fail
def da(m st x:T->AV):SFn:=λt g =>
 match m t with
 | .hmap id=>match g.get id with
  | .map es=>match st t with
   | .int _ (.ofNat i)=>match xV i es with
    |some (k,_)=>.upd .undef (g.put id (.map (Ce i (k,x t) es)))
    |none=>.fail
   |_=>.fail
  |_=>.fail
 |_=>.fail
def zZ(sz:Nat)(zero:List AV)(x:AV)(g:G):OR :=
 match x with
 |.nils|.esl=>.val .undef
 |.tsl _ _ []=>.val .undef
 | .hsl id ep off len _=>match len with
  |0=>.val .undef
  | _=>match g.get id with
   | .cells sz' rows ep' loose fz =>
    ak (Nat.beq ep ep'&&Nat.beq sz sz'&&Nat.ble (off+len) (bi rows)&&ju fz)
     (.upd .undef (g.put id (.cells sz (mG rows off (ib len zero)) ep loose fz))) .fail
   |_=>.fail
 |_=>.fail
inductive LenKind where
 |slice|array (n:Nat)|map|str|other
def mF(P:Program)(t:TypeId):LenKind :=
 match P.underlying t with
 |some (.slice _)=>.slice
 |some (.array n _)=>.array n
 |some (.map _ _)=>.map
 |some .string=>.str
 |_=>.other
def jC(k:LenKind)(x:AV)(g:G):OR :=
 match k with
 | .slice=>match x with
  |.nils|.esl=>.val (.int .i64 0)
  |.tsl _ _ rows=>.val (.int .i64 (.ofNat (bi rows)))
  |.hsl _ _ _ n _=>.val (.int .i64 (.ofNat n))
  |_=>.fail
 |.array n=>.val (.int .i64 (.ofNat n))
 | .map=>match x with
  |.nilm=>.val (.int .i64 0)
  |.hmap id=>match g.get id with|.map es=>.val (.int .i64 (.ofNat (bi es)))|_=>.fail
  |_=>.fail
 |.str=>match x with|.str s=>.val (.int .i64 (.ofNat s.size))|_=>.fail
 |.other=>.fail
def LU(x:AV)(g:G):OR :=
 match x with
 |.nils|.esl=>.val (.int .i64 0)
 | .hsl id ep off _ lim=>match g.get id with
  |.cells _ rows ep' loose _=>ak (Nat.beq ep ep'&&(lim.isSome || ju loose)) (.val (.int .i64 (.ofNat (lim.getD (bi rows - off))))) .fail
  |_=>.fail
 |_=>.fail
def dJ(C:Cfg)(b:Builtin)(argTypes:Array TypeId)(args:List Operand):Option (Stg SFn) :=
 match b,args with
 | .len,[x]=>match argTypes[0]?,aP C x with
  |some t,some a=>some ⟨λs g=>jC (mF C.P t) (a.run s) g⟩
  |_,_=>none
 | .append,[a,x]=>match argTypes[0]?,argTypes[1]?,aP C a,aP C x with
  | some t,some xt,some av,some xv=>match me C.P t,C.P.underlying xt with
   | some e,some (.slice _)=>match szT C.P e,jS C.P e,gm C.P e with
    |some sz,some bytes,some zero=>ak (Nat.beq (bi zero) sz&&Nat.blt 0 sz&&Nat.blt 0 bytes) (some ⟨λs g=>eS sz bytes (av.run s) (xv.run s) g⟩) none
    |_,_,_=>none
   | some e,some (.int _)=>match szT C.P e,jS C.P e,gm C.P e with
    |some sz,some bytes,some zero=>ak (Nat.beq (bi zero) sz&&Nat.blt 0 sz&&Nat.blt 0 bytes) (some ⟨λs g=>wm sz bytes zero (av.run s) (xv.run s) g⟩) none
    |_,_,_=>none
   |_,_=>none
  |_,_,_,_=>none
 | .copy,[a,x]=>match argTypes[0]?,aP C a,aP C x with
  | some t,some av,some xv=>match me C.P t with
   | some e=>match szT C.P e with
    |some sz=>some ⟨λs g=>Cw sz (av.run s) (xv.run s) g⟩
    |none=>none
   |none=>none
  |_,_,_=>none
 | .cap,[x]=>match argTypes[0]?,aP C x with
  | some t,some a=>match me C.P t with
   |some _=>some ⟨λs g=>LU (a.run s) g⟩
   |none=>none
  |_,_=>none
 | .clear,[x]=>match argTypes[0]?,aP C x with
  | some t,some a=>match me C.P t with
   | some e=>match szT C.P e,gm C.P e with
    |some sz,some zero=>ak (Nat.beq (bi zero) sz&&Nat.blt 0 sz) (some ⟨λs g=>zZ sz zero (a.run s) g⟩) none
    |_,_=>none
   |none=>none
  |_,_=>none
 | .max,[x,y]=>match aP C x,aP C y with
  | some a,some b=>some ⟨λs _=>match a.run s with
   | .int k m=>match b.run s with
    |.int k' n=>ak (cZ k k') (.val (.int k (ak (yZ m n) n m))) .fail
    |_=>.fail
   |_=>.fail⟩
  |_,_=>none
 | .min,[x,y]=>match aP C x,aP C y with
  | some a,some b=>some ⟨λs _=>match a.run s with
   | .int k m=>match b.run s with
    |.int k' n=>ak (cZ k k') (.val (.int k (ak (yZ n m) n m))) .fail
    |_=>.fail
   |_=>.fail⟩
  |_,_=>none
 |_,_=>none
def h_{α:Type}(f:α->Option Nat):List α->Option Nat
 |[]=>some 0
 | v::vs=>match f v with
  | some a=>match h_ f vs with
   |some b=>some (Nat.max a b)
   |none=>none
  |none=>none
def eN:Nat->AV->Option Nat
 |0,_=>none
 | f+1,v=>match v with
  |.tsl l _ _=>some l
  |.tptr l _ _ _ _=>some l
  |.agg cs=>h_ (eN f) cs
  |.tup cs=>h_ (eN f) cs
  |.clo _ a c=>h_ (eN f) (a++c)
  |.ifc _ v=>eN f v
  |.hsl ..|.hptr ..|.hmap _|.yld _=>none
  |_=>some 0
def an:Nat:=24
def gz(rows:List (List AV)):Option Nat:=h_ (h_ (eN an)) rows
def qy(sz:Nat):Nat->List AV->List (List AV)
 |0,_=>[]
 |n+1,cs=>jB sz cs::qy sz n (iA sz cs)
def iU(n sz:Nat)(a:T->AV)(lo hi:T->Option AV):SFn:=λt g =>
 match br n n (hi t) with
 |none=>.fail
 | some h=>match br 0 h (lo t) with
  |none=>.fail
  | some l=>match a t with
   | .tptr tag _ rows i off=>match xV i rows with
    |some row=>ak (Nat.ble (off+n*sz) (bi row)) (.val (.tsl tag sz (qy sz (h - l) (iA (off+l*sz) row)))) .fail
    |none=>.fail
   | .hptr id ep i off=>match g.get id with
    | .cells sz' rows ep' loose _=>ak (Nat.beq ep ep') (match xV i rows with
     | some row=>ak (Nat.ble (off+n*sz) (bi row))
      ((λrs=>match gz rs with
        |some m=>.upd (.tsl m sz rs) (g.put id (.cells sz' rows ep' loose true))
        |none=>.fail) (qy sz (h - l) (iA (off+l*sz) row))) .fail
     |none=>.fail) .fail
    |_=>.fail
   |_=>.fail
def cm(C:Cfg):Op->Option (Stg SFn)
 |.move x|.assign x=>match aP C x with|some a=>some ⟨λt _=>.val (a.run t)⟩|none=>none
 | .pick c a b=>match aP C c,aP C a,aP C b with
  |some c,some a,some b=>some ⟨λt _=>match c.run t with|.bool q=>ak q (.val (a.run t)) (.val (b.run t))|_=>.fail⟩
  |_,_,_=>none
 | .alloc ty=>match gm C.P ty with
  |some cs=>some ⟨Dq cs⟩
  |none=>none
 | .box _ x=>match aP C x with
  |some a=>some ⟨LJ a.run⟩
  |none=>none
 | .build ty parts=>match gm C.P ty,bV C (parts.toList.map (·.2)) with
  | some zero,some vs =>
   match C.P.underlying ty with
   | some (.struct fs)=>match aD (λf:Field=>match szT C.P f.type with| some n=>some (f.offset,n)| none=>none) fs.toList with
    | some places=>match aD (λi=>places[i]?) (parts.toList.map (·.1)) with
     |some pl=>some ⟨oG zero pl vs.run⟩
     |none=>none
    |none=>none
   | some (.array _ e)=>match szT C.P e with
    |some n=>some ⟨oG zero ((parts.toList.map (·.1)).map λi=>(i*n,n)) vs.run⟩
    |none=>none
   |_=>none
  |_,_=>none
 | .buildSlice ty len parts=>match me C.P ty,bV C (parts.toList.map (·.2)) with
  | some e,some vs=>match szT C.P e,gm C.P e with
   | some sz,some zero=>ak (Nat.beq (bi zero) sz&&Nat.blt 0 sz&&Nat.ble (len*sz) 1048576)
    (some ⟨iz sz len (ib len zero) (parts.toList.map (·.1)) vs.run⟩) none
   |_,_=>none
  |_,_=>none
 | .load ty a=>match aP C a,rY C.P ty,szT C.P ty with
  |some a,some ag,some n=>some ⟨nH ag n a.run⟩
  |_,_,_=>none
 | .store ty a x=>match aP C a,aP C x,szT C.P ty with
  |some a,some x,some n=>some ⟨pz n a.run x.run⟩
  |_,_,_=>none
 | .nilCheck x=>match aP C x with
  | some a=>some ⟨λt _=>match a.run t with
   |.tptr l sz rows i off=>.val (.tptr l sz rows i off)
   |.hptr id ep i off=>.val (.hptr id ep i off)
   |.clo f a c=>.val (.clo f a c)
   |.yld id=>.val (.yld id)
   |_=>.fail⟩
  |none=>none
 | .binOp op ty x y _=>match aP C x,aP C y with
  |some a,some b=>some ⟨λt _=>(zH C.P op ty).run (a.run t) (b.run t)⟩
  |_,_=>none
 | .unOp op _ x=>match aP C x with
  |some a=>some ⟨λt _=>(unA op).run (a.run t)⟩
  |none=>none
 | .convert src dst x=>match aP C x,C.P.underlying src,C.P.underlying dst with
  |some a,some _,some (.int k)=>some ⟨λt _=>match a.run t with|.int _ n=>.val (.int k (t_ k n))|_=>.fail⟩
  |_,_,_=>none
 | .makeInterface ty x=>match aP C x,C.P.underlying ty with
  |some _,some (.interface _)=>none
  |some a,some _=>some ⟨λt _=>.val (.ifc ty (a.run t))⟩
  |_,_=>none
 | .makeFunc (.func f) first captured=>match bV C first.toList,bV C captured.toList with
  |some a,some c=>some ⟨λt _=>.val (.clo f (a.run t) (c.run t))⟩
  |_,_=>none
 | .makeMap ty none=>match C.P.underlying ty with
  |some (.map _ _)=>some ⟨λ_ g=>.upd (.hmap g.nx) (g.new (.map []))⟩
  |_=>none
 | .makeSlice ty l c=>match me C.P ty,aP C l,aP C c with
  | some e,some l,some c=>match szT C.P e,jS C.P e,gm C.P e with
   |some sz,some bytes,some zero=>ak (Nat.beq (bi zero) sz&&Nat.blt 0 sz) (some ⟨it sz bytes zero l.run c.run⟩) none
   |_,_,_=>none
  |_,_,_=>none
 | .slice ty x lo hi none=>match C.P.underlying ty,aP C x,bV C lo.toList,bV C hi.toList with
  | some (.slice e),some x,some l,some h=>match szT C.P e with
   |some sz=>some ⟨λt g=>orV (rh sz (x.run t) (l.run t).head? (h.run t).head? none g.h)⟩
   |none=>none
  | some (.array n e),some x,some l,some h=>match szT C.P e with
   |some (sz+1)=>some ⟨iU n (sz+1) x.run (λt=>(l.run t).head?) (λt=>(h.run t).head?)⟩
   |_=>none
  |_,_,_,_=>none
 | .slice ty x lo (some hi) (some mx)=>match me C.P ty,aP C x,bV C lo.toList,aP C hi,aP C mx with
  | some e,some x,some l,some h,some m=>match szT C.P e with
   |some sz=>some ⟨λt g=>orV (rh sz (x.run t) (l.run t).head? (some (h.run t)) (some (m.run t)) g.h)⟩
   |none=>none
  |_,_,_,_,_=>none
 | .fieldAddr ty x f=>match aP C x,tw C.P ty f with
  | some a,some (fo,ft)=>match szT C.P ft with
   |some (_+1)=>some ⟨ki fo a.run⟩
   |_=>none
  |_,_=>none
 | .field ty x f=>match aP C x,tw C.P ty f with
  | some a,some (fo,ft)=>match rY C.P ft,szT C.P ft with
   |some ag,some n=>some ⟨λt _=>match a.run t with|.agg cs=>orV (ch ag n cs fo)|_=>.fail⟩
   |_,_=>none
  |_,_=>none
 | .indexAddr ty x ix=>match aP C x,aP C ix with
  | some a,some i=>match C.P.underlying ty with
   | some (.slice e)=>match szT C.P e with
    |some sz=>some ⟨gZ sz a.run i.run⟩
    |none=>none
   | some (.array n e)=>match szT C.P e with
    |some sz=>some ⟨nG n sz a.run i.run⟩
    |none=>none
   |_=>none
  |_,_=>none
 | .index ty x ix=>match aP C x,aP C ix with
  | some a,some i=>match C.P.underlying ty with
   | some (.array n e)=>match rY C.P e,szT C.P e with
    |some ag,some sz=>some ⟨vT ag n sz a.run i.run⟩
    |_,_=>none
   |some .string=>some ⟨qf a.run i.run⟩
   |_=>none
  |_,_=>none
 | .lookup ty x k ok=>match aP C x,aP C k,C.P.underlying ty with
  | some m,some k,some (.map kt et)=>match rR C.P et with
   |some z=>some ⟨cz (ck C.P kt) z ok m.run k.run⟩
   |none=>none
  |_,_,_=>none
 | .mapUpdate ty m k x| .insert ty m k x=>match aP C m,aP C k,aP C x,C.P.underlying ty with
  |some m,some k,some x,some (.map kt _)=>some ⟨dq (ck C.P kt) m.run k.run x.run⟩
  |_,_,_,_=>none
 | .mapEntry ty m k=>match aP C m,aP C k,C.P.underlying ty with
  | some m,some k,some (.map kt et)=>match rR C.P et with
   |some z=>some ⟨dh (ck C.P kt) z m.run k.run⟩
   |none=>none
  |_,_,_=>none
 | .entryStore _ m st x=>match aP C m,aP C st,aP C x with
  |some m,some st,some x=>some ⟨da m.run st.run x.run⟩
  |_,_,_=>none
 | .extract x i=>match aP C x with
  |some a=>some ⟨λt _=>match a.run t with|.tup vs=>orV (xV i vs)|_=>.fail⟩
  |none=>none
 |.call { callee:=.builtin b,args,argTypes }=>dJ C b argTypes args.toList
 |_=>none
def snap(h:H)(tag:Nat):Nat->AV->Option AV
 |0,_=>none
 | f+1,v=>match v with
  |.agg cs=>match aD (snap h tag f) cs with|some as=>some (.agg as)|none=>none
  |.tup cs=>match aD (snap h tag f) cs with|some as=>some (.tup as)|none=>none
  | .clo g a c=>match aD (snap h tag f) a,aD (snap h tag f) c with
   |some as,some cs=>some (.clo g as cs)
   |_,_=>none
  |.ifc t x=>match snap h tag f x with|some a=>some (.ifc t a)|none=>none
  | .hsl id ep off len _=>match h.get id with
   | .cells sz rows ep' _ _=>ak (Nat.beq ep ep'&&Nat.ble (off+len) (bi rows))
    (match aD (aD (snap h tag f)) (jB len (iA off rows)) with
     | some rs=>match gz rs with
      |some m=>some (.tsl (Nat.max tag m) sz rs)
      |none=>none
     |none=>none) none
   |_=>none
  | .hptr id ep i off=>match h.get id with
   | .cells sz rows ep' _ _=>ak (Nat.beq ep ep')
    (match aD (aD (snap h tag f)) rows with
     | some rs=>match gz rs with
      |some m=>some (.tptr (Nat.max tag m) sz rs i off)
      |none=>none
     |none=>none) none
   |_=>none
  |.hmap _=>none
  |.yld _=>none
  |v=>some v
def aw(h:H):Nat->AV->List Nat
 |0,_=>[]
 | f+1,v=>match v with
  |.agg cs=>cs.flatMap (aw h f)
  |.tup cs=>cs.flatMap (aw h f)
  |.clo _ a c=>a.flatMap (aw h f)++c.flatMap (aw h f)
  |.ifc _ x=>aw h f x
  | .hsl id _ off len _=>id::(match h.get id with
   |.cells _ rows _ _ _=>(jB len (iA off rows)).flatMap (·.flatMap (aw h f))
   |_=>[])
  | .hptr id _ _ _=>id::(match h.get id with
   |.cells _ rows _ _ _=>rows.flatMap (·.flatMap (aw h f))
   |_=>[])
  |.hmap id=>[id]
  |_=>[]
def dQ(d:Nat):Nat->AV->Option AV
 |0,_=>none
 | f+1,v=>match v with
  | .tsl t sz rows=>ak (Nat.beq t d) (match aD (aD (dQ d f)) rows with
   | some rs=>match gz rs with
    |some m=>some (.tsl m sz rs)
    |none=>none
   |none=>none) (some v)
  | .tptr t sz rows i off=>ak (Nat.beq t d) (match aD (aD (dQ d f)) rows with
   | some rs=>match gz rs with
    |some m=>some (.tptr m sz rs i off)
    |none=>none
   |none=>none) (some v)
  |.agg cs=>match aD (dQ d f) cs with|some as=>some (.agg as)|none=>none
  |.tup cs=>match aD (dQ d f) cs with|some as=>some (.tup as)|none=>none
  | .clo g a c=>match aD (dQ d f) a,aD (dQ d f) c with
   |some as,some cs=>some (.clo g as cs)
   |_,_=>none
  |.ifc t x=>match dQ d f x with|some a=>some (.ifc t a)|none=>none
  |v=>some v
def cM(g:G):List Nat->G
 |[]=>g
 | i::is=>match g.get i with
  |.cells sz rows ep loose _=>cM (g.put i (.cells sz rows ep loose true)) is
  |_=>cM g is
def ac(ih:IH)(d:Nat)(g:G)(f:Nat)(args:List AV):OR :=
 match aD (snap g.h d an) args with
 |none=>.fail
 | some as=>match ih.call (Nat.succ d) f as G.empty with
  |.fail=>.fail
  | .ok r g'=>match snap g'.h 0 an r with
   |none=>.fail
   | some r'=>match eN an r' with
    |none=>.fail
    | some m=>ak (Nat.blt m d) (.val r')
     (match dQ d an r' with
      |none=>.fail
      | some r''=>match eN an r'' with
       |none=>.fail
       |some m'=>ak (Nat.blt m' d) (.upd r'' (cM g (args.flatMap (aw g.h an)))) .fail)
def di:T->Nat->List Nat->List AV->Option T
 |t,_,[],[]=>some t
 |t,nt,p::ps,v::vs=>ak (Nat.blt p nt) (di ((sp AV.undef p).run t v) nt ps vs) none
 |_,_,_,_=>none
def cR(ih:IH)(d:Nat)(id:Nat)(args:List AV)(g:G):OR :=
 match g.get id with
 | .loop nt t ps assign body _ _ _=>match di t nt ps args with
  |none=>.fail
  | some t'=>match ih.code nt d (some id) assign t' [] g with
   | .ok .norm t1 [] g1=>match g1.get id with
    | .loop nt1 t ps assign1 body1 dfr .ready pend =>
     match ih.code nt d (some id) body t1 [] (g1.put id (.loop nt1 t ps assign1 body1 dfr .busy pend)) with
     | .ok e _ [] g2=>match g2.get id with
      | .loop nt t ps assign body dfr _ _=>match e with
       |.norm=>.upd (.bool true) (g2.put id (.loop nt t ps assign body dfr .ready none))
       |.exit j=>.upd (.bool false) (g2.put id (.loop nt t ps assign body dfr .done (some (.exit j))))
       |.ret=>.upd (.bool false) (g2.put id (.loop nt t ps assign body dfr .done (some .ret)))
      |_=>.fail
     |_=>.fail
    |_=>.fail
   |_=>.fail
 |_=>.fail
def orF:FR->OR
 |.ok v g=>.upd v g
 |.fail=>.fail
def dj(C:Cfg)(ih:IH)(d:Nat)(fv:AV)(vs:List AV)(g:G):OR :=
 match fv with
 | .clo f first cap=>match C.ext f with
  |some e=>e d (first++(vs++cap)) g
  |none=>ak (C.iso f) (ac ih d g f (first++(vs++cap))) (orF (ih.call d f (first++(vs++cap)) g))
 |.yld id=>cR ih d id vs g
 |_=>.fail
def cOp(C:Cfg):Op->Option (Stg LB)
 | .call { callee:=.value (.func f),args,.. }=>match bV C args.toList with
  | some vs=>match C.ext f with
   |some e=>some ⟨λ_ d _ t g=>e d (vs.run t) g⟩
   |none=>ak (C.iso f) (some ⟨λih d _ t g=>ac ih d g f (vs.run t)⟩) (some ⟨λih d _ t g=>orF (ih.call d f (vs.run t) g)⟩)
  |none=>none
 | .call { callee:=.value fo,args,.. }=>match aP C fo,bV C args.toList with
  |some fv,some vs=>some ⟨λih d _ t g=>dj C ih d (fv.run t) (vs.run t) g⟩
  |_,_=>none
 |.call { callee:=.builtin .recover,.. }=>some ⟨λ_ _ _ _ _=>.val .nili⟩
 | .defer { callee:=.value fo,args,.. }=>match aP C fo,bV C args.toList with
  | some fv,some vs=>some ⟨λ_ _ rd t _=>match rd with
   |some _=>.fail
   | none=>match fv.run t with
    |.clo f first cap=>.dfr (.call (.clo f [] cap) (first++vs.run t))
    |_=>.fail⟩
  |_,_=>none
 | op=>match cm C op with
  |some s=>some ⟨λ_ _ _ t g=>s.run t g⟩
  |none=>none
def bC(C:Cfg)(op:Op):Stg LB :=
 match cOp C op with
 |some f=>f
 |none=>⟨λ_ _ _ _ _=>.fail⟩
structure Looks where
 rd:List Nat
 sr:List (Nat×Nat)
 soft:List (Nat×Nat)
 big:Bool
def af:AV->List Nat
 |.hptr id _ _ _=>[id]
 |.hsl id _ _ _ _=>[id]
 |.hmap id=>[id]
 |_=>[]
def xe:AV->List Nat
 |.hmap id=>[id]
 |_=>[]
def uo:AV->List Nat
 |.hsl id _ _ (_+1) _=>[id]
 |_=>[]
def mA(C:Cfg)(b:Builtin)(argTypes:Array TypeId):AV->List Nat :=
 match b with
 | .len=>match argTypes[0]? with
  | some t=>match mF C.P t with
   |.map=>xe
   |_=>λ_=>[]
  |none=>λ_=>[]
 |.clear=>uo
 |_=>af
def aA:Looks:=⟨[],[],[],false⟩
def cK:Looks:=⟨[],[],[],true⟩
def am(l:List Nat):Looks:=⟨l,[],[],false⟩
def aH(C:Cfg)(op:Op):Stg (T->G->Looks) :=
 match op with
 | .load _ a| .store _ a _| .slice _ a _ _ _| .lookup _ a _ true| .mapUpdate _ a _ _| .insert _ a _ _| .entryStore _ a _ _=>match aP C a with
  |some a=>⟨λt _=>am (af (a.run t))⟩
  |none=>⟨λ_ _=>cK⟩
 | .lookup ty a _ false=>match aP C a with
  |some a=>⟨λt _=>⟨[],(af (a.run t)).map (·,ty),[],false⟩⟩
  |none=>⟨λ_ _=>cK⟩
 | .mapEntry ty a _=>match aP C a with
  |some a=>⟨λt _=>⟨af (a.run t),[],(af (a.run t)).map (·,ty),false⟩⟩
  |none=>⟨λ_ _=>cK⟩
 | .indexAddr ty a _=>match C.P.underlying ty,aP C a with
  |some (.slice _),some a=>⟨λt _=>am (af (a.run t))⟩
  |_,_=>⟨λ_ _=>aA⟩
 | .call { callee:=.builtin b,args,argTypes }=>match bV C args.toList with
  |some vs=>⟨λt _=>am ((vs.run t).flatMap (mA C b argTypes))⟩
  |none=>⟨λ_ _=>cK⟩
 | .call { callee:=.value fo,args,.. }=>match aP C fo,bV C args.toList with
  | some fv,some vs=>⟨λt g=>match fv.run t with
   |.clo f first cap=>ak ((C.ext f).isSome || C.iso f) (am ((first++(vs.run t++cap)).flatMap (aw g.h an))) cK
   |_=>cK⟩
  |_,_=>⟨λ_ _=>cK⟩
 |.defer _=>⟨λ_ _=>cK⟩
 |_=>⟨λ_ _=>aA⟩
structure Foot where
 lk:Looks
 wr:List Nat
abbrev RFn:=IH->Nat->Option Nat->T->List ADf->G->CR
def qj(nt:Nat):Option Nat->Option (Stg (T->AV->T))
 |none=>some ⟨λt _=>t⟩
 |some d=>ak (Nat.blt d nt) (some (sp AV.undef d)) none
def i4(ops:List Oper):Option (Nat×Bool)->Option (Stg (T->Option Bool))
 |none=>some ⟨λ_=>some true⟩
 | some (j,want)=>match ops[j]? with
  | some oj=>match oj.dst with
   | some d=>some ⟨λt=>match (gp AV.undef d).run t with
    |.bool b=>some (ak want b (ju b))
    |.tup _=>some false
    |_=>none⟩
   |none=>none
  |none=>none
def pB(out:T->AV->T)(next:T->List ADf->G->CR)(t:T)(df:List ADf)(g:G):OR->CR
 |.fail=>.fail
 |.val v=>next (out t v) df g
 |.upd v g'=>next (out t v) df g'
 |.dfr a=>next (out t .undef) (a::df) g
def CK:Stg RFn:=⟨λ_ _ _ _ _ _=>.fail⟩
def jU(C:Cfg)(nt:Nat)(all:List Oper):List Oper->Stg RFn
 |[]=>⟨λ_ _ _ t df g=>.ok .norm t df g⟩
 | o::rest=>match qj nt o.dst with
  | some out=>match o.guard with
   |none=>⟨λih d rd t df g=>pB out.run ((jU C nt all rest).run ih d rd) t df g ((bC C o.op).run ih d rd t g)⟩
   | some gd=>match i4 all (some gd) with
    | some q=>⟨λih d rd t df g=>match q.run t with
     |some true=>pB out.run ((jU C nt all rest).run ih d rd) t df g ((bC C o.op).run ih d rd t g)
     |some false=>(jU C nt all rest).run ih d rd (out.run t .undef) df g
     |none=>.fail⟩
    |none=>CK
  |none=>CK
def bD:List Oper->List Nat->List Nat
 |[],acc=>acc
 | o::rest,acc =>
  bD rest (acc++[o.after.toList.foldl (λm e=>ak (Region.binds .any e) (m ||| 2 ^ e.on ||| acc.getD e.on 0) m) 0])
def uv(ops:List Oper)(o:Oper):List Nat :=
 (o.op.operands.toList.filterMap fun|.tmp t=>some t|_=>none) ++
 (match o.guard with
  |some (g,_)=>match ops[g]? with|some og=>og.dst.toList|none=>[]
  |none=>[])
def kG(ops:List Oper)(x y:Oper):Bool :=
 (match x.dst with|some d=>!(uv ops y).contains d&&y.dst != some d|none=>true) &&
 (match y.dst with|some d=>!(uv ops x).contains d|none=>true)
def meets(a b:List Nat):Bool:=a.any λx=>b.contains x
def fst1(l:List (Nat×Nat)):List Nat:=l.map (·.1)
def A9(p:Nat×Nat):List (Nat×Nat)->Bool
 |[]=>false
 |q::r=>ak (Nat.beq p.1 q.1&&Nat.beq p.2 q.2) true (A9 p r)
def eG(x y:Foot):Bool :=
 match x.wr with
 |[]=>true
 |_=>!y.lk.big&&!meets x.wr y.wr&&!meets x.wr y.lk.rd&&!meets x.wr (fst1 y.lk.sr)
def dg(x y:Foot):Bool :=
 match x.wr with
 |[]=>true
 |_=>!y.lk.big&&!meets x.wr y.wr&&!meets x.wr y.lk.rd&&(!meets x.wr (fst1 y.lk.sr) || y.lk.sr.all λp=>A9 p x.lk.soft)
def be(x y:Foot):Bool:=eG x y&&dg y x
def b_(pm:List Nat)(i:Nat)(x:Foot):Nat->List Foot->Nat
 |_,[]=>0
 |j,y::r=>ak ((pm.getD j 0).testBit i || !meets y.wr (fst1 x.lk.sr)) (b_ pm i x (Nat.succ j) r) (Nat.succ (b_ pm i x (Nat.succ j) r))
def gg(pm:List Nat):Nat->List Foot->Bool
 |_,[]=>true
 |i,x::r=>ak (match x.lk.sr with|[]=>true|_=>Nat.ble (b_ pm i x (Nat.succ i) r) 1) (gg pm (Nat.succ i) r) false
def gq{α:Type}(f:Nat->α->Nat->α->Bool)(i:Nat)(x:α):Nat->List α->Bool
 |_,[]=>true
 |j,y::r=>f i x j y&&gq f i x (j+1) r
def li{α:Type}(f:Nat->α->Nat->α->Bool):Nat->List α->Bool
 |_,[]=>true
 |i,x::rest=>gq f i x (i+1) rest&&li f (i+1) rest
def pP:Nat->List Oper->Bool
 |_,[]=>true
 |i,o::r=>(o.after.toList.all λe=>!Region.binds .any e || Nat.blt e.on i)&&pP (i+1) r
def nF(pm:List Nat):Nat->List Oper->Bool
 |_,[]=>true
 |i,o::r=>(match o.guard with|none=>true|some (j,_)=>(pm.getD i 0).testBit j)&&nF pm (i+1) r
def Eo(ops:List Oper):Bool :=
 let pm:=bD ops []
 pP 0 ops&&nF pm 0 ops&&li (λi x j y=>(pm.getD j 0).testBit i || kG ops x y) 0 ops
def jt(pm:List Nat)(fs:List Foot):Bool :=
 ak (li (λi x j y=>(pm.getD j 0).testBit i || be x y) 0 fs) (gg pm 0 fs) false
def zo(C:Cfg):Op->Bool
 |.alloc _|.box ..|.buildSlice ..|.store ..|.makeSlice ..|.makeMap ..|.mapUpdate ..|.insert ..|.mapEntry ..|.entryStore ..|.defer _=>false
 |.call { callee:=.builtin .append,.. }|.call { callee:=.builtin .copy,.. }|.call { callee:=.builtin .clear,.. }=>false
 |.slice ty _ _ _ _=>match C.P.underlying ty with|some (.slice _)=>true|_=>false
 |.call { callee:=.value (.func f),.. }=>C.iso f
 |.call { callee:=.value _,.. }=>false
 |_=>true
abbrev Sf:=IH->Nat->Option Nat->T->List ADf->G->List Foot->CR
def aR(g:G)(lg:List Nat):G:=@G.rec (λ_=>G) (λh nx _=>⟨h,nx,lg⟩) g
def od(g:G)(lg:List Nat):G:=@G.rec (λ_=>G) (λh nx _=>⟨h,Nat.succ nx,lg⟩) g
def lK(out:T->AV->T)(next:T->List ADf->G->List Foot->CR)(t:T)(df:List ADf)(g:G)(fs:List Foot)(lk:Looks):OR->CR
 |.fail=>.fail
 |.val v=>next (out t v) df (od g g.lg) (⟨lk,[]⟩::fs)
 |.upd v g'=>next (out t v) df (od g' (g'.lg++g.lg)) (⟨lk,g'.lg⟩::fs)
 |.dfr _=>.fail
def iZ(C:Cfg)(nt:Nat)(pm:List Nat)(all:List Oper):Nat->List Oper->Stg Sf
 |_,[]=>⟨λ_ _ _ t df g fs=>ak (jt pm fs.reverse) (.ok .norm t df g) .fail⟩
 | i,o::rest=>match qj nt o.dst,i4 all o.guard with
  | some out,some q=>⟨λih d rd t df g fs=>match q.run t with
     |some true=>lK out.run ((iZ C nt pm all (i+1) rest).run ih d rd) t df g fs ((aH C o.op).run t g) ((bC C o.op).run ih d rd t (aR g []))
     |some false=>(iZ C nt pm all (i+1) rest).run ih d rd (out.run t .undef) df g (⟨aA,[]⟩::fs)
     |none=>.fail⟩
  |_,_=>⟨λ_ _ _ _ _ _ _=>.fail⟩
def nL(g0:G):CR->CR
 |.ok e t df g=>match g.lg with|[]=>ak (Nat.beq g.nx g0.nx) (.ok e t df g0) .fail|_=>.fail
 |.fail=>.fail
def gt(C:Cfg)(nt:Nat)(ops:List Oper)(draw:Bool):Stg RFn :=
 ak draw
  (ak (Eo ops)
   (ak (ops.all λo=>zo C o.op)
    ⟨λih d rd t df g=>nL g ((jU C nt ops ops).run ih d rd t df (aR g []))⟩
    ⟨λih d rd t df g=>(iZ C nt (bD ops []) ops 0 ops).run ih d rd t df g []⟩) CK)
  (jU C nt ops ops)
def cT(ih:IH)(nt d:Nat)(rd:Option Nat)(id:Nat)(t:T)(df:List ADf)(g2:G):CR :=
 match g2.get id with
 | .loop nt' t' ps assign body dfr st pend=>match st with
  |.busy=>.fail
  | _=>match pend with
   |none=>.ok .norm t df (g2.put id (.loop nt' t' ps assign body dfr .exhausted pend))
   |some c=>ih.code nt d rd c t df (g2.put id (.loop nt' t' ps assign body dfr .exhausted pend))
 |_=>.fail
def bK(C:Cfg)(ih:IH)(nt d:Nat)(rd:Option Nat)(fv:AV)(ps:List Nat)(assign body:Code)(t:T)(df:List ADf)(dfr:Nat)(g:G):CR :=
 match fv with
 | .clo f first cap=>ak (C.ext f).isSome .fail
  (match ih.call d f (first++(.yld g.nx::cap)) (g.new (.loop nt t ps assign body dfr .ready none)) with
  |.ok _ g2=>cT ih nt d rd g.nx t df g2
  |.fail=>.fail)
 |_=>.fail
def nM(C:Cfg)(nt:Nat)(fo:T->AV)(ps:List Nat)(assign body:Code):RFn:=λih d rd t df g =>
 match rd with
 | some l=>match g.get l with
  |.loop _ _ _ _ _ dfr _ _=>bK C ih nt d rd (fo t) ps assign body t df dfr g
  |_=>.fail
 |none=>bK C ih nt d rd (fo t) ps assign body t (.mark g.nx::df) g.nx (g.new (.dfr true))
def Cc(k:T->List ADf->G->CR):CR->CR
 |.ok .norm t df g=>k t df g
 |r=>r
def vq(id:Nat):CR->CR
 |.ok (.exit j) t df g=>ak (Nat.beq j id) (.ok .norm t df g) (.ok (.exit j) t df g)
 |r=>r
def aK(C:Cfg)(nt:Nat):Code->Stg RFn
 |.skip=>⟨λ_ _ _ t df g=>.ok .norm t df g⟩
 |.label _=>⟨λ_ _ _ t df g=>.ok .norm t df g⟩
 |.region _ ops draw=>gt C nt ops.toList draw
 |.seq a b=>⟨λih d rd t df g=>Cc ((aK C nt b).run ih d rd) ((aK C nt a).run ih d rd t df g)⟩
 | .cond c a b=>match aP C c with
  | some q=>⟨λih d rd t df g=>match q.run t with
   |.bool v=>ak v ((aK C nt a).run ih d rd t df g) ((aK C nt b).run ih d rd t df g)
   |_=>.fail⟩
  |none=>CK
 |.block id body=>⟨λih d rd t df g=>vq id ((aK C nt body).run ih d rd t df g)⟩
 |.loop body=>⟨λih d rd t df g=>Cc (λt df g=>ih.code nt d rd (.loop body) t df g) ((aK C nt body).run ih d rd t df g)⟩
 |.scope body=>aK C nt body
 |.exit id=>⟨λ_ _ _ t df g=>.ok (.exit id) t df g⟩
 |.ret=>⟨λ_ _ _ t df g=>.ok .ret t df g⟩
 | .rangeFunc f ps assign body=>match aP C f with
  |some a=>⟨nM C nt a.run ps.toList assign body⟩
  |none=>CK
 |_=>CK
def L1(C:Cfg)(ih:IH)(nt d:Nat)(rd:Option Nat)(c:Code)(t:T)(df:List ADf)(g:G):CR :=
 (aK C nt c).run ih d rd t df g
def fN(ih:IH)(d:Nat):List ADf->G->Option G
 |[],g=>some g
 | .mark id::ds,g=>match g.get id with
  |.dfr true=>fN ih d ds (g.put id (.dfr false))
  |_=>none
 | .call (.clo f first cap) args::ds,g=>match ih.call d f (first++(args++cap)) g with
  |.ok _ g'=>fN ih d ds g'
  |.fail=>none
 |.call _ _::_,_=>none
def nT(C:Cfg):List ResultVar->Option (Stg (T->G->Option (List AV)))
 |[]=>some ⟨λ_ _=>some []⟩
 | .tmp n::rs=>match nT C rs with
  |some k=>some ⟨λt g=>match k.run t g with|some vs=>some ((gp AV.undef n).run t::vs)|none=>none⟩
  |none=>none
 | .cell a ty::rs=>match nT C rs,cm C (.load ty (.tmp a)) with
  | some k,some l=>some ⟨λt g=>match l.run t g with
   |.val v=>(match k.run t g with|some vs=>some (v::vs)|none=>none)
   |_=>none⟩
  |_,_=>none
def ba:Nat->List AV->T->T
 |_,[],t=>t
 |i,v::vs,t=>ba (i+1) vs ((sp AV.undef i).run t v)
def jv:List AV->AV
 |[v]=>v
 |vs=>.tup vs
def bN(ih:IH)(d:Nat)(res:T->G->Option (List AV))(t:T)(df:List ADf)(g:G):FR :=
 match fN ih d df g with
 |none=>.fail
 | some g'=>match res t g' with
  |some vs=>.ok (jv vs) g'
  |none=>.fail
def cFn(C:Cfg)(f:Nat):Option (Stg (IH->Nat->List AV->G->FR)) :=
 match C.P.funcs[f]? with
 |none=>none
 | some fn=>match fn.body with
  |none=>none
  | some c=>match nT C fn.results.toList with
   | some r => ak (fn.name == "runtime.NumGoroutine") none
    (some ⟨λih d args g=>ak (Nat.ble (bi args) fn.ntmps)
     (match (aK C fn.ntmps c).run ih d none (ba 0 args .nil) [] g with
      |.ok (.exit _) _ _ _=>.fail
      |.ok _ t df g'=>bN ih d r.run t df g'
      |.fail=>.fail) .fail⟩)
   |none=>none
def ff(C:Cfg)(ih:IH)(d f:Nat)(args:List AV)(g:G):FR :=
 match cFn C f with
 |some x=>x.run ih d args g
 |none=>.fail
def IH.zero:IH:=⟨λ_ _ _ _ _ _ _=>.fail,λ_ _ _ _=>.fail⟩
def H_(C:Cfg)(ih:IH):IH:=⟨L1 C ih,ff C ih⟩
def sem(C:Cfg)(n:Nat):IH:=@Nat.rec (λ_=>IH) IH.zero (λ_ ih=>H_ C ih) n
@[simp] theorem bif'_true {α:Type} (x y:α):ak true x y=x:=rfl
@[simp] theorem bif'_false {α:Type} (x y:α):ak false x y=y:=rfl
theorem aa{α:Type}(b:Bool)(x y:α):ak b x y=if b=true then x else y:=by cases b<;>rfl
@[simp] theorem notb_eq (b:Bool):ju b = !b:=by cases b<;>rfl
theorem dO{α:Type}(n:Nat):∀l:List α,xV n l=l[n]?:=by
 induction n with
 |zero=>intro l;cases l<;>rfl
 | succ n ih=>intro l;cases l with
  |nil=>rfl
  |cons a t=>simp only[WP];exact ih t
theorem il{α:Type}(n:Nat)(x:α):∀l:List α,Ce n x l=l.set n x:=by
 induction n with
 |zero=>intro l;cases l<;>rfl
 | succ n ih=>intro l;cases l with
  |nil=>rfl
  |cons a t=>simp only[Xi];exact congrArg (a::·) (ih t)
theorem aq{α:Type}(l:List α):bi l=l.length:=by
 induction l with
 |nil=>rfl
 |cons a t ih=>exact congrArg Nat.succ ih
theorem bh{α:Type}(n:Nat):∀l:List α,iA n l=l.drop n:=by
 induction n with
 |zero=>intro l;rfl
 | succ n ih=>intro l;cases l with
  |nil=>rfl
  |cons a t=>simp only[W_];exact ih t
theorem bk{α:Type}(n:Nat):∀l:List α,jB n l=l.take n:=by
 induction n with
 |zero=>intro l;rfl
 | succ n ih=>intro l;cases l with
  |nil=>rfl
  |cons a t=>simp only[Xb];exact congrArg (a::·) (ih t)
section tr
variable {α:Type}(e:α)
theorem O7:∀(f n:Nat) (t:Tr α),n<f->(gpF e f n).run t=t.get e n:=by
 intro f
 induction f with
 |zero=>intro n t h;omega
 | succ f ih =>
  intro n t h;cases n with
  |zero=>cases t<;>rfl
  | succ m =>
   have hm:m / 2<f:=by omega
   simp only[gpF];cases hb:Nat.beq (m % 2) 0
   ·cases t with
    |nil=>rfl
    |node v l r=>simp only[Tr.get,hb];exact ih _ _ hm
   ·cases t with
    |nil=>rfl
    |node v l r=>simp only[Tr.get,hb];exact ih _ _ hm
@[simp] theorem gp_run (n:Nat) (t:Tr α):(gp e n).run t=t.get e n:=O7 e (n+1) n t (by omega)
theorem SJ(n:Nat):(Tr.nil:Tr α).get e n=e:=by cases n<;>rfl
theorem P3:∀(f n:Nat) (t:Tr α) (x:α) (k:Nat),n<f->((spF e f n).run t x).get e k=if k=n then x else t.get e k:=by
 intro f
 induction f with
 |zero=>intro n t x k h;omega
 | succ f ih =>
  intro n t x k h;cases n with
  | zero=>cases t with
   | nil=>cases k with
    |zero=>rfl
    |succ k=>simp only[spF,Tr.get];cases Nat.beq (k % 2) 0<;>simp
   |node v l r=>cases k<;>simp[spF,Tr.get]
  | succ m =>
   have hm:m / 2<f:=by omega
   simp only[spF];cases hb:Nat.beq (m % 2) 0
   ·have b:m % 2=1:=by have:=Wt hb;omega
    cases t with
    | nil =>
     try simp only[bif'_false]
     cases k with
     |zero=>simp[Tr.get]
     | succ k =>
      simp only[Tr.get];cases hk:Nat.beq (k % 2) 0
      ·try simp only[bif'_false]
       rw[ih _ _ _ _ hm,SJ];have a:k % 2=1:=by have:=Wt hk;omega
       by_cases h2:k=m
       ·subst h2;simp
       ·rw[Um (by omega),Um (by omega)]
      ·have a:k % 2=0:=Vj hk
       try simp only[bif'_true]
       rw[Um (by omega)]
    | node v l r =>
     try simp only[bif'_false]
     cases k with
     |zero=>simp[Tr.get]
     | succ k =>
      simp only[Tr.get];cases hk:Nat.beq (k % 2) 0
      ·try simp only[bif'_false]
       rw[ih _ _ _ _ hm];have a:k % 2=1:=by have:=Wt hk;omega
       by_cases h2:k=m
       ·subst h2;simp
       ·rw[Um (by omega),Um (by omega)]
      ·have a:k % 2=0:=Vj hk
       try simp only[bif'_true]
       rw[Um (by omega)]
   ·have b:m % 2=0:=Vj hb;cases t with
    | nil =>
     try simp only[bif'_true]
     cases k with
     |zero=>simp[Tr.get]
     | succ k =>
      simp only[Tr.get];cases hk:Nat.beq (k % 2) 0
      ·have a:k % 2=1:=by have:=Wt hk;omega
       try simp only[bif'_false]
       rw[Um (by omega)]
      ·try simp only[bif'_true]
       rw[ih _ _ _ _ hm,SJ];have a:k % 2=0:=Vj hk
       by_cases h2:k=m
       ·subst h2;simp
       ·rw[Um (by omega),Um (by omega)]
    | node v l r =>
     try simp only[bif'_true]
     cases k with
     |zero=>simp[Tr.get]
     | succ k =>
      simp only[Tr.get];cases hk:Nat.beq (k % 2) 0
      ·have a:k % 2=1:=by have:=Wt hk;omega
       try simp only[bif'_false]
       rw[Um (by omega)]
      ·try simp only[bif'_true]
       rw[ih _ _ _ _ hm];have a:k % 2=0:=Vj hk
       by_cases h2:k=m
       ·subst h2;simp
       ·rw[Um (by omega),Um (by omega)]
@[simp] theorem sp_get (n:Nat) (t:Tr α) (x:α) (k:Nat):((sp e n).run t x).get e k=if k=n then x else t.get e k :=
 P3 e (n+1) n t x k (by omega)
end tr
theorem SD(h:H)(i:Nat)(o:AObj)(k:Nat):(h.put i o).get k=if k=i then o else h.get k:=by simp[H.get,H.put]
@[simp] theorem G.get_eq (g:G) (i:Nat):g.get i=g.h.get i:=rfl
@[simp] theorem G.put_h (g:G) (i:Nat) (o:AObj):(g.put i o).h=g.h.put i o:=by cases g;rfl
@[simp] theorem G.put_nx (g:G) (i:Nat) (o:AObj):(g.put i o).nx=g.nx:=by cases g;rfl
@[simp] theorem G.put_lg (g:G) (i:Nat) (o:AObj):(g.put i o).lg=i::g.lg:=by cases g;rfl
@[simp] theorem G.new_h (g:G) (o:AObj):(g.new o).h=g.h.put g.nx o:=by cases g;rfl
@[simp] theorem G.new_nx (g:G) (o:AObj):(g.new o).nx=g.nx+1:=by cases g;rfl
@[simp] theorem G.new_lg (g:G) (o:AObj):(g.new o).lg=g.nx::g.lg:=by cases g;rfl
@[simp] theorem bumpG_h (g:G) (l:List Nat):(od g l).h=g.h:=by cases g;rfl
@[simp] theorem bumpG_nx (g:G) (l:List Nat):(od g l).nx=g.nx+1:=by cases g;rfl
@[simp] theorem bumpG_lg (g:G) (l:List Nat):(od g l).lg=l:=by cases g;rfl
@[simp] theorem setLog_h (g:G) (l:List Nat):(aR g l).h=g.h:=by cases g;rfl
@[simp] theorem setLog_nx (g:G) (l:List Nat):(aR g l).nx=g.nx:=by cases g;rfl
@[simp] theorem setLog_lg (g:G) (l:List Nat):(aR g l).lg=l:=by cases g;rfl
theorem nR(m:Nat)(h:m<9223372036854775808):IntKind.wrap .i64 (Int.ofNat m)=Int.ofNat m:=by have e:(Int.ofNat m) % (2 ^ 64:Int)=Int.ofNat m:=Int.emod_eq_of_lt (Wz m) (by simp only[Vw];omega);unfold IntKind.wrap;simp only[IntKind.bits,IntKind.signed,e,Vd,UD];rw[Um (by simp only[Vw];omega)]
theorem xq(z:Int)(h:-9223372036854775808<=z)(h0:z<0):IntKind.wrap .i64 z=z:=by
 have e:z % (2 ^ 64:Int)=z+2 ^ 64:=by rw[<-Int.add_emod_right,Int.emod_eq_of_lt]<;>omega
 unfold IntKind.wrap;simp only[IntKind.bits,IntKind.signed,e,Vd,UD]
 split<;>omega
theorem yj(m:Nat)(h:m<9223372036854775808):IntKind.wrap .i64 (Int.negSucc m)=Int.negSucc m:=by have h1:=Int.negSucc_eq m;generalize Int.negSucc m=z at *;exact xq z (by omega) (by omega)
theorem ig(k:IntKind)(n:Int):t_ k n=k.wrap n:=by
 unfold t_
 split
 ·rename_i m;rw[aa];split
  ·rename_i h;rw[U_]at h;exact (nR m h).symm
  ·rfl
 ·rename_i m;rw[aa];split
  ·rename_i h;rw[U_]at h;exact (yj m h).symm
  ·rfl
 ·simp only[IntKind.wrap,IntKind.bits,IntKind.signed];rfl
 ·simp only[IntKind.wrap,IntKind.bits,IntKind.signed];rfl
 ·rfl
theorem mE(a b:Int):yZ a b=decide (a<b):=by rw[U7,decide_eq_true_iff];cases a<;>cases b<;>simp only[yZ,U_,Int.negSucc_eq,Vw,VF,false_iff,true_iff]<;>omega
theorem kV(a b:Int):AG a b=decide (a=b):=by
 rw[U7,decide_eq_true_iff];cases a<;>cases b<;>simp only[AG,Int.negSucc_eq,Vw,VF,false_iff]
 ·rw[Xo];omega
 ·omega
 ·omega
 ·rw[Xo];omega
theorem mQ(a b:IntKind):cZ a b=decide (a=b):=by cases a<;>cases b<;>rfl
section
variable {x:AV}
structure Gh where
 kind:Nat
 ep:Nat
 sz:Nat
 n:Nat
 blk:Nat
 base:Nat
 slack:Nat
 wr:Bool
abbrev Gm:=Nat->Gh
def Mut(γ:Gm)(b:Nat):Prop:=∃id,(γ id).kind≠0/\(γ id).wr=true/\(γ id).blk=b
def adr(b o:Nat):Addr:=⟨b,o,none⟩
def iV(lim:Option Nat)(off cap:Nat)(g:Gh):Prop :=
 match lim with
 |some c=>cap=c/\off+c<=g.n
 |none=>off+cap=g.n+g.slack
inductive Closed:AV->Prop
 |bool (b:Bool):Closed (.bool b)
 |int (k:IntKind) (n:Int):Closed (.int k n)
 |str (s:ByteArray):Closed (.str s)
 |tup (xs:List AV) (h:∀x∈xs,Closed x):Closed (.tup xs)
 |agg (xs:List AV) (h:∀x∈xs,Closed x):Closed (.agg xs)
 |nilp:Closed .nilp
 |nils:Closed .nils
 |nilf:Closed .nilf
 |nilm:Closed .nilm
 |nili:Closed .nili
 |esl:Closed .esl
 |tsl (tag sz:Nat) (rows:List (List AV)) (h:∀row∈rows,∀x∈row,Closed x):Closed (.tsl tag sz rows)
 |tptr (tag sz:Nat) (rows:List (List AV)) (i off:Nat) (h:∀row∈rows,∀x∈row,Closed x):Closed (.tptr tag sz rows i off)
 |clo (f:Nat) (xs ys:List AV) (h:∀x∈xs,Closed x) (h2:∀x∈ys,Closed x):Closed (.clo f xs ys)
 |ifc (t:Nat) (x:AV) (h:Closed x):Closed (.ifc t x)
inductive RV (w:World) (γ:Gm) (A:Nat->Nat->Prop):Nat->AV->Value->Prop
 |bool (bd:Nat) (b:Bool):RV w γ A bd (.bool b) (.bool b)
 |int (bd:Nat) (k:IntKind) (n:Int):RV w γ A bd (.int k n) (.int k n)
 |str (bd:Nat) (s:ByteArray):RV w γ A bd (.str s) (.string s)
 | tup (bd:Nat) (xs:List AV) (vs:Array Value) (hl:xs.length=vs.size)
   (h:∀(i:Nat) x v,xs[i]?=some x->vs[i]?=some v->RV w γ A bd x v):RV w γ A bd (.tup xs) (.tuple vs)
 | agg (bd:Nat) (xs:List AV) (vs:Array Value) (hl:xs.length=vs.size) (h1:∀(i:Nat) x,xs[i]?=some x->x.one=true)
   (h:∀(i:Nat) x v,xs[i]?=some x->vs[i]?=some v->RV w γ A bd x v):RV w γ A bd (.agg xs) (.agg vs)
 |nilp (bd:Nat):RV w γ A bd .nilp (.pointer none)
 |nils (bd:Nat):RV w γ A bd .nils (.slice none 0 0)
 |nilf (bd:Nat):RV w γ A bd .nilf .nilFunc
 |nilm (bd:Nat):RV w γ A bd .nilm (.map none)
 |nili (bd:Nat):RV w γ A bd .nili .nilIface
 |esl (bd:Nat) (a:Addr):RV w γ A bd .esl (.slice (some a) 0 0)
 | tsl (bd tag sz:Nat) (rows:List (List AV)) (b o cap:Nat) (cell:Nat->Nat->Value) (ht:tag<=bd) (hc:rows.length<=cap)
   (hb:b<w.heap.size) (hm:¬Mut γ b) (ha:¬A tag b)
   (hr:∀(i:Nat) row,rows[i]?=some row->row.length=sz)
   (ho:∀(i j:Nat) row x,rows[i]?=some row->row[j]?=some x->x.one=true)
   (hw:∀(i j:Nat) row x,rows[i]?=some row->row[j]?=some x->w.cell? (adr b (o+i*sz+j))=some (cell i j))
   (h:∀(i j:Nat) row x,rows[i]?=some row->row[j]?=some x->RV w γ A tag x (cell i j))
   (hcl:∀row∈rows,∀x∈row,Closed x) :
   RV w γ A bd (.tsl tag sz rows) (.slice (some (adr b o)) rows.length cap)
 |tnil (bd tag sz:Nat) (a:Addr) (cap:Nat) (ht:tag<=bd):RV w γ A bd (.tsl tag sz []) (.slice (some a) 0 cap)
 | tptr (bd tag sz:Nat) (rows:List (List AV)) (i0 off0 b o:Nat) (cell:Nat->Nat->Value) (ht:tag<=bd)
   (hb:b<w.heap.size) (hm:¬Mut γ b) (ha:¬A tag b)
   (hr:∀(i:Nat) row,rows[i]?=some row->row.length=sz)
   (ho:∀(i j:Nat) row x,rows[i]?=some row->row[j]?=some x->x.one=true)
   (hw:∀(i j:Nat) row x,rows[i]?=some row->row[j]?=some x->w.cell? (adr b (o+i*sz+j))=some (cell i j))
   (h:∀(i j:Nat) row x,rows[i]?=some row->row[j]?=some x->RV w γ A tag x (cell i j))
   (hcl:∀row∈rows,∀x∈row,Closed x) :
   RV w γ A bd (.tptr tag sz rows i0 off0) (.pointer (some (adr b (o+i0*sz+off0))))
 | hsl (bd id ep off len:Nat) (lim:Option Nat) (b o cap:Nat) (hk:(γ id).kind=1) (he:ep<=(γ id).ep) (hc:len<=cap)
   (h:ep=(γ id).ep->b=(γ id).blk/\o=(γ id).base+off*(γ id).sz/\iV lim off cap (γ id)) :
   RV w γ A bd (.hsl id ep off len lim) (.slice (some (adr b o)) len cap)
 | hptr (bd id ep i off:Nat) (b o:Nat) (hk:(γ id).kind=1) (he:ep<=(γ id).ep)
   (h:ep=(γ id).ep->b=(γ id).blk/\o=(γ id).base+i*(γ id).sz+off) :
   RV w γ A bd (.hptr id ep i off) (.pointer (some (adr b o)))
 | clo (bd f:Nat) (xs ys:List AV) (vs us:Array Value) (hl:xs.length=vs.size) (hl2:ys.length=us.size)
   (h:∀(i:Nat) x v,xs[i]?=some x->vs[i]?=some v->RV w γ A bd x v)
   (h2:∀(i:Nat) x v,ys[i]?=some x->us[i]?=some v->RV w γ A bd x v):RV w γ A bd (.clo f xs ys) (.func (.func f) vs us)
 |hmap (bd id b:Nat) (hk:(γ id).kind=2) (hb:b=(γ id).blk):RV w γ A bd (.hmap id) (.map (some b))
 |ifc (bd t:Nat) (x:AV) (v:Value) (h:RV w γ A bd x v):RV w γ A bd (.ifc t x) (.iface t v)
 |yld (bd id b:Nat) (hk:(γ id).kind=3) (hb:b=(γ id).blk):RV w γ A bd (.yld id) (.func (.yield b) #[] #[])
def RVs(w:World)(γ:Gm)(A:Nat->Nat->Prop)(bd:Nat)(xs:List AV)(vs:List Value):Prop :=
 xs.length=vs.length/\∀(i:Nat) x v,xs[i]?=some x->vs[i]?=some v->RV w γ A bd x v
theorem RV.mono{γ:Gm}{A:Nat->Nat->Prop}{bd':Nat}(h:RV w γ A bd x v)(hb:bd<=bd') :
  RV w γ A bd' x v:=by
 induction h generalizing bd' with
 |bool=>exact .bool _ _
 |int=>exact .int _ _ _
 |str=>exact .str _ _
 |tup _ xs vs hl _ ih=>exact .tup _ _ _ hl λi x v h1 h2=>ih i x v h1 h2 hb
 |agg _ xs vs hl h1 _ ih=>exact .agg _ _ _ hl h1 λi x v h1 h2=>ih i x v h1 h2 hb
 |nilp=>exact .nilp _
 |nils=>exact .nils _
 |nilf=>exact .nilf _
 |nilm=>exact .nilm _
 |nili=>exact .nili _
 |esl=>exact .esl _ _
 |tsl _ tag sz rows b o cap cell ht hc hb' hm ha hr ho hw h hcl _=>exact .tsl _ tag sz rows b o cap cell (Uy ht hb) hc hb' hm ha hr ho hw h hcl
 |tnil _ tag sz a cap ht=>exact .tnil _ tag sz a cap (Uy ht hb)
 |tptr _ tag sz rows i0 off0 b o cell ht hb' hm ha hr ho hw h hcl _=>exact .tptr _ tag sz rows i0 off0 b o cell (Uy ht hb) hb' hm ha hr ho hw h hcl
 |hsl _ id ep off len lim b o cap hk he hc h=>exact .hsl _ id ep off len lim b o cap hk he hc h
 |hptr _ id ep i off b o hk he h=>exact .hptr _ id ep i off b o hk he h
 |clo _ f xs ys vs us hl hl2 _ _ ih ih2=>exact .clo _ f xs ys vs us hl hl2 (λi x v h1 h2=>ih i x v h1 h2 hb) (λi x v h1 h2=>ih2 i x v h1 h2 hb)
 |hmap _ id b hk hb'=>exact .hmap _ id b hk hb'
 |ifc _ t x v _ ih=>exact .ifc _ t x v (ih hb)
 |yld _ id b hk hb'=>exact .yld _ id b hk hb'
structure Stp (w:World) (γ:Gm) (w':World) (γ':Gm):Prop where
 sz:w.heap.size<=w'.heap.size
 os:w'.os=w.os
 tape:w'.tape=w.tape
 output:w'.output=w.output
 fr:∀b,b<w.heap.size->¬Mut γ b->w'.heap[b]?=w.heap[b]?
 mt:∀b,b<w.heap.size->Mut γ' b->Mut γ b
 kind:∀id,(γ id).kind≠0->(γ' id).kind=(γ id).kind/\(γ' id).blk=(γ id).blk\/(γ id).kind=1/\(γ' id).kind=1/\(γ id).ep<(γ' id).ep
 ep:∀id,(γ id).kind=1->(γ id).ep<=(γ' id).ep /\
  ((γ' id).ep=(γ id).ep->(γ' id).sz=(γ id).sz/\(γ' id).n=(γ id).n/\(γ' id).blk=(γ id).blk/\(γ' id).base=(γ id).base/\(γ' id).slack=(γ id).slack)
 dr:w.drawn<=w'.drawn
theorem Stp.refl(w:World)(γ:Gm):Stp w γ w γ :=
 ⟨Ui _,rfl,rfl,rfl,λ_ _ _=>rfl,λ_ _ h=>h,λ_ _=>.inl ⟨rfl,rfl⟩,λ_ _=>⟨Ui _,λ_=>⟨rfl,rfl,rfl,rfl,rfl⟩⟩,Ui _⟩
theorem Stp.kind_eq{γ γ':Gm}(h:Stp w γ w' γ'){id:Nat}(hk:(γ id).kind≠0):(γ' id).kind=(γ id).kind:=by
 rcases h.kind id hk with h1|h1
 ·exact h1.1
 ·rw[h1.1,h1.2.1]
theorem Stp.blk_eq{γ γ':Gm}(h:Stp w γ w' γ'){id:Nat}(hk:(γ id).kind≠0)(h1:(γ id).kind≠1):(γ' id).blk=(γ id).blk:=by
 rcases h.kind id hk with h2|h2
 ·exact h2.2
 ·exact absurd h2.1 h1
theorem Stp.trans{w w' w'':World}{γ γ' γ'':Gm}(h:Stp w γ w' γ')(h':Stp w' γ' w'' γ''):Stp w γ w'' γ'' where
 sz:=Uy h.sz h'.sz
 os:=h'.os.trans h.os
 tape:=h'.tape.trans h.tape
 output:=h'.output.trans h.output
 fr b hb hm:=by rw[h'.fr b (UI hb h.sz) (λk=>hm (h.mt b hb k)),h.fr b hb hm]
 mt b hb k:=h.mt b hb (h'.mt b (UI hb h.sz) k)
 kind id hk:=by
  have h1:=h.kind_eq hk;have d:(γ' id).kind≠0:=by rw[h1];exact hk
  rcases h.kind id hk with a|a
  ·rcases h'.kind id d with c|c
   ·exact .inl ⟨c.1.trans a.1,c.2.trans a.2⟩
   ·refine .inr ⟨by rw[<-a.1];exact c.1,c.2.1,Wm (h.ep id (by rw[<-a.1];exact c.1)).1 c.2.2⟩
  ·exact .inr ⟨a.1,by rw[h'.kind_eq d,a.2.1],UI a.2.2 (h'.ep id a.2.1).1⟩
 ep id hk:=by
  have h1:=h.ep id hk;have d:(γ' id).kind=1:=by rw[h.kind_eq (by rw[hk];decide),hk]
  have h2:=h'.ep id d;refine⟨Uy h1.1 h2.1,λhe=>?_⟩;have e1:(γ' id).ep=(γ id).ep:=Xf (by rw[<-he];exact h2.1) h1.1;have m:(γ'' id).ep=(γ' id).ep:=by rw[he,e1]
  obtain⟨a1,a2,e,a4,f⟩:=h1.2 e1;obtain⟨b1,b2,i,j,l⟩:=h2.2 m;exact⟨b1.trans a1,b2.trans a2,i.trans e,j.trans a4,l.trans f⟩
 dr:=Uy h.dr h'.dr
theorem zc{a:Addr}(h:w'.heap[a.block]?=w.heap[a.block]?):w'.cell? a=w.cell? a:=by simp only[World.cell?,h]
theorem HC{a:Addr}(h:w.cell? a=some v):a.block<w.heap.size:=by
 simp only[World.cell?]at h;rcases VI a.block w.heap.size with hl|hl
 ·exact hl
 ·rw[Vl hl]at h;simp at h
theorem RV.step{γ γ':Gm}{A:Nat->Nat->Prop}(h:RV w γ A bd x v)(s:Stp w γ w' γ') :
  RV w' γ' A bd x v:=by
 induction h with
 |bool=>exact .bool _ _
 |int=>exact .int _ _ _
 |str=>exact .str _ _
 |tup _ xs vs hl _ ih=>exact .tup _ _ _ hl ih
 |agg _ xs vs hl h1 _ ih=>exact .agg _ _ _ hl h1 ih
 |nilp=>exact .nilp _
 |nils=>exact .nils _
 |nilf=>exact .nilf _
 |nilm=>exact .nilm _
 |nili=>exact .nili _
 |esl=>exact .esl _ _
 | tsl _ tag sz rows b o cap cell ht hc hb hm ha hr ho hw _ hcl ih =>
  refine .tsl _ tag sz rows b o cap cell ht hc (UI hb s.sz) (λk=>hm (s.mt b hb k)) ha hr ho (λi j row x h1 h2=>?_) ih hcl;rw[zc (a:=adr b _) (s.fr b hb hm)];exact hw i j row x h1 h2
 |tnil _ tag sz a cap ht=>exact .tnil _ tag sz a cap ht
 | tptr _ tag sz rows i0 off0 b o cell ht hb hm ha hr ho hw _ hcl ih =>
  refine .tptr _ tag sz rows i0 off0 b o cell ht (UI hb s.sz) (λk=>hm (s.mt b hb k)) ha hr ho (λi j row x h1 h2=>?_) ih hcl;rw[zc (a:=adr b _) (s.fr b hb hm)];exact hw i j row x h1 h2
 | hsl _ id ep off len lim b o cap hk he hc h =>
  have e:=s.ep id hk;refine .hsl _ id ep off len lim b o cap (by rw[s.kind_eq (by rw[hk];decide),hk]) (Uy he e.1) hc λh'=>?_;have e1:(γ' id).ep=(γ id).ep:=Xf (by rw[<-h'];exact he) e.1;obtain⟨a1,a2,c,a4,l⟩:=e.2 e1;obtain⟨c1,d,m⟩:=h (h'.trans e1);refine⟨by rw[c];exact c1,by rw[a1,a4];exact d,?_⟩;unfold iV at *;cases lim<;>simp only[a2,l]at *<;>exact m
 | hptr _ id ep i off b o hk he h =>
  have e:=s.ep id hk;refine .hptr _ id ep i off b o (by rw[s.kind_eq (by rw[hk];decide),hk]) (Uy he e.1) λh'=>?_;have e1:(γ' id).ep=(γ id).ep:=Xf (by rw[<-h'];exact he) e.1;obtain⟨a1,a2,c,a4,l⟩:=e.2 e1;obtain⟨c1,d⟩:=h (h'.trans e1);exact⟨by rw[c];exact c1,by rw[a1,a4];exact d⟩
 |clo _ f xs ys vs us hl hl2 _ _ ih ih2=>exact .clo _ f xs ys vs us hl hl2 ih ih2
 | hmap _ id b hk hb =>
  exact .hmap _ id b (by rw[s.kind_eq (by rw[hk];decide),hk]) (by rw[s.blk_eq (by rw[hk];decide) (by rw[hk];decide)];exact hb)
 |ifc _ t x v _ ih=>exact .ifc _ t x v ih
 | yld _ id b hk hb =>
  exact .yld _ id b (by rw[s.kind_eq (by rw[hk];decide),hk]) (by rw[s.blk_eq (by rw[hk];decide) (by rw[hk];decide)];exact hb)
theorem RV.heap{γ:Gm}{A:Nat->Nat->Prop}(h:RV w γ A bd x v)(hh:w'.heap=w.heap):RV w' γ A bd x v:=by
 have hc:∀a,w'.cell? a=w.cell? a:=λa=>zc (by rw[hh])
 induction h with
 |bool=>exact .bool _ _
 |int=>exact .int _ _ _
 |str=>exact .str _ _
 |tup _ xs vs hl _ ih=>exact .tup _ _ _ hl ih
 |agg _ xs vs hl h1 _ ih=>exact .agg _ _ _ hl h1 ih
 |nilp=>exact .nilp _
 |nils=>exact .nils _
 |nilf=>exact .nilf _
 |nilm=>exact .nilm _
 |nili=>exact .nili _
 |esl=>exact .esl _ _
 |tsl _ tag sz rows b o cap cell ht hc' hb hm ha hr ho hw _ hcl ih=>exact .tsl _ tag sz rows b o cap cell ht hc' (by rw[hh];exact hb) hm ha hr ho (λi j row x h1 h2=>by rw[hc];exact hw i j row x h1 h2) ih hcl
 |tnil _ tag sz a cap ht=>exact .tnil _ tag sz a cap ht
 |tptr _ tag sz rows i0 off0 b o cell ht hb hm ha hr ho hw _ hcl ih=>exact .tptr _ tag sz rows i0 off0 b o cell ht (by rw[hh];exact hb) hm ha hr ho (λi j row x h1 h2=>by rw[hc];exact hw i j row x h1 h2) ih hcl
 |hsl _ id ep off len lim b o cap hk he hc' h=>exact .hsl _ id ep off len lim b o cap hk he hc' h
 |hptr _ id ep i off b o hk he h=>exact .hptr _ id ep i off b o hk he h
 |clo _ f xs ys vs us hl hl2 _ _ ih ih2=>exact .clo _ f xs ys vs us hl hl2 ih ih2
 |hmap _ id b hk hb=>exact .hmap _ id b hk hb
 |ifc _ t x v _ ih=>exact .ifc _ t x v ih
 |yld _ id b hk hb=>exact .yld _ id b hk hb
theorem RVs.step{w w':World}{γ γ':Gm}{A:Nat->Nat->Prop}{bd:Nat}{xs:List AV}{vs:List Value}(h:RVs w γ A bd xs vs)(s:Stp w γ w' γ') :
  RVs w' γ' A bd xs vs:=⟨h.1,λi x v h1 h2=>(h.2 i x v h1 h2).step s⟩
def ObjRel(w:World)(γ:Gm)(A:Nat->Nat->Prop)(bd:Nat)(id:Nat):AObj->Prop
 |.none=>(γ id).kind=0
 | .cells sz rows ep loose fz=>(γ id).kind=1/\(γ id).ep=ep/\(γ id).sz=sz/\(γ id).n=rows.length/\((loose=false->(γ id).slack=0)/\(loose=true->rows.length+(γ id).slack<=9223372036854775807))/\(γ id).wr = !fz /\
   ∃(c:Array Value) (elem:TypeId),w.heap[(γ id).blk]?=some (.cells c elem (0,0))/\(γ id).base+(rows.length+(γ id).slack)*sz<=c.size /\
    (∀(i:Nat) row,rows[i]?=some row->row.length=sz) /\
    (∀(i j:Nat) row x,rows[i]?=some row->row[j]?=some x->x.one=true/\∃v,c[(γ id).base+i*sz+j]?=some v/\RV w γ A bd x v)
 | .map es=>(γ id).kind=2/\(γ id).wr=true /\
   ∃esC:Array MapEntry,w.heap[(γ id).blk]?=some (.map esC esC.size)/\es.length=esC.size /\
    (∀(i:Nat) k x e,es[i]?=some (k,x)->esC[i]?=some e->e.born=i/\RV w γ A bd k e.key/\RV w γ A bd x e.val)
 | .loop nt t ps assign body dfr st pend=>(γ id).kind=3/\(γ id).wr=true /\
   ∃L:Loop,w.heap[(γ id).blk]?=some (.loop L)/\L.state=st/\L.pending=pend/\L.params.toList=ps/\L.assign=assign/\L.body=body/\L.tmps.size=nt /\
    (∀i,RV w γ A bd (t.get AV.undef i) (L.tmps.getD i undef))/\(γ dfr).kind=4/\L.defers=(γ dfr).blk
 |.dfr live=>(γ id).kind=4/\(γ id).wr=true/\w.heap[(γ id).blk]?=some (.deferred (if live then some [] else none))
structure Rel (C:Cfg) (A:Nat->Nat->Prop) (bd:Nat) (w:World) (γ:Gm) (hg:Nat->AObj) (nx:Nat):Prop where
 obj:∀id,ObjRel w γ A bd id (hg id)
 lt:∀id,(γ id).kind≠0->id<nx/\(γ id).blk<w.heap.size
 inj:∀i j,(γ i).kind≠0->(γ j).kind≠0->(γ i).blk=(γ j).blk->i=j
 av:∀id,(γ id).kind≠0->∀t,¬A t (γ id).blk
 ab:∀t b,A t b->b<w.heap.size
 glob:∀g sz rows,C.glob g=some (sz,rows)->RV w γ A bd (.tptr 0 sz rows 0 0) (.pointer (some ⟨g,0,none⟩))
end
section
variable {γ:Gm}
section
variable {P:Program}{w:World}
theorem gn(b o n:Nat):(adr b o).add n=adr b (o+n):=by
 unfold Addr.add adr;split
 ·rename_i h;subst h;rfl
 ·rfl
theorem lI{i:TypeInfo}(h:P.info? t=some i):(typeInfo t).run P w=.ok i w:=by simp[typeInfo,h]
theorem aZ(h:szT P t=some n):(Go.sizeOf t).run P w=.ok n w:=by
 unfold szT at h;cases hi:P.info? t with
 |none=>rw[hi]at h;cases h
 |some i=>rw[hi]at h;simp at h;simp[Go.sizeOf,lI hi,h]
theorem aC{d:TypeDesc}(h:P.underlying t=some d):(underlying t).run P w=.ok d w:=by simp[underlying,h]
theorem mU{b:Bool}(h:rY P t=some b):(isAgg t).run P w=.ok b w:=by
 unfold rY at h;cases hd:P.underlying t with
 |none=>rw[hd]at h;cases h
 |some d=>rw[hd]at h;cases d<;>simp at h<;>subst h<;>simp[isAgg,aC hd]
theorem wT{o:Nat}:∀(n i:Nat) (acc:Array Value) (cs:List Value),cs.length=n ->
  (∀(j:Nat) c,cs[j]?=some c->w.cell? (adr b (o+(i+j)))=some c) ->
  (loadCellsFrom (adr b o) i n acc).run P w=.ok (acc++cs.toArray) w:=by
 intro n
 induction n with
 |zero=>intro i acc cs hl _;have:cs=[]:=UJ hl;subst this;simp[loadCellsFrom]
 | succ n ih =>
  intro i acc cs hl h;cases cs with
  |nil=>cases hl
  | cons c cs =>
   have h0:=h 0 c rfl;simp only[VH]at h0;simp only[loadCellsFrom,Ut,run_load,gn,h0,Uq];rw[ih (i+1) (acc.push c) cs (by simpa using hl) (λj x hj=>by
    have:=h (j+1) x (by simpa using hj);rw[show i+1+j=i+(j+1) from by omega];exact this)]
   simp
theorem uZ{o:Nat}{cs:List Value}(h:∀(j:Nat) c,cs[j]?=some c->w.cell? (adr b (o+j))=some c) :
  (loadCells (adr b o) cs.length).run P w=.ok cs.toArray w:=by
 unfold loadCells;rw[wT cs.length 0 #[] cs rfl (λj c hj=>by simpa using h j c hj)];simp
def World.setBlk(w:World)(b:Nat)(o:Obj):World:={ w with heap:=w.heap.setIfInBounds b o }
def bj(c:Array Value)(o:Nat):List Value->Array Value
 |[]=>c
 |v::vs=>bj (c.setIfInBounds o v) (o+1) vs
theorem bU(vs:List Value):∀(c:Array Value) (o:Nat),(bj c o vs).size=c.size:=by
 induction vs with
 |nil=>intro c o;rfl
 |cons v vs ih=>intro c o;simp[bj,ih]
theorem cB(vs:List Value):∀(c:Array Value) (o k:Nat),o+vs.length<=c.size ->
  (bj c o vs)[k]?=if o<=k/\k<o+vs.length then vs[k - o]? else c[k]?:=by
 induction vs with
 |nil=>intro c o k _;simp[bj];intro h1 h2;omega
 | cons v vs ih =>
  intro c o k h;simp only[UX]at h;simp only[bj];rw[ih _ _ _ (by simp;omega)];simp only[UX]
  by_cases h1:k=o
  ·subst h1;rw[Um (by omega),Un ⟨Ui _,by omega⟩];simp[VJ];omega
  ·by_cases h2:o<=k/\k<o+(vs.length+1)
   ·rw[Un (by omega),Un h2,show k - o=(k - (o+1))+1 from by omega];rfl
   ·rw[Um (by omega),Um h2,VU (by omega)]
theorem aX(b:Nat)(o:Obj)(k:Nat):(World.setBlk w b o).heap[k]?=if k=b/\b<w.heap.size then some o else w.heap[k]?:=by
 simp only[World.setBlk,VJ]
 by_cases h:b=k
 ·subst h;simp;split
  ·rfl
  ·rename_i a;rw[Vl (by omega)]
 ·rw[Um h,Um (by omega)]
theorem px(b:Nat)(o o':Obj):World.setBlk (World.setBlk w b o) b o'=World.setBlk w b o':=by simp only[World.setBlk,Array.setIfInBounds_setIfInBounds]
@[simp] theorem setBlk_size (b:Nat) (o:Obj):(World.setBlk w b o).heap.size=w.heap.size:=by simp[World.setBlk]
theorem Bj{o:Nat}{f:Nat×Nat}(h:w.heap[b]?=some (.cells c e f)) :
  w.setCell (adr b o) v=World.setBlk w b (.cells (c.setIfInBounds o v) e f):=by
 have hb:b<w.heap.size:=by
  rcases VI b w.heap.size with hl|hl
  ·exact hl
  ·rw[Vl hl]at h;cases h
 have hx:w.heap[b]=.cells c e f:=by simpa [Uv hb] using h
 simp only[World.setCell,World.setBlk,adr];congr 1;apply Wx;intro k;rw[Wj,VJ]
 by_cases hk:b=k
 ·subst hk;simp[hb,hx]
 ·rw[Um hk,Um hk]
theorem mZ{o:Nat}{f:Nat×Nat}(h:w.heap[b]?=some (.cells c e f)):w.cell? (adr b o)=c[o]?:=by simp[World.cell?,adr,h]
theorem t8{o:Nat}:∀(vs:List Value) (i:Nat) (w:World) (c:Array Value),w.heap[b]?=some (.cells c e (0,0)) ->
  o+i+vs.length<=c.size->(∀v∈vs,v.oneCell'=true) ->
  (storeCells (adr b o) vs i).run P w=.ok () (World.setBlk w b (.cells (bj c (o+i) vs) e (0,0))):=by
 intro vs
 induction vs with
 | nil =>
  intro i w c h _ _;have hb:b<w.heap.size:=by
   rcases VI b w.heap.size with hl|hl
   ·exact hl
   ·rw[Vl hl]at h;cases h
  have:World.setBlk w b (.cells c e (0,0))=w:=by
   have hx:w.heap[b]=.cells c e (0,0):=by simpa [Uv hb] using h
   simp only[World.setBlk];congr 1;apply Wx;intro k;rw[VJ]
   split
   ·rename_i hk;subst hk;simp[hb,hx]
   ·rfl
  simp[storeCells,bj,this]
 | cons v vs ih =>
  intro i w c h hs h1;simp only[UX]at hs;have j:v.oneCell'=true:=h1 v (by simp);have a:w.cell? (adr b (o+i))=c[o+i]?:=mZ h;have f:o+i<c.size:=by omega
  have d:w.frozen? (adr b (o+i))=false:=by simp[World.frozen?,adr,h]
  simp only[storeCells,Ut,gn,run_store P w _ v _ j,a,Uv f,d];simp only[VF,if_false,Uq,Bj h];have hb:b<w.heap.size:=by
   rcases VI b w.heap.size with hl|hl
   ·exact hl
   ·rw[Vl hl]at h;cases h
  rw[ih (i+1) _ (c.setIfInBounds (o+i) v) (by rw[aX];simp[hb]) (by simp;omega) (λx hx=>h1 x (by simp[hx])),px]
  rfl
end
theorem HN{w:World}{A:Nat->Nat->Prop}{x:AV}(h:RV w γ A bd x v)(h1:x.one=true) :
  v.oneCell'=true/\v.cells=#[v]:=by
 cases h<;>first| (cases h1;done)|exact⟨rfl,rfl⟩
theorem pN{w:World}{A:Nat->Nat->Prop}{x:AV}(h:RV w γ A bd x v)(ht:x.isTup=false) :
  RVs w γ A bd x.cells v.cells.toList/\(∀(i:Nat) y,x.cells[i]?=some y->y.one=true):=by
 by_cases h1:x.one=true
 ·have hx:x.cells=[x]:=by cases x<;>first|rfl|cases h1
  obtain⟨_,a⟩:=HN h h1;rw[hx,a];refine⟨⟨rfl,λi y u hy hu=>?_⟩,λi y hy=>?_⟩
  ·cases i with
   |zero=>simp at hy hu;subst hy;subst hu;exact h
   |succ i=>simp at hy
  ·cases i with
   |zero=>simp at hy;subst hy;exact h1
   |succ i=>simp at hy
 ·cases h<;>first| (exact absurd rfl h1)| (cases ht;done)|skip
  rename_i xs vs hl k h';exact⟨⟨by simpa [AV.cells,Value.cells] using hl,λi y u hy hu=>h' i y u hy (by simpa [Value.cells] using hu)⟩,k⟩
theorem JF{w:World}{A:Nat->Nat->Prop}{xs:List AV}{vs:List Value}(h:RVs w γ A bd xs vs)
  (h1:∀(i:Nat) y,xs[i]?=some y->y.one=true):∀v∈vs,v.oneCell'=true:=by
 intro v k;obtain⟨i,hi⟩:=UG k;have hlt:i<xs.length:=by rw[h.1];exact (Uh.1 hi).1
 exact (HN (h.2 i _ v (Uj hlt) hi) (h1 i _ (Uj hlt))).1
end
def upd{α:Type}(f:Nat->α)(i:Nat)(x:α):Nat->α:=λk=>if k=i then x else f k
@[simp] theorem upd_same {α:Type} (f:Nat->α) (i:Nat) (x:α):upd f i x i=x:=by simp[upd]
theorem cJ{α:Type}(f:Nat->α){k:Nat}(x:α)(h:k≠i):upd f i x k=f k:=by simp[upd,h]
section
variable {C:Cfg}{A:Nat->Nat->Prop}{bd:Nat}{w w':World}{γ γ':Gm}{hg:Nat->AObj}{nx nx':Nat}
theorem ObjRel.step{j:Nat}{o:AObj}(h:ObjRel w γ A bd j o)(s:Stp w γ w' γ')(hj:γ' j=γ j)
  (hb:(γ j).kind≠0->o≠.none->w'.heap[(γ j).blk]?=w.heap[(γ j).blk]?):ObjRel w' γ' A bd j o:=by
 cases o with
 |none=>simpa only[ObjRel,hj] using h
 | cells sz rows ep loose fz =>
  obtain⟨h1,h2,l,h4,h5,n,c,e,h7,h8,h9,d⟩:=h;simp only[ObjRel,hj];refine⟨h1,h2,l,h4,h5,n,c,e,?_,h8,h9,λi j' row x hr hx=>?_⟩
  ·rw[hb (by rw[h1];decide) (by simp)];exact h7
  ·obtain⟨a,v,b1,b2⟩:=d i j' row x hr hx;exact⟨a,v,b1,b2.step s⟩
 | map es =>
  obtain⟨h1,h2,esC,l,h4,h5⟩:=h;simp only[ObjRel,hj];refine⟨h1,h2,esC,by rw[hb (by rw[h1];decide) (by simp)];exact l,h4,λi k x e a b=>?_⟩;obtain⟨c1,p,q⟩:=h5 i k x e a b;exact⟨c1,p.step s,q.step s⟩
 | loop nt t ps assign body dfr st pend =>
  obtain⟨h1,h2,L,l,h4,h5,n,h7,h8,h9,d,f,m⟩:=h;simp only[ObjRel,hj];have hd:(γ dfr).kind≠0:=by rw[f];decide
  refine⟨h1,h2,L,by rw[hb (by rw[h1];decide) (by simp)];exact l,h4,h5,n,h7,h8,h9,λi=>(d i).step s,by rw[s.kind_eq hd,f],?_⟩;rw[m,s.blk_eq hd (by rw[f];decide)]
 | dfr live =>
  obtain⟨h1,h2,l⟩:=h;simp only[ObjRel,hj];exact⟨h1,h2,by rw[hb (by rw[h1];decide) (by simp)];exact l⟩
theorem Rel.set(h:Rel C A bd w γ hg nx){id:Nat}{gh:Gh}{o:AObj}(hγ:γ'=upd γ id gh)(s:Stp w γ w' γ')(hn:nx<=nx')
  (ho:ObjRel w' γ' A bd id o) (hlt:id<nx'/\gh.blk<w'.heap.size) (hinj:∀j,j≠id->(γ j).kind≠0->(γ j).blk≠gh.blk)
  (hav:∀t,¬A t gh.blk)
  (hoth:∀j,j≠id->(γ j).kind≠0->hg j≠.none->w'.heap[(γ j).blk]?=w.heap[(γ j).blk]?) :
  Rel C A bd w' γ' (upd hg id o) nx':=by
 subst hγ;constructor
 ·intro j
  by_cases k:j=id
  ·subst k;simpa using ho
  ·rw[cJ _ _ k];exact (h.obj j).step s (cJ _ _ k) (hoth j k)
 ·intro j hk
  by_cases k:j=id
  ·subst k;simpa using hlt
  ·rw[cJ _ _ k]at hk ⊢;exact⟨UI (h.lt j hk).1 hn,UI (h.lt j hk).2 s.sz⟩
 ·intro i j hi k e
  by_cases h1:i=id<;>by_cases h2:j=id
  ·rw[h1,h2]
  ·subst h1;rw[cJ _ _ h2]at k e;simp only[upd_same]at e;exact absurd e.symm (hinj j h2 k)
  ·subst h2;rw[cJ _ _ h1]at hi e;simp only[upd_same]at e;exact absurd e (hinj i h1 hi)
  ·rw[cJ _ _ h1]at hi e;rw[cJ _ _ h2]at k e;exact h.inj i j hi k e
 ·intro j hk
  by_cases k:j=id
  ·subst k;simpa using hav
  ·rw[cJ _ _ k]at hk ⊢;exact h.av j hk
 ·intro t b hb;exact UI (h.ab t b hb) s.sz
 ·intro g sz rows hg';exact (h.glob g sz rows hg').step s
theorem Rel.up(h:Rel C A bd w γ hg nx)(hn:nx<=nx'):Rel C A bd w γ hg nx' :=
 ⟨h.obj,λid hk=>⟨UI (h.lt id hk).1 hn,(h.lt id hk).2⟩,h.inj,h.av,h.ab,h.glob⟩
theorem uw{id:Nat}{o:Obj}(hk:(γ id).kind≠0)(hw:(γ id).wr=true):Stp w γ (World.setBlk w (γ id).blk o) γ where
 sz:=by simp
 os:=rfl
 tape:=rfl
 output:=rfl
 fr b hb hm:=by rw[aX,Um];rintro⟨h,_⟩;exact hm ⟨id,hk,hw,h.symm⟩
 mt b _ h:=h
 kind _ _:=.inl ⟨rfl,rfl⟩
 ep _ _:=⟨Ui _,λ_=>⟨rfl,rfl,rfl,rfl,rfl⟩⟩
 dr:=Ui _
theorem Rel.setBlk(h:Rel C A bd w γ hg nx){id:Nat}{o:Obj}{ao:AObj}(hk:(γ id).kind≠0)(hw:(γ id).wr=true)
  (ho:ObjRel (World.setBlk w (γ id).blk o) γ A bd id ao) :
  Rel C A bd (World.setBlk w (γ id).blk o) γ (upd hg id ao) nx/\Stp w γ (World.setBlk w (γ id).blk o) γ:=by
 have s:=uw (w:=w) (o:=o) hk hw;refine⟨?_,s⟩;have e:γ=upd γ id (γ id):=by funext k;unfold upd;split<;>simp_all
 refine h.set (gh:=γ id) e s (Ui _) ho ?_ ?_ ?_ ?_
 ·have:=h.lt id hk;exact⟨this.1,by simpa using this.2⟩
 ·intro j b a eb;exact b (h.inj j id a hk eb)
 ·exact h.av id hk
 ·intro j b a _;rw[aX,Um];rintro⟨eb,_⟩;exact b (h.inj j id a hk eb)
def World.add(w:World)(o:Obj):World:={ w with heap:=w.heap.push o }
@[simp] theorem add_size (o:Obj):(World.add w o).heap.size=w.heap.size+1:=by simp[World.add]
theorem k_(o:Obj)(b:Nat):(World.add w o).heap[b]?=if b=w.heap.size then some o else w.heap[b]?:=by simp only[World.add,WM]
theorem EF{id:Nat}{gh:Gh}{o:Obj}(hid:(γ id).kind=0)(hb:gh.blk=w.heap.size):Stp w γ (World.add w o) (upd γ id gh) where
 sz:=by simp
 os:=rfl
 tape:=rfl
 output:=rfl
 fr b hb' _:=by rw[k_,Um (by omega)]
 mt b hb':=by
  rintro⟨j,h1,h2,h⟩
  by_cases hj:j=id
  ·subst hj;simp only[upd_same]at h;omega
  ·rw[cJ _ _ hj]at h1 h2 h;exact⟨j,h1,h2,h⟩
 kind j hj:=by
  have:j≠id:=by rintro rfl;exact hj hid
  rw[cJ _ _ this];exact .inl ⟨rfl,rfl⟩
 ep j hj:=by
  have:j≠id:=by rintro rfl;rw[hid]at hj;cases hj
  rw[cJ _ _ this];exact⟨Ui _,λ_=>⟨rfl,rfl,rfl,rfl,rfl⟩⟩
 dr:=Ui _
theorem Rel.add(h:Rel C A bd w γ hg nx){id:Nat}{gh:Gh}{o:Obj}{ao:AObj}(hid:(γ id).kind=0)(hb:gh.blk=w.heap.size)
  (hn:nx<=nx') (hi:id<nx') (ho:ObjRel (World.add w o) (upd γ id gh) A bd id ao) :
  Rel C A bd (World.add w o) (upd γ id gh) (upd hg id ao) nx'/\Stp w γ (World.add w o) (upd γ id gh):=by
 have s:=EF (w:=w) (o:=o) hid hb;refine⟨h.set (gh:=gh) rfl s hn ho ⟨hi,by simp[hb]⟩ ?_ ?_ ?_,s⟩
 ·intro j _ k e;have:=(h.lt j k).2;omega
 ·intro t ht;have:=h.ab t _ ht;omega
 ·intro j _ k _;have:=(h.lt j k).2;rw[k_,Um (by omega)]
end
section
variable {C:Cfg}{A:Nat->Nat->Prop}{bd:Nat}{w:World}{γ:Gm}{hg:Nat->AObj}{nx nx':Nat}
theorem Rel.newCells(h:Rel C A bd w γ hg nx){id sz slack:Nat}{rows:List (List AV)}(e:TypeId)
  (hid:(γ id).kind=0) (hn:nx<=nx') (hi:id<nx') (hs:(loose=false->slack=0)/\(loose=true->rows.length+slack<=9223372036854775807)) (hc:(rows.length+slack)*sz<=c.size)
  (hr:∀(i:Nat) row,rows[i]?=some row->row.length=sz)
  (hv:∀(i j:Nat) row x,rows[i]?=some row->row[j]?=some x->x.one=true/\∃v,c[i*sz+j]?=some v/\RV w γ A bd x v) :
  ∃γ',Rel C A bd (World.add w (.cells c e (0,0))) γ' (upd hg id (.cells sz rows 0 loose false)) nx'/\Stp w γ (World.add w (.cells c e (0,0))) γ' /\
   (γ' id).kind=1/\(γ' id).ep=0/\(γ' id).sz=sz/\(γ' id).n=rows.length/\(γ' id).blk=w.heap.size/\(γ' id).base=0/\(γ' id).slack=slack:=by
 let gh:Gh:=⟨1,0,sz,rows.length,w.heap.size,0,slack,true⟩
 have s:=EF (w:=w) (o:=.cells c e (0,0)) (gh:=gh) hid rfl;obtain⟨r,s'⟩:=h.add (id:=id) (gh:=gh) (o:=.cells c e (0,0)) (ao:=.cells sz rows 0 loose false) hid rfl hn hi (by
  simp only[ObjRel,upd_same];refine⟨rfl,rfl,rfl,rfl,hs,rfl,c,e,by rw[k_];simp[gh],by simpa [gh] using hc,hr,λi j row x h1 h2=>?_⟩;obtain⟨a,v,b1,b2⟩:=hv i j row x h1 h2;exact⟨a,v,by simpa [gh] using b1,b2.step s⟩)
 exact⟨_,r,s',by simp[gh],by simp[gh],by simp[gh],by simp[gh],by simp[gh],by simp[gh],by simp[gh]⟩
theorem Rel.storeCells(h:Rel C A bd w γ hg nx){id sz ep:Nat}{rows rows':List (List AV)}{loose:Bool}
  (hid:hg id=.cells sz rows ep loose false) {o:Nat} {vs:List Value} {xs:List AV}
  (hvs:RVs w γ A bd xs vs) (h1:∀(i:Nat) y,xs[i]?=some y->y.one=true)
  (hlen:rows'.length=rows.length) (hr':∀(i:Nat) row,rows'[i]?=some row->row.length=sz)
  (hin:(γ id).base<=o/\o+vs.length<=(γ id).base+rows.length*sz)
  (hcells:∀(i j:Nat) row x,rows'[i]?=some row->row[j]?=some x ->
   (if o<=(γ id).base+i*sz+j/\(γ id).base+i*sz+j<o+vs.length then xs[(γ id).base+i*sz+j - o]?=some x
    else ∃row0,rows[i]?=some row0/\row0[j]?=some x)) (P:Program) :
  ∃w',(Go.storeCells (adr (γ id).blk o) vs).run P w=.ok () w' /\
   Rel C A bd w' γ (upd hg id (.cells sz rows' ep loose false)) nx/\Stp w γ w' γ:=by
 have f:=h.obj id;rw[hid]at f;obtain⟨n,k2,q,t,u,z,c,e,B,D,E,m⟩:=f;have l:o+vs.length<=c.size:=by have:rows.length*sz<=(rows.length+(γ id).slack)*sz:=UB _ (by omega);omega
 have d:=t8 (P:=P) vs 0 w c B (by simpa using l) (JF hvs h1);simp only[VH]at d;have hk:(γ id).kind≠0:=by rw[n];decide
 have hw:(γ id).wr=true:=by simpa using z
 have s:=uw (w:=w) (o:=.cells (bj c o vs) e (0,0)) hk hw;obtain⟨r,s'⟩:=h.setBlk (id:=id) (o:=.cells (bj c o vs) e (0,0)) (ao:=.cells sz rows' ep loose false) hk hw (by
  refine⟨n,k2,q,by rw[t,hlen],by rw[hlen];exact u,by simpa using hw,bj c o vs,e,?_,by rw[bU,hlen];exact D,hr',λi j row x a b=>?_⟩
  ·rw[aX];simp[(h.lt id hk).2]
  ·have hc:=hcells i j row x a b;rw[cB _ _ _ _ l]
   split at hc
   ·rename_i k;rw[Un k];have hlt:(γ id).base+i*sz+j - o<vs.length:=by omega
    refine⟨h1 _ _ hc,vs[(γ id).base+i*sz+j - o],Uj hlt,?_⟩;exact (hvs.2 _ _ _ hc (Uj hlt)).step s
   ·rename_i k;rw[Um k];obtain⟨row0,c1,p⟩:=hc;obtain⟨d1,v,d2,d3⟩:=m i j row0 x c1 p;exact⟨d1,v,d2,d3.step s⟩)
 exact⟨_,d,r,s'⟩
end
def TR(w:World)(γ:Gm)(A:Nat->Nat->Prop)(bd:Nat)(nt:Nat)(t:T)(tmps:Array Value):Prop :=
 tmps.size=nt/\∀i,RV w γ A bd (t.get AV.undef i) (tmps.getD i undef)
def EP(P:Program)(o:Oper)(ev:Operand->Value)(w:World)(v:Value)(w':World):Prop :=
 (execOp ev o).run P w=.ok (.value v) w'\/((execOp ev o).run P w=.ok .skip w'/\v=undef)
def OpSim(C:Cfg)(A:Nat->Nat->Prop)(bd:Nat)(w:World)(γ:Gm)(hg:Nat->AObj)(nx:Nat)(o:Oper)(ev:Operand->Value)(g:G):OR->Prop
 |.fail=>True
 |.val x=>∃v,EP C.P o ev w v w/\RV w γ A bd x v
 | .upd x g'=>∃v w' γ' id ob,EP C.P o ev w v w'/\RV w' γ' A bd x v/\Stp w γ w' γ' /\
   ((g'=g.put id ob/\Rel C A bd w' γ' (upd hg id ob) nx)\/(g'=g.new ob/\id=g.nx/\Rel C A bd w' γ' (upd hg id ob) (Nat.max nx (g.nx+1))))
 |.dfr _=>False
section
variable {C:Cfg}{A:Nat->Nat->Prop}{bd:Nat}{w:World}{γ:Gm}{hg:Nat->AObj}{nx:Nat}
theorem HL{a:AV}(h:ofV v=some a):RV w γ A bd a v/\a.one=true:=by
 unfold ofV at h
 split at h<;>first| (cases h;done)| (injection h with h;subst h;exact⟨by constructor,rfl⟩)
theorem ox:∀{vs:List Value} {as:List AV},y7 vs=some as->RVs w γ A bd as vs/\∀(i:Nat) y,as[i]?=some y->y.one=true:=by
 intro vs
 induction vs with
 |nil=>intro as h;simp[y7]at h;subst h;exact⟨⟨rfl,λi x v h=>by simp at h⟩,λi y h=>by simp at h⟩
 | cons v vs ih =>
  intro as h;simp only[y7]at h
  split at h
  ·rename_i a as' h1 h2;injection h with h;subst h;obtain⟨p,q⟩:=HL (w:=w) (γ:=γ) (A:=A) (bd:=bd) h1;obtain⟨r,s⟩:=ih h2;refine⟨⟨by simp[r.1],λi x u hx hu=>?_⟩,λi y hy=>?_⟩
   ·cases i with
    |zero=>simp at hx hu;subst hx;subst hu;exact p
    |succ i=>exact r.2 i x u (by simpa using hx) (by simpa using hu)
   ·cases i with
    |zero=>simp at hy;subst hy;exact q
    |succ i=>exact s i y (by simpa using hy)
  ·cases h
theorem au{x:Operand}{s:Stg (T->AV)}{nt:Nat}{t:T}{a:Act}(h:aP C x=some s)(ht:TR w γ A bd nt t a.tmps)(hr:Rel C A bd w γ hg nx) :
  RV w γ A bd (s.run t) (a.eval x):=by
 cases x with
 |tmp n=>simp[aP]at h;subst h;rw[gp_run];exact ht.2 n
 | const v =>
  simp only[aP]at h
  split at h
  ·rename_i a' h1;injection h with h;subst h;exact (HL h1).1
  ·cases h
 | global g =>
  simp only[aP]at h
  split at h
  ·rename_i sz rows h1;injection h with h;subst h;exact hr.glob g sz rows h1
  ·cases h
 | func f =>
  simp[aP]at h;subst h;exact .clo _ f [] [] #[] #[] rfl rfl (λi x v h=>by simp at h) (λi x v h=>by simp at h)
theorem ic{nt:Nat}{t:T}{a:Act}(ht:TR w γ A bd nt t a.tmps)(hr:Rel C A bd w γ hg nx):∀{xs:List Operand} {s:Stg (T->List AV)},
  bV C xs=some s->RVs w γ A bd (s.run t) (xs.map a.eval):=by
 intro xs
 induction xs with
 |nil=>intro s h;simp[bV]at h;subst h;exact⟨rfl,λi x v h=>by simp at h⟩
 | cons x xs ih =>
  intro s h;simp only[bV]at h
  split at h
  ·rename_i a' as' h1 h2;injection h with h;subst h;have p:=au h1 ht hr;have q:=ih h2;refine⟨by simp[q.1],λi y u hy hu=>?_⟩;cases i with
   |zero=>simp at hy hu;subst hy;subst hu;exact p
   |succ i=>exact q.2 i y u (by simpa using hy) (by simpa using hu)
  ·cases h
theorem uX{row:List AV}{o:Nat}{x:AV}{bd':Nat}(hb:bd'<=bd)
  (hcell:∀(j:Nat) y,row[j]?=some y->y.one=true/\∃v,w.cell? (adr b (o+j))=some v/\RV w γ A bd' y v)
  (hag:rY C.P ty=some ag) (hn:szT C.P ty=some n) (h:ch ag n row off=some x) :
  ∃v,(loadVar ty (adr b (o+off))).run C.P w=.ok v w/\RV w γ A bd x v:=by
 unfold ch at h;cases ag with
 | false =>
  simp only[dO]at h;obtain⟨_,v,h1,h2⟩:=hcell off x h;exact⟨v,by simp[loadVar,mU hag,h1],h2.mono hb⟩
 | true =>
  simp only[bk,bh,aq,aa]at h
  split at h
  ·rename_i hl;rw[Xo]at hl;injection h with h;subst h;have l:∀j:Fin n,∃v,w.cell? (adr b (o+off+j))=some v/\∃y,(List.take n (List.drop off row))[j.1]?=some y/\y.one=true/\RV w γ A bd' y v:=by
    intro j;have m:j.1<(List.take n (List.drop off row)).length:=by rw[hl];exact j.2
    have e:(List.take n (List.drop off row))[j.1]?=row[off+j.1]?:=by rw[UV j.2,UO]
    have d:=Uj m;obtain⟨c1,v,p,q⟩:=hcell (off+j.1) _ (e ▸ d);exact⟨v,by rw[Wc];exact p,_,d,c1,q⟩
   let f:Fin n->Value:=λj=>Classical.choose (l j)
   have hf:∀j:Fin n,w.cell? (adr b (o+off+j))=some (f j)/\∃y,(List.take n (List.drop off row))[j.1]?=some y/\y.one=true/\RV w γ A bd' y (f j) :=
    λj=>Classical.choose_spec (l j)
   have k:(List.ofFn f).length=n:=by simp
   have a:=uZ (P:=C.P) (w:=w) (b:=b) (o:=o+off) (cs:=List.ofFn f) (λj c hc=>by
    have m:j<n:=by rw[<-k];exact (Uh.1 hc).1
    rw[List.getElem?_ofFn]at hc;simp[m]at hc;rw[<-hc];exact (hf ⟨j,m⟩).1)
   rw[k]at a;refine⟨.agg (List.ofFn f).toArray,by simp[loadVar,mU hag,aZ hn,a],.agg _ _ _ (by simpa using hl) (λi y d=>?_) (λi y v d hv=>?_)⟩
   ·have hi:i<n:=by rw[<-hl];exact (Uh.1 d).1
    obtain⟨_,y',h1,h2,_⟩:=hf ⟨i,hi⟩;rw[d]at h1;injection h1 with h1;subst h1;exact h2
   ·have hi:i<n:=by rw[<-hl];exact (Uh.1 d).1
    obtain⟨_,y',h1,h2,r⟩:=hf ⟨i,hi⟩;rw[d]at h1;injection h1 with h1;subst h1;simp[hi]at hv;rw[<-hv];exact r.mono hb
  ·cases h
theorem ur(hr:Rel C A bd w γ hg nx){id sz:Nat}{rows:List (List AV)}{fz:Bool}(hid:hg id=.cells sz rows ep loose fz)
   {row:List AV} (hi:rows[i]?=some row) (j:Nat) (y:AV) (hy:row[j]?=some y) :
  y.one=true/\∃v,w.cell? (adr (γ id).blk ((γ id).base+i*sz+j))=some v/\RV w γ A bd y v:=by
 have h:=hr.obj id;rw[hid]at h;obtain⟨d,k2,f,l,m,n,c,e,b,o,p,k⟩:=h;obtain⟨a,v,b1,b2⟩:=k i j row y hi hy;exact⟨a,v,by rw[mZ b];exact b1,b2⟩
theorem aB{a:Nat}(h:Nat.beq a b=true):a=b:=Vj h
def ValSim(C:Cfg)(A:Nat->Nat->Prop)(bd:Nat)(w:World)(γ:Gm)(m:Sem Value):OR->Prop
 |.fail=>True
 |.val x=>∃v,m.run C.P w=.ok v w/\RV w γ A bd x v
 |_=>False
theorem oy{m:Sem Value}{x:Option AV}(h:∀y,x=some y->∃v,m.run C.P w=.ok v w/\RV w γ A bd y v):ValSim C A bd w γ m (orV x):=by
 cases x with
 |none=>trivial
 |some y=>exact h y rfl
theorem F2{a:T->AV}{t:T}{g:G}(hr:Rel C A bd w γ hg nx)
  (ha:RV w γ A bd (a t) va) (hag:rY C.P ty=some ag) (hn:szT C.P ty=some n) (agree:∀id∈af (a t),hg id=g.h.get id) :
  ValSim C A bd w γ (Instr.loadAt ty va) (nH ag n a t g):=by
 unfold nH;generalize a t=x at *;cases ha with
 | tptr _ tag sz rows i0 off0 b o cell ht hb hm ha' hrl ho hw h =>
  simp only[dO];cases hrow:rows[i0]? with
  |none=>trivial
  | some row =>
   refine oy λy hp=>?_;obtain⟨v,h1,h2⟩:=uX (C:=C) (ty:=ty) (w:=w) (γ:=γ) (A:=A) (bd:=bd) ht (b:=b) (o:=o+i0*sz) (λj y hy=>⟨ho i0 j row y hrow hy,_,hw i0 j row y hrow hy,h i0 j row y hrow hy⟩) hag hn hp;exact⟨v,by simp[Instr.loadAt,Instr.sureAddr,h1],h2⟩
 | hptr _ id ep i off b o hk he h =>
  have k:=agree id (by simp[af]);simp only[G.get_eq,<-k];cases hid:hg id with
  | cells sz rows ep' loose fz =>
   simp only[aa]
   split
   ·rename_i c;have c:=aB c;have d:=hr.obj id;rw[hid]at d;obtain⟨l,k2,f,_⟩:=d;obtain⟨c1,e⟩:=h (c.trans k2.symm);simp only[dO];cases hrow:rows[i]? with
    |none=>trivial
    | some row =>
     refine oy λy hp=>?_;obtain⟨v,h1,h2⟩:=uX (C:=C) (ty:=ty) (w:=w) (γ:=γ) (A:=A) (bd:=bd) (Ui _) (b:=(γ id).blk) (o:=(γ id).base+i*sz) (ur hr hid hrow) hag hn hp;refine⟨v,?_,h2⟩;rw[c1,e,f];simp[Instr.loadAt,Instr.sureAddr,h1]
   ·trivial
  |_=>trivial
 |_=>trivial
end
section
variable {g:G}
theorem MQ{i' j sz:Nat}(hj:j<sz)(h1:i*sz<=i'*sz+j)(h2:i'*sz+j<i*sz+sz):i'=i:=by
 rcases Nat.lt_trichotomy i' i with h|h|h
 ·have:(i'+1)*sz<=i*sz:=UB _ h;rw[UH,Vk]at this;omega
 ·exact h
 ·have:(i+1)*sz<=i'*sz:=UB _ h;rw[UH,Vk]at this;omega
theorem q9{row row':List AV}{cs:List AV}(h:cH row off cs=some row') :
  row'.length=row.length/\off+cs.length<=row.length/\∀j,row'[j]?=if off<=j/\j<off+cs.length then cs[j - off]? else row[j]?:=by
 unfold cH at h;simp only[aq,il,bk,bh,aa]at h
 split at h
 ·rename_i k;rw[UR]at k;injection h with h
  split at h
  ·rename_i c;subst h;refine⟨by simp,k,λj=>?_⟩;simp only[UX,V8]at k ⊢;rw[V1]
   by_cases hj:off=j
   ·subst hj;rw[Un rfl,Un (by omega),Un (by omega)];simp
   ·rw[Um hj,Um (by omega)]
  ·subst h;refine⟨by simp;omega,k,λj=>?_⟩
   by_cases h1:j<off
   ·rw[Um (by omega),UF (by simp;omega),UV h1]
   ·rw[UA (by simp;omega)];simp only[U0,Wi (show off<=row.length by omega)]
    by_cases h2:j<off+cs.length
    ·rw[Un ⟨by omega,h2⟩,UF (by omega)]
    ·rw[Um (by omega),UA (by omega),UO];congr 1;omega
 ·cases h
section
variable {C:Cfg}{A:Nat->Nat->Prop}{bd:Nat}{w:World}{γ:Gm}{hg:Nat->AObj}{nx:Nat}
def dx(C:Cfg)(A:Nat->Nat->Prop)(bd:Nat)(w:World)(γ:Gm)(hg:Nat->AObj)(nx:Nat)(m:Sem Value)(g:G):OR->Prop
 |.fail=>True
 |.val x=>∃v,m.run C.P w=.ok v w/\RV w γ A bd x v
 | .upd x g'=>∃v w' γ' id ob,m.run C.P w=.ok v w'/\RV w' γ' A bd x v/\Stp w γ w' γ' /\
   ((g'=g.put id ob/\Rel C A bd w' γ' (upd hg id ob) nx)\/(g'=g.new ob/\id=g.nx/\Rel C A bd w' γ' (upd hg id ob) (Nat.max nx (g.nx+1))))
 |.dfr _=>False
theorem cU:RV w γ A bd AV.undef undef:=.tup _ [] #[] rfl (λi x v h=>by simp at h)
theorem Ls{a x:T->AV}{t:T}{vx:Value}(hr:Rel C A bd w γ hg nx)
  (ha:RV w γ A bd (a t) va) (hx:RV w γ A bd (x t) vx) (hn:szT C.P ty=some n) (agree:∀id∈af (a t),hg id=g.h.get id) :
  dx C A bd w γ hg nx (do Instr.storeAt ty va vx;pure undef) g (pz n a x t g):=by
 unfold pz;generalize a t=y at *;generalize x t=z at *;cases ha with
 | hptr _ id ep i off b o hk he h =>
  have m:=agree id (by simp[af]);simp only[G.get_eq,<-m];cases hid:hg id with
  | cells sz rows ep' loose fz =>
   simp only[aa,aq,dO,il]
   split
   ·rename_i hc;simp only[Uk,notb_eq,Vb]at hc;obtain⟨⟨⟨p,f⟩,u⟩,s⟩:=hc;have p:=aB p;have f:=aB f;subst u;subst p;have r:=hr.obj id;rw[hid]at r;obtain⟨M,k2,I,N,O,Q,c,e,R,S,D,H⟩:=r;obtain⟨c1,E⟩:=h k2.symm;rw[I]at E;cases hrow:rows[i]? with
    |none=>trivial
    | some row =>
     dsimp only;cases hp:cH row off z.cells with
     |none=>trivial
     | some row' =>
      obtain⟨p1,p2,p3⟩:=q9 hp;obtain⟨q1,q2⟩:=pN hx s;have v:row.length=sz:=D i row hrow;have hi:i<rows.length:=(Uh.1 hrow).1;have q:(i+1)*sz<=rows.length*sz:=UB _ hi;rw[UH,Vk]at q;have l:vx.cells.toList.length=z.cells.length:=q1.1.symm;obtain⟨w',J,K,L⟩:=hr.storeCells hid (rows':=rows.set i row') (o:=(γ id).base+i*sz+off) (vs:=vx.cells.toList) q1 q2 (by simp)
       (λi' r' k=>by
        rw[V1]at k
        by_cases hii:i=i'
        ·subst hii;rw[Un rfl,Un hi]at k;injection k with k;subst k;rw[p1];exact v
        ·rw[Um hii]at k;exact D i' r' k)
       ⟨by omega,by rw[l];omega⟩
       (λi' j r' y k hy=>by
        rw[V1]at k
        by_cases hii:i=i'
        ·subst hii;rw[Un rfl,Un hi]at k;injection k with k;subst k;have:=p3 j;rw[hy]at this
         split
         ·rename_i d;rw[l]at d;rw[Un (by omega)]at this;rw[show (γ id).base+i*sz+j - ((γ id).base+i*sz+off)=j - off from by omega];exact this.symm
         ·rename_i d;rw[l]at d;rw[Um (by omega)]at this;exact⟨row,hrow,this.symm⟩
        ·rw[Um hii]at k;have F:j<sz:=by rw[<-D i' r' k];exact (Uh.1 hy).1
         rw[Um]
         ·exact⟨r',k,hy⟩
         ·rw[l];rintro⟨l1,l2⟩;exact hii (MQ (i:=i) (i':=i') F (by omega) (by omega)).symm) C.P
      refine⟨undef,w',γ,id,.cells sz (rows.set i row') ep loose false,?_,cU,L,.inl ⟨rfl,K⟩⟩;have B:vx.cells.size=n:=by rw[<-f,<-l];simp
      rw[c1,E];simp[Instr.storeAt,Instr.sureAddr,storeVar,aZ hn,B,J]
   ·trivial
  |_=>trivial
 |_=>trivial
theorem Ei{sz:Nat}{rows:List (List AV)}{cs:Array Value}(e:TypeId)(hr:Rel C A bd w γ hg nx)(hf:(γ g.nx).kind=0)
  (hrow:∀(i:Nat) row,rows[i]?=some row->row.length=sz)
  (hv:∀(i j:Nat) row x,rows[i]?=some row->row[j]?=some x->x.one=true/\∃v,cs[i*sz+j]?=some v/\RV w γ A bd x v)
  (loose:Bool) (slack:Nat) (hs:(loose=false->slack=0)/\(loose=true->rows.length+slack<=9223372036854775807)) (hc:(rows.length+slack)*sz<=cs.size) :
  ∃γ',Rel C A bd (World.add w (.cells cs e (0,0))) γ' (upd hg g.nx (.cells sz rows 0 loose false)) (Nat.max nx (g.nx+1))/\Stp w γ (World.add w (.cells cs e (0,0))) γ' /\
   (γ' g.nx).kind=1/\(γ' g.nx).ep=0/\(γ' g.nx).sz=sz/\(γ' g.nx).n=rows.length/\(γ' g.nx).blk=w.heap.size/\(γ' g.nx).base=0/\(γ' g.nx).slack=slack :=
 hr.newCells e hf (Vv _ _) (UI (W8 _) (VW _ _)) hs hc hrow hv
theorem iv(e:TypeId)(cs:Array Value):(newRow e cs).run P w=.ok (adr w.heap.size 0) (World.add w (.cells cs e (0,0))):=by simp[newRow,adr,World.add]
theorem OM{x:AV}(hr:Rel C A bd w γ hg nx)(hx:RV w γ A bd x v)(hf:(γ g.nx).kind=0)(ht:x.isTup=false) :
  dx C A bd w γ hg nx (Instr.box ty v) g (.upd (.hptr g.nx 0 0 0) (g.new (Xs (bi x.cells) [x.cells]))):=by
 obtain⟨q1,q2⟩:=pN hx ht;obtain⟨γ',k,a,b,e,r5,f,c,d,l⟩:=Ei (sz:=x.cells.length) (rows:=[x.cells]) (cs:=v.cells) ty hr hf
  (λi row h=>by cases i with|zero=>simp at h;rw[<-h]|succ i=>simp at h)
  (λi j row y h hy=>by
   cases i with
   | zero =>
    simp at h;subst h;have hlt:j<v.cells.toList.length:=by rw[<-q1.1];exact (Uh.1 hy).1
    have he:=Uj hlt;exact⟨q2 j y hy,_,by simpa using he,q1.2 j y _ hy he⟩
   | succ i=>simp at h) false 0 ⟨λ_=>rfl,λh=>by cases h⟩ (by
    have:=q1.1;simp at this;simp[this])
 rw[aq];refine⟨.pointer (some (adr w.heap.size 0)),_,γ',g.nx,_,?_,?_,a,.inr ⟨rfl,rfl,k⟩⟩
 ·simp[Instr.box,newVar,iv]
 ·exact .hptr _ _ _ _ _ _ _ b (by omega) (λ_=>⟨c.symm,by rw[d];simp⟩)
end
end
section
variable {cs:List AV}
section
variable {C:Cfg}{A:Nat->Nat->Prop}{bd:Nat}{w:World}{γ:Gm}{hg:Nat->AObj}{nx:Nat}
theorem nN(h:gm P ty=some cs):∃v,(zeroValue ty).run P w=.ok v w/\y7 v.cells.toList=some cs:=by
 unfold gm at h;cases hi:P.info? ty with
 |none=>rw[hi]at h;cases h
 | some i =>
  rw[hi]at h;cases hz:i.zero with
  |none=>simp[hz]at h
  |some v=>simp[hz]at h;exact⟨v,by simp[zeroValue,lI hi,hz],h⟩
theorem J4{g:G}(hr:Rel C A bd w γ hg nx)(hz:gm C.P ty=some cs)(hf:(γ g.nx).kind=0)(t:T) :
  dx C A bd w γ hg nx (Instr.alloc ty true (.tuple #[])) g (Dq cs t g):=by
 obtain⟨v,h1,h2⟩:=nN (w:=w) hz;obtain⟨q1,q2⟩:=ox (w:=w) (γ:=γ) (A:=A) (bd:=bd) h2;obtain⟨γ',k,a,b,e,r5,f,c,d,l⟩:=Ei (sz:=cs.length) (rows:=[cs]) (cs:=v.cells) ty hr hf
  (λi row h=>by cases i with|zero=>simp at h;rw[<-h]|succ i=>simp at h)
  (λi j row y h hy=>by
   cases i with
   | zero =>
    simp at h;subst h;have hlt:j<v.cells.toList.length:=by rw[<-q1.1];exact (Uh.1 hy).1
    have he:=Uj hlt;exact⟨q2 j y hy,_,by simpa using he,q1.2 j y _ hy he⟩
   | succ i=>simp at h) false 0 ⟨λ_=>rfl,λh=>by cases h⟩ (by
    have:=q1.1;simp at this;simp[this])
 unfold Dq;rw[aq];refine⟨.pointer (some (adr w.heap.size 0)),_,γ',g.nx,_,?_,?_,a,.inr ⟨rfl,rfl,k⟩⟩
 ·simp[Instr.alloc,newVar,iv,h1]
 ·exact .hptr _ _ _ _ _ _ _ b (by omega) (λ_=>⟨c.symm,by rw[d];simp⟩)
theorem wP(vs:List Value):∀(off k:Nat) (c:Array Value),
  (vs.zipIdx k).foldl (λcs (p:Value×Nat)=>cs.setIfInBounds (off+p.2) p.1) c=bj c (off+k) vs:=by
 induction vs with
 |nil=>intro off k c;rfl
 |cons v vs ih=>intro off k c;simp only[List.zipIdx_cons,WD,bj];rw[ih];rfl
def pE(w:World)(γ:Gm)(A:Nat->Nat->Prop)(bd:Nat)(xs:List AV)(c:Array Value):Prop :=
 RVs w γ A bd xs c.toList/\∀(i:Nat) y,xs[i]?=some y->y.one=true
theorem Es{xs row':List AV}{vs:List Value}(h:pE w γ A bd xs c)(hv:RVs w γ A bd cs vs)
  (h1:∀(i:Nat) y,cs[i]?=some y->y.one=true) (hp:cH xs off cs=some row'):pE w γ A bd row' (bj c off vs):=by
 obtain⟨p1,p2,p3⟩:=q9 hp;have hl:off+vs.length<=c.size:=by have:=h.1.1;have:=hv.1;simp at *;omega
 refine⟨⟨by have:=h.1.1;simp[bU]at *;omega,λi x v hx hv'=>?_⟩,λi y hy=>?_⟩
 ·rw[p3]at hx;simp only[WX]at hv';rw[cB _ _ _ _ hl]at hv';have:=hv.1
  split at hx
  ·rw[Un (by omega)]at hv';exact hv.2 _ _ _ hx hv'
  ·rw[Um (by omega)]at hv';exact h.1.2 _ _ _ hx (by simpa using hv')
 ·rw[p3]at hy
  split at hy
  ·exact h1 _ _ hy
  ·exact h.2 _ _ hy
theorem Kt{place:Nat->Option (Nat×Nat)}:∀{is:List Nat} {pl:List (Nat×Nat)} {xs:List AV} {vs:List Value} {zero cs:List AV} {c:Array Value},
  aD place is=some pl->pE w γ A bd zero c->RVs w γ A bd xs vs->eF zero (pl.zip xs)=some cs->is.length=xs.length ->
  ∃c',Instr.fill place c (is.zip vs)=some c'/\pE w γ A bd cs c':=by
 intro is
 induction is with
 | nil =>
  intro pl xs vs zero cs c hp hc d h hl;simp[aD]at hp;subst hp;have:xs=[]:=UJ hl.symm;subst this;simp[eF]at h;subst h;exact⟨c,by simp[Instr.fill],hc⟩
 | cons i is ih =>
  intro pl xs vs zero cs c hp hc d h hl;cases xs with
  |nil=>cases hl
  | cons x xs =>
   cases vs with
   |nil=>have:=d.1;cases this
   | cons v vs =>
    simp only[aD]at hp;cases hpi:place i with
    |none=>rw[hpi]at hp;cases hp
    | some q =>
     rw[hpi]at hp;cases hpr:aD place is with
     |none=>rw[hpr]at hp;cases hp
     | some pl' =>
      rw[hpr]at hp;injection hp with hp;subst hp;obtain⟨off,size⟩:=q;simp only[Wk,eF,aa,aq]at h
      split at h
      ·rename_i a;simp only[Uk,notb_eq,Vb]at a;obtain⟨h1,h2⟩:=a;have h1:=aB h1;cases hput:cH zero off x.cells with
       |none=>rw[hput]at h;cases h
       | some row' =>
        rw[hput]at h;have hx:=d.2 0 x v rfl rfl;obtain⟨q1,q2⟩:=pN hx h2;have e:v.cells.size=size:=by rw[<-h1];have:=q1.1;simp at this;exact this.symm
        have j:=(q9 hput).2.1;have f:zero.length=c.size:=by have:=hc.1.1;simpa using this
        obtain⟨c',l,m⟩:=ih (c:=bj c off v.cells.toList) hpr (Es hc q1 q2 hput) ⟨by have:=d.1;simpa using this,λk y u hy hu=>d.2 (k+1) y u (by simpa using hy) (by simpa using hu)⟩ h (by simpa using hl);refine⟨c',?_,m⟩;have b:(v.cells.zipIdx.foldl (λcs (p:Value×Nat)=>cs.setIfInBounds (off+p.2) p.1) c)=bj c off v.cells.toList:=by rw[<-Array.foldl_toList,Array.toList_zipIdx];exact wP _ _ _ _
        simp only[Wk,Instr.fill,hpi];rw[Um (by simp[e];omega)];rw[show (v.cells.zipIdx.foldl (λcs x=>cs.setIfInBounds (off+x.2) x.1) c)=_ from b];exact l
      ·cases h
theorem Cp{parts:Array (Nat×Operand)}{zero:List AV}{pl:List (Nat×Nat)}{vs:T->List AV}{t:T}{g:G}{place:Nat->Option (Nat×Nat)}
  {ev:Operand->Value} (hz:gm C.P ty=some zero) (hv:RVs w γ A bd (vs t) ((parts.toList.map (·.2)).map ev))
  (hp:aD place (parts.toList.map (·.1))=some pl)
  (hrun:∀(z:Value) (cells:Array Value),(zeroValue ty).run C.P w=.ok z w->Instr.fill place z.cells ((parts.map λ(i,x)=>(i,ev x)).toList)=some cells ->
   (Instr.build ty (parts.map λ(i,x)=>(i,ev x))).run C.P w=.ok (.agg cells) w) :
  ValSim C A bd w γ (Instr.build ty (parts.map λ(i,x)=>(i,ev x))) (oG zero pl vs t g):=by
 unfold oG;cases hfl:eF zero (pl.zip (vs t)) with
 |none=>trivial
 | some cs =>
  obtain⟨z,z1,z2⟩:=nN (w:=w) hz;have zr:=ox (w:=w) (γ:=γ) (A:=A) (bd:=bd) z2;have hl:(parts.toList.map (·.1)).length=(vs t).length:=by have:=hv.1;simp at *;omega
  obtain⟨c',k,h⟩:=Kt (c:=z.cells) hp zr hv hfl hl;have e:(parts.map λ(i,x)=>(i,ev x)).toList=(parts.toList.map (·.1)).zip ((parts.toList.map (·.2)).map ev):=by
   rw[Array.toList_map]
   induction parts.toList with
   |nil=>rfl
   |cons p ps ih=>simp[ih]
  exact⟨.agg c',hrun z c' z1 (by rw[e];exact k),.agg _ _ _ (by have:=h.1.1;simpa using this) h.2 (λi x v hx hv=>h.1.2 i x v hx (by simpa using hv))⟩
end
end
theorem Jk{j sz:Nat}(hj:j<sz):(i*sz+j) % sz=j:=by rw[We,Wf,Ww hj]
section
variable {C:Cfg}{A:Nat->Nat->Prop}{bd:Nat}{w:World}{γ:Gm}{hg:Nat->AObj}{nx:Nat}
def ii(zero:Array Value)(n:Nat):Array Value:=(Array.range n).map (zero[· % zero.size]!)
theorem nS(zero:Array Value)(n:Nat):(ii zero n).size=n:=by simp[ii]
theorem Ly{zero:Array Value}{k:Nat}(h:k<n)(hz:0<zero.size):(ii zero n)[k]?=zero[k % zero.size]?:=by have h2:k % zero.size<zero.size:=VT _ hz;simp[ii,h,Uv h2,getElem!_pos zero (k % zero.size) h2]
theorem Gv{row r:List AV}(h:(ib n row)[i]?=some r):r=row/\i<n:=by
 unfold ib at h;rw[List.getElem?_replicate]at h
 split at h
 ·injection h with h;exact⟨h.symm,by assumption⟩
 ·cases h
def RowsRel(w:World)(γ:Gm)(A:Nat->Nat->Prop)(bd sz:Nat)(rows:List (List AV))(c:Array Value):Prop :=
 rows.length*sz<=c.size/\(∀(i:Nat) row,rows[i]?=some row->row.length=sz) /\
 ∀(i j:Nat) row x,rows[i]?=some row->row[j]?=some x->x.one=true/\∃v,c[i*sz+j]?=some v/\RV w γ A bd x v
theorem ux{ty:TypeId}{zero:List AV}{z:Value}{sz m:Nat}(hz:y7 z.cells.toList=some zero)(hsz:zero.length=sz)(h0:0<sz)(hn:n*sz<=m) :
  RowsRel w γ A bd sz (ib n zero) (ii z.cells m):=by
 obtain⟨q1,q2⟩:=ox (w:=w) (γ:=γ) (A:=A) (bd:=bd) hz;have a:z.cells.size=sz:=by have:=q1.1;simp at this;omega
 refine⟨by simp[ib,nS,hn],λi row h=>by rw[(Gv h).1];exact hsz,λi j row x h hx=>?_⟩;obtain⟨e,hi⟩:=Gv h;subst e;have b:j<sz:=by rw[<-hsz];exact (Uh.1 hx).1
 have hlt:i*sz+j<n*sz:=by have:(i+1)*sz<=n*sz:=UB _ hi;rw[UH,Vk]at this;omega
 have k:j<z.cells.toList.length:=by simp;omega
 refine⟨q2 j x hx,z.cells.toList[j],?_,q1.2 j x _ hx (Uj k)⟩;rw[Ly (by omega) (by omega),a,Jk b];have:j<z.cells.size:=by omega
 simp[this]
theorem DX{sz:Nat}(h0:0<sz):∀{is:List Nat} {xs:List AV} {vs:List Value} {rows rows':List (List AV)} {c:Array Value} {n:Nat},
  RowsRel w γ A bd sz rows c->rows.length=n->c.size=n*sz->RVs w γ A bd xs vs->gY sz rows (is.zip xs)=some rows'->is.length=xs.length ->
  ∃c',Instr.fill (λi=>some (i*sz,sz)) c (is.zip vs)=some c'/\RowsRel w γ A bd sz rows' c'/\rows'.length=n/\c'.size=n*sz:=by
 intro is
 induction is with
 | nil =>
  intro xs vs rows rows' c n hc hl b m h d;have:xs=[]:=UJ d.symm;subst this;simp[gY]at h;subst h;exact⟨c,by simp[Instr.fill],hc,hl,b⟩
 | cons i is ih =>
  intro xs vs rows rows' c n hc hl b m h d;cases xs with
  |nil=>cases d
  | cons x xs =>
   cases vs with
   |nil=>have:=m.1;cases this
   | cons v vs =>
    simp only[Wk,gY,aa,aq,il]at h
    split at h
    ·rename_i a;simp only[Uk,notb_eq,Vb,U_]at a;obtain⟨⟨h1,h2⟩,z⟩:=a;have h1:=aB h1;have hx:=m.2 0 x v rfl rfl;obtain⟨q1,q2⟩:=pN hx z;have o:v.cells.toList.length=sz:=by rw[<-q1.1,h1]
     have e:(i+1)*sz<=rows.length*sz:=UB _ h2;rw[UH,Vk]at e;have r:i*sz+v.cells.toList.length<=c.size:=by rw[o,b,<-hl];exact e
     have q:RowsRel w γ A bd sz (rows.set i x.cells) (bj c (i*sz) v.cells.toList):=by
      refine⟨by rw[bU,WE];exact hc.1,λk row hk=>?_,λk j row y hk hy=>?_⟩
      ·rw[V1]at hk
       by_cases hik:i=k
       ·subst hik;rw[Un rfl,Un h2]at hk;injection hk with hk;subst hk;exact h1
       ·rw[Um hik]at hk;exact hc.2.1 k row hk
      ·rw[V1]at hk;rw[cB _ _ _ _ r]
       by_cases hik:i=k
       ·subst hik;rw[Un rfl,Un h2]at hk;injection hk with hk;subst hk;have t:j<sz:=by rw[<-h1];exact (Uh.1 hy).1
        have l:j<v.cells.toList.length:=by omega
        rw[Un (by omega),show i*sz+j - i*sz=j from by omega];exact⟨q2 j y hy,_,Uj l,q1.2 j y _ hy (Uj l)⟩
       ·rw[Um hik]at hk;have t:j<sz:=by rw[<-hc.2.1 k row hk];exact (Uh.1 hy).1
        rw[Um]
        ·exact hc.2.2 k j row y hk hy
        ·rintro⟨l1,l2⟩;exact hik (MQ (i:=i) (i':=k) t l1 (by omega)).symm
     obtain⟨c',B,C,D,E⟩:=ih (c:=bj c (i*sz) v.cells.toList) (n:=n) q (by simp[hl]) (by rw[bU];exact b)
      ⟨by have:=m.1;simpa using this,λk y u hy hu=>m.2 (k+1) y u (by simpa using hy) (by simpa using hu)⟩ h (by simpa using d)
     refine⟨c',?_,C,D,E⟩;have f:(v.cells.zipIdx.foldl (λcs (p:Value×Nat)=>cs.setIfInBounds (i*sz+p.2) p.1) c)=bj c (i*sz) v.cells.toList:=by rw[<-Array.foldl_toList,Array.toList_zipIdx];exact wP _ _ _ _
     have s:v.cells.size=sz:=by simpa using o
     simp only[Wk,Instr.fill];rw[Um (by simp[s];rw[b,<-hl];omega)];rw[show (v.cells.zipIdx.foldl (λcs x=>cs.setIfInBounds (i*sz+x.2) x.1) c)=_ from f];exact B
    ·cases h
theorem qV{sz:Nat}{rows:List (List AV)}{cs:Array Value}(e:TypeId)(hr:Rel C A bd w γ hg nx){g:G}(hf:(γ g.nx).kind=0)
  (h:RowsRel w γ A bd sz rows cs) (len cap:Nat) (loose:Bool) (slack:Nat) (hs:(loose=false->slack=0)/\(loose=true->rows.length+slack<=9223372036854775807)) (hc:(rows.length+slack)*sz<=cs.size)
  (hcap:cap=rows.length+slack) (hlen:len<=rows.length) :
  ∃γ',Rel C A bd (World.add w (.cells cs e (0,0))) γ' (upd hg g.nx (.cells sz rows 0 loose false)) (Nat.max nx (g.nx+1))/\Stp w γ (World.add w (.cells cs e (0,0))) γ' /\
   RV (World.add w (.cells cs e (0,0))) γ' A bd (.hsl g.nx 0 0 len none) (.slice (some (adr w.heap.size 0)) len cap):=by
 obtain⟨γ',k,a,b,j,r5,c,d,f,i⟩:=Ei (sz:=sz) (rows:=rows) (cs:=cs) e hr hf h.2.1 h.2.2 loose slack hs hc;refine⟨γ',k,a,.hsl _ _ _ _ _ _ _ _ _ b (by omega) (by omega) λ_=>⟨d.symm,by rw[f];simp,?_⟩⟩;simp only[iV,c,i];omega
theorem zL{sz:Nat}{parts:Array (Nat×Operand)}{zero:List AV}{vs:T->List AV}{t:T}{g:G}{ev:Operand->Value}
  (hr:Rel C A bd w γ hg nx) (hf:(γ g.nx).kind=0) (hu:C.P.underlying ty=some (.slice e)) (hsz:szT C.P e=some sz) (hz:gm C.P e=some zero)
  (hzl:zero.length=sz) (h0:0<sz) (hsmall:len*sz<=1048576) (hv:RVs w γ A bd (vs t) ((parts.toList.map (·.2)).map ev)) :
  dx C A bd w γ hg nx (Instr.buildSlice ty len (parts.map λ(i,x)=>(i,ev x))) g (iz sz len (ib len zero) (parts.toList.map (·.1)) vs t g):=by
 unfold iz;cases hfl:gY sz (ib len zero) ((parts.toList.map (·.1)).zip (vs t)) with
 |none=>trivial
 | some rows =>
  obtain⟨z,z1,z2⟩:=nN (w:=w) hz;have f:z.cells.size=sz:=by have:=(ox (w:=w) (γ:=γ) (A:=A) (bd:=bd) z2).1.1;simp at this;omega
  have hl:(parts.toList.map (·.1)).length=(vs t).length:=by have:=hv.1;simp at *;omega
  obtain⟨c',a,d,o,q⟩:=DX h0 (c:=ii z.cells (len*sz)) (n:=len) (ux (ty:=e) (w:=w) (γ:=γ) (A:=A) (bd:=bd) z2 hzl h0 (Ui _)) (by simp[ib]) (nS _ _) hv hfl hl;have he:(parts.map λ(i,x)=>(i,ev x)).toList=(parts.toList.map (·.1)).zip ((parts.toList.map (·.2)).map ev):=by
   rw[Array.toList_map]
   induction parts.toList with
   |nil=>rfl
   |cons p ps ih=>simp[ih]
  have k:(Instr.buildSlice ty len (parts.map λ(i,x)=>(i,ev x))).run C.P w=.ok (.slice (some (adr w.heap.size 0)) len len) (World.add w (.cells c' e (0,0))):=by
   have b:¬(2 ^ 24<len*sz):=by omega
   unfold Instr.buildSlice;rw[he]
   by_cases h:len*sz=0
   ·have e0:ii z.cells (len*sz)=#[]:=by rw[h];simp[ii]
    rw[e0]at a;have e1:(Array.range 0).map (λx=>(#[]:Array Value)[x % (#[]:Array Value).size]!)=#[]:=by simp
    simp only[Ut,aC hu,Uq,aZ hsz];rw[Um (by omega)];simp only[Ut,h,if_true,UN,Uq,e1,a,iv]
   ·have e0:(Array.range (len*sz)).map (λx=>z.cells[x % z.cells.size]!)=ii z.cells (len*sz):=rfl;simp only[Ut,aC hu,Uq,aZ hsz];rw[Um (by omega)];simp only[Ut,h,if_false,z1,Uq,UN,e0,a,iv]
  obtain⟨γ',j,l,m⟩:=qV (w:=w) e hr hf d len len false 0 ⟨λ_=>rfl,λh=>by cases h⟩ (by rw[VH];exact d.1) (by omega) (by omega);exact⟨_,_,γ',g.nx,_,k,m,l,.inr ⟨rfl,rfl,j⟩⟩
end
section
variable {t:T}{g:G}{a ix:T->AV}
section
variable {C:Cfg}{A:Nat->Nat->Prop}{bd:Nat}{w:World}{γ:Gm}{hg:Nat->AObj}{nx:Nat}
theorem wW{lim:Nat}{x:AV}(h:dN lim x=some n)(hv:RV w γ A bd x v):n<=lim/\∃k,v=.int k (n:Int):=by
 unfold dN at h
 split at h
 ·rw[aa]at h
  split at h
  ·rename_i hl;rw[UR]at hl;injection h with h;subst h;cases hv;exact⟨hl,_,rfl⟩
  ·cases h
 ·cases h
theorem rt(n:Nat)(h:n<9223372036854775808):IntKind.wrap .i64 (n:Int)=(n:Int):=nR n h
theorem B9{sz:Nat}{zero:List AV}{l c:T->AV}{vl vc:Value}
  (hr:Rel C A bd w γ hg nx) (hf:(γ g.nx).kind=0) (hu:C.P.underlying ty=some (.slice e)) (hsz:szT C.P e=some sz) (hby:jS C.P e=some bytes) (hz:gm C.P e=some zero)
  (hzl:zero.length=sz) (h0:0<sz) (hl:RV w γ A bd (l t) vl) (hc:RV w γ A bd (c t) vc) :
  dx C A bd w γ hg nx (Instr.makeSlice ty vl vc) g (it sz bytes zero l c t g):=by
 unfold it;cases hcn:dN bz (c t) with
 |none=>trivial
 | some cn =>
  dsimp only;cases hln:dN cn (l t) with
  |none=>trivial
  | some ln =>
   dsimp only;rw[aa]
   split
   ·rename_i k;rw[UR]at k;obtain⟨c1,kc,rfl⟩:=wW hcn hc;obtain⟨l1,kl,rfl⟩:=wW hln hl;obtain⟨z,z1,z2⟩:=nN (w:=w) hz;have d:z.cells.size=sz:=by have:=(ox (w:=w) (γ:=γ) (A:=A) (bd:=bd) z2).1.1;simp at this;omega
    unfold bz at c1 k;obtain⟨γ',m,o,p⟩:=qV (w:=w) (cs:=ii z.cells (cn*sz)) e hr hf (ux (ty:=e) (n:=cn) z2 hzl h0 (Ui _)) ln cn false 0 ⟨λ_=>rfl,λh=>by cases h⟩
     (by simp[ib,nS]) (by simp[ib]) (by simpa [ib] using l1)
    refine⟨_,_,γ',g.nx,_,?_,p,o,.inr ⟨rfl,rfl,m⟩⟩;have hi:∃i,C.P.info? e=some i/\i.bytes=bytes:=by
     unfold jS at hby;cases hie:C.P.info? e with
     |none=>rw[hie]at hby;cases hby
     |some i=>rw[hie]at hby;simp at hby;exact⟨i,rfl,hby⟩
    obtain⟨i,f,j⟩:=hi;have w1:=rt ln (by omega);have q:=rt cn (by omega);have a:¬((bytes:Int)*(cn:Int) > 2 ^ 48):=by rw[<-Vn,Wg];omega
    have b:¬((bytes:Int)*(ln:Int) > 2 ^ 48):=by have r:ln*bytes<=cn*bytes:=UB _ l1;rw[<-Vn,Wg];omega
    unfold Instr.makeSlice;simp only[Ut,aC hu,Uq,asInt,asIntOf,UN,lI f,j,w1,q];rw[Um (by simp only[UZ,UD,not_or];omega)];simp only[Ut,run_askRoom,Uq,aZ hsz,U2]
    by_cases h:cn*sz=0
    ·have e0:ii z.cells (cn*sz)=#[]:=by rw[h];simp[ii]
     have e1:(Array.range 0).map (λx=>(#[]:Array Value)[x % (#[]:Array Value).size]!)=#[]:=by simp
     rw[e0,h];simp only[if_true,Ut,UN,Uq,e1,iv]
    ·have e0:(Array.range (cn*sz)).map (λx=>z.cells[x % z.cells.size]!)=ii z.cells (cn*sz):=rfl;simp only[h,if_false,Ut,z1,Uq,UN,e0,iv]
   ·trivial
theorem tv{f:Field}{o:Nat}(hn:szT C.P f.type=some (n+1)):(fieldPlace (adr b o) f).run C.P w=.ok (adr b (o+f.offset)) w:=by unfold fieldPlace;simp only[Ut,aZ hn,Uq];rw[Um (by omega)];simp[gn]
theorem B4{f fo:Nat}{ft:TypeId}
  (ha:RV w γ A bd (a t) va) (hf:tw C.P ty f=some (fo,ft)) (hn:szT C.P ft=some (n+1)) :
  ValSim C A bd w γ (Instr.fieldAt ty va f) (ki fo a t g):=by
 unfold tw at hf;cases hu:C.P.underlying ty with
 |none=>rw[hu]at hf;cases hf
 | some d =>
  rw[hu]at hf;cases d with
  | struct fs =>
   dsimp only at hf;cases hx:fs[f]? with
   |none=>rw[hx]at hf;cases hf
   | some x =>
    rw[hx]at hf;injection hf with hf;injection hf with h1 h2;subst h1;subst h2;unfold ki;generalize a t=y at *;cases ha with
    | tptr _ tag sz rows i0 off0 b o cell ht hb hm ha' hrl ho hw h hcl =>
     refine⟨_,?_,.tptr _ tag sz rows i0 (off0+x.offset) b o cell ht hb hm ha' hrl ho hw h hcl⟩;simp[Instr.fieldAt,aC hu,hx,Instr.sureAddr,tv hn,Wc]
    | hptr _ id ep i off b o hk he h =>
     refine⟨.pointer (some (adr b (o+x.offset))),?_,.hptr _ id ep i (off+x.offset) b _ hk he λe=>?_⟩
     ·simp[Instr.fieldAt,aC hu,hx,Instr.sureAddr,tv hn]
     ·obtain⟨c1,k⟩:=h e;exact⟨c1,by rw[k];omega⟩
    |_=>trivial
  |_=>cases hf
theorem Gl{cs:List AV}{x:AV}(hc:pE w γ A bd cs c)
  (hag:rY C.P ty=some ag) (hn:szT C.P ty=some n) (h:ch ag n cs off=some x):∃v,(part ty c off).run C.P w=.ok v w/\RV w γ A bd x v:=by
 unfold ch at h;cases ag with
 | false =>
  simp only[dO]at h;have hl:off<c.toList.length:=by rw[<-hc.1.1];exact (Uh.1 h).1
  have k:off<c.size:=by simpa using hl
  refine⟨c[off],?_,hc.1.2 off x _ h (by simp[k])⟩;simp[part,mU hag,k]
 | true =>
  simp only[bk,bh,aq,aa]at h
  split at h
  ·rename_i hl;have hl:=aB hl;injection h with h;subst h;have a:cs.length=c.size:=by have:=hc.1.1;simpa using this
   have b:off+n<=c.size\/n=0:=by simp at hl;omega
   refine⟨.agg (c.extract off (off+n)),by simp[part,mU hag,aZ hn],.agg _ _ _ (by rw[hl];simp;omega) (λi y hy=>?_) (λi y v hy hv=>?_)⟩
   ·have hi:i<n:=by rw[<-hl];exact (Uh.1 hy).1
    rw[UV hi,UO]at hy;exact hc.2 _ _ hy
   ·have hi:i<n:=by rw[<-hl];exact (Uh.1 hy).1
    rw[UV hi,UO]at hy;rw[Array.getElem?_extract]at hv
    split at hv
    ·exact hc.1.2 _ _ _ hy (by simpa using hv)
    ·cases hv
  ·cases h
theorem Cj{cs:List AV}(h:RV w γ A bd (.agg cs) v):∃c,v=.agg c/\pE w γ A bd cs c:=by
 cases h with
 |agg _ _ c hl h1 h'=>exact⟨c,rfl,⟨by simpa using hl,λi x v hx hv=>h' i x v hx (by simpa using hv)⟩,h1⟩
theorem Ks{f fo:Nat}{ft:TypeId}{y:AV}
  (ha:RV w γ A bd y va) (hf:tw C.P ty f=some (fo,ft)) (hag:rY C.P ft=some ag) (hn:szT C.P ft=some n) :
  ValSim C A bd w γ (Instr.field ty va f) (match y with|.agg cs=>orV (ch ag n cs fo)|_=>.fail):=by
 unfold tw at hf;cases hu:C.P.underlying ty with
 |none=>rw[hu]at hf;cases hf
 | some d =>
  rw[hu]at hf;cases d with
  | struct fs =>
   dsimp only at hf;cases hx:fs[f]? with
   |none=>rw[hx]at hf;cases hf
   | some x =>
    rw[hx]at hf;injection hf with hf;injection hf with h1 h2;subst h1;subst h2;cases y with
    | agg cs =>
     obtain⟨c,rfl,hc⟩:=Cj ha;refine oy λz hz=>?_;obtain⟨v,h1,h2⟩:=Gl hc hag hn hz;exact⟨v,by simp[Instr.field,aC hu,hx,asAgg,h1],h2⟩
    |_=>trivial
  |_=>cases hf
theorem AI{k:IntKind}{n:Int}(h:RV w γ A bd (.int k n) v):v=.int k n:=by cases h;rfl
theorem FP{sz:Nat}(hr:Rel C A bd w γ hg nx)
  (ha:RV w γ A bd (a t) va) (hi:RV w γ A bd (ix t) vi) (hu:C.P.underlying ty=some (.slice e)) (hsz:szT C.P e=some sz)
  (agree:∀id∈af (a t),hg id=g.h.get id) :
  ValSim C A bd w γ (Instr.indexAt ty va vi) (gZ sz a ix t g):=by
 unfold gZ;generalize a t=y at *;generalize ix t=z at *;cases ha with
 | tsl _ tag sz' rows b o cap cell ht hc hb hm ha' hrl ho hw h hcl =>
  dsimp only
  split
  ·rename_i k i;rw[aa]
   split
   ·rename_i c;simp only[Uk,U_,aq]at c;obtain⟨h1,h2⟩:=c;have h1:=aB h1;subst h1;have f:=AI hi;subst f;refine⟨_,?_,.tptr _ tag sz rows i 0 b o cell ht hb hm ha' hrl ho hw h hcl⟩;simp[Instr.indexAt,asIntOf,aC hu,h2,aZ hsz,gn]
   ·trivial
  ·trivial
 | tnil _ tag sz' a' cap ht =>
  dsimp only
  split
  ·rename_i k i;rw[aa]
   split
   ·rename_i c;simp[aq]at c
   ·trivial
  ·trivial
 | hsl _ id ep off len lim b o cap hk he hc h =>
  have d:=agree id (by simp[af]);dsimp only
  split
  ·rename_i k i;simp only[G.get_eq,<-d];cases hid:hg id with
   | cells sz' rows ep' loose fz =>
    dsimp only;rw[aa]
    split
    ·rename_i c;simp only[Uk,U_]at c;obtain⟨⟨h1,h2⟩,m⟩:=c;have h1:=aB h1;have h2:=aB h2;subst h2;have f:=AI hi;subst f;have j:=hr.obj id;rw[hid]at j;obtain⟨p,k2,n,_⟩:=j;obtain⟨c1,l,_⟩:=h (h1.trans k2.symm);refine⟨.pointer (some (adr b (o+i*sz))),?_,.hptr _ id ep (off+i) 0 b _ hk he λ_=>⟨c1,?_⟩⟩
     ·simp[Instr.indexAt,asIntOf,aC hu,m,aZ hsz,gn]
     ·rw[l,n,UH];omega
    ·trivial
   |_=>trivial
  ·trivial
 |_=>trivial
theorem FO{sz:Nat}
  (ha:RV w γ A bd (a t) va) (hi:RV w γ A bd (ix t) vi) (hu:C.P.underlying ty=some (.array n e)) (hsz:szT C.P e=some sz) :
  ValSim C A bd w γ (Instr.indexAt ty va vi) (nG n sz a ix t g):=by
 unfold nG;generalize a t=y at *;generalize ix t=z at *
 split
 ·rename_i k i;rw[aa]
  split
  ·rename_i hlt;rw[U_]at hlt;have c:=AI hi;subst c;have h2:=hlt;cases ha with
   | tptr _ tag sz' rows i0 off0 b o cell ht hb hm ha' hrl ho hw h hcl =>
    refine⟨_,?_,.tptr _ tag sz' rows i0 (off0+i*sz) b o cell ht hb hm ha' hrl ho hw h hcl⟩;simp[Instr.indexAt,asIntOf,aC hu,h2,aZ hsz,gn,Instr.sureAddr,Wc]
   | hptr _ id ep j off b o hk he h =>
    refine⟨.pointer (some (adr b (o+i*sz))),?_,.hptr _ id ep j (off+i*sz) b _ hk he λe=>?_⟩
    ·simp[Instr.indexAt,asIntOf,aC hu,h2,aZ hsz,gn,Instr.sureAddr]
    ·obtain⟨c1,d⟩:=h e;exact⟨c1,by rw[d];omega⟩
   |_=>trivial
  ·trivial
 ·trivial
theorem KF{sz:Nat}
  (ha:RV w γ A bd (a t) va) (hi:RV w γ A bd (ix t) vi) (hu:C.P.underlying ty=some (.array n e)) (hag:rY C.P e=some ag) (hsz:szT C.P e=some sz) :
  ValSim C A bd w γ (Instr.index ty va vi) (vT ag n sz a ix t g):=by
 unfold vT;generalize a t=y at *;generalize ix t=z at *;cases y with
 | agg cs =>
  dsimp only
  split
  ·rename_i k i;rw[aa]
   split
   ·rename_i hlt;rw[U_]at hlt;have h:=AI hi;subst h;have h2:=hlt;obtain⟨c,rfl,hc⟩:=Cj ha;refine oy λx hx=>?_;obtain⟨v,h1,b⟩:=Gl hc hag hsz hx;exact⟨v,by simp[Instr.index,asIntOf,aC hu,h2,aZ hsz,h1],b⟩
   ·trivial
  ·trivial
 |_=>trivial
theorem D8
  (ha:RV w γ A bd (a t) va) (hi:RV w γ A bd (ix t) vi) (hu:C.P.underlying ty=some .string) :
  ValSim C A bd w γ (Instr.index ty va vi) (qf a ix t g):=by
 unfold qf;generalize a t=y at *;generalize ix t=z at *;cases ha with
 | str _ s =>
  dsimp only
  split
  ·rename_i k i;simp only[dO];cases hb:s.data.toList[i]? with
   |none=>trivial
   | some b =>
    have c:=AI hi;subst c;refine⟨.int .u8 b.toNat,?_,.int _ _ _⟩;have hlt:i<s.size:=by have:=(Uh.1 hb).1;simpa using this
    have h:s[i]?=some b:=by rw[getElem?_pos s i hlt];have:=(Uh.1 hb).2;rw[Array.getElem_toList]at this;exact congrArg some this
    simp[Instr.index,asIntOf,aC hu,h]
  ·trivial
 |_=>trivial
end
end
section
variable {rows:List (List AV)}
section
variable {C:Cfg}{A:Nat->Nat->Prop}{bd:Nat}{w w':World}{γ γ':Gm}{hg:Nat->AObj}{nx:Nat}
def RowsAt(w:World)(γ:Gm)(A:Nat->Nat->Prop)(bd sz:Nat)(rows:List (List AV))(b o:Nat):Prop :=
 (∀(i:Nat) row,rows[i]?=some row->row.length=sz) /\
 ∀(i j:Nat) row x,rows[i]?=some row->row[j]?=some x->x.one=true/\∃v,w.cell? (adr b (o+i*sz+j))=some v/\RV w γ A bd x v
theorem C8{sz k:Nat}(hr:∀(i:Nat) row,rows[i]?=some row->row.length=sz)(hk:k<rows.length*sz) :
  ∃row x,rows[k / sz]?=some row/\row[k % sz]?=some x:=by
 have h0:0<sz:=by
  rcases Nat.eq_zero_or_pos sz with h|h
  ·subst h;simp at hk
  ·exact h
 have hi:k / sz<rows.length:=by rw[Nat.div_lt_iff_lt_mul h0];exact hk
 have e:=Uj hi;have hl:=hr _ _ e;have a:k % sz<rows[k / sz].length:=by rw[hl];exact VT _ h0
 exact⟨_,_,e,Uj a⟩
theorem AT{sz o:Nat}(h:RowsAt w γ A bd sz rows b o)(P:Program) :
  ∃c,(loadCells (adr b o) (rows.length*sz)).run P w=.ok c w/\c.size=rows.length*sz/\RowsRel w γ A bd sz rows c:=by
 have n:∀k:Fin (rows.length*sz),∃v,w.cell? (adr b (o+k.1))=some v/\∀row x,rows[k.1 / sz]?=some row->row[k.1 % sz]?=some x->x.one=true/\RV w γ A bd x v:=by
  intro k;obtain⟨row,x,h1,h2⟩:=C8 h.1 k.2;obtain⟨a,v,c1,q⟩:=h.2 _ _ row x h1 h2;refine⟨v,?_,λrow' x' d e=>?_⟩
  ·have:o+k.1 / sz*sz+k.1 % sz=o+k.1:=by rw[Wc,Wg,Xe]
   rw[<-this];exact c1
  ·rw[h1]at d;injection d with d;subst d;rw[h2]at e;injection e with e;subst e;exact⟨a,q⟩
 let f:Fin (rows.length*sz)->Value:=λk=>Classical.choose (n k)
 have hf:=λk=>Classical.choose_spec (n k);have l:(List.ofFn f).length=rows.length*sz:=by simp
 have m:=uZ (P:=P) (w:=w) (b:=b) (o:=o) (cs:=List.ofFn f) (λj c hc=>by
  have p:j<rows.length*sz:=by rw[<-l];exact (Uh.1 hc).1
  rw[List.getElem?_ofFn]at hc;simp[p]at hc;rw[<-hc];exact (hf ⟨j,p⟩).1)
 rw[l]at m;refine⟨_,m,by simp,by simp,h.1,λi j row x h1 h2=>?_⟩;have hi:i<rows.length:=(Uh.1 h1).1;have p:j<sz:=by rw[<-h.1 i row h1];exact (Uh.1 h2).1
 have hk:i*sz+j<rows.length*sz:=by have:(i+1)*sz<=rows.length*sz:=UB _ hi;rw[UH,Vk]at this;omega
 have e1:(i*sz+j) / sz=i:=by rw[We,V7 _ _ (by omega),VN p];omega
 obtain⟨a,b'⟩:=(hf ⟨i*sz+j,hk⟩).2 row x (by rw[e1];exact h1) (by rw[Jk p];exact h2);exact⟨a,f ⟨i*sz+j,hk⟩,by simp[hk],b'⟩
theorem RowsAt.sub{sz o:Nat}(h:RowsAt w γ A bd sz rows b o)(l n:Nat):RowsAt w γ A bd sz ((rows.drop l).take n) b (o+l*sz):=by
 refine⟨λi row hi=>?_,λi j row x hi hj=>?_⟩
 ·have k:i<n:=by have:=(Uh.1 hi).1;simp at this;omega
  rw[UV k,UO]at hi;exact h.1 _ _ hi
 ·have k:i<n:=by have:=(Uh.1 hi).1;simp at this;omega
  rw[UV k,UO]at hi;obtain⟨a,v,c1,c⟩:=h.2 _ _ row x hi hj;exact⟨a,v,by rw[show o+l*sz+i*sz+j=o+(l+i)*sz+j from by rw[UH];omega];exact c1,c⟩
theorem A6(hr:Rel C A bd w γ hg nx){id sz:Nat}{fz:Bool}(hid:hg id=.cells sz rows ep loose fz) :
  RowsAt w γ A bd sz rows (γ id).blk (γ id).base:=by
 have h:=hr.obj id;rw[hid]at h;obtain⟨b,k2,d,f,l,m,c,e,n,o,a,k⟩:=h;exact⟨a,λi j row x h1 h2=>ur hr hid h1 j x h2⟩
theorem HZ(hr:Rel C A bd w γ hg nx){sz:Nat}{x:AV}{h:H}(hx:RV w γ A bd x v)
  (hrow:ah h sz x=some rows) (agree:∀id∈af x,hg id=h.get id) :
  ∃b o cap,(v=.slice none 0 0/\rows=[]\/v=.slice (some (adr b o)) rows.length cap\/(∃a,v=.slice (some a) 0 cap)/\rows=[])/\RowsAt w γ A bd sz rows b o:=by
 unfold ah at hrow;cases hx with
 |nils=>injection hrow with hrow;subst hrow;exact⟨0,0,0,.inl ⟨rfl,rfl⟩,λi row h=>by simp at h,λi j row x h=>by simp at h⟩
 |esl _ a=>injection hrow with hrow;subst hrow;exact⟨0,0,0,.inr (.inr ⟨⟨a,rfl⟩,rfl⟩),λi row h=>by simp at h,λi j row x h=>by simp at h⟩
 | tnil _ tag sz' a cap ht =>
  simp only[aa]at hrow
  split at hrow
  ·injection hrow with hrow;subst hrow;exact⟨0,0,cap,.inr (.inr ⟨⟨a,rfl⟩,rfl⟩),λi row h=>by simp at h,λi j row x h=>by simp at h⟩
  ·cases hrow
 | tsl _ tag sz' rows' b o cap cell ht hc hb hm ha hrl ho hw h =>
  simp only[aa]at hrow
  split at hrow
  ·rename_i hcond;injection hrow with hrow;subst hrow;refine⟨b,o,cap,.inr (.inl rfl),?_⟩;simp only[UZ]at hcond;rcases hcond with hcond|hcond
   ·have:=aB hcond;subst this;exact⟨hrl,λi j row x h1 h2=>⟨ho i j row x h1 h2,_,hw i j row x h1 h2,(h i j row x h1 h2).mono ht⟩⟩
   ·have:rows'=[]:=by cases rows'<;>simp_all
    subst this;exact⟨λi row h=>by simp at h,λi j row x h=>by simp at h⟩
  ·cases hrow
 | hsl _ id ep off len lim b o cap hk he hc h =>
  have k:=agree id (by simp[af]);dsimp only at hrow;rw[<-k]at hrow;cases hid:hg id with
  | cells sz' rows' ep' loose fz =>
   rw[hid]at hrow;simp only[aa,aq,bk,bh]at hrow
   split at hrow
   ·rename_i hcond;simp only[Uk,UR]at hcond;obtain⟨⟨h1,h2⟩,f⟩:=hcond;have h1:=aB h1;have h2:=aB h2;subst h2;injection hrow with hrow;subst hrow;have c:=hr.obj id;rw[hid]at c;obtain⟨l,k2,e,_⟩:=c;obtain⟨c1,d,_⟩:=h (h1.trans k2.symm);refine⟨b,o,cap,.inr (.inl ?_),?_⟩
    ·simp;omega
    ·rw[c1,d,e];exact (A6 hr hid).sub off len
   ·cases hrow
  |_=>rw[hid]at hrow;cases hrow
 |_=>cases hrow
theorem RowsRel.append{sz:Nat}{r1 r2:List (List AV)}{c1 c2:Array Value}(h1:RowsRel w γ A bd sz r1 c1)(e1:c1.size=r1.length*sz)(h2:RowsRel w γ A bd sz r2 c2) :
  RowsRel w γ A bd sz (r1++r2) (c1++c2):=by
 refine⟨by have:=h2.1;simp[UH];omega,λi row hi=>?_,λi j row x hi hj=>?_⟩
 ·rw[Wo]at hi
  split at hi
  ·exact h1.2.1 _ _ hi
  ·exact h2.2.1 _ _ hi
 ·rw[Wo]at hi
  split at hi
  ·rename_i hlt;obtain⟨a,v,b1,b2⟩:=h1.2.2 i j row x hi hj;have h:=(Vf.1 b1).1;exact⟨a,v,by rw[Vp h];exact b1,b2⟩
  ·rename_i k;obtain⟨a,v,b1,b2⟩:=h2.2.2 _ j row x hi hj;have:i*sz=r1.length*sz+(i - r1.length)*sz:=by rw[<-UH];congr 1;omega
   refine⟨a,v,?_,b2⟩;rw[Array.getElem?_append_right (by omega),<-b1];congr 1;omega
theorem RowsRel.more{sz:Nat}{r1:List (List AV)}{c1 c2:Array Value}(h1:RowsRel w γ A bd sz r1 c1):RowsRel w γ A bd sz r1 (c1++c2):=by refine⟨by have:=h1.1;simp;omega,h1.2.1,λi j row x hi hj=>?_⟩;obtain⟨a,v,b1,b2⟩:=h1.2.2 i j row x hi hj;have h:=(Vf.1 b1).1;exact⟨a,v,by rw[Vp h];exact b1,b2⟩
theorem RowsRel.step{sz:Nat}{r1:List (List AV)}{c1:Array Value}(h1:RowsRel w γ A bd sz r1 c1)(s:Stp w γ w' γ'):RowsRel w' γ' A bd sz r1 c1 :=
 ⟨h1.1,h1.2.1,λi j row x hi hj=>let ⟨a,v,b1,b2⟩:=h1.2.2 i j row x hi hj;⟨a,v,b1,b2.step s⟩⟩
theorem RowsRel.flat{sz:Nat}(h:RowsRel w γ A bd sz rows c)(e:c.size=rows.length*sz) :
  RVs w γ A bd rows.flatten c.toList/\(∀(i:Nat) y,rows.flatten[i]?=some y->y.one=true) /\
  (∀(i j:Nat) row,rows[i]?=some row->j<sz->rows.flatten[i*sz+j]?=row[j]?):=by
 have f:rows.flatten.length=rows.length*sz:=by
  have h2:=h.2.1;clear e h
  induction rows with
  |nil=>simp
  | cons r rs ih =>
   have h0:=h2 0 r rfl;simp only[VZ,VG,UX,UH,Vk];rw[ih (λi row hi=>h2 (i+1) row (by simpa using hi)),h0];omega
 have d:∀(i j:Nat) row,rows[i]?=some row->j<sz->rows.flatten[i*sz+j]?=row[j]?:=by
  have h2:=h.2.1;clear e f h
  induction rows with
  |nil=>intro i j row hi;simp at hi
  | cons r rs ih =>
   intro i j row hi n;have h0:=h2 0 r rfl;cases i with
   |zero=>simp at hi;subst hi;simp only[VZ,W9,UU];rw[UF (by omega)]
   | succ i =>
    simp only[VZ];rw[UH,Vk,UA (by omega),h0,show i*sz+sz+j - sz=i*sz+j from by omega];exact ih (λi row hi=>h2 (i+1) row (by simpa using hi)) i j row (by simpa using hi) n
 have b:∀(k:Nat) y,rows.flatten[k]?=some y->∃row,rows[k / sz]?=some row/\row[k % sz]?=some y/\k / sz*sz+k % sz=k:=by
  intro k y l;have hk:k<rows.length*sz:=by rw[<-f];exact (Uh.1 l).1
  obtain⟨row,x,h1,h2⟩:=C8 h.2.1 hk;have h0:0<sz:=by
   rcases Nat.eq_zero_or_pos sz with h|h
   ·subst h;simp at hk
   ·exact h
  have ek:k / sz*sz+k % sz=k:=by rw[Wg,Xe]
  have:=d _ _ row h1 (VT k h0);rw[ek,l]at this;exact⟨row,h1,this.symm,ek⟩
 refine⟨⟨by rw[f];simp[e],λk y v l hv=>?_⟩,λk y l=>?_,d⟩
 ·obtain⟨row,h1,h2,m⟩:=b k y l;obtain⟨a,u,b1,b2⟩:=h.2.2 _ _ row y h1 h2;rw[m]at b1;simp only[WX]at hv;rw[hv]at b1;injection b1 with b1;subst b1;exact b2
 ·obtain⟨row,h1,h2,m⟩:=b k y l;exact (h.2.2 _ _ row y h1 h2).1
end
end
section
variable {rows:List (List AV)}
section
variable {C:Cfg}{A:Nat->Nat->Prop}{bd:Nat}{w w':World}{γ γ':Gm}{hg:Nat->AObj}{nx:Nat}
def World.drewn(w:World):World:={ w with drawn:=w.drawn+1 }
theorem yh:Stp w γ (World.drewn w) γ :=
 ⟨Ui _,rfl,rfl,rfl,λ_ _ _=>rfl,λ_ _ h=>h,λ_ _=>.inl ⟨rfl,rfl⟩,λ_ _=>⟨Ui _,λ_=>⟨rfl,rfl,rfl,rfl,rfl⟩⟩,V6 _⟩
theorem Rel.stpSame(h:Rel C A bd w γ hg nx)(s:Stp w γ w' γ)(hh:w'.heap=w.heap):Rel C A bd w' γ hg nx where
 obj id:=(h.obj id).step s rfl (λ_ _=>by rw[hh])
 lt id hk:=by rw[hh];exact h.lt id hk
 inj:=h.inj
 av:=h.av
 ab t b hb:=by rw[hh];exact h.ab t b hb
 glob g sz rows hg:=(h.glob g sz rows hg).step s
theorem y6(need cap:Nat)(h:cap<need):Builtin.nextslicecap need cap<=2*need+192:=by
 have grow:∀(r c:Nat),c<=2*need+192->Builtin.growBy need r c<=2*need+192:=by
  intro r
  induction r with
  |zero=>intro c hc;exact hc
  | succ r ih =>
   intro c hc;simp only[Builtin.growBy]
   split
   ·exact hc
   ·exact ih _ (by omega)
 unfold Builtin.nextslicecap
 split
 ·omega
 ·split
  ·omega
  ·exact grow _ _ (by omega)
theorem Nv:∀{vs:List Value} {as:List AV},y7 vs=some as->vs.length=as.length:=by
 intro vs
 induction vs with
 |nil=>intro as h;simp[y7]at h;subst h;rfl
 | cons v vs ih =>
  intro as h;simp only[y7]at h
  split at h
  ·rename_i a as' h1 h2;injection h with h;subst h;simp[ih h2]
  ·cases h
structure Src (C:Cfg) (A:Nat->Nat->Prop) (bd sz:Nat) (w:World) (γ:Gm) (new:List (List AV)) (m:Sem (Array Value)):Prop where
 run:∀w1:World,w1.heap=w.heap->∃c,m.run C.P w1=.ok c w1/\c.size=new.length*sz/\RowsRel w γ A bd sz new c
def iW(e:TypeId)(sz bytes:Nat)(base:Option Addr)(sLen sCap n:Nat)(ii:Bool)(s x:Value)(appended:Sem (Array Value)):Sem Value:=do
 let need:=sLen+n
 if need<=sCap then
  let new <-appended
  if let some a:=base then storeCells (a.add (sLen*sz)) new.toList
  pure (.slice base need sCap)
 else
  if (need : Int) > IntKind.i64.max ∧ (ii ∨ (← typeInfo e).bytes = 0) then runtimePanic (.error "growslice: len out of range")
  if Builtin.nextslicecap need sCap * (← typeInfo e).bytes > 2 ^ 48 then (if ii then runtimePanic (.error "growslice: len out of range") else do
   if !(<-Builtin.mayShare sz sLen n base x) then mark .noRoom
   unsupported (.resourceLimit "append: a slice or a string whose bytes no memory bears"))
  let newCap <-choose (.appendCap need sCap e)
  askRoom (newCap*(<-typeInfo e).bytes)
  let old <-Builtin.firstCells sz sLen s
  let new <-appended
  let rest:=Builtin.zeroCells (<-zeroValue e).cells (newCap - need)
  pure (.slice (some (<-newRow e (old++new++rest))) need newCap)
theorem qs{sz:Nat}{base:Option Addr}{sLen sCap:Nat}{zs:Bool}{s x:Value}{appended:Sem (Array Value)}{zero:List AV}
  (hby:jS C.P e=some bytes) (hz:gm C.P e=some zero) (hzl:zero.length=sz) (h0:0<bytes) (hroom:(sLen+n)*bytes<=bz) (hn:¬sLen+n<=sCap)
  {oldc newc:Array Value} (hold:(Builtin.firstCells sz sLen s).run C.P (World.drewn w)=.ok oldc (World.drewn w))
  (hnew:appended.run C.P (World.drewn w)=.ok newc (World.drewn w)) :
  ∃newCap rest,(sLen+n<=newCap/\newCap<=9223372036854775807)/\rest.size=(newCap - (sLen+n))*sz /\
   (iW e sz bytes base sLen sCap n zs s x appended).run C.P w =
    .ok (.slice (some (adr w.heap.size 0)) (sLen+n) newCap) (World.add (World.drewn w) (.cells (oldc++newc++rest) e (0,0))):=by
 have hi:∃i,C.P.info? e=some i/\i.bytes=bytes:=by
  unfold jS at hby;cases hie:C.P.info? e with
  |none=>rw[hie]at hby;cases hby
  |some i=>rw[hie]at hby;simp at hby;exact⟨i,rfl,hby⟩
 obtain⟨i,j,m⟩:=hi;obtain⟨z,z1,z2⟩:=nN (w:=World.drewn w) hz;have f:z.cells.size=sz:=by have:=Nv z2;simp at this;omega
 unfold bz at hroom;have p:sLen+n<=(sLen+n)*bytes:=Nat.le_mul_of_pos_right _ h0;have d:=y6 (sLen+n) sCap (by omega);have o:Builtin.nextslicecap (sLen+n) sCap*bytes<=2 ^ 48:=by
  have h1:Builtin.nextslicecap (sLen+n) sCap*bytes<=(2*(sLen+n)+192)*bytes:=UB _ d;have h2:bytes<=(sLen+n)*bytes:=Nat.le_mul_of_pos_left _ (by omega);have r:(2*(sLen+n)+192)*bytes=2*((sLen+n)*bytes)+192*bytes:=by rw[UH,WW]
  omega
 let q:Question:=.appendCap (sLen+n) sCap e
 let newCap:=q.cut (w.tape w.drawn q)
 have k:sLen+n<=newCap/\newCap<=9223372036854775807:=by have l:w.tape w.drawn q % (2 ^ 63 - (sLen+n))<2 ^ 63 - (sLen+n):=VT _ (by omega);have:newCap=(sLen+n)+w.tape w.drawn q % (2 ^ 63 - (sLen+n)):=rfl;omega
 refine⟨newCap,Builtin.zeroCells z.cells (newCap - (sLen+n)),k,by simp[Builtin.zeroCells,f],?_⟩;unfold iW;have a:¬(((sLen+n:Nat):Int) > IntKind.i64.max):=by
  have:IntKind.i64.max=9223372036854775807:=by decide
  rw[this];omega
 have b:(choose (.appendCap (sLen+n) sCap e)).run C.P w=.ok newCap (World.drewn w):=by rw[run_choose];rfl
 have c:¬(Builtin.nextslicecap (sLen+n) sCap*bytes > 2 ^ 48):=by omega
 dsimp only;rw[Um hn];simp only[Ut,lI j,Uq,m];rw[Um (λh=>a h.1)];simp only[Uq,Ut,lI j,m];rw[Um c];simp only[Ut,UN,Uq,b,lI j,run_askRoom,hold,hnew,z1,iv]
 rfl
theorem se{sz:Nat}{base:Option Addr}{sLen sCap:Nat}{zs:Bool}{s x:Value}{appended:Sem (Array Value)}
  (hn:sLen+n<=sCap) {newc:Array Value} (hnew:appended.run C.P w=.ok newc w) :
  (iW e sz bytes base sLen sCap n zs s x appended).run C.P w =
   match base with
   |none=>.ok (.slice none (sLen+n) sCap) w
   |some a=>((storeCells (a.add (sLen*sz)) newc.toList).run C.P w).andThen λ_ w'=>.ok (.slice (some a) (sLen+n) sCap) w':=by
 unfold iW;dsimp only;rw[Un hn];simp only[Ut,hnew,Uq];cases base with
 |none=>simp
 |some a=>simp
theorem tH(hr:Rel C A bd w γ hg nx){id sz:Nat}{lim:Option Nat}{fz:Bool}
  (hv:RV w γ A bd (.hsl id ep off len lim) v) (hid:hg id=.cells sz rows ep loose fz) :
  ∃cap,v=.slice (some (adr (γ id).blk ((γ id).base+off*sz))) len cap/\len<=cap/\iV lim off cap (γ id):=by
 cases hv with
 | hsl _ _ _ _ _ _ b o cap hk he hc h =>
  have k:=hr.obj id;rw[hid]at k;obtain⟨e,k2,d,_⟩:=k;obtain⟨c1,a,c⟩:=h k2.symm;exact⟨cap,by rw[c1,a,d],hc,c⟩
theorem tz{o cap sz:Nat}(h:RowsAt w γ A bd sz rows b o)(hl:rows.length=len) :
  ∃c,(Builtin.firstCells sz len (.slice (some (adr b o)) len cap)).run P w=.ok c w/\c.size=rows.length*sz/\RowsRel w γ A bd sz rows c:=by
 obtain⟨c,h1,h2,k⟩:=AT h P;exact⟨c,by simp only[Builtin.firstCells];rw[<-hl];exact h1,h2,k⟩
theorem RowsAt.same{sz o:Nat}(h:RowsAt w γ A bd sz rows b o)(s:Stp w γ w' γ)(hh:w'.heap=w.heap):RowsAt w' γ A bd sz rows b o :=
 ⟨h.1,λi j row x h1 h2=>let ⟨a,v,c,d⟩:=h.2 i j row x h1 h2;⟨a,v,by rw[zc (w:=w) (w':=w') (by rw[hh])];exact c,d.step s⟩⟩
theorem RowsRel.back{sz:Nat}(h:RowsRel (World.drewn w) γ A bd sz rows c):RowsRel w γ A bd sz rows c:=by obtain⟨h1,h2,k⟩:=h;exact⟨h1,h2,λi j row x a b=>let ⟨c,v,d,e⟩:=k i j row x a b;⟨c,v,d,e.heap rfl⟩⟩
theorem xQ{sz:Nat}{cs:Array Value}(hr:Rel C A bd w γ hg nx){g:G}(hf:(γ g.nx).kind=0)
  (h:RowsRel w γ A bd sz rows cs) (len cap:Nat) (hc:cap*sz<=cs.size) (hcap:rows.length<=cap) (hlen:len=rows.length) (hmax:cap<=9223372036854775807) :
  ∃γ',Rel C A bd (World.add (World.drewn w) (.cells cs e (0,0))) γ' (upd hg g.nx (.cells sz rows 0 true false)) (Nat.max nx (g.nx+1)) /\
   Stp w γ (World.add (World.drewn w) (.cells cs e (0,0))) γ' /\
   RV (World.add (World.drewn w) (.cells cs e (0,0))) γ' A bd (.hsl g.nx 0 0 len none) (.slice (some (adr w.heap.size 0)) len cap):=by
 have a:Stp w γ (World.drewn w) γ:=yh;have k:=hr.stpSame a rfl;obtain⟨γ',b,c,d⟩:=qV (w:=World.drewn w) e k hf (h.step a) len cap true (cap - rows.length) ⟨λh=>(by cases h),λ_=>(by omega)⟩
  (by rw[show rows.length+(cap - rows.length)=cap from by omega];exact hc) (by omega) (by omega)
 exact⟨γ',b,a.trans c,d⟩
theorem Rel.moved(hr:Rel C A bd w γ hg nx){id:Nat}{sz:Nat}{rows':List (List AV)}(hid:hg id=.cells sz rows ep loose false)
  {w1:World} {gh:Gh} (h1:gh.kind=1) (h2:gh.ep=ep+1) (h3:gh.sz=sz) (h4:gh.n=rows'.length) (h5:gh.wr=true)
  (hos:w1.os=w.os/\w1.tape=w.tape/\w1.output=w.output/\w.heap.size<=w1.heap.size) (hdr:w.drawn<=w1.drawn)
  (hmax:rows'.length+gh.slack<=9223372036854775807) (hb:gh.blk=(γ id).blk\/(gh.blk=w.heap.size/\w.heap.size<w1.heap.size))
  (hheap:∀b,b<w.heap.size->b≠(γ id).blk->w1.heap[b]?=w.heap[b]?)
    (hc:w1.heap[gh.blk]?=some (.cells c e (0,0))) (hsz:gh.base+(rows'.length+gh.slack)*sz<=c.size)
  (hrl:∀(i:Nat) row,rows'[i]?=some row->row.length=sz)
  (hcell:∀(i j:Nat) row x,rows'[i]?=some row->row[j]?=some x->x.one=true/\∃v,c[gh.base+i*sz+j]?=some v/\RV w γ A bd x v) :
  Rel C A bd w1 (upd γ id gh) (upd hg id (.cells sz rows' (ep+1) true false)) nx/\Stp w γ w1 (upd γ id gh):=by
 have k:=hr.obj id;rw[hid]at k;obtain⟨f,k2,q,r,u,o,_⟩:=k;have hk:(γ id).kind≠0:=by rw[f];decide
 have hw:(γ id).wr=true:=by simpa using o
 have hlt:=hr.lt id hk;have s:Stp w γ w1 (upd γ id gh):=by
  refine⟨hos.2.2.2,hos.1,hos.2.1,hos.2.2.1,λb hb' hm=>hheap b hb' (λe=>hm ⟨id,hk,hw,e.symm⟩),λb hb'=>?_,λj hj=>?_,λj hj=>?_,hdr⟩
  ·rintro⟨j,l,m,d⟩
   by_cases hj:j=id
   ·subst hj;simp only[upd_same]at d;rcases hb with hb|hb
    ·exact⟨j,hk,hw,by rw[<-hb];exact d⟩
    ·omega
   ·rw[cJ _ _ hj]at l m d;exact⟨j,l,m,d⟩
  ·by_cases hji:j=id
   ·subst hji;rw[upd_same];exact .inr ⟨f,h1,by rw[h2,k2];omega⟩
   ·rw[cJ _ _ hji];exact .inl ⟨rfl,rfl⟩
  ·by_cases hji:j=id
   ·subst hji;rw[upd_same,h2,k2];exact⟨by omega,λh=>by omega⟩
   ·rw[cJ _ _ hji];exact⟨Ui _,λ_=>⟨rfl,rfl,rfl,rfl,rfl⟩⟩
 refine⟨hr.set rfl s (Ui _) ?_ ⟨hlt.1,?_⟩ (λj hj hkj e=>?_) ?_ (λj hj hkj _=>?_),s⟩
 ·simp only[ObjRel,upd_same];refine⟨h1,h2,h3,h4,⟨λh=>(by cases h),λ_=>hmax⟩,by rw[h5];rfl,c,e,hc,hsz,hrl,λi j row x a b=>?_⟩;obtain⟨p,v,q1,q2⟩:=hcell i j row x a b;exact⟨p,v,q1,q2.step s⟩
 ·rcases hb with hb|hb
  ·rw[hb];omega
  ·omega
 ·rcases hb with hb|hb
  ·exact hj (hr.inj j id hkj hk (by rw[e,hb]))
  ·have:=(hr.lt j hkj).2;omega
 ·rcases hb with hb|hb
  ·rw[hb];exact hr.av id hk
  ·exact λt ht=>by have:=hr.ab t _ ht;omega
 ·exact hheap _ (hr.lt j hkj).2 (λe=>hj (hr.inj j id hkj hk e))
end
end
section
variable {rows:List (List AV)}
section
variable {C:Cfg}{A:Nat->Nat->Prop}{bd:Nat}{w w':World}{γ γ':Gm}{hg:Nat->AObj}{nx:Nat}
theorem jA(a:Addr):(storeCells a []).run P w=.ok () w:=rfl
theorem Gp{new:List (List AV)}(h:off+new.length<=rows.length) :
  (mG rows off new).length=rows.length/\∀i,(mG rows off new)[i]?=if off<=i/\i<off+new.length then new[i - off]? else rows[i]?:=by
 unfold mG;simp only[il,bk,bh,aq]
 split
 ·rename_i r;refine⟨by simp,λi=>?_⟩;simp only[UX,V8]at h ⊢;rw[V1]
  by_cases hi:off=i
  ·subst hi;rw[Un rfl,Un (by omega),Un (by omega)];simp
  ·rw[Um hi,Um (by omega)]
 ·refine⟨by simp;omega,λi=>?_⟩
  by_cases h1:i<off
  ·rw[Um (by omega),UF (by simp;omega),UV h1]
  ·rw[UA (by simp;omega)];simp only[U0,Wi (show off<=rows.length by omega)]
   by_cases h2:i<off+new.length
   ·rw[Un ⟨by omega,h2⟩,UF (by omega)]
   ·rw[Um (by omega),UA (by omega),UO];congr 1;omega
theorem Rel.storeRows(hr:Rel C A bd w γ hg nx){id sz:Nat}{new:List (List AV)}(hid:hg id=.cells sz rows ep loose false)
   (hc:RowsRel w γ A bd sz new c) (hcs:c.size=new.length*sz) (hle:off+new.length<=rows.length) (P:Program) :
  ∃w',(Go.storeCells (adr (γ id).blk ((γ id).base+off*sz)) c.toList).run P w=.ok () w' /\
   Rel C A bd w' γ (upd hg id (.cells sz (mG rows off new) ep loose false)) nx/\Stp w γ w' γ:=by
 obtain⟨p1,p2⟩:=Gp hle;have a:=hr.obj id;rw[hid]at a;obtain⟨n,k2,p,q,r,s,cc,e,t,u,d,l⟩:=a;obtain⟨f1,f2,f⟩:=hc.flat hcs;have hcl:c.toList.length=new.length*sz:=by simp[hcs]
 have k:(off+new.length)*sz<=rows.length*sz:=UB _ hle;rw[UH]at k;refine hr.storeCells hid (o:=(γ id).base+off*sz) (xs:=new.flatten) f1 f2 p1 (λi row hi=>?_) ⟨by omega,by omega⟩ (λi j row x hi hj=>?_) P
 ·rw[p2]at hi
  split at hi
  ·exact hc.2.1 _ _ hi
  ·exact d _ _ hi
 ·rw[p2]at hi;rw[hcl];have b:j<sz:=by
   have hl:row.length=sz:=by
    split at hi
    ·exact hc.2.1 _ _ hi
    ·exact d _ _ hi
   rw[<-hl];exact (Uh.1 hj).1
  by_cases hcond:off<=i/\i<off+new.length
  ·rw[Un hcond]at hi;have h1:off*sz<=i*sz:=UB _ hcond.1;have h2:(i+1)*sz<=(off+new.length)*sz:=UB _ hcond.2;rw[UH,Vk,UH]at h2;rw[Un (by omega)];have m:(i - off)*sz+off*sz=i*sz:=by rw[<-UH];congr 1;omega
   rw[show (γ id).base+i*sz+j - ((γ id).base+off*sz)=(i - off)*sz+j from by omega,f _ _ row hi b];exact hj
  ·rw[Um hcond]at hi;rw[Um]
   ·exact⟨row,hi,hj⟩
   ·rintro⟨l1,l2⟩;apply hcond;refine⟨?_,?_⟩
    ·rcases VI i off with h|h
     ·have:(i+1)*sz<=off*sz:=UB _ h;rw[UH,Vk]at this;omega
     ·exact h
    ·rcases VI i (off+new.length) with h|h
     ·exact h
     ·have:(off+new.length)*sz<=i*sz:=UB _ h;rw[UH]at this;omega
theorem Of(h:off+len<=rows.length):((rows.drop off).take len).length=len:=by simp;omega
noncomputable def zF(sz bytes:Nat)(s0:AV)(new:List (List AV))(g:G):OR :=
 match new with
 |[]=>.val s0
 |_=>ak (Nat.ble (bi new*bytes) bz) (.upd (.hsl g.nx 0 0 (bi new) none) (g.new (.cells sz new 0 true false))) .fail
theorem sg{sz:Nat}{zero:List AV}{s:AV}{x:Value}{new:List (List AV)}{zs:Bool}{appended:Sem (Array Value)}{g:G}
  (hr:Rel C A bd w γ hg nx) (hf:(γ g.nx).kind=0) (hs:RV w γ A bd s v) (hby:jS C.P e=some bytes) (hz:gm C.P e=some zero) (hzl:zero.length=sz)
  (hb0:0<bytes) (happ:∀w1:World,w1=w\/w1=World.drewn w->∃c,appended.run C.P w1=.ok c w1/\c.size=new.length*sz/\RowsRel w γ A bd sz new c)
  (agree:∀id∈af s,hg id=g.h.get id) :
  bA sz bytes s new g=.fail\/∃base sLen sCap,v=.slice base sLen sCap /\
   dx C A bd w γ hg nx (iW e sz bytes base sLen sCap new.length zs v x appended) g (bA sz bytes s new g):=by
 have D:∀(base:Option Addr) (cap:Nat),new=[]->∀len,len<=cap->(iW e sz bytes base len cap new.length zs (.slice base len cap) x appended).run C.P w=.ok (.slice base len cap) w:=by
  intro base cap hn len hl;obtain⟨c,c1,u,_⟩:=happ w (.inl rfl);have K:c=#[]:=by rw[hn]at u;simpa using u
  rw[se (by rw[hn];simpa using hl) c1,hn,K];cases base<;>simp[jA]
 have B:∀(base:Option Addr) (W:AV),RV w γ A bd W (.slice base 0 0)->(Builtin.firstCells sz 0 (.slice base 0 0)).run C.P (World.drewn w)=.ok #[] (World.drewn w) ->
   zF sz bytes W new g=.fail \/
   dx C A bd w γ hg nx (iW e sz bytes base 0 0 new.length zs (.slice base 0 0) x appended) g (zF sz bytes W new g):=by
  intro base W hd V;rcases hnew:new with _|⟨r,rs⟩
  ·exact .inr ⟨.slice base 0 0,hnew ▸ D base 0 hnew 0 (Ui _),hd⟩
  ·rw[<-hnew];have h9:zF sz bytes W new g=ak (Nat.ble (bi new*bytes) bz) (OR.upd (.hsl g.nx 0 0 (bi new) none) (g.new (.cells sz new 0 true false))) OR.fail:=by rw[hnew];rfl
   rw[h9];simp only[aq,aa]
   split
   ·rename_i I;rw[UR]at I;refine .inr ?_;obtain⟨c,c1,u,E⟩:=happ (World.drewn w) (.inr rfl);have hq:0<new.length:=by rw[hnew];simp
    obtain⟨newCap,rest,n1,n2,n3⟩:=qs (zs:=zs) (x:=x) (w:=w) hby hz hzl hb0 (sLen:=0) (n:=new.length) (sCap:=0) (by simpa using I) (by omega) V c1;have z:newCap*sz<=(#[]++c++rest).size:=by simp only[Array.size_append,n2,u,List.size_toArray,V8];rw[UU,<-UH];apply UB;omega
    obtain⟨γ',R,S,s3⟩:=xQ (e:=e) (cs:=#[]++c++rest) hr hf (by simpa using E.more) new.length newCap z (by omega) rfl n1.2;rw[UU]at n3;exact⟨_,_,γ',g.nx,_,n3,s3,S,.inr ⟨rfl,rfl,R⟩⟩
   ·exact .inl rfl
 unfold bA;cases hs with
 |nils=>exact (B none .nils (.nils _) (by simp[Builtin.firstCells])).imp id λh=>⟨none,0,0,rfl,h⟩
 |esl _ a=>exact (B (some a) .esl (.esl _ a) (by simp[Builtin.firstCells,loadCells,loadCellsFrom])).imp id λh=>⟨some a,0,0,rfl,h⟩
 | tsl _ tag sz' rows b o cap cell ht hc hb hm ha hrl ho hw h hcl =>
  cases hnew:new with
  | nil =>
   refine .inr ⟨some (adr b o),rows.length,cap,rfl,.slice (some (adr b o)) rows.length cap,(hnew ▸ D _ cap hnew rows.length hc),.tsl _ tag sz' rows b o cap cell ht hc hb hm ha hrl ho hw h hcl⟩
  |cons r rs=>exact .inl rfl
 | tnil _ tag sz' a cap ht =>
  cases hnew:new with
  |nil=>exact .inr ⟨some a,0,cap,rfl,.slice (some a) 0 cap,(hnew ▸ D _ cap hnew 0 (US _)),.tnil _ tag sz' a cap ht⟩
  |cons r rs=>exact .inl rfl
 | hsl _ id ep off len lim b0 o0 cap0 hk he K h0 =>
  have J:=agree id (by simp[af]);simp only[G.get_eq,<-J];cases hid:hg id with
  | cells sz' rows ep' loose fz =>
   dsimp only;simp only[aq,aa]
   split
   ·rename_i F;simp only[Uk,UR]at F;obtain⟨⟨⟨h1,h2⟩,h3⟩,h4⟩:=F;have h1:=aB h1;have h2:=aB h2;subst h1;subst h2;obtain⟨cap,hv,h8,f⟩:=tH hr (RV.hsl bd id ep off len lim b0 o0 cap0 hk he K h0) hid;rw[hv];have U:=hr.obj id;rw[hid]at U;obtain⟨k1,k2,k3,k4,k5,k6,cc,ee,k7,k8,k9,hh⟩:=U
    split
    ·rename_i d;rw[UR]at d;have p:len+new.length<=cap:=by
      unfold iV at f;cases lim with
      |none=>simp at d;dsimp only at f;omega
      |some c=>simp at d;dsimp only at f;omega
     cases hnew:new with
     | nil =>
      refine .inr ⟨some (adr (γ id).blk ((γ id).base+off*sz)),len,cap,rfl,.slice (some (adr (γ id).blk ((γ id).base+off*sz))) len cap,(hnew ▸ D _ cap hnew len h8),?_⟩;rw[<-hv];exact RV.hsl bd id ep off len lim b0 o0 cap0 hk he K h0
     | cons r rs =>
      dsimp only;rw[<-hnew]
      split
      ·rename_i T;simp only[Uk,UR,notb_eq,Vb]at T;obtain⟨h5,h6⟩:=T;subst h6;refine .inr ⟨_,_,_,rfl,?_⟩;obtain⟨c,c1,u,E⟩:=happ w (.inl rfl);obtain⟨w',r1,r2,r3⟩:=hr.storeRows hid (off:=off+len) E u (by omega) C.P;refine⟨.slice (some (adr (γ id).blk ((γ id).base+off*sz))) (len+new.length) cap,w',γ,id,_,?_,?_,r3,.inl ⟨rfl,r2⟩⟩
       ·rw[se p c1];dsimp only;rw[gn,show (γ id).base+off*sz+len*sz=(γ id).base+(off+len)*sz from by rw[UH];omega,r1]
        rfl
       ·exact .hsl _ id ep off _ lim _ _ cap k1 (by omega) p (λ_=>⟨rfl,by rw[k3],f⟩)
      ·exact .inl rfl
    ·rename_i l;rw[UR]at l;have t:=(A6 hr hid).sub off len;have k:=Of (rows:=rows) (off:=off) (len:=len) h3;have M:Stp w γ (World.drewn w) γ:=yh
     split
     ·rename_i q;refine .inr ⟨_,_,_,rfl,?_⟩;have Y:¬len+new.length<=cap:=by
       unfold iV at f;cases lim with
       | none =>
        simp at q;dsimp only at f;have:=k5.1 q;simp at l;omega
       |some c=>simp at l;dsimp only at f;omega
      obtain⟨c,c1,u,E⟩:=happ (World.drewn w) (.inr rfl);obtain⟨oc,o1,o2,o3⟩:=tz (P:=C.P) (cap:=cap) (t.same M rfl) k;rw[k]at o2;obtain⟨newCap,rest,n1,n2,n3⟩:=qs (zs:=zs) (x:=x) (w:=w) hby hz hzl hb0 (sLen:=len) (n:=new.length) (sCap:=cap) (base:=some (adr (γ id).blk ((γ id).base+off*sz))) (by simpa using h4) Y o1 c1;have z:newCap*sz<=(oc++c++rest).size:=by simp only[Array.size_append,n2,u,o2];rw[<-UH,<-UH];apply UB;omega
      have m:RowsRel w γ A bd sz ((rows.drop off).take len++new) (oc++c++rest):=(o3.back.append (by rw[k];exact o2) E).more;obtain⟨γ',R,S,s3⟩:=xQ (e:=e) (cs:=oc++c++rest) hr hf m (len+new.length) newCap z (by simp[k];omega) (by simp[k]) n1.2;refine⟨_,_,γ',g.nx,_,n3,s3,S,.inr ⟨?_,rfl,R⟩⟩;simp only[bk,bh]
     ·rename_i X
      split
      ·exact .inl rfl
      ·rename_i N;have N:fz=false:=by simpa using N
       subst N;have hl:lim=none/\loose=true:=by cases lim<;>cases loose<;>simp_all
       obtain⟨h7,hl2⟩:=hl;subst h7;subst hl2;have hp:off+cap=rows.length+(γ id).slack:=by unfold iV at f;dsimp only at f;omega
       refine .inr ⟨_,_,_,rfl,?_⟩
       by_cases d:len+new.length<=cap
       ·
        obtain⟨c,c1,u,E⟩:=happ w (.inl rfl);have H:(γ id).base+off*sz+len*sz+c.toList.length<=cc.size:=by have:(off+(len+new.length))*sz<=(rows.length+(γ id).slack)*sz:=UB _ (by omega);rw[UH,UH]at this;simp[u];omega
        obtain⟨f1,f2,f3⟩:=E.flat u;have L:=t8 (P:=C.P) c.toList 0 w cc k7 (o:=(γ id).base+off*sz+len*sz) (by simpa using H) (JF f1 f2);simp only[VH]at L
        let gh:Gh:=⟨1,ep+1,sz,len+new.length,(γ id).blk,(γ id).base+off*sz,cap - (len+new.length),true⟩
        obtain⟨R,S⟩:=hr.moved hid (w1:=World.setBlk w (γ id).blk (.cells (bj cc ((γ id).base+off*sz+len*sz) c.toList) ee (0,0))) (gh:=gh)
         (rows':=(rows.drop off).take len++new) rfl rfl rfl (by simp[gh,k]) rfl ⟨rfl,rfl,rfl,by simp⟩ (Ui _) (by have:=k5.2 rfl;simp[gh,k];omega) (.inl rfl)
         (λb _ hb=>by rw[aX,Um];rintro⟨e,_⟩;exact hb e)
         (c:=bj cc ((γ id).base+off*sz+len*sz) c.toList) (e:=ee)
         (by rw[aX];simp[gh,(hr.lt id (by rw[k1];decide)).2])
         (by
          simp only[gh,bU,VG,k];have:(off+cap)*sz<=(rows.length+(γ id).slack)*sz:=UB _ (by omega);rw[UH]at this;rw[show len+new.length+(cap - (len+new.length))=cap from by omega];omega)
         (λi row hi=>by
          rw[Wo]at hi
          split at hi
          ·exact t.1 _ _ hi
          ·exact E.2.1 _ _ hi)
         (λi j row y hi hj=>by
          rw[Wo,k]at hi
          split at hi
          ·rename_i Q;have O:=hi;rw[UV Q,UO]at O;have Z:j<sz:=by rw[<-k9 _ _ O];exact (Uh.1 hj).1
           obtain⟨a,v,b1,b2⟩:=hh _ j row y O hj;refine⟨a,v,?_,b2⟩;rw[cB _ _ _ _ H,Um]
           ·simp only[gh];rw[show (γ id).base+off*sz+i*sz+j=(γ id).base+(off+i)*sz+j from by rw[UH];omega];exact b1
           ·simp only[gh];have:(i+1)*sz<=len*sz:=UB _ Q;rw[UH,Vk]at this;omega
          ·rename_i Q;have Z:j<sz:=by rw[<-E.2.1 _ _ hi];exact (Uh.1 hj).1
           have hlt:i - len<new.length:=(Uh.1 hi).1;obtain⟨a,v,b1,b2⟩:=E.2.2 _ j row y hi hj;refine⟨a,v,?_,b2⟩;have e1:i*sz=len*sz+(i - len)*sz:=by rw[<-UH];congr 1;omega
           have e2:(i - len+1)*sz<=new.length*sz:=UB _ hlt;rw[UH,Vk]at e2;rw[cB _ _ _ _ H];simp only[gh];rw[Un (by simp[u];omega),show (γ id).base+off*sz+i*sz+j - ((γ id).base+off*sz+len*sz)=(i - len)*sz+j from by omega];simpa using b1)
        refine⟨.slice (some (adr (γ id).blk ((γ id).base+off*sz))) (len+new.length) cap,_,_,id,_,?_,?_,S,.inl ⟨?_,R⟩⟩
        ·rw[se d c1];dsimp only;rw[gn,L];rfl
        ·refine .hsl _ id (ep+1) 0 _ none _ _ cap (by simp[gh]) (by simp[gh]) d (λ_=>⟨by simp[gh],by simp[gh],?_⟩);simp only[iV,upd_same,gh];omega
        ·simp only[bk,bh]
       ·
        obtain⟨c,c1,u,E⟩:=happ (World.drewn w) (.inr rfl);obtain⟨oc,o1,o2,o3⟩:=tz (P:=C.P) (cap:=cap) (t.same M rfl) k;rw[k]at o2;obtain⟨newCap,rest,n1,n2,n3⟩:=qs (zs:=zs) (x:=x) (w:=w) hby hz hzl hb0 (sLen:=len) (n:=new.length) (sCap:=cap) (base:=some (adr (γ id).blk ((γ id).base+off*sz))) (by simpa using h4) d o1 c1;have z:newCap*sz<=(oc++c++rest).size:=by simp only[Array.size_append,n2,u,o2];rw[<-UH,<-UH];apply UB;omega
        have m:RowsRel w γ A bd sz ((rows.drop off).take len++new) (oc++c++rest):=(o3.back.append (by rw[k];exact o2) E).more
        let gh:Gh:=⟨1,ep+1,sz,len+new.length,w.heap.size,0,newCap - (len+new.length),true⟩
        obtain⟨R,S⟩:=hr.moved hid (w1:=World.add (World.drewn w) (.cells (oc++c++rest) e (0,0))) (gh:=gh)
         (rows':=(rows.drop off).take len++new) rfl rfl rfl (by simp[gh,k]) rfl ⟨rfl,rfl,rfl,by simp[World.drewn]⟩ (V6 _) (by have:=n1.1;have:=n1.2;simp[gh,k];omega) (.inr ⟨rfl,by simp[World.drewn]⟩)
         (λb hb _=>by rw[k_,Um (by simp[World.drewn];omega)];rfl)
         (c:=oc++c++rest) (e:=e) (by rw[k_];simp[gh,World.drewn])
         (by simp only[gh,VG,k];rw[show len+new.length+(newCap - (len+new.length))=newCap from by omega];omega)
         m.2.1 (λi j row y hi hj=>by simpa [gh] using m.2.2 i j row y hi hj)
        refine⟨_,_,_,id,_,n3,?_,S,.inl ⟨?_,R⟩⟩
        ·refine .hsl _ id (ep+1) 0 _ none _ _ newCap (by simp[gh]) (by simp[gh]) n1.1 (λ_=>⟨by simp[gh],by simp[gh],?_⟩);simp only[iV,upd_same,gh];omega
        ·simp only[bk,bh]
   ·exact .inl rfl
  |_=>exact .inl rfl
 |_=>exact .inl rfl
end
end
end
end Hx
