/- A part of the proof: what the functions of the chapter compute. -/
import GoSem.Step
import Derived.RangeFuncIn
import Derived.Laws.Sem
set_option linter.all false
section
namespace Hx
open Go
theorem TF:type_of% @And.intro:=@And.intro
theorem TG:type_of% @Nat.le_refl:=@Nat.le_refl
theorem TH:type_of% @List.getElem?_eq_getElem:=@List.getElem?_eq_getElem
theorem TJ:type_of% @List.getElem?_eq_some_iff:=@List.getElem?_eq_some_iff
theorem TK:type_of% @List.getElem?_map:=@List.getElem?_map
theorem TL:type_of% @List.mem_of_getElem?:=@List.mem_of_getElem?
theorem TM:type_of% @Bool.and_eq_true:=@Bool.and_eq_true
theorem TN:type_of% @if_neg:=@if_neg
theorem TO:type_of% @if_pos:=@if_pos
theorem TP:type_of% @Int.eq_ofNat_of_zero_le:=@Int.eq_ofNat_of_zero_le
theorem TQ:type_of% @Result.andThen_ok:=@Result.andThen_ok
theorem TS:type_of% @Option.getD_some:=@Option.getD_some
theorem TT:type_of% @List.length_map:=@List.length_map
theorem TU:type_of% @Nat.lt_of_lt_of_le:=@Nat.lt_of_lt_of_le
theorem TV:type_of% @Sem.run_bind:=@Sem.run_bind
theorem TW:type_of% @Nat.succ_pos:=@Nat.succ_pos
theorem TX:type_of% @List.take_of_length_le:=@List.take_of_length_le
theorem TY:type_of% @List.not_mem_nil:=@List.not_mem_nil
theorem TZ:type_of% @Array.getElem?_eq_getElem:=@Array.getElem?_eq_getElem
theorem T0:type_of% @List.getElem?_append_right:=@List.getElem?_append_right
theorem T2:type_of% @Nat.mul_le_mul_right:=@Nat.mul_le_mul_right
theorem T3:type_of% @List.append_nil:=@List.append_nil
theorem T4:type_of% @List.cons_append:=@List.cons_append
theorem T5:type_of% @List.getElem?_append_left:=@List.getElem?_append_left
theorem T6:type_of% @Nat.le_trans:=@Nat.le_trans
theorem T7:type_of% @List.getElem?_take_of_lt:=@List.getElem?_take_of_lt
theorem T8:type_of% @List.mem_range:=@List.mem_range
theorem T9:type_of% @decide_eq_true_eq:=@decide_eq_true_eq
theorem T_:type_of% @List.length_take:=@List.length_take
theorem Ua:type_of% @List.getElem?_of_mem:=@List.getElem?_of_mem
theorem Ub:type_of% @Nat.add_mul:=@Nat.add_mul
theorem Uc:type_of% @List.mem_of_mem_take:=@List.mem_of_mem_take
theorem Ud:type_of% @List.nil_append:=@List.nil_append
theorem Ue:type_of% @List.all_eq_true:=@List.all_eq_true
theorem Uf:type_of% @List.reverse_cons:=@List.reverse_cons
theorem Ug:type_of% @List.reverse_nil:=@List.reverse_nil
theorem Uh:type_of% @List.take_succ_eq_append_getElem:=@List.take_succ_eq_append_getElem
theorem Ui:type_of% @List.eq_nil_of_length_eq_zero:=@List.eq_nil_of_length_eq_zero
theorem Uj:type_of% @Nat.zero_le:=@Nat.zero_le
theorem Uk:type_of% @List.mem_append:=@List.mem_append
theorem Um:type_of% @List.getElem?_drop:=@List.getElem?_drop
theorem Un:type_of% @Sem.run_pure:=@Sem.run_pure
theorem Uq:type_of% @List.length_cons:=@List.length_cons
theorem Ur:type_of% @List.take_length:=@List.take_length
theorem Us:type_of% @List.mem_cons:=@List.mem_cons
theorem Ut:type_of% @List.getElem?_eq_none:=@List.getElem?_eq_none
theorem Uu:type_of% @List.flatMap_cons:=@List.flatMap_cons
theorem Uv:type_of% @Nat.beq_refl:=@Nat.beq_refl
theorem Uw:type_of% @Nat.ble_eq:=@Nat.ble_eq
theorem Ux:type_of% @Int.toNat_natCast:=@Int.toNat_natCast
theorem Uy:type_of% @Nat.zero_add:=@Nat.zero_add
theorem Uz:type_of% @List.mem_of_mem_drop:=@List.mem_of_mem_drop
theorem UA:type_of% @Array.getD_eq_getD_getElem?:=@Array.getD_eq_getD_getElem?
theorem UB:type_of% @Bool.or_eq_true:=@Bool.or_eq_true
theorem UC:type_of% @List.mem_cons_of_mem:=@List.mem_cons_of_mem
theorem UD:type_of% @Nat.sub_self:=@Nat.sub_self
theorem UE:type_of% @List.take_append_drop:=@List.take_append_drop
theorem UF:type_of% @List.mem_map:=@List.mem_map
theorem UG:type_of% @Nat.pow_le_pow_right:=@Nat.pow_le_pow_right
theorem UH:type_of% @Nat.blt_eq:=@Nat.blt_eq
theorem UI:type_of% @Nat.div_add_mod:=@Nat.div_add_mod
theorem UJ:type_of% @List.append_assoc:=@List.append_assoc
theorem UK:type_of% @List.mem_cons_self:=@List.mem_cons_self
theorem UL:type_of% @Nat.div_div_eq_div_mul:=@Nat.div_div_eq_div_mul
theorem UM:type_of% @List.drop_eq_getElem_cons:=@List.drop_eq_getElem_cons
theorem UN:type_of% @Nat.one_mul:=@Nat.one_mul
theorem UO:type_of% @Nat.div_eq_of_lt:=@Nat.div_eq_of_lt
theorem UP:type_of% @Nat.min_eq_left:=@Nat.min_eq_left
theorem UQ:type_of% @Nat.mul_comm:=@Nat.mul_comm
theorem UR:type_of% @Array.getElem?_eq_some_iff:=@Array.getElem?_eq_some_iff
theorem US:type_of% @Nat.mod_lt:=@Nat.mod_lt
theorem UT:type_of% @List.flatMap_nil:=@List.flatMap_nil
theorem UU:type_of% @List.set_append_right:=@List.set_append_right
theorem UV:type_of% @Nat.eq_of_beq_eq_true:=@Nat.eq_of_beq_eq_true
theorem UW:type_of% @Int.natCast_mul:=@Int.natCast_mul
theorem UX:type_of% @List.mem_singleton:=@List.mem_singleton
theorem UY:type_of% @List.replicate_succ:=@List.replicate_succ
theorem UZ:type_of% @Array.getElem?_eq_none:=@Array.getElem?_eq_none
theorem U0:type_of% @Option.map_some:=@Option.map_some
theorem U3:type_of% @Array.getElem?_append_left:=@Array.getElem?_append_left
theorem U4:type_of% @List.drop_drop:=@List.drop_drop
theorem U7:type_of% @Bool.true_and:=@Bool.true_and
theorem U8:type_of% @List.map_congr_left:=@List.map_congr_left
theorem U9:type_of% @Classical.byContradiction:=@Classical.byContradiction
theorem U_:type_of% @List.map_append:=@List.map_append
theorem Va:type_of% @Nat.div_le_self:=@Nat.div_le_self
theorem Vb:type_of% @Nat.le_max_left:=@Nat.le_max_left
theorem Vc:type_of% @Option.getD_none:=@Option.getD_none
theorem Vd:type_of% @Bool.not_eq_true':=@Bool.not_eq_true'
theorem Ve:type_of% @Int.ofNat_eq_natCast:=@Int.ofNat_eq_natCast
theorem Vf:type_of% @List.map_set:=@List.map_set
theorem Vg:type_of% @List.map_nil:=@List.map_nil
theorem Vh:type_of% @Bool.not_eq_true:=@Bool.not_eq_true
theorem Vi:type_of% @List.getElem?_set:=@List.getElem?_set
theorem Vj:type_of% @Option.some.injEq:=@Option.some.injEq
theorem Vk:type_of% @List.mem_iff_getElem:=@List.mem_iff_getElem
theorem Vl:type_of% @List.length_append:=@List.length_append
theorem Vm:type_of% @List.set_cons_zero:=@List.set_cons_zero
theorem Vn:type_of% @Nat.lt_or_ge:=@Nat.lt_or_ge
theorem Vo:type_of% @Array.getElem?_setIfInBounds:=@Array.getElem?_setIfInBounds
theorem Vp:type_of% @Int.mul_nonneg:=@Int.mul_nonneg
theorem Vq:type_of% @List.length_nil:=@List.length_nil
theorem Vr:type_of% @List.getElem_mem:=@List.getElem_mem
theorem Vt:type_of% @List.mem_append_right:=@List.mem_append_right
theorem Vu:type_of% @Nat.add_zero:=@Nat.add_zero
theorem Vv:type_of% @Array.getElem?_setIfInBounds_ne:=@Array.getElem?_setIfInBounds_ne
theorem Vw:type_of% @List.getD_eq_getElem?_getD:=@List.getD_eq_getElem?_getD
theorem Vx:type_of% @List.mem_append_left:=@List.mem_append_left
theorem Vy:type_of% @Nat.div_lt_of_lt_mul:=@Nat.div_lt_of_lt_mul
theorem Vz:type_of% @Int.mul_assoc:=@Int.mul_assoc
theorem VA:type_of% @Int.mul_le_mul_of_nonneg_right:=@Int.mul_le_mul_of_nonneg_right
theorem VB:type_of% @Nat.le_max_right:=@Nat.le_max_right
theorem VC:type_of% @Option.bind_some:=@Option.bind_some
theorem VD:type_of% @List.getElem?_range:=@List.getElem?_range
theorem VE:type_of% @List.flatten_cons:=@List.flatten_cons
theorem VF:type_of% @Nat.le_succ:=@Nat.le_succ
theorem VG:type_of% @Ne.symm:=@Ne.symm
theorem VH:type_of% @Nat.add_mul_div_right:=@Nat.add_mul_div_right
theorem VI:type_of% @List.drop_zero:=@List.drop_zero
theorem VJ:type_of% @List.sum_cons:=@List.sum_cons
theorem VK:type_of% @Nat.add_assoc:=@Nat.add_assoc
theorem VL:type_of% @List.range_succ:=@List.range_succ
theorem VM:type_of% @Nat.add_comm:=@Nat.add_comm
theorem VN:type_of% @decide_eq_false:=@decide_eq_false
theorem VO:type_of% @Bool.false_eq_true:=@Bool.false_eq_true
theorem VP:type_of% @Nat.add_sub_cancel:=@Nat.add_sub_cancel
theorem VQ:type_of% @List.getElem?_replicate:=@List.getElem?_replicate
theorem VR:type_of% @Nat.mod_eq_of_lt:=@Nat.mod_eq_of_lt
theorem VT:type_of% @List.map_cons:=@List.map_cons
theorem VU:type_of% @List.drop_of_length_le:=@List.drop_of_length_le
theorem VV:type_of% @List.getElem?_set_self:=@List.getElem?_set_self
theorem VW:type_of% @Nat.add_mul_mod_self_right:=@Nat.add_mul_mod_self_right
theorem VX:type_of% @Nat.pow_succ:=@Nat.pow_succ
theorem VY:type_of% @Nat.sub_zero:=@Nat.sub_zero
theorem VZ:type_of% @List.pairwise_iff_getElem:=@List.pairwise_iff_getElem
theorem V1:type_of% @Array.getElem?_modify:=@Array.getElem?_modify
theorem V6:type_of% @Int.natCast_nonneg:=@Int.natCast_nonneg
theorem V7:type_of% @List.getElem?_take:=@List.getElem?_take
theorem V8:type_of% @List.length_drop:=@List.length_drop
theorem V9:type_of% @List.mem_flatMap:=@List.mem_flatMap
theorem V_:type_of% @List.zip_cons_cons:=@List.zip_cons_cons
theorem Wa:type_of% @Int.mul_comm:=@Int.mul_comm
theorem Wb:type_of% @List.getElem?_append:=@List.getElem?_append
theorem Wc:type_of% @decide_eq_true:=@decide_eq_true
theorem Wd:type_of% @List.ext_getElem?:=@List.ext_getElem?
theorem We:type_of% @List.take_add_one:=@List.take_add_one
theorem Wf:type_of% @Nat.mul_le_mul_left:=@Nat.mul_le_mul_left
theorem Wg:type_of% @Nat.ne_of_beq_eq_false:=@Nat.ne_of_beq_eq_false
theorem Wh:type_of% @Int.add_mul:=@Int.add_mul
theorem Wi:type_of% @Nat.mul_assoc:=@Nat.mul_assoc
theorem Wj:type_of% @Array.ext_getElem?:=@Array.ext_getElem?
theorem Wk:type_of% @Bool.not_false:=@Bool.not_false
theorem Wl:type_of% @List.mem_replicate:=@List.mem_replicate
theorem Wm:type_of% @List.contains_iff_mem:=@List.contains_iff_mem
theorem Wn:type_of% @Nat.le_div_iff_mul_le:=@Nat.le_div_iff_mul_le
theorem Wo:type_of% @Bool.eq_iff_iff:=@Bool.eq_iff_iff
theorem Wp:type_of% @List.foldl_cons:=@List.foldl_cons
theorem Wq:type_of% @Int.pow_succ:=@Int.pow_succ
theorem Wr:type_of% @List.foldl_append:=@List.foldl_append
theorem Ws:type_of% @List.getElem?_set_ne:=@List.getElem?_set_ne
theorem Wt:type_of% @or_false:=@or_false
theorem Wu:type_of% @Bool.and_self:=@Bool.and_self
theorem Wv:type_of% @List.append_cancel_right:=@List.append_cancel_right
theorem Ww:type_of% @Array.getElem?_push:=@Array.getElem?_push
theorem Wx:type_of% @List.drop_succ_cons:=@List.drop_succ_cons
theorem Wy:type_of% @Int.mul_le_mul:=@Int.mul_le_mul
theorem Wz:type_of% @List.getElem?_cons_succ:=@List.getElem?_cons_succ
theorem WA:type_of% @List.length_eq_zero_iff:=@List.length_eq_zero_iff
theorem WB:type_of% @Int.emod_lt_of_pos:=@Int.emod_lt_of_pos
theorem WC:type_of% @List.set_cons_succ:=@List.set_cons_succ
theorem WD:type_of% @Nat.pos_of_ne_zero:=@Nat.pos_of_ne_zero
theorem WE:type_of% @Bool.and_true:=@Bool.and_true
theorem WG:type_of% @Array.getElem?_toList:=@Array.getElem?_toList
theorem WH:type_of% @Int.emod_eq_of_lt:=@Int.emod_eq_of_lt
theorem WI:type_of% @Array.ext':=@Array.ext'
theorem WJ:type_of% @Int.le_refl:=@Int.le_refl
theorem WK:type_of% @List.range_eq_range':=@List.range_eq_range'
theorem WL:type_of% @Nat.div_one:=@Nat.div_one
theorem WM:type_of% @List.ext_getElem:=@List.ext_getElem
theorem WN:type_of% @List.getElem_map:=@List.getElem_map
theorem WO:type_of% @List.range'_succ:=@List.range'_succ
theorem WP:type_of% @Nat.zero_mul:=@Nat.zero_mul
theorem WQ:type_of% @Array.length_toList:=@Array.length_toList
theorem WR:type_of% @List.take_succ_cons:=@List.take_succ_cons
theorem WS:type_of% @Nat.div_mul_le_self:=@Nat.div_mul_le_self
theorem WT:type_of% @Int.emod_nonneg:=@Int.emod_nonneg
theorem WU:type_of% @List.head?_cons:=@List.head?_cons
theorem WV:type_of% @List.sum_append:=@List.sum_append
theorem WW:type_of% @Nat.le_antisymm:=@Nat.le_antisymm
theorem WX:type_of% @Nat.and_lt_two_pow:=@Nat.and_lt_two_pow
theorem WY:type_of% @Nat.eq_zero_or_pos:=@Nat.eq_zero_or_pos
theorem WZ:type_of% @Nat.max_le:=@Nat.max_le
theorem W0:type_of% @Nat.xor_lt_two_pow:=@Nat.xor_lt_two_pow
theorem W4:type_of% @List.head?_nil:=@List.head?_nil
theorem W5:type_of% @List.take_zero:=@List.take_zero
theorem W6:type_of% @Nat.gcd_comm:=@Nat.gcd_comm
theorem W7:type_of% @Nat.mul_le_mul:=@Nat.mul_le_mul
end Hx
end
set_option maxRecDepth 20000
set_option maxHeartbeats 8000000
namespace Hx
open Go
noncomputable section
variable {v:Value}{w w':World}{b bd n:Nat}{t ty:TypeId}
inductive AV where
 |bool (b:Bool)
 |int (k:IntKind) (n:Int)
 |str (s:ByteArray)
 |tup (vs:List AV)
 |agg (cs:List AV)
 |nilp|nils|nilf|nilm|nili
 |esl
 |tsl (tag:Nat) (sz:Nat) (rows:List (List AV))
 |tptr (tag:Nat) (sz:Nat) (rows:List (List AV)) (i off:Nat)
 |hsl (id ep off len:Nat) (lim:Option Nat)
 |hptr (id ep i off:Nat)
 |clo (f:Nat) (first cap:List AV)
 |hmap (id:Nat)
 |ifc (t:Nat) (v:AV)
 |yld (id:Nat)
 deriving Inhabited
abbrev AV.undef:AV:=.tup []
def AV.cells:AV->List AV
 |.agg cs=>cs
 |v=>[v]
def AV.one:AV->Bool
 |.tup _|.agg _=>false
 |_=>true
def AV.isTup:AV->Bool
 |.tup _=>true
 |_=>false
structure Stg (α:Type) where
 run:α
abbrev ay {α:Type}(b:Bool)(x y:α):α:=@Bool.rec (λ_=>α) y x b
def jz(b:Bool):Bool:=@Bool.rec (λ_=>Bool) true false b
inductive Tr (α:Type) where
 |nil
 |node (v:α) (l r:Tr α)
def Tr.get{α:Type}(e:α):Tr α->Nat->α
 |.nil,_=>e
 |.node v _ _,0=>v
 |.node _ l r,m+1=>ay (Nat.beq (m % 2) 0) (Tr.get e l (m / 2)) (Tr.get e r (m / 2))
def gpF{α:Type}(e:α):Nat->Nat->Stg (Tr α->α)
 |0,_=>⟨λ_=>e⟩
 |_+1,0=>⟨λt=>@Tr.rec α (λ_=>α) e (λv _ _ _ _=>v) t⟩
 | f+1,m+1=>ay (Nat.beq (m % 2) 0)
   ⟨λt=>@Tr.rec α (λ_=>α) e (λ_ l _ _ _=>(gpF e f (m / 2)).run l) t⟩
   ⟨λt=>@Tr.rec α (λ_=>α) e (λ_ _ r _ _=>(gpF e f (m / 2)).run r) t⟩
def gp{α:Type}(e:α)(n:Nat):Stg (Tr α->α):=gpF e (n+1) n
def spF{α:Type}(e:α):Nat->Nat->Stg (Tr α->α->Tr α)
 |0,_=>⟨λt _=>t⟩
 |_+1,0=>⟨λt x=>@Tr.rec α (λ_=>Tr α) (.node x .nil .nil) (λ_ l r _ _=>.node x l r) t⟩
 | f+1,m+1=>ay (Nat.beq (m % 2) 0)
   ⟨λt x=>@Tr.rec α (λ_=>Tr α) (.node e ((spF e f (m / 2)).run .nil x) .nil) (λv l r _ _=>.node v ((spF e f (m / 2)).run l x) r) t⟩
   ⟨λt x=>@Tr.rec α (λ_=>Tr α) (.node e .nil ((spF e f (m / 2)).run .nil x)) (λv l r _ _=>.node v l ((spF e f (m / 2)).run r x)) t⟩
def sp{α:Type}(e:α)(n:Nat):Stg (Tr α->α->Tr α):=spF e (n+1) n
def Tr.put{α:Type}(e:α)(t:Tr α)(n:Nat)(x:α):Tr α:=(sp e n).run t x
def A8{α:Type}(n:Nat):List α->Option α :=
 @Nat.rec (λ_=>List α->Option α) (λl=>@List.rec α (λ_=>Option α) none (λa _ _=>some a) l)
  (λ_ ih l=>@List.rec α (λ_=>Option α) none (λ_ t _=>ih t) l) n
def Hu{α:Type}(n:Nat)(x:α):List α->List α :=
 @Nat.rec (λ_=>List α->List α) (λl=>@List.rec α (λ_=>List α) [] (λ_ t _=>x::t) l)
  (λ_ ih l=>@List.rec α (λ_=>List α) [] (λa t _=>a::ih t) l) n
def bj{α:Type}(l:List α):Nat:=@List.rec α (λ_=>Nat) 0 (λ_ _ n=>Nat.succ n) l
def gD{α:Type}(n:Nat):List α->List α :=
 @Nat.rec (λ_=>List α->List α) (λl=>l) (λ_ ih l=>@List.rec α (λ_=>List α) [] (λ_ t _=>ih t) l) n
def iQ{α:Type}(n:Nat):List α->List α :=
 @Nat.rec (λ_=>List α->List α) (λ_=>[]) (λ_ ih l=>@List.rec α (λ_=>List α) [] (λa t _=>a::ih t) l) n
inductive AObj where
 |none
 |cells (sz:Nat) (rows:List (List AV)) (ep:Nat) (loose fz:Bool)
 |map (es:List (AV×AV))
 |loop (nt:Nat) (t:Tr AV) (ps:List Nat) (assign body:Code) (dfr:Nat) (st:LoopState) (pend:Option Code)
 |dfr (live:Bool)
@[match_pattern,reducible] def W8 (k:Nat)(r:List (List AV)):AObj:=.cells k r 0 false false
abbrev T:=Tr AV
abbrev H:=Tr AObj
def H.get(h:H)(i:Nat):AObj:=(gp AObj.none i).run h
def H.put(h:H)(i:Nat)(o:AObj):H:=(sp AObj.none i).run h o
structure G where
 h:H
 nx:Nat
 lg:List Nat
def G.empty:G:=⟨.nil,0,[]⟩
def G.put(g:G)(id:Nat)(o:AObj):G:=@G.rec (λ_=>G) (λh nx lg=>⟨h.put id o,nx,id::lg⟩) g
def G.new(g:G)(o:AObj):G:=@G.rec (λ_=>G) (λh nx lg=>⟨h.put nx o,Nat.succ nx,nx::lg⟩) g
def G.get(g:G)(i:Nat):AObj:=H.get g.h i
inductive ADf where
 |call (f:AV) (args:List AV)
 |mark (id:Nat)
inductive Ex where
 |norm
 |exit (id:Nat)
 |ret
inductive CR where
 |fail
 |ok (e:Ex) (t:T) (df:List ADf) (g:G)
inductive FR where
 |fail
 |ok (v:AV) (g:G)
inductive OR where
 |fail
 |val (v:AV)
 |upd (v:AV) (g:G)
 |dfr (a:ADf)
structure IH where
 code:Nat->Nat->Option Nat->Code->T->List ADf->G->CR
 call:Nat->Nat->List AV->G->FR
structure Cfg where
 P:Program
 iso:Nat->Bool
 ext:Nat->Option (Nat->List AV->G->OR)
 glob:Nat->Option (Nat×List (List AV))
abbrev KR:=IH->Nat->Option Nat->T->G->OR
section types
variable (P:Program)
def szT(t:TypeId):Option Nat:=(P.info? t).map (·.size)
def jS(t:TypeId):Option Nat:=(P.info? t).map (·.bytes)
def sj(t:TypeId):Option Bool :=
 match P.underlying t with
 |some (.struct _)|some (.array _ _)=>some true
 |some _=>some false
 |none=>none
def ofV:Value->Option AV
 |.bool b=>some (.bool b)
 |.int k n=>some (.int k n)
 |.string s=>some (.str s)
 |.pointer none=>some .nilp
 |.slice none 0 0=>some .nils
 |.map none=>some .nilm
 |.nilFunc=>some .nilf
 |.nilIface=>some .nili
 |_=>none
def zb:List Value->Option (List AV)
 |[]=>some []
 | v::vs=>match ofV v,zb vs with
  |some a,some as=>some (a::as)
  |_,_=>none
def fS(t:TypeId):Option (List AV):=(P.info? t).bind λi=>i.zero.bind λv=>zb v.cells.toList
def yK(t:TypeId):Option AV:=(P.info? t).bind λi=>i.zero.bind λv=>match v with
 |.agg cs=>(zb cs.toList).map .agg
 |v=>ofV v
def lM(t:TypeId):Option TypeId:=match P.underlying t with|some (.slice e)=>some e|_=>none
def tB(t:TypeId)(f:Nat):Option (Nat×TypeId) :=
 match P.underlying t with
 |some (.struct fs)=>match fs[f]? with|some x=>some (x.offset,x.type)|none=>none
 |_=>none
end types
def aF{α β:Type}(f:α->Option β):List α->Option (List β)
 |[]=>some []
 | v::vs=>match f v with
  | some a=>match aF f vs with
   |some as=>some (a::as)
   |none=>none
  |none=>none
def aU(C:Cfg):Operand->Option (Stg (T->AV))
 |.tmp n=>some (gp AV.undef n)
 |.const v=>match ofV v with|some a=>some ⟨λ_=>a⟩|none=>none
 |.global g=>match C.glob g with|some (sz,rows)=>some ⟨λ_=>.tptr 0 sz rows 0 0⟩|none=>none
 |.func f=>some ⟨λ_=>.clo f [] []⟩
def bM(C:Cfg):List Operand->Option (Stg (T->List AV))
 |[]=>some ⟨λ_=>[]⟩
 | x::xs=>match aU C x,bM C xs with
  |some a,some as=>some ⟨λt=>a.run t::as.run t⟩
  |_,_=>none
def tY(k:IntKind)(n:Int):Int :=
 match k,n with
 |.i64,.ofNat m=>ay (Nat.blt m 9223372036854775808) (.ofNat m) (IntKind.wrap .i64 (.ofNat m))
 |.i64,.negSucc m=>ay (Nat.blt m 9223372036854775808) (.negSucc m) (IntKind.wrap .i64 (.negSucc m))
 |.u64,.ofNat m=>.ofNat (m % 18446744073709551616)
 |.u8,.ofNat m=>.ofNat (m % 256)
 |k,n=>IntKind.wrap k n
def y9:Int->Int->Bool
 |.ofNat m,.ofNat n=>Nat.blt m n
 |.ofNat _,.negSucc _=>false
 |.negSucc _,.ofNat _=>true
 |.negSucc m,.negSucc n=>Nat.blt n m
def DS:Int->Int->Bool
 |.ofNat m,.ofNat n=>Nat.beq m n
 |.ofNat _,.negSucc _=>false
 |.negSucc _,.ofNat _=>false
 |.negSucc m,.negSucc n=>Nat.beq m n
def qd:Sem Value->Option AV
 |.pure (.int k n)=>some (.int k n)
 |.pure (.bool b)=>some (.bool b)
 |_=>none
def OW(k:IntKind):Int->Int->Option AV
 |.ofNat m,.ofNat (n+1)=>some (.int k (tY k (.ofNat (m / (n+1)))))
 |a,b=>qd (Op.intDiv .quo k a b)
def O0(k:IntKind):Int->Int->Option AV
 |.ofNat m,.ofNat (n+1)=>some (.int k (.ofNat (m % (n+1))))
 |a,b=>qd (Op.intDiv .rem k a b)
def mc(k:IntKind)(m n:Nat):Bool :=
 match k with
 |.u64=>Nat.blt m 18446744073709551616&&Nat.blt n 18446744073709551616
 |.i64=>Nat.blt m 9223372036854775808&&Nat.blt n 9223372036854775808
 |_=>false
def Pz(op:BinOp)(k:IntKind):Int->Int->Option AV
 | .ofNat m,.ofNat n=>ay (mc k m n)
   (match op with
    |.and=>some (.int k (.ofNat (Nat.land m n)))
    |.or=>some (.int k (.ofNat (Nat.lor m n)))
    |.xor=>some (.int k (.ofNat (Nat.xor m n)))
    |.andNot=>some (.int k (.ofNat (Nat.xor m (Nat.land m n))))
    |_=>none)
   (qd (Op.intBits op k (.ofNat m) (.ofNat n)))
 |a,b=>qd (Op.intBits op k a b)
def Nm(k:IntKind):Int->Int->Option AV
 |.ofNat m,.ofNat n=>some (.int k (tY k (.ofNat (m*2 ^ (Nat.min n k.bits)))))
 |a,b=>qd (Op.shift .shl k a k b)
def Nn(k:IntKind):Int->Int->Option AV
 |.ofNat m,.ofNat n=>some (.int k (.ofNat (m / 2 ^ (Nat.min n k.bits))))
 |a,b=>qd (Op.shift .shr k a k b)
def cP:IntKind->IntKind->Bool
 |.i64,.i64=>true
 |.u64,.u64=>true
 |a,b=>decide (a=b)
def fN:BinOp->Stg (IntKind->Int->IntKind->Int->Option AV)
 |.add=>⟨λk a k' b=>ay (cP k k') (some (.int k (tY k (a+b)))) none⟩
 |.sub=>⟨λk a k' b=>ay (cP k k') (some (.int k (tY k (a - b)))) none⟩
 |.mul=>⟨λk a k' b=>ay (cP k k') (some (.int k (tY k (a*b)))) none⟩
 |.quo=>⟨λk a k' b=>ay (cP k k') (OW k a b) none⟩
 |.rem=>⟨λk a k' b=>ay (cP k k') (O0 k a b) none⟩
 |.eql=>⟨λk a k' b=>ay (cP k k') (some (.bool (DS a b))) none⟩
 |.neq=>⟨λk a k' b=>ay (cP k k') (some (.bool (jz (DS a b)))) none⟩
 |.lss=>⟨λk a k' b=>ay (cP k k') (some (.bool (y9 a b))) none⟩
 |.leq=>⟨λk a k' b=>ay (cP k k') (some (.bool (jz (y9 b a)))) none⟩
 |.gtr=>⟨λk a k' b=>ay (cP k k') (some (.bool (y9 b a))) none⟩
 |.geq=>⟨λk a k' b=>ay (cP k k') (some (.bool (jz (y9 a b)))) none⟩
 |.shl=>⟨λk a _ b=>Nm k a b⟩
 |.shr=>⟨λk a _ b=>Nn k a b⟩
 |op=>⟨λk a k' b=>ay (cP k k') (Pz op k a b) none⟩
def m8:TypeDesc->Bool
 |.bool|.int _|.string=>true
 |_=>false
def vB(P:Program)(rec:TypeId->Option (List TypeDesc)):List Field->Nat->Option (List TypeDesc)
 |[],_=>some []
 | f::fs,k=>match rec f.type with
  | some ds=>match vB P rec fs (k+ds.length) with
   | some r => ay ((f.name != "_") && Nat.beq f.offset k && (szT P f.type == some ds.length)) (some (ds ++ r)) none
   |none=>none
  |none=>none
def m9(P:Program):Nat->TypeId->Option (List TypeDesc)
 |0,_=>none
 | d+1,t=>match P.underlying t with
  |some (.struct fs)=>ay (P.stoodInHeld t) none (vB P (m9 P d) fs.toList 0)
  | some (.array n e)=>match m9 P d e with
   |some ds=>ay (szT P e == some ds.length) (some (List.replicate n ds).flatten) none
   |none=>none
  |some d=>ay (m8 d) (some [d]) none
  |none=>none
def km(P:Program)(t:TypeId):Option (List TypeDesc) :=
 ay (P.eqGuardType P.depth t) none (m9 P 8 t)
def oV:TypeDesc->AV->Bool
 |.bool,.bool _=>true
 |.int k,.int k' _=>cP k k'
 |.string,.str _=>true
 |_,_=>false
def dt:List TypeDesc->List AV->Bool
 |[],[]=>true
 |d::ds,v::vs=>ay (oV d v) (dt ds vs) false
 |_,_=>false
def mE:AV->AV->Option Bool
 |.int k a,.int k' b=>ay (cP k k') (some (DS a b)) none
 |.bool a,.bool b=>some (ay a b (jz b))
 |.str a,.str b=>some (decide (a=b))
 |_,_=>none
def dA:List AV->List AV->Option Bool
 |[],[]=>some true
 | a::as,b::bs=>match mE a b,dA as bs with
  |some x,some y=>some (ay x y false)
  |_,_=>none
 |_,_=>none
inductive EqKind where
 |flat (ds:List TypeDesc)|slice|func|bool|iface (empty:Bool)|other
def qq(P:Program)(t:TypeId):EqKind :=
 match P.underlying t with
 |some (.slice _)=>.slice
 |some (.func _ _ _)=>.func
 |some .bool=>.bool
 |some (.interface ms)=>.iface ms.isEmpty
 |some (.struct _)|some (.array _ _)=>match km P t with|some ds=>.flat ds|none=>.other
 |_=>.other
def eqA(k:EqKind)(x y:AV):Option Bool :=
 match k with
 | .flat ds=>match x,y with
  |.agg xs,.agg ys=>ay (dt ds xs&&dt ds ys) (dA xs ys) none
  |_,_=>none
 | .slice=>match x,y with
  |.nils,.nils=>some true
  |.nils,.tsl ..|.nils,.hsl ..|.nils,.esl|.tsl ..,.nils|.hsl ..,.nils|.esl,.nils=>some false
  |_,_=>none
 | .func=>match x,y with
  |.nilf,.nilf=>some true
  |.nilf,.clo ..|.clo ..,.nilf|.nilf,.yld _|.yld _,.nilf=>some false
  |_,_=>none
 | .bool=>match x,y with
  |.bool a,.bool b=>some (ay a b (jz b))
  |_,_=>none
 | .iface e=>match x,y with
  |.nili,.nili=>ay e (some true) none
  |.nili,.ifc ..|.ifc ..,.nili=>some false
  |_,_=>none
 |.other=>none
def orV:Option AV->OR
 |some v=>.val v
 |none=>.fail
def zK(P:Program)(op:BinOp)(t:TypeId):Stg (AV->AV->OR) :=
 match op with
 | .eql=>match qq P t with
  |.other=>⟨λx y=>match x,y with|.int k a,.int k' b=>orV ((fN .eql).run k a k' b)|_,_=>.fail⟩
  |ek=>⟨λx y=>match eqA ek x y with|some b=>.val (.bool b)|none=>.fail⟩
 | .neq=>match qq P t with
  |.other=>⟨λx y=>match x,y with|.int k a,.int k' b=>orV ((fN .neq).run k a k' b)|_,_=>.fail⟩
  |ek=>⟨λx y=>match eqA ek x y with|some b=>.val (.bool (jz b))|none=>.fail⟩
 |op=>⟨λx y=>match x,y with|.int k a,.int k' b=>orV ((fN op).run k a k' b)|_,_=>.fail⟩
def unA(op:UnOp):Stg (AV->OR) :=
 match op with
 |.not=>⟨λx=>match x with|.bool b=>.val (.bool (jz b))|_=>.fail⟩
 |op=>⟨λx=>match x with|.int k n=>orV (qd (Op.unary op (.int k n)))|_=>.fail⟩
def bT(agg:Bool)(n:Nat)(row:List AV)(off:Nat):Option AV :=
 ay agg (let cs:=iQ n (gD off row);ay (Nat.beq (bj cs) n) (some (.agg cs)) none) (A8 off row)
def bX(row:List AV)(off:Nat)(cs:List AV):Option (List AV) :=
 ay (Nat.ble (off+bj cs) (bj row))
  (some (match cs with
   |[c]=>Hu off c row
   |cs=>iQ off row++(cs++gD (off+bj cs) row)))
  none
def bU(lim:Nat):AV->Option Nat
 |.int _ (.ofNat n)=>ay (Nat.ble n lim) (some n) none
 |_=>none
def aY(dflt lim:Nat):Option AV->Option Nat
 |none=>some dflt
 |some v=>bU lim v
def fj(n:Nat)(row:List AV):List (List AV):=List.replicate n row
def d7:List AV->List ((Nat×Nat)×AV)->Option (List AV)
 |cells,[]=>some cells
 | cells,((off,size),v)::rest =>
  ay (Nat.beq (bj v.cells) size&&jz v.isTup) (match bX cells off v.cells with|some cs=>d7 cs rest|none=>none) none
def gM(sz:Nat):List (List AV)->List (Nat×AV)->Option (List (List AV))
 |rows,[]=>some rows
 |rows,(i,v)::rest=>ay (Nat.beq (bj v.cells) sz&&Nat.blt i (bj rows)&&jz v.isTup) (gM sz (Hu i v.cells rows) rest) none
def ak(h:H)(sz:Nat):AV->Option (List (List AV))
 |.nils=>some []
 |.esl=>some []
 |.tsl _ sz' rows=>ay (Nat.beq sz sz' || rows.isEmpty) (some rows) none
 | .hsl id ep off len _=>match h.get id with
  |.cells sz' rows ep' _ _=>ay (Nat.beq ep ep'&&Nat.beq sz sz'&&Nat.ble (off+len) (bj rows)) (some (iQ len (gD off rows))) none
  |_=>none
 |_=>none
def jA(rows:List (List AV))(off:Nat)(new:List (List AV)):List (List AV) :=
 match new with
 |[r]=>Hu off r rows
 |new=>iQ off rows++(new++gD (off+bj new) rows)
def aQ:Nat:=1099511627776
def bg(sz bytes:Nat)(s:AV)(new:List (List AV))(g:G):OR :=
  match s with
  | .nils| .esl=>match new with
   |[]=>.val s
   |_=>ay (Nat.ble (bj new*bytes) aQ) (.upd (.hsl g.nx 0 0 (bj new) none) (g.new (.cells sz new 0 true false))) .fail
  | .tsl ..=>match new with
   |[]=>.val s
   |_=>.fail
  | .hsl id ep off len lim=>match g.get id with
   | .cells sz' rows ep' loose fz =>
    ay (Nat.beq ep ep'&&Nat.beq sz sz'&&Nat.ble (off+len) (bj rows)&&Nat.ble ((len+bj new)*bytes) aQ)
     (ay (Nat.ble (len+bj new) (lim.getD (bj rows - off)))
       (match new with
        |[]=>.val s
        | _=>ay (Nat.ble (off+len+bj new) (bj rows)&&jz fz)
         (.upd (.hsl id ep off (len+bj new) lim) (g.put id (.cells sz (jA rows (off+len) new) ep loose fz))) .fail)
       (ay (lim.isSome || jz loose)
        (.upd (.hsl g.nx 0 0 (len+bj new) none) (g.new (.cells sz (iQ len (gD off rows)++new) 0 true false)))
        (ay fz .fail (.upd (.hsl id (Nat.succ ep) 0 (len+bj new) none) (g.put id (.cells sz (iQ len (gD off rows)++new) (Nat.succ ep) true false))))))
     .fail
   |_=>.fail
  |_=>.fail
def di(sz bytes:Nat)(s x:AV)(g:G):OR :=
 match ak g.h sz x with
 |none=>.fail
 |some new=>bg sz bytes s new g
def we(sz bytes:Nat)(zero:List AV)(s x:AV)(g:G):OR :=
 match bU aQ x with
 |none=>.fail
 |some n=>ay (Nat.ble (n*bytes) aQ) (bg sz bytes s (fj n zero) g) .fail
def CA(sz:Nat)(d x:AV)(g:G):OR :=
 match ak g.h sz x with
 |none=>.fail
 | some src=>match d with
  |.nils|.esl=>.val (.int .i64 0)
  |.tsl _ _ rows=>ay (rows.isEmpty || src.isEmpty) (.val (.int .i64 0)) .fail
  | .hsl id ep off len _=>match g.get id with
   | .cells sz' rows ep' loose fz =>
    ay (Nat.beq ep ep'&&Nat.beq sz sz'&&Nat.ble (off+len) (bj rows)&&jz fz)
     (.upd (.int .i64 (Nat.min (bj src) len)) (g.put id (.cells sz (jA rows off (iQ (Nat.min (bj src) len) src)) ep loose fz))) .fail
   |_=>.fail
  |_=>.fail
def lK(sz:Nat)(x:AV)(lo hi mx:Option AV)(h:H):Option AV :=
 match x with
 | .nils=>match aY 0 0 lo,aY 0 0 hi,aY 0 0 mx with
  |some _,some _,some _=>some .nils
  |_,_,_=>none
 | .esl=>match aY 0 0 lo,aY 0 0 hi,aY 0 0 mx with
  |some _,some _,some _=>some .esl
  |_,_,_=>none
 | .tsl tag sz' rows=>match mx with
  | none=>match aY (bj rows) (bj rows) hi with
   |none=>none
   | some h=>match aY 0 h lo with
    |none=>none
    |some l=>ay (Nat.beq sz sz') (some (.tsl tag sz (iQ (h - l) (gD l rows)))) none
  | some m=>match bU 0 m,aY 0 0 hi,aY 0 0 lo with
   |some _,some _,some _=>some .esl
   |_,_,_=>none
 | .hsl id ep off len lim=>match h.get id with
  | .cells sz' rows ep' loose _ =>
   ay (Nat.beq ep ep'&&Nat.beq sz sz'&&Nat.ble (off+len) (bj rows))
    (match aY (lim.getD (bj rows - off)) (lim.getD (bj rows - off)) mx with
     |none=>none
     | some m=>match aY len m hi with
      |none=>none
      | some h=>match aY 0 h lo with
       |none=>none
       | some l =>
        ay (Nat.beq m l)
         (ay (mx.isSome || lim.isSome || jz loose) (some .esl) (some (.tsl 0 sz [])))
         (some (.hsl id ep (off+l) (h - l) (match mx with|some _=>some (m - l)|none=>lim.map (· - l))))) none
  |_=>none
 |_=>none
def pZ(k k':AV):Option Bool :=
 match k with
 |.agg xs=>match k' with|.agg ys=>dA xs ys|_=>none
 |x=>match k' with|.agg _=>none|y=>mE x y
def nR(k:AV):List (AV×AV)->Option (Option AV)
 |[]=>some none
 | (k',v)::es=>match pZ k k' with
  |some true=>some (some v)
  |some false=>nR k es
  |none=>none
def Kp(k v:AV):List (AV×AV)->Option (List (AV×AV))
 |[]=>some [(k,v)]
 | (k',v')::es=>match pZ k k' with
  |some true=>some ((k,v)::es)
  |some false=>match Kp k v es with|some r=>some ((k',v')::r)|none=>none
  |none=>none
inductive KeyKind where
 |one (d:TypeDesc)|flat (ds:List TypeDesc)|other
def f_(P:Program)(t:TypeId):KeyKind :=
 match P.underlying t with
 |some (.struct _)|some (.array _ _)=>match km P t with|some ds=>.flat ds|none=>.other
 |some d=>ay (m8 d) (.one d) .other
 |none=>.other
def nT:KeyKind->AV->Bool
 |.one d,v=>oV d v
 |.flat ds,.agg vs=>dt ds vs
 |_,_=>false
abbrev SFn:=T->G->OR
def nh(ag:Bool)(n:Nat)(a:T->AV):SFn:=λt g =>
 match a t with
 | .tptr _ _ rows i off=>match A8 i rows with
  |some row=>orV (bT ag n row off)
  |none=>.fail
 | .hptr id ep i off=>match g.get id with
  | .cells _ rows ep' _ _=>ay (Nat.beq ep ep') (match A8 i rows with
   |some row=>orV (bT ag n row off)
   |none=>.fail) .fail
  |_=>.fail
 |_=>.fail
def pc(n:Nat)(a x:T->AV):SFn:=λt g =>
 match a t with
 | .hptr id ep i off=>match g.get id with
  | .cells sz rows ep' loose fz=>ay (Nat.beq ep ep'&&Nat.beq (bj (x t).cells) n&&jz fz&&jz (x t).isTup) (match A8 i rows with
   | some row=>match bX row off (x t).cells with
    |some row'=>.upd .undef (g.put id (.cells sz (Hu i row' rows) ep loose fz))
    |none=>.fail
   |none=>.fail) .fail
  |_=>.fail
 |_=>.fail
def Do(cs:List AV):SFn:=λ_ g=>.upd (.hptr g.nx 0 0 0) (g.new (W8 (bj cs) [cs]))
def K0(a:T->AV):SFn:=λt g=>ay (a t).isTup .fail (.upd (.hptr g.nx 0 0 0) (g.new (W8 (bj (a t).cells) [(a t).cells])))
def nZ(zero:List AV)(pl:List (Nat×Nat))(vs:T->List AV):SFn:=λt _ =>
 match d7 zero (pl.zip (vs t)) with|some cs=>.val (.agg cs)|none=>.fail
def ij(sz len:Nat)(zrows:List (List AV))(is:List Nat)(vs:T->List AV):SFn:=λt g =>
 match gM sz zrows (is.zip (vs t)) with
 |some rows=>.upd (.hsl g.nx 0 0 len none) (g.new (W8 sz rows))
 |none=>.fail
def j8(fo:Nat)(a:T->AV):SFn:=λt _ =>
 match a t with
 |.tptr l sz rows i off=>.val (.tptr l sz rows i (off+fo))
 |.hptr id ep i off=>.val (.hptr id ep i (off+fo))
 |_=>.fail
def gN(sz:Nat)(a ix:T->AV):SFn:=λt g =>
 match a t with
 | .tsl l sz' rows=>match ix t with
  |.int _ (.ofNat i)=>ay (Nat.beq sz sz'&&Nat.blt i (bj rows)) (.val (.tptr l sz rows i 0)) .fail
  |_=>.fail
 | .hsl id ep off len _=>match ix t with
  | .int _ (.ofNat i)=>match g.get id with
   |.cells sz' _ ep' _ _=>ay (Nat.beq ep ep'&&Nat.beq sz sz'&&Nat.blt i len) (.val (.hptr id ep (off+i) 0)) .fail
   |_=>.fail
  |_=>.fail
 |_=>.fail
def nf(n sz:Nat)(a ix:T->AV):SFn:=λt _ =>
 match ix t with
 | .int _ (.ofNat i)=>ay (Nat.blt i n) (match a t with
  |.tptr l sz' rows j off=>.val (.tptr l sz' rows j (off+i*sz))
  |.hptr id ep j off=>.val (.hptr id ep j (off+i*sz))
  |_=>.fail) .fail
 |_=>.fail
def vE(ag:Bool)(n sz:Nat)(a ix:T->AV):SFn:=λt _ =>
 match a t with
 | .agg cs=>match ix t with
  |.int _ (.ofNat i)=>ay (Nat.blt i n) (orV (bT ag sz cs (i*sz))) .fail
  |_=>.fail
 |_=>.fail
def pY(a ix:T->AV):SFn:=λt _ =>
 match a t with
 | .str s=>match ix t with
  | .int _ (.ofNat i)=>match A8 i s.data.toList with
   |some b=>.val (.int .u8 (.ofNat b.toNat))
   |none=>.fail
  |_=>.fail
 |_=>.fail
def ic(sz bytes:Nat)(zero:List AV)(l c:T->AV):SFn:=λt g =>
 match bU aQ (c t) with
 | some cn=>match bU cn (l t) with
  | some ln=>ay (Nat.ble (cn*bytes) aQ)
   (.upd (.hsl g.nx 0 0 ln none) (g.new (W8 sz (fj cn zero)))) .fail
  |none=>.fail
 |none=>.fail
def dC(kk:KeyKind)(zero:AV)(ok:Bool)(m k:T->AV):SFn:=λt g =>
 ay (nT kk (k t))
  (match (match m t with
          |.nilm=>some []
          |.hmap id=>match g.get id with|.map es=>some es|_=>none
          |_=>none) with
   | some es=>match nR (k t) es with
    |some (some v)=>.val (ay ok (.tup [v,.bool true]) v)
    |some none=>.val (ay ok (.tup [zero,.bool false]) zero)
    |none=>.fail
   |none=>.fail) .fail
def fO(kk:KeyKind)(m k x:T->AV):SFn:=λt g =>
 ay (nT kk (k t))
  (match m t with
   | .hmap id=>match g.get id with
    | .map es=>match Kp (k t) (x t) es with
     |some es'=>.upd .undef (g.put id (.map es'))
     |none=>.fail
    |_=>.fail
   |_=>.fail) .fail
def jv(k:AV):Nat->List (AV×AV)->Option (Option (Nat×AV))
 |_,[]=>some none
 | i,(k',v)::es=>match pZ k k' with
  |some true=>some (some (i,v))
  |some false=>jv k (Nat.succ i) es
  |none=>none
def gc(kk:KeyKind)(zero:AV)(m k:T->AV):SFn:=λt g =>
 ay (nT kk (k t))
  (match m t with
   | .hmap id=>match g.get id with
    | .map es=>match jv (k t) 0 es with
     |some (some (i,v))=>.val (.tup [v,.int .i64 (.ofNat i)])
     |some none=>.upd (.tup [zero,.int .i64 (.ofNat (bj es))]) (g.put id (.map (es++[(k t,zero)])))
     |none=>.fail
    |_=>.fail
   |_=>.fail) .fail
def im(m st x:T->AV):SFn:=λt g =>
 match m t with
 | .hmap id=>match g.get id with
  | .map es=>match st t with
   | .int _ (.ofNat i)=>match A8 i es with
    |some (k,_)=>.upd .undef (g.put id (.map (Hu i (k,x t) es)))
    |none=>.fail
   |_=>.fail
  |_=>.fail
 |_=>.fail
def Af(sz:Nat)(zero:List AV)(x:AV)(g:G):OR :=
 match x with
 |.nils|.esl=>.val .undef
 |.tsl _ _ []=>.val .undef
 | .hsl id ep off len _=>match len with
  |0=>.val .undef
  | _=>match g.get id with
   | .cells sz' rows ep' loose fz =>
    ay (Nat.beq ep ep'&&Nat.beq sz sz'&&Nat.ble (off+len) (bj rows)&&jz fz)
     (.upd .undef (g.put id (.cells sz (jA rows off (fj len zero)) ep loose fz))) .fail
   |_=>.fail
 |_=>.fail
inductive LenKind where
 |slice|array (n:Nat)|map|str|other
def ma(P:Program)(t:TypeId):LenKind :=
 match P.underlying t with
 |some (.slice _)=>.slice
 |some (.array n _)=>.array n
 |some (.map _ _)=>.map
 |some .string=>.str
 |_=>.other
def cH(k:LenKind)(x:AV)(g:G):OR :=
 match k with
 | .slice=>match x with
  |.nils|.esl=>.val (.int .i64 0)
  |.tsl _ _ rows=>.val (.int .i64 (.ofNat (bj rows)))
  |.hsl _ _ _ n _=>.val (.int .i64 (.ofNat n))
  |_=>.fail
 |.array n=>.val (.int .i64 (.ofNat n))
 | .map=>match x with
  |.nilm=>.val (.int .i64 0)
  |.hmap id=>match g.get id with|.map es=>.val (.int .i64 (.ofNat (bj es)))|_=>.fail
  |_=>.fail
 |.str=>match x with|.str s=>.val (.int .i64 (.ofNat s.size))|_=>.fail
 |.other=>.fail
def K8(x:AV)(g:G):OR :=
 match x with
 |.nils|.esl=>.val (.int .i64 0)
 | .hsl id ep off _ lim=>match g.get id with
  |.cells _ rows ep' loose _=>ay (Nat.beq ep ep'&&(lim.isSome || jz loose)) (.val (.int .i64 (.ofNat (lim.getD (bj rows - off))))) .fail
  |_=>.fail
 |_=>.fail
def dj(C:Cfg)(b:Builtin)(argTypes:Array TypeId)(args:List Operand):Option (Stg SFn) :=
 match b,args with
 | .len,[x]=>match argTypes[0]?,aU C x with
  |some t,some a=>some ⟨λs g=>cH (ma C.P t) (a.run s) g⟩
  |_,_=>none
 | .append,[a,x]=>match argTypes[0]?,argTypes[1]?,aU C a,aU C x with
  | some t,some xt,some av,some xv=>match lM C.P t,C.P.underlying xt with
   | some e,some (.slice _)=>match szT C.P e,jS C.P e,fS C.P e with
    |some sz,some bytes,some zero=>ay (Nat.beq (bj zero) sz&&Nat.blt 0 sz&&Nat.blt 0 bytes) (some ⟨λs g=>di sz bytes (av.run s) (xv.run s) g⟩) none
    |_,_,_=>none
   | some e,some (.int _)=>match szT C.P e,jS C.P e,fS C.P e with
    |some sz,some bytes,some zero=>ay (Nat.beq (bj zero) sz&&Nat.blt 0 sz&&Nat.blt 0 bytes) (some ⟨λs g=>we sz bytes zero (av.run s) (xv.run s) g⟩) none
    |_,_,_=>none
   |_,_=>none
  |_,_,_,_=>none
 | .copy,[a,x]=>match argTypes[0]?,aU C a,aU C x with
  | some t,some av,some xv=>match lM C.P t with
   | some e=>match szT C.P e with
    |some sz=>some ⟨λs g=>CA sz (av.run s) (xv.run s) g⟩
    |none=>none
   |none=>none
  |_,_,_=>none
 | .cap,[x]=>match argTypes[0]?,aU C x with
  | some t,some a=>match lM C.P t with
   |some _=>some ⟨λs g=>K8 (a.run s) g⟩
   |none=>none
  |_,_=>none
 | .clear,[x]=>match argTypes[0]?,aU C x with
  | some t,some a=>match lM C.P t with
   | some e=>match szT C.P e,fS C.P e with
    |some sz,some zero=>ay (Nat.beq (bj zero) sz&&Nat.blt 0 sz) (some ⟨λs g=>Af sz zero (a.run s) g⟩) none
    |_,_=>none
   |none=>none
  |_,_=>none
 | .max,[x,y]=>match aU C x,aU C y with
  | some a,some b=>some ⟨λs _=>match a.run s with
   | .int k m=>match b.run s with
    |.int k' n=>ay (cP k k') (.val (.int k (ay (y9 m n) n m))) .fail
    |_=>.fail
   |_=>.fail⟩
  |_,_=>none
 | .min,[x,y]=>match aU C x,aU C y with
  | some a,some b=>some ⟨λs _=>match a.run s with
   | .int k m=>match b.run s with
    |.int k' n=>ay (cP k k') (.val (.int k (ay (y9 n m) n m))) .fail
    |_=>.fail
   |_=>.fail⟩
  |_,_=>none
 |_,_=>none
def eV{α:Type}(f:α->Option Nat):List α->Option Nat
 |[]=>some 0
 | v::vs=>match f v with
  | some a=>match eV f vs with
   |some b=>some (Nat.max a b)
   |none=>none
  |none=>none
def dZ:Nat->AV->Option Nat
 |0,_=>none
 | f+1,v=>match v with
  |.tsl l _ _=>some l
  |.tptr l _ _ _ _=>some l
  |.agg cs=>eV (dZ f) cs
  |.tup cs=>eV (dZ f) cs
  |.clo _ a c=>eV (dZ f) (a++c)
  |.ifc _ v=>dZ f v
  |.hsl ..|.hptr ..|.hmap _|.yld _=>none
  |_=>some 0
def aC:Nat:=24
def fg(rows:List (List AV)):Option Nat:=eV (eV (dZ aC)) rows
def qo(sz:Nat):Nat->List AV->List (List AV)
 |0,_=>[]
 |n+1,cs=>iQ sz cs::qo sz n (gD sz cs)
def iP(n sz:Nat)(a:T->AV)(lo hi:T->Option AV):SFn:=λt g =>
 match aY n n (hi t) with
 |none=>.fail
 | some h=>match aY 0 h (lo t) with
  |none=>.fail
  | some l=>match a t with
   | .tptr tag _ rows i off=>match A8 i rows with
    |some row=>ay (Nat.ble (off+n*sz) (bj row)) (.val (.tsl tag sz (qo sz (h - l) (gD (off+l*sz) row)))) .fail
    |none=>.fail
   | .hptr id ep i off=>match g.get id with
    | .cells sz' rows ep' loose _=>ay (Nat.beq ep ep') (match A8 i rows with
     | some row=>ay (Nat.ble (off+n*sz) (bj row))
      ((λrs=>match fg rs with
        |some m=>.upd (.tsl m sz rs) (g.put id (.cells sz' rows ep' loose true))
        |none=>.fail) (qo sz (h - l) (gD (off+l*sz) row))) .fail
     |none=>.fail) .fail
    |_=>.fail
   |_=>.fail
def cw(C:Cfg):Op->Option (Stg SFn)
 |.move x|.assign x=>match aU C x with|some a=>some ⟨λt _=>.val (a.run t)⟩|none=>none
 | .pick c a b=>match aU C c,aU C a,aU C b with
  |some c,some a,some b=>some ⟨λt _=>match c.run t with|.bool q=>ay q (.val (a.run t)) (.val (b.run t))|_=>.fail⟩
  |_,_,_=>none
 | .alloc ty=>match fS C.P ty with
  |some cs=>some ⟨Do cs⟩
  |none=>none
 | .box _ x=>match aU C x with
  |some a=>some ⟨K0 a.run⟩
  |none=>none
 | .build ty parts=>match fS C.P ty,bM C (parts.toList.map (·.2)) with
  | some zero,some vs =>
   match C.P.underlying ty with
   | some (.struct fs)=>match aF (λf:Field=>match szT C.P f.type with| some n=>some (f.offset,n)| none=>none) fs.toList with
    | some places=>match aF (λi=>places[i]?) (parts.toList.map (·.1)) with
     |some pl=>some ⟨nZ zero pl vs.run⟩
     |none=>none
    |none=>none
   | some (.array _ e)=>match szT C.P e with
    |some n=>some ⟨nZ zero ((parts.toList.map (·.1)).map λi=>(i*n,n)) vs.run⟩
    |none=>none
   |_=>none
  |_,_=>none
 | .buildSlice ty len parts=>match lM C.P ty,bM C (parts.toList.map (·.2)) with
  | some e,some vs=>match szT C.P e,fS C.P e with
   | some sz,some zero=>ay (Nat.beq (bj zero) sz&&Nat.blt 0 sz&&Nat.ble (len*sz) 1048576)
    (some ⟨ij sz len (fj len zero) (parts.toList.map (·.1)) vs.run⟩) none
   |_,_=>none
  |_,_=>none
 | .load ty a=>match aU C a,sj C.P ty,szT C.P ty with
  |some a,some ag,some n=>some ⟨nh ag n a.run⟩
  |_,_,_=>none
 | .store ty a x=>match aU C a,aU C x,szT C.P ty with
  |some a,some x,some n=>some ⟨pc n a.run x.run⟩
  |_,_,_=>none
 | .nilCheck x=>match aU C x with
  | some a=>some ⟨λt _=>match a.run t with
   |.tptr l sz rows i off=>.val (.tptr l sz rows i off)
   |.hptr id ep i off=>.val (.hptr id ep i off)
   |.clo f a c=>.val (.clo f a c)
   |.yld id=>.val (.yld id)
   |_=>.fail⟩
  |none=>none
 | .binOp op ty x y _=>match aU C x,aU C y with
  |some a,some b=>some ⟨λt _=>(zK C.P op ty).run (a.run t) (b.run t)⟩
  |_,_=>none
 | .unOp op _ x=>match aU C x with
  |some a=>some ⟨λt _=>(unA op).run (a.run t)⟩
  |none=>none
 | .convert src dst x=>match aU C x,C.P.underlying src,C.P.underlying dst with
  |some a,some _,some (.int k)=>some ⟨λt _=>match a.run t with|.int _ n=>.val (.int k (tY k n))|_=>.fail⟩
  |_,_,_=>none
 | .makeInterface ty x=>match aU C x,C.P.underlying ty with
  |some _,some (.interface _)=>none
  |some a,some _=>some ⟨λt _=>.val (.ifc ty (a.run t))⟩
  |_,_=>none
 | .makeFunc (.func f) first captured=>match bM C first.toList,bM C captured.toList with
  |some a,some c=>some ⟨λt _=>.val (.clo f (a.run t) (c.run t))⟩
  |_,_=>none
 | .makeMap ty none=>match C.P.underlying ty with
  |some (.map _ _)=>some ⟨λ_ g=>.upd (.hmap g.nx) (g.new (.map []))⟩
  |_=>none
 | .makeSlice ty l c=>match lM C.P ty,aU C l,aU C c with
  | some e,some l,some c=>match szT C.P e,jS C.P e,fS C.P e with
   |some sz,some bytes,some zero=>ay (Nat.beq (bj zero) sz&&Nat.blt 0 sz) (some ⟨ic sz bytes zero l.run c.run⟩) none
   |_,_,_=>none
  |_,_,_=>none
 | .slice ty x lo hi none=>match C.P.underlying ty,aU C x,bM C lo.toList,bM C hi.toList with
  | some (.slice e),some x,some l,some h=>match szT C.P e with
   |some sz=>some ⟨λt g=>orV (lK sz (x.run t) (l.run t).head? (h.run t).head? none g.h)⟩
   |none=>none
  | some (.array n e),some x,some l,some h=>match szT C.P e with
   |some (sz+1)=>some ⟨iP n (sz+1) x.run (λt=>(l.run t).head?) (λt=>(h.run t).head?)⟩
   |_=>none
  |_,_,_,_=>none
 | .slice ty x lo (some hi) (some mx)=>match lM C.P ty,aU C x,bM C lo.toList,aU C hi,aU C mx with
  | some e,some x,some l,some h,some m=>match szT C.P e with
   |some sz=>some ⟨λt g=>orV (lK sz (x.run t) (l.run t).head? (some (h.run t)) (some (m.run t)) g.h)⟩
   |none=>none
  |_,_,_,_,_=>none
 | .fieldAddr ty x f=>match aU C x,tB C.P ty f with
  | some a,some (fo,ft)=>match szT C.P ft with
   |some (_+1)=>some ⟨j8 fo a.run⟩
   |_=>none
  |_,_=>none
 | .field ty x f=>match aU C x,tB C.P ty f with
  | some a,some (fo,ft)=>match sj C.P ft,szT C.P ft with
   |some ag,some n=>some ⟨λt _=>match a.run t with|.agg cs=>orV (bT ag n cs fo)|_=>.fail⟩
   |_,_=>none
  |_,_=>none
 | .indexAddr ty x ix=>match aU C x,aU C ix with
  | some a,some i=>match C.P.underlying ty with
   | some (.slice e)=>match szT C.P e with
    |some sz=>some ⟨gN sz a.run i.run⟩
    |none=>none
   | some (.array n e)=>match szT C.P e with
    |some sz=>some ⟨nf n sz a.run i.run⟩
    |none=>none
   |_=>none
  |_,_=>none
 | .index ty x ix=>match aU C x,aU C ix with
  | some a,some i=>match C.P.underlying ty with
   | some (.array n e)=>match sj C.P e,szT C.P e with
    |some ag,some sz=>some ⟨vE ag n sz a.run i.run⟩
    |_,_=>none
   |some .string=>some ⟨pY a.run i.run⟩
   |_=>none
  |_,_=>none
 | .lookup ty x k ok=>match aU C x,aU C k,C.P.underlying ty with
  | some m,some k,some (.map kt et)=>match yK C.P et with
   |some z=>some ⟨dC (f_ C.P kt) z ok m.run k.run⟩
   |none=>none
  |_,_,_=>none
 | .mapUpdate ty m k x| .insert ty m k x=>match aU C m,aU C k,aU C x,C.P.underlying ty with
  |some m,some k,some x,some (.map kt _)=>some ⟨fO (f_ C.P kt) m.run k.run x.run⟩
  |_,_,_,_=>none
 | .mapEntry ty m k=>match aU C m,aU C k,C.P.underlying ty with
  | some m,some k,some (.map kt et)=>match yK C.P et with
   |some z=>some ⟨gc (f_ C.P kt) z m.run k.run⟩
   |none=>none
  |_,_,_=>none
 | .entryStore _ m st x=>match aU C m,aU C st,aU C x with
  |some m,some st,some x=>some ⟨im m.run st.run x.run⟩
  |_,_,_=>none
 | .extract x i=>match aU C x with
  |some a=>some ⟨λt _=>match a.run t with|.tup vs=>orV (A8 i vs)|_=>.fail⟩
  |none=>none
 |.call { callee:=.builtin b,args,argTypes }=>dj C b argTypes args.toList
 |_=>none
def snap(h:H)(tag:Nat):Nat->AV->Option AV
 |0,_=>none
 | f+1,v=>match v with
  |.agg cs=>match aF (snap h tag f) cs with|some as=>some (.agg as)|none=>none
  |.tup cs=>match aF (snap h tag f) cs with|some as=>some (.tup as)|none=>none
  | .clo g a c=>match aF (snap h tag f) a,aF (snap h tag f) c with
   |some as,some cs=>some (.clo g as cs)
   |_,_=>none
  |.ifc t x=>match snap h tag f x with|some a=>some (.ifc t a)|none=>none
  | .hsl id ep off len _=>match h.get id with
   | .cells sz rows ep' _ _=>ay (Nat.beq ep ep'&&Nat.ble (off+len) (bj rows))
    (match aF (aF (snap h tag f)) (iQ len (gD off rows)) with
     | some rs=>match fg rs with
      |some m=>some (.tsl (Nat.max tag m) sz rs)
      |none=>none
     |none=>none) none
   |_=>none
  | .hptr id ep i off=>match h.get id with
   | .cells sz rows ep' _ _=>ay (Nat.beq ep ep')
    (match aF (aF (snap h tag f)) rows with
     | some rs=>match fg rs with
      |some m=>some (.tptr (Nat.max tag m) sz rs i off)
      |none=>none
     |none=>none) none
   |_=>none
  |.hmap _=>none
  |.yld _=>none
  |v=>some v
def aw(h:H):Nat->AV->List Nat
 |0,_=>[]
 | f+1,v=>match v with
  |.agg cs=>cs.flatMap (aw h f)
  |.tup cs=>cs.flatMap (aw h f)
  |.clo _ a c=>a.flatMap (aw h f)++c.flatMap (aw h f)
  |.ifc _ x=>aw h f x
  | .hsl id _ off len _=>id::(match h.get id with
   |.cells _ rows _ _ _=>(iQ len (gD off rows)).flatMap (·.flatMap (aw h f))
   |_=>[])
  | .hptr id _ _ _=>id::(match h.get id with
   |.cells _ rows _ _ _=>rows.flatMap (·.flatMap (aw h f))
   |_=>[])
  |.hmap id=>[id]
  |_=>[]
def du(d:Nat):Nat->AV->Option AV
 |0,_=>none
 | f+1,v=>match v with
  | .tsl t sz rows=>ay (Nat.beq t d) (match aF (aF (du d f)) rows with
   | some rs=>match fg rs with
    |some m=>some (.tsl m sz rs)
    |none=>none
   |none=>none) (some v)
  | .tptr t sz rows i off=>ay (Nat.beq t d) (match aF (aF (du d f)) rows with
   | some rs=>match fg rs with
    |some m=>some (.tptr m sz rs i off)
    |none=>none
   |none=>none) (some v)
  |.agg cs=>match aF (du d f) cs with|some as=>some (.agg as)|none=>none
  |.tup cs=>match aF (du d f) cs with|some as=>some (.tup as)|none=>none
  | .clo g a c=>match aF (du d f) a,aF (du d f) c with
   |some as,some cs=>some (.clo g as cs)
   |_,_=>none
  |.ifc t x=>match du d f x with|some a=>some (.ifc t a)|none=>none
  |v=>some v
def cj(g:G):List Nat->G
 |[]=>g
 | i::is=>match g.get i with
  |.cells sz rows ep loose _=>cj (g.put i (.cells sz rows ep loose true)) is
  |_=>cj g is
def af(ih:IH)(d:Nat)(g:G)(f:Nat)(args:List AV):OR :=
 match aF (snap g.h d aC) args with
 |none=>.fail
 | some as=>match ih.call (Nat.succ d) f as G.empty with
  |.fail=>.fail
  | .ok r g'=>match snap g'.h 0 aC r with
   |none=>.fail
   | some r'=>match dZ aC r' with
    |none=>.fail
    | some m=>ay (Nat.blt m d) (.val r')
     (match du d aC r' with
      |none=>.fail
      | some r''=>match dZ aC r'' with
       |none=>.fail
       |some m'=>ay (Nat.blt m' d) (.upd r'' (cj g (args.flatMap (aw g.h aC)))) .fail)
def cp:T->Nat->List Nat->List AV->Option T
 |t,_,[],[]=>some t
 |t,nt,p::ps,v::vs=>ay (Nat.blt p nt) (cp ((sp AV.undef p).run t v) nt ps vs) none
 |_,_,_,_=>none
def bP(ih:IH)(d:Nat)(id:Nat)(args:List AV)(g:G):OR :=
 match g.get id with
 | .loop nt t ps assign body _ _ _=>match cp t nt ps args with
  |none=>.fail
  | some t'=>match ih.code nt d (some id) assign t' [] g with
   | .ok .norm t1 [] g1=>match g1.get id with
    | .loop nt1 t ps assign1 body1 dfr .ready pend =>
     match ih.code nt d (some id) body t1 [] (g1.put id (.loop nt1 t ps assign1 body1 dfr .busy pend)) with
     | .ok e _ [] g2=>match g2.get id with
      | .loop nt t ps assign body dfr _ _=>match e with
       |.norm=>.upd (.bool true) (g2.put id (.loop nt t ps assign body dfr .ready none))
       |.exit j=>.upd (.bool false) (g2.put id (.loop nt t ps assign body dfr .done (some (.exit j))))
       |.ret=>.upd (.bool false) (g2.put id (.loop nt t ps assign body dfr .done (some .ret)))
      |_=>.fail
     |_=>.fail
    |_=>.fail
   |_=>.fail
 |_=>.fail
def orF:FR->OR
 |.ok v g=>.upd v g
 |.fail=>.fail
def jG(C:Cfg)(ih:IH)(d:Nat)(fv:AV)(vs:List AV)(g:G):OR :=
 match fv with
 | .clo f first cap=>match C.ext f with
  |some e=>e d (first++(vs++cap)) g
  |none=>ay (C.iso f) (af ih d g f (first++(vs++cap))) (orF (ih.call d f (first++(vs++cap)) g))
 |.yld id=>bP ih d id vs g
 |_=>.fail
def cOp(C:Cfg):Op->Option (Stg KR)
 | .call { callee:=.value (.func f),args,.. }=>match bM C args.toList with
  | some vs=>match C.ext f with
   |some e=>some ⟨λ_ d _ t g=>e d (vs.run t) g⟩
   |none=>ay (C.iso f) (some ⟨λih d _ t g=>af ih d g f (vs.run t)⟩) (some ⟨λih d _ t g=>orF (ih.call d f (vs.run t) g)⟩)
  |none=>none
 | .call { callee:=.value fo,args,.. }=>match aU C fo,bM C args.toList with
  |some fv,some vs=>some ⟨λih d _ t g=>jG C ih d (fv.run t) (vs.run t) g⟩
  |_,_=>none
 |.call { callee:=.builtin .recover,.. }=>some ⟨λ_ _ _ _ _=>.val .nili⟩
 | .defer { callee:=.value fo,args,.. }=>match aU C fo,bM C args.toList with
  | some fv,some vs=>some ⟨λ_ _ rd t _=>match rd with
   |some _=>.fail
   | none=>match fv.run t with
    |.clo f first cap=>.dfr (.call (.clo f [] cap) (first++vs.run t))
    |_=>.fail⟩
  |_,_=>none
 | op=>match cw C op with
  |some s=>some ⟨λ_ _ _ t g=>s.run t g⟩
  |none=>none
def cE(C:Cfg)(op:Op):Stg KR :=
 match cOp C op with
 |some f=>f
 |none=>⟨λ_ _ _ _ _=>.fail⟩
structure Looks where
 rd:List Nat
 sr:List (Nat×Nat)
 soft:List (Nat×Nat)
 big:Bool
def an:AV->List Nat
 |.hptr id _ _ _=>[id]
 |.hsl id _ _ _ _=>[id]
 |.hmap id=>[id]
 |_=>[]
def w_:AV->List Nat
 |.hmap id=>[id]
 |_=>[]
def ug:AV->List Nat
 |.hsl id _ _ (_+1) _=>[id]
 |_=>[]
def lY(C:Cfg)(b:Builtin)(argTypes:Array TypeId):AV->List Nat :=
 match b with
 | .len=>match argTypes[0]? with
  | some t=>match ma C.P t with
   |.map=>w_
   |_=>λ_=>[]
  |none=>λ_=>[]
 |.clear=>ug
 |_=>an
def aE:Looks:=⟨[],[],[],false⟩
def cd:Looks:=⟨[],[],[],true⟩
def am(l:List Nat):Looks:=⟨l,[],[],false⟩
def aO(C:Cfg)(op:Op):Stg (T->G->Looks) :=
 match op with
 | .load _ a| .store _ a _| .slice _ a _ _ _| .lookup _ a _ true| .mapUpdate _ a _ _| .insert _ a _ _| .entryStore _ a _ _=>match aU C a with
  |some a=>⟨λt _=>am (an (a.run t))⟩
  |none=>⟨λ_ _=>cd⟩
 | .lookup ty a _ false=>match aU C a with
  |some a=>⟨λt _=>⟨[],(an (a.run t)).map (·,ty),[],false⟩⟩
  |none=>⟨λ_ _=>cd⟩
 | .mapEntry ty a _=>match aU C a with
  |some a=>⟨λt _=>⟨an (a.run t),[],(an (a.run t)).map (·,ty),false⟩⟩
  |none=>⟨λ_ _=>cd⟩
 | .indexAddr ty a _=>match C.P.underlying ty,aU C a with
  |some (.slice _),some a=>⟨λt _=>am (an (a.run t))⟩
  |_,_=>⟨λ_ _=>aE⟩
 | .call { callee:=.builtin b,args,argTypes }=>match bM C args.toList with
  |some vs=>⟨λt _=>am ((vs.run t).flatMap (lY C b argTypes))⟩
  |none=>⟨λ_ _=>cd⟩
 | .call { callee:=.value fo,args,.. }=>match aU C fo,bM C args.toList with
  | some fv,some vs=>⟨λt g=>match fv.run t with
   |.clo f first cap=>ay ((C.ext f).isSome || C.iso f) (am ((first++(vs.run t++cap)).flatMap (aw g.h aC))) cd
   |_=>cd⟩
  |_,_=>⟨λ_ _=>cd⟩
 |.defer _=>⟨λ_ _=>cd⟩
 |_=>⟨λ_ _=>aE⟩
structure Foot where
 lk:Looks
 wr:List Nat
abbrev RFn:=IH->Nat->Option Nat->T->List ADf->G->CR
def qb(nt:Nat):Option Nat->Option (Stg (T->AV->T))
 |none=>some ⟨λt _=>t⟩
 |some d=>ay (Nat.blt d nt) (some (sp AV.undef d)) none
def iV(ops:List Oper):Option (Nat×Bool)->Option (Stg (T->Option Bool))
 |none=>some ⟨λ_=>some true⟩
 | some (j,want)=>match ops[j]? with
  | some oj=>match oj.dst with
   | some d=>some ⟨λt=>match (gp AV.undef d).run t with
    |.bool b=>some (ay want b (jz b))
    |.tup _=>some false
    |_=>none⟩
   |none=>none
  |none=>none
def pd(out:T->AV->T)(next:T->List ADf->G->CR)(t:T)(df:List ADf)(g:G):OR->CR
 |.fail=>.fail
 |.val v=>next (out t v) df g
 |.upd v g'=>next (out t v) df g'
 |.dfr a=>next (out t .undef) (a::df) g
def CJ:Stg RFn:=⟨λ_ _ _ _ _ _=>.fail⟩
def jU(C:Cfg)(nt:Nat)(all:List Oper):List Oper->Stg RFn
 |[]=>⟨λ_ _ _ t df g=>.ok .norm t df g⟩
 | o::rest=>match qb nt o.dst with
  | some out=>match o.guard with
   |none=>⟨λih d rd t df g=>pd out.run ((jU C nt all rest).run ih d rd) t df g ((cE C o.op).run ih d rd t g)⟩
   | some gd=>match iV all (some gd) with
    | some q=>⟨λih d rd t df g=>match q.run t with
     |some true=>pd out.run ((jU C nt all rest).run ih d rd) t df g ((cE C o.op).run ih d rd t g)
     |some false=>(jU C nt all rest).run ih d rd (out.run t .undef) df g
     |none=>.fail⟩
    |none=>CJ
  |none=>CJ
def bo:List Oper->List Nat->List Nat
 |[],acc=>acc
 | o::rest,acc =>
  bo rest (acc++[o.after.toList.foldl (λm e=>ay (Region.binds .any e) (m ||| 2 ^ e.on ||| acc.getD e.on 0) m) 0])
def uk(ops:List Oper)(o:Oper):List Nat :=
 (o.op.operands.toList.filterMap fun|.tmp t=>some t|_=>none) ++
 (match o.guard with
  |some (g,_)=>match ops[g]? with|some og=>og.dst.toList|none=>[]
  |none=>[])
def kg(ops:List Oper)(x y:Oper):Bool :=
 (match x.dst with|some d=>!(uk ops y).contains d&&y.dst != some d|none=>true) &&
 (match y.dst with|some d=>!(uk ops x).contains d|none=>true)
def meets(a b:List Nat):Bool:=a.any λx=>b.contains x
def fst1(l:List (Nat×Nat)):List Nat:=l.map (·.1)
def Ef(p:Nat×Nat):List (Nat×Nat)->Bool
 |[]=>false
 |q::r=>ay (Nat.beq p.1 q.1&&Nat.beq p.2 q.2) true (Ef p r)
def jx(x y:Foot):Bool :=
 match x.wr with
 |[]=>true
 |_=>!y.lk.big&&!meets x.wr y.wr&&!meets x.wr y.lk.rd&&!meets x.wr (fst1 y.lk.sr)
def fY(x y:Foot):Bool :=
 match x.wr with
 |[]=>true
 |_=>!y.lk.big&&!meets x.wr y.wr&&!meets x.wr y.lk.rd&&(!meets x.wr (fst1 y.lk.sr) || y.lk.sr.all λp=>Ef p x.lk.soft)
def bF(x y:Foot):Bool:=jx x y&&fY y x
def eQ(pm:List Nat)(i:Nat)(x:Foot):Nat->List Foot->Nat
 |_,[]=>0
 |j,y::r=>ay ((pm.getD j 0).testBit i || !meets y.wr (fst1 x.lk.sr)) (eQ pm i x (Nat.succ j) r) (Nat.succ (eQ pm i x (Nat.succ j) r))
def tU(pm:List Nat):Nat->List Foot->Bool
 |_,[]=>true
 |i,x::r=>ay (match x.lk.sr with|[]=>true|_=>Nat.ble (eQ pm i x (Nat.succ i) r) 1) (tU pm (Nat.succ i) r) false
def fU{α:Type}(f:Nat->α->Nat->α->Bool)(i:Nat)(x:α):Nat->List α->Bool
 |_,[]=>true
 |j,y::r=>f i x j y&&fU f i x (j+1) r
def kI{α:Type}(f:Nat->α->Nat->α->Bool):Nat->List α->Bool
 |_,[]=>true
 |i,x::rest=>fU f i x (i+1) rest&&kI f (i+1) rest
def pB:Nat->List Oper->Bool
 |_,[]=>true
 |i,o::r=>(o.after.toList.all λe=>!Region.binds .any e || Nat.blt e.on i)&&pB (i+1) r
def na(pm:List Nat):Nat->List Oper->Bool
 |_,[]=>true
 |i,o::r=>(match o.guard with|none=>true|some (j,_)=>(pm.getD i 0).testBit j)&&na pm (i+1) r
def Ec(ops:List Oper):Bool :=
 let pm:=bo ops []
 pB 0 ops&&na pm 0 ops&&kI (λi x j y=>(pm.getD j 0).testBit i || kg ops x y) 0 ops
def qH(pm:List Nat)(fs:List Foot):Bool :=
 ay (kI (λi x j y=>(pm.getD j 0).testBit i || bF x y) 0 fs) (tU pm 0 fs) false
def zo(C:Cfg):Op->Bool
 |.alloc _|.box ..|.buildSlice ..|.store ..|.makeSlice ..|.makeMap ..|.mapUpdate ..|.insert ..|.mapEntry ..|.entryStore ..|.defer _=>false
 |.call { callee:=.builtin .append,.. }|.call { callee:=.builtin .copy,.. }|.call { callee:=.builtin .clear,.. }=>false
 |.slice ty _ _ _ _=>match C.P.underlying ty with|some (.slice _)=>true|_=>false
 |.call { callee:=.value (.func f),.. }=>C.iso f
 |.call { callee:=.value _,.. }=>false
 |_=>true
abbrev RF:=IH->Nat->Option Nat->T->List ADf->G->List Foot->CR
def aR(g:G)(lg:List Nat):G:=@G.rec (λ_=>G) (λh nx _=>⟨h,nx,lg⟩) g
def pp(g:G)(lg:List Nat):G:=@G.rec (λ_=>G) (λh nx _=>⟨h,Nat.succ nx,lg⟩) g
def lf(out:T->AV->T)(next:T->List ADf->G->List Foot->CR)(t:T)(df:List ADf)(g:G)(fs:List Foot)(lk:Looks):OR->CR
 |.fail=>.fail
 |.val v=>next (out t v) df (pp g g.lg) (⟨lk,[]⟩::fs)
 |.upd v g'=>next (out t v) df (pp g' (g'.lg++g.lg)) (⟨lk,g'.lg⟩::fs)
 |.dfr _=>.fail
def iU(C:Cfg)(nt:Nat)(pm:List Nat)(all:List Oper):Nat->List Oper->Stg RF
 |_,[]=>⟨λ_ _ _ t df g fs=>ay (qH pm fs.reverse) (.ok .norm t df g) .fail⟩
 | i,o::rest=>match qb nt o.dst,iV all o.guard with
  | some out,some q=>⟨λih d rd t df g fs=>match q.run t with
     |some true=>lf out.run ((iU C nt pm all (i+1) rest).run ih d rd) t df g fs ((aO C o.op).run t g) ((cE C o.op).run ih d rd t (aR g []))
     |some false=>(iU C nt pm all (i+1) rest).run ih d rd (out.run t .undef) df g (⟨aE,[]⟩::fs)
     |none=>.fail⟩
  |_,_=>⟨λ_ _ _ _ _ _ _=>.fail⟩
def np(g0:G):CR->CR
 |.ok e t df g=>match g.lg with|[]=>ay (Nat.beq g.nx g0.nx) (.ok e t df g0) .fail|_=>.fail
 |.fail=>.fail
def fV(C:Cfg)(nt:Nat)(ops:List Oper)(draw:Bool):Stg RFn :=
 ay draw
  (ay (Ec ops)
   (ay (ops.all λo=>zo C o.op)
    ⟨λih d rd t df g=>np g ((jU C nt ops ops).run ih d rd t df (aR g []))⟩
    ⟨λih d rd t df g=>(iU C nt (bo ops []) ops 0 ops).run ih d rd t df g []⟩) CJ)
  (jU C nt ops ops)
def dY(ih:IH)(nt d:Nat)(rd:Option Nat)(id:Nat)(t:T)(df:List ADf)(g2:G):CR :=
 match g2.get id with
 | .loop nt' t' ps assign body dfr st pend=>match st with
  |.busy=>.fail
  | _=>match pend with
   |none=>.ok .norm t df (g2.put id (.loop nt' t' ps assign body dfr .exhausted pend))
   |some c=>ih.code nt d rd c t df (g2.put id (.loop nt' t' ps assign body dfr .exhausted pend))
 |_=>.fail
def cN(C:Cfg)(ih:IH)(nt d:Nat)(rd:Option Nat)(fv:AV)(ps:List Nat)(assign body:Code)(t:T)(df:List ADf)(dfr:Nat)(g:G):CR :=
 match fv with
 | .clo f first cap=>ay (C.ext f).isSome .fail
  (match ih.call d f (first++(.yld g.nx::cap)) (g.new (.loop nt t ps assign body dfr .ready none)) with
  |.ok _ g2=>dY ih nt d rd g.nx t df g2
  |.fail=>.fail)
 |_=>.fail
def nq(C:Cfg)(nt:Nat)(fo:T->AV)(ps:List Nat)(assign body:Code):RFn:=λih d rd t df g =>
 match rd with
 | some l=>match g.get l with
  |.loop _ _ _ _ _ dfr _ _=>cN C ih nt d rd (fo t) ps assign body t df dfr g
  |_=>.fail
 |none=>cN C ih nt d rd (fo t) ps assign body t (.mark g.nx::df) g.nx (g.new (.dfr true))
def Ce(k:T->List ADf->G->CR):CR->CR
 |.ok .norm t df g=>k t df g
 |r=>r
def uR(id:Nat):CR->CR
 |.ok (.exit j) t df g=>ay (Nat.beq j id) (.ok .norm t df g) (.ok (.exit j) t df g)
 |r=>r
def aS(C:Cfg)(nt:Nat):Code->Stg RFn
 |.skip=>⟨λ_ _ _ t df g=>.ok .norm t df g⟩
 |.label _=>⟨λ_ _ _ t df g=>.ok .norm t df g⟩
 |.region _ ops draw=>fV C nt ops.toList draw
 |.seq a b=>⟨λih d rd t df g=>Ce ((aS C nt b).run ih d rd) ((aS C nt a).run ih d rd t df g)⟩
 | .cond c a b=>match aU C c with
  | some q=>⟨λih d rd t df g=>match q.run t with
   |.bool v=>ay v ((aS C nt a).run ih d rd t df g) ((aS C nt b).run ih d rd t df g)
   |_=>.fail⟩
  |none=>CJ
 |.block id body=>⟨λih d rd t df g=>uR id ((aS C nt body).run ih d rd t df g)⟩
 |.loop body=>⟨λih d rd t df g=>Ce (λt df g=>ih.code nt d rd (.loop body) t df g) ((aS C nt body).run ih d rd t df g)⟩
 |.scope body=>aS C nt body
 |.exit id=>⟨λ_ _ _ t df g=>.ok (.exit id) t df g⟩
 |.ret=>⟨λ_ _ _ t df g=>.ok .ret t df g⟩
 | .rangeFunc f ps assign body=>match aU C f with
  |some a=>⟨nq C nt a.run ps.toList assign body⟩
  |none=>CJ
 |_=>CJ
def Le(C:Cfg)(ih:IH)(nt d:Nat)(rd:Option Nat)(c:Code)(t:T)(df:List ADf)(g:G):CR :=
 (aS C nt c).run ih d rd t df g
def d8(ih:IH)(d:Nat):List ADf->G->Option G
 |[],g=>some g
 | .mark id::ds,g=>match g.get id with
  |.dfr true=>d8 ih d ds (g.put id (.dfr false))
  |_=>none
 | .call (.clo f first cap) args::ds,g=>match ih.call d f (first++(args++cap)) g with
  |.ok _ g'=>d8 ih d ds g'
  |.fail=>none
 |.call _ _::_,_=>none
def rT(C:Cfg):List ResultVar->Option (Stg (T->G->Option (List AV)))
 |[]=>some ⟨λ_ _=>some []⟩
 | .tmp n::rs=>match rT C rs with
  |some k=>some ⟨λt g=>match k.run t g with|some vs=>some ((gp AV.undef n).run t::vs)|none=>none⟩
  |none=>none
 | .cell a ty::rs=>match rT C rs,cw C (.load ty (.tmp a)) with
  | some k,some l=>some ⟨λt g=>match l.run t g with
   |.val v=>(match k.run t g with|some vs=>some (v::vs)|none=>none)
   |_=>none⟩
  |_,_=>none
def bN:Nat->List AV->T->T
 |_,[],t=>t
 |i,v::vs,t=>bN (i+1) vs ((sp AV.undef i).run t v)
def gQ:List AV->AV
 |[v]=>v
 |vs=>.tup vs
def cT(ih:IH)(d:Nat)(res:T->G->Option (List AV))(t:T)(df:List ADf)(g:G):FR :=
 match d8 ih d df g with
 |none=>.fail
 | some g'=>match res t g' with
  |some vs=>.ok (gQ vs) g'
  |none=>.fail
def cFn(C:Cfg)(f:Nat):Option (Stg (IH->Nat->List AV->G->FR)) :=
 match C.P.funcs[f]? with
 |none=>none
 | some fn=>match fn.body with
  |none=>none
  | some c=>match rT C fn.results.toList with
   | some r => ay (fn.name == "runtime.NumGoroutine") none
    (some ⟨λih d args g=>ay (Nat.ble (bj args) fn.ntmps)
     (match (aS C fn.ntmps c).run ih d none (bN 0 args .nil) [] g with
      |.ok (.exit _) _ _ _=>.fail
      |.ok _ t df g'=>cT ih d r.run t df g'
      |.fail=>.fail) .fail⟩)
   |none=>none
def eE(C:Cfg)(ih:IH)(d f:Nat)(args:List AV)(g:G):FR :=
 match cFn C f with
 |some x=>x.run ih d args g
 |none=>.fail
def IH.zero:IH:=⟨λ_ _ _ _ _ _ _=>.fail,λ_ _ _ _=>.fail⟩
def HA(C:Cfg)(ih:IH):IH:=⟨Le C ih,eE C ih⟩
def sem(C:Cfg)(n:Nat):IH:=@Nat.rec (λ_=>IH) IH.zero (λ_ ih=>HA C ih) n
@[simp] theorem bif'_true {α:Type} (x y:α):ay true x y=x:=rfl
@[simp] theorem bif'_false {α:Type} (x y:α):ay false x y=y:=rfl
theorem aa{α:Type}(b:Bool)(x y:α):ay b x y=if b=true then x else y:=by cases b<;>rfl
@[simp] theorem notb_eq (b:Bool):jz b = !b:=by cases b<;>rfl
theorem dD{α:Type}(n:Nat):∀l:List α,A8 n l=l[n]?:=by
 induction n with
 |zero=>intro l;cases l<;>rfl
 | succ n ih=>intro l;cases l with
  |nil=>rfl
  |cons a t=>simp only[Wz];exact ih t
theorem g7{α:Type}(n:Nat)(x:α):∀l:List α,Hu n x l=l.set n x:=by
 induction n with
 |zero=>intro l;cases l<;>rfl
 | succ n ih=>intro l;cases l with
  |nil=>rfl
  |cons a t=>simp only[WC];exact congrArg (a::·) (ih t)
theorem aA{α:Type}(l:List α):bj l=l.length:=by
 induction l with
 |nil=>rfl
 |cons a t ih=>exact congrArg Nat.succ ih
theorem ba{α:Type}(n:Nat):∀l:List α,gD n l=l.drop n:=by
 induction n with
 |zero=>intro l;rfl
 | succ n ih=>intro l;cases l with
  |nil=>rfl
  |cons a t=>simp only[Wx];exact ih t
theorem be{α:Type}(n:Nat):∀l:List α,iQ n l=l.take n:=by
 induction n with
 |zero=>intro l;rfl
 | succ n ih=>intro l;cases l with
  |nil=>rfl
  |cons a t=>simp only[WR];exact congrArg (a::·) (ih t)
section tr
variable {α:Type}(e:α)
theorem Ow:∀(f n:Nat) (t:Tr α),n<f->(gpF e f n).run t=t.get e n:=by
 intro f
 induction f with
 |zero=>intro n t h;omega
 | succ f ih =>
  intro n t h;cases n with
  |zero=>cases t<;>rfl
  | succ m =>
   have hm:m / 2<f:=by omega
   simp only[gpF];cases hb:Nat.beq (m % 2) 0
   ·cases t with
    |nil=>rfl
    |node v l r=>simp only[Tr.get,hb];exact ih _ _ hm
   ·cases t with
    |nil=>rfl
    |node v l r=>simp only[Tr.get,hb];exact ih _ _ hm
@[simp] theorem gp_run (n:Nat) (t:Tr α):(gp e n).run t=t.get e n:=Ow e (n+1) n t (by omega)
theorem RU(n:Nat):(Tr.nil:Tr α).get e n=e:=by cases n<;>rfl
theorem Pl:∀(f n:Nat) (t:Tr α) (x:α) (k:Nat),n<f->((spF e f n).run t x).get e k=if k=n then x else t.get e k:=by
 intro f
 induction f with
 |zero=>intro n t x k h;omega
 | succ f ih =>
  intro n t x k h;cases n with
  | zero=>cases t with
   | nil=>cases k with
    |zero=>rfl
    |succ k=>simp only[spF,Tr.get];cases Nat.beq (k % 2) 0<;>simp
   |node v l r=>cases k<;>simp[spF,Tr.get]
  | succ m =>
   have hm:m / 2<f:=by omega
   simp only[spF];cases hb:Nat.beq (m % 2) 0
   ·have b:m % 2=1:=by have:=Wg hb;omega
    cases t with
    | nil =>
     try simp only[bif'_false]
     cases k with
     |zero=>simp[Tr.get]
     | succ k =>
      simp only[Tr.get];cases hk:Nat.beq (k % 2) 0
      ·try simp only[bif'_false]
       rw[ih _ _ _ _ hm,RU];have a:k % 2=1:=by have:=Wg hk;omega
       by_cases h2:k=m
       ·subst h2;simp
       ·rw[TN (by omega),TN (by omega)]
      ·have a:k % 2=0:=UV hk
       try simp only[bif'_true]
       rw[TN (by omega)]
    | node v l r =>
     try simp only[bif'_false]
     cases k with
     |zero=>simp[Tr.get]
     | succ k =>
      simp only[Tr.get];cases hk:Nat.beq (k % 2) 0
      ·try simp only[bif'_false]
       rw[ih _ _ _ _ hm];have a:k % 2=1:=by have:=Wg hk;omega
       by_cases h2:k=m
       ·subst h2;simp
       ·rw[TN (by omega),TN (by omega)]
      ·have a:k % 2=0:=UV hk
       try simp only[bif'_true]
       rw[TN (by omega)]
   ·have b:m % 2=0:=UV hb;cases t with
    | nil =>
     try simp only[bif'_true]
     cases k with
     |zero=>simp[Tr.get]
     | succ k =>
      simp only[Tr.get];cases hk:Nat.beq (k % 2) 0
      ·have a:k % 2=1:=by have:=Wg hk;omega
       try simp only[bif'_false]
       rw[TN (by omega)]
      ·try simp only[bif'_true]
       rw[ih _ _ _ _ hm,RU];have a:k % 2=0:=UV hk
       by_cases h2:k=m
       ·subst h2;simp
       ·rw[TN (by omega),TN (by omega)]
    | node v l r =>
     try simp only[bif'_true]
     cases k with
     |zero=>simp[Tr.get]
     | succ k =>
      simp only[Tr.get];cases hk:Nat.beq (k % 2) 0
      ·have a:k % 2=1:=by have:=Wg hk;omega
       try simp only[bif'_false]
       rw[TN (by omega)]
      ·try simp only[bif'_true]
       rw[ih _ _ _ _ hm];have a:k % 2=0:=UV hk
       by_cases h2:k=m
       ·subst h2;simp
       ·rw[TN (by omega),TN (by omega)]
@[simp] theorem sp_get (n:Nat) (t:Tr α) (x:α) (k:Nat):((sp e n).run t x).get e k=if k=n then x else t.get e k :=
 Pl e (n+1) n t x k (by omega)
end tr
theorem RQ(h:H)(i:Nat)(o:AObj)(k:Nat):(h.put i o).get k=if k=i then o else h.get k:=by simp[H.get,H.put]
@[simp] theorem G.get_eq (g:G) (i:Nat):g.get i=g.h.get i:=rfl
@[simp] theorem G.put_h (g:G) (i:Nat) (o:AObj):(g.put i o).h=g.h.put i o:=by cases g;rfl
@[simp] theorem G.put_nx (g:G) (i:Nat) (o:AObj):(g.put i o).nx=g.nx:=by cases g;rfl
@[simp] theorem G.put_lg (g:G) (i:Nat) (o:AObj):(g.put i o).lg=i::g.lg:=by cases g;rfl
@[simp] theorem G.new_h (g:G) (o:AObj):(g.new o).h=g.h.put g.nx o:=by cases g;rfl
@[simp] theorem G.new_nx (g:G) (o:AObj):(g.new o).nx=g.nx+1:=by cases g;rfl
@[simp] theorem G.new_lg (g:G) (o:AObj):(g.new o).lg=g.nx::g.lg:=by cases g;rfl
@[simp] theorem bumpG_h (g:G) (l:List Nat):(pp g l).h=g.h:=by cases g;rfl
@[simp] theorem bumpG_nx (g:G) (l:List Nat):(pp g l).nx=g.nx+1:=by cases g;rfl
@[simp] theorem bumpG_lg (g:G) (l:List Nat):(pp g l).lg=l:=by cases g;rfl
@[simp] theorem setLog_h (g:G) (l:List Nat):(aR g l).h=g.h:=by cases g;rfl
@[simp] theorem setLog_nx (g:G) (l:List Nat):(aR g l).nx=g.nx:=by cases g;rfl
@[simp] theorem setLog_lg (g:G) (l:List Nat):(aR g l).lg=l:=by cases g;rfl
theorem nD(m:Nat)(h:m<9223372036854775808):IntKind.wrap .i64 (Int.ofNat m)=Int.ofNat m:=by have e:(Int.ofNat m) % (2 ^ 64:Int)=Int.ofNat m:=WH (V6 m) (by simp only[Ve];omega);unfold IntKind.wrap;simp only[IntKind.bits,IntKind.signed,e,U7,T9];rw[TN (by simp only[Ve];omega)]
theorem xk(z:Int)(h:-9223372036854775808<=z)(h0:z<0):IntKind.wrap .i64 z=z:=by
 have e:z % (2 ^ 64:Int)=z+2 ^ 64:=by rw[<-Int.add_emod_right,WH]<;>omega
 unfold IntKind.wrap;simp only[IntKind.bits,IntKind.signed,e,U7,T9]
 split<;>omega
theorem yj(m:Nat)(h:m<9223372036854775808):IntKind.wrap .i64 (Int.negSucc m)=Int.negSucc m:=by have h1:=Int.negSucc_eq m;generalize Int.negSucc m=z at *;exact xk z (by omega) (by omega)
theorem gY(k:IntKind)(n:Int):tY k n=k.wrap n:=by
 unfold tY
 split
 ·rename_i m;rw[aa];split
  ·rename_i h;rw[UH]at h;exact (nD m h).symm
  ·rfl
 ·rename_i m;rw[aa];split
  ·rename_i h;rw[UH]at h;exact (yj m h).symm
  ·rfl
 ·simp only[IntKind.wrap,IntKind.bits,IntKind.signed];rfl
 ·simp only[IntKind.wrap,IntKind.bits,IntKind.signed];rfl
 ·rfl
theorem l_(a b:Int):y9 a b=decide (a<b):=by rw[Wo,decide_eq_true_iff];cases a<;>cases b<;>simp only[y9,UH,Int.negSucc_eq,Ve,VO,false_iff,true_iff]<;>omega
theorem nS(a b:Int):DS a b=decide (a=b):=by
 rw[Wo,decide_eq_true_iff];cases a<;>cases b<;>simp only[DS,Int.negSucc_eq,Ve,VO,false_iff]
 ·rw[Nat.beq_eq];omega
 ·omega
 ·omega
 ·rw[Nat.beq_eq];omega
theorem qa(a b:IntKind):cP a b=decide (a=b):=by cases a<;>cases b<;>rfl
section
variable {x:AV}
structure Gh where
 kind:Nat
 ep:Nat
 sz:Nat
 n:Nat
 blk:Nat
 base:Nat
 slack:Nat
 wr:Bool
abbrev Gm:=Nat->Gh
def Mut(γ:Gm)(b:Nat):Prop:=∃id,(γ id).kind≠0/\(γ id).wr=true/\(γ id).blk=b
def adr(b o:Nat):Addr:=⟨b,o,none⟩
def iS(lim:Option Nat)(off cap:Nat)(g:Gh):Prop :=
 match lim with
 |some c=>cap=c/\off+c<=g.n
 |none=>off+cap=g.n+g.slack
inductive Closed:AV->Prop
 |bool (b:Bool):Closed (.bool b)
 |int (k:IntKind) (n:Int):Closed (.int k n)
 |str (s:ByteArray):Closed (.str s)
 |tup (xs:List AV) (h:∀x∈xs,Closed x):Closed (.tup xs)
 |agg (xs:List AV) (h:∀x∈xs,Closed x):Closed (.agg xs)
 |nilp:Closed .nilp
 |nils:Closed .nils
 |nilf:Closed .nilf
 |nilm:Closed .nilm
 |nili:Closed .nili
 |esl:Closed .esl
 |tsl (tag sz:Nat) (rows:List (List AV)) (h:∀row∈rows,∀x∈row,Closed x):Closed (.tsl tag sz rows)
 |tptr (tag sz:Nat) (rows:List (List AV)) (i off:Nat) (h:∀row∈rows,∀x∈row,Closed x):Closed (.tptr tag sz rows i off)
 |clo (f:Nat) (xs ys:List AV) (h:∀x∈xs,Closed x) (h2:∀x∈ys,Closed x):Closed (.clo f xs ys)
 |ifc (t:Nat) (x:AV) (h:Closed x):Closed (.ifc t x)
inductive RV (w:World) (γ:Gm) (A:Nat->Nat->Prop):Nat->AV->Value->Prop
 |bool (bd:Nat) (b:Bool):RV w γ A bd (.bool b) (.bool b)
 |int (bd:Nat) (k:IntKind) (n:Int):RV w γ A bd (.int k n) (.int k n)
 |str (bd:Nat) (s:ByteArray):RV w γ A bd (.str s) (.string s)
 | tup (bd:Nat) (xs:List AV) (vs:Array Value) (hl:xs.length=vs.size)
   (h:∀(i:Nat) x v,xs[i]?=some x->vs[i]?=some v->RV w γ A bd x v):RV w γ A bd (.tup xs) (.tuple vs)
 | agg (bd:Nat) (xs:List AV) (vs:Array Value) (hl:xs.length=vs.size) (h1:∀(i:Nat) x,xs[i]?=some x->x.one=true)
   (h:∀(i:Nat) x v,xs[i]?=some x->vs[i]?=some v->RV w γ A bd x v):RV w γ A bd (.agg xs) (.agg vs)
 |nilp (bd:Nat):RV w γ A bd .nilp (.pointer none)
 |nils (bd:Nat):RV w γ A bd .nils (.slice none 0 0)
 |nilf (bd:Nat):RV w γ A bd .nilf .nilFunc
 |nilm (bd:Nat):RV w γ A bd .nilm (.map none)
 |nili (bd:Nat):RV w γ A bd .nili .nilIface
 |esl (bd:Nat) (a:Addr):RV w γ A bd .esl (.slice (some a) 0 0)
 | tsl (bd tag sz:Nat) (rows:List (List AV)) (b o cap:Nat) (cell:Nat->Nat->Value) (ht:tag<=bd) (hc:rows.length<=cap)
   (hb:b<w.heap.size) (hm:¬Mut γ b) (ha:¬A tag b)
   (hr:∀(i:Nat) row,rows[i]?=some row->row.length=sz)
   (ho:∀(i j:Nat) row x,rows[i]?=some row->row[j]?=some x->x.one=true)
   (hw:∀(i j:Nat) row x,rows[i]?=some row->row[j]?=some x->w.cell? (adr b (o+i*sz+j))=some (cell i j))
   (h:∀(i j:Nat) row x,rows[i]?=some row->row[j]?=some x->RV w γ A tag x (cell i j))
   (hcl:∀row∈rows,∀x∈row,Closed x) :
   RV w γ A bd (.tsl tag sz rows) (.slice (some (adr b o)) rows.length cap)
 |tnil (bd tag sz:Nat) (a:Addr) (cap:Nat) (ht:tag<=bd):RV w γ A bd (.tsl tag sz []) (.slice (some a) 0 cap)
 | tptr (bd tag sz:Nat) (rows:List (List AV)) (i0 off0 b o:Nat) (cell:Nat->Nat->Value) (ht:tag<=bd)
   (hb:b<w.heap.size) (hm:¬Mut γ b) (ha:¬A tag b)
   (hr:∀(i:Nat) row,rows[i]?=some row->row.length=sz)
   (ho:∀(i j:Nat) row x,rows[i]?=some row->row[j]?=some x->x.one=true)
   (hw:∀(i j:Nat) row x,rows[i]?=some row->row[j]?=some x->w.cell? (adr b (o+i*sz+j))=some (cell i j))
   (h:∀(i j:Nat) row x,rows[i]?=some row->row[j]?=some x->RV w γ A tag x (cell i j))
   (hcl:∀row∈rows,∀x∈row,Closed x) :
   RV w γ A bd (.tptr tag sz rows i0 off0) (.pointer (some (adr b (o+i0*sz+off0))))
 | hsl (bd id ep off len:Nat) (lim:Option Nat) (b o cap:Nat) (hk:(γ id).kind=1) (he:ep<=(γ id).ep) (hc:len<=cap)
   (h:ep=(γ id).ep->b=(γ id).blk/\o=(γ id).base+off*(γ id).sz/\iS lim off cap (γ id)) :
   RV w γ A bd (.hsl id ep off len lim) (.slice (some (adr b o)) len cap)
 | hptr (bd id ep i off:Nat) (b o:Nat) (hk:(γ id).kind=1) (he:ep<=(γ id).ep)
   (h:ep=(γ id).ep->b=(γ id).blk/\o=(γ id).base+i*(γ id).sz+off) :
   RV w γ A bd (.hptr id ep i off) (.pointer (some (adr b o)))
 | clo (bd f:Nat) (xs ys:List AV) (vs us:Array Value) (hl:xs.length=vs.size) (hl2:ys.length=us.size)
   (h:∀(i:Nat) x v,xs[i]?=some x->vs[i]?=some v->RV w γ A bd x v)
   (h2:∀(i:Nat) x v,ys[i]?=some x->us[i]?=some v->RV w γ A bd x v):RV w γ A bd (.clo f xs ys) (.func (.func f) vs us)
 |hmap (bd id b:Nat) (hk:(γ id).kind=2) (hb:b=(γ id).blk):RV w γ A bd (.hmap id) (.map (some b))
 |ifc (bd t:Nat) (x:AV) (v:Value) (h:RV w γ A bd x v):RV w γ A bd (.ifc t x) (.iface t v)
 |yld (bd id b:Nat) (hk:(γ id).kind=3) (hb:b=(γ id).blk):RV w γ A bd (.yld id) (.func (.yield b) #[] #[])
def RVs(w:World)(γ:Gm)(A:Nat->Nat->Prop)(bd:Nat)(xs:List AV)(vs:List Value):Prop :=
 xs.length=vs.length/\∀(i:Nat) x v,xs[i]?=some x->vs[i]?=some v->RV w γ A bd x v
theorem RV.mono{γ:Gm}{A:Nat->Nat->Prop}{bd':Nat}(h:RV w γ A bd x v)(hb:bd<=bd') :
  RV w γ A bd' x v:=by
 induction h generalizing bd' with
 |bool=>exact .bool _ _
 |int=>exact .int _ _ _
 |str=>exact .str _ _
 |tup _ xs vs hl _ ih=>exact .tup _ _ _ hl λi x v h1 h2=>ih i x v h1 h2 hb
 |agg _ xs vs hl h1 _ ih=>exact .agg _ _ _ hl h1 λi x v h1 h2=>ih i x v h1 h2 hb
 |nilp=>exact .nilp _
 |nils=>exact .nils _
 |nilf=>exact .nilf _
 |nilm=>exact .nilm _
 |nili=>exact .nili _
 |esl=>exact .esl _ _
 |tsl _ tag sz rows b o cap cell ht hc hb' hm ha hr ho hw h hcl _=>exact .tsl _ tag sz rows b o cap cell (T6 ht hb) hc hb' hm ha hr ho hw h hcl
 |tnil _ tag sz a cap ht=>exact .tnil _ tag sz a cap (T6 ht hb)
 |tptr _ tag sz rows i0 off0 b o cell ht hb' hm ha hr ho hw h hcl _=>exact .tptr _ tag sz rows i0 off0 b o cell (T6 ht hb) hb' hm ha hr ho hw h hcl
 |hsl _ id ep off len lim b o cap hk he hc h=>exact .hsl _ id ep off len lim b o cap hk he hc h
 |hptr _ id ep i off b o hk he h=>exact .hptr _ id ep i off b o hk he h
 |clo _ f xs ys vs us hl hl2 _ _ ih ih2=>exact .clo _ f xs ys vs us hl hl2 (λi x v h1 h2=>ih i x v h1 h2 hb) (λi x v h1 h2=>ih2 i x v h1 h2 hb)
 |hmap _ id b hk hb'=>exact .hmap _ id b hk hb'
 |ifc _ t x v _ ih=>exact .ifc _ t x v (ih hb)
 |yld _ id b hk hb'=>exact .yld _ id b hk hb'
structure Stp (w:World) (γ:Gm) (w':World) (γ':Gm):Prop where
 sz:w.heap.size<=w'.heap.size
 os:w'.os=w.os
 tape:w'.tape=w.tape
 output:w'.output=w.output
 fr:∀b,b<w.heap.size->¬Mut γ b->w'.heap[b]?=w.heap[b]?
 mt:∀b,b<w.heap.size->Mut γ' b->Mut γ b
 kind:∀id,(γ id).kind≠0->(γ' id).kind=(γ id).kind/\(γ' id).blk=(γ id).blk\/(γ id).kind=1/\(γ' id).kind=1/\(γ id).ep<(γ' id).ep
 ep:∀id,(γ id).kind=1->(γ id).ep<=(γ' id).ep /\
  ((γ' id).ep=(γ id).ep->(γ' id).sz=(γ id).sz/\(γ' id).n=(γ id).n/\(γ' id).blk=(γ id).blk/\(γ' id).base=(γ id).base/\(γ' id).slack=(γ id).slack)
 dr:w.drawn<=w'.drawn
theorem Stp.refl(w:World)(γ:Gm):Stp w γ w γ :=
 ⟨TG _,rfl,rfl,rfl,λ_ _ _=>rfl,λ_ _ h=>h,λ_ _=>.inl ⟨rfl,rfl⟩,λ_ _=>⟨TG _,λ_=>⟨rfl,rfl,rfl,rfl,rfl⟩⟩,TG _⟩
theorem Stp.kind_eq{γ γ':Gm}(h:Stp w γ w' γ'){id:Nat}(hk:(γ id).kind≠0):(γ' id).kind=(γ id).kind:=by
 rcases h.kind id hk with h1|h1
 ·exact h1.1
 ·rw[h1.1,h1.2.1]
theorem Stp.blk_eq{γ γ':Gm}(h:Stp w γ w' γ'){id:Nat}(hk:(γ id).kind≠0)(h1:(γ id).kind≠1):(γ' id).blk=(γ id).blk:=by
 rcases h.kind id hk with h2|h2
 ·exact h2.2
 ·exact absurd h2.1 h1
theorem Stp.trans{w w' w'':World}{γ γ' γ'':Gm}(h:Stp w γ w' γ')(h':Stp w' γ' w'' γ''):Stp w γ w'' γ'' where
 sz:=T6 h.sz h'.sz
 os:=h'.os.trans h.os
 tape:=h'.tape.trans h.tape
 output:=h'.output.trans h.output
 fr b hb hm:=by rw[h'.fr b (TU hb h.sz) (λk=>hm (h.mt b hb k)),h.fr b hb hm]
 mt b hb k:=h.mt b hb (h'.mt b (TU hb h.sz) k)
 kind id hk:=by
  have h1:=h.kind_eq hk;have d:(γ' id).kind≠0:=by rw[h1];exact hk
  rcases h.kind id hk with a|a
  ·rcases h'.kind id d with c|c
   ·exact .inl ⟨c.1.trans a.1,c.2.trans a.2⟩
   ·refine .inr ⟨by rw[<-a.1];exact c.1,c.2.1,Nat.lt_of_le_of_lt (h.ep id (by rw[<-a.1];exact c.1)).1 c.2.2⟩
  ·exact .inr ⟨a.1,by rw[h'.kind_eq d,a.2.1],TU a.2.2 (h'.ep id a.2.1).1⟩
 ep id hk:=by
  have h1:=h.ep id hk;have d:(γ' id).kind=1:=by rw[h.kind_eq (by rw[hk];decide),hk]
  have h2:=h'.ep id d;refine⟨T6 h1.1 h2.1,λhe=>?_⟩;have e1:(γ' id).ep=(γ id).ep:=WW (by rw[<-he];exact h2.1) h1.1;have e2:(γ'' id).ep=(γ' id).ep:=by rw[he,e1]
  obtain⟨a1,a2,e,a4,f⟩:=h1.2 e1;obtain⟨b1,b2,i,j,l⟩:=h2.2 e2;exact⟨b1.trans a1,b2.trans a2,i.trans e,j.trans a4,l.trans f⟩
 dr:=T6 h.dr h'.dr
theorem zf{a:Addr}(h:w'.heap[a.block]?=w.heap[a.block]?):w'.cell? a=w.cell? a:=by simp only[World.cell?,h]
theorem G4{a:Addr}(h:w.cell? a=some v):a.block<w.heap.size:=by
 simp only[World.cell?]at h;rcases Vn a.block w.heap.size with hl|hl
 ·exact hl
 ·rw[UZ hl]at h;simp at h
theorem RV.step{γ γ':Gm}{A:Nat->Nat->Prop}(h:RV w γ A bd x v)(s:Stp w γ w' γ') :
  RV w' γ' A bd x v:=by
 induction h with
 |bool=>exact .bool _ _
 |int=>exact .int _ _ _
 |str=>exact .str _ _
 |tup _ xs vs hl _ ih=>exact .tup _ _ _ hl ih
 |agg _ xs vs hl h1 _ ih=>exact .agg _ _ _ hl h1 ih
 |nilp=>exact .nilp _
 |nils=>exact .nils _
 |nilf=>exact .nilf _
 |nilm=>exact .nilm _
 |nili=>exact .nili _
 |esl=>exact .esl _ _
 | tsl _ tag sz rows b o cap cell ht hc hb hm ha hr ho hw _ hcl ih =>
  refine .tsl _ tag sz rows b o cap cell ht hc (TU hb s.sz) (λk=>hm (s.mt b hb k)) ha hr ho (λi j row x h1 h2=>?_) ih hcl;rw[zf (a:=adr b _) (s.fr b hb hm)];exact hw i j row x h1 h2
 |tnil _ tag sz a cap ht=>exact .tnil _ tag sz a cap ht
 | tptr _ tag sz rows i0 off0 b o cell ht hb hm ha hr ho hw _ hcl ih =>
  refine .tptr _ tag sz rows i0 off0 b o cell ht (TU hb s.sz) (λk=>hm (s.mt b hb k)) ha hr ho (λi j row x h1 h2=>?_) ih hcl;rw[zf (a:=adr b _) (s.fr b hb hm)];exact hw i j row x h1 h2
 | hsl _ id ep off len lim b o cap hk he hc h =>
  have e:=s.ep id hk;refine .hsl _ id ep off len lim b o cap (by rw[s.kind_eq (by rw[hk];decide),hk]) (T6 he e.1) hc λh'=>?_;have e1:(γ' id).ep=(γ id).ep:=WW (by rw[<-h'];exact he) e.1;obtain⟨a1,a2,c,a4,l⟩:=e.2 e1;obtain⟨c1,d,m⟩:=h (h'.trans e1);refine⟨by rw[c];exact c1,by rw[a1,a4];exact d,?_⟩;unfold iS at *;cases lim<;>simp only[a2,l]at *<;>exact m
 | hptr _ id ep i off b o hk he h =>
  have e:=s.ep id hk;refine .hptr _ id ep i off b o (by rw[s.kind_eq (by rw[hk];decide),hk]) (T6 he e.1) λh'=>?_;have e1:(γ' id).ep=(γ id).ep:=WW (by rw[<-h'];exact he) e.1;obtain⟨a1,a2,c,a4,l⟩:=e.2 e1;obtain⟨c1,d⟩:=h (h'.trans e1);exact⟨by rw[c];exact c1,by rw[a1,a4];exact d⟩
 |clo _ f xs ys vs us hl hl2 _ _ ih ih2=>exact .clo _ f xs ys vs us hl hl2 ih ih2
 | hmap _ id b hk hb =>
  exact .hmap _ id b (by rw[s.kind_eq (by rw[hk];decide),hk]) (by rw[s.blk_eq (by rw[hk];decide) (by rw[hk];decide)];exact hb)
 |ifc _ t x v _ ih=>exact .ifc _ t x v ih
 | yld _ id b hk hb =>
  exact .yld _ id b (by rw[s.kind_eq (by rw[hk];decide),hk]) (by rw[s.blk_eq (by rw[hk];decide) (by rw[hk];decide)];exact hb)
theorem RV.heap{γ:Gm}{A:Nat->Nat->Prop}(h:RV w γ A bd x v)(hh:w'.heap=w.heap):RV w' γ A bd x v:=by
 have hc:∀a,w'.cell? a=w.cell? a:=λa=>zf (by rw[hh])
 induction h with
 |bool=>exact .bool _ _
 |int=>exact .int _ _ _
 |str=>exact .str _ _
 |tup _ xs vs hl _ ih=>exact .tup _ _ _ hl ih
 |agg _ xs vs hl h1 _ ih=>exact .agg _ _ _ hl h1 ih
 |nilp=>exact .nilp _
 |nils=>exact .nils _
 |nilf=>exact .nilf _
 |nilm=>exact .nilm _
 |nili=>exact .nili _
 |esl=>exact .esl _ _
 |tsl _ tag sz rows b o cap cell ht hc' hb hm ha hr ho hw _ hcl ih=>exact .tsl _ tag sz rows b o cap cell ht hc' (by rw[hh];exact hb) hm ha hr ho (λi j row x h1 h2=>by rw[hc];exact hw i j row x h1 h2) ih hcl
 |tnil _ tag sz a cap ht=>exact .tnil _ tag sz a cap ht
 |tptr _ tag sz rows i0 off0 b o cell ht hb hm ha hr ho hw _ hcl ih=>exact .tptr _ tag sz rows i0 off0 b o cell ht (by rw[hh];exact hb) hm ha hr ho (λi j row x h1 h2=>by rw[hc];exact hw i j row x h1 h2) ih hcl
 |hsl _ id ep off len lim b o cap hk he hc' h=>exact .hsl _ id ep off len lim b o cap hk he hc' h
 |hptr _ id ep i off b o hk he h=>exact .hptr _ id ep i off b o hk he h
 |clo _ f xs ys vs us hl hl2 _ _ ih ih2=>exact .clo _ f xs ys vs us hl hl2 ih ih2
 |hmap _ id b hk hb=>exact .hmap _ id b hk hb
 |ifc _ t x v _ ih=>exact .ifc _ t x v ih
 |yld _ id b hk hb=>exact .yld _ id b hk hb
theorem RVs.step{w w':World}{γ γ':Gm}{A:Nat->Nat->Prop}{bd:Nat}{xs:List AV}{vs:List Value}(h:RVs w γ A bd xs vs)(s:Stp w γ w' γ') :
  RVs w' γ' A bd xs vs:=⟨h.1,λi x v h1 h2=>(h.2 i x v h1 h2).step s⟩
def ObjRel(w:World)(γ:Gm)(A:Nat->Nat->Prop)(bd:Nat)(id:Nat):AObj->Prop
 |.none=>(γ id).kind=0
 | .cells sz rows ep loose fz=>(γ id).kind=1/\(γ id).ep=ep/\(γ id).sz=sz/\(γ id).n=rows.length/\((loose=false->(γ id).slack=0)/\(loose=true->rows.length+(γ id).slack<=9223372036854775807))/\(γ id).wr = !fz /\
   ∃(c:Array Value) (elem:TypeId),w.heap[(γ id).blk]?=some (.cells c elem (0,0))/\(γ id).base+(rows.length+(γ id).slack)*sz<=c.size /\
    (∀(i:Nat) row,rows[i]?=some row->row.length=sz) /\
    (∀(i j:Nat) row x,rows[i]?=some row->row[j]?=some x->x.one=true/\∃v,c[(γ id).base+i*sz+j]?=some v/\RV w γ A bd x v)
 | .map es=>(γ id).kind=2/\(γ id).wr=true /\
   ∃esC:Array MapEntry,w.heap[(γ id).blk]?=some (.map esC esC.size)/\es.length=esC.size /\
    (∀(i:Nat) k x e,es[i]?=some (k,x)->esC[i]?=some e->e.born=i/\RV w γ A bd k e.key/\RV w γ A bd x e.val)
 | .loop nt t ps assign body dfr st pend=>(γ id).kind=3/\(γ id).wr=true /\
   ∃L:Loop,w.heap[(γ id).blk]?=some (.loop L)/\L.state=st/\L.pending=pend/\L.params.toList=ps/\L.assign=assign/\L.body=body/\L.tmps.size=nt /\
    (∀i,RV w γ A bd (t.get AV.undef i) (L.tmps.getD i undef))/\(γ dfr).kind=4/\L.defers=(γ dfr).blk
 |.dfr live=>(γ id).kind=4/\(γ id).wr=true/\w.heap[(γ id).blk]?=some (.deferred (if live then some [] else none))
structure Rel (C:Cfg) (A:Nat->Nat->Prop) (bd:Nat) (w:World) (γ:Gm) (hg:Nat->AObj) (nx:Nat):Prop where
 obj:∀id,ObjRel w γ A bd id (hg id)
 lt:∀id,(γ id).kind≠0->id<nx/\(γ id).blk<w.heap.size
 inj:∀i j,(γ i).kind≠0->(γ j).kind≠0->(γ i).blk=(γ j).blk->i=j
 av:∀id,(γ id).kind≠0->∀t,¬A t (γ id).blk
 ab:∀t b,A t b->b<w.heap.size
 glob:∀g sz rows,C.glob g=some (sz,rows)->RV w γ A bd (.tptr 0 sz rows 0 0) (.pointer (some ⟨g,0,none⟩))
end
section
variable {e:TypeId}{γ:Gm}
section
variable {P:Program}{w:World}
theorem fT(b o n:Nat):(adr b o).add n=adr b (o+n):=by
 unfold Addr.add adr;split
 ·rename_i h;subst h;rfl
 ·rfl
theorem k_{i:TypeInfo}(h:P.info? t=some i):(typeInfo t).run P w=.ok i w:=by simp[typeInfo,h]
theorem a_(h:szT P t=some n):(Go.sizeOf t).run P w=.ok n w:=by
 unfold szT at h;cases hi:P.info? t with
 |none=>rw[hi]at h;cases h
 |some i=>rw[hi]at h;simp at h;simp[Go.sizeOf,k_ hi,h]
theorem aG{d:TypeDesc}(h:P.underlying t=some d):(underlying t).run P w=.ok d w:=by simp[underlying,h]
theorem mh{b:Bool}(h:sj P t=some b):(isAgg t).run P w=.ok b w:=by
 unfold sj at h;cases hd:P.underlying t with
 |none=>rw[hd]at h;cases h
 |some d=>rw[hd]at h;cases d<;>simp at h<;>subst h<;>simp[isAgg,aG hd]
theorem wO{o:Nat}:∀(n i:Nat) (acc:Array Value) (cs:List Value),cs.length=n ->
  (∀(j:Nat) c,cs[j]?=some c->w.cell? (adr b (o+(i+j)))=some c) ->
  (loadCellsFrom (adr b o) i n acc).run P w=.ok (acc++cs.toArray) w:=by
 intro n
 induction n with
 |zero=>intro i acc cs hl _;have:cs=[]:=Ui hl;subst this;simp[loadCellsFrom]
 | succ n ih =>
  intro i acc cs hl h;cases cs with
  |nil=>cases hl
  | cons c cs =>
   have h0:=h 0 c rfl;simp only[Vu]at h0;simp only[loadCellsFrom,TV,run_load,fT,h0,TQ];rw[ih (i+1) (acc.push c) cs (by simpa using hl) (λj x hj=>by
    have:=h (j+1) x (by simpa using hj);rw[show i+1+j=i+(j+1) from by omega];exact this)]
   simp
theorem uM{o:Nat}{cs:List Value}(h:∀(j:Nat) c,cs[j]?=some c->w.cell? (adr b (o+j))=some c) :
  (loadCells (adr b o) cs.length).run P w=.ok cs.toArray w:=by
 unfold loadCells;rw[wO cs.length 0 #[] cs rfl (λj c hj=>by simpa using h j c hj)];simp
def World.setBlk(w:World)(b:Nat)(o:Obj):World:={ w with heap:=w.heap.setIfInBounds b o }
def bc(c:Array Value)(o:Nat):List Value->Array Value
 |[]=>c
 |v::vs=>bc (c.setIfInBounds o v) (o+1) vs
theorem bK(vs:List Value):∀(c:Array Value) (o:Nat),(bc c o vs).size=c.size:=by
 induction vs with
 |nil=>intro c o;rfl
 |cons v vs ih=>intro c o;simp[bc,ih]
theorem bW(vs:List Value):∀(c:Array Value) (o k:Nat),o+vs.length<=c.size ->
  (bc c o vs)[k]?=if o<=k/\k<o+vs.length then vs[k - o]? else c[k]?:=by
 induction vs with
 |nil=>intro c o k _;simp[bc];intro h1 h2;omega
 | cons v vs ih =>
  intro c o k h;simp only[Uq]at h;simp only[bc];rw[ih _ _ _ (by simp;omega)];simp only[Uq]
  by_cases h1:k=o
  ·subst h1;rw[TN (by omega),TO ⟨TG _,by omega⟩];simp[Vo];omega
  ·by_cases h2:o<=k/\k<o+(vs.length+1)
   ·rw[TO (by omega),TO h2,show k - o=(k - (o+1))+1 from by omega];rfl
   ·rw[TN (by omega),TN h2,Vv (by omega)]
theorem a7(b:Nat)(o:Obj)(k:Nat):(World.setBlk w b o).heap[k]?=if k=b/\b<w.heap.size then some o else w.heap[k]?:=by
 simp only[World.setBlk,Vo]
 by_cases h:b=k
 ·subst h;simp;split
  ·rfl
  ·rename_i a;rw[UZ (by omega)]
 ·rw[TN h,TN (by omega)]
theorem o9(b:Nat)(o o':Obj):World.setBlk (World.setBlk w b o) b o'=World.setBlk w b o':=by simp only[World.setBlk,Array.setIfInBounds_setIfInBounds]
@[simp] theorem setBlk_size (b:Nat) (o:Obj):(World.setBlk w b o).heap.size=w.heap.size:=by simp[World.setBlk]
theorem Bq{o:Nat}{c:Array Value}{f:Nat×Nat}(h:w.heap[b]?=some (.cells c e f)) :
  w.setCell (adr b o) v=World.setBlk w b (.cells (c.setIfInBounds o v) e f):=by
 have hb:b<w.heap.size:=by
  rcases Vn b w.heap.size with hl|hl
  ·exact hl
  ·rw[UZ hl]at h;cases h
 have hx:w.heap[b]=.cells c e f:=by simpa [TZ hb] using h
 simp only[World.setCell,World.setBlk,adr];congr 1;apply Wj;intro k;rw[V1,Vo]
 by_cases hk:b=k
 ·subst hk;simp[hb,hx]
 ·rw[TN hk,TN hk]
theorem mB{o:Nat}{c:Array Value}{f:Nat×Nat}(h:w.heap[b]?=some (.cells c e f)):w.cell? (adr b o)=c[o]?:=by simp[World.cell?,adr,h]
theorem tX{o:Nat}:∀(vs:List Value) (i:Nat) (w:World) (c:Array Value),w.heap[b]?=some (.cells c e (0,0)) ->
  o+i+vs.length<=c.size->(∀v∈vs,v.oneCell'=true) ->
  (storeCells (adr b o) vs i).run P w=.ok () (World.setBlk w b (.cells (bc c (o+i) vs) e (0,0))):=by
 intro vs
 induction vs with
 | nil =>
  intro i w c h _ _;have hb:b<w.heap.size:=by
   rcases Vn b w.heap.size with hl|hl
   ·exact hl
   ·rw[UZ hl]at h;cases h
  have:World.setBlk w b (.cells c e (0,0))=w:=by
   have hx:w.heap[b]=.cells c e (0,0):=by simpa [TZ hb] using h
   simp only[World.setBlk];congr 1;apply Wj;intro k;rw[Vo]
   split
   ·rename_i hk;subst hk;simp[hb,hx]
   ·rfl
  simp[storeCells,bc,this]
 | cons v vs ih =>
  intro i w c h hs h1;simp only[Uq]at hs;have j:v.oneCell'=true:=h1 v (by simp);have a:w.cell? (adr b (o+i))=c[o+i]?:=mB h;have f:o+i<c.size:=by omega
  have d:w.frozen? (adr b (o+i))=false:=by simp[World.frozen?,adr,h]
  simp only[storeCells,TV,fT,run_store P w _ v _ j,a,TZ f,d];simp only[VO,if_false,TQ,Bq h];have hb:b<w.heap.size:=by
   rcases Vn b w.heap.size with hl|hl
   ·exact hl
   ·rw[UZ hl]at h;cases h
  rw[ih (i+1) _ (c.setIfInBounds (o+i) v) (by rw[a7];simp[hb]) (by simp;omega) (λx hx=>h1 x (by simp[hx])),o9]
  rfl
end
theorem Hc{w:World}{A:Nat->Nat->Prop}{x:AV}(h:RV w γ A bd x v)(h1:x.one=true) :
  v.oneCell'=true/\v.cells=#[v]:=by
 cases h<;>first| (cases h1;done)|exact⟨rfl,rfl⟩
theorem pA{w:World}{A:Nat->Nat->Prop}{x:AV}(h:RV w γ A bd x v)(ht:x.isTup=false) :
  RVs w γ A bd x.cells v.cells.toList/\(∀(i:Nat) y,x.cells[i]?=some y->y.one=true):=by
 by_cases h1:x.one=true
 ·have hx:x.cells=[x]:=by cases x<;>first|rfl|cases h1
  obtain⟨_,h3⟩:=Hc h h1;rw[hx,h3];refine⟨⟨rfl,λi y u hy hu=>?_⟩,λi y hy=>?_⟩
  ·cases i with
   |zero=>simp at hy hu;subst hy;subst hu;exact h
   |succ i=>simp at hy
  ·cases i with
   |zero=>simp at hy;subst hy;exact h1
   |succ i=>simp at hy
 ·cases h<;>first| (exact absurd rfl h1)| (cases ht;done)|skip
  rename_i xs vs hl k h';exact⟨⟨by simpa [AV.cells,Value.cells] using hl,λi y u hy hu=>h' i y u hy (by simpa [Value.cells] using hu)⟩,k⟩
theorem IX{w:World}{A:Nat->Nat->Prop}{xs:List AV}{vs:List Value}(h:RVs w γ A bd xs vs)
  (h1:∀(i:Nat) y,xs[i]?=some y->y.one=true):∀v∈vs,v.oneCell'=true:=by
 intro v k;obtain⟨i,hi⟩:=Ua k;have hlt:i<xs.length:=by rw[h.1];exact (TJ.1 hi).1
 exact (Hc (h.2 i _ v (TH hlt) hi) (h1 i _ (TH hlt))).1
end
def upd{α:Type}(f:Nat->α)(i:Nat)(x:α):Nat->α:=λk=>if k=i then x else f k
@[simp] theorem upd_same {α:Type} (f:Nat->α) (i:Nat) (x:α):upd f i x i=x:=by simp[upd]
theorem bZ{α:Type}(f:Nat->α){i k:Nat}(x:α)(h:k≠i):upd f i x k=f k:=by simp[upd,h]
section
variable {C:Cfg}{A:Nat->Nat->Prop}{bd:Nat}{w w':World}{γ γ':Gm}{hg:Nat->AObj}{nx nx':Nat}
theorem ObjRel.step{j:Nat}{o:AObj}(h:ObjRel w γ A bd j o)(s:Stp w γ w' γ')(hj:γ' j=γ j)
  (hb:(γ j).kind≠0->o≠.none->w'.heap[(γ j).blk]?=w.heap[(γ j).blk]?):ObjRel w' γ' A bd j o:=by
 cases o with
 |none=>simpa only[ObjRel,hj] using h
 | cells sz rows ep loose fz =>
  obtain⟨h1,h2,h3,h4,h5,h6,c,e,h7,h8,h9,h10⟩:=h;simp only[ObjRel,hj];refine⟨h1,h2,h3,h4,h5,h6,c,e,?_,h8,h9,λi j' row x hr hx=>?_⟩
  ·rw[hb (by rw[h1];decide) (by simp)];exact h7
  ·obtain⟨a,v,b1,b2⟩:=h10 i j' row x hr hx;exact⟨a,v,b1,b2.step s⟩
 | map es =>
  obtain⟨h1,h2,esC,h3,h4,h5⟩:=h;simp only[ObjRel,hj];refine⟨h1,h2,esC,by rw[hb (by rw[h1];decide) (by simp)];exact h3,h4,λi k x e a b=>?_⟩;obtain⟨c1,l,m⟩:=h5 i k x e a b;exact⟨c1,l.step s,m.step s⟩
 | loop nt t ps assign body dfr st pend =>
  obtain⟨h1,h2,L,h3,h4,h5,h6,h7,h8,h9,h10,d,f⟩:=h;simp only[ObjRel,hj];have hd:(γ dfr).kind≠0:=by rw[d];decide
  refine⟨h1,h2,L,by rw[hb (by rw[h1];decide) (by simp)];exact h3,h4,h5,h6,h7,h8,h9,λi=>(h10 i).step s,by rw[s.kind_eq hd,d],?_⟩;rw[f,s.blk_eq hd (by rw[d];decide)]
 | dfr live =>
  obtain⟨h1,h2,h3⟩:=h;simp only[ObjRel,hj];exact⟨h1,h2,by rw[hb (by rw[h1];decide) (by simp)];exact h3⟩
theorem Rel.set(h:Rel C A bd w γ hg nx){id:Nat}{gh:Gh}{o:AObj}(hγ:γ'=upd γ id gh)(s:Stp w γ w' γ')(hn:nx<=nx')
  (ho:ObjRel w' γ' A bd id o) (hlt:id<nx'/\gh.blk<w'.heap.size) (hinj:∀j,j≠id->(γ j).kind≠0->(γ j).blk≠gh.blk)
  (hav:∀t,¬A t gh.blk)
  (hoth:∀j,j≠id->(γ j).kind≠0->hg j≠.none->w'.heap[(γ j).blk]?=w.heap[(γ j).blk]?) :
  Rel C A bd w' γ' (upd hg id o) nx':=by
 subst hγ;constructor
 ·intro j
  by_cases k:j=id
  ·subst k;simpa using ho
  ·rw[bZ _ _ k];exact (h.obj j).step s (bZ _ _ k) (hoth j k)
 ·intro j hk
  by_cases k:j=id
  ·subst k;simpa using hlt
  ·rw[bZ _ _ k]at hk ⊢;exact⟨TU (h.lt j hk).1 hn,TU (h.lt j hk).2 s.sz⟩
 ·intro i j hi k e
  by_cases h1:i=id<;>by_cases h2:j=id
  ·rw[h1,h2]
  ·subst h1;rw[bZ _ _ h2]at k e;simp only[upd_same]at e;exact absurd e.symm (hinj j h2 k)
  ·subst h2;rw[bZ _ _ h1]at hi e;simp only[upd_same]at e;exact absurd e (hinj i h1 hi)
  ·rw[bZ _ _ h1]at hi e;rw[bZ _ _ h2]at k e;exact h.inj i j hi k e
 ·intro j hk
  by_cases k:j=id
  ·subst k;simpa using hav
  ·rw[bZ _ _ k]at hk ⊢;exact h.av j hk
 ·intro t b hb;exact TU (h.ab t b hb) s.sz
 ·intro g sz rows hg';exact (h.glob g sz rows hg').step s
theorem Rel.up(h:Rel C A bd w γ hg nx)(hn:nx<=nx'):Rel C A bd w γ hg nx' :=
 ⟨h.obj,λid hk=>⟨TU (h.lt id hk).1 hn,(h.lt id hk).2⟩,h.inj,h.av,h.ab,h.glob⟩
theorem um{id:Nat}{o:Obj}(hk:(γ id).kind≠0)(hw:(γ id).wr=true):Stp w γ (World.setBlk w (γ id).blk o) γ where
 sz:=by simp
 os:=rfl
 tape:=rfl
 output:=rfl
 fr b hb hm:=by rw[a7,TN];rintro⟨h,_⟩;exact hm ⟨id,hk,hw,h.symm⟩
 mt b _ h:=h
 kind _ _:=.inl ⟨rfl,rfl⟩
 ep _ _:=⟨TG _,λ_=>⟨rfl,rfl,rfl,rfl,rfl⟩⟩
 dr:=TG _
theorem Rel.setBlk(h:Rel C A bd w γ hg nx){id:Nat}{o:Obj}{ao:AObj}(hk:(γ id).kind≠0)(hw:(γ id).wr=true)
  (ho:ObjRel (World.setBlk w (γ id).blk o) γ A bd id ao) :
  Rel C A bd (World.setBlk w (γ id).blk o) γ (upd hg id ao) nx/\Stp w γ (World.setBlk w (γ id).blk o) γ:=by
 have s:=um (w:=w) (o:=o) hk hw;refine⟨?_,s⟩;have e:γ=upd γ id (γ id):=by funext k;unfold upd;split<;>simp_all
 refine h.set (gh:=γ id) e s (TG _) ho ?_ ?_ ?_ ?_
 ·have:=h.lt id hk;exact⟨this.1,by simpa using this.2⟩
 ·intro j b a eb;exact b (h.inj j id a hk eb)
 ·exact h.av id hk
 ·intro j b a _;rw[a7,TN];rintro⟨eb,_⟩;exact b (h.inj j id a hk eb)
def World.add(w:World)(o:Obj):World:={ w with heap:=w.heap.push o }
@[simp] theorem add_size (o:Obj):(World.add w o).heap.size=w.heap.size+1:=by simp[World.add]
theorem kH(o:Obj)(b:Nat):(World.add w o).heap[b]?=if b=w.heap.size then some o else w.heap[b]?:=by simp only[World.add,Ww]
theorem Er{id:Nat}{gh:Gh}{o:Obj}(hid:(γ id).kind=0)(hb:gh.blk=w.heap.size):Stp w γ (World.add w o) (upd γ id gh) where
 sz:=by simp
 os:=rfl
 tape:=rfl
 output:=rfl
 fr b hb' _:=by rw[kH,TN (by omega)]
 mt b hb':=by
  rintro⟨j,h1,h2,h3⟩
  by_cases hj:j=id
  ·subst hj;simp only[upd_same]at h3;omega
  ·rw[bZ _ _ hj]at h1 h2 h3;exact⟨j,h1,h2,h3⟩
 kind j hj:=by
  have:j≠id:=by rintro rfl;exact hj hid
  rw[bZ _ _ this];exact .inl ⟨rfl,rfl⟩
 ep j hj:=by
  have:j≠id:=by rintro rfl;rw[hid]at hj;cases hj
  rw[bZ _ _ this];exact⟨TG _,λ_=>⟨rfl,rfl,rfl,rfl,rfl⟩⟩
 dr:=TG _
theorem Rel.add(h:Rel C A bd w γ hg nx){id:Nat}{gh:Gh}{o:Obj}{ao:AObj}(hid:(γ id).kind=0)(hb:gh.blk=w.heap.size)
  (hn:nx<=nx') (hi:id<nx') (ho:ObjRel (World.add w o) (upd γ id gh) A bd id ao) :
  Rel C A bd (World.add w o) (upd γ id gh) (upd hg id ao) nx'/\Stp w γ (World.add w o) (upd γ id gh):=by
 have s:=Er (w:=w) (o:=o) hid hb;refine⟨h.set (gh:=gh) rfl s hn ho ⟨hi,by simp[hb]⟩ ?_ ?_ ?_,s⟩
 ·intro j _ k e;have:=(h.lt j k).2;omega
 ·intro t ht;have:=h.ab t _ ht;omega
 ·intro j _ k _;have:=(h.lt j k).2;rw[kH,TN (by omega)]
end
section
variable {C:Cfg}{A:Nat->Nat->Prop}{bd:Nat}{w:World}{γ:Gm}{hg:Nat->AObj}{nx nx':Nat}
theorem Rel.newCells(h:Rel C A bd w γ hg nx){id sz slack:Nat}{rows:List (List AV)}{loose:Bool}{c:Array Value}(e:TypeId)
  (hid:(γ id).kind=0) (hn:nx<=nx') (hi:id<nx') (hs:(loose=false->slack=0)/\(loose=true->rows.length+slack<=9223372036854775807)) (hc:(rows.length+slack)*sz<=c.size)
  (hr:∀(i:Nat) row,rows[i]?=some row->row.length=sz)
  (hv:∀(i j:Nat) row x,rows[i]?=some row->row[j]?=some x->x.one=true/\∃v,c[i*sz+j]?=some v/\RV w γ A bd x v) :
  ∃γ',Rel C A bd (World.add w (.cells c e (0,0))) γ' (upd hg id (.cells sz rows 0 loose false)) nx'/\Stp w γ (World.add w (.cells c e (0,0))) γ' /\
   (γ' id).kind=1/\(γ' id).ep=0/\(γ' id).sz=sz/\(γ' id).n=rows.length/\(γ' id).blk=w.heap.size/\(γ' id).base=0/\(γ' id).slack=slack:=by
 let gh:Gh:=⟨1,0,sz,rows.length,w.heap.size,0,slack,true⟩
 have s:=Er (w:=w) (o:=.cells c e (0,0)) (gh:=gh) hid rfl;obtain⟨r,s'⟩:=h.add (id:=id) (gh:=gh) (o:=.cells c e (0,0)) (ao:=.cells sz rows 0 loose false) hid rfl hn hi (by
  simp only[ObjRel,upd_same];refine⟨rfl,rfl,rfl,rfl,hs,rfl,c,e,by rw[kH];simp[gh],by simpa [gh] using hc,hr,λi j row x h1 h2=>?_⟩;obtain⟨a,v,b1,b2⟩:=hv i j row x h1 h2;exact⟨a,v,by simpa [gh] using b1,b2.step s⟩)
 exact⟨_,r,s',by simp[gh],by simp[gh],by simp[gh],by simp[gh],by simp[gh],by simp[gh],by simp[gh]⟩
theorem Rel.storeCells(h:Rel C A bd w γ hg nx){id sz ep:Nat}{rows rows':List (List AV)}{loose:Bool}
  (hid:hg id=.cells sz rows ep loose false) {o:Nat} {vs:List Value} {xs:List AV}
  (hvs:RVs w γ A bd xs vs) (h1:∀(i:Nat) y,xs[i]?=some y->y.one=true)
  (hlen:rows'.length=rows.length) (hr':∀(i:Nat) row,rows'[i]?=some row->row.length=sz)
  (hin:(γ id).base<=o/\o+vs.length<=(γ id).base+rows.length*sz)
  (hcells:∀(i j:Nat) row x,rows'[i]?=some row->row[j]?=some x ->
   (if o<=(γ id).base+i*sz+j/\(γ id).base+i*sz+j<o+vs.length then xs[(γ id).base+i*sz+j - o]?=some x
    else ∃row0,rows[i]?=some row0/\row0[j]?=some x)) (P:Program) :
  ∃w',(Go.storeCells (adr (γ id).blk o) vs).run P w=.ok () w' /\
   Rel C A bd w' γ (upd hg id (.cells sz rows' ep loose false)) nx/\Stp w γ w' γ:=by
 have f:=h.obj id;rw[hid]at f;obtain⟨n,k2,q,t,u,z,c,e,B,D,E,m⟩:=f;have l:o+vs.length<=c.size:=by have:rows.length*sz<=(rows.length+(γ id).slack)*sz:=T2 _ (by omega);omega
 have d:=tX (P:=P) vs 0 w c B (by simpa using l) (IX hvs h1);simp only[Vu]at d;have hk:(γ id).kind≠0:=by rw[n];decide
 have hw:(γ id).wr=true:=by simpa using z
 have s:=um (w:=w) (o:=.cells (bc c o vs) e (0,0)) hk hw;obtain⟨r,s'⟩:=h.setBlk (id:=id) (o:=.cells (bc c o vs) e (0,0)) (ao:=.cells sz rows' ep loose false) hk hw (by
  refine⟨n,k2,q,by rw[t,hlen],by rw[hlen];exact u,by simpa using hw,bc c o vs,e,?_,by rw[bK,hlen];exact D,hr',λi j row x a b=>?_⟩
  ·rw[a7];simp[(h.lt id hk).2]
  ·have hc:=hcells i j row x a b;rw[bW _ _ _ _ l]
   split at hc
   ·rename_i k;rw[TO k];have hlt:(γ id).base+i*sz+j - o<vs.length:=by omega
    refine⟨h1 _ _ hc,vs[(γ id).base+i*sz+j - o],TH hlt,?_⟩;exact (hvs.2 _ _ _ hc (TH hlt)).step s
   ·rename_i k;rw[TN k];obtain⟨row0,c1,p⟩:=hc;obtain⟨d1,v,d2,d3⟩:=m i j row0 x c1 p;exact⟨d1,v,d2,d3.step s⟩)
 exact⟨_,d,r,s'⟩
end
def TR(w:World)(γ:Gm)(A:Nat->Nat->Prop)(bd:Nat)(nt:Nat)(t:T)(tmps:Array Value):Prop :=
 tmps.size=nt/\∀i,RV w γ A bd (t.get AV.undef i) (tmps.getD i undef)
def Ey(P:Program)(o:Oper)(ev:Operand->Value)(w:World)(v:Value)(w':World):Prop :=
 (execOp ev o).run P w=.ok (.value v) w'\/((execOp ev o).run P w=.ok .skip w'/\v=undef)
def OpSim(C:Cfg)(A:Nat->Nat->Prop)(bd:Nat)(w:World)(γ:Gm)(hg:Nat->AObj)(nx:Nat)(o:Oper)(ev:Operand->Value)(g:G):OR->Prop
 |.fail=>True
 |.val x=>∃v,Ey C.P o ev w v w/\RV w γ A bd x v
 | .upd x g'=>∃v w' γ' id ob,Ey C.P o ev w v w'/\RV w' γ' A bd x v/\Stp w γ w' γ' /\
   ((g'=g.put id ob/\Rel C A bd w' γ' (upd hg id ob) nx)\/(g'=g.new ob/\id=g.nx/\Rel C A bd w' γ' (upd hg id ob) (Nat.max nx (g.nx+1))))
 |.dfr _=>False
section
variable {C:Cfg}{A:Nat->Nat->Prop}{bd:Nat}{w:World}{γ:Gm}{hg:Nat->AObj}{nx:Nat}
theorem Hb{a:AV}(h:ofV v=some a):RV w γ A bd a v/\a.one=true:=by
 unfold ofV at h
 split at h<;>first| (cases h;done)| (injection h with h;subst h;exact⟨by constructor,rfl⟩)
theorem nV:∀{vs:List Value} {as:List AV},zb vs=some as->RVs w γ A bd as vs/\∀(i:Nat) y,as[i]?=some y->y.one=true:=by
 intro vs
 induction vs with
 |nil=>intro as h;simp[zb]at h;subst h;exact⟨⟨rfl,λi x v h=>by simp at h⟩,λi y h=>by simp at h⟩
 | cons v vs ih =>
  intro as h;simp only[zb]at h
  split at h
  ·rename_i a as' h1 h2;injection h with h;subst h;obtain⟨p,q⟩:=Hb (w:=w) (γ:=γ) (A:=A) (bd:=bd) h1;obtain⟨r,s⟩:=ih h2;refine⟨⟨by simp[r.1],λi x u hx hu=>?_⟩,λi y hy=>?_⟩
   ·cases i with
    |zero=>simp at hx hu;subst hx;subst hu;exact p
    |succ i=>exact r.2 i x u (by simpa using hx) (by simpa using hu)
   ·cases i with
    |zero=>simp at hy;subst hy;exact q
    |succ i=>exact s i y (by simpa using hy)
  ·cases h
theorem aD{x:Operand}{s:Stg (T->AV)}{nt:Nat}{t:T}{a:Act}(h:aU C x=some s)(ht:TR w γ A bd nt t a.tmps)(hr:Rel C A bd w γ hg nx) :
  RV w γ A bd (s.run t) (a.eval x):=by
 cases x with
 |tmp n=>simp[aU]at h;subst h;rw[gp_run];exact ht.2 n
 | const v =>
  simp only[aU]at h
  split at h
  ·rename_i a' h1;injection h with h;subst h;exact (Hb h1).1
  ·cases h
 | global g =>
  simp only[aU]at h
  split at h
  ·rename_i sz rows h1;injection h with h;subst h;exact hr.glob g sz rows h1
  ·cases h
 | func f =>
  simp[aU]at h;subst h;exact .clo _ f [] [] #[] #[] rfl rfl (λi x v h=>by simp at h) (λi x v h=>by simp at h)
theorem gR{nt:Nat}{t:T}{a:Act}(ht:TR w γ A bd nt t a.tmps)(hr:Rel C A bd w γ hg nx):∀{xs:List Operand} {s:Stg (T->List AV)},
  bM C xs=some s->RVs w γ A bd (s.run t) (xs.map a.eval):=by
 intro xs
 induction xs with
 |nil=>intro s h;simp[bM]at h;subst h;exact⟨rfl,λi x v h=>by simp at h⟩
 | cons x xs ih =>
  intro s h;simp only[bM]at h
  split at h
  ·rename_i a' as' h1 h2;injection h with h;subst h;have p:=aD h1 ht hr;have q:=ih h2;refine⟨by simp[q.1],λi y u hy hu=>?_⟩;cases i with
   |zero=>simp at hy hu;subst hy;subst hu;exact p
   |succ i=>exact q.2 i y u (by simpa using hy) (by simpa using hu)
  ·cases h
theorem uL{ag:Bool}{row:List AV}{off o:Nat}{x:AV}{bd':Nat}(hb:bd'<=bd)
  (hcell:∀(j:Nat) y,row[j]?=some y->y.one=true/\∃v,w.cell? (adr b (o+j))=some v/\RV w γ A bd' y v)
  (hag:sj C.P ty=some ag) (hn:szT C.P ty=some n) (h:bT ag n row off=some x) :
  ∃v,(loadVar ty (adr b (o+off))).run C.P w=.ok v w/\RV w γ A bd x v:=by
 unfold bT at h;cases ag with
 | false =>
  simp only[dD]at h;obtain⟨_,v,h1,h2⟩:=hcell off x h;exact⟨v,by simp[loadVar,mh hag,h1],h2.mono hb⟩
 | true =>
  simp only[be,ba,aA,aa]at h
  split at h
  ·rename_i hl;rw[Nat.beq_eq]at hl;injection h with h;subst h;have l:∀j:Fin n,∃v,w.cell? (adr b (o+off+j))=some v/\∃y,(List.take n (List.drop off row))[j.1]?=some y/\y.one=true/\RV w γ A bd' y v:=by
    intro j;have m:j.1<(List.take n (List.drop off row)).length:=by rw[hl];exact j.2
    have e:(List.take n (List.drop off row))[j.1]?=row[off+j.1]?:=by rw[T7 j.2,Um]
    have d:=TH m;obtain⟨c1,v,p,q⟩:=hcell (off+j.1) _ (e ▸ d);exact⟨v,by rw[VK];exact p,_,d,c1,q⟩
   let f:Fin n->Value:=λj=>Classical.choose (l j)
   have hf:∀j:Fin n,w.cell? (adr b (o+off+j))=some (f j)/\∃y,(List.take n (List.drop off row))[j.1]?=some y/\y.one=true/\RV w γ A bd' y (f j) :=
    λj=>Classical.choose_spec (l j)
   have k:(List.ofFn f).length=n:=by simp
   have a:=uM (P:=C.P) (w:=w) (b:=b) (o:=o+off) (cs:=List.ofFn f) (λj c hc=>by
    have m:j<n:=by rw[<-k];exact (TJ.1 hc).1
    rw[List.getElem?_ofFn]at hc;simp[m]at hc;rw[<-hc];exact (hf ⟨j,m⟩).1)
   rw[k]at a;refine⟨.agg (List.ofFn f).toArray,by simp[loadVar,mh hag,a_ hn,a],.agg _ _ _ (by simpa using hl) (λi y d=>?_) (λi y v d hv=>?_)⟩
   ·have hi:i<n:=by rw[<-hl];exact (TJ.1 d).1
    obtain⟨_,y',h1,h2,_⟩:=hf ⟨i,hi⟩;rw[d]at h1;injection h1 with h1;subst h1;exact h2
   ·have hi:i<n:=by rw[<-hl];exact (TJ.1 d).1
    obtain⟨_,y',h1,h2,h3⟩:=hf ⟨i,hi⟩;rw[d]at h1;injection h1 with h1;subst h1;simp[hi]at hv;rw[<-hv];exact h3.mono hb
  ·cases h
theorem uh(hr:Rel C A bd w γ hg nx){id sz ep:Nat}{rows:List (List AV)}{loose fz:Bool}(hid:hg id=.cells sz rows ep loose fz)
  {i:Nat} {row:List AV} (hi:rows[i]?=some row) (j:Nat) (y:AV) (hy:row[j]?=some y) :
  y.one=true/\∃v,w.cell? (adr (γ id).blk ((γ id).base+i*sz+j))=some v/\RV w γ A bd y v:=by
 have h:=hr.obj id;rw[hid]at h;obtain⟨d,k2,f,l,m,n,c,e,b,o,p,k⟩:=h;obtain⟨a,v,b1,b2⟩:=k i j row y hi hy;exact⟨a,v,by rw[mB b];exact b1,b2⟩
theorem aH{a:Nat}(h:Nat.beq a b=true):a=b:=UV h
def ValSim(C:Cfg)(A:Nat->Nat->Prop)(bd:Nat)(w:World)(γ:Gm)(m:Sem Value):OR->Prop
 |.fail=>True
 |.val x=>∃v,m.run C.P w=.ok v w/\RV w γ A bd x v
 |_=>False
theorem nW{m:Sem Value}{x:Option AV}(h:∀y,x=some y->∃v,m.run C.P w=.ok v w/\RV w γ A bd y v):ValSim C A bd w γ m (orV x):=by
 cases x with
 |none=>trivial
 |some y=>exact h y rfl
theorem Fv{ag:Bool}{a:T->AV}{t:T}{g:G}{va:Value}(hr:Rel C A bd w γ hg nx)
  (ha:RV w γ A bd (a t) va) (hag:sj C.P ty=some ag) (hn:szT C.P ty=some n) (agree:∀id∈an (a t),hg id=g.h.get id) :
  ValSim C A bd w γ (Instr.loadAt ty va) (nh ag n a t g):=by
 unfold nh;generalize a t=x at *;cases ha with
 | tptr _ tag sz rows i0 off0 b o cell ht hb hm ha' hrl ho hw h =>
  simp only[dD];cases hrow:rows[i0]? with
  |none=>trivial
  | some row =>
   refine nW λy hp=>?_;obtain⟨v,h1,h2⟩:=uL (C:=C) (ty:=ty) (w:=w) (γ:=γ) (A:=A) (bd:=bd) ht (b:=b) (o:=o+i0*sz) (λj y hy=>⟨ho i0 j row y hrow hy,_,hw i0 j row y hrow hy,h i0 j row y hrow hy⟩) hag hn hp;exact⟨v,by simp[Instr.loadAt,Instr.sureAddr,h1],h2⟩
 | hptr _ id ep i off b o hk he h =>
  have k:=agree id (by simp[an]);simp only[G.get_eq,<-k];cases hid:hg id with
  | cells sz rows ep' loose fz =>
   simp only[aa]
   split
   ·rename_i c;have c:=aH c;have d:=hr.obj id;rw[hid]at d;obtain⟨l,k2,f,_⟩:=d;obtain⟨c1,e⟩:=h (c.trans k2.symm);simp only[dD];cases hrow:rows[i]? with
    |none=>trivial
    | some row =>
     refine nW λy hp=>?_;obtain⟨v,h1,h2⟩:=uL (C:=C) (ty:=ty) (w:=w) (γ:=γ) (A:=A) (bd:=bd) (TG _) (b:=(γ id).blk) (o:=(γ id).base+i*sz) (uh hr hid hrow) hag hn hp;refine⟨v,?_,h2⟩;rw[c1,e,f];simp[Instr.loadAt,Instr.sureAddr,h1]
   ·trivial
  |_=>trivial
 |_=>trivial
end
section
variable {g:G}
theorem L9{i i' j sz:Nat}(hj:j<sz)(h1:i*sz<=i'*sz+j)(h2:i'*sz+j<i*sz+sz):i'=i:=by
 rcases Nat.lt_trichotomy i' i with h|h|h
 ·have:(i'+1)*sz<=i*sz:=T2 _ h;rw[Ub,UN]at this;omega
 ·exact h
 ·have:(i+1)*sz<=i'*sz:=T2 _ h;rw[Ub,UN]at this;omega
theorem qQ{row row':List AV}{off:Nat}{cs:List AV}(h:bX row off cs=some row') :
  row'.length=row.length/\off+cs.length<=row.length/\∀j,row'[j]?=if off<=j/\j<off+cs.length then cs[j - off]? else row[j]?:=by
 unfold bX at h;simp only[aA,g7,be,ba,aa]at h
 split at h
 ·rename_i k;rw[Uw]at k;injection h with h
  split at h
  ·rename_i c;subst h;refine⟨by simp,k,λj=>?_⟩;simp only[Uq,Vq]at k ⊢;rw[Vi]
   by_cases hj:off=j
   ·subst hj;rw[TO rfl,TO (by omega),TO (by omega)];simp
   ·rw[TN hj,TN (by omega)]
  ·subst h;refine⟨by simp;omega,k,λj=>?_⟩
   by_cases h1:j<off
   ·rw[TN (by omega),T5 (by simp;omega),T7 h1]
   ·rw[T0 (by simp;omega)];simp only[T_,UP (show off<=row.length by omega)]
    by_cases h2:j<off+cs.length
    ·rw[TO ⟨by omega,h2⟩,T5 (by omega)]
    ·rw[TN (by omega),T0 (by omega),Um];congr 1;omega
 ·cases h
section
variable {C:Cfg}{A:Nat->Nat->Prop}{bd:Nat}{w:World}{γ:Gm}{hg:Nat->AObj}{nx:Nat}
def cV(C:Cfg)(A:Nat->Nat->Prop)(bd:Nat)(w:World)(γ:Gm)(hg:Nat->AObj)(nx:Nat)(m:Sem Value)(g:G):OR->Prop
 |.fail=>True
 |.val x=>∃v,m.run C.P w=.ok v w/\RV w γ A bd x v
 | .upd x g'=>∃v w' γ' id ob,m.run C.P w=.ok v w'/\RV w' γ' A bd x v/\Stp w γ w' γ' /\
   ((g'=g.put id ob/\Rel C A bd w' γ' (upd hg id ob) nx)\/(g'=g.new ob/\id=g.nx/\Rel C A bd w' γ' (upd hg id ob) (Nat.max nx (g.nx+1))))
 |.dfr _=>False
theorem cD:RV w γ A bd AV.undef undef:=.tup _ [] #[] rfl (λi x v h=>by simp at h)
theorem KA{a x:T->AV}{t:T}{va vx:Value}(hr:Rel C A bd w γ hg nx)
  (ha:RV w γ A bd (a t) va) (hx:RV w γ A bd (x t) vx) (hn:szT C.P ty=some n) (agree:∀id∈an (a t),hg id=g.h.get id) :
  cV C A bd w γ hg nx (do Instr.storeAt ty va vx;pure undef) g (pc n a x t g):=by
 unfold pc;generalize a t=y at *;generalize x t=z at *;cases ha with
 | hptr _ id ep i off b o hk he h =>
  have m:=agree id (by simp[an]);simp only[G.get_eq,<-m];cases hid:hg id with
  | cells sz rows ep' loose fz =>
   simp only[aa,aA,dD,g7]
   split
   ·rename_i hc;simp only[TM,notb_eq,Vd]at hc;obtain⟨⟨⟨p,f⟩,u⟩,s⟩:=hc;have p:=aH p;have f:=aH f;subst u;subst p;have r:=hr.obj id;rw[hid]at r;obtain⟨Q,k2,J,R,S,U,c,e,V,W,D,I⟩:=r;obtain⟨c1,E⟩:=h k2.symm;rw[J]at E;cases hrow:rows[i]? with
    |none=>trivial
    | some row =>
     dsimp only;cases hp:bX row off z.cells with
     |none=>trivial
     | some row' =>
      obtain⟨K,X,L⟩:=qQ hp;obtain⟨F,q2⟩:=pA hx s;have v:row.length=sz:=D i row hrow;have hi:i<rows.length:=(TJ.1 hrow).1;have q:(i+1)*sz<=rows.length*sz:=T2 _ hi;rw[Ub,UN]at q;have l:vx.cells.toList.length=z.cells.length:=F.1.symm;obtain⟨w',M,N,O⟩:=hr.storeCells hid (rows':=rows.set i row') (o:=(γ id).base+i*sz+off) (vs:=vx.cells.toList) F q2 (by simp)
       (λi' r' k=>by
        rw[Vi]at k
        by_cases hii:i=i'
        ·subst hii;rw[TO rfl,TO hi]at k;injection k with k;subst k;rw[K];exact v
        ·rw[TN hii]at k;exact D i' r' k)
       ⟨by omega,by rw[l];omega⟩
       (λi' j r' y k hy=>by
        rw[Vi]at k
        by_cases hii:i=i'
        ·subst hii;rw[TO rfl,TO hi]at k;injection k with k;subst k;have:=L j;rw[hy]at this
         split
         ·rename_i d;rw[l]at d;rw[TO (by omega)]at this;rw[show (γ id).base+i*sz+j - ((γ id).base+i*sz+off)=j - off from by omega];exact this.symm
         ·rename_i d;rw[l]at d;rw[TN (by omega)]at this;exact⟨row,hrow,this.symm⟩
        ·rw[TN hii]at k;have H:j<sz:=by rw[<-D i' r' k];exact (TJ.1 hy).1
         rw[TN]
         ·exact⟨r',k,hy⟩
         ·rw[l];rintro⟨l1,l2⟩;exact hii (L9 (i:=i) (i':=i') H (by omega) (by omega)).symm) C.P
      refine⟨undef,w',γ,id,.cells sz (rows.set i row') ep loose false,?_,cD,O,.inl ⟨rfl,N⟩⟩;have B:vx.cells.size=n:=by rw[<-f,<-l];simp
      rw[c1,E];simp[Instr.storeAt,Instr.sureAddr,storeVar,a_ hn,B,M]
   ·trivial
  |_=>trivial
 |_=>trivial
theorem D9{sz:Nat}{rows:List (List AV)}{cs:Array Value}(e:TypeId)(hr:Rel C A bd w γ hg nx)(hf:(γ g.nx).kind=0)
  (hrow:∀(i:Nat) row,rows[i]?=some row->row.length=sz)
  (hv:∀(i j:Nat) row x,rows[i]?=some row->row[j]?=some x->x.one=true/\∃v,cs[i*sz+j]?=some v/\RV w γ A bd x v)
  (loose:Bool) (slack:Nat) (hs:(loose=false->slack=0)/\(loose=true->rows.length+slack<=9223372036854775807)) (hc:(rows.length+slack)*sz<=cs.size) :
  ∃γ',Rel C A bd (World.add w (.cells cs e (0,0))) γ' (upd hg g.nx (.cells sz rows 0 loose false)) (Nat.max nx (g.nx+1))/\Stp w γ (World.add w (.cells cs e (0,0))) γ' /\
   (γ' g.nx).kind=1/\(γ' g.nx).ep=0/\(γ' g.nx).sz=sz/\(γ' g.nx).n=rows.length/\(γ' g.nx).blk=w.heap.size/\(γ' g.nx).base=0/\(γ' g.nx).slack=slack :=
 hr.newCells e hf (Vb _ _) (TU (Nat.lt_succ_self _) (VB _ _)) hs hc hrow hv
theorem ig{P:Program}(e:TypeId)(cs:Array Value):(newRow e cs).run P w=.ok (adr w.heap.size 0) (World.add w (.cells cs e (0,0))):=by simp[newRow,adr,World.add]
theorem N4{x:AV}(hr:Rel C A bd w γ hg nx)(hx:RV w γ A bd x v)(hf:(γ g.nx).kind=0)(ht:x.isTup=false) :
  cV C A bd w γ hg nx (Instr.box ty v) g (.upd (.hptr g.nx 0 0 0) (g.new (W8 (bj x.cells) [x.cells]))):=by
 obtain⟨k,q2⟩:=pA hx ht;obtain⟨γ',a,b,c,f,r5,l,d,e,m⟩:=D9 (sz:=x.cells.length) (rows:=[x.cells]) (cs:=v.cells) ty hr hf
  (λi row h=>by cases i with|zero=>simp at h;rw[<-h]|succ i=>simp at h)
  (λi j row y h hy=>by
   cases i with
   | zero =>
    simp at h;subst h;have hlt:j<v.cells.toList.length:=by rw[<-k.1];exact (TJ.1 hy).1
    have he:=TH hlt;exact⟨q2 j y hy,_,by simpa using he,k.2 j y _ hy he⟩
   | succ i=>simp at h) false 0 ⟨λ_=>rfl,λh=>by cases h⟩ (by
    have:=k.1;simp at this;simp[this])
 rw[aA];refine⟨.pointer (some (adr w.heap.size 0)),_,γ',g.nx,_,?_,?_,b,.inr ⟨rfl,rfl,a⟩⟩
 ·simp[Instr.box,newVar,ig]
 ·exact .hptr _ _ _ _ _ _ _ c (by omega) (λ_=>⟨d.symm,by rw[e];simp⟩)
end
end
end
end Hx
