/- A part of the proof: what the functions of the chapter compute. -/
import GoSem.Step
import Derived.RangeFuncIn
import Derived.Laws.Sem
import Derived.Laws.Tables
set_option linter.all false
set_option maxHeartbeats 8000000
section
namespace Hx
open Go
theorem Tn:type_of% @List.getElem?_eq_getElem:=@List.getElem?_eq_getElem
theorem To:type_of% @And.intro:=@And.intro
theorem Tp:type_of% @Nat.le_refl:=@Nat.le_refl
theorem Tq:type_of% @Option.getD_some:=@Option.getD_some
theorem Ts:type_of% @Bool.and_eq_true:=@Bool.and_eq_true
theorem Tt:type_of% @List.getElem?_map:=@List.getElem?_map
theorem Tu:type_of% @List.getElem?_eq_some_iff:=@List.getElem?_eq_some_iff
theorem Tv:type_of% @List.mem_of_getElem?:=@List.mem_of_getElem?
theorem Tx:type_of% @Option.isSome_some:=@Option.isSome_some
theorem Ty:type_of% @Int.eq_ofNat_of_zero_le:=@Int.eq_ofNat_of_zero_le
theorem Tz:type_of% @List.length_map:=@List.length_map
theorem TA:type_of% @decide_eq_true_eq:=@decide_eq_true_eq
theorem TB:type_of% @List.getElem?_append_right:=@List.getElem?_append_right
theorem TC:type_of% @List.all_eq_true:=@List.all_eq_true
theorem TD:type_of% @List.getElem?_append_left:=@List.getElem?_append_left
theorem TE:type_of% @if_pos:=@if_pos
theorem TF:type_of% @if_neg:=@if_neg
theorem TG:type_of% @Nat.succ_pos:=@Nat.succ_pos
theorem TH:type_of% @Int.toNat_natCast:=@Int.toNat_natCast
theorem TJ:type_of% @List.cons_append:=@List.cons_append
theorem TK:type_of% @List.mem_range:=@List.mem_range
theorem TL:type_of% @List.nil_append:=@List.nil_append
theorem TM:type_of% @List.reverse_cons:=@List.reverse_cons
theorem TN:type_of% @Result.andThen_ok:=@Result.andThen_ok
theorem TO:type_of% @List.take_length:=@List.take_length
theorem TP:type_of% @List.length_append:=@List.length_append
theorem TQ:type_of% @Option.map_some:=@Option.map_some
theorem TS:type_of% @List.reverse_nil:=@List.reverse_nil
theorem TT:type_of% @Nat.mul_le_mul_right:=@Nat.mul_le_mul_right
theorem TU:type_of% @Nat.le_trans:=@Nat.le_trans
theorem TV:type_of% @List.not_mem_nil:=@List.not_mem_nil
theorem TW:type_of% @List.getElem_mem:=@List.getElem_mem
theorem TX:type_of% @Nat.lt_of_lt_of_le:=@Nat.lt_of_lt_of_le
theorem TY:type_of% @List.length_replicate:=@List.length_replicate
theorem TZ:type_of% @List.append_nil:=@List.append_nil
theorem T0:type_of% @Sem.run_bind:=@Sem.run_bind
theorem T2:type_of% @List.getElem?_of_mem:=@List.getElem?_of_mem
theorem T3:type_of% @List.mem_cons:=@List.mem_cons
theorem T4:type_of% @List.mem_map:=@List.mem_map
theorem T5:type_of% @List.eq_nil_of_length_eq_zero:=@List.eq_nil_of_length_eq_zero
theorem T6:type_of% @Nat.zero_add:=@Nat.zero_add
theorem T7:type_of% @Array.getElem?_eq_getElem:=@Array.getElem?_eq_getElem
theorem T8:type_of% @Nat.ble_eq:=@Nat.ble_eq
theorem T9:type_of% @Bool.not_false:=@Bool.not_false
theorem T_:type_of% @Nat.add_mul:=@Nat.add_mul
theorem Ua:type_of% @Nat.add_sub_cancel_left:=@Nat.add_sub_cancel_left
theorem Ub:type_of% @List.map_append:=@List.map_append
theorem Uc:type_of% @List.mem_of_mem_take:=@List.mem_of_mem_take
theorem Ud:type_of% @List.length_cons:=@List.length_cons
theorem Ue:type_of% @Nat.zero_le:=@Nat.zero_le
theorem Uf:type_of% @List.mem_append:=@List.mem_append
theorem Ug:type_of% @List.take_of_length_le:=@List.take_of_length_le
theorem Uh:type_of% @List.getElem?_replicate:=@List.getElem?_replicate
theorem Ui:type_of% @List.mem_iff_getElem:=@List.mem_iff_getElem
theorem Uj:type_of% @List.mem_of_mem_drop:=@List.mem_of_mem_drop
theorem Uk:type_of% @Int.mul_le_mul:=@Int.mul_le_mul
theorem Ul:type_of% @List.map_congr_left:=@List.map_congr_left
theorem Um:type_of% @Bool.not_true:=@Bool.not_true
theorem Un:type_of% @List.length_take:=@List.length_take
theorem Uo:type_of% @Bool.or_eq_true:=@Bool.or_eq_true
theorem Up:type_of% @Bool.true_and:=@Bool.true_and
theorem Uq:type_of% @Nat.beq_refl:=@Nat.beq_refl
theorem Ur:type_of% @Int.mul_nonneg:=@Int.mul_nonneg
theorem Us:type_of% @List.take_append_drop:=@List.take_append_drop
theorem Ut:type_of% @Int.natCast_mul:=@Int.natCast_mul
theorem Uu:type_of% @List.replicate_succ:=@List.replicate_succ
theorem Uv:type_of% @List.map_nil:=@List.map_nil
theorem Uw:type_of% @List.range_succ:=@List.range_succ
theorem Ux:type_of% @List.getElem?_set_self:=@List.getElem?_set_self
theorem Uy:type_of% @List.getElem?_take_of_lt:=@List.getElem?_take_of_lt
theorem Uz:type_of% @List.ext_getElem:=@List.ext_getElem
theorem UA:type_of% @List.map_singleton:=@List.map_singleton
theorem UB:type_of% @Nat.sub_self:=@Nat.sub_self
theorem UC:type_of% @Nat.one_mul:=@Nat.one_mul
theorem UD:type_of% @Classical.byContradiction:=@Classical.byContradiction
theorem UE:type_of% @List.drop_eq_getElem_cons:=@List.drop_eq_getElem_cons
theorem UF:type_of% @Nat.blt_eq:=@Nat.blt_eq
theorem UG:type_of% @Bool.not_eq_true:=@Bool.not_eq_true
theorem UH:type_of% @Bool.not_eq_true':=@Bool.not_eq_true'
theorem UI:type_of% @List.drop_drop:=@List.drop_drop
theorem UJ:type_of% @List.map_set:=@List.map_set
theorem UK:type_of% @Int.mul_assoc:=@Int.mul_assoc
theorem UL:type_of% @Array.getD_eq_getD_getElem?:=@Array.getD_eq_getD_getElem?
theorem UM:type_of% @Nat.le_max_left:=@Nat.le_max_left
theorem UN:type_of% @List.getElem_map:=@List.getElem_map
theorem UO:type_of% @List.append_assoc:=@List.append_assoc
theorem UP:type_of% @Ne.symm:=@Ne.symm
theorem UQ:type_of% @Option.some.injEq:=@Option.some.injEq
theorem UR:type_of% @Bool.false_eq_true:=@Bool.false_eq_true
theorem US:type_of% @Int.natCast_nonneg:=@Int.natCast_nonneg
theorem UT:type_of% @Sem.run_pure:=@Sem.run_pure
theorem UU:type_of% @decide_eq_false:=@decide_eq_false
theorem UV:type_of% @List.map_cons:=@List.map_cons
theorem UW:type_of% @List.getElem?_eq_none:=@List.getElem?_eq_none
theorem UX:type_of% @Nat.eq_of_beq_eq_true:=@Nat.eq_of_beq_eq_true
theorem UY:type_of% @Int.emod_lt_of_pos:=@Int.emod_lt_of_pos
theorem UZ:type_of% @List.getElem?_drop:=@List.getElem?_drop
theorem U0:type_of% @List.getElem?_set_ne:=@List.getElem?_set_ne
theorem U1:type_of% @List.getElem_range:=@List.getElem_range
theorem U2:type_of% @Int.toNat_of_nonneg:=@Int.toNat_of_nonneg
theorem U3:type_of% @List.getElem?_range:=@List.getElem?_range
theorem U4:type_of% @Nat.mod_lt:=@Nat.mod_lt
theorem U5:type_of% @List.flatMap_cons:=@List.flatMap_cons
theorem U6:type_of% @List.take_add_one:=@List.take_add_one
theorem U7:type_of% @List.contains_iff_mem:=@List.contains_iff_mem
theorem U8:type_of% @List.set_append_right:=@List.set_append_right
theorem U9:type_of% @Nat.add_mul_div_right:=@Nat.add_mul_div_right
theorem U_:type_of% @or_false:=@or_false
theorem Va:type_of% @List.set_cons_zero:=@List.set_cons_zero
theorem Vb:type_of% @List.flatMap_nil:=@List.flatMap_nil
theorem Vc:type_of% @Option.bind_some:=@Option.bind_some
theorem Vd:type_of% @Nat.add_assoc:=@Nat.add_assoc
theorem Ve:type_of% @List.drop_of_length_le:=@List.drop_of_length_le
theorem Vf:type_of% @List.getD_eq_getElem?_getD:=@List.getD_eq_getElem?_getD
theorem Vg:type_of% @Nat.add_mul_mod_self_right:=@Nat.add_mul_mod_self_right
theorem Vh:type_of% @Int.emod_nonneg:=@Int.emod_nonneg
theorem Vi:type_of% @List.length_nil:=@List.length_nil
theorem Vj:type_of% @List.mem_replicate:=@List.mem_replicate
theorem Vk:type_of% @List.mem_singleton:=@List.mem_singleton
theorem Vl:type_of% @List.zip_cons_cons:=@List.zip_cons_cons
theorem Vm:type_of% @Nat.div_eq_of_lt:=@Nat.div_eq_of_lt
theorem Vn:type_of% @Option.getD_none:=@Option.getD_none
theorem Vo:type_of% @List.getElem?_append:=@List.getElem?_append
theorem Vp:type_of% @List.length_range:=@List.length_range
theorem Vq:type_of% @Int.natCast_add:=@Int.natCast_add
theorem Vr:type_of% @Int.pow_succ:=@Int.pow_succ
theorem Vt:type_of% @List.filter_eq_nil_iff:=@List.filter_eq_nil_iff
theorem Vu:type_of% @Nat.add_comm:=@Nat.add_comm
theorem Vv:type_of% @Nat.add_zero:=@Nat.add_zero
theorem Vw:type_of% @Nat.sub_zero:=@Nat.sub_zero
theorem Vx:type_of% @Bool.and_self:=@Bool.and_self
theorem Vy:type_of% @Bool.and_true:=@Bool.and_true
theorem Vz:type_of% @Int.add_mul:=@Int.add_mul
theorem VA:type_of% @Int.one_mul:=@Int.one_mul
theorem VB:type_of% @Nat.le_succ:=@Nat.le_succ
theorem VC:type_of% @Bool.and_false:=@Bool.and_false
theorem VD:type_of% @List.drop_zero:=@List.drop_zero
theorem VE:type_of% @List.map_replicate:=@List.map_replicate
theorem VF:type_of% @List.mem_append_right:=@List.mem_append_right
theorem VG:type_of% @List.pairwise_iff_getElem:=@List.pairwise_iff_getElem
theorem VH:type_of% @Bool.eq_iff_iff:=@Bool.eq_iff_iff
theorem VI:type_of% @List.foldl_cons:=@List.foldl_cons
theorem VJ:type_of% @Int.le_trans:=@Int.le_trans
theorem VK:type_of% @Int.mul_comm:=@Int.mul_comm
theorem VL:type_of% @List.getElem?_set:=@List.getElem?_set
theorem VM:type_of% @List.mem_append_left:=@List.mem_append_left
theorem VN:type_of% @Nat.lt_or_ge:=@Nat.lt_or_ge
theorem VO:type_of% @Nat.mul_comm:=@Nat.mul_comm
theorem VP:type_of% @List.append_cancel_right:=@List.append_cancel_right
theorem VQ:type_of% @List.drop_succ_cons:=@List.drop_succ_cons
theorem VR:type_of% @Bool.false_and:=@Bool.false_and
theorem VT:type_of% @List.length_drop:=@List.length_drop
theorem VU:type_of% @List.mem_flatMap:=@List.mem_flatMap
theorem VV:type_of% @decide_eq_true:=@decide_eq_true
theorem VW:type_of% @Int.le_refl:=@Int.le_refl
theorem VX:type_of% @Int.zero_mul:=@Int.zero_mul
theorem VY:type_of% @List.set_cons_succ:=@List.set_cons_succ
theorem VZ:type_of% @Nat.div_le_self:=@Nat.div_le_self
theorem V1:type_of% @Nat.not_lt_zero:=@Nat.not_lt_zero
theorem V2:type_of% @Nat.lt_trichotomy:=@Nat.lt_trichotomy
theorem V3:type_of% @Function.comp_apply:=@Function.comp_apply
theorem V4:type_of% @List.replicate_zero:=@List.replicate_zero
theorem V5:type_of% @Nat.mul_le_mul_left:=@Nat.mul_le_mul_left
theorem V6:type_of% @List.sum_cons:=@List.sum_cons
theorem V7:type_of% @Nat.div_add_mod:=@Nat.div_add_mod
theorem V8:type_of% @Nat.min_eq_left:=@Nat.min_eq_left
theorem V9:type_of% @Nat.and_lt_two_pow:=@Nat.and_lt_two_pow
theorem V_:type_of% @Nat.xor_lt_two_pow:=@Nat.xor_lt_two_pow
theorem Wa:type_of% @Bool.true_or:=@Bool.true_or
theorem Wb:type_of% @Int.zero_add:=@Int.zero_add
theorem Wc:type_of% @List.take_zero:=@List.take_zero
theorem Wd:type_of% @Nat.mul_assoc:=@Nat.mul_assoc
end Hx
end
section
namespace Hx
open Go
noncomputable section
inductive AV where
 |bool (b:Bool)
 |int (k:IntKind) (n:Int)
 |str (s:ByteArray)
 |tup (vs:List AV)
 |agg (cs:List AV)
 |nilp|nils|nilf|nilm|nili
 |esl
 |tsl (tag:Nat) (sz:Nat) (rows:List (List AV))
 |tptr (tag:Nat) (sz:Nat) (rows:List (List AV)) (i off:Nat)
 |hsl (id ep off len:Nat) (lim:Option Nat)
 |hptr (id ep i off:Nat)
 |clo (f:Nat) (first cap:List AV)
 |hmap (id:Nat)
 |ifc (t:Nat) (v:AV)
 |yld (id:Nat)
 deriving Inhabited
abbrev AV.undef:AV:=.tup []
def AV.cells:AV->List AV
 |.agg cs=>cs
 |v=>[v]
def AV.one:AV->Bool
 |.tup _|.agg _=>false
 |_=>true
def AV.isTup:AV->Bool
 |.tup _=>true
 |_=>false
structure Stg (α:Type) where
 run:α
abbrev aA {α:Type}(b:Bool)(x y:α):α:=@Bool.rec (λ_=>α) y x b
def jF(b:Bool):Bool:=@Bool.rec (λ_=>Bool) true false b
inductive Tr (α:Type) where
 |nil
 |node (v:α) (l r:Tr α)
def Tr.get{α:Type}(e:α):Tr α->Nat->α
 |.nil,_=>e
 |.node v _ _,0=>v
 |.node _ l r,m+1=>aA (Nat.beq (m % 2) 0) (Tr.get e l (m / 2)) (Tr.get e r (m / 2))
def gpF{α:Type}(e:α):Nat->Nat->Stg (Tr α->α)
 |0,_=>⟨λ_=>e⟩
 |_+1,0=>⟨λt=>@Tr.rec α (λ_=>α) e (λv _ _ _ _=>v) t⟩
 | f+1,m+1=>aA (Nat.beq (m % 2) 0)
   ⟨λt=>@Tr.rec α (λ_=>α) e (λ_ l _ _ _=>(gpF e f (m / 2)).run l) t⟩
   ⟨λt=>@Tr.rec α (λ_=>α) e (λ_ _ r _ _=>(gpF e f (m / 2)).run r) t⟩
def gp{α:Type}(e:α)(n:Nat):Stg (Tr α->α):=gpF e (n+1) n
def spF{α:Type}(e:α):Nat->Nat->Stg (Tr α->α->Tr α)
 |0,_=>⟨λt _=>t⟩
 |_+1,0=>⟨λt x=>@Tr.rec α (λ_=>Tr α) (.node x .nil .nil) (λ_ l r _ _=>.node x l r) t⟩
 | f+1,m+1=>aA (Nat.beq (m % 2) 0)
   ⟨λt x=>@Tr.rec α (λ_=>Tr α) (.node e ((spF e f (m / 2)).run .nil x) .nil) (λv l r _ _=>.node v ((spF e f (m / 2)).run l x) r) t⟩
   ⟨λt x=>@Tr.rec α (λ_=>Tr α) (.node e .nil ((spF e f (m / 2)).run .nil x)) (λv l r _ _=>.node v l ((spF e f (m / 2)).run r x)) t⟩
def sp{α:Type}(e:α)(n:Nat):Stg (Tr α->α->Tr α):=spF e (n+1) n
def Tr.put{α:Type}(e:α)(t:Tr α)(n:Nat)(x:α):Tr α:=(sp e n).run t x
def AR{α:Type}(n:Nat):List α->Option α :=
 @Nat.rec (λ_=>List α->Option α) (λl=>@List.rec α (λ_=>Option α) none (λa _ _=>some a) l)
  (λ_ ih l=>@List.rec α (λ_=>Option α) none (λ_ t _=>ih t) l) n
def Gn{α:Type}(n:Nat)(x:α):List α->List α :=
 @Nat.rec (λ_=>List α->List α) (λl=>@List.rec α (λ_=>List α) [] (λ_ t _=>x::t) l)
  (λ_ ih l=>@List.rec α (λ_=>List α) [] (λa t _=>a::ih t) l) n
def bL{α:Type}(l:List α):Nat:=@List.rec α (λ_=>Nat) 0 (λ_ _ n=>Nat.succ n) l
def i_{α:Type}(n:Nat):List α->List α :=
 @Nat.rec (λ_=>List α->List α) (λl=>l) (λ_ ih l=>@List.rec α (λ_=>List α) [] (λ_ t _=>ih t) l) n
def jO{α:Type}(n:Nat):List α->List α :=
 @Nat.rec (λ_=>List α->List α) (λ_=>[]) (λ_ ih l=>@List.rec α (λ_=>List α) [] (λa t _=>a::ih t) l) n
inductive AObj where
 |none
 |cells (sz:Nat) (rows:List (List AV)) (ep:Nat) (loose fz:Bool)
 |map (es:List (AV×AV))
 |loop (nt:Nat) (t:Tr AV) (ps:List Nat) (assign body:Code) (dfr:Nat) (st:LoopState) (pend:Option Code)
 |dfr (live:Bool)
@[match_pattern,reducible] def We (k:Nat)(r:List (List AV)):AObj:=.cells k r 0 false false
abbrev T:=Tr AV
abbrev H:=Tr AObj
def H.get(h:H)(i:Nat):AObj:=(gp AObj.none i).run h
def H.put(h:H)(i:Nat)(o:AObj):H:=(sp AObj.none i).run h o
structure G where
 h:H
 nx:Nat
 lg:List Nat
def G.empty:G:=⟨.nil,0,[]⟩
def G.put(g:G)(id:Nat)(o:AObj):G:=@G.rec (λ_=>G) (λh nx lg=>⟨h.put id o,nx,id::lg⟩) g
def G.new(g:G)(o:AObj):G:=@G.rec (λ_=>G) (λh nx lg=>⟨h.put nx o,Nat.succ nx,nx::lg⟩) g
def G.get(g:G)(i:Nat):AObj:=H.get g.h i
inductive ADf where
 |call (f:AV) (args:List AV)
 |mark (id:Nat)
inductive Ex where
 |norm
 |exit (id:Nat)
 |ret
inductive CR where
 |fail
 |ok (e:Ex) (t:T) (df:List ADf) (g:G)
inductive FR where
 |fail
 |ok (v:AV) (g:G)
inductive OR where
 |fail
 |val (v:AV)
 |upd (v:AV) (g:G)
 |dfr (a:ADf)
structure IH where
 code:Nat->Nat->Option Nat->Code->T->List ADf->G->CR
 call:Nat->Nat->List AV->G->FR
structure Cfg where
 P:Program
 iso:Nat->Bool
 ext:Nat->Option (Nat->List AV->G->OR)
 glob:Nat->Option (Nat×List (List AV))
abbrev Ld:=IH->Nat->Option Nat->T->G->OR
section types
variable (P:Program)
def szT(t:TypeId):Option Nat:=(P.info? t).map (·.size)
def jQ(t:TypeId):Option Nat:=(P.info? t).map (·.bytes)
def rT(t:TypeId):Option Bool :=
 match P.underlying t with
 |some (.struct _)|some (.array _ _)=>some true
 |some _=>some false
 |none=>none
def ofV:Value->Option AV
 |.bool b=>some (.bool b)
 |.int k n=>some (.int k n)
 |.string s=>some (.str s)
 |.pointer none=>some .nilp
 |.slice none 0 0=>some .nils
 |.map none=>some .nilm
 |.nilFunc=>some .nilf
 |.nilIface=>some .nili
 |_=>none
def AX:List Value->Option (List AV)
 |[]=>some []
 | v::vs=>match ofV v,AX vs with
  |some a,some as=>some (a::as)
  |_,_=>none
def fS(t:TypeId):Option (List AV):=(P.info? t).bind λi=>i.zero.bind λv=>AX v.cells.toList
def uX(t:TypeId):Option AV:=(P.info? t).bind λi=>i.zero.bind λv=>match v with
 |.agg cs=>(AX cs.toList).map .agg
 |v=>ofV v
def l9(t:TypeId):Option TypeId:=match P.underlying t with|some (.slice e)=>some e|_=>none
def tj(t:TypeId)(f:Nat):Option (Nat×TypeId) :=
 match P.underlying t with
 |some (.struct fs)=>match fs[f]? with|some x=>some (x.offset,x.type)|none=>none
 |_=>none
end types
def aK{α β:Type}(f:α->Option β):List α->Option (List β)
 |[]=>some []
 | v::vs=>match f v with
  | some a=>match aK f vs with
   |some as=>some (a::as)
   |none=>none
  |none=>none
def aW(C:Cfg):Operand->Option (Stg (T->AV))
 |.tmp n=>some (gp AV.undef n)
 |.const v=>match ofV v with|some a=>some ⟨λ_=>a⟩|none=>none
 |.global g=>match C.glob g with|some (sz,rows)=>some ⟨λ_=>.tptr 0 sz rows 0 0⟩|none=>none
 |.func f=>some ⟨λ_=>.clo f [] []⟩
def cg(C:Cfg):List Operand->Option (Stg (T->List AV))
 |[]=>some ⟨λ_=>[]⟩
 | x::xs=>match aW C x,cg C xs with
  |some a,some as=>some ⟨λt=>a.run t::as.run t⟩
  |_,_=>none
def tW(k:IntKind)(n:Int):Int :=
 match k,n with
 |.i64,.ofNat m=>aA (Nat.blt m 9223372036854775808) (.ofNat m) (IntKind.wrap .i64 (.ofNat m))
 |.i64,.negSucc m=>aA (Nat.blt m 9223372036854775808) (.negSucc m) (IntKind.wrap .i64 (.negSucc m))
 |.u64,.ofNat m=>.ofNat (m % 18446744073709551616)
 |.u8,.ofNat m=>.ofNat (m % 256)
 |k,n=>IntKind.wrap k n
def zi:Int->Int->Bool
 |.ofNat m,.ofNat n=>Nat.blt m n
 |.ofNat _,.negSucc _=>false
 |.negSucc _,.ofNat _=>true
 |.negSucc m,.negSucc n=>Nat.blt n m
def Fu:Int->Int->Bool
 |.ofNat m,.ofNat n=>Nat.beq m n
 |.ofNat _,.negSucc _=>false
 |.negSucc _,.ofNat _=>false
 |.negSucc m,.negSucc n=>Nat.beq m n
def tL:Sem Value->Option AV
 |.pure (.int k n)=>some (.int k n)
 |.pure (.bool b)=>some (.bool b)
 |_=>none
def Qa(k:IntKind):Int->Int->Option AV
 |.ofNat m,.ofNat (n+1)=>some (.int k (tW k (.ofNat (m / (n+1)))))
 |a,b=>tL (Op.intDiv .quo k a b)
def Qc(k:IntKind):Int->Int->Option AV
 |.ofNat m,.ofNat (n+1)=>some (.int k (.ofNat (m % (n+1))))
 |a,b=>tL (Op.intDiv .rem k a b)
def mK(k:IntKind)(m n:Nat):Bool :=
 match k with
 |.u64=>Nat.blt m 18446744073709551616&&Nat.blt n 18446744073709551616
 |.i64=>Nat.blt m 9223372036854775808&&Nat.blt n 9223372036854775808
 |_=>false
def O_(op:BinOp)(k:IntKind):Int->Int->Option AV
 | .ofNat m,.ofNat n=>aA (mK k m n)
   (match op with
    |.and=>some (.int k (.ofNat (Nat.land m n)))
    |.or=>some (.int k (.ofNat (Nat.lor m n)))
    |.xor=>some (.int k (.ofNat (Nat.xor m n)))
    |.andNot=>some (.int k (.ofNat (Nat.xor m (Nat.land m n))))
    |_=>none)
   (tL (Op.intBits op k (.ofNat m) (.ofNat n)))
 |a,b=>tL (Op.intBits op k a b)
def Nu(k:IntKind):Int->Int->Option AV
 |.ofNat m,.ofNat n=>some (.int k (tW k (.ofNat (m*2 ^ (Nat.min n k.bits)))))
 |a,b=>tL (Op.shift .shl k a k b)
def Nv(k:IntKind):Int->Int->Option AV
 |.ofNat m,.ofNat n=>some (.int k (.ofNat (m / 2 ^ (Nat.min n k.bits))))
 |a,b=>tL (Op.shift .shr k a k b)
def cZ:IntKind->IntKind->Bool
 |.i64,.i64=>true
 |.u64,.u64=>true
 |a,b=>decide (a=b)
def fL:BinOp->Stg (IntKind->Int->IntKind->Int->Option AV)
 |.add=>⟨λk a k' b=>aA (cZ k k') (some (.int k (tW k (a+b)))) none⟩
 |.sub=>⟨λk a k' b=>aA (cZ k k') (some (.int k (tW k (a - b)))) none⟩
 |.mul=>⟨λk a k' b=>aA (cZ k k') (some (.int k (tW k (a*b)))) none⟩
 |.quo=>⟨λk a k' b=>aA (cZ k k') (Qa k a b) none⟩
 |.rem=>⟨λk a k' b=>aA (cZ k k') (Qc k a b) none⟩
 |.eql=>⟨λk a k' b=>aA (cZ k k') (some (.bool (Fu a b))) none⟩
 |.neq=>⟨λk a k' b=>aA (cZ k k') (some (.bool (jF (Fu a b)))) none⟩
 |.lss=>⟨λk a k' b=>aA (cZ k k') (some (.bool (zi a b))) none⟩
 |.leq=>⟨λk a k' b=>aA (cZ k k') (some (.bool (jF (zi b a)))) none⟩
 |.gtr=>⟨λk a k' b=>aA (cZ k k') (some (.bool (zi b a))) none⟩
 |.geq=>⟨λk a k' b=>aA (cZ k k') (some (.bool (jF (zi a b)))) none⟩
 |.shl=>⟨λk a _ b=>Nu k a b⟩
 |.shr=>⟨λk a _ b=>Nv k a b⟩
 |op=>⟨λk a k' b=>aA (cZ k k') (O_ op k a b) none⟩
def nC:TypeDesc->Bool
 |.bool|.int _|.string=>true
 |_=>false
def vH(P:Program)(rec:TypeId->Option (List TypeDesc)):List Field->Nat->Option (List TypeDesc)
 |[],_=>some []
 | f::fs,k=>match rec f.type with
  | some ds=>match vH P rec fs (k+ds.length) with
   | some r => aA ((f.name != "_") && Nat.beq f.offset k && (szT P f.type == some ds.length)) (some (ds ++ r)) none
   |none=>none
  |none=>none
def nD(P:Program):Nat->TypeId->Option (List TypeDesc)
 |0,_=>none
 | d+1,t=>match P.underlying t with
  |some (.struct fs)=>aA (P.stoodInHeld t) none (vH P (nD P d) fs.toList 0)
  | some (.array n e)=>match nD P d e with
   |some ds=>aA (szT P e == some ds.length) (some (List.replicate n ds).flatten) none
   |none=>none
  |some d=>aA (nC d) (some [d]) none
  |none=>none
def kJ(P:Program)(t:TypeId):Option (List TypeDesc) :=
 aA (P.eqGuardType P.depth t) none (nD P 8 t)
def pr:TypeDesc->AV->Bool
 |.bool,.bool _=>true
 |.int k,.int k' _=>cZ k k'
 |.string,.str _=>true
 |_,_=>false
def dN:List TypeDesc->List AV->Bool
 |[],[]=>true
 |d::ds,v::vs=>aA (pr d v) (dN ds vs) false
 |_,_=>false
def oS:AV->AV->Option Bool
 |.int k a,.int k' b=>aA (cZ k k') (some (Fu a b)) none
 |.bool a,.bool b=>some (aA a b (jF b))
 |.str a,.str b=>some (decide (a=b))
 |_,_=>none
def eF:List AV->List AV->Option Bool
 |[],[]=>some true
 | a::as,b::bs=>match oS a b,eF as bs with
  |some x,some y=>some (aA x y false)
  |_,_=>none
 |_,_=>none
inductive EqKind where
 |flat (ds:List TypeDesc)|slice|func|bool|iface (empty:Bool)|other
def qs(P:Program)(t:TypeId):EqKind :=
 match P.underlying t with
 |some (.slice _)=>.slice
 |some (.func _ _ _)=>.func
 |some .bool=>.bool
 |some (.interface ms)=>.iface ms.isEmpty
 |some (.struct _)|some (.array _ _)=>match kJ P t with|some ds=>.flat ds|none=>.other
 |_=>.other
def eqA(k:EqKind)(x y:AV):Option Bool :=
 match k with
 | .flat ds=>match x,y with
  |.agg xs,.agg ys=>aA (dN ds xs&&dN ds ys) (eF xs ys) none
  |_,_=>none
 | .slice=>match x,y with
  |.nils,.nils=>some true
  |.nils,.tsl ..|.nils,.hsl ..|.nils,.esl|.tsl ..,.nils|.hsl ..,.nils|.esl,.nils=>some false
  |_,_=>none
 | .func=>match x,y with
  |.nilf,.nilf=>some true
  |.nilf,.clo ..|.clo ..,.nilf|.nilf,.yld _|.yld _,.nilf=>some false
  |_,_=>none
 | .bool=>match x,y with
  |.bool a,.bool b=>some (aA a b (jF b))
  |_,_=>none
 | .iface e=>match x,y with
  |.nili,.nili=>aA e (some true) none
  |.nili,.ifc ..|.ifc ..,.nili=>some false
  |_,_=>none
 |.other=>none
def orV:Option AV->OR
 |some v=>.val v
 |none=>.fail
def zJ(P:Program)(op:BinOp)(t:TypeId):Stg (AV->AV->OR) :=
 match op with
 | .eql=>match qs P t with
  |.other=>⟨λx y=>match x,y with|.int k a,.int k' b=>orV ((fL .eql).run k a k' b)|_,_=>.fail⟩
  |ek=>⟨λx y=>match eqA ek x y with|some b=>.val (.bool b)|none=>.fail⟩
 | .neq=>match qs P t with
  |.other=>⟨λx y=>match x,y with|.int k a,.int k' b=>orV ((fL .neq).run k a k' b)|_,_=>.fail⟩
  |ek=>⟨λx y=>match eqA ek x y with|some b=>.val (.bool (jF b))|none=>.fail⟩
 |op=>⟨λx y=>match x,y with|.int k a,.int k' b=>orV ((fL op).run k a k' b)|_,_=>.fail⟩
def unA(op:UnOp):Stg (AV->OR) :=
 match op with
 |.not=>⟨λx=>match x with|.bool b=>.val (.bool (jF b))|_=>.fail⟩
 |op=>⟨λx=>match x with|.int k n=>orV (tL (Op.unary op (.int k n)))|_=>.fail⟩
def ch(agg:Bool)(n:Nat)(row:List AV)(off:Nat):Option AV :=
 aA agg (let cs:=jO n (i_ off row);aA (Nat.beq (bL cs) n) (some (.agg cs)) none) (AR off row)
def cL(row:List AV)(off:Nat)(cs:List AV):Option (List AV) :=
 aA (Nat.ble (off+bL cs) (bL row))
  (some (match cs with
   |[c]=>Gn off c row
   |cs=>jO off row++(cs++i_ (off+bL cs) row)))
  none
def dA(lim:Nat):AV->Option Nat
 |.int _ (.ofNat n)=>aA (Nat.ble n lim) (some n) none
 |_=>none
def bF(dflt lim:Nat):Option AV->Option Nat
 |none=>some dflt
 |some v=>dA lim v
def ie(n:Nat)(row:List AV):List (List AV):=List.replicate n row
def jN:List AV->List ((Nat×Nat)×AV)->Option (List AV)
 |cells,[]=>some cells
 | cells,((off,size),v)::rest =>
  aA (Nat.beq (bL v.cells) size&&jF v.isTup) (match cL cells off v.cells with|some cs=>jN cs rest|none=>none) none
def dy(sz:Nat):List (List AV)->List (Nat×AV)->Option (List (List AV))
 |rows,[]=>some rows
 |rows,(i,v)::rest=>aA (Nat.beq (bL v.cells) sz&&Nat.blt i (bL rows)&&jF v.isTup) (dy sz (Gn i v.cells rows) rest) none
def ac(h:H)(sz:Nat):AV->Option (List (List AV))
 |.nils=>some []
 |.esl=>some []
 |.tsl _ sz' rows=>aA (Nat.beq sz sz' || rows.isEmpty) (some rows) none
 | .hsl id ep off len _=>match h.get id with
  |.cells sz' rows ep' _ _=>aA (Nat.beq ep ep'&&Nat.beq sz sz'&&Nat.ble (off+len) (bL rows)) (some (jO len (i_ off rows))) none
  |_=>none
 |_=>none
def gX(rows:List (List AV))(off:Nat)(new:List (List AV)):List (List AV) :=
 match new with
 |[r]=>Gn off r rows
 |new=>jO off rows++(new++i_ (off+bL new) rows)
def aQ:Nat:=1099511627776
def bp(sz bytes:Nat)(s:AV)(new:List (List AV))(g:G):OR :=
  match s with
  | .nils| .esl=>match new with
   |[]=>.val s
   |_=>aA (Nat.ble (bL new*bytes) aQ) (.upd (.hsl g.nx 0 0 (bL new) none) (g.new (.cells sz new 0 true false))) .fail
  | .tsl ..=>match new with
   |[]=>.val s
   |_=>.fail
  | .hsl id ep off len lim=>match g.get id with
   | .cells sz' rows ep' loose fz =>
    aA (Nat.beq ep ep'&&Nat.beq sz sz'&&Nat.ble (off+len) (bL rows)&&Nat.ble ((len+bL new)*bytes) aQ)
     (aA (Nat.ble (len+bL new) (lim.getD (bL rows - off)))
       (match new with
        |[]=>.val s
        | _=>aA (Nat.ble (off+len+bL new) (bL rows)&&jF fz)
         (.upd (.hsl id ep off (len+bL new) lim) (g.put id (.cells sz (gX rows (off+len) new) ep loose fz))) .fail)
       (aA (lim.isSome || jF loose)
        (.upd (.hsl g.nx 0 0 (len+bL new) none) (g.new (.cells sz (jO len (i_ off rows)++new) 0 true false)))
        (aA fz .fail (.upd (.hsl id (Nat.succ ep) 0 (len+bL new) none) (g.put id (.cells sz (jO len (i_ off rows)++new) (Nat.succ ep) true false))))))
     .fail
   |_=>.fail
  |_=>.fail
def cC(sz bytes:Nat)(s x:AV)(g:G):OR :=
 match ac g.h sz x with
 |none=>.fail
 |some new=>bp sz bytes s new g
def mB(sz bytes:Nat)(zero:List AV)(s x:AV)(g:G):OR :=
 match dA aQ x with
 |none=>.fail
 |some n=>aA (Nat.ble (n*bytes) aQ) (bp sz bytes s (ie n zero) g) .fail
def yx(sz:Nat)(d x:AV)(g:G):OR :=
 match ac g.h sz x with
 |none=>.fail
 | some src=>match d with
  |.nils|.esl=>.val (.int .i64 0)
  |.tsl _ _ rows=>aA (rows.isEmpty || src.isEmpty) (.val (.int .i64 0)) .fail
  | .hsl id ep off len _=>match g.get id with
   | .cells sz' rows ep' loose fz =>
    aA (Nat.beq ep ep'&&Nat.beq sz sz'&&Nat.ble (off+len) (bL rows)&&jF fz)
     (.upd (.int .i64 (Nat.min (bL src) len)) (g.put id (.cells sz (gX rows off (jO (Nat.min (bL src) len) src)) ep loose fz))) .fail
   |_=>.fail
  |_=>.fail
def nR(sz:Nat)(x:AV)(lo hi mx:Option AV)(h:H):Option AV :=
 match x with
 | .nils=>match bF 0 0 lo,bF 0 0 hi,bF 0 0 mx with
  |some _,some _,some _=>some .nils
  |_,_,_=>none
 | .esl=>match bF 0 0 lo,bF 0 0 hi,bF 0 0 mx with
  |some _,some _,some _=>some .esl
  |_,_,_=>none
 | .tsl tag sz' rows=>match mx with
  | none=>match bF (bL rows) (bL rows) hi with
   |none=>none
   | some h=>match bF 0 h lo with
    |none=>none
    |some l=>aA (Nat.beq sz sz') (some (.tsl tag sz (jO (h - l) (i_ l rows)))) none
  | some m=>match dA 0 m,bF 0 0 hi,bF 0 0 lo with
   |some _,some _,some _=>some .esl
   |_,_,_=>none
 | .hsl id ep off len lim=>match h.get id with
  | .cells sz' rows ep' loose _ =>
   aA (Nat.beq ep ep'&&Nat.beq sz sz'&&Nat.ble (off+len) (bL rows))
    (match bF (lim.getD (bL rows - off)) (lim.getD (bL rows - off)) mx with
     |none=>none
     | some m=>match bF len m hi with
      |none=>none
      | some h=>match bF 0 h lo with
       |none=>none
       | some l =>
        aA (Nat.beq m l)
         (aA (mx.isSome || lim.isSome || jF loose) (some .esl) (some (.tsl 0 sz [])))
         (some (.hsl id ep (off+l) (h - l) (match mx with|some _=>some (m - l)|none=>lim.map (· - l))))) none
  |_=>none
 |_=>none
def lE(k k':AV):Option Bool :=
 match k with
 |.agg xs=>match k' with|.agg ys=>eF xs ys|_=>none
 |x=>match k' with|.agg _=>none|y=>oS x y
def pZ(k:AV):List (AV×AV)->Option (Option AV)
 |[]=>some none
 | (k',v)::es=>match lE k k' with
  |some true=>some (some v)
  |some false=>pZ k es
  |none=>none
def Gk(k v:AV):List (AV×AV)->Option (List (AV×AV))
 |[]=>some [(k,v)]
 | (k',v')::es=>match lE k k' with
  |some true=>some ((k,v)::es)
  |some false=>match Gk k v es with|some r=>some ((k',v')::r)|none=>none
  |none=>none
inductive KeyKind where
 |one (d:TypeDesc)|flat (ds:List TypeDesc)|other
def dg(P:Program)(t:TypeId):KeyKind :=
 match P.underlying t with
 |some (.struct _)|some (.array _ _)=>match kJ P t with|some ds=>.flat ds|none=>.other
 |some d=>aA (nC d) (.one d) .other
 |none=>.other
def my:KeyKind->AV->Bool
 |.one d,v=>pr d v
 |.flat ds,.agg vs=>dN ds vs
 |_,_=>false
abbrev SFn:=T->G->OR
def mz(ag:Bool)(n:Nat)(a:T->AV):SFn:=λt g =>
 match a t with
 | .tptr _ _ rows i off=>match AR i rows with
  |some row=>orV (ch ag n row off)
  |none=>.fail
 | .hptr id ep i off=>match g.get id with
  | .cells _ rows ep' _ _=>aA (Nat.beq ep ep') (match AR i rows with
   |some row=>orV (ch ag n row off)
   |none=>.fail) .fail
  |_=>.fail
 |_=>.fail
def pw(n:Nat)(a x:T->AV):SFn:=λt g =>
 match a t with
 | .hptr id ep i off=>match g.get id with
  | .cells sz rows ep' loose fz=>aA (Nat.beq ep ep'&&Nat.beq (bL (x t).cells) n&&jF fz&&jF (x t).isTup) (match AR i rows with
   | some row=>match cL row off (x t).cells with
    |some row'=>.upd .undef (g.put id (.cells sz (Gn i row' rows) ep loose fz))
    |none=>.fail
   |none=>.fail) .fail
  |_=>.fail
 |_=>.fail
def Dr(cs:List AV):SFn:=λ_ g=>.upd (.hptr g.nx 0 0 0) (g.new (We (bL cs) [cs]))
def Ln(a:T->AV):SFn:=λt g=>aA (a t).isTup .fail (.upd (.hptr g.nx 0 0 0) (g.new (We (bL (a t).cells) [(a t).cells])))
def oO(zero:List AV)(pl:List (Nat×Nat))(vs:T->List AV):SFn:=λt _ =>
 match jN zero (pl.zip (vs t)) with|some cs=>.val (.agg cs)|none=>.fail
def il(sz len:Nat)(zrows:List (List AV))(is:List Nat)(vs:T->List AV):SFn:=λt g =>
 match dy sz zrows (is.zip (vs t)) with
 |some rows=>.upd (.hsl g.nx 0 0 len none) (g.new (We sz rows))
 |none=>.fail
def kh(fo:Nat)(a:T->AV):SFn:=λt _ =>
 match a t with
 |.tptr l sz rows i off=>.val (.tptr l sz rows i (off+fo))
 |.hptr id ep i off=>.val (.hptr id ep i (off+fo))
 |_=>.fail
def gN(sz:Nat)(a ix:T->AV):SFn:=λt g =>
 match a t with
 | .tsl l sz' rows=>match ix t with
  |.int _ (.ofNat i)=>aA (Nat.beq sz sz'&&Nat.blt i (bL rows)) (.val (.tptr l sz rows i 0)) .fail
  |_=>.fail
 | .hsl id ep off len _=>match ix t with
  | .int _ (.ofNat i)=>match g.get id with
   |.cells sz' _ ep' _ _=>aA (Nat.beq ep ep'&&Nat.beq sz sz'&&Nat.blt i len) (.val (.hptr id ep (off+i) 0)) .fail
   |_=>.fail
  |_=>.fail
 |_=>.fail
def nH(n sz:Nat)(a ix:T->AV):SFn:=λt _ =>
 match ix t with
 | .int _ (.ofNat i)=>aA (Nat.blt i n) (match a t with
  |.tptr l sz' rows j off=>.val (.tptr l sz' rows j (off+i*sz))
  |.hptr id ep j off=>.val (.hptr id ep j (off+i*sz))
  |_=>.fail) .fail
 |_=>.fail
def vL(ag:Bool)(n sz:Nat)(a ix:T->AV):SFn:=λt _ =>
 match a t with
 | .agg cs=>match ix t with
  |.int _ (.ofNat i)=>aA (Nat.blt i n) (orV (ch ag sz cs (i*sz))) .fail
  |_=>.fail
 |_=>.fail
def qb(a ix:T->AV):SFn:=λt _ =>
 match a t with
 | .str s=>match ix t with
  | .int _ (.ofNat i)=>match AR i s.data.toList with
   |some b=>.val (.int .u8 (.ofNat b.toNat))
   |none=>.fail
  |_=>.fail
 |_=>.fail
def ic(sz bytes:Nat)(zero:List AV)(l c:T->AV):SFn:=λt g =>
 match dA aQ (c t) with
 | some cn=>match dA cn (l t) with
  | some ln=>aA (Nat.ble (cn*bytes) aQ)
   (.upd (.hsl g.nx 0 0 ln none) (g.new (We sz (ie cn zero)))) .fail
  |none=>.fail
 |none=>.fail
def cp(kk:KeyKind)(zero:AV)(ok:Bool)(m k:T->AV):SFn:=λt g =>
 aA (my kk (k t))
  (match (match m t with
          |.nilm=>some []
          |.hmap id=>match g.get id with|.map es=>some es|_=>none
          |_=>none) with
   | some es=>match pZ (k t) es with
    |some (some v)=>.val (aA ok (.tup [v,.bool true]) v)
    |some none=>.val (aA ok (.tup [zero,.bool false]) zero)
    |none=>.fail
   |none=>.fail) .fail
def ck(kk:KeyKind)(m k x:T->AV):SFn:=λt g =>
 aA (my kk (k t))
  (match m t with
   | .hmap id=>match g.get id with
    | .map es=>match Gk (k t) (x t) es with
     |some es'=>.upd .undef (g.put id (.map es'))
     |none=>.fail
    |_=>.fail
   |_=>.fail) .fail
def jz(k:AV):Nat->List (AV×AV)->Option (Option (Nat×AV))
 |_,[]=>some none
 | i,(k',v)::es=>match lE k k' with
  |some true=>some (some (i,v))
  |some false=>jz k (Nat.succ i) es
  |none=>none
def fZ(kk:KeyKind)(zero:AV)(m k:T->AV):SFn:=λt g =>
 aA (my kk (k t))
  (match m t with
   | .hmap id=>match g.get id with
    | .map es=>match jz (k t) 0 es with
     |some (some (i,v))=>.val (.tup [v,.int .i64 (.ofNat i)])
     |some none=>.upd (.tup [zero,.int .i64 (.ofNat (bL es))]) (g.put id (.map (es++[(k t,zero)])))
     |none=>.fail
    |_=>.fail
   |_=>.fail) .fail
def ip(m st x:T->AV):SFn:=λt g =>
 match m t with
 | .hmap id=>match g.get id with
  | .map es=>match st t with
   | .int _ (.ofNat i)=>match AR i es with
    |some (k,_)=>.upd .undef (g.put id (.map (Gn i (k,x t) es)))
    |none=>.fail
   |_=>.fail
  |_=>.fail
 |_=>.fail
def z6(sz:Nat)(zero:List AV)(x:AV)(g:G):OR :=
 match x with
 |.nils|.esl=>.val .undef
 |.tsl _ _ []=>.val .undef
 | .hsl id ep off len _=>match len with
  |0=>.val .undef
  | _=>match g.get id with
   | .cells sz' rows ep' loose fz =>
    aA (Nat.beq ep ep'&&Nat.beq sz sz'&&Nat.ble (off+len) (bL rows)&&jF fz)
     (.upd .undef (g.put id (.cells sz (gX rows off (ie len zero)) ep loose fz))) .fail
   |_=>.fail
 |_=>.fail
inductive LenKind where
 |slice|array (n:Nat)|map|str|other
def mH(P:Program)(t:TypeId):LenKind :=
 match P.underlying t with
 |some (.slice _)=>.slice
 |some (.array n _)=>.array n
 |some (.map _ _)=>.map
 |some .string=>.str
 |_=>.other
def dm(k:LenKind)(x:AV)(g:G):OR :=
 match k with
 | .slice=>match x with
  |.nils|.esl=>.val (.int .i64 0)
  |.tsl _ _ rows=>.val (.int .i64 (.ofNat (bL rows)))
  |.hsl _ _ _ n _=>.val (.int .i64 (.ofNat n))
  |_=>.fail
 |.array n=>.val (.int .i64 (.ofNat n))
 | .map=>match x with
  |.nilm=>.val (.int .i64 0)
  |.hmap id=>match g.get id with|.map es=>.val (.int .i64 (.ofNat (bL es)))|_=>.fail
  |_=>.fail
 |.str=>match x with|.str s=>.val (.int .i64 (.ofNat s.size))|_=>.fail
 |.other=>.fail
def ET(x:AV)(g:G):OR :=
 match x with
 |.nils|.esl=>.val (.int .i64 0)
 | .hsl id ep off _ lim=>match g.get id with
  |.cells _ rows ep' loose _=>aA (Nat.beq ep ep'&&(lim.isSome || jF loose)) (.val (.int .i64 (.ofNat (lim.getD (bL rows - off))))) .fail
  |_=>.fail
 |_=>.fail
def dt(C:Cfg)(b:Builtin)(argTypes:Array TypeId)(args:List Operand):Option (Stg SFn) :=
 match b,args with
 | .len,[x]=>match argTypes[0]?,aW C x with
  |some t,some a=>some ⟨λs g=>dm (mH C.P t) (a.run s) g⟩
  |_,_=>none
 | .append,[a,x]=>match argTypes[0]?,argTypes[1]?,aW C a,aW C x with
  | some t,some xt,some av,some xv=>match l9 C.P t,C.P.underlying xt with
   | some e,some (.slice _)=>match szT C.P e,jQ C.P e,fS C.P e with
    |some sz,some bytes,some zero=>aA (Nat.beq (bL zero) sz&&Nat.blt 0 sz&&Nat.blt 0 bytes) (some ⟨λs g=>cC sz bytes (av.run s) (xv.run s) g⟩) none
    |_,_,_=>none
   | some e,some (.int _)=>match szT C.P e,jQ C.P e,fS C.P e with
    |some sz,some bytes,some zero=>aA (Nat.beq (bL zero) sz&&Nat.blt 0 sz&&Nat.blt 0 bytes) (some ⟨λs g=>mB sz bytes zero (av.run s) (xv.run s) g⟩) none
    |_,_,_=>none
   |_,_=>none
  |_,_,_,_=>none
 | .copy,[a,x]=>match argTypes[0]?,aW C a,aW C x with
  | some t,some av,some xv=>match l9 C.P t with
   | some e=>match szT C.P e with
    |some sz=>some ⟨λs g=>yx sz (av.run s) (xv.run s) g⟩
    |none=>none
   |none=>none
  |_,_,_=>none
 | .cap,[x]=>match argTypes[0]?,aW C x with
  | some t,some a=>match l9 C.P t with
   |some _=>some ⟨λs g=>ET (a.run s) g⟩
   |none=>none
  |_,_=>none
 | .clear,[x]=>match argTypes[0]?,aW C x with
  | some t,some a=>match l9 C.P t with
   | some e=>match szT C.P e,fS C.P e with
    |some sz,some zero=>aA (Nat.beq (bL zero) sz&&Nat.blt 0 sz) (some ⟨λs g=>z6 sz zero (a.run s) g⟩) none
    |_,_=>none
   |none=>none
  |_,_=>none
 | .max,[x,y]=>match aW C x,aW C y with
  | some a,some b=>some ⟨λs _=>match a.run s with
   | .int k m=>match b.run s with
    |.int k' n=>aA (cZ k k') (.val (.int k (aA (zi m n) n m))) .fail
    |_=>.fail
   |_=>.fail⟩
  |_,_=>none
 | .min,[x,y]=>match aW C x,aW C y with
  | some a,some b=>some ⟨λs _=>match a.run s with
   | .int k m=>match b.run s with
    |.int k' n=>aA (cZ k k') (.val (.int k (aA (zi n m) n m))) .fail
    |_=>.fail
   |_=>.fail⟩
  |_,_=>none
 |_,_=>none
def gQ{α:Type}(f:α->Option Nat):List α->Option Nat
 |[]=>some 0
 | v::vs=>match f v with
  | some a=>match gQ f vs with
   |some b=>some (Nat.max a b)
   |none=>none
  |none=>none
def eS:Nat->AV->Option Nat
 |0,_=>none
 | f+1,v=>match v with
  |.tsl l _ _=>some l
  |.tptr l _ _ _ _=>some l
  |.agg cs=>gQ (eS f) cs
  |.tup cs=>gQ (eS f) cs
  |.clo _ a c=>gQ (eS f) (a++c)
  |.ifc _ v=>eS f v
  |.hsl ..|.hptr ..|.hmap _|.yld _=>none
  |_=>some 0
def aD:Nat:=24
def fq(rows:List (List AV)):Option Nat:=gQ (gQ (eS aD)) rows
def qp(sz:Nat):Nat->List AV->List (List AV)
 |0,_=>[]
 |n+1,cs=>jO sz cs::qp sz n (i_ sz cs)
def iS(n sz:Nat)(a:T->AV)(lo hi:T->Option AV):SFn:=λt g =>
 match bF n n (hi t) with
 |none=>.fail
 | some h=>match bF 0 h (lo t) with
  |none=>.fail
  | some l=>match a t with
   | .tptr tag _ rows i off=>match AR i rows with
    |some row=>aA (Nat.ble (off+n*sz) (bL row)) (.val (.tsl tag sz (qp sz (h - l) (i_ (off+l*sz) row)))) .fail
    |none=>.fail
   | .hptr id ep i off=>match g.get id with
    | .cells sz' rows ep' loose _=>aA (Nat.beq ep ep') (match AR i rows with
     | some row=>aA (Nat.ble (off+n*sz) (bL row))
      ((λrs=>match fq rs with
        |some m=>.upd (.tsl m sz rs) (g.put id (.cells sz' rows ep' loose true))
        |none=>.fail) (qp sz (h - l) (i_ (off+l*sz) row))) .fail
     |none=>.fail) .fail
    |_=>.fail
   |_=>.fail
def cx(C:Cfg):Op->Option (Stg SFn)
 |.move x|.assign x=>match aW C x with|some a=>some ⟨λt _=>.val (a.run t)⟩|none=>none
 | .pick c a b=>match aW C c,aW C a,aW C b with
  |some c,some a,some b=>some ⟨λt _=>match c.run t with|.bool q=>aA q (.val (a.run t)) (.val (b.run t))|_=>.fail⟩
  |_,_,_=>none
 | .alloc ty=>match fS C.P ty with
  |some cs=>some ⟨Dr cs⟩
  |none=>none
 | .box _ x=>match aW C x with
  |some a=>some ⟨Ln a.run⟩
  |none=>none
 | .build ty parts=>match fS C.P ty,cg C (parts.toList.map (·.2)) with
  | some zero,some vs =>
   match C.P.underlying ty with
   | some (.struct fs)=>match aK (λf:Field=>match szT C.P f.type with| some n=>some (f.offset,n)| none=>none) fs.toList with
    | some places=>match aK (λi=>places[i]?) (parts.toList.map (·.1)) with
     |some pl=>some ⟨oO zero pl vs.run⟩
     |none=>none
    |none=>none
   | some (.array _ e)=>match szT C.P e with
    |some n=>some ⟨oO zero ((parts.toList.map (·.1)).map λi=>(i*n,n)) vs.run⟩
    |none=>none
   |_=>none
  |_,_=>none
 | .buildSlice ty len parts=>match l9 C.P ty,cg C (parts.toList.map (·.2)) with
  | some e,some vs=>match szT C.P e,fS C.P e with
   | some sz,some zero=>aA (Nat.beq (bL zero) sz&&Nat.blt 0 sz&&Nat.ble (len*sz) 1048576)
    (some ⟨il sz len (ie len zero) (parts.toList.map (·.1)) vs.run⟩) none
   |_,_=>none
  |_,_=>none
 | .load ty a=>match aW C a,rT C.P ty,szT C.P ty with
  |some a,some ag,some n=>some ⟨mz ag n a.run⟩
  |_,_,_=>none
 | .store ty a x=>match aW C a,aW C x,szT C.P ty with
  |some a,some x,some n=>some ⟨pw n a.run x.run⟩
  |_,_,_=>none
 | .nilCheck x=>match aW C x with
  | some a=>some ⟨λt _=>match a.run t with
   |.tptr l sz rows i off=>.val (.tptr l sz rows i off)
   |.hptr id ep i off=>.val (.hptr id ep i off)
   |.clo f a c=>.val (.clo f a c)
   |.yld id=>.val (.yld id)
   |_=>.fail⟩
  |none=>none
 | .binOp op ty x y _=>match aW C x,aW C y with
  |some a,some b=>some ⟨λt _=>(zJ C.P op ty).run (a.run t) (b.run t)⟩
  |_,_=>none
 | .unOp op _ x=>match aW C x with
  |some a=>some ⟨λt _=>(unA op).run (a.run t)⟩
  |none=>none
 | .convert src dst x=>match aW C x,C.P.underlying src,C.P.underlying dst with
  |some a,some _,some (.int k)=>some ⟨λt _=>match a.run t with|.int _ n=>.val (.int k (tW k n))|_=>.fail⟩
  |_,_,_=>none
 | .makeInterface ty x=>match aW C x,C.P.underlying ty with
  |some _,some (.interface _)=>none
  |some a,some _=>some ⟨λt _=>.val (.ifc ty (a.run t))⟩
  |_,_=>none
 | .makeFunc (.func f) first captured=>match cg C first.toList,cg C captured.toList with
  |some a,some c=>some ⟨λt _=>.val (.clo f (a.run t) (c.run t))⟩
  |_,_=>none
 | .makeMap ty none=>match C.P.underlying ty with
  |some (.map _ _)=>some ⟨λ_ g=>.upd (.hmap g.nx) (g.new (.map []))⟩
  |_=>none
 | .makeSlice ty l c=>match l9 C.P ty,aW C l,aW C c with
  | some e,some l,some c=>match szT C.P e,jQ C.P e,fS C.P e with
   |some sz,some bytes,some zero=>aA (Nat.beq (bL zero) sz&&Nat.blt 0 sz) (some ⟨ic sz bytes zero l.run c.run⟩) none
   |_,_,_=>none
  |_,_,_=>none
 | .slice ty x lo hi none=>match C.P.underlying ty,aW C x,cg C lo.toList,cg C hi.toList with
  | some (.slice e),some x,some l,some h=>match szT C.P e with
   |some sz=>some ⟨λt g=>orV (nR sz (x.run t) (l.run t).head? (h.run t).head? none g.h)⟩
   |none=>none
  | some (.array n e),some x,some l,some h=>match szT C.P e with
   |some (sz+1)=>some ⟨iS n (sz+1) x.run (λt=>(l.run t).head?) (λt=>(h.run t).head?)⟩
   |_=>none
  |_,_,_,_=>none
 | .slice ty x lo (some hi) (some mx)=>match l9 C.P ty,aW C x,cg C lo.toList,aW C hi,aW C mx with
  | some e,some x,some l,some h,some m=>match szT C.P e with
   |some sz=>some ⟨λt g=>orV (nR sz (x.run t) (l.run t).head? (some (h.run t)) (some (m.run t)) g.h)⟩
   |none=>none
  |_,_,_,_,_=>none
 | .fieldAddr ty x f=>match aW C x,tj C.P ty f with
  | some a,some (fo,ft)=>match szT C.P ft with
   |some (_+1)=>some ⟨kh fo a.run⟩
   |_=>none
  |_,_=>none
 | .field ty x f=>match aW C x,tj C.P ty f with
  | some a,some (fo,ft)=>match rT C.P ft,szT C.P ft with
   |some ag,some n=>some ⟨λt _=>match a.run t with|.agg cs=>orV (ch ag n cs fo)|_=>.fail⟩
   |_,_=>none
  |_,_=>none
 | .indexAddr ty x ix=>match aW C x,aW C ix with
  | some a,some i=>match C.P.underlying ty with
   | some (.slice e)=>match szT C.P e with
    |some sz=>some ⟨gN sz a.run i.run⟩
    |none=>none
   | some (.array n e)=>match szT C.P e with
    |some sz=>some ⟨nH n sz a.run i.run⟩
    |none=>none
   |_=>none
  |_,_=>none
 | .index ty x ix=>match aW C x,aW C ix with
  | some a,some i=>match C.P.underlying ty with
   | some (.array n e)=>match rT C.P e,szT C.P e with
    |some ag,some sz=>some ⟨vL ag n sz a.run i.run⟩
    |_,_=>none
   |some .string=>some ⟨qb a.run i.run⟩
   |_=>none
  |_,_=>none
 | .lookup ty x k ok=>match aW C x,aW C k,C.P.underlying ty with
  | some m,some k,some (.map kt et)=>match uX C.P et with
   |some z=>some ⟨cp (dg C.P kt) z ok m.run k.run⟩
   |none=>none
  |_,_,_=>none
 | .mapUpdate ty m k x| .insert ty m k x=>match aW C m,aW C k,aW C x,C.P.underlying ty with
  |some m,some k,some x,some (.map kt _)=>some ⟨ck (dg C.P kt) m.run k.run x.run⟩
  |_,_,_,_=>none
 | .mapEntry ty m k=>match aW C m,aW C k,C.P.underlying ty with
  | some m,some k,some (.map kt et)=>match uX C.P et with
   |some z=>some ⟨fZ (dg C.P kt) z m.run k.run⟩
   |none=>none
  |_,_,_=>none
 | .entryStore _ m st x=>match aW C m,aW C st,aW C x with
  |some m,some st,some x=>some ⟨ip m.run st.run x.run⟩
  |_,_,_=>none
 | .extract x i=>match aW C x with
  |some a=>some ⟨λt _=>match a.run t with|.tup vs=>orV (AR i vs)|_=>.fail⟩
  |none=>none
 |.call { callee:=.builtin b,args,argTypes }=>dt C b argTypes args.toList
 |_=>none
def snap(h:H)(tag:Nat):Nat->AV->Option AV
 |0,_=>none
 | f+1,v=>match v with
  |.agg cs=>match aK (snap h tag f) cs with|some as=>some (.agg as)|none=>none
  |.tup cs=>match aK (snap h tag f) cs with|some as=>some (.tup as)|none=>none
  | .clo g a c=>match aK (snap h tag f) a,aK (snap h tag f) c with
   |some as,some cs=>some (.clo g as cs)
   |_,_=>none
  |.ifc t x=>match snap h tag f x with|some a=>some (.ifc t a)|none=>none
  | .hsl id ep off len _=>match h.get id with
   | .cells sz rows ep' _ _=>aA (Nat.beq ep ep'&&Nat.ble (off+len) (bL rows))
    (match aK (aK (snap h tag f)) (jO len (i_ off rows)) with
     | some rs=>match fq rs with
      |some m=>some (.tsl (Nat.max tag m) sz rs)
      |none=>none
     |none=>none) none
   |_=>none
  | .hptr id ep i off=>match h.get id with
   | .cells sz rows ep' _ _=>aA (Nat.beq ep ep')
    (match aK (aK (snap h tag f)) rows with
     | some rs=>match fq rs with
      |some m=>some (.tptr (Nat.max tag m) sz rs i off)
      |none=>none
     |none=>none) none
   |_=>none
  |.hmap _=>none
  |.yld _=>none
  |v=>some v
def aC(h:H):Nat->AV->List Nat
 |0,_=>[]
 | f+1,v=>match v with
  |.agg cs=>cs.flatMap (aC h f)
  |.tup cs=>cs.flatMap (aC h f)
  |.clo _ a c=>a.flatMap (aC h f)++c.flatMap (aC h f)
  |.ifc _ x=>aC h f x
  | .hsl id _ off len _=>id::(match h.get id with
   |.cells _ rows _ _ _=>(jO len (i_ off rows)).flatMap (·.flatMap (aC h f))
   |_=>[])
  | .hptr id _ _ _=>id::(match h.get id with
   |.cells _ rows _ _ _=>rows.flatMap (·.flatMap (aC h f))
   |_=>[])
  |.hmap id=>[id]
  |_=>[]
def dI(d:Nat):Nat->AV->Option AV
 |0,_=>none
 | f+1,v=>match v with
  | .tsl t sz rows=>aA (Nat.beq t d) (match aK (aK (dI d f)) rows with
   | some rs=>match fq rs with
    |some m=>some (.tsl m sz rs)
    |none=>none
   |none=>none) (some v)
  | .tptr t sz rows i off=>aA (Nat.beq t d) (match aK (aK (dI d f)) rows with
   | some rs=>match fq rs with
    |some m=>some (.tptr m sz rs i off)
    |none=>none
   |none=>none) (some v)
  |.agg cs=>match aK (dI d f) cs with|some as=>some (.agg as)|none=>none
  |.tup cs=>match aK (dI d f) cs with|some as=>some (.tup as)|none=>none
  | .clo g a c=>match aK (dI d f) a,aK (dI d f) c with
   |some as,some cs=>some (.clo g as cs)
   |_,_=>none
  |.ifc t x=>match dI d f x with|some a=>some (.ifc t a)|none=>none
  |v=>some v
def cE(g:G):List Nat->G
 |[]=>g
 | i::is=>match g.get i with
  |.cells sz rows ep loose _=>cE (g.put i (.cells sz rows ep loose true)) is
  |_=>cE g is
def am(ih:IH)(d:Nat)(g:G)(f:Nat)(args:List AV):OR :=
 match aK (snap g.h d aD) args with
 |none=>.fail
 | some as=>match ih.call (Nat.succ d) f as G.empty with
  |.fail=>.fail
  | .ok r g'=>match snap g'.h 0 aD r with
   |none=>.fail
   | some r'=>match eS aD r' with
    |none=>.fail
    | some m=>aA (Nat.blt m d) (.val r')
     (match dI d aD r' with
      |none=>.fail
      | some r''=>match eS aD r'' with
       |none=>.fail
       |some m'=>aA (Nat.blt m' d) (.upd r'' (cE g (args.flatMap (aC g.h aD)))) .fail)
def cV:T->Nat->List Nat->List AV->Option T
 |t,_,[],[]=>some t
 |t,nt,p::ps,v::vs=>aA (Nat.blt p nt) (cV ((sp AV.undef p).run t v) nt ps vs) none
 |_,_,_,_=>none
def cz(ih:IH)(d:Nat)(id:Nat)(args:List AV)(g:G):OR :=
 match g.get id with
 | .loop nt t ps assign body _ _ _=>match cV t nt ps args with
  |none=>.fail
  | some t'=>match ih.code nt d (some id) assign t' [] g with
   | .ok .norm t1 [] g1=>match g1.get id with
    | .loop nt1 t ps assign1 body1 dfr .ready pend =>
     match ih.code nt d (some id) body t1 [] (g1.put id (.loop nt1 t ps assign1 body1 dfr .busy pend)) with
     | .ok e _ [] g2=>match g2.get id with
      | .loop nt t ps assign body dfr _ _=>match e with
       |.norm=>.upd (.bool true) (g2.put id (.loop nt t ps assign body dfr .ready none))
       |.exit j=>.upd (.bool false) (g2.put id (.loop nt t ps assign body dfr .done (some (.exit j))))
       |.ret=>.upd (.bool false) (g2.put id (.loop nt t ps assign body dfr .done (some .ret)))
      |_=>.fail
     |_=>.fail
    |_=>.fail
   |_=>.fail
 |_=>.fail
def orF:FR->OR
 |.ok v g=>.upd v g
 |.fail=>.fail
def io(C:Cfg)(ih:IH)(d:Nat)(fv:AV)(vs:List AV)(g:G):OR :=
 match fv with
 | .clo f first cap=>match C.ext f with
  |some e=>e d (first++(vs++cap)) g
  |none=>aA (C.iso f) (am ih d g f (first++(vs++cap))) (orF (ih.call d f (first++(vs++cap)) g))
 |.yld id=>cz ih d id vs g
 |_=>.fail
def cOp(C:Cfg):Op->Option (Stg Ld)
 | .call { callee:=.value (.func f),args,.. }=>match cg C args.toList with
  | some vs=>match C.ext f with
   |some e=>some ⟨λ_ d _ t g=>e d (vs.run t) g⟩
   |none=>aA (C.iso f) (some ⟨λih d _ t g=>am ih d g f (vs.run t)⟩) (some ⟨λih d _ t g=>orF (ih.call d f (vs.run t) g)⟩)
  |none=>none
 | .call { callee:=.value fo,args,.. }=>match aW C fo,cg C args.toList with
  |some fv,some vs=>some ⟨λih d _ t g=>io C ih d (fv.run t) (vs.run t) g⟩
  |_,_=>none
 |.call { callee:=.builtin .recover,.. }=>some ⟨λ_ _ _ _ _=>.val .nili⟩
 | .defer { callee:=.value fo,args,.. }=>match aW C fo,cg C args.toList with
  | some fv,some vs=>some ⟨λ_ _ rd t _=>match rd with
   |some _=>.fail
   | none=>match fv.run t with
    |.clo f first cap=>.dfr (.call (.clo f [] cap) (first++vs.run t))
    |_=>.fail⟩
  |_,_=>none
 | op=>match cx C op with
  |some s=>some ⟨λ_ _ _ t g=>s.run t g⟩
  |none=>none
def cB(C:Cfg)(op:Op):Stg Ld :=
 match cOp C op with
 |some f=>f
 |none=>⟨λ_ _ _ _ _=>.fail⟩
structure Looks where
 rd:List Nat
 sr:List (Nat×Nat)
 soft:List (Nat×Nat)
 big:Bool
def ak:AV->List Nat
 |.hptr id _ _ _=>[id]
 |.hsl id _ _ _ _=>[id]
 |.hmap id=>[id]
 |_=>[]
def xf:AV->List Nat
 |.hmap id=>[id]
 |_=>[]
def ud:AV->List Nat
 |.hsl id _ _ (_+1) _=>[id]
 |_=>[]
def mA(C:Cfg)(b:Builtin)(argTypes:Array TypeId):AV->List Nat :=
 match b with
 | .len=>match argTypes[0]? with
  | some t=>match mH C.P t with
   |.map=>xf
   |_=>λ_=>[]
  |none=>λ_=>[]
 |.clear=>ud
 |_=>ak
def aw:Looks:=⟨[],[],[],false⟩
def bf:Looks:=⟨[],[],[],true⟩
def ae(l:List Nat):Looks:=⟨l,[],[],false⟩
def aP(C:Cfg)(op:Op):Stg (T->G->Looks) :=
 match op with
 | .load _ a| .store _ a _| .slice _ a _ _ _| .lookup _ a _ true| .mapUpdate _ a _ _| .insert _ a _ _| .entryStore _ a _ _=>match aW C a with
  |some a=>⟨λt _=>ae (ak (a.run t))⟩
  |none=>⟨λ_ _=>bf⟩
 | .lookup ty a _ false=>match aW C a with
  |some a=>⟨λt _=>⟨[],(ak (a.run t)).map (·,ty),[],false⟩⟩
  |none=>⟨λ_ _=>bf⟩
 | .mapEntry ty a _=>match aW C a with
  |some a=>⟨λt _=>⟨ak (a.run t),[],(ak (a.run t)).map (·,ty),false⟩⟩
  |none=>⟨λ_ _=>bf⟩
 | .indexAddr ty a _=>match C.P.underlying ty,aW C a with
  |some (.slice _),some a=>⟨λt _=>ae (ak (a.run t))⟩
  |_,_=>⟨λ_ _=>aw⟩
 | .call { callee:=.builtin b,args,argTypes }=>match cg C args.toList with
  |some vs=>⟨λt _=>ae ((vs.run t).flatMap (mA C b argTypes))⟩
  |none=>⟨λ_ _=>bf⟩
 | .call { callee:=.value fo,args,.. }=>match aW C fo,cg C args.toList with
  | some fv,some vs=>⟨λt g=>match fv.run t with
   |.clo f first cap=>aA ((C.ext f).isSome || C.iso f) (ae ((first++(vs.run t++cap)).flatMap (aC g.h aD))) bf
   |_=>bf⟩
  |_,_=>⟨λ_ _=>bf⟩
 |.defer _=>⟨λ_ _=>bf⟩
 |_=>⟨λ_ _=>aw⟩
structure Foot where
 lk:Looks
 wr:List Nat
abbrev RFn:=IH->Nat->Option Nat->T->List ADf->G->CR
def vQ(nt:Nat):Option Nat->Option (Stg (T->AV->T))
 |none=>some ⟨λt _=>t⟩
 |some d=>aA (Nat.blt d nt) (some (sp AV.undef d)) none
def jR(ops:List Oper):Option (Nat×Bool)->Option (Stg (T->Option Bool))
 |none=>some ⟨λ_=>some true⟩
 | some (j,want)=>match ops[j]? with
  | some oj=>match oj.dst with
   | some d=>some ⟨λt=>match (gp AV.undef d).run t with
    |.bool b=>some (aA want b (jF b))
    |.tup _=>some false
    |_=>none⟩
   |none=>none
  |none=>none
def px(out:T->AV->T)(next:T->List ADf->G->CR)(t:T)(df:List ADf)(g:G):OR->CR
 |.fail=>.fail
 |.val v=>next (out t v) df g
 |.upd v g'=>next (out t v) df g'
 |.dfr a=>next (out t .undef) (a::df) g
def CC:Stg RFn:=⟨λ_ _ _ _ _ _=>.fail⟩
def jS(C:Cfg)(nt:Nat)(all:List Oper):List Oper->Stg RFn
 |[]=>⟨λ_ _ _ t df g=>.ok .norm t df g⟩
 | o::rest=>match vQ nt o.dst with
  | some out=>match o.guard with
   |none=>⟨λih d rd t df g=>px out.run ((jS C nt all rest).run ih d rd) t df g ((cB C o.op).run ih d rd t g)⟩
   | some gd=>match jR all (some gd) with
    | some q=>⟨λih d rd t df g=>match q.run t with
     |some true=>px out.run ((jS C nt all rest).run ih d rd) t df g ((cB C o.op).run ih d rd t g)
     |some false=>(jS C nt all rest).run ih d rd (out.run t .undef) df g
     |none=>.fail⟩
    |none=>CC
  |none=>CC
def bJ:List Oper->List Nat->List Nat
 |[],acc=>acc
 | o::rest,acc =>
  bJ rest (acc++[o.after.toList.foldl (λm e=>aA (Region.binds .any e) (m ||| 2 ^ e.on ||| acc.getD e.on 0) m) 0])
def ui(ops:List Oper)(o:Oper):List Nat :=
 (o.op.operands.toList.filterMap fun|.tmp t=>some t|_=>none) ++
 (match o.guard with
  |some (g,_)=>match ops[g]? with|some og=>og.dst.toList|none=>[]
  |none=>[])
def kH(ops:List Oper)(x y:Oper):Bool :=
 (match x.dst with|some d=>!(ui ops y).contains d&&y.dst != some d|none=>true) &&
 (match y.dst with|some d=>!(ui ops x).contains d|none=>true)
def meets(a b:List Nat):Bool:=a.any λx=>b.contains x
def fst1(l:List (Nat×Nat)):List Nat:=l.map (·.1)
def Eb(p:Nat×Nat):List (Nat×Nat)->Bool
 |[]=>false
 |q::r=>aA (Nat.beq p.1 q.1&&Nat.beq p.2 q.2) true (Eb p r)
def fI(x y:Foot):Bool :=
 match x.wr with
 |[]=>true
 |_=>!y.lk.big&&!meets x.wr y.wr&&!meets x.wr y.lk.rd&&!meets x.wr (fst1 y.lk.sr)
def d_(x y:Foot):Bool :=
 match x.wr with
 |[]=>true
 |_=>!y.lk.big&&!meets x.wr y.wr&&!meets x.wr y.lk.rd&&(!meets x.wr (fst1 y.lk.sr) || y.lk.sr.all λp=>Eb p x.lk.soft)
def bE(x y:Foot):Bool:=fI x y&&d_ y x
def cH(pm:List Nat)(i:Nat)(x:Foot):Nat->List Foot->Nat
 |_,[]=>0
 |j,y::r=>aA ((pm.getD j 0).testBit i || !meets y.wr (fst1 x.lk.sr)) (cH pm i x (Nat.succ j) r) (Nat.succ (cH pm i x (Nat.succ j) r))
def lK(pm:List Nat):Nat->List Foot->Bool
 |_,[]=>true
 |i,x::r=>aA (match x.lk.sr with|[]=>true|_=>Nat.ble (cH pm i x (Nat.succ i) r) 1) (lK pm (Nat.succ i) r) false
def fU{α:Type}(f:Nat->α->Nat->α->Bool)(i:Nat)(x:α):Nat->List α->Bool
 |_,[]=>true
 |j,y::r=>f i x j y&&fU f i x (j+1) r
def kX{α:Type}(f:Nat->α->Nat->α->Bool):Nat->List α->Bool
 |_,[]=>true
 |i,x::rest=>fU f i x (i+1) rest&&kX f (i+1) rest
def pH:Nat->List Oper->Bool
 |_,[]=>true
 |i,o::r=>(o.after.toList.all λe=>!Region.binds .any e || Nat.blt e.on i)&&pH (i+1) r
def nG(pm:List Nat):Nat->List Oper->Bool
 |_,[]=>true
 |i,o::r=>(match o.guard with|none=>true|some (j,_)=>(pm.getD i 0).testBit j)&&nG pm (i+1) r
def D_(ops:List Oper):Bool :=
 let pm:=bJ ops []
 pH 0 ops&&nG pm 0 ops&&kX (λi x j y=>(pm.getD j 0).testBit i || kH ops x y) 0 ops
def mE(pm:List Nat)(fs:List Foot):Bool :=
 aA (kX (λi x j y=>(pm.getD j 0).testBit i || bE x y) 0 fs) (lK pm 0 fs) false
def zu(C:Cfg):Op->Bool
 |.alloc _|.box ..|.buildSlice ..|.store ..|.makeSlice ..|.makeMap ..|.mapUpdate ..|.insert ..|.mapEntry ..|.entryStore ..|.defer _=>false
 |.call { callee:=.builtin .append,.. }|.call { callee:=.builtin .copy,.. }|.call { callee:=.builtin .clear,.. }=>false
 |.slice ty _ _ _ _=>match C.P.underlying ty with|some (.slice _)=>true|_=>false
 |.call { callee:=.value (.func f),.. }=>C.iso f
 |.call { callee:=.value _,.. }=>false
 |_=>true
abbrev QR:=IH->Nat->Option Nat->T->List ADf->G->List Foot->CR
def aO(g:G)(lg:List Nat):G:=@G.rec (λ_=>G) (λh nx _=>⟨h,nx,lg⟩) g
def im(g:G)(lg:List Nat):G:=@G.rec (λ_=>G) (λh nx _=>⟨h,Nat.succ nx,lg⟩) g
def lL(out:T->AV->T)(next:T->List ADf->G->List Foot->CR)(t:T)(df:List ADf)(g:G)(fs:List Foot)(lk:Looks):OR->CR
 |.fail=>.fail
 |.val v=>next (out t v) df (im g g.lg) (⟨lk,[]⟩::fs)
 |.upd v g'=>next (out t v) df (im g' (g'.lg++g.lg)) (⟨lk,g'.lg⟩::fs)
 |.dfr _=>.fail
def iX(C:Cfg)(nt:Nat)(pm:List Nat)(all:List Oper):Nat->List Oper->Stg QR
 |_,[]=>⟨λ_ _ _ t df g fs=>aA (mE pm fs.reverse) (.ok .norm t df g) .fail⟩
 | i,o::rest=>match vQ nt o.dst,jR all o.guard with
  | some out,some q=>⟨λih d rd t df g fs=>match q.run t with
     |some true=>lL out.run ((iX C nt pm all (i+1) rest).run ih d rd) t df g fs ((aP C o.op).run t g) ((cB C o.op).run ih d rd t (aO g []))
     |some false=>(iX C nt pm all (i+1) rest).run ih d rd (out.run t .undef) df g (⟨aw,[]⟩::fs)
     |none=>.fail⟩
  |_,_=>⟨λ_ _ _ _ _ _ _=>.fail⟩
def nM(g0:G):CR->CR
 |.ok e t df g=>match g.lg with|[]=>aA (Nat.beq g.nx g0.nx) (.ok e t df g0) .fail|_=>.fail
 |.fail=>.fail
def fV(C:Cfg)(nt:Nat)(ops:List Oper)(draw:Bool):Stg RFn :=
 aA draw
  (aA (D_ ops)
   (aA (ops.all λo=>zu C o.op)
    ⟨λih d rd t df g=>nM g ((jS C nt ops ops).run ih d rd t df (aO g []))⟩
    ⟨λih d rd t df g=>(iX C nt (bJ ops []) ops 0 ops).run ih d rd t df g []⟩) CC)
  (jS C nt ops ops)
def cM(ih:IH)(nt d:Nat)(rd:Option Nat)(id:Nat)(t:T)(df:List ADf)(g2:G):CR :=
 match g2.get id with
 | .loop nt' t' ps assign body dfr st pend=>match st with
  |.busy=>.fail
  | _=>match pend with
   |none=>.ok .norm t df (g2.put id (.loop nt' t' ps assign body dfr .exhausted pend))
   |some c=>ih.code nt d rd c t df (g2.put id (.loop nt' t' ps assign body dfr .exhausted pend))
 |_=>.fail
def co(C:Cfg)(ih:IH)(nt d:Nat)(rd:Option Nat)(fv:AV)(ps:List Nat)(assign body:Code)(t:T)(df:List ADf)(dfr:Nat)(g:G):CR :=
 match fv with
 | .clo f first cap=>aA (C.ext f).isSome .fail
  (match ih.call d f (first++(.yld g.nx::cap)) (g.new (.loop nt t ps assign body dfr .ready none)) with
  |.ok _ g2=>cM ih nt d rd g.nx t df g2
  |.fail=>.fail)
 |_=>.fail
def nN(C:Cfg)(nt:Nat)(fo:T->AV)(ps:List Nat)(assign body:Code):RFn:=λih d rd t df g =>
 match rd with
 | some l=>match g.get l with
  |.loop _ _ _ _ _ dfr _ _=>co C ih nt d rd (fo t) ps assign body t df dfr g
  |_=>.fail
 |none=>co C ih nt d rd (fo t) ps assign body t (.mark g.nx::df) g.nx (g.new (.dfr true))
def B_(k:T->List ADf->G->CR):CR->CR
 |.ok .norm t df g=>k t df g
 |r=>r
def u7(id:Nat):CR->CR
 |.ok (.exit j) t df g=>aA (Nat.beq j id) (.ok .norm t df g) (.ok (.exit j) t df g)
 |r=>r
def aX(C:Cfg)(nt:Nat):Code->Stg RFn
 |.skip=>⟨λ_ _ _ t df g=>.ok .norm t df g⟩
 |.label _=>⟨λ_ _ _ t df g=>.ok .norm t df g⟩
 |.region _ ops draw=>fV C nt ops.toList draw
 |.seq a b=>⟨λih d rd t df g=>B_ ((aX C nt b).run ih d rd) ((aX C nt a).run ih d rd t df g)⟩
 | .cond c a b=>match aW C c with
  | some q=>⟨λih d rd t df g=>match q.run t with
   |.bool v=>aA v ((aX C nt a).run ih d rd t df g) ((aX C nt b).run ih d rd t df g)
   |_=>.fail⟩
  |none=>CC
 |.block id body=>⟨λih d rd t df g=>u7 id ((aX C nt body).run ih d rd t df g)⟩
 |.loop body=>⟨λih d rd t df g=>B_ (λt df g=>ih.code nt d rd (.loop body) t df g) ((aX C nt body).run ih d rd t df g)⟩
 |.scope body=>aX C nt body
 |.exit id=>⟨λ_ _ _ t df g=>.ok (.exit id) t df g⟩
 |.ret=>⟨λ_ _ _ t df g=>.ok .ret t df g⟩
 | .rangeFunc f ps assign body=>match aW C f with
  |some a=>⟨nN C nt a.run ps.toList assign body⟩
  |none=>CC
 |_=>CC
def Ly(C:Cfg)(ih:IH)(nt d:Nat)(rd:Option Nat)(c:Code)(t:T)(df:List ADf)(g:G):CR :=
 (aX C nt c).run ih d rd t df g
def fp(ih:IH)(d:Nat):List ADf->G->Option G
 |[],g=>some g
 | .mark id::ds,g=>match g.get id with
  |.dfr true=>fp ih d ds (g.put id (.dfr false))
  |_=>none
 | .call (.clo f first cap) args::ds,g=>match ih.call d f (first++(args++cap)) g with
  |.ok _ g'=>fp ih d ds g'
  |.fail=>none
 |.call _ _::_,_=>none
def xA(C:Cfg):List ResultVar->Option (Stg (T->G->Option (List AV)))
 |[]=>some ⟨λ_ _=>some []⟩
 | .tmp n::rs=>match xA C rs with
  |some k=>some ⟨λt g=>match k.run t g with|some vs=>some ((gp AV.undef n).run t::vs)|none=>none⟩
  |none=>none
 | .cell a ty::rs=>match xA C rs,cx C (.load ty (.tmp a)) with
  | some k,some l=>some ⟨λt g=>match l.run t g with
   |.val v=>(match k.run t g with|some vs=>some (v::vs)|none=>none)
   |_=>none⟩
  |_,_=>none
def cy:Nat->List AV->T->T
 |_,[],t=>t
 |i,v::vs,t=>cy (i+1) vs ((sp AV.undef i).run t v)
def jB:List AV->AV
 |[v]=>v
 |vs=>.tup vs
def gW(ih:IH)(d:Nat)(res:T->G->Option (List AV))(t:T)(df:List ADf)(g:G):FR :=
 match fp ih d df g with
 |none=>.fail
 | some g'=>match res t g' with
  |some vs=>.ok (jB vs) g'
  |none=>.fail
def cFn(C:Cfg)(f:Nat):Option (Stg (IH->Nat->List AV->G->FR)) :=
 match C.P.funcs[f]? with
 |none=>none
 | some fn=>match fn.body with
  |none=>none
  | some c=>match xA C fn.results.toList with
   | some r => aA (fn.name == "runtime.NumGoroutine") none
    (some ⟨λih d args g=>aA (Nat.ble (bL args) fn.ntmps)
     (match (aX C fn.ntmps c).run ih d none (cy 0 args .nil) [] g with
      |.ok (.exit _) _ _ _=>.fail
      |.ok _ t df g'=>gW ih d r.run t df g'
      |.fail=>.fail) .fail⟩)
   |none=>none
def eP(C:Cfg)(ih:IH)(d f:Nat)(args:List AV)(g:G):FR :=
 match cFn C f with
 |some x=>x.run ih d args g
 |none=>.fail
def IH.zero:IH:=⟨λ_ _ _ _ _ _ _=>.fail,λ_ _ _ _=>.fail⟩
def HX(C:Cfg)(ih:IH):IH:=⟨Ly C ih,eP C ih⟩
def sem(C:Cfg)(n:Nat):IH:=@Nat.rec (λ_=>IH) IH.zero (λ_ ih=>HX C ih) n
end
end Hx
end
section
namespace Hx
open Go
@[simp] theorem bif'_true {α:Type} (x y:α):aA true x y=x:=rfl
@[simp] theorem bif'_false {α:Type} (x y:α):aA false x y=y:=rfl
theorem aa{α:Type}(b:Bool)(x y:α):aA b x y=if b=true then x else y:=by cases b<;>rfl
@[simp] theorem notb_eq (b:Bool):jF b = !b:=by cases b<;>rfl
theorem dB{α:Type}(n:Nat):∀l:List α,AR n l=l[n]?:=by
 induction n with
 |zero=>intro l;cases l<;>rfl
 | succ n ih=>intro l;cases l with
  |nil=>rfl
  |cons a t=>simp only[List.getElem?_cons_succ];exact ih t
theorem f8{α:Type}(n:Nat)(x:α):∀l:List α,Gn n x l=l.set n x:=by
 induction n with
 |zero=>intro l;cases l<;>rfl
 | succ n ih=>intro l;cases l with
  |nil=>rfl
  |cons a t=>simp only[VY];exact congrArg (a::·) (ih t)
theorem ax{α:Type}(l:List α):bL l=l.length:=by
 induction l with
 |nil=>rfl
 |cons a t ih=>exact congrArg Nat.succ ih
theorem bj{α:Type}(n:Nat):∀l:List α,i_ n l=l.drop n:=by
 induction n with
 |zero=>intro l;rfl
 | succ n ih=>intro l;cases l with
  |nil=>rfl
  |cons a t=>simp only[VQ];exact ih t
theorem a_{α:Type}(n:Nat):∀l:List α,jO n l=l.take n:=by
 induction n with
 |zero=>intro l;rfl
 | succ n ih=>intro l;cases l with
  |nil=>rfl
  |cons a t=>simp only[List.take_succ_cons];exact congrArg (a::·) (ih t)
section tr
variable {α:Type}(e:α)
theorem Oq:∀(f n:Nat) (t:Tr α),n<f->(gpF e f n).run t=t.get e n:=by
 intro f
 induction f with
 |zero=>omega
 | succ f ih =>
  intro n t h;cases n with
  |zero=>cases t<;>rfl
  | succ m =>
   have hm:m / 2<f:=by omega
   simp only[gpF];cases hb:Nat.beq (m % 2) 0
   ·cases t with
    |nil=>rfl
    |node v l r=>simp_all[Tr.get]
   ·cases t with
    |nil=>rfl
    |node v l r=>simp_all[Tr.get]
@[simp] theorem gp_run (n:Nat) (t:Tr α):(gp e n).run t=t.get e n:=Oq e (n+1) n t (by omega)
theorem Rd(n:Nat):(Tr.nil:Tr α).get e n=e:=by cases n<;>rfl
theorem O1:∀(f n:Nat) (t:Tr α) (x:α) (k:Nat),n<f->((spF e f n).run t x).get e k=if k=n then x else t.get e k:=by
 intro f
 induction f with
 |zero=>omega
 | succ f ih =>
  intro n t x k h;cases n with
  | zero=>cases t with
   | nil=>cases k with
    |zero=>rfl
    |succ k=>simp only[spF,Tr.get];cases Nat.beq (k % 2) 0<;>simp
   |node v l r=>cases k<;>simp[spF,Tr.get]
  | succ m =>
   have hm:m / 2<f:=by omega
   simp only[spF];cases hb:Nat.beq (m % 2) 0
   ·have hb':m % 2=1:=by
     grind[Nat.ne_of_beq_eq_false]
    cases t with
    | nil =>
     try simp only[bif'_false]
     cases k with
     |zero=>simp[Tr.get]
     | succ k =>
      simp only[Tr.get];cases hk:Nat.beq (k % 2) 0
      ·try simp only[bif'_false]
       rw[ih _ _ _ _ hm,Rd];have hk':k % 2=1:=by grind[Nat.ne_of_beq_eq_false]
       grind
      grind
    | node v l r =>
     try simp only[bif'_false]
     cases k with
     |zero=>simp[Tr.get]
     | succ k =>
      simp only[Tr.get];cases hk:Nat.beq (k % 2) 0
      ·try simp only[bif'_false]
       rw[ih _ _ _ _ hm];have hk':k % 2=1:=by grind[Nat.ne_of_beq_eq_false]
       grind
      grind
   ·have hb':m % 2=0:=UX hb;cases t with
    | nil =>
     try simp only[bif'_true]
     cases k with
     |zero=>simp[Tr.get]
     | succ k =>
      simp only[Tr.get];cases hk:Nat.beq (k % 2) 0
      ·grind
      ·try simp only[bif'_true]
       rw[ih _ _ _ _ hm,Rd];have hk':k % 2=0:=UX hk
       grind
    | node v l r =>
     try simp only[bif'_true]
     cases k with
     |zero=>simp[Tr.get]
     | succ k =>
      simp only[Tr.get];cases hk:Nat.beq (k % 2) 0
      ·grind
      ·try simp only[bif'_true]
       rw[ih _ _ _ _ hm];have hk':k % 2=0:=UX hk
       grind
@[simp] theorem sp_get (n:Nat) (t:Tr α) (x:α) (k:Nat):((sp e n).run t x).get e k=if k=n then x else t.get e k :=
 O1 e (n+1) n t x k (by omega)
end tr
theorem Q_(h:H)(i:Nat)(o:AObj)(k:Nat):(h.put i o).get k=if k=i then o else h.get k:=by simp[H.get,H.put]
@[simp] theorem G.get_eq (g:G) (i:Nat):g.get i=g.h.get i:=rfl
@[simp] theorem G.put_h (g:G) (i:Nat) (o:AObj):(g.put i o).h=g.h.put i o:=by cases g;rfl
@[simp] theorem G.put_nx (g:G) (i:Nat) (o:AObj):(g.put i o).nx=g.nx:=by cases g;rfl
@[simp] theorem G.put_lg (g:G) (i:Nat) (o:AObj):(g.put i o).lg=i::g.lg:=by cases g;rfl
@[simp] theorem G.new_h (g:G) (o:AObj):(g.new o).h=g.h.put g.nx o:=by cases g;rfl
@[simp] theorem G.new_nx (g:G) (o:AObj):(g.new o).nx=g.nx+1:=by cases g;rfl
@[simp] theorem G.new_lg (g:G) (o:AObj):(g.new o).lg=g.nx::g.lg:=by cases g;rfl
@[simp] theorem bumpG_h (g:G) (l:List Nat):(im g l).h=g.h:=by cases g;rfl
@[simp] theorem bumpG_nx (g:G) (l:List Nat):(im g l).nx=g.nx+1:=by cases g;rfl
@[simp] theorem bumpG_lg (g:G) (l:List Nat):(im g l).lg=l:=by cases g;rfl
@[simp] theorem setLog_h (g:G) (l:List Nat):(aO g l).h=g.h:=by cases g;rfl
@[simp] theorem setLog_nx (g:G) (l:List Nat):(aO g l).nx=g.nx:=by cases g;rfl
@[simp] theorem setLog_lg (g:G) (l:List Nat):(aO g l).lg=l:=by cases g;rfl
theorem nU(m:Nat)(h:m<9223372036854775808):IntKind.wrap .i64 (Int.ofNat m)=Int.ofNat m:=by
 have e:(Int.ofNat m) % (2 ^ 64:Int)=Int.ofNat m:=Int.emod_eq_of_lt (US m) (by grind);unfold IntKind.wrap;simp only[IntKind.bits,IntKind.signed,e,Up,TA]
 grind
theorem xq(z:Int)(h:-9223372036854775808<=z)(h0:z<0):IntKind.wrap .i64 z=z:=by
 have e:z % (2 ^ 64:Int)=z+2 ^ 64:=by omega
 unfold IntKind.wrap;simp only[IntKind.bits,IntKind.signed,e,Up,TA];omega
theorem yp(m:Nat)(h:m<9223372036854775808):IntKind.wrap .i64 (Int.negSucc m)=Int.negSucc m:=by
 grind[xq]
theorem gU(k:IntKind)(n:Int):tW k n=k.wrap n:=by
 unfold tW
 split
 ·rename_i m;rw[aa];split
  ·rename_i h;rw[UF]at h;exact (nU m h).symm
  ·rfl
 ·rename_i m;rw[aa];split
  ·rename_i h;rw[UF]at h;exact (yp m h).symm
  ·rfl
 ·simp only[IntKind.wrap,IntKind.bits,IntKind.signed];rfl
 ·simp only[IntKind.wrap,IntKind.bits,IntKind.signed];rfl
 ·rfl
theorem mG(a b:Int):zi a b=decide (a<b):=by rw[VH,decide_eq_true_iff];cases a<;>cases b<;>simp only[zi,UF,Int.negSucc_eq,Int.ofNat_eq_natCast,UR,false_iff,true_iff]<;>omega
theorem qF(a b:Int):Fu a b=decide (a=b):=by
 rw[VH,decide_eq_true_iff];cases a<;>cases b<;>simp only[Fu,Int.negSucc_eq,Int.ofNat_eq_natCast,UR,false_iff]
 all_goals grind[Nat.beq_eq]
theorem t7(a b:IntKind):cZ a b=decide (a=b):=by cases a<;>cases b<;>rfl
end Hx
end
section
namespace Hx
open Go
structure Gh where
 kind:Nat
 ep:Nat
 sz:Nat
 n:Nat
 blk:Nat
 base:Nat
 slack:Nat
 wr:Bool
abbrev Gm:=Nat->Gh
def Mut(γ:Gm)(b:Nat):Prop:=∃id,(γ id).kind≠0/\(γ id).wr=true/\(γ id).blk=b
def adr(b o:Nat):Addr:=⟨b,o,none⟩
def iV(lim:Option Nat)(off cap:Nat)(g:Gh):Prop :=
 match lim with
 |some c=>cap=c/\off+c<=g.n
 |none=>off+cap=g.n+g.slack
inductive Closed:AV->Prop
 |bool (b:Bool):Closed (.bool b)
 |int (k:IntKind) (n:Int):Closed (.int k n)
 |str (s:ByteArray):Closed (.str s)
 |tup (xs:List AV) (h:∀x∈xs,Closed x):Closed (.tup xs)
 |agg (xs:List AV) (h:∀x∈xs,Closed x):Closed (.agg xs)
 |nilp:Closed .nilp
 |nils:Closed .nils
 |nilf:Closed .nilf
 |nilm:Closed .nilm
 |nili:Closed .nili
 |esl:Closed .esl
 |tsl (tag sz:Nat) (rows:List (List AV)) (h:∀row∈rows,∀x∈row,Closed x):Closed (.tsl tag sz rows)
 |tptr (tag sz:Nat) (rows:List (List AV)) (i off:Nat) (h:∀row∈rows,∀x∈row,Closed x):Closed (.tptr tag sz rows i off)
 |clo (f:Nat) (xs ys:List AV) (h:∀x∈xs,Closed x) (h2:∀x∈ys,Closed x):Closed (.clo f xs ys)
 |ifc (t:Nat) (x:AV) (h:Closed x):Closed (.ifc t x)
inductive RV (w:World) (γ:Gm) (A:Nat->Nat->Prop):Nat->AV->Value->Prop
 |bool (bd:Nat) (b:Bool):RV w γ A bd (.bool b) (.bool b)
 |int (bd:Nat) (k:IntKind) (n:Int):RV w γ A bd (.int k n) (.int k n)
 |str (bd:Nat) (s:ByteArray):RV w γ A bd (.str s) (.string s)
 | tup (bd:Nat) (xs:List AV) (vs:Array Value) (hl:xs.length=vs.size)
   (h:∀(i:Nat) x v,xs[i]?=some x->vs[i]?=some v->RV w γ A bd x v):RV w γ A bd (.tup xs) (.tuple vs)
 | agg (bd:Nat) (xs:List AV) (vs:Array Value) (hl:xs.length=vs.size) (h1:∀(i:Nat) x,xs[i]?=some x->x.one=true)
   (h:∀(i:Nat) x v,xs[i]?=some x->vs[i]?=some v->RV w γ A bd x v):RV w γ A bd (.agg xs) (.agg vs)
 |nilp (bd:Nat):RV w γ A bd .nilp (.pointer none)
 |nils (bd:Nat):RV w γ A bd .nils (.slice none 0 0)
 |nilf (bd:Nat):RV w γ A bd .nilf .nilFunc
 |nilm (bd:Nat):RV w γ A bd .nilm (.map none)
 |nili (bd:Nat):RV w γ A bd .nili .nilIface
 |esl (bd:Nat) (a:Addr):RV w γ A bd .esl (.slice (some a) 0 0)
 | tsl (bd tag sz:Nat) (rows:List (List AV)) (b o cap:Nat) (cell:Nat->Nat->Value) (ht:tag<=bd) (hc:rows.length<=cap)
   (hb:b<w.heap.size) (hm:¬Mut γ b) (ha:¬A tag b)
   (hr:∀(i:Nat) row,rows[i]?=some row->row.length=sz)
   (ho:∀(i j:Nat) row x,rows[i]?=some row->row[j]?=some x->x.one=true)
   (hw:∀(i j:Nat) row x,rows[i]?=some row->row[j]?=some x->w.cell? (adr b (o+i*sz+j))=some (cell i j))
   (h:∀(i j:Nat) row x,rows[i]?=some row->row[j]?=some x->RV w γ A tag x (cell i j))
   (hcl:∀row∈rows,∀x∈row,Closed x) :
   RV w γ A bd (.tsl tag sz rows) (.slice (some (adr b o)) rows.length cap)
 |tnil (bd tag sz:Nat) (a:Addr) (cap:Nat) (ht:tag<=bd):RV w γ A bd (.tsl tag sz []) (.slice (some a) 0 cap)
 | tptr (bd tag sz:Nat) (rows:List (List AV)) (i0 off0 b o:Nat) (cell:Nat->Nat->Value) (ht:tag<=bd)
   (hb:b<w.heap.size) (hm:¬Mut γ b) (ha:¬A tag b)
   (hr:∀(i:Nat) row,rows[i]?=some row->row.length=sz)
   (ho:∀(i j:Nat) row x,rows[i]?=some row->row[j]?=some x->x.one=true)
   (hw:∀(i j:Nat) row x,rows[i]?=some row->row[j]?=some x->w.cell? (adr b (o+i*sz+j))=some (cell i j))
   (h:∀(i j:Nat) row x,rows[i]?=some row->row[j]?=some x->RV w γ A tag x (cell i j))
   (hcl:∀row∈rows,∀x∈row,Closed x) :
   RV w γ A bd (.tptr tag sz rows i0 off0) (.pointer (some (adr b (o+i0*sz+off0))))
 | hsl (bd id ep off len:Nat) (lim:Option Nat) (b o cap:Nat) (hk:(γ id).kind=1) (he:ep<=(γ id).ep) (hc:len<=cap)
   (h:ep=(γ id).ep->b=(γ id).blk/\o=(γ id).base+off*(γ id).sz/\iV lim off cap (γ id)) :
   RV w γ A bd (.hsl id ep off len lim) (.slice (some (adr b o)) len cap)
 | hptr (bd id ep i off:Nat) (b o:Nat) (hk:(γ id).kind=1) (he:ep<=(γ id).ep)
   (h:ep=(γ id).ep->b=(γ id).blk/\o=(γ id).base+i*(γ id).sz+off) :
   RV w γ A bd (.hptr id ep i off) (.pointer (some (adr b o)))
 | clo (bd f:Nat) (xs ys:List AV) (vs us:Array Value) (hl:xs.length=vs.size) (hl2:ys.length=us.size)
   (h:∀(i:Nat) x v,xs[i]?=some x->vs[i]?=some v->RV w γ A bd x v)
   (h2:∀(i:Nat) x v,ys[i]?=some x->us[i]?=some v->RV w γ A bd x v):RV w γ A bd (.clo f xs ys) (.func (.func f) vs us)
 |hmap (bd id b:Nat) (hk:(γ id).kind=2) (hb:b=(γ id).blk):RV w γ A bd (.hmap id) (.map (some b))
 |ifc (bd t:Nat) (x:AV) (v:Value) (h:RV w γ A bd x v):RV w γ A bd (.ifc t x) (.iface t v)
 |yld (bd id b:Nat) (hk:(γ id).kind=3) (hb:b=(γ id).blk):RV w γ A bd (.yld id) (.func (.yield b) #[] #[])
def RVs(w:World)(γ:Gm)(A:Nat->Nat->Prop)(bd:Nat)(xs:List AV)(vs:List Value):Prop :=
 xs.length=vs.length/\∀(i:Nat) x v,xs[i]?=some x->vs[i]?=some v->RV w γ A bd x v
theorem RV.mono{w:World}{γ:Gm}{A:Nat->Nat->Prop}{bd bd':Nat}{x:AV}{v:Value}(h:RV w γ A bd x v)(hb:bd<=bd') :
  RV w γ A bd' x v:=by
 induction h generalizing bd' with
 |bool=>exact .bool _ _
 |int=>exact .int _ _ _
 |str=>exact .str _ _
 |tup _ xs vs hl _ ih=>exact .tup _ _ _ hl (by grind)
 |agg _ xs vs hl h1 _ ih=>exact .agg _ _ _ hl h1 (by grind)
 |nilp=>exact .nilp _
 |nils=>exact .nils _
 |nilf=>exact .nilf _
 |nilm=>exact .nilm _
 |nili=>exact .nili _
 |esl=>exact .esl _ _
 |tsl _ tag sz rows b o cap cell ht hc hb' hm ha hr ho hw h hcl _=>exact .tsl _ tag sz rows b o cap cell (TU ht hb) hc hb' hm ha hr ho hw h hcl
 |tnil _ tag sz a cap ht=>exact .tnil _ tag sz a cap (TU ht hb)
 |tptr _ tag sz rows i0 off0 b o cell ht hb' hm ha hr ho hw h hcl _=>exact .tptr _ tag sz rows i0 off0 b o cell (TU ht hb) hb' hm ha hr ho hw h hcl
 |hsl _ id ep off len lim b o cap hk he hc h=>exact .hsl _ id ep off len lim b o cap hk he hc h
 |hptr _ id ep i off b o hk he h=>exact .hptr _ id ep i off b o hk he h
 |clo _ f xs ys vs us hl hl2 _ _ ih ih2=>exact .clo _ f xs ys vs us hl hl2 (by grind) (by grind)
 |hmap _ id b hk hb'=>exact .hmap _ id b hk hb'
 |ifc _ t x v _ ih=>exact .ifc _ t x v (ih hb)
 |yld _ id b hk hb'=>exact .yld _ id b hk hb'
structure Stp (w:World) (γ:Gm) (w':World) (γ':Gm):Prop where
 sz:w.heap.size<=w'.heap.size
 os:w'.os=w.os
 tape:w'.tape=w.tape
 output:w'.output=w.output
 fr:∀b,b<w.heap.size->¬Mut γ b->w'.heap[b]?=w.heap[b]?
 mt:∀b,b<w.heap.size->Mut γ' b->Mut γ b
 kind:∀id,(γ id).kind≠0->(γ' id).kind=(γ id).kind/\(γ' id).blk=(γ id).blk\/(γ id).kind=1/\(γ' id).kind=1/\(γ id).ep<(γ' id).ep
 ep:∀id,(γ id).kind=1->(γ id).ep<=(γ' id).ep /\
  ((γ' id).ep=(γ id).ep->(γ' id).sz=(γ id).sz/\(γ' id).n=(γ id).n/\(γ' id).blk=(γ id).blk/\(γ' id).base=(γ id).base/\(γ' id).slack=(γ id).slack)
 dr:w.drawn<=w'.drawn
theorem Stp.refl(w:World)(γ:Gm):Stp w γ w γ :=
 ⟨Tp _,rfl,rfl,rfl,λ_ _ _=>rfl,λ_ _ h=>h,(by grind),(by grind),Tp _⟩
theorem Stp.kind_eq{w w':World}{γ γ':Gm}(h:Stp w γ w' γ'){id:Nat}(hk:(γ id).kind≠0):(γ' id).kind=(γ id).kind:=by rcases h.kind id hk with h1|h1<;>grind
theorem Stp.blk_eq{w w':World}{γ γ':Gm}(h:Stp w γ w' γ'){id:Nat}(hk:(γ id).kind≠0)(h1:(γ id).kind≠1):(γ' id).blk=(γ id).blk:=by rcases h.kind id hk with h2|h2<;>grind
theorem Stp.trans{w w' w'':World}{γ γ' γ'':Gm}(h:Stp w γ w' γ')(h':Stp w' γ' w'' γ''):Stp w γ w'' γ'' where
 sz:=TU h.sz h'.sz
 os:=h'.os.trans h.os
 tape:=h'.tape.trans h.tape
 output:=h'.output.trans h.output
 fr b hb hm:=by
  grind[fr,mt]
 mt b hb k:=h.mt b hb (h'.mt b (TX hb h.sz) k)
 kind id hk:=by
  have h1:=h.kind_eq hk;have hk':(γ' id).kind≠0:=by omega
  rcases h.kind id hk with a|a
  ·rcases h'.kind id hk' with c|c
   ·omega
   ·refine .inr ⟨by omega,c.2.1,Nat.lt_of_le_of_lt (h.ep id (by omega)).1 c.2.2⟩
  ·exact .inr ⟨a.1,by rw[h'.kind_eq hk',a.2.1],TX a.2.2 (h'.ep id a.2.1).1⟩
 ep id hk:=by
  have h1:=h.ep id hk;have hk':(γ' id).kind=1:=by rw[h.kind_eq (by omega),hk]
  have h2:=h'.ep id hk';omega
 dr:=TU h.dr h'.dr
theorem zo{w w':World}{a:Addr}(h:w'.heap[a.block]?=w.heap[a.block]?):w'.cell? a=w.cell? a:=by
 grind[World.cell?]
theorem Hq{w:World}{a:Addr}{v:Value}(h:w.cell? a=some v):a.block<w.heap.size:=by
 simp only[World.cell?]at h
 grind
theorem RV.step{w w':World}{γ γ':Gm}{A:Nat->Nat->Prop}{bd:Nat}{x:AV}{v:Value}(h:RV w γ A bd x v)(s:Stp w γ w' γ') :
  RV w' γ' A bd x v:=by
 induction h with
 |bool=>exact .bool _ _
 |int=>exact .int _ _ _
 |str=>exact .str _ _
 |tup _ xs vs hl _ ih=>exact .tup _ _ _ hl ih
 |agg _ xs vs hl h1 _ ih=>exact .agg _ _ _ hl h1 ih
 |nilp=>exact .nilp _
 |nils=>exact .nils _
 |nilf=>exact .nilf _
 |nilm=>exact .nilm _
 |nili=>exact .nili _
 |esl=>exact .esl _ _
 | tsl _ tag sz rows b o cap cell ht hc hb hm ha hr ho hw _ hcl ih =>
  refine .tsl _ tag sz rows b o cap cell ht hc (TX hb s.sz) (λk=>hm (s.mt b hb k)) ha hr ho (λi j row x h1 h2=>?_) ih hcl<;>grind[zo,adr,Stp.fr]
 |tnil _ tag sz a cap ht=>exact .tnil _ tag sz a cap ht
 | tptr _ tag sz rows i0 off0 b o cell ht hb hm ha hr ho hw _ hcl ih =>
  refine .tptr _ tag sz rows i0 off0 b o cell ht (TX hb s.sz) (λk=>hm (s.mt b hb k)) ha hr ho (λi j row x h1 h2=>?_) ih hcl<;>grind[zo,adr,Stp.fr]
 | hsl _ id ep off len lim b o cap hk he hc h =>
  have e:=s.ep id hk;refine .hsl _ id ep off len lim b o cap (by rw[s.kind_eq (by omega),hk]) (TU he e.1) hc λh'=>?_;have e1:(γ' id).ep=(γ id).ep:=Nat.le_antisymm (by omega) e.1;obtain⟨a1,a2,a3,a4,a5⟩:=e.2 e1;obtain⟨c1,c2,c3⟩:=h (h'.trans e1);simp_all[iV]
 | hptr _ id ep i off b o hk he h =>
  have e:=s.ep id hk;refine .hptr _ id ep i off b o (by rw[s.kind_eq (by rw[hk];decide),hk]) (TU he e.1) λh'=>?_<;>grind
 |clo _ f xs ys vs us hl hl2 _ _ ih ih2=>exact .clo _ f xs ys vs us hl hl2 ih ih2
 | hmap _ id b hk hb =>
  exact .hmap _ id b (by rw[s.kind_eq (by omega),hk]) (by rw[s.blk_eq (by omega) (by omega)];exact hb)
 |ifc _ t x v _ ih=>exact .ifc _ t x v ih
 | yld _ id b hk hb =>
  exact .yld _ id b (by rw[s.kind_eq (by omega),hk]) (by rw[s.blk_eq (by omega) (by omega)];exact hb)
theorem RV.heap{w w':World}{γ:Gm}{A:Nat->Nat->Prop}{bd:Nat}{x:AV}{v:Value}(h:RV w γ A bd x v)(hh:w'.heap=w.heap):RV w' γ A bd x v:=by
 have hc:∀a,w'.cell? a=w.cell? a:=λa=>zo (by rw[hh])
 induction h with
 |bool=>exact .bool _ _
 |int=>exact .int _ _ _
 |str=>exact .str _ _
 |tup _ xs vs hl _ ih=>exact .tup _ _ _ hl ih
 |agg _ xs vs hl h1 _ ih=>exact .agg _ _ _ hl h1 ih
 |nilp=>exact .nilp _
 |nils=>exact .nils _
 |nilf=>exact .nilf _
 |nilm=>exact .nilm _
 |nili=>exact .nili _
 |esl=>exact .esl _ _
 |tsl _ tag sz rows b o cap cell ht hc' hb hm ha hr ho hw _ hcl ih=>exact .tsl _ tag sz rows b o cap cell ht hc' (by grind) hm ha hr ho (λi j row x h1 h2=>by grind) ih hcl
 |tnil _ tag sz a cap ht=>exact .tnil _ tag sz a cap ht
 |tptr _ tag sz rows i0 off0 b o cell ht hb hm ha hr ho hw _ hcl ih=>exact .tptr _ tag sz rows i0 off0 b o cell ht (by grind) hm ha hr ho (λi j row x h1 h2=>by grind) ih hcl
 |hsl _ id ep off len lim b o cap hk he hc' h=>exact .hsl _ id ep off len lim b o cap hk he hc' h
 |hptr _ id ep i off b o hk he h=>exact .hptr _ id ep i off b o hk he h
 |clo _ f xs ys vs us hl hl2 _ _ ih ih2=>exact .clo _ f xs ys vs us hl hl2 ih ih2
 |hmap _ id b hk hb=>exact .hmap _ id b hk hb
 |ifc _ t x v _ ih=>exact .ifc _ t x v ih
 |yld _ id b hk hb=>exact .yld _ id b hk hb
theorem RVs.step{w w':World}{γ γ':Gm}{A:Nat->Nat->Prop}{bd:Nat}{xs:List AV}{vs:List Value}(h:RVs w γ A bd xs vs)(s:Stp w γ w' γ') :
  RVs w' γ' A bd xs vs:=⟨h.1,λi x v h1 h2=>(h.2 i x v h1 h2).step s⟩
def ObjRel(w:World)(γ:Gm)(A:Nat->Nat->Prop)(bd:Nat)(id:Nat):AObj->Prop
 |.none=>(γ id).kind=0
 | .cells sz rows ep loose fz=>(γ id).kind=1/\(γ id).ep=ep/\(γ id).sz=sz/\(γ id).n=rows.length/\((loose=false->(γ id).slack=0)/\(loose=true->rows.length+(γ id).slack<=9223372036854775807))/\(γ id).wr = !fz /\
   ∃(c:Array Value) (elem:TypeId),w.heap[(γ id).blk]?=some (.cells c elem (0,0))/\(γ id).base+(rows.length+(γ id).slack)*sz<=c.size /\
    (∀(i:Nat) row,rows[i]?=some row->row.length=sz) /\
    (∀(i j:Nat) row x,rows[i]?=some row->row[j]?=some x->x.one=true/\∃v,c[(γ id).base+i*sz+j]?=some v/\RV w γ A bd x v)
 | .map es=>(γ id).kind=2/\(γ id).wr=true /\
   ∃esC:Array MapEntry,w.heap[(γ id).blk]?=some (.map esC esC.size)/\es.length=esC.size /\
    (∀(i:Nat) k x e,es[i]?=some (k,x)->esC[i]?=some e->e.born=i/\RV w γ A bd k e.key/\RV w γ A bd x e.val)
 | .loop nt t ps assign body dfr st pend=>(γ id).kind=3/\(γ id).wr=true /\
   ∃L:Loop,w.heap[(γ id).blk]?=some (.loop L)/\L.state=st/\L.pending=pend/\L.params.toList=ps/\L.assign=assign/\L.body=body/\L.tmps.size=nt /\
    (∀i,RV w γ A bd (t.get AV.undef i) (L.tmps.getD i undef))/\(γ dfr).kind=4/\L.defers=(γ dfr).blk
 |.dfr live=>(γ id).kind=4/\(γ id).wr=true/\w.heap[(γ id).blk]?=some (.deferred (if live then some [] else none))
structure Rel (C:Cfg) (A:Nat->Nat->Prop) (bd:Nat) (w:World) (γ:Gm) (hg:Nat->AObj) (nx:Nat):Prop where
 obj:∀id,ObjRel w γ A bd id (hg id)
 lt:∀id,(γ id).kind≠0->id<nx/\(γ id).blk<w.heap.size
 inj:∀i j,(γ i).kind≠0->(γ j).kind≠0->(γ i).blk=(γ j).blk->i=j
 av:∀id,(γ id).kind≠0->∀t,¬A t (γ id).blk
 ab:∀t b,A t b->b<w.heap.size
 glob:∀g sz rows,C.glob g=some (sz,rows)->RV w γ A bd (.tptr 0 sz rows 0 0) (.pointer (some ⟨g,0,none⟩))
end Hx
end
section
namespace Hx
open Go
section
variable {P:Program}{w:World}
theorem fT(b o n:Nat):(adr b o).add n=adr b (o+n):=by
 grind[Addr.add,adr]
theorem lI{t:TypeId}{i:TypeInfo}(h:P.info? t=some i):(typeInfo t).run P w=.ok i w:=by simp_all[typeInfo]
theorem bc{t:TypeId}{n:Nat}(h:szT P t=some n):(Go.sizeOf t).run P w=.ok n w:=by
 unfold szT at h;cases hi:P.info? t with
 |none=>grind
 |some i=>simp_all[Go.sizeOf,lI]
theorem aH{t:TypeId}{d:TypeDesc}(h:P.underlying t=some d):(underlying t).run P w=.ok d w:=by simp_all[underlying]
theorem mQ{t:TypeId}{b:Bool}(h:rT P t=some b):(isAgg t).run P w=.ok b w:=by
 unfold rT at h;cases hd:P.underlying t with
 |none=>grind
 |some d=>rw[hd]at h;cases d<;>simp at h<;>subst h<;>simp[isAgg,aH hd]
theorem wV{b o:Nat}:∀(n i:Nat) (acc:Array Value) (cs:List Value),cs.length=n ->
  (∀(j:Nat) c,cs[j]?=some c->w.cell? (adr b (o+(i+j)))=some c) ->
  (loadCellsFrom (adr b o) i n acc).run P w=.ok (acc++cs.toArray) w:=by
 intro n
 induction n with
 |zero=>simp_all[loadCellsFrom]
 | succ n ih =>
  intro i acc cs hl h;cases cs with
  |nil=>cases hl
  | cons c cs =>
   have h0:=h 0 c rfl;simp only[Vv]at h0;simp only[loadCellsFrom,T0,run_load,fT,h0,TN];rw[ih (i+1) (acc.push c) cs (by grind) (λj x hj=>by
    have:=h (j+1) x (by grind)
    grind)]
   simp
theorem uP{b o:Nat}{cs:List Value}(h:∀(j:Nat) c,cs[j]?=some c->w.cell? (adr b (o+j))=some c) :
  (loadCells (adr b o) cs.length).run P w=.ok cs.toArray w:=by
 unfold loadCells;rw[wV cs.length 0 #[] cs rfl (λj c hj=>by grind)];simp
def World.setBlk(w:World)(b:Nat)(o:Obj):World:={ w with heap:=w.heap.setIfInBounds b o }
def bA(c:Array Value)(o:Nat):List Value->Array Value
 |[]=>c
 |v::vs=>bA (c.setIfInBounds o v) (o+1) vs
theorem bX(vs:List Value):∀(c:Array Value) (o:Nat),(bA c o vs).size=c.size:=by
 induction vs<;>grind[bA]
theorem cq(vs:List Value):∀(c:Array Value) (o k:Nat),o+vs.length<=c.size ->
  (bA c o vs)[k]?=if o<=k/\k<o+vs.length then vs[k - o]? else c[k]?:=by
 induction vs with
 |nil=>grind[bA]
 | cons v vs ih =>
  intro c o k h;simp only[Ud]at h;simp only[bA]
  grind
theorem bm(b:Nat)(o:Obj)(k:Nat):(World.setBlk w b o).heap[k]?=if k=b/\b<w.heap.size then some o else w.heap[k]?:=by
 simp only[World.setBlk,Array.getElem?_setIfInBounds]
 grind
theorem pu(b:Nat)(o o':Obj):World.setBlk (World.setBlk w b o) b o'=World.setBlk w b o':=by
 grind[World.setBlk,Array.setIfInBounds_setIfInBounds]
@[simp] theorem setBlk_size (b:Nat) (o:Obj):(World.setBlk w b o).heap.size=w.heap.size:=by simp[World.setBlk]
theorem Be{b o:Nat}{v:Value}{c:Array Value}{e:TypeId}{f:Nat×Nat}(h:w.heap[b]?=some (.cells c e f)) :
  w.setCell (adr b o) v=World.setBlk w b (.cells (c.setIfInBounds o v) e f):=by
 have hb:b<w.heap.size:=by
  grind
 have hx:w.heap[b]=.cells c e f:=by grind
 simp only[World.setCell,World.setBlk,adr];congr 1
 grind
theorem pE{b o:Nat}{c:Array Value}{e:TypeId}{f:Nat×Nat}(h:w.heap[b]?=some (.cells c e f)):w.cell? (adr b o)=c[o]?:=by
 grind[World.cell?,adr]
theorem tR{b o:Nat}{e:TypeId}:∀(vs:List Value) (i:Nat) (w:World) (c:Array Value),w.heap[b]?=some (.cells c e (0,0)) ->
  o+i+vs.length<=c.size->(∀v∈vs,v.oneCell'=true) ->
  (storeCells (adr b o) vs i).run P w=.ok () (World.setBlk w b (.cells (bA c (o+i) vs) e (0,0))):=by
 intro vs
 induction vs with
 | nil =>
  intro i w c h _ _;have hb:b<w.heap.size:=by
   grind
  have:World.setBlk w b (.cells c e (0,0))=w:=by
   have hx:w.heap[b]=.cells c e (0,0):=by grind
   simp only[World.setBlk];congr 1
   grind
  simp_all[storeCells,bA]
 | cons v vs ih =>
  intro i w c h hs h1;simp only[Ud]at hs;have hv:v.oneCell'=true:=h1 v (by simp);have hcell:w.cell? (adr b (o+i))=c[o+i]?:=pE h;have hin:o+i<c.size:=by omega
  have hfz:w.frozen? (adr b (o+i))=false:=by grind[World.frozen?,adr]
  simp only[storeCells,T0,fT,run_store P w _ v _ hv,hcell,T7 hin,hfz];simp only[UR,if_false,TN,Be h];have hb:b<w.heap.size:=by
   grind
  rw[ih (i+1) _ (c.setIfInBounds (o+i) v) (by grind[bm]) (by grind) (by grind),pu]
  rfl
end
theorem HA{w:World}{γ:Gm}{A:Nat->Nat->Prop}{bd:Nat}{x:AV}{v:Value}(h:RV w γ A bd x v)(h1:x.one=true) :
  v.oneCell'=true/\v.cells=#[v]:=by
 cases h<;>first| (cases h1;done)|exact⟨rfl,rfl⟩
theorem pF{w:World}{γ:Gm}{A:Nat->Nat->Prop}{bd:Nat}{x:AV}{v:Value}(h:RV w γ A bd x v)(ht:x.isTup=false) :
  RVs w γ A bd x.cells v.cells.toList/\(∀(i:Nat) y,x.cells[i]?=some y->y.one=true):=by
 by_cases h1:x.one=true
 ·have hx:x.cells=[x]:=by cases x<;>first|rfl|cases h1
  obtain⟨_,h3⟩:=HA h h1;rw[hx,h3];refine⟨⟨rfl,λi y u hy hu=>?_⟩,λi y hy=>?_⟩<;>grind
 ·cases h<;>first| (exact absurd rfl h1)| (cases ht;done)|skip
  rename_i xs vs hl h1' h';exact⟨⟨by grind[AV.cells,Value.cells],λi y u hy hu=>h' i y u hy (by grind[Value.cells])⟩,h1'⟩
theorem Jg{w:World}{γ:Gm}{A:Nat->Nat->Prop}{bd:Nat}{xs:List AV}{vs:List Value}(h:RVs w γ A bd xs vs)
  (h1:∀(i:Nat) y,xs[i]?=some y->y.one=true):∀v∈vs,v.oneCell'=true:=by
 intro v hv;obtain⟨i,hi⟩:=T2 hv;have hlt:i<xs.length:=by rw[h.1];grind
 exact (HA (h.2 i _ v (Tn hlt) hi) (h1 i _ (Tn hlt))).1
end Hx
end
section
namespace Hx
open Go
def upd{α:Type}(f:Nat->α)(i:Nat)(x:α):Nat->α:=λk=>if k=i then x else f k
@[simp] theorem upd_same {α:Type} (f:Nat->α) (i:Nat) (x:α):upd f i x i=x:=by simp[upd]
theorem cQ{α:Type}(f:Nat->α){i k:Nat}(x:α)(h:k≠i):upd f i x k=f k:=by simp_all[upd]
section
variable {C:Cfg}{A:Nat->Nat->Prop}{bd:Nat}{w w':World}{γ γ':Gm}{hg:Nat->AObj}{nx nx':Nat}
theorem ObjRel.step{j:Nat}{o:AObj}(h:ObjRel w γ A bd j o)(s:Stp w γ w' γ')(hj:γ' j=γ j)
  (hb:(γ j).kind≠0->o≠.none->w'.heap[(γ j).blk]?=w.heap[(γ j).blk]?):ObjRel w' γ' A bd j o:=by
 cases o with
 |none=>grind[ObjRel]
 | cells sz rows ep loose fz =>
  obtain⟨h1,h2,h3,h4,h5,h6,c,e,h7,h8,h9,h10⟩:=h<;>grind[RV.step,ObjRel]
 | map es =>
  obtain⟨h1,h2,esC,h3,h4,h5⟩:=h<;>grind[RV.step,ObjRel]
 | loop nt t ps assign body dfr st pend =>
  obtain⟨h1,h2,L,h3,h4,h5,h6,h7,h8,h9,h10,h11,h12⟩:=h;simp only[ObjRel,hj];have hd:(γ dfr).kind≠0:=by omega
  refine⟨h1,h2,L,by grind,h4,h5,h6,h7,h8,h9,λi=>(h10 i).step s,by rw[s.kind_eq hd,h11],?_⟩;rw[h12,s.blk_eq hd (by omega)]
 | dfr live =>
  obtain⟨h1,h2,h3⟩:=h<;>grind[ObjRel]
theorem Rel.set(h:Rel C A bd w γ hg nx){id:Nat}{gh:Gh}{o:AObj}(hγ:γ'=upd γ id gh)(s:Stp w γ w' γ')(hn:nx<=nx')
  (ho:ObjRel w' γ' A bd id o) (hlt:id<nx'/\gh.blk<w'.heap.size) (hinj:∀j,j≠id->(γ j).kind≠0->(γ j).blk≠gh.blk)
  (hav:∀t,¬A t gh.blk)
  (hoth:∀j,j≠id->(γ j).kind≠0->hg j≠.none->w'.heap[(γ j).blk]?=w.heap[(γ j).blk]?) :
  Rel C A bd w' γ' (upd hg id o) nx':=by
 subst hγ;constructor
 ·intro j
  by_cases hj:j=id
  ·simp_all
  ·rw[cQ _ _ hj];exact (h.obj j).step s (cQ _ _ hj) (hoth j hj)
 ·intro j hk
  by_cases hj:j=id
  ·simp_all
  ·rw[cQ _ _ hj]at hk ⊢;exact⟨TX (h.lt j hk).1 hn,TX (h.lt j hk).2 s.sz⟩
 ·intro i j hi hj e
  by_cases h1:i=id<;>by_cases h2:j=id
  ·omega
  ·subst h1;rw[cQ _ _ h2]at hj e;simp only[upd_same]at e;grind
  ·grind[cQ,upd_same]
  ·rw[cQ _ _ h1]at hi e;rw[cQ _ _ h2]at hj e;exact h.inj i j hi hj e
 ·intro j hk
  by_cases hj:j=id
  ·simp_all
  ·rw[cQ _ _ hj]at hk ⊢;exact h.av j hk
 ·intro t b hb;exact TX (h.ab t b hb) s.sz
 ·intro g sz rows hg';exact (h.glob g sz rows hg').step s
theorem Rel.up(h:Rel C A bd w γ hg nx)(hn:nx<=nx'):Rel C A bd w γ hg nx' :=
 ⟨h.obj,λid hk=>⟨TX (h.lt id hk).1 hn,(h.lt id hk).2⟩,h.inj,h.av,h.ab,h.glob⟩
theorem uk{id:Nat}{o:Obj}(hk:(γ id).kind≠0)(hw:(γ id).wr=true):Stp w γ (World.setBlk w (γ id).blk o) γ where
 sz:=by simp
 os:=rfl
 tape:=rfl
 output:=rfl
 fr b hb hm:=by rw[bm,TF];rintro⟨h,_⟩;exact hm ⟨id,hk,hw,h.symm⟩
 mt b _ h:=h
 kind _ _:=.inl ⟨rfl,rfl⟩
 ep _ _:=(by grind)
 dr:=Tp _
theorem Rel.setBlk(h:Rel C A bd w γ hg nx){id:Nat}{o:Obj}{ao:AObj}(hk:(γ id).kind≠0)(hw:(γ id).wr=true)
  (ho:ObjRel (World.setBlk w (γ id).blk o) γ A bd id ao) :
  Rel C A bd (World.setBlk w (γ id).blk o) γ (upd hg id ao) nx/\Stp w γ (World.setBlk w (γ id).blk o) γ:=by
 have s:=uk (w:=w) (o:=o) hk hw;refine⟨?_,s⟩;have e:γ=upd γ id (γ id):=by grind[upd]
 refine h.set (gh:=γ id) e s (Tp _) ho ?_ ?_ ?_ ?_
 ·have:=h.lt id hk;exact⟨this.1,by simpa using this.2⟩
 ·intro j hj hkj eb;exact hj (h.inj j id hkj hk eb)
 ·exact h.av id hk
 ·intro j hj hkj _;rw[bm,TF];rintro⟨eb,_⟩;exact hj (h.inj j id hkj hk eb)
def World.add(w:World)(o:Obj):World:={ w with heap:=w.heap.push o }
@[simp] theorem add_size (o:Obj):(World.add w o).heap.size=w.heap.size+1:=by simp[World.add]
theorem kW(o:Obj)(b:Nat):(World.add w o).heap[b]?=if b=w.heap.size then some o else w.heap[b]?:=by
 grind[World.add]
theorem Ep{id:Nat}{gh:Gh}{o:Obj}(hid:(γ id).kind=0)(hb:gh.blk=w.heap.size):Stp w γ (World.add w o) (upd γ id gh) where
 sz:=by simp
 os:=rfl
 tape:=rfl
 output:=rfl
 fr b hb' _:=by rw[kW,TF (by omega)]
 mt b hb':=by
  rintro⟨j,h1,h2,h3⟩
  by_cases hj:j=id
  ·simp_all
  ·rw[cQ _ _ hj]at h1 h2 h3;exact⟨j,h1,h2,h3⟩
 kind j hj:=by
  have:j≠id:=by grind
  simp_all[cQ]
 ep j hj:=by
  have:j≠id:=by grind
  simp_all[cQ]
 dr:=Tp _
theorem Rel.add(h:Rel C A bd w γ hg nx){id:Nat}{gh:Gh}{o:Obj}{ao:AObj}(hid:(γ id).kind=0)(hb:gh.blk=w.heap.size)
  (hn:nx<=nx') (hi:id<nx') (ho:ObjRel (World.add w o) (upd γ id gh) A bd id ao) :
  Rel C A bd (World.add w o) (upd γ id gh) (upd hg id ao) nx'/\Stp w γ (World.add w o) (upd γ id gh):=by
 have s:=Ep (w:=w) (o:=o) hid hb;refine⟨h.set (gh:=gh) rfl s hn ho ⟨hi,by simp[hb]⟩ ?_ ?_ ?_,s⟩
 ·intro j _ hkj e;have:=(h.lt j hkj).2;omega
 ·intro t ht;have:=h.ab t _ ht;omega
 ·intro j _ hkj _;have:=(h.lt j hkj).2;rw[kW,TF (by omega)]
end
section
variable {C:Cfg}{A:Nat->Nat->Prop}{bd:Nat}{w:World}{γ:Gm}{hg:Nat->AObj}{nx nx':Nat}
theorem Rel.newCells(h:Rel C A bd w γ hg nx){id sz slack:Nat}{rows:List (List AV)}{loose:Bool}{c:Array Value}(e:TypeId)
  (hid:(γ id).kind=0) (hn:nx<=nx') (hi:id<nx') (hs:(loose=false->slack=0)/\(loose=true->rows.length+slack<=9223372036854775807)) (hc:(rows.length+slack)*sz<=c.size)
  (hr:∀(i:Nat) row,rows[i]?=some row->row.length=sz)
  (hv:∀(i j:Nat) row x,rows[i]?=some row->row[j]?=some x->x.one=true/\∃v,c[i*sz+j]?=some v/\RV w γ A bd x v) :
  ∃γ',Rel C A bd (World.add w (.cells c e (0,0))) γ' (upd hg id (.cells sz rows 0 loose false)) nx'/\Stp w γ (World.add w (.cells c e (0,0))) γ' /\
   (γ' id).kind=1/\(γ' id).ep=0/\(γ' id).sz=sz/\(γ' id).n=rows.length/\(γ' id).blk=w.heap.size/\(γ' id).base=0/\(γ' id).slack=slack:=by
 let gh:Gh:=⟨1,0,sz,rows.length,w.heap.size,0,slack,true⟩
 have s:=Ep (w:=w) (o:=.cells c e (0,0)) (gh:=gh) hid rfl;obtain⟨r,s'⟩:=h.add (id:=id) (gh:=gh) (o:=.cells c e (0,0)) (ao:=.cells sz rows 0 loose false) hid rfl hn hi (by
  simp only[ObjRel,upd_same];refine⟨rfl,rfl,rfl,rfl,hs,rfl,c,e,by grind[kW],by grind,hr,λi j row x h1 h2=>?_⟩;obtain⟨a,v,b1,b2⟩:=hv i j row x h1 h2<;>grind[RV.step])
 exact⟨_,r,s',by simp[gh],by simp[gh],by simp[gh],by simp[gh],by simp[gh],by simp[gh],by simp[gh]⟩
theorem Rel.storeCells(h:Rel C A bd w γ hg nx){id sz ep:Nat}{rows rows':List (List AV)}{loose:Bool}
  (hid:hg id=.cells sz rows ep loose false) {o:Nat} {vs:List Value} {xs:List AV}
  (hvs:RVs w γ A bd xs vs) (h1:∀(i:Nat) y,xs[i]?=some y->y.one=true)
  (hlen:rows'.length=rows.length) (hr':∀(i:Nat) row,rows'[i]?=some row->row.length=sz)
  (hin:(γ id).base<=o/\o+vs.length<=(γ id).base+rows.length*sz)
  (hcells:∀(i j:Nat) row x,rows'[i]?=some row->row[j]?=some x ->
   (if o<=(γ id).base+i*sz+j/\(γ id).base+i*sz+j<o+vs.length then xs[(γ id).base+i*sz+j - o]?=some x
    else ∃row0,rows[i]?=some row0/\row0[j]?=some x)) (P:Program) :
  ∃w',(Go.storeCells (adr (γ id).blk o) vs).run P w=.ok () w' /\
   Rel C A bd w' γ (upd hg id (.cells sz rows' ep loose false)) nx/\Stp w γ w' γ:=by
 have hob:=h.obj id;rw[hid]at hob;obtain⟨k1,k2,k3,k4,k5,k6,c,e,k7,k8,k9,k10⟩:=hob;have hsz:o+vs.length<=c.size:=by
  grind
 have hrun:=tR (P:=P) vs 0 w c k7 (by omega) (Jg hvs h1);simp only[Vv]at hrun;have hk:(γ id).kind≠0:=by omega
 have hw:(γ id).wr=true:=by grind
 have s:=uk (w:=w) (o:=.cells (bA c o vs) e (0,0)) hk hw;obtain⟨r,s'⟩:=h.setBlk (id:=id) (o:=.cells (bA c o vs) e (0,0)) (ao:=.cells sz rows' ep loose false) hk hw (by
  refine⟨k1,k2,k3,by omega,by grind,by omega,bA c o vs,e,?_,by grind[bX],hr',λi j row x a b=>?_⟩
  ·grind[bm]
  ·have hc:=hcells i j row x a b;rw[cq _ _ _ _ hsz]
   split at hc
   ·rename_i hcond;rw[TE hcond];have hlt:(γ id).base+i*sz+j - o<vs.length:=by omega
    refine⟨h1 _ _ hc,vs[(γ id).base+i*sz+j - o],Tn hlt,?_⟩;exact (hvs.2 _ _ _ hc (Tn hlt)).step s
   ·rename_i hcond;rw[TF hcond];obtain⟨row0,c1,c2⟩:=hc<;>grind[RV.step])
 grind
end
end Hx
end
section
namespace Hx
open Go
def TR(w:World)(γ:Gm)(A:Nat->Nat->Prop)(bd:Nat)(nt:Nat)(t:T)(tmps:Array Value):Prop :=
 tmps.size=nt/\∀i,RV w γ A bd (t.get AV.undef i) (tmps.getD i undef)
def EB(P:Program)(o:Oper)(ev:Operand->Value)(w:World)(v:Value)(w':World):Prop :=
 (execOp ev o).run P w=.ok (.value v) w'\/((execOp ev o).run P w=.ok .skip w'/\v=undef)
def OpSim(C:Cfg)(A:Nat->Nat->Prop)(bd:Nat)(w:World)(γ:Gm)(hg:Nat->AObj)(nx:Nat)(o:Oper)(ev:Operand->Value)(g:G):OR->Prop
 |.fail=>True
 |.val x=>∃v,EB C.P o ev w v w/\RV w γ A bd x v
 | .upd x g'=>∃v w' γ' id ob,EB C.P o ev w v w'/\RV w' γ' A bd x v/\Stp w γ w' γ' /\
   ((g'=g.put id ob/\Rel C A bd w' γ' (upd hg id ob) nx)\/(g'=g.new ob/\id=g.nx/\Rel C A bd w' γ' (upd hg id ob) (Nat.max nx (g.nx+1))))
 |.dfr _=>False
section
variable {C:Cfg}{A:Nat->Nat->Prop}{bd:Nat}{w:World}{γ:Gm}{hg:Nat->AObj}{nx:Nat}
theorem Hz{v:Value}{a:AV}(h:ofV v=some a):RV w γ A bd a v/\a.one=true:=by
 unfold ofV at h
 split at h<;>first| (cases h;done)| (injection h with h;subst h;exact⟨by constructor,rfl⟩)
theorem oD:∀{vs:List Value} {as:List AV},AX vs=some as->RVs w γ A bd as vs/\∀(i:Nat) y,as[i]?=some y->y.one=true:=by
 intro vs
 induction vs with
 |nil=>intro as h;simp[AX]at h;subst h;exact⟨⟨rfl,λi x v h=>by simp at h⟩,(by grind)⟩
 | cons v vs ih =>
  intro as h;simp only[AX]at h
  split at h
  ·rename_i a as' h1 h2;injection h with h;subst h;obtain⟨p,q⟩:=Hz (w:=w) (γ:=γ) (A:=A) (bd:=bd) h1;obtain⟨r,s⟩:=ih h2;refine⟨⟨by simp[r.1],λi x u hx hu=>?_⟩,λi y hy=>?_⟩
   ·cases i with
    |zero=>grind
    |succ i=>exact r.2 i x u (by grind) (by grind)
   grind
  grind
theorem aF{x:Operand}{s:Stg (T->AV)}{nt:Nat}{t:T}{a:Act}(h:aW C x=some s)(ht:TR w γ A bd nt t a.tmps)(hr:Rel C A bd w γ hg nx) :
  RV w γ A bd (s.run t) (a.eval x):=by
 cases x with
 |tmp n=>simp[aW]at h;subst h;rw[gp_run];exact ht.2 n
 | const v =>
  simp only[aW]at h
  split at h
  ·rename_i a' h1;injection h with h;subst h;exact (Hz h1).1
  grind
 | global g =>
  simp only[aW]at h
  split at h
  ·rename_i sz rows h1;injection h with h;subst h;exact hr.glob g sz rows h1
  grind
 | func f =>
  simp[aW]at h;subst h;exact .clo _ f [] [] #[] #[] rfl rfl (by grind) (by grind)
theorem jC{nt:Nat}{t:T}{a:Act}(ht:TR w γ A bd nt t a.tmps)(hr:Rel C A bd w γ hg nx):∀{xs:List Operand} {s:Stg (T->List AV)},
  cg C xs=some s->RVs w γ A bd (s.run t) (xs.map a.eval):=by
 intro xs
 induction xs with
 |nil=>intro s h;simp[cg]at h;subst h;exact⟨rfl,λi x v h=>by simp at h⟩
 | cons x xs ih =>
  intro s h;simp only[cg]at h
  split at h
  ·rename_i a' as' h1 h2;injection h with h;subst h;have p:=aF h1 ht hr;have q:=ih h2;refine⟨by simp[q.1],λi y u hy hu=>?_⟩;cases i with
   |zero=>grind
   |succ i=>exact q.2 i y u (by grind) (by grind)
  grind
theorem uN{ag:Bool}{n:Nat}{row:List AV}{off b o:Nat}{x:AV}{ty:TypeId}{bd':Nat}(hb:bd'<=bd)
  (hcell:∀(j:Nat) y,row[j]?=some y->y.one=true/\∃v,w.cell? (adr b (o+j))=some v/\RV w γ A bd' y v)
  (hag:rT C.P ty=some ag) (hn:szT C.P ty=some n) (h:ch ag n row off=some x) :
  ∃v,(loadVar ty (adr b (o+off))).run C.P w=.ok v w/\RV w γ A bd x v:=by
 unfold ch at h;cases ag with
 | false =>
  simp only[dB]at h;obtain⟨_,v,h1,h2⟩:=hcell off x h;exact⟨v,by simp_all[loadVar,mQ],h2.mono hb⟩
 | true =>
  simp only[a_,bj,ax,aa]at h
  split at h
  ·rename_i hl;rw[Nat.beq_eq]at hl;injection h with h;subst h;have hex:∀j:Fin n,∃v,w.cell? (adr b (o+off+j))=some v/\∃y,(List.take n (List.drop off row))[j.1]?=some y/\y.one=true/\RV w γ A bd' y v:=by
    intro j;have hj:j.1<(List.take n (List.drop off row)).length:=by omega
    have e:(List.take n (List.drop off row))[j.1]?=row[off+j.1]?:=by
     grind
    grind
   let f:Fin n->Value:=λj=>Classical.choose (hex j)
   have hf:∀j:Fin n,w.cell? (adr b (o+off+j))=some (f j)/\∃y,(List.take n (List.drop off row))[j.1]?=some y/\y.one=true/\RV w γ A bd' y (f j) :=
    (by grind)
   have hlen:(List.ofFn f).length=n:=by simp
   have hrun:=uP (P:=C.P) (w:=w) (b:=b) (o:=o+off) (cs:=List.ofFn f) (λj c hc=>by
    grind)
   rw[hlen]at hrun;refine⟨.agg (List.ofFn f).toArray,by simp_all[loadVar,mQ,bc],.agg _ _ _ (by grind) (λi y hy=>?_) (λi y v hy hv=>?_)⟩
   ·grind
   ·have hi:i<n:=by grind
    obtain⟨_,y',h1,h2,h3⟩:=hf ⟨i,hi⟩<;>grind[RV.mono]
  grind
theorem uf(hr:Rel C A bd w γ hg nx){id sz ep:Nat}{rows:List (List AV)}{loose fz:Bool}(hid:hg id=.cells sz rows ep loose fz)
  {i:Nat} {row:List AV} (hi:rows[i]?=some row) (j:Nat) (y:AV) (hy:row[j]?=some y) :
  y.one=true/\∃v,w.cell? (adr (γ id).blk ((γ id).base+i*sz+j))=some v/\RV w γ A bd y v:=by
 have hob:=hr.obj id;rw[hid]at hob;obtain⟨k1,k2,k3,k4,k5,k6,c,e,k7,k8,k9,k10⟩:=hob<;>grind[pE]
theorem aL{a b:Nat}(h:Nat.beq a b=true):a=b:=UX h
def ValSim(C:Cfg)(A:Nat->Nat->Prop)(bd:Nat)(w:World)(γ:Gm)(m:Sem Value):OR->Prop
 |.fail=>True
 |.val x=>∃v,m.run C.P w=.ok v w/\RV w γ A bd x v
 |_=>False
theorem oE{m:Sem Value}{x:Option AV}(h:∀y,x=some y->∃v,m.run C.P w=.ok v w/\RV w γ A bd y v):ValSim C A bd w γ m (orV x):=by
 cases x with
 |none=>trivial
 |some y=>exact h y rfl
theorem FD{ty:TypeId}{ag:Bool}{n:Nat}{a:T->AV}{t:T}{g:G}{va:Value}(hr:Rel C A bd w γ hg nx)
  (ha:RV w γ A bd (a t) va) (hag:rT C.P ty=some ag) (hn:szT C.P ty=some n) (agree:∀id∈ak (a t),hg id=g.h.get id) :
  ValSim C A bd w γ (Instr.loadAt ty va) (mz ag n a t g):=by
 unfold mz;generalize a t=x at *;cases ha with
 | tptr _ tag sz rows i0 off0 b o cell ht hb hm ha' hrl ho hw h =>
  simp only[dB];cases hrow:rows[i0]? with
  |none=>trivial
  | some row =>
   refine oE λy hp=>?_;obtain⟨v,h1,h2⟩:=uN (C:=C) (ty:=ty) (w:=w) (γ:=γ) (A:=A) (bd:=bd) ht (b:=b) (o:=o+i0*sz) (by grind) hag hn hp
   grind[Instr.loadAt,Instr.sureAddr]
 | hptr _ id ep i off b o hk he h =>
  have hagree:=agree id (by simp[ak]);simp only[G.get_eq,<-hagree];cases hid:hg id with
  | cells sz rows ep' loose fz =>
   simp only[aa]
   split
   ·rename_i hep;have hep:=aL hep;have hob:=hr.obj id;rw[hid]at hob;obtain⟨k1,k2,k3,_⟩:=hob;obtain⟨c1,c2⟩:=h (hep.trans k2.symm);simp only[dB];cases hrow:rows[i]? with
    |none=>trivial
    | some row =>
     refine oE λy hp=>?_;obtain⟨v,h1,h2⟩:=uN (C:=C) (ty:=ty) (w:=w) (γ:=γ) (A:=A) (bd:=bd) (Tp _) (b:=(γ id).blk) (o:=(γ id).base+i*sz) (uf hr hid hrow) hag hn hp;refine⟨v,?_,h2⟩<;>grind[Instr.loadAt,Instr.sureAddr]
   ·trivial
  |_=>trivial
 |_=>trivial
end
end Hx
end
section
namespace Hx
open Go
theorem Mk{i i' j sz:Nat}(hj:j<sz)(h1:i*sz<=i'*sz+j)(h2:i'*sz+j<i*sz+sz):i'=i:=by
 rcases V2 i' i with h|h|h
 ·have:(i'+1)*sz<=i*sz:=TT _ h
  grind
 ·exact h
 ·have:(i+1)*sz<=i'*sz:=TT _ h
  grind
theorem qM{row row':List AV}{off:Nat}{cs:List AV}(h:cL row off cs=some row') :
  row'.length=row.length/\off+cs.length<=row.length/\∀j,row'[j]?=if off<=j/\j<off+cs.length then cs[j - off]? else row[j]?:=by
 unfold cL at h;simp only[ax,f8,a_,bj,aa]at h
 split at h
 ·rename_i hle;rw[T8]at hle;injection h with h
  split at h<;>grind
 grind
section
variable {C:Cfg}{A:Nat->Nat->Prop}{bd:Nat}{w:World}{γ:Gm}{hg:Nat->AObj}{nx:Nat}
def di(C:Cfg)(A:Nat->Nat->Prop)(bd:Nat)(w:World)(γ:Gm)(hg:Nat->AObj)(nx:Nat)(m:Sem Value)(g:G):OR->Prop
 |.fail=>True
 |.val x=>∃v,m.run C.P w=.ok v w/\RV w γ A bd x v
 | .upd x g'=>∃v w' γ' id ob,m.run C.P w=.ok v w'/\RV w' γ' A bd x v/\Stp w γ w' γ' /\
   ((g'=g.put id ob/\Rel C A bd w' γ' (upd hg id ob) nx)\/(g'=g.new ob/\id=g.nx/\Rel C A bd w' γ' (upd hg id ob) (Nat.max nx (g.nx+1))))
 |.dfr _=>False
theorem dH:RV w γ A bd AV.undef undef:=.tup _ [] #[] rfl (by grind)
theorem KX{ty:TypeId}{n:Nat}{a x:T->AV}{t:T}{g:G}{va vx:Value}(hr:Rel C A bd w γ hg nx)
  (ha:RV w γ A bd (a t) va) (hx:RV w γ A bd (x t) vx) (hn:szT C.P ty=some n) (agree:∀id∈ak (a t),hg id=g.h.get id) :
  di C A bd w γ hg nx (do Instr.storeAt ty va vx;pure undef) g (pw n a x t g):=by
 unfold pw;generalize a t=y at *;generalize x t=z at *;cases ha with
 | hptr _ id ep i off b o hk he h =>
  have hagree:=agree id (by simp[ak]);simp only[G.get_eq,<-hagree];cases hid:hg id with
  | cells sz rows ep' loose fz =>
   simp only[aa,ax,dB,f8]
   split
   ·rename_i hc;simp only[Ts,notb_eq,UH]at hc;obtain⟨⟨⟨hep,hlen⟩,hfz⟩,htup⟩:=hc;have hep:=aL hep;have hlen:=aL hlen;subst hfz;subst hep;have hob:=hr.obj id;rw[hid]at hob;obtain⟨k1,k2,k3,k4,k5,k6,c,e,k7,k8,k9,k10⟩:=hob;obtain⟨c1,c2⟩:=h k2.symm;rw[k3]at c2;cases hrow:rows[i]? with
    |none=>trivial
    | some row =>
     dsimp only;cases hp:cL row off z.cells with
     |none=>trivial
     | some row' =>
      obtain⟨p1,p2,p3⟩:=qM hp;obtain⟨q1,q2⟩:=pF hx htup;have hrl:row.length=sz:=k9 i row hrow;have hi:i<rows.length:=(by grind);have hmul:(i+1)*sz<=rows.length*sz:=TT _ hi;rw[T_,UC]at hmul;have hvl:vx.cells.toList.length=z.cells.length:=q1.1.symm;obtain⟨w',r1,r2,r3⟩:=hr.storeCells hid (rows':=rows.set i row') (o:=(γ id).base+i*sz+off) (vs:=vx.cells.toList) q1 q2 (by simp)
       (λi' r' hr'=>by
        grind)
       ⟨by omega,by omega⟩
       (λi' j r' y hr' hy=>by
        rw[VL]at hr'
        by_cases hii:i=i'
        ·grind
        ·rw[TF hii]at hr';have hj:j<sz:=by grind
         rw[TF]
         ·grind
         ·rw[hvl];rintro⟨l1,l2⟩;exact hii (Mk (i:=i) (i':=i') hj (by omega) (by omega)).symm) C.P
      refine⟨undef,w',γ,id,.cells sz (rows.set i row') ep loose false,?_,dH,r3,.inl ⟨rfl,r2⟩⟩;have hsz:vx.cells.size=n:=by grind
      simp_all[Instr.storeAt,Instr.sureAddr,storeVar,bc]
   ·trivial
  |_=>trivial
 |_=>trivial
theorem D9{sz:Nat}{rows:List (List AV)}{cs:Array Value}(e:TypeId)(hr:Rel C A bd w γ hg nx){g:G}(hf:(γ g.nx).kind=0)
  (hrow:∀(i:Nat) row,rows[i]?=some row->row.length=sz)
  (hv:∀(i j:Nat) row x,rows[i]?=some row->row[j]?=some x->x.one=true/\∃v,cs[i*sz+j]?=some v/\RV w γ A bd x v)
  (loose:Bool) (slack:Nat) (hs:(loose=false->slack=0)/\(loose=true->rows.length+slack<=9223372036854775807)) (hc:(rows.length+slack)*sz<=cs.size) :
  ∃γ',Rel C A bd (World.add w (.cells cs e (0,0))) γ' (upd hg g.nx (.cells sz rows 0 loose false)) (Nat.max nx (g.nx+1))/\Stp w γ (World.add w (.cells cs e (0,0))) γ' /\
   (γ' g.nx).kind=1/\(γ' g.nx).ep=0/\(γ' g.nx).sz=sz/\(γ' g.nx).n=rows.length/\(γ' g.nx).blk=w.heap.size/\(γ' g.nx).base=0/\(γ' g.nx).slack=slack :=
 hr.newCells e hf (UM _ _) (by grind) hs hc hrow hv
theorem ig{P:Program}(e:TypeId)(cs:Array Value):(newRow e cs).run P w=.ok (adr w.heap.size 0) (World.add w (.cells cs e (0,0))):=by simp[newRow,adr,World.add]
theorem N7{ty:TypeId}{x:AV}{v:Value}{g:G}(hr:Rel C A bd w γ hg nx)(hx:RV w γ A bd x v)(hf:(γ g.nx).kind=0)(ht:x.isTup=false) :
  di C A bd w γ hg nx (Instr.box ty v) g (.upd (.hptr g.nx 0 0 0) (g.new (We (bL x.cells) [x.cells]))):=by
 obtain⟨q1,q2⟩:=pF hx ht;obtain⟨γ',r1,r2,r3,r4,r5,r6,r7,r8,r9⟩:=D9 (sz:=x.cells.length) (rows:=[x.cells]) (cs:=v.cells) ty hr hf
  (λi row h=>by grind)
  (λi j row y h hy=>by
   cases i with
   | zero =>
    simp at h;subst h;have hlt:j<v.cells.toList.length:=by rw[<-q1.1];grind
    have he:=Tn hlt;exact⟨q2 j y hy,_,by grind,q1.2 j y _ hy he⟩
   | succ i=>simp at h) false 0 (by grind) (by
    have:=q1.1;grind)
 rw[ax];refine⟨.pointer (some (adr w.heap.size 0)),_,γ',g.nx,_,?_,?_,r2,.inr ⟨rfl,rfl,r1⟩⟩
 ·simp[Instr.box,newVar,ig]
 ·exact .hptr _ _ _ _ _ _ _ r3 (by omega) (λ_=>⟨r7.symm,by omega⟩)
end
end Hx
end
section
namespace Hx
open Go
section
variable {C:Cfg}{A:Nat->Nat->Prop}{bd:Nat}{w:World}{γ:Gm}{hg:Nat->AObj}{nx:Nat}
theorem nP{P:Program}{ty:TypeId}{cs:List AV}(h:fS P ty=some cs):∃v,(zeroValue ty).run P w=.ok v w/\AX v.cells.toList=some cs:=by
 unfold fS at h;cases hi:P.info? ty with
 |none=>grind
 | some i =>
  rw[hi]at h;cases hz:i.zero with
  |none=>grind
  |some v=>simp_all[zeroValue,lI]
theorem JF{ty:TypeId}{cs:List AV}{g:G}(hr:Rel C A bd w γ hg nx)(hz:fS C.P ty=some cs)(hf:(γ g.nx).kind=0)(t:T) :
  di C A bd w γ hg nx (Instr.alloc ty true (.tuple #[])) g (Dr cs t g):=by
 obtain⟨v,h1,h2⟩:=nP (w:=w) hz;obtain⟨q1,q2⟩:=oD (w:=w) (γ:=γ) (A:=A) (bd:=bd) h2;obtain⟨γ',r1,r2,r3,r4,r5,r6,r7,r8,r9⟩:=D9 (sz:=cs.length) (rows:=[cs]) (cs:=v.cells) ty hr hf
  (λi row h=>by grind)
  (λi j row y h hy=>by
   cases i with
   | zero =>
    simp at h;subst h;have hlt:j<v.cells.toList.length:=by rw[<-q1.1];grind
    have he:=Tn hlt;exact⟨q2 j y hy,_,by grind,q1.2 j y _ hy he⟩
   | succ i=>simp at h) false 0 (by grind) (by
    have:=q1.1;grind)
 unfold Dr;rw[ax];refine⟨.pointer (some (adr w.heap.size 0)),_,γ',g.nx,_,?_,?_,r2,.inr ⟨rfl,rfl,r1⟩⟩
 ·simp_all[Instr.alloc,newVar,ig]
 ·exact .hptr _ _ _ _ _ _ _ r3 (by omega) (λ_=>⟨r7.symm,by omega⟩)
theorem wQ(vs:List Value):∀(off k:Nat) (c:Array Value),
  (vs.zipIdx k).foldl (λcs (p:Value×Nat)=>cs.setIfInBounds (off+p.2) p.1) c=bA c (off+k) vs:=by
 induction vs with
 |nil=>intro off k c;rfl
 |cons v vs ih=>intro off k c;simp only[List.zipIdx_cons,VI,bA];rw[ih];rfl
def py(w:World)(γ:Gm)(A:Nat->Nat->Prop)(bd:Nat)(xs:List AV)(c:Array Value):Prop :=
 RVs w γ A bd xs c.toList/\∀(i:Nat) y,xs[i]?=some y->y.one=true
theorem Ee{xs cs row':List AV}{c:Array Value}{vs:List Value}{off:Nat}(h:py w γ A bd xs c)(hv:RVs w γ A bd cs vs)
  (h1:∀(i:Nat) y,cs[i]?=some y->y.one=true) (hp:cL xs off cs=some row'):py w γ A bd row' (bA c off vs):=by
 obtain⟨p1,p2,p3⟩:=qM hp;have hl:off+vs.length<=c.size:=by have:=h.1.1;have:=hv.1;grind
 refine⟨⟨by have:=h.1.1;grind[bX],λi x v hx hv'=>?_⟩,λi y hy=>?_⟩
 ·rw[p3]at hx;simp only[Array.getElem?_toList]at hv';rw[cq _ _ _ _ hl]at hv';have:=hv.1
  split at hx
  ·rw[TE (by omega)]at hv';exact hv.2 _ _ _ hx hv'
  ·rw[TF (by omega)]at hv';exact h.1.2 _ _ _ hx (by grind)
 ·rw[p3]at hy
  split at hy
  ·grind
  ·exact h.2 _ _ hy
theorem J8{place:Nat->Option (Nat×Nat)}:∀{is:List Nat} {pl:List (Nat×Nat)} {xs:List AV} {vs:List Value} {zero cs:List AV} {c:Array Value},
  aK place is=some pl->py w γ A bd zero c->RVs w γ A bd xs vs->jN zero (pl.zip xs)=some cs->is.length=xs.length ->
  ∃c',Instr.fill place c (is.zip vs)=some c'/\py w γ A bd cs c':=by
 intro is
 induction is with
 | nil =>
  intro pl xs vs zero cs c hp hc hv h hl;simp[aK]at hp;subst hp;have:xs=[]:=T5 hl.symm;simp_all[jN,Instr.fill]
 | cons i is ih =>
  intro pl xs vs zero cs c hp hc hv h hl;cases xs with
  |nil=>cases hl
  | cons x xs =>
   cases vs with
   |nil=>have:=hv.1;grind
   | cons v vs =>
    simp only[aK]at hp;cases hpi:place i with
    |none=>grind
    | some q =>
     rw[hpi]at hp;cases hpr:aK place is with
     |none=>grind
     | some pl' =>
      rw[hpr]at hp;injection hp with hp;subst hp;obtain⟨off,size⟩:=q;simp only[Vl,jN,aa,ax]at h
      split at h
      ·rename_i hcond;simp only[Ts,notb_eq,UH]at hcond;obtain⟨h1,h2⟩:=hcond;have h1:=aL h1;cases hput:cL zero off x.cells with
       |none=>grind
       | some row' =>
        rw[hput]at h;have hx:=hv.2 0 x v rfl rfl;obtain⟨q1,q2⟩:=pF hx h2;have hsz:v.cells.size=size:=by rw[<-h1];have:=q1.1;grind
        have hin:=(qM hput).2.1;have hcs:zero.length=c.size:=by have:=hc.1.1;omega
        obtain⟨c',r1,r2⟩:=ih (c:=bA c off v.cells.toList) hpr (Ee hc q1 q2 hput) ⟨by have:=hv.1;simpa using this,λk y u hy hu=>hv.2 (k+1) y u (by grind) (by grind)⟩ h (by grind);refine⟨c',?_,r2⟩;have hfold:(v.cells.zipIdx.foldl (λcs (p:Value×Nat)=>cs.setIfInBounds (off+p.2) p.1) c)=bA c off v.cells.toList:=by rw[<-Array.foldl_toList,Array.toList_zipIdx];simp_all[wQ]
        simp only[Vl,Instr.fill,hpi]
        grind
      grind
theorem Ck{ty:TypeId}{parts:Array (Nat×Operand)}{zero:List AV}{pl:List (Nat×Nat)}{vs:T->List AV}{t:T}{g:G}{place:Nat->Option (Nat×Nat)}
  {ev:Operand->Value} (hz:fS C.P ty=some zero) (hv:RVs w γ A bd (vs t) ((parts.toList.map (·.2)).map ev))
  (hp:aK place (parts.toList.map (·.1))=some pl)
  (hrun:∀(z:Value) (cells:Array Value),(zeroValue ty).run C.P w=.ok z w->Instr.fill place z.cells ((parts.map λ(i,x)=>(i,ev x)).toList)=some cells ->
   (Instr.build ty (parts.map λ(i,x)=>(i,ev x))).run C.P w=.ok (.agg cells) w) :
  ValSim C A bd w γ (Instr.build ty (parts.map λ(i,x)=>(i,ev x))) (oO zero pl vs t g):=by
 unfold oO;cases hfl:jN zero (pl.zip (vs t)) with
 |none=>trivial
 | some cs =>
  obtain⟨z,z1,z2⟩:=nP (w:=w) hz;have zr:=oD (w:=w) (γ:=γ) (A:=A) (bd:=bd) z2;have hl:(parts.toList.map (·.1)).length=(vs t).length:=by have:=hv.1;grind
  obtain⟨c',r1,r2⟩:=J8 (c:=z.cells) hp zr hv hfl hl;have e:(parts.map λ(i,x)=>(i,ev x)).toList=(parts.toList.map (·.1)).zip ((parts.toList.map (·.2)).map ev):=by
   rw[Array.toList_map]
   grind
  exact⟨.agg c',hrun z c' z1 (by grind),.agg _ _ _ (by have:=r2.1.1;omega) r2.2 (λi x v hx hv=>r2.1.2 i x v hx (by grind))⟩
end
end Hx
end
section
namespace Hx
open Go
theorem IV{i j sz:Nat}(hj:j<sz):(i*sz+j) % sz=j:=by
 grind[Vg,Nat.mod_eq_of_lt]
section
variable {C:Cfg}{A:Nat->Nat->Prop}{bd:Nat}{w:World}{γ:Gm}{hg:Nat->AObj}{nx:Nat}
def iT(zero:Array Value)(n:Nat):Array Value:=(Array.range n).map (zero[· % zero.size]!)
theorem nV(zero:Array Value)(n:Nat):(iT zero n).size=n:=by simp[iT]
theorem K9{zero:Array Value}{n k:Nat}(h:k<n)(hz:0<zero.size):(iT zero n)[k]?=zero[k % zero.size]?:=by
 grind[U4,iT]
theorem Gb{n i:Nat}{row r:List AV}(h:(ie n row)[i]?=some r):r=row/\i<n:=by simp_all[ie,Uh]
def RowsRel(w:World)(γ:Gm)(A:Nat->Nat->Prop)(bd sz:Nat)(rows:List (List AV))(c:Array Value):Prop :=
 rows.length*sz<=c.size/\(∀(i:Nat) row,rows[i]?=some row->row.length=sz) /\
 ∀(i j:Nat) row x,rows[i]?=some row->row[j]?=some x->x.one=true/\∃v,c[i*sz+j]?=some v/\RV w γ A bd x v
theorem uo{ty:TypeId}{zero:List AV}{z:Value}{sz n m:Nat}(hz:AX z.cells.toList=some zero)(hsz:zero.length=sz)(h0:0<sz)(hn:n*sz<=m) :
  RowsRel w γ A bd sz (ie n zero) (iT z.cells m):=by
 obtain⟨q1,q2⟩:=oD (w:=w) (γ:=γ) (A:=A) (bd:=bd) hz;have hzs:z.cells.size=sz:=by have:=q1.1;grind
 refine⟨by grind[ie,nV],λi row h=>by rw[(Gb h).1];exact hsz,λi j row x h hx=>?_⟩;obtain⟨e,hi⟩:=Gb h;subst e;have hj:j<sz:=by grind
 have hlt:i*sz+j<n*sz:=by
  have:(i+1)*sz<=n*sz:=TT _ hi
  grind
 have hj':j<z.cells.toList.length:=by grind
 refine⟨q2 j x hx,z.cells.toList[j],?_,q1.2 j x _ hx (Tn hj')⟩
 grind[K9,IV]
theorem DS{sz:Nat}(h0:0<sz):∀{is:List Nat} {xs:List AV} {vs:List Value} {rows rows':List (List AV)} {c:Array Value} {n:Nat},
  RowsRel w γ A bd sz rows c->rows.length=n->c.size=n*sz->RVs w γ A bd xs vs->dy sz rows (is.zip xs)=some rows'->is.length=xs.length ->
  ∃c',Instr.fill (λi=>some (i*sz,sz)) c (is.zip vs)=some c'/\RowsRel w γ A bd sz rows' c'/\rows'.length=n/\c'.size=n*sz:=by
 intro is
 induction is with
 | nil =>
  intro xs vs rows rows' c n hc hl hcs hv h hle;have:xs=[]:=T5 hle.symm;simp_all[dy,Instr.fill]
 | cons i is ih =>
  intro xs vs rows rows' c n hc hl hcs hv h hle;cases xs with
  |nil=>cases hle
  | cons x xs =>
   cases vs with
   |nil=>have:=hv.1;grind
   | cons v vs =>
    simp only[Vl,dy,aa,ax,f8]at h
    split at h
    ·rename_i hcond;simp only[Ts,notb_eq,UH,UF]at hcond;obtain⟨⟨h1,h2⟩,h3⟩:=hcond;have h1:=aL h1;have hx:=hv.2 0 x v rfl rfl;obtain⟨q1,q2⟩:=pF hx h3;have hvl:v.cells.toList.length=sz:=by rw[<-q1.1,h1]
     have hmul:(i+1)*sz<=rows.length*sz:=TT _ h2;rw[T_,UC]at hmul;have hin:i*sz+v.cells.toList.length<=c.size:=by grind
     have hc':RowsRel w γ A bd sz (rows.set i x.cells) (bA c (i*sz) v.cells.toList):=by
      refine⟨by grind[bX],λk row hk=>?_,λk j row y hk hy=>?_⟩
      ·rw[VL]at hk
       by_cases hik:i=k
       ·grind
       ·rw[TF hik]at hk;exact hc.2.1 k row hk
      ·rw[VL]at hk;rw[cq _ _ _ _ hin]
       by_cases hik:i=k
       ·subst hik;rw[TE rfl,TE h2]at hk;injection hk with hk;subst hk;have hj:j<sz:=by grind
        have hjl:j<v.cells.toList.length:=by omega
        rw[TE (by omega),show i*sz+j - i*sz=j from by omega];exact⟨q2 j y hy,_,Tn hjl,q1.2 j y _ hy (Tn hjl)⟩
       ·rw[TF hik]at hk;have hj:j<sz:=by rw[<-hc.2.1 k row hk];grind
        rw[TF]
        ·exact hc.2.2 k j row y hk hy
        grind[Mk]
     obtain⟨c',r1,r2,r3,r4⟩:=ih (c:=bA c (i*sz) v.cells.toList) (n:=n) hc' (by simp[hl]) (by grind[bX])
      ⟨by have:=hv.1;simpa using this,λk y u hy hu=>hv.2 (k+1) y u (by grind) (by grind)⟩ h (by grind)
     refine⟨c',?_,r2,r3,r4⟩;have hfold:(v.cells.zipIdx.foldl (λcs (p:Value×Nat)=>cs.setIfInBounds (i*sz+p.2) p.1) c)=bA c (i*sz) v.cells.toList:=by rw[<-Array.foldl_toList,Array.toList_zipIdx];simp_all[wQ]
     have hvs:v.cells.size=sz:=by omega
     simp only[Vl,Instr.fill]
     grind
    grind
theorem qL{sz:Nat}{rows:List (List AV)}{cs:Array Value}(e:TypeId)(hr:Rel C A bd w γ hg nx){g:G}(hf:(γ g.nx).kind=0)
  (h:RowsRel w γ A bd sz rows cs) (len cap:Nat) (loose:Bool) (slack:Nat) (hs:(loose=false->slack=0)/\(loose=true->rows.length+slack<=9223372036854775807)) (hc:(rows.length+slack)*sz<=cs.size)
  (hcap:cap=rows.length+slack) (hlen:len<=rows.length) :
  ∃γ',Rel C A bd (World.add w (.cells cs e (0,0))) γ' (upd hg g.nx (.cells sz rows 0 loose false)) (Nat.max nx (g.nx+1))/\Stp w γ (World.add w (.cells cs e (0,0))) γ' /\
   RV (World.add w (.cells cs e (0,0))) γ' A bd (.hsl g.nx 0 0 len none) (.slice (some (adr w.heap.size 0)) len cap):=by
 obtain⟨γ',r1,r2,r3,r4,r5,r6,r7,r8,r9⟩:=D9 (sz:=sz) (rows:=rows) (cs:=cs) e hr hf h.2.1 h.2.2 loose slack hs hc;refine⟨γ',r1,r2,.hsl _ _ _ _ _ _ _ _ _ r3 (by omega) (by omega) λ_=>⟨r7.symm,by omega,?_⟩⟩
 grind[iV]
theorem zN{ty e:TypeId}{len sz:Nat}{parts:Array (Nat×Operand)}{zero:List AV}{vs:T->List AV}{t:T}{g:G}{ev:Operand->Value}
  (hr:Rel C A bd w γ hg nx) (hf:(γ g.nx).kind=0) (hu:C.P.underlying ty=some (.slice e)) (hsz:szT C.P e=some sz) (hz:fS C.P e=some zero)
  (hzl:zero.length=sz) (h0:0<sz) (hsmall:len*sz<=1048576) (hv:RVs w γ A bd (vs t) ((parts.toList.map (·.2)).map ev)) :
  di C A bd w γ hg nx (Instr.buildSlice ty len (parts.map λ(i,x)=>(i,ev x))) g (il sz len (ie len zero) (parts.toList.map (·.1)) vs t g):=by
 unfold il;cases hfl:dy sz (ie len zero) ((parts.toList.map (·.1)).zip (vs t)) with
 |none=>trivial
 | some rows =>
  obtain⟨z,z1,z2⟩:=nP (w:=w) hz;have hzs:z.cells.size=sz:=by have:=(oD (w:=w) (γ:=γ) (A:=A) (bd:=bd) z2).1.1;grind
  have hl:(parts.toList.map (·.1)).length=(vs t).length:=by have:=hv.1;grind
  obtain⟨c',r1,r2,r3,r4⟩:=DS h0 (c:=iT z.cells (len*sz)) (n:=len) (uo (ty:=e) (w:=w) (γ:=γ) (A:=A) (bd:=bd) z2 hzl h0 (Tp _)) (by simp[ie]) (nV _ _) hv hfl hl;have he:(parts.map λ(i,x)=>(i,ev x)).toList=(parts.toList.map (·.1)).zip ((parts.toList.map (·.2)).map ev):=by
   rw[Array.toList_map]
   grind
  have hrun:(Instr.buildSlice ty len (parts.map λ(i,x)=>(i,ev x))).run C.P w=.ok (.slice (some (adr w.heap.size 0)) len len) (World.add w (.cells c' e (0,0))):=by
   have hbig:¬(2 ^ 24<len*sz):=by omega
   unfold Instr.buildSlice;rw[he]
   by_cases h:len*sz=0
   ·have e0:iT z.cells (len*sz)=#[]:=by grind[iT]
    rw[e0]at r1;have e1:(Array.range 0).map (λx=>(#[]:Array Value)[x % (#[]:Array Value).size]!)=#[]:=by simp
    simp only[T0,aH hu,TN,bc hsz];rw[TF (by omega)];simp only[T0,h,if_true,UT,TN,e1,r1,ig]
   ·have e0:(Array.range (len*sz)).map (λx=>z.cells[x % z.cells.size]!)=iT z.cells (len*sz):=rfl;simp only[T0,aH hu,TN,bc hsz];simp_all[ig]
  obtain⟨γ',s1,s2,s3⟩:=qL (w:=w) e hr hf r2 len len false 0 (by grind) (by grind) (by omega) (by omega);exact⟨_,_,γ',g.nx,_,hrun,s3,s2,.inr ⟨rfl,rfl,s1⟩⟩
end
end Hx
end
section
namespace Hx
open Go
section
variable {C:Cfg}{A:Nat->Nat->Prop}{bd:Nat}{w:World}{γ:Gm}{hg:Nat->AObj}{nx:Nat}
theorem wY{lim n:Nat}{x:AV}{v:Value}(h:dA lim x=some n)(hv:RV w γ A bd x v):n<=lim/\∃k,v=.int k (n:Int):=by
 unfold dA at h
 split at h
 ·rw[aa]at h
  split at h
  ·rename_i hl;rw[T8]at hl;injection h with h;subst h;cases hv<;>grind
  grind
 grind
theorem qW(n:Nat)(h:n<9223372036854775808):IntKind.wrap .i64 (n:Int)=(n:Int):=nU n h
theorem B5{ty e:TypeId}{sz bytes:Nat}{zero:List AV}{l c:T->AV}{t:T}{g:G}{vl vc:Value}
  (hr:Rel C A bd w γ hg nx) (hf:(γ g.nx).kind=0) (hu:C.P.underlying ty=some (.slice e)) (hsz:szT C.P e=some sz) (hby:jQ C.P e=some bytes) (hz:fS C.P e=some zero)
  (hzl:zero.length=sz) (h0:0<sz) (hl:RV w γ A bd (l t) vl) (hc:RV w γ A bd (c t) vc) :
  di C A bd w γ hg nx (Instr.makeSlice ty vl vc) g (ic sz bytes zero l c t g):=by
 unfold ic;cases hcn:dA aQ (c t) with
 |none=>trivial
 | some cn =>
  dsimp only;cases hln:dA cn (l t) with
  |none=>trivial
  | some ln =>
   dsimp only;rw[aa]
   split
   ·rename_i hroom;rw[T8]at hroom;obtain⟨c1,kc,rfl⟩:=wY hcn hc;obtain⟨l1,kl,rfl⟩:=wY hln hl;obtain⟨z,z1,z2⟩:=nP (w:=w) hz;have hzs:z.cells.size=sz:=by have:=(oD (w:=w) (γ:=γ) (A:=A) (bd:=bd) z2).1.1;grind
    unfold aQ at c1 hroom;obtain⟨γ',s1,s2,s3⟩:=qL (w:=w) (cs:=iT z.cells (cn*sz)) e hr hf (uo (ty:=e) (n:=cn) z2 hzl h0 (Tp _)) ln cn false 0 (by grind)
     (by simp[ie,nV]) (by simp[ie]) (by grind[ie])
    refine⟨_,_,γ',g.nx,_,?_,s3,s2,.inr ⟨rfl,rfl,s1⟩⟩;have hi:∃i,C.P.info? e=some i/\i.bytes=bytes:=by simp_all[jQ]
    obtain⟨i,i1,i2⟩:=hi;have w1:=qW ln (by omega);have w2:=qW cn (by omega);have hb1:¬((bytes:Int)*(cn:Int) > 2 ^ 48):=by
     grind
    have hb2:¬((bytes:Int)*(ln:Int) > 2 ^ 48):=by
     have h3:ln*bytes<=cn*bytes:=TT _ l1
     grind
    unfold Instr.makeSlice;simp only[T0,aH hu,TN,asInt,asIntOf,UT,lI i1,i2,w1,w2];rw[TF (by grind)];simp only[T0,run_askRoom,TN,bc hsz,TH]
    by_cases h:cn*sz=0
    ·have e0:iT z.cells (cn*sz)=#[]:=by grind[iT]
     have e1:(Array.range 0).map (λx=>(#[]:Array Value)[x % (#[]:Array Value).size]!)=#[]:=by simp
     rw[e0,h];simp only[if_true,T0,UT,TN,e1,ig]
    ·have e0:(Array.range (cn*sz)).map (λx=>z.cells[x % z.cells.size]!)=iT z.cells (cn*sz):=rfl;simp_all[ig]
   ·trivial
theorem th{f:Field}{n b o:Nat}(hn:szT C.P f.type=some (n+1)):(fieldPlace (adr b o) f).run C.P w=.ok (adr b (o+f.offset)) w:=by simp_all[fieldPlace,bc,fT]
theorem BY{ty:TypeId}{f fo n:Nat}{ft:TypeId}{a:T->AV}{t:T}{g:G}{va:Value}
  (ha:RV w γ A bd (a t) va) (hf:tj C.P ty f=some (fo,ft)) (hn:szT C.P ft=some (n+1)) :
  ValSim C A bd w γ (Instr.fieldAt ty va f) (kh fo a t g):=by
 unfold tj at hf;cases hu:C.P.underlying ty with
 |none=>grind
 | some d =>
  rw[hu]at hf;cases d with
  | struct fs =>
   dsimp only at hf;cases hx:fs[f]? with
   |none=>grind
   | some x =>
    rw[hx]at hf;injection hf with hf;injection hf with h1 h2;subst h1;subst h2;unfold kh;generalize a t=y at *;cases ha with
    | tptr _ tag sz rows i0 off0 b o cell ht hb hm ha' hrl ho hw h hcl =>
     refine⟨_,?_,.tptr _ tag sz rows i0 (off0+x.offset) b o cell ht hb hm ha' hrl ho hw h hcl⟩;simp_all[Instr.fieldAt,Instr.sureAddr,Vd,aH,th]
    | hptr _ id ep i off b o hk he h =>
     refine⟨.pointer (some (adr b (o+x.offset))),?_,.hptr _ id ep i (off+x.offset) b _ hk he λe=>?_⟩
     ·simp_all[Instr.fieldAt,Instr.sureAddr,aH,th]
     omega
    |_=>trivial
  |_=>cases hf
theorem FW{ty:TypeId}{ag:Bool}{n off:Nat}{cs:List AV}{c:Array Value}{x:AV}(hc:py w γ A bd cs c)
  (hag:rT C.P ty=some ag) (hn:szT C.P ty=some n) (h:ch ag n cs off=some x):∃v,(part ty c off).run C.P w=.ok v w/\RV w γ A bd x v:=by
 unfold ch at h;cases ag with
 | false =>
  simp only[dB]at h;have hl:off<c.toList.length:=by rw[<-hc.1.1];grind
  have hl':off<c.size:=by omega
  refine⟨c[off],?_,hc.1.2 off x _ h (by grind)⟩;simp_all[part,mQ]
 | true =>
  simp only[a_,bj,ax,aa]at h
  split at h
  ·rename_i hl;have hl:=aL hl;injection h with h;subst h;have hcs:cs.length=c.size:=by have:=hc.1.1;omega
   have hln:off+n<=c.size\/n=0:=by grind
   refine⟨.agg (c.extract off (off+n)),by simp_all[part,mQ,bc],.agg _ _ _ (by grind) (λi y hy=>?_) (λi y v hy hv=>?_)⟩
   ·have hi:i<n:=by grind
    rw[Uy hi,UZ]at hy;exact hc.2 _ _ hy
   ·have hi:i<n:=by grind
    rw[Uy hi,UZ]at hy;rw[Array.getElem?_extract]at hv
    split at hv
    ·exact hc.1.2 _ _ _ hy (by grind)
    omega
  grind
theorem Ch{cs:List AV}{v:Value}(h:RV w γ A bd (.agg cs) v):∃c,v=.agg c/\py w γ A bd cs c:=by
 cases h with
 |agg _ _ c hl h1 h'=>exact⟨c,rfl,⟨by omega,λi x v hx hv=>h' i x v hx (by grind)⟩,h1⟩
theorem J7{ty:TypeId}{f fo n:Nat}{ft:TypeId}{ag:Bool}{y:AV}{va:Value}
  (ha:RV w γ A bd y va) (hf:tj C.P ty f=some (fo,ft)) (hag:rT C.P ft=some ag) (hn:szT C.P ft=some n) :
  ValSim C A bd w γ (Instr.field ty va f) (match y with|.agg cs=>orV (ch ag n cs fo)|_=>.fail):=by
 unfold tj at hf;cases hu:C.P.underlying ty with
 |none=>grind
 | some d =>
  rw[hu]at hf;cases d with
  | struct fs =>
   dsimp only at hf;cases hx:fs[f]? with
   |none=>grind
   | some x =>
    rw[hx]at hf;injection hf with hf;injection hf with h1 h2;subst h1;subst h2;cases y with
    | agg cs =>
     obtain⟨c,rfl,hc⟩:=Ch ha;refine oE λz hz=>?_;obtain⟨v,h1,h2⟩:=FW hc hag hn hz;simp_all[Instr.field,asAgg,aH]
    |_=>trivial
  |_=>cases hf
theorem AB{k:IntKind}{n:Int}{v:Value}(h:RV w γ A bd (.int k n) v):v=.int k n:=by cases h;rfl
theorem Fx{ty e:TypeId}{sz:Nat}{a ix:T->AV}{t:T}{g:G}{va vi:Value}(hr:Rel C A bd w γ hg nx)
  (ha:RV w γ A bd (a t) va) (hi:RV w γ A bd (ix t) vi) (hu:C.P.underlying ty=some (.slice e)) (hsz:szT C.P e=some sz)
  (agree:∀id∈ak (a t),hg id=g.h.get id) :
  ValSim C A bd w γ (Instr.indexAt ty va vi) (gN sz a ix t g):=by
 unfold gN;generalize a t=y at *;generalize ix t=z at *;cases ha with
 | tsl _ tag sz' rows b o cap cell ht hc hb hm ha' hrl ho hw h hcl =>
  dsimp only
  split
  ·rename_i k i;rw[aa]
   split
   ·rename_i hcond;simp only[Ts,UF,ax]at hcond;obtain⟨h1,h2⟩:=hcond;have h1:=aL h1;subst h1;have hvi:=AB hi;subst hvi;refine⟨_,?_,.tptr _ tag sz rows i 0 b o cell ht hb hm ha' hrl ho hw h hcl⟩;simp[Instr.indexAt,asIntOf,aH hu,h2,bc hsz,fT]
   ·trivial
  ·trivial
 | tnil _ tag sz' a' cap ht =>
  dsimp only
  split
  ·rename_i k i;rw[aa]
   split
   ·simp_all[ax]
   ·trivial
  ·trivial
 | hsl _ id ep off len lim b o cap hk he hc h =>
  have hagree:=agree id (by simp[ak]);dsimp only
  split
  ·rename_i k i;simp only[G.get_eq,<-hagree];cases hid:hg id with
   | cells sz' rows ep' loose fz =>
    dsimp only;rw[aa]
    split
    ·rename_i hcond;simp only[Ts,UF]at hcond;obtain⟨⟨h1,h2⟩,h3⟩:=hcond;have h1:=aL h1;have h2:=aL h2;subst h2;have hvi:=AB hi;subst hvi;have hob:=hr.obj id;rw[hid]at hob;obtain⟨k1,k2,k3,_⟩:=hob;obtain⟨c1,c2,_⟩:=h (h1.trans k2.symm);refine⟨.pointer (some (adr b (o+i*sz))),?_,.hptr _ id ep (off+i) 0 b _ hk he λ_=>⟨c1,?_⟩⟩
     ·simp[Instr.indexAt,asIntOf,aH hu,h3,bc hsz,fT]
     grind
    ·trivial
   |_=>trivial
  ·trivial
 |_=>trivial
theorem Fw{ty e:TypeId}{n sz:Nat}{a ix:T->AV}{t:T}{g:G}{va vi:Value}
  (ha:RV w γ A bd (a t) va) (hi:RV w γ A bd (ix t) vi) (hu:C.P.underlying ty=some (.array n e)) (hsz:szT C.P e=some sz) :
  ValSim C A bd w γ (Instr.indexAt ty va vi) (nH n sz a ix t g):=by
 unfold nH;generalize a t=y at *;generalize ix t=z at *
 split
 ·rename_i k i;rw[aa]
  split
  ·rename_i hlt;rw[UF]at hlt;have hvi:=AB hi;subst hvi;have h2:=hlt;cases ha with
   | tptr _ tag sz' rows i0 off0 b o cell ht hb hm ha' hrl ho hw h hcl =>
    refine⟨_,?_,.tptr _ tag sz' rows i0 (off0+i*sz) b o cell ht hb hm ha' hrl ho hw h hcl⟩;simp[Instr.indexAt,asIntOf,aH hu,h2,bc hsz,fT,Instr.sureAddr,Vd]
   | hptr _ id ep j off b o hk he h =>
    refine⟨.pointer (some (adr b (o+i*sz))),?_,.hptr _ id ep j (off+i*sz) b _ hk he λe=>?_⟩
    ·simp[Instr.indexAt,asIntOf,aH hu,h2,bc hsz,fT,Instr.sureAddr]
    omega
   |_=>trivial
  ·trivial
 ·trivial
theorem Ke{ty e:TypeId}{ag:Bool}{n sz:Nat}{a ix:T->AV}{t:T}{g:G}{va vi:Value}
  (ha:RV w γ A bd (a t) va) (hi:RV w γ A bd (ix t) vi) (hu:C.P.underlying ty=some (.array n e)) (hag:rT C.P e=some ag) (hsz:szT C.P e=some sz) :
  ValSim C A bd w γ (Instr.index ty va vi) (vL ag n sz a ix t g):=by
 unfold vL;generalize a t=y at *;generalize ix t=z at *;cases y with
 | agg cs =>
  dsimp only
  split
  ·rename_i k i;rw[aa]
   split
   ·rename_i hlt;rw[UF]at hlt;have hvi:=AB hi;subst hvi;have h2:=hlt;obtain⟨c,rfl,hc⟩:=Ch ha;refine oE λx hx=>?_;obtain⟨v,h1,h3⟩:=FW hc hag hsz hx;simp_all[Instr.index,asIntOf,aH,bc]
   ·trivial
  ·trivial
 |_=>trivial
theorem D2{ty:TypeId}{a ix:T->AV}{t:T}{g:G}{va vi:Value}
  (ha:RV w γ A bd (a t) va) (hi:RV w γ A bd (ix t) vi) (hu:C.P.underlying ty=some .string) :
  ValSim C A bd w γ (Instr.index ty va vi) (qb a ix t g):=by
 unfold qb;generalize a t=y at *;generalize ix t=z at *;cases ha with
 | str _ s =>
  dsimp only
  split
  ·rename_i k i;simp only[dB];cases hb:s.data.toList[i]? with
   |none=>trivial
   | some b =>
    have hvi:=AB hi;subst hvi;refine⟨.int .u8 b.toNat,?_,.int _ _ _⟩;have hlt:i<s.size:=by have:=(Tu.1 hb).1;simp_all
    have hb':s[i]?=some b:=by rw[getElem?_pos s i hlt];have:=(Tu.1 hb).2;rw[Array.getElem_toList]at this;exact congrArg some this
    simp_all[Instr.index,asIntOf,aH]
  ·trivial
 |_=>trivial
end
end Hx
end
section
namespace Hx
open Go
section
variable {C:Cfg}{A:Nat->Nat->Prop}{bd:Nat}{w w':World}{γ γ':Gm}{hg:Nat->AObj}{nx:Nat}
def RowsAt(w:World)(γ:Gm)(A:Nat->Nat->Prop)(bd sz:Nat)(rows:List (List AV))(b o:Nat):Prop :=
 (∀(i:Nat) row,rows[i]?=some row->row.length=sz) /\
 ∀(i j:Nat) row x,rows[i]?=some row->row[j]?=some x->x.one=true/\∃v,w.cell? (adr b (o+i*sz+j))=some v/\RV w γ A bd x v
theorem C3{rows:List (List AV)}{sz k:Nat}(hr:∀(i:Nat) row,rows[i]?=some row->row.length=sz)(hk:k<rows.length*sz) :
  ∃row x,rows[k / sz]?=some row/\row[k % sz]?=some x:=by
 have h0:0<sz:=by
  grind
 have hi:k / sz<rows.length:=by simp_all[Nat.div_lt_iff_lt_mul]
 have e:=Tn hi;have hl:=hr _ _ e;simp_all[U4]
theorem AK{rows:List (List AV)}{sz b o:Nat}(h:RowsAt w γ A bd sz rows b o)(P:Program) :
  ∃c,(loadCells (adr b o) (rows.length*sz)).run P w=.ok c w/\c.size=rows.length*sz/\RowsRel w γ A bd sz rows c:=by
 have hex:∀k:Fin (rows.length*sz),∃v,w.cell? (adr b (o+k.1))=some v/\∀row x,rows[k.1 / sz]?=some row->row[k.1 % sz]?=some x->x.one=true/\RV w γ A bd x v:=by intro k;obtain⟨row,x,h1,h2⟩:=C3 h.1 k.2;obtain⟨a,v,c1,c2⟩:=h.2 _ _ row x h1 h2;refine⟨v,?_,λrow' x' h1' h2'=>?_⟩<;>grind[V7]
 let f:Fin (rows.length*sz)->Value:=λk=>Classical.choose (hex k)
 have hf:=λk=>Classical.choose_spec (hex k);have hlen:(List.ofFn f).length=rows.length*sz:=by simp
 have hrun:=uP (P:=P) (w:=w) (b:=b) (o:=o) (cs:=List.ofFn f) (λj c hc=>by
  grind)
 rw[hlen]at hrun;refine⟨_,hrun,by simp,by simp,h.1,λi j row x h1 h2=>?_⟩;have hi:i<rows.length:=(by grind);have hj:j<sz:=by rw[<-h.1 i row h1];grind
 have hk:i*sz+j<rows.length*sz:=by
  have:(i+1)*sz<=rows.length*sz:=TT _ hi
  grind
 have e1:(i*sz+j) / sz=i:=by
  grind[U9,Vm]
 obtain⟨a,b'⟩:=(hf ⟨i*sz+j,hk⟩).2 row x (by rw[e1];exact h1) (by rw[IV hj];exact h2)<;>grind
theorem RowsAt.sub{rows:List (List AV)}{sz b o:Nat}(h:RowsAt w γ A bd sz rows b o)(l n:Nat):RowsAt w γ A bd sz ((rows.drop l).take n) b (o+l*sz):=by
 refine⟨λi row hi=>?_,λi j row x hi hj=>?_⟩
 ·have hi':i<n:=by
   grind
  rw[Uy hi',UZ]at hi;exact h.1 _ _ hi
 ·have hi':i<n:=by
   grind
  rw[Uy hi',UZ]at hi;obtain⟨a,v,c1,c2⟩:=h.2 _ _ row x hi hj<;>grind
theorem AU(hr:Rel C A bd w γ hg nx){id sz ep:Nat}{rows:List (List AV)}{loose fz:Bool}(hid:hg id=.cells sz rows ep loose fz) :
  RowsAt w γ A bd sz rows (γ id).blk (γ id).base:=by
 have hob:=hr.obj id;rw[hid]at hob;obtain⟨k1,k2,k3,k4,k5,k6,c,e,k7,k8,k9,k10⟩:=hob;exact⟨k9,λi j row x h1 h2=>uf hr hid h1 j x h2⟩
theorem HM(hr:Rel C A bd w γ hg nx){sz:Nat}{x:AV}{v:Value}{h:H}{rows:List (List AV)}(hx:RV w γ A bd x v)
  (hrow:ac h sz x=some rows) (agree:∀id∈ak x,hg id=h.get id) :
  ∃b o cap,(v=.slice none 0 0/\rows=[]\/v=.slice (some (adr b o)) rows.length cap\/(∃a,v=.slice (some a) 0 cap)/\rows=[])/\RowsAt w γ A bd sz rows b o:=by
 unfold ac at hrow;cases hx with
 |nils=>injection hrow with hrow;subst hrow;exact⟨0,0,0,.inl ⟨rfl,rfl⟩,(by grind),(by grind)⟩
 |esl _ a=>injection hrow with hrow;subst hrow;exact⟨0,0,0,(by grind),(by grind),(by grind)⟩
 | tnil _ tag sz' a cap ht =>
  simp only[aa]at hrow
  split at hrow
  ·injection hrow with hrow;subst hrow;exact⟨0,0,cap,(by grind),(by grind),(by grind)⟩
  grind
 | tsl _ tag sz' rows' b o cap cell ht hc hb hm ha hrl ho hw h =>
  simp only[aa]at hrow
  split at hrow
  ·rename_i hcond;injection hrow with hrow;subst hrow;refine⟨b,o,cap,.inr (.inl rfl),?_⟩;simp only[Uo]at hcond;rcases hcond with hcond|hcond
   ·have:=aL hcond;subst this;exact⟨hrl,λi j row x h1 h2=>⟨ho i j row x h1 h2,_,hw i j row x h1 h2,(h i j row x h1 h2).mono ht⟩⟩
   ·have:rows'=[]:=by grind
    subst this;exact⟨λi row h=>by simp at h,λi j row x h=>by simp at h⟩
  grind
 | hsl _ id ep off len lim b o cap hk he hc h =>
  have hagree:=agree id (by simp[ak]);dsimp only at hrow;rw[<-hagree]at hrow;cases hid:hg id with
  | cells sz' rows' ep' loose fz =>
   rw[hid]at hrow;simp only[aa,ax,a_,bj]at hrow
   split at hrow
   ·rename_i hcond;simp only[Ts,T8]at hcond;obtain⟨⟨h1,h2⟩,h3⟩:=hcond;have h1:=aL h1;have h2:=aL h2;subst h2;injection hrow with hrow;subst hrow;have hob:=hr.obj id;rw[hid]at hob;obtain⟨k1,k2,k3,_⟩:=hob;obtain⟨c1,c2,_⟩:=h (h1.trans k2.symm);refine⟨b,o,cap,.inr (.inl ?_),?_⟩
    ·grind
    ·rw[c1,c2,k3];exact (AU hr hid).sub off len
   grind
  |_=>grind
 |_=>cases hrow
theorem RowsRel.append{sz:Nat}{r1 r2:List (List AV)}{c1 c2:Array Value}(h1:RowsRel w γ A bd sz r1 c1)(e1:c1.size=r1.length*sz)(h2:RowsRel w γ A bd sz r2 c2) :
  RowsRel w γ A bd sz (r1++r2) (c1++c2):=by
 refine⟨by have:=h2.1;grind[T_],λi row hi=>?_,λi j row x hi hj=>?_⟩
 ·rw[Vo]at hi
  split at hi
  ·exact h1.2.1 _ _ hi
  ·exact h2.2.1 _ _ hi
 ·rw[Vo]at hi
  split at hi
  ·rename_i hlt;obtain⟨a,v,b1,b2⟩:=h1.2.2 i j row x hi hj<;>grind
  ·rename_i hge;obtain⟨a,v,b1,b2⟩:=h2.2.2 _ j row x hi hj;have:i*sz=r1.length*sz+(i - r1.length)*sz:=by rw[<-T_];grind
   grind
theorem RowsRel.more{sz:Nat}{r1:List (List AV)}{c1 c2:Array Value}(h1:RowsRel w γ A bd sz r1 c1):RowsRel w γ A bd sz r1 (c1++c2):=by refine⟨by have:=h1.1;grind,h1.2.1,λi j row x hi hj=>?_⟩;obtain⟨a,v,b1,b2⟩:=h1.2.2 i j row x hi hj<;>grind
theorem RowsRel.step{sz:Nat}{r1:List (List AV)}{c1:Array Value}(h1:RowsRel w γ A bd sz r1 c1)(s:Stp w γ w' γ'):RowsRel w' γ' A bd sz r1 c1 :=
 ⟨h1.1,h1.2.1,λi j row x hi hj=>let ⟨a,v,b1,b2⟩:=h1.2.2 i j row x hi hj;⟨a,v,b1,b2.step s⟩⟩
theorem RowsRel.flat{sz:Nat}{rows:List (List AV)}{c:Array Value}(h:RowsRel w γ A bd sz rows c)(e:c.size=rows.length*sz) :
  RVs w γ A bd rows.flatten c.toList/\(∀(i:Nat) y,rows.flatten[i]?=some y->y.one=true) /\
  (∀(i j:Nat) row,rows[i]?=some row->j<sz->rows.flatten[i*sz+j]?=row[j]?):=by
 have hfl:rows.flatten.length=rows.length*sz:=by
  have h2:=h.2.1;clear e h
  induction rows with
  |nil=>simp
  | cons r rs ih =>
   have h0:=h2 0 r rfl;simp only[List.flatten_cons,TP,Ud,T_,UC];rw[ih (λi row hi=>h2 (i+1) row (by grind)),h0];omega
 have hidx:∀(i j:Nat) row,rows[i]?=some row->j<sz->rows.flatten[i*sz+j]?=row[j]?:=by
  have h2:=h.2.1;clear e hfl h
  induction rows with
  |nil=>grind
  | cons r rs ih =>
   intro i j row hi hj;have h0:=h2 0 r rfl;cases i with
   |zero=>grind
   | succ i =>
    simp only[List.flatten_cons];rw[T_,UC,TB (by omega),h0,show i*sz+sz+j - sz=i*sz+j from by omega];exact ih (λi row hi=>h2 (i+1) row (by grind)) i j row (by grind) hj
 have hall:∀(k:Nat) y,rows.flatten[k]?=some y->∃row,rows[k / sz]?=some row/\row[k % sz]?=some y/\k / sz*sz+k % sz=k:=by
  intro k y hy;have hk:k<rows.length*sz:=by grind
  obtain⟨row,x,h1,h2⟩:=C3 h.2.1 hk;have h0:0<sz:=by
   grind
  have ek:k / sz*sz+k % sz=k:=by grind[V7]
  have:=hidx _ _ row h1 (U4 k h0)
  grind
 refine⟨⟨by grind,λk y v hy hv=>?_⟩,λk y hy=>?_,hidx⟩
 ·obtain⟨row,h1,h2,h3⟩:=hall k y hy;obtain⟨a,u,b1,b2⟩:=h.2.2 _ _ row y h1 h2<;>grind
 ·obtain⟨row,h1,h2,h3⟩:=hall k y hy;exact (h.2.2 _ _ row y h1 h2).1
end
end Hx
end
section
namespace Hx
open Go
section
variable {C:Cfg}{A:Nat->Nat->Prop}{bd:Nat}{w w':World}{γ γ':Gm}{hg:Nat->AObj}{nx:Nat}
def World.drewn(w:World):World:={ w with drawn:=w.drawn+1 }
theorem yf:Stp w γ (World.drewn w) γ :=
 ⟨Tp _,rfl,rfl,rfl,λ_ _ _=>rfl,λ_ _ h=>h,(by grind),(by grind),VB _⟩
theorem Rel.stpSame(h:Rel C A bd w γ hg nx)(s:Stp w γ w' γ)(hh:w'.heap=w.heap):Rel C A bd w' γ hg nx where
 obj id:=(h.obj id).step s rfl (by grind)
 lt id hk:=by rw[hh];exact h.lt id hk
 inj:=h.inj
 av:=h.av
 ab t b hb:=by rw[hh];exact h.ab t b hb
 glob g sz rows hg:=(h.glob g sz rows hg).step s
theorem zl(need cap:Nat)(h:cap<need):Builtin.nextslicecap need cap<=2*need+192:=by
 grind[Builtin.growBy,Builtin.nextslicecap]
theorem MS:∀{vs:List Value} {as:List AV},AX vs=some as->vs.length=as.length:=by
 intro vs
 induction vs<;>grind[AX]
structure Src (C:Cfg) (A:Nat->Nat->Prop) (bd sz:Nat) (w:World) (γ:Gm) (new:List (List AV)) (m:Sem (Array Value)):Prop where
 run:∀w1:World,w1.heap=w.heap->∃c,m.run C.P w1=.ok c w1/\c.size=new.length*sz/\RowsRel w γ A bd sz new c
def iW(e:TypeId)(sz bytes:Nat)(base:Option Addr)(sLen sCap n:Nat)(iT:Bool)(s x:Value)(appended:Sem (Array Value)):Sem Value:=do
 let need:=sLen+n
 if need<=sCap then
  let new <-appended
  if let some a:=base then storeCells (a.add (sLen*sz)) new.toList
  pure (.slice base need sCap)
 else
  if (need : Int) > IntKind.i64.max ∧ (iT ∨ (← typeInfo e).bytes = 0) then runtimePanic (.error "growslice: len out of range")
  if Builtin.nextslicecap need sCap * (← typeInfo e).bytes > 2 ^ 48 then (if iT then runtimePanic (.error "growslice: len out of range") else do
   if !(<-Builtin.mayShare sz sLen n base x) then mark .noRoom
   unsupported (.resourceLimit "append: a slice or a string whose bytes no memory bears"))
  let newCap <-choose (.appendCap need sCap e)
  askRoom (newCap*(<-typeInfo e).bytes)
  let old <-Builtin.firstCells sz sLen s
  let new <-appended
  let rest:=Builtin.zeroCells (<-zeroValue e).cells (newCap - need)
  pure (.slice (some (<-newRow e (old++new++rest))) need newCap)
theorem qg{e:TypeId}{sz bytes:Nat}{base:Option Addr}{sLen sCap n:Nat}{zs:Bool}{s x:Value}{appended:Sem (Array Value)}{zero:List AV}
  (hby:jQ C.P e=some bytes) (hz:fS C.P e=some zero) (hzl:zero.length=sz) (h0:0<bytes) (hroom:(sLen+n)*bytes<=aQ) (hn:¬sLen+n<=sCap)
  {oldc newc:Array Value} (hold:(Builtin.firstCells sz sLen s).run C.P (World.drewn w)=.ok oldc (World.drewn w))
  (hnew:appended.run C.P (World.drewn w)=.ok newc (World.drewn w)) :
  ∃newCap rest,(sLen+n<=newCap/\newCap<=9223372036854775807)/\rest.size=(newCap - (sLen+n))*sz /\
   (iW e sz bytes base sLen sCap n zs s x appended).run C.P w =
    .ok (.slice (some (adr w.heap.size 0)) (sLen+n) newCap) (World.add (World.drewn w) (.cells (oldc++newc++rest) e (0,0))):=by
 have hi:∃i,C.P.info? e=some i/\i.bytes=bytes:=by simp_all[jQ]
 obtain⟨i,i1,i2⟩:=hi;obtain⟨z,z1,z2⟩:=nP (w:=World.drewn w) hz;have hzs:z.cells.size=sz:=by have:=MS z2;grind
 unfold aQ at hroom;have hle:sLen+n<=(sLen+n)*bytes:=Nat.le_mul_of_pos_right _ h0;have hns:=zl (sLen+n) sCap (by omega);have hb1:Builtin.nextslicecap (sLen+n) sCap*bytes<=2 ^ 48:=by
  have h1:Builtin.nextslicecap (sLen+n) sCap*bytes<=(2*(sLen+n)+192)*bytes:=TT _ hns;have h2:bytes<=(sLen+n)*bytes:=Nat.le_mul_of_pos_left _ (by omega)
  grind
 let q:Question:=.appendCap (sLen+n) sCap e
 let newCap:=q.cut (w.tape w.drawn q)
 have hcut:sLen+n<=newCap/\newCap<=9223372036854775807:=by have hmod:w.tape w.drawn q % (2 ^ 63 - (sLen+n))<2 ^ 63 - (sLen+n):=U4 _ (by omega);have:newCap=(sLen+n)+w.tape w.drawn q % (2 ^ 63 - (sLen+n)):=rfl;omega
 refine⟨newCap,Builtin.zeroCells z.cells (newCap - (sLen+n)),hcut,by grind[Builtin.zeroCells],?_⟩;unfold iW;have hi64:¬(((sLen+n:Nat):Int) > IntKind.i64.max):=by
  have:IntKind.i64.max=9223372036854775807:=by decide
  omega
 have hch:(choose (.appendCap (sLen+n) sCap e)).run C.P w=.ok newCap (World.drewn w):=by rw[run_choose];rfl
 have hnb:¬(Builtin.nextslicecap (sLen+n) sCap*bytes > 2 ^ 48):=by omega
 dsimp only;rw[TF hn];simp only[T0,lI i1,TN,i2];rw[TF (λh=>hi64 h.1)];simp only[TN,T0,lI i1,i2];rw[TF hnb];simp only[T0,UT,TN,hch,lI i1,run_askRoom,hold,hnew,z1,ig]
 rfl
theorem rW{e:TypeId}{sz bytes:Nat}{base:Option Addr}{sLen sCap n:Nat}{zs:Bool}{s x:Value}{appended:Sem (Array Value)}
  (hn:sLen+n<=sCap) {newc:Array Value} (hnew:appended.run C.P w=.ok newc w) :
  (iW e sz bytes base sLen sCap n zs s x appended).run C.P w =
   match base with
   |none=>.ok (.slice none (sLen+n) sCap) w
   |some a=>((storeCells (a.add (sLen*sz)) newc.toList).run C.P w).andThen λ_ w'=>.ok (.slice (some a) (sLen+n) sCap) w':=by
 unfold iW;dsimp only;rw[TE hn];simp only[T0,hnew,TN];cases base<;>simp_all
theorem vK(hr:Rel C A bd w γ hg nx){id ep off len sz:Nat}{lim:Option Nat}{v:Value}{rows:List (List AV)}{loose fz:Bool}
  (hv:RV w γ A bd (.hsl id ep off len lim) v) (hid:hg id=.cells sz rows ep loose fz) :
  ∃cap,v=.slice (some (adr (γ id).blk ((γ id).base+off*sz))) len cap/\len<=cap/\iV lim off cap (γ id):=by
 cases hv with
 | hsl _ _ _ _ _ _ b o cap hk he hc h =>
  have hob:=hr.obj id;rw[hid]at hob;obtain⟨k1,k2,k3,_⟩:=hob<;>grind
theorem tp{P:Program}{b o len cap sz:Nat}{rows:List (List AV)}(h:RowsAt w γ A bd sz rows b o)(hl:rows.length=len) :
  ∃c,(Builtin.firstCells sz len (.slice (some (adr b o)) len cap)).run P w=.ok c w/\c.size=rows.length*sz/\RowsRel w γ A bd sz rows c:=by
 obtain⟨c,h1,h2,h3⟩:=AK h P
 grind[Builtin.firstCells]
theorem RowsAt.same{rows:List (List AV)}{sz b o:Nat}(h:RowsAt w γ A bd sz rows b o)(s:Stp w γ w' γ)(hh:w'.heap=w.heap):RowsAt w' γ A bd sz rows b o :=
 ⟨h.1,λi j row x h1 h2=>let ⟨a,v,c,d⟩:=h.2 i j row x h1 h2;⟨a,v,by grind[zo],d.step s⟩⟩
theorem RowsRel.back{rows:List (List AV)}{sz:Nat}{c:Array Value}(h:RowsRel (World.drewn w) γ A bd sz rows c):RowsRel w γ A bd sz rows c:=by obtain⟨h1,h2,h3⟩:=h;exact⟨h1,h2,λi j row x a b=>let ⟨c,v,d,e⟩:=h3 i j row x a b;⟨c,v,d,e.heap rfl⟩⟩
theorem xV{e:TypeId}{sz:Nat}{rows:List (List AV)}{cs:Array Value}(hr:Rel C A bd w γ hg nx){g:G}(hf:(γ g.nx).kind=0)
  (h:RowsRel w γ A bd sz rows cs) (len cap:Nat) (hc:cap*sz<=cs.size) (hcap:rows.length<=cap) (hlen:len=rows.length) (hmax:cap<=9223372036854775807) :
  ∃γ',Rel C A bd (World.add (World.drewn w) (.cells cs e (0,0))) γ' (upd hg g.nx (.cells sz rows 0 true false)) (Nat.max nx (g.nx+1)) /\
   Stp w γ (World.add (World.drewn w) (.cells cs e (0,0))) γ' /\
   RV (World.add (World.drewn w) (.cells cs e (0,0))) γ' A bd (.hsl g.nx 0 0 len none) (.slice (some (adr w.heap.size 0)) len cap):=by
 have s0:Stp w γ (World.drewn w) γ:=yf;have hr':=hr.stpSame s0 rfl;obtain⟨γ',s1,s2,s3⟩:=qL (w:=World.drewn w) e hr' hf (h.step s0) len cap true (cap - rows.length) (by grind)
  (by grind) (by omega) (by omega)
 exact⟨γ',s1,s0.trans s2,s3⟩
theorem Rel.moved(hr:Rel C A bd w γ hg nx){id:Nat}{sz ep:Nat}{rows rows':List (List AV)}{loose:Bool}(hid:hg id=.cells sz rows ep loose false)
  {w1:World} {gh:Gh} (h1:gh.kind=1) (h2:gh.ep=ep+1) (h3:gh.sz=sz) (h4:gh.n=rows'.length) (h5:gh.wr=true)
  (hos:w1.os=w.os/\w1.tape=w.tape/\w1.output=w.output/\w.heap.size<=w1.heap.size) (hdr:w.drawn<=w1.drawn)
  (hmax:rows'.length+gh.slack<=9223372036854775807) (hb:gh.blk=(γ id).blk\/(gh.blk=w.heap.size/\w.heap.size<w1.heap.size))
  (hheap:∀b,b<w.heap.size->b≠(γ id).blk->w1.heap[b]?=w.heap[b]?)
  {c:Array Value} {e:TypeId} (hc:w1.heap[gh.blk]?=some (.cells c e (0,0))) (hsz:gh.base+(rows'.length+gh.slack)*sz<=c.size)
  (hrl:∀(i:Nat) row,rows'[i]?=some row->row.length=sz)
  (hcell:∀(i j:Nat) row x,rows'[i]?=some row->row[j]?=some x->x.one=true/\∃v,c[gh.base+i*sz+j]?=some v/\RV w γ A bd x v) :
  Rel C A bd w1 (upd γ id gh) (upd hg id (.cells sz rows' (ep+1) true false)) nx/\Stp w γ w1 (upd γ id gh):=by
 have hob:=hr.obj id;rw[hid]at hob;obtain⟨k1,k2,k3,k4,k5,k6,_⟩:=hob;have hk:(γ id).kind≠0:=by omega
 have hw:(γ id).wr=true:=by grind
 have hlt:=hr.lt id hk;have s:Stp w γ w1 (upd γ id gh):=by
  refine⟨hos.2.2.2,hos.1,hos.2.1,hos.2.2.1,λb hb' hm=>hheap b hb' (λe=>hm ⟨id,hk,hw,e.symm⟩),λb hb'=>?_,λj hj=>?_,λj hj=>?_,hdr⟩
  ·rintro⟨j,m1,m2,m3⟩
   by_cases hj:j=id
   ·subst hj;simp only[upd_same]at m3;rcases hb with hb|hb
    ·exact⟨j,hk,hw,by omega⟩
    ·omega
   ·rw[cQ _ _ hj]at m1 m2 m3;exact⟨j,m1,m2,m3⟩
  ·by_cases hji:j=id
   all_goals simp_all[cQ]
  ·by_cases hji:j=id
   all_goals simp_all[cQ]
 refine⟨hr.set rfl s (Tp _) ?_ ⟨hlt.1,?_⟩ (λj hj hkj e=>?_) ?_ (λj hj hkj _=>?_),s⟩
 ·grind[upd_same,RV.step,ObjRel]
 ·omega
 ·rcases hb with hb|hb
  ·exact hj (hr.inj j id hkj hk (by omega))
  ·have:=(hr.lt j hkj).2;omega
 ·rcases hb with hb|hb
  ·rw[hb];exact hr.av id hk
  ·exact λt ht=>by have:=hr.ab t _ ht;omega
 ·exact hheap _ (hr.lt j hkj).2 (λe=>hj (hr.inj j id hkj hk e))
end
end Hx
end
section
namespace Hx
open Go
section
variable {C:Cfg}{A:Nat->Nat->Prop}{bd:Nat}{w w':World}{γ γ':Gm}{hg:Nat->AObj}{nx:Nat}
theorem jE{P:Program}(a:Addr):(storeCells a []).run P w=.ok () w:=rfl
theorem F2{rows new:List (List AV)}{off:Nat}(h:off+new.length<=rows.length) :
  (gX rows off new).length=rows.length/\∀i,(gX rows off new)[i]?=if off<=i/\i<off+new.length then new[i - off]? else rows[i]?:=by
 unfold gX;simp only[f8,a_,bj,ax]
 split<;>grind
theorem Rel.storeRows(hr:Rel C A bd w γ hg nx){id sz ep off:Nat}{rows new:List (List AV)}{loose:Bool}(hid:hg id=.cells sz rows ep loose false)
  {c:Array Value} (hc:RowsRel w γ A bd sz new c) (hcs:c.size=new.length*sz) (hle:off+new.length<=rows.length) (P:Program) :
  ∃w',(Go.storeCells (adr (γ id).blk ((γ id).base+off*sz)) c.toList).run P w=.ok () w' /\
   Rel C A bd w' γ (upd hg id (.cells sz (gX rows off new) ep loose false)) nx/\Stp w γ w' γ:=by
 obtain⟨p1,p2⟩:=F2 hle;have hob:=hr.obj id;rw[hid]at hob;obtain⟨k1,k2,k3,k4,k5,k6,cc,e,k7,k8,k9,k10⟩:=hob;obtain⟨f1,f2,f3⟩:=hc.flat hcs;have hcl:c.toList.length=new.length*sz:=by omega
 have hmul:(off+new.length)*sz<=rows.length*sz:=TT _ hle;rw[T_]at hmul;refine hr.storeCells hid (o:=(γ id).base+off*sz) (xs:=new.flatten) f1 f2 p1 (λi row hi=>?_) (by grind) (λi j row x hi hj=>?_) P
 ·rw[p2]at hi
  split at hi
  ·exact hc.2.1 _ _ hi
  grind
 ·rw[p2]at hi;rw[hcl];have hj':j<sz:=by
   have hl:row.length=sz:=by
    split at hi
    ·exact hc.2.1 _ _ hi
    grind
   grind
  by_cases hcond:off<=i/\i<off+new.length
  ·rw[TE hcond]at hi;have h1:off*sz<=i*sz:=TT _ hcond.1;have h2:(i+1)*sz<=(off+new.length)*sz:=TT _ hcond.2;rw[T_,UC,T_]at h2;rw[TE (by omega)];have h3:(i - off)*sz+off*sz=i*sz:=by rw[<-T_];grind
   rw[show (γ id).base+i*sz+j - ((γ id).base+off*sz)=(i - off)*sz+j from by omega,f3 _ _ row hi hj'];exact hj
  ·rw[TF hcond]at hi;rw[TF]
   ·grind
   ·rintro⟨l1,l2⟩;apply hcond;refine⟨?_,?_⟩
    ·rcases VN i off with h|h
     ·have:(i+1)*sz<=off*sz:=TT _ h
      grind
     omega
    ·rcases VN i (off+new.length) with h|h
     ·exact h
     ·have:(off+new.length)*sz<=i*sz:=TT _ h
      grind
theorem NI{rows:List (List AV)}{off len:Nat}(h:off+len<=rows.length):((rows.drop off).take len).length=len:=by grind
noncomputable def zH(sz bytes:Nat)(s0:AV)(new:List (List AV))(g:G):OR :=
 match new with
 |[]=>.val s0
 |_=>aA (Nat.ble (bL new*bytes) aQ) (.upd (.hsl g.nx 0 0 (bL new) none) (g.new (.cells sz new 0 true false))) .fail
theorem rY{e:TypeId}{sz bytes:Nat}{zero:List AV}{s:AV}{v x:Value}{new:List (List AV)}{zs:Bool}{appended:Sem (Array Value)}{g:G}
  (hr:Rel C A bd w γ hg nx) (hf:(γ g.nx).kind=0) (hs:RV w γ A bd s v) (hby:jQ C.P e=some bytes) (hz:fS C.P e=some zero) (hzl:zero.length=sz)
  (hb0:0<bytes) (happ:∀w1:World,w1=w\/w1=World.drewn w->∃c,appended.run C.P w1=.ok c w1/\c.size=new.length*sz/\RowsRel w γ A bd sz new c)
  (agree:∀id∈ak s,hg id=g.h.get id) :
  bp sz bytes s new g=.fail\/∃base sLen sCap,v=.slice base sLen sCap /\
   di C A bd w γ hg nx (iW e sz bytes base sLen sCap new.length zs v x appended) g (bp sz bytes s new g):=by
 have hnil:∀(base:Option Addr) (cap:Nat),new=[]->∀len,len<=cap->(iW e sz bytes base len cap new.length zs (.slice base len cap) x appended).run C.P w=.ok (.slice base len cap) w:=by
  intro base cap hn len hl;obtain⟨c,c1,c2,_⟩:=happ w (.inl rfl);have hc0:c=#[]:=by grind
  rw[rW (by grind) c1,hn,hc0];cases base<;>simp[jE]
 have hempty:∀(base:Option Addr) (s0:AV),RV w γ A bd s0 (.slice base 0 0)->(Builtin.firstCells sz 0 (.slice base 0 0)).run C.P (World.drewn w)=.ok #[] (World.drewn w) ->
   zH sz bytes s0 new g=.fail \/
   di C A bd w γ hg nx (iW e sz bytes base 0 0 new.length zs (.slice base 0 0) x appended) g (zH sz bytes s0 new g):=by
  intro base s0 hs0 hold;rcases hnew:new with _|⟨r,rs⟩
  ·exact .inr ⟨.slice base 0 0,hnew ▸ hnil base 0 hnew 0 (Tp _),hs0⟩
  ·rw[<-hnew];have hne:zH sz bytes s0 new g=aA (Nat.ble (bL new*bytes) aQ) (OR.upd (.hsl g.nx 0 0 (bL new) none) (g.new (.cells sz new 0 true false))) OR.fail:=by rw[hnew];rfl
   rw[hne];simp only[ax,aa]
   split
   ·rename_i hroom;rw[T8]at hroom;refine .inr ?_;obtain⟨c,c1,c2,c3⟩:=happ (World.drewn w) (.inr rfl);have hpos:0<new.length:=by grind
    obtain⟨newCap,rest,n1,n2,n3⟩:=qg (zs:=zs) (x:=x) (w:=w) hby hz hzl hb0 (sLen:=0) (n:=new.length) (sCap:=0) (by simpa using hroom) (by omega) hold c1;have hcap:newCap*sz<=(#[]++c++rest).size:=by simp only[Array.size_append,n2,c2,List.size_toArray,Vi];rw[T6,<-T_];apply TT;omega
    obtain⟨γ',s1,s2,s3⟩:=xV (e:=e) (cs:=#[]++c++rest) hr hf (by simpa using c3.more) new.length newCap hcap (by omega) rfl n1.2;rw[T6]at n3;exact⟨_,_,γ',g.nx,_,n3,s3,s2,.inr ⟨rfl,rfl,s1⟩⟩
   grind
 unfold bp;cases hs with
 |nils=>exact (hempty none .nils (.nils _) (by simp[Builtin.firstCells])).imp id λh=>⟨none,0,0,rfl,h⟩
 |esl _ a=>exact (hempty (some a) .esl (.esl _ a) (by simp[Builtin.firstCells,loadCells,loadCellsFrom])).imp id λh=>⟨some a,0,0,rfl,h⟩
 | tsl _ tag sz' rows b o cap cell ht hc hb hm ha hrl ho hw h hcl =>
  cases hnew:new with
  | nil =>
   refine .inr ⟨some (adr b o),rows.length,cap,rfl,.slice (some (adr b o)) rows.length cap,(by grind),.tsl _ tag sz' rows b o cap cell ht hc hb hm ha hrl ho hw h hcl⟩
  |cons r rs=>grind
 | tnil _ tag sz' a cap ht =>
  cases hnew:new with
  |nil=>exact .inr ⟨some a,0,cap,rfl,.slice (some a) 0 cap,(by grind),.tnil _ tag sz' a cap ht⟩
  |cons r rs=>grind
 | hsl _ id ep off len lim b0 o0 cap0 hk he hc0 h0 =>
  have hagree:=agree id (by simp[ak]);simp only[G.get_eq,<-hagree];cases hid:hg id with
  | cells sz' rows ep' loose fz =>
   dsimp only;simp only[ax,aa]
   split
   ·rename_i hcond;simp only[Ts,T8]at hcond;obtain⟨⟨⟨h1,h2⟩,h3⟩,h4⟩:=hcond;have h1:=aL h1;have h2:=aL h2;subst h1;subst h2;obtain⟨cap,hv,hlc,hco⟩:=vK hr (RV.hsl bd id ep off len lim b0 o0 cap0 hk he hc0 h0) hid;rw[hv];have hob:=hr.obj id;rw[hid]at hob;obtain⟨k1,k2,k3,k4,k5,k6,cc,ee,k7,k8,k9,k10⟩:=hob
    split
    ·rename_i hfit;rw[T8]at hfit;have hcapfit:len+new.length<=cap:=by
      unfold iV at hco
      grind
     cases hnew:new with
     | nil =>
      refine .inr ⟨some (adr (γ id).blk ((γ id).base+off*sz)),len,cap,rfl,.slice (some (adr (γ id).blk ((γ id).base+off*sz))) len cap,(by grind),?_⟩;rw[<-hv];exact RV.hsl bd id ep off len lim b0 o0 cap0 hk he hc0 h0
     | cons r rs =>
      dsimp only;rw[<-hnew]
      split
      ·rename_i hc2;simp only[Ts,T8,notb_eq,UH]at hc2;obtain⟨h5,h6⟩:=hc2;subst h6;refine .inr ⟨_,_,_,rfl,?_⟩;obtain⟨c,c1,c2,c3⟩:=happ w (.inl rfl);obtain⟨w',r1,r2,r3⟩:=hr.storeRows hid (off:=off+len) c3 c2 (by omega) C.P;refine⟨.slice (some (adr (γ id).blk ((γ id).base+off*sz))) (len+new.length) cap,w',γ,id,_,?_,?_,r3,.inl ⟨rfl,r2⟩⟩
       ·rw[rW hcapfit c1];dsimp only;rw[fT,show (γ id).base+off*sz+len*sz=(γ id).base+(off+len)*sz from by grind,r1]
        rfl
       ·exact .hsl _ id ep off _ lim _ _ cap k1 (by omega) hcapfit (by grind)
      grind
    ·rename_i hnofit;rw[T8]at hnofit;have hold0:=(AU hr hid).sub off len;have hsub:=NI (rows:=rows) (off:=off) (len:=len) h3;have hstp:Stp w γ (World.drewn w) γ:=yf
     split
     ·rename_i hstrict;refine .inr ⟨_,_,_,rfl,?_⟩;have hgt:¬len+new.length<=cap:=by
       unfold iV at hco;cases lim with
       | none =>
        simp at hstrict;grind
       |some c=>grind
      obtain⟨c,c1,c2,c3⟩:=happ (World.drewn w) (.inr rfl);obtain⟨oc,o1,o2,o3⟩:=tp (P:=C.P) (cap:=cap) (hold0.same hstp rfl) hsub;rw[hsub]at o2;obtain⟨newCap,rest,n1,n2,n3⟩:=qg (zs:=zs) (x:=x) (w:=w) hby hz hzl hb0 (sLen:=len) (n:=new.length) (sCap:=cap) (base:=some (adr (γ id).blk ((γ id).base+off*sz))) (by omega) hgt o1 c1;have hcap:newCap*sz<=(oc++c++rest).size:=by simp only[Array.size_append,n2,c2,o2];rw[<-T_,<-T_];grind
      have hrows:RowsRel w γ A bd sz ((rows.drop off).take len++new) (oc++c++rest):=(o3.back.append (by grind) c3).more;obtain⟨γ',s1,s2,s3⟩:=xV (e:=e) (cs:=oc++c++rest) hr hf hrows (len+new.length) newCap hcap (by grind) (by grind) n1.2;refine⟨_,_,γ',g.nx,_,n3,s3,s2,.inr ⟨?_,rfl,s1⟩⟩
      grind[a_,bj]
     ·rename_i hloose
      split
      ·grind
      ·rename_i hfz;have hfz:fz=false:=by grind
       subst hfz;have hl:lim=none/\loose=true:=by simp_all
       obtain⟨hl1,hl2⟩:=hl;subst hl1;subst hl2;have hco':off+cap=rows.length+(γ id).slack:=by grind[iV]
       refine .inr ⟨_,_,_,rfl,?_⟩
       by_cases hfit:len+new.length<=cap
       ·
        obtain⟨c,c1,c2,c3⟩:=happ w (.inl rfl);have hcsz:(γ id).base+off*sz+len*sz+c.toList.length<=cc.size:=by
         have:(off+(len+new.length))*sz<=(rows.length+(γ id).slack)*sz:=TT _ (by omega)
         grind
        obtain⟨f1,f2,f3⟩:=c3.flat c2;have hrun:=tR (P:=C.P) c.toList 0 w cc k7 (o:=(γ id).base+off*sz+len*sz) (by omega) (Jg f1 f2);simp only[Vv]at hrun
        let gh:Gh:=⟨1,ep+1,sz,len+new.length,(γ id).blk,(γ id).base+off*sz,cap - (len+new.length),true⟩
        obtain⟨s1,s2⟩:=hr.moved hid (w1:=World.setBlk w (γ id).blk (.cells (bA cc ((γ id).base+off*sz+len*sz) c.toList) ee (0,0))) (gh:=gh)
         (rows':=(rows.drop off).take len++new) rfl rfl rfl (by grind) rfl ⟨rfl,rfl,rfl,by simp⟩ (Tp _) (by grind) (.inl rfl)
         (λb _ hb=>by rw[bm,TF];omega)
         (c:=bA cc ((γ id).base+off*sz+len*sz) c.toList) (e:=ee)
         (by grind[bm])
         (by
          simp only[gh,bX,TP,hsub]
          grind[T_])
         (λi row hi=>by
          rw[Vo]at hi
          split at hi
          ·grind
          ·exact c3.2.1 _ _ hi)
         (λi j row y hi hj=>by
          rw[Vo,hsub]at hi
          split at hi
          ·rename_i hil;have hi':=hi;rw[Uy hil,UZ]at hi';have hjs:j<sz:=by grind
           obtain⟨a,v,b1,b2⟩:=k10 _ j row y hi' hj;refine⟨a,v,?_,b2⟩;rw[cq _ _ _ _ hcsz,TF]
           ·grind
           ·simp only[gh];have:(i+1)*sz<=len*sz:=TT _ hil
            grind
          ·rename_i hil;have hjs:j<sz:=by rw[<-c3.2.1 _ _ hi];grind
           have hlt:i - len<new.length:=(by grind);obtain⟨a,v,b1,b2⟩:=c3.2.2 _ j row y hi hj;refine⟨a,v,?_,b2⟩;have e1:i*sz=len*sz+(i - len)*sz:=by rw[<-T_];grind
           have e2:(i - len+1)*sz<=new.length*sz:=TT _ hlt;rw[T_,UC]at e2;rw[cq _ _ _ _ hcsz];simp only[gh];rw[TE (by grind),show (γ id).base+off*sz+i*sz+j - ((γ id).base+off*sz+len*sz)=(i - len)*sz+j from by omega]
           grind)
        refine⟨.slice (some (adr (γ id).blk ((γ id).base+off*sz))) (len+new.length) cap,_,_,id,_,?_,?_,s2,.inl ⟨?_,s1⟩⟩
        ·simp_all[rW,fT]
        ·refine .hsl _ id (ep+1) 0 _ none _ _ cap (by simp[gh]) (by simp[gh]) hfit (λ_=>⟨by simp[gh],by simp[gh],?_⟩)<;>grind[upd_same,iV]
        grind[a_,bj]
       ·
        obtain⟨c,c1,c2,c3⟩:=happ (World.drewn w) (.inr rfl);obtain⟨oc,o1,o2,o3⟩:=tp (P:=C.P) (cap:=cap) (hold0.same hstp rfl) hsub;rw[hsub]at o2;obtain⟨newCap,rest,n1,n2,n3⟩:=qg (zs:=zs) (x:=x) (w:=w) hby hz hzl hb0 (sLen:=len) (n:=new.length) (sCap:=cap) (base:=some (adr (γ id).blk ((γ id).base+off*sz))) (by omega) hfit o1 c1;have hcap:newCap*sz<=(oc++c++rest).size:=by simp only[Array.size_append,n2,c2,o2];rw[<-T_,<-T_];grind
        have hrows:RowsRel w γ A bd sz ((rows.drop off).take len++new) (oc++c++rest):=(o3.back.append (by grind) c3).more
        let gh:Gh:=⟨1,ep+1,sz,len+new.length,w.heap.size,0,newCap - (len+new.length),true⟩
        obtain⟨s1,s2⟩:=hr.moved hid (w1:=World.add (World.drewn w) (.cells (oc++c++rest) e (0,0))) (gh:=gh)
         (rows':=(rows.drop off).take len++new) rfl rfl rfl (by grind) rfl ⟨rfl,rfl,rfl,by simp[World.drewn]⟩ (VB _) (by grind) (.inr ⟨rfl,by simp[World.drewn]⟩)
         (λb hb _=>by rw[kW,TF (by grind[World.drewn])];rfl)
         (c:=oc++c++rest) (e:=e) (by grind[kW,World.drewn])
         (by grind)
         hrows.2.1 (λi j row y hi hj=>by simpa [gh] using hrows.2.2 i j row y hi hj)
        refine⟨_,_,_,id,_,n3,?_,s2,.inl ⟨?_,s1⟩⟩
        ·refine .hsl _ id (ep+1) 0 _ none _ _ newCap (by simp[gh]) (by simp[gh]) n1.1 (λ_=>⟨by simp[gh],by simp[gh],?_⟩)<;>grind[upd_same,iV]
        grind[a_,bj]
   grind
  |_=>grind
 |_=>exact .inl rfl
end
end Hx
end
section
namespace Hx
open Go
section
variable {C:Cfg}{A:Nat->Nat->Prop}{bd:Nat}{w w':World}{γ γ':Gm}{hg:Nat->AObj}{nx:Nat}
theorem NF(hr:Rel C A bd w γ hg nx){sz:Nat}{x:AV}{v:Value}{h:H}{rows:List (List AV)}(hx:RV w γ A bd x v)
  (hrow:ac h sz x=some rows) (agree:∀id∈ak x,hg id=h.get id) (P:Program) :
  ∃base cap,v=.slice base rows.length cap/\∀n,n<=rows.length->∀w1:World,w1=w\/w1=World.drewn w ->
   ∃c,(Builtin.firstCells sz n v).run P w1=.ok c w1/\c.size=n*sz/\RowsRel w γ A bd sz (rows.take n) c:=by
 obtain⟨b,o,cap,hv,hat⟩:=HM hr hx hrow agree;have hnil:RowsRel w γ A bd sz [] #[]:=⟨by simp,λi row h=>by simp at h,λi j row x h=>by simp at h⟩;rcases hv with⟨rfl,rfl⟩|rfl|⟨⟨a,rfl⟩,rfl⟩
 ·simp_all[Builtin.firstCells]
 ·refine⟨some (adr b o),cap,rfl,λn hn w1 h1=>?_⟩;have hsub:=hat.sub 0 n;simp only[VD,Nat.zero_mul,Vv]at hsub;have hl:(rows.take n).length=n:=by simp[hn]
  rcases h1 with rfl|rfl
  ·have:=AK hsub P
   grind[Builtin.firstCells]
  ·have:=AK (hsub.same yf rfl) P
   grind[Builtin.firstCells,RowsRel.back]
 simp_all[Builtin.firstCells,loadCells,loadCellsFrom]
theorem GS{argTypes:Array TypeId}{ty t xt e e':TypeId}{sz bytes:Nat}{zero:List AV}{s x:AV}{v y:Value}{g:G}
  (hr:Rel C A bd w γ hg nx) (hf:(γ g.nx).kind=0) (h0:argTypes[0]?=some t) (h1:argTypes[1]?=some xt) (hu:C.P.underlying t=some (.slice e)) (hux:C.P.underlying xt=some (.slice e'))
  (hsz:szT C.P e=some sz) (hby:jQ C.P e=some bytes) (hz:fS C.P e=some zero) (hzl:zero.length=sz) (hb0:0<bytes)
  (hs:RV w γ A bd s v) (hx:RV w γ A bd x y) (agree:∀id∈ak s,hg id=g.h.get id) (agree':∀id∈ak x,hg id=g.h.get id) :
  di C A bd w γ hg nx (Builtin.append_ argTypes ty #[v,y]) g (cC sz bytes s x g):=by
 unfold cC;cases hrow:ac g.h sz x with
 |none=>trivial
 | some new =>
  dsimp only;obtain⟨xb,xc,rfl,hsrc⟩:=NF hr hx hrow agree' C.P;rcases rY (e:=e) (new:=new) (zs:=false) (x:=.slice xb new.length xc) (appended:=Builtin.firstCells sz new.length (.slice xb new.length xc)) hr hf hs hby hz hzl hb0
    (λw1 h=>by simpa using hsrc new.length (Tp _) w1 h) agree with h|⟨base,sLen,sCap,rfl,h⟩
  ·rw[h];trivial
  ·have e1:(Builtin.append_ argTypes ty #[.slice base sLen sCap,.slice xb new.length xc]).run C.P w =
     (iW e sz bytes base sLen sCap new.length false (.slice base sLen sCap) (.slice xb new.length xc) (Builtin.firstCells sz new.length (.slice xb new.length xc))).run C.P w:=by
    unfold Builtin.append_ iW;have a0:(#[Value.slice base sLen sCap,Value.slice xb new.length xc]:Array Value)[0]?=some (.slice base sLen sCap):=rfl;have a1:(#[Value.slice base sLen sCap,Value.slice xb new.length xc]:Array Value)[1]?=some (.slice xb new.length xc):=rfl;simp only[h0,h1,a0,a1,T0,aH hu,aH hux,bc hsz,Builtin.lenOf,TN,UT]
    rfl
   generalize bp sz bytes s new g=r at h ⊢;simp_all[di]
theorem EI{argTypes:Array TypeId}{ty t xt e:TypeId}{k:IntKind}{sz bytes:Nat}{zero:List AV}{s x:AV}{v y:Value}{g:G}
  (hr:Rel C A bd w γ hg nx) (hf:(γ g.nx).kind=0) (h0:argTypes[0]?=some t) (h1:argTypes[1]?=some xt) (hu:C.P.underlying t=some (.slice e)) (hux:C.P.underlying xt=some (.int k))
  (hsz:szT C.P e=some sz) (hby:jQ C.P e=some bytes) (hz:fS C.P e=some zero) (hzl:zero.length=sz) (hs0:0<sz) (hb0:0<bytes)
  (hs:RV w γ A bd s v) (hx:RV w γ A bd x y) (agree:∀id∈ak s,hg id=g.h.get id) :
  di C A bd w γ hg nx (Builtin.append_ argTypes ty #[v,y]) g (mB sz bytes zero s x g):=by
 unfold mB;cases hn:dA aQ x with
 |none=>trivial
 | some n =>
  dsimp only;rw[aa]
  split
  ·rename_i hroom;rw[T8]at hroom;obtain⟨n1,kk,rfl⟩:=wY hn hx;have hl:(ie n zero).length=n:=by simp[ie]
   have happ:∀w1:World,w1=w\/w1=World.drewn w->∃c,(if n*sz=0 then pure #[] else do pure (Builtin.zeroCells (<-zeroValue e).cells n):Sem (Array Value)).run C.P w1=.ok c w1 /\
     c.size=(ie n zero).length*sz/\RowsRel w γ A bd sz (ie n zero) c:=by
    intro w1 _;obtain⟨z,z1,z2⟩:=nP (w:=w1) hz;have hzs:z.cells.size=sz:=by have:=(oD (w:=w) (γ:=γ) (A:=A) (bd:=bd) z2).1.1;grind
    refine⟨iT z.cells (n*sz),?_,by grind[nV],uo (ty:=e) z2 hzl hs0 (Tp _)⟩;simp_all[iT,Builtin.zeroCells]
   rcases rY (e:=e) (new:=ie n zero) (zs:=true) (x:=.int kk (n:Int)) hr hf hs hby hz hzl hb0 happ agree with h|⟨base,sLen,sCap,rfl,h⟩
   ·rw[h];trivial
   ·rw[hl]at h;have hi:∃i,C.P.info? e=some i/\i.bytes=bytes:=by simp_all[jQ]
    obtain⟨i,i1,i2⟩:=hi;unfold aQ at n1 hroom;have w1:=qW n (by omega);have hb1:¬((n:Int)*(bytes:Int) > 2 ^ 48):=by omega
    have e1:(Builtin.append_ argTypes ty #[.slice base sLen sCap,.int kk (n:Int)]).run C.P w =
      (iW e sz bytes base sLen sCap n true (.slice base sLen sCap) (.int kk (n:Int)) (if n*sz=0 then pure #[] else do pure (Builtin.zeroCells (<-zeroValue e).cells n))).run C.P w:=by
     unfold Builtin.append_ iW;have hneg:¬((n:Int)<0):=by omega
     have a0:(#[Value.slice base sLen sCap,Value.int kk (n:Int)]:Array Value)[0]?=some (.slice base sLen sCap):=rfl;have a1:(#[Value.slice base sLen sCap,Value.int kk (n:Int)]:Array Value)[1]?=some (.int kk (n:Int)):=rfl;simp only[h0,h1,a0,a1,T0,aH hu,aH hux,bc hsz,TN,UT,if_true,asInt,asIntOf,w1,lI i1,i2,TF hb1,TF hneg]
     rfl
    generalize bp sz bytes s (ie n zero) g=r at h ⊢;simp_all[di]
  ·trivial
theorem Lz{argTypes:Array TypeId}{ty t e:TypeId}{sz:Nat}{d x:AV}{v y:Value}{g:G}
  (hr:Rel C A bd w γ hg nx) (h0:argTypes[0]?=some t) (hu:C.P.underlying t=some (.slice e)) (hsz:szT C.P e=some sz)
  (hd:RV w γ A bd d v) (hx:RV w γ A bd x y) (agree:∀id∈ak d,hg id=g.h.get id) (agree':∀id∈ak x,hg id=g.h.get id) :
  di C A bd w γ hg nx (Builtin.copy_ argTypes ty #[v,y]) g (yx sz d x g):=by
 unfold yx;cases hrow:ac g.h sz x with
 |none=>trivial
 | some src =>
  dsimp only;obtain⟨xb,xc,rfl,hsrc⟩:=NF hr hx hrow agree' C.P;have hrun:∀base dLen dCap,v=.slice base dLen dCap->∃c,c.size=Nat.min src.length dLen*sz/\RowsRel w γ A bd sz (src.take (Nat.min src.length dLen)) c /\
    (Builtin.copy_ argTypes ty #[v,.slice xb src.length xc]).run C.P w =
     (do if let some a:=base then storeCells a c.toList
         pure (goInt (Nat.min src.length dLen)):Sem Value).run C.P w:=by
   intro base dLen dCap hv;subst hv;obtain⟨c,c1,c2,c3⟩:=hsrc (Nat.min src.length dLen) (Nat.min_le_left _ _) w (.inl rfl);refine⟨c,c2,c3,?_⟩;have a0:(#[Value.slice base dLen dCap,Value.slice xb src.length xc]:Array Value)[0]?=some (.slice base dLen dCap):=rfl;have a1:(#[Value.slice base dLen dCap,Value.slice xb src.length xc]:Array Value)[1]?=some (.slice xb src.length xc):=rfl;unfold Builtin.copy_;simp only[h0,a0,a1,T0,aH hu,bc hsz,Builtin.lenOf,TN,UT,c1]
   rfl
  have hint:∀n:Nat,RV w γ A bd (.int .i64 (n:Int)) (goInt n):=λn=>.int _ _ _;cases hd with
  | nils =>
   obtain⟨c,c1,c2,c3⟩:=hrun none 0 0 rfl;refine⟨goInt 0,?_,hint 0⟩;simp_all
  | esl _ a =>
   obtain⟨c,c1,c2,c3⟩:=hrun (some a) 0 0 rfl;have hc:c=#[]:=by grind
   refine⟨goInt 0,?_,hint 0⟩;simp_all[jE]
  | tsl _ tag sz' rows b o cap cell ht hc hb hm ha hrl ho hw h =>
   dsimp only;rw[aa]
   split
   ·rename_i hcond;obtain⟨c,c1,c2,c3⟩:=hrun (some (adr b o)) rows.length cap rfl;have hmin:Nat.min src.length rows.length=0:=by
     grind
    rw[hmin]at c1 c3;have hc:c=#[]:=by grind
    refine⟨goInt 0,?_,hint 0⟩;simp_all[jE]
   ·trivial
  | tnil _ tag sz' a cap ht =>
   dsimp only;rw[aa]
   split
   ·obtain⟨c,c1,c2,c3⟩:=hrun (some a) 0 cap rfl;have hc:c=#[]:=by grind
    refine⟨goInt 0,?_,hint 0⟩;simp_all[jE]
   ·trivial
  | hsl _ id ep off len lim b0 o0 cap0 hk he hc0 h0' =>
   have hagree:=agree id (by simp[ak]);simp only[G.get_eq,<-hagree];cases hid:hg id with
   | cells sz' rows ep' loose fz =>
    simp only[ax,aa,a_]
    split
    ·rename_i hcond;simp only[Ts,T8,notb_eq,UH]at hcond;obtain⟨⟨⟨h1,h2⟩,h3⟩,h4⟩:=hcond;have h1:=aL h1;have h2:=aL h2;subst h1;subst h2;subst h4;obtain⟨cap,hv,hlc,hco⟩:=vK hr (RV.hsl bd id ep off len lim b0 o0 cap0 hk he hc0 h0') hid;obtain⟨c,c1,c2,c3⟩:=hrun _ _ _ hv;have hl:(src.take (Nat.min src.length len)).length=Nat.min src.length len:=by grind
     have hle:Nat.min src.length len<=len:=Nat.min_le_right _ _;obtain⟨w',r1,r2,r3⟩:=hr.storeRows hid (off:=off) c2 (by grind) (by omega) C.P;refine⟨goInt (Nat.min src.length len),w',γ,id,_,?_,.int _ _ _,r3,.inl ⟨rfl,r2⟩⟩<;>simp_all
    ·trivial
   |_=>trivial
  |_=>trivial
theorem JN{argTypes:Array TypeId}{ty t e:TypeId}{sz:Nat}{zero:List AV}{x:AV}{y:Value}{g:G}
  (hr:Rel C A bd w γ hg nx) (h0:argTypes[0]?=some t) (hu:C.P.underlying t=some (.slice e)) (hz:fS C.P e=some zero) (hzl:zero.length=sz) (hs0:0<sz)
  (hx:RV w γ A bd x y) (agree:∀id∈ud x,hg id=g.h.get id) :
  di C A bd w γ hg nx (Builtin.clear_ argTypes ty #[y]) g (z6 sz zero x g):=by
 have a0:(#[y]:Array Value)[0]?=some y:=rfl;have hz0:∀a cap,y=.slice a 0 cap->(Builtin.clear_ argTypes ty #[y]).run C.P w=.ok undef w:=by intro a cap h;subst h;unfold Builtin.clear_;cases a<;>simp[h0,aH hu,undef]
 unfold z6;cases hx with
 |nils=>exact⟨_,hz0 _ _ rfl,dH⟩
 |esl _ a=>exact⟨_,hz0 _ _ rfl,dH⟩
 | tsl _ tag sz' rows b o cap cell ht hc hb hm ha hrl ho hw h =>
  cases rows with
  |nil=>exact⟨_,hz0 _ _ rfl,dH⟩
  |cons r rs=>trivial
 |tnil _ tag sz' a cap ht=>exact⟨_,hz0 _ _ rfl,dH⟩
 | hsl _ id ep off len lim b0 o0 cap0 hk he hc0 h0' =>
  cases len with
  |zero=>exact⟨_,hz0 _ _ rfl,dH⟩
  | succ len =>
   have hagree:=agree id (by simp[ud]);simp only[G.get_eq,<-hagree];cases hid:hg id with
   | cells sz' rows ep' loose fz =>
    simp only[ax,aa]
    split
    ·rename_i hcond;simp only[Ts,T8,notb_eq,UH]at hcond;obtain⟨⟨⟨h1,h2⟩,h3⟩,h4⟩:=hcond;have h1:=aL h1;have h2:=aL h2;subst h1;subst h2;subst h4;obtain⟨cap,hv,hlc,hco⟩:=vK hr (RV.hsl bd id ep off (len+1) lim b0 o0 cap0 hk he hc0 h0') hid;have hl:(ie (len+1) zero).length=len+1:=by simp[ie]
     obtain⟨z,z1,z2⟩:=nP (w:=w) hz;have hzs:z.cells.size=sz:=by have:=(oD (w:=w) (γ:=γ) (A:=A) (bd:=bd) z2).1.1;grind
     obtain⟨w',r1,r2,r3⟩:=hr.storeRows hid (off:=off) (uo (ty:=e) (n:=len+1) z2 hzl hs0 (Tp _)) (by grind[nV]) (by omega) C.P;refine⟨undef,w',γ,id,_,?_,dH,r3,.inl ⟨rfl,r2⟩⟩;have e0:Builtin.zeroCells z.cells (len+1)=iT z.cells ((len+1)*sz):=by grind[Builtin.zeroCells,iT]
     simp_all[Builtin.clear_,undef,aH]
    ·trivial
   |_=>trivial
 |_=>trivial
end
end Hx
end
