/- A part of the proof. -/
import GoSem.Step
import Derived.RangeFuncIn
import Derived.Laws.Sem
import Derived.Laws.Tables
set_option linter.all false
section
namespace Hx
open Go
def Z3:=@And.intro
def ZV:=@Nat.le_refl
def Zq:=@List.getElem?_eq_getElem
def tI:=@List.getElem?_eq_some_iff
def Zy:=@List.getElem?_map
def YH:=@List.mem_of_getElem?
def Zk:=@Bool.and_eq_true
def Wu:=@Int.eq_ofNat_of_zero_le
def abc:=@Nat.succ_pos
def Ns:=@Option.getD_some
def ZN:=@if_pos
def ZF:=@if_neg
def ML:=@List.cons_append
def Ju:=@List.length_map
theorem abi:type_of% @Result.andThen_ok:=@Result.andThen_ok
def Xw:=@List.all_eq_true
theorem Vd:type_of% @Nat.lt_of_lt_of_le:=@Nat.lt_of_lt_of_le
def Q9:=@List.mem_range
def Y1:=@Nat.le_trans
def RY:=@decide_eq_true_eq
def I9:=@List.reverse_cons
def DI:=@List.nil_append
def Xo:=@List.take_length
def Nq:=@List.reverse_nil
def abs:=@Nat.mul_le_mul_right
def QJ:=@List.getElem?_append_left
def VM:=@List.append_nil
def QA:=@List.not_mem_nil
theorem QG:type_of% @List.getElem?_of_mem:=@List.getElem?_of_mem
theorem Qk:type_of% @Sem.run_bind:=@Sem.run_bind
def Tn:=@List.mem_append
def U8:=@List.take_of_length_le
def R_:=@List.eq_nil_of_length_eq_zero
def Np:=@Array.getElem?_eq_getElem
def Y0:=@List.mem_cons
def Sl:=@List.getElem?_append_right
def Jq:=@Nat.zero_le
theorem R1:type_of% @Nat.ble_eq:=@Nat.ble_eq
def Rk:=@List.length_take
def Ku:=@Nat.zero_add
def Vf:=@decide_eq_false
def Wa:=@List.mem_singleton
def Ya:=@Int.toNat_natCast
def YY:=@List.mem_map
def Wl:=@Nat.pow_le_pow_right
def R2:=@List.mem_of_mem_drop
theorem UF:type_of% @Nat.add_mul:=@Nat.add_mul
def T6:=@Bool.or_eq_true
def HF:=@Bool.not_eq_true
def V8:=@List.length_cons
theorem VW:type_of% @Nat.div_eq_of_lt:=@Nat.div_eq_of_lt
def J5:=@List.getElem?_set_self
theorem QB:type_of% @Nat.div_add_mod:=@Nat.div_add_mod
def Y2:=@Nat.div_le_self
def Xq:=@Nat.div_div_eq_div_mul
theorem US:type_of% @Nat.mod_lt:=@Nat.mod_lt
def P5:=@Option.some.injEq
def Qe:=@decide_eq_true
def PW:=@Option.map_some
def Tg:=@List.drop_eq_getElem_cons
def X5:=@List.getElem?_take_of_lt
theorem X_:type_of% @Nat.beq_refl:=@Nat.beq_refl
def Xp:=@List.mem_of_mem_take
def X4:=@List.flatMap_cons
def Yp:=@Nat.sub_self
def IV:=@List.take_append_drop
def J6:=@List.length_append
def M_:=@List.getElem?_concat_length
def MO:=@List.map_set
def U2:=@Bool.true_and
def Yj:=@Bool.eq_iff_iff
def Qw:=@Bool.not_eq_true'
def K0:=@List.map_append
def HE:=@List.drop_drop
def YD:=@Nat.blt_eq
def Sc:=@List.map_congr_left
theorem MV:type_of% @Sem.run_pure:=@Sem.run_pure
def Un:=@Array.getD_eq_getD_getElem?
def Vw:=@Ne.symm
def TQ:=@List.length_filter_le
def VZ:=@List.replicate_succ
def QR:=@Int.natCast_mul
def KT:=@Nat.le_max_left
def Vb:=@List.getElem?_cons_succ
def acq:=@List.append_assoc
def TS:=@List.getElem?_set_ne
def QX:=@List.mem_iff_getElem
def Wx:=@Classical.byContradiction
def Uc:=@Bool.false_eq_true
def MH:=@List.map_nil
def Nb:=@Nat.lt_of_le_of_lt
def TF:=@Nat.mul_comm
def Ri:=@List.range_succ
def E_:=@List.getElem_mem
def XH:=@Option.getD_none
def VV:=@List.getElem?_eq_none
def X0:=@List.set_append_right
theorem Wj:type_of% @Nat.eq_of_beq_eq_true:=@Nat.eq_of_beq_eq_true
def VY:=@List.getElem?_set
def acG:=@List.getD_eq_getElem?_getD
def Xz:=@Nat.div_lt_of_lt_mul
def Wn:=@Nat.mul_le_mul
def VT:=@Nat.one_mul
def Qv:=@List.map_cons
def WC:=@Option.bind_some
def NA:=@List.take_add_one
theorem Um:type_of% @Nat.add_mul_div_right:=@Nat.add_mul_div_right
def MQ:=@Int.mul_assoc
def XI:=@List.drop_zero
def RS:=@List.getElem?_drop
def Va:=@List.set_cons_zero
def TO:=@List.flatMap_nil
def TP:=@or_false
def Vl:=@Int.mul_nonneg
def acV:=@List.take_succ_eq_append_getElem
theorem acW:type_of% @Nat.add_mul_mod_self_right:=@Nat.add_mul_mod_self_right
def Rh:=@Nat.pow_succ
def XM:=@Nat.le_succ
def acZ:=@List.pairwise_iff_getElem
def ac0:=@Int.mul_le_mul_of_nonneg_right
def Ws:=@Int.natCast_nonneg
def Ww:=@List.zip_cons_cons
def TH:=@Nat.and_le_right
def PM:=@Int.mul_comm
def VX:=@List.map_take
def TE:=@List.sum_cons
def Nk:=@Nat.add_assoc
def MX:=@Nat.add_comm
def Fa:=@Nat.sub_zero
def ac_:=@List.getElem?_append
def ada:=@List.mem_cons_of_mem
def adb:=@Nat.eq_of_testBit_eq
def adc:=@List.getElem?_cons_zero
def IS:=@List.foldl_cons
def NT:=@Nat.min_eq_left
def adg:=@Nat.mul_le_mul_left
def U4:=@Bool.true_or
def adi:=@List.drop_of_length_le
def Q_:=@Bool.not_true
def QQ:=@Nat.mul_assoc
def Te:=@List.length_drop
def XP:=@List.mem_flatMap
def SM:=@Bool.not_false
def ado:=@List.mem_cons_self
def adp:=@List.mem_replicate
def adq:=@Option.isSome_some
def ads:=@Array.getElem?_modify
def adt:=@List.contains_iff_mem
def adu:=@Nat.le_div_iff_mul_le
def adv:=@List.mem_or_eq_of_mem_set
def Ur:=@List.head?_cons
def QO:=@List.length_nil
def Wk:=@Int.add_mul
def Yh:=@Int.pow_succ
def adA:=@List.foldl_append
def Rr:=@List.map_map
def Yt:=@Nat.add_zero
def XE:=@Bool.and_self
def Qh:=@Bool.and_true
def adF:=@List.append_cancel_right
def adG:=@List.ext_getElem
def adH:=@List.getElem?_replicate
def Ym:=@List.head?_nil
theorem adJ:type_of% @Nat.mod_eq_of_lt:=@Nat.mod_eq_of_lt
def adK:=@Int.emod_lt_of_pos
def adL:=@List.set_cons_succ
def TU:=@Nat.lt_or_ge
def adN:=@Int.emod_nonneg
def adO:=@List.mem_filter
def adP:=@List.singleton_append
def adQ:=@Nat.or_lt_two_pow
def adR:=@Array.getElem?_append_left
def adS:=@Bool.and_false
theorem adT:type_of% @List.range_eq_range':=@List.range_eq_range'
def X8:=@Nat.div_one
theorem adV:type_of% @List.range'_succ:=@List.range'_succ
def adW:=@Nat.max_eq_right
def adX:=@List.drop_succ_cons
def adY:=@List.replicate_zero
def adZ:=@Nat.div_mul_le_self
def ad0:=@Nat.gcd_pos_of_pos_right
def ad1:=@Int.natCast_add
def ad2:=@Nat.testBit_and
def ad3:=@List.filter_append
def ad4:=@Nat.add_sub_cancel
def ad5:=@Nat.and_lt_two_pow
def ad6:=@Nat.xor_lt_two_pow
def ad7:=@of_decide_eq_false
def ad8:=@List.getLast?_cons_cons
def ad9:=@List.length_eq_zero_iff
def ad_:=@List.flatten_cons
def aea:=@List.pairwise_lt_range
def aeb:=@List.take_zero
def aec:=@Nat.lt_trichotomy
theorem aed:type_of% @Nat.ne_of_beq_eq_false:=@Nat.ne_of_beq_eq_false
def aee:=@Option.map_eq_some_iff
def aef:=@List.length_replicate
def aeg:=@List.mem_append_right
def aeh:=@List.filter_cons
def aei:=@List.getElem_map
def aej:=@Nat.lt_of_not_le
def aek:=@Bool.false_or
def ael:=@Int.le_refl
def aem:=@Int.mul_add
def aen:=@Int.mul_le_mul_of_nonneg_left
def aeo:=@List.mem_append_left
def aep:=@Array.getElem?_setIfInBounds
def aeq:=@Int.ediv_nonneg
def aer:=@Int.natCast_pow
def aes:=@List.filter_nil
def aet:=@List.length_set
def aeu:=@Nat.testBit_xor
def aev:=@Option.map_none
theorem aew:type_of% @Array.length_toList:=@Array.length_toList
def aex:=@List.getElem?_range
def aey:=@List.map_eq_nil_iff
def aez:=@List.take_succ_cons
def aeA:=@Int.add_zero
def aeB:=@Nat.zero_mul
def aeC:=@Array.ext_getElem?
def aeD:=@Int.mul_le_mul
def aeE:=@List.getElem?_take
def aeF:=@List.getElem_range
def aeG:=@List.perm_ext_iff_of_nodup
theorem aeH:type_of% @Nat.beq_eq:=@Nat.beq_eq
def aeI:=@Nat.pos_of_ne_zero
def aeJ:=@Array.mapM_eq_mapM_toList
def aeK:=@Array.size_append
def aeL:=@Int.emod_eq_of_lt
def aeM:=@List.any_eq_false
def aeN:=@List.ext_getElem?
def aeO:=@Nat.gcd_dvd_right
def aeP:=@Nat.le_succ_of_le
def aeQ:=@Array.getElem?_replicate
def aeR:=@List.any_cons
def aeS:=@Option.isSome_iff_exists
def aeT:=@Int.natCast_ediv
def aeU:=@List.getElem_set
def aeV:=@List.nodup_range
def aeW:=@Nat.le_max_right
def aeX:=@Nat.mul_div_cancel_left
def aeY:=@decide_eq_false_iff_not
def aeZ:=@Array.getElem?_extract
def ae0:=@Bool.or_true
def ae1:=@Nat.gcd_comm
def ae2:=@Nat.lt_trans
def ae3:=@Nat.pow_zero
def ae4:=@Nat.testBit_lt_two_pow
def ae5:=@List.all_append
def ae6:=@List.nodup_cons
def ae7:=@List.sum_append
def ae8:=@Nat.div_lt_self
def ae9:=@Nat.not_lt_zero
def ae_:=@List.length_singleton
def afa:=@Nat.div_lt_iff_lt_mul
def afb:=@Bool.false_and
def afc:=@Bool.or_eq_false_iff
def afd:=@Int.ofNat_eq_natCast
def afe:=@Int.one_mul
def aff:=@Nat.mul_add
def afg:=@Nat.pow_lt_pow_right
def afh:=@Array.getElem?_push
def afi:=@Array.toList_zipIdx
def afj:=@List.flatMap_append
def afk:=@List.take_set_of_le
def afl:=@Prod.mk.injEq
def afm:=@Array.foldl_toList
def afn:=@Bool.not_eq_false'
def afo:=@Nat.and_one_is_mod
def afp:=@Nat.eq_zero_or_pos
def afq:=@Nat.gcd_zero_right
def afr:=@Nat.max_le
def afs:=@Int.add_comm
def aft:=@Int.le_trans
def afu:=@Int.mul_zero
def afv:=@Int.zero_mul
def afw:=@List.getElem?_inj
def afx:=@List.zip_nil_left
def afy:=@Nat.mul_left_comm
def afz:=@Nat.pow_add
end Hx
end
set_option maxRecDepth 20000
set_option maxHeartbeats 8000000
namespace Hx
open Go
noncomputable section
variable {ty e t:TypeId}{v va vi y:Value}{n b off i bd bytes ep len:Nat}{c:Array Value}{w w':World}{loose ag:Bool}
inductive AV where
 |bool (b:Bool)
 |int (k:IntKind) (n:Int)
 |str (s:ByteArray)
 |Zz (vs:List AV)
 |agg (cs:List AV)
 |Ud|Z6|Mq|Xu|tO
 |TT
 |Zs (tag:Nat) (sz:Nat) (rows:List (List AV))
 |ZR (tag:Nat) (sz:Nat) (rows:List (List AV)) (i off:Nat)
 |ZG (id ep off len:Nat) (lim:Option Nat)
 |ZD (id ep i off:Nat)
 |ZH (f:Nat) (first cap:List AV)
 |hmap (id:Nat)
 |J7 (t:Nat) (v:AV)
 |NH (id:Nat)
 deriving Inhabited
abbrev AV.undef:AV:=.Zz []
def AV.cells:AV->List AV
 |.agg cs=>cs
 |v=>[v]
def AV.one:AV->Bool
 |.Zz _|.agg _=>false
 |_=>true
def AV.isTup:AV->Bool
 |.Zz _=>true
 |_=>false
structure TM (α:Type) where
 run:α
abbrev ap {α:Type}(b:Bool)(x y:α):α:=@Bool.rec (λ_=>α) y x b
def lq(b:Bool):Bool:=@Bool.rec (λ_=>Bool) true false b
inductive Tr (α:Type) where
 |nil
 |node (v:α) (l r:Tr α)
def Tr.get{α:Type}(e:α):Tr α->Nat->α
 |.nil,_=>e
 |.node v _ _,0=>v
 |.node _ l r,m+1=>ap (Nat.beq (m % 2) 0) (Tr.get e l (m / 2)) (Tr.get e r (m / 2))
def gpF{α:Type}(e:α):Nat->Nat->TM (Tr α->α)
 |0,_=>⟨λ_=>e⟩
 |_+1,0=>⟨λt=>@Tr.rec α (λ_=>α) e (λv _ _ _ _=>v) t⟩
 | f+1,m+1=>ap (Nat.beq (m % 2) 0)
   ⟨λt=>@Tr.rec α (λ_=>α) e (λ_ l _ _ _=>(gpF e f (m / 2)).run l) t⟩
   ⟨λt=>@Tr.rec α (λ_=>α) e (λ_ _ r _ _=>(gpF e f (m / 2)).run r) t⟩
def gp{α:Type}(e:α)(n:Nat):TM (Tr α->α):=gpF e (n+1) n
def Me{α:Type}(e:α):Nat->Nat->TM (Tr α->α->Tr α)
 |0,_=>⟨λt _=>t⟩
 |_+1,0=>⟨λt x=>@Tr.rec α (λ_=>Tr α) (.node x .nil .nil) (λ_ l r _ _=>.node x l r) t⟩
 | f+1,m+1=>ap (Nat.beq (m % 2) 0)
   ⟨λt x=>@Tr.rec α (λ_=>Tr α) (.node e ((Me e f (m / 2)).run .nil x) .nil) (λv l r _ _=>.node v ((Me e f (m / 2)).run l x) r) t⟩
   ⟨λt x=>@Tr.rec α (λ_=>Tr α) (.node e .nil ((Me e f (m / 2)).run .nil x)) (λv l r _ _=>.node v l ((Me e f (m / 2)).run r x)) t⟩
def sp{α:Type}(e:α)(n:Nat):TM (Tr α->α->Tr α):=Me e (n+1) n
def Tr.put{α:Type}(e:α)(t:Tr α)(n:Nat)(x:α):Tr α:=(sp e n).run t x
def CB{α:Type}(n:Nat):List α->Option α :=
 @Nat.rec (λ_=>List α->Option α) (λl=>@List.rec α (λ_=>Option α) none (λa _ _=>some a) l)
  (λ_ ih l=>@List.rec α (λ_=>Option α) none (λ_ t _=>ih t) l) n
def HJ{α:Type}(n:Nat)(x:α):List α->List α :=
 @Nat.rec (λ_=>List α->List α) (λl=>@List.rec α (λ_=>List α) [] (λ_ t _=>x::t) l)
  (λ_ ih l=>@List.rec α (λ_=>List α) [] (λa t _=>a::ih t) l) n
def bi{α:Type}(l:List α):Nat:=@List.rec α (λ_=>Nat) 0 (λ_ _ n=>Nat.succ n) l
def gN{α:Type}(n:Nat):List α->List α :=@Nat.rec (λ_=>List α->List α) (λl=>l) (λ_ ih l=>@List.rec α (λ_=>List α) [] (λ_ t _=>ih t) l) n
def iE{α:Type}(n:Nat):List α->List α :=@Nat.rec (λ_=>List α->List α) (λ_=>[]) (λ_ ih l=>@List.rec α (λ_=>List α) [] (λa t _=>a::ih t) l) n
inductive ZM where
 |none
 |cells (sz:Nat) (rows:List (List AV)) (ep:Nat) (loose fz:Bool)
 |map (es:List (AV×AV))
 |loop (nt:Nat) (t:Tr AV) (ps:List Nat) (assign body:Code) (ZP:Nat) (st:LoopState) (pend:Option Code)
 |ZP (live:Bool)
@[match_pattern,reducible] def Z4 (k:Nat)(r:List (List AV)):ZM:=.cells k r 0 false false
abbrev T:=Tr AV
abbrev H:=Tr ZM
def H.get(h:H)(i:Nat):ZM:=(gp ZM.none i).run h
def H.put(h:H)(i:Nat)(o:ZM):H:=(sp ZM.none i).run h o
structure G where
 h:H
 nx:Nat
 lg:List Nat
def G.empty:G:=⟨.nil,0,[]⟩
def G.put(g:G)(id:Nat)(o:ZM):G:=@G.rec (λ_=>G) (λh nx lg=>⟨h.put id o,nx,id::lg⟩) g
def G.new(g:G)(o:ZM):G:=@G.rec (λ_=>G) (λh nx lg=>⟨h.put nx o,Nat.succ nx,nx::lg⟩) g
def G.get(g:G)(i:Nat):ZM:=H.get g.h i
inductive ZU where
 |call (f:AV) (args:List AV)
 |mark (id:Nat)
inductive Ex where
 |norm
 |exit (id:Nat)
 |ret
inductive CR where
 |fail
 |ok (e:Ex) (t:T) (df:List ZU) (g:G)
inductive FR where
 |fail
 |ok (v:AV) (g:G)
inductive OR where
 |fail
 |val (v:AV)
 |upd (v:AV) (g:G)
 |ZP (a:ZU)
structure IH where
 code:Nat->Nat->Option Nat->Code->T->List ZU->G->CR
 call:Nat->Nat->List AV->G->FR
structure ZO where
 P:Program
 Wd:Nat->Bool
 ext:Nat->Option (Nat->List AV->G->OR)
 Q6:Nat->Option (Nat×List (List AV))
abbrev Rm:=IH->Nat->Option Nat->T->G->OR
section types
variable (P:Program)
def R6(t:TypeId):Option Nat:=(P.info? t).map (·.size)
def lR(t:TypeId):Option Nat:=(P.info? t).map (·.bytes)
def wC(t:TypeId):Option Bool :=
 match P.underlying t with
 |some (.struct _)|some (.array _ _)=>some true
 |some _=>some false
 |none=>none
def ofV:Value->Option AV
 |.bool b=>some (.bool b)
 |.int k n=>some (.int k n)
 |.string s=>some (.str s)
 |.pointer none=>some .Ud
 |.slice none 0 0=>some .Z6
 |.map none=>some .Xu
 |.nilFunc=>some .Mq
 |.nilIface=>some .tO
 |_=>none
def Ge:List Value->Option (List AV)
 |[]=>some []
 | v::vs=>match ofV v,Ge vs with
  |some a,some as=>some (a::as)
  |_,_=>none
def ii(t:TypeId):Option (List AV):=(P.info? t).bind λi=>i.zero.bind λv=>Ge v.cells.toList
def wm(t:TypeId):Option AV:=(P.info? t).bind λi=>i.zero.bind λv=>match v with
 |.agg cs=>(Ge cs.toList).map .agg
 |v=>ofV v
def od(t:TypeId):Option TypeId:=match P.underlying t with|some (.slice e)=>some e|_=>none
def xL(t:TypeId)(f:Nat):Option (Nat×TypeId) :=
 match P.underlying t with
 |some (.struct fs)=>match fs[f]? with|some x=>some (x.offset,x.type)|none=>none
 |_=>none
end types
def aD{α β:Type}(f:α->Option β):List α->Option (List β)
 |[]=>some []
 | v::vs=>match f v with
  | some a=>match aD f vs with
   |some as=>some (a::as)
   |none=>none
  |none=>none
def aW(C:ZO):Operand->Option (TM (T->AV))
 |.tmp n=>some (gp AV.undef n)
 |.const v=>match ofV v with|some a=>some ⟨λ_=>a⟩|none=>none
 |.global g=>match C.Q6 g with|some (sz,rows)=>some ⟨λ_=>.ZR 0 sz rows 0 0⟩|none=>none
 |.func f=>some ⟨λ_=>.ZH f [] []⟩
def cC(C:ZO):List Operand->Option (TM (T->List AV))
 |[]=>some ⟨λ_=>[]⟩
 | x::xs=>match aW C x,cC C xs with
  |some a,some as=>some ⟨λt=>a.run t::as.run t⟩
  |_,_=>none
def yw(k:IntKind)(n:Int):Int :=
 match k,n with
 |.i64,.ofNat m=>ap (Nat.blt m 9223372036854775808) (.ofNat m) (IntKind.wrap .i64 (.ofNat m))
 |.i64,.negSucc m=>ap (Nat.blt m 9223372036854775808) (.negSucc m) (IntKind.wrap .i64 (.negSucc m))
 |.u64,.ofNat m=>.ofNat (m % 18446744073709551616)
 |.u8,.ofNat m=>.ofNat (m % 256)
 |k,n=>IntKind.wrap k n
def DM:Int->Int->Bool
 |.ofNat m,.ofNat n=>Nat.blt m n
 |.ofNat _,.negSucc _=>false
 |.negSucc _,.ofNat _=>true
 |.negSucc m,.negSucc n=>Nat.blt n m
def FL:Int->Int->Bool
 |.ofNat m,.ofNat n=>Nat.beq m n
 |.ofNat _,.negSucc _=>false
 |.negSucc _,.ofNat _=>false
 |.negSucc m,.negSucc n=>Nat.beq m n
def oJ:Sem Value->Option AV
 |.pure (.int k n)=>some (.int k n)
 |.pure (.bool b)=>some (.bool b)
 |_=>none
def X3(k:IntKind):Int->Int->Option AV
 |.ofNat m,.ofNat (n+1)=>some (.int k (yw k (.ofNat (m / (n+1)))))
 |a,b=>oJ (Op.intDiv .quo k a b)
def X6(k:IntKind):Int->Int->Option AV
 |.ofNat m,.ofNat (n+1)=>some (.int k (.ofNat (m % (n+1))))
 |a,b=>oJ (Op.intDiv .rem k a b)
def o5(k:IntKind)(m n:Nat):Bool :=
 match k with
 |.u64=>Nat.blt m 18446744073709551616&&Nat.blt n 18446744073709551616
 |.i64=>Nat.blt m 9223372036854775808&&Nat.blt n 9223372036854775808
 |_=>false
def WG(op:BinOp)(k:IntKind):Int->Int->Option AV
 | .ofNat m,.ofNat n=>ap (o5 k m n)
   (match op with
    |.and=>some (.int k (.ofNat (Nat.land m n)))
    |.or=>some (.int k (.ofNat (Nat.lor m n)))
    |.xor=>some (.int k (.ofNat (Nat.xor m n)))
    |.andNot=>some (.int k (.ofNat (Nat.xor m (Nat.land m n))))
    |_=>none)
   (oJ (Op.intBits op k (.ofNat m) (.ofNat n)))
 |a,b=>oJ (Op.intBits op k a b)
def T9(k:IntKind):Int->Int->Option AV
 |.ofNat m,.ofNat n=>some (.int k (yw k (.ofNat (m*2 ^ (Nat.min n k.bits)))))
 |a,b=>oJ (Op.shift .shl k a k b)
def T_(k:IntKind):Int->Int->Option AV
 |.ofNat m,.ofNat n=>some (.int k (.ofNat (m / 2 ^ (Nat.min n k.bits))))
 |a,b=>oJ (Op.shift .shr k a k b)
def dG:IntKind->IntKind->Bool
 |.i64,.i64=>true
 |.u64,.u64=>true
 |a,b=>decide (a=b)
def fT:BinOp->TM (IntKind->Int->IntKind->Int->Option AV)
 |.add=>⟨λk a k' b=>ap (dG k k') (some (.int k (yw k (a+b)))) none⟩
 |.sub=>⟨λk a k' b=>ap (dG k k') (some (.int k (yw k (a - b)))) none⟩
 |.mul=>⟨λk a k' b=>ap (dG k k') (some (.int k (yw k (a*b)))) none⟩
 |.quo=>⟨λk a k' b=>ap (dG k k') (X3 k a b) none⟩
 |.rem=>⟨λk a k' b=>ap (dG k k') (X6 k a b) none⟩
 |.eql=>⟨λk a k' b=>ap (dG k k') (some (.bool (FL a b))) none⟩
 |.neq=>⟨λk a k' b=>ap (dG k k') (some (.bool (lq (FL a b)))) none⟩
 |.lss=>⟨λk a k' b=>ap (dG k k') (some (.bool (DM a b))) none⟩
 |.leq=>⟨λk a k' b=>ap (dG k k') (some (.bool (lq (DM b a)))) none⟩
 |.gtr=>⟨λk a k' b=>ap (dG k k') (some (.bool (DM b a))) none⟩
 |.geq=>⟨λk a k' b=>ap (dG k k') (some (.bool (lq (DM a b)))) none⟩
 |.shl=>⟨λk a _ b=>T9 k a b⟩
 |.shr=>⟨λk a _ b=>T_ k a b⟩
 |op=>⟨λk a k' b=>ap (dG k k') (WG op k a b) none⟩
def qh:TypeDesc->Bool
 |.bool|.int _|.string=>true
 |_=>false
def Aj(P:Program)(rec:TypeId->Option (List TypeDesc)):List Field->Nat->Option (List TypeDesc)
 |[],_=>some []
 | f::fs,k=>match rec f.type with
  | some ds=>match Aj P rec fs (k+ds.length) with
   | some r => ap ((f.name != "_") && Nat.beq f.offset k && (R6 P f.type == some ds.length)) (some (ds ++ r)) none
   |none=>none
  |none=>none
def qi(P:Program):Nat->TypeId->Option (List TypeDesc)
 |0,_=>none
 | d+1,t=>match P.underlying t with
  |some (.struct fs)=>ap (P.stoodInHeld t) none (Aj P (qi P d) fs.toList 0)
  | some (.array n e)=>match qi P d e with
   |some ds=>ap (R6 P e == some ds.length) (some (List.replicate n ds).flatten) none
   |none=>none
  |some d=>ap (qh d) (some [d]) none
  |none=>none
def mG(P:Program)(t:TypeId):Option (List TypeDesc) :=ap (P.eqGuardType P.depth t) none (qi P 8 t)
def sD:TypeDesc->AV->Bool
 |.bool,.bool _=>true
 |.int k,.int k' _=>dG k k'
 |.string,.str _=>true
 |_,_=>false
def eU:List TypeDesc->List AV->Bool
 |[],[]=>true
 |d::ds,v::vs=>ap (sD d v) (eU ds vs) false
 |_,_=>false
def pA:AV->AV->Option Bool
 |.int k a,.int k' b=>ap (dG k k') (some (FL a b)) none
 |.bool a,.bool b=>some (ap a b (lq b))
 |.str a,.str b=>some (decide (a=b))
 |_,_=>none
def eT:List AV->List AV->Option Bool
 |[],[]=>some true
 | a::as,b::bs=>match pA a b,eT as bs with
  |some x,some y=>some (ap x y false)
  |_,_=>none
 |_,_=>none
inductive VR where
 |flat (ds:List TypeDesc)|slice|func|bool|iface (empty:Bool)|other
def uw(P:Program)(t:TypeId):VR :=
 match P.underlying t with
 |some (.slice _)=>.slice
 |some (.func _ _ _)=>.func
 |some .bool=>.bool
 |some (.interface ms)=>.iface ms.isEmpty
 |some (.struct _)|some (.array _ _)=>match mG P t with|some ds=>.flat ds|none=>.other
 |_=>.other
def TZ(k:VR)(x y:AV):Option Bool :=
 match k with
 | .flat ds=>match x,y with
  |.agg xs,.agg ys=>ap (eU ds xs&&eU ds ys) (eT xs ys) none
  |_,_=>none
 | .slice=>match x,y with
  |.Z6,.Z6=>some true
  |.Z6,.Zs ..|.Z6,.ZG ..|.Z6,.TT|.Zs ..,.Z6|.ZG ..,.Z6|.TT,.Z6=>some false
  |_,_=>none
 | .func=>match x,y with
  |.Mq,.Mq=>some true
  |.Mq,.ZH ..|.ZH ..,.Mq|.Mq,.NH _|.NH _,.Mq=>some false
  |_,_=>none
 | .bool=>match x,y with
  |.bool a,.bool b=>some (ap a b (lq b))
  |_,_=>none
 | .iface e=>match x,y with
  |.tO,.tO=>ap e (some true) none
  |.tO,.J7 ..|.J7 ..,.tO=>some false
  |_,_=>none
 |.other=>none
def RK:Option AV->OR
 |some v=>.val v
 |none=>.fail
def EE(P:Program)(op:BinOp)(t:TypeId):TM (AV->AV->OR) :=
 match op with
 | .eql=>match uw P t with
  |.other=>⟨λx y=>match x,y with|.int k a,.int k' b=>RK ((fT .eql).run k a k' b)|_,_=>.fail⟩
  |ek=>⟨λx y=>match TZ ek x y with|some b=>.val (.bool b)|none=>.fail⟩
 | .neq=>match uw P t with
  |.other=>⟨λx y=>match x,y with|.int k a,.int k' b=>RK ((fT .neq).run k a k' b)|_,_=>.fail⟩
  |ek=>⟨λx y=>match TZ ek x y with|some b=>.val (.bool (lq b))|none=>.fail⟩
 |op=>⟨λx y=>match x,y with|.int k a,.int k' b=>RK ((fT op).run k a k' b)|_,_=>.fail⟩
def unA(op:UnOp):TM (AV->OR) :=
 match op with
 |.not=>⟨λx=>match x with|.bool b=>.val (.bool (lq b))|_=>.fail⟩
 |op=>⟨λx=>match x with|.int k n=>RK (oJ (Op.unary op (.int k n)))|_=>.fail⟩
def cK(agg:Bool)(n:Nat)(row:List AV)(off:Nat):Option AV :=ap agg (let cs:=iE n (gN off row);ap (Nat.beq (bi cs) n) (some (.agg cs)) none) (CB off row)
def dh(row:List AV)(off:Nat)(cs:List AV):Option (List AV) :=
 ap (Nat.ble (off+bi cs) (bi row))
  (some (match cs with
   |[c]=>HJ off c row
   |cs=>iE off row++(cs++gN (off+bi cs) row)))
  none
def dU(lim:Nat):AV->Option Nat
 |.int _ (.ofNat n)=>ap (Nat.ble n lim) (some n) none
 |_=>none
def bc(dflt lim:Nat):Option AV->Option Nat
 |none=>some dflt
 |some v=>dU lim v
def jb(n:Nat)(row:List AV):List (List AV):=List.replicate n row
def dX:List AV->List ((Nat×Nat)×AV)->Option (List AV)
 |cells,[]=>some cells
 | cells,((off,size),v)::rest =>ap (Nat.beq (bi v.cells) size&&lq v.isTup) (match dh cells off v.cells with|some cs=>dX cs rest|none=>none) none
def i4(sz:Nat):List (List AV)->List (Nat×AV)->Option (List (List AV))
 |rows,[]=>some rows
 |rows,(i,v)::rest=>ap (Nat.beq (bi v.cells) sz&&Nat.blt i (bi rows)&&lq v.isTup) (i4 sz (HJ i v.cells rows) rest) none
def ak(h:H)(sz:Nat):AV->Option (List (List AV))
 |.Z6=>some []
 |.TT=>some []
 |.Zs _ sz' rows=>ap (Nat.beq sz sz' || rows.isEmpty) (some rows) none
 | .ZG id ep off len _=>match h.get id with
  |.cells sz' rows ep' _ _=>ap (Nat.beq ep ep'&&Nat.beq sz sz'&&Nat.ble (off+len) (bi rows)) (some (iE len (gN off rows))) none
  |_=>none
 |_=>none
def oV(rows:List (List AV))(off:Nat)(new:List (List AV)):List (List AV) :=
 match new with
 |[r]=>HJ off r rows
 |new=>iE off rows++(new++gN (off+bi new) rows)
def aQ:Nat:=1099511627776
def bK(sz bytes:Nat)(s:AV)(new:List (List AV))(g:G):OR :=
  match s with
  | .Z6| .TT=>match new with
   |[]=>.val s
   |_=>ap (Nat.ble (bi new*bytes) aQ) (.upd (.ZG g.nx 0 0 (bi new) none) (g.new (.cells sz new 0 true false))) .fail
  | .Zs ..=>match new with
   |[]=>.val s
   |_=>.fail
  | .ZG id ep off len lim=>match g.get id with
   | .cells sz' rows ep' loose fz =>
    ap (Nat.beq ep ep'&&Nat.beq sz sz'&&Nat.ble (off+len) (bi rows)&&Nat.ble ((len+bi new)*bytes) aQ)
     (ap (Nat.ble (len+bi new) (lim.getD (bi rows - off)))
       (match new with
        |[]=>.val s
        | _=>ap (Nat.ble (off+len+bi new) (bi rows)&&lq fz)
         (.upd (.ZG id ep off (len+bi new) lim) (g.put id (.cells sz (oV rows (off+len) new) ep loose fz))) .fail)
       (ap (lim.isSome || lq loose)
        (.upd (.ZG g.nx 0 0 (len+bi new) none) (g.new (.cells sz (iE len (gN off rows)++new) 0 true false)))
        (ap fz .fail (.upd (.ZG id (Nat.succ ep) 0 (len+bi new) none) (g.put id (.cells sz (iE len (gN off rows)++new) (Nat.succ ep) true false))))))
     .fail
   |_=>.fail
  |_=>.fail
def eS(sz bytes:Nat)(s x:AV)(g:G):OR :=
 match ak g.h sz x with
 |none=>.fail
 |some new=>bK sz bytes s new g
def AI(sz bytes:Nat)(zero:List AV)(s x:AV)(g:G):OR :=
 match dU aQ x with
 |none=>.fail
 |some n=>ap (Nat.ble (n*bytes) aQ) (bK sz bytes s (jb n zero) g) .fail
def H3(sz:Nat)(d x:AV)(g:G):OR :=
 match ak g.h sz x with
 |none=>.fail
 | some src=>match d with
  |.Z6|.TT=>.val (.int .i64 0)
  |.Zs _ _ rows=>ap (rows.isEmpty || src.isEmpty) (.val (.int .i64 0)) .fail
  | .ZG id ep off len _=>match g.get id with
   | .cells sz' rows ep' loose fz =>
    ap (Nat.beq ep ep'&&Nat.beq sz sz'&&Nat.ble (off+len) (bi rows)&&lq fz)
     (.upd (.int .i64 (Nat.min (bi src) len)) (g.put id (.cells sz (oV rows off (iE (Nat.min (bi src) len) src)) ep loose fz))) .fail
   |_=>.fail
  |_=>.fail
def qz(sz:Nat)(x:AV)(lo hi mx:Option AV)(h:H):Option AV :=
 match x with
 | .Z6=>match bc 0 0 lo,bc 0 0 hi,bc 0 0 mx with
  |some _,some _,some _=>some .Z6
  |_,_,_=>none
 | .TT=>match bc 0 0 lo,bc 0 0 hi,bc 0 0 mx with
  |some _,some _,some _=>some .TT
  |_,_,_=>none
 | .Zs tag sz' rows=>match mx with
  | none=>match bc (bi rows) (bi rows) hi with
   |none=>none
   | some h=>match bc 0 h lo with
    |none=>none
    |some l=>ap (Nat.beq sz sz') (some (.Zs tag sz (iE (h - l) (gN l rows)))) none
  | some m=>match dU 0 m,bc 0 0 hi,bc 0 0 lo with
   |some _,some _,some _=>some .TT
   |_,_,_=>none
 | .ZG id ep off len lim=>match h.get id with
  | .cells sz' rows ep' loose _ =>
   ap (Nat.beq ep ep'&&Nat.beq sz sz'&&Nat.ble (off+len) (bi rows))
    (match bc (lim.getD (bi rows - off)) (lim.getD (bi rows - off)) mx with
     |none=>none
     | some m=>match bc len m hi with
      |none=>none
      | some h=>match bc 0 h lo with
       |none=>none
       | some l =>
        ap (Nat.beq m l)
         (ap (mx.isSome || lim.isSome || lq loose) (some .TT) (some (.Zs 0 sz [])))
         (some (.ZG id ep (off+l) (h - l) (match mx with|some _=>some (m - l)|none=>lim.map (· - l))))) none
  |_=>none
 |_=>none
def ni(k k':AV):Option Bool :=
 match k with
 |.agg xs=>match k' with|.agg ys=>eT xs ys|_=>none
 |x=>match k' with|.agg _=>none|y=>pA x y
def qg(k:AV):List (AV×AV)->Option (Option AV)
 |[]=>some none
 | (k',v)::es=>match ni k k' with
  |some true=>some (some v)
  |some false=>qg k es
  |none=>none
def L5(k v:AV):List (AV×AV)->Option (List (AV×AV))
 |[]=>some [(k,v)]
 | (k',v')::es=>match ni k k' with
  |some true=>some ((k,v)::es)
  |some false=>match L5 k v es with|some r=>some ((k',v')::r)|none=>none
  |none=>none
inductive Nm where
 |one (d:TypeDesc)|flat (ds:List TypeDesc)|other
def cL(P:Program)(t:TypeId):Nm :=
 match P.underlying t with
 |some (.struct _)|some (.array _ _)=>match mG P t with|some ds=>.flat ds|none=>.other
 |some d=>ap (qh d) (.one d) .other
 |none=>.other
def lQ:Nm->AV->Bool
 |.one d,v=>sD d v
 |.flat ds,.agg vs=>eU ds vs
 |_,_=>false
abbrev VH:=T->G->OR
def qo(ag:Bool)(n:Nat)(a:T->AV):VH:=λt g =>
 match a t with
 | .ZR _ _ rows i off=>match CB i rows with
  |some row=>RK (cK ag n row off)
  |none=>.fail
 | .ZD id ep i off=>match g.get id with
  | .cells _ rows ep' _ _=>ap (Nat.beq ep ep') (match CB i rows with
   |some row=>RK (cK ag n row off)
   |none=>.fail) .fail
  |_=>.fail
 |_=>.fail
def sJ(n:Nat)(a x:T->AV):VH:=λt g =>
 match a t with
 | .ZD id ep i off=>match g.get id with
  | .cells sz rows ep' loose fz=>ap (Nat.beq ep ep'&&Nat.beq (bi (x t).cells) n&&lq fz&&lq (x t).isTup) (match CB i rows with
   | some row=>match dh row off (x t).cells with
    |some row'=>.upd .undef (g.put id (.cells sz (HJ i row' rows) ep loose fz))
    |none=>.fail
   |none=>.fail) .fail
  |_=>.fail
 |_=>.fail
def IU(cs:List AV):VH:=λ_ g=>.upd (.ZD g.nx 0 0 0) (g.new (Z4 (bi cs) [cs]))
def RA(a:T->AV):VH:=λt g=>ap (a t).isTup .fail (.upd (.ZD g.nx 0 0 0) (g.new (Z4 (bi (a t).cells) [(a t).cells])))
def rB(zero:List AV)(pl:List (Nat×Nat))(vs:T->List AV):VH:=λt _ =>match dX zero (pl.zip (vs t)) with|some cs=>.val (.agg cs)|none=>.fail
def jC(sz len:Nat)(zrows:List (List AV))(is:List Nat)(vs:T->List AV):VH:=λt g =>
 match i4 sz zrows (is.zip (vs t)) with
 |some rows=>.upd (.ZG g.nx 0 0 len none) (g.new (Z4 sz rows))
 |none=>.fail
def mo(fo:Nat)(a:T->AV):VH:=λt _ =>
 match a t with
 |.ZR l sz rows i off=>.val (.ZR l sz rows i (off+fo))
 |.ZD id ep i off=>.val (.ZD id ep i (off+fo))
 |_=>.fail
def i7(sz:Nat)(a ix:T->AV):VH:=λt g =>
 match a t with
 | .Zs l sz' rows=>match ix t with
  |.int _ (.ofNat i)=>ap (Nat.beq sz sz'&&Nat.blt i (bi rows)) (.val (.ZR l sz rows i 0)) .fail
  |_=>.fail
 | .ZG id ep off len _=>match ix t with
  | .int _ (.ofNat i)=>match g.get id with
   |.cells sz' _ ep' _ _=>ap (Nat.beq ep ep'&&Nat.beq sz sz'&&Nat.blt i len) (.val (.ZD id ep (off+i) 0)) .fail
   |_=>.fail
  |_=>.fail
 |_=>.fail
def qm(n sz:Nat)(a ix:T->AV):VH:=λt _ =>
 match ix t with
 | .int _ (.ofNat i)=>ap (Nat.blt i n) (match a t with
  |.ZR l sz' rows j off=>.val (.ZR l sz' rows j (off+i*sz))
  |.ZD id ep j off=>.val (.ZD id ep j (off+i*sz))
  |_=>.fail) .fail
 |_=>.fail
def Al(ag:Bool)(n sz:Nat)(a ix:T->AV):VH:=λt _ =>
 match a t with
 | .agg cs=>match ix t with
  |.int _ (.ofNat i)=>ap (Nat.blt i n) (RK (cK ag sz cs (i*sz))) .fail
  |_=>.fail
 |_=>.fail
def tX(a ix:T->AV):VH:=λt _ =>
 match a t with
 | .str s=>match ix t with
  | .int _ (.ofNat i)=>match CB i s.data.toList with
   |some b=>.val (.int .u8 (.ofNat b.toNat))
   |none=>.fail
  |_=>.fail
 |_=>.fail
def ju(sz bytes:Nat)(zero:List AV)(l c:T->AV):VH:=λt g =>
 match dU aQ (c t) with
 | some cn=>match dU cn (l t) with
  | some ln=>ap (Nat.ble (cn*bytes) aQ)
   (.upd (.ZG g.nx 0 0 ln none) (g.new (Z4 sz (jb cn zero)))) .fail
  |none=>.fail
 |none=>.fail
def cW(kk:Nm)(zero:AV)(ok:Bool)(m k:T->AV):VH:=λt g =>
 ap (lQ kk (k t))
  (match (match m t with
          |.Xu=>some []
          |.hmap id=>match g.get id with|.map es=>some es|_=>none
          |_=>none) with
   | some es=>match qg (k t) es with
    |some (some v)=>.val (ap ok (.Zz [v,.bool true]) v)
    |some none=>.val (ap ok (.Zz [zero,.bool false]) zero)
    |none=>.fail
   |none=>.fail) .fail
def dT(kk:Nm)(m k x:T->AV):VH:=λt g =>
 ap (lQ kk (k t))
  (match m t with
   | .hmap id=>match g.get id with
    | .map es=>match L5 (k t) (x t) es with
     |some es'=>.upd .undef (g.put id (.map es'))
     |none=>.fail
    |_=>.fail
   |_=>.fail) .fail
def ir(k:AV):Nat->List (AV×AV)->Option (Option (Nat×AV))
 |_,[]=>some none
 | i,(k',v)::es=>match ni k k' with
  |some true=>some (some (i,v))
  |some false=>ir k (Nat.succ i) es
  |none=>none
def dM(kk:Nm)(zero:AV)(m k:T->AV):VH:=λt g =>
 ap (lQ kk (k t))
  (match m t with
   | .hmap id=>match g.get id with
    | .map es=>match ir (k t) 0 es with
     |some (some (i,v))=>.val (.Zz [v,.int .i64 (.ofNat i)])
     |some none=>.upd (.Zz [zero,.int .i64 (.ofNat (bi es))]) (g.put id (.map (es++[(k t,zero)])))
     |none=>.fail
    |_=>.fail
   |_=>.fail) .fail
def dI(m st x:T->AV):VH:=λt g =>
 match m t with
 | .hmap id=>match g.get id with
  | .map es=>match st t with
   | .int _ (.ofNat i)=>match CB i es with
    |some (k,_)=>.upd .undef (g.put id (.map (HJ i (k,x t) es)))
    |none=>.fail
   |_=>.fail
  |_=>.fail
 |_=>.fail
def EZ(sz:Nat)(zero:List AV)(x:AV)(g:G):OR :=
 match x with
 |.Z6|.TT=>.val .undef
 |.Zs _ _ []=>.val .undef
 | .ZG id ep off len _=>match len with
  |0=>.val .undef
  | _=>match g.get id with
   | .cells sz' rows ep' loose fz =>
    ap (Nat.beq ep ep'&&Nat.beq sz sz'&&Nat.ble (off+len) (bi rows)&&lq fz)
     (.upd .undef (g.put id (.cells sz (oV rows off (jb len zero)) ep loose fz))) .fail
   |_=>.fail
 |_=>.fail
inductive KF where
 |slice|array (n:Nat)|map|str|other
def oU(P:Program)(t:TypeId):KF :=
 match P.underlying t with
 |some (.slice _)=>.slice
 |some (.array n _)=>.array n
 |some (.map _ _)=>.map
 |some .string=>.str
 |_=>.other
def gz(k:KF)(x:AV)(g:G):OR :=
 match k with
 | .slice=>match x with
  |.Z6|.TT=>.val (.int .i64 0)
  |.Zs _ _ rows=>.val (.int .i64 (.ofNat (bi rows)))
  |.ZG _ _ _ n _=>.val (.int .i64 (.ofNat n))
  |_=>.fail
 |.array n=>.val (.int .i64 (.ofNat n))
 | .map=>match x with
  |.Xu=>.val (.int .i64 0)
  |.hmap id=>match g.get id with|.map es=>.val (.int .i64 (.ofNat (bi es)))|_=>.fail
  |_=>.fail
 |.str=>match x with|.str s=>.val (.int .i64 (.ofNat s.size))|_=>.fail
 |.other=>.fail
def RG(x:AV)(g:G):OR :=
 match x with
 |.Z6|.TT=>.val (.int .i64 0)
 | .ZG id ep off _ lim=>match g.get id with
  |.cells _ rows ep' loose _=>ap (Nat.beq ep ep'&&(lim.isSome || lq loose)) (.val (.int .i64 (.ofNat (lim.getD (bi rows - off))))) .fail
  |_=>.fail
 |_=>.fail
def eA(C:ZO)(b:Builtin)(argTypes:Array TypeId)(args:List Operand):Option (TM VH) :=
 match b,args with
 | .len,[x]=>match argTypes[0]?,aW C x with
  |some t,some a=>some ⟨λs g=>gz (oU C.P t) (a.run s) g⟩
  |_,_=>none
 | .append,[a,x]=>match argTypes[0]?,argTypes[1]?,aW C a,aW C x with
  | some t,some xt,some av,some xv=>match od C.P t,C.P.underlying xt with
   | some e,some (.slice _)=>match R6 C.P e,lR C.P e,ii C.P e with
    |some sz,some bytes,some zero=>ap (Nat.beq (bi zero) sz&&Nat.blt 0 sz&&Nat.blt 0 bytes) (some ⟨λs g=>eS sz bytes (av.run s) (xv.run s) g⟩) none
    |_,_,_=>none
   | some e,some (.int _)=>match R6 C.P e,lR C.P e,ii C.P e with
    |some sz,some bytes,some zero=>ap (Nat.beq (bi zero) sz&&Nat.blt 0 sz&&Nat.blt 0 bytes) (some ⟨λs g=>AI sz bytes zero (av.run s) (xv.run s) g⟩) none
    |_,_,_=>none
   |_,_=>none
  |_,_,_,_=>none
 | .copy,[a,x]=>match argTypes[0]?,aW C a,aW C x with
  | some t,some av,some xv=>match od C.P t with
   | some e=>match R6 C.P e with
    |some sz=>some ⟨λs g=>H3 sz (av.run s) (xv.run s) g⟩
    |none=>none
   |none=>none
  |_,_,_=>none
 | .cap,[x]=>match argTypes[0]?,aW C x with
  | some t,some a=>match od C.P t with
   |some _=>some ⟨λs g=>RG (a.run s) g⟩
   |none=>none
  |_,_=>none
 | .clear,[x]=>match argTypes[0]?,aW C x with
  | some t,some a=>match od C.P t with
   | some e=>match R6 C.P e,ii C.P e with
    |some sz,some zero=>ap (Nat.beq (bi zero) sz&&Nat.blt 0 sz) (some ⟨λs g=>EZ sz zero (a.run s) g⟩) none
    |_,_=>none
   |none=>none
  |_,_=>none
 | .max,[x,y]=>match aW C x,aW C y with
  | some a,some b=>some ⟨λs _=>match a.run s with
   | .int k m=>match b.run s with
    |.int k' n=>ap (dG k k') (.val (.int k (ap (DM m n) n m))) .fail
    |_=>.fail
   |_=>.fail⟩
  |_,_=>none
 | .min,[x,y]=>match aW C x,aW C y with
  | some a,some b=>some ⟨λs _=>match a.run s with
   | .int k m=>match b.run s with
    |.int k' n=>ap (dG k k') (.val (.int k (ap (DM n m) n m))) .fail
    |_=>.fail
   |_=>.fail⟩
  |_,_=>none
 |_,_=>none
def jv{α:Type}(f:α->Option Nat):List α->Option Nat
 |[]=>some 0
 | v::vs=>match f v with
  | some a=>match jv f vs with
   |some b=>some (Nat.max a b)
   |none=>none
  |none=>none
def fZ:Nat->AV->Option Nat
 |0,_=>none
 | f+1,v=>match v with
  |.Zs l _ _=>some l
  |.ZR l _ _ _ _=>some l
  |.agg cs=>jv (fZ f) cs
  |.Zz cs=>jv (fZ f) cs
  |.ZH _ a c=>jv (fZ f) (a++c)
  |.J7 _ v=>fZ f v
  |.ZG ..|.ZD ..|.hmap _|.NH _=>none
  |_=>some 0
def aw:Nat:=24
def it(rows:List (List AV)):Option Nat:=jv (jv (fZ aw)) rows
def ut(sz:Nat):Nat->List AV->List (List AV)
 |0,_=>[]
 |n+1,cs=>iE sz cs::ut sz n (gN sz cs)
def jS(n sz:Nat)(a:T->AV)(lo hi:T->Option AV):VH:=λt g =>
 match bc n n (hi t) with
 |none=>.fail
 | some h=>match bc 0 h (lo t) with
  |none=>.fail
  | some l=>match a t with
   | .ZR tag _ rows i off=>match CB i rows with
    |some row=>ap (Nat.ble (off+n*sz) (bi row)) (.val (.Zs tag sz (ut sz (h - l) (gN (off+l*sz) row)))) .fail
    |none=>.fail
   | .ZD id ep i off=>match g.get id with
    | .cells sz' rows ep' loose _=>ap (Nat.beq ep ep') (match CB i rows with
     | some row=>ap (Nat.ble (off+n*sz) (bi row))
      ((λrs=>match it rs with
        |some m=>.upd (.Zs m sz rs) (g.put id (.cells sz' rows ep' loose true))
        |none=>.fail) (ut sz (h - l) (gN (off+l*sz) row))) .fail
     |none=>.fail) .fail
    |_=>.fail
   |_=>.fail
def cP(C:ZO):Op->Option (TM VH)
 |.move x|.assign x=>match aW C x with|some a=>some ⟨λt _=>.val (a.run t)⟩|none=>none
 | .pick c a b=>match aW C c,aW C a,aW C b with
  |some c,some a,some b=>some ⟨λt _=>match c.run t with|.bool q=>ap q (.val (a.run t)) (.val (b.run t))|_=>.fail⟩
  |_,_,_=>none
 | .alloc ty=>match ii C.P ty with
  |some cs=>some ⟨IU cs⟩
  |none=>none
 | .box _ x=>match aW C x with
  |some a=>some ⟨RA a.run⟩
  |none=>none
 | .build ty parts=>match ii C.P ty,cC C (parts.toList.map (·.2)) with
  | some zero,some vs =>
   match C.P.underlying ty with
   | some (.struct fs)=>match aD (λf:Field=>match R6 C.P f.type with| some n=>some (f.offset,n)| none=>none) fs.toList with
    | some places=>match aD (λi=>places[i]?) (parts.toList.map (·.1)) with
     |some pl=>some ⟨rB zero pl vs.run⟩
     |none=>none
    |none=>none
   | some (.array _ e)=>match R6 C.P e with
    |some n=>some ⟨rB zero ((parts.toList.map (·.1)).map λi=>(i*n,n)) vs.run⟩
    |none=>none
   |_=>none
  |_,_=>none
 | .buildSlice ty len parts=>match od C.P ty,cC C (parts.toList.map (·.2)) with
  | some e,some vs=>match R6 C.P e,ii C.P e with
   | some sz,some zero=>ap (Nat.beq (bi zero) sz&&Nat.blt 0 sz&&Nat.ble (len*sz) 1048576)
    (some ⟨jC sz len (jb len zero) (parts.toList.map (·.1)) vs.run⟩) none
   |_,_=>none
  |_,_=>none
 | .load ty a=>match aW C a,wC C.P ty,R6 C.P ty with
  |some a,some ag,some n=>some ⟨qo ag n a.run⟩
  |_,_,_=>none
 | .store ty a x=>match aW C a,aW C x,R6 C.P ty with
  |some a,some x,some n=>some ⟨sJ n a.run x.run⟩
  |_,_,_=>none
 | .nilCheck x=>match aW C x with
  | some a=>some ⟨λt _=>match a.run t with
   |.ZR l sz rows i off=>.val (.ZR l sz rows i off)
   |.ZD id ep i off=>.val (.ZD id ep i off)
   |.ZH f a c=>.val (.ZH f a c)
   |.NH id=>.val (.NH id)
   |_=>.fail⟩
  |none=>none
 | .binOp op ty x y _=>match aW C x,aW C y with
  |some a,some b=>some ⟨λt _=>(EE C.P op ty).run (a.run t) (b.run t)⟩
  |_,_=>none
 | .unOp op _ x=>match aW C x with
  |some a=>some ⟨λt _=>(unA op).run (a.run t)⟩
  |none=>none
 | .convert src dst x=>match aW C x,C.P.underlying src,C.P.underlying dst with
  |some a,some _,some (.int k)=>some ⟨λt _=>match a.run t with|.int _ n=>.val (.int k (yw k n))|_=>.fail⟩
  |_,_,_=>none
 | .makeInterface ty x=>match aW C x,C.P.underlying ty with
  |some _,some (.interface _)=>none
  |some a,some _=>some ⟨λt _=>.val (.J7 ty (a.run t))⟩
  |_,_=>none
 | .makeFunc (.func f) first captured=>match cC C first.toList,cC C captured.toList with
  |some a,some c=>some ⟨λt _=>.val (.ZH f (a.run t) (c.run t))⟩
  |_,_=>none
 | .makeMap ty none=>match C.P.underlying ty with
  |some (.map _ _)=>some ⟨λ_ g=>.upd (.hmap g.nx) (g.new (.map []))⟩
  |_=>none
 | .makeSlice ty l c=>match od C.P ty,aW C l,aW C c with
  | some e,some l,some c=>match R6 C.P e,lR C.P e,ii C.P e with
   |some sz,some bytes,some zero=>ap (Nat.beq (bi zero) sz&&Nat.blt 0 sz) (some ⟨ju sz bytes zero l.run c.run⟩) none
   |_,_,_=>none
  |_,_,_=>none
 | .slice ty x lo hi none=>match C.P.underlying ty,aW C x,cC C lo.toList,cC C hi.toList with
  | some (.slice e),some x,some l,some h=>match R6 C.P e with
   |some sz=>some ⟨λt g=>RK (qz sz (x.run t) (l.run t).head? (h.run t).head? none g.h)⟩
   |none=>none
  | some (.array n e),some x,some l,some h=>match R6 C.P e with
   |some (sz+1)=>some ⟨jS n (sz+1) x.run (λt=>(l.run t).head?) (λt=>(h.run t).head?)⟩
   |_=>none
  |_,_,_,_=>none
 | .slice ty x lo (some hi) (some mx)=>match od C.P ty,aW C x,cC C lo.toList,aW C hi,aW C mx with
  | some e,some x,some l,some h,some m=>match R6 C.P e with
   |some sz=>some ⟨λt g=>RK (qz sz (x.run t) (l.run t).head? (some (h.run t)) (some (m.run t)) g.h)⟩
   |none=>none
  |_,_,_,_,_=>none
 | .fieldAddr ty x f=>match aW C x,xL C.P ty f with
  | some a,some (fo,ft)=>match R6 C.P ft with
   |some (_+1)=>some ⟨mo fo a.run⟩
   |_=>none
  |_,_=>none
 | .field ty x f=>match aW C x,xL C.P ty f with
  | some a,some (fo,ft)=>match wC C.P ft,R6 C.P ft with
   |some ag,some n=>some ⟨λt _=>match a.run t with|.agg cs=>RK (cK ag n cs fo)|_=>.fail⟩
   |_,_=>none
  |_,_=>none
 | .indexAddr ty x ix=>match aW C x,aW C ix with
  | some a,some i=>match C.P.underlying ty with
   | some (.slice e)=>match R6 C.P e with
    |some sz=>some ⟨i7 sz a.run i.run⟩
    |none=>none
   | some (.array n e)=>match R6 C.P e with
    |some sz=>some ⟨qm n sz a.run i.run⟩
    |none=>none
   |_=>none
  |_,_=>none
 | .index ty x ix=>match aW C x,aW C ix with
  | some a,some i=>match C.P.underlying ty with
   | some (.array n e)=>match wC C.P e,R6 C.P e with
    |some ag,some sz=>some ⟨Al ag n sz a.run i.run⟩
    |_,_=>none
   |some .string=>some ⟨tX a.run i.run⟩
   |_=>none
  |_,_=>none
 | .lookup ty x k ok=>match aW C x,aW C k,C.P.underlying ty with
  | some m,some k,some (.map kt et)=>match wm C.P et with
   |some z=>some ⟨cW (cL C.P kt) z ok m.run k.run⟩
   |none=>none
  |_,_,_=>none
 | .mapUpdate ty m k x| .insert ty m k x=>match aW C m,aW C k,aW C x,C.P.underlying ty with
  |some m,some k,some x,some (.map kt _)=>some ⟨dT (cL C.P kt) m.run k.run x.run⟩
  |_,_,_,_=>none
 | .mapEntry ty m k=>match aW C m,aW C k,C.P.underlying ty with
  | some m,some k,some (.map kt et)=>match wm C.P et with
   |some z=>some ⟨dM (cL C.P kt) z m.run k.run⟩
   |none=>none
  |_,_,_=>none
 | .entryStore _ m st x=>match aW C m,aW C st,aW C x with
  |some m,some st,some x=>some ⟨dI m.run st.run x.run⟩
  |_,_,_=>none
 | .extract x i=>match aW C x with
  |some a=>some ⟨λt _=>match a.run t with|.Zz vs=>RK (CB i vs)|_=>.fail⟩
  |none=>none
 |.call { callee:=.builtin b,args,argTypes }=>eA C b argTypes args.toList
 |_=>none
def ZS(h:H)(tag:Nat):Nat->AV->Option AV
 |0,_=>none
 | f+1,v=>match v with
  |.agg cs=>match aD (ZS h tag f) cs with|some as=>some (.agg as)|none=>none
  |.Zz cs=>match aD (ZS h tag f) cs with|some as=>some (.Zz as)|none=>none
  | .ZH g a c=>match aD (ZS h tag f) a,aD (ZS h tag f) c with
   |some as,some cs=>some (.ZH g as cs)
   |_,_=>none
  |.J7 t x=>match ZS h tag f x with|some a=>some (.J7 t a)|none=>none
  | .ZG id ep off len _=>match h.get id with
   | .cells sz rows ep' _ _=>ap (Nat.beq ep ep'&&Nat.ble (off+len) (bi rows))
    (match aD (aD (ZS h tag f)) (iE len (gN off rows)) with
     | some rs=>match it rs with
      |some m=>some (.Zs (Nat.max tag m) sz rs)
      |none=>none
     |none=>none) none
   |_=>none
  | .ZD id ep i off=>match h.get id with
   | .cells sz rows ep' _ _=>ap (Nat.beq ep ep')
    (match aD (aD (ZS h tag f)) rows with
     | some rs=>match it rs with
      |some m=>some (.ZR (Nat.max tag m) sz rs i off)
      |none=>none
     |none=>none) none
   |_=>none
  |.hmap _=>none
  |.NH _=>none
  |v=>some v
def aB(h:H):Nat->AV->List Nat
 |0,_=>[]
 | f+1,v=>match v with
  |.agg cs=>cs.flatMap (aB h f)
  |.Zz cs=>cs.flatMap (aB h f)
  |.ZH _ a c=>a.flatMap (aB h f)++c.flatMap (aB h f)
  |.J7 _ x=>aB h f x
  | .ZG id _ off len _=>id::(match h.get id with
   |.cells _ rows _ _ _=>(iE len (gN off rows)).flatMap (·.flatMap (aB h f))
   |_=>[])
  | .ZD id _ _ _=>id::(match h.get id with
   |.cells _ rows _ _ _=>rows.flatMap (·.flatMap (aB h f))
   |_=>[])
  |.hmap id=>[id]
  |_=>[]
def eL(d:Nat):Nat->AV->Option AV
 |0,_=>none
 | f+1,v=>match v with
  | .Zs t sz rows=>ap (Nat.beq t d) (match aD (aD (eL d f)) rows with
   | some rs=>match it rs with
    |some m=>some (.Zs m sz rs)
    |none=>none
   |none=>none) (some v)
  | .ZR t sz rows i off=>ap (Nat.beq t d) (match aD (aD (eL d f)) rows with
   | some rs=>match it rs with
    |some m=>some (.ZR m sz rs i off)
    |none=>none
   |none=>none) (some v)
  |.agg cs=>match aD (eL d f) cs with|some as=>some (.agg as)|none=>none
  |.Zz cs=>match aD (eL d f) cs with|some as=>some (.Zz as)|none=>none
  | .ZH g a c=>match aD (eL d f) a,aD (eL d f) c with
   |some as,some cs=>some (.ZH g as cs)
   |_,_=>none
  |.J7 t x=>match eL d f x with|some a=>some (.J7 t a)|none=>none
  |v=>some v
def dm(g:G):List Nat->G
 |[]=>g
 | i::is=>match g.get i with
  |.cells sz rows ep loose _=>dm (g.put i (.cells sz rows ep loose true)) is
  |_=>dm g is
def af(ih:IH)(d:Nat)(g:G)(f:Nat)(args:List AV):OR :=
 match aD (ZS g.h d aw) args with
 |none=>.fail
 | some as=>match ih.call (Nat.succ d) f as G.empty with
  |.fail=>.fail
  | .ok r g'=>match ZS g'.h 0 aw r with
   |none=>.fail
   | some r'=>match fZ aw r' with
    |none=>.fail
    | some m=>ap (Nat.blt m d) (.val r')
     (match eL d aw r' with
      |none=>.fail
      | some r''=>match fZ aw r'' with
       |none=>.fail
       |some m'=>ap (Nat.blt m' d) (.upd r'' (dm g (args.flatMap (aB g.h aw)))) .fail)
def dO:T->Nat->List Nat->List AV->Option T
 |t,_,[],[]=>some t
 |t,nt,p::ps,v::vs=>ap (Nat.blt p nt) (dO ((sp AV.undef p).run t v) nt ps vs) none
 |_,_,_,_=>none
def dx(ih:IH)(d:Nat)(id:Nat)(args:List AV)(g:G):OR :=
 match g.get id with
 | .loop nt t ps assign body _ _ _=>match dO t nt ps args with
  |none=>.fail
  | some t'=>match ih.code nt d (some id) assign t' [] g with
   | .ok .norm t1 [] g1=>match g1.get id with
    | .loop nt1 t ps assign1 body1 ZP .ready pend =>
     match ih.code nt d (some id) body t1 [] (g1.put id (.loop nt1 t ps assign1 body1 ZP .busy pend)) with
     | .ok e _ [] g2=>match g2.get id with
      | .loop nt t ps assign body ZP _ _=>match e with
       |.norm=>.upd (.bool true) (g2.put id (.loop nt t ps assign body ZP .ready none))
       |.exit j=>.upd (.bool false) (g2.put id (.loop nt t ps assign body ZP .done (some (.exit j))))
       |.ret=>.upd (.bool false) (g2.put id (.loop nt t ps assign body ZP .done (some .ret)))
      |_=>.fail
     |_=>.fail
    |_=>.fail
   |_=>.fail
 |_=>.fail
def XV:FR->OR
 |.ok v g=>.upd v g
 |.fail=>.fail
def dQ(C:ZO)(ih:IH)(d:Nat)(fv:AV)(vs:List AV)(g:G):OR :=
 match fv with
 | .ZH f first cap=>match C.ext f with
  |some e=>e d (first++(vs++cap)) g
  |none=>ap (C.Wd f) (af ih d g f (first++(vs++cap))) (XV (ih.call d f (first++(vs++cap)) g))
 |.NH id=>dx ih d id vs g
 |_=>.fail
def Uy(C:ZO):Op->Option (TM Rm)
 | .call { callee:=.value (.func f),args,.. }=>match cC C args.toList with
  | some vs=>match C.ext f with
   |some e=>some ⟨λ_ d _ t g=>e d (vs.run t) g⟩
   |none=>ap (C.Wd f) (some ⟨λih d _ t g=>af ih d g f (vs.run t)⟩) (some ⟨λih d _ t g=>XV (ih.call d f (vs.run t) g)⟩)
  |none=>none
 | .call { callee:=.value fo,args,.. }=>match aW C fo,cC C args.toList with
  |some fv,some vs=>some ⟨λih d _ t g=>dQ C ih d (fv.run t) (vs.run t) g⟩
  |_,_=>none
 |.call { callee:=.builtin .recover,.. }=>some ⟨λ_ _ _ _ _=>.val .tO⟩
 | .defer { callee:=.value fo,args,.. }=>match aW C fo,cC C args.toList with
  | some fv,some vs=>some ⟨λ_ _ rd t _=>match rd with
   |some _=>.fail
   | none=>match fv.run t with
    |.ZH f first cap=>.ZP (.call (.ZH f [] cap) (first++vs.run t))
    |_=>.fail⟩
  |_,_=>none
 | op=>match cP C op with
  |some s=>some ⟨λ_ _ _ t g=>s.run t g⟩
  |none=>none
def bP(C:ZO)(op:Op):TM Rm :=
 match Uy C op with
 |some f=>f
 |none=>⟨λ_ _ _ _ _=>.fail⟩
structure Looks where
 rd:List Nat
 sr:List (Nat×Nat)
 soft:List (Nat×Nat)
 big:Bool
def an:AV->List Nat
 |.ZD id _ _ _=>[id]
 |.ZG id _ _ _ _=>[id]
 |.hmap id=>[id]
 |_=>[]
def By:AV->List Nat
 |.hmap id=>[id]
 |_=>[]
def yL:AV->List Nat
 |.ZG id _ _ (_+1) _=>[id]
 |_=>[]
def oO(C:ZO)(b:Builtin)(argTypes:Array TypeId):AV->List Nat :=
 match b with
 | .len=>match argTypes[0]? with
  | some t=>match oU C.P t with
   |.map=>By
   |_=>λ_=>[]
  |none=>λ_=>[]
 |.clear=>yL
 |_=>an
def aA:Looks:=⟨[],[],[],false⟩
def dj:Looks:=⟨[],[],[],true⟩
def am(l:List Nat):Looks:=⟨l,[],[],false⟩
def aL(C:ZO)(op:Op):TM (T->G->Looks) :=
 match op with
 | .load _ a| .store _ a _| .slice _ a _ _ _| .lookup _ a _ true| .mapUpdate _ a _ _| .insert _ a _ _| .entryStore _ a _ _=>match aW C a with
  |some a=>⟨λt _=>am (an (a.run t))⟩
  |none=>⟨λ_ _=>dj⟩
 | .lookup ty a _ false=>match aW C a with
  |some a=>⟨λt _=>⟨[],(an (a.run t)).map (·,ty),[],false⟩⟩
  |none=>⟨λ_ _=>dj⟩
 | .mapEntry ty a _=>match aW C a with
  |some a=>⟨λt _=>⟨an (a.run t),[],(an (a.run t)).map (·,ty),false⟩⟩
  |none=>⟨λ_ _=>dj⟩
 | .indexAddr ty a _=>match C.P.underlying ty,aW C a with
  |some (.slice _),some a=>⟨λt _=>am (an (a.run t))⟩
  |_,_=>⟨λ_ _=>aA⟩
 | .call { callee:=.builtin b,args,argTypes }=>match cC C args.toList with
  |some vs=>⟨λt _=>am ((vs.run t).flatMap (oO C b argTypes))⟩
  |none=>⟨λ_ _=>dj⟩
 | .call { callee:=.value fo,args,.. }=>match aW C fo,cC C args.toList with
  | some fv,some vs=>⟨λt g=>match fv.run t with
   |.ZH f first cap=>ap ((C.ext f).isSome || C.Wd f) (am ((first++(vs.run t++cap)).flatMap (aB g.h aw))) dj
   |_=>dj⟩
  |_,_=>⟨λ_ _=>dj⟩
 |.defer _=>⟨λ_ _=>dj⟩
 |_=>⟨λ_ _=>aA⟩
structure ZC where
 lk:Looks
 wr:List Nat
abbrev RFn:=IH->Nat->Option Nat->T->List ZU->G->CR
def ua(nt:Nat):Option Nat->Option (TM (T->AV->T))
 |none=>some ⟨λt _=>t⟩
 |some d=>ap (Nat.blt d nt) (some (sp AV.undef d)) none
def jZ(ops:List Oper):Option (Nat×Bool)->Option (TM (T->Option Bool))
 |none=>some ⟨λ_=>some true⟩
 | some (j,want)=>match ops[j]? with
  | some oj=>match oj.dst with
   | some d=>some ⟨λt=>match (gp AV.undef d).run t with
    |.bool b=>some (ap want b (lq b))
    |.Zz _=>some false
    |_=>none⟩
   |none=>none
  |none=>none
def sL(out:T->AV->T)(next:T->List ZU->G->CR)(t:T)(df:List ZU)(g:G):OR->CR
 |.fail=>.fail
 |.val v=>next (out t v) df g
 |.upd v g'=>next (out t v) df g'
 |.ZP a=>next (out t .undef) (a::df) g
def Ia:TM RFn:=⟨λ_ _ _ _ _ _=>.fail⟩
def lV(C:ZO)(nt:Nat)(all:List Oper):List Oper->TM RFn
 |[]=>⟨λ_ _ _ t df g=>.ok .norm t df g⟩
 | o::rest=>match ua nt o.dst with
  | some out=>match o.guard with
   |none=>⟨λih d rd t df g=>sL out.run ((lV C nt all rest).run ih d rd) t df g ((bP C o.op).run ih d rd t g)⟩
   | some gd=>match jZ all (some gd) with
    | some q=>⟨λih d rd t df g=>match q.run t with
     |some true=>sL out.run ((lV C nt all rest).run ih d rd) t df g ((bP C o.op).run ih d rd t g)
     |some false=>(lV C nt all rest).run ih d rd (out.run t .undef) df g
     |none=>.fail⟩
    |none=>Ia
  |none=>Ia
def bO:List Oper->List Nat->List Nat
 |[],acc=>acc
 | o::rest,acc =>bO rest (acc++[o.after.toList.foldl (λm e=>ap (Region.binds .any e) (m ||| 2 ^ e.on ||| acc.getD e.on 0) m) 0])
def yR(ops:List Oper)(o:Oper):List Nat :=
 (o.op.operands.toList.filterMap fun|.tmp t=>some t|_=>none) ++
 (match o.guard with
  |some (g,_)=>match ops[g]? with|some og=>og.dst.toList|none=>[]
  |none=>[])
def mB(ops:List Oper)(x y:Oper):Bool :=
 (match x.dst with|some d=>!(yR ops y).contains d&&y.dst != some d|none=>true) &&
 (match y.dst with|some d=>!(yR ops x).contains d|none=>true)
def meets(a b:List Nat):Bool:=a.any λx=>b.contains x
def FG(l:List (Nat×Nat)):List Nat:=l.map (·.1)
def Gg(p:Nat×Nat):List (Nat×Nat)->Bool
 |[]=>false
 |q::r=>ap (Nat.beq p.1 q.1&&Nat.beq p.2 q.2) true (Gg p r)
def fA(x y:ZC):Bool :=
 match x.wr with
 |[]=>true
 |_=>!y.lk.big&&!meets x.wr y.wr&&!meets x.wr y.lk.rd&&!meets x.wr (FG y.lk.sr)
def dL(x y:ZC):Bool :=
 match x.wr with
 |[]=>true
 |_=>!y.lk.big&&!meets x.wr y.wr&&!meets x.wr y.lk.rd&&(!meets x.wr (FG y.lk.sr) || y.lk.sr.all λp=>Gg p x.lk.soft)
def bz(x y:ZC):Bool:=fA x y&&dL y x
def cJ(pm:List Nat)(i:Nat)(x:ZC):Nat->List ZC->Nat
 |_,[]=>0
 |j,y::r=>ap ((pm.getD j 0).testBit i || !meets y.wr (FG x.lk.sr)) (cJ pm i x (Nat.succ j) r) (Nat.succ (cJ pm i x (Nat.succ j) r))
def ic(pm:List Nat):Nat->List ZC->Bool
 |_,[]=>true
 |i,x::r=>ap (match x.lk.sr with|[]=>true|_=>Nat.ble (cJ pm i x (Nat.succ i) r) 1) (ic pm (Nat.succ i) r) false
def il{α:Type}(f:Nat->α->Nat->α->Bool)(i:Nat)(x:α):Nat->List α->Bool
 |_,[]=>true
 |j,y::r=>f i x j y&&il f i x (j+1) r
def mT{α:Type}(f:Nat->α->Nat->α->Bool):Nat->List α->Bool
 |_,[]=>true
 |i,x::rest=>il f i x (i+1) rest&&mT f (i+1) rest
def s7:Nat->List Oper->Bool
 |_,[]=>true
 |i,o::r=>(o.after.toList.all λe=>!Region.binds .any e || Nat.blt e.on i)&&s7 (i+1) r
def qk(pm:List Nat):Nat->List Oper->Bool
 |_,[]=>true
 |i,o::r=>(match o.guard with|none=>true|some (j,_)=>(pm.getD i 0).testBit j)&&qk pm (i+1) r
def JJ(ops:List Oper):Bool :=
 let pm:=bO ops []
 s7 0 ops&&qk pm 0 ops&&mT (λi x j y=>(pm.getD j 0).testBit i || mB ops x y) 0 ops
def lp(pm:List Nat)(fs:List ZC):Bool :=ap (mT (λi x j y=>(pm.getD j 0).testBit i || bz x y) 0 fs) (ic pm 0 fs) false
def Ei(C:ZO):Op->Bool
 |.alloc _|.box ..|.buildSlice ..|.store ..|.makeSlice ..|.makeMap ..|.mapUpdate ..|.insert ..|.mapEntry ..|.entryStore ..|.defer _=>false
 |.call { callee:=.builtin .append,.. }|.call { callee:=.builtin .copy,.. }|.call { callee:=.builtin .clear,.. }=>false
 |.slice ty _ _ _ _=>match C.P.underlying ty with|some (.slice _)=>true|_=>false
 |.call { callee:=.value (.func f),.. }=>C.Wd f
 |.call { callee:=.value _,.. }=>false
 |_=>true
abbrev YP:=IH->Nat->Option Nat->T->List ZU->G->List ZC->CR
def aS(g:G)(lg:List Nat):G:=@G.rec (λ_=>G) (λh nx _=>⟨h,nx,lg⟩) g
def lC(g:G)(lg:List Nat):G:=@G.rec (λ_=>G) (λh nx _=>⟨h,Nat.succ nx,lg⟩) g
def nB(out:T->AV->T)(next:T->List ZU->G->List ZC->CR)(t:T)(df:List ZU)(g:G)(fs:List ZC)(lk:Looks):OR->CR
 |.fail=>.fail
 |.val v=>next (out t v) df (lC g g.lg) (⟨lk,[]⟩::fs)
 |.upd v g'=>next (out t v) df (lC g' (g'.lg++g.lg)) (⟨lk,g'.lg⟩::fs)
 |.ZP _=>.fail
def jY(C:ZO)(nt:Nat)(pm:List Nat)(all:List Oper):Nat->List Oper->TM YP
 |_,[]=>⟨λ_ _ _ t df g fs=>ap (lp pm fs.reverse) (.ok .norm t df g) .fail⟩
 | i,o::rest=>match ua nt o.dst,jZ all o.guard with
  | some out,some q=>⟨λih d rd t df g fs=>match q.run t with
     |some true=>nB out.run ((jY C nt pm all (i+1) rest).run ih d rd) t df g fs ((aL C o.op).run t g) ((bP C o.op).run ih d rd t (aS g []))
     |some false=>(jY C nt pm all (i+1) rest).run ih d rd (out.run t .undef) df g (⟨aA,[]⟩::fs)
     |none=>.fail⟩
  |_,_=>⟨λ_ _ _ _ _ _ _=>.fail⟩
def qt(g0:G):CR->CR
 |.ok e t df g=>match g.lg with|[]=>ap (Nat.beq g.nx g0.nx) (.ok e t df g0) .fail|_=>.fail
 |.fail=>.fail
def im(C:ZO)(nt:Nat)(ops:List Oper)(draw:Bool):TM RFn :=
 ap draw
  (ap (JJ ops)
   (ap (ops.all λo=>Ei C o.op)
    ⟨λih d rd t df g=>qt g ((lV C nt ops ops).run ih d rd t df (aS g []))⟩
    ⟨λih d rd t df g=>(jY C nt (bO ops []) ops 0 ops).run ih d rd t df g []⟩) Ia)
  (lV C nt ops ops)
def dB(ih:IH)(nt d:Nat)(rd:Option Nat)(id:Nat)(t:T)(df:List ZU)(g2:G):CR :=
 match g2.get id with
 | .loop nt' t' ps assign body ZP st pend=>match st with
  |.busy=>.fail
  | _=>match pend with
   |none=>.ok .norm t df (g2.put id (.loop nt' t' ps assign body ZP .exhausted pend))
   |some c=>ih.code nt d rd c t df (g2.put id (.loop nt' t' ps assign body ZP .exhausted pend))
 |_=>.fail
def cj(C:ZO)(ih:IH)(nt d:Nat)(rd:Option Nat)(fv:AV)(ps:List Nat)(assign body:Code)(t:T)(df:List ZU)(ZP:Nat)(g:G):CR :=
 match fv with
 | .ZH f first cap=>ap (C.ext f).isSome .fail
  (match ih.call d f (first++(.NH g.nx::cap)) (g.new (.loop nt t ps assign body ZP .ready none)) with
  |.ok _ g2=>dB ih nt d rd g.nx t df g2
  |.fail=>.fail)
 |_=>.fail
def qu(C:ZO)(nt:Nat)(fo:T->AV)(ps:List Nat)(assign body:Code):RFn:=λih d rd t df g =>
 match rd with
 | some l=>match g.get l with
  |.loop _ _ _ _ _ ZP _ _=>cj C ih nt d rd (fo t) ps assign body t df ZP g
  |_=>.fail
 |none=>cj C ih nt d rd (fo t) ps assign body t (.mark g.nx::df) g.nx (g.new (.ZP true))
def HH(k:T->List ZU->G->CR):CR->CR
 |.ok .norm t df g=>k t df g
 |r=>r
def zE(id:Nat):CR->CR
 |.ok (.exit j) t df g=>ap (Nat.beq j id) (.ok .norm t df g) (.ok (.exit j) t df g)
 |r=>r
def aR(C:ZO)(nt:Nat):Code->TM RFn
 |.skip=>⟨λ_ _ _ t df g=>.ok .norm t df g⟩
 |.label _=>⟨λ_ _ _ t df g=>.ok .norm t df g⟩
 |.region _ ops draw=>im C nt ops.toList draw
 |.seq a b=>⟨λih d rd t df g=>HH ((aR C nt b).run ih d rd) ((aR C nt a).run ih d rd t df g)⟩
 | .cond c a b=>match aW C c with
  | some q=>⟨λih d rd t df g=>match q.run t with
   |.bool v=>ap v ((aR C nt a).run ih d rd t df g) ((aR C nt b).run ih d rd t df g)
   |_=>.fail⟩
  |none=>Ia
 |.block id body=>⟨λih d rd t df g=>zE id ((aR C nt body).run ih d rd t df g)⟩
 |.loop body=>⟨λih d rd t df g=>HH (λt df g=>ih.code nt d rd (.loop body) t df g) ((aR C nt body).run ih d rd t df g)⟩
 |.scope body=>aR C nt body
 |.exit id=>⟨λ_ _ _ t df g=>.ok (.exit id) t df g⟩
 |.ret=>⟨λ_ _ _ t df g=>.ok .ret t df g⟩
 | .rangeFunc f ps assign body=>match aW C f with
  |some a=>⟨qu C nt a.run ps.toList assign body⟩
  |none=>Ia
 |_=>Ia
def RN(C:ZO)(ih:IH)(nt d:Nat)(rd:Option Nat)(c:Code)(t:T)(df:List ZU)(g:G):CR :=(aR C nt c).run ih d rd t df g
def gM(ih:IH)(d:Nat):List ZU->G->Option G
 |[],g=>some g
 | .mark id::ds,g=>match g.get id with
  |.ZP true=>gM ih d ds (g.put id (.ZP false))
  |_=>none
 | .call (.ZH f first cap) args::ds,g=>match ih.call d f (first++(args++cap)) g with
  |.ok _ g'=>gM ih d ds g'
  |.fail=>none
 |.call _ _::_,_=>none
def rC(C:ZO):List ResultVar->Option (TM (T->G->Option (List AV)))
 |[]=>some ⟨λ_ _=>some []⟩
 | .tmp n::rs=>match rC C rs with
  |some k=>some ⟨λt g=>match k.run t g with|some vs=>some ((gp AV.undef n).run t::vs)|none=>none⟩
  |none=>none
 | .cell a ty::rs=>match rC C rs,cP C (.load ty (.tmp a)) with
  | some k,some l=>some ⟨λt g=>match l.run t g with
   |.val v=>(match k.run t g with|some vs=>some (v::vs)|none=>none)
   |_=>none⟩
  |_,_=>none
def bk:Nat->List AV->T->T
 |_,[],t=>t
 |i,v::vs,t=>bk (i+1) vs ((sp AV.undef i).run t v)
def lz:List AV->AV
 |[v]=>v
 |vs=>.Zz vs
def cp(ih:IH)(d:Nat)(res:T->G->Option (List AV))(t:T)(df:List ZU)(g:G):FR :=
 match gM ih d df g with
 |none=>.fail
 | some g'=>match res t g' with
  |some vs=>.ok (lz vs) g'
  |none=>.fail
def YE(C:ZO)(f:Nat):Option (TM (IH->Nat->List AV->G->FR)) :=
 match C.P.funcs[f]? with
 |none=>none
 | some fn=>match fn.body with
  |none=>none
  | some c=>match rC C fn.results.toList with
   | some r => ap (fn.name == "runtime.NumGoroutine") none
    (some ⟨λih d args g=>ap (Nat.ble (bi args) fn.ntmps)
     (match (aR C fn.ntmps c).run ih d none (bk 0 args .nil) [] g with
      |.ok (.exit _) _ _ _=>.fail
      |.ok _ t df g'=>cp ih d r.run t df g'
      |.fail=>.fail) .fail⟩)
   |none=>none
def gc(C:ZO)(ih:IH)(d f:Nat)(args:List AV)(g:G):FR :=
 match YE C f with
 |some x=>x.run ih d args g
 |none=>.fail
def IH.zero:IH:=⟨λ_ _ _ _ _ _ _=>.fail,λ_ _ _ _=>.fail⟩
def NI(C:ZO)(ih:IH):IH:=⟨RN C ih,gc C ih⟩
def Qu(C:ZO)(n:Nat):IH:=@Nat.rec (λ_=>IH) IH.zero (λ_ ih=>NI C ih) n
theorem bJ{c:Prop} [Decidable c]{α:Type}{t e:α}(h:¬c:=by omega):ite c t e=e:=ZF h
theorem i6{c:Prop} [Decidable c]{α:Type}{t e:α}(h:c:=by omega):ite c t e=t:=ZN h
theorem gEE{α:Type}{l:List α}(h:i<l.length:=by omega):l[i]?=some l[i]:=Zq h
@[simp] theorem Uf {α:Type} (x y:α):ap true x y=x:=rfl
@[simp] theorem FI {α:Type} (x y:α):ap false x y=y:=rfl
theorem aa{α:Type}(b:Bool)(x y:α):ap b x y=if b=true then x else y:=by cases b<;>rfl
@[simp] theorem rq (b:Bool):lq b = !b:=by cases b<;>rfl
theorem eI{α:Type}(n:Nat):∀l:List α,CB n l=l[n]?:=by
 induction n with
 |zero=>intro l;cases l<;>rfl
 | succ n ih=>intro l;cases l with
  |nil=>rfl
  |cons a t=>simp only[Vb];exact ih t
theorem jh{α:Type}(n:Nat)(x:α):∀l:List α,HJ n x l=l.set n x:=by
 induction n with
 |zero=>intro l;cases l<;>rfl
 | succ n ih=>intro l;cases l with
  |nil=>rfl
  |cons a t=>simp only[adL];exact congrArg (a::·) (ih t)
theorem ax{α:Type}(l:List α):bi l=l.length:=by
 induction l with
 |nil=>rfl
 |cons a t ih=>exact congrArg Nat.succ ih
theorem bu{α:Type}(n:Nat):∀l:List α,gN n l=l.drop n:=by
 induction n with
 |zero=>intro l;rfl
 | succ n ih=>intro l;cases l with
  |nil=>rfl
  |cons a t=>simp only[adX];exact ih t
theorem bE{α:Type}(n:Nat):∀l:List α,iE n l=l.take n:=by
 induction n with
 |zero=>intro l;rfl
 | succ n ih=>intro l;cases l with
  |nil=>rfl
  |cons a t=>simp only[aez];exact congrArg (a::·) (ih t)
section tr
variable {α:Type}(e:α)
theorem Vp:∀(f n:Nat) (t:Tr α),n<f->(gpF e f n).run t=t.get e n:=by
 intro f
 induction f with
 |zero=>omega
 | succ f ih =>
  intro n t h;cases n with
  |zero=>cases t<;>rfl
  | succ m =>
   have hm:m / 2<f:=by omega
   simp only[gpF];cases hb:Nat.beq (m % 2) 0
   ·cases t with
    |nil=>rfl
    |node v l r=>simp_all[Tr.get]
   ·cases t with
    |nil=>rfl
    |node v l r=>simp_all[Tr.get]
@[simp] theorem WA (n:Nat) (t:Tr α):(gp e n).run t=t.get e n:=Vp e (n+1) n t (by omega)
theorem Zg(n:Nat):(Tr.nil:Tr α).get e n=e:=by cases n<;>rfl
theorem Wr:∀(f n:Nat) (t:Tr α) (x:α) (k:Nat),n<f->((Me e f n).run t x).get e k=if k=n then x else t.get e k:=by
 intro f
 induction f with
 |zero=>omega
 | succ f ih =>
  intro n t x k h;cases n with
  | zero=>cases t with
   | nil=>cases k with
    |zero=>rfl
    |succ k=>simp only[Me,Tr.get];cases Nat.beq (k % 2) 0<;>simp
   |node v l r=>cases k<;>simp[Me,Tr.get]
  | succ m =>
   have hm:m / 2<f:=by omega
   simp only[Me];cases hb:Nat.beq (m % 2) 0
   ·have b:m % 2=1:=by
     grind[aed]
    cases t with
    | nil =>
     try simp only[FI]
     cases k with
     |zero=>simp[Tr.get]
     | succ k =>
      simp only[Tr.get];cases hk:Nat.beq (k % 2) 0
      ·try simp only[FI]
       rw[ih _ _ _ _ hm,Zg];have a:k % 2=1:=by grind[aed]
       grind
      grind
    | node v l r =>
     try simp only[FI]
     cases k with
     |zero=>simp[Tr.get]
     | succ k =>
      simp only[Tr.get];cases hk:Nat.beq (k % 2) 0
      ·try simp only[FI]
       rw[ih _ _ _ _ hm];have a:k % 2=1:=by grind[aed]
       grind
      grind
   ·have b:m % 2=0:=Wj hb;cases t with
    | nil =>
     try simp only[Uf]
     cases k with
     |zero=>simp[Tr.get]
     | succ k =>
      simp only[Tr.get];cases hk:Nat.beq (k % 2) 0
      ·grind
      ·try simp only[Uf]
       rw[ih _ _ _ _ hm,Zg];have a:k % 2=0:=Wj hk
       grind
    | node v l r =>
     try simp only[Uf]
     cases k with
     |zero=>simp[Tr.get]
     | succ k =>
      simp only[Tr.get];cases hk:Nat.beq (k % 2) 0
      ·grind
      ·try simp only[Uf]
       rw[ih _ _ _ _ hm];have a:k % 2=0:=Wj hk
       grind
@[simp] theorem SH (n:Nat) (t:Tr α) (x:α) (k:Nat):((sp e n).run t x).get e k=if k=n then x else t.get e k :=Wr e (n+1) n t x k (by omega)
end tr
theorem Za(h:H)(i:Nat)(o:ZM)(k:Nat):(h.put i o).get k=if k=i then o else h.get k:=by simp[H.get,H.put]
@[simp] theorem G.get_eq (g:G) (i:Nat):g.get i=g.h.get i:=rfl
@[simp] theorem G.put_h (g:G) (i:Nat) (o:ZM):(g.put i o).h=g.h.put i o:=by cases g;rfl
@[simp] theorem G.put_nx (g:G) (i:Nat) (o:ZM):(g.put i o).nx=g.nx:=by cases g;rfl
@[simp] theorem G.put_lg (g:G) (i:Nat) (o:ZM):(g.put i o).lg=i::g.lg:=by cases g;rfl
@[simp] theorem G.new_h (g:G) (o:ZM):(g.new o).h=g.h.put g.nx o:=by cases g;rfl
@[simp] theorem G.new_nx (g:G) (o:ZM):(g.new o).nx=g.nx+1:=by cases g;rfl
@[simp] theorem G.new_lg (g:G) (o:ZM):(g.new o).lg=g.nx::g.lg:=by cases g;rfl
@[simp] theorem Zx (g:G) (l:List Nat):(lC g l).h=g.h:=by cases g;rfl
@[simp] theorem YW (g:G) (l:List Nat):(lC g l).nx=g.nx+1:=by cases g;rfl
@[simp] theorem Q5 (g:G) (l:List Nat):(lC g l).lg=l:=by cases g;rfl
@[simp] theorem QM (g:G) (l:List Nat):(aS g l).h=g.h:=by cases g;rfl
@[simp] theorem Q7 (g:G) (l:List Nat):(aS g l).nx=g.nx:=by cases g;rfl
@[simp] theorem X7 (g:G) (l:List Nat):(aS g l).lg=l:=by cases g;rfl
theorem qB(m:Nat)(h:m<2^63):IntKind.wrap .i64 (Int.ofNat m)=Int.ofNat m:=by
 have e:(Int.ofNat m) % (2 ^ 64:Int)=Int.ofNat m:=aeL (Ws m) (by grind);unfold IntKind.wrap;simp only[IntKind.bits,IntKind.signed,e,U2,RY]
 grind
theorem BI(z:Int)(h:-2^63<=z)(h0:z<0):IntKind.wrap .i64 z=z:=by
 have e:z % (2 ^ 64:Int)=z+2 ^ 64:=by omega
 unfold IntKind.wrap;simp only[IntKind.bits,IntKind.signed,e,U2,RY];omega
theorem CN(m:Nat)(h:m<2^63):IntKind.wrap .i64 (Int.negSucc m)=Int.negSucc m:=by grind[BI]
theorem je(k:IntKind)(n:Int):yw k n=k.wrap n:=by
 unfold yw
 split
 ·rename_i m;rw[aa];split
  ·rename_i h;rw[YD]at h;exact (qB m h).symm
  ·rfl
 ·rename_i m;rw[aa];split
  ·rename_i h;rw[YD]at h;exact (CN m h).symm
  ·rfl
 ·simp only[IntKind.wrap,IntKind.bits,IntKind.signed];rfl
 ·simp only[IntKind.wrap,IntKind.bits,IntKind.signed];rfl
 ·rfl
theorem oT(a b:Int):DM a b=decide (a<b):=by rw[Yj,decide_eq_true_iff];cases a<;>cases b<;>simp only[DM,YD,Int.negSucc_eq,afd,Uc,false_iff,true_iff]<;>omega
theorem mK(a b:Int):FL a b=decide (a=b):=by
 rw[Yj,decide_eq_true_iff];cases a<;>cases b<;>simp only[FL,Int.negSucc_eq,afd,Uc,false_iff]
 all_goals grind[aeH]
theorem tZ(a b:IntKind):dG a b=decide (a=b):=by cases a<;>cases b<;>rfl
section
variable {x:AV}
structure Gh where
 kind:Nat
 ep:Nat
 sz:Nat
 n:Nat
 blk:Nat
 base:Nat
 Zr:Nat
 wr:Bool
abbrev Gm:=Nat->Gh
def VA(γ:Gm)(b:Nat):Prop:=∃id,(γ id).kind≠0/\(γ id).wr=true/\(γ id).blk=b
def Zo(b o:Nat):Addr:=⟨b,o,none⟩
def jU(lim:Option Nat)(off cap:Nat)(g:Gh):Prop :=
 match lim with
 |some c=>cap=c/\off+c<=g.n
 |none=>off+cap=g.n+g.Zr
inductive Closed:AV->Prop
 |bool (b:Bool):Closed (.bool b)
 |int (k:IntKind) (n:Int):Closed (.int k n)
 |str (s:ByteArray):Closed (.str s)
 |Zz (xs:List AV) (h:∀x∈xs,Closed x):Closed (.Zz xs)
 |agg (xs:List AV) (h:∀x∈xs,Closed x):Closed (.agg xs)
 |Ud:Closed .Ud
 |Z6:Closed .Z6
 |Mq:Closed .Mq
 |Xu:Closed .Xu
 |tO:Closed .tO
 |TT:Closed .TT
 |Zs (tag sz:Nat) (rows:List (List AV)) (h:∀row∈rows,∀x∈row,Closed x):Closed (.Zs tag sz rows)
 |ZR (tag sz:Nat) (rows:List (List AV)) (i off:Nat) (h:∀row∈rows,∀x∈row,Closed x):Closed (.ZR tag sz rows i off)
 |ZH (f:Nat) (xs ys:List AV) (h:∀x∈xs,Closed x) (h2:∀x∈ys,Closed x):Closed (.ZH f xs ys)
 |J7 (t:Nat) (x:AV) (h:Closed x):Closed (.J7 t x)
inductive RV (w:World) (γ:Gm) (A:Nat->Nat->Prop):Nat->AV->Value->Prop
 |bool (bd:Nat) (b:Bool):RV w γ A bd (.bool b) (.bool b)
 |int (bd:Nat) (k:IntKind) (n:Int):RV w γ A bd (.int k n) (.int k n)
 |str (bd:Nat) (s:ByteArray):RV w γ A bd (.str s) (.string s)
 | Zz (bd:Nat) (xs:List AV) (vs:Array Value) (hl:xs.length=vs.size)
   (h:∀(i:Nat) x v,xs[i]?=some x->vs[i]?=some v->RV w γ A bd x v):RV w γ A bd (.Zz xs) (.tuple vs)
 | agg (bd:Nat) (xs:List AV) (vs:Array Value) (hl:xs.length=vs.size) (h1:∀(i:Nat) x,xs[i]?=some x->x.one=true)
   (h:∀(i:Nat) x v,xs[i]?=some x->vs[i]?=some v->RV w γ A bd x v):RV w γ A bd (.agg xs) (.agg vs)
 |Ud (bd:Nat):RV w γ A bd .Ud (.pointer none)
 |Z6 (bd:Nat):RV w γ A bd .Z6 (.slice none 0 0)
 |Mq (bd:Nat):RV w γ A bd .Mq .nilFunc
 |Xu (bd:Nat):RV w γ A bd .Xu (.map none)
 |tO (bd:Nat):RV w γ A bd .tO .nilIface
 |TT (bd:Nat) (a:Addr):RV w γ A bd .TT (.slice (some a) 0 0)
 | Zs (bd tag sz:Nat) (rows:List (List AV)) (b o cap:Nat) (cell:Nat->Nat->Value) (ht:tag<=bd) (hc:rows.length<=cap)
   (hb:b<w.heap.size) (hm:¬VA γ b) (ha:¬A tag b)
   (hr:∀(i:Nat) row,rows[i]?=some row->row.length=sz)
   (ho:∀(i j:Nat) row x,rows[i]?=some row->row[j]?=some x->x.one=true)
   (hw:∀(i j:Nat) row x,rows[i]?=some row->row[j]?=some x->w.cell? (Zo b (o+i*sz+j))=some (cell i j))
   (h:∀(i j:Nat) row x,rows[i]?=some row->row[j]?=some x->RV w γ A tag x (cell i j))
   (hcl:∀row∈rows,∀x∈row,Closed x) :
   RV w γ A bd (.Zs tag sz rows) (.slice (some (Zo b o)) rows.length cap)
 |YF (bd tag sz:Nat) (a:Addr) (cap:Nat) (ht:tag<=bd):RV w γ A bd (.Zs tag sz []) (.slice (some a) 0 cap)
 | ZR (bd tag sz:Nat) (rows:List (List AV)) (i0 UI b o:Nat) (cell:Nat->Nat->Value) (ht:tag<=bd)
   (hb:b<w.heap.size) (hm:¬VA γ b) (ha:¬A tag b)
   (hr:∀(i:Nat) row,rows[i]?=some row->row.length=sz)
   (ho:∀(i j:Nat) row x,rows[i]?=some row->row[j]?=some x->x.one=true)
   (hw:∀(i j:Nat) row x,rows[i]?=some row->row[j]?=some x->w.cell? (Zo b (o+i*sz+j))=some (cell i j))
   (h:∀(i j:Nat) row x,rows[i]?=some row->row[j]?=some x->RV w γ A tag x (cell i j))
   (hcl:∀row∈rows,∀x∈row,Closed x) :
   RV w γ A bd (.ZR tag sz rows i0 UI) (.pointer (some (Zo b (o+i0*sz+UI))))
 | ZG (bd id ep off len:Nat) (lim:Option Nat) (b o cap:Nat) (hk:(γ id).kind=1) (he:ep<=(γ id).ep) (hc:len<=cap)
   (h:ep=(γ id).ep->b=(γ id).blk/\o=(γ id).base+off*(γ id).sz/\jU lim off cap (γ id)) :
   RV w γ A bd (.ZG id ep off len lim) (.slice (some (Zo b o)) len cap)
 | ZD (bd id ep i off:Nat) (b o:Nat) (hk:(γ id).kind=1) (he:ep<=(γ id).ep)
   (h:ep=(γ id).ep->b=(γ id).blk/\o=(γ id).base+i*(γ id).sz+off) :
   RV w γ A bd (.ZD id ep i off) (.pointer (some (Zo b o)))
 | ZH (bd f:Nat) (xs ys:List AV) (vs us:Array Value) (hl:xs.length=vs.size) (hl2:ys.length=us.size)
   (h:∀(i:Nat) x v,xs[i]?=some x->vs[i]?=some v->RV w γ A bd x v)
   (h2:∀(i:Nat) x v,ys[i]?=some x->us[i]?=some v->RV w γ A bd x v):RV w γ A bd (.ZH f xs ys) (.func (.func f) vs us)
 |hmap (bd id b:Nat) (hk:(γ id).kind=2) (hb:b=(γ id).blk):RV w γ A bd (.hmap id) (.map (some b))
 |J7 (bd t:Nat) (x:AV) (v:Value) (h:RV w γ A bd x v):RV w γ A bd (.J7 t x) (.iface t v)
 |NH (bd id b:Nat) (hk:(γ id).kind=3) (hb:b=(γ id).blk):RV w γ A bd (.NH id) (.func (.yield b) #[] #[])
def S9(w:World)(γ:Gm)(A:Nat->Nat->Prop)(bd:Nat)(xs:List AV)(vs:List Value):Prop :=xs.length=vs.length/\∀(i:Nat) x v,xs[i]?=some x->vs[i]?=some v->RV w γ A bd x v
theorem RV.mono{γ:Gm}{A:Nat->Nat->Prop}{bd':Nat}(h:RV w γ A bd x v)(hb:bd<=bd') :
  RV w γ A bd' x v:=by
 induction h generalizing bd' with
 |bool=>exact .bool _ _
 |int=>exact .int _ _ _
 |str=>exact .str _ _
 |Zz _ xs vs hl _ ih=>exact .Zz _ _ _ hl (by grind)
 |agg _ xs vs hl h1 _ ih=>exact .agg _ _ _ hl h1 (by grind)
 |Ud=>exact .Ud _
 |Z6=>exact .Z6 _
 |Mq=>exact .Mq _
 |Xu=>exact .Xu _
 |tO=>exact .tO _
 |TT=>exact .TT _ _
 |Zs _ tag sz rows b o cap cell ht hc hb' hm ha hr ho hw h hcl _=>exact .Zs _ tag sz rows b o cap cell (Y1 ht hb) hc hb' hm ha hr ho hw h hcl
 |YF _ tag sz a cap ht=>exact .YF _ tag sz a cap (Y1 ht hb)
 |ZR _ tag sz rows i0 UI b o cell ht hb' hm ha hr ho hw h hcl _=>exact .ZR _ tag sz rows i0 UI b o cell (Y1 ht hb) hb' hm ha hr ho hw h hcl
 |ZG _ id ep off len lim b o cap hk he hc h=>exact .ZG _ id ep off len lim b o cap hk he hc h
 |ZD _ id ep i off b o hk he h=>exact .ZD _ id ep i off b o hk he h
 |ZH _ f xs ys vs us hl hl2 _ _ ih ih2=>exact .ZH _ f xs ys vs us hl hl2 (by grind) (by grind)
 |hmap _ id b hk hb'=>exact .hmap _ id b hk hb'
 |J7 _ t x v _ ih=>exact .J7 _ t x v (ih hb)
 |NH _ id b hk hb'=>exact .NH _ id b hk hb'
structure Stp (w:World) (γ:Gm) (w':World) (γ':Gm):Prop where
 sz:w.heap.size<=w'.heap.size
 os:w'.os=w.os
 tape:w'.tape=w.tape
 output:w'.output=w.output
 fr:∀b,b<w.heap.size->¬VA γ b->w'.heap[b]?=w.heap[b]?
 mt:∀b,b<w.heap.size->VA γ' b->VA γ b
 kind:∀id,(γ id).kind≠0->(γ' id).kind=(γ id).kind/\(γ' id).blk=(γ id).blk\/(γ id).kind=1/\(γ' id).kind=1/\(γ id).ep<(γ' id).ep
 ep:∀id,(γ id).kind=1->(γ id).ep<=(γ' id).ep /\
  ((γ' id).ep=(γ id).ep->(γ' id).sz=(γ id).sz/\(γ' id).n=(γ id).n/\(γ' id).blk=(γ id).blk/\(γ' id).base=(γ id).base/\(γ' id).Zr=(γ id).Zr)
 dr:w.drawn<=w'.drawn
theorem Stp.refl(w:World)(γ:Gm):Stp w γ w γ :=⟨ZV _,rfl,rfl,rfl,λ_ _ _=>rfl,λ_ _ h=>h,(by grind),(by grind),ZV _⟩
theorem Stp.kind_eq{γ γ':Gm}(h:Stp w γ w' γ'){id:Nat}(hk:(γ id).kind≠0):(γ' id).kind=(γ id).kind:=by rcases h.kind id hk with h1|h1<;>grind
theorem Stp.blk_eq{γ γ':Gm}(h:Stp w γ w' γ'){id:Nat}(hk:(γ id).kind≠0)(h1:(γ id).kind≠1):(γ' id).blk=(γ id).blk:=by rcases h.kind id hk with h2|h2<;>grind
theorem Stp.trans{w w' w'':World}{γ γ' γ'':Gm}(h:Stp w γ w' γ')(h':Stp w' γ' w'' γ''):Stp w γ w'' γ'' where
 sz:=Y1 h.sz h'.sz
 os:=h'.os.trans h.os
 tape:=h'.tape.trans h.tape
 output:=h'.output.trans h.output
 fr b hb hm:=by grind[fr,mt]
 mt b hb k:=h.mt b hb (h'.mt b (Vd hb h.sz) k)
 kind id hk:=by
  have h1:=h.kind_eq hk;have d:(γ' id).kind≠0:=by omega
  rcases h.kind id hk with a|a
  ·rcases h'.kind id d with c|c
   ·omega
   ·refine .inr ⟨by omega,c.2.1,Nb (h.ep id (by omega)).1 c.2.2⟩
  ·exact .inr ⟨a.1,by rw[h'.kind_eq d,a.2.1],Vd a.2.2 (h'.ep id a.2.1).1⟩
 ep id hk:=by
  have h1:=h.ep id hk;have d:(γ' id).kind=1:=by rw[h.kind_eq (by omega),hk]
  have h2:=h'.ep id d;omega
 dr:=Y1 h.dr h'.dr
theorem D7{a:Addr}(h:w'.heap[a.block]?=w.heap[a.block]?):w'.cell? a=w.cell? a:=by grind[World.cell?]
theorem M7{a:Addr}(h:w.cell? a=some v):a.block<w.heap.size:=by
 simp only[World.cell?]at h
 grind
theorem RV.step{γ γ':Gm}{A:Nat->Nat->Prop}(h:RV w γ A bd x v)(s:Stp w γ w' γ') :
  RV w' γ' A bd x v:=by
 induction h with
 |bool=>exact .bool _ _
 |int=>exact .int _ _ _
 |str=>exact .str _ _
 |Zz _ xs vs hl _ ih=>exact .Zz _ _ _ hl ih
 |agg _ xs vs hl h1 _ ih=>exact .agg _ _ _ hl h1 ih
 |Ud=>exact .Ud _
 |Z6=>exact .Z6 _
 |Mq=>exact .Mq _
 |Xu=>exact .Xu _
 |tO=>exact .tO _
 |TT=>exact .TT _ _
 | Zs _ tag sz rows b o cap cell ht hc hb hm ha hr ho hw _ hcl ih =>refine .Zs _ tag sz rows b o cap cell ht hc (Vd hb s.sz) (λk=>hm (s.mt b hb k)) ha hr ho (λi j row x h1 h2=>?_) ih hcl<;>grind[D7,Zo,Stp.fr]
 |YF _ tag sz a cap ht=>exact .YF _ tag sz a cap ht
 | ZR _ tag sz rows i0 UI b o cell ht hb hm ha hr ho hw _ hcl ih =>refine .ZR _ tag sz rows i0 UI b o cell ht (Vd hb s.sz) (λk=>hm (s.mt b hb k)) ha hr ho (λi j row x h1 h2=>?_) ih hcl<;>grind[D7,Zo,Stp.fr]
 | ZG _ id ep off len lim b o cap hk he hc h =>have e:=s.ep id hk;refine .ZG _ id ep off len lim b o cap (by rw[s.kind_eq (by omega),hk]) (Y1 he e.1) hc λh'=>?_;have e1:(γ' id).ep=(γ id).ep:=Nat.le_antisymm (by omega) e.1;obtain⟨a1,a2,c,a4,d⟩:=e.2 e1;obtain⟨c1,l,m⟩:=h (h'.trans e1);simp_all[jU]
 | ZD _ id ep i off b o hk he h =>have e:=s.ep id hk;refine .ZD _ id ep i off b o (by rw[s.kind_eq (by rw[hk];decide),hk]) (Y1 he e.1) λh'=>?_<;>grind
 |ZH _ f xs ys vs us hl hl2 _ _ ih ih2=>exact .ZH _ f xs ys vs us hl hl2 ih ih2
 | hmap _ id b hk hb =>exact .hmap _ id b (by rw[s.kind_eq (by omega),hk]) (by rw[s.blk_eq (by omega) (by omega)];exact hb)
 |J7 _ t x v _ ih=>exact .J7 _ t x v ih
 | NH _ id b hk hb =>exact .NH _ id b (by rw[s.kind_eq (by omega),hk]) (by rw[s.blk_eq (by omega) (by omega)];exact hb)
theorem RV.heap{γ:Gm}{A:Nat->Nat->Prop}(h:RV w γ A bd x v)(hh:w'.heap=w.heap):RV w' γ A bd x v:=by
 have hc:∀a,w'.cell? a=w.cell? a:=λa=>D7 (by rw[hh])
 induction h with
 |bool=>exact .bool _ _
 |int=>exact .int _ _ _
 |str=>exact .str _ _
 |Zz _ xs vs hl _ ih=>exact .Zz _ _ _ hl ih
 |agg _ xs vs hl h1 _ ih=>exact .agg _ _ _ hl h1 ih
 |Ud=>exact .Ud _
 |Z6=>exact .Z6 _
 |Mq=>exact .Mq _
 |Xu=>exact .Xu _
 |tO=>exact .tO _
 |TT=>exact .TT _ _
 |Zs _ tag sz rows b o cap cell ht hc' hb hm ha hr ho hw _ hcl ih=>exact .Zs _ tag sz rows b o cap cell ht hc' (by grind) hm ha hr ho (λi j row x h1 h2=>by grind) ih hcl
 |YF _ tag sz a cap ht=>exact .YF _ tag sz a cap ht
 |ZR _ tag sz rows i0 UI b o cell ht hb hm ha hr ho hw _ hcl ih=>exact .ZR _ tag sz rows i0 UI b o cell ht (by grind) hm ha hr ho (λi j row x h1 h2=>by grind) ih hcl
 |ZG _ id ep off len lim b o cap hk he hc' h=>exact .ZG _ id ep off len lim b o cap hk he hc' h
 |ZD _ id ep i off b o hk he h=>exact .ZD _ id ep i off b o hk he h
 |ZH _ f xs ys vs us hl hl2 _ _ ih ih2=>exact .ZH _ f xs ys vs us hl hl2 ih ih2
 |hmap _ id b hk hb=>exact .hmap _ id b hk hb
 |J7 _ t x v _ ih=>exact .J7 _ t x v ih
 |NH _ id b hk hb=>exact .NH _ id b hk hb
theorem S9.step{w w':World}{γ γ':Gm}{A:Nat->Nat->Prop}{bd:Nat}{xs:List AV}{vs:List Value}(h:S9 w γ A bd xs vs)(s:Stp w γ w' γ') :
  S9 w' γ' A bd xs vs:=⟨h.1,λi x v h1 h2=>(h.2 i x v h1 h2).step s⟩
def XK(w:World)(γ:Gm)(A:Nat->Nat->Prop)(bd:Nat)(id:Nat):ZM->Prop
 |.none=>(γ id).kind=0
 | .cells sz rows ep loose fz=>(γ id).kind=1/\(γ id).ep=ep/\(γ id).sz=sz/\(γ id).n=rows.length/\((loose=false->(γ id).Zr=0)/\(loose=true->rows.length+(γ id).Zr<=9223372036854775807))/\(γ id).wr = !fz /\
   ∃(c:Array Value) (elem:TypeId),w.heap[(γ id).blk]?=some (.cells c elem (0,0))/\(γ id).base+(rows.length+(γ id).Zr)*sz<=c.size /\
    (∀(i:Nat) row,rows[i]?=some row->row.length=sz) /\
    (∀(i j:Nat) row x,rows[i]?=some row->row[j]?=some x->x.one=true/\∃v,c[(γ id).base+i*sz+j]?=some v/\RV w γ A bd x v)
 | .map es=>(γ id).kind=2/\(γ id).wr=true /\
   ∃esC:Array MapEntry,w.heap[(γ id).blk]?=some (.map esC esC.size)/\es.length=esC.size /\
    (∀(i:Nat) k x e,es[i]?=some (k,x)->esC[i]?=some e->e.born=i/\RV w γ A bd k e.key/\RV w γ A bd x e.val)
 | .loop nt t ps assign body ZP st pend=>(γ id).kind=3/\(γ id).wr=true /\
   ∃L:Loop,w.heap[(γ id).blk]?=some (.loop L)/\L.state=st/\L.pending=pend/\L.params.toList=ps/\L.assign=assign/\L.body=body/\L.tmps.size=nt /\
    (∀i,RV w γ A bd (t.get AV.undef i) (L.tmps.getD i undef))/\(γ ZP).kind=4/\L.defers=(γ ZP).blk
 |.ZP live=>(γ id).kind=4/\(γ id).wr=true/\w.heap[(γ id).blk]?=some (.deferred (if live then some [] else none))
structure ZB (C:ZO) (A:Nat->Nat->Prop) (bd:Nat) (w:World) (γ:Gm) (hg:Nat->ZM) (nx:Nat):Prop where
 obj:∀id,XK w γ A bd id (hg id)
 lt:∀id,(γ id).kind≠0->id<nx/\(γ id).blk<w.heap.size
 inj:∀i j,(γ i).kind≠0->(γ j).kind≠0->(γ i).blk=(γ j).blk->i=j
 av:∀id,(γ id).kind≠0->∀t,¬A t (γ id).blk
 ab:∀t b,A t b->b<w.heap.size
 Q6:∀g sz rows,C.Q6 g=some (sz,rows)->RV w γ A bd (.ZR 0 sz rows 0 0) (.pointer (some ⟨g,0,none⟩))
end
section
variable {γ:Gm}
section
variable {P:Program}{w:World}
theorem ij(b o n:Nat):(Zo b o).add n=Zo b (o+n):=by grind[Addr.add,Zo]
theorem nu{i:TypeInfo}(h:P.info? t=some i):(typeInfo t).run P w=.ok i w:=by simp_all[typeInfo]
theorem bj(h:R6 P t=some n):(Go.sizeOf t).run P w=.ok n w:=by
 unfold R6 at h;cases hi:P.info? t with
 |none=>grind
 |some i=>simp_all[Go.sizeOf,nu]
theorem aG{d:TypeDesc}(h:P.underlying t=some d):(underlying t).run P w=.ok d w:=by simp_all[underlying]
theorem pg{b:Bool}(h:wC P t=some b):(isAgg t).run P w=.ok b w:=by
 unfold wC at h;cases hd:P.underlying t with
 |none=>grind
 |some d=>rw[hd]at h;cases d<;>simp at h<;>subst h<;>simp[isAgg,aG hd]
theorem Bo{o:Nat}:∀(n i:Nat) (acc:Array Value) (cs:List Value),cs.length=n ->
  (∀(j:Nat) c,cs[j]?=some c->w.cell? (Zo b (o+(i+j)))=some c) ->
  (loadCellsFrom (Zo b o) i n acc).run P w=.ok (acc++cs.toArray) w:=by
 intro n
 induction n with
 |zero=>simp_all[loadCellsFrom]
 | succ n ih =>
  intro i acc cs hl h;cases cs with
  |nil=>cases hl
  | cons c cs =>
   have h0:=h 0 c rfl;simp only[Yt]at h0;simp only[loadCellsFrom,Qk,run_load,ij,h0,abi];rw[ih (i+1) (acc.push c) cs (by grind) (λj x hj=>by
    have:=h (j+1) x (by grind)
    grind)]
   simp
theorem zx{o:Nat}{cs:List Value}(h:∀(j:Nat) c,cs[j]?=some c->w.cell? (Zo b (o+j))=some c) :
  (loadCells (Zo b o) cs.length).run P w=.ok cs.toArray w:=by
 unfold loadCells;rw[Bo cs.length 0 #[] cs rfl (λj c hj=>by grind)];simp
def World.setBlk(w:World)(b:Nat)(o:Obj):World:={ w with heap:=w.heap.setIfInBounds b o }
def bF(c:Array Value)(o:Nat):List Value->Array Value
 |[]=>c
 |v::vs=>bF (c.setIfInBounds o v) (o+1) vs
theorem cB(vs:List Value):∀(c:Array Value) (o:Nat),(bF c o vs).size=c.size:=by induction vs<;>grind[bF]
theorem cX(vs:List Value):∀(c:Array Value) (o k:Nat),o+vs.length<=c.size ->
  (bF c o vs)[k]?=if o<=k/\k<o+vs.length then vs[k - o]? else c[k]?:=by
 induction vs with
 |nil=>grind[bF]
 | cons v vs ih =>
  intro c o k h;simp only[V8]at h;simp only[bF]
  grind
theorem bo(b:Nat)(o:Obj)(k:Nat):(World.setBlk w b o).heap[k]?=if k=b/\b<w.heap.size then some o else w.heap[k]?:=by
 simp only[World.setBlk,aep]
 grind
theorem sH(b:Nat)(o o':Obj):World.setBlk (World.setBlk w b o) b o'=World.setBlk w b o':=by grind[World.setBlk,Array.setIfInBounds_setIfInBounds]
@[simp] theorem Sb (b:Nat) (o:Obj):(World.setBlk w b o).heap.size=w.heap.size:=by simp[World.setBlk]
theorem Gy{o:Nat}{f:Nat×Nat}(h:w.heap[b]?=some (.cells c e f)) :
  w.setCell (Zo b o) v=World.setBlk w b (.cells (c.setIfInBounds o v) e f):=by
 have hb:b<w.heap.size:=by grind
 have hx:w.heap[b]=.cells c e f:=by grind
 simp only[World.setCell,World.setBlk,Zo];congr 1
 grind
theorem px{o:Nat}{f:Nat×Nat}(h:w.heap[b]?=some (.cells c e f)):w.cell? (Zo b o)=c[o]?:=by grind[World.cell?,Zo]
theorem yv{o:Nat}:∀(vs:List Value) (i:Nat) (w:World) (c:Array Value),w.heap[b]?=some (.cells c e (0,0)) ->
  o+i+vs.length<=c.size->(∀v∈vs,v.oneCell'=true) ->
  (storeCells (Zo b o) vs i).run P w=.ok () (World.setBlk w b (.cells (bF c (o+i) vs) e (0,0))):=by
 intro vs
 induction vs with
 | nil =>
  intro i w c h _ _;have hb:b<w.heap.size:=by grind
  have:World.setBlk w b (.cells c e (0,0))=w:=by
   have hx:w.heap[b]=.cells c e (0,0):=by grind
   simp only[World.setBlk];congr 1
   grind
  simp_all[storeCells,bF]
 | cons v vs ih =>
  intro i w c h hs h1;simp only[V8]at hs;have f:v.oneCell'=true:=h1 v (by simp);have k:w.cell? (Zo b (o+i))=c[o+i]?:=px h;have d:o+i<c.size:=by omega
  have a:w.frozen? (Zo b (o+i))=false:=by grind[World.frozen?,Zo]
  simp only[storeCells,Qk,ij,run_store P w _ v _ f,k,Np d,a];simp only[Uc,if_false,abi,Gy h];have hb:b<w.heap.size:=by grind
  rw[ih (i+1) _ (c.setIfInBounds (o+i) v) (by grind[bo]) (by grind) (by grind),sH]
  rfl
end
theorem Nh{w:World}{A:Nat->Nat->Prop}{x:AV}(h:RV w γ A bd x v)(h1:x.one=true) :
  v.oneCell'=true/\v.cells=#[v]:=by
 cases h<;>first| (cases h1;done)|exact⟨rfl,rfl⟩
theorem sY{w:World}{A:Nat->Nat->Prop}{x:AV}(h:RV w γ A bd x v)(ht:x.isTup=false) :
  S9 w γ A bd x.cells v.cells.toList/\(∀(i:Nat) y,x.cells[i]?=some y->y.one=true):=by
 by_cases h1:x.one=true
 ·have hx:x.cells=[x]:=by cases x<;>first|rfl|cases h1
  obtain⟨_,a⟩:=Nh h h1;rw[hx,a];refine⟨⟨rfl,λi y u hy hu=>?_⟩,λi y hy=>?_⟩<;>grind
 ·cases h<;>first| (exact absurd rfl h1)| (cases ht;done)|skip
  rename_i xs vs hl k h';exact⟨⟨by grind[AV.cells,Value.cells],λi y u hy hu=>h' i y u hy (by grind[Value.cells])⟩,k⟩
theorem Pg{w:World}{A:Nat->Nat->Prop}{xs:List AV}{vs:List Value}(h:S9 w γ A bd xs vs)
  (h1:∀(i:Nat) y,xs[i]?=some y->y.one=true):∀v∈vs,v.oneCell'=true:=by
 intro v k;obtain⟨i,hi⟩:=QG k;have hlt:i<xs.length:=by rw[h.1];grind
 exact (Nh (h.2 i _ v (Zq hlt) hi) (h1 i _ (Zq hlt))).1
end
def upd{α:Type}(f:Nat->α)(i:Nat)(x:α):Nat->α:=λk=>if k=i then x else f k
@[simp] theorem upd_same {α:Type} (f:Nat->α) (i:Nat) (x:α):upd f i x i=x:=by simp[upd]
theorem dz{α:Type}(f:Nat->α){k:Nat}(x:α)(h:k≠i):upd f i x k=f k:=by simp_all[upd]
section
variable {C:ZO}{A:Nat->Nat->Prop}{bd:Nat}{w w':World}{γ γ':Gm}{hg:Nat->ZM}{nx nx':Nat}
theorem XK.step{j:Nat}{o:ZM}(h:XK w γ A bd j o)(s:Stp w γ w' γ')(hj:γ' j=γ j)
  (hb:(γ j).kind≠0->o≠.none->w'.heap[(γ j).blk]?=w.heap[(γ j).blk]?):XK w' γ' A bd j o:=by
 cases o with
 |none=>grind[XK]
 | cells sz rows ep loose fz =>obtain⟨h1,h2,d,h4,h5,f,c,e,h7,h8,h9,k⟩:=h<;>grind[RV.step,XK]
 | map es =>obtain⟨h1,h2,esC,d,h4,h5⟩:=h<;>grind[RV.step,XK]
 | loop nt t ps assign body ZP st pend =>
  obtain⟨h1,h2,L,d,h4,h5,f,h7,h8,h9,k,a,b⟩:=h;simp only[XK,hj];have hd:(γ ZP).kind≠0:=by omega
  refine⟨h1,h2,L,by grind,h4,h5,f,h7,h8,h9,λi=>(k i).step s,by rw[s.kind_eq hd,a],?_⟩;rw[b,s.blk_eq hd (by omega)]
 | ZP live =>obtain⟨h1,h2,d⟩:=h<;>grind[XK]
theorem ZB.set(h:ZB C A bd w γ hg nx){id:Nat}{gh:Gh}{o:ZM}(hγ:γ'=upd γ id gh)(s:Stp w γ w' γ')(hn:nx<=nx')
  (ho:XK w' γ' A bd id o) (hlt:id<nx'/\gh.blk<w'.heap.size) (hinj:∀j,j≠id->(γ j).kind≠0->(γ j).blk≠gh.blk)
  (hav:∀t,¬A t gh.blk)
  (hoth:∀j,j≠id->(γ j).kind≠0->hg j≠.none->w'.heap[(γ j).blk]?=w.heap[(γ j).blk]?) :
  ZB C A bd w' γ' (upd hg id o) nx':=by
 subst hγ;constructor
 ·intro j
  by_cases k:j=id
  ·simp_all
  ·rw[dz _ _ k];exact (h.obj j).step s (dz _ _ k) (hoth j k)
 ·intro j hk
  by_cases k:j=id
  ·simp_all
  ·rw[dz _ _ k]at hk ⊢;exact⟨Vd (h.lt j hk).1 hn,Vd (h.lt j hk).2 s.sz⟩
 ·intro i j hi k e
  by_cases h1:i=id<;>by_cases h2:j=id
  ·omega
  ·subst h1;rw[dz _ _ h2]at k e;simp only[upd_same]at e;grind
  ·grind[dz,upd_same]
  ·rw[dz _ _ h1]at hi e;rw[dz _ _ h2]at k e;exact h.inj i j hi k e
 ·intro j hk
  by_cases k:j=id
  ·simp_all
  ·rw[dz _ _ k]at hk ⊢;exact h.av j hk
 ·intro t b hb;exact Vd (h.ab t b hb) s.sz
 ·intro g sz rows hg';exact (h.Q6 g sz rows hg').step s
theorem ZB.up(h:ZB C A bd w γ hg nx)(hn:nx<=nx'):ZB C A bd w γ hg nx' :=⟨h.obj,λid hk=>⟨Vd (h.lt id hk).1 hn,(h.lt id hk).2⟩,h.inj,h.av,h.ab,h.Q6⟩
theorem yS{id:Nat}{o:Obj}(hk:(γ id).kind≠0)(hw:(γ id).wr=true):Stp w γ (World.setBlk w (γ id).blk o) γ where
 sz:=by simp
 os:=rfl
 tape:=rfl
 output:=rfl
 fr b hb hm:=by rw[bo,ZF];rintro⟨h,_⟩;exact hm ⟨id,hk,hw,h.symm⟩
 mt b _ h:=h
 kind _ _:=.inl ⟨rfl,rfl⟩
 ep _ _:=(by grind)
 dr:=ZV _
theorem ZB.setBlk(h:ZB C A bd w γ hg nx){id:Nat}{o:Obj}{ao:ZM}(hk:(γ id).kind≠0)(hw:(γ id).wr=true)
  (ho:XK (World.setBlk w (γ id).blk o) γ A bd id ao) :
  ZB C A bd (World.setBlk w (γ id).blk o) γ (upd hg id ao) nx/\Stp w γ (World.setBlk w (γ id).blk o) γ:=by
 have s:=yS (w:=w) (o:=o) hk hw;refine⟨?_,s⟩;have e:γ=upd γ id (γ id):=by grind[upd]
 refine h.set (gh:=γ id) e s (ZV _) ho ?_ ?_ ?_ ?_
 ·have:=h.lt id hk;exact⟨this.1,by simpa using this.2⟩
 ·intro j a k eb;exact a (h.inj j id k hk eb)
 ·exact h.av id hk
 ·intro j a k _;rw[bo,ZF];rintro⟨eb,_⟩;exact a (h.inj j id k hk eb)
def World.add(w:World)(o:Obj):World:={ w with heap:=w.heap.push o }
@[simp] theorem YO (o:Obj):(World.add w o).heap.size=w.heap.size+1:=by simp[World.add]
theorem mS(o:Obj)(b:Nat):(World.add w o).heap[b]?=if b=w.heap.size then some o else w.heap[b]?:=by grind[World.add]
theorem JZ{id:Nat}{gh:Gh}{o:Obj}(hid:(γ id).kind=0)(hb:gh.blk=w.heap.size):Stp w γ (World.add w o) (upd γ id gh) where
 sz:=by simp
 os:=rfl
 tape:=rfl
 output:=rfl
 fr b hb' _:=by rw[mS,bJ]
 mt b hb':=by
  rintro⟨j,h1,h2,h⟩
  by_cases hj:j=id
  ·simp_all
  ·rw[dz _ _ hj]at h1 h2 h;exact⟨j,h1,h2,h⟩
 kind j hj:=by
  have:j≠id:=by grind
  simp_all[dz]
 ep j hj:=by
  have:j≠id:=by grind
  simp_all[dz]
 dr:=ZV _
theorem ZB.add(h:ZB C A bd w γ hg nx){id:Nat}{gh:Gh}{o:Obj}{ao:ZM}(hid:(γ id).kind=0)(hb:gh.blk=w.heap.size)
  (hn:nx<=nx') (hi:id<nx') (ho:XK (World.add w o) (upd γ id gh) A bd id ao) :
  ZB C A bd (World.add w o) (upd γ id gh) (upd hg id ao) nx'/\Stp w γ (World.add w o) (upd γ id gh):=by
 have s:=JZ (w:=w) (o:=o) hid hb;refine⟨h.set (gh:=gh) rfl s hn ho ⟨hi,by simp[hb]⟩ ?_ ?_ ?_,s⟩
 ·intro j _ k e;have:=(h.lt j k).2;omega
 ·intro t ht;have:=h.ab t _ ht;omega
 ·intro j _ k _;have:=(h.lt j k).2;rw[mS,bJ]
end
section
variable {C:ZO}{A:Nat->Nat->Prop}{bd:Nat}{w:World}{γ:Gm}{hg:Nat->ZM}{nx nx':Nat}
theorem ZB.newCells(h:ZB C A bd w γ hg nx){id sz Zr:Nat}{rows:List (List AV)}(e:TypeId)
  (hid:(γ id).kind=0) (hn:nx<=nx') (hi:id<nx') (hs:(loose=false->Zr=0)/\(loose=true->rows.length+Zr<=9223372036854775807)) (hc:(rows.length+Zr)*sz<=c.size)
  (hr:∀(i:Nat) row,rows[i]?=some row->row.length=sz)
  (hv:∀(i j:Nat) row x,rows[i]?=some row->row[j]?=some x->x.one=true/\∃v,c[i*sz+j]?=some v/\RV w γ A bd x v) :
  ∃γ',ZB C A bd (World.add w (.cells c e (0,0))) γ' (upd hg id (.cells sz rows 0 loose false)) nx'/\Stp w γ (World.add w (.cells c e (0,0))) γ' /\
   (γ' id).kind=1/\(γ' id).ep=0/\(γ' id).sz=sz/\(γ' id).n=rows.length/\(γ' id).blk=w.heap.size/\(γ' id).base=0/\(γ' id).Zr=Zr:=by
 let gh:Gh:=⟨1,0,sz,rows.length,w.heap.size,0,Zr,true⟩
 have s:=JZ (w:=w) (o:=.cells c e (0,0)) (gh:=gh) hid rfl;obtain⟨r,s'⟩:=h.add (id:=id) (gh:=gh) (o:=.cells c e (0,0)) (ao:=.cells sz rows 0 loose false) hid rfl hn hi (by simp only[XK,upd_same];refine⟨rfl,rfl,rfl,rfl,hs,rfl,c,e,by grind[mS],by grind,hr,λi j row x h1 h2=>?_⟩;obtain⟨a,v,b1,b2⟩:=hv i j row x h1 h2<;>grind[RV.step])
 exact⟨_,r,s',by simp[gh],by simp[gh],by simp[gh],by simp[gh],by simp[gh],by simp[gh],by simp[gh]⟩
theorem ZB.storeCells(h:ZB C A bd w γ hg nx){id sz ep:Nat}{rows rows':List (List AV)}{loose:Bool}
  (hid:hg id=.cells sz rows ep loose false) {o:Nat} {vs:List Value} {xs:List AV}
  (hvs:S9 w γ A bd xs vs) (h1:∀(i:Nat) y,xs[i]?=some y->y.one=true)
  (hlen:rows'.length=rows.length) (hr':∀(i:Nat) row,rows'[i]?=some row->row.length=sz)
  (hin:(γ id).base<=o/\o+vs.length<=(γ id).base+rows.length*sz)
  (hcells:∀(i j:Nat) row x,rows'[i]?=some row->row[j]?=some x ->
   (if o<=(γ id).base+i*sz+j/\(γ id).base+i*sz+j<o+vs.length then xs[(γ id).base+i*sz+j - o]?=some x
    else ∃Se,rows[i]?=some Se/\Se[j]?=some x)) (P:Program) :
  ∃w',(Go.storeCells (Zo (γ id).blk o) vs).run P w=.ok () w' /\
   ZB C A bd w' γ (upd hg id (.cells sz rows' ep loose false)) nx/\Stp w γ w' γ:=by
 have d:=h.obj id;rw[hid]at d;obtain⟨m,k2,p,u,v,z,c,e,q,B,D,n⟩:=d;have l:o+vs.length<=c.size:=by grind
 have f:=yv (P:=P) vs 0 w c q (by omega) (Pg hvs h1);simp only[Yt]at f;have hk:(γ id).kind≠0:=by omega
 have hw:(γ id).wr=true:=by grind
 have s:=yS (w:=w) (o:=.cells (bF c o vs) e (0,0)) hk hw;obtain⟨r,s'⟩:=h.setBlk (id:=id) (o:=.cells (bF c o vs) e (0,0)) (ao:=.cells sz rows' ep loose false) hk hw (by
  refine⟨m,k2,p,by omega,by grind,by omega,bF c o vs,e,?_,by grind[cB],hr',λi j row x a b=>?_⟩
  ·grind[bo]
  ·have hc:=hcells i j row x a b;rw[cX _ _ _ _ l]
   split at hc
   ·rename_i k;rw[ZN k];have hlt:(γ id).base+i*sz+j - o<vs.length:=by omega
    refine⟨h1 _ _ hc,vs[(γ id).base+i*sz+j - o],Zq hlt,?_⟩;exact (hvs.2 _ _ _ hc (Zq hlt)).step s
   ·rename_i k;rw[ZF k];obtain⟨Se,c1,t⟩:=hc<;>grind[RV.step])
 grind
end
def TR(w:World)(γ:Gm)(A:Nat->Nat->Prop)(bd:Nat)(nt:Nat)(t:T)(tmps:Array Value):Prop :=tmps.size=nt/\∀i,RV w γ A bd (t.get AV.undef i) (tmps.getD i undef)
def Kc(P:Program)(o:Oper)(ev:Operand->Value)(w:World)(v:Value)(w':World):Prop :=(execOp ev o).run P w=.ok (.value v) w'\/((execOp ev o).run P w=.ok .skip w'/\v=undef)
def Y6(C:ZO)(A:Nat->Nat->Prop)(bd:Nat)(w:World)(γ:Gm)(hg:Nat->ZM)(nx:Nat)(o:Oper)(ev:Operand->Value)(g:G):OR->Prop
 |.fail=>True
 |.val x=>∃v,Kc C.P o ev w v w/\RV w γ A bd x v
 | .upd x g'=>∃v w' γ' id ob,Kc C.P o ev w v w'/\RV w' γ' A bd x v/\Stp w γ w' γ' /\
   ((g'=g.put id ob/\ZB C A bd w' γ' (upd hg id ob) nx)\/(g'=g.new ob/\id=g.nx/\ZB C A bd w' γ' (upd hg id ob) (Nat.max nx (g.nx+1))))
 |.ZP _=>False
section
variable {C:ZO}{A:Nat->Nat->Prop}{bd:Nat}{w:World}{γ:Gm}{hg:Nat->ZM}{nx:Nat}
theorem Nf{a:AV}(h:ofV v=some a):RV w γ A bd a v/\a.one=true:=by
 unfold ofV at h
 split at h<;>first| (cases h;done)| (injection h with h;subst h;exact⟨by constructor,rfl⟩)
theorem rh:∀{vs:List Value} {as:List AV},Ge vs=some as->S9 w γ A bd as vs/\∀(i:Nat) y,as[i]?=some y->y.one=true:=by
 intro vs
 induction vs with
 |nil=>intro as h;simp[Ge]at h;subst h;exact⟨⟨rfl,λi x v h=>by simp at h⟩,(by grind)⟩
 | cons v vs ih =>
  intro as h;simp only[Ge]at h
  split at h
  ·rename_i a as' h1 h2;injection h with h;subst h;obtain⟨p,q⟩:=Nf (w:=w) (γ:=γ) (A:=A) (bd:=bd) h1;obtain⟨r,s⟩:=ih h2;refine⟨⟨by simp[r.1],λi x u hx hu=>?_⟩,λi y hy=>?_⟩
   ·cases i with
    |zero=>grind
    |succ i=>exact r.2 i x u (by grind) (by grind)
   grind
  grind
theorem aC{x:Operand}{s:TM (T->AV)}{nt:Nat}{t:T}{a:Act}(h:aW C x=some s)(ht:TR w γ A bd nt t a.tmps)(hr:ZB C A bd w γ hg nx) :
  RV w γ A bd (s.run t) (a.eval x):=by
 cases x with
 |tmp n=>simp[aW]at h;subst h;rw[WA];exact ht.2 n
 | const v =>
  simp only[aW]at h
  split at h
  ·rename_i a' h1;injection h with h;subst h;exact (Nf h1).1
  grind
 | global g =>
  simp only[aW]at h
  split at h
  ·rename_i sz rows h1;injection h with h;subst h;exact hr.Q6 g sz rows h1
  grind
 | func f =>simp[aW]at h;subst h;exact .ZH _ f [] [] #[] #[] rfl rfl (by grind) (by grind)
theorem jc{nt:Nat}{t:T}{a:Act}(ht:TR w γ A bd nt t a.tmps)(hr:ZB C A bd w γ hg nx):∀{xs:List Operand} {s:TM (T->List AV)},
  cC C xs=some s->S9 w γ A bd (s.run t) (xs.map a.eval):=by
 intro xs
 induction xs with
 |nil=>intro s h;simp[cC]at h;subst h;exact⟨rfl,λi x v h=>by simp at h⟩
 | cons x xs ih =>
  intro s h;simp only[cC]at h
  split at h
  ·rename_i a' as' h1 h2;injection h with h;subst h;have p:=aC h1 ht hr;have q:=ih h2;refine⟨by simp[q.1],λi y u hy hu=>?_⟩;cases i with
   |zero=>grind
   |succ i=>exact q.2 i y u (by grind) (by grind)
  grind
theorem zw{row:List AV}{o:Nat}{x:AV}{bd':Nat}(hb:bd'<=bd)
  (hcell:∀(j:Nat) y,row[j]?=some y->y.one=true/\∃v,w.cell? (Zo b (o+j))=some v/\RV w γ A bd' y v)
  (hag:wC C.P ty=some ag) (hn:R6 C.P ty=some n) (h:cK ag n row off=some x) :
  ∃v,(loadVar ty (Zo b (o+off))).run C.P w=.ok v w/\RV w γ A bd x v:=by
 unfold cK at h;cases ag with
 | false =>simp only[eI]at h;obtain⟨_,v,h1,h2⟩:=hcell off x h;exact⟨v,by simp_all[loadVar,pg],h2.mono hb⟩
 | true =>
  simp only[bE,bu,ax,aa]at h
  split at h
  ·rename_i hl;rw[aeH]at hl;injection h with h;subst h;have d:∀j:Fin n,∃v,w.cell? (Zo b (o+off+j))=some v/\∃y,(List.take n (List.drop off row))[j.1]?=some y/\y.one=true/\RV w γ A bd' y v:=by
    intro j;have m:j.1<(List.take n (List.drop off row)).length:=by omega
    have e:(List.take n (List.drop off row))[j.1]?=row[off+j.1]?:=by grind
    grind
   let f:Fin n->Value:=λj=>Classical.choose (d j)
   have hf:∀j:Fin n,w.cell? (Zo b (o+off+j))=some (f j)/\∃y,(List.take n (List.drop off row))[j.1]?=some y/\y.one=true/\RV w γ A bd' y (f j) :=(by grind)
   have k:(List.ofFn f).length=n:=by simp
   have a:=zx (P:=C.P) (w:=w) (b:=b) (o:=o+off) (cs:=List.ofFn f) (λj c hc=>by grind)
   rw[k]at a;refine⟨.agg (List.ofFn f).toArray,by simp_all[loadVar,pg,bj],.agg _ _ _ (by grind) (λi y hy=>?_) (λi y v hy hv=>?_)⟩
   ·grind
   ·have hi:i<n:=by grind
    obtain⟨_,y',h1,h2,l⟩:=hf ⟨i,hi⟩<;>grind[RV.mono]
  grind
theorem yN(hr:ZB C A bd w γ hg nx){id sz:Nat}{rows:List (List AV)}{fz:Bool}(hid:hg id=.cells sz rows ep loose fz)
   {row:List AV} (hi:rows[i]?=some row) (j:Nat) (y:AV) (hy:row[j]?=some y) :
  y.one=true/\∃v,w.cell? (Zo (γ id).blk ((γ id).base+i*sz+j))=some v/\RV w γ A bd y v:=by
 have h:=hr.obj id;rw[hid]at h;obtain⟨a,k2,b,d,f,l,c,e,m,n,o,k⟩:=h<;>grind[px]
theorem aH{a:Nat}(h:Nat.beq a b=true):a=b:=Wj h
def Zp(C:ZO)(A:Nat->Nat->Prop)(bd:Nat)(w:World)(γ:Gm)(m:Sem Value):OR->Prop
 |.fail=>True
 |.val x=>∃v,m.run C.P w=.ok v w/\RV w γ A bd x v
 |_=>False
theorem rk{m:Sem Value}{x:Option AV}(h:∀y,x=some y->∃v,m.run C.P w=.ok v w/\RV w γ A bd y v):Zp C A bd w γ m (RK x):=by
 cases x with
 |none=>trivial
 |some y=>exact h y rfl
theorem Ll{a:T->AV}{t:T}{g:G}(hr:ZB C A bd w γ hg nx)
  (ha:RV w γ A bd (a t) va) (hag:wC C.P ty=some ag) (hn:R6 C.P ty=some n) (agree:∀id∈an (a t),hg id=g.h.get id) :
  Zp C A bd w γ (Instr.loadAt ty va) (qo ag n a t g):=by
 unfold qo;generalize a t=x at *;cases ha with
 | ZR _ tag sz rows i0 UI b o cell ht hb hm ha' hrl ho hw h =>
  simp only[eI];cases hrow:rows[i0]? with
  |none=>trivial
  | some row =>
   refine rk λy hp=>?_;obtain⟨v,h1,h2⟩:=zw (C:=C) (ty:=ty) (w:=w) (γ:=γ) (A:=A) (bd:=bd) ht (b:=b) (o:=o+i0*sz) (by grind) hag hn hp
   grind[Instr.loadAt,Instr.sureAddr]
 | ZD _ id ep i off b o hk he h =>
  have k:=agree id (by simp[an]);simp only[G.get_eq,<-k];cases hid:hg id with
  | cells sz rows ep' loose fz =>
   simp only[aa]
   split
   ·rename_i c;have c:=aH c;have d:=hr.obj id;rw[hid]at d;obtain⟨f,k2,j,_⟩:=d;obtain⟨c1,e⟩:=h (c.trans k2.symm);simp only[eI];cases hrow:rows[i]? with
    |none=>trivial
    | some row =>refine rk λy hp=>?_;obtain⟨v,h1,h2⟩:=zw (C:=C) (ty:=ty) (w:=w) (γ:=γ) (A:=A) (bd:=bd) (ZV _) (b:=(γ id).blk) (o:=(γ id).base+i*sz) (yN hr hid hrow) hag hn hp;refine⟨v,?_,h2⟩<;>grind[Instr.loadAt,Instr.sureAddr]
   ·trivial
  |_=>trivial
 |_=>trivial
end
section
variable {g:G}
theorem SL{i' j sz:Nat}(hj:j<sz)(h1:i*sz<=i'*sz+j)(h2:i'*sz+j<i*sz+sz):i'=i:=by
 rcases aec i' i with h|h|h
 ·have:(i'+1)*sz<=i*sz:=abs _ h
  grind
 ·exact h
 ·have:(i+1)*sz<=i'*sz:=abs _ h
  grind
theorem uY{row row':List AV}{cs:List AV}(h:dh row off cs=some row') :
  row'.length=row.length/\off+cs.length<=row.length/\∀j,row'[j]?=if off<=j/\j<off+cs.length then cs[j - off]? else row[j]?:=by
 unfold dh at h;simp only[ax,jh,bE,bu,aa]at h
 split at h
 ·rename_i k;rw[R1]at k;injection h with h
  split at h<;>grind
 grind
section
variable {C:ZO}{A:Nat->Nat->Prop}{bd:Nat}{w:World}{γ:Gm}{hg:Nat->ZM}{nx:Nat}
def dY(C:ZO)(A:Nat->Nat->Prop)(bd:Nat)(w:World)(γ:Gm)(hg:Nat->ZM)(nx:Nat)(m:Sem Value)(g:G):OR->Prop
 |.fail=>True
 |.val x=>∃v,m.run C.P w=.ok v w/\RV w γ A bd x v
 | .upd x g'=>∃v w' γ' id ob,m.run C.P w=.ok v w'/\RV w' γ' A bd x v/\Stp w γ w' γ' /\
   ((g'=g.put id ob/\ZB C A bd w' γ' (upd hg id ob) nx)\/(g'=g.new ob/\id=g.nx/\ZB C A bd w' γ' (upd hg id ob) (Nat.max nx (g.nx+1))))
 |.ZP _=>False
theorem dC:RV w γ A bd AV.undef undef:=.Zz _ [] #[] rfl (by grind)
theorem Rd{a x:T->AV}{t:T}{vx:Value}(hr:ZB C A bd w γ hg nx)
  (ha:RV w γ A bd (a t) va) (hx:RV w γ A bd (x t) vx) (hn:R6 C.P ty=some n) (agree:∀id∈an (a t),hg id=g.h.get id) :
  dY C A bd w γ hg nx (do Instr.storeAt ty va vx;pure undef) g (sJ n a x t g):=by
 unfold sJ;generalize a t=y at *;generalize x t=z at *;cases ha with
 | ZD _ id ep i off b o hk he h =>
  have k:=agree id (by simp[an]);simp only[G.get_eq,<-k];cases hid:hg id with
  | cells sz rows ep' loose fz =>
   simp only[aa,ax,eI,jh]
   split
   ·rename_i hc;simp only[Zk,rq,Qw]at hc;obtain⟨⟨⟨f,d⟩,q⟩,p⟩:=hc;have f:=aH f;have d:=aH d;subst q;subst f;have m:=hr.obj id;rw[hid]at m;obtain⟨J,k2,E,K,L,M,c,e,N,O,F,D⟩:=m;obtain⟨c1,s⟩:=h k2.symm;rw[E]at s;cases hrow:rows[i]? with
    |none=>trivial
    | some row =>
     dsimp only;cases hp:dh row off z.cells with
     |none=>trivial
     | some row' =>
      obtain⟨p1,p2,p3⟩:=uY hp;obtain⟨q1,q2⟩:=sY hx p;have v:row.length=sz:=F i row hrow;have hi:i<rows.length:=(by grind);have l:(i+1)*sz<=rows.length*sz:=abs _ hi;rw[UF,VT]at l;have r:vx.cells.toList.length=z.cells.length:=q1.1.symm;obtain⟨w',Q,H,I⟩:=hr.storeCells hid (rows':=rows.set i row') (o:=(γ id).base+i*sz+off) (vs:=vx.cells.toList) q1 q2 (by simp)
       (λi' r' hr'=>by grind)
       ⟨by omega,by omega⟩
       (λi' j r' y hr' hy=>by
        rw[VY]at hr'
        by_cases hii:i=i'
        ·grind
        ·rw[ZF hii]at hr';have u:j<sz:=by grind
         rw[ZF]
         ·grind
         ·rw[r];rintro⟨l1,l2⟩;exact hii (SL (i:=i) (i':=i') u (by omega) (by omega)).symm) C.P
      refine⟨undef,w',γ,id,.cells sz (rows.set i row') ep loose false,?_,dC,I,.inl ⟨rfl,H⟩⟩;have B:vx.cells.size=n:=by grind
      simp_all[Instr.storeAt,Instr.sureAddr,storeVar,bj]
   ·trivial
  |_=>trivial
 |_=>trivial
theorem JF{sz:Nat}{rows:List (List AV)}{cs:Array Value}(e:TypeId)(hr:ZB C A bd w γ hg nx)(hf:(γ g.nx).kind=0)
  (hrow:∀(i:Nat) row,rows[i]?=some row->row.length=sz)
  (hv:∀(i j:Nat) row x,rows[i]?=some row->row[j]?=some x->x.one=true/\∃v,cs[i*sz+j]?=some v/\RV w γ A bd x v)
  (loose:Bool) (Zr:Nat) (hs:(loose=false->Zr=0)/\(loose=true->rows.length+Zr<=9223372036854775807)) (hc:(rows.length+Zr)*sz<=cs.size) :
  ∃γ',ZB C A bd (World.add w (.cells cs e (0,0))) γ' (upd hg g.nx (.cells sz rows 0 loose false)) (Nat.max nx (g.nx+1))/\Stp w γ (World.add w (.cells cs e (0,0))) γ' /\
   (γ' g.nx).kind=1/\(γ' g.nx).ep=0/\(γ' g.nx).sz=sz/\(γ' g.nx).n=rows.length/\(γ' g.nx).blk=w.heap.size/\(γ' g.nx).base=0/\(γ' g.nx).Zr=Zr :=
 hr.newCells e hf (KT _ _) (by grind) hs hc hrow hv
theorem jx{P:Program}(e:TypeId)(cs:Array Value):(newRow e cs).run P w=.ok (Zo w.heap.size 0) (World.add w (.cells cs e (0,0))):=by simp[newRow,Zo,World.add]
theorem UW{x:AV}(hr:ZB C A bd w γ hg nx)(hx:RV w γ A bd x v)(hf:(γ g.nx).kind=0)(ht:x.isTup=false) :
  dY C A bd w γ hg nx (Instr.box ty v) g (.upd (.ZD g.nx 0 0 0) (g.new (Z4 (bi x.cells) [x.cells]))):=by
 obtain⟨q1,q2⟩:=sY hx ht;obtain⟨γ',k,a,b,d,r5,e,c,f,l⟩:=JF (sz:=x.cells.length) (rows:=[x.cells]) (cs:=v.cells) ty hr hf
  (λi row h=>by grind)
  (λi j row y h hy=>by
   cases i with
   | zero =>
    simp at h;subst h;have hlt:j<v.cells.toList.length:=by rw[<-q1.1];grind
    have he:=Zq hlt;exact⟨q2 j y hy,_,by grind,q1.2 j y _ hy he⟩
   | succ i=>simp at h) false 0 (by grind) (by have:=q1.1;grind)
 rw[ax];refine⟨.pointer (some (Zo w.heap.size 0)),_,γ',g.nx,_,?_,?_,a,.inr ⟨rfl,rfl,k⟩⟩
 ·simp[Instr.box,newVar,jx]
 ·exact .ZD _ _ _ _ _ _ _ b (by omega) (λ_=>⟨c.symm,by omega⟩)
end
end
section
variable {cs:List AV}
section
variable {C:ZO}{A:Nat->Nat->Prop}{bd:Nat}{w:World}{γ:Gm}{hg:Nat->ZM}{nx:Nat}
theorem qw{P:Program}(h:ii P ty=some cs):∃v,(zeroValue ty).run P w=.ok v w/\Ge v.cells.toList=some cs:=by
 unfold ii at h;cases hi:P.info? ty with
 |none=>grind
 | some i =>
  rw[hi]at h;cases hz:i.zero with
  |none=>grind
  |some v=>simp_all[zeroValue,nu]
theorem PC{g:G}(hr:ZB C A bd w γ hg nx)(hz:ii C.P ty=some cs)(hf:(γ g.nx).kind=0)(t:T) :
  dY C A bd w γ hg nx (Instr.alloc ty true (.tuple #[])) g (IU cs t g):=by
 obtain⟨v,h1,h2⟩:=qw (w:=w) hz;obtain⟨q1,q2⟩:=rh (w:=w) (γ:=γ) (A:=A) (bd:=bd) h2;obtain⟨γ',k,a,b,d,r5,e,c,f,l⟩:=JF (sz:=cs.length) (rows:=[cs]) (cs:=v.cells) ty hr hf
  (λi row h=>by grind)
  (λi j row y h hy=>by
   cases i with
   | zero =>
    simp at h;subst h;have hlt:j<v.cells.toList.length:=by rw[<-q1.1];grind
    have he:=Zq hlt;exact⟨q2 j y hy,_,by grind,q1.2 j y _ hy he⟩
   | succ i=>simp at h) false 0 (by grind) (by have:=q1.1;grind)
 unfold IU;rw[ax];refine⟨.pointer (some (Zo w.heap.size 0)),_,γ',g.nx,_,?_,?_,a,.inr ⟨rfl,rfl,k⟩⟩
 ·simp_all[Instr.alloc,newVar,jx]
 ·exact .ZD _ _ _ _ _ _ _ b (by omega) (λ_=>⟨c.symm,by omega⟩)
theorem Bi(vs:List Value):∀(off k:Nat) (c:Array Value),
  (vs.zipIdx k).foldl (λcs (p:Value×Nat)=>cs.setIfInBounds (off+p.2) p.1) c=bF c (off+k) vs:=by
 induction vs with
 |nil=>intro off k c;rfl
 |cons v vs ih=>intro off k c;simp only[List.zipIdx_cons,IS,bF];rw[ih];rfl
def sO(w:World)(γ:Gm)(A:Nat->Nat->Prop)(bd:Nat)(xs:List AV)(c:Array Value):Prop :=S9 w γ A bd xs c.toList/\∀(i:Nat) y,xs[i]?=some y->y.one=true
theorem JN{xs row':List AV}{vs:List Value}(h:sO w γ A bd xs c)(hv:S9 w γ A bd cs vs)
  (h1:∀(i:Nat) y,cs[i]?=some y->y.one=true) (hp:dh xs off cs=some row'):sO w γ A bd row' (bF c off vs):=by
 obtain⟨p1,p2,p3⟩:=uY hp;have hl:off+vs.length<=c.size:=by have:=h.1.1;have:=hv.1;grind
 refine⟨⟨by have:=h.1.1;grind[cB],λi x v hx hv'=>?_⟩,λi y hy=>?_⟩
 ·rw[p3]at hx;simp only[Array.getElem?_toList]at hv';rw[cX _ _ _ _ hl]at hv';have:=hv.1
  split at hx
  ·rw[i6]at hv';exact hv.2 _ _ _ hx hv'
  ·rw[bJ]at hv';exact h.1.2 _ _ _ hx (by grind)
 ·rw[p3]at hy
  split at hy
  ·grind
  ·exact h.2 _ _ hy
theorem Qb{place:Nat->Option (Nat×Nat)}:∀{is:List Nat} {pl:List (Nat×Nat)} {xs:List AV} {vs:List Value} {zero cs:List AV} {c:Array Value},
  aD place is=some pl->sO w γ A bd zero c->S9 w γ A bd xs vs->dX zero (pl.zip xs)=some cs->is.length=xs.length ->
  ∃c',Instr.fill place c (is.zip vs)=some c'/\sO w γ A bd cs c':=by
 intro is
 induction is with
 | nil =>intro pl xs vs zero cs c hp hc b h hl;simp[aD]at hp;subst hp;have:xs=[]:=R_ hl.symm;simp_all[dX,Instr.fill]
 | cons i is ih =>
  intro pl xs vs zero cs c hp hc b h hl;cases xs with
  |nil=>cases hl
  | cons x xs =>
   cases vs with
   |nil=>have:=b.1;grind
   | cons v vs =>
    simp only[aD]at hp;cases hpi:place i with
    |none=>grind
    | some q =>
     rw[hpi]at hp;cases hpr:aD place is with
     |none=>grind
     | some pl' =>
      rw[hpr]at hp;injection hp with hp;subst hp;obtain⟨off,size⟩:=q;simp only[Ww,dX,aa,ax]at h
      split at h
      ·rename_i a;simp only[Zk,rq,Qw]at a;obtain⟨h1,h2⟩:=a;have h1:=aH h1;cases hput:dh zero off x.cells with
       |none=>grind
       | some row' =>
        rw[hput]at h;have hx:=b.2 0 x v rfl rfl;obtain⟨q1,q2⟩:=sY hx h2;have j:v.cells.size=size:=by rw[<-h1];have:=q1.1;grind
        have f:=(uY hput).2.1;have e:zero.length=c.size:=by have:=hc.1.1;omega
        obtain⟨c',m,l⟩:=ih (c:=bF c off v.cells.toList) hpr (JN hc q1 q2 hput) ⟨by have:=b.1;simpa using this,λk y u hy hu=>b.2 (k+1) y u (by grind) (by grind)⟩ h (by grind);refine⟨c',?_,l⟩;have d:(v.cells.zipIdx.foldl (λcs (p:Value×Nat)=>cs.setIfInBounds (off+p.2) p.1) c)=bF c off v.cells.toList:=by rw[<-afm,afi];simp_all[Bi]
        simp only[Ww,Instr.fill,hpi]
        grind
      grind
theorem HU{parts:Array (Nat×Operand)}{zero:List AV}{pl:List (Nat×Nat)}{vs:T->List AV}{t:T}{g:G}{place:Nat->Option (Nat×Nat)}
  {ev:Operand->Value} (hz:ii C.P ty=some zero) (hv:S9 w γ A bd (vs t) ((parts.toList.map (·.2)).map ev))
  (hp:aD place (parts.toList.map (·.1))=some pl)
  (hrun:∀(z:Value) (cells:Array Value),(zeroValue ty).run C.P w=.ok z w->Instr.fill place z.cells ((parts.map λ(i,x)=>(i,ev x)).toList)=some cells ->
   (Instr.build ty (parts.map λ(i,x)=>(i,ev x))).run C.P w=.ok (.agg cells) w) :
  Zp C A bd w γ (Instr.build ty (parts.map λ(i,x)=>(i,ev x))) (rB zero pl vs t g):=by
 unfold rB;cases hfl:dX zero (pl.zip (vs t)) with
 |none=>trivial
 | some cs =>
  obtain⟨z,k,a⟩:=qw (w:=w) hz;have zr:=rh (w:=w) (γ:=γ) (A:=A) (bd:=bd) a;have hl:(parts.toList.map (·.1)).length=(vs t).length:=by have:=hv.1;grind
  obtain⟨c',b,h⟩:=Qb (c:=z.cells) hp zr hv hfl hl;have e:(parts.map λ(i,x)=>(i,ev x)).toList=(parts.toList.map (·.1)).zip ((parts.toList.map (·.2)).map ev):=by
   rw[Array.toList_map]
   grind
  exact⟨.agg c',hrun z c' k (by grind),.agg _ _ _ (by have:=h.1.1;omega) h.2 (λi x v hx hv=>h.1.2 i x v hx (by grind))⟩
end
end
theorem OU{j sz:Nat}(hj:j<sz):(i*sz+j) % sz=j:=by grind[acW,adJ]
section
variable {C:ZO}{A:Nat->Nat->Prop}{bd:Nat}{w:World}{γ:Gm}{hg:Nat->ZM}{nx:Nat}
def jT(zero:Array Value)(n:Nat):Array Value:=(Array.range n).map (zero[· % zero.size]!)
theorem qC(zero:Array Value)(n:Nat):(jT zero n).size=n:=by simp[jT]
theorem Rj{zero:Array Value}{k:Nat}(h:k<n)(hz:0<zero.size):(jT zero n)[k]?=zero[k % zero.size]?:=by grind[US,jT]
theorem LV{row r:List AV}(h:(jb n row)[i]?=some r):r=row/\i<n:=by simp_all[jb,adH]
def ZJ(w:World)(γ:Gm)(A:Nat->Nat->Prop)(bd sz:Nat)(rows:List (List AV))(c:Array Value):Prop :=
 rows.length*sz<=c.size/\(∀(i:Nat) row,rows[i]?=some row->row.length=sz) /\
 ∀(i j:Nat) row x,rows[i]?=some row->row[j]?=some x->x.one=true/\∃v,c[i*sz+j]?=some v/\RV w γ A bd x v
theorem yT{ty:TypeId}{zero:List AV}{z:Value}{sz m:Nat}(hz:Ge z.cells.toList=some zero)(hsz:zero.length=sz)(h0:0<sz)(hn:n*sz<=m) :
  ZJ w γ A bd sz (jb n zero) (jT z.cells m):=by
 obtain⟨q1,q2⟩:=rh (w:=w) (γ:=γ) (A:=A) (bd:=bd) hz;have a:z.cells.size=sz:=by have:=q1.1;grind
 refine⟨by grind[jb,qC],λi row h=>by rw[(LV h).1];exact hsz,λi j row x h hx=>?_⟩;obtain⟨e,hi⟩:=LV h;subst e;have b:j<sz:=by grind
 have hlt:i*sz+j<n*sz:=by
  have:(i+1)*sz<=n*sz:=abs _ hi
  grind
 have k:j<z.cells.toList.length:=by grind
 refine⟨q2 j x hx,z.cells.toList[j],?_,q1.2 j x _ hx (Zq k)⟩
 grind[Rj,OU]
theorem Jn{sz:Nat}(h0:0<sz):∀{is:List Nat} {xs:List AV} {vs:List Value} {rows rows':List (List AV)} {c:Array Value} {n:Nat},
  ZJ w γ A bd sz rows c->rows.length=n->c.size=n*sz->S9 w γ A bd xs vs->i4 sz rows (is.zip xs)=some rows'->is.length=xs.length ->
  ∃c',Instr.fill (λi=>some (i*sz,sz)) c (is.zip vs)=some c'/\ZJ w γ A bd sz rows' c'/\rows'.length=n/\c'.size=n*sz:=by
 intro is
 induction is with
 | nil =>intro xs vs rows rows' c n hc hl m f h b;have:xs=[]:=R_ b.symm;simp_all[i4,Instr.fill]
 | cons i is ih =>
  intro xs vs rows rows' c n hc hl m f h b;cases xs with
  |nil=>cases b
  | cons x xs =>
   cases vs with
   |nil=>have:=f.1;grind
   | cons v vs =>
    simp only[Ww,i4,aa,ax,jh]at h
    split at h
    ·rename_i a;simp only[Zk,rq,Qw,YD]at a;obtain⟨⟨h1,h2⟩,r⟩:=a;have h1:=aH h1;have hx:=f.2 0 x v rfl rfl;obtain⟨q1,q2⟩:=sY hx r;have t:v.cells.toList.length=sz:=by rw[<-q1.1,h1]
     have e:(i+1)*sz<=rows.length*sz:=abs _ h2;rw[UF,VT]at e;have q:i*sz+v.cells.toList.length<=c.size:=by grind
     have l:ZJ w γ A bd sz (rows.set i x.cells) (bF c (i*sz) v.cells.toList):=by
      refine⟨by grind[cB],λk row hk=>?_,λk j row y hk hy=>?_⟩
      ·rw[VY]at hk
       by_cases hik:i=k
       ·grind
       ·rw[ZF hik]at hk;exact hc.2.1 k row hk
      ·rw[VY]at hk;rw[cX _ _ _ _ q]
       by_cases hik:i=k
       ·subst hik;rw[ZN rfl,ZN h2]at hk;injection hk with hk;subst hk;have s:j<sz:=by grind
        have d:j<v.cells.toList.length:=by omega
        rw[i6,show i*sz+j - i*sz=j from by omega];exact⟨q2 j y hy,_,Zq d,q1.2 j y _ hy (Zq d)⟩
       ·rw[ZF hik]at hk;have s:j<sz:=by rw[<-hc.2.1 k row hk];grind
        rw[ZF]
        ·exact hc.2.2 k j row y hk hy
        grind[SL]
     obtain⟨c',E,B,C,D⟩:=ih (c:=bF c (i*sz) v.cells.toList) (n:=n) l (by simp[hl]) (by grind[cB])
      ⟨by have:=f.1;simpa using this,λk y u hy hu=>f.2 (k+1) y u (by grind) (by grind)⟩ h (by grind)
     refine⟨c',?_,B,C,D⟩;have o:(v.cells.zipIdx.foldl (λcs (p:Value×Nat)=>cs.setIfInBounds (i*sz+p.2) p.1) c)=bF c (i*sz) v.cells.toList:=by rw[<-afm,afi];simp_all[Bi]
     have z:v.cells.size=sz:=by omega
     simp only[Ww,Instr.fill]
     grind
    grind
theorem uV{sz:Nat}{rows:List (List AV)}{cs:Array Value}(e:TypeId)(hr:ZB C A bd w γ hg nx){g:G}(hf:(γ g.nx).kind=0)
  (h:ZJ w γ A bd sz rows cs) (len cap:Nat) (loose:Bool) (Zr:Nat) (hs:(loose=false->Zr=0)/\(loose=true->rows.length+Zr<=9223372036854775807)) (hc:(rows.length+Zr)*sz<=cs.size)
  (hcap:cap=rows.length+Zr) (hlen:len<=rows.length) :
  ∃γ',ZB C A bd (World.add w (.cells cs e (0,0))) γ' (upd hg g.nx (.cells sz rows 0 loose false)) (Nat.max nx (g.nx+1))/\Stp w γ (World.add w (.cells cs e (0,0))) γ' /\
   RV (World.add w (.cells cs e (0,0))) γ' A bd (.ZG g.nx 0 0 len none) (.slice (some (Zo w.heap.size 0)) len cap):=by
 obtain⟨γ',k,a,b,d,r5,f,c,i,j⟩:=JF (sz:=sz) (rows:=rows) (cs:=cs) e hr hf h.2.1 h.2.2 loose Zr hs hc;refine⟨γ',k,a,.ZG _ _ _ _ _ _ _ _ _ b (by omega) (by omega) λ_=>⟨c.symm,by omega,?_⟩⟩
 grind[jU]
theorem EI{sz:Nat}{parts:Array (Nat×Operand)}{zero:List AV}{vs:T->List AV}{t:T}{g:G}{ev:Operand->Value}
  (hr:ZB C A bd w γ hg nx) (hf:(γ g.nx).kind=0) (hu:C.P.underlying ty=some (.slice e)) (hsz:R6 C.P e=some sz) (hz:ii C.P e=some zero)
  (hzl:zero.length=sz) (h0:0<sz) (hsmall:len*sz<=1048576) (hv:S9 w γ A bd (vs t) ((parts.toList.map (·.2)).map ev)) :
  dY C A bd w γ hg nx (Instr.buildSlice ty len (parts.map λ(i,x)=>(i,ev x))) g (jC sz len (jb len zero) (parts.toList.map (·.1)) vs t g):=by
 unfold jC;cases hfl:i4 sz (jb len zero) ((parts.toList.map (·.1)).zip (vs t)) with
 |none=>trivial
 | some rows =>
  obtain⟨z,r,d⟩:=qw (w:=w) hz;have f:z.cells.size=sz:=by have:=(rh (w:=w) (γ:=γ) (A:=A) (bd:=bd) d).1.1;grind
  have hl:(parts.toList.map (·.1)).length=(vs t).length:=by have:=hv.1;grind
  obtain⟨c',b,j,p,q⟩:=Jn h0 (c:=jT z.cells (len*sz)) (n:=len) (yT (ty:=e) (w:=w) (γ:=γ) (A:=A) (bd:=bd) d hzl h0 (ZV _)) (by simp[jb]) (qC _ _) hv hfl hl;have he:(parts.map λ(i,x)=>(i,ev x)).toList=(parts.toList.map (·.1)).zip ((parts.toList.map (·.2)).map ev):=by
   rw[Array.toList_map]
   grind
  have k:(Instr.buildSlice ty len (parts.map λ(i,x)=>(i,ev x))).run C.P w=.ok (.slice (some (Zo w.heap.size 0)) len len) (World.add w (.cells c' e (0,0))):=by
   have a:¬(2 ^ 24<len*sz):=by omega
   unfold Instr.buildSlice;rw[he]
   by_cases h:len*sz=0
   ·have e0:jT z.cells (len*sz)=#[]:=by grind[jT]
    rw[e0]at b;have e1:(Array.range 0).map (λx=>(#[]:Array Value)[x % (#[]:Array Value).size]!)=#[]:=by simp
    simp only[Qk,aG hu,abi,bj hsz];rw[bJ];simp only[Qk,h,if_true,MV,abi,e1,b,jx]
   ·have e0:(Array.range (len*sz)).map (λx=>z.cells[x % z.cells.size]!)=jT z.cells (len*sz):=rfl;simp only[Qk,aG hu,abi,bj hsz];simp_all[jx]
  obtain⟨γ',l,m,o⟩:=uV (w:=w) e hr hf j len len false 0 (by grind) (by grind) (by omega) (by omega);exact⟨_,_,γ',g.nx,_,k,o,m,.inr ⟨rfl,rfl,l⟩⟩
end
section
variable {t:T}{g:G}{a ix:T->AV}
section
variable {C:ZO}{A:Nat->Nat->Prop}{bd:Nat}{w:World}{γ:Gm}{hg:Nat->ZM}{nx:Nat}
theorem Br{lim:Nat}{x:AV}(h:dU lim x=some n)(hv:RV w γ A bd x v):n<=lim/\∃k,v=.int k (n:Int):=by
 unfold dU at h
 split at h
 ·rw[aa]at h
  split at h
  ·rename_i hl;rw[R1]at hl;injection h with h;subst h;cases hv<;>grind
  grind
 grind
theorem vo(n:Nat)(h:n<2^63):IntKind.wrap .i64 (n:Int)=(n:Int):=qB n h
theorem HC{sz:Nat}{zero:List AV}{l c:T->AV}{vl vc:Value}
  (hr:ZB C A bd w γ hg nx) (hf:(γ g.nx).kind=0) (hu:C.P.underlying ty=some (.slice e)) (hsz:R6 C.P e=some sz) (hby:lR C.P e=some bytes) (hz:ii C.P e=some zero)
  (hzl:zero.length=sz) (h0:0<sz) (hl:RV w γ A bd (l t) vl) (hc:RV w γ A bd (c t) vc) :
  dY C A bd w γ hg nx (Instr.makeSlice ty vl vc) g (ju sz bytes zero l c t g):=by
 unfold ju;cases hcn:dU aQ (c t) with
 |none=>trivial
 | some cn =>
  dsimp only;cases hln:dU cn (l t) with
  |none=>trivial
  | some ln =>
   dsimp only;rw[aa]
   split
   ·rename_i k;rw[R1]at k;obtain⟨c1,kc,rfl⟩:=Br hcn hc;obtain⟨l1,kl,rfl⟩:=Br hln hl;obtain⟨z,u,a⟩:=qw (w:=w) hz;have f:z.cells.size=sz:=by have:=(rh (w:=w) (γ:=γ) (A:=A) (bd:=bd) a).1.1;grind
    unfold aQ at c1 k;obtain⟨γ',o,p,q⟩:=uV (w:=w) (cs:=jT z.cells (cn*sz)) e hr hf (yT (ty:=e) (n:=cn) a hzl h0 (ZV _)) ln cn false 0 (by grind)
     (by simp[jb,qC]) (by simp[jb]) (by grind[jb])
    refine⟨_,_,γ',g.nx,_,?_,q,p,.inr ⟨rfl,rfl,o⟩⟩;have hi:∃i,C.P.info? e=some i/\i.bytes=bytes:=by simp_all[lR]
    obtain⟨i,j,m⟩:=hi;have w1:=vo ln (by omega);have r:=vo cn (by omega);have b:¬((bytes:Int)*(cn:Int) > 2 ^ 48):=by grind
    have d:¬((bytes:Int)*(ln:Int) > 2 ^ 48):=by
     have s:ln*bytes<=cn*bytes:=abs _ l1
     grind
    unfold Instr.makeSlice;simp only[Qk,aG hu,abi,asInt,asIntOf,MV,nu j,m,w1,r];rw[ZF (by grind)];simp only[Qk,run_askRoom,abi,bj hsz,Ya]
    by_cases h:cn*sz=0
    ·have e0:jT z.cells (cn*sz)=#[]:=by grind[jT]
     have e1:(Array.range 0).map (λx=>(#[]:Array Value)[x % (#[]:Array Value).size]!)=#[]:=by simp
     rw[e0,h];simp only[if_true,Qk,MV,abi,e1,jx]
    ·have e0:(Array.range (cn*sz)).map (λx=>z.cells[x % z.cells.size]!)=jT z.cells (cn*sz):=rfl;simp_all[jx]
   ·trivial
theorem xK{f:Field}{o:Nat}(hn:R6 C.P f.type=some (n+1)):(fieldPlace (Zo b o) f).run C.P w=.ok (Zo b (o+f.offset)) w:=by simp_all[fieldPlace,bj,ij]
theorem Hv{f fo:Nat}{ft:TypeId}
  (ha:RV w γ A bd (a t) va) (hf:xL C.P ty f=some (fo,ft)) (hn:R6 C.P ft=some (n+1)) :
  Zp C A bd w γ (Instr.fieldAt ty va f) (mo fo a t g):=by
 unfold xL at hf;cases hu:C.P.underlying ty with
 |none=>grind
 | some d =>
  rw[hu]at hf;cases d with
  | struct fs =>
   dsimp only at hf;cases hx:fs[f]? with
   |none=>grind
   | some x =>
    rw[hx]at hf;injection hf with hf;injection hf with h1 h2;subst h1;subst h2;unfold mo;generalize a t=y at *;cases ha with
    | ZR _ tag sz rows i0 UI b o cell ht hb hm ha' hrl ho hw h hcl =>refine⟨_,?_,.ZR _ tag sz rows i0 (UI+x.offset) b o cell ht hb hm ha' hrl ho hw h hcl⟩;simp_all[Instr.fieldAt,Instr.sureAddr,Nk,aG,xK]
    | ZD _ id ep i off b o hk he h =>
     refine⟨.pointer (some (Zo b (o+x.offset))),?_,.ZD _ id ep i (off+x.offset) b _ hk he λe=>?_⟩
     ·simp_all[Instr.fieldAt,Instr.sureAddr,aG,xK]
     omega
    |_=>trivial
  |_=>cases hf
theorem LH{cs:List AV}{x:AV}(hc:sO w γ A bd cs c)
  (hag:wC C.P ty=some ag) (hn:R6 C.P ty=some n) (h:cK ag n cs off=some x):∃v,(part ty c off).run C.P w=.ok v w/\RV w γ A bd x v:=by
 unfold cK at h;cases ag with
 | false =>
  simp only[eI]at h;have hl:off<c.toList.length:=by rw[<-hc.1.1];grind
  have a:off<c.size:=by omega
  refine⟨c[off],?_,hc.1.2 off x _ h (by grind)⟩;simp_all[part,pg]
 | true =>
  simp only[bE,bu,ax,aa]at h
  split at h
  ·rename_i hl;have hl:=aH hl;injection h with h;subst h;have k:cs.length=c.size:=by have:=hc.1.1;omega
   have b:off+n<=c.size\/n=0:=by grind
   refine⟨.agg (c.extract off (off+n)),by simp_all[part,pg,bj],.agg _ _ _ (by grind) (λi y hy=>?_) (λi y v hy hv=>?_)⟩
   ·have hi:i<n:=by grind
    rw[X5 hi,RS]at hy;exact hc.2 _ _ hy
   ·have hi:i<n:=by grind
    rw[X5 hi,RS]at hy;rw[aeZ]at hv
    split at hv
    ·exact hc.1.2 _ _ _ hy (by grind)
    omega
  grind
theorem HO{cs:List AV}(h:RV w γ A bd (.agg cs) v):∃c,v=.agg c/\sO w γ A bd cs c:=by
 cases h with
 |agg _ _ c hl h1 h'=>exact⟨c,rfl,⟨by omega,λi x v hx hv=>h' i x v hx (by grind)⟩,h1⟩
theorem Qa{f fo:Nat}{ft:TypeId}{y:AV}
  (ha:RV w γ A bd y va) (hf:xL C.P ty f=some (fo,ft)) (hag:wC C.P ft=some ag) (hn:R6 C.P ft=some n) :
  Zp C A bd w γ (Instr.field ty va f) (match y with|.agg cs=>RK (cK ag n cs fo)|_=>.fail):=by
 unfold xL at hf;cases hu:C.P.underlying ty with
 |none=>grind
 | some d =>
  rw[hu]at hf;cases d with
  | struct fs =>
   dsimp only at hf;cases hx:fs[f]? with
   |none=>grind
   | some x =>
    rw[hx]at hf;injection hf with hf;injection hf with h1 h2;subst h1;subst h2;cases y with
    | agg cs =>obtain⟨c,rfl,hc⟩:=HO ha;refine rk λz hz=>?_;obtain⟨v,h1,h2⟩:=LH hc hag hn hz;simp_all[Instr.field,asAgg,aG]
    |_=>trivial
  |_=>cases hf
theorem FO{k:IntKind}{n:Int}(h:RV w γ A bd (.int k n) v):v=.int k n:=by cases h;rfl
theorem K_{sz:Nat}(hr:ZB C A bd w γ hg nx)
  (ha:RV w γ A bd (a t) va) (hi:RV w γ A bd (ix t) vi) (hu:C.P.underlying ty=some (.slice e)) (hsz:R6 C.P e=some sz)
  (agree:∀id∈an (a t),hg id=g.h.get id) :
  Zp C A bd w γ (Instr.indexAt ty va vi) (i7 sz a ix t g):=by
 unfold i7;generalize a t=y at *;generalize ix t=z at *;cases ha with
 | Zs _ tag sz' rows b o cap cell ht hc hb hm ha' hrl ho hw h hcl =>
  dsimp only
  split
  ·rename_i k i;rw[aa]
   split
   ·rename_i c;simp only[Zk,YD,ax]at c;obtain⟨h1,h2⟩:=c;have h1:=aH h1;subst h1;have f:=FO hi;subst f;refine⟨_,?_,.ZR _ tag sz rows i 0 b o cell ht hb hm ha' hrl ho hw h hcl⟩;simp[Instr.indexAt,asIntOf,aG hu,h2,bj hsz,ij]
   ·trivial
  ·trivial
 | YF _ tag sz' a' cap ht =>
  dsimp only
  split
  ·rename_i k i;rw[aa]
   split
   ·simp_all[ax]
   ·trivial
  ·trivial
 | ZG _ id ep off len lim b o cap hk he hc h =>
  have d:=agree id (by simp[an]);dsimp only
  split
  ·rename_i k i;simp only[G.get_eq,<-d];cases hid:hg id with
   | cells sz' rows ep' loose fz =>
    dsimp only;rw[aa]
    split
    ·rename_i c;simp only[Zk,YD]at c;obtain⟨⟨h1,h2⟩,l⟩:=c;have h1:=aH h1;have h2:=aH h2;subst h2;have f:=FO hi;subst f;have j:=hr.obj id;rw[hid]at j;obtain⟨n,k2,p,_⟩:=j;obtain⟨c1,m,_⟩:=h (h1.trans k2.symm);refine⟨.pointer (some (Zo b (o+i*sz))),?_,.ZD _ id ep (off+i) 0 b _ hk he λ_=>⟨c1,?_⟩⟩
     ·simp[Instr.indexAt,asIntOf,aG hu,l,bj hsz,ij]
     grind
    ·trivial
   |_=>trivial
  ·trivial
 |_=>trivial
theorem K9{sz:Nat}
  (ha:RV w γ A bd (a t) va) (hi:RV w γ A bd (ix t) vi) (hu:C.P.underlying ty=some (.array n e)) (hsz:R6 C.P e=some sz) :
  Zp C A bd w γ (Instr.indexAt ty va vi) (qm n sz a ix t g):=by
 unfold qm;generalize a t=y at *;generalize ix t=z at *
 split
 ·rename_i k i;rw[aa]
  split
  ·rename_i hlt;rw[YD]at hlt;have c:=FO hi;subst c;have h2:=hlt;cases ha with
   | ZR _ tag sz' rows i0 UI b o cell ht hb hm ha' hrl ho hw h hcl =>refine⟨_,?_,.ZR _ tag sz' rows i0 (UI+i*sz) b o cell ht hb hm ha' hrl ho hw h hcl⟩;simp[Instr.indexAt,asIntOf,aG hu,h2,bj hsz,ij,Instr.sureAddr,Nk]
   | ZD _ id ep j off b o hk he h =>
    refine⟨.pointer (some (Zo b (o+i*sz))),?_,.ZD _ id ep j (off+i*sz) b _ hk he λe=>?_⟩
    ·simp[Instr.indexAt,asIntOf,aG hu,h2,bj hsz,ij,Instr.sureAddr]
    omega
   |_=>trivial
  ·trivial
 ·trivial
theorem Qp{sz:Nat}
  (ha:RV w γ A bd (a t) va) (hi:RV w γ A bd (ix t) vi) (hu:C.P.underlying ty=some (.array n e)) (hag:wC C.P e=some ag) (hsz:R6 C.P e=some sz) :
  Zp C A bd w γ (Instr.index ty va vi) (Al ag n sz a ix t g):=by
 unfold Al;generalize a t=y at *;generalize ix t=z at *;cases y with
 | agg cs =>
  dsimp only
  split
  ·rename_i k i;rw[aa]
   split
   ·rename_i hlt;rw[YD]at hlt;have h:=FO hi;subst h;have h2:=hlt;obtain⟨c,rfl,hc⟩:=HO ha;refine rk λx hx=>?_;obtain⟨v,h1,b⟩:=LH hc hag hsz hx;simp_all[Instr.index,asIntOf,aG,bj]
   ·trivial
  ·trivial
 |_=>trivial
theorem Jt
  (ha:RV w γ A bd (a t) va) (hi:RV w γ A bd (ix t) vi) (hu:C.P.underlying ty=some .string) :
  Zp C A bd w γ (Instr.index ty va vi) (tX a ix t g):=by
 unfold tX;generalize a t=y at *;generalize ix t=z at *;cases ha with
 | str _ s =>
  dsimp only
  split
  ·rename_i k i;simp only[eI];cases hb:s.data.toList[i]? with
   |none=>trivial
   | some b =>
    have h:=FO hi;subst h;refine⟨.int .u8 b.toNat,?_,.int _ _ _⟩;have hlt:i<s.size:=by have:=(tI.1 hb).1;simp_all
    have c:s[i]?=some b:=by rw[getElem?_pos s i hlt];have:=(tI.1 hb).2;rw[Array.getElem_toList]at this;exact congrArg some this
    simp_all[Instr.index,asIntOf,aG]
  ·trivial
 |_=>trivial
end
end
section
variable {rows:List (List AV)}
section
variable {C:ZO}{A:Nat->Nat->Prop}{bd:Nat}{w w':World}{γ γ':Gm}{hg:Nat->ZM}{nx:Nat}
def MM(w:World)(γ:Gm)(A:Nat->Nat->Prop)(bd sz:Nat)(rows:List (List AV))(b o:Nat):Prop :=
 (∀(i:Nat) row,rows[i]?=some row->row.length=sz) /\
 ∀(i j:Nat) row x,rows[i]?=some row->row[j]?=some x->x.one=true/\∃v,w.cell? (Zo b (o+i*sz+j))=some v/\RV w γ A bd x v
theorem Iv{sz k:Nat}(hr:∀(i:Nat) row,rows[i]?=some row->row.length=sz)(hk:k<rows.length*sz) :
  ∃row x,rows[k / sz]?=some row/\row[k % sz]?=some x:=by
 have h0:0<sz:=by grind
 have hi:k / sz<rows.length:=by simp_all[afa]
 have e:=Zq hi;have hl:=hr _ _ e;simp_all[US]
theorem F3{sz o:Nat}(h:MM w γ A bd sz rows b o)(P:Program) :
  ∃c,(loadCells (Zo b o) (rows.length*sz)).run P w=.ok c w/\c.size=rows.length*sz/\ZJ w γ A bd sz rows c:=by
 have e:∀k:Fin (rows.length*sz),∃v,w.cell? (Zo b (o+k.1))=some v/\∀row x,rows[k.1 / sz]?=some row->row[k.1 % sz]?=some x->x.one=true/\RV w γ A bd x v:=by intro k;obtain⟨row,x,h1,h2⟩:=Iv h.1 k.2;obtain⟨a,v,c1,n⟩:=h.2 _ _ row x h1 h2;refine⟨v,?_,λrow' x' h1' h2'=>?_⟩<;>grind[QB]
 let f:Fin (rows.length*sz)->Value:=λk=>Classical.choose (e k)
 have hf:=λk=>Classical.choose_spec (e k);have l:(List.ofFn f).length=rows.length*sz:=by simp
 have d:=zx (P:=P) (w:=w) (b:=b) (o:=o) (cs:=List.ofFn f) (λj c hc=>by grind)
 rw[l]at d;refine⟨_,d,by simp,by simp,h.1,λi j row x h1 h2=>?_⟩;have hi:i<rows.length:=(by grind);have m:j<sz:=by rw[<-h.1 i row h1];grind
 have hk:i*sz+j<rows.length*sz:=by
  have:(i+1)*sz<=rows.length*sz:=abs _ hi
  grind
 have e1:(i*sz+j) / sz=i:=by grind[Um,VW]
 obtain⟨a,b'⟩:=(hf ⟨i*sz+j,hk⟩).2 row x (by rw[e1];exact h1) (by rw[OU m];exact h2)<;>grind
theorem MM.sub{sz o:Nat}(h:MM w γ A bd sz rows b o)(l n:Nat):MM w γ A bd sz ((rows.drop l).take n) b (o+l*sz):=by
 refine⟨λi row hi=>?_,λi j row x hi hj=>?_⟩
 ·have k:i<n:=by
   grind
  rw[X5 k,RS]at hi;exact h.1 _ _ hi
 ·have k:i<n:=by
   grind
  rw[X5 k,RS]at hi;obtain⟨a,v,c1,c⟩:=h.2 _ _ row x hi hj<;>grind
theorem Gc(hr:ZB C A bd w γ hg nx){id sz:Nat}{fz:Bool}(hid:hg id=.cells sz rows ep loose fz) :
  MM w γ A bd sz rows (γ id).blk (γ id).base:=by
 have h:=hr.obj id;rw[hid]at h;obtain⟨b,k2,d,f,l,m,c,e,n,o,a,k⟩:=h;exact⟨a,λi j row x h1 h2=>yN hr hid h1 j x h2⟩
theorem Nv(hr:ZB C A bd w γ hg nx){sz:Nat}{x:AV}{h:H}(hx:RV w γ A bd x v)
  (hrow:ak h sz x=some rows) (agree:∀id∈an x,hg id=h.get id) :
  ∃b o cap,(v=.slice none 0 0/\rows=[]\/v=.slice (some (Zo b o)) rows.length cap\/(∃a,v=.slice (some a) 0 cap)/\rows=[])/\MM w γ A bd sz rows b o:=by
 unfold ak at hrow;cases hx with
 |Z6=>injection hrow with hrow;subst hrow;exact⟨0,0,0,.inl ⟨rfl,rfl⟩,(by grind),(by grind)⟩
 |TT _ a=>injection hrow with hrow;subst hrow;exact⟨0,0,0,(by grind),(by grind),(by grind)⟩
 | YF _ tag sz' a cap ht =>
  simp only[aa]at hrow
  split at hrow
  ·injection hrow with hrow;subst hrow;exact⟨0,0,cap,(by grind),(by grind),(by grind)⟩
  grind
 | Zs _ tag sz' rows' b o cap cell ht hc hb hm ha hrl ho hw h =>
  simp only[aa]at hrow
  split at hrow
  ·rename_i hcond;injection hrow with hrow;subst hrow;refine⟨b,o,cap,.inr (.inl rfl),?_⟩;simp only[T6]at hcond;rcases hcond with hcond|hcond
   ·have:=aH hcond;subst this;exact⟨hrl,λi j row x h1 h2=>⟨ho i j row x h1 h2,_,hw i j row x h1 h2,(h i j row x h1 h2).mono ht⟩⟩
   ·have:rows'=[]:=by grind
    subst this;exact⟨λi row h=>by simp at h,λi j row x h=>by simp at h⟩
  grind
 | ZG _ id ep off len lim b o cap hk he hc h =>
  have k:=agree id (by simp[an]);dsimp only at hrow;rw[<-k]at hrow;cases hid:hg id with
  | cells sz' rows' ep' loose fz =>
   rw[hid]at hrow;simp only[aa,ax,bE,bu]at hrow
   split at hrow
   ·rename_i hcond;simp only[Zk,R1]at hcond;obtain⟨⟨h1,h2⟩,f⟩:=hcond;have h1:=aH h1;have h2:=aH h2;subst h2;injection hrow with hrow;subst hrow;have c:=hr.obj id;rw[hid]at c;obtain⟨l,k2,e,_⟩:=c;obtain⟨c1,d,_⟩:=h (h1.trans k2.symm);refine⟨b,o,cap,.inr (.inl ?_),?_⟩
    ·grind
    ·rw[c1,d,e];exact (Gc hr hid).sub off len
   grind
  |_=>grind
 |_=>cases hrow
theorem ZJ.append{sz:Nat}{r1 r2:List (List AV)}{c1 c2:Array Value}(h1:ZJ w γ A bd sz r1 c1)(e1:c1.size=r1.length*sz)(h2:ZJ w γ A bd sz r2 c2) :
  ZJ w γ A bd sz (r1++r2) (c1++c2):=by
 refine⟨by have:=h2.1;grind[UF],λi row hi=>?_,λi j row x hi hj=>?_⟩
 ·rw[ac_]at hi
  split at hi
  ·exact h1.2.1 _ _ hi
  ·exact h2.2.1 _ _ hi
 ·rw[ac_]at hi
  split at hi
  ·rename_i hlt;obtain⟨a,v,b1,b2⟩:=h1.2.2 i j row x hi hj<;>grind
  ·rename_i h;obtain⟨a,v,b1,b2⟩:=h2.2.2 _ j row x hi hj;have:i*sz=r1.length*sz+(i - r1.length)*sz:=by rw[<-UF];grind
   grind
theorem ZJ.more{sz:Nat}{r1:List (List AV)}{c1 c2:Array Value}(h1:ZJ w γ A bd sz r1 c1):ZJ w γ A bd sz r1 (c1++c2):=by refine⟨by have:=h1.1;grind,h1.2.1,λi j row x hi hj=>?_⟩;obtain⟨a,v,b1,b2⟩:=h1.2.2 i j row x hi hj<;>grind
theorem ZJ.step{sz:Nat}{r1:List (List AV)}{c1:Array Value}(h1:ZJ w γ A bd sz r1 c1)(s:Stp w γ w' γ'):ZJ w' γ' A bd sz r1 c1 :=⟨h1.1,h1.2.1,λi j row x hi hj=>let ⟨a,v,b1,b2⟩:=h1.2.2 i j row x hi hj;⟨a,v,b1,b2.step s⟩⟩
theorem ZJ.flat{sz:Nat}(h:ZJ w γ A bd sz rows c)(e:c.size=rows.length*sz) :
  S9 w γ A bd rows.flatten c.toList/\(∀(i:Nat) y,rows.flatten[i]?=some y->y.one=true) /\
  (∀(i j:Nat) row,rows[i]?=some row->j<sz->rows.flatten[i*sz+j]?=row[j]?):=by
 have l:rows.flatten.length=rows.length*sz:=by
  have h2:=h.2.1;clear e h
  induction rows with
  |nil=>simp
  | cons r rs ih =>have h0:=h2 0 r rfl;simp only[ad_,J6,V8,UF,VT];rw[ih (λi row hi=>h2 (i+1) row (by grind)),h0];omega
 have d:∀(i j:Nat) row,rows[i]?=some row->j<sz->rows.flatten[i*sz+j]?=row[j]?:=by
  have h2:=h.2.1;clear e l h
  induction rows with
  |nil=>grind
  | cons r rs ih =>
   intro i j row hi n;have h0:=h2 0 r rfl;cases i with
   |zero=>grind
   | succ i =>simp only[ad_];rw[UF,VT,Sl (by omega),h0,show i*sz+sz+j - sz=i*sz+j from by omega];exact ih (λi row hi=>h2 (i+1) row (by grind)) i j row (by grind) n
 have b:∀(k:Nat) y,rows.flatten[k]?=some y->∃row,rows[k / sz]?=some row/\row[k % sz]?=some y/\k / sz*sz+k % sz=k:=by
  intro k y f;have hk:k<rows.length*sz:=by grind
  obtain⟨row,x,h1,h2⟩:=Iv h.2.1 hk;have h0:0<sz:=by grind
  have ek:k / sz*sz+k % sz=k:=by grind[QB]
  have:=d _ _ row h1 (US k h0)
  grind
 refine⟨⟨by grind,λk y v f hv=>?_⟩,λk y f=>?_,d⟩
 ·obtain⟨row,h1,h2,m⟩:=b k y f;obtain⟨a,u,b1,b2⟩:=h.2.2 _ _ row y h1 h2<;>grind
 ·obtain⟨row,h1,h2,m⟩:=b k y f;exact (h.2.2 _ _ row y h1 h2).1
end
end
section
variable {rows:List (List AV)}
section
variable {C:ZO}{A:Nat->Nat->Prop}{bd:Nat}{w w':World}{γ γ':Gm}{hg:Nat->ZM}{nx:Nat}
def World.drewn(w:World):World:={ w with drawn:=w.drawn+1 }
theorem CL:Stp w γ (World.drewn w) γ :=⟨ZV _,rfl,rfl,rfl,λ_ _ _=>rfl,λ_ _ h=>h,(by grind),(by grind),XM _⟩
theorem ZB.stpSame(h:ZB C A bd w γ hg nx)(s:Stp w γ w' γ)(hh:w'.heap=w.heap):ZB C A bd w' γ hg nx where
 obj id:=(h.obj id).step s rfl (by grind)
 lt id hk:=by rw[hh];exact h.lt id hk
 inj:=h.inj
 av:=h.av
 ab t b hb:=by rw[hh];exact h.ab t b hb
 Q6 g sz rows hg:=(h.Q6 g sz rows hg).step s
theorem DU(need cap:Nat)(h:cap<need):Builtin.nextslicecap need cap<=2*need+192:=by grind[Builtin.growBy,Builtin.nextslicecap]
theorem Tq:∀{vs:List Value} {as:List AV},Ge vs=some as->vs.length=as.length:=by
 intro vs
 induction vs<;>grind[Ge]
structure Src (C:ZO) (A:Nat->Nat->Prop) (bd sz:Nat) (w:World) (γ:Gm) (new:List (List AV)) (m:Sem (Array Value)):Prop where
 run:∀w1:World,w1.heap=w.heap->∃c,m.run C.P w1=.ok c w1/\c.size=new.length*sz/\ZJ w γ A bd sz new c
def jW(e:TypeId)(sz bytes:Nat)(base:Option Addr)(sLen sCap n:Nat)(jT:Bool)(s x:Value)(appended:Sem (Array Value)):Sem Value:=do
 let need:=sLen+n
 if need<=sCap then
  let new <-appended
  if let some a:=base then storeCells (a.add (sLen*sz)) new.toList
  pure (.slice base need sCap)
 else
  if (need : Int) > IntKind.i64.max ∧ (jT ∨ (← typeInfo e).bytes = 0) then runtimePanic (.error "growslice: len out of range")
  if Builtin.nextslicecap need sCap * (← typeInfo e).bytes > 2 ^ 48 then (if jT then runtimePanic (.error "growslice: len out of range") else do
   if !(<-Builtin.mayShare sz sLen n base x) then mark .noRoom
   unsupported (.resourceLimit "append: a slice or a string whose bytes no memory bears"))
  let newCap <-choose (.appendCap need sCap e)
  askRoom (newCap*(<-typeInfo e).bytes)
  let old <-Builtin.firstCells sz sLen s
  let new <-appended
  let rest:=Builtin.zeroCells (<-zeroValue e).cells (newCap - need)
  pure (.slice (some (<-newRow e (old++new++rest))) need newCap)
theorem uj{sz:Nat}{base:Option Addr}{sLen sCap:Nat}{zs:Bool}{s x:Value}{appended:Sem (Array Value)}{zero:List AV}
  (hby:lR C.P e=some bytes) (hz:ii C.P e=some zero) (hzl:zero.length=sz) (h0:0<bytes) (hroom:(sLen+n)*bytes<=aQ) (hn:¬sLen+n<=sCap)
  {oldc newc:Array Value} (hold:(Builtin.firstCells sz sLen s).run C.P (World.drewn w)=.ok oldc (World.drewn w))
  (hnew:appended.run C.P (World.drewn w)=.ok newc (World.drewn w)) :
  ∃newCap rest,(sLen+n<=newCap/\newCap<=9223372036854775807)/\rest.size=(newCap - (sLen+n))*sz /\
   (jW e sz bytes base sLen sCap n zs s x appended).run C.P w =
    .ok (.slice (some (Zo w.heap.size 0)) (sLen+n) newCap) (World.add (World.drewn w) (.cells (oldc++newc++rest) e (0,0))):=by
 have hi:∃i,C.P.info? e=some i/\i.bytes=bytes:=by simp_all[lR]
 obtain⟨i,f,l⟩:=hi;obtain⟨z,r,t⟩:=qw (w:=World.drewn w) hz;have p:z.cells.size=sz:=by have:=Tq t;grind
 unfold aQ at hroom;have o:sLen+n<=(sLen+n)*bytes:=Nat.le_mul_of_pos_right _ h0;have d:=DU (sLen+n) sCap (by omega);have m:Builtin.nextslicecap (sLen+n) sCap*bytes<=2 ^ 48:=by
  have h1:Builtin.nextslicecap (sLen+n) sCap*bytes<=(2*(sLen+n)+192)*bytes:=abs _ d;have h2:bytes<=(sLen+n)*bytes:=Nat.le_mul_of_pos_left _ (by omega)
  grind
 let q:Question:=.appendCap (sLen+n) sCap e
 let newCap:=q.cut (w.tape w.drawn q)
 have k:sLen+n<=newCap/\newCap<=9223372036854775807:=by have j:w.tape w.drawn q % (2 ^ 63 - (sLen+n))<2 ^ 63 - (sLen+n):=US _ (by omega);have:newCap=(sLen+n)+w.tape w.drawn q % (2 ^ 63 - (sLen+n)):=rfl;omega
 refine⟨newCap,Builtin.zeroCells z.cells (newCap - (sLen+n)),k,by grind[Builtin.zeroCells],?_⟩;unfold jW;have a:¬(((sLen+n:Nat):Int) > IntKind.i64.max):=by
  have:IntKind.i64.max=9223372036854775807:=by decide
  omega
 have b:(choose (.appendCap (sLen+n) sCap e)).run C.P w=.ok newCap (World.drewn w):=by rw[run_choose];rfl
 have c:¬(Builtin.nextslicecap (sLen+n) sCap*bytes > 2 ^ 48):=by omega
 dsimp only;rw[ZF hn];simp only[Qk,nu f,abi,l];rw[ZF (λh=>a h.1)];simp only[abi,Qk,nu f,l];rw[ZF c];simp only[Qk,MV,abi,b,nu f,run_askRoom,hold,hnew,r,jx]
 rfl
theorem wD{sz:Nat}{base:Option Addr}{sLen sCap:Nat}{zs:Bool}{s x:Value}{appended:Sem (Array Value)}
  (hn:sLen+n<=sCap) {newc:Array Value} (hnew:appended.run C.P w=.ok newc w) :
  (jW e sz bytes base sLen sCap n zs s x appended).run C.P w =
   match base with
   |none=>.ok (.slice none (sLen+n) sCap) w
   |some a=>((storeCells (a.add (sLen*sz)) newc.toList).run C.P w).andThen λ_ w'=>.ok (.slice (some a) (sLen+n) sCap) w':=by
 unfold jW;dsimp only;rw[ZN hn];simp only[Qk,hnew,abi];cases base<;>simp_all
theorem xW(hr:ZB C A bd w γ hg nx){id sz:Nat}{lim:Option Nat}{fz:Bool}
  (hv:RV w γ A bd (.ZG id ep off len lim) v) (hid:hg id=.cells sz rows ep loose fz) :
  ∃cap,v=.slice (some (Zo (γ id).blk ((γ id).base+off*sz))) len cap/\len<=cap/\jU lim off cap (γ id):=by
 cases hv with
 | ZG _ _ _ _ _ _ b o cap hk he hc h =>have k:=hr.obj id;rw[hid]at k;obtain⟨a,k2,c,_⟩:=k<;>grind
theorem xN{P:Program}{o cap sz:Nat}(h:MM w γ A bd sz rows b o)(hl:rows.length=len) :
  ∃c,(Builtin.firstCells sz len (.slice (some (Zo b o)) len cap)).run P w=.ok c w/\c.size=rows.length*sz/\ZJ w γ A bd sz rows c:=by
 obtain⟨c,h1,h2,k⟩:=F3 h P
 grind[Builtin.firstCells]
theorem MM.same{sz o:Nat}(h:MM w γ A bd sz rows b o)(s:Stp w γ w' γ)(hh:w'.heap=w.heap):MM w' γ A bd sz rows b o :=⟨h.1,λi j row x h1 h2=>let ⟨a,v,c,d⟩:=h.2 i j row x h1 h2;⟨a,v,by grind[D7],d.step s⟩⟩
theorem ZJ.back{sz:Nat}(h:ZJ (World.drewn w) γ A bd sz rows c):ZJ w γ A bd sz rows c:=by obtain⟨h1,h2,k⟩:=h;exact⟨h1,h2,λi j row x a b=>let ⟨c,v,d,e⟩:=k i j row x a b;⟨c,v,d,e.heap rfl⟩⟩
theorem Cv{sz:Nat}{cs:Array Value}(hr:ZB C A bd w γ hg nx){g:G}(hf:(γ g.nx).kind=0)
  (h:ZJ w γ A bd sz rows cs) (len cap:Nat) (hc:cap*sz<=cs.size) (hcap:rows.length<=cap) (hlen:len=rows.length) (hmax:cap<=9223372036854775807) :
  ∃γ',ZB C A bd (World.add (World.drewn w) (.cells cs e (0,0))) γ' (upd hg g.nx (.cells sz rows 0 true false)) (Nat.max nx (g.nx+1)) /\
   Stp w γ (World.add (World.drewn w) (.cells cs e (0,0))) γ' /\
   RV (World.add (World.drewn w) (.cells cs e (0,0))) γ' A bd (.ZG g.nx 0 0 len none) (.slice (some (Zo w.heap.size 0)) len cap):=by
 have a:Stp w γ (World.drewn w) γ:=CL;have k:=hr.stpSame a rfl;obtain⟨γ',b,c,d⟩:=uV (w:=World.drewn w) e k hf (h.step a) len cap true (cap - rows.length) (by grind)
  (by grind) (by omega) (by omega)
 exact⟨γ',b,a.trans c,d⟩
theorem ZB.moved(hr:ZB C A bd w γ hg nx){id:Nat}{sz:Nat}{rows':List (List AV)}(hid:hg id=.cells sz rows ep loose false)
  {w1:World} {gh:Gh} (h1:gh.kind=1) (h2:gh.ep=ep+1) (h3:gh.sz=sz) (h4:gh.n=rows'.length) (h5:gh.wr=true)
  (hos:w1.os=w.os/\w1.tape=w.tape/\w1.output=w.output/\w.heap.size<=w1.heap.size) (hdr:w.drawn<=w1.drawn)
  (hmax:rows'.length+gh.Zr<=9223372036854775807) (hb:gh.blk=(γ id).blk\/(gh.blk=w.heap.size/\w.heap.size<w1.heap.size))
  (hheap:∀b,b<w.heap.size->b≠(γ id).blk->w1.heap[b]?=w.heap[b]?)
    (hc:w1.heap[gh.blk]?=some (.cells c e (0,0))) (hsz:gh.base+(rows'.length+gh.Zr)*sz<=c.size)
  (hrl:∀(i:Nat) row,rows'[i]?=some row->row.length=sz)
  (hcell:∀(i j:Nat) row x,rows'[i]?=some row->row[j]?=some x->x.one=true/\∃v,c[gh.base+i*sz+j]?=some v/\RV w γ A bd x v) :
  ZB C A bd w1 (upd γ id gh) (upd hg id (.cells sz rows' (ep+1) true false)) nx/\Stp w γ w1 (upd γ id gh):=by
 have h:=hr.obj id;rw[hid]at h;obtain⟨f,k2,l,m,o,p,_⟩:=h;have hk:(γ id).kind≠0:=by omega
 have hw:(γ id).wr=true:=by grind
 have hlt:=hr.lt id hk;have s:Stp w γ w1 (upd γ id gh):=by
  refine⟨hos.2.2.2,hos.1,hos.2.1,hos.2.2.1,λb hb' hm=>hheap b hb' (λe=>hm ⟨id,hk,hw,e.symm⟩),λb hb'=>?_,λj hj=>?_,λj hj=>?_,hdr⟩
  ·rintro⟨j,a,d,k⟩
   by_cases hj:j=id
   ·subst hj;simp only[upd_same]at k;rcases hb with hb|hb
    ·exact⟨j,hk,hw,by omega⟩
    ·omega
   ·rw[dz _ _ hj]at a d k;exact⟨j,a,d,k⟩
  ·by_cases hji:j=id
   all_goals simp_all[dz]
  ·by_cases hji:j=id
   all_goals simp_all[dz]
 refine⟨hr.set rfl s (ZV _) ?_ ⟨hlt.1,?_⟩ (λj hj hkj e=>?_) ?_ (λj hj hkj _=>?_),s⟩
 ·grind[upd_same,RV.step,XK]
 ·omega
 ·rcases hb with hb|hb
  ·exact hj (hr.inj j id hkj hk (by omega))
  ·have:=(hr.lt j hkj).2;omega
 ·rcases hb with hb|hb
  ·rw[hb];exact hr.av id hk
  ·exact λt ht=>by have:=hr.ab t _ ht;omega
 ·exact hheap _ (hr.lt j hkj).2 (λe=>hj (hr.inj j id hkj hk e))
end
end
section
variable {rows:List (List AV)}
section
variable {C:ZO}{A:Nat->Nat->Prop}{bd:Nat}{w w':World}{γ γ':Gm}{hg:Nat->ZM}{nx:Nat}
theorem lB{P:Program}(a:Addr):(storeCells a []).run P w=.ok () w:=rfl
theorem LO{new:List (List AV)}(h:off+new.length<=rows.length) :
  (oV rows off new).length=rows.length/\∀i,(oV rows off new)[i]?=if off<=i/\i<off+new.length then new[i - off]? else rows[i]?:=by
 unfold oV;simp only[jh,bE,bu,ax]
 split<;>grind
theorem ZB.storeRows(hr:ZB C A bd w γ hg nx){id sz:Nat}{new:List (List AV)}(hid:hg id=.cells sz rows ep loose false)
   (hc:ZJ w γ A bd sz new c) (hcs:c.size=new.length*sz) (hle:off+new.length<=rows.length) (P:Program) :
  ∃w',(Go.storeCells (Zo (γ id).blk ((γ id).base+off*sz)) c.toList).run P w=.ok () w' /\
   ZB C A bd w' γ (upd hg id (.cells sz (oV rows off new) ep loose false)) nx/\Stp w γ w' γ:=by
 obtain⟨p1,p2⟩:=LO hle;have a:=hr.obj id;rw[hid]at a;obtain⟨m,k2,n,p,q,r,cc,e,s,t,u,f⟩:=a;obtain⟨f1,f2,d⟩:=hc.flat hcs;have hcl:c.toList.length=new.length*sz:=by omega
 have k:(off+new.length)*sz<=rows.length*sz:=abs _ hle;rw[UF]at k;refine hr.storeCells hid (o:=(γ id).base+off*sz) (xs:=new.flatten) f1 f2 p1 (λi row hi=>?_) (by grind) (λi j row x hi hj=>?_) P
 ·rw[p2]at hi
  split at hi
  ·exact hc.2.1 _ _ hi
  grind
 ·rw[p2]at hi;rw[hcl];have b:j<sz:=by
   have hl:row.length=sz:=by
    split at hi
    ·exact hc.2.1 _ _ hi
    grind
   grind
  by_cases hcond:off<=i/\i<off+new.length
  ·rw[ZN hcond]at hi;have h1:off*sz<=i*sz:=abs _ hcond.1;have h2:(i+1)*sz<=(off+new.length)*sz:=abs _ hcond.2;rw[UF,VT,UF]at h2;rw[i6];have l:(i - off)*sz+off*sz=i*sz:=by rw[<-UF];grind
   rw[show (γ id).base+i*sz+j - ((γ id).base+off*sz)=(i - off)*sz+j from by omega,d _ _ row hi b];exact hj
  ·rw[ZF hcond]at hi;rw[ZF]
   ·grind
   ·rintro⟨l1,l2⟩;apply hcond;refine⟨?_,?_⟩
    ·rcases TU i off with h|h
     ·have:(i+1)*sz<=off*sz:=abs _ h
      grind
     omega
    ·rcases TU i (off+new.length) with h|h
     ·exact h
     ·have:(off+new.length)*sz<=i*sz:=abs _ h
      grind
theorem Ui(h:off+len<=rows.length):((rows.drop off).take len).length=len:=by grind
noncomputable def EB(sz bytes:Nat)(s0:AV)(new:List (List AV))(g:G):OR :=
 match new with
 |[]=>.val s0
 |_=>ap (Nat.ble (bi new*bytes) aQ) (.upd (.ZG g.nx 0 0 (bi new) none) (g.new (.cells sz new 0 true false))) .fail
theorem wE{sz:Nat}{zero:List AV}{s:AV}{x:Value}{new:List (List AV)}{zs:Bool}{appended:Sem (Array Value)}{g:G}
  (hr:ZB C A bd w γ hg nx) (hf:(γ g.nx).kind=0) (hs:RV w γ A bd s v) (hby:lR C.P e=some bytes) (hz:ii C.P e=some zero) (hzl:zero.length=sz)
  (hb0:0<bytes) (happ:∀w1:World,w1=w\/w1=World.drewn w->∃c,appended.run C.P w1=.ok c w1/\c.size=new.length*sz/\ZJ w γ A bd sz new c)
  (agree:∀id∈an s,hg id=g.h.get id) :
  bK sz bytes s new g=.fail\/∃base sLen sCap,v=.slice base sLen sCap /\
   dY C A bd w γ hg nx (jW e sz bytes base sLen sCap new.length zs v x appended) g (bK sz bytes s new g):=by
 have T:∀(base:Option Addr) (cap:Nat),new=[]->∀len,len<=cap->(jW e sz bytes base len cap new.length zs (.slice base len cap) x appended).run C.P w=.ok (.slice base len cap) w:=by
  intro base cap hn len hl;obtain⟨c,c1,D,_⟩:=happ w (.inl rfl);have F:c=#[]:=by grind
  rw[wD (by grind) c1,hn,F];cases base<;>simp[lB]
 have m:∀(base:Option Addr) (X:AV),RV w γ A bd X (.slice base 0 0)->(Builtin.firstCells sz 0 (.slice base 0 0)).run C.P (World.drewn w)=.ok #[] (World.drewn w) ->
   EB sz bytes X new g=.fail \/
   dY C A bd w γ hg nx (jW e sz bytes base 0 0 new.length zs (.slice base 0 0) x appended) g (EB sz bytes X new g):=by
  intro base X hd V;rcases hnew:new with _|⟨r,rs⟩
  ·exact .inr ⟨.slice base 0 0,hnew ▸ T base 0 hnew 0 (ZV _),hd⟩
  ·rw[<-hnew];have h9:EB sz bytes X new g=ap (Nat.ble (bi new*bytes) aQ) (OR.upd (.ZG g.nx 0 0 (bi new) none) (g.new (.cells sz new 0 true false))) OR.fail:=by rw[hnew];rfl
   rw[h9];simp only[ax,aa]
   split
   ·rename_i z;rw[R1]at z;refine .inr ?_;obtain⟨c,c1,D,q⟩:=happ (World.drewn w) (.inr rfl);have hq:0<new.length:=by grind
    obtain⟨newCap,rest,n1,n2,n3⟩:=uj (zs:=zs) (x:=x) (w:=w) hby hz hzl hb0 (sLen:=0) (n:=new.length) (sCap:=0) (by simpa using z) (by omega) V c1;have l:newCap*sz<=(#[]++c++rest).size:=by simp only[aeK,n2,D,List.size_toArray,QO];rw[Ku,<-UF];apply abs;omega
    obtain⟨γ',L,M,s3⟩:=Cv (e:=e) (cs:=#[]++c++rest) hr hf (by simpa using q.more) new.length newCap l (by omega) rfl n1.2;rw[Ku]at n3;exact⟨_,_,γ',g.nx,_,n3,s3,M,.inr ⟨rfl,rfl,L⟩⟩
   grind
 unfold bK;cases hs with
 |Z6=>exact (m none .Z6 (.Z6 _) (by simp[Builtin.firstCells])).imp id λh=>⟨none,0,0,rfl,h⟩
 |TT _ a=>exact (m (some a) .TT (.TT _ a) (by simp[Builtin.firstCells,loadCells,loadCellsFrom])).imp id λh=>⟨some a,0,0,rfl,h⟩
 | Zs _ tag sz' rows b o cap cell ht hc hb hm ha hrl ho hw h hcl =>
  cases hnew:new with
  | nil =>refine .inr ⟨some (Zo b o),rows.length,cap,rfl,.slice (some (Zo b o)) rows.length cap,(by grind),.Zs _ tag sz' rows b o cap cell ht hc hb hm ha hrl ho hw h hcl⟩
  |cons r rs=>grind
 | YF _ tag sz' a cap ht =>
  cases hnew:new with
  |nil=>exact .inr ⟨some a,0,cap,rfl,.slice (some a) 0 cap,(by grind),.YF _ tag sz' a cap ht⟩
  |cons r rs=>grind
 | ZG _ id ep off len lim b0 o0 cap0 hk he F h0 =>
  have E:=agree id (by simp[an]);simp only[G.get_eq,<-E];cases hid:hg id with
  | cells sz' rows ep' loose fz =>
   dsimp only;simp only[ax,aa]
   split
   ·rename_i t;simp only[Zk,R1]at t;obtain⟨⟨⟨h1,h2⟩,h3⟩,h4⟩:=t;have h1:=aH h1;have h2:=aH h2;subst h1;subst h2;obtain⟨cap,hv,hu,O⟩:=xW hr (RV.ZG bd id ep off len lim b0 o0 cap0 hk he F h0) hid;rw[hv];have U:=hr.obj id;rw[hid]at U;obtain⟨k1,k2,k3,k4,k5,k6,cc,ee,k7,k8,k9,hh⟩:=U
    split
    ·rename_i p;rw[R1]at p;have f:len+new.length<=cap:=by
      unfold jU at O
      grind
     cases hnew:new with
     | nil =>refine .inr ⟨some (Zo (γ id).blk ((γ id).base+off*sz)),len,cap,rfl,.slice (some (Zo (γ id).blk ((γ id).base+off*sz))) len cap,(by grind),?_⟩;rw[<-hv];exact RV.ZG bd id ep off len lim b0 o0 cap0 hk he F h0
     | cons r rs =>
      dsimp only;rw[<-hnew]
      split
      ·rename_i N;simp only[Zk,R1,rq,Qw]at N;obtain⟨h5,h6⟩:=N;subst h6;refine .inr ⟨_,_,_,rfl,?_⟩;obtain⟨c,c1,D,q⟩:=happ w (.inl rfl);obtain⟨w',r1,r2,r3⟩:=hr.storeRows hid (off:=off+len) q D (by omega) C.P;refine⟨.slice (some (Zo (γ id).blk ((γ id).base+off*sz))) (len+new.length) cap,w',γ,id,_,?_,?_,r3,.inl ⟨rfl,r2⟩⟩
       ·rw[wD f c1];dsimp only;rw[ij,show (γ id).base+off*sz+len*sz=(γ id).base+(off+len)*sz from by grind,r1]
        rfl
       ·exact .ZG _ id ep off _ lim _ _ cap k1 (by omega) f (by grind)
      grind
    ·rename_i H;rw[R1]at H;have u:=(Gc hr hid).sub off len;have k:=Ui (rows:=rows) (off:=off) (len:=len) h3;have J:Stp w γ (World.drewn w) γ:=CL
     split
     ·rename_i B;refine .inr ⟨_,_,_,rfl,?_⟩;have Z:¬len+new.length<=cap:=by
       unfold jU at O;cases lim with
       | none =>simp at B;grind
       |some c=>grind
      obtain⟨c,c1,D,q⟩:=happ (World.drewn w) (.inr rfl);obtain⟨oc,o1,o2,o3⟩:=xN (P:=C.P) (cap:=cap) (u.same J rfl) k;rw[k]at o2;obtain⟨newCap,rest,n1,n2,n3⟩:=uj (zs:=zs) (x:=x) (w:=w) hby hz hzl hb0 (sLen:=len) (n:=new.length) (sCap:=cap) (base:=some (Zo (γ id).blk ((γ id).base+off*sz))) (by omega) Z o1 c1;have l:newCap*sz<=(oc++c++rest).size:=by simp only[aeK,n2,D,o2];rw[<-UF,<-UF];grind
      have d:ZJ w γ A bd sz ((rows.drop off).take len++new) (oc++c++rest):=(o3.back.append (by grind) q).more;obtain⟨γ',L,M,s3⟩:=Cv (e:=e) (cs:=oc++c++rest) hr hf d (len+new.length) newCap l (by grind) (by grind) n1.2;refine⟨_,_,γ',g.nx,_,n3,s3,M,.inr ⟨?_,rfl,L⟩⟩
      grind[bE,bu]
     ·rename_i Y
      split
      ·grind
      ·rename_i Q;have Q:fz=false:=by grind
       subst Q;have hl:lim=none/\loose=true:=by simp_all
       obtain⟨h8,hl2⟩:=hl;subst h8;subst hl2;have hp:off+cap=rows.length+(γ id).Zr:=by grind[jU]
       refine .inr ⟨_,_,_,rfl,?_⟩
       by_cases p:len+new.length<=cap
       ·
        obtain⟨c,c1,D,q⟩:=happ w (.inl rfl);have I:(γ id).base+off*sz+len*sz+c.toList.length<=cc.size:=by
         have:(off+(len+new.length))*sz<=(rows.length+(γ id).Zr)*sz:=abs _ (by omega)
         grind
        obtain⟨f1,f2,f3⟩:=q.flat D;have W:=yv (P:=C.P) c.toList 0 w cc k7 (o:=(γ id).base+off*sz+len*sz) (by omega) (Pg f1 f2);simp only[Yt]at W
        let gh:Gh:=⟨1,ep+1,sz,len+new.length,(γ id).blk,(γ id).base+off*sz,cap - (len+new.length),true⟩
        obtain⟨L,M⟩:=hr.moved hid (w1:=World.setBlk w (γ id).blk (.cells (bF cc ((γ id).base+off*sz+len*sz) c.toList) ee (0,0))) (gh:=gh)
         (rows':=(rows.drop off).take len++new) rfl rfl rfl (by grind) rfl ⟨rfl,rfl,rfl,by simp⟩ (ZV _) (by grind) (.inl rfl)
         (λb _ hb=>by rw[bo,ZF];omega)
         (c:=bF cc ((γ id).base+off*sz+len*sz) c.toList) (e:=ee)
         (by grind[bo])
         (by
          simp only[gh,cB,J6,k]
          grind[UF])
         (λi row hi=>by
          rw[ac_]at hi
          split at hi
          ·grind
          ·exact q.2.1 _ _ hi)
         (λi j row y hi hj=>by
          rw[ac_,k]at hi
          split at hi
          ·rename_i K;have R:=hi;rw[X5 K,RS]at R;have h7:j<sz:=by grind
           obtain⟨a,v,b1,b2⟩:=hh _ j row y R hj;refine⟨a,v,?_,b2⟩;rw[cX _ _ _ _ I,ZF]
           ·grind
           ·simp only[gh];have:(i+1)*sz<=len*sz:=abs _ K
            grind
          ·rename_i K;have h7:j<sz:=by rw[<-q.2.1 _ _ hi];grind
           have hlt:i - len<new.length:=(by grind);obtain⟨a,v,b1,b2⟩:=q.2.2 _ j row y hi hj;refine⟨a,v,?_,b2⟩;have e1:i*sz=len*sz+(i - len)*sz:=by rw[<-UF];grind
           have e2:(i - len+1)*sz<=new.length*sz:=abs _ hlt;rw[UF,VT]at e2;rw[cX _ _ _ _ I];simp only[gh];rw[ZN (by grind),show (γ id).base+off*sz+i*sz+j - ((γ id).base+off*sz+len*sz)=(i - len)*sz+j from by omega]
           grind)
        refine⟨.slice (some (Zo (γ id).blk ((γ id).base+off*sz))) (len+new.length) cap,_,_,id,_,?_,?_,M,.inl ⟨?_,L⟩⟩
        ·simp_all[wD,ij]
        ·refine .ZG _ id (ep+1) 0 _ none _ _ cap (by simp[gh]) (by simp[gh]) p (λ_=>⟨by simp[gh],by simp[gh],?_⟩)<;>grind[upd_same,jU]
        grind[bE,bu]
       ·
        obtain⟨c,c1,D,q⟩:=happ (World.drewn w) (.inr rfl);obtain⟨oc,o1,o2,o3⟩:=xN (P:=C.P) (cap:=cap) (u.same J rfl) k;rw[k]at o2;obtain⟨newCap,rest,n1,n2,n3⟩:=uj (zs:=zs) (x:=x) (w:=w) hby hz hzl hb0 (sLen:=len) (n:=new.length) (sCap:=cap) (base:=some (Zo (γ id).blk ((γ id).base+off*sz))) (by omega) p o1 c1;have l:newCap*sz<=(oc++c++rest).size:=by simp only[aeK,n2,D,o2];rw[<-UF,<-UF];grind
        have d:ZJ w γ A bd sz ((rows.drop off).take len++new) (oc++c++rest):=(o3.back.append (by grind) q).more
        let gh:Gh:=⟨1,ep+1,sz,len+new.length,w.heap.size,0,newCap - (len+new.length),true⟩
        obtain⟨L,M⟩:=hr.moved hid (w1:=World.add (World.drewn w) (.cells (oc++c++rest) e (0,0))) (gh:=gh)
         (rows':=(rows.drop off).take len++new) rfl rfl rfl (by grind) rfl ⟨rfl,rfl,rfl,by simp[World.drewn]⟩ (XM _) (by grind) (.inr ⟨rfl,by simp[World.drewn]⟩)
         (λb hb _=>by rw[mS,ZF (by grind[World.drewn])];rfl)
         (c:=oc++c++rest) (e:=e) (by grind[mS,World.drewn])
         (by grind)
         d.2.1 (λi j row y hi hj=>by simpa [gh] using d.2.2 i j row y hi hj)
        refine⟨_,_,_,id,_,n3,?_,M,.inl ⟨?_,L⟩⟩
        ·refine .ZG _ id (ep+1) 0 _ none _ _ newCap (by simp[gh]) (by simp[gh]) n1.1 (λ_=>⟨by simp[gh],by simp[gh],?_⟩)<;>grind[upd_same,jU]
        grind[bE,bu]
   grind
  |_=>grind
 |_=>exact .inl rfl
end
end
section
variable {x:AV}{g:G}
section
variable {C:ZO}{A:Nat->Nat->Prop}{bd:Nat}{w w':World}{γ γ':Gm}{hg:Nat->ZM}{nx:Nat}
theorem Uh(hr:ZB C A bd w γ hg nx){sz:Nat}{h:H}{rows:List (List AV)}(hx:RV w γ A bd x v)
  (hrow:ak h sz x=some rows) (agree:∀id∈an x,hg id=h.get id) (P:Program) :
  ∃base cap,v=.slice base rows.length cap/\∀n,n<=rows.length->∀w1:World,w1=w\/w1=World.drewn w ->
   ∃c,(Builtin.firstCells sz n v).run P w1=.ok c w1/\c.size=n*sz/\ZJ w γ A bd sz (rows.take n) c:=by
 obtain⟨b,o,cap,f,d⟩:=Nv hr hx hrow agree;have e:ZJ w γ A bd sz [] #[]:=⟨by simp,λi row h=>by simp at h,λi j row x h=>by simp at h⟩;rcases f with⟨rfl,rfl⟩|rfl|⟨⟨a,rfl⟩,rfl⟩
 ·simp_all[Builtin.firstCells]
 ·refine⟨some (Zo b o),cap,rfl,λn hn w1 h1=>?_⟩;have k:=d.sub 0 n;simp only[XI,aeB,Yt]at k;have hl:(rows.take n).length=n:=by simp[hn]
  rcases h1 with rfl|rfl
  ·have:=F3 k P
   grind[Builtin.firstCells]
  ·have:=F3 (k.same CL rfl) P
   grind[Builtin.firstCells,ZJ.back]
 simp_all[Builtin.firstCells,loadCells,loadCellsFrom]
theorem Mp{argTypes:Array TypeId}{xt e':TypeId}{sz:Nat}{zero:List AV}{s:AV}
  (hr:ZB C A bd w γ hg nx) (hf:(γ g.nx).kind=0) (h0:argTypes[0]?=some t) (h1:argTypes[1]?=some xt) (hu:C.P.underlying t=some (.slice e)) (hux:C.P.underlying xt=some (.slice e'))
  (hsz:R6 C.P e=some sz) (hby:lR C.P e=some bytes) (hz:ii C.P e=some zero) (hzl:zero.length=sz) (hb0:0<bytes)
  (hs:RV w γ A bd s v) (hx:RV w γ A bd x y) (agree:∀id∈an s,hg id=g.h.get id) (agree':∀id∈an x,hg id=g.h.get id) :
  dY C A bd w γ hg nx (Builtin.append_ argTypes ty #[v,y]) g (eS sz bytes s x g):=by
 unfold eS;cases hrow:ak g.h sz x with
 |none=>trivial
 | some new =>
  dsimp only;obtain⟨xb,xc,rfl,k⟩:=Uh hr hx hrow agree' C.P;rcases wE (e:=e) (new:=new) (zs:=false) (x:=.slice xb new.length xc) (appended:=Builtin.firstCells sz new.length (.slice xb new.length xc)) hr hf hs hby hz hzl hb0
    (λw1 h=>by simpa using k new.length (ZV _) w1 h) agree with h|⟨base,sLen,sCap,rfl,h⟩
  ·rw[h];trivial
  ·have e1:(Builtin.append_ argTypes ty #[.slice base sLen sCap,.slice xb new.length xc]).run C.P w =
     (jW e sz bytes base sLen sCap new.length false (.slice base sLen sCap) (.slice xb new.length xc) (Builtin.firstCells sz new.length (.slice xb new.length xc))).run C.P w:=by
    unfold Builtin.append_ jW;have a0:(#[Value.slice base sLen sCap,Value.slice xb new.length xc]:Array Value)[0]?=some (.slice base sLen sCap):=rfl;have a1:(#[Value.slice base sLen sCap,Value.slice xb new.length xc]:Array Value)[1]?=some (.slice xb new.length xc):=rfl;simp only[h0,h1,a0,a1,Qk,aG hu,aG hux,bj hsz,Builtin.lenOf,abi,MV]
    rfl
   generalize bK sz bytes s new g=r at h ⊢;simp_all[dY]
theorem Kg{argTypes:Array TypeId}{xt:TypeId}{k:IntKind}{sz:Nat}{zero:List AV}{s:AV}
  (hr:ZB C A bd w γ hg nx) (hf:(γ g.nx).kind=0) (h0:argTypes[0]?=some t) (h1:argTypes[1]?=some xt) (hu:C.P.underlying t=some (.slice e)) (hux:C.P.underlying xt=some (.int k))
  (hsz:R6 C.P e=some sz) (hby:lR C.P e=some bytes) (hz:ii C.P e=some zero) (hzl:zero.length=sz) (hs0:0<sz) (hb0:0<bytes)
  (hs:RV w γ A bd s v) (hx:RV w γ A bd x y) (agree:∀id∈an s,hg id=g.h.get id) :
  dY C A bd w γ hg nx (Builtin.append_ argTypes ty #[v,y]) g (AI sz bytes zero s x g):=by
 unfold AI;cases hn:dU aQ x with
 |none=>trivial
 | some n =>
  dsimp only;rw[aa]
  split
  ·rename_i a;rw[R1]at a;obtain⟨n1,kk,rfl⟩:=Br hn hx;have hl:(jb n zero).length=n:=by simp[jb]
   have b:∀w1:World,w1=w\/w1=World.drewn w->∃c,(if n*sz=0 then pure #[] else do pure (Builtin.zeroCells (<-zeroValue e).cells n):Sem (Array Value)).run C.P w1=.ok c w1 /\
     c.size=(jb n zero).length*sz/\ZJ w γ A bd sz (jb n zero) c:=by
    intro w1 _;obtain⟨z,p,j⟩:=qw (w:=w1) hz;have l:z.cells.size=sz:=by have:=(rh (w:=w) (γ:=γ) (A:=A) (bd:=bd) j).1.1;grind
    refine⟨jT z.cells (n*sz),?_,by grind[qC],yT (ty:=e) j hzl hs0 (ZV _)⟩;simp_all[jT,Builtin.zeroCells]
   rcases wE (e:=e) (new:=jb n zero) (zs:=true) (x:=.int kk (n:Int)) hr hf hs hby hz hzl hb0 b agree with h|⟨base,sLen,sCap,rfl,h⟩
   ·rw[h];trivial
   ·rw[hl]at h;have hi:∃i,C.P.info? e=some i/\i.bytes=bytes:=by simp_all[lR]
    obtain⟨i,m,o⟩:=hi;unfold aQ at n1 a;have w1:=vo n (by omega);have f:¬((n:Int)*(bytes:Int) > 2 ^ 48):=by omega
    have e1:(Builtin.append_ argTypes ty #[.slice base sLen sCap,.int kk (n:Int)]).run C.P w =
      (jW e sz bytes base sLen sCap n true (.slice base sLen sCap) (.int kk (n:Int)) (if n*sz=0 then pure #[] else do pure (Builtin.zeroCells (<-zeroValue e).cells n))).run C.P w:=by
     unfold Builtin.append_ jW;have d:¬((n:Int)<0):=by omega
     have a0:(#[Value.slice base sLen sCap,Value.int kk (n:Int)]:Array Value)[0]?=some (.slice base sLen sCap):=rfl;have a1:(#[Value.slice base sLen sCap,Value.int kk (n:Int)]:Array Value)[1]?=some (.int kk (n:Int)):=rfl;simp only[h0,h1,a0,a1,Qk,aG hu,aG hux,bj hsz,abi,MV,if_true,asInt,asIntOf,w1,nu m,o,ZF f,ZF d]
     rfl
    generalize bK sz bytes s (jb n zero) g=r at h ⊢;simp_all[dY]
  ·trivial
theorem RO{argTypes:Array TypeId}{sz:Nat}{d:AV}
  (hr:ZB C A bd w γ hg nx) (h0:argTypes[0]?=some t) (hu:C.P.underlying t=some (.slice e)) (hsz:R6 C.P e=some sz)
  (hd:RV w γ A bd d v) (hx:RV w γ A bd x y) (agree:∀id∈an d,hg id=g.h.get id) (agree':∀id∈an x,hg id=g.h.get id) :
  dY C A bd w γ hg nx (Builtin.copy_ argTypes ty #[v,y]) g (H3 sz d x g):=by
 unfold H3;cases hrow:ak g.h sz x with
 |none=>trivial
 | some src =>
  dsimp only;obtain⟨xb,xc,rfl,q⟩:=Uh hr hx hrow agree' C.P;have k:∀base dLen dCap,v=.slice base dLen dCap->∃c,c.size=Nat.min src.length dLen*sz/\ZJ w γ A bd sz (src.take (Nat.min src.length dLen)) c /\
    (Builtin.copy_ argTypes ty #[v,.slice xb src.length xc]).run C.P w =
     (do if let some a:=base then storeCells a c.toList
         pure (goInt (Nat.min src.length dLen)):Sem Value).run C.P w:=by
   intro base dLen dCap r;subst r;obtain⟨c,c1,l,m⟩:=q (Nat.min src.length dLen) (Nat.min_le_left _ _) w (.inl rfl);refine⟨c,l,m,?_⟩;have a0:(#[Value.slice base dLen dCap,Value.slice xb src.length xc]:Array Value)[0]?=some (.slice base dLen dCap):=rfl;have a1:(#[Value.slice base dLen dCap,Value.slice xb src.length xc]:Array Value)[1]?=some (.slice xb src.length xc):=rfl;unfold Builtin.copy_;simp only[h0,a0,a1,Qk,aG hu,bj hsz,Builtin.lenOf,abi,MV,c1]
   rfl
  have i:∀n:Nat,RV w γ A bd (.int .i64 (n:Int)) (goInt n):=λn=>.int _ _ _;cases hd with
  | Z6 =>obtain⟨c,c1,l,m⟩:=k none 0 0 rfl;refine⟨goInt 0,?_,i 0⟩;simp_all
  | TT _ a =>
   obtain⟨c,c1,l,m⟩:=k (some a) 0 0 rfl;have hc:c=#[]:=by grind
   refine⟨goInt 0,?_,i 0⟩;simp_all[lB]
  | Zs _ tag sz' rows b o cap cell ht hc hb hm ha hrl ho hw h =>
   dsimp only;rw[aa]
   split
   ·rename_i f;obtain⟨c,c1,l,m⟩:=k (some (Zo b o)) rows.length cap rfl;have p:Nat.min src.length rows.length=0:=by
     grind
    rw[p]at c1 m;have hc:c=#[]:=by grind
    refine⟨goInt 0,?_,i 0⟩;simp_all[lB]
   ·trivial
  | YF _ tag sz' a cap ht =>
   dsimp only;rw[aa]
   split
   ·obtain⟨c,c1,l,m⟩:=k (some a) 0 cap rfl;have hc:c=#[]:=by grind
    refine⟨goInt 0,?_,i 0⟩;simp_all[lB]
   ·trivial
  | ZG _ id ep off len lim b0 o0 cap0 hk he hc0 h0' =>
   have j:=agree id (by simp[an]);simp only[G.get_eq,<-j];cases hid:hg id with
   | cells sz' rows ep' loose fz =>
    simp only[ax,aa,bE]
    split
    ·rename_i f;simp only[Zk,R1,rq,Qw]at f;obtain⟨⟨⟨h1,h2⟩,E⟩,h4⟩:=f;have h1:=aH h1;have h2:=aH h2;subst h1;subst h2;subst h4;obtain⟨cap,r,u,s⟩:=xW hr (RV.ZG bd id ep off len lim b0 o0 cap0 hk he hc0 h0') hid;obtain⟨c,c1,l,m⟩:=k _ _ _ r;have hl:(src.take (Nat.min src.length len)).length=Nat.min src.length len:=by grind
     have z:Nat.min src.length len<=len:=Nat.min_le_right _ _;obtain⟨w',F,B,D⟩:=hr.storeRows hid (off:=off) l (by grind) (by omega) C.P;refine⟨goInt (Nat.min src.length len),w',γ,id,_,?_,.int _ _ _,D,.inl ⟨rfl,B⟩⟩<;>simp_all
    ·trivial
   |_=>trivial
  |_=>trivial
theorem PL{argTypes:Array TypeId}{sz:Nat}{zero:List AV}
  (hr:ZB C A bd w γ hg nx) (h0:argTypes[0]?=some t) (hu:C.P.underlying t=some (.slice e)) (hz:ii C.P e=some zero) (hzl:zero.length=sz) (hs0:0<sz)
  (hx:RV w γ A bd x y) (agree:∀id∈yL x,hg id=g.h.get id) :
  dY C A bd w γ hg nx (Builtin.clear_ argTypes ty #[y]) g (EZ sz zero x g):=by
 have a0:(#[y]:Array Value)[0]?=some y:=rfl;have c:∀a cap,y=.slice a 0 cap->(Builtin.clear_ argTypes ty #[y]).run C.P w=.ok undef w:=by intro a cap h;subst h;unfold Builtin.clear_;cases a<;>simp[h0,aG hu,undef]
 unfold EZ;cases hx with
 |Z6=>exact⟨_,c _ _ rfl,dC⟩
 |TT _ a=>exact⟨_,c _ _ rfl,dC⟩
 | Zs _ tag sz' rows b o cap cell ht hc hb hm ha hrl ho hw h =>
  cases rows with
  |nil=>exact⟨_,c _ _ rfl,dC⟩
  |cons r rs=>trivial
 |YF _ tag sz' a cap ht=>exact⟨_,c _ _ rfl,dC⟩
 | ZG _ id ep off len lim b0 o0 cap0 hk he hc0 h0' =>
  cases len with
  |zero=>exact⟨_,c _ _ rfl,dC⟩
  | succ len =>
   have d:=agree id (by simp[yL]);simp only[G.get_eq,<-d];cases hid:hg id with
   | cells sz' rows ep' loose fz =>
    simp only[ax,aa]
    split
    ·rename_i k;simp only[Zk,R1,rq,Qw]at k;obtain⟨⟨⟨h1,h2⟩,q⟩,h4⟩:=k;have h1:=aH h1;have h2:=aH h2;subst h1;subst h2;subst h4;obtain⟨cap,s,j,i⟩:=xW hr (RV.ZG bd id ep off (len+1) lim b0 o0 cap0 hk he hc0 h0') hid;have hl:(jb (len+1) zero).length=len+1:=by simp[jb]
     obtain⟨z,v,f⟩:=qw (w:=w) hz;have l:z.cells.size=sz:=by have:=(rh (w:=w) (γ:=γ) (A:=A) (bd:=bd) f).1.1;grind
     obtain⟨w',u,m,p⟩:=hr.storeRows hid (off:=off) (yT (ty:=e) (n:=len+1) f hzl hs0 (ZV _)) (by grind[qC]) (by omega) C.P;refine⟨undef,w',γ,id,_,?_,dC,p,.inl ⟨rfl,m⟩⟩;have e0:Builtin.zeroCells z.cells (len+1)=jT z.cells ((len+1)*sz):=by grind[Builtin.zeroCells,jT]
     simp_all[Builtin.clear_,undef,aG]
    ·trivial
   |_=>trivial
 |_=>trivial
end
end
end
end Hx
