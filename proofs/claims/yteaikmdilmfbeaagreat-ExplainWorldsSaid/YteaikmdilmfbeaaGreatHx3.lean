/- A part of the proof: an interpreter over abstract values, shown right against the model, and what the functions of the chapter compute on it. -/
import Derived.DeepKeys3
import Derived.Test.YteaikmdilmfbeaaGreatHx2
set_option linter.unusedVariables false
set_option linter.unusedSimpArgs false
set_option linter.unnecessarySimpa false
section
namespace Hx
open Go
section
variable {C:Cfg}{A:Nat->Nat->Prop}{bd:Nat}{w w':World}{γ γ':Gm}{hg:Nat->AObj}{nx:Nat}
theorem iG {s:Sem Value}{y:AV}(h:oy s=some y)(P:Program)(w:World):∃v,s.run P w=.ok v w/\RV w γ A bd y v:=by
 unfold oy at h
 split at h
 ·injection h with h;subst h;exact ⟨_,rfl,.int _ _ _⟩
 ·injection h with h;subst h;exact ⟨_,rfl,.bool _ _⟩
 ·cases h
theorem Ei {P:Program}{op:BinOp}{k:IntKind}{m n r:Nat}(hs:jU k m n=true)
  (h:(match op with
    | .and=>some (AV.int k (.ofNat (Nat.land m n)))
    | .or=>some (.int k (.ofNat (Nat.lor m n)))
    | .xor=>some (.int k (.ofNat (Nat.xor m n)))
    | .andNot=>some (.int k (.ofNat (Nat.xor m (Nat.land m n))))
    | _=>none)=some (.int k (.ofNat r))):(Op.intBits op k (.ofNat m) (.ofNat n)).run P w=.ok (.int k (.ofNat r)) w:=by
 have hbits:k.bits=64/\m<2 ^ 64/\n<2 ^ 64/\∀x:Nat,x<2 ^ 64->(k=.i64->x<2 ^ 63)->k.wrap (x:Int)=(x:Int):=by
  unfold jU at hs;cases k<;>simp only[Bool.and_eq_true,Nat.blt_eq,Bool.false_eq_true] at hs
  ·exact ⟨rfl,by omega,by omega,λx _ h=>pt x (by have:=h rfl;omega)⟩
  ·refine ⟨rfl,by omega,by omega,λx h _=>?_⟩;rw[<-fp];show (Int.ofNat (x % 18446744073709551616))=_;rw[Nat.mod_eq_of_lt (by omega)];rfl
 have hb63:k=.i64->m<2 ^ 63/\n<2 ^ 63:=by intro e;subst e;simp only[jU,Bool.and_eq_true,Nat.blt_eq] at hs;omega
 obtain ⟨hb,hm,hn,hw⟩:=hbits;have e1:(BitVec.ofInt k.bits (Int.ofNat m)).toNat=m:=by rw[hb];simp only[Int.ofNat_eq_natCast,BitVec.ofInt_natCast,BitVec.toNat_ofNat];exact Nat.mod_eq_of_lt hm
 have e2:(BitVec.ofInt k.bits (Int.ofNat n)).toNat=n:=by rw[hb];simp only[Int.ofNat_eq_natCast,BitVec.ofInt_natCast,BitVec.toNat_ofNat];exact Nat.mod_eq_of_lt hn
 have fin:∀(z:BitVec k.bits) (q:Nat),z.toNat=q->q<2 ^ 64->(k=.i64->q<2 ^ 63)->q=r ->
   (Sem.pure (Value.int k (k.wrap z.toNat)):Sem Value).run P w=.ok (.int k (.ofNat r)) w:=by
  intro z q h1 h2 h3 h4;rw[h1,hw q h2 h3,h4];rfl
 unfold Op.intBits;cases op<;>first | (cases h;done) | skip
 case and =>
  injection h with h;injection h with _ h;injection h with h;exact fin _ (m &&& n) (by rw[BitVec.toNat_and,e1,e2]) (Nat.and_lt_two_pow _ hn) (λe=>Nat.and_lt_two_pow _ (hb63 e).2) h
 case or =>
  injection h with h;injection h with _ h;injection h with h;exact fin _ (m ||| n) (by rw[BitVec.toNat_or,e1,e2]) (Nat.or_lt_two_pow hm hn) (λe=>Nat.or_lt_two_pow (hb63 e).1 (hb63 e).2) h
 case xor =>
  injection h with h;injection h with _ h;injection h with h;exact fin _ (m ^^^ n) (by rw[BitVec.toNat_xor,e1,e2]) (Nat.xor_lt_two_pow hm hn) (λe=>Nat.xor_lt_two_pow (hb63 e).1 (hb63 e).2) h
 case andNot =>
  injection h with h;injection h with _ h;injection h with h;have hx:∀(x y:BitVec k.bits),x &&& ~~~y=x ^^^ (x &&& y):=by intro x y;ext i hi;simp only[BitVec.getElem_and,BitVec.getElem_not,BitVec.getElem_xor];cases x[i]<;>cases y[i]<;>rfl
  exact fin _ (m ^^^ (m &&& n)) (by rw[hx,BitVec.toNat_xor,BitVec.toNat_and,e1,e2]) (Nat.xor_lt_two_pow hm (Nat.and_lt_two_pow _ hn))
   (λe=>Nat.xor_lt_two_pow (hb63 e).1 (Nat.and_lt_two_pow _ (hb63 e).2)) h
theorem EG {P:Program}{op:BinOp}{ty:TypeId}{k k':IntKind}{a b:Int}{y:AV}(h:(ei op).run k a k' b=some y) :
  ∃v,(binOp op ty (.int k a) (.int k' b)).run P w=.ok v w/\RV w γ A bd y v:=by
 have hk:∀{α:Type} {x:Option α} {y:α},au (cA k k') x none=some y->k=k'/\x=some y:=by
  intro α x y h;rw[aa,om] at h
  split at h
  ·rename_i h1;exact ⟨by simpa using h1,h⟩
  ·cases h
 cases op
 case add | sub | mul =>
  obtain ⟨rfl,h1⟩:=hk h;injection h1 with h1;subst h1;refine ⟨_,by simp only[binOp,Op.intArith,ne_eq,not_true,if_false];rfl,?_⟩;rw[fp];exact .int _ _ _
 case quo =>
  obtain ⟨rfl,h1⟩:=hk h;clear h;unfold LR at h1;simp only[binOp,ne_eq,not_true,if_false]
  split at h1
  ·rename_i m n;injection h1 with h1;subst h1;refine ⟨_,?_,by rw[fp];exact .int _ _ _⟩;unfold Op.intDiv;rw[if_neg (by simp only[Int.ofNat_eq_natCast];omega)]
   rfl
  ·exact iG h1 P w
 case rem =>
  obtain ⟨rfl,h1⟩:=hk h;clear h;unfold LY at h1;simp only[binOp,ne_eq,not_true,if_false]
  split at h1
  ·rename_i m n;injection h1 with h1;subst h1;refine ⟨_,?_,.int _ _ _⟩;unfold Op.intDiv;rw[if_neg (by simp only[Int.ofNat_eq_natCast];omega)]
   rfl
  ·exact iG h1 P w
 case and | or | xor | andNot =>
  obtain ⟨rfl,h1⟩:=hk h;clear h;unfold Mu at h1;simp only[binOp,ne_eq,not_true,if_false]
  split at h1
  ·rename_i m n;rw[aa] at h1
   split at h1
   ·rename_i hs;have h0:=h1;injection h1 with h1;subst h1;exact ⟨_,Ei hs h0,.int _ _ _⟩
   ·exact iG h1 P w
  ·exact iG h1 P w
 case shl =>
  change Km k a b=some y at h;unfold Km at h;simp only[binOp]
  split at h
  ·rename_i m n;injection h with h;subst h;refine ⟨_,?_,by rw[fp];exact .int _ _ _⟩;unfold Op.shift;rw[if_neg (by simp only[Int.ofNat_eq_natCast];omega)];have:(Int.ofNat n).toNat=n:=rfl;simp only[this,Sem.run_pure];congr 3
  ·exact iG (s:=Op.shift .shl k a k' b) h P w
 case shr =>
  change Kn k a b=some y at h;unfold Kn at h;simp only[binOp]
  split at h
  ·rename_i m n;injection h with h;subst h;refine ⟨_,?_,.int _ _ _⟩;unfold Op.shift;rw[if_neg (by simp only[Int.ofNat_eq_natCast];omega)];have:(Int.ofNat n).toNat=n:=rfl;simp only[this,Sem.run_pure];congr 2;have e:(2:Int) ^ (min n k.bits)=((2 ^ (min n k.bits):Nat):Int):=by simp
   rw[e,Int.fdiv_eq_ediv_of_nonneg _ (Int.natCast_nonneg _)]
   rfl
  ·exact iG (s:=Op.shift .shr k a k' b) h P w
 all_goals
  obtain ⟨rfl,h1⟩:=hk h;injection h1 with h1;subst h1;refine ⟨_,by simp only[binOp,Op.intCmp,ne_eq,not_true,if_false];rfl,?_⟩;simp only[rO,jP,notb_eq]
 case eql=>exact .bool _ _
 case neq =>
  rw[show (a != b) = !decide (a=b) from by simp[bne];rfl];exact .bool _ _
 case lss=>exact .bool _ _
 case leq =>
  rw[show decide (a<=b) = !decide (b<a) from by rw[Bool.eq_iff_iff];simp];exact .bool _ _
 case gtr=>exact .bool _ _
 case geq =>
  rw[show decide (a >= b) = !decide (a<b) from by rw[Bool.eq_iff_iff];simp];exact .bool _ _
end
end Hx
end
section
namespace Hx
open Go
section
variable {C:Cfg}{A:Nat->Nat->Prop}{bd:Nat}{w w':World}{γ γ':Gm}{hg:Nat->AObj}{nx:Nat}
theorem eh {P:Program}{b:Nat}{o:Obj}(h:w.heap[b]?=some o)(hc:∀c e f,o≠.cells c e f):(getObj b).run P w=.ok o w:=by cases o<;>first | (exact absurd rfl (hc _ _ _)) | simp[getObj,Sem.run,h]
theorem fN {P:Program}{b:Nat}{o o':Obj}(h:w.heap[b]?=some o)(hc:∀c e f,o≠.cells c e f):(setObj b o').run P w=.ok () (World.setBlk w b o'):=by cases o<;>first | (exact absurd rfl (hc _ _ _)) | simp[setObj,Sem.run,h,World.setBlk]
theorem Ly {argTypes:Array TypeId}{ty t:TypeId}{x:AV}{v:Value}{g:G}(hr:Rel C A bd w γ hg nx)(h0:argTypes[0]?=some t)
  (hx:RV w γ A bd x v) (agree:jQ C.P t=.map->∀id∈uM x,hg id=g.h.get id) :
  ValSim C A bd w γ (Builtin.len_ argTypes ty #[v]) (cV (jQ C.P t) x g):=by
 have a0:(#[v]:Array Value)[0]?=some v:=rfl;unfold Builtin.len_ jQ;cases hu:C.P.underlying t with
 | none=>trivial
 | some d =>
  cases d<;>try trivial
  case array n e =>
   refine ⟨goInt n,?_,.int _ _ _⟩;simp only[h0,a0,Sem.run_bind,aC hu,Result.andThen_ok]
   rfl
  case slice e =>
   simp only[cV];cases hx with
   | nils=>exact ⟨goInt 0,by simp[h0,aC hu],.int _ _ _⟩
   | esl _ a=>exact ⟨goInt 0,by simp[h0,aC hu],.int _ _ _⟩
   | tsl _ tag sz rows b o cap cell ht hc hb hm ha hrl ho hw h =>
    refine ⟨goInt rows.length,by simp[h0,aC hu],?_⟩;rw[aw];exact .int _ _ _
   | tnil _ tag sz a cap ht=>exact ⟨goInt 0,by simp[h0,aC hu],.int _ _ _⟩
   | hsl _ id ep off len lim b o cap hk he hc h=>exact ⟨goInt len,by simp[h0,aC hu],.int _ _ _⟩
   | _=>trivial
  case string =>
   simp only[cV];cases hx with
   | str _ s=>exact ⟨goInt s.size,by simp[h0,aC hu],.int _ _ _⟩
   | _=>trivial
  case map kt et =>
   simp only[cV];cases hx with
   | nilm=>exact ⟨goInt 0,by simp[h0,aC hu],.int _ _ _⟩
   | hmap _ id b hk hb =>
    have hagree:=agree (by simp[jQ,hu]) id (by simp[uM]);simp only[G.get_eq,<-hagree];cases hid:hg id with
    | map es =>
     have hob:=hr.obj id;rw[hid] at hob;obtain ⟨k1,k2,esC,k3,k4,k5⟩:=hob;subst hb;refine ⟨goInt es.length,?_,by rw[aw];exact .int _ _ _⟩;simp[h0,aC hu,eh k3 (by simp),k4]
    | _=>trivial
   | _=>trivial
theorem Lc {argTypes:Array TypeId}{ty t e:TypeId}{x:AV}{v:Value}{g:G}(hr:Rel C A bd w γ hg nx)(h0:argTypes[0]?=some t)(hu:C.P.underlying t=some (.slice e))
  (hx:RV w γ A bd x v) (agree:∀id∈ak x,hg id=g.h.get id) :
  ValSim C A bd w γ (Builtin.cap_ argTypes ty #[v]) (Im x g):=by
 have a0:(#[v]:Array Value)[0]?=some v:=rfl;unfold Im;cases hx with
 | nils=>exact ⟨goInt 0,by simp[Builtin.cap_,h0,aC hu],.int _ _ _⟩
 | esl _ a=>exact ⟨goInt 0,by simp[Builtin.cap_,h0,aC hu],.int _ _ _⟩
 | hsl _ id ep off len lim b0 o0 cap0 hk he hc0 h0' =>
  have hagree:=agree id (by simp[ak]);simp only[G.get_eq,<-hagree];cases hid:hg id with
  | cells sz rows ep' loose fz =>
   simp only[aa]
   split
   ·rename_i hcond;simp only[Bool.and_eq_true,Bool.or_eq_true,notb_eq,Bool.not_eq_true'] at hcond;obtain ⟨h1,h2⟩:=hcond;have h1:=aD h1;subst h1;have hob:=hr.obj id;rw[hid] at hob;obtain ⟨k1,k2,k3,k4,k5,_⟩:=hob;obtain ⟨c1,c2,hco⟩:=h0' k2.symm;refine ⟨goInt cap0,by simp[Builtin.cap_,h0,aC hu],?_⟩;have e:(lim.getD (aY rows - off))=cap0:=by
     rw[aw];unfold gg at hco;cases lim with
     | none=>simp at h2;have:=k5.1 h2;simp only[Option.getD];dsimp only at hco;omega
     | some c=>simp only[Option.getD];exact hco.1.symm
    rw[e];exact .int _ _ _
   ·trivial
  | _=>trivial
 | _=>trivial
theorem LA {argTypes:Array TypeId}{ty:TypeId}{x y:AV}{v u:Value}(hx:RV w γ A bd x v)(hy:RV w γ A bd y u) :
  ValSim C A bd w γ (Builtin.max_ argTypes ty #[v,u]) (match x with
   | .int k m=>match y with
    | .int k' n=>au (cA k k') (.val (.int k (au (xi m n) n m))) .fail
    | _=>.fail
   | _=>.fail):=by
 cases hx with
 | int _ k m =>
  cases hy with
  | int _ k' n =>
   dsimp only;rw[aa]
   split
   ·refine ⟨.int k (if n > m then n else m),by simp[Builtin.max_,Builtin.max2],?_⟩;rw[aa,jP];simp only[decide_eq_true_eq,gt_iff_lt];exact .int _ _ _
   ·trivial
  | _=>trivial
 | _=>trivial
theorem LB {argTypes:Array TypeId}{ty:TypeId}{x y:AV}{v u:Value}(hx:RV w γ A bd x v)(hy:RV w γ A bd y u) :
  ValSim C A bd w γ (Builtin.min_ argTypes ty #[v,u]) (match x with
   | .int k m=>match y with
    | .int k' n=>au (cA k k') (.val (.int k (au (xi n m) n m))) .fail
    | _=>.fail
   | _=>.fail):=by
 cases hx with
 | int _ k m =>
  cases hy with
  | int _ k' n =>
   dsimp only;rw[aa]
   split
   ·refine ⟨.int k (if n<m then n else m),by simp[Builtin.min_,Builtin.min2],?_⟩;rw[aa,jP];simp only[decide_eq_true_eq];exact .int _ _ _
   ·trivial
  | _=>trivial
 | _=>trivial
end
end Hx
end
section
namespace Hx
open Go
def ff:TypeDesc->Value->Bool
 | .bool,.bool _=>true
 | .int k,.int k' _=>decide (k=k')
 | .string,.string _=>true
 | _,_=>false
def aK:List TypeDesc->List Value->Bool
 | [],[]=>true
 | d::ds,v::vs=>ff d v&&aK ds vs
 | _,_=>false
def eqV:Value->Value->Bool
 | .int _ a,.int _ b=>a == b
 | .bool a,.bool b=>a == b
 | .string a,.string b=>a == b
 | _,_=>false
def lP:List Value->List Value->Bool
 | [],[]=>true
 | a::as,b::bs=>eqV a b&&lP as bs
 | _,_=>false
def dm (P:Program)(t:TypeId):Bool:=match p_ P t with | some b=>b | none=>false
def mkV (P:Program)(t:TypeId)(cs:List Value):Value:=if dm P t then .agg cs.toArray else cs.headD undef
theorem aV:∀{ds:List TypeDesc} {vs:List Value},aK ds vs=true->vs.length=ds.length:=by
 intro ds
 induction ds with
 | nil=>intro vs h;cases vs<;>simp_all [aK]
 | cons d ds ih=>intro vs h;cases vs with
  | nil=>simp[aK] at h
  | cons v vs=>simp only[aK,Bool.and_eq_true] at h;simp[ih h.2]
theorem dN {d1 d2:List TypeDesc}:∀{vs:List Value},aK (d1++d2) vs=true->aK d1 (vs.take d1.length)=true/\aK d2 (vs.drop d1.length)=true:=by
 induction d1 with
 | nil=>intro vs h;simpa [aK] using h
 | cons d ds ih =>
  intro vs h;cases vs with
  | nil=>simp[aK] at h
  | cons v vs =>
   simp only[List.cons_append,aK,Bool.and_eq_true] at h;obtain ⟨h1,h2⟩:=ih h.2;simp only[List.length_cons,List.take_succ_cons,List.drop_succ_cons,aK,Bool.and_eq_true];exact ⟨⟨h.1,h1⟩,h2⟩
theorem wx:∀{a1 a2 b1 b2:List Value},a1.length=b1.length->lP (a1++a2) (b1++b2)=(lP a1 b1&&lP a2 b2):=by
 intro a1
 induction a1 with
 | nil=>intro a2 b1 b2 h;cases b1<;>simp_all [lP]
 | cons a as ih =>
  intro a2 b1 b2 h;cases b1 with
  | nil=>simp at h
  | cons b bs=>simp only[List.cons_append,lP,ih (Nat.succ.inj h),Bool.and_assoc]
section
variable {P:Program}
def mW:TypeDesc->Bool
 | .struct _ | .array _ _=>true
 | _=>false
theorem dq {t:TypeId}{d:TypeDesc}(h:P.underlying t=some d) :
  dm P t=mW d/\p_ P t=some (dm P t):=by
 unfold dm p_;cases d<;>simp[h,mW]
theorem rT {w:World}{t:TypeId}{d:TypeDesc}{n off:Nat}{xs:Array Value}(hu:P.underlying t=some d)(hn:szT P t=some n)(h1:dm P t=false->n=1)
  (hle:dm P t=false->off+n<=xs.size):(part t xs off).run P w=.ok (mkV P t ((xs.toList.drop off).take n)) w:=by
 obtain ⟨_,ha⟩:=dq hu;unfold mkV;cases hg:dm P t with
 | true =>
  rw[hg] at ha;have e:(xs.extract off (off+n))=((xs.toList.drop off).take n).toArray:=by apply Array.ext';simp[Array.toList_extract,List.extract]
  simp[part,jZ ha,aW hn,e]
 | false =>
  rw[hg] at ha;have hn1:=h1 hg;subst hn1;have hl:off<xs.size:=by have:=hle hg;omega
  have e:((xs.toList.drop off).take 1).headD undef=xs[off]:=by rw[List.headD_eq_head?_getD,List.head?_take,if_neg (by decide),List.head?_drop];simp[hl]
  simp only[part,Sem.run_bind,jZ ha,Result.andThen_ok,Bool.false_eq_true,if_false,e];simp[hl]
theorem fJ {d:Nat}{t:TypeId}{ds:List TypeDesc}(h:lz P d t=some ds):∃k,P.underlying t=some k/\(dm P t=false->ds.length=1):=by
 cases d with
 | zero=>cases h
 | succ d =>
  unfold lz at h;cases hu:P.underlying t with
  | none=>rw[hu] at h;cases h
  | some k =>
   refine ⟨k,rfl,λhg=>?_⟩;obtain ⟨h1,_⟩:=dq hu;rw[hg] at h1;rw[hu] at h;cases k<;>simp[mW] at h1<;>simp only[aa] at h<;>split at h<;>first | (cases h;done) | (injection h with h;subst h;rfl)
theorem EB {w:World}{dd:Nat}{rec:TypeId->Option (List TypeDesc)}(hinfo:∀t ds,rec t=some ds->∃k,P.underlying t=some k/\(dm P t=false->ds.length=1))
  (ih:∀t ds,rec t=some ds->∀(xs ys:List Value),aK ds xs=true->aK ds ys=true->(Op.equalIn dd t (mkV P t xs) (mkV P t ys)).run P w=.ok (lP xs ys) w)
  {xs ys:Array Value}:∀(fs:List Field) (k:Nat) (ds:List TypeDesc),tB P rec fs k=some ds->aK ds (xs.toList.drop k)=true->aK ds (ys.toList.drop k)=true ->
   (Op.eqFields dd xs ys fs).run P w=.ok (lP (xs.toList.drop k) (ys.toList.drop k)) w:=by
 intro fs
 induction fs with
 | nil =>
  intro k ds h hx hy;simp only[tB] at h;injection h with h;subst h;have h1:=aV hx;have h2:=aV hy;rw[List.eq_nil_of_length_eq_zero h1,List.eq_nil_of_length_eq_zero h2]
  rfl
 | cons f fs ihf =>
  intro k ds h hx hy;simp only[tB] at h
  split at h
  ·rename_i ds1 h1
   split at h
   ·rename_i r hr;rw[aa] at h
    split at h
    ·rename_i hcond;simp only[Bool.and_eq_true,bne_iff_ne,ne_eq,beq_iff_eq] at hcond;obtain ⟨⟨hname,hoff⟩,hsz⟩:=hcond;have hoff:=aD hoff;injection h with h;subst h;obtain ⟨x1,x2⟩:=dN hx;obtain ⟨y1,y2⟩:=dN hy;rw[List.drop_drop] at x2 y2;have lx:=aV hx;have ly:=aV hy;simp at lx ly;obtain ⟨kd,hu,hone⟩:=hinfo _ _ h1;have p1:(part f.type xs f.offset).run P w=.ok (mkV P f.type ((xs.toList.drop k).take ds1.length)) w:=by rw[hoff];exact rT hu hsz hone λhg=>by have:=hone hg;omega
     have p2:(part f.type ys f.offset).run P w=.ok (mkV P f.type ((ys.toList.drop k).take ds1.length)) w:=by rw[hoff];exact rT hu hsz hone λhg=>by have:=hone hg;omega
     have p3:=ih _ _ h1 _ _ x1 y1;have p4:=ihf _ _ hr x2 y2;simp only[Op.eqFields,ne_eq,hname,not_false_eq_true,if_true,Sem.run_bind,p1,p2,p3,Result.andThen_ok];have e:=wx (a1:=(xs.toList.drop k).take ds1.length) (a2:=xs.toList.drop (k+ds1.length)) (b1:=(ys.toList.drop k).take ds1.length) (b2:=ys.toList.drop (k+ds1.length))
      (by rw[aV x1,aV y1])
     rw[<-List.drop_drop,<-List.drop_drop,List.take_append_drop,List.take_append_drop] at e;rw[e,List.drop_drop,List.drop_drop];cases hq:lP ((xs.toList.drop k).take ds1.length) ((ys.toList.drop k).take ds1.length)
     ·simp
     ·simpa using p4
    ·cases h
   ·cases h
  ·cases h
theorem zY {w:World}{dd:Nat}{e:TypeId}{de:List TypeDesc}{kd:TypeDesc}(hu:P.underlying e=some kd)(hone:dm P e=false->de.length=1)(hsz:szT P e=some de.length)
  (ih:∀(xs ys:List Value),aK de xs=true->aK de ys=true->(Op.equalIn dd e (mkV P e xs) (mkV P e ys)).run P w=.ok (lP xs ys) w)
  {xs ys:Array Value}:∀(n i:Nat),aK (List.replicate n de).flatten (xs.toList.drop (i*de.length))=true->aK (List.replicate n de).flatten (ys.toList.drop (i*de.length))=true ->
   (Op.eqItems dd e de.length xs ys (List.range' i n)).run P w=.ok (lP (xs.toList.drop (i*de.length)) (ys.toList.drop (i*de.length))) w:=by
 intro n
 induction n with
 | zero =>
  intro i hx hy;have h1:=aV hx;have h2:=aV hy;rw[List.eq_nil_of_length_eq_zero (l:=xs.toList.drop _) (by simpa using h1),List.eq_nil_of_length_eq_zero (l:=ys.toList.drop _) (by simpa using h2)]
  rfl
 | succ n ihn =>
  intro i hx hy;rw[List.replicate_succ,List.flatten_cons] at hx hy;obtain ⟨x1,x2⟩:=dN hx;obtain ⟨y1,y2⟩:=dN hy;have lx:=aV x1;have ly:=aV y1;simp at lx ly;rw[List.drop_drop] at x2 y2;have em:i*de.length+de.length=(i+1)*de.length:=by rw[Nat.add_mul,Nat.one_mul]
  rw[em] at x2 y2;have p1:(part e xs (i*de.length)).run P w=.ok (mkV P e ((xs.toList.drop (i*de.length)).take de.length)) w:=rT hu hsz hone λhg=>by have:=hone hg;omega
  have p2:(part e ys (i*de.length)).run P w=.ok (mkV P e ((ys.toList.drop (i*de.length)).take de.length)) w:=rT hu hsz hone λhg=>by have:=hone hg;omega
  have p3:=ih _ _ x1 y1;have p4:=ihn (i+1) x2 y2;rw[List.range'_succ];simp only[Op.eqItems,Sem.run_bind,p1,p2,p3,Result.andThen_ok];have ee:=wx (a1:=(xs.toList.drop (i*de.length)).take de.length) (a2:=xs.toList.drop ((i+1)*de.length)) (b1:=(ys.toList.drop (i*de.length)).take de.length) (b2:=ys.toList.drop ((i+1)*de.length))
   (by rw[aV x1,aV y1])
  rw[<-em,<-List.drop_drop,<-List.drop_drop,List.take_append_drop,List.take_append_drop,List.drop_drop,List.drop_drop,em] at ee;rw[ee];cases hq:lP ((xs.toList.drop (i*de.length)).take de.length) ((ys.toList.drop (i*de.length)).take de.length)
  ·simp
  ·simpa using p4
theorem Er {t:TypeId}{n:Nat}(h:szT P t=some n):P.cellsOf t=n/\∃i,P.info? t=some i:=by
 unfold szT at h;unfold Program.cellsOf;cases hi:P.info? t with
 | none=>rw[hi] at h;cases h
 | some i=>rw[hi] at h;simp at h;simp[h]
theorem Bv (D:Nat):∀(d:Nat) (t:TypeId) (ds:List TypeDesc),lz P d t=some ds->∀(w:World) (xs ys:List Value),aK ds xs=true->aK ds ys=true ->
  (Op.equalIn (D+d) t (mkV P t xs) (mkV P t ys)).run P w=.ok (lP xs ys) w:=by
 intro d
 induction d with
 | zero=>intro t ds h;cases h
 | succ d ih =>
  intro t ds h w xs ys hx hy;unfold lz at h;have one:∀k,P.underlying t=some k->lq k=true->mW k=false->ds=[k]->(Op.equalIn (D+(d+1)) t (mkV P t xs) (mkV P t ys)).run P w=.ok (lP xs ys) w:=by
   intro k hu hk hag hds;obtain ⟨h1,_⟩:=dq hu;subst hds;have hm:∀zs,mkV P t zs=zs.headD undef:=by intro zs;unfold mkV;rw[h1,hag];rfl
   rw[hm,hm];have lx:=aV hx;have ly:=aV hy
   match xs,ys,lx,ly with
   | [x],[y],_,_ =>
    simp only[aK,Bool.and_true] at hx hy;simp only[List.headD_cons,lP,Bool.and_true,<-Nat.add_assoc];cases k<;>simp[lq] at hk<;>cases x<;>simp[ff] at hx<;>cases y<;>simp[ff] at hy
    ·simp[Op.equalIn,aC hu,eqV]
    ·subst hx;subst hy;simp[Op.equalIn,aC hu,eqV]
    ·simp[Op.equalIn,aC hu,eqV]
  cases hu:P.underlying t with
  | none=>rw[hu] at h;cases h
  | some k =>
   rw[hu] at h;cases k
   case struct fs =>
    simp only[aa] at h
    split at h
    ·cases h
    ·rename_i hst;have hst:P.stoodInHeld t=false:=by simpa using hst
     have hfs:P.fieldsOf t=fs:=by simp[Program.fieldsOf,hu]
     have hm:∀zs,mkV P t zs=.agg zs.toArray:=by intro zs;unfold mkV;rw[(dq hu).1];rfl
     rw[hm,hm,<-Nat.add_assoc,run_equalIn_struct w (D+d) t _ _ (by rw[hfs];exact hu) hst,hfs];have:=EB (P:=P) (w:=w) (dd:=D+d) (rec:=lz P d) (λt ds h=>fJ h) (λt ds h xs ys hx hy=>ih t ds h w xs ys hx hy) (xs:=xs.toArray) (ys:=ys.toArray)
      fs.toList 0 ds h (by simpa using hx) (by simpa using hy)
     simpa using this
   case array n e =>
    simp only at h
    split at h
    ·rename_i de hde;simp only[aa] at h
     split at h
     ·rename_i hsz;injection h with h;subst h;have hsz:szT P e=some de.length:=by simpa using hsz
      obtain ⟨kd,hue,hone⟩:=fJ hde;obtain ⟨hc,i,hi⟩:=Er hsz;have hm:∀zs,mkV P t zs=.agg zs.toArray:=by intro zs;unfold mkV;rw[(dq hu).1];rfl
      rw[hm,hm,<-Nat.add_assoc,run_equalIn_array w (D+d) _ _ hu hi,hc,List.range_eq_range'];have:=zY (P:=P) (w:=w) (dd:=D+d) hue hone hsz (λxs ys hx hy=>ih e de hde w xs ys hx hy) (xs:=xs.toArray) (ys:=ys.toArray) n 0 (by simpa using hx) (by simpa using hy);simpa using this
     ·cases h
    ·cases h
   all_goals
    simp only[aa] at h
    split at h
    ·rename_i hk;injection h with h;exact one _ hu hk rfl h.symm
    ·cases h
end
end Hx
end
section
namespace Hx
open Go
section
variable {C:Cfg}{A:Nat->Nat->Prop}{bd:Nat}{w w':World}{γ γ':Gm}{hg:Nat->AObj}{nx:Nat}
theorem RVs.tail {x:AV}{xs:List AV}{v:Value}{vs:List Value}(h:RVs w γ A bd (x::xs) (v::vs)):RV w γ A bd x v/\RVs w γ A bd xs vs :=
 ⟨h.2 0 x v rfl rfl,by have:=h.1;simp at this;exact this,λi y u hy hu=>h.2 (i+1) y u (by simpa using hy) (by simpa using hu)⟩
theorem AN {d:TypeDesc}{x:AV}{v:Value}(h:mX d x=true)(hx:RV w γ A bd x v):ff d v=true:=by cases d<;>cases hx<;>simp_all [mX,ff,om]
theorem tG:∀{ds:List TypeDesc} {xs:List AV} {vs:List Value},cY ds xs=true->RVs w γ A bd xs vs->aK ds vs=true:=by
 intro ds
 induction ds with
 | nil =>
  intro xs vs h hx;cases xs with
  | nil=>have:=hx.1;cases vs with
   | nil=>rfl
   | cons v vs=>simp at this
  | cons x xs=>cases h
 | cons d ds ih =>
  intro xs vs h hx;cases xs with
  | nil=>cases h
  | cons x xs =>
   cases vs with
   | nil=>have:=hx.1;simp at this
   | cons v vs =>
    obtain ⟨h1,h2⟩:=hx.tail;simp only[cY,aa] at h
    split at h
    ·rename_i hk;simp only[aK,Bool.and_eq_true];exact ⟨AN hk h1,ih h h2⟩
    ·cases h
theorem vG {x y:AV}{v u:Value}{b:Bool}(h:mC x y=some b)(hx:RV w γ A bd x v)(hy:RV w γ A bd y u):eqV v u=b:=by
 cases hx<;>cases hy<;>simp only[mC] at h<;>first | (cases h;done) | skip
 ·injection h with h;subst h;rename_i a b;cases a<;>cases b<;>rfl
 ·rw[aa] at h
  split at h
  ·injection h with h;subst h;simp[eqV,rO];rfl
  ·cases h
 ·injection h with h;subst h;simp only[eqV];rename_i s1 s2;obtain ⟨⟨x⟩⟩:=s1;obtain ⟨⟨y⟩⟩:=s2;show ((⟨x⟩:Array UInt8) == ⟨y⟩)=_;rw[Bool.eq_iff_iff];simp
theorem te:∀{xs ys:List AV} {vs us:List Value} {b:Bool},dy xs ys=some b->RVs w γ A bd xs vs->RVs w γ A bd ys us->lP vs us=b:=by
 intro xs
 induction xs with
 | nil =>
  intro ys vs us b h hx hy;cases ys with
  | nil =>
   simp only[dy] at h;injection h with h;subst h;have h1:=hx.1;have h2:=hy.1;cases vs<;>cases us<;>simp_all [lP]
  | cons y ys=>cases h
 | cons x xs ih =>
  intro ys vs us b h hx hy;cases ys with
  | nil=>cases h
  | cons y ys =>
   cases vs with
   | nil=>have:=hx.1;simp at this
   | cons v vs =>
    cases us with
    | nil=>have:=hy.1;simp at this
    | cons u us =>
     obtain ⟨x1,x2⟩:=hx.tail;obtain ⟨y1,y2⟩:=hy.tail;simp only[dy] at h
     split at h
     ·rename_i p q hp hq;injection h with h;subst h;simp only[lP,vG hp x1 y1,ih hq x2 y2,aa];cases p<;>simp
     ·cases h
theorem tX {xs:List AV}{v:Value}(h:RV w γ A bd (.agg xs) v):∃vs,v=.agg vs/\RVs w γ A bd xs vs.toList:=by
 cases h with
 | agg _ _ vs hl h1 h2=>exact ⟨vs,rfl,by simpa using hl,λi x u hx hu=>h2 i x u hx (by simpa using hu)⟩
theorem EA {t:TypeId}{ds:List TypeDesc}{xs ys:Array Value}(h:iM C.P t=some ds)(hag:dm C.P t=true)(hx:aK ds xs.toList=true)(hy:aK ds ys.toList=true) :
  C.P.eqGuardType C.P.depth t=false/\(Op.equal t (.agg xs) (.agg ys)).run C.P w=.ok (lP xs.toList ys.toList) w:=by
 unfold iM at h;rw[aa] at h
 split at h
 ·cases h
 ·rename_i hg;refine ⟨by simpa using hg,?_⟩;have:=Bv (P:=C.P) 9992 8 t ds h w xs.toList ys.toList hx hy;unfold mkV at this;rw[hag] at this;simpa [Op.equal,Op.maxDepth] using this
theorem jW (t:TypeId)(x y:Value):Op.equal t x y=Op.equalIn (9999+1) t x y:=rfl
def EqFin (C:Cfg)(w:World)(ty:TypeId)(xo yo:Operand)(va vb:Value)(r:Bool):Prop :=
 (∀op,(eqGuard op ty xo yo va vb).run C.P w=.ok () w)/\(binOp .eql ty va vb).run C.P w=.ok (.bool r) w/\(binOp .neq ty va vb).run C.P w=.ok (.bool (!r)) w
theorem EqFin.mk' {ty:TypeId}{xo yo:Operand}{va vb:Value}{r:Bool}(h1:∀op,(eqGuard op ty xo yo va vb).run C.P w=.ok () w)(h2:(Op.equal ty va vb).run C.P w=.ok r w)
  (h3:binOp .eql ty va vb=(do pure (.bool (<-Op.equal ty va vb)))) (h4:binOp .neq ty va vb=(do pure (.bool (!(<-Op.equal ty va vb))))):EqFin C w ty xo yo va vb r:=by
 refine ⟨h1,?_,?_⟩
 ·rw[h3];simp[h2]
 ·rw[h4];simp[h2]
section kinds
variable {ty:TypeId}{xo yo:Operand}{a b:AV}{va vb:Value}{r:Bool}(ha:RV w γ A bd a va)(hb:RV w γ A bd b vb)
include ha hb
theorem IC {ds:List TypeDesc}(hf:iM C.P ty=some ds)(hag:dm C.P ty=true)(h:eqA (.flat ds) a b=some r):EqFin C w ty xo yo va vb r:=by
 cases a<;>try (cases h;done)
 cases b<;>try (cases h;done)
 rename_i xs ys;change au (cY ds xs&&cY ds ys) (dy xs ys) none=some r at h;rw[aa] at h
 split at h
 ·rename_i hk;simp only[Bool.and_eq_true] at hk;obtain ⟨vs,rfl,hv⟩:=tX ha;obtain ⟨us,rfl,hv'⟩:=tX hb;obtain ⟨g1,g2⟩:=EA (w:=w) hf hag (tG hk.1 hv) (tG hk.2 hv');rw[te h hv hv'] at g2;exact .mk' (λop=>run_eqGuard_agg w op ty xo yo vs us g1) g2 rfl rfl
 ·cases h
theorem Hl {e:TypeId}(hu:C.P.underlying ty=some (.slice e))(h:eqA .slice a b=some r):EqFin C w ty xo yo va vb r:=by
 cases ha<;>try (cases h;done)
 all_goals cases hb<;>first | (cases h;done) | (injection h with h;subst h;exact .mk' (λop=>by cases op<;>simp[eqGuard]) (by rw[jW];unfold Op.equalIn;simp[aC hu]) rfl rfl)
theorem ID {p q:Array TypeId}{v:Bool}(hu:C.P.underlying ty=some (.func p q v))(h:eqA .func a b=some r):EqFin C w ty xo yo va vb r:=by
 cases ha<;>try (cases h;done)
 all_goals cases hb<;>first | (cases h;done) | (injection h with h;subst h;exact .mk' (λop=>by cases op<;>simp[eqGuard]) (by rw[jW];unfold Op.equalIn;simp[aC hu]) rfl rfl)
theorem IB (hu:C.P.underlying ty=some .bool)(h:eqA .bool a b=some r):EqFin C w ty xo yo va vb r:=by
 cases ha<;>try (cases h;done)
 cases hb<;>try (cases h;done)
 rename_i x y;injection h with h;subst h;refine .mk' (λop=>by cases op<;>simp[eqGuard]) ?_ rfl rfl;rw[jW];unfold Op.equalIn;simp[aC hu];cases x<;>cases y<;>rfl
theorem Hk {ms:Array (String×TypeId)}(hu:C.P.underlying ty=some (.interface ms))(h:eqA (.iface ms.isEmpty) a b=some r):EqFin C w ty xo yo va vb r:=by
 cases ha<;>try (cases h;done)
 ·cases hb<;>try (cases h;done)
  ·change au ms.isEmpty (some true) none=some r at h;rw[aa] at h
   split at h
   ·rename_i he;injection h with h;subst h;refine .mk' (λop=>?_) (by rw[jW];unfold Op.equalIn;simp[aC hu]) rfl rfl;have hg:(Op.eqGuardIn Op.maxDepth ty .nilIface .nilIface).run C.P w=.ok false w:=by show (Op.eqGuardIn (9999+1) ty .nilIface .nilIface).run C.P w=_;unfold Op.eqGuardIn;simp only[Sem.run_bind,aC hu,Result.andThen_ok,he,Sem.run_pure,Bool.not_true]
    unfold eqGuard;generalize Op.eqGuardIn Op.maxDepth ty .nilIface .nilIface=m at hg ⊢;cases op<;>simp[hg]
   ·cases h
  ·injection h with h;subst h;exact .mk' (λop=>by cases op<;>simp[eqGuard]) (by rw[jW];unfold Op.equalIn;simp[aC hu]) rfl rfl
 ·cases hb<;>try (cases h;done)
  injection h with h;subst h;exact .mk' (λop=>by cases op<;>simp[eqGuard]) (by rw[jW];unfold Op.equalIn;simp[aC hu]) rfl rfl
end kinds
theorem F0 {ty:TypeId}{xo yo:Operand}{a b:AV}{va vb:Value}{r:Bool}(hne:oP C.P ty≠.other)(h:eqA (oP C.P ty) a b=some r)(ha:RV w γ A bd a va)(hb:RV w γ A bd b vb) :
  EqFin C w ty xo yo va vb r:=by
 unfold oP at h hne;cases hu:C.P.underlying ty with
 | none=>simp only[hu] at hne;exact absurd rfl hne
 | some d =>
  have agg:mW d=true->eqA (match iM C.P ty with | some ds=>EqKind.flat ds | none=>.other) a b=some r->EqFin C w ty xo yo va vb r:=by
   intro hd h;cases hf:iM C.P ty with
   | none=>rw[hf] at h;cases h
   | some ds=>rw[hf] at h;exact IC ha hb hf (by rw[(dq hu).1];exact hd) h
  simp only[hu] at h hne;cases d
  case struct fs=>exact agg rfl h
  case array n e=>exact agg rfl h
  case slice e=>exact Hl ha hb hu h
  case func p q v=>exact ID ha hb hu h
  case bool=>exact IB ha hb hu h
  case interface ms=>exact Hk ha hb hu h
  all_goals exact absurd rfl hne
noncomputable def MN (op:BinOp)(x y:AV):OR:=match x,y with | .int k m,.int k' n=>orV ((ei op).run k m k' n) | _,_=>.fail
theorem K5 {op:BinOp}{ty:TypeId}{xo yo:Operand}{a b:AV}{va vb:Value}(ha:RV w γ A bd a va)(hb:RV w γ A bd b vb) :
  ValSim C A bd w γ (do eqGuard op ty xo yo va vb;binOp op ty va vb) ((xP C.P op ty).run a b):=by
 have mV:ValSim C A bd w γ (do eqGuard op ty xo yo va vb;binOp op ty va vb) (MN op a b):=by
  unfold MN;cases ha with
  | int _ k m =>
   cases hb with
   | int _ k' n =>
    refine mo λy hy=>?_;obtain ⟨v,h1,h2⟩:=EG (P:=C.P) (ty:=ty) (w:=w) (γ:=γ) (A:=A) (bd:=bd) hy;refine ⟨v,?_,h2⟩;have:(eqGuard op ty xo yo (.int k m) (.int k' n)).run C.P w=.ok () w:=by cases op<;>simp[eqGuard]
    simp[this,h1]
   | _=>trivial
  | _=>trivial
 cases op
 case eql =>
  unfold xP;dsimp only
  split
  ·exact mV
  ·rename_i hk;dsimp only;cases hr:eqA (oP C.P ty) a b with
   | none=>trivial
   | some r =>
    obtain ⟨h1,h2,_⟩:=F0 (xo:=xo) (yo:=yo) (λe=>hk e) hr ha hb;exact ⟨.bool r,by simp[h1,h2],.bool _ _⟩
 case neq =>
  unfold xP;dsimp only
  split
  ·exact mV
  ·rename_i hk;dsimp only;cases hr:eqA (oP C.P ty) a b with
   | none=>trivial
   | some r =>
    obtain ⟨h1,_,h2⟩:=F0 (xo:=xo) (yo:=yo) (λe=>hk e) hr ha hb;exact ⟨.bool (!r),by simp[h1,h2],by rw[notb_eq];exact .bool _ _⟩
 all_goals exact mV
end
end Hx
end
section
namespace Hx
open Go
section
variable {P:Program}
theorem yE (em:Bool)(D:Nat):∀(d:Nat) (t:TypeId) (ds:List TypeDesc),lz P d t=some ds->∀(w:World) (xs:List Value),aK ds xs=true ->
  (Instr.checkKey em (D+d) t (mkV P t xs)).run P w=.ok () w:=by
 intro d
 induction d with
 | zero=>intro t ds h;cases h
 | succ d ih =>
  intro t ds h w xs hx;unfold lz at h;have one:∀k,P.underlying t=some k->lq k=true->mW k=false->ds=[k]->(Instr.checkKey em (D+(d+1)) t (mkV P t xs)).run P w=.ok () w:=by
   intro k hu hk hag hds;obtain ⟨h1,_⟩:=dq hu;subst hds;have hm:∀zs,mkV P t zs=zs.headD undef:=by intro zs;unfold mkV;rw[h1,hag];rfl
   rw[hm];have lx:=aV hx
   match xs,lx with
   | [x],_ =>
    simp only[aK,Bool.and_true] at hx;simp only[List.headD_cons,<-Nat.add_assoc];unfold Instr.checkKey;cases k<;>simp[lq] at hk<;>cases x<;>simp[ff] at hx<;>simp[aC hu]
  cases hu:P.underlying t with
  | none=>rw[hu] at h;cases h
  | some k =>
   rw[hu] at h;cases k
   case struct fs =>
    simp only[aa] at h
    split at h
    ·cases h
    ·have hm:∀zs,mkV P t zs=.agg zs.toArray:=by intro zs;unfold mkV;rw[(dq hu).1];rfl
     rw[hm,<-Nat.add_assoc,Instr.checkKey];simp only[Sem.run_bind,aC hu,Result.andThen_ok];rw[<-Array.forIn_toList];have go:∀(L:List Field) (k:Nat) (ds:List TypeDesc),tB P (lz P d) L k=some ds->aK ds (xs.drop k)=true ->
       (forIn L PUnit.unit λ(f:Field) (_:PUnit)=>(do
        if f.name ≠ "_" then Instr.checkKey em (D + d) f.type (← part f.type xs.toArray f.offset)
        pure (ForInStep.yield PUnit.unit):Sem (ForInStep PUnit))).run P w=.ok PUnit.unit w:=by
      intro L
      induction L with
      | nil=>intro k ds _ _;simp
      | cons f L ihL =>
       intro k ds h hx;simp only[tB] at h
       split at h
       ·rename_i ds1 h1
        split at h
        ·rename_i r hr;rw[aa] at h
         split at h
         ·rename_i hcond;simp only[Bool.and_eq_true,bne_iff_ne,ne_eq,beq_iff_eq] at hcond;obtain ⟨⟨hname,hoff⟩,hsz⟩:=hcond;have hoff:=aD hoff;injection h with h;subst h;obtain ⟨x1,x2⟩:=dN hx;rw[List.drop_drop] at x2;have lx:=aV hx;simp at lx;obtain ⟨kd,hu',hone⟩:=fJ h1;have p1:(part f.type xs.toArray f.offset).run P w=.ok (mkV P f.type ((xs.drop k).take ds1.length)) w:=by
           rw[hoff];have:=rT (w:=w) (xs:=xs.toArray) (off:=k) hu' hsz hone λhg=>by have:=hone hg;simp;omega
           simpa using this
          have p2:=ih _ _ h1 w _ x1;have p3:=ihL _ _ hr x2;simp only[List.forIn_cons,Sem.run_bind,ne_eq,hname,not_false_eq_true,if_true,Result.andThen_ok,p1,p2,Sem.run_pure];exact p3
         ·cases h
        ·cases h
       ·cases h
     have:=go fs.toList 0 ds h (by simpa using hx);simp at this ⊢;rw[this];rfl
   case array n e =>
    simp only at h
    split at h
    ·rename_i de hde;simp only[aa] at h
     split at h
     ·rename_i hsz;injection h with h;subst h;have hsz:szT P e=some de.length:=by simpa using hsz
      obtain ⟨kd,hue,hone⟩:=fJ hde;have hm:∀zs,mkV P t zs=.agg zs.toArray:=by intro zs;unfold mkV;rw[(dq hu).1];rfl
      rw[hm,<-Nat.add_assoc,Instr.checkKey];simp only[Sem.run_bind,aC hu,Result.andThen_ok];simp only[Std.Legacy.Range.forIn_eq_forIn_range',Std.Legacy.Range.size,Nat.sub_zero,Nat.add_one_sub_one,Nat.div_one];have go:∀(n i:Nat),aK (List.replicate n de).flatten (xs.drop (i*de.length))=true ->
        (forIn (List.range' i n) PUnit.unit λ(i:Nat) (_:PUnit)=>(do
         Instr.checkKey em (D+d) e (<-part e xs.toArray (i*(<-Go.sizeOf e)))
         pure (ForInStep.yield PUnit.unit):Sem (ForInStep PUnit))).run P w=.ok PUnit.unit w:=by
       intro n
       induction n with
       | zero=>intro i _;simp
       | succ n ihn =>
        intro i hx;rw[List.replicate_succ,List.flatten_cons] at hx;obtain ⟨x1,x2⟩:=dN hx;have lx:=aV x1;simp at lx;rw[List.drop_drop] at x2;have em':i*de.length+de.length=(i+1)*de.length:=by rw[Nat.add_mul,Nat.one_mul]
        rw[em'] at x2;have p1:(part e xs.toArray (i*de.length)).run P w=.ok (mkV P e ((xs.drop (i*de.length)).take de.length)) w:=by
         have:=rT (w:=w) (xs:=xs.toArray) (off:=i*de.length) hue hsz hone λhg=>by have:=hone hg;simp;omega
         simpa using this
        have p2:=ih e de hde w _ x1;have p3:=ihn (i+1) x2;rw[List.range'_succ];simp only[List.forIn_cons,Sem.run_bind,aW hsz,Result.andThen_ok,p1,p2,Sem.run_pure];exact p3
      have:=go n 0 (by simpa using hx);simp at this ⊢;rw[this];rfl
     ·cases h
    ·cases h
   all_goals
    simp only[aa] at h
    split at h
    ·rename_i hk;injection h with h;exact one _ hu hk rfl h.symm
    ·cases h
end
section
variable {C:Cfg}{A:Nat->Nat->Prop}{bd:Nat}{w w':World}{γ γ':Gm}{hg:Nat->AObj}{nx:Nat}
def zy (P:Program)(kt:TypeId)(k:AV)(v:Value):Prop :=
 ∃d ds,d<=8/\lz P d kt=some ds/\aK ds v.cells.toList=true/\v=mkV P kt v.cells.toList/\(dm P kt=true↔∃xs,k=.agg xs)
theorem EH {kt:TypeId}{k:AV}{v:Value}(h:mj (eI C.P kt) k=true)(hk:RV w γ A bd k v):zy C.P kt k v:=by
 unfold eI at h;cases hu:C.P.underlying kt with
 | none=>rw[hu] at h;cases h
 | some d =>
  have agg:mW d=true->mj (match iM C.P kt with | some ds=>KeyKind.flat ds | none=>.other) k=true->zy C.P kt k v:=by
   intro hd h;cases hf:iM C.P kt with
   | none=>rw[hf] at h;cases h
   | some ds =>
    rw[hf] at h;obtain ⟨xs,rfl⟩:∃xs,k=.agg xs:=by cases k<;>first | exact ⟨_,rfl⟩ | (cases h;done)
    change cY ds xs=true at h;obtain ⟨vs,rfl,hv⟩:=tX hk;have hag:dm C.P kt=true:=by rw[(dq hu).1];exact hd
    unfold iM at hf;rw[aa] at hf
    split at hf
    ·cases hf
    ·refine ⟨8,ds,Nat.le_refl _,hf,tG h hv,?_,?_⟩
     ·unfold mkV;rw[hag];simp[Value.cells]
     ·simp[hag]
  have one:lq d=true->mj (.one d) k=true->mW d=false->(∀f,lz C.P (f+1) kt=some [d])->zy C.P kt k v:=by
   intro hf hk' hag hfl;have hag':dm C.P kt=false:=by rw[(dq hu).1];exact hag
   have hkv:=AN hk' hk;refine ⟨1,[d],by decide,hfl 0,?_,?_,?_⟩
   ·cases v<;>simp_all [Value.cells,aK,ff]<;>cases d<;>simp_all [ff]
   ·unfold mkV;rw[hag'];cases v<;>simp[Value.cells]<;>cases d<;>simp_all [ff]
   ·rw[hag'];constructor
    ·intro h;cases h
    ·rintro ⟨xs,rfl⟩;cases d<;>cases hk'
  rw[hu] at h;cases d
  case struct fs=>exact agg rfl h
  case array n e=>exact agg rfl h
  all_goals
   simp only[aa] at h
   split at h
   ·rename_i hf;exact one hf h rfl (λf=>by unfold lz;rw[hu];simp only[aa];rw[if_pos hf])
   ·cases h
theorem wu {d:TypeDesc}{x y:AV}{v u:Value}{b:Bool}(h:mC x y=some b)(hx:RV w γ A bd x v)(hy:RV w γ A bd y u)(hk:ff d v=true):ff d u=true:=by
 cases hx<;>try (cases h;done)
 all_goals cases hy<;>try (cases h;done)
 ·cases d<;>simp_all [ff]
 ·simp only[mC,aa,om] at h
  split at h
  ·rename_i e;simp at e;subst e;cases d<;>simp_all [ff]
  ·cases h
 ·cases d<;>simp_all [ff]
theorem sH:∀{ds:List TypeDesc} {xs ys:List AV} {vs us:List Value} {b:Bool},dy xs ys=some b->RVs w γ A bd xs vs->RVs w γ A bd ys us->aK ds vs=true->aK ds us=true:=by
 intro ds
 induction ds with
 | nil =>
  intro xs ys vs us b h hx hy hk;have h0:=aV hk;have h1:=hx.1;have:xs=[]:=List.eq_nil_of_length_eq_zero (by simp at h0;simp[h1,h0]);subst this;cases ys with
  | nil=>have h2:=hy.1;have:us=[]:=List.eq_nil_of_length_eq_zero (by simpa using h2.symm);subst this;rfl
  | cons y ys=>cases h
 | cons d ds ih =>
  intro xs ys vs us b h hx hy hk;cases vs with
  | nil=>cases hk
  | cons v vs =>
   cases xs with
   | nil=>have:=hx.1;simp at this
   | cons x xs =>
    cases ys with
    | nil=>cases h
    | cons y ys =>
     cases us with
     | nil=>have:=hy.1;simp at this
     | cons u us =>
      obtain ⟨x1,x2⟩:=hx.tail;obtain ⟨y1,y2⟩:=hy.tail;simp only[aK,Bool.and_eq_true] at hk;simp only[dy] at h
      split at h
      ·rename_i p q hp hq;simp only[aK,Bool.and_eq_true];exact ⟨wu hp x1 y1 hk.1,ih hq x2 y2 hk.2⟩
      ·cases h
theorem tH {kt:TypeId}(h:dm C.P kt=false)(x:Value):mkV C.P kt [x]=x:=by unfold mkV;rw[h];rfl
theorem yO {kt:TypeId}{k k':AV}{v v':Value}{b:Bool}(hk:zy C.P kt k v)(h:oh k k'=some b)(h1:RV w γ A bd k v)(h2:RV w γ A bd k' v') :
  zy C.P kt k' v'/\(Op.equal kt v v').run C.P w=.ok b w/\(dm C.P kt=false->∀kd,C.P.underlying kt=some kd->Instr.sameNow kd v v'=some b):=by
 obtain ⟨d,ds,hd,hfl,hkv,hmk,hag⟩:=hk;cases hg:dm C.P kt with
 | true =>
  obtain ⟨xs,rfl⟩:=hag.1 hg;obtain ⟨ys,rfl⟩:∃ys,k'=.agg ys:=by cases k'<;>first | exact ⟨_,rfl⟩ | (cases h;done)
  change dy xs ys=some b at h;obtain ⟨vs,rfl,hv⟩:=tX h1;obtain ⟨us,rfl,hu⟩:=tX h2;have hkv':aK ds us.toList=true:=sH h hv hu hkv;have he:=Bv (P:=C.P) (10000 - d) d kt ds hfl w vs.toList us.toList hkv hkv';have hm:∀zs:Array Value,mkV C.P kt zs.toList=.agg zs:=by intro zs;unfold mkV;rw[hg];simp
  rw[show 10000 - d+d=9999+1 from by omega,hm,hm,te h hv hu] at he;refine ⟨⟨d,ds,hd,hfl,hkv',(hm us).symm,by simp[hg]⟩,he,λh=>by cases h⟩
 | false =>
  have hna:∀xs,k≠.agg xs:=λxs e=>by rw[hag.2 ⟨xs,e⟩] at hg;cases hg
  have hna':∀xs,k'≠.agg xs:=by rintro xs rfl;cases k<;>first | (cases h;done) | exact absurd rfl (hna _)
  have h':mC k k'=some b:=by cases k<;>first | (exact absurd rfl (hna _)) | (cases k'<;>first | (exact absurd rfl (hna' _)) | exact h)
  obtain ⟨kd,hu,hone⟩:=fJ hfl;have h1len:=hone hg;obtain ⟨d0,rfl⟩:∃d0,ds=[d0]:=by
   match ds,h1len with
   | [d0],_=>exact ⟨d0,rfl⟩
  have hv1:v.cells.toList=[v]:=by cases h1<;>first | rfl | (cases h';done)
  have hv1':v'.cells.toList=[v']:=by
   cases h1<;>try (cases h';done)
   all_goals cases h2<;>first | rfl | (cases h';done)
  rw[hv1] at hkv;simp only[aK,Bool.and_true] at hkv;have hkv':=wu h' h1 h2 hkv;have he:=Bv (P:=C.P) (10000 - d) d kt [d0] hfl w [v] [v'] (by simp[aK,hkv]) (by simp[aK,hkv']);rw[show 10000 - d+d=9999+1 from by omega,tH hg,tH hg] at he;simp only[lP,Bool.and_true,vG h' h1 h2] at he;refine ⟨⟨d,[d0],hd,hfl,by rw[hv1'];simp[aK,hkv'],by rw[hv1',tH hg],?_⟩,he,λ_ kd' hu'=>?_⟩
  ·rw[hg];constructor
   ·intro h;cases h
   ·rintro ⟨xs,e⟩;exact absurd e (hna' xs)
  ·have e1:=vG h' h1 h2;have:d0=kd':=by
    cases d with
    | zero=>cases hfl
    | succ d =>
     unfold lz at hfl;rw[hu'] at hfl;have hgd:=(dq hu').1;rw[hg] at hgd;cases kd'<;>simp[mW] at hgd<;>simp only[aa] at hfl<;>split at hfl<;>first | (cases hfl;done) | (injection hfl with hfl;injection hfl with hfl;exact hfl.symm)
   subst this;cases h1<;>try (cases h';done)
   all_goals cases h2<;>try (cases h';done)
   ·cases d0<;>simp[ff] at hkv;simp[Instr.sameNow];simpa [eqV] using e1
   ·cases d0<;>simp[ff] at hkv hkv';subst hkv;subst hkv';simp[Instr.sameNow];simpa [eqV] using e1
   ·cases d0<;>simp[ff] at hkv;simp[Instr.sameNow];simpa [eqV] using e1
end
end Hx
end
section
namespace Hx
open Go
section
variable {C:Cfg}{A:Nat->Nat->Prop}{bd:Nat}{w w':World}{γ γ':Gm}{hg:Nat->AObj}{nx:Nat}
theorem FM (s1 s2:ByteArray):(s1 == s2)=decide (s1=s2):=by obtain ⟨⟨x⟩⟩:=s1;obtain ⟨⟨y⟩⟩:=s2;show ((⟨x⟩:Array UInt8) == ⟨y⟩)=_;rw[Bool.eq_iff_iff];simp
theorem Hm:∀{ds:List TypeDesc} {xs ys:List Value},aK ds xs=true->aK ds ys=true->lP xs ys=true->xs=ys:=by
 intro ds
 induction ds with
 | nil=>intro xs ys h1 h2 _;rw[List.eq_nil_of_length_eq_zero (aV h1),List.eq_nil_of_length_eq_zero (aV h2)]
 | cons d ds ih =>
  intro xs ys h1 h2 h;cases xs with
  | nil=>cases h1
  | cons x xs=>cases ys with
   | nil=>cases h2
   | cons y ys =>
    simp only[aK,lP,Bool.and_eq_true] at h1 h2 h;rw[ih h1.2 h2.2 h.2];congr 1;cases d<;>cases x<;>simp[ff] at h1<;>cases y<;>simp[ff] at h2<;>simp[eqV,FM] at h<;>simp_all
theorem Ad {ds:List TypeDesc}{v:Value}(hk:aK ds v.cells.toList=true):Instr.sameBits 10000 v v=true:=by
 have one:∀(d:TypeDesc) (x:Value),ff d x=true->∀n,Instr.sameBits n x x=true:=by intro d x h n;cases d<;>cases x<;>simp[ff] at h<;>cases n<;>simp[Instr.sameBits,FM]
 have all:∀(ds:List TypeDesc) (xs:List Value),aK ds xs=true->((xs.zip xs).all λ(x,y)=>Instr.sameBits 9999 x y)=true:=by
  intro ds
  induction ds with
  | nil=>intro xs h;rw[List.eq_nil_of_length_eq_zero (aV h)];rfl
  | cons d ds ih =>
   intro xs h;cases xs with
   | nil=>rfl
   | cons x xs =>
    simp only[aK,Bool.and_eq_true] at h;simp only[List.zip_cons_cons,List.all_cons,Bool.and_eq_true];exact ⟨one d x h.1 _,ih xs h.2⟩
 by_cases h:∃a,v=.agg a
 ·obtain ⟨a,rfl⟩:=h;have:=all ds a.toList hk;show (Instr.sameBits (9999+1) (.agg a) (.agg a))=true;simp only[Instr.sameBits,beq_self_eq_true,Bool.true_and];exact this
 ·have hc:v.cells.toList=[v]:=by cases v<;>first | rfl | exact absurd ⟨_,rfl⟩ h
  rw[hc] at hk;cases ds with
  | nil=>cases hk
  | cons d ds=>simp only[aK,Bool.and_eq_true] at hk;exact one d v hk.1 _
theorem yP {kt:TypeId}{k k':AV}{v v':Value}(hk:zy C.P kt k v)(h:oh k k'=some true)(h1:RV w γ A bd k v)(h2:RV w γ A bd k' v'):v'=v:=by
 obtain ⟨h3,h4,_⟩:=yO (w:=w) hk h h1 h2;obtain ⟨d,ds,e1,e2,e3,e4,e5⟩:=hk;obtain ⟨d',ds',f1,f2,f3,f4,f5⟩:=h3;have hc:dy k.cells k'.cells=some true:=by
  cases k<;>try (cases h;done)
  all_goals cases k'<;>try (cases h;done)
  all_goals first | exact h | (simp only[oh] at h;simp[AV.cells,dy,h])
 have t1:k.isTup=false:=by
  cases k<;>try rfl
  cases k'<;>cases h
 have t2:k'.isTup=false:=by
  cases k<;>try (cases h;done)
  all_goals cases k'<;>first | rfl | (cases h;done)
 have r1:=(nz h1 t1).1;have r2:=(nz h2 t2).1;rw[e4,f4,Hm e3 (sH hc r1 r2 e3) (te hc r1 r2)]
theorem ol {P:Program}{ds:List TypeDesc}{v:Value}(hk:aK ds v.cells.toList=true):(Instr.keyThatStays v v).run P w=.ok v w:=by unfold Instr.keyThatStays;rw[Ad hk];rfl
def EsRel (w:World)(γ:Gm)(A:Nat->Nat->Prop)(bd:Nat)(es:List (AV×AV))(l:List MapEntry):Prop :=
 es.length=l.length/\∀(i:Nat) k x e,es[i]?=some (k,x)->l[i]?=some e->RV w γ A bd k e.key/\RV w γ A bd x e.val
theorem EsRel.tail {p:AV×AV}{es:List (AV×AV)}{e:MapEntry}{l:List MapEntry}(h:EsRel w γ A bd (p::es) (e::l)) :
  RV w γ A bd p.1 e.key/\RV w γ A bd p.2 e.val/\EsRel w γ A bd es l:=by
 obtain ⟨h1,h2⟩:=h.2 0 p.1 p.2 e rfl rfl;exact ⟨h1,h2,by have:=h.1;simpa using this,λi k x e hi he=>h.2 (i+1) k x e (by simpa using hi) (by simpa using he)⟩
def Ai (k:AV)(es:List (AV×AV))(l:List MapEntry)(i0:Nat)(r:Option (Nat×AV))(R:Option (Nat×Value)):Prop :=
 match r with
 | none=>R=none
 | some (i,x)=>∃j k' e,i=i0+j/\es[j]?=some (k',x)/\l[j]?=some e/\oh k k'=some true/\R=some (i,e.val)
theorem IN {kt:TypeId}{kd:TypeDesc}{k:AV}{v:Value}(hu:C.P.underlying kt=some kd)(hk:zy C.P kt k v)(h1:RV w γ A bd k v) :
  ∀(es:List (AV×AV)) (l:List MapEntry) (i:Nat) (r:Option (Nat×AV)),gQ k i es=some r->EsRel w γ A bd es l ->
   ∃R,Ai k es l i r R/\(Instr.findAsking kt v l i).run C.P w=.ok R w/\(dm C.P kt=false->Instr.findNow kd v l i=some R):=by
 intro es
 induction es with
 | nil =>
  intro l i r h hes;have:=hes.1;have:l=[]:=List.eq_nil_of_length_eq_zero (by simpa using this.symm);subst this;simp only[gQ] at h;injection h with h;subst h;exact ⟨none,rfl,rfl,λ_=>rfl⟩
 | cons p es ih =>
  intro l i r h hes;cases l with
  | nil=>have:=hes.1;simp at this
  | cons e l =>
   obtain ⟨k',x⟩:=p;obtain ⟨e1,e2,e3⟩:=hes.tail;simp only[gQ] at h
   split at h
   ·rename_i hq;injection h with h;subst h;obtain ⟨_,q2,q3⟩:=yO hk hq h1 e1;refine ⟨some (i,e.val),⟨0,k',e,rfl,rfl,rfl,hq,rfl⟩,?_,λhg=>?_⟩
    ·unfold Instr.findAsking;simp[q2]
    ·unfold Instr.findNow;rw[q3 hg kd hu]
   ·rename_i hq;obtain ⟨_,q2,q3⟩:=yO hk hq h1 e1;obtain ⟨R,r1,r2,r3⟩:=ih l (i+1) r h e3;refine ⟨R,?_,?_,λhg=>?_⟩
    ·unfold Ai at r1 ⊢;cases r with
     | none=>exact r1
     | some p =>
      obtain ⟨j,k'',e',f1,f2,f3,f4,f5⟩:=r1;exact ⟨j+1,k'',e',by omega,by simpa using f2,by simpa using f3,f4,f5⟩
    ·unfold Instr.findAsking;simp[q2,r2]
    ·unfold Instr.findNow;rw[q3 hg kd hu];exact r3 hg
   ·cases h
theorem qX {kt:TypeId}{kd:TypeDesc}{k:AV}{v:Value}(hu:C.P.underlying kt=some kd)(hk:zy C.P kt k v)(h1:RV w γ A bd k v)
  {es:List (AV×AV)} {l:List MapEntry} {r:Option (Nat×AV)} (h:gQ k 0 es=some r) (hes:EsRel w γ A bd es l) :
  ∃R,Ai k es l 0 r R/\(Instr.findKey kt v l).run C.P w=.ok R w:=by
 obtain ⟨R,r1,r2,r3⟩:=IN hu hk h1 es l 0 r h hes;refine ⟨R,r1,?_⟩;unfold Instr.findKey;simp only[Sem.run_bind,aC hu,Result.andThen_ok];cases hg:dm C.P kt with
 | false=>rw[r3 hg];rfl
 | true =>
  cases l with
  | nil=>simp only[Instr.findNow];exact r2
  | cons e l =>
   have:Instr.sameNow kd v e.key=none:=by have:=(dq hu).1;rw[hg] at this;cases kd<;>simp[mW] at this<;>rfl
   simp only[Instr.findNow,this];exact r2
theorem IM (k:AV):∀(es:List (AV×AV)) (i:Nat) (r:Option AV),mg k es=some r->∃q,gQ k i es=some q/\r=q.map (·.2):=by
 intro es
 induction es with
 | nil=>intro i r h;simp only[mg] at h;injection h with h;subst h;exact ⟨none,rfl,rfl⟩
 | cons p es ih =>
  intro i r h;obtain ⟨k',x⟩:=p;simp only[mg] at h;simp only[gQ]
  split at h
  ·rename_i hq;injection h with h;subst h;exact ⟨some (i,x),rfl,rfl⟩
  ·exact ih _ _ h
  ·cases h
theorem L8 (k x:AV):∀(es es':List (AV×AV)) (i:Nat),HU k x es=some es'->∃q,gQ k i es=some q /\
  match q with
  | none=>es'=es++[(k,x)]
  | some (n,_)=>∃j,n=i+j/\es'=es.set j (k,x):=by
 intro es
 induction es with
 | nil=>intro es' i h;simp only[HU] at h;injection h with h;subst h;exact ⟨none,rfl,rfl⟩
 | cons p es ih =>
  intro es' i h;obtain ⟨k',y⟩:=p;simp only[HU] at h;simp only[gQ]
  split at h
  ·rename_i hq;injection h with h;subst h;exact ⟨some (i,y),rfl,0,rfl,rfl⟩
  ·rename_i hq
   split at h
   ·rename_i r hr;injection h with h;subst h;obtain ⟨q,q1,q2⟩:=ih r (i+1) hr;refine ⟨q,q1,?_⟩;cases q with
    | none=>simp only at q2 ⊢;rw[q2];rfl
    | some p =>
     obtain ⟨j,j1,j2⟩:=q2;exact ⟨j+1,by omega,by rw[j2];rfl⟩
   ·cases h
  ·cases h
theorem Ba {t:TypeId}{z:AV}(h:wM C.P t=some z):∃v,(zeroValue t).run C.P w=.ok v w/\RV w γ A bd z v:=by
 unfold wM at h;cases hi:C.P.info? t with
 | none=>rw[hi] at h;cases h
 | some i =>
  rw[hi] at h;cases hz:i.zero with
  | none=>simp[hz] at h
  | some v =>
   simp only[Option.bind_some,hz] at h;refine ⟨v,by simp[zeroValue,jf hi,hz],?_⟩
   split at h
   ·rename_i cs;cases hq:xl cs.toList with
    | none=>rw[hq] at h;cases h
    | some as =>
     rw[hq] at h;injection h with h;subst h;obtain ⟨r1,r2⟩:=mm (w:=w) (γ:=γ) (A:=A) (bd:=bd) hq;exact .agg _ as cs (by simpa using r1.1) r2 λi x v hx hv=>r1.2 i x v hx (by simpa using hv)
   ·exact (EP h).1
theorem yS (hr:Rel C A bd w γ hg nx){id:Nat}{es:List (AV×AV)}(hid:hg id=.map es) :
  (γ id).kind=2/\(γ id).wr=true/\∃esC:Array MapEntry,w.heap[(γ id).blk]?=some (.map esC esC.size)/\EsRel w γ A bd es esC.toList/\∀(i:Nat) e,esC[i]?=some e->e.born=i:=by
 have hob:=hr.obj id;rw[hid] at hob;obtain ⟨k1,k2,esC,k3,k4,k5⟩:=hob;refine ⟨k1,k2,esC,k3,⟨by simpa using k4,λi k x e hi he=>(k5 i k x e hi (by simpa using he)).2⟩,λi e he=>?_⟩;have hlt:i<es.length:=by rw[k4];exact (Array.getElem?_eq_some_iff.1 he).1
 exact (k5 i (es[i]).1 (es[i]).2 e (by simp[hlt]) he).1
theorem EJ {ty kt et:TypeId}{z:AV}{ok:Bool}{m k:T->AV}{t:T}{g:G}{vm vk:Value}(hr:Rel C A bd w γ hg nx)
  (hu:C.P.underlying ty=some (.map kt et)) (hz:wM C.P et=some z) (hm:RV w γ A bd (m t) vm) (hk:RV w γ A bd (k t) vk) (agree:∀id∈ak (m t),hg id=g.h.get id) :
  ValSim C A bd w γ (Instr.lookup ty vm vk ok) (cZ (eI C.P kt) z ok m k t g):=by
 unfold cZ;generalize m t=m at *;generalize k t=k at *;rw[aa]
 split
 ·rename_i hko;have hkv:=EH hko hk;obtain ⟨kd,hukt⟩:∃kd,C.P.underlying kt=some kd:=by obtain ⟨d,ds,_,hfl,_⟩:=hkv;obtain ⟨kd,h,_⟩:=fJ hfl;exact ⟨kd,h⟩
  obtain ⟨zv,z1,z2⟩:=Ba (w:=w) (γ:=γ) (A:=A) (bd:=bd) hz;have core:∀(es:List (AV×AV)) (l:Array MapEntry),EsRel w γ A bd es l.toList ->
    (vm=.map none/\l=#[]\/∃r n,vm=.map (some r)/\(getObj r).run C.P w=.ok (.map l n) w) ->
    ValSim C A bd w γ (Instr.lookup ty vm vk ok) (match mg k es with
     | some (some v)=>.val (au ok (.tup [v,.bool true]) v)
     | some none=>.val (au ok (.tup [z,.bool false]) z)
     | none=>.fail):=by
   intro es l hes hrun;cases hf:mg k es with
   | none=>trivial
   | some r =>
    obtain ⟨q,q1,q2⟩:=IM k es 0 r hf;obtain ⟨R,r1,r2⟩:=qX hukt hkv hk q1 hes;have hck:∀em,(Instr.checkKey em 10000 kt vk).run C.P w=.ok () w:=by intro em;obtain ⟨d,ds,hd,hfl,hks,hmk,_⟩:=hkv;have:=yE (P:=C.P) em (10000 - d) d kt ds hfl w _ hks;rw[show 10000 - d+d=10000 from by omega,<-hmk] at this;exact this
    have tup:∀(x:AV) (u:Value) (b:Bool),RV w γ A bd x u->RV w γ A bd (au ok (.tup [x,.bool b]) x) (if ok then .tuple #[u,.bool b] else u):=by
     intro x u b hx;cases ok
     ·exact hx
     ·refine .tup _ _ _ rfl λi y v hy hv=>?_
      match i with
      | 0=>simp at hy hv;subst hy;subst hv;exact hx
      | 1=>simp at hy hv;subst hy;subst hv;exact .bool _ _
      | i+2=>simp at hy
    have hmain:(Instr.lookup ty vm vk ok).run C.P w =
      ((do let (v,okk) <-match R with
            | some (_,v)=>pure (v,true)
            | none=>pure (<-zeroValue et,false)
           pure (if ok then .tuple #[v,.bool okk] else v):Sem Value)).run C.P w:=by
     unfold Instr.lookup;simp only[Sem.run_bind,aC hu,Result.andThen_ok];rcases hrun with ⟨rfl,rfl⟩ | ⟨r',n,rfl,hrun⟩
     ·simp only[Sem.run_bind,Sem.run_pure,Result.andThen_ok,hck,r2]
      try (cases R<;>rfl)
     ·simp only[Sem.run_bind,Sem.run_pure,Result.andThen_ok,hrun,hck,r2]
      try (cases R<;>rfl)
    cases q with
    | none =>
     simp only[Ai] at r1;subst r1;simp only[Option.map_none] at q2;subst q2;exact ⟨_,by rw[hmain];simp[z1],tup z zv false z2⟩
    | some p =>
     obtain ⟨i,x⟩:=p;obtain ⟨j,k',e,f1,f2,f3,f4,f5⟩:=r1;subst f5;simp only[Option.map_some] at q2;subst q2;exact ⟨_,by rw[hmain];simp,tup x e.val true (hes.2 j k' x e f2 f3).2⟩
  cases hm with
  | nilm=>exact core [] #[] ⟨rfl,λi k x e h=>by simp at h⟩ (.inl ⟨rfl,rfl⟩)
  | hmap _ id b hkd hb =>
   have hagree:=agree id (by simp[ak]);simp only[G.get_eq,<-hagree];cases hid:hg id with
   | map es =>
    obtain ⟨k1,k2,esC,k3,k4,k5⟩:=yS hr hid;subst hb;exact core es esC k4 (.inr ⟨_,_,rfl,eh k3 (by simp)⟩)
   | _=>trivial
  | _=>trivial
 ·trivial
theorem qi {kt:TypeId}{k:AV}{v:Value}(h:zy C.P kt k v)(em:Bool):(Instr.checkKey em 10000 kt v).run C.P w=.ok () w:=by obtain ⟨d,ds,hd,hfl,hks,hmk,_⟩:=h;have:=yE (P:=C.P) em (10000 - d) d kt ds hfl w _ hks;rw[show 10000 - d+d=10000 from by omega,<-hmk] at this;exact this
theorem Gl {kt:TypeId}{k:AV}{v:Value}(h:zy C.P kt k v):∃kd,C.P.underlying kt=some kd:=by obtain ⟨d,ds,_,hfl,_⟩:=h;obtain ⟨kd,h,_⟩:=fJ hfl;exact ⟨kd,h⟩
theorem Rel.setMap (hr:Rel C A bd w γ hg nx){id:Nat}{es es':List (AV×AV)}{esC':Array MapEntry}(hid:hg id=.map es)(hl:es'.length=esC'.size)
  (he:∀(i:Nat) k x e,es'[i]?=some (k,x)->esC'[i]?=some e->e.born=i/\RV w γ A bd k e.key/\RV w γ A bd x e.val) :
  Rel C A bd (World.setBlk w (γ id).blk (.map esC' esC'.size)) γ (upd hg id (.map es')) nx/\Stp w γ (World.setBlk w (γ id).blk (.map esC' esC'.size)) γ:=by
 obtain ⟨k1,k2,_⟩:=yS hr hid;have hk:(γ id).kind≠0:=by rw[k1];decide
 have s:=sj (w:=w) (o:=.map esC' esC'.size) hk k2;refine hr.setBlk hk k2 ⟨k1,k2,esC',?_,hl,λi k x e h1 h2=>?_⟩
 ·rw[aT,if_pos ⟨rfl,(hr.lt id hk).2⟩]
 ·obtain ⟨a,b,c⟩:=he i k x e h1 h2;exact ⟨a,b.step s,c.step s⟩
theorem sP {ty kt et:TypeId}{m k x:T->AV}{t:T}{g:G}{vm vk vx:Value}(hr:Rel C A bd w γ hg nx)
  (hu:C.P.underlying ty=some (.map kt et)) (hm:RV w γ A bd (m t) vm) (hk:RV w γ A bd (k t) vk) (hx:RV w γ A bd (x t) vx) (agree:∀id∈ak (m t),hg id=g.h.get id) :
  cF C A bd w γ hg nx (do Instr.mapUpdate ty vm vk vx;pure undef) g (el (eI C.P kt) m k x t g):=by
 unfold el;generalize m t=m at *;generalize k t=k at *;generalize x t=x at *;rw[aa]
 split
 ·rename_i hko;have hkv:=EH hko hk;obtain ⟨kd,hukt⟩:=Gl hkv;cases hm with
  | hmap _ id b hkd hb =>
   have hagree:=agree id (by simp[ak]);simp only[G.get_eq,<-hagree];cases hid:hg id with
   | map es =>
    dsimp only;cases hs:HU k x es with
    | none=>trivial
    | some es' =>
     dsimp only;obtain ⟨k1,k2,esC,k3,k4,k5⟩:=yS hr hid;obtain ⟨q,q1,q2⟩:=L8 k x es es' 0 hs;obtain ⟨R,r1,r2⟩:=qX hukt hkv hk q1 k4;subst hb;have hrun:∀esC',(match R with
       | some (i,_)=>do
        let key <-Instr.keyThatStays (((esC[i]?).map (·.key)).getD vk) vk
        setObj (γ id).blk (.map (esC.modify i λe=>{ e with key,val:=vx }) esC.size)
       | none=>setObj (γ id).blk (.map (esC.push { key:=vk,val:=vx,born:=esC.size }) (esC.size+1)):Sem Unit).run C.P w=.ok () (World.setBlk w (γ id).blk (.map esC' esC'.size)) ->
       (do Instr.mapUpdate ty (.map (some (γ id).blk)) vk vx;pure undef:Sem Value).run C.P w=.ok undef (World.setBlk w (γ id).blk (.map esC' esC'.size)):=by
      intro esC' h;have:(Instr.mapUpdate ty (.map (some (γ id).blk)) vk vx).run C.P w=.ok () (World.setBlk w (γ id).blk (.map esC' esC'.size)):=by unfold Instr.mapUpdate;simp only[Sem.run_bind,aC hu,Result.andThen_ok,eh k3 (by simp),qi hkv,r2];exact h
      simp[this]
     have hlen:es.length=esC.size:=by simpa using k4.1
     cases q with
     | none =>
      simp only[Ai] at r1;subst r1;simp only at q2;subst q2;have hnew:=hr.setMap (es':=es++[(k,x)]) (esC':=esC.push { key:=vk,val:=vx,born:=esC.size }) hid (by simp[hlen]) (λi k' x' e h1 h2=>by
       rw[Array.getElem?_push] at h2;rw[List.getElem?_append] at h1
       split at h2
       ·rename_i hi;subst hi;rw[if_neg (by omega),hlen,Nat.sub_self] at h1;simp at h1 h2;obtain ⟨rfl,rfl⟩:=h1;subst h2;exact ⟨rfl,hk,hx⟩
       ·have hlt:i<esC.size:=(Array.getElem?_eq_some_iff.1 h2).1;rw[if_pos (by omega)] at h1;exact ⟨k5 i e h2,k4.2 i k' x' e h1 (by simpa using h2)⟩)
      refine ⟨undef,_,γ,id,_,hrun _ ?_,b_,hnew.2,.inl ⟨rfl,hnew.1⟩⟩;simp only[Array.size_push];exact fN k3 (by simp)
     | some p =>
      obtain ⟨n,y⟩:=p;obtain ⟨j,k',e,f1,f2,f3,f4,f5⟩:=r1;obtain ⟨j',j1,j2⟩:=q2;have:j'=j:=by omega
      subst this;subst f1;subst f5;subst j2;have f3':esC[j']?=some e:=by simpa using f3
      have hsame:=yP hkv f4 hk (k4.2 j' k' y e f2 f3).1;have hnew:=hr.setMap (es':=es.set j' (k,x)) (esC':=esC.modify (0+j') λe=>{ e with key:=vk,val:=vx }) hid (by simp[hlen]) (λi k' x' e' h1 h2=>by
       rw[Nat.zero_add] at h2;rw[List.getElem?_set] at h1;rw[Array.getElem?_modify] at h2
       split at h1
       ·rename_i hi;subst hi;rw[if_pos rfl,f3'] at h2
        split at h1
        ·simp at h1 h2;obtain ⟨rfl,rfl⟩:=h1;subst h2;exact ⟨k5 j' e f3',hk,hx⟩
        ·cases h1
       ·rename_i hi;rw[if_neg hi] at h2;exact ⟨k5 i e' h2,k4.2 i k' x' e' h1 (by simpa using h2)⟩)
      refine ⟨undef,_,γ,id,_,hrun _ ?_,b_,hnew.2,.inl ⟨rfl,hnew.1⟩⟩;obtain ⟨d,ds,_,_,hks,_⟩:=hkv;simp only[Nat.zero_add,f3',Option.map_some,Option.getD_some,hsame,Sem.run_bind,ol hks,Result.andThen_ok,Array.size_modify];exact fN k3 (by simp)
   | _=>trivial
  | _=>trivial
 ·trivial
theorem BI {ty kt et:TypeId}{z:AV}{m k:T->AV}{t:T}{g:G}{vm vk:Value}(hr:Rel C A bd w γ hg nx)
  (hu:C.P.underlying ty=some (.map kt et)) (hz:wM C.P et=some z) (hm:RV w γ A bd (m t) vm) (hk:RV w γ A bd (k t) vk) (agree:∀id∈ak (m t),hg id=g.h.get id) :
  cF C A bd w γ hg nx (Instr.mapEntry ty vm vk) g (eK (eI C.P kt) z m k t g):=by
 unfold eK;generalize m t=m at *;generalize k t=k at *;rw[aa]
 split
 ·rename_i hko;have hkv:=EH hko hk;obtain ⟨kd,hukt⟩:=Gl hkv;obtain ⟨zv,z1,z2⟩:=Ba (w:=w) (γ:=γ) (A:=A) (bd:=bd) hz;have tup:∀{w:World} {γ:Gm} (x:AV) (u:Value) (n:Nat),RV w γ A bd x u->RV w γ A bd (.tup [x,.int .i64 (.ofNat n)]) (.tuple #[u,goInt (n:Int)]):=by
   intro w γ x u n hx;refine .tup _ _ _ rfl λi y v hy hv=>?_
   match i with
   | 0=>simp at hy hv;subst hy;subst hv;exact hx
   | 1=>simp at hy hv;subst hy;subst hv;exact .int _ _ _
   | i+2=>simp at hy
  cases hm with
  | hmap _ id b hkd hb =>
   have hagree:=agree id (by simp[ak]);simp only[G.get_eq,<-hagree];cases hid:hg id with
   | map es =>
    dsimp only;cases q1:gQ k 0 es with
    | none=>trivial
    | some q =>
     obtain ⟨k1,k2,esC,k3,k4,k5⟩:=yS hr hid;obtain ⟨R,r1,r2⟩:=qX hukt hkv hk q1 k4;subst hb;have hlen:es.length=esC.size:=by simpa using k4.1
     cases q with
     | none =>
      simp only[Ai] at r1;subst r1;dsimp only;have hnew:=hr.setMap (es':=es++[(k,z)]) (esC':=esC.push { key:=vk,val:=zv,born:=esC.size }) hid (by simp[hlen]) (λi k' x' e h1 h2=>by
       rw[Array.getElem?_push] at h2;rw[List.getElem?_append] at h1
       split at h2
       ·rename_i hi;subst hi;rw[if_neg (by omega),hlen,Nat.sub_self] at h1;simp at h1 h2;obtain ⟨rfl,rfl⟩:=h1;subst h2;exact ⟨rfl,hk,z2⟩
       ·have hlt:i<esC.size:=(Array.getElem?_eq_some_iff.1 h2).1;rw[if_pos (by omega)] at h1;exact ⟨k5 i e h2,k4.2 i k' x' e h1 (by simpa using h2)⟩)
      refine ⟨.tuple #[zv,goInt esC.size],_,γ,id,_,?_,?_,hnew.2,.inl ⟨rfl,hnew.1⟩⟩
      ·unfold Instr.mapEntry;simp only[Sem.run_bind,aC hu,Result.andThen_ok,eh k3 (by simp),qi hkv,r2,z1];have:(setObj (γ id).blk (.map (esC.push { key:=vk,val:=zv,born:=esC.size }) (esC.size+1))).run C.P w=.ok () (World.setBlk w (γ id).blk (.map (esC.push { key:=vk,val:=zv,born:=esC.size }) (esC.size+1))):=fN k3 (by simp);simp[this]
      ·rw[aw,hlen];exact tup _ _ _ (z2.step hnew.2)
     | some p =>
      obtain ⟨n,y⟩:=p;obtain ⟨j,k',e,f1,f2,f3,f4,f5⟩:=r1;subst f1;subst f5;dsimp only;have f3':esC[j]?=some e:=by simpa using f3
      have hsame:=yP hkv f4 hk (k4.2 j k' y e f2 f3).1;have hmod:(esC.modify j λe=>{ e with key:=vk })=esC:=by
       apply Array.ext_getElem?;intro i;rw[Array.getElem?_modify]
       split
       ·rename_i hi;subst hi;rw[f3',<-hsame];rfl
       ·rfl
      have hkv2:=hkv;obtain ⟨d,ds,_,_,hks,_⟩:=hkv2;refine ⟨.tuple #[e.val,goInt j],?_,?_⟩
      ·unfold Instr.mapEntry;simp only[Sem.run_bind,aC hu,Result.andThen_ok,eh k3 (by simp),qi hkv,r2,Nat.zero_add,f3',Option.map_some,Option.getD_some,hsame,ol hks,hmod,k5 j e f3'];have hset:(setObj (γ id).blk (.map esC esC.size)).run C.P w=.ok () w:=by
        rw[fN k3 (by simp)];congr 1;have hlt:(γ id).blk<w.heap.size:=(Array.getElem?_eq_some_iff.1 k3).1;unfold World.setBlk;congr 1;apply Array.ext_getElem?;intro q;rw[Array.getElem?_setIfInBounds]
        split
        ·rename_i hq;subst hq;rw[k3]
        ·rfl
       simp[hset]
      ·rw[Nat.zero_add];exact tup _ _ _ (k4.2 j k' y e f2 f3).2
   | _=>trivial
  | _=>trivial
 ·trivial
theorem ym {ty:TypeId}{m st x:T->AV}{t:T}{g:G}{vm vs vx:Value}(hr:Rel C A bd w γ hg nx)
  (hm:RV w γ A bd (m t) vm) (hs:RV w γ A bd (st t) vs) (hx:RV w γ A bd (x t) vx) (agree:∀id∈ak (m t),hg id=g.h.get id) :
  cF C A bd w γ hg nx (do Instr.entryStore ty vm vs vx;pure undef) g (fR m st x t g):=by
 unfold fR;generalize m t=m at *;generalize st t=st at *;generalize x t=x at *;cases hm with
 | hmap _ id b hkd hb =>
  have hagree:=agree id (by simp[ak]);simp only[G.get_eq,<-hagree];cases hid:hg id with
  | map es =>
   dsimp only;cases hs with
   | int _ kk n =>
    cases n with
    | negSucc n=>trivial
    | ofNat i =>
     simp only[c_];cases hi:es[i]? with
     | none=>trivial
     | some p =>
      obtain ⟨k,y⟩:=p;dsimp only;obtain ⟨k1,k2,esC,k3,k4,k5⟩:=yS hr hid;subst hb;have hlen:es.length=esC.size:=by simpa using k4.1
      have hlt:i<esC.size:=by rw[<-hlen];exact (List.getElem?_eq_some_iff.1 hi).1
      have hfind:esC.findIdx? (λe=>(e.born:Int) == (Int.ofNat i))=some i:=by
       rw[Array.findIdx?_eq_some_iff_getElem];refine ⟨hlt,?_,λj hj=>?_⟩
       ·rw[k5 i esC[i] (Array.getElem?_eq_getElem hlt)];simp
       ·have hj':j<esC.size:=by omega
        rw[k5 j esC[j] (Array.getElem?_eq_getElem hj')];simp;omega
      have hnew:=hr.setMap (es':=Fa i (k,x) es) (esC':=esC.modify i λe=>{ e with val:=vx }) hid (by simp[fA,hlen]) (λi' k' x' e' h1 h2=>by
       rw[fA,List.getElem?_set] at h1;rw[Array.getElem?_modify] at h2
       split at h1
       ·rename_i hi';subst hi';rw[if_pos rfl,Array.getElem?_eq_getElem hlt] at h2
        split at h1
        ·simp at h1 h2;obtain ⟨rfl,rfl⟩:=h1;subst h2;exact ⟨k5 i esC[i] (Array.getElem?_eq_getElem hlt),(k4.2 i k y esC[i] hi (by simp[hlt])).1,hx⟩
        ·cases h1
       ·rename_i hi';rw[if_neg hi'] at h2;exact ⟨k5 i' e' h2,k4.2 i' k' x' e' h1 (by simpa using h2)⟩)
      refine ⟨undef,_,γ,id,_,?_,b_,hnew.2,.inl ⟨rfl,hnew.1⟩⟩;have hset:=fN (P:=C.P) (o':=.map (esC.modify i λe=>{ e with val:=vx }) esC.size) k3 (by simp);have:(Instr.entryStore ty (.map (some (γ id).blk)) (.int kk (Int.ofNat i)) vx).run C.P w=.ok () (World.setBlk w (γ id).blk (.map (esC.modify i λe=>{ e with val:=vx }) esC.size)):=by unfold Instr.entryStore;simp only[Sem.run_bind,Result.andThen_ok,eh k3 (by simp),asInt,asIntOf,Sem.run_pure,hfind,hset]
      simp only[Array.size_modify,Sem.run_bind,this,Result.andThen_ok,Sem.run_pure]
   | _=>trivial
  | _=>trivial
 | _=>trivial
end
end Hx
end
section
namespace Hx
open Go
section
variable {C:Cfg}{A:Nat->Nat->Prop}{bd:Nat}{w w':World}{γ γ':Gm}{hg:Nat->AObj}{nx:Nat}
theorem OpSim.ofUpd {o:Oper}{ev:Operand->Value}{g:G}{m:Sem Value}{r:OR}(he:execOp ev o=(do pure (.value (<-m))))(h:cF C A bd w γ hg nx m g r) :
  OpSim C A bd w γ hg nx o ev g r:=by
 have run:∀{v:Value} {w':World},m.run C.P w=.ok v w'->Ch C.P o ev w v w':=by intro v w' h;left;rw[he];simp[h]
 cases r with
 | fail=>trivial
 | val x=>obtain ⟨v,h1,h2⟩:=h;exact ⟨v,run h1,h2⟩
 | upd x g'=>obtain ⟨v,w',γ',id,ob,h1,h2⟩:=h;exact ⟨v,w',γ',id,ob,run h1,h2⟩
 | dfr a=>exact h
theorem OpSim.ofUnit {o:Oper}{ev:Operand->Value}{g:G}{s:Sem Unit}{r:OR}(he:execOp ev o=(do s;pure .skip))(h:cF C A bd w γ hg nx (do s;pure undef) g r) :
  OpSim C A bd w γ hg nx o ev g r:=by
 have run:∀{v:Value} {w':World},(do s;pure undef:Sem Value).run C.P w=.ok v w'->Ch C.P o ev w v w':=by
  intro v w' h;right;rw[he];simp only[Sem.run_bind,Sem.run_pure] at h ⊢;cases hs:s.run C.P w with
  | ok u w1=>rw[hs] at h;simp only[Result.andThen_ok] at h ⊢;injection h with h1 h2;subst h1;subst h2;exact ⟨rfl,rfl⟩
  | halt x w1=>rw[hs] at h;cases h
 cases r with
 | fail=>trivial
 | val x=>obtain ⟨v,h1,h2⟩:=h;exact ⟨v,run h1,h2⟩
 | upd x g'=>obtain ⟨v,w',γ',id,ob,h1,h2⟩:=h;exact ⟨v,w',γ',id,ob,run h1,h2⟩
 | dfr a=>exact h
theorem ValSim.upd {m:Sem Value}{g:G}{r:OR}(h:ValSim C A bd w γ m r):cF C A bd w γ hg nx m g r:=by
 cases r with
 | fail=>trivial
 | val x=>exact h
 | upd x g'=>exact h.elim
 | dfr a=>exact h.elim
theorem OpSim.ofVal {o:Oper}{ev:Operand->Value}{g:G}{m:Sem Value}{r:OR}(he:execOp ev o=(do pure (.value (<-m))))(h:ValSim C A bd w γ m r) :
  OpSim C A bd w γ hg nx o ev g r:=.ofUpd he h.upd
theorem OpSim.now {o:Oper}{ev:Operand->Value}{g:G}{x:AV}{v:Value}(he:(execOp ev o).run C.P w=.ok (.value v) w)(h:RV w γ A bd x v) :
  OpSim C A bd w γ hg nx o ev g (.val x):=⟨v,.inl he,h⟩
noncomputable def bc (C:Cfg)(op:Op)(t:T)(g:G):List Nat:=((aI C op).run t g).rd++((aI C op).run t g).sr.map (·.1)
theorem Mn {op:UnOp}{x:AV}{v:Value}(hx:RV w γ A bd x v):ValSim C A bd w γ (Op.unary op v) ((unA op).run x):=by
 cases op
 case not =>
  cases hx with
  | bool _ b=>exact ⟨.bool (!b),by simp[Op.unary],by rw[notb_eq];exact .bool _ _⟩
  | _=>trivial
 all_goals
  cases hx with
  | int _ k n=>exact mo λy hy=>iG hy C.P w
  | _=>trivial
theorem EM {g:G}{P:Program}(hr:Rel C A bd w γ hg nx)(hf:(γ g.nx).kind=0) :
  cF C A bd w γ hg nx (do pure (.map (some (<-newObj (.map #[] 0))))) g (.upd (.hmap g.nx) (g.new (.map []))):=by
 let gh:Gh:=⟨2,0,0,0,w.heap.size,0,0,true⟩
 obtain ⟨r,s⟩:=hr.add (id:=g.nx) (gh:=gh) (o:=.map #[] 0) (ao:=.map []) (nx':=Nat.max nx (g.nx+1)) hf rfl (Nat.le_max_left _ _) (Nat.lt_of_lt_of_le (Nat.lt_succ_self _) (Nat.le_max_right _ _)) (by
  simp only[ObjRel,upd_same];exact ⟨rfl,rfl,#[],by rw[iQ];simp[gh],rfl,λi k x e h=>by simp at h⟩)
 refine ⟨.map (some w.heap.size),World.add w (.map #[] 0),_,g.nx,_,by simp[newObj,Sem.run,World.add],?_,s,.inr ⟨rfl,rfl,r⟩⟩;exact .hmap _ g.nx _ (by simp[gh]) (by simp[gh])
theorem EV:∀{fs:List Field} {places:List (Nat×Nat)},aE (λf:Field=>match szT C.P f.type with | some n=>some (f.offset,n) | none=>none) fs=some places ->
  (fs.mapM λf=>do pure (f.offset,<-Go.sizeOf f.type):Sem (List (Nat×Nat))).run C.P w=.ok places w:=by
 intro fs
 induction fs with
 | nil=>intro places h;simp only[aE] at h;injection h with h;subst h;simp
 | cons f fs ih =>
  intro places h;simp only[aE] at h
  split at h
  ·rename_i p hp
   split at h
   ·rename_i ps hps;injection h with h;subst h
    split at hp
    ·rename_i n hn;injection hp with hp;subst hp;rw[List.mapM_cons];have:=ih hps;simp only[Sem.run_bind,aW hn,Result.andThen_ok,Sem.run_pure,this]
    ·cases hp
   ·cases h
  ·cases h
variable {o:Oper}{op:Op}{a:Act}{nt:Nat}{t:T}{g:G}{f:Stg SFn}
theorem qj {ty e:TypeId}(he:jB C.P ty=some e):C.P.underlying ty=some (.slice e):=by unfold jB at he;split at he<;>first | (injection he with he;subst he;assumption) | cases he
theorem Cq {b:Builtin}{argTypes:Array TypeId}{args:List Operand}{ty:TypeId}{consts:Array Bool}(h:cO C b argTypes args=some f)(ht:TR w γ A bd nt t a.tmps)(hr:Rel C A bd w γ hg nx)
  (hf:(γ g.nx).kind=0) (agree:∀x∈args,∀s,aM C x=some s->∀id∈jM C b argTypes (s.run t),hg id=g.h.get id) :
  ∃m:Sem Value,builtin b argTypes ty consts (args.map a.eval).toArray=(do pure (.value (<-m)))/\cF C A bd w γ hg nx m g (f.run t g):=by
 unfold cO at h
 split at h
 ·
  rename_i x
  split at h
  ·rename_i tt s h0 hs;injection h with h;subst h;exact ⟨Builtin.len_ argTypes ty #[a.eval x],rfl,(Ly hr h0 (ax hs ht hr) λhk id hid=>agree x (by simp) s hs id (by simpa only[jM,h0,hk] using hid)).upd⟩
  ·cases h
 ·
  rename_i p x
  split at h
  ·rename_i tt xt sa sx h0 h1 ha hx
   split at h
   ·rename_i e e' he hux
    split at h
    ·rename_i sz bytes zero hsz hby hz;rw[aa] at h
     split at h
     ·rename_i hcond;simp only[Bool.and_eq_true,Nat.blt_eq,aw] at hcond;injection h with h;subst h;exact ⟨Builtin.append_ argTypes ty #[a.eval p,a.eval x],rfl,Ee hr hf h0 h1 (qj he) hux hsz hby hz (aD hcond.1.1) hcond.2 (ax ha ht hr) (ax hx ht hr)
       (λid hid=>agree p (by simp) sa ha id hid) (λid hid=>agree x (by simp) sx hx id hid)⟩
     ·cases h
    ·cases h
   ·rename_i e k he hux
    split at h
    ·rename_i sz bytes zero hsz hby hz;rw[aa] at h
     split at h
     ·rename_i hcond;simp only[Bool.and_eq_true,Nat.blt_eq,aw] at hcond;injection h with h;subst h;exact ⟨Builtin.append_ argTypes ty #[a.eval p,a.eval x],rfl,Ck hr hf h0 h1 (qj he) hux hsz hby hz (aD hcond.1.1) hcond.1.2 hcond.2 (ax ha ht hr) (ax hx ht hr)
       (λid hid=>agree p (by simp) sa ha id hid)⟩
     ·cases h
    ·cases h
   ·cases h
  ·cases h
 ·
  rename_i p x
  split at h
  ·rename_i tt sa sx h0 ha hx
   split at h
   ·rename_i e he
    split at h
    ·rename_i sz hsz;injection h with h;subst h;exact ⟨Builtin.copy_ argTypes ty #[a.eval p,a.eval x],rfl,It hr h0 (qj he) hsz (ax ha ht hr) (ax hx ht hr)
      (λid hid=>agree p (by simp) sa ha id hid) (λid hid=>agree x (by simp) sx hx id hid)⟩
    ·cases h
   ·cases h
  ·cases h
 ·
  rename_i x
  split at h
  ·rename_i tt s h0 hs
   split at h
   ·rename_i e he;injection h with h;subst h;exact ⟨Builtin.cap_ argTypes ty #[a.eval x],rfl,(Lc hr h0 (qj he) (ax hs ht hr) λid hid=>agree x (by simp) s hs id hid).upd⟩
   ·cases h
  ·cases h
 ·
  rename_i x
  split at h
  ·rename_i tt s h0 hs
   split at h
   ·rename_i e he
    split at h
    ·rename_i sz zero hsz hz;rw[aa] at h
     split at h
     ·rename_i hcond;simp only[Bool.and_eq_true,Nat.blt_eq,aw] at hcond;injection h with h;subst h;exact ⟨Builtin.clear_ argTypes ty #[a.eval x],rfl,Hb hr h0 (qj he) hz (aD hcond.1) hcond.2 (ax hs ht hr) λid hid=>agree x (by simp) s hs id hid⟩
     ·cases h
    ·cases h
   ·cases h
  ·cases h
 ·
  rename_i x y
  split at h
  ·rename_i sx sy hx hy;injection h with h;subst h;refine ⟨Builtin.max_ argTypes ty #[a.eval x,a.eval y],rfl,?_⟩;have r1:=ax hx ht hr;have r2:=ax hy ht hr;dsimp only;generalize sx.run t=u at r1 ⊢;generalize sy.run t=v at r2 ⊢;cases u<;>try trivial
   cases v<;>try trivial
   exact (LA r1 r2).upd
  ·cases h
 ·
  rename_i x y
  split at h
  ·rename_i sx sy hx hy;injection h with h;subst h;refine ⟨Builtin.min_ argTypes ty #[a.eval x,a.eval y],rfl,?_⟩;have r1:=ax hx ht hr;have r2:=ax hy ht hr;dsimp only;generalize sx.run t=u at r1 ⊢;generalize sy.run t=v at r2 ⊢;cases u<;>try trivial
   cases v<;>try trivial
   exact (LB r1 r2).upd
  ·cases h
 ·cases h
theorem G9:∀{xs:List Operand} {vs:Stg (T->List AV)},bC C xs=some vs->∀x∈xs,∀s,aM C x=some s->s.run t∈vs.run t:=by
 intro xs
 induction xs with
 | nil=>intro vs _ x hx;cases hx
 | cons y ys ih =>
  intro vs h x hx s hs;simp only[bC] at h
  split at h
  ·rename_i p q hp hq;injection h with h;subst h;rcases List.mem_cons.1 hx with rfl | hx
   ·rw[hp] at hs;injection hs with hs;subst hs;exact List.mem_cons_self
   ·exact List.mem_cons_of_mem _ (ih hq x hx s hs)
  ·cases h
theorem sE {b:Builtin}{argTypes:Array TypeId}{args:List Operand}(h:cO C b argTypes args=some f):∃vs,bC C args=some vs:=by
 have one:∀{x:Operand} {s},aM C x=some s->∃vs,bC C [x]=some vs:=by intro x s hs;simp only[bC,hs];exact ⟨_,rfl⟩
 have two:∀{x y:Operand} {s u},aM C x=some s->aM C y=some u->∃vs,bC C [x,y]=some vs:=by intro x y s u hs hu;simp only[bC,hs,hu];exact ⟨_,rfl⟩
 unfold cO at h
 split at h
 ·split at h
  ·exact one (by assumption)
  ·cases h
 ·split at h
  ·exact two (by assumption) (by assumption)
  ·cases h
 ·split at h
  ·exact two (by assumption) (by assumption)
  ·cases h
 ·split at h
  ·exact one (by assumption)
  ·cases h
 ·split at h
  ·exact one (by assumption)
  ·cases h
 ·split at h
  ·exact two (by assumption) (by assumption)
  ·cases h
 ·split at h
  ·exact two (by assumption) (by assumption)
  ·cases h
 ·cases h
theorem Mh (h:bS C op=some f)(ho:o.op=op)(ht:TR w γ A bd nt t a.tmps)(hr:Rel C A bd w γ hg nx)(hf:(γ g.nx).kind=0)
  (agree:∀id∈bc C op t g,hg id=g.h.get id):OpSim C A bd w γ hg nx o a.eval g (f.run t g):=by
 cases op<;>simp only[bS] at h<;>first | (cases h;done) | skip
 case move x =>
  split at h
  ·rename_i s hs;injection h with h;subst h;exact .now (by simp[execOp,ho]) (ax hs ht hr)
  ·cases h
 case assign x =>
  split at h
  ·rename_i s hs;injection h with h;subst h;exact .now (by simp[execOp,ho]) (ax hs ht hr)
  ·cases h
 case pick c x y =>
  split at h
  ·rename_i sc sx sy hc hx hy;injection h with h;subst h;have r1:=ax hc ht hr;have r2:=ax hx ht hr;have r3:=ax hy ht hr;dsimp only;generalize sc.run t=cv at r1 ⊢;generalize hcv:a.eval c=vc at r1;cases r1 with
   | bool _ b =>
    cases b
    ·exact .now (by simp[execOp,ho,hcv,asBool]) r3
    ·exact .now (by simp[execOp,ho,hcv,asBool]) r2
   | _=>trivial
  ·cases h
 case alloc ty =>
  split at h
  ·rename_i cs hz;injection h with h;subst h;exact .ofUpd (by simp only[execOp,ho]) (G5 hr hz hf t)
  ·cases h
 case box ty x =>
  split at h
  ·rename_i s hs;injection h with h;subst h;have r1:=ax hs ht hr;unfold Ig;dsimp only;rw[aa]
   split
   ·trivial
   ·rename_i htup;exact .ofUpd (m:=Instr.box ty (a.eval x)) (by simp only[execOp,ho]) (K6 hr r1 hf (by simpa using htup))
  ·cases h
 case load ty x =>
  split at h
  ·rename_i s ag n hs hag hn;injection h with h;subst h;exact .ofVal (by simp only[execOp,ho]) (C8 hr (ax hs ht hr) hag hn λid hid=>agree id (by simp[bc,aI,ap,hs,hid]))
  ·cases h
 case store ty x y =>
  split at h
  ·rename_i s u n hs hu hn;injection h with h;subst h;exact .ofUnit (by simp only[execOp,ho]) (H5 hr (ax hs ht hr) (ax hu ht hr) hn λid hid=>agree id (by simp[bc,aI,ap,hs,hid]))
  ·cases h
 case binOp op ty x y p =>
  split at h
  ·rename_i s u hs hu;injection h with h;subst h;exact .ofVal (by simp only[execOp,ho]) (K5 (xo:=x) (yo:=y) (ax hs ht hr) (ax hu ht hr))
  ·cases h
 case unOp op ty x =>
  split at h
  ·rename_i s hs;injection h with h;subst h;exact .ofVal (by simp only[execOp,ho]) (Mn (ax hs ht hr))
  ·cases h
 case convert src dst x =>
  split at h
  ·rename_i s sd k hs hsrc hk;injection h with h;subst h;have r1:=ax hs ht hr;dsimp only;generalize s.run t=cv at r1 ⊢;generalize hcv:a.eval x=vc at r1;cases r1 with
   | int _ k' n =>
    refine .ofVal (m:=convert src dst (.int k' n)) (by simp only[execOp,ho,hcv]) ⟨.int k (k.wrap n),?_,by rw[fp];exact .int _ _ _⟩;unfold convert;simp only[Sem.run_bind,aC hsrc,aC hk,Result.andThen_ok,Conv.intToInt]
    try rfl
   | _=>trivial
  ·cases h
 case nilCheck x =>
  split at h
  ·rename_i s hs;injection h with h;subst h;have r1:=ax hs ht hr;dsimp only;generalize s.run t=cv at r1 ⊢;generalize hcv:a.eval x=vc at r1;cases r1 with
   | tptr _ tag sz rows i0 off0 b o' cell h1 h2 h3 h4 h5 h6 h7 h8 h9=>exact .now (by simp[execOp,ho,hcv]) (.tptr _ tag sz rows i0 off0 b o' cell h1 h2 h3 h4 h5 h6 h7 h8 h9)
   | hptr _ id ep i off b o' h1 h2 h3=>exact .now (by simp[execOp,ho,hcv]) (.hptr _ id ep i off b o' h1 h2 h3)
   | clo _ f' xs ys vs us h1 h2 h3 h4=>exact .now (by simp[execOp,ho,hcv]) (.clo _ f' xs ys vs us h1 h2 h3 h4)
   | yld _ id b h1 h2=>exact .now (by simp[execOp,ho,hcv]) (.yld _ id b h1 h2)
   | _=>trivial
  ·cases h
 case makeInterface ty x =>
  split at h
  ·cases h
  ·rename_i s d hne hs hu;injection h with h;subst h;refine .ofVal (m:=Instr.makeInterface ty (a.eval x)) (by simp only[execOp,ho]) ⟨.iface ty (a.eval x),?_,.ifc _ ty _ _ (ax hs ht hr)⟩;unfold Instr.makeInterface;simp only[Sem.run_bind,aC hu,Result.andThen_ok]
   try rfl
  ·cases h
 case makeSlice ty l c =>
  split at h
  ·rename_i e sl sc he hl hc
   split at h
   ·rename_i sz bytes zero hsz hby hz;rw[aa] at h
    split at h
    ·rename_i hcond;simp only[Bool.and_eq_true,Nat.blt_eq,aw] at hcond;injection h with h;subst h;have hu:C.P.underlying ty=some (.slice e):=by unfold jB at he;split at he<;>first | (injection he with he;subst he;assumption) | cases he
     exact .ofUpd (by simp only[execOp,ho]) (Ab hr hf hu hsz hby hz (aD hcond.1) hcond.2 (ax hl ht hr) (ax hc ht hr))
    ·cases h
   ·cases h
  ·cases h
 case fieldAddr ty x fi =>
  split at h
  ·rename_i s fo ft hs hfi
   split at h
   ·rename_i n hn;injection h with h;subst h;exact .ofVal (by simp only[execOp,ho]) (zX (g:=g) (ax hs ht hr) hfi hn)
   ·cases h
  ·cases h
 case field ty x fi =>
  split at h
  ·rename_i s fo ft hs hfi
   split at h
   ·rename_i ag n hag hn;injection h with h;subst h;have r1:=ax hs ht hr;refine .ofVal (m:=Instr.field ty (a.eval x) fi) (by simp only[execOp,ho]) ?_;dsimp only;generalize s.run t=y at r1 ⊢;cases y<;>first | trivial | exact Ho r1 hfi hag hn
   ·cases h
  ·cases h
 case indexAddr ty x ix =>
  split at h
  ·rename_i s i hs hi
   split at h
   ·rename_i e hu
    split at h
    ·rename_i sz hsz;injection h with h;subst h;exact .ofVal (by simp only[execOp,ho]) (C1 hr (ax hs ht hr) (ax hi ht hr) hu hsz λid hid=>agree id (by simp[bc,aI,ap,hs,hu,hid]))
    ·cases h
   ·rename_i n e hu
    split at h
    ·rename_i sz hsz;injection h with h;subst h;exact .ofVal (by simp only[execOp,ho]) (CZ (g:=g) (ax hs ht hr) (ax hi ht hr) hu hsz)
    ·cases h
   ·cases h
  ·cases h
 case index ty x ix =>
  split at h
  ·rename_i s i hs hi
   split at h
   ·rename_i n e hu
    split at h
    ·rename_i ag sz hag hsz;injection h with h;subst h;exact .ofVal (by simp only[execOp,ho]) (Hu (g:=g) (ax hs ht hr) (ax hi ht hr) hu hag hsz)
    ·cases h
   ·rename_i hu;injection h with h;subst h;exact .ofVal (by simp only[execOp,ho]) (BA (g:=g) (ax hs ht hr) (ax hi ht hr) hu)
   ·cases h
  ·cases h
 case lookup ty x k ok =>
  split at h
  ·rename_i m kk kt et hm hk hu
   split at h
   ·rename_i z hz;injection h with h;subst h;exact .ofVal (by simp only[execOp,ho]) (EJ hr hu hz (ax hm ht hr) (ax hk ht hr) λid hid=>agree id (by cases ok<;>simp[bc,aI,ap,hm,hid]))
   ·cases h
  ·cases h
 case mapUpdate ty m k x =>
  split at h
  ·rename_i sm sk sx kt et hm hk hx hu;injection h with h;subst h;exact .ofUnit (by simp only[execOp,ho]) (sP hr hu (ax hm ht hr) (ax hk ht hr) (ax hx ht hr) λid hid=>agree id (by simp[bc,aI,ap,hm,hid]))
  ·cases h
 case insert ty m k x =>
  split at h
  ·rename_i sm sk sx kt et hm hk hx hu;injection h with h;subst h;exact .ofUnit (by simp only[execOp,ho]) (sP hr hu (ax hm ht hr) (ax hk ht hr) (ax hx ht hr) λid hid=>agree id (by simp[bc,aI,ap,hm,hid]))
  ·cases h
 case mapEntry ty m k =>
  split at h
  ·rename_i sm sk kt et hm hk hu
   split at h
   ·rename_i z hz;injection h with h;subst h;exact .ofUpd (by simp only[execOp,ho]) (BI hr hu hz (ax hm ht hr) (ax hk ht hr) λid hid=>agree id (by simp[bc,aI,hm,hid]))
   ·cases h
  ·cases h
 case entryStore ty m st x =>
  split at h
  ·rename_i sm ss sx hm hs hx;injection h with h;subst h;exact .ofUnit (s:=Instr.entryStore ty (a.eval m) (a.eval st) (a.eval x)) (by simp only[execOp,ho]) (ym hr (ax hm ht hr) (ax hs ht hr) (ax hx ht hr) λid hid=>agree id (by simp[bc,aI,ap,hm,hid]))
  ·cases h
 case extract x i =>
  split at h
  ·rename_i s hs;injection h with h;subst h;have r1:=ax hs ht hr;refine .ofVal (m:=Instr.extract (a.eval x) i) (by simp only[execOp,ho]) ?_;dsimp only;generalize s.run t=cv at r1 ⊢;generalize a.eval x=vc at r1;cases r1 with
   | tup _ xs vs hl hall =>
    simp only[c_];refine mo λy hy=>?_;have hlt:i<vs.size:=by rw[<-hl];exact (List.getElem?_eq_some_iff.1 hy).1
    exact ⟨vs[i],by simp[Instr.extract,hlt],hall i y _ hy (by simp[hlt])⟩
   | _=>trivial
  ·cases h
 case makeMap ty r =>
  cases r with
  | some r=>cases h
  | none =>
   dsimp only at h
   split at h
   ·injection h with h;subst h;refine .ofUpd (m:=do pure (.map (some (<-newObj (.map #[] 0))))) ?_ (EM (P:=C.P) hr hf);simp only[execOp,ho,Instr.makeMap,Option.map_none]
    try rfl
   ·cases h
 case makeFunc fn fi ca =>
  cases fn with
  | func fx =>
   dsimp only at h
   split at h
   ·rename_i sa sc ha hc;injection h with h;subst h;have r1:=fk ht hr ha;have r2:=fk ht hr hc;refine .now (v:=.func (.func fx) (fi.map a.eval) (ca.map a.eval)) (by simp[execOp,ho,Instr.makeFunc]) (.clo _ fx _ _ _ _ (by simpa using r1.1) (by simpa using r2.1) (λi x v hx hv=>?_) (λi x v hx hv=>?_))
    ·exact r1.2 i x v hx (by simpa using hv)
    ·exact r2.2 i x v hx (by simpa using hv)
   ·cases h
  | _=>cases h
 case buildSlice ty len parts =>
  split at h
  ·rename_i e vs he hvs
   split at h
   ·rename_i sz zero hsz hz;rw[aa] at h
    split at h
    ·rename_i hcond;simp only[Bool.and_eq_true,Nat.blt_eq,Nat.ble_eq,aw] at hcond;injection h with h;subst h;have hu:C.P.underlying ty=some (.slice e):=by unfold jB at he;split at he<;>first | (injection he with he;subst he;assumption) | cases he
     exact .ofUpd (by simp only[execOp,ho]) (xR hr hf hu hsz hz (aD hcond.1.1) hcond.1.2 hcond.2 (fk ht hr hvs))
    ·cases h
   ·cases h
  ·cases h
 case build ty parts =>
  split at h
  ·rename_i zero vs hz hvs
   split at h
   ·rename_i fs hu
    split at h
    ·rename_i places hpl
     split at h
     ·rename_i pl hp;injection h with h;subst h;refine .ofVal (m:=Instr.build ty (parts.map λ(i,x)=>(i,a.eval x))) (by simp only[execOp,ho]) (Am (g:=g) (place:=(places[·]?)) hz (fk ht hr hvs) hp λz cells hzv hfill=>?_);have h1:(fs.mapM λf=>do pure (f.offset,<-Go.sizeOf f.type):Sem (Array (Nat×Nat))).run C.P w=.ok places.toArray w:=by
       rw[Array.mapM_eq_mapM_toList];have:=EV (w:=w) hpl;simp only[Sem.run_map,this]
       rfl
      unfold Instr.build;simp only[Sem.run_bind,hzv,aC hu,Result.andThen_ok,h1];have e:(λi:Nat=>places.toArray[i]?)=(λi:Nat=>places[i]?):=by funext i;simp
      rw[e,hfill]
      rfl
     ·cases h
    ·cases h
   ·rename_i n e hu
    split at h
    ·rename_i sz hsz;injection h with h;subst h;refine .ofVal (m:=Instr.build ty (parts.map λ(i,x)=>(i,a.eval x))) (by simp only[execOp,ho]) (Am (g:=g) (place:=λi=>some (i*sz,sz)) hz (fk ht hr hvs) ?_ λz cells hzv hfill=>?_)
     ·generalize parts.toList.map (·.1)=is
      induction is with
      | nil=>rfl
      | cons i is ih=>simp only[aE,ih,List.map_cons]
     ·unfold Instr.build;simp only[Sem.run_bind,hzv,aC hu,Result.andThen_ok,aW hsz];rw[hfill]
      rfl
    ·cases h
   ·cases h
  ·cases h
 case slice ty x lo hi mx =>
  have optR:∀{y:Option Operand} {s:Stg (T->List AV)},bC C y.toList=some s->OVR w γ A bd (s.run t).head? (y.map a.eval):=by intro y s hs;have:=JM (fk ht hr hs);cases y<;>simpa using this
  cases mx with
  | none =>
   dsimp only at h
   split at h
   ·rename_i e sx sl sh hu hx hl hh
    split at h
    ·rename_i sz hsz;injection h with h;subst h;refine .ofVal (m:=Instr.sliceAt ty (a.eval x) (lo.map a.eval) (hi.map a.eval) none) (by simp only[execOp,ho,Option.map_none]) ?_;exact zn hr hu hsz (ax hx ht hr) (optR hl) (optR hh) trivial (λh=>absurd rfl h) λid hid=>agree id (by simp[bc,aI,ap,hx,hid])
    ·cases h
   ·rename_i n e sx sl sh hu hx hl hh
    split at h
    ·rename_i sz hsz;injection h with h;subst h;refine .ofUpd (m:=Instr.sliceAt ty (a.eval x) (lo.map a.eval) (hi.map a.eval) none) (by simp only[execOp,ho,Option.map_none]) ?_;exact B4 (lo:=λt=>(sl.run t).head?) (hi:=λt=>(sh.run t).head?) hr hu hsz (Nat.succ_pos _) (ax hx ht hr) (optR hl) (optR hh) λid hid=>agree id (by simp[bc,aI,ap,hx,hid])
    ·cases h
   ·cases h
  | some mx =>
   cases hi with
   | none=>cases h
   | some hi =>
    dsimp only at h
    split at h
    ·rename_i e sx sl sh sm he hx hl hh hm
     split at h
     ·rename_i sz hsz;injection h with h;subst h;have hu:C.P.underlying ty=some (.slice e):=by unfold jB at he;split at he<;>first | (injection he with he;subst he;assumption) | cases he
      refine .ofVal (m:=Instr.sliceAt ty (a.eval x) (lo.map a.eval) (some (a.eval hi)) (some (a.eval mx))) (by simp only[execOp,ho,Option.map_some]) ?_;exact zn hr hu hsz (ax hx ht hr) (optR hl) (ax hh ht hr) (ax hm ht hr) (λ_ h=>by cases h) λid hid=>agree id (by simp[bc,aI,ap,hx,hid])
     ·cases h
    ·cases h
 case call c =>
  obtain ⟨callee,args,argTypes⟩:=c;cases callee<;>first | (cases h;done) | skip
  rename_i b;dsimp only at h;obtain ⟨vs,hvs⟩:=sE h;obtain ⟨m,h1,h2⟩:=Cq (ty:=o.type) (consts:=args.map λ| .const _=>true | _=>false) h ht hr hf λx hx s hs id hid=>agree id (by
   have:=G9 (t:=t) hvs x hx s hs;unfold bc aI;simp only[hvs,ap,List.map_nil,List.append_nil,List.mem_flatMap];exact ⟨_,this,hid⟩)
  refine .ofUpd (m:=m) ?_ h2;rw[<-h1];simp only[execOp,ho,resolve,invoke];have e:args.map a.eval=(args.toList.map a.eval).toArray:=by apply Array.ext';simp
  rw[<-e]
  rfl
end
end Hx
end
