/- A part of the proof: what the functions of the chapter compute. -/
import Derived.DeepKeys3
import Derived.Test.YteaikmdilmfbeaaGreatHx2
set_option linter.all false
set_option maxRecDepth 20000
set_option maxHeartbeats 8000000
namespace Hx
open Go
noncomputable section
variable {v u vm:Value}{ty kt t e:TypeId}{x k y:AV}{P:Program}{g:G}{xs:Array Value}{m:T->AV}
section
variable {C:Cfg}{A:Nat->Nat->Prop}{bd:Nat}{w w':World}{γ γ':Gm}{hg:Nat->AObj}{nx:Nat}
theorem j_{s:Sem Value}(h:qd s=some y)(P:Program)(w:World):∃v,s.run P w=.ok v w/\RV w γ A bd y v:=by
 unfold qd at h
 split at h
 ·injection h with h;subst h;exact⟨_,rfl,.int _ _ _⟩
 ·injection h with h;subst h;exact⟨_,rfl,.bool _ _⟩
 ·cases h
theorem Gx{op:BinOp}{k:IntKind}{m n r:Nat}(hs:mc k m n=true)
  (h:(match op with
    |.and=>some (AV.int k (.ofNat (Nat.land m n)))
    |.or=>some (.int k (.ofNat (Nat.lor m n)))
    |.xor=>some (.int k (.ofNat (Nat.xor m n)))
    |.andNot=>some (.int k (.ofNat (Nat.xor m (Nat.land m n))))
    |_=>none)=some (.int k (.ofNat r))):(Op.intBits op k (.ofNat m) (.ofNat n)).run P w=.ok (.int k (.ofNat r)) w:=by
 have b:k.bits=64/\m<2 ^ 64/\n<2 ^ 64/\∀x:Nat,x<2 ^ 64->(k=.i64->x<2 ^ 63)->k.wrap (x:Int)=(x:Int):=by
  unfold mc at hs;cases k<;>simp only[TM,UH,VO]at hs
  ·exact⟨rfl,by omega,by omega,λx _ h=>rf x (by have:=h rfl;omega)⟩
  ·refine⟨rfl,by omega,by omega,λx h _=>?_⟩;rw[<-gY];show (Int.ofNat (x % 18446744073709551616))=_;rw[VR (by omega)];rfl
 have a:k=.i64->m<2 ^ 63/\n<2 ^ 63:=by intro e;subst e;simp only[mc,TM,UH]at hs;omega
 obtain⟨hb,hm,c,hw⟩:=b;have e1:(BitVec.ofInt k.bits (Int.ofNat m)).toNat=m:=by rw[hb];simp only[Ve,BitVec.ofInt_natCast,BitVec.toNat_ofNat];exact VR hm
 have e2:(BitVec.ofInt k.bits (Int.ofNat n)).toNat=n:=by rw[hb];simp only[Ve,BitVec.ofInt_natCast,BitVec.toNat_ofNat];exact VR c
 have fin:∀(z:BitVec k.bits) (q:Nat),z.toNat=q->q<2 ^ 64->(k=.i64->q<2 ^ 63)->q=r ->
   (Sem.pure (Value.int k (k.wrap z.toNat)):Sem Value).run P w=.ok (.int k (.ofNat r)) w:=by
  intro z q h1 h2 h3 h4;rw[h1,hw q h2 h3,h4];rfl
 unfold Op.intBits;cases op<;>first| (cases h;done)|skip
 case and =>
  injection h with h;injection h with _ h;injection h with h;exact fin _ (m &&& n) (by rw[BitVec.toNat_and,e1,e2]) (WX _ c) (λe=>WX _ (a e).2) h
 case or =>
  injection h with h;injection h with _ h;injection h with h;exact fin _ (m ||| n) (by rw[BitVec.toNat_or,e1,e2]) (Nat.or_lt_two_pow hm c) (λe=>Nat.or_lt_two_pow (a e).1 (a e).2) h
 case xor =>
  injection h with h;injection h with _ h;injection h with h;exact fin _ (m ^^^ n) (by rw[BitVec.toNat_xor,e1,e2]) (W0 hm c) (λe=>W0 (a e).1 (a e).2) h
 case andNot =>
  injection h with h;injection h with _ h;injection h with h;have hx:∀(x y:BitVec k.bits),x &&& ~~~y=x ^^^ (x &&& y):=by intro x y;ext i hi;simp only[BitVec.getElem_and,BitVec.getElem_not,BitVec.getElem_xor];cases x[i]<;>cases y[i]<;>rfl
  exact fin _ (m ^^^ (m &&& n)) (by rw[hx,BitVec.toNat_xor,BitVec.toNat_and,e1,e2]) (W0 hm (WX _ c))
   (λe=>W0 (a e).1 (WX _ (a e).2)) h
theorem GY{op:BinOp}{k k':IntKind}{a b:Int}(h:(fN op).run k a k' b=some y) :
  ∃v,(binOp op ty (.int k a) (.int k' b)).run P w=.ok v w/\RV w γ A bd y v:=by
 have hk:∀{α:Type} {x:Option α} {y:α},ay (cP k k') x none=some y->k=k'/\x=some y:=by
  intro α x y h;rw[aa,qa]at h
  split at h
  ·rename_i h1;exact⟨by simpa using h1,h⟩
  ·cases h
 cases op
 case add|sub|mul =>
  obtain⟨rfl,h1⟩:=hk h;injection h1 with h1;subst h1;refine⟨_,by simp only[binOp,Op.intArith,ne_eq,not_true,if_false];rfl,?_⟩;rw[gY];exact .int _ _ _
 case quo =>
  obtain⟨rfl,h1⟩:=hk h;clear h;unfold OW at h1;simp only[binOp,ne_eq,not_true,if_false]
  split at h1
  ·rename_i m n;injection h1 with h1;subst h1;refine⟨_,?_,by rw[gY];exact .int _ _ _⟩;unfold Op.intDiv;rw[TN (by simp only[Ve];omega)]
   rfl
  ·exact j_ h1 P w
 case rem =>
  obtain⟨rfl,h1⟩:=hk h;clear h;unfold O0 at h1;simp only[binOp,ne_eq,not_true,if_false]
  split at h1
  ·rename_i m n;injection h1 with h1;subst h1;refine⟨_,?_,.int _ _ _⟩;unfold Op.intDiv;rw[TN (by simp only[Ve];omega)]
   rfl
  ·exact j_ h1 P w
 case and|or|xor|andNot =>
  obtain⟨rfl,h1⟩:=hk h;clear h;unfold Pz at h1;simp only[binOp,ne_eq,not_true,if_false]
  split at h1
  ·rename_i m n;rw[aa]at h1
   split at h1
   ·rename_i hs;have h0:=h1;injection h1 with h1;subst h1;exact⟨_,Gx hs h0,.int _ _ _⟩
   ·exact j_ h1 P w
  ·exact j_ h1 P w
 case shl =>
  change Nm k a b=some y at h;unfold Nm at h;simp only[binOp]
  split at h
  ·rename_i m n;injection h with h;subst h;refine⟨_,?_,by rw[gY];exact .int _ _ _⟩;unfold Op.shift;rw[TN (by simp only[Ve];omega)];have:(Int.ofNat n).toNat=n:=rfl;simp only[this,Un];congr 3
  ·exact j_ (s:=Op.shift .shl k a k' b) h P w
 case shr =>
  change Nn k a b=some y at h;unfold Nn at h;simp only[binOp]
  split at h
  ·rename_i m n;injection h with h;subst h;refine⟨_,?_,.int _ _ _⟩;unfold Op.shift;rw[TN (by simp only[Ve];omega)];have:(Int.ofNat n).toNat=n:=rfl;simp only[this,Un];congr 2;have e:(2:Int) ^ (min n k.bits)=((2 ^ (min n k.bits):Nat):Int):=by simp
   rw[e,Int.fdiv_eq_ediv_of_nonneg _ (V6 _)]
   rfl
  ·exact j_ (s:=Op.shift .shr k a k' b) h P w
 all_goals
  obtain⟨rfl,h1⟩:=hk h;injection h1 with h1;subst h1;refine⟨_,by simp only[binOp,Op.intCmp,ne_eq,not_true,if_false];rfl,?_⟩;simp only[nS,l_,notb_eq]
 case eql=>exact .bool _ _
 case neq =>
  rw[show (a != b) = !decide (a=b) from by simp[bne];rfl];exact .bool _ _
 case lss=>exact .bool _ _
 case leq =>
  rw[show decide (a<=b) = !decide (b<a) from by rw[Wo];simp];exact .bool _ _
 case gtr=>exact .bool _ _
 case geq =>
  rw[show decide (a >= b) = !decide (a<b) from by rw[Wo];simp];exact .bool _ _
end
section
variable {C:Cfg}{A:Nat->Nat->Prop}{bd:Nat}{w w':World}{γ γ':Gm}{hg:Nat->AObj}{nx:Nat}
theorem fM{b:Nat}{o:Obj}(h:w.heap[b]?=some o)(hc:∀c e f,o≠.cells c e f):(getObj b).run P w=.ok o w:=by cases o<;>first| (exact absurd rfl (hc _ _ _))|simp[getObj,Sem.run,h]
theorem ii{b:Nat}{o o':Obj}(h:w.heap[b]?=some o)(hc:∀c e f,o≠.cells c e f):(setObj b o').run P w=.ok () (World.setBlk w b o'):=by cases o<;>first| (exact absurd rfl (hc _ _ _))|simp[setObj,Sem.run,h,World.setBlk]
theorem OC{argTypes:Array TypeId}(hr:Rel C A bd w γ hg nx)(h0:argTypes[0]?=some t)
  (hx:RV w γ A bd x v) (agree:ma C.P t=.map->∀id∈w_ x,hg id=g.h.get id) :
  ValSim C A bd w γ (Builtin.len_ argTypes ty #[v]) (cH (ma C.P t) x g):=by
 have a0:(#[v]:Array Value)[0]?=some v:=rfl;unfold Builtin.len_ ma;cases hu:C.P.underlying t with
 |none=>trivial
 | some d =>
  cases d<;>try trivial
  case array n e =>
   refine⟨goInt n,?_,.int _ _ _⟩;simp only[h0,a0,TV,aG hu,TQ]
   rfl
  case slice e =>
   simp only[cH];cases hx with
   |nils=>exact⟨goInt 0,by simp[h0,aG hu],.int _ _ _⟩
   |esl _ a=>exact⟨goInt 0,by simp[h0,aG hu],.int _ _ _⟩
   | tsl _ tag sz rows b o cap cell ht hc hb hm ha hrl ho hw h =>
    refine⟨goInt rows.length,by simp[h0,aG hu],?_⟩;rw[aA];exact .int _ _ _
   |tnil _ tag sz a cap ht=>exact⟨goInt 0,by simp[h0,aG hu],.int _ _ _⟩
   |hsl _ id ep off len lim b o cap hk he hc h=>exact⟨goInt len,by simp[h0,aG hu],.int _ _ _⟩
   |_=>trivial
  case string =>
   simp only[cH];cases hx with
   |str _ s=>exact⟨goInt s.size,by simp[h0,aG hu],.int _ _ _⟩
   |_=>trivial
  case map kt et =>
   simp only[cH];cases hx with
   |nilm=>exact⟨goInt 0,by simp[h0,aG hu],.int _ _ _⟩
   | hmap _ id b hk hb =>
    have k:=agree (by simp[ma,hu]) id (by simp[w_]);simp only[G.get_eq,<-k];cases hid:hg id with
    | map es =>
     have c:=hr.obj id;rw[hid]at c;obtain⟨j,k2,esC,f,i,l⟩:=c;subst hb;refine⟨goInt es.length,?_,by rw[aA];exact .int _ _ _⟩;simp[h0,aG hu,fM f (by simp),i]
    |_=>trivial
   |_=>trivial
theorem N9{argTypes:Array TypeId}(hr:Rel C A bd w γ hg nx)(h0:argTypes[0]?=some t)(hu:C.P.underlying t=some (.slice e))
  (hx:RV w γ A bd x v) (agree:∀id∈an x,hg id=g.h.get id) :
  ValSim C A bd w γ (Builtin.cap_ argTypes ty #[v]) (K8 x g):=by
 have a0:(#[v]:Array Value)[0]?=some v:=rfl;unfold K8;cases hx with
 |nils=>exact⟨goInt 0,by simp[Builtin.cap_,h0,aG hu],.int _ _ _⟩
 |esl _ a=>exact⟨goInt 0,by simp[Builtin.cap_,h0,aG hu],.int _ _ _⟩
 | hsl _ id ep off len lim b0 o0 cap0 hk he hc0 h0' =>
  have b:=agree id (by simp[an]);simp only[G.get_eq,<-b];cases hid:hg id with
  | cells sz rows ep' loose fz =>
   simp only[aa]
   split
   ·rename_i k;simp only[TM,UB,notb_eq,Vd]at k;obtain⟨h1,h2⟩:=k;have h1:=aH h1;subst h1;have f:=hr.obj id;rw[hid]at f;obtain⟨l,k2,m,n,i,_⟩:=f;obtain⟨c1,j,d⟩:=h0' k2.symm;refine⟨goInt cap0,by simp[Builtin.cap_,h0,aG hu],?_⟩;have e:(lim.getD (bj rows - off))=cap0:=by
     rw[aA];unfold iS at d;cases lim with
     |none=>simp at h2;have:=i.1 h2;simp only[Option.getD];dsimp only at d;omega
     |some c=>simp only[Option.getD];exact d.1.symm
    rw[e];exact .int _ _ _
   ·trivial
  |_=>trivial
 |_=>trivial
theorem OG{argTypes:Array TypeId}(hx:RV w γ A bd x v)(hy:RV w γ A bd y u) :
  ValSim C A bd w γ (Builtin.max_ argTypes ty #[v,u]) (match x with
   | .int k m=>match y with
    |.int k' n=>ay (cP k k') (.val (.int k (ay (y9 m n) n m))) .fail
    |_=>.fail
   |_=>.fail):=by
 cases hx with
 | int _ k m =>
  cases hy with
  | int _ k' n =>
   dsimp only;rw[aa]
   split
   ·refine⟨.int k (if n > m then n else m),by simp[Builtin.max_,Builtin.max2],?_⟩;rw[aa,l_];simp only[T9,gt_iff_lt];exact .int _ _ _
   ·trivial
  |_=>trivial
 |_=>trivial
theorem OH{argTypes:Array TypeId}(hx:RV w γ A bd x v)(hy:RV w γ A bd y u) :
  ValSim C A bd w γ (Builtin.min_ argTypes ty #[v,u]) (match x with
   | .int k m=>match y with
    |.int k' n=>ay (cP k k') (.val (.int k (ay (y9 n m) n m))) .fail
    |_=>.fail
   |_=>.fail):=by
 cases hx with
 | int _ k m =>
  cases hy with
  | int _ k' n =>
   dsimp only;rw[aa]
   split
   ·refine⟨.int k (if n<m then n else m),by simp[Builtin.min_,Builtin.min2],?_⟩;rw[aa,l_];simp only[T9];exact .int _ _ _
   ·trivial
  |_=>trivial
 |_=>trivial
end
section
variable {w:World}
def gO:TypeDesc->Value->Bool
 |.bool,.bool _=>true
 |.int k,.int k' _=>decide (k=k')
 |.string,.string _=>true
 |_,_=>false
def aV:List TypeDesc->List Value->Bool
 |[],[]=>true
 |d::ds,v::vs=>gO d v&&aV ds vs
 |_,_=>false
def eqV:Value->Value->Bool
 |.int _ a,.int _ b=>a == b
 |.bool a,.bool b=>a == b
 |.string a,.string b=>a == b
 |_,_=>false
def nG:List Value->List Value->Bool
 |[],[]=>true
 |a::as,b::bs=>eqV a b&&nG as bs
 |_,_=>false
def dW(P:Program)(t:TypeId):Bool:=match sj P t with|some b=>b|none=>false
def mkV(P:Program)(t:TypeId)(cs:List Value):Value:=if dW P t then .agg cs.toArray else cs.headD undef
theorem a8:∀{ds:List TypeDesc} {vs:List Value},aV ds vs=true->vs.length=ds.length:=by
 intro ds
 induction ds with
 |nil=>intro vs h;cases vs<;>simp_all [aV]
 | cons d ds ih=>intro vs h;cases vs with
  |nil=>simp[aV]at h
  |cons v vs=>simp only[aV,TM]at h;simp[ih h.2]
theorem eN{d1 d2:List TypeDesc}:∀{vs:List Value},aV (d1++d2) vs=true->aV d1 (vs.take d1.length)=true/\aV d2 (vs.drop d1.length)=true:=by
 induction d1 with
 |nil=>intro vs h;simpa [aV] using h
 | cons d ds ih =>
  intro vs h;cases vs with
  |nil=>simp[aV]at h
  | cons v vs =>
   simp only[T4,aV,TM]at h;obtain⟨h1,h2⟩:=ih h.2;simp only[Uq,WR,Wx,aV,TM];exact⟨⟨h.1,h1⟩,h2⟩
theorem yv:∀{a1 a2 b1 b2:List Value},a1.length=b1.length->nG (a1++a2) (b1++b2)=(nG a1 b1&&nG a2 b2):=by
 intro a1
 induction a1 with
 |nil=>intro a2 b1 b2 h;cases b1<;>simp_all [nG]
 | cons a as ih =>
  intro a2 b1 b2 h;cases b1 with
  |nil=>simp at h
  |cons b bs=>simp only[T4,nG,ih (Nat.succ.inj h),Bool.and_assoc]
section
variable {P:Program}
def oU:TypeDesc->Bool
 |.struct _|.array _ _=>true
 |_=>false
theorem dX{d:TypeDesc}(h:P.underlying t=some d) :
  dW P t=oU d/\sj P t=some (dW P t):=by
 unfold dW sj;cases d<;>simp[h,oU]
theorem ue{d:TypeDesc}{n off:Nat}(hu:P.underlying t=some d)(hn:szT P t=some n)(h1:dW P t=false->n=1)
  (hle:dW P t=false->off+n<=xs.size):(part t xs off).run P w=.ok (mkV P t ((xs.toList.drop off).take n)) w:=by
 obtain⟨_,ha⟩:=dX hu;unfold mkV;cases hg:dW P t with
 | true =>
  rw[hg]at ha;have e:(xs.extract off (off+n))=((xs.toList.drop off).take n).toArray:=by apply WI;simp[Array.toList_extract,List.extract]
  simp[part,mh ha,a_ hn,e]
 | false =>
  rw[hg]at ha;have h:=h1 hg;subst h;have hl:off<xs.size:=by have:=hle hg;omega
  have e:((xs.toList.drop off).take 1).headD undef=xs[off]:=by rw[List.headD_eq_head?_getD,List.head?_take,TN (by decide),List.head?_drop];simp[hl]
  simp only[part,TV,mh ha,TQ,VO,if_false,e];simp[hl]
theorem ib{d:Nat}{ds:List TypeDesc}(h:m9 P d t=some ds):∃k,P.underlying t=some k/\(dW P t=false->ds.length=1):=by
 cases d with
 |zero=>cases h
 | succ d =>
  unfold m9 at h;cases hu:P.underlying t with
  |none=>rw[hu]at h;cases h
  | some k =>
   refine⟨k,rfl,λhg=>?_⟩;obtain⟨h1,_⟩:=dX hu;rw[hg]at h1;rw[hu]at h;cases k<;>simp[oU]at h1<;>simp only[aa]at h<;>split at h<;>first| (cases h;done)| (injection h with h;subst h;rfl)
theorem GS{dd:Nat}{rec:TypeId->Option (List TypeDesc)}(hinfo:∀t ds,rec t=some ds->∃k,P.underlying t=some k/\(dW P t=false->ds.length=1))
  (ih:∀t ds,rec t=some ds->∀(xs ys:List Value),aV ds xs=true->aV ds ys=true->(Op.equalIn dd t (mkV P t xs) (mkV P t ys)).run P w=.ok (nG xs ys) w)
  {ys:Array Value}:∀(fs:List Field) (k:Nat) (ds:List TypeDesc),vB P rec fs k=some ds->aV ds (xs.toList.drop k)=true->aV ds (ys.toList.drop k)=true ->
   (Op.eqFields dd xs ys fs).run P w=.ok (nG (xs.toList.drop k) (ys.toList.drop k)) w:=by
 intro fs
 induction fs with
 | nil =>
  intro k ds h hx j;simp only[vB]at h;injection h with h;subst h;have h1:=a8 hx;have h2:=a8 j;rw[Ui h1,Ui h2]
  rfl
 | cons f fs ihf =>
  intro k ds h hx j;simp only[vB]at h
  split at h
  ·rename_i ds1 h1
   split at h
   ·rename_i r hr;rw[aa]at h
    split at h
    ·rename_i c;simp only[TM,bne_iff_ne,ne_eq,beq_iff_eq]at c;obtain⟨⟨d,a⟩,i⟩:=c;have a:=aH a;injection h with h;subst h;obtain⟨x1,l⟩:=eN hx;obtain⟨y1,m⟩:=eN j;rw[U4]at l m;have lx:=a8 hx;have ly:=a8 j;simp at lx ly;obtain⟨kd,hu,b⟩:=hinfo _ _ h1;have n:(part f.type xs f.offset).run P w=.ok (mkV P f.type ((xs.toList.drop k).take ds1.length)) w:=by rw[a];exact ue hu i b λhg=>by have:=b hg;omega
     have o:(part f.type ys f.offset).run P w=.ok (mkV P f.type ((ys.toList.drop k).take ds1.length)) w:=by rw[a];exact ue hu i b λhg=>by have:=b hg;omega
     have p:=ih _ _ h1 _ _ x1 y1;have p4:=ihf _ _ hr l m;simp only[Op.eqFields,ne_eq,d,not_false_eq_true,if_true,TV,n,o,p,TQ];have e:=yv (a1:=(xs.toList.drop k).take ds1.length) (a2:=xs.toList.drop (k+ds1.length)) (b1:=(ys.toList.drop k).take ds1.length) (b2:=ys.toList.drop (k+ds1.length))
      (by rw[a8 x1,a8 y1])
     rw[<-U4,<-U4,UE,UE]at e;rw[e,U4,U4];cases hq:nG ((xs.toList.drop k).take ds1.length) ((ys.toList.drop k).take ds1.length)
     ·simp
     ·simpa using p4
    ·cases h
   ·cases h
  ·cases h
theorem B8{dd:Nat}{de:List TypeDesc}{kd:TypeDesc}(hu:P.underlying e=some kd)(hone:dW P e=false->de.length=1)(hsz:szT P e=some de.length)
  (ih:∀(xs ys:List Value),aV de xs=true->aV de ys=true->(Op.equalIn dd e (mkV P e xs) (mkV P e ys)).run P w=.ok (nG xs ys) w)
  {ys:Array Value}:∀(n i:Nat),aV (List.replicate n de).flatten (xs.toList.drop (i*de.length))=true->aV (List.replicate n de).flatten (ys.toList.drop (i*de.length))=true ->
   (Op.eqItems dd e de.length xs ys (List.range' i n)).run P w=.ok (nG (xs.toList.drop (i*de.length)) (ys.toList.drop (i*de.length))) w:=by
 intro n
 induction n with
 | zero =>
  intro i hx h;have h1:=a8 hx;have h2:=a8 h;rw[Ui (l:=xs.toList.drop _) (by simpa using h1),Ui (l:=ys.toList.drop _) (by simpa using h2)]
  rfl
 | succ n ihn =>
  intro i hx h;rw[UY,VE]at hx h;obtain⟨x1,k⟩:=eN hx;obtain⟨y1,a⟩:=eN h;have lx:=a8 x1;have ly:=a8 y1;simp at lx ly;rw[U4]at k a;have em:i*de.length+de.length=(i+1)*de.length:=by rw[Ub,UN]
  rw[em]at k a;have b:(part e xs (i*de.length)).run P w=.ok (mkV P e ((xs.toList.drop (i*de.length)).take de.length)) w:=ue hu hsz hone λhg=>by have:=hone hg;omega
  have c:(part e ys (i*de.length)).run P w=.ok (mkV P e ((ys.toList.drop (i*de.length)).take de.length)) w:=ue hu hsz hone λhg=>by have:=hone hg;omega
  have d:=ih _ _ x1 y1;have p4:=ihn (i+1) k a;rw[WO];simp only[Op.eqItems,TV,b,c,d,TQ];have ee:=yv (a1:=(xs.toList.drop (i*de.length)).take de.length) (a2:=xs.toList.drop ((i+1)*de.length)) (b1:=(ys.toList.drop (i*de.length)).take de.length) (b2:=ys.toList.drop ((i+1)*de.length))
   (by rw[a8 x1,a8 y1])
  rw[<-em,<-U4,<-U4,UE,UE,U4,U4,em]at ee;rw[ee];cases hq:nG ((xs.toList.drop (i*de.length)).take de.length) ((ys.toList.drop (i*de.length)).take de.length)
  ·simp
  ·simpa using p4
theorem GD{n:Nat}(h:szT P t=some n):P.cellsOf t=n/\∃i,P.info? t=some i:=by
 unfold szT at h;unfold Program.cellsOf;cases hi:P.info? t with
 |none=>rw[hi]at h;cases h
 |some i=>rw[hi]at h;simp at h;simp[h]
theorem DI(D:Nat):∀(d:Nat) (t:TypeId) (ds:List TypeDesc),m9 P d t=some ds->∀(w:World) (xs ys:List Value),aV ds xs=true->aV ds ys=true ->
  (Op.equalIn (D+d) t (mkV P t xs) (mkV P t ys)).run P w=.ok (nG xs ys) w:=by
 intro d
 induction d with
 |zero=>intro t ds h;cases h
 | succ d ih =>
  intro t ds h w xs ys hx a;unfold m9 at h;have one:∀k,P.underlying t=some k->m8 k=true->oU k=false->ds=[k]->(Op.equalIn (D+(d+1)) t (mkV P t xs) (mkV P t ys)).run P w=.ok (nG xs ys) w:=by
   intro k hu hk m o;obtain⟨h1,_⟩:=dX hu;subst o;have hm:∀zs,mkV P t zs=zs.headD undef:=by intro zs;unfold mkV;rw[h1,m];rfl
   rw[hm,hm];have lx:=a8 hx;have ly:=a8 a
   match xs,ys,lx,ly with
   | [x],[y],_,_ =>
    simp only[aV,WE]at hx a;simp only[List.headD_cons,nG,WE,<-VK];cases k<;>simp[m8]at hk<;>cases x<;>simp[gO]at hx<;>cases y<;>simp[gO]at a
    ·simp[Op.equalIn,aG hu,eqV]
    ·subst hx;subst a;simp[Op.equalIn,aG hu,eqV]
    ·simp[Op.equalIn,aG hu,eqV]
  cases hu:P.underlying t with
  |none=>rw[hu]at h;cases h
  | some k =>
   rw[hu]at h;cases k
   case struct fs =>
    simp only[aa]at h
    split at h
    ·cases h
    ·rename_i c;have c:P.stoodInHeld t=false:=by simpa using c
     have j:P.fieldsOf t=fs:=by simp[Program.fieldsOf,hu]
     have hm:∀zs,mkV P t zs=.agg zs.toArray:=by intro zs;unfold mkV;rw[(dX hu).1];rfl
     rw[hm,hm,<-VK,run_equalIn_struct w (D+d) t _ _ (by rw[j];exact hu) c,j];have:=GS (P:=P) (w:=w) (dd:=D+d) (rec:=m9 P d) (λt ds h=>ib h) (λt ds h xs ys hx a=>ih t ds h w xs ys hx a) (xs:=xs.toArray) (ys:=ys.toArray)
      fs.toList 0 ds h (by simpa using hx) (by simpa using a)
     simpa using this
   case array n e =>
    simp only at h
    split at h
    ·rename_i de f;simp only[aa]at h
     split at h
     ·rename_i b;injection h with h;subst h;have b:szT P e=some de.length:=by simpa using b
      obtain⟨kd,p,l⟩:=ib f;obtain⟨hc,i,hi⟩:=GD b;have hm:∀zs,mkV P t zs=.agg zs.toArray:=by intro zs;unfold mkV;rw[(dX hu).1];rfl
      rw[hm,hm,<-VK,run_equalIn_array w (D+d) _ _ hu hi,hc,WK];have:=B8 (P:=P) (w:=w) (dd:=D+d) p l b (λxs ys hx a=>ih e de f w xs ys hx a) (xs:=xs.toArray) (ys:=ys.toArray) n 0 (by simpa using hx) (by simpa using a);simpa using this
     ·cases h
    ·cases h
   all_goals
    simp only[aa]at h
    split at h
    ·rename_i hk;injection h with h;exact one _ hu hk rfl h.symm
    ·cases h
end
end
section
variable {C:Cfg}{A:Nat->Nat->Prop}{bd:Nat}{w w':World}{γ γ':Gm}{hg:Nat->AObj}{nx:Nat}
theorem RVs.tail{xs:List AV}{vs:List Value}(h:RVs w γ A bd (x::xs) (v::vs)):RV w γ A bd x v/\RVs w γ A bd xs vs :=
 ⟨h.2 0 x v rfl rfl,by have:=h.1;simp at this;exact this,λi y u hy hu=>h.2 (i+1) y u (by simpa using hy) (by simpa using hu)⟩
theorem CV{d:TypeDesc}(h:oV d x=true)(hx:RV w γ A bd x v):gO d v=true:=by cases d<;>cases hx<;>simp_all [oV,gO,qa]
theorem vF:∀{ds:List TypeDesc} {xs:List AV} {vs:List Value},dt ds xs=true->RVs w γ A bd xs vs->aV ds vs=true:=by
 intro ds
 induction ds with
 | nil =>
  intro xs vs h hx;cases xs with
  | nil=>have:=hx.1;cases vs with
   |nil=>rfl
   |cons v vs=>simp at this
  |cons x xs=>cases h
 | cons d ds ih =>
  intro xs vs h hx;cases xs with
  |nil=>cases h
  | cons x xs =>
   cases vs with
   |nil=>have:=hx.1;simp at this
   | cons v vs =>
    obtain⟨h1,h2⟩:=hx.tail;simp only[dt,aa]at h
    split at h
    ·rename_i hk;simp only[aV,TM];exact⟨CV hk h1,ih h h2⟩
    ·cases h
theorem xN{b:Bool}(h:mE x y=some b)(hx:RV w γ A bd x v)(hy:RV w γ A bd y u):eqV v u=b:=by
 cases hx<;>cases hy<;>simp only[mE]at h<;>first| (cases h;done)|skip
 ·injection h with h;subst h;rename_i a b;cases a<;>cases b<;>rfl
 ·rw[aa]at h
  split at h
  ·injection h with h;subst h;simp[eqV,nS];rfl
  ·cases h
 ·injection h with h;subst h;simp only[eqV];rename_i k c;obtain⟨⟨x⟩⟩:=k;obtain⟨⟨y⟩⟩:=c;show ((⟨x⟩:Array UInt8) == ⟨y⟩)=_;rw[Wo];simp
theorem vd:∀{xs ys:List AV} {vs us:List Value} {b:Bool},dA xs ys=some b->RVs w γ A bd xs vs->RVs w γ A bd ys us->nG vs us=b:=by
 intro xs
 induction xs with
 | nil =>
  intro ys vs us b h hx k;cases ys with
  | nil =>
   simp only[dA]at h;injection h with h;subst h;have h1:=hx.1;have h2:=k.1;cases vs<;>cases us<;>simp_all [nG]
  |cons y ys=>cases h
 | cons x xs ih =>
  intro ys vs us b h hx k;cases ys with
  |nil=>cases h
  | cons y ys =>
   cases vs with
   |nil=>have:=hx.1;simp at this
   | cons v vs =>
    cases us with
    |nil=>have:=k.1;simp at this
    | cons u us =>
     obtain⟨x1,a⟩:=hx.tail;obtain⟨y1,c⟩:=k.tail;simp only[dA]at h
     split at h
     ·rename_i p q hp hq;injection h with h;subst h;simp only[nG,xN hp x1 y1,ih hq a c,aa];cases p<;>simp
     ·cases h
theorem v_{xs:List AV}(h:RV w γ A bd (.agg xs) v):∃vs,v=.agg vs/\RVs w γ A bd xs vs.toList:=by
 cases h with
 |agg _ _ vs hl h1 h2=>exact⟨vs,rfl,by simpa using hl,λi x u hx hu=>h2 i x u hx (by simpa using hu)⟩
theorem GR{ds:List TypeDesc}{ys:Array Value}(h:km C.P t=some ds)(hag:dW C.P t=true)(hx:aV ds xs.toList=true)(hy:aV ds ys.toList=true) :
  C.P.eqGuardType C.P.depth t=false/\(Op.equal t (.agg xs) (.agg ys)).run C.P w=.ok (nG xs.toList ys.toList) w:=by
 unfold km at h;rw[aa]at h
 split at h
 ·cases h
 ·rename_i hg;refine⟨by simpa using hg,?_⟩;have:=DI (P:=C.P) 9992 8 t ds h w xs.toList ys.toList hx hy;unfold mkV at this;rw[hag]at this;simpa [Op.equal,Op.maxDepth] using this
theorem me(t:TypeId)(x y:Value):Op.equal t x y=Op.equalIn (9999+1) t x y:=rfl
def EqFin(C:Cfg)(w:World)(ty:TypeId)(xo yo:Operand)(va vb:Value)(r:Bool):Prop :=
 (∀op,(eqGuard op ty xo yo va vb).run C.P w=.ok () w)/\(binOp .eql ty va vb).run C.P w=.ok (.bool r) w/\(binOp .neq ty va vb).run C.P w=.ok (.bool (!r)) w
theorem EqFin.mk'{ty:TypeId}{xo yo:Operand}{va vb:Value}{r:Bool}(h1:∀op,(eqGuard op ty xo yo va vb).run C.P w=.ok () w)(h2:(Op.equal ty va vb).run C.P w=.ok r w)
  (h3:binOp .eql ty va vb=(do pure (.bool (<-Op.equal ty va vb)))) (h4:binOp .neq ty va vb=(do pure (.bool (!(<-Op.equal ty va vb))))):EqFin C w ty xo yo va vb r:=by
 refine⟨h1,?_,?_⟩
 ·rw[h3];simp[h2]
 ·rw[h4];simp[h2]
section kinds
variable {ty:TypeId}{xo yo:Operand}{a b:AV}{va vb:Value}{r:Bool}(ha:RV w γ A bd a va)(hb:RV w γ A bd b vb)
include ha hb
theorem Lp{ds:List TypeDesc}(hf:km C.P ty=some ds)(hag:dW C.P ty=true)(h:eqA (.flat ds) a b=some r):EqFin C w ty xo yo va vb r:=by
 cases a<;>try (cases h;done)
 cases b<;>try (cases h;done)
 rename_i xs ys;change ay (dt ds xs&&dt ds ys) (dA xs ys) none=some r at h;rw[aa]at h
 split at h
 ·rename_i hk;simp only[TM]at hk;obtain⟨vs,rfl,c⟩:=v_ ha;obtain⟨us,rfl,k⟩:=v_ hb;obtain⟨g1,g2⟩:=GR (w:=w) hf hag (vF hk.1 c) (vF hk.2 k);rw[vd h c k]at g2;exact .mk' (λop=>run_eqGuard_agg w op ty xo yo vs us g1) g2 rfl rfl
 ·cases h
theorem JG(hu:C.P.underlying ty=some (.slice e))(h:eqA .slice a b=some r):EqFin C w ty xo yo va vb r:=by
 cases ha<;>try (cases h;done)
 all_goals cases hb<;>first| (cases h;done)| (injection h with h;subst h;exact .mk' (λop=>by cases op<;>simp[eqGuard]) (by rw[me];unfold Op.equalIn;simp[aG hu]) rfl rfl)
theorem Lq{p q:Array TypeId}{v:Bool}(hu:C.P.underlying ty=some (.func p q v))(h:eqA .func a b=some r):EqFin C w ty xo yo va vb r:=by
 cases ha<;>try (cases h;done)
 all_goals cases hb<;>first| (cases h;done)| (injection h with h;subst h;exact .mk' (λop=>by cases op<;>simp[eqGuard]) (by rw[me];unfold Op.equalIn;simp[aG hu]) rfl rfl)
theorem Lo(hu:C.P.underlying ty=some .bool)(h:eqA .bool a b=some r):EqFin C w ty xo yo va vb r:=by
 cases ha<;>try (cases h;done)
 cases hb<;>try (cases h;done)
 rename_i x y;injection h with h;subst h;refine .mk' (λop=>by cases op<;>simp[eqGuard]) ?_ rfl rfl;rw[me];unfold Op.equalIn;simp[aG hu];cases x<;>cases y<;>rfl
theorem JF{ms:Array (String×TypeId)}(hu:C.P.underlying ty=some (.interface ms))(h:eqA (.iface ms.isEmpty) a b=some r):EqFin C w ty xo yo va vb r:=by
 cases ha<;>try (cases h;done)
 ·cases hb<;>try (cases h;done)
  ·change ay ms.isEmpty (some true) none=some r at h;rw[aa]at h
   split at h
   ·rename_i he;injection h with h;subst h;refine .mk' (λop=>?_) (by rw[me];unfold Op.equalIn;simp[aG hu]) rfl rfl;have hg:(Op.eqGuardIn Op.maxDepth ty .nilIface .nilIface).run C.P w=.ok false w:=by show (Op.eqGuardIn (9999+1) ty .nilIface .nilIface).run C.P w=_;unfold Op.eqGuardIn;simp only[TV,aG hu,TQ,he,Un,Bool.not_true]
    unfold eqGuard;generalize Op.eqGuardIn Op.maxDepth ty .nilIface .nilIface=m at hg ⊢;cases op<;>simp[hg]
   ·cases h
  ·injection h with h;subst h;exact .mk' (λop=>by cases op<;>simp[eqGuard]) (by rw[me];unfold Op.equalIn;simp[aG hu]) rfl rfl
 ·cases hb<;>try (cases h;done)
  injection h with h;subst h;exact .mk' (λop=>by cases op<;>simp[eqGuard]) (by rw[me];unfold Op.equalIn;simp[aG hu]) rfl rfl
end kinds
theorem Ik{ty:TypeId}{xo yo:Operand}{a b:AV}{va vb:Value}{r:Bool}(hne:qq C.P ty≠.other)(h:eqA (qq C.P ty) a b=some r)(ha:RV w γ A bd a va)(hb:RV w γ A bd b vb) :
  EqFin C w ty xo yo va vb r:=by
 unfold qq at h hne;cases hu:C.P.underlying ty with
 |none=>simp only[hu]at hne;exact absurd rfl hne
 | some d =>
  have agg:oU d=true->eqA (match km C.P ty with|some ds=>EqKind.flat ds|none=>.other) a b=some r->EqFin C w ty xo yo va vb r:=by
   intro hd h;cases hf:km C.P ty with
   |none=>rw[hf]at h;cases h
   |some ds=>rw[hf]at h;exact Lp ha hb hf (by rw[(dX hu).1];exact hd) h
  simp only[hu]at h hne;cases d
  case struct fs=>exact agg rfl h
  case array n e=>exact agg rfl h
  case slice e=>exact JG ha hb hu h
  case func p q v=>exact Lq ha hb hu h
  case bool=>exact Lo ha hb hu h
  case interface ms=>exact JF ha hb hu h
  all_goals exact absurd rfl hne
noncomputable def PU(op:BinOp)(x y:AV):OR:=match x,y with|.int k m,.int k' n=>orV ((fN op).run k m k' n)|_,_=>.fail
theorem N0{op:BinOp}{ty:TypeId}{xo yo:Operand}{a b:AV}{va vb:Value}(ha:RV w γ A bd a va)(hb:RV w γ A bd b vb) :
  ValSim C A bd w γ (do eqGuard op ty xo yo va vb;binOp op ty va vb) ((zK C.P op ty).run a b):=by
 have oT:ValSim C A bd w γ (do eqGuard op ty xo yo va vb;binOp op ty va vb) (PU op a b):=by
  unfold PU;cases ha with
  | int _ k m =>
   cases hb with
   | int _ k' n =>
    refine nW λy hy=>?_;obtain⟨v,h1,h2⟩:=GY (P:=C.P) (ty:=ty) (w:=w) (γ:=γ) (A:=A) (bd:=bd) hy;refine⟨v,?_,h2⟩;have:(eqGuard op ty xo yo (.int k m) (.int k' n)).run C.P w=.ok () w:=by cases op<;>simp[eqGuard]
    simp[this,h1]
   |_=>trivial
  |_=>trivial
 cases op
 case eql =>
  unfold zK;dsimp only
  split
  ·exact oT
  ·rename_i hk;dsimp only;cases hr:eqA (qq C.P ty) a b with
   |none=>trivial
   | some r =>
    obtain⟨h1,h2,_⟩:=Ik (xo:=xo) (yo:=yo) (λe=>hk e) hr ha hb;exact⟨.bool r,by simp[h1,h2],.bool _ _⟩
 case neq =>
  unfold zK;dsimp only
  split
  ·exact oT
  ·rename_i hk;dsimp only;cases hr:eqA (qq C.P ty) a b with
   |none=>trivial
   | some r =>
    obtain⟨h1,_,h2⟩:=Ik (xo:=xo) (yo:=yo) (λe=>hk e) hr ha hb;exact⟨.bool (!r),by simp[h1,h2],by rw[notb_eq];exact .bool _ _⟩
 all_goals exact oT
end
section
variable {P:Program}
theorem AE(em:Bool)(D:Nat):∀(d:Nat) (t:TypeId) (ds:List TypeDesc),m9 P d t=some ds->∀(w:World) (xs:List Value),aV ds xs=true ->
  (Instr.checkKey em (D+d) t (mkV P t xs)).run P w=.ok () w:=by
 intro d
 induction d with
 |zero=>intro t ds h;cases h
 | succ d ih =>
  intro t ds h w xs hx;unfold m9 at h;have one:∀k,P.underlying t=some k->m8 k=true->oU k=false->ds=[k]->(Instr.checkKey em (D+(d+1)) t (mkV P t xs)).run P w=.ok () w:=by
   intro k hu hk hag hds;obtain⟨h1,_⟩:=dX hu;subst hds;have hm:∀zs,mkV P t zs=zs.headD undef:=by intro zs;unfold mkV;rw[h1,hag];rfl
   rw[hm];have lx:=a8 hx
   match xs,lx with
   | [x],_ =>
    simp only[aV,WE]at hx;simp only[List.headD_cons,<-VK];unfold Instr.checkKey;cases k<;>simp[m8]at hk<;>cases x<;>simp[gO]at hx<;>simp[aG hu]
  cases hu:P.underlying t with
  |none=>rw[hu]at h;cases h
  | some k =>
   rw[hu]at h;cases k
   case struct fs =>
    simp only[aa]at h
    split at h
    ·cases h
    ·have hm:∀zs,mkV P t zs=.agg zs.toArray:=by intro zs;unfold mkV;rw[(dX hu).1];rfl
     rw[hm,<-VK,Instr.checkKey];simp only[TV,aG hu,TQ];rw[<-Array.forIn_toList];have go:∀(L:List Field) (k:Nat) (ds:List TypeDesc),vB P (m9 P d) L k=some ds->aV ds (xs.drop k)=true ->
       (forIn L PUnit.unit λ(f:Field) (_:PUnit)=>(do
        if f.name ≠ "_" then Instr.checkKey em (D + d) f.type (← part f.type xs.toArray f.offset)
        pure (ForInStep.yield PUnit.unit):Sem (ForInStep PUnit))).run P w=.ok PUnit.unit w:=by
      intro L
      induction L with
      |nil=>intro k ds _ _;simp
      | cons f L ihL =>
       intro k ds h hx;simp only[vB]at h
       split at h
       ·rename_i ds1 h1
        split at h
        ·rename_i r hr;rw[aa]at h
         split at h
         ·rename_i hcond;simp only[TM,bne_iff_ne,ne_eq,beq_iff_eq]at hcond;obtain⟨⟨hname,hoff⟩,hsz⟩:=hcond;have hoff:=aH hoff;injection h with h;subst h;obtain⟨x1,x2⟩:=eN hx;rw[U4]at x2;have lx:=a8 hx;simp at lx;obtain⟨kd,hu',hone⟩:=ib h1;have p1:(part f.type xs.toArray f.offset).run P w=.ok (mkV P f.type ((xs.drop k).take ds1.length)) w:=by
           rw[hoff];have:=ue (w:=w) (xs:=xs.toArray) (off:=k) hu' hsz hone λhg=>by have:=hone hg;simp;omega
           simpa using this
          have p2:=ih _ _ h1 w _ x1;have p3:=ihL _ _ hr x2;simp only[List.forIn_cons,TV,ne_eq,hname,not_false_eq_true,if_true,TQ,p1,p2,Un];exact p3
         ·cases h
        ·cases h
       ·cases h
     have:=go fs.toList 0 ds h (by simpa using hx);simp at this ⊢;rw[this];rfl
   case array n e =>
    simp only at h
    split at h
    ·rename_i de hde;simp only[aa]at h
     split at h
     ·rename_i hsz;injection h with h;subst h;have hsz:szT P e=some de.length:=by simpa using hsz
      obtain⟨kd,hue,hone⟩:=ib hde;have hm:∀zs,mkV P t zs=.agg zs.toArray:=by intro zs;unfold mkV;rw[(dX hu).1];rfl
      rw[hm,<-VK,Instr.checkKey];simp only[TV,aG hu,TQ];simp only[Std.Legacy.Range.forIn_eq_forIn_range',Std.Legacy.Range.size,VY,Nat.add_one_sub_one,WL];have go:∀(n i:Nat),aV (List.replicate n de).flatten (xs.drop (i*de.length))=true ->
        (forIn (List.range' i n) PUnit.unit λ(i:Nat) (_:PUnit)=>(do
         Instr.checkKey em (D+d) e (<-part e xs.toArray (i*(<-Go.sizeOf e)))
         pure (ForInStep.yield PUnit.unit):Sem (ForInStep PUnit))).run P w=.ok PUnit.unit w:=by
       intro n
       induction n with
       |zero=>intro i _;simp
       | succ n ihn =>
        intro i hx;rw[UY,VE]at hx;obtain⟨x1,x2⟩:=eN hx;have lx:=a8 x1;simp at lx;rw[U4]at x2;have em':i*de.length+de.length=(i+1)*de.length:=by rw[Ub,UN]
        rw[em']at x2;have p1:(part e xs.toArray (i*de.length)).run P w=.ok (mkV P e ((xs.drop (i*de.length)).take de.length)) w:=by
         have:=ue (w:=w) (xs:=xs.toArray) (off:=i*de.length) hue hsz hone λhg=>by have:=hone hg;simp;omega
         simpa using this
        have p2:=ih e de hde w _ x1;have p3:=ihn (i+1) x2;rw[WO];simp only[List.forIn_cons,TV,a_ hsz,TQ,p1,p2,Un];exact p3
      have:=go n 0 (by simpa using hx);simp at this ⊢;rw[this];rfl
     ·cases h
    ·cases h
   all_goals
    simp only[aa]at h
    split at h
    ·rename_i hk;injection h with h;exact one _ hu hk rfl h.symm
    ·cases h
end
section
variable {C:Cfg}{A:Nat->Nat->Prop}{bd:Nat}{w w':World}{γ γ':Gm}{hg:Nat->AObj}{nx:Nat}
def BG(P:Program)(kt:TypeId)(k:AV)(v:Value):Prop :=
 ∃d ds,d<=8/\m9 P d kt=some ds/\aV ds v.cells.toList=true/\v=mkV P kt v.cells.toList/\(dW P kt=true↔∃xs,k=.agg xs)
theorem GZ(h:nT (f_ C.P kt) k=true)(hk:RV w γ A bd k v):BG C.P kt k v:=by
 unfold f_ at h;cases hu:C.P.underlying kt with
 |none=>rw[hu]at h;cases h
 | some d =>
  have agg:oU d=true->nT (match km C.P kt with|some ds=>KeyKind.flat ds|none=>.other) k=true->BG C.P kt k v:=by
   intro hd h;cases hf:km C.P kt with
   |none=>rw[hf]at h;cases h
   | some ds =>
    rw[hf]at h;obtain⟨xs,rfl⟩:∃xs,k=.agg xs:=by cases k<;>first|exact⟨_,rfl⟩| (cases h;done)
    change dt ds xs=true at h;obtain⟨vs,rfl,l⟩:=v_ hk;have a:dW C.P kt=true:=by rw[(dX hu).1];exact hd
    unfold km at hf;rw[aa]at hf
    split at hf
    ·cases hf
    ·refine⟨8,ds,TG _,hf,vF h l,?_,?_⟩
     ·unfold mkV;rw[a];simp[Value.cells]
     ·simp[a]
  have one:m8 d=true->nT (.one d) k=true->oU d=false->(∀f,m9 C.P (f+1) kt=some [d])->BG C.P kt k v:=by
   intro hf c a i;have b:dW C.P kt=false:=by rw[(dX hu).1];exact a
   have j:=CV c hk;refine⟨1,[d],by decide,i 0,?_,?_,?_⟩
   ·cases v<;>simp_all [Value.cells,aV,gO]<;>cases d<;>simp_all [gO]
   ·unfold mkV;rw[b];cases v<;>simp[Value.cells]<;>cases d<;>simp_all [gO]
   ·rw[b];constructor
    ·intro h;cases h
    ·rintro⟨xs,rfl⟩;cases d<;>cases c
  rw[hu]at h;cases d
  case struct fs=>exact agg rfl h
  case array n e=>exact agg rfl h
  all_goals
   simp only[aa]at h
   split at h
   ·rename_i hf;exact one hf h rfl (λf=>by unfold m9;rw[hu];simp only[aa];rw[TO hf])
   ·cases h
theorem yu{d:TypeDesc}{b:Bool}(h:mE x y=some b)(hx:RV w γ A bd x v)(hy:RV w γ A bd y u)(hk:gO d v=true):gO d u=true:=by
 cases hx<;>try (cases h;done)
 all_goals cases hy<;>try (cases h;done)
 ·cases d<;>simp_all [gO]
 ·simp only[mE,aa,qa]at h
  split at h
  ·rename_i e;simp at e;subst e;cases d<;>simp_all [gO]
  ·cases h
 ·cases d<;>simp_all [gO]
theorem uE:∀{ds:List TypeDesc} {xs ys:List AV} {vs us:List Value} {b:Bool},dA xs ys=some b->RVs w γ A bd xs vs->RVs w γ A bd ys us->aV ds vs=true->aV ds us=true:=by
 intro ds
 induction ds with
 | nil =>
  intro xs ys vs us b h hx k hk;have h0:=a8 hk;have h1:=hx.1;have:xs=[]:=Ui (by simp at h0;simp[h1,h0]);subst this;cases ys with
  |nil=>have h2:=k.1;have:us=[]:=Ui (by simpa using h2.symm);subst this;rfl
  |cons y ys=>cases h
 | cons d ds ih =>
  intro xs ys vs us b h hx k hk;cases vs with
  |nil=>cases hk
  | cons v vs =>
   cases xs with
   |nil=>have:=hx.1;simp at this
   | cons x xs =>
    cases ys with
    |nil=>cases h
    | cons y ys =>
     cases us with
     |nil=>have:=k.1;simp at this
     | cons u us =>
      obtain⟨x1,a⟩:=hx.tail;obtain⟨y1,c⟩:=k.tail;simp only[aV,TM]at hk;simp only[dA]at h
      split at h
      ·rename_i p q hp hq;simp only[aV,TM];exact⟨yu hp x1 y1 hk.1,ih hq a c hk.2⟩
      ·cases h
theorem vG(h:dW C.P kt=false)(x:Value):mkV C.P kt [x]=x:=by unfold mkV;rw[h];rfl
theorem AT{k':AV}{v':Value}{b:Bool}(hk:BG C.P kt k v)(h:pZ k k'=some b)(h1:RV w γ A bd k v)(h2:RV w γ A bd k' v') :
  BG C.P kt k' v'/\(Op.equal kt v v').run C.P w=.ok b w/\(dW C.P kt=false->∀kd,C.P.underlying kt=some kd->Instr.sameNow kd v v'=some b):=by
 obtain⟨d,ds,hd,a,f,t,n⟩:=hk;cases hg:dW C.P kt with
 | true =>
  obtain⟨xs,rfl⟩:=n.1 hg;obtain⟨ys,rfl⟩:∃ys,k'=.agg ys:=by cases k'<;>first|exact⟨_,rfl⟩| (cases h;done)
  change dA xs ys=some b at h;obtain⟨vs,rfl,s⟩:=v_ h1;obtain⟨us,rfl,hu⟩:=v_ h2;have c:aV ds us.toList=true:=uE h s hu f;have he:=DI (P:=C.P) (10000 - d) d kt ds a w vs.toList us.toList f c;have hm:∀zs:Array Value,mkV C.P kt zs.toList=.agg zs:=by intro zs;unfold mkV;rw[hg];simp
  rw[show 10000 - d+d=9999+1 from by omega,hm,hm,vd h s hu]at he;refine⟨⟨d,ds,hd,a,c,(hm us).symm,by simp[hg]⟩,he,λh=>by cases h⟩
 | false =>
  have p:∀xs,k≠.agg xs:=λxs e=>by rw[n.2 ⟨xs,e⟩]at hg;cases hg
  have j:∀xs,k'≠.agg xs:=by rintro xs rfl;cases k<;>first| (cases h;done)|exact absurd rfl (p _)
  have h':mE k k'=some b:=by cases k<;>first| (exact absurd rfl (p _))| (cases k'<;>first| (exact absurd rfl (j _))|exact h)
  obtain⟨kd,hu,q⟩:=ib a;have m:=q hg;obtain⟨i,rfl⟩:∃i,ds=[i]:=by
   match ds,m with
   |[i],_=>exact⟨i,rfl⟩
  have r:v.cells.toList=[v]:=by cases h1<;>first|rfl| (cases h';done)
  have l:v'.cells.toList=[v']:=by
   cases h1<;>try (cases h';done)
   all_goals cases h2<;>first|rfl| (cases h';done)
  rw[r]at f;simp only[aV,WE]at f;have c:=yu h' h1 h2 f;have he:=DI (P:=C.P) (10000 - d) d kt [i] a w [v] [v'] (by simp[aV,f]) (by simp[aV,c]);rw[show 10000 - d+d=9999+1 from by omega,vG hg,vG hg]at he;simp only[nG,WE,xN h' h1 h2]at he;refine⟨⟨d,[i],hd,a,by rw[l];simp[aV,c],by rw[l,vG hg],?_⟩,he,λ_ kd' hu'=>?_⟩
  ·rw[hg];constructor
   ·intro h;cases h
   ·rintro⟨xs,e⟩;exact absurd e (j xs)
  ·have e1:=xN h' h1 h2;have:i=kd':=by
    cases d with
    |zero=>cases a
    | succ d =>
     unfold m9 at a;rw[hu']at a;have o:=(dX hu').1;rw[hg]at o;cases kd'<;>simp[oU]at o<;>simp only[aa]at a<;>split at a<;>first| (cases a;done)| (injection a with a;injection a with a;exact a.symm)
   subst this;cases h1<;>try (cases h';done)
   all_goals cases h2<;>try (cases h';done)
   ·cases i<;>simp[gO]at f;simp[Instr.sameNow];simpa [eqV] using e1
   ·cases i<;>simp[gO]at f c;subst f;subst c;simp[Instr.sameNow];simpa [eqV] using e1
   ·cases i<;>simp[gO]at f;simp[Instr.sameNow];simpa [eqV] using e1
end
section
variable {t:T}{z:AV}{et:TypeId}{vk:Value}
section
variable {C:Cfg}{A:Nat->Nat->Prop}{bd:Nat}{w w':World}{γ γ':Gm}{hg:Nat->AObj}{nx:Nat}
theorem H_(s1 s2:ByteArray):(s1 == s2)=decide (s1=s2):=by obtain⟨⟨x⟩⟩:=s1;obtain⟨⟨y⟩⟩:=s2;show ((⟨x⟩:Array UInt8) == ⟨y⟩)=_;rw[Wo];simp
theorem JH:∀{ds:List TypeDesc} {xs ys:List Value},aV ds xs=true->aV ds ys=true->nG xs ys=true->xs=ys:=by
 intro ds
 induction ds with
 |nil=>intro xs ys h1 h2 _;rw[Ui (a8 h1),Ui (a8 h2)]
 | cons d ds ih =>
  intro xs ys h1 h2 h;cases xs with
  |nil=>cases h1
  | cons x xs=>cases ys with
   |nil=>cases h2
   | cons y ys =>
    simp only[aV,nG,TM]at h1 h2 h;rw[ih h1.2 h2.2 h.2];congr 1;cases d<;>cases x<;>simp[gO]at h1<;>cases y<;>simp[gO]at h2<;>simp[eqV,H_]at h<;>simp_all
theorem Cd{ds:List TypeDesc}(hk:aV ds v.cells.toList=true):Instr.sameBits 10000 v v=true:=by
 have one:∀(d:TypeDesc) (x:Value),gO d x=true->∀n,Instr.sameBits n x x=true:=by intro d x h n;cases d<;>cases x<;>simp[gO]at h<;>cases n<;>simp[Instr.sameBits,H_]
 have all:∀(ds:List TypeDesc) (xs:List Value),aV ds xs=true->((xs.zip xs).all λ(x,y)=>Instr.sameBits 9999 x y)=true:=by
  intro ds
  induction ds with
  |nil=>intro xs h;rw[Ui (a8 h)];rfl
  | cons d ds ih =>
   intro xs h;cases xs with
   |nil=>rfl
   | cons x xs =>
    simp only[aV,TM]at h;simp only[V_,List.all_cons,TM];exact⟨one d x h.1 _,ih xs h.2⟩
 by_cases h:∃a,v=.agg a
 ·obtain⟨a,rfl⟩:=h;have:=all ds a.toList hk;show (Instr.sameBits (9999+1) (.agg a) (.agg a))=true;simp only[Instr.sameBits,beq_self_eq_true,U7];exact this
 ·have hc:v.cells.toList=[v]:=by cases v<;>first|rfl|exact absurd ⟨_,rfl⟩ h
  rw[hc]at hk;cases ds with
  |nil=>cases hk
  |cons d ds=>simp only[aV,TM]at hk;exact one d v hk.1 _
theorem AU{k':AV}{v':Value}(hk:BG C.P kt k v)(h:pZ k k'=some true)(h1:RV w γ A bd k v)(h2:RV w γ A bd k' v'):v'=v:=by
 obtain⟨h3,h4,_⟩:=AT (w:=w) hk h h1 h2;obtain⟨d,ds,e1,e2,e3,c,f⟩:=hk;obtain⟨d',ds',f1,f2,i,e,j⟩:=h3;have hc:dA k.cells k'.cells=some true:=by
  cases k<;>try (cases h;done)
  all_goals cases k'<;>try (cases h;done)
  all_goals first|exact h| (simp only[pZ]at h;simp[AV.cells,dA,h])
 have t1:k.isTup=false:=by
  cases k<;>try rfl
  cases k'<;>cases h
 have t2:k'.isTup=false:=by
  cases k<;>try (cases h;done)
  all_goals cases k'<;>first|rfl| (cases h;done)
 have a:=(pA h1 t1).1;have b:=(pA h2 t2).1;rw[c,e,JH e3 (uE hc a b e3) (vd hc a b)]
theorem p_{ds:List TypeDesc}(hk:aV ds v.cells.toList=true):(Instr.keyThatStays v v).run P w=.ok v w:=by unfold Instr.keyThatStays;rw[Cd hk];rfl
def EsRel(w:World)(γ:Gm)(A:Nat->Nat->Prop)(bd:Nat)(es:List (AV×AV))(l:List MapEntry):Prop :=
 es.length=l.length/\∀(i:Nat) k x e,es[i]?=some (k,x)->l[i]?=some e->RV w γ A bd k e.key/\RV w γ A bd x e.val
theorem EsRel.tail{p:AV×AV}{es:List (AV×AV)}{e:MapEntry}{l:List MapEntry}(h:EsRel w γ A bd (p::es) (e::l)) :
  RV w γ A bd p.1 e.key/\RV w γ A bd p.2 e.val/\EsRel w γ A bd es l:=by
 obtain⟨h1,h2⟩:=h.2 0 p.1 p.2 e rfl rfl;exact⟨h1,h2,by have:=h.1;simpa using this,λi k x e hi he=>h.2 (i+1) k x e (by simpa using hi) (by simpa using he)⟩
def Ci(k:AV)(es:List (AV×AV))(l:List MapEntry)(i0:Nat)(r:Option (Nat×AV))(R:Option (Nat×Value)):Prop :=
 match r with
 |none=>R=none
 |some (i,x)=>∃j k' e,i=i0+j/\es[j]?=some (k',x)/\l[j]?=some e/\pZ k k'=some true/\R=some (i,e.val)
theorem LC{kd:TypeDesc}(hu:C.P.underlying kt=some kd)(hk:BG C.P kt k v)(h1:RV w γ A bd k v) :
  ∀(es:List (AV×AV)) (l:List MapEntry) (i:Nat) (r:Option (Nat×AV)),jv k i es=some r->EsRel w γ A bd es l ->
   ∃R,Ci k es l i r R/\(Instr.findAsking kt v l i).run C.P w=.ok R w/\(dW C.P kt=false->Instr.findNow kd v l i=some R):=by
 intro es
 induction es with
 | nil =>
  intro l i r h a;have:=a.1;have:l=[]:=Ui (by simpa using this.symm);subst this;simp only[jv]at h;injection h with h;subst h;exact⟨none,rfl,rfl,λ_=>rfl⟩
 | cons p es ih =>
  intro l i r h a;cases l with
  |nil=>have:=a.1;simp at this
  | cons e l =>
   obtain⟨k',x⟩:=p;obtain⟨e1,e2,e3⟩:=a.tail;simp only[jv]at h
   split at h
   ·rename_i hq;injection h with h;subst h;obtain⟨_,q2,q3⟩:=AT hk hq h1 e1;refine⟨some (i,e.val),⟨0,k',e,rfl,rfl,rfl,hq,rfl⟩,?_,λhg=>?_⟩
    ·unfold Instr.findAsking;simp[q2]
    ·unfold Instr.findNow;rw[q3 hg kd hu]
   ·rename_i hq;obtain⟨_,q2,q3⟩:=AT hk hq h1 e1;obtain⟨R,b,m,n⟩:=ih l (i+1) r h e3;refine⟨R,?_,?_,λhg=>?_⟩
    ·unfold Ci at b ⊢;cases r with
     |none=>exact b
     | some p =>
      obtain⟨j,k'',e',f1,f2,c,d,f⟩:=b;exact⟨j+1,k'',e',by omega,by simpa using f2,by simpa using c,d,f⟩
    ·unfold Instr.findAsking;simp[q2,m]
    ·unfold Instr.findNow;rw[q3 hg kd hu];exact n hg
   ·cases h
theorem tC{kd:TypeDesc}(hu:C.P.underlying kt=some kd)(hk:BG C.P kt k v)(h1:RV w γ A bd k v)
  {es:List (AV×AV)} {l:List MapEntry} {r:Option (Nat×AV)} (h:jv k 0 es=some r) (hes:EsRel w γ A bd es l) :
  ∃R,Ci k es l 0 r R/\(Instr.findKey kt v l).run C.P w=.ok R w:=by
 obtain⟨R,b,a,c⟩:=LC hu hk h1 es l 0 r h hes;refine⟨R,b,?_⟩;unfold Instr.findKey;simp only[TV,aG hu,TQ];cases hg:dW C.P kt with
 |false=>rw[c hg];rfl
 | true =>
  cases l with
  |nil=>simp only[Instr.findNow];exact a
  | cons e l =>
   have:Instr.sameNow kd v e.key=none:=by have:=(dX hu).1;rw[hg]at this;cases kd<;>simp[oU]at this<;>rfl
   simp only[Instr.findNow,this];exact a
theorem LB(k:AV):∀(es:List (AV×AV)) (i:Nat) (r:Option AV),nR k es=some r->∃q,jv k i es=some q/\r=q.map (·.2):=by
 intro es
 induction es with
 |nil=>intro i r h;simp only[nR]at h;injection h with h;subst h;exact⟨none,rfl,rfl⟩
 | cons p es ih =>
  intro i r h;obtain⟨k',x⟩:=p;simp only[nR]at h;simp only[jv]
  split at h
  ·rename_i hq;injection h with h;subst h;exact⟨some (i,x),rfl,rfl⟩
  ·exact ih _ _ h
  ·cases h
theorem O8(k x:AV):∀(es es':List (AV×AV)) (i:Nat),Kp k x es=some es'->∃q,jv k i es=some q /\
  match q with
  |none=>es'=es++[(k,x)]
  |some (n,_)=>∃j,n=i+j/\es'=es.set j (k,x):=by
 intro es
 induction es with
 |nil=>intro es' i h;simp only[Kp]at h;injection h with h;subst h;exact⟨none,rfl,rfl⟩
 | cons p es ih =>
  intro es' i h;obtain⟨k',y⟩:=p;simp only[Kp]at h;simp only[jv]
  split at h
  ·rename_i hq;injection h with h;subst h;exact⟨some (i,y),rfl,0,rfl,rfl⟩
  ·rename_i hq
   split at h
   ·rename_i r hr;injection h with h;subst h;obtain⟨q,b,q2⟩:=ih r (i+1) hr;refine⟨q,b,?_⟩;cases q with
    |none=>simp only at q2 ⊢;rw[q2];rfl
    | some p =>
     obtain⟨j,c,a⟩:=q2;exact⟨j+1,by omega,by rw[a];rfl⟩
   ·cases h
  ·cases h
theorem Dj{t:TypeId}(h:yK C.P t=some z):∃v,(zeroValue t).run C.P w=.ok v w/\RV w γ A bd z v:=by
 unfold yK at h;cases hi:C.P.info? t with
 |none=>rw[hi]at h;cases h
 | some i =>
  rw[hi]at h;cases hz:i.zero with
  |none=>simp[hz]at h
  | some v =>
   simp only[VC,hz]at h;refine⟨v,by simp[zeroValue,k_ hi,hz],?_⟩
   split at h
   ·rename_i cs;cases hq:zb cs.toList with
    |none=>rw[hq]at h;cases h
    | some as =>
     rw[hq]at h;injection h with h;subst h;obtain⟨k,a⟩:=nV (w:=w) (γ:=γ) (A:=A) (bd:=bd) hq;exact .agg _ as cs (by simpa using k.1) a λi x v hx hv=>k.2 i x v hx (by simpa using hv)
   ·exact (Hb h).1
theorem AY(hr:Rel C A bd w γ hg nx){id:Nat}{es:List (AV×AV)}(hid:hg id=.map es) :
  (γ id).kind=2/\(γ id).wr=true/\∃esC:Array MapEntry,w.heap[(γ id).blk]?=some (.map esC esC.size)/\EsRel w γ A bd es esC.toList/\∀(i:Nat) e,esC[i]?=some e->e.born=i:=by
 have h:=hr.obj id;rw[hid]at h;obtain⟨c,k2,esC,d,a,b⟩:=h;refine⟨c,k2,esC,d,⟨by simpa using a,λi k x e hi he=>(b i k x e hi (by simpa using he)).2⟩,λi e he=>?_⟩;have hlt:i<es.length:=by rw[a];exact (UR.1 he).1
 exact (b i (es[i]).1 (es[i]).2 e (by simp[hlt]) he).1
theorem G3{ok:Bool}{k:T->AV}(hr:Rel C A bd w γ hg nx)
  (hu:C.P.underlying ty=some (.map kt et)) (hz:yK C.P et=some z) (hm:RV w γ A bd (m t) vm) (hk:RV w γ A bd (k t) vk) (agree:∀id∈an (m t),hg id=g.h.get id) :
  ValSim C A bd w γ (Instr.lookup ty vm vk ok) (dC (f_ C.P kt) z ok m k t g):=by
 unfold dC;generalize m t=m at *;generalize k t=k at *;rw[aa]
 split
 ·rename_i F;have s:=GZ F hk;obtain⟨kd,E⟩:∃kd,C.P.underlying kt=some kd:=by obtain⟨d,ds,_,o,_⟩:=s;obtain⟨kd,h,_⟩:=ib o;exact⟨kd,h⟩
  obtain⟨zv,S,U⟩:=Dj (w:=w) (γ:=γ) (A:=A) (bd:=bd) hz;have core:∀(es:List (AV×AV)) (l:Array MapEntry),EsRel w γ A bd es l.toList ->
    (vm=.map none/\l=#[]\/∃r n,vm=.map (some r)/\(getObj r).run C.P w=.ok (.map l n) w) ->
    ValSim C A bd w γ (Instr.lookup ty vm vk ok) (match nR k es with
     |some (some v)=>.val (ay ok (.tup [v,.bool true]) v)
     |some none=>.val (ay ok (.tup [z,.bool false]) z)
     |none=>.fail):=by
   intro es l D c;cases hf:nR k es with
   |none=>trivial
   | some r =>
    obtain⟨q,Q,q2⟩:=LB k es 0 r hf;obtain⟨R,J,K⟩:=tC E s hk Q D;have B:∀em,(Instr.checkKey em 10000 kt vk).run C.P w=.ok () w:=by intro em;obtain⟨d,ds,hd,o,H,I,_⟩:=s;have:=AE (P:=C.P) em (10000 - d) d kt ds o w _ H;rw[show 10000 - d+d=10000 from by omega,<-I]at this;exact this
    have tup:∀(x:AV) (u:Value) (b:Bool),RV w γ A bd x u->RV w γ A bd (ay ok (.tup [x,.bool b]) x) (if ok then .tuple #[u,.bool b] else u):=by
     intro x u b hx;cases ok
     ·exact hx
     ·refine .tup _ _ _ rfl λi y v hy hv=>?_
      match i with
      |0=>simp at hy hv;subst hy;subst hv;exact hx
      |1=>simp at hy hv;subst hy;subst hv;exact .bool _ _
      |i+2=>simp at hy
    have a:(Instr.lookup ty vm vk ok).run C.P w =
      ((do let (v,okk) <-match R with
            |some (_,v)=>pure (v,true)
            |none=>pure (<-zeroValue et,false)
           pure (if ok then .tuple #[v,.bool okk] else v):Sem Value)).run C.P w:=by
     unfold Instr.lookup;simp only[TV,aG hu,TQ];rcases c with⟨rfl,rfl⟩|⟨r',n,rfl,c⟩
     ·simp only[TV,Un,TQ,B,K]
      try (cases R<;>rfl)
     ·simp only[TV,Un,TQ,c,B,K]
      try (cases R<;>rfl)
    cases q with
    | none =>
     simp only[Ci]at J;subst J;simp only[Option.map_none]at q2;subst q2;exact⟨_,by rw[a];simp[S],tup z zv false U⟩
    | some p =>
     obtain⟨i,x⟩:=p;obtain⟨j,k',e,f1,f2,L,V,M⟩:=J;subst M;simp only[U0]at q2;subst q2;exact⟨_,by rw[a];simp,tup x e.val true (D.2 j k' x e f2 L).2⟩
  cases hm with
  |nilm=>exact core [] #[] ⟨rfl,λi k x e h=>by simp at h⟩ (.inl ⟨rfl,rfl⟩)
  | hmap _ id b hkd hb =>
   have f:=agree id (by simp[an]);simp only[G.get_eq,<-f];cases hid:hg id with
   | map es =>
    obtain⟨W,k2,esC,N,O,X⟩:=AY hr hid;subst hb;exact core es esC O (.inr ⟨_,_,rfl,fM N (by simp)⟩)
   |_=>trivial
  |_=>trivial
 ·trivial
theorem sD(h:BG C.P kt k v)(em:Bool):(Instr.checkKey em 10000 kt v).run C.P w=.ok () w:=by obtain⟨d,ds,hd,a,b,c,_⟩:=h;have:=AE (P:=C.P) em (10000 - d) d kt ds a w _ b;rw[show 10000 - d+d=10000 from by omega,<-c]at this;exact this
theorem IE(h:BG C.P kt k v):∃kd,C.P.underlying kt=some kd:=by obtain⟨d,ds,_,a,_⟩:=h;obtain⟨kd,h,_⟩:=ib a;exact⟨kd,h⟩
theorem Rel.setMap(hr:Rel C A bd w γ hg nx){id:Nat}{es es':List (AV×AV)}{esC':Array MapEntry}(hid:hg id=.map es)(hl:es'.length=esC'.size)
  (he:∀(i:Nat) k x e,es'[i]?=some (k,x)->esC'[i]?=some e->e.born=i/\RV w γ A bd k e.key/\RV w γ A bd x e.val) :
  Rel C A bd (World.setBlk w (γ id).blk (.map esC' esC'.size)) γ (upd hg id (.map es')) nx/\Stp w γ (World.setBlk w (γ id).blk (.map esC' esC'.size)) γ:=by
 obtain⟨h,k2,_⟩:=AY hr hid;have hk:(γ id).kind≠0:=by rw[h];decide
 have s:=um (w:=w) (o:=.map esC' esC'.size) hk k2;refine hr.setBlk hk k2 ⟨h,k2,esC',?_,hl,λi k x e h1 h2=>?_⟩
 ·rw[a7,TO ⟨rfl,(hr.lt id hk).2⟩]
 ·obtain⟨a,b,c⟩:=he i k x e h1 h2;exact⟨a,b.step s,c.step s⟩
theorem uN{k x:T->AV}{vx:Value}(hr:Rel C A bd w γ hg nx)
  (hu:C.P.underlying ty=some (.map kt et)) (hm:RV w γ A bd (m t) vm) (hk:RV w γ A bd (k t) vk) (hx:RV w γ A bd (x t) vx) (agree:∀id∈an (m t),hg id=g.h.get id) :
  cV C A bd w γ hg nx (do Instr.mapUpdate ty vm vk vx;pure undef) g (fO (f_ C.P kt) m k x t g):=by
 unfold fO;generalize m t=m at *;generalize k t=k at *;generalize x t=x at *;rw[aa]
 split
 ·rename_i z;have c:=GZ z hk;obtain⟨kd,u⟩:=IE c;cases hm with
  | hmap _ id b hkd hb =>
   have l:=agree id (by simp[an]);simp only[G.get_eq,<-l];cases hid:hg id with
   | map es =>
    dsimp only;cases hs:Kp k x es with
    |none=>trivial
    | some es' =>
     dsimp only;obtain⟨O,k2,esC,D,v,E⟩:=AY hr hid;obtain⟨q,L,q2⟩:=O8 k x es es' 0 hs;obtain⟨R,F,M⟩:=tC u c hk L v;subst hb;have o:∀esC',(match R with
       | some (i,_)=>do
        let key <-Instr.keyThatStays (((esC[i]?).map (·.key)).getD vk) vk
        setObj (γ id).blk (.map (esC.modify i λe=>{ e with key,val:=vx }) esC.size)
       |none=>setObj (γ id).blk (.map (esC.push { key:=vk,val:=vx,born:=esC.size }) (esC.size+1)):Sem Unit).run C.P w=.ok () (World.setBlk w (γ id).blk (.map esC' esC'.size)) ->
       (do Instr.mapUpdate ty (.map (some (γ id).blk)) vk vx;pure undef:Sem Value).run C.P w=.ok undef (World.setBlk w (γ id).blk (.map esC' esC'.size)):=by
      intro esC' h;have:(Instr.mapUpdate ty (.map (some (γ id).blk)) vk vx).run C.P w=.ok () (World.setBlk w (γ id).blk (.map esC' esC'.size)):=by unfold Instr.mapUpdate;simp only[TV,aG hu,TQ,fM D (by simp),sD c,M];exact h
      simp[this]
     have f:es.length=esC.size:=by simpa using v.1
     cases q with
     | none =>
      simp only[Ci]at F;subst F;simp only at q2;subst q2;have a:=hr.setMap (es':=es++[(k,x)]) (esC':=esC.push { key:=vk,val:=vx,born:=esC.size }) hid (by simp[f]) (λi k' x' e h1 h2=>by
       rw[Ww]at h2;rw[Wb]at h1
       split at h2
       ·rename_i hi;subst hi;rw[TN (by omega),f,UD]at h1;simp at h1 h2;obtain⟨rfl,rfl⟩:=h1;subst h2;exact⟨rfl,hk,hx⟩
       ·have hlt:i<esC.size:=(UR.1 h2).1;rw[TO (by omega)]at h1;exact⟨E i e h2,v.2 i k' x' e h1 (by simpa using h2)⟩)
      refine⟨undef,_,γ,id,_,o _ ?_,cD,a.2,.inl ⟨rfl,a.1⟩⟩;simp only[Array.size_push];exact ii D (by simp)
     | some p =>
      obtain⟨n,y⟩:=p;obtain⟨j,k',e,f1,f2,H,I,J⟩:=F;obtain⟨j',N,K⟩:=q2;have:j'=j:=by omega
      subst this;subst f1;subst J;subst K;have r:esC[j']?=some e:=by simpa using H
      have s:=AU c I hk (v.2 j' k' y e f2 H).1;have a:=hr.setMap (es':=es.set j' (k,x)) (esC':=esC.modify (0+j') λe=>{ e with key:=vk,val:=vx }) hid (by simp[f]) (λi k' x' e' h1 h2=>by
       rw[Uy]at h2;rw[Vi]at h1;rw[V1]at h2
       split at h1
       ·rename_i hi;subst hi;rw[TO rfl,r]at h2
        split at h1
        ·simp at h1 h2;obtain⟨rfl,rfl⟩:=h1;subst h2;exact⟨E j' e r,hk,hx⟩
        ·cases h1
       ·rename_i hi;rw[TN hi]at h2;exact⟨E i e' h2,v.2 i k' x' e' h1 (by simpa using h2)⟩)
      refine⟨undef,_,γ,id,_,o _ ?_,cD,a.2,.inl ⟨rfl,a.1⟩⟩;obtain⟨d,ds,_,_,B,_⟩:=c;simp only[Uy,r,U0,TS,s,TV,p_ B,TQ,Array.size_modify];exact ii D (by simp)
   |_=>trivial
  |_=>trivial
 ·trivial
theorem D1{k:T->AV}(hr:Rel C A bd w γ hg nx)
  (hu:C.P.underlying ty=some (.map kt et)) (hz:yK C.P et=some z) (hm:RV w γ A bd (m t) vm) (hk:RV w γ A bd (k t) vk) (agree:∀id∈an (m t),hg id=g.h.get id) :
  cV C A bd w γ hg nx (Instr.mapEntry ty vm vk) g (gc (f_ C.P kt) z m k t g):=by
 unfold gc;generalize m t=m at *;generalize k t=k at *;rw[aa]
 split
 ·rename_i J;have a:=GZ J hk;obtain⟨kd,F⟩:=IE a;obtain⟨zv,U,O⟩:=Dj (w:=w) (γ:=γ) (A:=A) (bd:=bd) hz;have tup:∀{w:World} {γ:Gm} (x:AV) (u:Value) (n:Nat),RV w γ A bd x u->RV w γ A bd (.tup [x,.int .i64 (.ofNat n)]) (.tuple #[u,goInt (n:Int)]):=by
   intro w γ x u n hx;refine .tup _ _ _ rfl λi y v hy hv=>?_
   match i with
   |0=>simp at hy hv;subst hy;subst hv;exact hx
   |1=>simp at hy hv;subst hy;subst hv;exact .int _ _ _
   |i+2=>simp at hy
  cases hm with
  | hmap _ id b hkd hb =>
   have o:=agree id (by simp[an]);simp only[G.get_eq,<-o];cases hid:hg id with
   | map es =>
    dsimp only;cases q1:jv k 0 es with
    |none=>trivial
    | some q =>
     obtain⟨V,k2,esC,s,H,M⟩:=AY hr hid;obtain⟨R,L,N⟩:=tC F a hk q1 H;subst hb;have c:es.length=esC.size:=by simpa using H.1
     cases q with
     | none =>
      simp only[Ci]at L;subst L;dsimp only;have f:=hr.setMap (es':=es++[(k,z)]) (esC':=esC.push { key:=vk,val:=zv,born:=esC.size }) hid (by simp[c]) (λi k' x' e h1 h2=>by
       rw[Ww]at h2;rw[Wb]at h1
       split at h2
       ·rename_i hi;subst hi;rw[TN (by omega),c,UD]at h1;simp at h1 h2;obtain⟨rfl,rfl⟩:=h1;subst h2;exact⟨rfl,hk,O⟩
       ·have hlt:i<esC.size:=(UR.1 h2).1;rw[TO (by omega)]at h1;exact⟨M i e h2,H.2 i k' x' e h1 (by simpa using h2)⟩)
      refine⟨.tuple #[zv,goInt esC.size],_,γ,id,_,?_,?_,f.2,.inl ⟨rfl,f.1⟩⟩
      ·unfold Instr.mapEntry;simp only[TV,aG hu,TQ,fM s (by simp),sD a,N,U];have:(setObj (γ id).blk (.map (esC.push { key:=vk,val:=zv,born:=esC.size }) (esC.size+1))).run C.P w=.ok () (World.setBlk w (γ id).blk (.map (esC.push { key:=vk,val:=zv,born:=esC.size }) (esC.size+1))):=ii s (by simp);simp[this]
      ·rw[aA,c];exact tup _ _ _ (O.step f.2)
     | some p =>
      obtain⟨n,y⟩:=p;obtain⟨j,k',e,f1,f2,I,Q,S⟩:=L;subst f1;subst S;dsimp only;have r:esC[j]?=some e:=by simpa using I
      have l:=AU a Q hk (H.2 j k' y e f2 I).1;have D:(esC.modify j λe=>{ e with key:=vk })=esC:=by
       apply Wj;intro i;rw[V1]
       split
       ·rename_i hi;subst hi;rw[r,<-l];rfl
       ·rfl
      have B:=a;obtain⟨d,ds,_,_,K,_⟩:=B;refine⟨.tuple #[e.val,goInt j],?_,?_⟩
      ·unfold Instr.mapEntry;simp only[TV,aG hu,TQ,fM s (by simp),sD a,N,Uy,r,U0,TS,l,p_ K,D,M j e r];have E:(setObj (γ id).blk (.map esC esC.size)).run C.P w=.ok () w:=by
        rw[ii s (by simp)];congr 1;have hlt:(γ id).blk<w.heap.size:=(UR.1 s).1;unfold World.setBlk;congr 1;apply Wj;intro q;rw[Vo]
        split
        ·rename_i hq;subst hq;rw[s]
        ·rfl
       simp[E]
      ·rw[Uy];exact tup _ _ _ (H.2 j k' y e f2 I).2
   |_=>trivial
  |_=>trivial
 ·trivial
theorem Ao{st x:T->AV}{vs vx:Value}(hr:Rel C A bd w γ hg nx)
  (hm:RV w γ A bd (m t) vm) (hs:RV w γ A bd (st t) vs) (hx:RV w γ A bd (x t) vx) (agree:∀id∈an (m t),hg id=g.h.get id) :
  cV C A bd w γ hg nx (do Instr.entryStore ty vm vs vx;pure undef) g (im m st x t g):=by
 unfold im;generalize m t=m at *;generalize st t=st at *;generalize x t=x at *;cases hm with
 | hmap _ id b hkd hb =>
  have a:=agree id (by simp[an]);simp only[G.get_eq,<-a];cases hid:hg id with
  | map es =>
   dsimp only;cases hs with
   | int _ kk n =>
    cases n with
    |negSucc n=>trivial
    | ofNat i =>
     simp only[dD];cases hi:es[i]? with
     |none=>trivial
     | some p =>
      obtain⟨k,y⟩:=p;dsimp only;obtain⟨v,k2,esC,u,s,q⟩:=AY hr hid;subst hb;have c:es.length=esC.size:=by simpa using s.1
      have hlt:i<esC.size:=by rw[<-c];exact (TJ.1 hi).1
      have f:esC.findIdx? (λe=>(e.born:Int) == (Int.ofNat i))=some i:=by
       rw[Array.findIdx?_eq_some_iff_getElem];refine⟨hlt,?_,λj hj=>?_⟩
       ·rw[q i esC[i] (TZ hlt)];simp
       ·have r:j<esC.size:=by omega
        rw[q j esC[j] (TZ r)];simp;omega
      have d:=hr.setMap (es':=Hu i (k,x) es) (esC':=esC.modify i λe=>{ e with val:=vx }) hid (by simp[g7,c]) (λi' k' x' e' h1 h2=>by
       rw[g7,Vi]at h1;rw[V1]at h2
       split at h1
       ·rename_i l;subst l;rw[TO rfl,TZ hlt]at h2
        split at h1
        ·simp at h1 h2;obtain⟨rfl,rfl⟩:=h1;subst h2;exact⟨q i esC[i] (TZ hlt),(s.2 i k y esC[i] hi (by simp[hlt])).1,hx⟩
        ·cases h1
       ·rename_i l;rw[TN l]at h2;exact⟨q i' e' h2,s.2 i' k' x' e' h1 (by simpa using h2)⟩)
      refine⟨undef,_,γ,id,_,?_,cD,d.2,.inl ⟨rfl,d.1⟩⟩;have o:=ii (P:=C.P) (o':=.map (esC.modify i λe=>{ e with val:=vx }) esC.size) u (by simp);have:(Instr.entryStore ty (.map (some (γ id).blk)) (.int kk (Int.ofNat i)) vx).run C.P w=.ok () (World.setBlk w (γ id).blk (.map (esC.modify i λe=>{ e with val:=vx }) esC.size)):=by unfold Instr.entryStore;simp only[TV,TQ,fM u (by simp),asInt,asIntOf,Un,f,o]
      simp only[Array.size_modify,TV,this,TQ,Un]
   |_=>trivial
  |_=>trivial
 |_=>trivial
end
end
section
variable {r:OR}
section
variable {C:Cfg}{A:Nat->Nat->Prop}{bd:Nat}{w w':World}{γ γ':Gm}{hg:Nat->AObj}{nx:Nat}
theorem OpSim.ofUpd{o:Oper}{ev:Operand->Value}{g:G}{m:Sem Value}(he:execOp ev o=(do pure (.value (<-m))))(h:cV C A bd w γ hg nx m g r) :
  OpSim C A bd w γ hg nx o ev g r:=by
 have run:∀{v:Value} {w':World},m.run C.P w=.ok v w'->Ey C.P o ev w v w':=by intro v w' h;left;rw[he];simp[h]
 cases r with
 |fail=>trivial
 |val x=>obtain⟨v,h1,h2⟩:=h;exact⟨v,run h1,h2⟩
 |upd x g'=>obtain⟨v,w',γ',id,ob,h1,h2⟩:=h;exact⟨v,w',γ',id,ob,run h1,h2⟩
 |dfr a=>exact h
theorem OpSim.ofUnit{o:Oper}{ev:Operand->Value}{g:G}{s:Sem Unit}(he:execOp ev o=(do s;pure .skip))(h:cV C A bd w γ hg nx (do s;pure undef) g r) :
  OpSim C A bd w γ hg nx o ev g r:=by
 have run:∀{v:Value} {w':World},(do s;pure undef:Sem Value).run C.P w=.ok v w'->Ey C.P o ev w v w':=by
  intro v w' h;right;rw[he];simp only[TV,Un]at h ⊢;cases hs:s.run C.P w with
  |ok u w1=>rw[hs]at h;simp only[TQ]at h ⊢;injection h with h1 h2;subst h1;subst h2;exact⟨rfl,rfl⟩
  |halt x w1=>rw[hs]at h;cases h
 cases r with
 |fail=>trivial
 |val x=>obtain⟨v,h1,h2⟩:=h;exact⟨v,run h1,h2⟩
 |upd x g'=>obtain⟨v,w',γ',id,ob,h1,h2⟩:=h;exact⟨v,w',γ',id,ob,run h1,h2⟩
 |dfr a=>exact h
theorem ValSim.upd{m:Sem Value}{g:G}{r:OR}(h:ValSim C A bd w γ m r):cV C A bd w γ hg nx m g r:=by
 cases r with
 |fail=>trivial
 |val x=>exact h
 |upd x g'=>exact h.elim
 |dfr a=>exact h.elim
theorem OpSim.ofVal{o:Oper}{ev:Operand->Value}{g:G}{m:Sem Value}(he:execOp ev o=(do pure (.value (<-m))))(h:ValSim C A bd w γ m r) :
  OpSim C A bd w γ hg nx o ev g r:=.ofUpd he h.upd
theorem OpSim.now{o:Oper}{ev:Operand->Value}{g:G}(he:(execOp ev o).run C.P w=.ok (.value v) w)(h:RV w γ A bd x v) :
  OpSim C A bd w γ hg nx o ev g (.val x):=⟨v,.inl he,h⟩
noncomputable def bh(C:Cfg)(op:Op)(t:T)(g:G):List Nat:=((aO C op).run t g).rd++((aO C op).run t g).sr.map (·.1)
theorem Pr{op:UnOp}(hx:RV w γ A bd x v):ValSim C A bd w γ (Op.unary op v) ((unA op).run x):=by
 cases op
 case not =>
  cases hx with
  |bool _ b=>exact⟨.bool (!b),by simp[Op.unary],by rw[notb_eq];exact .bool _ _⟩
  |_=>trivial
 all_goals
  cases hx with
  |int _ k n=>exact nW λy hy=>j_ hy C.P w
  |_=>trivial
theorem G8{g:G}{P:Program}(hr:Rel C A bd w γ hg nx)(hf:(γ g.nx).kind=0) :
  cV C A bd w γ hg nx (do pure (.map (some (<-newObj (.map #[] 0))))) g (.upd (.hmap g.nx) (g.new (.map []))):=by
 let gh:Gh:=⟨2,0,0,0,w.heap.size,0,0,true⟩
 obtain⟨r,s⟩:=hr.add (id:=g.nx) (gh:=gh) (o:=.map #[] 0) (ao:=.map []) (nx':=Nat.max nx (g.nx+1)) hf rfl (Vb _ _) (TU (Nat.lt_succ_self _) (VB _ _)) (by
  simp only[ObjRel,upd_same];exact⟨rfl,rfl,#[],by rw[kH];simp[gh],rfl,λi k x e h=>by simp at h⟩)
 refine⟨.map (some w.heap.size),World.add w (.map #[] 0),_,g.nx,_,by simp[newObj,Sem.run,World.add],?_,s,.inr ⟨rfl,rfl,r⟩⟩;exact .hmap _ g.nx _ (by simp[gh]) (by simp[gh])
theorem Hi:∀{fs:List Field} {places:List (Nat×Nat)},aF (λf:Field=>match szT C.P f.type with|some n=>some (f.offset,n)|none=>none) fs=some places ->
  (fs.mapM λf=>do pure (f.offset,<-Go.sizeOf f.type):Sem (List (Nat×Nat))).run C.P w=.ok places w:=by
 intro fs
 induction fs with
 |nil=>intro places h;simp only[aF]at h;injection h with h;subst h;simp
 | cons f fs ih =>
  intro places h;simp only[aF]at h
  split at h
  ·rename_i p hp
   split at h
   ·rename_i ps k;injection h with h;subst h
    split at hp
    ·rename_i n a;injection hp with hp;subst hp;rw[List.mapM_cons];have:=ih k;simp only[TV,a_ a,TQ,Un,this]
    ·cases hp
   ·cases h
  ·cases h
variable {o:Oper}{op:Op}{a:Act}{nt:Nat}{t:T}{g:G}{f:Stg SFn}
theorem sE(he:lM C.P ty=some e):C.P.underlying ty=some (.slice e):=by unfold lM at he;split at he<;>first| (injection he with he;subst he;assumption)|cases he
theorem EJ{b:Builtin}{argTypes:Array TypeId}{args:List Operand}{consts:Array Bool}(h:dj C b argTypes args=some f)(ht:TR w γ A bd nt t a.tmps)(hr:Rel C A bd w γ hg nx)
  (hf:(γ g.nx).kind=0) (agree:∀x∈args,∀s,aU C x=some s->∀id∈lY C b argTypes (s.run t),hg id=g.h.get id) :
  ∃m:Sem Value,builtin b argTypes ty consts (args.map a.eval).toArray=(do pure (.value (<-m)))/\cV C A bd w γ hg nx m g (f.run t g):=by
 unfold dj at h
 split at h
 ·
  rename_i x
  split at h
  ·rename_i tt s h0 hs;injection h with h;subst h;exact⟨Builtin.len_ argTypes ty #[a.eval x],rfl,(OC hr h0 (aD hs ht hr) λhk id hid=>agree x (by simp) s hs id (by simpa only[lY,h0,hk] using hid)).upd⟩
  ·cases h
 ·
  rename_i p x
  split at h
  ·rename_i tt xt sa sx h0 h1 ha hx
   split at h
   ·rename_i e e' he j
    split at h
    ·rename_i sz bytes zero d i hz;rw[aa]at h
     split at h
     ·rename_i c;simp only[TM,UH,aA]at c;injection h with h;subst h;exact⟨Builtin.append_ argTypes ty #[a.eval p,a.eval x],rfl,Gu hr hf h0 h1 (sE he) j d i hz (aH c.1.1) c.2 (aD ha ht hr) (aD hx ht hr)
       (λid hid=>agree p (by simp) sa ha id hid) (λid hid=>agree x (by simp) sx hx id hid)⟩
     ·cases h
    ·cases h
   ·rename_i e k he j
    split at h
    ·rename_i sz bytes zero d i hz;rw[aa]at h
     split at h
     ·rename_i c;simp only[TM,UH,aA]at c;injection h with h;subst h;exact⟨Builtin.append_ argTypes ty #[a.eval p,a.eval x],rfl,ED hr hf h0 h1 (sE he) j d i hz (aH c.1.1) c.1.2 c.2 (aD ha ht hr) (aD hx ht hr)
       (λid hid=>agree p (by simp) sa ha id hid)⟩
     ·cases h
    ·cases h
   ·cases h
  ·cases h
 ·
  rename_i p x
  split at h
  ·rename_i tt sa sx h0 ha hx
   split at h
   ·rename_i e he
    split at h
    ·rename_i sz d;injection h with h;subst h;exact⟨Builtin.copy_ argTypes ty #[a.eval p,a.eval x],rfl,Lf hr h0 (sE he) d (aD ha ht hr) (aD hx ht hr)
      (λid hid=>agree p (by simp) sa ha id hid) (λid hid=>agree x (by simp) sx hx id hid)⟩
    ·cases h
   ·cases h
  ·cases h
 ·
  rename_i x
  split at h
  ·rename_i tt s h0 hs
   split at h
   ·rename_i e he;injection h with h;subst h;exact⟨Builtin.cap_ argTypes ty #[a.eval x],rfl,(N9 hr h0 (sE he) (aD hs ht hr) λid hid=>agree x (by simp) s hs id hid).upd⟩
   ·cases h
  ·cases h
 ·
  rename_i x
  split at h
  ·rename_i tt s h0 hs
   split at h
   ·rename_i e he
    split at h
    ·rename_i sz zero d hz;rw[aa]at h
     split at h
     ·rename_i c;simp only[TM,UH,aA]at c;injection h with h;subst h;exact⟨Builtin.clear_ argTypes ty #[a.eval x],rfl,Jv hr h0 (sE he) hz (aH c.1) c.2 (aD hs ht hr) λid hid=>agree x (by simp) s hs id hid⟩
     ·cases h
    ·cases h
   ·cases h
  ·cases h
 ·
  rename_i x y
  split at h
  ·rename_i sx sy hx o;injection h with h;subst h;refine⟨Builtin.max_ argTypes ty #[a.eval x,a.eval y],rfl,?_⟩;have l:=aD hx ht hr;have n:=aD o ht hr;dsimp only;generalize sx.run t=u at l ⊢;generalize sy.run t=v at n ⊢;cases u<;>try trivial
   cases v<;>try trivial
   exact (OG l n).upd
  ·cases h
 ·
  rename_i x y
  split at h
  ·rename_i sx sy hx o;injection h with h;subst h;refine⟨Builtin.min_ argTypes ty #[a.eval x,a.eval y],rfl,?_⟩;have l:=aD hx ht hr;have n:=aD o ht hr;dsimp only;generalize sx.run t=u at l ⊢;generalize sy.run t=v at n ⊢;cases u<;>try trivial
   cases v<;>try trivial
   exact (OH l n).upd
  ·cases h
 ·cases h
theorem Js:∀{xs:List Operand} {vs:Stg (T->List AV)},bM C xs=some vs->∀x∈xs,∀s,aU C x=some s->s.run t∈vs.run t:=by
 intro xs
 induction xs with
 |nil=>intro vs _ x hx;cases hx
 | cons y ys ih =>
  intro vs h x hx s hs;simp only[bM]at h
  split at h
  ·rename_i p q hp hq;injection h with h;subst h;rcases Us.1 hx with rfl|hx
   ·rw[hp]at hs;injection hs with hs;subst hs;exact UK
   ·exact UC _ (ih hq x hx s hs)
  ·cases h
theorem uB{b:Builtin}{argTypes:Array TypeId}{args:List Operand}(h:dj C b argTypes args=some f):∃vs,bM C args=some vs:=by
 have one:∀{x:Operand} {s},aU C x=some s->∃vs,bM C [x]=some vs:=by intro x s hs;simp only[bM,hs];exact⟨_,rfl⟩
 have two:∀{x y:Operand} {s u},aU C x=some s->aU C y=some u->∃vs,bM C [x,y]=some vs:=by intro x y s u hs hu;simp only[bM,hs,hu];exact⟨_,rfl⟩
 unfold dj at h
 split at h
 ·split at h
  ·exact one (by assumption)
  ·cases h
 ·split at h
  ·exact two (by assumption) (by assumption)
  ·cases h
 ·split at h
  ·exact two (by assumption) (by assumption)
  ·cases h
 ·split at h
  ·exact one (by assumption)
  ·cases h
 ·split at h
  ·exact one (by assumption)
  ·cases h
 ·split at h
  ·exact two (by assumption) (by assumption)
  ·cases h
 ·split at h
  ·exact two (by assumption) (by assumption)
  ·cases h
 ·cases h
theorem Pk(h:cw C op=some f)(ho:o.op=op)(ht:TR w γ A bd nt t a.tmps)(hr:Rel C A bd w γ hg nx)(hf:(γ g.nx).kind=0)
  (agree:∀id∈bh C op t g,hg id=g.h.get id):OpSim C A bd w γ hg nx o a.eval g (f.run t g):=by
 cases op<;>simp only[cw]at h<;>first| (cases h;done)|skip
 case move x =>
  split at h
  ·rename_i s hs;injection h with h;subst h;exact .now (by simp[execOp,ho]) (aD hs ht hr)
  ·cases h
 case assign x =>
  split at h
  ·rename_i s hs;injection h with h;subst h;exact .now (by simp[execOp,ho]) (aD hs ht hr)
  ·cases h
 case pick c x y =>
  split at h
  ·rename_i sc sx sy hc hx K;injection h with h;subst h;have B:=aD hc ht hr;have L:=aD hx ht hr;have Q:=aD K ht hr;dsimp only;generalize sc.run t=cv at B ⊢;generalize hcv:a.eval c=vc at B;cases B with
   | bool _ b =>
    cases b
    ·exact .now (by simp[execOp,ho,hcv,asBool]) Q
    ·exact .now (by simp[execOp,ho,hcv,asBool]) L
   |_=>trivial
  ·cases h
 case alloc ty =>
  split at h
  ·rename_i cs hz;injection h with h;subst h;exact .ofUpd (by simp only[execOp,ho]) (Jn hr hz hf t)
  ·cases h
 case box ty x =>
  split at h
  ·rename_i s hs;injection h with h;subst h;have B:=aD hs ht hr;unfold K0;dsimp only;rw[aa]
   split
   ·trivial
   ·rename_i J;exact .ofUpd (m:=Instr.box ty (a.eval x)) (by simp only[execOp,ho]) (N4 hr B hf (by simpa using J))
  ·cases h
 case load ty x =>
  split at h
  ·rename_i s ag n hs E G;injection h with h;subst h;exact .ofVal (by simp only[execOp,ho]) (Fv hr (aD hs ht hr) E G λid hid=>agree id (by simp[bh,aO,am,hs,hid]))
  ·cases h
 case store ty x y =>
  split at h
  ·rename_i s u n hs hu G;injection h with h;subst h;exact .ofUnit (by simp only[execOp,ho]) (KA hr (aD hs ht hr) (aD hu ht hr) G λid hid=>agree id (by simp[bh,aO,am,hs,hid]))
  ·cases h
 case binOp op ty x y p =>
  split at h
  ·rename_i s u hs hu;injection h with h;subst h;exact .ofVal (by simp only[execOp,ho]) (N0 (xo:=x) (yo:=y) (aD hs ht hr) (aD hu ht hr))
  ·cases h
 case unOp op ty x =>
  split at h
  ·rename_i s hs;injection h with h;subst h;exact .ofVal (by simp only[execOp,ho]) (Pr (aD hs ht hr))
  ·cases h
 case convert src dst x =>
  split at h
  ·rename_i s sd k hs I hk;injection h with h;subst h;have B:=aD hs ht hr;dsimp only;generalize s.run t=cv at B ⊢;generalize hcv:a.eval x=vc at B;cases B with
   | int _ k' n =>
    refine .ofVal (m:=convert src dst (.int k' n)) (by simp only[execOp,ho,hcv]) ⟨.int k (k.wrap n),?_,by rw[gY];exact .int _ _ _⟩;unfold convert;simp only[TV,aG I,aG hk,TQ,Conv.intToInt]
    try rfl
   |_=>trivial
  ·cases h
 case nilCheck x =>
  split at h
  ·rename_i s hs;injection h with h;subst h;have B:=aD hs ht hr;dsimp only;generalize s.run t=cv at B ⊢;generalize hcv:a.eval x=vc at B;cases B with
   |tptr _ tag sz rows i0 off0 b o' cell h1 h2 h3 h4 h5 h6 h7 h8 h9=>exact .now (by simp[execOp,ho,hcv]) (.tptr _ tag sz rows i0 off0 b o' cell h1 h2 h3 h4 h5 h6 h7 h8 h9)
   |hptr _ id ep i off b o' h1 h2 h3=>exact .now (by simp[execOp,ho,hcv]) (.hptr _ id ep i off b o' h1 h2 h3)
   |clo _ f' xs ys vs us h1 h2 h3 h4=>exact .now (by simp[execOp,ho,hcv]) (.clo _ f' xs ys vs us h1 h2 h3 h4)
   |yld _ id b h1 h2=>exact .now (by simp[execOp,ho,hcv]) (.yld _ id b h1 h2)
   |_=>trivial
  ·cases h
 case makeInterface ty x =>
  split at h
  ·cases h
  ·rename_i s d O hs hu;injection h with h;subst h;refine .ofVal (m:=Instr.makeInterface ty (a.eval x)) (by simp only[execOp,ho]) ⟨.iface ty (a.eval x),?_,.ifc _ ty _ _ (aD hs ht hr)⟩;unfold Instr.makeInterface;simp only[TV,aG hu,TQ]
   try rfl
  ·cases h
 case makeSlice ty l c =>
  split at h
  ·rename_i e sl sc he hl hc
   split at h
   ·rename_i sz bytes zero q M hz;rw[aa]at h
    split at h
    ·rename_i j;simp only[TM,UH,aA]at j;injection h with h;subst h;have hu:C.P.underlying ty=some (.slice e):=by unfold lM at he;split at he<;>first| (injection he with he;subst he;assumption)|cases he
     exact .ofUpd (by simp only[execOp,ho]) (Cc hr hf hu q M hz (aH j.1) j.2 (aD hl ht hr) (aD hc ht hr))
    ·cases h
   ·cases h
  ·cases h
 case fieldAddr ty x fi =>
  split at h
  ·rename_i s fo ft hs F
   split at h
   ·rename_i n G;injection h with h;subst h;exact .ofVal (by simp only[execOp,ho]) (B7 (g:=g) (aD hs ht hr) F G)
   ·cases h
  ·cases h
 case field ty x fi =>
  split at h
  ·rename_i s fo ft hs F
   split at h
   ·rename_i ag n E G;injection h with h;subst h;have B:=aD hs ht hr;refine .ofVal (m:=Instr.field ty (a.eval x) fi) (by simp only[execOp,ho]) ?_;dsimp only;generalize s.run t=y at B ⊢;cases y<;>first|trivial|exact JO B F E G
   ·cases h
  ·cases h
 case indexAddr ty x ix =>
  split at h
  ·rename_i s i hs hi
   split at h
   ·rename_i e hu
    split at h
    ·rename_i sz q;injection h with h;subst h;exact .ofVal (by simp only[execOp,ho]) (Fo hr (aD hs ht hr) (aD hi ht hr) hu q λid hid=>agree id (by simp[bh,aO,am,hs,hu,hid]))
    ·cases h
   ·rename_i n e hu
    split at h
    ·rename_i sz q;injection h with h;subst h;exact .ofVal (by simp only[execOp,ho]) (Fn (g:=g) (aD hs ht hr) (aD hi ht hr) hu q)
    ·cases h
   ·cases h
  ·cases h
 case index ty x ix =>
  split at h
  ·rename_i s i hs hi
   split at h
   ·rename_i n e hu
    split at h
    ·rename_i ag sz E q;injection h with h;subst h;exact .ofVal (by simp only[execOp,ho]) (JV (g:=g) (aD hs ht hr) (aD hi ht hr) hu E q)
    ·cases h
   ·rename_i hu;injection h with h;subst h;exact .ofVal (by simp only[execOp,ho]) (DU (g:=g) (aD hs ht hr) (aD hi ht hr) hu)
   ·cases h
  ·cases h
 case lookup ty x k ok =>
  split at h
  ·rename_i m kk kt et hm hk hu
   split at h
   ·rename_i z hz;injection h with h;subst h;exact .ofVal (by simp only[execOp,ho]) (G3 hr hu hz (aD hm ht hr) (aD hk ht hr) λid hid=>agree id (by cases ok<;>simp[bh,aO,am,hm,hid]))
   ·cases h
  ·cases h
 case mapUpdate ty m k x =>
  split at h
  ·rename_i sm sk sx kt et hm hk hx hu;injection h with h;subst h;exact .ofUnit (by simp only[execOp,ho]) (uN hr hu (aD hm ht hr) (aD hk ht hr) (aD hx ht hr) λid hid=>agree id (by simp[bh,aO,am,hm,hid]))
  ·cases h
 case insert ty m k x =>
  split at h
  ·rename_i sm sk sx kt et hm hk hx hu;injection h with h;subst h;exact .ofUnit (by simp only[execOp,ho]) (uN hr hu (aD hm ht hr) (aD hk ht hr) (aD hx ht hr) λid hid=>agree id (by simp[bh,aO,am,hm,hid]))
  ·cases h
 case mapEntry ty m k =>
  split at h
  ·rename_i sm sk kt et hm hk hu
   split at h
   ·rename_i z hz;injection h with h;subst h;exact .ofUpd (by simp only[execOp,ho]) (D1 hr hu hz (aD hm ht hr) (aD hk ht hr) λid hid=>agree id (by simp[bh,aO,hm,hid]))
   ·cases h
  ·cases h
 case entryStore ty m st x =>
  split at h
  ·rename_i sm ss sx hm hs hx;injection h with h;subst h;exact .ofUnit (s:=Instr.entryStore ty (a.eval m) (a.eval st) (a.eval x)) (by simp only[execOp,ho]) (Ao hr (aD hm ht hr) (aD hs ht hr) (aD hx ht hr) λid hid=>agree id (by simp[bh,aO,am,hm,hid]))
  ·cases h
 case extract x i =>
  split at h
  ·rename_i s hs;injection h with h;subst h;have B:=aD hs ht hr;refine .ofVal (m:=Instr.extract (a.eval x) i) (by simp only[execOp,ho]) ?_;dsimp only;generalize s.run t=cv at B ⊢;generalize a.eval x=vc at B;cases B with
   | tup _ xs vs hl hall =>
    simp only[dD];refine nW λy K=>?_;have hlt:i<vs.size:=by rw[<-hl];exact (TJ.1 K).1
    exact⟨vs[i],by simp[Instr.extract,hlt],hall i y _ K (by simp[hlt])⟩
   |_=>trivial
  ·cases h
 case makeMap ty r =>
  cases r with
  |some r=>cases h
  | none =>
   dsimp only at h
   split at h
   ·injection h with h;subst h;refine .ofUpd (m:=do pure (.map (some (<-newObj (.map #[] 0))))) ?_ (G8 (P:=C.P) hr hf);simp only[execOp,ho,Instr.makeMap,Option.map_none]
    try rfl
   ·cases h
 case makeFunc fn fi ca =>
  cases fn with
  | func fx =>
   dsimp only at h
   split at h
   ·rename_i sa sc ha hc;injection h with h;subst h;have B:=gR ht hr ha;have L:=gR ht hr hc;refine .now (v:=.func (.func fx) (fi.map a.eval) (ca.map a.eval)) (by simp[execOp,ho,Instr.makeFunc]) (.clo _ fx _ _ _ _ (by simpa using B.1) (by simpa using L.1) (λi x v hx hv=>?_) (λi x v hx hv=>?_))
    ·exact B.2 i x v hx (by simpa using hv)
    ·exact L.2 i x v hx (by simpa using hv)
   ·cases h
  |_=>cases h
 case buildSlice ty len parts =>
  split at h
  ·rename_i e vs he D
   split at h
   ·rename_i sz zero q hz;rw[aa]at h
    split at h
    ·rename_i j;simp only[TM,UH,Uw,aA]at j;injection h with h;subst h;have hu:C.P.underlying ty=some (.slice e):=by unfold lM at he;split at he<;>first| (injection he with he;subst he;assumption)|cases he
     exact .ofUpd (by simp only[execOp,ho]) (zP hr hf hu q hz (aH j.1.1) j.1.2 j.2 (gR ht hr D))
    ·cases h
   ·cases h
  ·cases h
 case build ty parts =>
  split at h
  ·rename_i zero vs hz D
   split at h
   ·rename_i fs hu
    split at h
    ·rename_i places N
     split at h
     ·rename_i pl hp;injection h with h;subst h;refine .ofVal (m:=Instr.build ty (parts.map λ(i,x)=>(i,a.eval x))) (by simp only[execOp,ho]) (Cq (g:=g) (place:=(places[·]?)) hz (gR ht hr D) hp λz cells hzv hfill=>?_);have h1:(fs.mapM λf=>do pure (f.offset,<-Go.sizeOf f.type):Sem (Array (Nat×Nat))).run C.P w=.ok places.toArray w:=by
       rw[Array.mapM_eq_mapM_toList];have:=Hi (w:=w) N;simp only[Sem.run_map,this]
       rfl
      unfold Instr.build;simp only[TV,hzv,aG hu,TQ,h1];have e:(λi:Nat=>places.toArray[i]?)=(λi:Nat=>places[i]?):=by funext i;simp
      rw[e,hfill]
      rfl
     ·cases h
    ·cases h
   ·rename_i n e hu
    split at h
    ·rename_i sz q;injection h with h;subst h;refine .ofVal (m:=Instr.build ty (parts.map λ(i,x)=>(i,a.eval x))) (by simp only[execOp,ho]) (Cq (g:=g) (place:=λi=>some (i*sz,sz)) hz (gR ht hr D) ?_ λz cells hzv hfill=>?_)
     ·generalize parts.toList.map (·.1)=is
      induction is with
      |nil=>rfl
      |cons i is ih=>simp only[aF,ih,VT]
     ·unfold Instr.build;simp only[TV,hzv,aG hu,TQ,a_ q];rw[hfill]
      rfl
    ·cases h
   ·cases h
  ·cases h
 case slice ty x lo hi mx =>
  have optR:∀{y:Option Operand} {s:Stg (T->List AV)},bM C y.toList=some s->OVR w γ A bd (s.run t).head? (y.map a.eval):=by intro y s hs;have:=MO (gR ht hr hs);cases y<;>simpa using this
  cases mx with
  | none =>
   dsimp only at h
   split at h
   ·rename_i e sx sl sh hu hx hl H
    split at h
    ·rename_i sz q;injection h with h;subst h;refine .ofVal (m:=Instr.sliceAt ty (a.eval x) (lo.map a.eval) (hi.map a.eval) none) (by simp only[execOp,ho,Option.map_none]) ?_;exact Bs hr hu q (aD hx ht hr) (optR hl) (optR H) trivial (λh=>absurd rfl h) λid hid=>agree id (by simp[bh,aO,am,hx,hid])
    ·cases h
   ·rename_i n e sx sl sh hu hx hl H
    split at h
    ·rename_i sz q;injection h with h;subst h;refine .ofUpd (m:=Instr.sliceAt ty (a.eval x) (lo.map a.eval) (hi.map a.eval) none) (by simp only[execOp,ho,Option.map_none]) ?_;exact Ek (lo:=λt=>(sl.run t).head?) (hi:=λt=>(sh.run t).head?) hr hu q (TW _) (aD hx ht hr) (optR hl) (optR H) λid hid=>agree id (by simp[bh,aO,am,hx,hid])
    ·cases h
   ·cases h
  | some mx =>
   cases hi with
   |none=>cases h
   | some hi =>
    dsimp only at h
    split at h
    ·rename_i e sx sl sh sm he hx hl H hm
     split at h
     ·rename_i sz q;injection h with h;subst h;have hu:C.P.underlying ty=some (.slice e):=by unfold lM at he;split at he<;>first| (injection he with he;subst he;assumption)|cases he
      refine .ofVal (m:=Instr.sliceAt ty (a.eval x) (lo.map a.eval) (some (a.eval hi)) (some (a.eval mx))) (by simp only[execOp,ho,U0]) ?_;exact Bs hr hu q (aD hx ht hr) (optR hl) (aD H ht hr) (aD hm ht hr) (λ_ h=>by cases h) λid hid=>agree id (by simp[bh,aO,am,hx,hid])
     ·cases h
    ·cases h
 case call c =>
  obtain⟨callee,args,argTypes⟩:=c;cases callee<;>first| (cases h;done)|skip
  rename_i b;dsimp only at h;obtain⟨vs,D⟩:=uB h;obtain⟨m,h1,h2⟩:=EJ (ty:=o.type) (consts:=args.map fun|.const _=>true|_=>false) h ht hr hf λx hx s hs id hid=>agree id (by
   have:=Js (t:=t) D x hx s hs;unfold bh aO;simp only[D,am,Vg,T3,V9];exact⟨_,this,hid⟩)
  refine .ofUpd (m:=m) ?_ h2;rw[<-h1];simp only[execOp,ho,resolve,invoke];have e:args.map a.eval=(args.toList.map a.eval).toArray:=by apply WI;simp
  rw[<-e]
  rfl
end
end
end
end Hx
