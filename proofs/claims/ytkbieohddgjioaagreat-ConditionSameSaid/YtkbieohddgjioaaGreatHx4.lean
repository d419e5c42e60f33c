/- A part of the proof: what the functions of the chapter compute. -/
import Derived.Orders
import Derived.Below
import Derived.Laws.Externs
import Derived.Test.YtkbieohddgjioaaGreatHx3
set_option linter.all false
section
namespace Hx
open Go
section
variable {K V:Type}
open Classical in
noncomputable def ov(S:Nat->Prop)(wr:Nat->K->Prop)(val:Nat->K->V)(base:K->V):Nat->K->V
 |0,k=>base k
 |i+1,k=>if S i/\wr i k then val (i+1) k else ov S wr val base i k
variable {S S':Nat->Prop}{wr:Nat->K->Prop}{val:Nat->K->V}{base:K->V}{k:K}
theorem Mw{n:Nat}(h:∀j,j<n->wr j k->(S j↔S' j)):ov S wr val base n k=ov S' wr val base n k:=by
 induction n with
 |zero=>rfl
 | succ n ih =>
  simp only[ov];rw[ih λj hj=>h j (by omega)]
  by_cases hw:wr n k
  ·have hS:=h n (by omega) hw
   by_cases hs:S n
   ·rw[Sb ⟨hs,hw⟩,Sb ⟨hS.1 hs,hw⟩]
   ·rw[Sa (λhh=>hs hh.1),Sa (λhh=>hs (hS.2 hh.1))]
  ·rw[Sa (λhh=>hw hh.2),Sa (λhh=>hw hh.2)]
theorem Ad{n m:Nat}(hm:m<=n)(h:∀j,m<=j->j<n->S j->¬wr j k):ov S wr val base n k=ov S wr val base m k:=by
 induction n with
 | zero=>have:m=0:=by omega
         subst this;rfl
 | succ n ih =>
  by_cases hmn:m=n+1
  ·subst hmn;rfl
  ·simp only[ov];rw[Sa (λhh=>h n (by omega) (by omega) hh.1 hh.2)];exact ih (by omega) λj h1 h2=>h j h1 (by omega)
theorem Mu{n i:Nat}(hi:i<n)(hw:wr i k)(h:∀j,i<j->j<n->S j->¬wr j k):ov (λj=>S j\/j=i) wr val base n k=val (i+1) k:=by
 rw[Ad (m:=i+1) (by omega) (λj h1 h2 h3=>by
  rcases h3 with h3|h3
  ·exact h j (by omega) h2 h3
  ·omega)]
 simp[ov,hw]
theorem CK{n i:Nat}(hw:¬wr i k):ov (λj=>S j\/j=i) wr val base n k=ov S wr val base n k:=by
 refine Mw λj _ hj=>?_;constructor
 ·rintro (h|h)
  ·exact h
  ·subst h;exact absurd hj hw
 ·exact .inl
theorem Mv{n i:Nat}(hi:i<=n)(keep:∀j,j<n->¬wr j k->val (j+1) k=val j k)(h:∀j,j<n->wr j k->(S j↔j<i)) :
  ((∃j,j<i/\wr j k)/\ov S wr val base n k=val i k)\/((∀j,j<i->¬wr j k)/\ov S wr val base n k=base k/\val i k=val 0 k):=by
 rw[Ad hi (λj h1 h2 h3 h4=>by have:=(h j h2 h4).1 h3;omega)];have key:∀m,m<=i->((∃j,j<m/\wr j k)/\ov S wr val base m k=val m k)\/((∀j,j<m->¬wr j k)/\ov S wr val base m k=base k/\val m k=val 0 k):=by
  intro m
  induction m with
  |zero=>intro _;exact .inr ⟨λj hj=>absurd hj (Nat.not_lt_zero j),rfl,rfl⟩
  | succ m ih =>
   intro hm
   by_cases hw:wr m k
   ·left;refine⟨⟨m,by omega,hw⟩,?_⟩;simp only[ov];rw[Sb ⟨(h m (by omega) hw).2 (by omega),hw⟩]
   ·simp only[ov];rw[Sa (λhh=>hw hh.2)];rcases ih (by omega) with⟨⟨j,h1,h2⟩,h3⟩|⟨h1,h2,h3⟩
    ·left;exact⟨⟨j,by omega,h2⟩,by rw[h3,keep m (by omega) hw]⟩
    ·right;refine⟨λj hj=>?_,h2,by rw[keep m (by omega) hw,h3]⟩
     by_cases hjm:j=m
     ·subst hjm;exact hw
     ·exact h1 j (by omega)
 exact key i (R5 _)
end
theorem xz(es:List Edge)(acc:List Nat):∀(m i:Nat),
  (es.foldl (λm e=>aB (Region.binds .any e) (m ||| 2 ^ e.on ||| acc.getD e.on 0) m) m).testBit i=true ->
  m.testBit i=true\/∃e∈es,Region.binds .any e=true/\(e.on=i\/(acc.getD e.on 0).testBit i=true):=by
 induction es with
 |nil=>intro m i h;exact .inl h
 | cons e es ih =>
  intro m i h;simp only[T7]at h;rcases ih _ i h with h|⟨e',h1,h2,h3⟩
  ·rw[aa]at h
   split at h
   ·rename_i hb;simp only[Nat.testBit_or,SY]at h;rcases h with (h|h)|h
    ·exact .inl h
    ·right;refine⟨e,Ts,hb,.inl ?_⟩;rw[Nat.testBit_two_pow]at h;simpa using h
    ·exact .inr ⟨e,Ts,hb,.inr h⟩
   ·exact .inl h
  ·exact .inr ⟨e',Tj _ h1,h2,h3⟩
theorem Ah{S:Nat->Prop}{all:List Oper}(hS:∀j o,all[j]?=some o->S j->∀e∈o.after.toList,Region.binds .any e=true->S e.on) :
  ∀(ops:List Oper) (acc:List Nat) (pre:List Oper),all=pre++ops->pre.length=acc.length->(∀j i,(acc.getD j 0).testBit i=true->S j->S i) ->
   ∀j i,((br ops acc).getD j 0).testBit i=true->S j->S i:=by
 intro ops
 induction ops with
 |nil=>intro acc pre _ _ h;exact h
 | cons o rest ih =>
  intro acc pre hall hlen h;simp only[br];refine ih _ (pre++[o]) (by simp[hall]) (by simp[hlen]) λj i hj hSj=>?_
  by_cases hlt:j<acc.length
  ·refine h j i ?_ hSj;rw[T6,So hlt]at hj;rw[T6];exact hj
  ·by_cases hje:j=acc.length
   ·subst hje;rw[T6,Sj (R5 _)]at hj;simp only[Th,S3,Se]at hj;have ho:all[acc.length]?=some o:=by rw[hall,<-hlen];simp
    rcases xz _ acc _ _ hj with h0|⟨e,h1,h2,h3⟩
    ·simp at h0
    ·have hSe:=hS _ o ho hSj e h1 h2;rcases h3 with h3|h3
     ·rw[<-h3];exact hSe
     ·exact h _ _ h3 hSe
   ·rw[T6,T0 (by simp;omega)]at hj;simp at hj
theorem wK{α:Type}{f:Nat->α->Nat->α->Bool}{i:Nat}{x:α}:∀{l:List α} {j0:Nat},gM f i x j0 l=true->∀(j:Nat) y,l[j]?=some y->f i x (j0+j) y=true:=by
 intro l
 induction l with
 |nil=>intro j0 _ j y h;simp at h
 | cons a l ih =>
  intro j0 h j y hy;simp only[gM,R7]at h;cases j with
  |zero=>simp at hy;subst hy;exact h.1
  | succ j =>
   have:=ih h.2 j y (by simpa using hy);rw[show j0+(j+1)=j0+1+j by omega];exact this
theorem u7{α:Type}{f:Nat->α->Nat->α->Bool}:∀{l:List α} {i0:Nat},lq f i0 l=true->∀(i j:Nat) x y,i<j->l[i]?=some x->l[j]?=some y->f (i0+i) x (i0+j) y=true:=by
 intro l
 induction l with
 |nil=>intro i0 _ i j x y _ h;simp at h
 | cons a l ih =>
  intro i0 h i j x y hij hx hy;simp only[lq,R7]at h;cases j with
  |zero=>omega
  | succ j =>
   cases i with
   | zero =>
    simp at hx;subst hx;have:=wK h.1 j y (by simpa using hy);rw[show i0+(j+1)=i0+1+j by omega];simpa using this
   | succ i =>
    have:=ih h.2 i j x y (by omega) (by simpa using hx) (by simpa using hy);rw[show i0+(i+1)=i0+1+i by omega,show i0+(j+1)=i0+1+j by omega];exact this
theorem AI:∀{l:List Oper} {i0:Nat},pM i0 l=true->∀(i:Nat) o,l[i]?=some o->∀e∈o.after.toList,Region.binds .any e=true->e.on<i0+i:=by
 intro l
 induction l with
 |nil=>intro i0 _ i o h;simp at h
 | cons a l ih =>
  intro i0 h i o ho e he hb;simp only[pM,R7]at h;cases i with
  | zero =>
   simp at ho;subst ho;have:=Sy.1 h.1 e he;simp only[hb,Bool.not_true,Bool.false_or,Tg]at this;simpa using this
  | succ i =>
   have:=ih h.2 i o (by simpa using ho) e he hb;omega
theorem zC{pm:List Nat}:∀{l:List Oper} {i0:Nat},nq pm i0 l=true->∀(i:Nat) o,l[i]?=some o->∀j b,o.guard=some (j,b)->(pm.getD (i0+i) 0).testBit j=true:=by
 intro l
 induction l with
 |nil=>intro i0 _ i o h;simp at h
 | cons a l ih =>
  intro i0 h i o ho j b hg;simp only[nq,R7]at h;cases i with
  | zero =>
   simp at ho;subst ho;have:=h.1;simp only[hg]at this;simpa using this
  | succ i =>
   have:=ih h.2 i o (by simpa using ho) j b hg;rw[show i0+(i+1)=i0+1+i by omega];exact this
def cnt(p:Nat->Bool):Nat->Nat
 |0=>0
 |n+1=>cnt p n+(if p n then 1 else 0)
theorem KG{p:Nat->Bool}:∀{n:Nat},cnt p n=0->∀i,i<n->p i=false:=by
 intro n
 induction n with
 |zero=>intro _ i hi;omega
 | succ n ih =>
  intro h i hi;simp only[cnt]at h
  by_cases hin:i=n
  ·subst hin;cases hp:p i
   ·rfl
   ·simp[hp]at h
  ·exact ih (by omega) i (by omega)
theorem Qa{p q:Nat->Bool}(h:∀i,q i=true->p i=true):∀{n i:Nat},i<n->p i=true->q i=false->cnt q n<cnt p n:=by
 have hle:∀n,cnt q n<=cnt p n:=by
  intro n
  induction n with
  |zero=>exact R5 _
  | succ n ih =>
   simp only[cnt];have:=h n;cases hq:q n
   ·cases p n<;>simp<;>omega
   ·simp[this hq];omega
 intro n
 induction n with
 |zero=>intro i hi;omega
 | succ n ih =>
  intro i hi hp hq;simp only[cnt]
  by_cases hin:i=n
  ·subst hin;simp[hp,hq];have:=hle i;omega
  ·have:=ih (by omega) hp hq;have h2:=h n;cases hq':q n
   ·cases p n<;>simp<;>omega
   ·simp[h2 hq'];omega
end Hx
end
section
namespace Hx
open Go
section
variable {C:Cfg}{t t':T}{g:G}{ih:IH}
theorem Fz{x:Operand}{s:Stg (T->AV)}(h:aT C x=some s)(hx:∀n,x=.tmp n->t.get AV.undef n=t'.get AV.undef n):s.run t=s.run t':=by
 cases x with
 |tmp n=>simp[aT]at h;subst h;simpa using hx n rfl
 | const v =>
  simp only[aT]at h
  split at h
  ·injection h with h;subst h;rfl
  ·cases h
 | global gl =>
  simp only[aT]at h
  split at h
  ·injection h with h;subst h;rfl
  ·cases h
 |func f=>simp[aT]at h;subst h;rfl
def A4(C:Cfg)(t t':T)(xs:List Operand):Prop:=∀x∈xs,∀s,aT C x=some s->s.run t=s.run t'
theorem cL:∀{xs:List Operand} {vs:Stg (T->List AV)},bV C xs=some vs->A4 C t t' xs->vs.run t=vs.run t':=by
 intro xs
 induction xs with
 |nil=>intro vs h _;simp[bV]at h;subst h;rfl
 | cons x xs ih =>
  intro vs h hx;simp only[bV]at h
  split at h
  ·rename_i a as h1 h2;injection h with h;subst h;simp only[hx x Ts a h1,ih h2 λy hy=>hx y (Tj _ hy)]
  ·cases h
variable {op:Op}{f:Stg SFn}
theorem yU{b:Builtin}{argTypes:Array TypeId}{args:List Operand}(h:dD C b argTypes args=some f)(hx:A4 C t t' args):f.run t g=f.run t' g:=by
 unfold dD at h
 split at h
 ·split at h
  ·rename_i s _ hs;injection h with h;subst h;simp only[hx _ (by simp) _ hs]
  ·cases h
 ·split at h
  ·rename_i sa sx _ _ ha hb;have e1:=hx _ (by simp) _ ha;have e2:=hx _ (by simp) _ hb
   repeat' (first|split at h| (rw[aa]at h;split at h))
   all_goals first| (cases h;done)| (injection h with h;subst h;simp only[e1,e2])
  ·cases h
 ·split at h
  ·rename_i sa sx _ ha hb;have e1:=hx _ (by simp) _ ha;have e2:=hx _ (by simp) _ hb
   repeat' (first|split at h)
   all_goals first| (cases h;done)| (injection h with h;subst h;simp only[e1,e2])
  ·cases h
 ·split at h
  ·rename_i s _ hs;have e1:=hx _ (by simp) _ hs
   repeat' (first|split at h)
   all_goals first| (cases h;done)| (injection h with h;subst h;simp only[e1])
  ·cases h
 ·split at h
  ·rename_i s _ hs;have e1:=hx _ (by simp) _ hs
   repeat' (first|split at h| (rw[aa]at h;split at h))
   all_goals first| (cases h;done)| (injection h with h;subst h;simp only[e1])
  ·cases h
 ·split at h
  ·rename_i sa sx ha hb;injection h with h;subst h;simp only[hx _ (by simp) _ ha,hx _ (by simp) _ hb]
  ·cases h
 ·split at h
  ·rename_i sa sx ha hb;injection h with h;subst h;simp only[hx _ (by simp) _ ha,hx _ (by simp) _ hb]
  ·cases h
 ·cases h
theorem FA(h:cm C op=some f)(hx:A4 C t t' op.operands.toList):f.run t g=f.run t' g:=by
 cases op<;>simp only[cm]at h<;>first| (cases h;done)|skip
 case call c =>
  obtain⟨callee,args,argTypes⟩:=c;cases callee<;>first| (cases h;done)|skip
  dsimp only at h;exact yU h λx hm=>hx x (by simpa [Op.operands,Call.operands] using hm)
 case move x =>
  split at h
  ·rename_i s hs;injection h with h;subst h;simp only[hx _ (by simp[Op.operands]) _ hs]
  ·cases h
 case assign x =>
  split at h
  ·rename_i s hs;injection h with h;subst h;simp only[hx _ (by simp[Op.operands]) _ hs]
  ·cases h
 case pick c x y =>
  split at h
  ·rename_i sc sx sy hc h1 h2;injection h with h;subst h;simp only[hx _ (by simp[Op.operands]) _ hc,hx _ (by simp[Op.operands]) _ h1,hx _ (by simp[Op.operands]) _ h2]
  ·cases h
 case alloc ty =>
  split at h
  ·injection h with h;subst h;rfl
  ·cases h
 case box ty x =>
  split at h
  ·rename_i s hs;injection h with h;subst h;simp only[Kq,hx _ (by simp[Op.operands]) _ hs]
  ·cases h
 case load ty x =>
  split at h
  ·rename_i s ag n hs hag hn;injection h with h;subst h;simp only[nD,hx _ (by simp[Op.operands]) _ hs]
  ·cases h
 case store ty x y =>
  split at h
  ·rename_i s u n hs hu hn;injection h with h;subst h;simp only[pB,hx _ (by simp[Op.operands]) _ hs,hx _ (by simp[Op.operands]) _ hu]
  ·cases h
 case binOp op ty x y p =>
  split at h
  ·rename_i s u hs hu;injection h with h;subst h;simp only[hx _ (by simp[Op.operands]) _ hs,hx _ (by simp[Op.operands]) _ hu]
  ·cases h
 case unOp op ty x =>
  split at h
  ·rename_i s hs;injection h with h;subst h;simp only[hx _ (by simp[Op.operands]) _ hs]
  ·cases h
 case convert src dst x =>
  split at h
  ·rename_i s sd k hs hsrc hk;injection h with h;subst h;simp only[hx _ (by simp[Op.operands]) _ hs]
  ·cases h
 case nilCheck x =>
  split at h
  ·rename_i s hs;injection h with h;subst h;simp only[hx _ (by simp[Op.operands]) _ hs]
  ·cases h
 case makeInterface ty x =>
  split at h
  ·cases h
  ·rename_i s d hne hs hu;injection h with h;subst h;simp only[hx _ (by simp[Op.operands]) _ hs]
  ·cases h
 case makeSlice ty l c =>
  split at h
  ·rename_i e sl sc he hl hc
   split at h
   ·rw[aa]at h
    split at h
    ·injection h with h;subst h;simp only[iX,hx _ (by simp[Op.operands]) _ hl,hx _ (by simp[Op.operands]) _ hc]
    ·cases h
   ·cases h
  ·cases h
 case fieldAddr ty x fi =>
  split at h
  ·rename_i s fo ft hs hfi
   split at h
   ·injection h with h;subst h;simp only[kM,hx _ (by simp[Op.operands]) _ hs]
   ·cases h
  ·cases h
 case field ty x fi =>
  split at h
  ·rename_i s fo ft hs hfi
   split at h
   ·injection h with h;subst h;simp only[hx _ (by simp[Op.operands]) _ hs]
   ·cases h
  ·cases h
 case indexAddr ty x ix =>
  split at h
  ·rename_i s i hs hi
   split at h
   ·split at h
    ·injection h with h;subst h;simp only[iH,hx _ (by simp[Op.operands]) _ hs,hx _ (by simp[Op.operands]) _ hi]
    ·cases h
   ·split at h
    ·injection h with h;subst h;simp only[nz,hx _ (by simp[Op.operands]) _ hs,hx _ (by simp[Op.operands]) _ hi]
    ·cases h
   ·cases h
  ·cases h
 case index ty x ix =>
  split at h
  ·rename_i s i hs hi
   split at h
   ·split at h
    ·injection h with h;subst h;simp only[uJ,hx _ (by simp[Op.operands]) _ hs,hx _ (by simp[Op.operands]) _ hi]
    ·cases h
   ·injection h with h;subst h;simp only[qc,hx _ (by simp[Op.operands]) _ hs,hx _ (by simp[Op.operands]) _ hi]
   ·cases h
  ·cases h
 case lookup ty x k ok =>
  split at h
  ·rename_i m kk kt et hm hk hu
   split at h
   ·injection h with h;subst h;simp only[cJ,hx _ (by simp[Op.operands]) _ hm,hx _ (by simp[Op.operands]) _ hk]
   ·cases h
  ·cases h
 case mapUpdate ty m k x =>
  split at h
  ·rename_i sm sk sx kt et hm hk hx' hu;injection h with h;subst h;simp only[cW,hx _ (by simp[Op.operands]) _ hm,hx _ (by simp[Op.operands]) _ hk,hx _ (by simp[Op.operands]) _ hx']
  ·cases h
 case insert ty m k x =>
  split at h
  ·rename_i sm sk sx kt et hm hk hx' hu;injection h with h;subst h;simp only[cW,hx _ (by simp[Op.operands]) _ hm,hx _ (by simp[Op.operands]) _ hk,hx _ (by simp[Op.operands]) _ hx']
  ·cases h
 case mapEntry ty m k =>
  split at h
  ·rename_i sm sk kt et hm hk hu
   split at h
   ·injection h with h;subst h;simp only[gQ,hx _ (by simp[Op.operands]) _ hm,hx _ (by simp[Op.operands]) _ hk]
   ·cases h
  ·cases h
 case entryStore ty m st x =>
  split at h
  ·rename_i sm ss sx hm hs hx';injection h with h;subst h;simp only[jb,hx _ (by simp[Op.operands]) _ hm,hx _ (by simp[Op.operands]) _ hs,hx _ (by simp[Op.operands]) _ hx']
  ·cases h
 case extract x i =>
  split at h
  ·rename_i s hs;injection h with h;subst h;simp only[hx _ (by simp[Op.operands]) _ hs]
  ·cases h
 case makeMap ty r =>
  cases r with
  |some r=>cases h
  | none =>
   dsimp only at h
   split at h
   ·injection h with h;subst h;rfl
   ·cases h
 case makeFunc fn fi ca =>
  cases fn with
  | func fx =>
   dsimp only at h
   split at h
   ·rename_i sa sc ha hc;injection h with h;subst h;have e1:=cL (t:=t) (t':=t') ha λx hm=>hx x (by simp[Op.operands]at hm ⊢;exact .inl hm);have e2:=cL (t:=t) (t':=t') hc λx hm=>hx x (by simp[Op.operands]at hm ⊢;exact .inr hm);simp only[e1,e2]
   ·cases h
  |_=>cases h
 case buildSlice ty len parts =>
  split at h
  ·rename_i e vs he hvs;have e1:=cL (t:=t) (t':=t') hvs λx hm=>hx x (by simpa [Op.operands] using hm)
   split at h
   ·rw[aa]at h
    split at h
    ·injection h with h;subst h;simp only[i_,e1]
    ·cases h
   ·cases h
  ·cases h
 case build ty parts =>
  split at h
  ·rename_i zero vs hz hvs;have e1:=cL (t:=t) (t':=t') hvs λx hm=>hx x (by simpa [Op.operands] using hm)
   split at h
   ·split at h
    ·split at h
     ·injection h with h;subst h;simp only[oP,e1]
     ·cases h
    ·cases h
   ·split at h
    ·injection h with h;subst h;simp only[oP,e1]
    ·cases h
   ·cases h
  ·cases h
 case slice ty x lo hi mx =>
  have optR:∀{y:Option Operand} {s:Stg (T->List AV)},(∀z,y=some z->z∈(Op.slice ty x lo hi mx).operands.toList)->bV C y.toList=some s->s.run t=s.run t':=by
   intro y s hy hs;refine cL hs λz hm=>hx z (hy z ?_);cases y with
   |none=>simp at hm
   |some q=>simp at hm;rw[hm]
  cases mx with
  | none =>
   dsimp only at h
   split at h
   ·rename_i e sx sl sh hu h1 h2 h3
    split at h
    ·injection h with h;subst h;simp only[hx _ (by simp[Op.operands]) _ h1,optR (by rintro z rfl;simp[Op.operands]) h2,optR (by rintro z rfl;simp[Op.operands]) h3]
    ·cases h
   ·rename_i n e sx sl sh hu h1 h2 h3
    split at h
    ·injection h with h;subst h;simp only[jr,hx _ (by simp[Op.operands]) _ h1,optR (by rintro z rfl;simp[Op.operands]) h2,optR (by rintro z rfl;simp[Op.operands]) h3]
    ·cases h
   ·cases h
  | some mx =>
   cases hi with
   |none=>cases h
   | some hi =>
    dsimp only at h
    split at h
    ·rename_i e sx sl sh sm he h1 h2 h3 h4
     split at h
     ·injection h with h;subst h;simp only[hx _ (by simp[Op.operands]) _ h1,optR (by rintro z rfl;simp[Op.operands]) h2,hx _ (by simp[Op.operands]) _ h3,hx _ (by simp[Op.operands]) _ h4]
     ·cases h
    ·cases h
theorem Fw{d:Nat}{rd:Option Nat}(hx:A4 C t t' op.operands.toList):(dj C op).run ih d rd t g=(dj C op).run ih d rd t' g:=by
 unfold dj
 split
 rotate_left
 ·rfl
 rename_i f h;unfold cOp at h
 split at h
 ·rename_i fx args at2
  split at h
  ·rename_i vs hvs;have e1:=cL (t:=t) (t':=t') hvs λx hm=>hx x (by simp[Op.operands,Call.operands]at hm ⊢;exact .inr hm)
   repeat' (first|split at h| (rw[aa]at h;split at h))
   all_goals (injection h with h;subst h;simp only[e1])
  ·cases h
 ·rename_i fo args at2 hnf
  split at h
  ·rename_i fv vs hfv hvs;have e1:=cL (t:=t) (t':=t') hvs λx hm=>hx x (by simp[Op.operands,Call.operands]at hm ⊢;exact .inr hm);have e2:=hx fo (by simp[Op.operands,Call.operands]) _ hfv;injection h with h;subst h;simp only[e1,e2]
  ·cases h
 ·injection h with h;subst h;rfl
 ·rename_i fo args at2
  split at h
  ·rename_i fv vs hfv hvs;have e1:=cL (t:=t) (t':=t') hvs λx hm=>hx x (by simp[Op.operands,Call.operands]at hm ⊢;exact .inr hm);have e2:=hx fo (by simp[Op.operands,Call.operands]) _ hfv;injection h with h;subst h;simp only[e1,e2]
  ·cases h
 ·split at h
  ·rename_i s hs;injection h with h;subst h;exact FA hs hx
  ·cases h
theorem Di{g':G}(hh:g.h=g'.h)(hx:A4 C t t' op.operands.toList):(aN C op).run t g=(aN C op).run t' g':=by
 have one:∀{x:Operand} {F:AV->Looks},x∈op.operands.toList ->
   (match aT C x with|some a=>(⟨λt _=>F (a.run t)⟩:Stg (T->G->Looks))|none=>⟨λ_ _=>da⟩).run t g =
   (match aT C x with|some a=>(⟨λt _=>F (a.run t)⟩:Stg (T->G->Looks))|none=>⟨λ_ _=>da⟩).run t' g':=by
  intro x F hm;cases hs:aT C x with
  |none=>rfl
  |some s=>simp only[hx x hm s hs]
 cases op<;>first|rfl|skip
 case load ty x=>exact one (F:=λv=>ac (ae v)) (by simp[Op.operands])
 case store ty x y=>exact one (F:=λv=>ac (ae v)) (by simp[Op.operands])
 case slice ty x lo hi mx=>exact one (F:=λv=>ac (ae v)) (by simp[Op.operands])
 case mapUpdate ty x k y=>exact one (F:=λv=>ac (ae v)) (by simp[Op.operands])
 case insert ty x k y=>exact one (F:=λv=>ac (ae v)) (by simp[Op.operands])
 case entryStore ty x k y=>exact one (F:=λv=>ac (ae v)) (by simp[Op.operands])
 case mapEntry ty x k=>exact one (F:=λv=>⟨ae v,[],(ae v).map (·,ty),false⟩) (by simp[Op.operands])
 case lookup ty x k ok =>
  cases ok
  ·exact one (F:=λv=>⟨[],(ae v).map (·,ty),[],false⟩) (by simp[Op.operands])
  ·exact one (F:=λv=>ac (ae v)) (by simp[Op.operands])
 case indexAddr ty x ix =>
  simp only[aN]
  split
  ·rename_i e s hu hs;simp only[hx x (by simp[Op.operands]) s hs]
  ·rfl
 case call c =>
  obtain⟨callee,args,argTypes⟩:=c;cases callee with
  | builtin b =>
   simp only[aN]
   split
   ·rename_i vs hvs;simp only[cL hvs λx hm=>hx x (by simpa [Op.operands,Call.operands] using hm)]
   ·rfl
  | value fo =>
   simp only[aN]
   split
   ·rename_i fv vs hfv hvs;simp only[cL hvs λx hm=>hx x (by simp[Op.operands,Call.operands]at hm ⊢;exact .inr hm),hx fo (by simp[Op.operands,Call.operands]) _ hfv,hh]
   ·rfl
  |invoke r m=>rfl
end
end Hx
end
section
namespace Hx
open Go
section
variable {C:Cfg}{A:Nat->Nat->Prop}{bd:Nat}{w w':World}{γ γ':Gm}{hg:Nat->AObj}{nx:Nat}
variable {t:T}{g:G}{ih:IH}
theorem TR.put{nt:Nat}{a:Act}{dst:Option Tmp}{out:Stg (T->AV->T)}{x:AV}{v:Value}(ho:uN nt dst=some out)(ht:TR w γ A bd nt t a.tmps)(hv:RV w γ A bd x v) :
  TR w γ A bd nt (out.run t x) (a.put dst v).tmps:=by
 cases dst with
 |none=>simp[uN]at ho;subst ho;exact ht
 | some d =>
  simp only[uN,aa]at ho
  split at ho
  ·rename_i hd;rw[Tg]at hd;injection ho with ho;subst ho;refine⟨by simp[Act.put,ht.1],λs=>?_⟩;rw[sp_get]
   by_cases hs:s=d
   ·subst hs;rw[Sb rfl];have:s<a.tmps.size:=by rw[ht.1];exact hd
    simpa [Act.put,Array.getD,this] using hv
   ·rw[Sa hs];have:=ht.2 s;simp only[Act.put,S4]at this ⊢;rw[T3 (To hs)];exact this
  ·cases ho
theorem tD{ops:Array Oper}{o:Oper}{q:Stg (T->Option Bool)}{bv:Bool}{nt:Nat}{tmps:Array Value}(hq:ko ops.toList o.guard=some q)(ht:TR w γ A bd nt t tmps)
  (h:q.run t=some bv):Region.wanted o (yielded ops tmps)=bv:=by
 unfold Region.wanted;cases hg:o.guard with
 | none =>
  rw[hg]at hq;simp[ko]at hq;subst hq;injection h with h
 | some p =>
  obtain⟨j,want⟩:=p;rw[hg]at hq;simp only[ko]at hq
  split at hq
  ·rename_i oj hoj
   split at hq
   ·rename_i d hd;injection hq with hq;subst hq;have hoj':ops[j]?=some oj:=by simpa using hoj
    dsimp only at h;rw[gp_run]at h;have hrv:=ht.2 d;simp only[yielded,hoj',Um,hd];generalize t.get AV.undef d=y at h hrv
    split at h
    ·rename_i b;injection h with h;subst h;have hb:tmps[d]?=some (.bool b):=by
      cases hrv':tmps[d]? with
      |none=>simp[S4,hrv',undef]at hrv;cases hrv
      | some v =>
       simp only[S4,hrv',Se]at hrv;cases hrv;rfl
     simp only[hb];cases want<;>cases b<;>rfl
    ·injection h with h;subst h;cases hrv':tmps[d]? with
     |none=>rfl
     | some v =>
      simp only[S4,hrv',Se]at hrv;cases hrv;rfl
    ·cases h
   ·cases hq
  ·cases hq
theorem B0{all:List Oper}{gd:Option (Nat×Bool)}{q:Stg (T->Option Bool)}{t t':T}(hq:ko all gd=some q)
  (h:∀j b oj d,gd=some (j,b)->all[j]?=some oj->oj.dst=some d->t.get AV.undef d=t'.get AV.undef d):q.run t=q.run t':=by
 cases gd with
 |none=>simp[ko]at hq;subst hq;rfl
 | some p =>
  obtain⟨j,want⟩:=p;simp only[ko]at hq
  split at hq
  ·rename_i oj hoj
   split at hq
   ·rename_i d hd;injection hq with hq;subst hq;dsimp only;rw[gp_run,gp_run,h j want oj d rfl hoj hd]
   ·cases hq
  ·cases hq
variable {b:Frame}{a:Act}{ops:Array Oper}{i:Nat}{rest:List Nat}{k:List Item}{cs:List Frame}{o:Oper}
theorem CW{P:Program}{d:Deferred}(ho:ops[i]?=some o)(hw:Region.wanted o (yielded ops a.tmps)=true)(hro:b.roundOf=none)
  (hrun:(execOp a.eval o).run P w=.ok (.defer d) w) :
  step P (lone (b.atR a (.inRegion ops (i::rest)::k)) cs w)=.next (lone (b.atR ({ a with defers:=d::a.defers }.put o.dst undef) (.inRegion ops rest::k)) cs w):=by
 have hfin:=Frame.finish_atR b { a with defers:=d::a.defers } ops i rest k undef;rw[ho]at hfin;simp only[Um]at hfin;refine step_lone_go ?_;rw[stepGR_op ho hw,hro,Oper.semAt_none,<-hfin];simp[stepG.apply,hrun,Frame.atR]
theorem xS{P:Program}(ho:ops[i]?=some o)(hw:Region.wanted o (yielded ops a.tmps)=false) :
  step P (lone (b.atR a (.inRegion ops (i::rest)::k)) cs w)=.next (lone (b.atR (a.put o.dst undef) (.inRegion ops rest::k)) cs w):=by
 have:=stepR_op_skip (P:=P) (b:=b) (a:=a) (k:=k) (cs:=cs) (w:=w) (ops:=ops) (i:=i) (rest:=rest) (by rw[ho];simpa using hw);rw[ho]at this;simpa using this
theorem NS(hr:Rel C A bd w γ hg nx){nt:Nat}{rd:Option Nat}{d:Nat}{df:List ADf}(ht:TR w γ A bd nt t a.tmps)(hrd:RdOk γ rd b)(hdf:DR w γ A bd df a.defers)
  {x:ADf} (h:(dj C o.op).run ih d rd t g=.dfr x) (hE:∀f e d args g y,C.ext f=some e->e d args g≠.dfr y) (ho:ops[i]?=some o) (hw:Region.wanted o (yielded ops a.tmps)=true) :
  ∃dd,DR w γ A bd (x::df) (dd::a.defers) /\
   step C.P (lone (b.atR a (.inRegion ops (i::rest)::k)) cs w)=.next (lone (b.atR ({ a with defers:=dd::a.defers }.put o.dst undef) (.inRegion ops rest::k)) cs w):=by
 have iso:∀f args,ah ih d g f args≠.dfr x:=by
  intro f args;unfold ah
  repeat' (first|split|rw[aa])
  all_goals (intro h;cases h)
 have orf:∀r,orF r≠.dfr x:=by intro r h;cases r<;>cases h
 have rnd:∀id args,cp ih d id args g≠.dfr x:=by
  intro id args;unfold cp
  repeat' split
  all_goals (intro h;cases h)
 unfold dj at h
 split at h
 rotate_left
 ·cases h
 rename_i f hcop;generalize hop:o.op=op at hcop;unfold cOp at hcop
 split at hcop
 ·rename_i fx args at2
  split at hcop
  ·split at hcop
   ·rename_i e he;injection hcop with hcop;subst hcop;exact absurd h (hE _ _ _ _ _ _ he)
   ·rw[aa]at hcop
    split at hcop
    ·injection hcop with hcop;subst hcop;exact absurd h (iso _ _)
    ·injection hcop with hcop;subst hcop;exact absurd h (orf _)
  ·cases hcop
 ·rename_i fo args at2 hnf
  split at hcop
  ·rename_i fv vs hfv hvs;injection hcop with hcop;subst hcop;dsimp only at h;unfold fd at h
   split at h
   ·split at h
    ·rename_i e he;exact absurd h (hE _ _ _ _ _ _ he)
    ·rw[aa]at h
     split at h
     ·exact absurd h (iso _ _)
     ·exact absurd h (orf _)
   ·exact absurd h (rnd _ _)
   ·cases h
  ·cases hcop
 ·injection hcop with hcop;subst hcop;cases h
 ·rename_i fo args at2
  split at hcop
  ·rename_i fv vs hfv hvs;injection hcop with hcop;subst hcop;dsimp only at h;cases rd with
   |some _=>cases h
   | none =>
    dsimp only at h;have hf:=aD hfv ht hr;have hv:=jU ht hr hvs;generalize hfo:a.eval fo=vfo at hf;generalize fv.run t=y at h hf;cases hf with
    | clo _ fx xs ys vs1 us1 hl hl2 h1 h2 =>
     dsimp only at h;injection h with h;subst h;refine⟨{ target:=.fn (.func fx) us1,args:=vs1++args.map a.eval },⟨⟨fx,ys,us1,rfl,rfl,R0 hl2 h2,?_⟩,hdf⟩,CW ho hw hrd ?_⟩
     ·have:=(R0 hl h1).append hv;simpa using this
     ·simp only[execOp,hop,resolve,hfo,Deferred.ofValue,Sn,SV,Sc]
    |_=>cases h
  ·cases hcop
 ·split at hcop
  ·rename_i s hs;injection hcop with hcop;subst hcop;have:=xx (t:=t) (g:=g) hs;have h:s.run t g=.dfr x:=h;rw[h]at this;exact this.elim
  ·cases hcop
theorem Kt(hC:CfgOk C)(hi:IHOk C ih){nt:Nat}{rd:Option Nat}:∀(l:List Oper) (i:Nat) {t:T} {df:List ADf} {g:G} {e:Ex} {t':T} {df':List ADf} {g':G},
  ops.toList.drop i=l->(ku C nt ops.toList l).run ih (bd+1) rd t df g=.ok e t' df' g'->WF g ->
  ∀{w γ hg nx a},Rel C A bd w γ hg nx->Ext g.h hg->Free γ g g'->TR w γ A bd nt t a.tmps->DR w γ A bd df a.defers->RdOk γ rd b->uW b.kind cs ->
   e=.norm/\∃a' w' γ' hg',Fin C A bd w γ hg nx g w' γ' hg' g'/\TR w' γ' A bd nt t' a'.tmps/\DR w' γ' A bd df' a'.defers /\
    Steps C.P (lone (b.atR a (.inRegion ops (List.range' i l.length)::k)) cs w) (lone (b.atR a' k) cs w'):=by
 intro l
 induction l with
 | nil =>
  intro i t df g e t' df' g' _ h _ w γ hg nx a hr hx hf ht hdf hrd hcalm;simp only[ku]at h;injection h with h1 h2 h3 h4;subst h1;subst h2;subst h3;subst h4;exact⟨rfl,a,w,γ,hg,Fin.refl hr,ht,hdf,.one stepR_region_end⟩
 | cons o rest ihl =>
  intro i t df g e t' df' g' hdrop h hwf w γ hg nx a hr hx hf ht hdf hrd hcalm;have ho:ops[i]?=some o:=by
   have:(ops.toList.drop i)[0]?=some o:=by rw[hdrop];rfl
   simpa [ST] using this
  have hdrop':ops.toList.drop (i+1)=rest:=by rw[<-TO,hdrop];rfl
  have hrange:List.range' i (o::rest).length=i::List.range' (i+1) rest.length:=by simp[List.range'_succ]
  rw[hrange];have exec:∀{out:Stg (T->AV->T)},uN nt o.dst=some out->Region.wanted o (yielded ops a.tmps)=true ->
    pC out.run ((ku C nt ops.toList rest).run ih (bd+1) rd) t df g ((dj C o.op).run ih (bd+1) rd t g)=.ok e t' df' g' ->
    e=.norm/\∃a' w' γ' hg',Fin C A bd w γ hg nx g w' γ' hg' g'/\TR w' γ' A bd nt t' a'.tmps/\DR w' γ' A bd df' a'.defers /\
     Steps C.P (lone (b.atR a (.inRegion ops (i::List.range' (i+1) rest.length)::k)) cs w) (lone (b.atR a' k) cs w'):=by
   intro out hout hw h;have hm:=mM (op:=o.op) (d:=bd+1) (rd:=rd) (t:=t) hC.mon hi.mon hwf;generalize hres:(dj C o.op).run ih (bd+1) rd t g=r at h hm;have go:∀{x:AV} {g1:G},r≠.fail->(∀y,r≠.dfr y)->vOf r=x->gOf g r=g1->(ku C nt ops.toList rest).run ih (bd+1) rd (out.run t x) df g1=.ok e t' df' g' ->
     e=.norm/\∃a' w' γ' hg',Fin C A bd w γ hg nx g w' γ' hg' g'/\TR w' γ' A bd nt t' a'.tmps/\DR w' γ' A bd df' a'.defers /\
     Steps C.P (lone (b.atR a (.inRegion ops (i::List.range' (i+1) rest.length)::k)) cs w) (lone (b.atR a' k) cs w'):=by
    intro x g1 hne hnd hx' hg1 h;subst hx';subst hg1;have w1:=hm.wf hwf;have m2:=yW hC.mon hi.mon h w1;obtain⟨u,wa,γa,hga,f1,rv,st⟩:=Gn (b:=b) (cs:=cs) (rest:=List.range' (i+1) rest.length) (k:=k) hC hi hr hwf ht hcalm hx.agr hres hne hnd (hf.le m2.nx) ho hw;obtain⟨he,a',wb,γb,hgb,f2,tr,dr,st2⟩:=ihl (i+1) hdrop' h w1 (a:=a.put o.dst u) f1.rel (f1.ext hm hx) (f1.freed hr hm hf) ((ht.step f1.stp).put hout rv)
     (by have:=hdf.step f1.stp;cases hd:o.dst<;>simpa [Act.put,hd] using this) (hrd.step f1.stp) hcalm
    exact⟨he,a',wb,γb,hgb,f1.trans f2 hm m2,tr,dr,Steps.trans st st2⟩
   cases r with
   |fail=>cases h
   |val x=>exact go (by simp) (by simp) rfl rfl h
   |upd x g1=>exact go (by simp) (by simp) rfl rfl h
   | dfr x =>
    obtain⟨dd,hdr,st⟩:=NS (b:=b) (cs:=cs) (rest:=List.range' (i+1) rest.length) (k:=k) hr ht hrd hdf hres (λf e d args g y he hy=>by
     exact extNoDfr hC he hy) ho hw
    obtain⟨he,a',wb,γb,hgb,f2,tr,dr,st2⟩:=ihl (i+1) hdrop' h hwf (a:={ a with defers:=dd::a.defers }.put o.dst undef) hr hx hf
     (ht.put (a:={ a with defers:=dd::a.defers }) hout dG)
     (by cases hd:o.dst<;>simpa [Act.put,hd] using hdr) hrd hcalm
    exact⟨he,a',wb,γb,hgb,f2,tr,dr,.head st st2⟩
  simp only[ku]at h
  split at h
  ·rename_i out hout
   split at h
   ·rename_i hgd;refine exec hout ?_ h;simp[Region.wanted,hgd]
   ·rename_i gd hgd
    split at h
    ·rename_i q hq;rw[<-hgd]at hq;dsimp only at h
     split at h
     ·rename_i hq';exact exec hout (tD hq ht hq') h
     ·rename_i hq';have hw:=tD hq ht hq';obtain⟨he,a',wb,γb,hgb,f2,tr,dr,st2⟩:=ihl (i+1) hdrop' h hwf (a:=a.put o.dst undef) hr hx hf
       (ht.put hout dG) (by cases hd:o.dst<;>simpa [Act.put,hd] using hdf) hrd hcalm
      exact⟨he,a',wb,γb,hgb,f2,tr,dr,.head (xS ho hw) st2⟩
     ·cases h
    ·cases h
  ·cases h where
 extNoDfr {f d:Nat} {e:Nat->List AV->G->OR} {args:List AV} {g:G} {y:ADf} (hC:CfgOk C) (he:C.ext f=some e) (hy:e d args g=.dfr y):False:=by exact (hC.noDfr f e he d args g y) hy
end
end Hx
end
section
namespace Hx
open Go
theorem t8{d:TypeDesc}{x y:AV}(hx:pu d x=true)(hy:pu d y=true):∃b,mP x y=some b:=by
 cases d<;>cases x<;>simp[pu]at hx<;>cases y<;>simp[pu]at hy
 ·exact⟨_,rfl⟩
 ·rename_i k0 k1 n1 k2 n2;rw[qe]at hx hy;simp only[Sg]at hx hy;subst hx;subst hy;exact⟨_,by simp[mP,qe];rfl⟩
 ·exact⟨_,rfl⟩
theorem x9:∀{ds:List TypeDesc} {xs ys:List AV},dU ds xs=true->dU ds ys=true->∃b,dg xs ys=some b:=by
 intro ds
 induction ds with
 |nil=>intro xs ys hx hy;cases xs<;>simp[dU]at hx;cases ys<;>simp[dU]at hy;exact⟨_,rfl⟩
 | cons d ds ih =>
  intro xs ys hx hy;cases xs<;>simp[dU,aa]at hx;cases ys<;>simp[dU,aa]at hy;obtain⟨b1,h1⟩:=t8 hx.1 hy.1;obtain⟨b2,h2⟩:=ih hx.2 hy.2;exact⟨_,by simp only[dg,h1,h2];rfl⟩
theorem LU{kk:KeyKind}{x y:AV}(hx:nC kk x=true)(hy:nC kk y=true):∃b,oy x y=some b:=by
 cases kk with
 | one d =>
  simp only[nC]at hx hy;obtain⟨b,hb⟩:=t8 hx hy;cases x<;>first| (cases d<;>simp[pu]at hx;done)|skip
  all_goals
   cases y<;>first| (cases d<;>simp[pu]at hy;done)| (exact⟨b,by simpa [oy] using hb⟩)|skip
 | flat ds =>
  cases x<;>simp[nC]at hx;cases y<;>simp[nC]at hy;obtain⟨b,hb⟩:=x9 hx hy;exact⟨b,by simpa [oy] using hb⟩
 |other=>cases x<;>simp[nC]at hx
theorem FK{k k0 z:AV}:∀{es:List (AV×AV)} {r:Option AV},mg k es=some r->(∃b,oy k k0=some b) ->
  mg k (es++[(k0,z)])=some (match r with|some v=>some v|none=>if oy k k0=some true then some z else none):=by
 intro es
 induction es with
 | nil =>
  intro r h hk;simp only[mg]at h;injection h with h;subst h;obtain⟨b,hb⟩:=hk;cases b<;>simp[mg,hb]
 | cons e es ih =>
  intro r h hk;obtain⟨k',v'⟩:=e;simp only[mg]at h;simp only[Sd,mg]
  split at h
  ·injection h with h;subst h;rfl
  ·exact ih h hk
  ·cases h
theorem Em{kk:KeyKind}{z:AV}{m k:T->AV}{t:T}{g g':G}{id:Nat}{es:List (AV×AV)}{k0 v:AV}(h:cJ kk z false m k t g=.val v)(hm:m t=.hmap id)
  (hg:g.h.get id=.map es) (hg':g'.h.get id=.map (es++[(k0,z)])) (hk0:nC kk k0=true):cJ kk z false m k t g'=.val v:=by
 unfold cJ at h ⊢;rw[aa]at h ⊢
 split at h
 ·rename_i hk;rw[Sb hk];simp only[hm,G.get_eq,hg,hg']at h ⊢;cases hf:mg (k t) es with
  |none=>rw[hf]at h;cases h
  | some r =>
   rw[FK hf (LU hk hk0)];rw[hf]at h;cases r with
   |some v'=>exact h
   | none =>
    dsimp only at h ⊢
    by_cases hq:oy (k t) k0=some true
    ·rw[Sb hq];exact h
    ·rw[Sa hq];exact h
 ·cases h
theorem RC{C:Cfg}{op:Op}{t:T}{g:G}(h:((aN C op).run t g).sr≠[]):∃ty x k a,op=.lookup ty x k false/\aT C x=some a /\
  (aN C op).run t g=⟨[],(ae (a.run t)).map (·,ty),[],false⟩:=by
 cases op<;>simp only[aN]at h ⊢<;>try (exact absurd rfl h)
 case lookup ty x k ok =>
  cases ok
  ·dsimp only at h ⊢
   split at h
   ·rename_i a ha;exact⟨ty,x,k,a,rfl,ha,by simp[ha]⟩
   ·exact absurd rfl h
  ·dsimp only at h
   split at h<;>exact absurd rfl h
 case call c =>
  obtain⟨callee,args,at'⟩:=c;cases callee<;>simp only at h
  ·split at h
   ·dsimp only at h
    split at h
    ·rw[aa]at h;split at h<;>exact absurd rfl h
    ·exact absurd rfl h
   ·exact absurd rfl h
  ·exact absurd rfl h
  ·split at h<;>exact absurd rfl h
 all_goals (split at h<;>exact absurd rfl h)
theorem O4{C:Cfg}{op:Op}{t:T}{g:G}{p:Nat×Nat}(h:p∈((aN C op).run t g).soft):∃x k a,op=.mapEntry p.2 x k/\aT C x=some a/\p.1∈ae (a.run t):=by
 cases op<;>simp only[aN]at h<;>try (exact absurd h Sk)
 case mapEntry ty x k =>
  split at h
  ·rename_i a ha;dsimp only at h;obtain⟨id,h1,h2⟩:=SX.1 h;subst h2;exact⟨x,k,a,rfl,ha,h1⟩
  ·exact absurd h Sk
 case lookup ty x k ok =>
  cases ok<;>dsimp only at h<;>split at h<;>exact absurd h Sk
 case call c =>
  obtain⟨callee,args,at'⟩:=c;cases callee<;>simp only at h
  ·split at h
   ·dsimp only at h
    split at h
    ·rw[aa]at h;split at h<;>exact absurd h Sk
    ·exact absurd h Sk
   ·exact absurd h Sk
  ·exact absurd h Sk
  ·split at h<;>exact absurd h Sk
 all_goals (split at h<;>exact absurd h Sk)
theorem Dj{C:Cfg}{ih:IH}{ty:TypeId}{x k:Operand}{ok:Bool}{d:Nat}{rd:Option Nat}{t:T}{g:G}{r:OR}(h:(dj C (.lookup ty x k ok)).run ih d rd t g=r)(hne:r≠.fail) :
  ∃a kk kt et z,aT C x=some a/\aT C k=some kk/\C.P.underlying ty=some (.map kt et)/\ur C.P et=some z /\
   (∀t g,(dj C (.lookup ty x k ok)).run ih d rd t g=cJ (cI C.P kt) z ok a.run kk.run t g)/\r=cJ (cI C.P kt) z ok a.run kk.run t g:=by
 unfold dj at h ⊢;simp only[cOp,cm]at h ⊢
 split at h
 ·rename_i f hf
  split at hf
  ·rename_i s hs;injection hf with hf;subst hf
   split at hs
   ·rename_i a kk kt et ha hk hu
    split at hs
    ·rename_i z hz;injection hs with hs;subst hs;refine⟨a,kk,kt,et,z,ha,hk,hu,hz,λt g=>?_,h.symm⟩;simp only[ha]
    ·cases hs
   ·cases hs
  ·cases hf
 ·exact absurd h.symm hne
theorem AD{C:Cfg}{ih:IH}{ty:TypeId}{x k:Operand}{d:Nat}{rd:Option Nat}{t:T}{g:G}{r:OR}(h:(dj C (.mapEntry ty x k)).run ih d rd t g=r)(hne:r≠.fail) :
  ∃a kk kt et z,aT C x=some a/\aT C k=some kk/\C.P.underlying ty=some (.map kt et)/\ur C.P et=some z/\r=gQ (cI C.P kt) z a.run kk.run t g:=by
 unfold dj at h;simp only[cOp,cm]at h
 split at h
 ·rename_i f hf
  split at hf
  ·rename_i s hs;injection hf with hf;subst hf
   split at hs
   ·rename_i a kk kt et ha hk hu
    split at hs
    ·rename_i z hz;injection hs with hs;subst hs;exact⟨a,kk,kt,et,z,ha,hk,hu,hz,h.symm⟩
    ·cases hs
   ·cases hs
  ·cases hf
 ·exact absurd h.symm hne
theorem Cy{kk:KeyKind}{z:AV}{m k:T->AV}{t:T}{g:G}{v:AV}{g':G}(h:gQ kk z m k t g=.upd v g') :
  ∃id es,m t=.hmap id/\g.h.get id=.map es/\g'=g.put id (.map (es++[(k t,z)]))/\nC kk (k t)=true:=by
 unfold gQ at h;rw[aa]at h
 split at h
 ·rename_i hk
  split at h
  ·rename_i id hm
   split at h
   ·rename_i es hes
    split at h
    ·cases h
    ·injection h with h1 h2;subst h2;exact⟨id,es,hm,by simpa using hes,rfl,hk⟩
    ·cases h
   ·cases h
  ·cases h
 ·cases h
theorem CT{pm:List Nat}{i:Nat}{x:Foot}:∀{l:List Foot} {j0 j:Nat} {y:Foot},l[j]?=some y->(pm.getD (j0+j) 0).testBit i=false->meets y.wr (fst1 x.lk.sr)=true ->
  1<=fC pm i x j0 l:=by
 intro l
 induction l with
 |nil=>intro j0 j y h;simp at h
 | cons a l ih =>
  intro j0 j y h h1 h2;cases j with
  | zero =>
   simp at h;subst h;simp only[fC,aa];rw[Sa]
   ·omega
   ·simp only[TV]at h1;rw[h1,h2];simp
  | succ j =>
   have:=ih (j0:=Nat.succ j0) (by simpa using h) (by rw[show Nat.succ j0+j=j0+(j+1) by omega];exact h1) h2;simp only[fC,aa]
   split<;>omega
theorem A0{pm:List Nat}{i:Nat}{x:Foot}:∀{l:List Foot} {j0 j j':Nat} {y y':Foot},j<j'->l[j]?=some y->l[j']?=some y'->(pm.getD (j0+j) 0).testBit i=false->(pm.getD (j0+j') 0).testBit i=false ->
  meets y.wr (fst1 x.lk.sr)=true->meets y'.wr (fst1 x.lk.sr)=true->2<=fC pm i x j0 l:=by
 intro l
 induction l with
 |nil=>intro j0 j j' y y' _ h;simp at h
 | cons a l ih =>
  intro j0 j j' y y' hlt h h' h1 h1' h2 h2';cases j' with
  |zero=>omega
  | succ j' =>
   cases j with
   | zero =>
    simp at h;subst h;have:=CT (pm:=pm) (i:=i) (x:=x) (j0:=Nat.succ j0) (j:=j') (by simpa using h') (by rw[show Nat.succ j0+j'=j0+(j'+1) by omega];exact h1') h2';simp only[fC,aa];rw[Sa]
    ·omega
    ·simp only[TV]at h1;rw[h1,h2];simp
   | succ j =>
    have:=ih (j0:=Nat.succ j0) (j:=j) (j':=j') (by omega) (by simpa using h) (by simpa using h') (by rw[show Nat.succ j0+j=j0+(j+1) by omega];exact h1) (by rw[show Nat.succ j0+j'=j0+(j'+1) by omega];exact h1') h2 h2';simp only[fC,aa]
    split<;>omega
theorem G4{b x:Bool}(h:aB b x false=true):b=true/\x=true:=by
 cases b
 ·cases h
 ·exact⟨rfl,h⟩
theorem CU{pm:List Nat}:∀{l:List Foot} {i0:Nat},tu pm i0 l=true->∀(i j j':Nat) x y y',i<j->j<j'->l[i]?=some x->l[j]?=some y->l[j']?=some y'->x.lk.sr≠[] ->
  (pm.getD (i0+j) 0).testBit (i0+i)=false->(pm.getD (i0+j') 0).testBit (i0+i)=false->meets y.wr (fst1 x.lk.sr)=true->meets y'.wr (fst1 x.lk.sr)=true->False:=by
 intro l
 induction l with
 |nil=>intro i0 _ i j j' x y y' _ _ h;simp at h
 | cons a l ih =>
  intro i0 h i j j' x y y' hij hjj hx hy hy' hsr h1 h1' h2 h2';obtain⟨hc,h⟩:=G4 h;cases j' with
  |zero=>omega
  | succ j' =>
   cases j with
   |zero=>omega
   | succ j =>
    cases i with
    | zero =>
     simp at hx;subst hx;have hc':Nat.ble (fC pm i0 a (Nat.succ i0) l) 1=true:=by
      cases hsr':a.lk.sr with
      |nil=>exact absurd hsr' hsr
      |cons p r=>rw[hsr']at hc;exact hc
     rw[SS]at hc';have:=A0 (pm:=pm) (i:=i0) (x:=a) (j0:=Nat.succ i0) (j:=j) (j':=j') (by omega) (by simpa using hy) (by simpa using hy')
      (by rw[show Nat.succ i0+j=i0+(j+1) by omega];exact h1) (by rw[show Nat.succ i0+j'=i0+(j'+1) by omega];exact h1') h2 h2'
     omega
    | succ i =>
     refine ih h i j j' x y y' (by omega) (by omega) (by simpa using hx) (by simpa using hy) (by simpa using hy') hsr ?_ ?_ h2 h2'
     ·rw[show Nat.succ i0+j=i0+(j+1) by omega,show Nat.succ i0+i=i0+(i+1) by omega];exact h1
     ·rw[show Nat.succ i0+j'=i0+(j'+1) by omega,show Nat.succ i0+i=i0+(i+1) by omega];exact h1'
theorem fy{a b:List Nat}{x:Nat}(ha:x∈a)(hb:x∈b):meets a b=true:=by unfold meets;exact Vi.2 ⟨x,ha,by simpa using hb⟩
theorem qb{l:List (Nat×Nat)}{x:Nat}(h:x∈l.map (·.1)):x∈fst1 l:=h
theorem Gp{p:Nat×Nat}:∀{l:List (Nat×Nat)},CL p l=true->p∈l:=by
 intro l
 induction l with
 |nil=>intro h;cases h
 | cons q l ih =>
  intro h;simp only[CL,aa]at h
  split at h
  ·rename_i hc;simp only[R7]at hc;have h1:=aG hc.1;have h2:=aG hc.2;exact Sq.2 (.inl (Prod.ext h1 h2))
  ·exact Tj _ (ih h)
end Hx
end
section
namespace Hx
open Go
def TraAt(C:Cfg)(ih:IH)(d:Nat)(rd:Option Nat)(nt:Nat)(ops:Array Oper)(q:Bool)(o:Oper)(t t':T)(g g':G)(f:Foot):Prop :=
 ∃out gd,uN nt o.dst=some out/\ko ops.toList o.guard=some gd /\
  ((gd.run t=some false/\t'=out.run t .undef/\g'=g/\f.wr=[]) \/
   (gd.run t=some true/\∃r,(dj C o.op).run ih d rd t (aP g [])=r/\r≠.fail/\(∀a,r≠.dfr a)/\t'=out.run t (vOf r)/\g'.h=(gOf (aP g []) r).h /\
    f.wr=(gOf (aP g []) r).lg/\(gOf (aP g []) r).nx<=g'.nx/\(q=false->f.lk=(aN C o.op).run t g/\(gOf (aP g []) r).nx<g'.nx)))
def jA(ops:Array Oper)(i:Nat):Option Tmp:=(ops[i]?).bind (·.dst)
structure Reg (C:Cfg) (ih:IH) (bd:Nat) (rd:Option Nat) (nt:Nat) (ops:Array Oper) (q:Bool) (T':Nat->T) (G':Nat->G) (F':Nat->Foot) (hg0:Nat->AObj):Prop where
 hC:CfgOk C
 hi:IHOk C ih
 tra:∀i o,ops[i]?=some o->TraAt C ih (bd+1) rd nt ops q o (T' i) (T' (i+1)) (G' i) (G' (i+1)) (F' i)
 wf0:WF (G' 0)
 ext0:Ext (G' 0).h hg0
 free0:∀id,(G' 0).nx<=id->id<=(G' ops.size).nx->hg0 id=.none
 apart:∀i j,i<j->j<ops.size->((br ops.toList []).getD j 0).testBit i=true\/cz (F' i) (F' j)=true
 once:∀i j j',i<j->j<j'->j'<ops.size->(F' i).lk.sr≠[]->((br ops.toList []).getD j 0).testBit i=false->((br ops.toList []).getD j' 0).testBit i=false ->
  meets (F' j).wr (fst1 (F' i).lk.sr)=true->meets (F' j').wr (fst1 (F' i).lk.sr)=true->False
 slots:∀i j oi oj,i<j->ops[i]?=some oi->ops[j]?=some oj->((br ops.toList []).getD j 0).testBit i=true\/kV ops.toList oi oj=true
 guards:∀i o j b,ops[i]?=some o->o.guard=some (j,b)->((br ops.toList []).getD i 0).testBit j=true
 quiet:q=true->∀i,i<ops.size->(F' i).wr=[]
section
variable {C:Cfg}{A:Nat->Nat->Prop}{bd:Nat}{ih:IH}{rd:Option Nat}{nt:Nat}{ops:Array Oper}{q:Bool}{T':Nat->T}{G':Nat->G}{F':Nat->Foot}{hg0:Nat->AObj}
theorem TraAt.facts(hC:CfgOk C)(hi:IHOk C ih){d:Nat}{o:Oper}{t t':T}{g g':G}{f:Foot}(h:TraAt C ih d rd nt ops q o t t' g g' f)(hwf:WF g) :
  WF g'/\g.nx<=g'.nx/\(∀id,id ∉ f.wr->g'.h.get id=g.h.get id)/\∀id∈f.wr,id<g'.nx/\(g.h.get id=.none->g.nx<=id):=by
 obtain⟨out,gd,_,_,h⟩:=h;rcases h with⟨_,_,rfl,hw⟩|⟨_,r,hr,hne,_,_,hh,hw,hnx,_⟩
 ·rw[hw];exact⟨hwf,R5 _,λ_ _=>rfl,λ_ h=>absurd h Sk⟩
 ·have hm:Mon (aP g []) (gOf (aP g []) r):=by rw[<-hr];exact mM hC.mon hi.mon hwf.setLog
  obtain⟨n,a,b,c⟩:=hm.new;have e:(gOf (aP g []) r).lg=n:=by simpa using a
  have hnx0:g.nx<=(gOf (aP g []) r).nx:=by have:=hm.nx;simpa using this
  refine⟨λid hid=>?_,Sz hnx0 hnx,λid hid=>?_,λid hid=>?_⟩
  ·rw[hh];exact hm.wf hwf.setLog id (by omega)
  ·rw[hh,b id (by rw[<-e,<-hw];exact hid)];simp
  ·have:=c id (by rw[<-e,<-hw];exact hid);simp only[setLog_h,setLog_nx]at this;exact⟨by omega,this.2⟩
theorem Reg.facts(R:Reg C ih bd rd nt ops q T' G' F' hg0):∀i,i<=ops.size->WF (G' i):=by
 intro i
 induction i with
 |zero=>intro _;exact R.wf0
 | succ i ih' =>
  intro h;have ho:ops[i]?=some ops[i]:=Sv (by omega);exact (TraAt.facts R.hC R.hi (R.tra i _ ho) (ih' (by omega))).1
theorem Reg.at(R:Reg C ih bd rd nt ops q T' G' F' hg0){i:Nat}(h:i<ops.size) :
  (G' i).nx<=(G' (i+1)).nx/\(∀id,id ∉ (F' i).wr->(G' (i+1)).h.get id=(G' i).h.get id)/\∀id∈(F' i).wr,id<(G' (i+1)).nx/\((G' i).h.get id=.none->(G' i).nx<=id):=by
 have ho:ops[i]?=some ops[i]:=Sv h;exact (TraAt.facts R.hC R.hi (R.tra i _ ho) (R.facts i (by omega))).2
theorem Reg.nx_mono(R:Reg C ih bd rd nt ops q T' G' F' hg0){i j:Nat}(h:i<=j)(hj:j<=ops.size):(G' i).nx<=(G' j).nx:=by
 induction j with
 | zero=>have:i=0:=by omega
         subst this;exact R5 _
 | succ j ih' =>
  by_cases hij:i=j+1
  ·subst hij;exact R5 _
  ·exact Sz (ih' (by omega) (by omega)) (R.at (by omega)).1
theorem Reg.keepT(R:Reg C ih bd rd nt ops q T' G' F' hg0){j:Nat}(hj:j<ops.size){s:Nat}(h:jA ops j≠some s):(T' (j+1)).get AV.undef s=(T' j).get AV.undef s:=by
 have ho:ops[j]?=some ops[j]:=Sv hj;obtain⟨out,gd,hout,_,h'⟩:=R.tra j _ ho;have key:∀x,(out.run (T' j) x).get AV.undef s=(T' j).get AV.undef s:=by
  intro x;simp only[jA,ho,Um]at h;cases hd:ops[j].dst with
  |none=>rw[hd]at hout;simp[uN]at hout;subst hout;rfl
  | some d =>
   rw[hd]at hout h;simp only[uN,aa]at hout
   split at hout
   ·injection hout with hout;subst hout;rw[sp_get,Sa];rintro rfl;exact h rfl
   ·cases hout
 rcases h' with⟨_,h1,_⟩|⟨_,r,_,_,_,h1,_⟩
 ·rw[h1,key]
 ·rw[h1,key]
def Down(ops:Array Oper)(S:Nat->Prop):Prop:=∀j o,ops[j]?=some o->S j->∀e∈o.after.toList,Region.binds .any e=true->S e.on
theorem Down.mask{S:Nat->Prop}(h:Down ops S){j i:Nat}(hb:((br ops.toList []).getD j 0).testBit i=true)(hj:S j):S i :=
 Ah (S:=S) (all:=ops.toList) (λj o ho=>h j o (by simpa using ho)) ops.toList [] [] rfl rfl (λj i hj=>by simp at hj) j i hb hj
theorem OG(S:Nat->Prop):∀n,∃t:T,∀s,t.get AV.undef s=ov S (λi s=>jA ops i=some s) (λi s=>(T' i).get AV.undef s) (λs=>(T' 0).get AV.undef s) n s:=by
 intro n
 induction n with
 |zero=>exact⟨T' 0,λs=>rfl⟩
 | succ n ih' =>
  obtain⟨t,ht⟩:=ih'
  by_cases hS:S n
  ·cases hd:jA ops n with
   |none=>exact⟨t,λs=>by simp only[ov];rw[Sa (by rw[hd];simp)];exact ht s⟩
   | some d =>
    refine⟨(sp AV.undef d).run t ((T' (n+1)).get AV.undef d),λs=>?_⟩;rw[sp_get];simp only[ov]
    by_cases hs:s=d
    ·subst hs;rw[Sb rfl,Sb ⟨hS,hd⟩]
    ·rw[Sa hs,Sa (by rw[hd];rintro⟨_,h⟩;exact hs (by injection h with h;exact h.symm))];exact ht s
  ·exact⟨t,λs=>by simp only[ov];rw[Sa (λh=>hS h.1)];exact ht s⟩
structure Inv (C:Cfg) (A:Nat->Nat->Prop) (bd nt:Nat) (ops:Array Oper) (T':Nat->T) (G':Nat->G) (F':Nat->Foot) (hg0:Nat->AObj) (N:Nat) (w0:World) (γ0:Gm) (df0:List Deferred)
  (S:Nat->Prop) (a:Act) (w:World) (γ:Gm) (hg:Nat->AObj):Prop where
 rel:Rel C A bd w γ hg N
 stp:Stp w0 γ0 w γ
 size:a.tmps.size=nt
 slots:∀s,RV w γ A bd (ov S (λi s=>jA ops i=some s) (λi s=>(T' i).get AV.undef s) (λs=>(T' 0).get AV.undef s) ops.size s) (a.tmps.getD s undef)
 objs:∀id,hg id=ov S (λi id=>id∈(F' i).wr) (λi id=>(G' i).h.get id) hg0 ops.size id
 dfr:a.defers=df0
theorem k_{x y:Foot}(h:lG x y=true){id:Nat}(hid:id∈x.wr):y.lk.big=false/\id ∉ y.wr/\id ∉ y.lk.rd/\id ∉ y.lk.sr.map (·.1):=by
 unfold lG at h
 split at h
 ·rename_i he;rw[he]at hid;exact absurd hid Sk
 ·simp only[R7,SP]at h;obtain⟨⟨⟨h1,h2⟩,h3⟩,h4⟩:=h;refine⟨h1,λh=>?_,λh=>?_,λh=>?_⟩
  ·rw[fy hid h]at h2;cases h2
  ·rw[fy hid h]at h3;cases h3
  ·rw[fy hid (qb h)]at h4;cases h4
theorem tc{x y:Foot}(h:jp x y=true){id:Nat}(hid:id∈x.wr):y.lk.big=false/\id ∉ y.wr/\id ∉ y.lk.rd/\(id∈y.lk.sr.map (·.1)->∀p∈y.lk.sr,p∈x.lk.soft):=by
 unfold jp at h
 split at h
 ·rename_i he;rw[he]at hid;exact absurd hid Sk
 ·simp only[R7,SP,SY]at h;obtain⟨⟨⟨h1,h2⟩,h3⟩,h4⟩:=h;refine⟨h1,λh=>?_,λh=>?_,λh p hp=>?_⟩
  ·rw[fy hid h]at h2;cases h2
  ·rw[fy hid h]at h3;cases h3
  ·rcases h4 with h4|h4
   ·rw[fy hid (qb h)]at h4;cases h4
   ·exact Gp (Sy.1 h4 p hp)
theorem dA{x y:Foot}(h:cz x y=true):lG x y=true/\jp y x=true:=by unfold cz at h;simpa using h
theorem l0{all:List Oper}{x y:Oper}(h:kV all x y=true) :
  (∀d,x.dst=some d->d ∉ tP all y/\y.dst≠some d)/\(∀d,y.dst=some d->d ∉ tP all x):=by
 unfold kV at h;simp only[R7]at h;refine⟨λd hd=>?_,λd hd=>?_⟩
 ·have:=h.1;rw[hd]at this;simp only[R7,SP,bne_iff_ne,ne_eq]at this;exact⟨λhm=>(by have h1:=this.1;rw[UM.2 hm]at h1;cases h1),this.2⟩
 ·have:=h.2;rw[hd]at this;simp only[SP]at this;intro hm;rw[UM.2 hm]at this;cases this
variable {N:Nat}{w0:World}{γ0:Gm}{df0:List Deferred}{S:Nat->Prop}{a:Act}{w:World}{γ:Gm}{hg:Nat->AObj}
variable {b:Frame}{i:Nat}{rest:List Nat}{k:List Item}{cs:List Frame}{o:Oper}
theorem Reg.good(R:Reg C ih bd rd nt ops q T' G' F' hg0)(I:Inv C A bd nt ops T' G' F' hg0 N w0 γ0 df0 S a w γ hg)(hin:i<=ops.size){id:Nat}
  (h:∀j,j<ops.size->id∈(F' j).wr->(S j↔j<i)) (hne:(G' i).h.get id≠.none):hg id=(G' i).h.get id:=by
 rw[I.objs id];rcases Mv (S:=S) (wr:=λi id=>id∈(F' i).wr) (val:=λi id=>(G' i).h.get id) (base:=hg0) (k:=id) hin (λj hj hw=>(R.at hj).2.1 id hw) h with⟨_,h2⟩|⟨_,h2,h3⟩
 ·exact h2
 ·rw[h2,h3];exact R.ext0 id (by rw[<-h3];exact hne)
theorem LD(R:Reg C ih bd rd nt ops q T' G' F' hg0)(I:Inv C A bd nt ops T' G' F' hg0 N w0 γ0 df0 S a w γ hg)(hN:(G' ops.size).nx<=N)
  (ho:ops[i]?=some o) (hS:¬S i) (hdown:Down ops S) (hready:∀e∈o.after.toList,Region.binds .any e=true->S e.on) (hcalm:uW b.kind cs) :
  ∃a' w' γ' hg',Inv C A bd nt ops T' G' F' hg0 N w0 γ0 df0 (λj=>S j\/j=i) a' w' γ' hg' /\
   Steps C.P (lone (b.atR a (.inRegion ops (i::rest)::k)) cs w) (lone (b.atR a' (.inRegion ops rest::k)) cs w'):=by
 have hi:i<ops.size:=(TB.1 ho).1;have hdown1:Down ops (λj=>S j\/j=i):=by
  intro j oj hoj hj e he hb;rcases hj with hj|rfl
  ·exact .inl (hdown j oj hoj hj e he hb)
  ·rw[ho]at hoj;injection hoj with hoj;subst hoj;exact .inl (hready e he hb)
 have ahead:∀j,j≠i->((br ops.toList []).getD i 0).testBit j=true->S j:=by
  intro j hj hb;rcases hdown1.mask hb (.inr rfl) with h|h
  ·exact h
  ·exact absurd h hj
 have behind:∀j,S j->((br ops.toList []).getD j 0).testBit i≠true:=λj hj hb=>hS (hdown.mask hb hj);have hdst:jA ops i=o.dst:=by simp[jA,ho]
 have hslot:∀s∈tP ops.toList o,ov S (λi s=>jA ops i=some s) (λi s=>(T' i).get AV.undef s) (λs=>(T' 0).get AV.undef s) ops.size s=(T' i).get AV.undef s:=by
  intro s hs;have h:∀j,j<ops.size->jA ops j=some s->(S j↔j<i):=by
   intro j hj hd;have hoj:ops[j]?=some ops[j]:=Sv hj;have hd':ops[j].dst=some s:=by simpa [jA,hoj] using hd
   constructor
   ·intro hSj;rcases Nat.lt_trichotomy j i with h|h|h
    ·exact h
    ·subst h;exact absurd hSj hS
    ·rcases R.slots i j _ _ h ho hoj with hb|hb
     ·exact absurd hb (behind j hSj)
     ·exact absurd hs ((l0 hb).2 s hd')
   ·intro hlt;rcases R.slots j i _ _ hlt hoj ho with hb|hb
    ·exact ahead j (by omega) hb
    ·exact absurd hs ((l0 hb).1 s hd').1
  rcases Mv (S:=S) (wr:=λi s=>jA ops i=some s) (val:=λi s=>(T' i).get AV.undef s) (base:=λs=>(T' 0).get AV.undef s) (k:=s) (by omega:i<=ops.size) (λj hj hw=>R.keepT hj hw) h with⟨_,h2⟩|⟨_,h2,h3⟩
  ·exact h2
  ·rw[h2,<-h3]
 obtain⟨ts,hts⟩:=OG (ops:=ops) (T':=T') S ops.size;have htr:TR w γ A bd nt ts a.tmps:=⟨I.size,λs=>by rw[hts s];exact I.slots s⟩;have heq:∀s∈tP ops.toList o,ts.get AV.undef s=(T' i).get AV.undef s:=λs hs=>by rw[hts s,hslot s hs]
 have hagrO:A4 C ts (T' i) o.op.operands.toList:=by intro x hx s hs;refine Fz hs λn hn=>heq n ?_;subst hn;exact TS _ (List.mem_filterMap.2 ⟨_,hx,rfl⟩)
 obtain⟨out,gd,hout,hgd,hcase⟩:=R.tra i o ho;have hgq:gd.run ts=gd.run (T' i):=by refine B0 hgd λj b' oj d hg' hoj hd=>heq d ?_;refine TU _ ?_;simp only[hg',hoj,hd];simp
 have hnoW:∀s,jA ops i=some s->∀j,i<j->j<ops.size->S j->¬jA ops j=some s:=by
  intro s hd j hij hj hSj hd';have hoj:ops[j]?=some ops[j]:=Sv hj;rcases R.slots i j _ _ hij ho hoj with hb|hb
  ·exact behind j hSj hb
  ·exact ((l0 hb).1 s (hdst ▸ hd)).2 (by simpa [jA,hoj] using hd')
 have slots':∀{w':World} {γ':Gm} {x:AV} {v:Value},Stp w γ w' γ'->RV w' γ' A bd x v->T' (i+1)=out.run (T' i) x ->
   (a.put o.dst v).tmps.size=nt/\∀s,RV w' γ' A bd (ov (λj=>S j\/j=i) (λi s=>jA ops i=some s) (λi s=>(T' i).get AV.undef s) (λs=>(T' 0).get AV.undef s) ops.size s) ((a.put o.dst v).tmps.getD s undef):=by
  intro w' γ' x v hst hv hT;have h1:=(htr.step hst).put hout hv;refine⟨h1.1,λs=>?_⟩;have h2:=h1.2 s
  by_cases hs:jA ops i=some s
  ·rw[Mu (wr:=λi s=>jA ops i=some s) hi hs (hnoW s hs),hT];rw[hdst]at hs;rw[hs]at hout h2 ⊢;simp only[uN,aa]at hout
   split at hout
   ·injection hout with hout;subst hout;simp only[sp_get,if_true]at h2 ⊢;exact h2
   ·cases hout
  ·rw[CK (wr:=λi s=>jA ops i=some s) hs,<-hts s];have:(out.run ts x).get AV.undef s=ts.get AV.undef s:=by
    cases hd:o.dst with
    |none=>rw[hd]at hout;simp[uN]at hout;subst hout;rfl
    | some d =>
     rw[hd]at hout;simp only[uN,aa]at hout
     split at hout
     ·injection hout with hout;subst hout;rw[sp_get,Sa];rintro rfl;exact hs (by rw[hdst,hd])
     ·cases hout
   rw[this]at h2;exact h2
 rcases hcase with⟨hq,hT,hG,hW⟩|⟨hq,r,hr,hne,hnd,hT,hH,hW,hnx,hlk⟩
 ·
  rw[<-hgq]at hq;have hw:=tD hgd htr hq;obtain⟨s1,s2⟩:=slots' (Stp.refl w γ) dG hT;refine⟨_,w,γ,hg,⟨I.rel,I.stp,s1,s2,λid=>?_,?_⟩,.one (xS ho hw)⟩
  ·rw[I.objs id];exact (CK (by rw[hW];exact Sk)).symm
  ·have:=I.dfr;cases hd:o.dst<;>simpa [Act.put,hd] using this
 ·
  rw[<-hgq]at hq;have hw:=tD hgd htr hq;have hwf:WF (aP (G' i) []):=(R.facts i (by omega)).setLog;rw[<-Fw hagrO]at hr;have hfree:Free γ (aP (G' i) []) (gOf (aP (G' i) []) r):=by
   intro id h1 h2;simp only[setLog_nx]at h1;rw[I.rel.none_iff,I.objs id,Ad (m:=0) (S2 _)]
   ·exact R.free0 id (Sz (R.nx_mono (S2 i) (by omega)) h1) (Sz h2 (Sz hnx (R.nx_mono (by omega) (R5 _))))
   ·intro j _ hj hSj hw;cases q with
    |true=>rw[R.quiet rfl j hj]at hw;exact Sk hw
    | false =>
     have hlt:id<(G' (i+1)).nx:=by have:=(hlk rfl).2;omega
     rcases Nat.lt_trichotomy j i with h|h|h
     ·have:=((R.at hj).2.2 id hw).1;have:=R.nx_mono (show j+1<=i by omega) (by omega);omega
     ·subst h;exact hS hSj
     ·have hwi:id∈(F' i).wr:=Tn λhn=>by
       have key:∀m,i<m->m<=j->(G' m).h.get id=.none:=by
        intro m
        induction m with
        |zero=>intro h;omega
        | succ m ihm =>
         intro h1' h2'
         by_cases hmi:m=i
         ·subst hmi;rw[(R.at (by omega)).2.1 id hn];exact R.facts m (by omega) id h1
         ·have:=ihm (by omega) (by omega)
          by_cases hm:id∈(F' m).wr
          ·have h3:=((R.at (i:=m) (by omega)).2.2 id hm).2 this;have h4:=R.nx_mono (show i+1<=m by omega) (by omega);omega
          ·rw[(R.at (by omega)).2.1 id hm];exact this
       have h3:=((R.at hj).2.2 id hw).2 (key j h (R5 _));have h4:=R.nx_mono (show i+1<=j by omega) (by omega);omega
      rcases R.apart i j h hj with hb|hb
      ·exact behind j hSj hb
      ·exact (k_ (dA hb).1 hwi).2.1 hw
  have fin:∀{gs:G} {u:Value} {w':World} {γ':Gm} {hg':Nat->AObj},Fin C A bd w γ hg N gs w' γ' hg' (gOf (aP (G' i) []) r)->gs.lg=[]->RV w' γ' A bd (vOf r) u ->
    Steps C.P (lone (b.atR a (.inRegion ops (i::rest)::k)) cs w) (lone (b.atR (a.put o.dst u) (.inRegion ops rest::k)) cs w') ->
    ∃a' w' γ' hg',Inv C A bd nt ops T' G' F' hg0 N w0 γ0 df0 (λj=>S j\/j=i) a' w' γ' hg' /\
     Steps C.P (lone (b.atR a (.inRegion ops (i::rest)::k)) cs w) (lone (b.atR a' (.inRegion ops rest::k)) cs w'):=by
   intro gs u w' γ' hg' f hgs hv st;obtain⟨s1,s2⟩:=slots' f.stp hv hT;have hle:(gOf (aP (G' i) []) r).nx<=N:=Sz hnx (Sz (R.nx_mono (by omega) (R5 _)) hN);refine⟨_,w',γ',hg',⟨?_,I.stp.trans f.stp,s1,s2,λid=>?_,?_⟩,st⟩
   ·have:=f.rel;rw[show Nat.max N (gOf (aP (G' i) []) r).nx=N from Nat.max_eq_left hle]at this;exact this
   ·obtain⟨n,e1,e2,e3⟩:=f.new;have en:(F' i).wr=n:=by rw[hW,e1,hgs,Su]
    by_cases hid:id∈(F' i).wr
    ·rw[e2 id (en ▸ hid),<-hH];refine (Mu (wr:=λi id=>id∈(F' i).wr) (val:=λi id=>(G' i).h.get id) hi hid λj hij hj hSj hw=>?_).symm;rcases R.apart i j hij hj with hb|hb
     ·exact behind j hSj hb
     ·exact (k_ (dA hb).1 hid).2.1 hw
    ·rw[e3 id (en ▸ hid),I.objs id];exact (CK (wr:=λi id=>id∈(F' i).wr) hid).symm
   ·have:=I.dfr;cases hd:o.dst<;>simpa [Act.put,hd] using this
  have hgood:∀id,(q=false->(F' i).lk.big=true\/id∈(F' i).lk.rd\/(id∈(F' i).lk.sr.map (·.1)/\∀j,i<j->j<ops.size->S j->id ∉ (F' j).wr)) ->
    (G' i).h.get id≠.none->hg id=(G' i).h.get id:=by
   intro id hlook hne';refine R.good I (by omega) (λj hj hw=>?_) hne';cases q with
   |true=>rw[R.quiet rfl j hj]at hw;exact absurd hw Sk
   | false =>
    have hlook:=hlook rfl;constructor
    ·intro hSj;rcases Nat.lt_trichotomy j i with h|h|h
     ·exact h
     ·subst h;exact absurd hSj hS
     ·rcases R.apart i j h hj with hb|hb
      ·exact absurd hb (behind j hSj)
      ·obtain⟨h1,h2,h3,h4⟩:=tc (dA hb).2 hw;rcases hlook with hl|hl|⟨_,hl⟩
       ·rw[h1]at hl;cases hl
       ·exact absurd hl h3
       ·exact absurd hw (hl j h hj hSj)
    ·intro hlt;rcases R.apart j i hlt hi with hb|hb
     ·exact ahead j (by omega) hb
     ·obtain⟨h1,h2,h3,h4⟩:=k_ (dA hb).1 hw;rcases hlook with hl|hl|⟨hl,_⟩
      ·rw[h1]at hl;cases hl
      ·exact absurd hl h3
      ·exact absurd hl h4
  have hfoot:(aN C o.op).run ts (aP (G' i) [])=(aN C o.op).run (T' i) (G' i):=Di (by simp) hagrO
  by_cases hsoft:q=false/\∃id j,id∈(F' i).lk.sr.map (·.1)/\i<j/\j<ops.size/\S j/\id∈(F' j).wr
  ·
   obtain⟨rfl,id,j,hid,hij,hj,hSj,hwj⟩:=hsoft;have hlk':=(hlk rfl).1;have hoj:ops[j]?=some ops[j]:=Sv hj;have hunb:((br ops.toList []).getD j 0).testBit i=false:=by have:=behind j hSj;simpa using this
   have hap:cz (F' i) (F' j)=true:=(R.apart i j hij hj).resolve_left (behind j hSj);obtain⟨_,_,_,h4⟩:=tc (dA hap).2 hwj;have h4:=h4 hid;have hsrne:(F' i).lk.sr≠[]:=by intro h;rw[h]at hid;simp at hid
   rw[hlk']at hsrne;obtain⟨ty,x,kx,a0,hop,ha0,hft⟩:=RC hsrne;rw[hop]at hr;obtain⟨a1,kk,kt,et,z,ha1,hk1,hu,hz,hall,hreq⟩:=Dj hr hne;rw[ha0]at ha1;injection ha1 with ha1;subst ha1;have hval:∃v,r=.val v:=by
    rw[hreq];have:Small (aP (G' i) []) (cJ (cI C.P kt) z false a0.run kk.run ts (aP (G' i) [])):=by
     unfold cJ;rw[aa]
     repeat' split
     all_goals trivial
    cases hrr:cJ (cI C.P kt) z false a0.run kk.run ts (aP (G' i) []) with
    |fail=>rw[hrr]at hreq;exact absurd hreq hne
    |val v=>exact⟨v,rfl⟩
    | upd v g' =>
     exfalso;unfold cJ at hrr;rw[aa]at hrr
     repeat' (split at hrr)
     all_goals cases hrr
    |dfr x=>rw[hrr]at this;exact this.elim
   obtain⟨v,hv⟩:=hval;subst hv;have ea0:a0.run ts=a0.run (T' i):=hagrO x (by rw[hop];simp[Op.operands]) a0 ha0;have hidr:id∈ae (a0.run (T' i)):=by rw[hlk',hft]at hid;simpa using hid
   have hmap:∃es,a0.run ts=.hmap id/\(G' i).h.get id=.map es:=by
    have hreq':=hreq.symm;unfold cJ at hreq';rw[aa]at hreq'
    split at hreq'
    ·rw[<-ea0]at hidr;generalize a0.run ts=y at hidr hreq';cases y<;>simp[ae]at hidr
     ·cases hreq'
     ·cases hreq'
     ·subst hidr;simp only[G.get_eq,setLog_h]at hreq'
      split at hreq'
      ·rename_i es hes
       split at hes
       ·rename_i es' hes';injection hes with hes;subst hes;exact⟨_,rfl,hes'⟩
       ·cases hes
      ·cases hreq'
    ·cases hreq'
   obtain⟨es,hm1,hm2⟩:=hmap;have hpair:(id,ty)∈(F' j).lk.soft:=h4 _ (by rw[hlk',hft];simpa using hidr);obtain⟨outj,gdj,houtj,hgdj,hcasej⟩:=R.tra j _ hoj;rcases hcasej with⟨_,_,_,hWj⟩|⟨_,rj,hrj,hnej,hndj,hTj,hHj,hWj,hnxj,hlkj⟩
   ·rw[hWj]at hwj;exact absurd hwj Sk
   rw[(hlkj rfl).1]at hpair;obtain⟨xj,kj,aj,hopj,haj,hidj⟩:=O4 hpair;dsimp only at hopj hidj;rw[hopj]at hrj;obtain⟨aj',kkj,ktj,etj,zj,haj',hkj,huj,hzj,hreqj⟩:=AD hrj hnej;rw[haj]at haj';injection haj' with haj';subst haj';rw[hu]at huj;injection huj with huj;injection huj with huj1 huj2;subst huj1;subst huj2;rw[hz]at hzj;injection hzj with hzj;subst hzj;cases rj with
   |fail=>exact absurd rfl hnej
   |val v=>rw[hWj]at hwj;simp[gOf]at hwj
   |dfr x=>exact absurd rfl (hndj x)
   | upd vj gj =>
    obtain⟨idj,esj,q1,q2,q3,q4⟩:=Cy hreqj.symm;rw[q1]at hidj;simp[ae]at hidj;subst hidj;have hnone:∀m,i<m->m<ops.size->S m->id∈(F' m).wr->m=j:=by
     intro m him hm hSm hwm;refine Tn λhmj=>?_;have hb:((br ops.toList []).getD m 0).testBit i=false:=by simpa using behind m hSm
     have hsr:(F' i).lk.sr≠[]:=by rw[hlk'];exact hsrne
     rcases TW m j with h|h
     ·exact R.once i m j him h hj hsr hb hunb (fy hwm (qb hid)) (fy hwj (qb hid))
     ·exact R.once i j m hij (by omega) hm hsr hunb hb (fy hwj (qb hid)) (fy hwm (qb hid))
    have hwi:(F' i).wr=[]:=by rw[hW];simp[gOf]
    have hsame:(G' j).h.get id=(G' i).h.get id:=by
     have key:∀m,i<=m->m<=j->(G' m).h.get id=(G' i).h.get id:=by
      intro m
      induction m with
      | zero=>intro h1 _;have:i=0:=by omega
              subst this;rfl
      | succ m ihm =>
       intro h1 h2
       by_cases him:i=m+1
       ·subst him;rfl
       ·rw[(R.at (by omega)).2.1 id ?_]
        ·exact ihm (by omega) (by omega)
        ·intro hwm
         by_cases hmi:m=i
         ·subst hmi;rw[hwi]at hwm;exact Sk hwm
         ·rcases R.apart m j (by omega) hj with hb|hb
          ·have hSm:=hdown.mask hb hSj;exact absurd (hnone m (by omega) (by omega) hSm hwm) (by omega)
          ·exact (k_ (dA hb).1 hwm).2.1 hwj
     exact key j (by omega) (R5 _)
    have hes:esj=es:=by
     have h1:(G' j).h.get id=.map esj:=by simpa using q2
     rw[hsame,hm2]at h1;injection h1 with h1;exact h1.symm
    subst hes;have hnow:hg id=.map (esj++[(kkj.run (T' j),z)]):=by rw[I.objs id,Ad (m:=j+1) (by omega) (λm h1 h2 h3 h4=>by have:=hnone m (by omega) h2 h3 h4;omega)];simp only[ov];rw[Sb ⟨hSj,hwj⟩,hHj,q3];simp[gOf,RW]
    let gs:G:=⟨(G' i).h.put id (.map (esj++[(kkj.run (T' j),z)])),(G' i).nx,[]⟩
    have hgs:gs.h.get id=.map (esj++[(kkj.run (T' j),z)]):=by simp[gs,RW]
    have hr':(dj C o.op).run ih (bd+1) rd ts gs=.val v:=by rw[hop,hall];exact Em hreq.symm hm1 (by simpa using hm2) hgs q4
    have hidlt:id<(G' i).nx:=Nat.lt_of_not_le λh=>by have:=R.facts i (by omega) id h;rw[hm2]at this;cases this
    have hwfs:WF gs:=λid' h'=>by have h':(G' i).nx<=id':=h';simp only[gs,RW];rw[Sa (by omega)];exact R.facts i (by omega) id' h'
    have hagr:Agr ((aN C o.op).run ts gs) gs hg:=by
     have e:(aN C o.op).run ts gs=⟨[],(ae (a0.run ts)).map (·,ty),[],false⟩:=by rw[hop];simp[aN,ha0]
     rw[e];simp only[Agr,hm1,ae];intro id' hid' _;simp at hid';subst hid';rw[hnow,hgs]
    obtain⟨u,w',γ',hg',f,rv,st⟩:=Gn (b:=b) (cs:=cs) (rest:=rest) (k:=k) R.hC R.hi I.rel hwfs htr hcalm hagr hr' hne hnd (λid' h1 h2=>hfree id' (by simpa [gs] using h1) (by simpa [gs,gOf] using h2)) ho hw;refine fin (gs:=gs) (u:=u) (w':=w') (γ':=γ') (hg':=hg') ⟨?_,f.stp,?_⟩ rfl rv st
    ·have:=f.rel;simpa [gOf,gs] using this
    ·obtain⟨n,e1,e2,e3⟩:=f.new;have:n=[]:=by simpa [gOf,gs] using e1
     subst this;exact⟨[],by simp[gOf,gs],λ_ h=>absurd h Sk,e3⟩
  ·have hagr:Agr ((aN C o.op).run ts (aP (G' i) [])) (aP (G' i) []) hg:=by
    cases hqq:q with
    | true =>
     refine Ext.agr λid hne'=>?_;simp only[setLog_h]at hne' ⊢;refine hgood id (λh=>?_) hne';rw[hqq]at h;cases h
    | false =>
     rw[hfoot,<-(hlk hqq).1];unfold Agr
     split
     ·rename_i hb;exact λid hne'=>by simp only[setLog_h]at hne' ⊢;exact hgood id (λ_=>.inl hb) hne'
     ·intro id hid hne';simp only[setLog_h]at hne' ⊢;refine hgood id (λ_=>.inr ?_) hne';rcases SG.1 hid with h|h
      ·exact .inl h
      ·exact .inr ⟨h,λj h1 h2 h3 h4=>hsoft ⟨hqq,id,j,h,h1,h2,h3,h4⟩⟩
   obtain⟨u,w',γ',hg',f,rv,st⟩:=Gn (b:=b) (cs:=cs) (rest:=rest) (k:=k) R.hC R.hi I.rel hwf htr hcalm hagr hr hne hnd hfree ho hw;exact fin f (by simp) rv st
end
end Hx
end
section
namespace Hx
open Go
section
variable {C:Cfg}{A:Nat->Nat->Prop}{bd:Nat}{ih:IH}{rd:Option Nat}{nt:Nat}{ops:Array Oper}{q:Bool}{T':Nat->T}{G':Nat->G}{F':Nat->Foot}{hg0:Nat->AObj}
variable {N:Nat}{w0:World}{γ0:Gm}{df0:List Deferred}{b:Frame}{k:List Item}{cs:List Frame}
theorem Nz(R:Reg C ih bd rd nt ops q T' G' F' hg0)(hN:(G' ops.size).nx<=N)(hedge:∀i o,ops[i]?=some o->∀e∈o.after.toList,Region.binds .any e=true->e.on<i)(hcalm:uW b.kind cs) :
  ∀(fuel tq:Nat) (listed:Array Bool) (S:Nat->Prop) {a:Act} {w:World} {γ:Gm} {hg:Nat->AObj},listed.size=ops.size->(∀j,S j↔listed.getD j false=true)->Down ops S ->
   cnt (λj=>!listed.getD j true) ops.size<=fuel->Inv C A bd nt ops T' G' F' hg0 N w0 γ0 df0 S a w γ hg ->
   ∃a' w' γ' hg',Inv C A bd nt ops T' G' F' hg0 N w0 γ0 df0 (λj=>j<ops.size) a' w' γ' hg' /\
    Steps C.P (lone (b.atR a (.inRegion ops (Region.linearise.go .any ops fuel tq listed [])::k)) cs w) (lone (b.atR a' (.inRegion ops []::k)) cs w'):=by
 have done:∀{listed:Array Bool} {S:Nat->Prop} {a:Act} {w:World} {γ:Gm} {hg:Nat->AObj},listed.size=ops.size->(∀j,S j↔listed.getD j false=true) ->
   (∀j,j<ops.size->listed.getD j true=true)->Inv C A bd nt ops T' G' F' hg0 N w0 γ0 df0 S a w γ hg->Inv C A bd nt ops T' G' F' hg0 N w0 γ0 df0 (λj=>j<ops.size) a w γ hg:=by
  intro listed S a w γ hg hsz hS hall I;have e:S=λj=>j<ops.size:=by
   funext j;refine propext ⟨λh=>?_,λh=>?_⟩
   ·rw[hS]at h;rcases TW j ops.size with h'|h'
    ·exact h'
    ·simp[S4,TL (by omega:listed.size<=j)]at h
   ·rw[hS];have:=hall j h;have hlt:j<listed.size:=by omega
    simpa [Array.getD,hlt] using this
  rw[<-e];exact I
 intro fuel
 induction fuel with
 | zero =>
  intro tq listed S a w γ hg hsz hS hdown hc I;have hz:=KG (Nat.le_zero.1 hc);refine⟨a,w,γ,hg,done hsz hS (λj hj=>by simpa using hz j hj) I,?_⟩;simp only[Region.linearise.go,Sl];exact Steps.refl _ _
 | succ fuel ihf =>
  intro tq listed S a w γ hg hsz hS hdown hc I;simp only[Region.linearise.go];change ∃a' w' γ' hg',_/\Steps C.P (lone (b.atR a (.inRegion ops (match (Region.ready .any ops listed)[tq % (Region.ready .any ops listed).length]? with
   |some i=>Region.linearise.go .any ops fuel (tq / (Region.ready .any ops listed).length) (listed.setIfInBounds i true) [i]
   |none=>[].reverse)::k)) cs w) _
  cases hi:(Region.ready .any ops listed)[tq % (Region.ready .any ops listed).length]? with
  | none =>
   have hnil:Region.ready .any ops listed=[]:=by
    cases hr:Region.ready .any ops listed with
    |nil=>rfl
    | cons x xs =>
     rw[hr]at hi;have hlt:tq % (x::xs).length<(x::xs).length:=TD _ (by simp);rw[R4 hlt]at hi;cases hi
   have hall:∀j,j<ops.size->listed.getD j true=true:=by
    intro j
    induction j using Nat.strongRecOn with
    | _ j ihj =>
     intro hj;refine Tn λhne=>?_;have hne:listed.getD j true=false:=by simpa using hne
     have:j∈Region.ready .any ops listed:=by
      rw[mem_ready];refine⟨hne,ops[j],Sv hj,λe he hb=>?_⟩;have hlt:=hedge j _ (Sv hj) e (by simpa using he) hb;have h1:=ihj e.on hlt (by omega);have hl:e.on<listed.size:=by omega
      simpa [Array.getD,hl] using h1
     rw[hnil]at this;exact absurd this Sk
   exact⟨a,w,γ,hg,done hsz hS hall I,by simp only[Sl];exact Steps.refl _ _⟩
  | some i =>
   have hmem:=R9 hi;obtain⟨hun,o,ho,hall⟩:=mem_ready.1 hmem;have hin:i<ops.size:=(TB.1 ho).1;have hSi:¬S i:=by
    rw[hS];have hl:i<listed.size:=by omega
    simp[Array.getD,hl]at hun ⊢;exact hun
   have hready:∀e∈o.after.toList,Region.binds .any e=true->S e.on:=λe he hb=>by rw[hS];exact hall e (by simpa using he) hb
   simp only[];rw[linearise_go_acc,List.reverse_singleton,Vc];obtain⟨a1,w1,γ1,hg1,I1,st1⟩:=LD (b:=b) (k:=k) (cs:=cs) (rest:=Region.linearise.go .any ops fuel (tq / (Region.ready .any ops listed).length) (listed.setIfInBounds i true) []) R I hN ho hSi hdown hready hcalm;obtain⟨a2,w2,γ2,hg2,I2,st2⟩:=ihf (tq / (Region.ready .any ops listed).length) (listed.setIfInBounds i true) (λj=>S j\/j=i) (by simp[hsz]) (λj=>by
     rw[hS]
     by_cases hj:j=i
     ·subst hj;have hl:j<listed.size:=by omega
      simp[Array.getD,hl]
     ·simp only[S4];rw[T3 (To hj)];simp[hj]) (λj oj hoj hj e he hb=>by
     rcases hj with hj|rfl
     ·exact .inl (hdown j oj hoj hj e he hb)
     ·rw[ho]at hoj;injection hoj with hoj;subst hoj;exact .inl (hready e he hb)) (by
     have:=Qa (p:=λj=>!listed.getD j true) (q:=λj=>!(listed.setIfInBounds i true).getD j true) (λj hj=>by
      by_cases hji:j=i
      ·subst hji;simpa using hun
      ·simp only[S4]at hj ⊢;rw[T3 (To hji)]at hj;exact hj) hin (by simpa using hun) (by
      have hl:i<listed.size:=by omega
      simp[Array.getD,hl])
     omega) I1
   exact⟨a2,w2,γ2,hg2,I2,Steps.trans st1 st2⟩
theorem E1{g:G}(h:g.lg=[]):aP g []=g:=by cases g;simp at h;subst h;rfl
theorem K1{d:Nat}{pm:List Nat}:∀(l:List Oper) (i:Nat) {t:T} {df:List ADf} {g:G} {fs:List Foot} {e:Ex} {t':T} {df':List ADf} {g':G},
  (jx C nt pm ops.toList i l).run ih d rd t df g fs=.ok e t' df' g' ->
  e=.norm/\df'=df/\∃(T':Nat->T) (G':Nat->G) (F':Nat->Foot),T' i=t/\G' i=g/\T' (i+l.length)=t'/\G' (i+l.length)=g' /\
   (∀j o,l[j]?=some o->TraAt C ih d rd nt ops false o (T' (i+j)) (T' (i+j+1)) (G' (i+j)) (G' (i+j+1)) (F' (i+j))/\(G' (i+j+1)).lg=(F' (i+j)).wr++(G' (i+j)).lg) /\
   qG pm (fs.reverse++(List.range l.length).map λj=>F' (i+j))=true:=by
 intro l
 induction l with
 | nil =>
  intro i t df g fs e t' df' g' h;simp only[jx,aa]at h
  split at h
  ·rename_i hf;injection h with h1 h2 h3 h4;subst h1;subst h2;subst h3;subst h4;exact⟨rfl,rfl,λ_=>t,λ_=>g,λ_=>⟨ap,[]⟩,rfl,rfl,rfl,rfl,λj o h=>by simp at h,by simpa using hf⟩
  ·cases h
 | cons o rest ihl =>
  intro i t df g fs e t' df' g' h;have go:∀{t1:T} {g1:G} {f:Foot},(jx C nt pm ops.toList (i+1) rest).run ih d rd t1 df g1 (f::fs)=.ok e t' df' g' ->
    TraAt C ih d rd nt ops false o t t1 g g1 f->g1.lg=f.wr++g.lg ->
    e=.norm/\df'=df/\∃(T':Nat->T) (G':Nat->G) (F':Nat->Foot),T' i=t/\G' i=g/\T' (i+(o::rest).length)=t'/\G' (i+(o::rest).length)=g' /\
     (∀j o',(o::rest)[j]?=some o'->TraAt C ih d rd nt ops false o' (T' (i+j)) (T' (i+j+1)) (G' (i+j)) (G' (i+j+1)) (F' (i+j))/\(G' (i+j+1)).lg=(F' (i+j)).wr++(G' (i+j)).lg) /\
     qG pm (fs.reverse++(List.range (o::rest).length).map λj=>F' (i+j))=true:=by
   intro t1 g1 f h htra hlg;obtain⟨h1,h2,T1,G1,F1,a1,a2,a3,a4,a5,a6⟩:=ihl (i+1) h;have ne:∀j,i+1+j≠i:=λj=>by omega
   refine⟨h1,h2,λm=>if m=i then t else T1 m,λm=>if m=i then g else G1 m,λm=>if m=i then f else F1 m,by simp,by simp,?_,?_,?_,?_⟩
   ·simp only[SJ];rw[Sa (by omega),show i+(rest.length+1)=i+1+rest.length by omega];exact a3
   ·simp only[SJ];rw[Sa (by omega),show i+(rest.length+1)=i+1+rest.length by omega];exact a4
   ·intro j o' hj;cases j with
    | zero =>
     simp at hj;subst hj;simp only[TV,if_true];rw[Sa (by omega),Sa (by omega),a1,a2];exact⟨htra,hlg⟩
    | succ j =>
     have:=a5 j o' (by simpa using hj);rw[show i+(j+1)=i+1+j by omega];simp only[Sa (ne j),show i+1+j+1=i+1+(j+1) by omega,Sa (ne (j+1))];rw[show i+1+(j+1)=i+1+j+1 by omega];exact this
   ·rw[SJ,List.range_succ_eq_map,Te,List.map_map];simp only[TV,if_true];rw[<-a6];congr 1;simp only[Si,S7,Vc];congr 2;refine Ti λj _=>?_;simp only[Function.comp];rw[Sa (by omega),show i+(j+1)=i+1+j by omega]
  simp only[jx]at h
  split at h
  ·rename_i out gd hout hgd;dsimp only at h
   split at h
   ·rename_i hq;generalize hr:(dj C o.op).run ih d rd t (aP g [])=r at h;cases r with
    |fail=>cases h
    | val v =>
     refine go (t1:=out.run t v) (g1:=pF g g.lg) (f:=⟨(aN C o.op).run t g,[]⟩) h ⟨out,gd,hout,hgd,.inr ⟨hq,_,hr,by simp,by simp,rfl,by simp[gOf],by simp[gOf],by simp[gOf],λ_=>⟨rfl,by simp[gOf]⟩⟩⟩ (by simp)
    | upd v g1 =>
     refine go (t1:=out.run t v) (g1:=pF g1 (g1.lg++g.lg)) (f:=⟨(aN C o.op).run t g,g1.lg⟩) h ⟨out,gd,hout,hgd,.inr ⟨hq,_,hr,by simp,by simp,rfl,by simp[gOf],by simp[gOf],by simp[gOf],λ_=>⟨rfl,by simp[gOf]⟩⟩⟩ (by simp)
    |dfr a=>cases h
   ·rename_i hq;exact go h ⟨out,gd,hout,hgd,.inl ⟨hq,rfl,rfl,rfl⟩⟩ (by simp)
   ·cases h
  ·cases h
theorem Ks(hC:CfgOk C){op:Op}{d:Nat}{t:T}{g:G}{x:ADf}(h:(dj C op).run ih d rd t g=.dfr x):∃c,op=.defer c:=by
 have iso:∀f args,ah ih d g f args≠.dfr x:=by
  intro f args;unfold ah
  repeat' (first|split|rw[aa])
  all_goals (intro h;cases h)
 have orf:∀r,orF r≠.dfr x:=by intro r h;cases r<;>cases h
 have rnd:∀id args,cp ih d id args g≠.dfr x:=by
  intro id args;unfold cp
  repeat' split
  all_goals (intro h;cases h)
 unfold dj at h
 split at h
 rotate_left
 ·cases h
 rename_i f hcop;unfold cOp at hcop
 split at hcop
 ·split at hcop
  ·split at hcop
   ·rename_i e he;injection hcop with hcop;subst hcop;exact absurd h (hC.noDfr _ _ he _ _ _ _)
   ·rw[aa]at hcop
    split at hcop
    ·injection hcop with hcop;subst hcop;exact absurd h (iso _ _)
    ·injection hcop with hcop;subst hcop;exact absurd h (orf _)
  ·cases hcop
 ·split at hcop
  ·injection hcop with hcop;subst hcop;dsimp only at h;unfold fd at h
   split at h
   ·split at h
    ·rename_i e he;exact absurd h (hC.noDfr _ _ he _ _ _ _)
    ·rw[aa]at h
     split at h
     ·exact absurd h (iso _ _)
     ·exact absurd h (orf _)
   ·exact absurd h (rnd _ _)
   ·cases h
  ·cases hcop
 ·injection hcop with hcop;subst hcop;cases h
 ·exact⟨_,rfl⟩
 ·split at hcop
  ·rename_i s hs;injection hcop with hcop;subst hcop;have:=xx (t:=t) (g:=g) hs;have h:s.run t g=.dfr x:=h;rw[h]at this;exact this.elim
  ·cases hcop
theorem JI(hC:CfgOk C)(hi:IHOk C ih){d:Nat}:∀(l:List Oper) (i:Nat) {t:T} {df:List ADf} {g:G} {e:Ex} {t':T} {df':List ADf} {g':G},
  (ku C nt ops.toList l).run ih d rd t df g=.ok e t' df' g'->(∀o∈l,yD C o.op=true)->g.lg=[]->g'.lg=[]->WF g ->
  e=.norm/\df'=df/\∃(T':Nat->T) (G':Nat->G) (F':Nat->Foot),T' i=t/\G' i=g/\T' (i+l.length)=t'/\G' (i+l.length)=g' /\
   (∀j o,l[j]?=some o->TraAt C ih d rd nt ops true o (T' (i+j)) (T' (i+j+1)) (G' (i+j)) (G' (i+j+1)) (F' (i+j)))/\∀j,(F' j).wr=[]:=by
 intro l
 induction l with
 | nil =>
  intro i t df g e t' df' g' h _ _ _ _;simp only[ku]at h;injection h with h1 h2 h3 h4;subst h1;subst h2;subst h3;subst h4;exact⟨rfl,rfl,λ_=>t,λ_=>g,λ_=>⟨ap,[]⟩,rfl,rfl,rfl,rfl,λj o h=>by simp at h,λ_=>rfl⟩
 | cons o rest ihl =>
  intro i t df g e t' df' g' h hq hlg hlg' hwf;have go:∀{t1:T} {g1:G},(ku C nt ops.toList rest).run ih d rd t1 df g1=.ok e t' df' g'->g1.lg=[]->WF g1 ->
    TraAt C ih d rd nt ops true o t t1 g g1 ⟨ap,[]⟩ ->
    e=.norm/\df'=df/\∃(T':Nat->T) (G':Nat->G) (F':Nat->Foot),T' i=t/\G' i=g/\T' (i+(o::rest).length)=t'/\G' (i+(o::rest).length)=g' /\
     (∀j o',(o::rest)[j]?=some o'->TraAt C ih d rd nt ops true o' (T' (i+j)) (T' (i+j+1)) (G' (i+j)) (G' (i+j+1)) (F' (i+j)))/\∀j,(F' j).wr=[]:=by
   intro t1 g1 h hl1 hw1 htra;obtain⟨h1,h2,T1,G1,F1,a1,a2,a3,a4,a5,a6⟩:=ihl (i+1) h (λo' ho'=>hq o' (Tj _ ho')) hl1 hlg' hw1;have ne:∀j,i+1+j≠i:=λj=>by omega
   refine⟨h1,h2,λm=>if m=i then t else T1 m,λm=>if m=i then g else G1 m,λm=>if m=i then ⟨ap,[]⟩ else F1 m,by simp,by simp,?_,?_,?_,?_⟩
   ·simp only[SJ];rw[Sa (by omega),show i+(rest.length+1)=i+1+rest.length by omega];exact a3
   ·simp only[SJ];rw[Sa (by omega),show i+(rest.length+1)=i+1+rest.length by omega];exact a4
   ·intro j o' hj;cases j with
    | zero =>
     simp at hj;subst hj;simp only[TV,if_true];rw[Sa (by omega),Sa (by omega),a1,a2];exact htra
    | succ j =>
     have:=a5 j o' (by simpa using hj);rw[show i+(j+1)=i+1+j by omega];simp only[Sa (ne j),show i+1+j+1=i+1+(j+1) by omega,Sa (ne (j+1))];rw[show i+1+(j+1)=i+1+j+1 by omega];exact this
   ·intro j;dsimp only
    split
    ·rfl
    ·exact a6 j
  have exec:∀{out:Stg (T->AV->T)} {gd:Stg (T->Option Bool)},uN nt o.dst=some out->ko ops.toList o.guard=some gd->gd.run t=some true ->
    pC out.run ((ku C nt ops.toList rest).run ih d rd) t df g ((dj C o.op).run ih d rd t g)=.ok e t' df' g' ->
    e=.norm/\df'=df/\∃(T':Nat->T) (G':Nat->G) (F':Nat->Foot),T' i=t/\G' i=g/\T' (i+(o::rest).length)=t'/\G' (i+(o::rest).length)=g' /\
     (∀j o',(o::rest)[j]?=some o'->TraAt C ih d rd nt ops true o' (T' (i+j)) (T' (i+j+1)) (G' (i+j)) (G' (i+j+1)) (F' (i+j)))/\∀j,(F' j).wr=[]:=by
   intro out gd hout hgd hgq h;have hm:=mM (op:=o.op) (d:=d) (rd:=rd) (t:=t) hC.mon hi.mon hwf;generalize hr:(dj C o.op).run ih d rd t g=r at h hm;have hr':(dj C o.op).run ih d rd t (aP g [])=r:=by rw[E1 hlg];exact hr
   cases r with
   |fail=>cases h
   | val v =>
    exact go (t1:=out.run t v) (g1:=g) h hlg hwf ⟨out,gd,hout,hgd,.inr ⟨hgq,_,hr',by simp,by simp,rfl,by simp[gOf],by simp[gOf],by simp[gOf],λh=>by cases h⟩⟩
   | upd v g1 =>
    have w1:WF g1:=hm.wf hwf;have m2:=yW hC.mon hi.mon h w1;have hl1:g1.lg=[]:=by obtain⟨n,a,_,_⟩:=m2.new;rw[hlg']at a;exact (List.append_eq_nil_iff.1 a.symm).2
    exact go (t1:=out.run t v) (g1:=g1) h hl1 w1 ⟨out,gd,hout,hgd,.inr ⟨hgq,_,hr',by simp,by simp,rfl,by simp[gOf],by simp[gOf,hl1],by simp[gOf],λh=>by cases h⟩⟩
   | dfr a =>
    obtain⟨c,hc⟩:=Ks hC hr;have:=hq o Ts;rw[hc]at this;simp[yD]at this
  simp only[ku]at h
  split at h
  ·rename_i out hout
   split at h
   ·rename_i hgd;exact exec hout (gd:=⟨λ_=>some true⟩) (by rw[hgd];rfl) rfl h
   ·rename_i gd0 hgd
    split at h
    ·rename_i gd hq';rw[<-hgd]at hq';dsimp only at h
     split at h
     ·rename_i hqq;exact exec hout hq' hqq h
     ·rename_i hqq;exact go h hlg hwf ⟨out,gd,hout,hq',.inl ⟨hqq,rfl,rfl,rfl⟩⟩
     ·cases h
    ·cases h
  ·cases h
theorem H7{K V:Type}{wr:Nat->K->Prop}{val:Nat->K->V}{base:K->V}{n:Nat}{k:K}:ov (λ_=>False) wr val base n k=base k:=by rw[Ad (m:=0) (S2 _) (λ_ _ _ h=>h.elim)];rfl
theorem Dx(R:Reg C ih bd rd nt ops q T' G' F' hg0)(hmix:C.P.follows .mixedOrders=true)(hedge:∀i o,ops[i]?=some o->∀e∈o.after.toList,Region.binds .any e=true->e.on<i)
  {w:World} {γ:Gm} {nx:Nat} {a:Act} {id:Nat} (hr:Rel C A bd w γ hg0 nx) (ht:TR w γ A bd nt (T' 0) a.tmps) (hcalm:uW b.kind cs) :
  ∃a' w' γ' hg',Rel C A bd w' γ' hg' (Nat.max nx (G' ops.size).nx)/\Stp w γ w' γ'/\TR w' γ' A bd nt (T' ops.size) a'.tmps/\a'.defers=a.defers /\
   (∀id,((∃j,j<ops.size/\id∈(F' j).wr)/\hg' id=(G' ops.size).h.get id)\/((∀j,j<ops.size->id ∉ (F' j).wr)/\hg' id=hg0 id)) /\
   Steps C.P (lone (b.atR a (.code (.region id ops true)::k)) cs w) (lone (b.atR a' k) cs w'):=by
 let w1:World:={ w with drawn:=w.drawn+1 }
 have s1:Stp w γ w1 γ:=Fd (R5 _) rfl rfl rfl λ_ _=>rfl;have r1:Rel C A bd w1 γ hg0 nx:=hr.same s1 λ_ _=>rfl;have I0:Inv C A bd nt ops T' G' F' hg0 (Nat.max nx (G' ops.size).nx) w γ a.defers (λ_=>False) a w1 γ hg0:=by refine⟨r1.up (TJ _ _),s1,ht.1,λs=>?_,λid=>by rw[H7],rfl⟩;rw[H7];exact (ht.2 s).step s1
 have hcnt:cnt (λj=>!(Array.replicate ops.size false).getD j true) ops.size<=ops.size:=by
  generalize (λj=>!(Array.replicate ops.size false).getD j true)=p;generalize ops.size=n
  induction n with
  |zero=>exact R5 _
  |succ n ih'=>simp only[cnt];split<;>omega
 obtain⟨a',w',γ',hg',I,st⟩:=Nz (b:=b) (k:=k) (cs:=cs) R (Ud _ _) hedge hcalm ops.size (w.tape w.drawn (.order b.fn id)) (Array.replicate ops.size false) (λ_=>False) (by simp)
  (λj=>by simp[S4,Array.getElem?_replicate];split<;>simp) (λj o _ h=>h.elim) hcnt I0
 have hend:∀{K V:Type} {wr:Nat->K->Prop} {val:Nat->K->V} {base:K->V} {k:K},(∀j,j<ops.size->¬wr j k->val (j+1) k=val j k) ->
   ((∃j,j<ops.size/\wr j k)/\ov (λj=>j<ops.size) wr val base ops.size k=val ops.size k)\/((∀j,j<ops.size->¬wr j k)/\ov (λj=>j<ops.size) wr val base ops.size k=base k/\val ops.size k=val 0 k) :=
  λkeep=>Mv (R5 _) keep λj _ _=>Iff.rfl
 refine⟨a',w',γ',hg',I.rel,I.stp,⟨I.size,λs=>?_⟩,I.dfr,λid'=>?_,?_⟩
 ·have:=I.slots s;rcases hend (wr:=λi s=>jA ops i=some s) (val:=λi s=>(T' i).get AV.undef s) (base:=λs=>(T' 0).get AV.undef s) (k:=s) (λj hj hw=>R.keepT hj hw) with⟨_,h⟩|⟨_,h,h2⟩
  ·rw[h]at this;exact this
  ·rw[h,<-h2]at this;exact this
 ·rw[I.objs id'];rcases hend (wr:=λi id=>id∈(F' i).wr) (val:=λi id=>(G' i).h.get id) (base:=hg0) (k:=id') (λj hj hw=>(R.at hj).2.1 id' hw) with⟨h1,h⟩|⟨h1,h,_⟩
  ·exact .inl ⟨h1,h⟩
  ·exact .inr ⟨h1,h⟩
 ·refine .head stepR_region_draw ?_;have hsched:Region.schedule (C.P.follows .mixedOrders) ops (w.tape w.drawn (.order b.fn id))=Region.linearise.go .any ops ops.size (w.tape w.drawn (.order b.fn id)) (Array.replicate ops.size false) []:=by
   simp only[Region.schedule,hmix,U2,if_true]
   rfl
  rw[hsched];exact Steps.trans st (.one stepR_region_end)
end
end Hx
end
section
namespace Hx
open Go
section
variable {C:Cfg}{A:Nat->Nat->Prop}{bd:Nat}{w w':World}{γ γ':Gm}{hg:Nat->AObj}{nx:Nat}
variable {t:T}{g:G}{ih:IH}
def RK(C:Cfg)(A:Nat->Nat->Prop)(bd nt:Nat)(b:Frame)(k:List Item)(cs:List Frame)(m:Machine)(w:World)(γ:Gm)(hg:Nat->AObj)(nx:Nat)(g:G)(e:Ex)(t':T)(df':List ADf)(g':G):Prop :=
 ∃a' w' γ' hg',Fin C A bd w γ hg nx g w' γ' hg' g'/\TR w' γ' A bd nt t' a'.tmps/\DR w' γ' A bd df' a'.defers/\Arr C.P m b k cs e a' w'
theorem Gx(hC:CfgOk C)(hi:IHOk C ih){nt:Nat}{rd:Option Nat}{ops:Array Oper}{draw:Bool}{rid:Nat}{df:List ADf}{e:Ex}{t':T}{df':List ADf}{g':G}
  (h:(gN C nt ops.toList draw).run ih (bd+1) rd t df g=.ok e t' df' g'):ym C bd nt rd (.region rid ops draw) t df g e t' df' g':=by
 intro A w γ hg nx b a k cs hr hx hwf hf ht hdf hrd hcalm;unfold gN at h;rw[aa]at h
 split at h
 rotate_left
 ·rename_i hdraw;have hdraw:draw=false:=by simpa using hdraw
  subst hdraw;obtain⟨rfl,a',w',γ',hg',f,tr,dr,st⟩:=Kt (b:=b) (cs:=cs) (k:=k) hC hi ops.toList 0 (by simp) h hwf hr hx hf ht hdf hrd hcalm;refine⟨a',w',γ',hg',f,tr,dr,.head stepR_region ?_⟩;rw[List.range_eq_range'];simpa using st
 rename_i hdraw;subst hdraw;rw[aa]at h
 split at h
 rotate_left
 ·cases h
 rename_i hord;have hord:pM 0 ops.toList=true/\nq (br ops.toList []) 0 ops.toList=true /\
   lq (λi x j y=>((br ops.toList []).getD j 0).testBit i || kV ops.toList x y) 0 ops.toList=true:=by
  simp only[CJ,R7]at hord;exact⟨hord.1.1,hord.1.2,hord.2⟩
 obtain⟨ho1,ho2,ho3⟩:=hord;have hedge:∀i o,ops[i]?=some o->∀e∈o.after.toList,Region.binds .any e=true->e.on<i:=by intro i o ho e he hb;have:=AI ho1 i o (by simpa using ho) e he hb;omega
 have hguard:∀i o j b,ops[i]?=some o->o.guard=some (j,b)->((br ops.toList []).getD i 0).testBit j=true:=by intro i o j b ho hg';have:=zC ho2 i o (by simpa using ho) j b hg';simpa using this
 have hslot:∀i j oi oj,i<j->ops[i]?=some oi->ops[j]?=some oj->((br ops.toList []).getD j 0).testBit i=true\/kV ops.toList oi oj=true:=by intro i j oi oj hij hoi hoj;have:=u7 ho3 i j oi oj hij (by simpa using hoi) (by simpa using hoj);simpa using this
 have hk0:∀id,(γ id).kind=0->hg id=.none:=λid h=>(hr.none_iff id).1 h;rw[aa]at h
 split at h
 ·
  rename_i hq;dsimp only at h;generalize hc:(ku C nt ops.toList ops.toList).run ih (bd+1) rd t df (aP g [])=cr at h;cases cr with
  |fail=>cases h
  | ok e1 t1 df1 g1 =>
   simp only[nG]at h;cases hlg:g1.lg with
   |cons x xs=>rw[hlg]at h;cases h
   | nil =>
    rw[hlg]at h;dsimp only at h;rw[aa]at h
    split at h
    rotate_left
    ·cases h
    rename_i hnx;have hnx:=aG hnx;injection h with h1 h2 h3 h4;subst h1;subst h2;subst h3;subst h4;obtain⟨rfl,rfl,T',G',F',a1,a2,a3,a4,a5,a6⟩:=JI hC hi ops.toList 0 hc (λo ho=>Sy.1 hq o ho) (by simp) hlg hwf.setLog;simp only[SU,Array.length_toList]at a3 a4 a5;have R:Reg C ih bd rd nt ops true T' G' F' hg:=by
     refine⟨hC,hi,λi o ho=>a5 i o (by simpa using ho),by rw[a2];exact hwf.setLog,by rw[a2];simpa using hx,λid h1 h2=>?_,λi j _ _=>.inr ?_,λi j j' _ _ _ _ _ _ hm=>?_,hslot,hguard,λ_ i _=>a6 i⟩
     ·rw[a2]at h1;rw[a4,hnx]at h2;exact hk0 id (hf id (by simpa using h1) h2)
     ·simp[cz,lG,jp,a6]
     ·rw[a6 j]at hm;simp[meets]at hm
    obtain⟨a',w',γ',hg',hr',hst,htr,hdef,hobj,st⟩:=Dx (b:=b) (k:=k) (cs:=cs) (id:=rid) R hC.mixed hedge hr (by rw[a1];exact ht) hcalm;have hsame:∀id,hg' id=hg id:=λid=>by
     rcases hobj id with⟨⟨j,_,h⟩,_⟩|⟨_,h⟩
     ·rw[a6 j]at h;exact absurd h Sk
     ·exact h
    refine⟨a',w',γ',hg',⟨?_,hst,⟨[],rfl,λ_ h=>absurd h Sk,λid _=>hsame id⟩⟩,by rw[<-a3];exact htr,by rw[hdef];exact hdf.step hst,st⟩;rw[a4,hnx]at hr';exact hr'
 ·dsimp only at h;obtain⟨rfl,rfl,T',G',F',a1,a2,a3,a4,a5,a6⟩:=K1 ops.toList 0 h;simp only[SU,Array.length_toList,Sl,Sf]at a3 a4 a5 a6;obtain⟨b1,b2⟩:=G4 a6;have hF:∀j,j<ops.size->((List.range ops.size).map F')[j]?=some (F' j):=λj hj=>by simp[UU hj]
  have R:Reg C ih bd rd nt ops false T' G' F' hg:=by
   refine⟨hC,hi,λi o ho=>(a5 i o (by simpa using ho)).1,by rw[a2];exact hwf,by rw[a2];exact hx,λid h1 h2=>?_,λi j hij hj=>?_,λi j j' h1 h2 h3 h4 h5 h6 h7 h8=>?_,hslot,hguard,λh=>by cases h⟩
   ·rw[a2]at h1;rw[a4]at h2;exact hk0 id (hf id h1 h2)
   ·have:=u7 b1 i j _ _ hij (hF i (by omega)) (hF j hj);simpa using this
   ·exact CU b2 i j j' _ _ _ h1 h2 (hF i (by omega)) (hF j (by omega)) (hF j' h3) h4 (by simpa using h5) (by simpa using h6) h7 h8
  obtain⟨a',w',γ',hg',hr',hst,htr,hdef,hobj,st⟩:=Dx (b:=b) (k:=k) (cs:=cs) (id:=rid) R hC.mixed hedge hr (by rw[a1];exact ht) hcalm;have hlog:∀n,n<=ops.size->∃new,(G' n).lg=new++g.lg/\∀id,id∈new↔∃j,j<n/\id∈(F' j).wr:=by
   intro n
   induction n with
   |zero=>intro _;exact⟨[],by rw[a2];rfl,λid=>⟨λh=>absurd h Sk,λ⟨j,h,_⟩=>absurd h (Nat.not_lt_zero j)⟩⟩
   | succ n ihn =>
    intro hn;obtain⟨new,e1,e2⟩:=ihn (by omega);have hn':n<ops.size:=by omega
    have:=(a5 n ops[n] (by rw[U_];exact Sv hn')).2;refine⟨(F' n).wr++new,by rw[this,e1,S7],λid=>?_⟩;rw[SG,e2];constructor
    ·rintro (h|⟨j,h1,h2⟩)
     ·exact⟨n,by omega,h⟩
     ·exact⟨j,by omega,h2⟩
    ·rintro⟨j,h1,h2⟩
     by_cases hj:j=n
     ·subst hj;exact .inl h2
     ·exact .inr ⟨j,by omega,h2⟩
  obtain⟨new,e1,e2⟩:=hlog ops.size (R5 _);refine⟨a',w',γ',hg',⟨by rw[a4]at hr';exact hr',hst,⟨new,by rw[<-a4];exact e1,λid hid=>?_,λid hid=>?_⟩⟩,by rw[<-a3];exact htr,by rw[hdef];exact hdf.step hst,st⟩
  ·rcases hobj id with⟨_,h⟩|⟨h1,_⟩
   ·rw[h,a4]
   ·obtain⟨j,h2,h3⟩:=(e2 id).1 hid;exact absurd h3 (h1 j h2)
  ·rcases hobj id with⟨h1,_⟩|⟨_,h⟩
   ·exact absurd ((e2 id).2 h1) hid
   ·exact h
theorem tv{P:Program}{b:Frame}{a:Act}{k:List Item}{cs:List Frame}{c:Code} :
  step P (lone (b.atR a (.code (.scope c)::k)) cs w)=.next (lone (b.atR a (.code c::.inScope c::k)) cs w) :=
 step_lone_go (by simp[stepG,stepG.exec,Frame.atR])
theorem A2{P:Program}{b:Frame}{a:Act}{k:List Item}{cs:List Frame}{c:Code} :
  step P (lone (b.atR a (.inScope c::k)) cs w)=.next (lone (b.atR a k) cs w) :=
 step_lone_go (by simp[stepG,stepG.exec,Frame.atR])
theorem tw{P:Program}{m m1 X:Machine}(h:Steps P m X)(hne:m≠X)(hs:step P m=.next m1):Steps P m1 X:=by
 obtain⟨n,hn⟩:=h;cases n with
 |zero=>simp[runN]at hn;exact absurd hn hne
 |succ n=>exact⟨n,by simpa [runN,hs] using hn⟩
theorem GP{b b':Frame}{a a':Act}{k k':List Item}{cs cs':List Frame}{w w':World}(h:lone (b.atR a k) cs w=lone (b'.atR a' k') cs' w'):k=k':=by
 have h1:(lone (b.atR a k) cs w).gs=(lone (b'.atR a' k') cs' w').gs:=by rw[h]
 simp only[lone,Array.mk.injEq,List.cons.injEq,and_true]at h1;have h2:=congrArg (λg:Goroutine=>g.frame.todo) h1;simpa [Frame.atR] using h2
theorem um(hC:CfgOk C)(hi:IHOk C ih){nt:Nat}{rd:Option Nat}{fo:Operand}{s:Stg (T->AV)}{ps:Array Tmp}{assign body:Code}{df:List ADf}{dfr:Nat}{e:Ex}{t':T}{df':List ADf}{g':G}
  (hs:aT C fo=some s) (h:cO C ih nt (bd+1) rd (s.run t) ps.toList assign body t df dfr g=.ok e t' df' g')
  (hwf:WF g) {b:Frame} {a:Act} {k:List Item} {cs:List Frame} {mark:List Deferred} {blk:Nat}
  (hr:Rel C A bd w γ hg nx) (hx:Ext g.h hg) (hf:Free γ g g') (ht:TR w γ A bd nt t a.tmps) (hdf:DR w γ A bd df (mark++a.defers)) (hrd:RdOk γ rd b) (hcalm:uW b.kind cs)
  (hdfr:(γ dfr).kind=4/\(γ dfr).blk=blk) {w00:World}
  (henter:(Instr.enterLoop b.fn a.tmps ps assign body b.roundOf).run C.P w00=.ok (w.heap.size,mark) (World.add w (.loop { state:=.ready,pending:=none,fn:=b.fn,tmps:=a.tmps,params:=ps,assign,body,defers:=blk }))) :
  RK C A bd nt b k cs (lone (b.atR a (.code (.rangeFunc fo ps assign body)::k)) cs w00) w γ hg nx g e t' df' g':=by
 unfold cO at h;have hfv:=aD hs ht hr;generalize hfo:a.eval fo=vf at hfv;generalize s.run t=y at h hfv;cases hfv with
 | clo _ f xs ys vs1 us1 hl hl2 h1 h2 =>
  dsimp only at h;rw[aa]at h
  split at h
  ·cases h
  split at h
  rotate_left
  ·cases h
  rename_i rv0 g2 hcall
  let L:Loop:={ state:=.ready,pending:=none,fn:=b.fn,tmps:=a.tmps,params:=ps,assign,body,defers:=blk }
  let w1:=World.add w (.loop L)
  let gh:Gh:=⟨3,0,0,0,w.heap.size,0,0,true⟩
  have m1:Mon g (g.new (.loop nt t ps.toList assign body dfr .ready none)):=Mon.mk';have wf1:=m1.wf hwf;have m2:=hi.mon.call _ _ _ _ _ _ hcall wf1;have wf2:=m2.wf wf1;have m3:=wk hi.mon h wf2;have hfree0:(γ g.nx).kind=0:=hf g.nx (R5 _) (Sz m1.nx (Sz m2.nx m3.nx));have hdne:dfr≠g.nx:=by rintro rfl;rw[hdfr.1]at hfree0;cases hfree0
  obtain⟨r1,s1⟩:=hr.add (id:=g.nx) (gh:=gh) (o:=.loop L) (ao:=.loop nt t ps.toList assign body dfr .ready none) (nx':=Nat.max nx (g.nx+1)) hfree0 rfl (TJ _ _) (SB (Vl _) (Ud _ _)) (by
   have s0:=CY (w:=w) (o:=.loop L) (gh:=gh) hfree0 rfl;refine⟨by simp[gh],by simp[gh],L,by rw[lp];simp[gh],rfl,rfl,rfl,rfl,rfl,ht.1,λi=>(ht.2 i).step s0,?_,?_⟩
   ·rw[cE _ _ hdne];exact hdfr.1
   ·rw[cE _ _ hdne];exact hdfr.2.symm)
  have f1:Fin C A bd w γ hg nx g w1 (upd γ g.nx gh) _ (g.new (.loop nt t ps.toList assign body dfr .ready none)):=RT r1 s1;have hx1:=f1.ext m1 hx;have hf1:=f1.freed hr m1 hf;obtain⟨hent,hrun⟩:=hi.call _ _ _ _ _ _ hcall;have hyl:RV w1 (upd γ g.nx gh) A bd (.yld g.nx) (.func (.yield w.heap.size) #[] #[]):=.yld _ _ _ (by simp[gh]) (by simp[gh]);have hargs:RVs w1 (upd γ g.nx gh) A bd (xs++(.yld g.nx::ys)) (vs1.toList++(.func (.yield w.heap.size) #[] #[]::us1.toList)):=by
   refine ((R0 hl h1).step s1).append ?_;have hu:=(R0 hl2 h2).step s1;refine⟨by simp[hu.1],λi x v hx' hv=>?_⟩;cases i with
   |zero=>simp at hx' hv;subst hx';subst hv;exact hyl
   |succ i=>exact hu.2 i x v (by simpa using hx') (by simpa using hv)
  let a1:Act:={ a with defers:=mark++a.defers }
  let fr1:=b.atR a1 (.inRangeFunc w.heap.size::k)
  obtain⟨u,w2,γ2,hg2,f2,_,fr,st,q1,q2,q3,q4,fn,q5,q6⟩:=hrun A w1 _ _ _ _ f1.rel hx1 wf1 (hf1.le m3.nx) hargs .normal (fr1::cs) (.inl rfl);have f12:=f1.trans f2 m1 m2;have hx2:=f12.ext (m1.trans m2) hx;have harr:(vs1.toList++(.func (.yield w.heap.size) #[] #[]::us1.toList)).toArray=(vs1++#[.func (.yield w.heap.size) #[] #[]])++us1:=by apply VF;simp
  rw[harr]at st;have hstart:step C.P (lone (b.atR a (.code (.rangeFunc fo ps assign body)::k)) cs w00)=.next (lone (Frame.enter C.P f ((vs1++#[.func (.yield w.heap.size) #[] #[]])++us1) .normal) (fr1::cs) w1):=by
   refine stepR_rangeFunc (l:=w.heap.size) (mark:=mark) (w₁:=w1) (w₁':=w1) (d:={ target:=.fn (.func f) us1,args:=vs1++#[.func (.yield w.heap.size) #[] #[]] }) henter ?_ ?_
   ·simp only[resolve];rw[hfo];simp[Deferred.ofValue,Act.eval]
   ·exact hent _ _
  have hfin:fr1.finish u=b.atR a1 (.endRangeFunc w.heap.size::k):=finish_atR_inRangeFunc _ _;have hback:Steps C.P (lone (b.atR a (.code (.rangeFunc fo ps assign body)::k)) cs w00) (lone (b.atR a1 (.endRangeFunc w.heap.size::k)) cs w2):=by refine .head hstart (Steps.trans st (.one ?_));rw[<-hfin];exact step_leave_returned ⟨q1,q2,q3,fn,by rw[q4];exact q5,q6⟩
  unfold eL at h
  split at h
  rotate_left
  ·cases h
  rename_i nt3 t3 ps3 assign3 body3 dfr3 st3 pend3 hget;have hget:g2.h.get g.nx=.loop nt3 t3 ps3 assign3 body3 dfr3 st3 pend3:=by simpa using hget
  have hid:hg2 g.nx=.loop nt3 t3 ps3 assign3 body3 dfr3 st3 pend3:=by rw[hx2 g.nx (by rw[hget];simp),hget]
  have hob:=f12.rel.obj g.nx;rw[hid]at hob;obtain⟨k1,k2,L2,k3,k4,k5,k6,k7,k8,k9,k10,k11,k12⟩:=hob;have hblk:(γ2 g.nx).blk=w.heap.size:=by have:=f2.stp.blk_eq (id:=g.nx) (by simp[gh]) (by simp[gh]);rw[this];simp[gh]
  obtain⟨r3,s3⟩:=f12.rel.setLoop (st':=.exhausted) (pend':=pend3) hid k3;rw[hblk]at k3 r3 s3;have f3:Fin C A bd w2 γ2 hg2 (Nat.max nx g2.nx) g2 _ γ2 _ (g2.put g.nx (.loop nt3 t3 ps3 assign3 body3 dfr3 .exhausted pend3)):=RU r3 s3;have m4:Mon g2 (g2.put g.nx (.loop nt3 t3 ps3 assign3 body3 dfr3 .exhausted pend3)):=Mon.put wf2 (by rw[hget];simp);have f123:=f12.trans f3 (m1.trans m2) m4;have hfr1:(γ2 g.nx).kind≠0:=by rw[k1];decide
  have hend:st3≠.busy->(Instr.endLoop w.heap.size).run C.P w2=.ok pend3 (World.setBlk w2 w.heap.size (.loop { L2 with state:=.exhausted,pending:=pend3 })):=by
   intro hne;unfold Instr.endLoop;have hb:(L2.state == LoopState.busy)=false:=by rw[k4];cases st3<;>first|rfl|exact absurd rfl hne
   simp only[Sn,lH k3,Sc,hb,TC,if_false,SV,tp k3];subst k5
   rfl
  have hst:Stp w γ (World.setBlk w2 w.heap.size (.loop { L2 with state:=.exhausted,pending:=pend3 })) γ2:=f123.stp
  split at h
  ·cases h
  ·rename_i hnb;have hend:=hend (by rintro rfl;exact hnb rfl);have hback2:=Steps.trans hback (.one (stepR_endRangeFunc (P:=C.P) (b:=b) (a:=a1) (k:=k) (cs:=cs) hend))
   split at h
   ·injection h with e1 e2 e3 e4;subst e1;subst e2;subst e3;subst e4;exact⟨a1,_,γ2,_,f123,ht.step hst,hdf.step hst,by simpa [Arr] using hback2⟩
   ·rename_i c;have m5:=hi.mon.code _ _ _ _ _ _ _ _ _ _ _ h (m4.wf wf2);obtain⟨a',w',γ',hg',f4,tr,dr,ar⟩:=hi.code _ _ _ _ _ _ _ _ _ _ _ h A _ _ _ _ b a1 k cs f123.rel (f123.ext ((m1.trans m2).trans m4) hx) (m4.wf wf2) (f123.freed hr ((m1.trans m2).trans m4) hf)
     (ht.step hst) (hdf.step hst) (hrd.step hst) hcalm
    exact⟨a',w',γ',hg',f123.trans f4 ((m1.trans m2).trans m4) m5,tr,dr,ar.of_steps (by simpa using hback2)⟩
 |_=>cases h
theorem zU{P:Program}{o:Obj}:(newObj o).run P w=.ok w.heap.size (World.add w o):=by simp[newObj,Sem.run,World.add]
theorem AJ{P:Program}{fn:FuncId}{tmps:Array Value}{ps:Array Tmp}{assign body:Code} :
  (Instr.enterLoop fn tmps ps assign body none).run P w=.ok (w.heap.size+1,[{ target:=.collected w.heap.size,args:=#[] }])
   (World.add (World.add w (.deferred (some []))) (.loop { state:=.ready,pending:=none,fn,tmps,params:=ps,assign,body,defers:=w.heap.size })):=by
 unfold Instr.enterLoop;simp only[Sn,zU,Sc,SV,add_size]
theorem B8{P:Program}{fn:FuncId}{tmps:Array Value}{ps:Array Tmp}{assign body:Code}{l:Nat}{L:Loop}(h:w.heap[l]?=some (.loop L)) :
  (Instr.enterLoop fn tmps ps assign body (some l)).run P w=.ok (w.heap.size,[])
   (World.add w (.loop { state:=.ready,pending:=none,fn,tmps,params:=ps,assign,body,defers:=L.defers })):=by
 unfold Instr.enterLoop;simp only[Sn,lH h,zU,Sc,SV]
theorem Gu(hC:CfgOk C)(hi:IHOk C ih){nt:Nat}{rd:Option Nat}{fo:Operand}{s:Stg (T->AV)}{ps:Array Tmp}{assign body:Code}{df:List ADf}{e:Ex}{t':T}{df':List ADf}{g':G}
  (hs:aT C fo=some s) (h:nH C nt s.run ps.toList assign body ih (bd+1) rd t df g=.ok e t' df' g'):ym C bd nt rd (.rangeFunc fo ps assign body) t df g e t' df' g':=by
 intro A w γ hg nx b a k cs hr hx hwf hf ht hdf hrd hcalm;unfold nH at h;cases rd with
 | some l =>
  dsimp only at h
  split at h
  rotate_left
  ·cases h
  rename_i nt0 t0 ps0 as0 bo0 dfr st0 pe0 hget;have hget:g.h.get l=.loop nt0 t0 ps0 as0 bo0 dfr st0 pe0:=by simpa using hget
  have hid:hg l=.loop nt0 t0 ps0 as0 bo0 dfr st0 pe0:=by rw[hx l (by rw[hget];simp),hget]
  have hob:=hr.obj l;rw[hid]at hob;obtain⟨k1,k2,L,k3,k4,k5,k6,k7,k8,k9,k10,k11,k12⟩:=hob;have henter:=B8 (P:=C.P) (fn:=b.fn) (tmps:=a.tmps) (ps:=ps) (assign:=assign) (body:=body) k3;rw[k12,<-hrd.2]at henter;exact um (mark:=[]) hC hi hs h hwf hr hx hf ht hdf hrd hcalm ⟨k11,rfl⟩ henter
 | none =>
  dsimp only at h
  let gh:Gh:=⟨4,0,0,0,w.heap.size,0,0,true⟩
  have m1:Mon g (g.new (.dfr true)):=Mon.mk';have wf1:=m1.wf hwf;have m2:=pz hi.mon h wf1;have hfree0:(γ g.nx).kind=0:=hf g.nx (R5 _) (Sz m1.nx m2.nx);obtain⟨r1,s1⟩:=hr.add (id:=g.nx) (gh:=gh) (o:=.deferred (some [])) (ao:=.dfr true) (nx':=Nat.max nx (g.nx+1)) hfree0 rfl (TJ _ _) (SB (Vl _) (Ud _ _)) (by
   refine⟨by simp[gh],by simp[gh],by rw[lp];simp[gh]⟩)
  have f1:Fin C A bd w γ hg nx g _ (upd γ g.nx gh) _ (g.new (.dfr true)):=RT r1 s1;have henter:=AJ (P:=C.P) (w:=w) (fn:=b.fn) (tmps:=a.tmps) (ps:=ps) (assign:=assign) (body:=body);have hro:b.roundOf=none:=hrd;rw[<-hro]at henter;obtain⟨a',w',γ',hg',f2,tr,dr,ar⟩:=um (nt:=nt) (rd:=none) (b:=b) (a:=a) (k:=k) (cs:=cs) (mark:=[{ target:=.collected w.heap.size,args:=#[] }]) (blk:=w.heap.size) (w00:=w) hC hi hs h wf1 f1.rel (f1.ext m1 hx) (f1.freed hr m1 hf)
   (ht.step s1) ⟨⟨by simp[gh],by simp[gh]⟩,hdf.step s1⟩ hro hcalm ⟨by simp[gh],by simp[gh]⟩ (by simpa using henter)
  exact⟨a',w',γ',hg',f1.trans f2 m1 m2,tr,dr,ar⟩
theorem A_(hC:CfgOk C)(hi:IHOk C ih){nt:Nat}{rd:Option Nat}:∀(c:Code) {t:T} {df:List ADf} {g:G} {e:Ex} {t':T} {df':List ADf} {g':G},
  (aU C nt c).run ih (bd+1) rd t df g=.ok e t' df' g'->ym C bd nt rd c t df g e t' df' g':=by
 intro c
 induction c with
 | skip =>
  intro t df g e t' df' g' h A w γ hg nx b a k cs hr hx hwf hf ht hdf hrd hcalm;simp only[aU]at h;injection h with h1 h2 h3 h4;subst h1;subst h2;subst h3;subst h4;exact⟨a,w,γ,hg,Fin.refl hr,ht,hdf,.one stepR_skip⟩
 | label l =>
  intro t df g e t' df' g' h A w γ hg nx b a k cs hr hx hwf hf ht hdf hrd hcalm;simp only[aU]at h;injection h with h1 h2 h3 h4;subst h1;subst h2;subst h3;subst h4;exact⟨a,w,γ,hg,Fin.refl hr,ht,hdf,.one stepR_label⟩
 |region id ops draw=>intro t df g e t' df' g' h;exact Gx hC hi h
 | seq x y ihx ihy =>
  intro t df g e t' df' g' h A w γ hg nx b a k cs hr hx hwf hf ht hdf hrd hcalm;simp only[aU]at h;generalize hc:(aU C nt x).run ih (bd+1) rd t df g=r at h;cases r with
  |fail=>cases h
  | ok e1 t1 df1 g1 =>
   have m1:=mD hC.mon hi.mon _ hc hwf;have wf1:=m1.wf hwf;cases e1 with
   | norm =>
    have h:(aU C nt y).run ih (bd+1) rd t1 df1 g1=.ok e t' df' g':=h;have m2:=mD hC.mon hi.mon _ h wf1;obtain⟨a1,w1,γ1,hg1,f1,tr1,dr1,ar1⟩:=ihx hc A w γ hg nx b a (.code y::k) cs hr hx hwf (hf.le m2.nx) ht hdf hrd hcalm;obtain⟨a2,w2,γ2,hg2,f2,tr2,dr2,ar2⟩:=ihy h A w1 γ1 hg1 _ b a1 k cs f1.rel (f1.ext m1 hx) wf1 (f1.freed hr m1 hf) tr1 dr1 (hrd.step f1.stp) hcalm;exact⟨a2,w2,γ2,hg2,f1.trans f2 m1 m2,tr2,dr2,ar2.of_steps (.head stepR_seq ar1)⟩
   | exit j =>
    have h:CR.ok (.exit j) t1 df1 g1=.ok e t' df' g':=h;injection h with h1 h2 h3 h4;subst h1;subst h2;subst h3;subst h4;obtain⟨a1,w1,γ1,hg1,f1,tr1,dr1,k₁,hk,ar1⟩:=ihx hc A w γ hg nx b a (.code y::k) cs hr hx hwf hf ht hdf hrd hcalm;exact⟨a1,w1,γ1,hg1,f1,tr1,dr1,k₁,by rw[hk];rfl,.head stepR_seq ar1⟩
   | ret =>
    have h:CR.ok .ret t1 df1 g1=.ok e t' df' g':=h;injection h with h1 h2 h3 h4;subst h1;subst h2;subst h3;subst h4;obtain⟨a1,w1,γ1,hg1,f1,tr1,dr1,k₁,ar1⟩:=ihx hc A w γ hg nx b a (.code y::k) cs hr hx hwf hf ht hdf hrd hcalm;exact⟨a1,w1,γ1,hg1,f1,tr1,dr1,k₁,.head stepR_seq ar1⟩
 | cond c x y ihx ihy =>
  intro t df g e t' df' g' h A w γ hg nx b a k cs hr hx hwf hf ht hdf hrd hcalm;simp only[aU]at h
  split at h
  rotate_left
  ·cases h
  rename_i s hs;dsimp only at h;have hv:=aD hs ht hr;generalize hcv:a.eval c=vc at hv;generalize s.run t=cv at h hv;cases hv with
  | bool _ bv =>
   dsimp only at h;cases bv with
   | true =>
    obtain⟨a1,w1,γ1,hg1,f1,tr1,dr1,ar1⟩:=ihx h A w γ hg nx b a k cs hr hx hwf hf ht hdf hrd hcalm;exact⟨a1,w1,γ1,hg1,f1,tr1,dr1,ar1.of_steps (.one (by simpa using stepR_cond (P:=C.P) (b:=b) (a:=a) (k:=k) (cs:=cs) (w:=w) (x:=x) (y:=y) hcv))⟩
   | false =>
    obtain⟨a1,w1,γ1,hg1,f1,tr1,dr1,ar1⟩:=ihy h A w γ hg nx b a k cs hr hx hwf hf ht hdf hrd hcalm;exact⟨a1,w1,γ1,hg1,f1,tr1,dr1,ar1.of_steps (.one (by simpa using stepR_cond (P:=C.P) (b:=b) (a:=a) (k:=k) (cs:=cs) (w:=w) (x:=x) (y:=y) hcv))⟩
  |_=>cases h
 | block id body ihb =>
  intro t df g e t' df' g' h A w γ hg nx b a k cs hr hx hwf hf ht hdf hrd hcalm;simp only[aU]at h;generalize hc:(aU C nt body).run ih (bd+1) rd t df g=r at h;cases r with
  |fail=>cases h
  | ok e1 t1 df1 g1 =>
   cases e1 with
   | norm =>
    have h:CR.ok .norm t1 df1 g1=.ok e t' df' g':=h;injection h with h1 h2 h3 h4;subst h1;subst h2;subst h3;subst h4;obtain⟨a1,w1,γ1,hg1,f1,tr1,dr1,ar1⟩:=ihb hc A w γ hg nx b a (.inBlock id::k) cs hr hx hwf hf ht hdf hrd hcalm;exact⟨a1,w1,γ1,hg1,f1,tr1,dr1,.head stepR_block (Steps.trans ar1 (.one stepR_inBlock))⟩
   | exit j =>
    simp only[uu,aa]at h
    split at h
    ·rename_i hj;have hj:=aG hj;subst hj;injection h with h1 h2 h3 h4;subst h1;subst h2;subst h3;subst h4;obtain⟨a1,w1,γ1,hg1,f1,tr1,dr1,k₁,hk,ar1⟩:=ihb hc A w γ hg nx b a (.inBlock j::k) cs hr hx hwf hf ht hdf hrd hcalm;exact⟨a1,w1,γ1,hg1,f1,tr1,dr1,.head stepR_block (Steps.trans ar1 (.one (stepR_exit (by rw[hk];simp[exitTo]))))⟩
    ·rename_i hj;injection h with h1 h2 h3 h4;subst h1;subst h2;subst h3;subst h4;obtain⟨a1,w1,γ1,hg1,f1,tr1,dr1,k₁,hk,ar1⟩:=ihb hc A w γ hg nx b a (.inBlock id::k) cs hr hx hwf hf ht hdf hrd hcalm;refine⟨a1,w1,γ1,hg1,f1,tr1,dr1,k₁,?_,.head stepR_block ar1⟩;rw[hk];have hne:(id == j)=false:=by simp only[beq_eq_false_iff_ne,ne_eq];rintro rfl;exact hj (SQ _)
     simp[exitTo,hne]
   | ret =>
    have h:CR.ok .ret t1 df1 g1=.ok e t' df' g':=h;injection h with h1 h2 h3 h4;subst h1;subst h2;subst h3;subst h4;obtain⟨a1,w1,γ1,hg1,f1,tr1,dr1,k₁,ar1⟩:=ihb hc A w γ hg nx b a (.inBlock id::k) cs hr hx hwf hf ht hdf hrd hcalm;exact⟨a1,w1,γ1,hg1,f1,tr1,dr1,k₁,.head stepR_block ar1⟩
 | loop body ihb =>
  intro t df g e t' df' g' h A w γ hg nx b a k cs hr hx hwf hf ht hdf hrd hcalm;simp only[aU]at h;generalize hc:(aU C nt body).run ih (bd+1) rd t df g=r at h;cases r with
  |fail=>cases h
  | ok e1 t1 df1 g1 =>
   have m1:=mD hC.mon hi.mon _ hc hwf;have wf1:=m1.wf hwf;cases e1 with
   | norm =>
    have h:ih.code nt (bd+1) rd (.loop body) t1 df1 g1=.ok e t' df' g':=h;have m2:=hi.mon.code _ _ _ _ _ _ _ _ _ _ _ h wf1;obtain⟨a1,w1,γ1,hg1,f1,tr1,dr1,ar1⟩:=ihb hc A w γ hg nx b a (.inLoop body::k) cs hr hx hwf (hf.le m2.nx) ht hdf hrd hcalm;obtain⟨a2,w2,γ2,hg2,f2,tr2,dr2,ar2⟩:=hi.code _ _ _ _ _ _ _ _ _ _ _ h A w1 γ1 hg1 _ b a1 k cs f1.rel (f1.ext m1 hx) wf1 (f1.freed hr m1 hf) tr1 dr1 (hrd.step f1.stp) hcalm;refine⟨a2,w2,γ2,hg2,f1.trans f2 m1 m2,tr2,dr2,Arr.of_steps (.head stepR_loop (Steps.trans ar1 (.one stepR_inLoop))) ?_⟩;have hloop:step C.P (lone (b.atR a1 (.code (.loop body)::k)) cs w1)=.next (lone (b.atR a1 (.code body::.inLoop body::k)) cs w1):=stepR_loop;have ne:∀{a':Act} {k':List Item} {w':World},k'≠.code (.loop body)::k->lone (b.atR a1 (.code (.loop body)::k)) cs w1≠lone (b.atR a' k') cs w':=λh h'=>h (GP h').symm;cases e with
    |norm=>exact tw ar2 (ne (λh=>by have:=congrArg List.length h;simp at this)) hloop
    | exit j =>
     obtain⟨k₁,hk,ar2⟩:=ar2;exact⟨k₁,hk,tw ar2 (ne (λh=>by injection h with h _;injection h with h;cases h)) hloop⟩
    | ret =>
     obtain⟨k₁,ar2⟩:=ar2;exact⟨k₁,tw ar2 (ne (λh=>by injection h with h _;injection h with h;cases h)) hloop⟩
   | exit j =>
    have h:CR.ok (.exit j) t1 df1 g1=.ok e t' df' g':=h;injection h with h1 h2 h3 h4;subst h1;subst h2;subst h3;subst h4;obtain⟨a1,w1,γ1,hg1,f1,tr1,dr1,k₁,hk,ar1⟩:=ihb hc A w γ hg nx b a (.inLoop body::k) cs hr hx hwf hf ht hdf hrd hcalm;exact⟨a1,w1,γ1,hg1,f1,tr1,dr1,k₁,by rw[hk];rfl,.head stepR_loop ar1⟩
   | ret =>
    have h:CR.ok .ret t1 df1 g1=.ok e t' df' g':=h;injection h with h1 h2 h3 h4;subst h1;subst h2;subst h3;subst h4;obtain⟨a1,w1,γ1,hg1,f1,tr1,dr1,k₁,ar1⟩:=ihb hc A w γ hg nx b a (.inLoop body::k) cs hr hx hwf hf ht hdf hrd hcalm;exact⟨a1,w1,γ1,hg1,f1,tr1,dr1,k₁,.head stepR_loop ar1⟩
 | scope body ihb =>
  intro t df g e t' df' g' h A w γ hg nx b a k cs hr hx hwf hf ht hdf hrd hcalm;have h:(aU C nt body).run ih (bd+1) rd t df g=.ok e t' df' g':=h;obtain⟨a1,w1,γ1,hg1,f1,tr1,dr1,ar1⟩:=ihb h A w γ hg nx b a (.inScope body::k) cs hr hx hwf hf ht hdf hrd hcalm;refine⟨a1,w1,γ1,hg1,f1,tr1,dr1,?_⟩;cases e with
  |norm=>exact .head tv (Steps.trans ar1 (.one A2))
  |exit j=>obtain⟨k₁,hk,ar1⟩:=ar1;exact⟨k₁,by rw[hk];rfl,.head tv ar1⟩
  |ret=>obtain⟨k₁,ar1⟩:=ar1;exact⟨k₁,.head tv ar1⟩
 | exit id =>
  intro t df g e t' df' g' h A w γ hg nx b a k cs hr hx hwf hf ht hdf hrd hcalm;simp only[aU]at h;injection h with h1 h2 h3 h4;subst h1;subst h2;subst h3;subst h4;exact⟨a,w,γ,hg,Fin.refl hr,ht,hdf,k,rfl,Steps.refl _ _⟩
 | ret =>
  intro t df g e t' df' g' h A w γ hg nx b a k cs hr hx hwf hf ht hdf hrd hcalm;simp only[aU]at h;injection h with h1 h2 h3 h4;subst h1;subst h2;subst h3;subst h4;exact⟨a,w,γ,hg,Fin.refl hr,ht,hdf,k,Steps.refl _ _⟩
 | rangeFunc f ps assign body _ _ =>
  intro t df g e t' df' g' h;simp only[aU]at h
  split at h
  ·rename_i s hs;exact Gu hC hi hs h
  ·cases h
 |_=>intro t df g e t' df' g' h;cases h
theorem Jg(fr:Frame)(h:fr.mode=.returning):({ fr with mode:=.returning }:Frame)=fr:=by cases fr;simp at h;subst h;rfl
theorem JQ(hi:IHOk C ih):∀{df:List ADf} {g g':G},fS ih (bd+1) df g=some g'->WF g ->
  ∀{w γ hg nx} {fr:Frame} {cs:List Frame},Rel C A bd w γ hg nx->Ext g.h hg->Free γ g g'->DR w γ A bd df fr.defers->fr.mode=.returning ->
   ∃w' γ' hg',Fin C A bd w γ hg nx g w' γ' hg' g'/\Steps C.P (lone fr cs w) (lone { fr with defers:=[] } cs w'):=by
 intro df
 induction df with
 | nil =>
  intro g g' h _ w γ hg nx fr cs hr hx hf hdf hm;simp only[fS]at h;injection h with h;subst h;have hd:fr.defers=[]:=by
   cases hd:fr.defers with
   |nil=>rfl
   |cons d ds=>rw[hd]at hdf;exact hdf.elim
  refine⟨w,γ,hg,Fin.refl hr,?_⟩;have:({ fr with defers:=[] }:Frame)=fr:=by cases fr;simp at hd;subst hd;rfl
  rw[this];exact Steps.refl _ _
 | cons x df ihl =>
  intro g g' h hwf w γ hg nx fr cs hr hx hf hdf hm;cases hd:fr.defers with
  |nil=>rw[hd]at hdf;cases x<;>exact hdf.elim
  | cons d ds =>
   rw[hd]at hdf;cases x with
   | mark id =>
    obtain⟨⟨hk,rfl⟩,hdf⟩:=hdf;simp only[fS]at h
    split at h
    ·rename_i hget;have hget:g.h.get id=.dfr true:=by simpa using hget
     have hid:hg id=.dfr true:=by rw[hx id (by rw[hget];simp),hget]
     have hob:=hr.obj id;rw[hid]at hob;obtain⟨k1,k2,k3⟩:=hob;have hk0:(γ id).kind≠0:=by rw[k1];decide
     have m1:Mon g (g.put id (.dfr false)):=Mon.put hwf (by rw[hget];simp);obtain⟨r1,s1⟩:=hr.setBlk (id:=id) (o:=.deferred none) (ao:=.dfr false) hk0 k2 ⟨k1,k2,by rw[aZ];simp[(hr.lt id hk0).2]⟩;have f1:Fin C A bd w γ hg nx g _ γ _ (g.put id (.dfr false)):=RU r1 s1;have m2:=tN hi.mon h (m1.wf hwf);obtain⟨w',γ',hg',f2,st⟩:=ihl h (m1.wf hwf) (fr:={ fr with defers:=ds }) (cs:=cs) f1.rel (f1.ext m1 hx) (f1.freed hr m1 hf) (hdf.step s1) hm;refine⟨w',γ',hg',f1.trans f2 m1 m2,.head (step_lone_go ?_) st⟩;have htake:(Instr.takeDeferred (γ id).blk).run C.P w=.ok [] (World.setBlk w (γ id).blk (.deferred none)):=by unfold Instr.takeDeferred;simp only[Sn,gz k3 (by simp),Sc,if_true,iZ k3 (by simp),SV]
     simp[stepG,hm,unwind,hd,Sem.runT_eq,htake,GStep.bare_after]
    ·cases h
   | call fv args =>
    obtain⟨⟨f,ys,us,rfl,htar,hys,hargs⟩,hdf⟩:=hdf;simp only[fS]at h
    split at h
    rotate_left
    ·cases h
    rename_i v g1 hcall;have m1:=hi.mon.call _ _ _ _ _ _ hcall hwf;have wf1:=m1.wf hwf;have m2:=tN hi.mon h wf1;obtain⟨hent,hrun⟩:=hi.call _ _ _ _ _ _ hcall
    let fr0:Frame:={ fr with defers:=ds }
    obtain⟨u,w1,γ1,hg1,f1,_,frX,st,q1,q2,q3,q4,fn,q5,q6⟩:=hrun A w γ hg nx (d.args.toList++us.toList) hr hx hwf (hf.le m2.nx) (by simpa using hargs.append hys) .deferred (fr0::cs) (.inr ⟨rfl,fr0,cs,rfl,.inl hm⟩);have harr:(d.args.toList++us.toList).toArray=d.args++us:=by apply VF;simp
    rw[harr]at st;obtain⟨w',γ',hg',f2,st2⟩:=ihl h wf1 (fr:=fr0) (cs:=cs) f1.rel (f1.ext m1 hx) (f1.freed hr m1 hf) (hdf.step f1.stp) hm;refine⟨w',γ',hg',f1.trans f2 m1 m2,.head (step_defer (by rw[hm];simp) hd htar ?_) (Steps.trans st (.head ?_ st2))⟩
    ·rw[htar];simp only[invoke];exact hent _ _
    ·have hgo:frX.going C.P w1 (.returned u):=⟨q1,q2,fn,by rw[q4];exact q5,q6⟩;have:=step_going_returned (P:=C.P) (c:=fr0) (cs:=cs) q3 hgo;have hs:settle fr0.mode=.returning:=by have:fr0.mode=.returning:=hm;rw[this];rfl
     rw[hs]at this;have hfr:({ fr0 with mode:=.returning }:Frame)=fr0:=by exact Jg fr0 hm
     rw[hfr]at this;exact this
theorem Ek{P:Program}{ty:TypeId}{x v:Value}{w w':World}(h:(do loadVar ty (<-Instr.sureAddr x):Sem Value).run P w=.ok v w') :
  (do loadVar ty (<-asAddr x):Sem Value).run P w=.ok v w':=by
 cases x with
 |pointer p=>cases p<;>simp[Instr.sureAddr,asAddr]at h ⊢;exact h
 |_=>simp[Instr.sureAddr]at h
theorem Ku(hC:CfgOk C){nt:Nat}{tmps:Array Value}(ht:TR w γ A bd nt t tmps)(hr:Rel C A bd w γ hg nx)(hx:Ext g.h hg):∀{rs:List ResultVar} {k:Stg (T->G->Option (List AV))} {vs:List AV},vg C rs=some k->k.run t g=some vs ->
  ∃us:List Value,(rs.mapM (fun|.tmp t=>pure (tmps.getD t undef)|.cell a t=>do loadVar t (<-asAddr (tmps.getD a undef))):Sem (List Value)).run C.P w=.ok us w/\RVs w γ A bd vs us:=by
 intro rs
 induction rs with
 |nil=>intro k vs h hv;simp[vg]at h;subst h;simp at hv;subst hv;exact⟨[],by simp,rfl,λi x v h=>by simp at h⟩
 | cons r rs ihr =>
  intro k vs h hv;cases r with
  | tmp n =>
   simp only[vg]at h
   split at h
   ·rename_i k0 hk0;injection h with h;subst h;dsimp only at hv
    split at hv
    ·rename_i vs0 hvs0;injection hv with hv;subst hv;obtain⟨us,h1,h2⟩:=ihr hk0 hvs0;refine⟨tmps.getD n undef::us,?_,by simp[h2.1],λi x v hx' hv'=>?_⟩
     ·rw[List.mapM_cons];simp only[Sn,SV,Sc,h1]
     ·cases i with
      |zero=>simp at hx' hv';subst hx';subst hv';simpa [S4] using ht.2 n
      |succ i=>exact h2.2 i x v (by simpa using hx') (by simpa using hv')
    ·cases hv
   ·cases h
  | cell ad ty =>
   simp only[vg]at h
   split at h
   ·rename_i k0 l hk0 hl;injection h with h;subst h;dsimp only at hv
    split at hv
    ·rename_i y hy
     split at hv
     ·rename_i vs0 hvs0;injection hv with hv;subst hv;obtain⟨us,h1,h2⟩:=ihr hk0 hvs0
      let o:Oper:={ (default:Oper) with op:=.load ty (.tmp ad) }
      have hlook:∀id∈bk C (.load ty (.tmp ad)) t g,hg id=g.h.get id:=by intro id hid;exact hx id λhn=>by rw[Fc hl hid hn]at hy;cases hy
      have hload:∃v,(do loadVar ty (<-asAddr (tmps.getD ad undef)):Sem Value).run C.P w=.ok v w/\RV w γ A bd y v:=by
       simp only[cm]at hl
       split at hl
       ·rename_i s ag n hs hag hn;injection hl with hl;subst hl;have:=El (g:=g) (ty:=ty) (t:=t) hr (aD (a:={ tmps:=tmps,defers:=[] }) hs ht hr) hag hn (λid hid=>hlook id (by simp[bk,aN,ac,hs,hid]));have hy:nD ag n s.run t g=.val y:=hy;rw[hy]at this;obtain⟨v,h1,h2⟩:=this;refine⟨v,?_,h2⟩;have h1:(Instr.loadAt ty (tmps.getD ad undef)).run C.P w=.ok v w:=h1;unfold Instr.loadAt at h1;exact Ek h1
       ·cases hl
      obtain⟨v,h3,h4⟩:=hload;refine⟨v::us,?_,by simp[h2.1],λi x v' hx' hv'=>?_⟩
      ·rw[List.mapM_cons];simp only[Sn,SV];simp only[Sn]at h3;rw[h3];simp only[Sc,h1]
      ·cases i with
       |zero=>simp at hx' hv';subst hx';subst hv';exact h4
       |succ i=>exact h2.2 i x v' (by simpa using hx') (by simpa using hv')
     ·cases hv
    ·cases hv
   ·cases h
theorem Gj:∀(vs:List AV) (i:Nat) (t:T) (s:Nat),(co i vs t).get AV.undef s=if i<=s/\s<i+vs.length then vs.getD (s - i) AV.undef else t.get AV.undef s:=by
 intro vs
 induction vs with
 |nil=>intro i t s;simp only[co,T8];rw[Sa (by omega)]
 | cons v vs ihv =>
  intro i t s;simp only[co];rw[ihv,sp_get]
  by_cases h1:s=i
  ·subst h1;rw[Sa (by omega),Sb rfl,Sb (by simp)];simp
  ·rw[Sa h1]
   by_cases h2:i+1<=s/\s<i+1+vs.length
   ·rw[Sb h2,Sb (by simp;omega),show s - i=(s - (i+1))+1 by omega];simp
   ·rw[Sa h2,Sa (by simp;omega)]
theorem NA{nt:Nat}{as:List AV}{vs:List Value}(hv:RVs w γ A bd as vs)(hn:as.length<=nt) :
  TR w γ A bd nt (co 0 as .nil) (vs.toArray++Array.replicate (nt - vs.toArray.size) undef):=by
 have hl:=hv.1;refine⟨by simp;omega,λs=>?_⟩;rw[Gj]
 by_cases hs:s<as.length
 ·rw[Sb (by simpa using hs)];have h1:as[s]?=some (as[s]):=R4 hs;have h2:vs[s]?=some (vs[s]'(by omega)):=R4 (by omega);have:=hv.2 s _ _ h1 h2;have e1:as.getD (s - 0) AV.undef=as[s]:=by simp[T6,h1]
  have e2:(vs.toArray++Array.replicate (nt - vs.toArray.size) undef).getD s undef=vs[s]'(by omega):=by rw[S4,T4 (by simp;omega)];simp[h2]
  rw[e1,e2];exact this
 ·rw[Sa (by simpa using hs),R1];have e2:(vs.toArray++Array.replicate (nt - vs.toArray.size) undef).getD s undef=undef:=by
   rw[S4,Array.getElem?_append_right (by simp;omega),Array.getElem?_replicate]
   split<;>rfl
  rw[e2];exact dG
theorem EU{P:Program}{fn:Func}{tmps:Array Value}{us:List Value}
  (h:(fn.results.toList.mapM (fun|.tmp t=>pure (tmps.getD t undef)|.cell a t=>do loadVar t (<-asAddr (tmps.getD a undef))):Sem (List Value)).run P w=.ok us w) :
  ∃u,(results fn tmps).run P w=.ok u w/\∀{xs:List AV},RVs w γ A bd xs us->RV w γ A bd (jT xs) u:=by
 have hm:(fn.results.mapM (fun|.tmp t=>pure (tmps.getD t undef)|.cell a t=>do loadVar t (<-asAddr (tmps.getD a undef))):Sem (Array Value)).run P w=.ok us.toArray w:=by
  rw[Array.mapM_eq_mapM_toList];simp only[Sem.run_map,h]
  rfl
 refine⟨if hs:us.toArray.size=1 then us.toArray[0] else .tuple us.toArray,?_,?_⟩
 ·unfold results;simp only[Sn];have hm':=hm;generalize hq:(fn.results.mapM (fun|.tmp t=>pure (tmps.getD t undef)|.cell a t=>do loadVar t (<-asAddr (tmps.getD a undef))):Sem (Array Value))=q at hm';rw[hm'];simp only[Sc,SV]
 ·intro xs hv;have hl:=hv.1;have tup:RV w γ A bd (.tup xs) (.tuple us.toArray):=.tup _ _ _ (by simpa using hl) λi x v h1 h2=>hv.2 i x v h1 (by simpa using h2);cases us with
  | nil =>
   have:xs=[]:=UB.1 hl;subst this;exact tup
  | cons u us =>
   cases us with
   | nil =>
    cases xs with
    |nil=>simp at hl
    | cons x xs =>
     have:xs=[]:=UB.1 (by simpa using hl);subst this;exact hv.2 0 x u rfl rfl
   | cons u' us =>
    rw[dif_neg (by simp)];cases xs with
    |nil=>simp at hl
    | cons x xs =>
     cases xs with
     |nil=>simp at hl
     |cons x' xs=>exact tup
theorem NK(hC:CfgOk C)(hi:IHOk C ih){f:Nat}{x:Stg (IH->Nat->List AV->G->FR)}(hx:cFn C f=some x){as:List AV}{v:AV}{g':G}
  (h:x.run ih (bd+1) as g=.ok v g'):Enters C.P f/\GY C bd f as g v g':=by
 unfold cFn at hx
 split at hx
 ·cases hx
 rename_i fn hfn
 split at hx
 ·cases hx
 rename_i c hbody
 split at hx
 rotate_left
 ·cases hx
 rename_i r hres;rw[aa]at hx
 split at hx
 ·cases hx
 rename_i hname;injection hx with hx;subst hx;refine⟨λargs w=>?_,?_⟩
 ·unfold callFunc;have hn : fn.name ≠ "runtime.NumGoroutine" := by simpa using hname
  simp[hfn,hn,hbody]
 intro A w γ hg nx vs hr hex hwf hf hv K cs hcalm;dsimp only at h;rw[aa]at h
 split at h
 rotate_left
 ·cases h
 rename_i hle;rw[SS,ay]at hle
 let b:Frame:={ (default:Frame) with fn:=f,kind:=K,roundOf:=none }
 let a0:Act:={ tmps:=vs.toArray++Array.replicate (fn.ntmps - vs.toArray.size) undef,defers:=[] }
 have henter:Frame.enter C.P f vs.toArray K=b.atR a0 [.code c]:=by simp[Frame.enter,Frame.atR,hfn,hbody,b,a0]
 have key:∀{e:Ex} {t1:T} {df:List ADf} {g1:G},(aU C fn.ntmps c).run ih (bd+1) none (co 0 as .nil) [] g=.ok e t1 df g1->(∀j,e≠.exit j)->iP ih (bd+1) r.run t1 df g1=.ok v g' ->
   ∃u w' γ' hg',Fin C A bd w γ hg nx g w' γ' hg' g'/\RV w' γ' A bd v u/\Outs C.P K f vs.toArray cs w u w':=by
  intro e t1 df g1 hc hne hend;have m1:=mD hC.mon hi.mon _ hc hwf;have wf1:=m1.wf hwf;unfold iP at hend
  split at hend
  ·cases hend
  rename_i g2 h2;have m2:=tN hi.mon h2 wf1
  split at hend
  rotate_left
  ·cases hend
  rename_i xs hxs;injection hend with h1 h2';subst h2';subst h1;obtain⟨a1,w1,γ1,hg1,f1,tr1,dr1,ar1⟩:=A_ hC hi c hc A w γ hg nx b a0 [] cs hr hex hwf (hf.le m2.nx) (NA hv hle) trivial rfl hcalm;have hret:∃fr:Frame,Steps C.P (lone (Frame.enter C.P f vs.toArray K) cs w) (lone fr cs w1)/\fr.mode=.returning/\fr.defers=a1.defers/\fr.kind=K/\fr.fn=f/\fr.tmps=a1.tmps:=by
   rw[henter];cases e with
   |norm=>exact⟨{ b.atR a1 [] with mode:=.returning },Steps.trans ar1 (.one (stepR_end rfl)),rfl,rfl,rfl,rfl,rfl⟩
   | ret =>
    obtain⟨k₁,ar1⟩:=ar1;exact⟨{ b.atR a1 (.code .ret::k₁) with mode:=.returning },Steps.trans ar1 (.one (stepR_ret rfl)),rfl,rfl,rfl,rfl,rfl⟩
   |exit j=>exact absurd rfl (hne j)
  obtain⟨fr,st1,q1,q2,q3,q4,q5⟩:=hret;obtain⟨w2,γ2,hg2,f2,st2⟩:=JQ hi h2 wf1 (fr:=fr) (cs:=cs) f1.rel (f1.ext m1 hex) (f1.freed hr m1 hf) (by rw[q2];exact dr1) q1;have f12:=f1.trans f2 m1 m2;obtain⟨us,hus,hrv⟩:=Ku hC (tr1.step f2.stp) f12.rel (f12.ext (m1.trans m2) hex) hres hxs;obtain⟨u,hu,hone⟩:=EU (γ:=γ2) (A:=A) (bd:=bd) hus;exact⟨u,w2,γ2,hg2,f12,hone hrv,{ fr with defers:=[] },Steps.trans st1 st2,q1,rfl,q3,q4,fn,hfn,by
   have:({ fr with defers:=[] }:Frame).tmps=a1.tmps:=q5;rw[this];exact hu⟩
 split at h
 ·cases h
 ·rename_i e t1 df g1 hne hc;exact key hc (by rintro j rfl;exact hne j rfl) h
 ·cases h
theorem xp(hC:CfgOk C):∀n,IHOk C (sem C n):=by
 intro n
 induction n with
 |zero=>exact⟨Ih hC.mon 0,λbd f as g v g' h=>(by cases h),λbd nt rd c t df g e t' df' g' h=>(by cases h)⟩
 | succ n ihn =>
  refine⟨Ih hC.mon (n+1),λbd f as g v g' h=>?_,λbd nt rd c t df g e t' df' g' h=>A_ hC ihn c h⟩;change fe C (sem C n) (bd+1) f as g=.ok v g' at h;unfold fe at h
  split at h
  ·rename_i x hx;exact NK hC ihn hx h
  ·cases h
end
end Hx
end
section
namespace Hx
open Go Go.RowKit
def gm0:Gm:=λ_=>⟨0,0,0,0,0,0,0,false⟩
def av0:Nat->Nat->Prop:=λ_ _=>False
theorem Rn(b:Nat):¬Mut gm0 b:=by rintro⟨id,h,_⟩;exact h rfl
abbrev RV0 (w:World)(x:AV)(v:Value):Prop:=RV w gm0 av0 0 x v
abbrev RVs0 (w:World)(xs:List AV)(vs:List Value):Prop:=RVs w gm0 av0 0 xs vs
theorem Bk:G.empty.h.get=λ_=>AObj.none:=by funext id;simp[G.empty,H.get,R1]
theorem B2{C:Cfg}(hC:CfgOk C){n f:Nat}{as:List AV}{v:AV}{g':G}(h:(sem C n).call 1 f as G.empty=.ok v g'){w:World}{vs:List Value}(hargs:RVs0 w as vs)
  (hglob:∀gl sz rows,C.glob gl=some (sz,rows)->RV0 w (.tptr 0 sz rows 0 0) (.pointer (some ⟨gl,0,none⟩))) :
  Calls C.P f vs.toArray w λe w'=>∃u γ' A',e=.returned u/\Below w.heap.size w w'/\RV w' γ' A' 0 v u:=by
 intro cs;have hok:=xp hC n;obtain⟨_,hrun⟩:=hok.call 0 f as G.empty v g' h;have hr:Rel C av0 0 w gm0 (λ_=>.none) 0 :=
  ⟨λid=>rfl,λid h=>absurd rfl h,λi j h=>absurd rfl h,λid h=>absurd rfl h,λt b h=>h.elim,hglob⟩
 obtain⟨u,w',γ',hg',fin,rv,fr,st,q1,q2,q3,q4,fn,q5,q6⟩:=hrun av0 w gm0 _ 0 vs hr (λid h=>by rw[Bk]at h;exact absurd rfl h) (λid _=>by rw[Bk]) (λ_ _ _=>rfl) hargs .normal cs (.inl rfl);refine⟨.returned u,w',fr,⟨u,γ',av0,rfl,⟨fin.stp.os,fin.stp.tape,fin.stp.output,fin.stp.sz,λk hk=>fin.stp.fr k hk (Rn k)⟩,rv⟩,st,q4,q1,q2,q3,fn,by rw[q4];exact q5,q6⟩
theorem F8{C:Cfg}(hC:CfgOk C){n f:Nat}{as:List AV}{g':G}(h:(sem C n).call 1 f as G.empty=.ok (.bool true) g'){w:World}{vs:List Value}(hargs:RVs0 w as vs)
  (hglob:∀gl sz rows,C.glob gl=some (sz,rows)->RV0 w (.tptr 0 sz rows 0 0) (.pointer (some ⟨gl,0,none⟩))) :
  Calls C.P f vs.toArray w λe w'=>e=.returned (.bool true)/\Below w.heap.size w w' :=
 (B2 hC h hargs hglob).mono λe w' ⟨u,γ',A',he,hb,rv⟩=>by cases rv;exact⟨he,hb⟩
end Hx
end
section
namespace Hx
open Go Go.RowKit
theorem CfgOk.plain{P:Program}{iso:Nat->Bool}{glob:Nat->Option (Nat×List (List AV))}(hm:P.follows .mixedOrders=true)(hrf:P.follows .rangeFuncRecover=true) :
  CfgOk { P,iso,ext:=λ_=>none,glob } :=
 ⟨hm,hrf,λf e h=>(by cases h),λf e h=>(by cases h),λf e h=>(by cases h)⟩
theorem Rel.cfg{C C':Cfg}(h:C'.glob=C.glob){A:Nat->Nat->Prop}{bd:Nat}{w:World}{γ:Gm}{hg:Nat->AObj}{nx:Nat}(r:Rel C A bd w γ hg nx):Rel C' A bd w γ hg nx :=
 ⟨r.obj,r.lt,r.inj,r.av,r.ab,by rw[h];exact r.glob⟩
theorem Fin.cfg{C C':Cfg}(h:C'.glob=C.glob){A:Nat->Nat->Prop}{bd:Nat}{w w':World}{γ γ':Gm}{hg hg':Nat->AObj}{nx:Nat}{g g':G}(f:Fin C A bd w γ hg nx g w' γ' hg' g') :
  Fin C' A bd w γ hg nx g w' γ' hg' g':=⟨f.rel.cfg h,f.stp,f.new⟩
structure ExtOk (C:Cfg) (f:Nat) (e:Nat->List AV->G->OR):Prop where
 mon:∀d args g,WF g->Mon g (gOf g (e d args g))
 noDfr:∀d args g y,e d args g≠.dfr y
 run:∀A bd w γ hg nx g as vs,Rel C A bd w γ hg nx->WF g->(∀id∈as.flatMap (aC g.h aE),g.h.get id≠.none->hg id=g.h.get id)->Free γ g (gOf g (e (bd+1) as g)) ->
  RVs w γ A bd as vs->e (bd+1) as g≠.fail->∀cs,
  ∃u w' γ' hg',Fin C A bd w γ hg nx g w' γ' hg' (gOf g (e (bd+1) as g))/\RV w' γ' A bd (vOf (e (bd+1) as g)) u /\
   ((callFunc f vs.toArray).run C.P w=.ok (.value u) w'\/(Enters C.P f/\Outs C.P .normal f vs.toArray cs w u w'))
noncomputable def Cfg.add(C:Cfg)(f:Nat)(e:Nat->List AV->G->OR):Cfg:={ C with ext:=λk=>aB (Nat.beq k f) (some e) (C.ext k) }
theorem ExtOk.cfg{C C':Cfg}{f:Nat}{e:Nat->List AV->G->OR}(hp:C'.P=C.P)(hgl:C'.glob=C.glob)(h:ExtOk C f e):ExtOk C' f e:=by refine⟨h.mon,h.noDfr,λA bd w γ hg nx g as vs hr hwf hx hf hv hne cs=>?_⟩;obtain⟨u,w',γ',hg',fin,rv,out⟩:=h.run A bd w γ hg nx g as vs (hr.cfg hgl.symm) hwf hx hf hv hne cs;exact⟨u,w',γ',hg',fin.cfg hgl,rv,by rw[hp];exact out⟩
theorem CfgOk.add{C:Cfg}(h:CfgOk C){f:Nat}{e:Nat->List AV->G->OR}(he:ExtOk C f e):CfgOk (C.add f e):=by
 have which:∀k e',(C.add f e).ext k=some e'->(k=f/\e'=e)\/C.ext k=some e':=by
  intro k e' hk;have hk:aB (Nat.beq k f) (some e) (C.ext k)=some e':=hk;rw[aa]at hk
  split at hk
  ·rename_i hb;injection hk with hk;exact .inl ⟨aG hb,hk.symm⟩
  ·exact .inr hk
 refine⟨h.mixed,h.recov,λk e' hk d args g hwf=>?_,λk e' hk d args g y=>?_,λk e' hk A bd w γ hg nx g as vs hr hwf hx hf hv hne cs=>?_⟩
 ·rcases which k e' hk with⟨_,rfl⟩|hk
  ·exact he.mon d args g hwf
  ·exact h.mon k e' hk d args g hwf
 ·rcases which k e' hk with⟨_,rfl⟩|hk
  ·exact he.noDfr d args g y
  ·exact h.noDfr k e' hk d args g y
 ·rcases which k e' hk with⟨rfl,rfl⟩|hk
  ·obtain⟨u,w',γ',hg',fin,rv,out⟩:=he.run A bd w γ hg nx g as vs (Rel.cfg (C:=C.add k e') (C':=C) rfl hr) hwf hx hf hv hne cs;exact⟨u,w',γ',hg',Fin.cfg (C:=C) (C':=C.add k e') rfl fin,rv,out⟩
  ·obtain⟨u,w',γ',hg',fin,rv,out⟩:=h.ext k e' hk A bd w γ hg nx g as vs (Rel.cfg (C:=C.add f e) (C':=C) rfl hr) hwf hx hf hv hne cs;exact⟨u,w',γ',hg',Fin.cfg (C:=C) (C':=C.add f e) rfl fin,rv,out⟩
noncomputable def zc(v:AV):Nat->List AV->G->OR:=λd as _ =>
 match d with
 | 1=>match as with
  |[]=>.val v
  |_=>.fail
 |_=>.fail
theorem Ee{ih:IH}{d:Nat}{g g0:G}{f:Nat}{v:AV}(h:ah ih d g0 f []=.val v):ah ih d g f []=.val v:=by
 unfold ah at h ⊢;simp only[aJ]at h ⊢;cases hc:ih.call (Nat.succ d) f [] G.empty with
 |fail=>rw[hc]at h;cases h
 | ok r g' =>
  rw[hc]at h;dsimp only at h ⊢;cases hs:snap g'.h 0 aE r with
  |none=>rw[hs]at h;cases h
  | some r' =>
   rw[hs]at h;dsimp only at h ⊢;cases hm:fp aE r' with
   |none=>rw[hm]at h;cases h
   | some m =>
    rw[hm]at h;dsimp only at h ⊢;cases hb:Nat.blt m d with
    |true=>rw[hb]at h;exact h
    | false =>
     rw[hb]at h
     split at h
     ·cases h
     ·split at h
      ·cases h
      ·rename_i m' hm';cases hb':Nat.blt m' d with
       |true=>rw[hb']at h;cases h
       |false=>rw[hb']at h;cases h
theorem IS{C:Cfg}(hC:CfgOk C){n f:Nat}{v:AV}(h:ah (sem C n) 1 G.empty f []=.val v):ExtOk C f (zc v):=by
 have sh:∀d args g,zc v d args g=.fail\/(d=1/\args=[]/\zc v d args g=.val v):=by
  intro d args g;unfold zc
  split
  ·split
   ·exact .inr ⟨rfl,rfl,rfl⟩
   ·exact .inl rfl
  ·exact .inl rfl
 refine⟨λd args g _=>?_,λd args g y hy=>?_,λA bd w γ hg nx g as vs hr hwf hx hf hv hne cs=>?_⟩
 ·rcases sh d args g with h|⟨_,_,h⟩<;>rw[h]<;>exact Mon.refl g
 ·rcases sh d args g with h|⟨_,_,h⟩<;>rw[h]at hy<;>cases hy
 ·rcases sh (bd+1) as g with h0|⟨h1,rfl,h0⟩
  ·exact absurd h0 hne
  ·have hbd:bd=0:=by omega
   subst hbd;have hc:=Ee (g:=g) h;rw[h0];have hok:=xp hC n;obtain⟨he,u,w',γ',hg',fin,rv,out⟩:=xH (args:=[]) (f:=f) hok.call hok.mon.call hr hx hv (by rw[hc];simp) cs;rw[hc]at fin rv;exact⟨u,w',γ',hg',fin,rv,.inr ⟨he,out⟩⟩
end Hx
end
section
namespace Hx
open Go
noncomputable section
def kR(J:PT)(b:Nat)(Q:QT):QT:=λe t df g=>match e with
 |.norm=>J t df g
 |.exit x=>if x=b then J t df g else Q (.exit x) t df g
 |.ret=>Q .ret t df g
theorem Cs(J:PT)(b:Nat)(Q:QT)(t:T)(df:List ADf)(g:G):kR J b Q .norm t df g=J t df g:=rfl
theorem ox(J:PT)(b x:Nat)(Q:QT)(t:T)(df:List ADf)(g:G):kR J b Q (.exit x) t df g=if x=b then J t df g else Q (.exit x) t df g:=rfl
theorem LR(J:PT)(b:Nat)(Q:QT)(t:T)(df:List ADf)(g:G):kR J b Q .ret t df g=Q .ret t df g:=rfl
variable {C:Cfg}{d:Nat}{rd:Option Nat}
theorem cw:∀(s:SC) {Q Q':QT} {t:T} {df:List ADf} {g:G},wp C d rd s Q t df g->(∀e t df g,Q e t df g->Q' e t df g)->wp C d rd s Q' t df g:=by
 have hO:∀(l:List SI) {Q Q':PT} {t:T} {df:List ADf} {g:G},wpO C d rd l Q t df g->(∀t df g,Q t df g->Q' t df g)->wpO C d rd l Q' t df g:=by
  intro l
  induction l with
  |nil=>intro Q Q' t df g h hq;exact hq _ _ _ h
  | cons i r ih =>
   intro Q Q' t df g h hq;have run:∀t df g,EW C d rd i (wpO C d rd r Q) t df g->EW C d rd i (wpO C d rd r Q') t df g:=λt df g h =>
    OR.sat_mono h (λv g' h=>ih h hq) (λa h=>ih h hq)
   have skp:∀t df g,Ao i (wpO C d rd r Q) t df g->Ao i (wpO C d rd r Q') t df g:=λt df g h=>ih h hq;unfold wpO at h ⊢
   split at h
   ·exact run _ _ _ h
   ·rename_i s w hg;unfold gdP at h ⊢
    split at h
    ·rw[aa]at h ⊢
     split at h
     ·rename_i hw;rw[Sb hw];exact⟨λq=>run _ _ _ (h.1 q),λq=>skp _ _ _ (h.2 q)⟩
     ·rename_i hw;rw[Sa hw];exact⟨λq=>skp _ _ _ (h.1 q),λq=>run _ _ _ (h.2 q)⟩
    ·exact skp _ _ _ h
    ·exact h
 have hF:∀(pm:List Nat) (l:List SI) {Q Q':PT} {t:T} {df:List ADf} {g:G} {fs:List Foot},wpF C d rd pm l Q t df g fs->(∀t df g,Q t df g->Q' t df g)->wpF C d rd pm l Q' t df g fs:=by
  intro pm l
  induction l with
  |nil=>intro Q Q' t df g fs h hq;exact⟨h.1,hq _ _ _ h.2⟩
  | cons i r ih =>
   intro Q Q' t df g fs h hq;have run:∀t df g,JR C d rd i (wpF C d rd pm r Q) fs t df g->JR C d rd i (wpF C d rd pm r Q') fs t df g:=λt df g h =>
    OR.sat_mono h (λv g' h=>ih h hq) (λa h=>h)
   have skp:∀t df g,E7 i (wpF C d rd pm r Q) fs t df g->E7 i (wpF C d rd pm r Q') fs t df g:=λt df g h=>ih h hq;unfold wpF at h ⊢
   split at h
   ·exact run _ _ _ h
   ·rename_i s w hg;unfold gdP at h ⊢
    split at h
    ·rw[aa]at h ⊢
     split at h
     ·rename_i hw;rw[Sb hw];exact⟨λq=>run _ _ _ (h.1 q),λq=>skp _ _ _ (h.2 q)⟩
     ·rename_i hw;rw[Sa hw];exact⟨λq=>skp _ _ _ (h.1 q),λq=>run _ _ _ (h.2 q)⟩
    ·exact skp _ _ _ h
    ·exact h
 intro s
 induction s with
 |skip=>intro Q Q' t df g h hq;exact hq _ _ _ _ h
 |ops l=>intro Q Q' t df g h hq;exact hO l h (hq _)
 |quiet l=>intro Q Q' t df g h hq;exact hO l h (λt df g' h=>⟨h.1,h.2.1,hq _ _ _ _ h.2.2⟩)
 |feet pm l=>intro Q Q' t df g h hq;exact hF pm l h (hq _)
 | seq a b iha ihb =>
  intro Q Q' t df g h hq;refine iha h λe t df g h=>?_;cases e with
  |norm=>exact ihb h hq
  |exit x=>exact hq _ _ _ _ h
  |ret=>exact hq _ _ _ _ h
 | cond c a b iha ihb =>
  intro Q Q' t df g h hq;have h:wpC (c.get t) (wp C d rd a Q) (wp C d rd b Q) t df g:=h;show wpC (c.get t) (wp C d rd a Q') (wp C d rd b Q') t df g;unfold wpC at h ⊢
  split at h
  ·exact⟨λq=>iha (h.1 q) hq,λq=>ihb (h.2 q) hq⟩
  ·exact h
 | blk id b ih =>
  intro Q Q' t df g h hq;refine ih h λe t df g h=>?_;cases e with
  |norm=>exact hq _ _ _ _ h
  | exit x =>
   rw[qK]at h ⊢
   split at h
   ·rename_i e;rw[Sb e];exact hq _ _ _ _ h
   ·rename_i e;rw[Sa e];exact hq _ _ _ _ h
  |ret=>exact hq _ _ _ _ h
 | loop b ih =>
  intro Q Q' t df g h hq;obtain⟨Inv,hk,hs⟩:=h;refine⟨Inv,hk,λk t df g hi=>ih (hs k t df g hi) λe t df g h=>?_⟩;cases e with
  |norm=>exact h
  |exit x=>exact hq _ _ _ _ h
  |ret=>exact hq _ _ _ _ h
 |exit id=>intro Q Q' t df g h hq;exact hq _ _ _ _ h
 |ret=>intro Q Q' t df g h hq;exact hq _ _ _ _ h
 |rng nt f ps a b _ _=>intro Q Q' t df g h hq assign body ha hb;exact CR.sat_mono (h assign body ha hb) hq
 |raw nt c=>intro Q Q' t df g h hq;exact CR.sat_mono h hq
theorem aK{body:SC}{c ti tn k B b:Nat}{Q:QT}{m:Nat}(hm:m<9223372036854775808)(J:Nat->PT){t:T}{df:List ADf}{g:G}
  (h0:J 0 t df g) (hi:tat t ti=.int .i64 0) (hn:tat t tn=.int .i64 (m:Int)) (hc:c≠ti/\c≠tn/\k≠tn/\ti≠tn/\b≠B)
  (hJ:∀j t df g v s,s=c\/s=ti\/s=k->J j t df g->J j (fq t s v) df g)
  (step:∀j t df g,j<m->J j t df g->tat t ti=.int .i64 (j:Int)->tat t tn=.int .i64 (m:Int) ->
   wp C d rd body (kR (λt df g=>J (j+1) t df g/\tat t ti=.int .i64 (j:Int)/\tat t tn=.int .i64 (m:Int)) b Q) t df g)
  (fin:∀t df g,J m t df g->Q (.exit B) t df g) :
  wpL (wp C d rd (.seq (.ops [o c (.bin .lss (.t ti) (.t tn))]) (.seq (.cond (.t c) .skip (.exit B)) (.seq (.blk b body) (.ops [o k (.bin .add (.t ti) (.k (.int .i64 1))),o ti (.mv (.t k))]))))) Q t df g:=by
 obtain⟨c1,c2,c3,c4,c5⟩:=hc;refine jZ (λn t df g=>∃j:Nat,n=m - j/\j<=m/\J j t df g/\tat t ti=.int .i64 (j:Int)/\tat t tn=.int .i64 (m:Int)) m ⟨0,by omega,by omega,h0,hi,hn⟩ ?_;rintro n t df g ⟨j,rfl,hj,hjj,h1,h2⟩;simp only[sx,SO.run,↓reduceIte,h1,h2];refine⟨λhq=>?_,λhq=>?_⟩
 ·have hlt:j<m:=by simpa using hq
  simp only[sx];refine cw _ (step j _ df g hlt (hJ _ _ _ _ _ _ (.inl rfl) hjj) (by simp only[lJ];rw[Sa (To c1),h1]) (by simp only[lJ];rw[Sa (To c2),h2])) λe t df g h=>?_;have key:J (j+1) t df g/\tat t ti=.int .i64 (j:Int)/\tat t tn=.int .i64 (m:Int)->wp C d rd (.ops [o k (.bin .add (.t ti) (.k (.int .i64 1))),o ti (.mv (.t k))])
    (kL (λn t df g=>∃j:Nat,n=m - j/\j<=m/\J j t df g/\tat t ti=.int .i64 (j:Int)/\tat t tn=.int .i64 (m:Int)) (m - j) Q) t df g:=by
   rintro⟨a1,a2,a3⟩;simp only[sx,SO.run,a2,↓reduceIte];refine⟨_,?_,j+1,rfl,by omega,hJ _ _ _ _ _ _ (.inr (.inl rfl)) (hJ _ _ _ _ _ _ (.inr (.inr rfl)) a1),?_,?_⟩
   ·omega
   ·rw[ax (by omega) (by omega)];rfl
   ·rw[Sa (To c4),Sa (To c3),a3]
  cases e with
  |norm=>exact key h
  |ret=>exact h
  | exit x =>
   rw[ox]at h;rw[qK]
   split at h
   ·rename_i e;rw[Sb e];exact key h
   ·rename_i e;rw[Sa e];exact h
 ·have:j=m:=by simp at hq;omega
  subst this;simp only[sx];exact fin _ _ _ (hJ _ _ _ _ _ _ (.inl rfl) hjj)
theorem C3{Hd body inc:SC}{c B b:Nat}{Q:QT}{m:Nat}(J:Nat->PT){t:T}{df:List ADf}{g:G}(h0:J 0 t df g)
  (hd:∀j t df g,j<=m->J j t df g->wp C d rd Hd (λe t df g=>e=.norm/\tat t c=.bool (decide (j<m))/\J j t df g) t df g)
  (step:∀j t df g,j<m->J j t df g->wp C d rd body (kR (λt df g=>wp C d rd inc (λe t df g=>e=.norm/\J (j+1) t df g) t df g) b Q) t df g)
  (fin:∀t df g,J m t df g->Q (.exit B) t df g) :
  wpL (wp C d rd (.seq (.seq Hd (.cond (.t c) .skip (.exit B))) (.seq (.blk b body) inc))) Q t df g:=by
 refine jZ (λn t df g=>∃j:Nat,n=m - j/\j<=m/\J j t df g) m ⟨0,by omega,by omega,h0⟩ ?_;rintro n t df g ⟨j,rfl,hj,hjj⟩;simp only[eM];refine cw _ (hd j t df g hj hjj) ?_;rintro e t df g ⟨rfl,hq,hjj⟩;simp only[sx,hq];refine⟨λhq=>?_,λhq=>?_⟩
 ·have hlt:j<m:=by simpa using hq
  simp only[sx];refine cw _ (step j t df g hlt hjj) λe t df g h=>?_;have key:wp C d rd inc (λe t df g=>e=.norm/\J (j+1) t df g) t df g->wp C d rd inc (kL (λn t df g=>∃j:Nat,n=m - j/\j<=m/\J j t df g) (m - j) Q) t df g:=by intro h;refine cw _ h ?_;rintro e t df g ⟨rfl,h⟩;exact⟨_,by omega,j+1,rfl,by omega,h⟩
  cases e with
  |norm=>exact key h
  |ret=>exact h
  | exit x =>
   rw[ox]at h;rw[qK]
   split at h
   ·rename_i e;rw[Sb e];exact key h
   ·rename_i e;rw[Sa e];exact h
 ·have:j=m:=by simp at hq;omega
  subst this;simp only[sx];exact fin _ _ _ hjj
theorem Iv{body:SC}{a b' e c ti sl x y B b:Nat}{Q:QT}{v:AV}{m:Nat}(hm:m<9223372036854775808)(hlen:∀g,dO .slice v g=.val (.int .i64 (m:Int)))(J:Nat->PT){t:T}{df:List ADf}{g:G}
  (h0:J 0 t df g) (hi:tat t ti=.int .i64 0) (hs:tat t sl=v)
  (hc:(a≠ti/\b'≠ti/\e≠ti/\c≠ti)/\(a≠sl/\b'≠sl/\e≠sl/\c≠sl/\x≠sl/\y≠sl/\ti≠sl)/\a≠b'/\a≠e/\x≠y)
  (hJ:∀j t df g v s,s=a\/s=b'\/s=e\/s=c\/s=ti\/s=x\/s=y->J j t df g->J j (fq t s v) df g)
  (step:∀j t df g,j<m->J j t df g->tat t ti=.int .i64 (j:Int)->tat t sl=v ->
   wp C d rd body (kR (λt df g=>J (j+1) t df g/\tat t ti=.int .i64 (j:Int)/\tat t sl=v) b Q) t df g)
  (fin:∀t df g,J m t df g->tat t sl=v->Q (.exit B) t df g) :
  wpL (wp C d rd (.seq (.seq (.ops [o a (.mv (.t ti)),o b' (.mv (.t sl)),o e (.len .slice (.t b')),o c (.bin .lss (.t a) (.t e))]) (.cond (.t c) .skip (.exit B))) (.seq (.blk b body)
   (.ops [o x (.mv (.t ti)),o y (.bin .add (.t x) (.k (.int .i64 1))),o ti (.mv (.t y))])))) Q t df g:=by
 obtain⟨⟨q1,q2,q3,q4⟩,⟨r1,r2,r3,r4,r5,r6,r7⟩,p1,p2,p3⟩:=hc;refine C3 (m:=m) (λj t df g=>J j t df g/\tat t ti=.int .i64 (j:Int)/\tat t sl=v) ⟨h0,hi,hs⟩ ?_ ?_ (λt df g h=>fin t df g h.1 h.2.2)
 ·rintro j t df g hj ⟨h1,h2,h3⟩;simp only[sx,SO.run,h2,h3,hlen,p1,p2,To r1,↓reduceIte,To q1,To q2,To q3,To q4,To r2,To r3,To r4,true_and,and_true];refine⟨by congr 1;simp,hJ _ _ _ _ _ _ (.inr (.inr (.inr (.inl rfl)))) (hJ _ _ _ _ _ _ (.inr (.inr (.inl rfl))) (hJ _ _ _ _ _ _ (.inr (.inl rfl)) (hJ _ _ _ _ _ _ (.inl rfl) h1)))⟩
 ·rintro j t df g hj ⟨h1,h2,h3⟩;refine cw _ (step j t df g hj h1 h2 h3) λe t df g h=>?_;have key:J (j+1) t df g/\tat t ti=.int .i64 (j:Int)/\tat t sl=v->wp C d rd (.ops [o x (.mv (.t ti)),o y (.bin .add (.t x) (.k (.int .i64 1))),o ti (.mv (.t y))])
    (λe t df g=>e=.norm/\J (j+1) t df g/\tat t ti=.int .i64 ((j+1:Nat):Int)/\tat t sl=v) t df g:=by
   rintro⟨h1,h2,h3⟩;simp only[sx,SO.run,h2,↓reduceIte,To r5,To r6,To r7,h3,true_and,and_true];refine⟨hJ _ _ _ _ _ _ (.inr (.inr (.inr (.inr (.inl rfl))))) (hJ _ _ _ _ _ _ (.inr (.inr (.inr (.inr (.inr (.inr rfl)))))) (hJ _ _ _ _ _ _ (.inr (.inr (.inr (.inr (.inr (.inl rfl)))))) h1)),?_⟩;rw[ax (by omega) (by omega)];rfl
  cases e with
  |norm=>exact key h
  |ret=>exact h
  | exit x =>
   rw[ox]at h ⊢
   split at h
   ·rename_i e;rw[Sb e];exact key h
   ·rename_i e;rw[Sa e];exact h
theorem Fk{body:SC}{a c ti x y B b:Nat}{Q:QT}{m:Nat}(hm:m<9223372036854775808)(J:Nat->PT){t:T}{df:List ADf}{g:G}
  (h0:J m t df g) (hi:tat t ti=.int .i64 ((m:Int) - 1)) (hc:a≠ti/\c≠ti/\x≠ti)
  (hJ:∀j t df g v s,s=a\/s=c\/s=ti\/s=x\/s=y->J j t df g->J j (fq t s v) df g)
  (step:∀j t df g,j<m->J (j+1) t df g->tat t ti=.int .i64 (j:Int)->wp C d rd body (kR (λt df g=>J j t df g/\tat t ti=.int .i64 (j:Int)) b Q) t df g)
  (fin:∀t df g,J 0 t df g->Q (.exit B) t df g) :
  wpL (wp C d rd (.seq (.seq (.ops [o a (.mv (.t ti)),o c (.bin .geq (.t a) (.k (.int .i64 0)))]) (.cond (.t c) .skip (.exit B))) (.seq (.blk b body)
   (.ops [o x (.mv (.t ti)),o y (.bin .sub (.t x) (.k (.int .i64 1))),o ti (.mv (.t y))])))) Q t df g:=by
 obtain⟨c1,c2,c3⟩:=hc;refine jZ (λn t df g=>n<=m/\J n t df g/\tat t ti=.int .i64 ((n:Int) - 1)) m ⟨R5 _,h0,hi⟩ ?_;rintro n t df g ⟨hn,hj,h1⟩;simp only[sx,SO.run,↓reduceIte,h1];refine⟨λhq=>?_,λhq=>?_⟩
 ·obtain⟨j,rfl⟩:∃j,n=j+1:=⟨n - 1,by simp at hq;omega⟩;simp only[sx];refine cw _ (step j _ df g (by omega) (hJ _ _ _ _ _ _ (.inr (.inl rfl)) (hJ _ _ _ _ _ _ (.inl rfl) hj)) (by simp only[lJ];rw[Sa (To c2),Sa (To c1),h1];congr 1;omega)) λe t df g h=>?_;have key:J j t df g/\tat t ti=.int .i64 (j:Int)->wp C d rd (.ops [o x (.mv (.t ti)),o y (.bin .sub (.t x) (.k (.int .i64 1))),o ti (.mv (.t y))])
    (kL (λn t df g=>n<=m/\J n t df g/\tat t ti=.int .i64 ((n:Int) - 1)) (j+1) Q) t df g:=by
   rintro⟨a1,a2⟩;simp only[sx,SO.run,a2,↓reduceIte];refine⟨j,by omega,by omega,hJ _ _ _ _ _ _ (.inr (.inr (.inl rfl))) (hJ _ _ _ _ _ _ (.inr (.inr (.inr (.inr rfl)))) (hJ _ _ _ _ _ _ (.inr (.inr (.inr (.inl rfl)))) a1)),?_⟩;rw[ax (by omega) (by omega)]
  cases e with
  |norm=>exact key h
  |ret=>exact h
  | exit x =>
   rw[ox]at h;rw[qK]
   split at h
   ·rename_i e;rw[Sb e];exact key h
   ·rename_i e;rw[Sa e];exact h
 ·have:n=0:=by simp at hq;omega
  subst this;simp only[sx];exact fin _ _ _ (hJ _ _ _ _ _ _ (.inr (.inl rfl)) (hJ _ _ _ _ _ _ (.inl rfl) hj))
theorem fc{Hd:List SI}{body:SC}{c ti x y B b:Nat}{Q:QT}(m:Nat)(hm:m<9223372036854775808)(J:Nat->PT){t:T}{df:List ADf}{g:G}
  (h0:J 0 t df g) (hi:tat t ti=.int .i64 0) (hx:x≠ti)
  (hJ:∀j t df g v s,s=ti\/s=x\/s=y->J j t df g->J j (fq t s v) df g)
  (hd:∀j t df g,j<=m->J j t df g->tat t ti=.int .i64 (j:Int)->wpO C d rd Hd (λt df g=>tat t c=.bool (decide ((j:Int)<(m:Int)))/\J j t df g/\tat t ti=.int .i64 (j:Int)) t df g)
  (step:∀j t df g,j<m->J j t df g->tat t ti=.int .i64 (j:Int)->wp C d rd body (kR (λt df g=>J (j+1) t df g/\tat t ti=.int .i64 (j:Int)) b Q) t df g)
  (fin:∀t df g,J m t df g->Q (.exit B) t df g) :
  wpL (wp C d rd (.seq (.seq (.ops Hd) (.cond (.t c) .skip (.exit B))) (.seq (.blk b body)
   (.ops [o x (.mv (.t ti)),o y (.bin .add (.t x) (.k (.int .i64 1))),o ti (.mv (.t y))])))) Q t df g:=by
 refine C3 (m:=m) (λj t df g=>J j t df g/\tat t ti=.int .i64 (j:Int)) ⟨h0,hi⟩ ?_ ?_ (λt df g h=>fin t df g h.1)
 ·rintro j t df g hj ⟨h1,h2⟩;have:=hd j t df g hj h1 h2;refine cw (.ops Hd) (Q:=λe t df g=>e=.norm/\tat t c=.bool (decide ((j:Int)<(m:Int)))/\J j t df g/\tat t ti=.int .i64 (j:Int)) (by rw[C6];simpa using this) ?_;rintro e t df g ⟨rfl,a1,a2,a3⟩;refine⟨rfl,?_,a2,a3⟩;rw[a1];congr 1;simp
 ·rintro j t df g hj ⟨h1,h2⟩;refine cw _ (step j t df g hj h1 h2) λe t df g h=>?_;have key:J (j+1) t df g/\tat t ti=.int .i64 (j:Int)->wp C d rd (.ops [o x (.mv (.t ti)),o y (.bin .add (.t x) (.k (.int .i64 1))),o ti (.mv (.t y))])
    (λe t df g=>e=.norm/\J (j+1) t df g/\tat t ti=.int .i64 ((j+1:Nat):Int)) t df g:=by
   rintro⟨h1,h2⟩;simp only[sx,SO.run,h2,↓reduceIte,true_and];refine⟨hJ _ _ _ _ _ _ (.inl rfl) (hJ _ _ _ _ _ _ (.inr (.inr rfl)) (hJ _ _ _ _ _ _ (.inr (.inl rfl)) h1)),?_⟩;rw[ax (by omega) (by omega)];rfl
  cases e with
  |norm=>exact key h
  |ret=>exact h
  | exit x =>
   rw[ox]at h ⊢
   split at h
   ·rename_i e;rw[Sb e];exact key h
   ·rename_i e;rw[Sa e];exact h
end
end Hx
end
section
namespace Hx
open Go
noncomputable section
def vid:AV->Option Nat
 |.hsl id _ _ _ _=>some id
 |_=>none
def Own(g:G)(b:Nat)(v:AV)(sz:Nat)(rows:List (List AV)):Prop :=
 (v=.nils/\rows=[])\/∃id ep lo,b<=id/\id<g.nx/\v=.hsl id ep 0 rows.length none/\g.h.get id=.cells sz rows ep lo false
theorem Own.rows{g:G}{b:Nat}{v:AV}{sz:Nat}{rows:List (List AV)}(h:Own g b v sz rows):ak g.h sz v=some rows:=by
 rcases h with⟨rfl,rfl⟩|⟨id,ep,lo,h1,h2,rfl,h3⟩
 ·rfl
 ·rw[e_,h3,xF]
theorem Own.fr{g g':G}{b:Nat}{v:AV}{sz:Nat}{rows:List (List AV)}(h:Own g b v sz rows)(hn:g.nx<=g'.nx)(hf:∀i,vid v=some i->g'.h.get i=g.h.get i):Own g' b v sz rows:=by
 rcases h with h|⟨id,ep,lo,h1,h2,rfl,h3⟩
 ·exact .inl h
 ·exact .inr ⟨id,ep,lo,h1,by omega,rfl,by rw[hf id rfl,h3]⟩
theorem Own.lt{g:G}{b:Nat}{v:AV}{sz:Nat}{rows:List (List AV)}(h:Own g b v sz rows){i:Nat}(hi:vid v=some i):b<=i/\i<g.nx:=by
 rcases h with⟨rfl,-⟩|⟨id,ep,lo,h1,h2,rfl,h3⟩
 ·cases hi
 ·injection hi with hi;subst hi;exact⟨h1,h2⟩
theorem Own.cell{g:G}{b:Nat}{v:AV}{sz:Nat}{rows:List (List AV)}(h:Own g b v sz rows):v.cells=[v]/\v.isTup=false:=by rcases h with⟨rfl,-⟩|⟨id,ep,lo,h1,h2,rfl,h3⟩<;>exact⟨rfl,rfl⟩
theorem aW{g:G}{b:Nat}{v x:AV}{sz bytes:Nat}{rows new:List (List AV)}{K:AV->G->Prop}{D:ADf->Prop}(hv:Own g b v sz rows)(hx:ak g.h sz x=some new)(hb:b<=g.nx)
  (hr:(rows.length+new.length)*bytes<=aY)
  (k:∀v' g',Own g' b v' sz (rows++new)->g.nx<=g'.nx->(∀i,i<g.nx->vid v≠some i->g'.h.get i=g.h.get i)->(vid v'=vid v\/∃i,vid v'=some i/\g.nx<=i)->(∀i∈g'.lg,i∈g.lg\/b<=i)->K v' g') :
  (dC sz bytes v x g).sat K g D:=by
 unfold dC;rw[hx];dsimp only;rcases hv with⟨rfl,rfl⟩|⟨id,ep,lo,h1,h2,rfl,h3⟩
 ·cases new with
  |nil=>exact k _ _ (.inl ⟨rfl,rfl⟩) (R5 _) (λ_ _ _=>rfl) (.inl rfl) (λi hi=>.inl hi)
  | cons r new =>
   simp only[bf,ay,aa,SS];rw[Sb (by simpa using hr)];refine k _ _ (.inr ⟨g.nx,0,true,hb,by simp,rfl,by simp[aS]⟩) (by simp) (λi hi _=>?_) (.inr ⟨g.nx,rfl,R5 _⟩) (λi hi=>by simp at hi;rcases hi with rfl|hi;exact .inr hb;exact .inl hi);rw[G.new_h,af _ _ _ (by omega)]
 ·simp only[bf,G.get_eq,h3,ay,aa,show Nat.beq ep ep=true from SQ ep,show Nat.beq sz sz=true from SQ sz,Td,SS,R7,SU,Un,Uu];rw[Sb ⟨R5 _,hr⟩];cases new with
  | nil =>
   rw[Sb (by simp)];refine k _ _ (.inr ⟨id,ep,lo,h1,h2,by simp,by simpa using h3⟩) (R5 _) (λ_ _ _=>rfl) (.inl rfl) (λi hi=>.inl hi)
  | cons r new =>
   rw[Sa (by simp)];have ht:kg rows.length (jz 0 rows)=rows:=by rw[bh,bg];simp
   cases lo with
   | false =>
    rw[Sb (by simp)];refine k _ _ (.inr ⟨g.nx,0,true,by omega,by simp,by simp,by simp[aS,ht]⟩) (by simp) (λi hi _=>?_) (.inr ⟨g.nx,rfl,R5 _⟩) (λi hi=>by simp at hi;rcases hi with rfl|hi;exact .inr hb;exact .inl hi);rw[G.new_h,af _ _ _ (by omega)]
   | true =>
    rw[Sa (by simp)];refine k _ _ (.inr ⟨id,ep+1,true,h1,by simpa using h2,by simp,by simp[aS,ht]⟩) (by simp) (λi hi hne=>?_) (.inl rfl) (λi hi=>by simp at hi;rcases hi with rfl|hi;exact .inr h1;exact .inl hi);rw[G.put_h,af _ _ _ (λe=>hne (by rw[e];rfl))]
def Fr(g g':G):Prop:=g.nx<=g'.nx/\∀i,i<g.nx->g'.h.get i=g.h.get i
theorem Fr.refl(g:G):Fr g g:=⟨R5 _,λ_ _=>rfl⟩
theorem Fr.trans{g g' g'':G}(h:Fr g g')(h':Fr g' g''):Fr g g'':=⟨Sz h.1 h'.1,λi hi=>by rw[h'.2 i (SB hi h.1),h.2 i hi]⟩
theorem Fr.new(g:G)(o:AObj):Fr g (g.new o):=⟨by simp,λi hi=>by rw[G.new_h,af _ _ _ (by omega)]⟩
theorem Own.step{g g':G}{b:Nat}{v:AV}{sz:Nat}{rows:List (List AV)}(h:Own g b v sz rows)(f:Fr g g'):Own g' b v sz rows :=
 h.fr f.1 λi hi=>f.2 i (h.lt hi).2
theorem cQ{g:G}{b:Nat}{v:AV}{sz n i off:Nat}{rows:List (List AV)}{row row':List AV}{x:AV}{K:AV->G->Prop}{D:ADf->Prop}(hv:Own g b v sz rows)(hr:rows[i]?=some row)
  (hl:x.cells.length=n) (ht:x.isTup=false) (hp:bw row off x.cells=some row')
  (k:∀g',Own g' b v sz (rows.set i row')->g'.nx=g.nx->(∀i,vid v≠some i->g'.h.get i=g.h.get i)->K .undef g'):(kW n (jV sz v i off) x g).sat K g D:=by
 rcases hv with⟨rfl,rfl⟩|⟨id,ep,lo,h1,h2,rfl,h3⟩
 ·simp at hr
 ·simp only[jV,SU];rw[qV h3 hr rfl ht hl hp];refine k _ (.inr ⟨id,ep,lo,h1,by simpa using h2,by simp,by simp[aS]⟩) (by simp) (λi hne=>?_);rw[G.put_h,af _ _ _ (λe=>hne (by rw[e];rfl))]
theorem yA{g:G}{b sz bytes:Nat}{zero:List AV}{k1 k2:IntKind}{n:Nat}{K:AV->G->Prop}{D:ADf->Prop}(hn:n<=aY)(hb:n*bytes<=aY)(hg:b<=g.nx)
  (k:∀v' g',Own g' b v' sz (List.replicate n zero)->g'.nx=g.nx+1->(∀i,i<g.nx->g'.h.get i=g.h.get i)->vid v'=some g.nx->K v' g') :
  (Gd sz bytes zero (.int k1 (n:Int)) (.int k2 (n:Int)) g).sat K g D:=by
 show (match dP aY (.int k2 (.ofNat n)) with
  | some cn=>match dP cn (.int k1 (.ofNat n)) with
   |some ln=>aB (Nat.ble (cn*bytes) aY) (OR.upd (.hsl g.nx 0 0 ln none) (g.new (VG sz (jt cn zero)))) .fail
   |none=>.fail
  |none=>.fail).sat K g D
 simp only[dP,aa,SS,Sb hn,R5,Sb hb,if_true];refine k _ _ (.inr ⟨g.nx,0,false,hg,by simp,by simp,by simp[aS,jt]⟩) (by simp) (λi hi=>?_) rfl;rw[G.new_h,af _ _ _ (by omega)]
theorem Own.sl{α:Type} [Rp α]{g:G}{b:Nat}{v:AV}{rows:List (List AV)}{l:List α}{P:Nat->Prop}{k:Nat}(h:Own g b v (Rp.sz α) rows)(hl:l.length<9223372036854775808)(hr:All2 (Rp.rp P k g.h) l rows)
  (hp:∀i,vid v=some i->P i):SlR P k g.h l v:=by
 refine⟨hl,?_⟩;have hrow:=h.rows;rcases h with⟨rfl,rfl⟩|⟨id,ep,lo,h1,h2,rfl,h3⟩
 ·exact SD hr.len
 ·exact⟨hp id rfl,rows,hrow,hr⟩
theorem Own.ints{g:G}{b:Nat}{v:AV}{l:List Int}{k:Nat}(h:Own g b v 1 (l.map ci))(hl:l.length<9223372036854775808):One l (λ_=>True) k g.h v :=
 ⟨v,rfl,Own.sl (α:=Int) h hl (RS (λa=>aI.2 rfl) l) λ_ _=>trivial⟩
theorem kU{x:OR}{Q:AV->Prop}{K:AV->G->Prop}{g:G}{D:ADf->Prop}(h:∃r,x=.val r/\Q r)(k:∀r,Q r->K r g):x.sat K g D:=by obtain⟨r,rfl,hr⟩:=h;exact k r hr
section feet
variable {C:Cfg}{d:Nat}{rd:Option Nat}{pm:List Nat}
theorem Iu(Q:PT)(t:T)(df:List ADf)(g:G)(fs:List Foot):wpF C d rd pm [] Q t df g fs=(qG pm fs.reverse=true/\Q t df g):=rfl
theorem PP(n:Nat)(op:SO)(r:List SI)(Q:PT)(t:T)(df:List ADf)(g:G)(fs:List Foot):wpF C d rd pm (o n op::r) Q t df g fs =
  (op.run C d rd t (aP g [])).sat (kF (wpF C d rd pm r Q) (some n) t df g.lg fs (op.foot C t g)) (aP g []) (λ_=>False):=rfl
theorem Np(op:SO)(r:List SI)(Q:PT)(t:T)(df:List ADf)(g:G)(fs:List Foot):wpF C d rd pm (oz op::r) Q t df g fs =
  (op.run C d rd t (aP g [])).sat (kF (wpF C d rd pm r Q) none t df g.lg fs (op.foot C t g)) (aP g []) (λ_=>False):=rfl
theorem No(n s:Nat)(w:Bool)(op:SO)(r:List SI)(Q:PT)(t:T)(df:List ADf)(g:G)(fs:List Foot) :
  wpF C d rd pm (og n s w op::r) Q t df g fs=gdP (tat t s) w (JR C d rd (o n op) (wpF C d rd pm r Q) fs) (E7 (o n op) (wpF C d rd pm r Q) fs) t df g:=rfl
theorem MS(n:Nat)(op:SO)(W:FT)(fs:List Foot)(t:T)(df:List ADf)(g:G):JR C d rd (o n op) W fs t df g =
  (op.run C d rd t (aP g [])).sat (kF W (some n) t df g.lg fs (op.foot C t g)) (aP g []) (λ_=>False):=rfl
theorem Im(n:Nat)(op:SO)(W:FT)(fs:List Foot)(t:T)(df:List ADf)(g:G):E7 (o n op) W fs t df g=W (fq t n .undef) df g (⟨ap,[]⟩::fs):=rfl
theorem HM(W:FT)(n:Nat)(t:T)(df:List ADf)(lg:List Nat)(fs:List Foot)(lk:Looks)(v:AV)(g:G):kF W (some n) t df lg fs lk v g=W (fq t n v) df (pF g (g.lg++lg)) (⟨lk,g.lg⟩::fs):=rfl
theorem HL(W:FT)(t:T)(df:List ADf)(lg:List Nat)(fs:List Foot)(lk:Looks)(v:AV)(g:G):kF W none t df lg fs lk v g=W t df (pF g (g.lg++lg)) (⟨lk,g.lg⟩::fs):=rfl
theorem xL{sz:Nat}{v:AV}{i off:Nat}(h:Ak v=true):ae (jV sz v i off)=ae v:=by cases v<;>first|rfl|cases h
theorem jq(id ep i off:Nat):ae (.hptr id ep i off)=[id]:=rfl
theorem qT(id ep off len:Nat)(lim:Option Nat):ae (.hsl id ep off len lim)=[id]:=rfl
theorem EQ:ae .nils=[]:=rfl
theorem SlR.refs{α:Type} [Rp α]{k:Nat}{h:H}{l:List α}{v:AV}(r:SlR NoP k h l v):ae v=[]:=by
 have r:=r.2;unfold SlV at r
 split at r<;>first|rfl|exact r.1.elim|exact r.elim
theorem QO{α:Type} [Rp α]{k:Nat}{h:H}{x:α}{cs:List AV}(r:Rp.rp NoP k h x cs)(n:Nat):cs.flatMap (aC h n)=[]:=by rw[List.eq_nil_iff_forall_not_mem];exact λi hi=>Rp.ids r i hi
theorem Ap{α:Type} [Rp α]{k:Nat}{h:H}{l:List α}{v:AV}(r:SlR NoP k h l v):aC h aE v=[]:=by have:=QO (show Rp.rp NoP k h l [v] from ⟨v,rfl,r⟩) aE;simpa using this
end feet
section looks
variable {C:Cfg}{t:T}{g:G}
theorem Pr(x:Od):SO.foot C t g (.mv x)=ap:=rfl
theorem HB(c a b:Od):SO.foot C t g (.pick c a b)=ap:=rfl
theorem DY(cs:List AV):SO.foot C t g (.alloc cs)=ap:=rfl
theorem Le(x:Od):SO.foot C t g (.box x)=ap:=rfl
theorem DZ(z:List AV)(pl:List (Nat×Nat))(vs:List Od):SO.foot C t g (.build z pl vs)=ap:=rfl
theorem Lf(sz len:Nat)(z:List AV)(is:List Nat)(vs:List Od):SO.foot C t g (.bsl sz len z is vs)=ap:=rfl
theorem Hz(ag:Bool)(n:Nat)(a:Od):SO.foot C t g (.load ag n a)=ac (ae (a.get t)):=rfl
theorem D1(n:Nat)(a x:Od):SO.foot C t g (.store n a x)=ac (ae (a.get t)):=rfl
theorem HA(x:Od):SO.foot C t g (.nilc x)=ap:=rfl
theorem Ld(op:BinOp)(x y:Od):SO.foot C t g (.bin op x y)=ap:=rfl
theorem Po(ng:Bool)(ek:EqKind)(x y:Od):SO.foot C t g (.eq ng ek x y)=ap:=rfl
theorem Lp(x:Od):SO.foot C t g (.not x)=ap:=rfl
theorem Hy(k:IntKind)(x:Od):SO.foot C t g (.conv k x)=ap:=rfl
theorem Ln(f:Nat)(a c:List Od):SO.foot C t g (.mkf f a c)=ap:=rfl
theorem Lo(sz bt:Nat)(z:List AV)(l c:Od):SO.foot C t g (.mks sz bt z l c)=ap:=rfl
theorem Lq(sz:Nat)(x:Od)(lo hi:List Od):SO.foot C t g (.slc sz x lo hi)=ac (ae (x.get t)):=rfl
theorem Li(fo:Nat)(x:Od):SO.foot C t g (.fad fo x)=ap:=rfl
theorem Lj(ag:Bool)(n fo:Nat)(x:Od):SO.foot C t g (.fld ag n fo x)=ap:=rfl
theorem Ll(sz:Nat)(x i:Od):SO.foot C t g (.ixs sz x i)=ac (ae (x.get t)):=rfl
theorem Lk(n sz:Nat)(x i:Od):SO.foot C t g (.ixa n sz x i)=ap:=rfl
theorem Pp(ag:Bool)(n sz:Nat)(x i:Od):SO.foot C t g (.ix ag n sz x i)=ap:=rfl
theorem Lh(x:Od)(i:Nat):SO.foot C t g (.ext x i)=ap:=rfl
theorem Lm(x:Od):SO.foot C t g (.len .slice x)=ap:=rfl
theorem Lc(sz bt:Nat)(x y:Od):SO.foot C t g (.app sz bt x y)=ac (ae (x.get t)++ae (y.get t)):=rfl
theorem Lg(sz:Nat)(x y:Od):SO.foot C t g (.cpy sz x y)=ac (ae (x.get t)++ae (y.get t)):=rfl
theorem Ps(x y:Od):SO.foot C t g (.mx x y)=ac (ae (x.get t)++ae (y.get t)):=rfl
theorem Pq(x y:Od):SO.foot C t g (.mn x y)=ac (ae (x.get t)++ae (y.get t)):=rfl
end looks
theorem sf:type_of% (R3 @Pr <|R3 @HB <|R3 @DY <|R3 @Le <|R3 @DZ <|R3 @Lf <|R3 @Hz <|R3 @D1 <|R3 @HA <|R3 @Ld <|R3 @Po <|R3 @Lp <|R3 @Hy <|R3 @Ln <|R3 @Lo <|R3 @Lq <|R3 @Li <|R3 @Lj <|R3 @Ll <|R3 @Lk <|R3 @Pp <|R3 @Lh <|R3 @Lm <|R3 @Lc <|R3 @Lg <|R3 @Ps <|@Pq) :=
 R3 @Pr <|R3 @HB <|R3 @DY <|R3 @Le <|R3 @DZ <|R3 @Lf <|R3 @Hz <|R3 @D1 <|R3 @HA <|R3 @Ld <|R3 @Po <|R3 @Lp <|R3 @Hy <|R3 @Ln <|R3 @Lo <|R3 @Lq <|R3 @Li <|R3 @Lj <|R3 @Ll <|R3 @Lk <|R3 @Pp <|R3 @Lh <|R3 @Lm <|R3 @Lc <|R3 @Lg <|R3 @Ps <|@Pq
theorem Bd(k:IntKind)(x:Int):(AV.int k x).cells=[.int k x]:=rfl
theorem y9(x:Bool):(AV.bool x).cells=[.bool x]:=rfl
theorem Bc(cs:List AV):(AV.agg cs).cells=cs:=rfl
theorem y_:AV.nils.cells=[.nils]:=rfl
theorem Bt(k:IntKind)(x:Int):(AV.int k x).isTup=false:=rfl
theorem zJ(x:Bool):(AV.bool x).isTup=false:=rfl
theorem Bs(cs:List AV):(AV.agg cs).isTup=false:=rfl
theorem zK:AV.nils.isTup=false:=rfl
theorem wW(id ep off len:Nat)(lim:Option Nat):(AV.hsl id ep off len lim).cells=[.hsl id ep off len lim]:=rfl
theorem xh(id ep off len:Nat)(lim:Option Nat):(AV.hsl id ep off len lim).isTup=false:=rfl
theorem Be(t s:Nat)(rows:List (List AV)):(AV.tsl t s rows).cells=[.tsl t s rows]:=rfl
theorem Bu(t s:Nat)(rows:List (List AV)):(AV.tsl t s rows).isTup=false:=rfl
theorem BZ(x:AV)(g:G)(h:x.isTup=false):xW x g=.upd (.hptr g.nx 0 0 0) (g.new (VG x.cells.length [x.cells])):=by simp only[xW,h,ay]
theorem He(sz:Nat)(zero:List AV)(g:G):Kr sz 0 zero [] [] g=.upd (.hsl g.nx 0 0 0 none) (g.new (VG sz [])):=rfl
theorem Hf(sz:Nat)(zero:List AV)(v:AV)(g:G)(hl:v.cells.length=sz)(ht:v.isTup=false) :
  Kr sz 1 zero [0] [v] g=.upd (.hsl g.nx 0 0 1 none) (g.new (VG sz [v.cells])):=by
 subst hl;have:Nat.beq (bz v.cells) v.cells.length=true:=by rw[ay];exact SQ _
 have h2:iG v.cells.length [zero] [(0,v)]=some [v.cells]:=by simp only[iG,ht,aa,ay,gV,notb_eq];rw[show Nat.beq v.cells.length v.cells.length=true from SQ _];rfl
 show (match iG v.cells.length [zero] [(0,v)] with|some rows=>OR.upd (.hsl g.nx 0 0 1 none) (g.new (VG v.cells.length rows))|none=>.fail)=_;rw[h2]
theorem gI(row:List AV)(off:Nat)(cs:List AV):bw row off cs=if off+cs.length<=row.length then some (row.take off++(cs++row.drop (off+cs.length))) else none:=by
 simp only[bw,ay,aa,SS,gV,bh,bg]
 split
 ·rename_i h
  split
  ·rename_i c;simp only[T2]at h;rw[List.set_eq_take_append_cons_drop,Sb (by omega)];rfl
  ·rfl
 ·rfl
theorem Pi(a:AV)(l:List AV):KV (.tup (a::l)) 0=.val a:=rfl
theorem Pj(a b:AV)(l:List AV):KV (.tup (a::b::l)) 1=.val b:=rfl
theorem Pk(a b c:AV)(l:List AV):KV (.tup (a::b::c::l)) 2=.val c:=rfl
theorem K6(ag:Bool)(n fo:Nat)(cs:List AV):Qi ag n fo (.agg cs)=orV (bT ag n cs fo):=rfl
theorem BC{n:Nat}{row:List AV}{off:Nat}:bT true (n+1) row off=if off+(n+1)<=row.length then some (.agg ((row.drop off).take (n+1))) else none:=by
 split
 ·rename_i h;exact EH h
 ·rename_i h;simp only[bT,bh,bg,ay,SL,UZ,aa];rw[Sa];intro e;have:=Tp e;omega
theorem Df(zero:List AV)(pl:List (Nat×Nat))(vs:List AV):wO zero pl vs=match eH zero (pl.zip vs) with|some cs=>.val (.agg cs)|none=>.fail:=rfl
theorem Bn(cs:List AV):eH cs []=some cs:=rfl
theorem zt(cs:List AV)(off size:Nat)(v:AV)(rest:List ((Nat×Nat)×AV))(hl:v.cells.length=size)(ht:v.isTup=false) :
  eH cs (((off,size),v)::rest)=match bw cs off v.cells with|some cs=>eH cs rest|none=>none:=by
 subst hl;have:Nat.beq (bz v.cells) v.cells.length=true:=by rw[ay];exact SQ _
 simp only[eH,this,ht,notb_eq,UV,UQ]
 rfl
theorem MH(ag:Bool)(n a:Nat)(r:List SR)(t:T)(g:G)(K:List AV->Prop):xk (.cell ag n a::r) t g K=match rF ag n (tat t a) g with|.val v=>xk r t g λvs=>K (v::vs)|_=>False:=rfl
theorem wc(a b:AV)(l:List AV):jT (a::b::l)=.tup (a::b::l):=rfl
theorem sy:type_of% (R3 @Df <|R3 @Bn <|R3 @zt <|R3 @MH <|R3 @Uw.{0,0} <|R3 @List.zip_nil_left.{0,0} <|R3 @Iu <|R3 @PP <|R3 @Np <|R3 @No <|R3 @MS <|R3 @Im <|R3 @HM <|R3 @HL <|R3 @bumpG_h <|R3 @bumpG_nx <|R3 @bumpG_lg <|R3 @true_and <|R3 @and_true <|R3 @Cs <|R3 @ox <|R3 @LR <|R3 @setLog_h <|R3 @setLog_nx <|R3 @setLog_lg <|R3 @Py <|R3 @Bd <|R3 @y9 <|R3 @Bc <|R3 @y_ <|R3 @Bt <|R3 @zJ <|R3 @Bs <|R3 @zK <|
 R3 @wW <|R3 @xh <|R3 @Be <|R3 @Bu <|R3 @BZ <|R3 @He <|R3 @Hf <|R3 @gI <|R3 @Pi <|R3 @Pj <|R3 @Pk <|
 R3 @K6 <|R3 @BC <|R3 @wc <|R3 @bL <|R3 @ay <|R3 @SJ.{0} <|R3 @T8.{0} <|R3 @Vp.{0} <|
 R3 @Vz.{0} <|R3 @Vo.{0} <|R3 @Uz.{0} <|R3 @Sd.{0} <|R3 @Sf.{0} <|R3 @Su.{0} <|R3 @Uk.{0} <|R3 @U4.{0} <|
 R3 @SU <|R3 @RW <|R3 @e_ <|R3 @cM <|R3 @xN <|@nI) :=
 R3 @Df <|R3 @Bn <|R3 @zt <|R3 @MH <|R3 @Uw.{0,0} <|R3 @List.zip_nil_left.{0,0} <|R3 @Iu <|R3 @PP <|R3 @Np <|R3 @No <|R3 @MS <|R3 @Im <|R3 @HM <|R3 @HL <|R3 @bumpG_h <|R3 @bumpG_nx <|R3 @bumpG_lg <|R3 @true_and <|R3 @and_true <|R3 @Cs <|R3 @ox <|R3 @LR <|R3 @setLog_h <|R3 @setLog_nx <|R3 @setLog_lg <|R3 @Py <|R3 @Bd <|R3 @y9 <|R3 @Bc <|R3 @y_ <|R3 @Bt <|R3 @zJ <|R3 @Bs <|R3 @zK <|
 R3 @wW <|R3 @xh <|R3 @Be <|R3 @Bu <|R3 @BZ <|R3 @He <|R3 @Hf <|R3 @gI <|R3 @Pi <|R3 @Pj <|R3 @Pk <|
 R3 @K6 <|R3 @BC <|R3 @wc <|R3 @bL <|R3 @ay <|R3 @SJ.{0} <|R3 @T8.{0} <|R3 @Vp.{0} <|
 R3 @Vz.{0} <|R3 @Vo.{0} <|R3 @Uz.{0} <|R3 @Sd.{0} <|R3 @Sf.{0} <|R3 @Su.{0} <|R3 @Uk.{0} <|R3 @U4.{0} <|
 R3 @SU <|R3 @RW <|R3 @e_ <|R3 @cM <|R3 @xN <|@nI
end
end Hx
end
section
namespace Hx
open Go
noncomputable def fm(h:H):List Nat->H
 |[]=>.nil
 |id::l=>(fm h l).put id (h.get id)
noncomputable def eX(h h':H):List Nat->H
 |[]=>h
 |id::l=>(eX h h' l).put id (h'.get id)
theorem CF(k:Nat):H.get (Tr.nil:H) k=.none:=by simp[H.get,R1]
theorem gU(h:H)(k:Nat):∀l,(fm h l).get k=if k∈l then h.get k else .none
 |[]=>by simp[fm,CF]
 | id::l=>by
  rw[fm,RW,gU h k l]
  by_cases hk:k=id
  ·subst hk;simp
  ·simp[hk]
theorem cX(h h':H)(k:Nat):∀l,(eX h h' l).get k=if k∈l then h'.get k else h.get k
 |[]=>by simp[eX]
 | id::l=>by
  rw[eX,RW,cX h h' k l]
  by_cases hk:k=id
  ·subst hk;simp
  ·simp[hk]
noncomputable def Jm(C:Cfg)(n f:Nat):Nat->List AV->G->OR:=λd as g =>
 match (sem C n).call d f as ⟨fm g.h (as.flatMap (aC g.h aE)),g.nx,[]⟩ with
 |.ok v g'=>.upd v ⟨eX g.h g'.h g'.lg,g'.nx,g'.lg++g.lg⟩
 |.fail=>.fail
theorem HE{C:Cfg}(hC:CfgOk C){n f:Nat}:ExtOk C f (Jm C n f):=by
 have hok:=xp hC n;have wfr:∀(g:G) (ids:List Nat),WF g->WF ⟨fm g.h ids,g.nx,[]⟩:=by
  intro g ids hwf id hid;show (fm g.h ids).get id=.none;rw[gU]
  split
  ·exact hwf id hid
  ·rfl
 have sh:∀d as g,Jm C n f d as g=.fail\/∃v g',(sem C n).call d f as ⟨fm g.h (as.flatMap (aC g.h aE)),g.nx,[]⟩=.ok v g' /\
   Jm C n f d as g=.upd v ⟨eX g.h g'.h g'.lg,g'.nx,g'.lg++g.lg⟩:=by
  intro d as g;unfold Jm
  split
  ·rename_i v g' h;exact .inr ⟨v,g',h,rfl⟩
  ·exact .inl rfl
 refine⟨λd as g hwf=>?_,λd as g y hy=>?_,λA bd w γ hg nx g as vs hr hwf hx hf hv hne cs=>?_⟩
 ·rcases sh d as g with h|⟨v,g',h1,h2⟩
  ·rw[h];exact Mon.refl g
  ·rw[h2];have m:=hok.mon.call _ _ _ _ _ _ h1 (wfr g _ hwf);obtain⟨nw,a,b,c⟩:=m.new;have ha:g'.lg=nw:=by simpa using a
   refine⟨m.nx,⟨g'.lg,rfl,λid hid=>?_,λid hid=>?_⟩,λhw id hid=>?_⟩
   ·show (eX _ _ _).get id=_;rw[cX,Sa hid]
   ·obtain⟨c1,c2⟩:=c id (by rw[<-ha];exact hid);refine⟨c1,λhn=>c2 ?_⟩;show (fm _ _).get id=_;rw[gU,hn];simp
   ·show (eX _ _ _).get id=_;have hid:g'.nx<=id:=hid;have hnx:g.nx<=g'.nx:=m.nx;rw[cX,Sa]
    ·exact hw id (by omega)
    ·intro hl;have:=(c id (by rw[<-ha];exact hl)).1;omega
 ·rcases sh d as g with h|⟨v,g',h1,h2⟩
  ·rw[h]at hy;cases hy
  ·rw[h2]at hy;cases hy
 ·rcases sh (bd+1) as g with h|⟨v,g',h1,h2⟩
  ·exact absurd h hne
  ·rw[h2]at hf ⊢;obtain⟨he,run⟩:=hok.call _ _ _ _ _ _ h1;obtain⟨u,w',γ',hg',fin,rv,out⟩:=run A w γ hg nx vs hr (λid hn=>by
     have hn':(fm g.h (as.flatMap (aC g.h aE))).get id≠.none:=hn;show hg id=(fm _ _).get id;rw[gU]at hn' ⊢
     split at hn'
     ·rename_i hm;rw[Sb hm];exact hx id hm hn'
     ·exact absurd rfl hn') (wfr g _ hwf) (λid h1 h2=>hf id h1 h2) hv .normal cs (.inl rfl)
   refine⟨u,w',γ',hg',⟨fin.rel,fin.stp,?_⟩,rv,.inr ⟨he,out⟩⟩;obtain⟨nw,a,b,c⟩:=fin.new;have ha:g'.lg=nw:=by simpa using a
   subst ha;refine⟨g'.lg,rfl,λid hid=>?_,c⟩;show hg' id=(eX _ _ _).get id;rw[cX,Sb hid];exact b id hid
end Hx
end
section
namespace Hx
open Go
noncomputable def zF(C:Cfg)(f:Nat):Nat->List AV->G->OR:=λd xs g =>
 match (I C).call d f xs ⟨fm g.h (xs.flatMap (aC g.h aE)),g.nx,[]⟩ with
 |.ok v g'=>.upd v ⟨eX g.h g'.h g'.lg,g'.nx,g'.lg++g.lg⟩
 |.fail=>.fail
theorem N8{C:Cfg}(hC:CfgOk C){f:Nat}:ExtOk C f (zF C f):=by
 have wfr:∀(g:G) (ids:List Nat),WF g->WF ⟨fm g.h ids,g.nx,[]⟩:=by
  intro g ids hwf id hid;show (fm g.h ids).get id=.none;rw[gU]
  split
  ·exact hwf id hid
  ·rfl
 have sh:∀d xs g,zF C f d xs g=.fail\/∃n v g',(sem C n).call d f xs ⟨fm g.h (xs.flatMap (aC g.h aE)),g.nx,[]⟩=.ok v g' /\
   zF C f d xs g=.upd v ⟨eX g.h g'.h g'.lg,g'.nx,g'.lg++g.lg⟩:=by
  intro d xs g;unfold zF
  split
  ·rename_i v g' h;obtain⟨n,hn⟩:=Kf h;exact .inr ⟨n,v,g',hn,rfl⟩
  ·exact .inl rfl
 refine⟨λd xs g hwf=>?_,λd xs g y hy=>?_,λA bd w γ hg nx g xs vs hr hwf hx hf hv hne cs=>?_⟩
 ·rcases sh d xs g with h|⟨n,v,g',h1,h2⟩
  ·rw[h];exact Mon.refl g
  ·rw[h2];have hok:=xp hC n;have m:=hok.mon.call _ _ _ _ _ _ h1 (wfr g _ hwf);obtain⟨nw,a,b,c⟩:=m.new;have ha:g'.lg=nw:=by simpa using a
   refine⟨m.nx,⟨g'.lg,rfl,λid hid=>?_,λid hid=>?_⟩,λhw id hid=>?_⟩
   ·show (eX _ _ _).get id=_;rw[cX,Sa hid]
   ·obtain⟨c1,c2⟩:=c id (by rw[<-ha];exact hid);refine⟨c1,λhn=>c2 ?_⟩;show (fm _ _).get id=_;rw[gU,hn];simp
   ·show (eX _ _ _).get id=_;have hid:g'.nx<=id:=hid;have hnx:g.nx<=g'.nx:=m.nx;rw[cX,Sa]
    ·exact hw id (by omega)
    ·intro hl;have:=(c id (by rw[<-ha];exact hl)).1;omega
 ·rcases sh d xs g with h|⟨n,v,g',h1,h2⟩
  ·rw[h]at hy;cases hy
  ·rw[h2]at hy;cases hy
 ·rcases sh (bd+1) xs g with h|⟨n,v,g',h1,h2⟩
  ·exact absurd h hne
  ·rw[h2]at hf ⊢;have hok:=xp hC n;obtain⟨he,run⟩:=hok.call _ _ _ _ _ _ h1;obtain⟨u,w',γ',hg',fin,rv,out⟩:=run A w γ hg nx vs hr (λid hn=>by
     have hn':(fm g.h (xs.flatMap (aC g.h aE))).get id≠.none:=hn;show hg id=(fm _ _).get id;rw[gU]at hn' ⊢
     split at hn'
     ·rename_i hm;rw[Sb hm];exact hx id hm hn'
     ·exact absurd rfl hn') (wfr g _ hwf) (λid h1 h2=>hf id h1 h2) hv .normal cs (.inl rfl)
   refine⟨u,w',γ',hg',⟨fin.rel,fin.stp,?_⟩,rv,.inr ⟨he,out⟩⟩;obtain⟨nw,a,b,c⟩:=fin.new;have ha:g'.lg=nw:=by simpa using a
   subst ha;refine⟨g'.lg,rfl,λid hid=>?_,c⟩;show hg' id=(eX _ _ _).get id;rw[cX,Sb hid];exact b id hid
theorem HF{C:Cfg}(hC:CfgOk C){d f:Nat}{xs:List AV}{g:G}{K K':AV->G->Prop}{D D2:ADf->Prop}
  (hi:∀k∈xs.flatMap (aC g.h aE),k<g.nx)
  (hs:(orF ((I C).call d f xs ⟨fm g.h (xs.flatMap (aC g.h aE)),g.nx,[]⟩)).sat K' ⟨fm g.h (xs.flatMap (aC g.h aE)),g.nx,[]⟩ D2)
  (hk:∀v g'',K' v g''->g.nx<=g''.nx->(∀k∈g''.lg,k<g''.nx/\(k<g.nx->k∈xs.flatMap (aC g.h aE)))->(∀k,k ∉ g''.lg->g''.h.get k=(fm g.h (xs.flatMap (aC g.h aE))).get k)->K v ⟨eX g.h g''.h g''.lg,g''.nx,g''.lg++g.lg⟩) :
  (zF C f d xs g).sat K g D:=by
 have wf:WF ⟨fm g.h (xs.flatMap (aC g.h aE)),g.nx,[]⟩:=λid hid=>by show (fm g.h (xs.flatMap (aC g.h aE))).get id=.none;rw[gU,Sa];intro h;have h1:=hi id h;have h2:g.nx<=id:=hid;omega
 unfold zF;cases hc:(I C).call d f xs ⟨fm g.h (xs.flatMap (aC g.h aE)),g.nx,[]⟩ with
 |fail=>rw[hc]at hs;exact hs.elim
 | ok v g' =>
  rw[hc]at hs;obtain⟨n,hn⟩:=Kf hc;have m:=(xp hC n).mon.call _ _ _ _ _ _ hn wf;obtain⟨nw,a,b,c⟩:=m.new;have ha:g'.lg=nw:=by simpa using a
  subst ha;refine hk v g' hs m.nx (λk hk=>⟨(c k hk).1,λhlt=>?_⟩) b
  by_cases hin:k∈xs.flatMap (aC g.h aE)
  ·exact hin
  ·have:g.nx<=k:=(c k hk).2 (by show (fm _ _).get k=_;rw[gU,Sa hin]);omega
end Hx
end
