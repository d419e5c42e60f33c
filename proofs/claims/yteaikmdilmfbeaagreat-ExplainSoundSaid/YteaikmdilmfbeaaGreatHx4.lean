/- A part of the proof: what the functions of the chapter compute. -/
import Derived.Orders
import Derived.Below
import Derived.Laws.Externs
import Derived.Test.YteaikmdilmfbeaaGreatHx3
set_option linter.all false
set_option maxRecDepth 20000
set_option maxHeartbeats 8000000
namespace Hx
open Go
noncomputable section
variable {g g':G}{v x:AV}{b n i d nt m c B:Nat}{t t':T}{P:Program}{rd:Option Nat}{df:List ADf}{pm:List Nat}{tmps:Array Value}{C:Cfg}{assign body:Code}{Q:QT}{K:AV->G->Prop}{D:ADf->Prop}
section
variable {K V:Type}
open Classical in
noncomputable def ov(S:Nat->Prop)(wr:Nat->K->Prop)(val:Nat->K->V)(base:K->V):Nat->K->V
 |0,k=>base k
 |i+1,k=>if S i/\wr i k then val (i+1) k else ov S wr val base i k
variable {S S':Nat->Prop}{wr:Nat->K->Prop}{val:Nat->K->V}{base:K->V}{k:K}
theorem J6(h:∀j,j<n->wr j k->(S j↔S' j)):ov S wr val base n k=ov S' wr val base n k:=by
 induction n with
 |zero=>rfl
 | succ n ih =>
  simp only[ov];rw[ih λj hj=>h j (by omega)]
  by_cases hw:wr n k
  ·have hS:=h n (by omega) hw
   by_cases hs:S n
   ·rw[Qw ⟨hs,hw⟩,Qw ⟨hS.1 hs,hw⟩]
   ·rw[Qu (λhh=>hs hh.1),Qu (λhh=>hs (hS.2 hh.1))]
  ·rw[Qu (λhh=>hw hh.2),Qu (λhh=>hw hh.2)]
theorem yx(hm:m<=n)(h:∀j,m<=j->j<n->S j->¬wr j k):ov S wr val base n k=ov S wr val base m k:=by
 induction n with
 | zero=>have:m=0:=by omega
         subst this;rfl
 | succ n ih =>
  by_cases hmn:m=n+1
  ·subst hmn;rfl
  ·simp only[ov];rw[Qu (λhh=>h n (by omega) (by omega) hh.1 hh.2)];exact ih (by omega) λj h1 h2=>h j h1 (by omega)
theorem J4(hi:i<n)(hw:wr i k)(h:∀j,i<j->j<n->S j->¬wr j k):ov (λj=>S j\/j=i) wr val base n k=val (i+1) k:=by
 rw[yx (m:=i+1) (by omega) (λj h1 h2 h3=>by
  rcases h3 with h3|h3
  ·exact h j (by omega) h2 h3
  ·omega)]
 simp[ov,hw]
theorem Be(hw:¬wr i k):ov (λj=>S j\/j=i) wr val base n k=ov S wr val base n k:=by
 refine J6 λj _ hj=>?_;constructor
 ·rintro (h|h)
  ·exact h
  ·subst h;exact absurd hj hw
 ·exact .inl
theorem J5(hi:i<=n)(keep:∀j,j<n->¬wr j k->val (j+1) k=val j k)(h:∀j,j<n->wr j k->(S j↔j<i)) :
  ((∃j,j<i/\wr j k)/\ov S wr val base n k=val i k)\/((∀j,j<i->¬wr j k)/\ov S wr val base n k=base k/\val i k=val 0 k):=by
 rw[yx hi (λj h1 h2 h3 h4=>by have:=(h j h2 h4).1 h3;omega)];have key:∀m,m<=i->((∃j,j<m/\wr j k)/\ov S wr val base m k=val m k)\/((∀j,j<m->¬wr j k)/\ov S wr val base m k=base k/\val m k=val 0 k):=by
  intro m
  induction m with
  |zero=>intro _;exact .inr ⟨λj hj=>absurd hj (Nat.not_lt_zero j),rfl,rfl⟩
  | succ m ih =>
   intro hm
   by_cases hw:wr m k
   ·left;refine⟨⟨m,by omega,hw⟩,?_⟩;simp only[ov];rw[Qw ⟨(h m (by omega) hw).2 (by omega),hw⟩]
   ·simp only[ov];rw[Qu (λhh=>hw hh.2)];rcases ih (by omega) with⟨⟨j,h1,h2⟩,h3⟩|⟨h1,h2,h3⟩
    ·left;exact⟨⟨j,by omega,h2⟩,by rw[h3,keep m (by omega) hw]⟩
    ·right;refine⟨λj hj=>?_,h2,by rw[keep m (by omega) hw,h3]⟩
     by_cases hjm:j=m
     ·subst hjm;exact hw
     ·exact h1 j (by omega)
 exact key i (Qq _)
end
theorem vy(es:List Edge)(acc:List Nat):∀(m i:Nat),
  (es.foldl (λm e=>ak (Region.binds .any e) (m ||| 2 ^ e.on ||| acc.getD e.on 0) m) m).testBit i=true ->
  m.testBit i=true\/∃e∈es,Region.binds .any e=true/\(e.on=i\/(acc.getD e.on 0).testBit i=true):=by
 induction es with
 |nil=>intro m i h;exact .inl h
 | cons e es ih =>
  intro m i h;simp only[SN]at h;rcases ih _ i h with h|⟨e',h1,h2,h3⟩
  ·rw[aa]at h
   split at h
   ·rename_i hb;simp only[Nat.testBit_or,Rg]at h;rcases h with (h|h)|h
    ·exact .inl h
    ·right;refine⟨e,Rv,hb,.inl ?_⟩;rw[Nat.testBit_two_pow]at h;simpa using h
    ·exact .inr ⟨e,Rv,hb,.inr h⟩
   ·exact .inl h
  ·exact .inr ⟨e',Q9 _ h1,h2,h3⟩
theorem yE{S:Nat->Prop}{all:List Oper}(hS:∀j o,all[j]?=some o->S j->∀e∈o.after.toList,Region.binds .any e=true->S e.on) :
  ∀(ops:List Oper) (acc:List Nat) (pre:List Oper),all=pre++ops->pre.length=acc.length->(∀j i,(acc.getD j 0).testBit i=true->S j->S i) ->
   ∀j i,((bm ops acc).getD j 0).testBit i=true->S j->S i:=by
 intro ops
 induction ops with
 |nil=>intro acc pre _ _ h;exact h
 | cons o rest ih =>
  intro acc pre k a h;simp only[bm];refine ih _ (pre++[o]) (by simp[k]) (by simp[a]) λj i hj hSj=>?_
  by_cases hlt:j<acc.length
  ·refine h j i ?_ hSj;rw[R1,QK hlt]at hj;rw[R1];exact hj
  ·by_cases hje:j=acc.length
   ·subst hje;rw[R1,QL (Qq _)]at hj;simp only[Rm,List.getElem?_cons_zero,Qz]at hj;have ho:all[acc.length]?=some o:=by rw[k,<-a];simp
    rcases vy _ acc _ _ hj with h0|⟨e,h1,h2,h3⟩
    ·simp at h0
    ·have b:=hS _ o ho hSj e h1 h2;rcases h3 with h3|h3
     ·rw[<-h3];exact b
     ·exact h _ _ h3 b
   ·rw[R1,Ri (by simp;omega)]at hj;simp at hj
theorem uF{α:Type}{f:Nat->α->Nat->α->Bool}{x:α}:∀{l:List α} {j0:Nat},fy f i x j0 l=true->∀(j:Nat) y,l[j]?=some y->f i x (j0+j) y=true:=by
 intro l
 induction l with
 |nil=>intro j0 _ j y h;simp at h
 | cons a l ih =>
  intro j0 h j y k;simp only[fy,Qt]at h;cases j with
  |zero=>simp at k;subst k;exact h.1
  | succ j =>
   have:=ih h.2 j y (by simpa using k);rw[show j0+(j+1)=j0+1+j by omega];exact this
theorem tJ{α:Type}{f:Nat->α->Nat->α->Bool}:∀{l:List α} {i0:Nat},jT f i0 l=true->∀(i j:Nat) x y,i<j->l[i]?=some x->l[j]?=some y->f (i0+i) x (i0+j) y=true:=by
 intro l
 induction l with
 |nil=>intro i0 _ i j x y _ h;simp at h
 | cons a l ih =>
  intro i0 h i j x y b hx k;simp only[jT,Qt]at h;cases j with
  |zero=>omega
  | succ j =>
   cases i with
   | zero =>
    simp at hx;subst hx;have:=uF h.1 j y (by simpa using k);rw[show i0+(j+1)=i0+1+j by omega];simpa using this
   | succ i =>
    have:=ih h.2 i j x y (by omega) (by simpa using hx) (by simpa using k);rw[show i0+(i+1)=i0+1+i by omega,show i0+(j+1)=i0+1+j by omega];exact this
theorem y7:∀{l:List Oper} {i0:Nat},nU i0 l=true->∀(i:Nat) o,l[i]?=some o->∀e∈o.after.toList,Region.binds .any e=true->e.on<i0+i:=by
 intro l
 induction l with
 |nil=>intro i0 _ i o h;simp at h
 | cons a l ih =>
  intro i0 h i o ho e he hb;simp only[nU,Qt]at h;cases i with
  | zero =>
   simp at ho;subst ho;have:=QB.1 h.1 e he;simp only[hb,Bool.not_true,Tp,Rr]at this;simpa using this
  | succ i =>
   have:=ih h.2 i o (by simpa using ho) e he hb;omega
theorem xY:∀{l:List Oper} {i0:Nat},lZ pm i0 l=true->∀(i:Nat) o,l[i]?=some o->∀j b,o.guard=some (j,b)->(pm.getD (i0+i) 0).testBit j=true:=by
 intro l
 induction l with
 |nil=>intro i0 _ i o h;simp at h
 | cons a l ih =>
  intro i0 h i o ho j b hg;simp only[lZ,Qt]at h;cases i with
  | zero =>
   simp at ho;subst ho;have:=h.1;simp only[hg]at this;simpa using this
  | succ i =>
   have:=ih h.2 i o (by simpa using ho) j b hg;rw[show i0+(i+1)=i0+1+i by omega];exact this
def cnt(p:Nat->Bool):Nat->Nat
 |0=>0
 |n+1=>cnt p n+(if p n then 1 else 0)
theorem IR{p:Nat->Bool}:∀{n:Nat},cnt p n=0->∀i,i<n->p i=false:=by
 intro n
 induction n with
 |zero=>intro _ i hi;omega
 | succ n ih =>
  intro h i hi;simp only[cnt]at h
  by_cases hin:i=n
  ·subst hin;cases hp:p i
   ·rfl
   ·simp[hp]at h
  ·exact ih (by omega) i (by omega)
theorem Ng{p q:Nat->Bool}(h:∀i,q i=true->p i=true):∀{n i:Nat},i<n->p i=true->q i=false->cnt q n<cnt p n:=by
 have k:∀n,cnt q n<=cnt p n:=by
  intro n
  induction n with
  |zero=>exact Qq _
  | succ n ih =>
   simp only[cnt];have:=h n;cases hq:q n
   ·cases p n<;>simp<;>omega
   ·simp[this hq];omega
 intro n
 induction n with
 |zero=>intro i hi;omega
 | succ n ih =>
  intro i hi hp hq;simp only[cnt]
  by_cases hin:i=n
  ·subst hin;simp[hp,hq];have:=k i;omega
  ·have:=ih (by omega) hp hq;have h2:=h n;cases hq':q n
   ·cases p n<;>simp<;>omega
   ·simp[h2 hq'];omega
section
variable {C:Cfg}{t t':T}{g:G}{ih:IH}
theorem Eb{x:Operand}{s:Stg (T->AV)}(h:aN C x=some s)(hx:∀n,x=.tmp n->t.get AV.undef n=t'.get AV.undef n):s.run t=s.run t':=by
 cases x with
 |tmp n=>simp[aN]at h;subst h;simpa using hx n rfl
 | const v =>
  simp only[aN]at h
  split at h
  ·injection h with h;subst h;rfl
  ·cases h
 | global gl =>
  simp only[aN]at h
  split at h
  ·injection h with h;subst h;rfl
  ·cases h
 |func f=>simp[aN]at h;subst h;rfl
def zx(C:Cfg)(t t':T)(xs:List Operand):Prop:=∀x∈xs,∀s,aN C x=some s->s.run t=s.run t'
theorem cF:∀{xs:List Operand} {vs:Stg (T->List AV)},bP C xs=some vs->zx C t t' xs->vs.run t=vs.run t':=by
 intro xs
 induction xs with
 |nil=>intro vs h _;simp[bP]at h;subst h;rfl
 | cons x xs ih =>
  intro vs h hx;simp only[bP]at h
  split at h
  ·rename_i a as h1 h2;injection h with h;subst h;simp only[hx x Rv a h1,ih h2 λy hy=>hx y (Q9 _ hy)]
  ·cases h
variable {op:Op}{f:Stg SFn}
theorem xr{b:Builtin}{argTypes:Array TypeId}{args:List Operand}(h:cZ C b argTypes args=some f)(hx:zx C t t' args):f.run t g=f.run t' g:=by
 unfold cZ at h
 split at h
 ·split at h
  ·rename_i s _ hs;injection h with h;subst h;simp only[hx _ (by simp) _ hs]
  ·cases h
 ·split at h
  ·rename_i sa sx _ _ ha hb;have e1:=hx _ (by simp) _ ha;have e2:=hx _ (by simp) _ hb
   repeat' (first|split at h| (rw[aa]at h;split at h))
   all_goals first| (cases h;done)| (injection h with h;subst h;simp only[e1,e2])
  ·cases h
 ·split at h
  ·rename_i sa sx _ ha hb;have e1:=hx _ (by simp) _ ha;have e2:=hx _ (by simp) _ hb
   repeat' (first|split at h)
   all_goals first| (cases h;done)| (injection h with h;subst h;simp only[e1,e2])
  ·cases h
 ·split at h
  ·rename_i s _ hs;have e1:=hx _ (by simp) _ hs
   repeat' (first|split at h)
   all_goals first| (cases h;done)| (injection h with h;subst h;simp only[e1])
  ·cases h
 ·split at h
  ·rename_i s _ hs;have e1:=hx _ (by simp) _ hs
   repeat' (first|split at h| (rw[aa]at h;split at h))
   all_goals first| (cases h;done)| (injection h with h;subst h;simp only[e1])
  ·cases h
 ·split at h
  ·rename_i sa sx ha hb;injection h with h;subst h;simp only[hx _ (by simp) _ ha,hx _ (by simp) _ hb]
  ·cases h
 ·split at h
  ·rename_i sa sx ha hb;injection h with h;subst h;simp only[hx _ (by simp) _ ha,hx _ (by simp) _ hb]
  ·cases h
 ·cases h
theorem Ec(h:cm C op=some f)(hx:zx C t t' op.operands.toList):f.run t g=f.run t' g:=by
 cases op<;>simp only[cm]at h<;>first| (cases h;done)|skip
 case call c =>
  obtain⟨callee,args,argTypes⟩:=c;cases callee<;>first| (cases h;done)|skip
  dsimp only at h;exact xr h λx hm=>hx x (by simpa [Op.operands,Call.operands] using hm)
 case move x =>
  split at h
  ·rename_i s hs;injection h with h;subst h;simp only[hx _ (by simp[Op.operands]) _ hs]
  ·cases h
 case assign x =>
  split at h
  ·rename_i s hs;injection h with h;subst h;simp only[hx _ (by simp[Op.operands]) _ hs]
  ·cases h
 case pick c x y =>
  split at h
  ·rename_i sc sx sy hc h1 h2;injection h with h;subst h;simp only[hx _ (by simp[Op.operands]) _ hc,hx _ (by simp[Op.operands]) _ h1,hx _ (by simp[Op.operands]) _ h2]
  ·cases h
 case alloc ty =>
  split at h
  ·injection h with h;subst h;rfl
  ·cases h
 case box ty x =>
  split at h
  ·rename_i s hs;injection h with h;subst h;simp only[IG,hx _ (by simp[Op.operands]) _ hs]
  ·cases h
 case load ty x =>
  split at h
  ·rename_i s ag n hs v w;injection h with h;subst h;simp only[l_,hx _ (by simp[Op.operands]) _ hs]
  ·cases h
 case store ty x y =>
  split at h
  ·rename_i s u n hs hu w;injection h with h;subst h;simp only[nD,hx _ (by simp[Op.operands]) _ hs,hx _ (by simp[Op.operands]) _ hu]
  ·cases h
 case binOp op ty x y p =>
  split at h
  ·rename_i s u hs hu;injection h with h;subst h;simp only[hx _ (by simp[Op.operands]) _ hs,hx _ (by simp[Op.operands]) _ hu]
  ·cases h
 case unOp op ty x =>
  split at h
  ·rename_i s hs;injection h with h;subst h;simp only[hx _ (by simp[Op.operands]) _ hs]
  ·cases h
 case convert src dst x =>
  split at h
  ·rename_i s sd k hs o hk;injection h with h;subst h;simp only[hx _ (by simp[Op.operands]) _ hs]
  ·cases h
 case nilCheck x =>
  split at h
  ·rename_i s hs;injection h with h;subst h;simp only[hx _ (by simp[Op.operands]) _ hs]
  ·cases h
 case makeInterface ty x =>
  split at h
  ·cases h
  ·rename_i s d A hs hu;injection h with h;subst h;simp only[hx _ (by simp[Op.operands]) _ hs]
  ·cases h
 case makeSlice ty l c =>
  split at h
  ·rename_i e sl sc he hl hc
   split at h
   ·rw[aa]at h
    split at h
    ·injection h with h;subst h;simp only[gZ,hx _ (by simp[Op.operands]) _ hl,hx _ (by simp[Op.operands]) _ hc]
    ·cases h
   ·cases h
  ·cases h
 case fieldAddr ty x fi =>
  split at h
  ·rename_i s fo ft hs j
   split at h
   ·injection h with h;subst h;simp only[jF,hx _ (by simp[Op.operands]) _ hs]
   ·cases h
  ·cases h
 case field ty x fi =>
  split at h
  ·rename_i s fo ft hs j
   split at h
   ·injection h with h;subst h;simp only[hx _ (by simp[Op.operands]) _ hs]
   ·cases h
  ·cases h
 case indexAddr ty x ix =>
  split at h
  ·rename_i s i hs hi
   split at h
   ·split at h
    ·injection h with h;subst h;simp only[gI,hx _ (by simp[Op.operands]) _ hs,hx _ (by simp[Op.operands]) _ hi]
    ·cases h
   ·split at h
    ·injection h with h;subst h;simp only[l4,hx _ (by simp[Op.operands]) _ hs,hx _ (by simp[Op.operands]) _ hi]
    ·cases h
   ·cases h
  ·cases h
 case index ty x ix =>
  split at h
  ·rename_i s i hs hi
   split at h
   ·split at h
    ·injection h with h;subst h;simp only[te,hx _ (by simp[Op.operands]) _ hs,hx _ (by simp[Op.operands]) _ hi]
    ·cases h
   ·injection h with h;subst h;simp only[oB,hx _ (by simp[Op.operands]) _ hs,hx _ (by simp[Op.operands]) _ hi]
   ·cases h
  ·cases h
 case lookup ty x k ok =>
  split at h
  ·rename_i m kk kt et hm hk hu
   split at h
   ·injection h with h;subst h;simp only[dx,hx _ (by simp[Op.operands]) _ hm,hx _ (by simp[Op.operands]) _ hk]
   ·cases h
  ·cases h
 case mapUpdate ty m k x =>
  split at h
  ·rename_i sm sk sx kt et hm hk a hu;injection h with h;subst h;simp only[fk,hx _ (by simp[Op.operands]) _ hm,hx _ (by simp[Op.operands]) _ hk,hx _ (by simp[Op.operands]) _ a]
  ·cases h
 case insert ty m k x =>
  split at h
  ·rename_i sm sk sx kt et hm hk a hu;injection h with h;subst h;simp only[fk,hx _ (by simp[Op.operands]) _ hm,hx _ (by simp[Op.operands]) _ hk,hx _ (by simp[Op.operands]) _ a]
  ·cases h
 case mapEntry ty m k =>
  split at h
  ·rename_i sm sk kt et hm hk hu
   split at h
   ·injection h with h;subst h;simp only[fF,hx _ (by simp[Op.operands]) _ hm,hx _ (by simp[Op.operands]) _ hk]
   ·cases h
  ·cases h
 case entryStore ty m st x =>
  split at h
  ·rename_i sm ss sx hm hs a;injection h with h;subst h;simp only[ib,hx _ (by simp[Op.operands]) _ hm,hx _ (by simp[Op.operands]) _ hs,hx _ (by simp[Op.operands]) _ a]
  ·cases h
 case extract x i =>
  split at h
  ·rename_i s hs;injection h with h;subst h;simp only[hx _ (by simp[Op.operands]) _ hs]
  ·cases h
 case makeMap ty r =>
  cases r with
  |some r=>cases h
  | none =>
   dsimp only at h
   split at h
   ·injection h with h;subst h;rfl
   ·cases h
 case makeFunc fn fi ca =>
  cases fn with
  | func fx =>
   dsimp only at h
   split at h
   ·rename_i sa sc ha hc;injection h with h;subst h;have e1:=cF (t:=t) (t':=t') ha λx hm=>hx x (by simp[Op.operands]at hm ⊢;exact .inl hm);have e2:=cF (t:=t) (t':=t') hc λx hm=>hx x (by simp[Op.operands]at hm ⊢;exact .inr hm);simp only[e1,e2]
   ·cases h
  |_=>cases h
 case buildSlice ty len parts =>
  split at h
  ·rename_i e vs he b;have e1:=cF (t:=t) (t':=t') b λx hm=>hx x (by simpa [Op.operands] using hm)
   split at h
   ·rw[aa]at h
    split at h
    ·injection h with h;subst h;simp only[ia,e1]
    ·cases h
   ·cases h
  ·cases h
 case build ty parts =>
  split at h
  ·rename_i zero vs hz b;have e1:=cF (t:=t) (t':=t') b λx hm=>hx x (by simpa [Op.operands] using hm)
   split at h
   ·split at h
    ·split at h
     ·injection h with h;subst h;simp only[mU,e1]
     ·cases h
    ·cases h
   ·split at h
    ·injection h with h;subst h;simp only[mU,e1]
    ·cases h
   ·cases h
  ·cases h
 case slice ty x lo hi mx =>
  have optR:∀{y:Option Operand} {s:Stg (T->List AV)},(∀z,y=some z->z∈(Op.slice ty x lo hi mx).operands.toList)->bP C y.toList=some s->s.run t=s.run t':=by
   intro y s B hs;refine cF hs λz hm=>hx z (B z ?_);cases y with
   |none=>simp at hm
   |some q=>simp at hm;rw[hm]
  cases mx with
  | none =>
   dsimp only at h
   split at h
   ·rename_i e sx sl sh hu h1 h2 h3
    split at h
    ·injection h with h;subst h;simp only[hx _ (by simp[Op.operands]) _ h1,optR (by rintro z rfl;simp[Op.operands]) h2,optR (by rintro z rfl;simp[Op.operands]) h3]
    ·cases h
   ·rename_i n e sx sl sh hu h1 h2 h3
    split at h
    ·injection h with h;subst h;simp only[iH,hx _ (by simp[Op.operands]) _ h1,optR (by rintro z rfl;simp[Op.operands]) h2,optR (by rintro z rfl;simp[Op.operands]) h3]
    ·cases h
   ·cases h
  | some mx =>
   cases hi with
   |none=>cases h
   | some hi =>
    dsimp only at h
    split at h
    ·rename_i e sx sl sh sm he h1 h2 h3 h4
     split at h
     ·injection h with h;subst h;simp only[hx _ (by simp[Op.operands]) _ h1,optR (by rintro z rfl;simp[Op.operands]) h2,hx _ (by simp[Op.operands]) _ h3,hx _ (by simp[Op.operands]) _ h4]
     ·cases h
    ·cases h
theorem D_(hx:zx C t t' op.operands.toList):(bS C op).run ih d rd t g=(bS C op).run ih d rd t' g:=by
 unfold bS
 split
 rotate_left
 ·rfl
 rename_i f h;unfold cOp at h
 split at h
 ·rename_i fx args at2
  split at h
  ·rename_i vs k;have e1:=cF (t:=t) (t':=t') k λx hm=>hx x (by simp[Op.operands,Call.operands]at hm ⊢;exact .inr hm)
   repeat' (first|split at h| (rw[aa]at h;split at h))
   all_goals (injection h with h;subst h;simp only[e1])
  ·cases h
 ·rename_i fo args at2 b
  split at h
  ·rename_i fv vs a k;have e1:=cF (t:=t) (t':=t') k λx hm=>hx x (by simp[Op.operands,Call.operands]at hm ⊢;exact .inr hm);have e2:=hx fo (by simp[Op.operands,Call.operands]) _ a;injection h with h;subst h;simp only[e1,e2]
  ·cases h
 ·injection h with h;subst h;rfl
 ·rename_i fo args at2
  split at h
  ·rename_i fv vs a k;have e1:=cF (t:=t) (t':=t') k λx hm=>hx x (by simp[Op.operands,Call.operands]at hm ⊢;exact .inr hm);have e2:=hx fo (by simp[Op.operands,Call.operands]) _ a;injection h with h;subst h;simp only[e1,e2]
  ·cases h
 ·split at h
  ·rename_i s hs;injection h with h;subst h;exact Ec hs hx
  ·cases h
theorem B1(hh:g.h=g'.h)(hx:zx C t t' op.operands.toList):(aK C op).run t g=(aK C op).run t' g':=by
 have one:∀{x:Operand} {F:AV->Looks},x∈op.operands.toList ->
   (match aN C x with|some a=>(⟨λt _=>F (a.run t)⟩:Stg (T->G->Looks))|none=>⟨λ_ _=>bT⟩).run t g =
   (match aN C x with|some a=>(⟨λt _=>F (a.run t)⟩:Stg (T->G->Looks))|none=>⟨λ_ _=>bT⟩).run t' g':=by
  intro x F hm;cases hs:aN C x with
  |none=>rfl
  |some s=>simp only[hx x hm s hs]
 cases op<;>first|rfl|skip
 case load ty x=>exact one (F:=λv=>ah (af v)) (by simp[Op.operands])
 case store ty x y=>exact one (F:=λv=>ah (af v)) (by simp[Op.operands])
 case slice ty x lo hi mx=>exact one (F:=λv=>ah (af v)) (by simp[Op.operands])
 case mapUpdate ty x k y=>exact one (F:=λv=>ah (af v)) (by simp[Op.operands])
 case insert ty x k y=>exact one (F:=λv=>ah (af v)) (by simp[Op.operands])
 case entryStore ty x k y=>exact one (F:=λv=>ah (af v)) (by simp[Op.operands])
 case mapEntry ty x k=>exact one (F:=λv=>⟨af v,[],(af v).map (·,ty),false⟩) (by simp[Op.operands])
 case lookup ty x k ok =>
  cases ok
  ·exact one (F:=λv=>⟨[],(af v).map (·,ty),[],false⟩) (by simp[Op.operands])
  ·exact one (F:=λv=>ah (af v)) (by simp[Op.operands])
 case indexAddr ty x ix =>
  simp only[aK]
  split
  ·rename_i e s hu hs;simp only[hx x (by simp[Op.operands]) s hs]
  ·rfl
 case call c =>
  obtain⟨callee,args,argTypes⟩:=c;cases callee with
  | builtin b =>
   simp only[aK]
   split
   ·rename_i vs d;simp only[cF d λx hm=>hx x (by simpa [Op.operands,Call.operands] using hm)]
   ·rfl
  | value fo =>
   simp only[aK]
   split
   ·rename_i fv vs f d;simp only[cF d λx hm=>hx x (by simp[Op.operands,Call.operands]at hm ⊢;exact .inr hm),hx fo (by simp[Op.operands,Call.operands]) _ f,hh]
   ·rfl
  |invoke r m=>rfl
end
section
variable {C:Cfg}{A:Nat->Nat->Prop}{bd:Nat}{w w':World}{γ γ':Gm}{hg:Nat->AObj}{nx:Nat}
variable {t:T}{g:G}{ih:IH}
theorem TR.put{nt:Nat}{a:Act}{dst:Option Tmp}{out:Stg (T->AV->T)}{x:AV}{v:Value}(ho:oI nt dst=some out)(ht:TR w γ A bd nt t a.tmps)(hv:RV w γ A bd x v) :
  TR w γ A bd nt (out.run t x) (a.put dst v).tmps:=by
 cases dst with
 |none=>simp[oI]at ho;subst ho;exact ht
 | some d =>
  simp only[oI,aa]at ho
  split at ho
  ·rename_i hd;rw[Rr]at hd;injection ho with ho;subst ho;refine⟨by simp[Act.put,ht.1],λs=>?_⟩;rw[sp_get]
   by_cases hs:s=d
   ·subst hs;rw[Qw rfl];have:s<a.tmps.size:=by rw[ht.1];exact hd
    simpa [Act.put,Array.getD,this] using hv
   ·rw[Qu hs];have:=ht.2 s;simp only[Act.put,Re]at this ⊢;rw[RZ (R0 hs)];exact this
  ·cases ho
theorem k_{ops:Array Oper}{o:Oper}{q:Stg (T->Option Bool)}{bv:Bool}(hq:iM ops.toList o.guard=some q)(ht:TR w γ A bd nt t tmps)
  (h:q.run t=some bv):Region.wanted o (yielded ops tmps)=bv:=by
 unfold Region.wanted;cases hg:o.guard with
 | none =>
  rw[hg]at hq;simp[iM]at hq;subst hq;injection h with h
 | some p =>
  obtain⟨j,want⟩:=p;rw[hg]at hq;simp only[iM]at hq
  split at hq
  ·rename_i oj c
   split at hq
   ·rename_i d hd;injection hq with hq;subst hq;have a:ops[j]?=some oj:=by simpa using c
    dsimp only at h;rw[gp_run]at h;have k:=ht.2 d;simp only[yielded,a,R7,hd];generalize t.get AV.undef d=y at h k
    split at h
    ·rename_i b;injection h with h;subst h;have hb:tmps[d]?=some (.bool b):=by
      cases hrv':tmps[d]? with
      |none=>simp[Re,hrv',undef]at k;cases k
      | some v =>
       simp only[Re,hrv',Qz]at k;cases k;rfl
     simp only[hb];cases want<;>cases b<;>rfl
    ·injection h with h;subst h;cases hrv':tmps[d]? with
     |none=>rfl
     | some v =>
      simp only[Re,hrv',Qz]at k;cases k;rfl
    ·cases h
   ·cases hq
  ·cases hq
theorem AJ{all:List Oper}{gd:Option (Nat×Bool)}{q:Stg (T->Option Bool)}{t:T}(hq:iM all gd=some q)
  (h:∀j b oj d,gd=some (j,b)->all[j]?=some oj->oj.dst=some d->t.get AV.undef d=t'.get AV.undef d):q.run t=q.run t':=by
 cases gd with
 |none=>simp[iM]at hq;subst hq;rfl
 | some p =>
  obtain⟨j,want⟩:=p;simp only[iM]at hq
  split at hq
  ·rename_i oj k
   split at hq
   ·rename_i d hd;injection hq with hq;subst hq;dsimp only;rw[gp_run,gp_run,h j want oj d rfl k hd]
   ·cases hq
  ·cases hq
variable {b:Frame}{a:Act}{ops:Array Oper}{i:Nat}{rest:List Nat}{k:List Item}{cs:List Frame}{o:Oper}
theorem Br{d:Deferred}(ho:ops[i]?=some o)(hw:Region.wanted o (yielded ops a.tmps)=true)(hro:b.roundOf=none)
  (hrun:(execOp a.eval o).run P w=.ok (.defer d) w) :
  step P (lone (b.atR a (.inRegion ops (i::rest)::k)) cs w)=.next (lone (b.atR ({ a with defers:=d::a.defers }.put o.dst undef) (.inRegion ops rest::k)) cs w):=by
 have h:=Frame.finish_atR b { a with defers:=d::a.defers } ops i rest k undef;rw[ho]at h;simp only[R7]at h;refine step_lone_go ?_;rw[stepGR_op ho hw,hro,Oper.semAt_none,<-h];simp[stepG.apply,hrun,Frame.atR]
theorem rL(ho:ops[i]?=some o)(hw:Region.wanted o (yielded ops a.tmps)=false) :
  step P (lone (b.atR a (.inRegion ops (i::rest)::k)) cs w)=.next (lone (b.atR (a.put o.dst undef) (.inRegion ops rest::k)) cs w):=by
 have:=stepR_op_skip (P:=P) (b:=b) (a:=a) (k:=k) (cs:=cs) (w:=w) (ops:=ops) (i:=i) (rest:=rest) (by rw[ho];simpa using hw);rw[ho]at this;simpa using this
theorem FE(hr:Rel C A bd w γ hg nx)(ht:TR w γ A bd nt t a.tmps)(hrd:RdOk γ rd b)(hdf:DR w γ A bd df a.defers)
  {x:ADf} (h:(bS C o.op).run ih d rd t g=.dfr x) (hE:∀f e d args g y,C.ext f=some e->e d args g≠.dfr y) (ho:ops[i]?=some o) (hw:Region.wanted o (yielded ops a.tmps)=true) :
  ∃dd,DR w γ A bd (x::df) (dd::a.defers) /\
   step C.P (lone (b.atR a (.inRegion ops (i::rest)::k)) cs w)=.next (lone (b.atR ({ a with defers:=dd::a.defers }.put o.dst undef) (.inRegion ops rest::k)) cs w):=by
 have iso:∀f args,ap ih d g f args≠.dfr x:=by
  intro f args;unfold ap
  repeat' (first|split|rw[aa])
  all_goals (intro h;cases h)
 have orf:∀r,orF r≠.dfr x:=by intro r h;cases r<;>cases h
 have rnd:∀id args,cE ih d id args g≠.dfr x:=by
  intro id args;unfold cE
  repeat' split
  all_goals (intro h;cases h)
 unfold bS at h
 split at h
 rotate_left
 ·cases h
 rename_i f c;generalize hop:o.op=op at c;unfold cOp at c
 split at c
 ·rename_i fx args at2
  split at c
  ·split at c
   ·rename_i e he;injection c with c;subst c;exact absurd h (hE _ _ _ _ _ _ he)
   ·rw[aa]at c
    split at c
    ·injection c with c;subst c;exact absurd h (iso _ _)
    ·injection c with c;subst c;exact absurd h (orf _)
  ·cases c
 ·rename_i fo args at2 m
  split at c
  ·rename_i fv vs j l;injection c with c;subst c;dsimp only at h;unfold jo at h
   split at h
   ·split at h
    ·rename_i e he;exact absurd h (hE _ _ _ _ _ _ he)
    ·rw[aa]at h
     split at h
     ·exact absurd h (iso _ _)
     ·exact absurd h (orf _)
   ·exact absurd h (rnd _ _)
   ·cases h
  ·cases c
 ·injection c with c;subst c;cases h
 ·rename_i fo args at2
  split at c
  ·rename_i fv vs j l;injection c with c;subst c;dsimp only at h;cases rd with
   |some _=>cases h
   | none =>
    dsimp only at h;have hf:=au j ht hr;have hv:=gL ht hr l;generalize hfo:a.eval fo=vfo at hf;generalize fv.run t=y at h hf;cases hf with
    | clo _ fx xs ys vs1 us1 hl hl2 h1 h2 =>
     dsimp only at h;injection h with h;subst h;refine⟨{ target:=.fn (.func fx) us1,args:=vs1++args.map a.eval },⟨⟨fx,ys,us1,rfl,rfl,OH hl2 h2,?_⟩,hdf⟩,Br ho hw hrd ?_⟩
     ·have:=(OH hl h1).append hv;simpa using this
     ·simp only[execOp,hop,resolve,hfo,Deferred.ofValue,QC,Q0,Qy]
    |_=>cases h
  ·cases c
 ·split at c
  ·rename_i s hs;injection c with c;subst c;have:=vp (t:=t) (g:=g) hs;have h:s.run t g=.dfr x:=h;rw[h]at this;exact this.elim
  ·cases c
theorem IK(hC:CfgOk C)(hi:IHOk C ih):∀(l:List Oper) (i:Nat) {t:T} {df:List ADf} {g:G} {e:Ex} {t':T} {df':List ADf} {g':G},
  ops.toList.drop i=l->(jA C nt ops.toList l).run ih (bd+1) rd t df g=.ok e t' df' g'->WF g ->
  ∀{w γ hg nx a},Rel C A bd w γ hg nx->Ext g.h hg->Free γ g g'->TR w γ A bd nt t a.tmps->DR w γ A bd df a.defers->RdOk γ rd b->nH b.kind cs ->
   e=.norm/\∃a' w' γ' hg',Fin C A bd w γ hg nx g w' γ' hg' g'/\TR w' γ' A bd nt t' a'.tmps/\DR w' γ' A bd df' a'.defers /\
    Steps C.P (lone (b.atR a (.inRegion ops (List.range' i l.length)::k)) cs w) (lone (b.atR a' k) cs w'):=by
 intro l
 induction l with
 | nil =>
  intro i t df g e t' df' g' _ h _ w γ hg nx a hr hx hf ht n v c;simp only[jA]at h;injection h with h1 h2 h3 h4;subst h1;subst h2;subst h3;subst h4;exact⟨rfl,a,w,γ,hg,Fin.refl hr,ht,n,.one stepR_region_end⟩
 | cons o rest ihl =>
  intro i t df g e t' df' g' p h z w γ hg nx a hr hx hf ht n v c;have ho:ops[i]?=some o:=by
   have:(ops.toList.drop i)[0]?=some o:=by rw[p];rfl
   simpa [Ra] using this
  have m:ops.toList.drop (i+1)=rest:=by rw[<-RF,p];rfl
  have B:List.range' i (o::rest).length=i::List.range' (i+1) rest.length:=by simp[Tb]
  rw[B];have exec:∀{out:Stg (T->AV->T)},oI nt o.dst=some out->Region.wanted o (yielded ops a.tmps)=true ->
    nF out.run ((jA C nt ops.toList rest).run ih (bd+1) rd) t df g ((bS C o.op).run ih (bd+1) rd t g)=.ok e t' df' g' ->
    e=.norm/\∃a' w' γ' hg',Fin C A bd w γ hg nx g w' γ' hg' g'/\TR w' γ' A bd nt t' a'.tmps/\DR w' γ' A bd df' a'.defers /\
     Steps C.P (lone (b.atR a (.inRegion ops (i::List.range' (i+1) rest.length)::k)) cs w) (lone (b.atR a' k) cs w'):=by
   intro out j hw h;have hm:=iO (op:=o.op) (d:=bd+1) (rd:=rd) (t:=t) hC.mon hi.mon z;generalize hres:(bS C o.op).run ih (bd+1) rd t g=r at h hm;have go:∀{x:AV} {g1:G},r≠.fail->(∀y,r≠.dfr y)->vOf r=x->gOf g r=g1->(jA C nt ops.toList rest).run ih (bd+1) rd (out.run t x) df g1=.ok e t' df' g' ->
     e=.norm/\∃a' w' γ' hg',Fin C A bd w γ hg nx g w' γ' hg' g'/\TR w' γ' A bd nt t' a'.tmps/\DR w' γ' A bd df' a'.defers /\
     Steps C.P (lone (b.atR a (.inRegion ops (i::List.range' (i+1) rest.length)::k)) cs w) (lone (b.atR a' k) cs w'):=by
    intro x g1 J I K H h;subst K;subst H;have w1:=hm.wf z;have L:=xw hC.mon hi.mon h w1;obtain⟨u,wa,γa,M,f1,rv,st⟩:=Bc (b:=b) (cs:=cs) (rest:=List.range' (i+1) rest.length) (k:=k) hC hi hr z ht c hx.agr hres J I (hf.le L.nx) ho hw;obtain⟨he,a',wb,γb,s,f2,tr,dr,st2⟩:=ihl (i+1) m h w1 (a:=a.put o.dst u) f1.rel (f1.ext hm hx) (f1.freed hr hm hf) ((ht.step f1.stp).put j rv)
     (by have:=n.step f1.stp;cases hd:o.dst<;>simpa [Act.put,hd] using this) (v.step f1.stp) c
    exact⟨he,a',wb,γb,s,f1.trans f2 hm L,tr,dr,Steps.trans st st2⟩
   cases r with
   |fail=>cases h
   |val x=>exact go (by simp) (by simp) rfl rfl h
   |upd x g1=>exact go (by simp) (by simp) rfl rfl h
   | dfr x =>
    obtain⟨dd,F,st⟩:=FE (b:=b) (cs:=cs) (rest:=List.range' (i+1) rest.length) (k:=k) hr ht v n hres (λf e d args g y he hy=>by
     exact extNoDfr hC he hy) ho hw
    obtain⟨he,a',wb,γb,s,f2,tr,dr,st2⟩:=ihl (i+1) m h z (a:={ a with defers:=dd::a.defers }.put o.dst undef) hr hx hf
     (ht.put (a:={ a with defers:=dd::a.defers }) j cC)
     (by cases hd:o.dst<;>simpa [Act.put,hd] using F) v c
    exact⟨he,a',wb,γb,s,f2,tr,dr,.head st st2⟩
  simp only[jA]at h
  split at h
  ·rename_i out j
   split at h
   ·rename_i D;refine exec j ?_ h;simp[Region.wanted,D]
   ·rename_i gd D
    split at h
    ·rename_i q hq;rw[<-D]at hq;dsimp only at h
     split at h
     ·rename_i E;exact exec j (k_ hq ht E) h
     ·rename_i E;have hw:=k_ hq ht E;obtain⟨he,a',wb,γb,s,f2,tr,dr,st2⟩:=ihl (i+1) m h z (a:=a.put o.dst undef) hr hx hf
       (ht.put j cC) (by cases hd:o.dst<;>simpa [Act.put,hd] using n) v c
      exact⟨he,a',wb,γb,s,f2,tr,dr,.head (rL ho hw) st2⟩
     ·cases h
    ·cases h
  ·cases h where
 extNoDfr {f d:Nat} {e:Nat->List AV->G->OR} {args:List AV} {g:G} {y:ADf} (hC:CfgOk C) (he:C.ext f=some e) (hy:e d args g=.dfr y):False:=by exact (hC.noDfr f e he d args g y) hy
end
section
variable {z:AV}
theorem sG{d:TypeDesc}{y:AV}(hx:ny d x=true)(hy:ny d y=true):∃b,pi x y=some b:=by
 cases d<;>cases x<;>simp[ny]at hx<;>cases y<;>simp[ny]at hy
 ·exact⟨_,rfl⟩
 ·rename_i h k n1 k2 n2;rw[oG]at hx hy;simp only[QM]at hx hy;subst hx;subst hy;exact⟨_,by simp[pi,oG];rfl⟩
 ·exact⟨_,rfl⟩
theorem wj:∀{ds:List TypeDesc} {xs ys:List AV},dY ds xs=true->dY ds ys=true->∃b,eI xs ys=some b:=by
 intro ds
 induction ds with
 |nil=>intro xs ys hx h;cases xs<;>simp[dY]at hx;cases ys<;>simp[dY]at h;exact⟨_,rfl⟩
 | cons d ds ih =>
  intro xs ys hx h;cases xs<;>simp[dY,aa]at hx;cases ys<;>simp[dY,aa]at h;obtain⟨b1,h1⟩:=sG hx.1 h.1;obtain⟨b2,h2⟩:=ih hx.2 h.2;exact⟨_,by simp only[eI,h1,h2];rfl⟩
theorem JL{kk:KeyKind}{y:AV}(hx:mM kk x=true)(hy:mM kk y=true):∃b,oD x y=some b:=by
 cases kk with
 | one d =>
  simp only[mM]at hx hy;obtain⟨b,hb⟩:=sG hx hy;cases x<;>first| (cases d<;>simp[ny]at hx;done)|skip
  all_goals
   cases y<;>first| (cases d<;>simp[ny]at hy;done)| (exact⟨b,by simpa [oD] using hb⟩)|skip
 | flat ds =>
  cases x<;>simp[mM]at hx;cases y<;>simp[mM]at hy;obtain⟨b,hb⟩:=wj hx hy;exact⟨b,by simpa [oD] using hb⟩
 |other=>cases x<;>simp[mM]at hx
theorem El{k k0:AV}:∀{es:List (AV×AV)} {r:Option AV},mL k es=some r->(∃b,oD k k0=some b) ->
  mL k (es++[(k0,z)])=some (match r with|some v=>some v|none=>if oD k k0=some true then some z else none):=by
 intro es
 induction es with
 | nil =>
  intro r h hk;simp only[mL]at h;injection h with h;subst h;obtain⟨b,hb⟩:=hk;cases b<;>simp[mL,hb]
 | cons e es ih =>
  intro r h hk;obtain⟨k',v'⟩:=e;simp only[mL]at h;simp only[QQ,mL]
  split at h
  ·injection h with h;subst h;rfl
  ·exact ih h hk
  ·cases h
theorem CL{kk:KeyKind}{m k:T->AV}{id:Nat}{es:List (AV×AV)}{k0:AV}(h:dx kk z false m k t g=.val v)(hm:m t=.hmap id)
  (hg:g.h.get id=.map es) (hg':g'.h.get id=.map (es++[(k0,z)])) (hk0:mM kk k0=true):dx kk z false m k t g'=.val v:=by
 unfold dx at h ⊢;rw[aa]at h ⊢
 split at h
 ·rename_i hk;rw[Qw hk];simp only[hm,G.get_eq,hg,hg']at h ⊢;cases hf:mL (k t) es with
  |none=>rw[hf]at h;cases h
  | some r =>
   rw[El hf (JL hk hk0)];rw[hf]at h;cases r with
   |some v'=>exact h
   | none =>
    dsimp only at h ⊢
    by_cases hq:oD (k t) k0=some true
    ·rw[Qw hq];exact h
    ·rw[Qu hq];exact h
 ·cases h
theorem Oi{op:Op}(h:((aK C op).run t g).sr≠[]):∃ty x k a,op=.lookup ty x k false/\aN C x=some a /\
  (aK C op).run t g=⟨[],(af (a.run t)).map (·,ty),[],false⟩:=by
 cases op<;>simp only[aK]at h ⊢<;>try (exact absurd rfl h)
 case lookup ty x k ok =>
  cases ok
  ·dsimp only at h ⊢
   split at h
   ·rename_i a ha;exact⟨ty,x,k,a,rfl,ha,by simp[ha]⟩
   ·exact absurd rfl h
  ·dsimp only at h
   split at h<;>exact absurd rfl h
 case call c =>
  obtain⟨callee,args,at'⟩:=c;cases callee<;>simp only at h
  ·split at h
   ·dsimp only at h
    split at h
    ·rw[aa]at h;split at h<;>exact absurd rfl h
    ·exact absurd rfl h
   ·exact absurd rfl h
  ·exact absurd rfl h
  ·split at h<;>exact absurd rfl h
 all_goals (split at h<;>exact absurd rfl h)
theorem Ms{op:Op}{p:Nat×Nat}(h:p∈((aK C op).run t g).soft):∃x k a,op=.mapEntry p.2 x k/\aN C x=some a/\p.1∈af (a.run t):=by
 cases op<;>simp only[aK]at h<;>try (exact absurd h QH)
 case mapEntry ty x k =>
  split at h
  ·rename_i a ha;dsimp only at h;obtain⟨id,h1,h2⟩:=Rb.1 h;subst h2;exact⟨x,k,a,rfl,ha,h1⟩
  ·exact absurd h QH
 case lookup ty x k ok =>
  cases ok<;>dsimp only at h<;>split at h<;>exact absurd h QH
 case call c =>
  obtain⟨callee,args,at'⟩:=c;cases callee<;>simp only at h
  ·split at h
   ·dsimp only at h
    split at h
    ·rw[aa]at h;split at h<;>exact absurd h QH
    ·exact absurd h QH
   ·exact absurd h QH
  ·exact absurd h QH
  ·split at h<;>exact absurd h QH
 all_goals (split at h<;>exact absurd h QH)
theorem B2{ih:IH}{ty:TypeId}{x k:Operand}{ok:Bool}{r:OR}(h:(bS C (.lookup ty x k ok)).run ih d rd t g=r)(hne:r≠.fail) :
  ∃a kk kt et z,aN C x=some a/\aN C k=some kk/\C.P.underlying ty=some (.map kt et)/\we C.P et=some z /\
   (∀t g,(bS C (.lookup ty x k ok)).run ih d rd t g=dx (fE C.P kt) z ok a.run kk.run t g)/\r=dx (fE C.P kt) z ok a.run kk.run t g:=by
 unfold bS at h ⊢;simp only[cOp,cm]at h ⊢
 split at h
 ·rename_i f hf
  split at hf
  ·rename_i s hs;injection hf with hf;subst hf
   split at hs
   ·rename_i a kk kt et ha hk hu
    split at hs
    ·rename_i z hz;injection hs with hs;subst hs;refine⟨a,kk,kt,et,z,ha,hk,hu,hz,λt g=>?_,h.symm⟩;simp only[ha]
    ·cases hs
   ·cases hs
  ·cases hf
 ·exact absurd h.symm hne
theorem yY{ih:IH}{ty:TypeId}{x k:Operand}{r:OR}(h:(bS C (.mapEntry ty x k)).run ih d rd t g=r)(hne:r≠.fail) :
  ∃a kk kt et z,aN C x=some a/\aN C k=some kk/\C.P.underlying ty=some (.map kt et)/\we C.P et=some z/\r=fF (fE C.P kt) z a.run kk.run t g:=by
 unfold bS at h;simp only[cOp,cm]at h
 split at h
 ·rename_i f hf
  split at hf
  ·rename_i s hs;injection hf with hf;subst hf
   split at hs
   ·rename_i a kk kt et ha hk hu
    split at hs
    ·rename_i z hz;injection hs with hs;subst hs;exact⟨a,kk,kt,et,z,ha,hk,hu,hz,h.symm⟩
    ·cases hs
   ·cases hs
  ·cases hf
 ·exact absurd h.symm hne
theorem A6{kk:KeyKind}{m k:T->AV}(h:fF kk z m k t g=.upd v g') :
  ∃id es,m t=.hmap id/\g.h.get id=.map es/\g'=g.put id (.map (es++[(k t,z)]))/\mM kk (k t)=true:=by
 unfold fF at h;rw[aa]at h
 split at h
 ·rename_i hk
  split at h
  ·rename_i id hm
   split at h
   ·rename_i es a
    split at h
    ·cases h
    ·injection h with h1 h2;subst h2;exact⟨id,es,hm,by simpa using a,rfl,hk⟩
    ·cases h
   ·cases h
  ·cases h
 ·cases h
theorem Bo{x:Foot}:∀{l:List Foot} {j0 j:Nat} {y:Foot},l[j]?=some y->(pm.getD (j0+j) 0).testBit i=false->meets y.wr (fst1 x.lk.sr)=true ->
  1<=eB pm i x j0 l:=by
 intro l
 induction l with
 |nil=>intro j0 j y h;simp at h
 | cons a l ih =>
  intro j0 j y h h1 h2;cases j with
  | zero =>
   simp at h;subst h;simp only[eB,aa];rw[Qu]
   ·omega
   ·simp only[RY]at h1;rw[h1,h2];simp
  | succ j =>
   have:=ih (j0:=Nat.succ j0) (by simpa using h) (by rw[show Nat.succ j0+j=j0+(j+1) by omega];exact h1) h2;simp only[eB,aa]
   split<;>omega
theorem zq{x:Foot}:∀{l:List Foot} {j0 j j':Nat} {y y':Foot},j<j'->l[j]?=some y->l[j']?=some y'->(pm.getD (j0+j) 0).testBit i=false->(pm.getD (j0+j') 0).testBit i=false ->
  meets y.wr (fst1 x.lk.sr)=true->meets y'.wr (fst1 x.lk.sr)=true->2<=eB pm i x j0 l:=by
 intro l
 induction l with
 |nil=>intro j0 j j' y y' _ h;simp at h
 | cons a l ih =>
  intro j0 j j' y y' hlt h h' h1 k h2 b;cases j' with
  |zero=>omega
  | succ j' =>
   cases j with
   | zero =>
    simp at h;subst h;have:=Bo (pm:=pm) (i:=i) (x:=x) (j0:=Nat.succ j0) (j:=j') (by simpa using h') (by rw[show Nat.succ j0+j'=j0+(j'+1) by omega];exact k) b;simp only[eB,aa];rw[Qu]
    ·omega
    ·simp only[RY]at h1;rw[h1,h2];simp
   | succ j =>
    have:=ih (j0:=Nat.succ j0) (j:=j) (j':=j') (by omega) (by simpa using h) (by simpa using h') (by rw[show Nat.succ j0+j=j0+(j+1) by omega];exact h1) (by rw[show Nat.succ j0+j'=j0+(j'+1) by omega];exact k) h2 b;simp only[eB,aa]
    split<;>omega
theorem Fm{b x:Bool}(h:ak b x false=true):b=true/\x=true:=by
 cases b
 ·cases h
 ·exact⟨rfl,h⟩
theorem Bp:∀{l:List Foot} {i0:Nat},rK pm i0 l=true->∀(i j j':Nat) x y y',i<j->j<j'->l[i]?=some x->l[j]?=some y->l[j']?=some y'->x.lk.sr≠[] ->
  (pm.getD (i0+j) 0).testBit (i0+i)=false->(pm.getD (i0+j') 0).testBit (i0+i)=false->meets y.wr (fst1 x.lk.sr)=true->meets y'.wr (fst1 x.lk.sr)=true->False:=by
 intro l
 induction l with
 |nil=>intro i0 _ i j j' x y y' _ _ h;simp at h
 | cons a l ih =>
  intro i0 h i j j' x y y' m n hx f d c h1 k h2 b;obtain⟨hc,h⟩:=Fm h;cases j' with
  |zero=>omega
  | succ j' =>
   cases j with
   |zero=>omega
   | succ j =>
    cases i with
    | zero =>
     simp at hx;subst hx;have e:Nat.ble (eB pm i0 a (Nat.succ i0) l) 1=true:=by
      cases hsr':a.lk.sr with
      |nil=>exact absurd hsr' c
      |cons p r=>rw[hsr']at hc;exact hc
     rw[Q6]at e;have:=zq (pm:=pm) (i:=i0) (x:=a) (j0:=Nat.succ i0) (j:=j) (j':=j') (by omega) (by simpa using f) (by simpa using d)
      (by rw[show Nat.succ i0+j=i0+(j+1) by omega];exact h1) (by rw[show Nat.succ i0+j'=i0+(j'+1) by omega];exact k) h2 b
     omega
    | succ i =>
     refine ih h i j j' x y y' (by omega) (by omega) (by simpa using hx) (by simpa using f) (by simpa using d) c ?_ ?_ h2 b
     ·rw[show Nat.succ i0+j=i0+(j+1) by omega,show Nat.succ i0+i=i0+(i+1) by omega];exact h1
     ·rw[show Nat.succ i0+j'=i0+(j'+1) by omega,show Nat.succ i0+i=i0+(i+1) by omega];exact k
theorem el{a b:List Nat}{x:Nat}(ha:x∈a)(hb:x∈b):meets a b=true:=by unfold meets;exact List.any_eq_true.2 ⟨x,ha,by simpa using hb⟩
theorem oy{l:List (Nat×Nat)}{x:Nat}(h:x∈l.map (·.1)):x∈fst1 l:=h
theorem EC{p:Nat×Nat}:∀{l:List (Nat×Nat)},Bf p l=true->p∈l:=by
 intro l
 induction l with
 |nil=>intro h;cases h
 | cons q l ih =>
  intro h;simp only[Bf,aa]at h
  split at h
  ·rename_i hc;simp only[Qt]at hc;have h1:=aI hc.1;have h2:=aI hc.2;exact Rh.2 (.inl (Prod.ext h1 h2))
  ·exact Q9 _ (ih h)
end
section
variable {j:Nat}
def TraAt(C:Cfg)(ih:IH)(d:Nat)(rd:Option Nat)(nt:Nat)(ops:Array Oper)(q:Bool)(o:Oper)(t t':T)(g g':G)(f:Foot):Prop :=
 ∃out gd,oI nt o.dst=some out/\iM ops.toList o.guard=some gd /\
  ((gd.run t=some false/\t'=out.run t .undef/\g'=g/\f.wr=[]) \/
   (gd.run t=some true/\∃r,(bS C o.op).run ih d rd t (aJ g [])=r/\r≠.fail/\(∀a,r≠.dfr a)/\t'=out.run t (vOf r)/\g'.h=(gOf (aJ g []) r).h /\
    f.wr=(gOf (aJ g []) r).lg/\(gOf (aJ g []) r).nx<=g'.nx/\(q=false->f.lk=(aK C o.op).run t g/\(gOf (aJ g []) r).nx<g'.nx)))
def iP(ops:Array Oper)(i:Nat):Option Tmp:=(ops[i]?).bind (·.dst)
structure Reg (C:Cfg) (ih:IH) (bd:Nat) (rd:Option Nat) (nt:Nat) (ops:Array Oper) (q:Bool) (T':Nat->T) (G':Nat->G) (F':Nat->Foot) (hg0:Nat->AObj):Prop where
 hC:CfgOk C
 hi:IHOk C ih
 tra:∀i o,ops[i]?=some o->TraAt C ih (bd+1) rd nt ops q o (T' i) (T' (i+1)) (G' i) (G' (i+1)) (F' i)
 wf0:WF (G' 0)
 ext0:Ext (G' 0).h hg0
 free0:∀id,(G' 0).nx<=id->id<=(G' ops.size).nx->hg0 id=.none
 apart:∀i j,i<j->j<ops.size->((bm ops.toList []).getD j 0).testBit i=true\/bG (F' i) (F' j)=true
 once:∀i j j',i<j->j<j'->j'<ops.size->(F' i).lk.sr≠[]->((bm ops.toList []).getD j 0).testBit i=false->((bm ops.toList []).getD j' 0).testBit i=false ->
  meets (F' j).wr (fst1 (F' i).lk.sr)=true->meets (F' j').wr (fst1 (F' i).lk.sr)=true->False
 slots:∀i j oi oj,i<j->ops[i]?=some oi->ops[j]?=some oj->((bm ops.toList []).getD j 0).testBit i=true\/jL ops.toList oi oj=true
 guards:∀i o j b,ops[i]?=some o->o.guard=some (j,b)->((bm ops.toList []).getD i 0).testBit j=true
 quiet:q=true->∀i,i<ops.size->(F' i).wr=[]
section
variable {C:Cfg}{A:Nat->Nat->Prop}{bd:Nat}{ih:IH}{rd:Option Nat}{nt:Nat}{ops:Array Oper}{q:Bool}{T':Nat->T}{G':Nat->G}{F':Nat->Foot}{hg0:Nat->AObj}
theorem TraAt.facts(hC:CfgOk C)(hi:IHOk C ih){o:Oper}{f:Foot}(h:TraAt C ih d rd nt ops q o t t' g g' f)(hwf:WF g) :
  WF g'/\g.nx<=g'.nx/\(∀id,id ∉ f.wr->g'.h.get id=g.h.get id)/\∀id∈f.wr,id<g'.nx/\(g.h.get id=.none->g.nx<=id):=by
 obtain⟨out,gd,_,_,h⟩:=h;rcases h with⟨_,_,rfl,hw⟩|⟨_,r,hr,l,_,_,j,hw,i,_⟩
 ·rw[hw];exact⟨hwf,Qq _,λ_ _=>rfl,λ_ h=>absurd h QH⟩
 ·have hm:Mon (aJ g []) (gOf (aJ g []) r):=by rw[<-hr];exact iO hC.mon hi.mon hwf.setLog
  obtain⟨n,a,b,c⟩:=hm.new;have e:(gOf (aJ g []) r).lg=n:=by simpa using a
  have k:g.nx<=(gOf (aJ g []) r).nx:=by have:=hm.nx;simpa using this
  refine⟨λid hid=>?_,QW k i,λid hid=>?_,λid hid=>?_⟩
  ·rw[j];exact hm.wf hwf.setLog id (by omega)
  ·rw[j,b id (by rw[<-e,<-hw];exact hid)];simp
  ·have:=c id (by rw[<-e,<-hw];exact hid);simp only[setLog_h,setLog_nx]at this;exact⟨by omega,this.2⟩
theorem Reg.facts(R:Reg C ih bd rd nt ops q T' G' F' hg0):∀i,i<=ops.size->WF (G' i):=by
 intro i
 induction i with
 |zero=>intro _;exact R.wf0
 | succ i ih' =>
  intro h;have ho:ops[i]?=some ops[i]:=QO (by omega);exact (TraAt.facts R.hC R.hi (R.tra i _ ho) (ih' (by omega))).1
theorem Reg.at(R:Reg C ih bd rd nt ops q T' G' F' hg0){i:Nat}(h:i<ops.size) :
  (G' i).nx<=(G' (i+1)).nx/\(∀id,id ∉ (F' i).wr->(G' (i+1)).h.get id=(G' i).h.get id)/\∀id∈(F' i).wr,id<(G' (i+1)).nx/\((G' i).h.get id=.none->(G' i).nx<=id):=by
 have ho:ops[i]?=some ops[i]:=QO h;exact (TraAt.facts R.hC R.hi (R.tra i _ ho) (R.facts i (by omega))).2
theorem Reg.nx_mono(R:Reg C ih bd rd nt ops q T' G' F' hg0){i:Nat}(h:i<=j)(hj:j<=ops.size):(G' i).nx<=(G' j).nx:=by
 induction j with
 | zero=>have:i=0:=by omega
         subst this;exact Qq _
 | succ j ih' =>
  by_cases hij:i=j+1
  ·subst hij;exact Qq _
  ·exact QW (ih' (by omega) (by omega)) (R.at (by omega)).1
theorem Reg.keepT(R:Reg C ih bd rd nt ops q T' G' F' hg0)(hj:j<ops.size){s:Nat}(h:iP ops j≠some s):(T' (j+1)).get AV.undef s=(T' j).get AV.undef s:=by
 have ho:ops[j]?=some ops[j]:=QO hj;obtain⟨out,gd,k,_,h'⟩:=R.tra j _ ho;have key:∀x,(out.run (T' j) x).get AV.undef s=(T' j).get AV.undef s:=by
  intro x;simp only[iP,ho,R7]at h;cases hd:ops[j].dst with
  |none=>rw[hd]at k;simp[oI]at k;subst k;rfl
  | some d =>
   rw[hd]at k h;simp only[oI,aa]at k
   split at k
   ·injection k with k;subst k;rw[sp_get,Qu];rintro rfl;exact h rfl
   ·cases k
 rcases h' with⟨_,h1,_⟩|⟨_,r,_,_,_,h1,_⟩
 ·rw[h1,key]
 ·rw[h1,key]
def Down(ops:Array Oper)(S:Nat->Prop):Prop:=∀j o,ops[j]?=some o->S j->∀e∈o.after.toList,Region.binds .any e=true->S e.on
theorem Down.mask{S:Nat->Prop}(h:Down ops S){i:Nat}(hb:((bm ops.toList []).getD j 0).testBit i=true)(hj:S j):S i :=
 yE (S:=S) (all:=ops.toList) (λj o ho=>h j o (by simpa using ho)) ops.toList [] [] rfl rfl (λj i hj=>by simp at hj) j i hb hj
theorem LU(S:Nat->Prop):∀n,∃t:T,∀s,t.get AV.undef s=ov S (λi s=>iP ops i=some s) (λi s=>(T' i).get AV.undef s) (λs=>(T' 0).get AV.undef s) n s:=by
 intro n
 induction n with
 |zero=>exact⟨T' 0,λs=>rfl⟩
 | succ n ih' =>
  obtain⟨t,ht⟩:=ih'
  by_cases hS:S n
  ·cases hd:iP ops n with
   |none=>exact⟨t,λs=>by simp only[ov];rw[Qu (by rw[hd];simp)];exact ht s⟩
   | some d =>
    refine⟨(sp AV.undef d).run t ((T' (n+1)).get AV.undef d),λs=>?_⟩;rw[sp_get];simp only[ov]
    by_cases hs:s=d
    ·subst hs;rw[Qw rfl,Qw ⟨hS,hd⟩]
    ·rw[Qu hs,Qu (by rw[hd];rintro⟨_,h⟩;exact hs (by injection h with h;exact h.symm))];exact ht s
  ·exact⟨t,λs=>by simp only[ov];rw[Qu (λh=>hS h.1)];exact ht s⟩
structure Inv (C:Cfg) (A:Nat->Nat->Prop) (bd nt:Nat) (ops:Array Oper) (T':Nat->T) (G':Nat->G) (F':Nat->Foot) (hg0:Nat->AObj) (N:Nat) (w0:World) (γ0:Gm) (df0:List Deferred)
  (S:Nat->Prop) (a:Act) (w:World) (γ:Gm) (hg:Nat->AObj):Prop where
 rel:Rel C A bd w γ hg N
 stp:Stp w0 γ0 w γ
 size:a.tmps.size=nt
 slots:∀s,RV w γ A bd (ov S (λi s=>iP ops i=some s) (λi s=>(T' i).get AV.undef s) (λs=>(T' 0).get AV.undef s) ops.size s) (a.tmps.getD s undef)
 objs:∀id,hg id=ov S (λi id=>id∈(F' i).wr) (λi id=>(G' i).h.get id) hg0 ops.size id
 dfr:a.defers=df0
theorem jO{x y:Foot}(h:je x y=true){id:Nat}(hid:id∈x.wr):y.lk.big=false/\id ∉ y.wr/\id ∉ y.lk.rd/\id ∉ y.lk.sr.map (·.1):=by
 unfold je at h
 split at h
 ·rename_i he;rw[he]at hid;exact absurd hid QH
 ·simp only[Qt,RL]at h;obtain⟨⟨⟨h1,h2⟩,h3⟩,h4⟩:=h;refine⟨h1,λh=>?_,λh=>?_,λh=>?_⟩
  ·rw[el hid h]at h2;cases h2
  ·rw[el hid h]at h3;cases h3
  ·rw[el hid (oy h)]at h4;cases h4
theorem rf{x y:Foot}(h:fD x y=true){id:Nat}(hid:id∈x.wr):y.lk.big=false/\id ∉ y.wr/\id ∉ y.lk.rd/\(id∈y.lk.sr.map (·.1)->∀p∈y.lk.sr,p∈x.lk.soft):=by
 unfold fD at h
 split at h
 ·rename_i he;rw[he]at hid;exact absurd hid QH
 ·simp only[Qt,RL,Rg]at h;obtain⟨⟨⟨h1,h2⟩,h3⟩,h4⟩:=h;refine⟨h1,λh=>?_,λh=>?_,λh p hp=>?_⟩
  ·rw[el hid h]at h2;cases h2
  ·rw[el hid h]at h3;cases h3
  ·rcases h4 with h4|h4
   ·rw[el hid (oy h)]at h4;cases h4
   ·exact EC (QB.1 h4 p hp)
theorem cW{x y:Foot}(h:bG x y=true):je x y=true/\fD y x=true:=by unfold bG at h;simpa using h
theorem kH{all:List Oper}{x y:Oper}(h:jL all x y=true) :
  (∀d,x.dst=some d->d ∉ sj all y/\y.dst≠some d)/\(∀d,y.dst=some d->d ∉ sj all x):=by
 unfold jL at h;simp only[Qt]at h;refine⟨λd hd=>?_,λd hd=>?_⟩
 ·have:=h.1;rw[hd]at this;simp only[Qt,RL,bne_iff_ne,ne_eq]at this;exact⟨λhm=>(by have h1:=this.1;rw[SL.2 hm]at h1;cases h1),this.2⟩
 ·have:=h.2;rw[hd]at this;simp only[RL]at this;intro hm;rw[SL.2 hm]at this;cases this
variable {N:Nat}{w0:World}{γ0:Gm}{df0:List Deferred}{S:Nat->Prop}{a:Act}{w:World}{γ:Gm}{hg:Nat->AObj}
variable {b:Frame}{i:Nat}{rest:List Nat}{k:List Item}{cs:List Frame}{o:Oper}
theorem Reg.good(R:Reg C ih bd rd nt ops q T' G' F' hg0)(I:Inv C A bd nt ops T' G' F' hg0 N w0 γ0 df0 S a w γ hg)(hin:i<=ops.size){id:Nat}
  (h:∀j,j<ops.size->id∈(F' j).wr->(S j↔j<i)) (hne:(G' i).h.get id≠.none):hg id=(G' i).h.get id:=by
 rw[I.objs id];rcases J5 (S:=S) (wr:=λi id=>id∈(F' i).wr) (val:=λi id=>(G' i).h.get id) (base:=hg0) (k:=id) hin (λj hj hw=>(R.at hj).2.1 id hw) h with⟨_,h2⟩|⟨_,h2,h3⟩
 ·exact h2
 ·rw[h2,h3];exact R.ext0 id (by rw[<-h3];exact hne)
theorem JC(R:Reg C ih bd rd nt ops q T' G' F' hg0)(I:Inv C A bd nt ops T' G' F' hg0 N w0 γ0 df0 S a w γ hg)(hN:(G' ops.size).nx<=N)
  (ho:ops[i]?=some o) (hS:¬S i) (hdown:Down ops S) (hready:∀e∈o.after.toList,Region.binds .any e=true->S e.on) (hcalm:nH b.kind cs) :
  ∃a' w' γ' hg',Inv C A bd nt ops T' G' F' hg0 N w0 γ0 df0 (λj=>S j\/j=i) a' w' γ' hg' /\
   Steps C.P (lone (b.atR a (.inRegion ops (i::rest)::k)) cs w) (lone (b.atR a' (.inRegion ops rest::k)) cs w'):=by
 have hi:i<ops.size:=(RE.1 ho).1;have hf:Down ops (λj=>S j\/j=i):=by
  intro j oj B E e he hb;rcases E with E|rfl
  ·exact .inl (hdown j oj B E e he hb)
  ·rw[ho]at B;injection B with B;subst B;exact .inl (hready e he hb)
 have ahead:∀j,j≠i->((bm ops.toList []).getD i 0).testBit j=true->S j:=by
  intro j E hb;rcases hf.mask hb (.inr rfl) with h|h
  ·exact h
  ·exact absurd h E
 have behind:∀j,S j->((bm ops.toList []).getD j 0).testBit i≠true:=λj E hb=>hS (hdown.mask hb E);have Z:iP ops i=o.dst:=by simp[iP,ho]
 have ki:∀s∈sj ops.toList o,ov S (λi s=>iP ops i=some s) (λi s=>(T' i).get AV.undef s) (λs=>(T' 0).get AV.undef s) ops.size s=(T' i).get AV.undef s:=by
  intro s hs;have h:∀j,j<ops.size->iP ops j=some s->(S j↔j<i):=by
   intro j E hd;have B:ops[j]?=some ops[j]:=QO E;have hc:ops[j].dst=some s:=by simpa [iP,B] using hd
   constructor
   ·intro p;rcases Nat.lt_trichotomy j i with h|h|h
    ·exact h
    ·subst h;exact absurd p hS
    ·rcases R.slots i j _ _ h ho B with hb|hb
     ·exact absurd hb (behind j p)
     ·exact absurd hs ((kH hb).2 s hc)
   ·intro hlt;rcases R.slots j i _ _ hlt B ho with hb|hb
    ·exact ahead j (by omega) hb
    ·exact absurd hs ((kH hb).1 s hc).1
  rcases J5 (S:=S) (wr:=λi s=>iP ops i=some s) (val:=λi s=>(T' i).get AV.undef s) (base:=λs=>(T' 0).get AV.undef s) (k:=s) (by omega:i<=ops.size) (λj E hw=>R.keepT E hw) h with⟨_,h2⟩|⟨_,h2,h3⟩
  ·exact h2
  ·rw[h2,<-h3]
 obtain⟨ts,kl⟩:=LU (ops:=ops) (T':=T') S ops.size;have h8:TR w γ A bd nt ts a.tmps:=⟨I.size,λs=>by rw[kl s];exact I.slots s⟩;have kq:∀s∈sj ops.toList o,ts.get AV.undef s=(T' i).get AV.undef s:=λs hs=>by rw[kl s,ki s hs]
 have L:zx C ts (T' i) o.op.operands.toList:=by intro x hx s hs;refine Eb hs λn hn=>kq n ?_;subst hn;exact R2 _ (List.mem_filterMap.2 ⟨_,hx,rfl⟩)
 obtain⟨out,gd,c,ka,k8⟩:=R.tra i o ho;have kv:gd.run ts=gd.run (T' i):=by refine AJ ka λj b' oj d hg' B hd=>kq d ?_;refine RU _ ?_;simp only[hg',B,hd];simp
 have a4:∀s,iP ops i=some s->∀j,i<j->j<ops.size->S j->¬iP ops j=some s:=by
  intro s hd j X E p hc;have B:ops[j]?=some ops[j]:=QO E;rcases R.slots i j _ _ X ho B with hb|hb
  ·exact behind j p hb
  ·exact ((kH hb).1 s (Z ▸ hd)).2 (by simpa [iP,B] using hc)
 have slots':∀{w':World} {γ':Gm} {x:AV} {v:Value},Stp w γ w' γ'->RV w' γ' A bd x v->T' (i+1)=out.run (T' i) x ->
   (a.put o.dst v).tmps.size=nt/\∀s,RV w' γ' A bd (ov (λj=>S j\/j=i) (λi s=>iP ops i=some s) (λi s=>(T' i).get AV.undef s) (λs=>(T' 0).get AV.undef s) ops.size s) ((a.put o.dst v).tmps.getD s undef):=by
  intro w' γ' x v b3 hv hT;have h1:=(h8.step b3).put c hv;refine⟨h1.1,λs=>?_⟩;have h2:=h1.2 s
  by_cases hs:iP ops i=some s
  ·rw[J4 (wr:=λi s=>iP ops i=some s) hi hs (a4 s hs),hT];rw[Z]at hs;rw[hs]at c h2 ⊢;simp only[oI,aa]at c
   split at c
   ·injection c with c;subst c;simp only[sp_get,if_true]at h2 ⊢;exact h2
   ·cases c
  ·rw[Be (wr:=λi s=>iP ops i=some s) hs,<-kl s];have:(out.run ts x).get AV.undef s=ts.get AV.undef s:=by
    cases hd:o.dst with
    |none=>rw[hd]at c;simp[oI]at c;subst c;rfl
    | some d =>
     rw[hd]at c;simp only[oI,aa]at c
     split at c
     ·injection c with c;subst c;rw[sp_get,Qu];rintro rfl;exact hs (by rw[Z,hd])
     ·cases c
   rw[this]at h2;exact h2
 rcases k8 with⟨hq,hT,hG,hW⟩|⟨hq,r,hr,hk,a2,hT,hH,hW,a6,kc⟩
 ·
  rw[<-kv]at hq;have hw:=k_ ka h8 hq;obtain⟨s1,s2⟩:=slots' (Stp.refl w γ) cC hT;refine⟨_,w,γ,hg,⟨I.rel,I.stp,s1,s2,λid=>?_,?_⟩,.one (rL ho hw)⟩
  ·rw[I.objs id];exact (Be (by rw[hW];exact QH)).symm
  ·have:=I.dfr;cases hd:o.dst<;>simpa [Act.put,hd] using this
 ·
  rw[<-kv]at hq;have hw:=k_ ka h8 hq;have b4:WF (aJ (G' i) []):=(R.facts i (by omega)).setLog;rw[<-D_ L]at hr;have h5:Free γ (aJ (G' i) []) (gOf (aJ (G' i) []) r):=by
   intro id h1 h2;simp only[setLog_nx]at h1;rw[I.rel.none_iff,I.objs id,yx (m:=0) (Q_ _)]
   ·exact R.free0 id (QW (R.nx_mono (Q_ i) (by omega)) h1) (QW h2 (QW a6 (R.nx_mono (by omega) (Qq _))))
   ·intro j _ E p hw;cases q with
    |true=>rw[R.quiet rfl j E]at hw;exact QH hw
    | false =>
     have hlt:id<(G' (i+1)).nx:=by have:=(kc rfl).2;omega
     rcases Nat.lt_trichotomy j i with h|h|h
     ·have:=((R.at E).2.2 id hw).1;have:=R.nx_mono (show j+1<=i by omega) (by omega);omega
     ·subst h;exact hS p
     ·have kn:id∈(F' i).wr:=RJ λhn=>by
       have key:∀m,i<m->m<=j->(G' m).h.get id=.none:=by
        intro m
        induction m with
        |zero=>intro h;omega
        | succ m ihm =>
         intro b7 b8
         by_cases hmi:m=i
         ·subst hmi;rw[(R.at (by omega)).2.1 id hn];exact R.facts m (by omega) id h1
         ·have:=ihm (by omega) (by omega)
          by_cases hm:id∈(F' m).wr
          ·have h3:=((R.at (i:=m) (by omega)).2.2 id hm).2 this;have h4:=R.nx_mono (show i+1<=m by omega) (by omega);omega
          ·rw[(R.at (by omega)).2.1 id hm];exact this
       have h3:=((R.at E).2.2 id hw).2 (key j h (Qq _));have h4:=R.nx_mono (show i+1<=j by omega) (by omega);omega
      rcases R.apart i j h E with hb|hb
      ·exact behind j p hb
      ·exact (jO (cW hb).1 kn).2.1 hw
  have fin:∀{gs:G} {u:Value} {w':World} {γ':Gm} {hg':Nat->AObj},Fin C A bd w γ hg N gs w' γ' hg' (gOf (aJ (G' i) []) r)->gs.lg=[]->RV w' γ' A bd (vOf r) u ->
    Steps C.P (lone (b.atR a (.inRegion ops (i::rest)::k)) cs w) (lone (b.atR (a.put o.dst u) (.inRegion ops rest::k)) cs w') ->
    ∃a' w' γ' hg',Inv C A bd nt ops T' G' F' hg0 N w0 γ0 df0 (λj=>S j\/j=i) a' w' γ' hg' /\
     Steps C.P (lone (b.atR a (.inRegion ops (i::rest)::k)) cs w) (lone (b.atR a' (.inRegion ops rest::k)) cs w'):=by
   intro gs u w' γ' hg' f hh hv st;obtain⟨s1,s2⟩:=slots' f.stp hv hT;have az:(gOf (aJ (G' i) []) r).nx<=N:=QW a6 (QW (R.nx_mono (by omega) (Qq _)) hN);refine⟨_,w',γ',hg',⟨?_,I.stp.trans f.stp,s1,s2,λid=>?_,?_⟩,st⟩
   ·have:=f.rel;rw[show Nat.max N (gOf (aJ (G' i) []) r).nx=N from Nat.max_eq_left az]at this;exact this
   ·obtain⟨n,e1,e2,e3⟩:=f.new;have en:(F' i).wr=n:=by rw[hW,e1,hh,QJ]
    by_cases t:id∈(F' i).wr
    ·rw[e2 id (en ▸ t),<-hH];refine (J4 (wr:=λi id=>id∈(F' i).wr) (val:=λi id=>(G' i).h.get id) hi t λj X E p hw=>?_).symm;rcases R.apart i j X E with hb|hb
     ·exact behind j p hb
     ·exact (jO (cW hb).1 t).2.1 hw
    ·rw[e3 id (en ▸ t),I.objs id];exact (Be (wr:=λi id=>id∈(F' i).wr) t).symm
   ·have:=I.dfr;cases hd:o.dst<;>simpa [Act.put,hd] using this
  have O:∀id,(q=false->(F' i).lk.big=true\/id∈(F' i).lk.rd\/(id∈(F' i).lk.sr.map (·.1)/\∀j,i<j->j<ops.size->S j->id ∉ (F' j).wr)) ->
    (G' i).h.get id≠.none->hg id=(G' i).h.get id:=by
   intro id F D;refine R.good I (by omega) (λj E hw=>?_) D;cases q with
   |true=>rw[R.quiet rfl j E]at hw;exact absurd hw QH
   | false =>
    have F:=F rfl;constructor
    ·intro p;rcases Nat.lt_trichotomy j i with h|h|h
     ·exact h
     ·subst h;exact absurd p hS
     ·rcases R.apart i j h E with hb|hb
      ·exact absurd hb (behind j p)
      ·obtain⟨h1,h2,h3,h4⟩:=rf (cW hb).2 hw;rcases F with hl|hl|⟨_,hl⟩
       ·rw[h1]at hl;cases hl
       ·exact absurd hl h3
       ·exact absurd hw (hl j h E p)
    ·intro hlt;rcases R.apart j i hlt hi with hb|hb
     ·exact ahead j (by omega) hb
     ·obtain⟨h1,h2,h3,h4⟩:=jO (cW hb).1 hw;rcases F with hl|hl|⟨hl,_⟩
      ·rw[h1]at hl;cases hl
      ·exact absurd hl h3
      ·exact absurd hl h4
  have k9:(aK C o.op).run ts (aJ (G' i) [])=(aK C o.op).run (T' i) (G' i):=B1 (by simp) L
  by_cases hsoft:q=false/\∃id j,id∈(F' i).lk.sr.map (·.1)/\i<j/\j<ops.size/\S j/\id∈(F' j).wr
  ·
   obtain⟨rfl,id,j,t,X,E,p,H⟩:=hsoft;have W:=(kc rfl).1;have B:ops[j]?=some ops[j]:=QO E;have k4:((bm ops.toList []).getD j 0).testBit i=false:=by have:=behind j p;simpa using this
   have as:bG (F' i) (F' j)=true:=(R.apart i j X E).resolve_left (behind j p);obtain⟨_,_,_,h4⟩:=rf (cW as).2 H;have h4:=h4 t;have Q:(F' i).lk.sr≠[]:=by intro h;rw[h]at t;simp at t
   rw[W]at Q;obtain⟨ty,x,kx,a0,hp,k7,ks⟩:=Oi Q;rw[hp]at hr;obtain⟨a1,kk,kt,et,z,h9,bb,hu,hz,kp,K⟩:=B2 hr hk;rw[k7]at h9;injection h9 with h9;subst h9;have ai:∃v,r=.val v:=by
    rw[K];have:Small (aJ (G' i) []) (dx (fE C.P kt) z false a0.run kk.run ts (aJ (G' i) [])):=by
     unfold dx;rw[aa]
     repeat' split
     all_goals trivial
    cases hrr:dx (fE C.P kt) z false a0.run kk.run ts (aJ (G' i) []) with
    |fail=>rw[hrr]at K;exact absurd K hk
    |val v=>exact⟨v,rfl⟩
    | upd v g' =>
     exfalso;unfold dx at hrr;rw[aa]at hrr
     repeat' (split at hrr)
     all_goals cases hrr
    |dfr x=>rw[hrr]at this;exact this.elim
   obtain⟨v,hv⟩:=ai;subst hv;have ea0:a0.run ts=a0.run (T' i):=L x (by rw[hp];simp[Op.operands]) a0 k7;have J:id∈af (a0.run (T' i)):=by rw[W,ks]at t;simpa using t
   have hmap:∃es,a0.run ts=.hmap id/\(G' i).h.get id=.map es:=by
    have l:=K.symm;unfold dx at l;rw[aa]at l
    split at l
    ·rw[<-ea0]at J;generalize a0.run ts=y at J l;cases y<;>simp[af]at J
     ·cases l
     ·cases l
     ·subst J;simp only[G.get_eq,setLog_h]at l
      split at l
      ·rename_i es M
       split at M
       ·rename_i es' kr;injection M with M;subst M;exact⟨_,rfl,kr⟩
       ·cases M
      ·cases l
    ·cases l
   obtain⟨es,kz,kd⟩:=hmap;have h7:(id,ty)∈(F' j).lk.soft:=h4 _ (by rw[W,ks];simpa using J);obtain⟨outj,gdj,b1,b5,ha⟩:=R.tra j _ B;rcases ha with⟨_,_,_,k6⟩|⟨_,rj,ab,k2,a3,b9,ao,k6,b6,kw⟩
   ·rw[k6]at H;exact absurd H QH
   rw[(kw rfl).1]at h7;obtain⟨xj,kj,aj,k3,ar,V⟩:=Ms h7;dsimp only at k3 V;rw[k3]at ab;obtain⟨aj',kkj,ktj,etj,zj,U,bf,ht,hy,ke⟩:=yY ab k2;rw[ar]at U;injection U with U;subst U;rw[hu]at ht;injection ht with ht;injection ht with ad ag;subst ad;subst ag;rw[hz]at hy;injection hy with hy;subst hy;cases rj with
   |fail=>exact absurd rfl k2
   |val v=>rw[k6]at H;simp[gOf]at H
   |dfr x=>exact absurd rfl (a3 x)
   | upd vj gj =>
    obtain⟨idj,esj,q1,q2,q3,q4⟩:=A6 ke.symm;rw[q1]at V;simp[af]at V;subst V;have h6:∀m,i<m->m<ops.size->S m->id∈(F' m).wr->m=j:=by
     intro m kb hm k5 T;refine RJ λhmj=>?_;have hb:((bm ops.toList []).getD m 0).testBit i=false:=by simpa using behind m k5
     have ac:(F' i).lk.sr≠[]:=by rw[W];exact Q
     rcases Se m j with h|h
     ·exact R.once i m j kb h E ac hb k4 (el T (oy t)) (el H (oy t))
     ·exact R.once i j m X (by omega) hm ac k4 hb (el H (oy t)) (el T (oy t))
    have kn:(F' i).wr=[]:=by rw[hW];simp[gOf]
    have kf:(G' j).h.get id=(G' i).h.get id:=by
     have key:∀m,i<=m->m<=j->(G' m).h.get id=(G' i).h.get id:=by
      intro m
      induction m with
      | zero=>intro h1 _;have:i=0:=by omega
              subst this;rfl
      | succ m ihm =>
       intro h1 h2
       by_cases kb:i=m+1
       ·subst kb;rfl
       ·rw[(R.at (by omega)).2.1 id ?_]
        ·exact ihm (by omega) (by omega)
        ·intro T
         by_cases hmi:m=i
         ·subst hmi;rw[kn]at T;exact QH T
         ·rcases R.apart m j (by omega) E with hb|hb
          ·have k5:=hdown.mask hb p;exact absurd (h6 m (by omega) (by omega) k5 T) (by omega)
          ·exact (jO (cW hb).1 T).2.1 H
     exact key j (by omega) (Qq _)
    have M:esj=es:=by
     have h1:(G' j).h.get id=.map esj:=by simpa using q2
     rw[kf,kd]at h1;injection h1 with h1;exact h1.symm
    subst M;have a5:hg id=.map (esj++[(kkj.run (T' j),z)]):=by rw[I.objs id,yx (m:=j+1) (by omega) (λm h1 h2 h3 h4=>by have:=h6 m (by omega) h2 h3 h4;omega)];simp only[ov];rw[Qw ⟨p,H⟩,ao,q3];simp[gOf,OE]
    let gs:G:=⟨(G' i).h.put id (.map (esj++[(kkj.run (T' j),z)])),(G' i).nx,[]⟩
    have hh:gs.h.get id=.map (esj++[(kkj.run (T' j),z)]):=by simp[gs,OE]
    have b2:(bS C o.op).run ih (bd+1) rd ts gs=.val v:=by rw[hp,kp];exact CL K.symm kz (by simpa using kd) hh q4
    have av:id<(G' i).nx:=Nat.lt_of_not_le λh=>by have:=R.facts i (by omega) id h;rw[kd]at this;cases this
    have al:WF gs:=λid' h'=>by have h':(G' i).nx<=id':=h';simp only[gs,OE];rw[Qu (by omega)];exact R.facts i (by omega) id' h'
    have Y:Agr ((aK C o.op).run ts gs) gs hg:=by
     have e:(aK C o.op).run ts gs=⟨[],(af (a0.run ts)).map (·,ty),[],false⟩:=by rw[hp];simp[aK,k7]
     rw[e];simp only[Agr,kz,af];intro id' k1 _;simp at k1;subst k1;rw[a5,hh]
    obtain⟨u,w',γ',hg',f,rv,st⟩:=Bc (b:=b) (cs:=cs) (rest:=rest) (k:=k) R.hC R.hi I.rel al h8 hcalm Y b2 hk a2 (λid' h1 h2=>h5 id' (by simpa [gs] using h1) (by simpa [gs,gOf] using h2)) ho hw;refine fin (gs:=gs) (u:=u) (w':=w') (γ':=γ') (hg':=hg') ⟨?_,f.stp,?_⟩ rfl rv st
    ·have:=f.rel;simpa [gOf,gs] using this
    ·obtain⟨n,e1,e2,e3⟩:=f.new;have:n=[]:=by simpa [gOf,gs] using e1
     subst this;exact⟨[],by simp[gOf,gs],λ_ h=>absurd h QH,e3⟩
  ·have Y:Agr ((aK C o.op).run ts (aJ (G' i) [])) (aJ (G' i) []) hg:=by
    cases hqq:q with
    | true =>
     refine Ext.agr λid D=>?_;simp only[setLog_h]at D ⊢;refine O id (λh=>?_) D;rw[hqq]at h;cases h
    | false =>
     rw[k9,<-(kc hqq).1];unfold Agr
     split
     ·rename_i hb;exact λid D=>by simp only[setLog_h]at D ⊢;exact O id (λ_=>.inl hb) D
     ·intro id t D;simp only[setLog_h]at D ⊢;refine O id (λ_=>.inr ?_) D;rcases Q7.1 t with h|h
      ·exact .inl h
      ·exact .inr ⟨h,λj h1 h2 h3 h4=>hsoft ⟨hqq,id,j,h,h1,h2,h3,h4⟩⟩
   obtain⟨u,w',γ',hg',f,rv,st⟩:=Bc (b:=b) (cs:=cs) (rest:=rest) (k:=k) R.hC R.hi I.rel b4 h8 hcalm Y hr hk a2 h5 ho hw;exact fin f (by simp) rv st
end
end
section
variable {C:Cfg}{A:Nat->Nat->Prop}{bd:Nat}{ih:IH}{rd:Option Nat}{nt:Nat}{ops:Array Oper}{q:Bool}{T':Nat->T}{G':Nat->G}{F':Nat->Foot}{hg0:Nat->AObj}
variable {N:Nat}{w0:World}{γ0:Gm}{df0:List Deferred}{b:Frame}{k:List Item}{cs:List Frame}
theorem K5(R:Reg C ih bd rd nt ops q T' G' F' hg0)(hN:(G' ops.size).nx<=N)(hedge:∀i o,ops[i]?=some o->∀e∈o.after.toList,Region.binds .any e=true->e.on<i)(hcalm:nH b.kind cs) :
  ∀(fuel tq:Nat) (listed:Array Bool) (S:Nat->Prop) {a:Act} {w:World} {γ:Gm} {hg:Nat->AObj},listed.size=ops.size->(∀j,S j↔listed.getD j false=true)->Down ops S ->
   cnt (λj=>!listed.getD j true) ops.size<=fuel->Inv C A bd nt ops T' G' F' hg0 N w0 γ0 df0 S a w γ hg ->
   ∃a' w' γ' hg',Inv C A bd nt ops T' G' F' hg0 N w0 γ0 df0 (λj=>j<ops.size) a' w' γ' hg' /\
    Steps C.P (lone (b.atR a (.inRegion ops (Region.linearise.go .any ops fuel tq listed [])::k)) cs w) (lone (b.atR a' (.inRegion ops []::k)) cs w'):=by
 have done:∀{listed:Array Bool} {S:Nat->Prop} {a:Act} {w:World} {γ:Gm} {hg:Nat->AObj},listed.size=ops.size->(∀j,S j↔listed.getD j false=true) ->
   (∀j,j<ops.size->listed.getD j true=true)->Inv C A bd nt ops T' G' F' hg0 N w0 γ0 df0 S a w γ hg->Inv C A bd nt ops T' G' F' hg0 N w0 γ0 df0 (λj=>j<ops.size) a w γ hg:=by
  intro listed S a w γ hg n hS c I;have e:S=λj=>j<ops.size:=by
   funext j;refine propext ⟨λh=>?_,λh=>?_⟩
   ·rw[hS]at h;rcases Se j ops.size with h'|h'
    ·exact h'
    ·simp[Re,Sl (by omega:listed.size<=j)]at h
   ·rw[hS];have:=c j h;have hlt:j<listed.size:=by omega
    simpa [Array.getD,hlt] using this
  rw[<-e];exact I
 intro fuel
 induction fuel with
 | zero =>
  intro tq listed S a w γ hg n hS f hc I;have hz:=IR (Nat.le_zero.1 hc);refine⟨a,w,γ,hg,done n hS (λj d=>by simpa using hz j d) I,?_⟩;simp only[Region.linearise.go,Q4];exact Steps.refl _ _
 | succ fuel ihf =>
  intro tq listed S a w γ hg n hS f hc I;simp only[Region.linearise.go];change ∃a' w' γ' hg',_/\Steps C.P (lone (b.atR a (.inRegion ops (match (Region.ready .any ops listed)[tq % (Region.ready .any ops listed).length]? with
   |some i=>Region.linearise.go .any ops fuel (tq / (Region.ready .any ops listed).length) (listed.setIfInBounds i true) [i]
   |none=>[].reverse)::k)) cs w) _
  cases hi:(Region.ready .any ops listed)[tq % (Region.ready .any ops listed).length]? with
  | none =>
   have u:Region.ready .any ops listed=[]:=by
    cases hr:Region.ready .any ops listed with
    |nil=>rfl
    | cons x xs =>
     rw[hr]at hi;have hlt:tq % (x::xs).length<(x::xs).length:=So _ (by simp);rw[Qr hlt]at hi;cases hi
   have c:∀j,j<ops.size->listed.getD j true=true:=by
    intro j
    induction j using Nat.strongRecOn with
    | _ j ihj =>
     intro d;refine RJ λs=>?_;have s:listed.getD j true=false:=by simpa using s
     have:j∈Region.ready .any ops listed:=by
      rw[mem_ready];refine⟨s,ops[j],QO d,λe he hb=>?_⟩;have hlt:=hedge j _ (QO d) e (by simpa using he) hb;have h1:=ihj e.on hlt (by omega);have hl:e.on<listed.size:=by omega
      simpa [Array.getD,hl] using h1
     rw[u]at this;exact absurd this QH
   exact⟨a,w,γ,hg,done n hS c I,by simp only[Q4];exact Steps.refl _ _⟩
  | some i =>
   have t:=Qx hi;obtain⟨r,o,ho,c⟩:=mem_ready.1 t;have z:i<ops.size:=(RE.1 ho).1;have v:¬S i:=by
    rw[hS];have hl:i<listed.size:=by omega
    simp[Array.getD,hl]at r ⊢;exact r
   have l:∀e∈o.after.toList,Region.binds .any e=true->S e.on:=λe he hb=>by rw[hS];exact c e (by simpa using he) hb
   simp only[];rw[linearise_go_acc,List.reverse_singleton,List.singleton_append];obtain⟨a1,w1,γ1,B,I1,st1⟩:=JC (b:=b) (k:=k) (cs:=cs) (rest:=Region.linearise.go .any ops fuel (tq / (Region.ready .any ops listed).length) (listed.setIfInBounds i true) []) R I hN ho v f l hcalm;obtain⟨a2,D,γ2,y,I2,st2⟩:=ihf (tq / (Region.ready .any ops listed).length) (listed.setIfInBounds i true) (λj=>S j\/j=i) (by simp[n]) (λj=>by
     rw[hS]
     by_cases d:j=i
     ·subst d;have hl:j<listed.size:=by omega
      simp[Array.getD,hl]
     ·simp only[Re];rw[RZ (R0 d)];simp[d]) (λj oj m d e he hb=>by
     rcases d with d|rfl
     ·exact .inl (f j oj m d e he hb)
     ·rw[ho]at m;injection m with m;subst m;exact .inl (l e he hb)) (by
     have:=Ng (p:=λj=>!listed.getD j true) (q:=λj=>!(listed.setIfInBounds i true).getD j true) (λj d=>by
      by_cases hji:j=i
      ·subst hji;simpa using r
      ·simp only[Re]at d ⊢;rw[RZ (R0 hji)]at d;exact d) z (by simpa using r) (by
      have hl:i<listed.size:=by omega
      simp[Array.getD,hl])
     omega) I1
   exact⟨a2,D,γ2,y,I2,Steps.trans st1 st2⟩
theorem Dl(h:g.lg=[]):aJ g []=g:=by cases g;simp at h;subst h;rfl
theorem I6:∀(l:List Oper) (i:Nat) {t:T} {df:List ADf} {g:G} {fs:List Foot} {e:Ex} {t':T} {df':List ADf} {g':G},
  (iL C nt pm ops.toList i l).run ih d rd t df g fs=.ok e t' df' g' ->
  e=.norm/\df'=df/\∃(T':Nat->T) (G':Nat->G) (F':Nat->Foot),T' i=t/\G' i=g/\T' (i+l.length)=t'/\G' (i+l.length)=g' /\
   (∀j o,l[j]?=some o->TraAt C ih d rd nt ops false o (T' (i+j)) (T' (i+j+1)) (G' (i+j)) (G' (i+j+1)) (F' (i+j))/\(G' (i+j+1)).lg=(F' (i+j)).wr++(G' (i+j)).lg) /\
   pA pm (fs.reverse++(List.range l.length).map λj=>F' (i+j))=true:=by
 intro l
 induction l with
 | nil =>
  intro i t df g fs e t' df' g' h;simp only[iL,aa]at h
  split at h
  ·rename_i hf;injection h with h1 h2 h3 h4;subst h1;subst h2;subst h3;subst h4;exact⟨rfl,rfl,λ_=>t,λ_=>g,λ_=>⟨aC,[]⟩,rfl,rfl,rfl,rfl,λj o h=>by simp at h,by simpa using hf⟩
  ·cases h
 | cons o rest ihl =>
  intro i t df g fs e t' df' g' h;have go:∀{t1:T} {g1:G} {f:Foot},(iL C nt pm ops.toList (i+1) rest).run ih d rd t1 df g1 (f::fs)=.ok e t' df' g' ->
    TraAt C ih d rd nt ops false o t t1 g g1 f->g1.lg=f.wr++g.lg ->
    e=.norm/\df'=df/\∃(T':Nat->T) (G':Nat->G) (F':Nat->Foot),T' i=t/\G' i=g/\T' (i+(o::rest).length)=t'/\G' (i+(o::rest).length)=g' /\
     (∀j o',(o::rest)[j]?=some o'->TraAt C ih d rd nt ops false o' (T' (i+j)) (T' (i+j+1)) (G' (i+j)) (G' (i+j+1)) (F' (i+j))/\(G' (i+j+1)).lg=(F' (i+j)).wr++(G' (i+j)).lg) /\
     pA pm (fs.reverse++(List.range (o::rest).length).map λj=>F' (i+j))=true:=by
   intro t1 g1 f h c p;obtain⟨h1,h2,T1,G1,F1,a1,a2,q,a4,s,u⟩:=ihl (i+1) h;have ne:∀j,i+1+j≠i:=λj=>by omega
   refine⟨h1,h2,λm=>if m=i then t else T1 m,λm=>if m=i then g else G1 m,λm=>if m=i then f else F1 m,by simp,by simp,?_,?_,?_,?_⟩
   ·simp only[Rd];rw[Qu (by omega),show i+(rest.length+1)=i+1+rest.length by omega];exact q
   ·simp only[Rd];rw[Qu (by omega),show i+(rest.length+1)=i+1+rest.length by omega];exact a4
   ·intro j o' n;cases j with
    | zero =>
     simp at n;subst n;simp only[RY,if_true];rw[Qu (by omega),Qu (by omega),a1,a2];exact⟨c,p⟩
    | succ j =>
     have:=s j o' (by simpa using n);rw[show i+(j+1)=i+1+j by omega];simp only[Qu (ne j),show i+1+j+1=i+1+(j+1) by omega,Qu (ne (j+1))];rw[show i+1+(j+1)=i+1+j+1 by omega];exact this
   ·rw[Rd,List.range_succ_eq_map,Sv,List.map_map];simp only[RY,if_true];rw[<-u];congr 1;simp only[Q5,Rj,List.singleton_append];congr 2;refine RC λj _=>?_;simp only[Function.comp];rw[Qu (by omega),show i+(j+1)=i+1+j by omega]
  simp only[iL]at h
  split at h
  ·rename_i out gd k b;dsimp only at h
   split at h
   ·rename_i hq;generalize hr:(bS C o.op).run ih d rd t (aJ g [])=r at h;cases r with
    |fail=>cases h
    | val v =>
     refine go (t1:=out.run t v) (g1:=nK g g.lg) (f:=⟨(aK C o.op).run t g,[]⟩) h ⟨out,gd,k,b,.inr ⟨hq,_,hr,by simp,by simp,rfl,by simp[gOf],by simp[gOf],by simp[gOf],λ_=>⟨rfl,by simp[gOf]⟩⟩⟩ (by simp)
    | upd v g1 =>
     refine go (t1:=out.run t v) (g1:=nK g1 (g1.lg++g.lg)) (f:=⟨(aK C o.op).run t g,g1.lg⟩) h ⟨out,gd,k,b,.inr ⟨hq,_,hr,by simp,by simp,rfl,by simp[gOf],by simp[gOf],by simp[gOf],λ_=>⟨rfl,by simp[gOf]⟩⟩⟩ (by simp)
    |dfr a=>cases h
   ·rename_i hq;exact go h ⟨out,gd,k,b,.inl ⟨hq,rfl,rfl,rfl⟩⟩ (by simp)
   ·cases h
  ·cases h
theorem IJ(hC:CfgOk C){op:Op}{x:ADf}(h:(bS C op).run ih d rd t g=.dfr x):∃c,op=.defer c:=by
 have iso:∀f args,ap ih d g f args≠.dfr x:=by
  intro f args;unfold ap
  repeat' (first|split|rw[aa])
  all_goals (intro h;cases h)
 have orf:∀r,orF r≠.dfr x:=by intro r h;cases r<;>cases h
 have rnd:∀id args,cE ih d id args g≠.dfr x:=by
  intro id args;unfold cE
  repeat' split
  all_goals (intro h;cases h)
 unfold bS at h
 split at h
 rotate_left
 ·cases h
 rename_i f k;unfold cOp at k
 split at k
 ·split at k
  ·split at k
   ·rename_i e he;injection k with k;subst k;exact absurd h (hC.noDfr _ _ he _ _ _ _)
   ·rw[aa]at k
    split at k
    ·injection k with k;subst k;exact absurd h (iso _ _)
    ·injection k with k;subst k;exact absurd h (orf _)
  ·cases k
 ·split at k
  ·injection k with k;subst k;dsimp only at h;unfold jo at h
   split at h
   ·split at h
    ·rename_i e he;exact absurd h (hC.noDfr _ _ he _ _ _ _)
    ·rw[aa]at h
     split at h
     ·exact absurd h (iso _ _)
     ·exact absurd h (orf _)
   ·exact absurd h (rnd _ _)
   ·cases h
  ·cases k
 ·injection k with k;subst k;cases h
 ·exact⟨_,rfl⟩
 ·split at k
  ·rename_i s hs;injection k with k;subst k;have:=vp (t:=t) (g:=g) hs;have h:s.run t g=.dfr x:=h;rw[h]at this;exact this.elim
  ·cases k
theorem HK(hC:CfgOk C)(hi:IHOk C ih):∀(l:List Oper) (i:Nat) {t:T} {df:List ADf} {g:G} {e:Ex} {t':T} {df':List ADf} {g':G},
  (jA C nt ops.toList l).run ih d rd t df g=.ok e t' df' g'->(∀o∈l,wS C o.op=true)->g.lg=[]->g'.lg=[]->WF g ->
  e=.norm/\df'=df/\∃(T':Nat->T) (G':Nat->G) (F':Nat->Foot),T' i=t/\G' i=g/\T' (i+l.length)=t'/\G' (i+l.length)=g' /\
   (∀j o,l[j]?=some o->TraAt C ih d rd nt ops true o (T' (i+j)) (T' (i+j+1)) (G' (i+j)) (G' (i+j+1)) (F' (i+j)))/\∀j,(F' j).wr=[]:=by
 intro l
 induction l with
 | nil =>
  intro i t df g e t' df' g' h _ _ _ _;simp only[jA]at h;injection h with h1 h2 h3 h4;subst h1;subst h2;subst h3;subst h4;exact⟨rfl,rfl,λ_=>t,λ_=>g,λ_=>⟨aC,[]⟩,rfl,rfl,rfl,rfl,λj o h=>by simp at h,λ_=>rfl⟩
 | cons o rest ihl =>
  intro i t df g e t' df' g' h hq s q p;have go:∀{t1:T} {g1:G},(jA C nt ops.toList rest).run ih d rd t1 df g1=.ok e t' df' g'->g1.lg=[]->WF g1 ->
    TraAt C ih d rd nt ops true o t t1 g g1 ⟨aC,[]⟩ ->
    e=.norm/\df'=df/\∃(T':Nat->T) (G':Nat->G) (F':Nat->Foot),T' i=t/\G' i=g/\T' (i+(o::rest).length)=t'/\G' (i+(o::rest).length)=g' /\
     (∀j o',(o::rest)[j]?=some o'->TraAt C ih d rd nt ops true o' (T' (i+j)) (T' (i+j+1)) (G' (i+j)) (G' (i+j+1)) (F' (i+j)))/\∀j,(F' j).wr=[]:=by
   intro t1 g1 h f B z;obtain⟨h1,h2,T1,G1,F1,a1,a2,D,a4,E,F⟩:=ihl (i+1) h (λo' ho'=>hq o' (Q9 _ ho')) f q B;have ne:∀j,i+1+j≠i:=λj=>by omega
   refine⟨h1,h2,λm=>if m=i then t else T1 m,λm=>if m=i then g else G1 m,λm=>if m=i then ⟨aC,[]⟩ else F1 m,by simp,by simp,?_,?_,?_,?_⟩
   ·simp only[Rd];rw[Qu (by omega),show i+(rest.length+1)=i+1+rest.length by omega];exact D
   ·simp only[Rd];rw[Qu (by omega),show i+(rest.length+1)=i+1+rest.length by omega];exact a4
   ·intro j o' A;cases j with
    | zero =>
     simp at A;subst A;simp only[RY,if_true];rw[Qu (by omega),Qu (by omega),a1,a2];exact z
    | succ j =>
     have:=E j o' (by simpa using A);rw[show i+(j+1)=i+1+j by omega];simp only[Qu (ne j),show i+1+j+1=i+1+(j+1) by omega,Qu (ne (j+1))];rw[show i+1+(j+1)=i+1+j+1 by omega];exact this
   ·intro j;dsimp only
    split
    ·rfl
    ·exact F j
  have exec:∀{out:Stg (T->AV->T)} {gd:Stg (T->Option Bool)},oI nt o.dst=some out->iM ops.toList o.guard=some gd->gd.run t=some true ->
    nF out.run ((jA C nt ops.toList rest).run ih d rd) t df g ((bS C o.op).run ih d rd t g)=.ok e t' df' g' ->
    e=.norm/\df'=df/\∃(T':Nat->T) (G':Nat->G) (F':Nat->Foot),T' i=t/\G' i=g/\T' (i+(o::rest).length)=t'/\G' (i+(o::rest).length)=g' /\
     (∀j o',(o::rest)[j]?=some o'->TraAt C ih d rd nt ops true o' (T' (i+j)) (T' (i+j+1)) (G' (i+j)) (G' (i+j+1)) (F' (i+j)))/\∀j,(F' j).wr=[]:=by
   intro out gd k b x h;have hm:=iO (op:=o.op) (d:=d) (rd:=rd) (t:=t) hC.mon hi.mon p;generalize hr:(bS C o.op).run ih d rd t g=r at h hm;have y:(bS C o.op).run ih d rd t (aJ g [])=r:=by rw[Dl s];exact hr
   cases r with
   |fail=>cases h
   | val v =>
    exact go (t1:=out.run t v) (g1:=g) h s p ⟨out,gd,k,b,.inr ⟨x,_,y,by simp,by simp,rfl,by simp[gOf],by simp[gOf],by simp[gOf],λh=>by cases h⟩⟩
   | upd v g1 =>
    have w1:WF g1:=hm.wf p;have H:=xw hC.mon hi.mon h w1;have f:g1.lg=[]:=by obtain⟨n,a,_,_⟩:=H.new;rw[q]at a;exact (List.append_eq_nil_iff.1 a.symm).2
    exact go (t1:=out.run t v) (g1:=g1) h f w1 ⟨out,gd,k,b,.inr ⟨x,_,y,by simp,by simp,rfl,by simp[gOf],by simp[gOf,f],by simp[gOf],λh=>by cases h⟩⟩
   | dfr a =>
    obtain⟨c,hc⟩:=IJ hC hr;have:=hq o Rv;rw[hc]at this;simp[wS]at this
  simp only[jA]at h
  split at h
  ·rename_i out k
   split at h
   ·rename_i b;exact exec k (gd:=⟨λ_=>some true⟩) (by rw[b];rfl) rfl h
   ·rename_i gd0 b
    split at h
    ·rename_i gd u;rw[<-b]at u;dsimp only at h
     split at h
     ·rename_i w;exact exec k u w h
     ·rename_i w;exact go h s p ⟨out,gd,k,u,.inl ⟨w,rfl,rfl,rfl⟩⟩
     ·cases h
    ·cases h
  ·cases h
theorem Gf{K V:Type}{wr:Nat->K->Prop}{val:Nat->K->V}{base:K->V}{k:K}:ov (λ_=>False) wr val base n k=base k:=by rw[yx (m:=0) (Q_ _) (λ_ _ _ h=>h.elim)];rfl
theorem Cc(R:Reg C ih bd rd nt ops q T' G' F' hg0)(hmix:C.P.follows .mixedOrders=true)(hedge:∀i o,ops[i]?=some o->∀e∈o.after.toList,Region.binds .any e=true->e.on<i)
  {w:World} {γ:Gm} {nx:Nat} {a:Act} {id:Nat} (hr:Rel C A bd w γ hg0 nx) (ht:TR w γ A bd nt (T' 0) a.tmps) (hcalm:nH b.kind cs) :
  ∃a' w' γ' hg',Rel C A bd w' γ' hg' (Nat.max nx (G' ops.size).nx)/\Stp w γ w' γ'/\TR w' γ' A bd nt (T' ops.size) a'.tmps/\a'.defers=a.defers /\
   (∀id,((∃j,j<ops.size/\id∈(F' j).wr)/\hg' id=(G' ops.size).h.get id)\/((∀j,j<ops.size->id ∉ (F' j).wr)/\hg' id=hg0 id)) /\
   Steps C.P (lone (b.atR a (.code (.region id ops true)::k)) cs w) (lone (b.atR a' k) cs w'):=by
 let w1:World:={ w with drawn:=w.drawn+1 }
 have l:Stp w γ w1 γ:=Dw (Qq _) rfl rfl rfl (Nat.le_succ _) λ_ _=>rfl;have m:Rel C A bd w1 γ hg0 nx:=hr.same l λ_ _=>rfl;have I0:Inv C A bd nt ops T' G' F' hg0 (Nat.max nx (G' ops.size).nx) w γ a.defers (λ_=>False) a w1 γ hg0:=by refine⟨m.up (RO _ _),l,ht.1,λs=>?_,λid=>by rw[Gf],rfl⟩;rw[Gf];exact (ht.2 s).step l
 have f:cnt (λj=>!(Array.replicate ops.size false).getD j true) ops.size<=ops.size:=by
  generalize (λj=>!(Array.replicate ops.size false).getD j true)=p;generalize ops.size=n
  induction n with
  |zero=>exact Qq _
  |succ n ih'=>simp only[cnt];split<;>omega
 obtain⟨a',w',γ',hg',I,st⟩:=K5 (b:=b) (k:=k) (cs:=cs) R (R5 _ _) hedge hcalm ops.size (w.tape w.drawn (.order b.fn id)) (Array.replicate ops.size false) (λ_=>False) (by simp)
  (λj=>by simp[Re,Array.getElem?_replicate];split<;>simp) (λj o _ h=>h.elim) f I0
 have d:∀{K V:Type} {wr:Nat->K->Prop} {val:Nat->K->V} {base:K->V} {k:K},(∀j,j<ops.size->¬wr j k->val (j+1) k=val j k) ->
   ((∃j,j<ops.size/\wr j k)/\ov (λj=>j<ops.size) wr val base ops.size k=val ops.size k)\/((∀j,j<ops.size->¬wr j k)/\ov (λj=>j<ops.size) wr val base ops.size k=base k/\val ops.size k=val 0 k) :=
  λkeep=>J5 (Qq _) keep λj _ _=>Iff.rfl
 refine⟨a',w',γ',hg',I.rel,I.stp,⟨I.size,λs=>?_⟩,I.dfr,λid'=>?_,?_⟩
 ·have:=I.slots s;rcases d (wr:=λi s=>iP ops i=some s) (val:=λi s=>(T' i).get AV.undef s) (base:=λs=>(T' 0).get AV.undef s) (k:=s) (λj hj hw=>R.keepT hj hw) with⟨_,h⟩|⟨_,h,h2⟩
  ·rw[h]at this;exact this
  ·rw[h,<-h2]at this;exact this
 ·rw[I.objs id'];rcases d (wr:=λi id=>id∈(F' i).wr) (val:=λi id=>(G' i).h.get id) (base:=hg0) (k:=id') (λj hj hw=>(R.at hj).2.1 id' hw) with⟨h1,h⟩|⟨h1,h,_⟩
  ·exact .inl ⟨h1,h⟩
  ·exact .inr ⟨h1,h⟩
 ·refine .head stepR_region_draw ?_;have c:Region.schedule (C.P.follows .mixedOrders) ops (w.tape w.drawn (.order b.fn id))=Region.linearise.go .any ops ops.size (w.tape w.drawn (.order b.fn id)) (Array.replicate ops.size false) []:=by
   simp only[Region.schedule,hmix,SG,if_true]
   rfl
  rw[c];exact Steps.trans st (.one stepR_region_end)
end
section
variable {df':List ADf}
section
variable {C:Cfg}{A:Nat->Nat->Prop}{bd:Nat}{w w':World}{γ γ':Gm}{hg:Nat->AObj}{nx:Nat}
variable {t:T}{g:G}{ih:IH}
def Ov(C:Cfg)(A:Nat->Nat->Prop)(bd nt:Nat)(b:Frame)(k:List Item)(cs:List Frame)(m:Machine)(w:World)(γ:Gm)(hg:Nat->AObj)(nx:Nat)(g:G)(e:Ex)(t':T)(df':List ADf)(g':G):Prop :=
 ∃a' w' γ' hg',Fin C A bd w γ hg nx g w' γ' hg' g'/\TR w' γ' A bd nt t' a'.tmps/\DR w' γ' A bd df' a'.defers/\Arr C.P m b k cs e a' w'
theorem EL(hC:CfgOk C)(hi:IHOk C ih){ops:Array Oper}{draw:Bool}{rid:Nat}{e:Ex}
  (h:(fB C nt ops.toList draw).run ih (bd+1) rd t df g=.ok e t' df' g'):wA C bd nt rd (.region rid ops draw) t df g e t' df' g':=by
 intro A w γ hg nx b a k cs hr hx B hf ht E W l;unfold fB at h;rw[aa]at h
 split at h
 rotate_left
 ·rename_i c;have c:draw=false:=by simpa using c
  subst c;obtain⟨rfl,a',w',γ',hg',f,tr,dr,st⟩:=IK (b:=b) (cs:=cs) (k:=k) hC hi ops.toList 0 (by simp) h B hr hx hf ht E W l;refine⟨a',w',γ',hg',f,tr,dr,.head stepR_region ?_⟩;rw[S8];simpa using st
 rename_i c;subst c;rw[aa]at h
 split at h
 rotate_left
 ·cases h
 rename_i d;have d:nU 0 ops.toList=true/\lZ (bm ops.toList []) 0 ops.toList=true /\
   jT (λi x j y=>((bm ops.toList []).getD j 0).testBit i || jL ops.toList x y) 0 ops.toList=true:=by
  simp only[Bd,Qt]at d;exact⟨d.1.1,d.1.2,d.2⟩
 obtain⟨P,Q,S⟩:=d;have r:∀i o,ops[i]?=some o->∀e∈o.after.toList,Region.binds .any e=true->e.on<i:=by intro i o ho e he hb;have:=y7 P i o (by simpa using ho) e he hb;omega
 have m:∀i o j b,ops[i]?=some o->o.guard=some (j,b)->((bm ops.toList []).getD i 0).testBit j=true:=by intro i o j b ho hg';have:=xY Q i o (by simpa using ho) j b hg';simpa using this
 have u:∀i j oi oj,i<j->ops[i]?=some oi->ops[j]?=some oj->((bm ops.toList []).getD j 0).testBit i=true\/jL ops.toList oi oj=true:=by intro i j oi oj F U V;have:=tJ S i j oi oj F (by simpa using U) (by simpa using V);simpa using this
 have M:∀id,(γ id).kind=0->hg id=.none:=λid h=>(hr.none_iff id).1 h;rw[aa]at h
 split at h
 ·
  rename_i hq;dsimp only at h;generalize hc:(jA C nt ops.toList ops.toList).run ih (bd+1) rd t df (aJ g [])=cr at h;cases cr with
  |fail=>cases h
  | ok e1 t1 df1 g1 =>
   simp only[mf]at h;cases hlg:g1.lg with
   |cons x xs=>rw[hlg]at h;cases h
   | nil =>
    rw[hlg]at h;dsimp only at h;rw[aa]at h
    split at h
    rotate_left
    ·cases h
    rename_i z;have z:=aI z;injection h with h1 h2 h3 h4;subst h1;subst h2;subst h3;subst h4;obtain⟨rfl,rfl,T',G',F',a1,a2,K,a4,J,D⟩:=HK hC hi ops.toList 0 hc (λo ho=>QB.1 hq o ho) (by simp) hlg B.setLog;simp only[Rn,Array.length_toList]at K a4 J;have R:Reg C ih bd rd nt ops true T' G' F' hg:=by
     refine⟨hC,hi,λi o ho=>J i o (by simpa using ho),by rw[a2];exact B.setLog,by rw[a2];simpa using hx,λid h1 h2=>?_,λi j _ _=>.inr ?_,λi j j' _ _ _ _ _ _ hm=>?_,u,m,λ_ i _=>D i⟩
     ·rw[a2]at h1;rw[a4,z]at h2;exact M id (hf id (by simpa using h1) h2)
     ·simp[bG,je,fD,D]
     ·rw[D j]at hm;simp[meets]at hm
    obtain⟨a',w',γ',hg',s,v,I,q,p,st⟩:=Cc (b:=b) (k:=k) (cs:=cs) (id:=rid) R hC.mixed r hr (by rw[a1];exact ht) l;have H:∀id,hg' id=hg id:=λid=>by
     rcases p id with⟨⟨j,_,h⟩,_⟩|⟨_,h⟩
     ·rw[D j]at h;exact absurd h QH
     ·exact h
    refine⟨a',w',γ',hg',⟨?_,v,⟨[],rfl,λ_ h=>absurd h QH,λid _=>H id⟩⟩,by rw[<-K];exact I,by rw[q];exact E.step v,st⟩;rw[a4,z]at s;exact s
 ·dsimp only at h;obtain⟨rfl,rfl,T',G',F',a1,a2,K,a4,J,D⟩:=I6 ops.toList 0 h;simp only[Rn,Array.length_toList,Q4,QU]at K a4 J D;obtain⟨b1,b2⟩:=Fm D;have L:∀j,j<ops.size->((List.range ops.size).map F')[j]?=some (F' j):=λj hj=>by simp[SE hj]
  have R:Reg C ih bd rd nt ops false T' G' F' hg:=by
   refine⟨hC,hi,λi o ho=>(J i o (by simpa using ho)).1,by rw[a2];exact B,by rw[a2];exact hx,λid h1 h2=>?_,λi j F hj=>?_,λi j j' h1 h2 h3 h4 h5 h6 h7 h8=>?_,u,m,λh=>by cases h⟩
   ·rw[a2]at h1;rw[a4]at h2;exact M id (hf id h1 h2)
   ·have:=tJ b1 i j _ _ F (L i (by omega)) (L j hj);simpa using this
   ·exact Bp b2 i j j' _ _ _ h1 h2 (L i (by omega)) (L j (by omega)) (L j' h3) h4 (by simpa using h5) (by simpa using h6) h7 h8
  obtain⟨a',w',γ',hg',s,v,I,q,p,st⟩:=Cc (b:=b) (k:=k) (cs:=cs) (id:=rid) R hC.mixed r hr (by rw[a1];exact ht) l;have N:∀n,n<=ops.size->∃new,(G' n).lg=new++g.lg/\∀id,id∈new↔∃j,j<n/\id∈(F' j).wr:=by
   intro n
   induction n with
   |zero=>intro _;exact⟨[],by rw[a2];rfl,λid=>⟨λh=>absurd h QH,λ⟨j,h,_⟩=>absurd h (Nat.not_lt_zero j)⟩⟩
   | succ n ihn =>
    intro X;obtain⟨new,e1,e2⟩:=ihn (by omega);have O:n<ops.size:=by omega
    have:=(J n ops[n] (by rw[S5];exact QO O)).2;refine⟨(F' n).wr++new,by rw[this,e1,Rj],λid=>?_⟩;rw[Q7,e2];constructor
    ·rintro (h|⟨j,h1,h2⟩)
     ·exact⟨n,by omega,h⟩
     ·exact⟨j,by omega,h2⟩
    ·rintro⟨j,h1,h2⟩
     by_cases hj:j=n
     ·subst hj;exact .inl h2
     ·exact .inr ⟨j,by omega,h2⟩
  obtain⟨new,e1,e2⟩:=N ops.size (Qq _);refine⟨a',w',γ',hg',⟨by rw[a4]at s;exact s,v,⟨new,by rw[<-a4];exact e1,λid hid=>?_,λid hid=>?_⟩⟩,by rw[<-K];exact I,by rw[q];exact E.step v,st⟩
  ·rcases p id with⟨_,h⟩|⟨h1,_⟩
   ·rw[h,a4]
   ·obtain⟨j,h2,h3⟩:=(e2 id).1 hid;exact absurd h3 (h1 j h2)
  ·rcases p id with⟨h1,_⟩|⟨_,h⟩
   ·exact absurd ((e2 id).2 h1) hid
   ·exact h
theorem ck{b:Frame}{a:Act}{k:List Item}{cs:List Frame}{c:Code} :
  step P (lone (b.atR a (.code (.scope c)::k)) cs w)=.next (lone (b.atR a (.code c::.inScope c::k)) cs w) :=
 step_lone_go (by simp[stepG,stepG.exec,Frame.atR])
theorem nC{b:Frame}{a:Act}{k:List Item}{cs:List Frame}{c:Code} :
  step P (lone (b.atR a (.inScope c::k)) cs w)=.next (lone (b.atR a k) cs w) :=
 step_lone_go (by simp[stepG,stepG.exec,Frame.atR])
theorem fq{m m1 X:Machine}(h:Steps P m X)(hne:m≠X)(hs:step P m=.next m1):Steps P m1 X:=by
 obtain⟨n,k⟩:=h;cases n with
 |zero=>simp[runN]at k;exact absurd k hne
 |succ n=>exact⟨n,by simpa [runN,hs] using k⟩
theorem yW{b b':Frame}{a a':Act}{k k':List Item}{cs cs':List Frame}{w w':World}(h:lone (b.atR a k) cs w=lone (b'.atR a' k') cs' w'):k=k':=by
 have h1:(lone (b.atR a k) cs w).gs=(lone (b'.atR a' k') cs' w').gs:=by rw[h]
 simp only[lone,Array.mk.injEq,List.cons.injEq,and_true]at h1;have h2:=congrArg (λg:Goroutine=>g.frame.todo) h1;simpa [Frame.atR] using h2
theorem sP(hC:CfgOk C)(hi:IHOk C ih){fo:Operand}{s:Stg (T->AV)}{ps:Array Tmp}{dfr:Nat}{e:Ex}
  (hs:aN C fo=some s) (h:cJ C ih nt (bd+1) rd (s.run t) ps.toList assign body t df dfr g=.ok e t' df' g')
  (hwf:WF g) {b:Frame} {a:Act} {k:List Item} {cs:List Frame} {mark:List Deferred} {blk:Nat}
  (hr:Rel C A bd w γ hg nx) (hx:Ext g.h hg) (hf:Free γ g g') (ht:TR w γ A bd nt t a.tmps) (hdf:DR w γ A bd df (mark++a.defers)) (hrd:RdOk γ rd b) (hcalm:nH b.kind cs)
  (hdfr:(γ dfr).kind=4/\(γ dfr).blk=blk) {w00:World}
  (henter:(Instr.enterLoop b.fn a.tmps ps assign body b.roundOf).run C.P w00=.ok (w.heap.size,mark) (World.add w (.loop { state:=.ready,pending:=none,fn:=b.fn,tmps:=a.tmps,params:=ps,assign,body,defers:=blk }))) :
  Ov C A bd nt b k cs (lone (b.atR a (.code (.rangeFunc fo ps assign body)::k)) cs w00) w γ hg nx g e t' df' g':=by
 unfold cJ at h;have K:=au hs ht hr;generalize hfo:a.eval fo=vf at K;generalize s.run t=y at h K;cases K with
 | clo _ f xs ys vs1 us1 hl hl2 h1 h2 =>
  dsimp only at h;rw[aa]at h
  split at h
  ·cases h
  split at h
  rotate_left
  ·cases h
  rename_i rv0 g2 q
  let L:Loop:={ state:=.ready,pending:=none,fn:=b.fn,tmps:=a.tmps,params:=ps,assign,body,defers:=blk }
  let w1:=World.add w (.loop L)
  let gh:Gh:=⟨3,0,0,0,w.heap.size,0,0,true⟩
  have B:Mon g (g.new (.loop nt t ps.toList assign body dfr .ready none)):=Mon.mk';have wf1:=B.wf hwf;have H:=hi.mon.call _ _ _ _ _ _ q wf1;have wf2:=H.wf wf1;have m3:=uj hi.mon h wf2;have j:(γ g.nx).kind=0:=hf g.nx (Qq _) (QW B.nx (QW H.nx m3.nx));have F:dfr≠g.nx:=by rintro rfl;rw[hdfr.1]at j;cases j
  obtain⟨r1,s1⟩:=hr.add (id:=g.nx) (gh:=gh) (o:=.loop L) (ao:=.loop nt t ps.toList assign body dfr .ready none) (nx':=Nat.max nx (g.nx+1)) j rfl (RO _ _) (QR (Su _) (R5 _ _)) (by
   have s0:=Bt (w:=w) (o:=.loop L) (gh:=gh) j rfl;refine⟨by simp[gh],by simp[gh],L,by rw[jS];simp[gh],rfl,rfl,rfl,rfl,rfl,ht.1,λi=>(ht.2 i).step s0,?_,?_⟩
   ·rw[cP _ _ F];exact hdfr.1
   ·rw[cP _ _ F];exact hdfr.2.symm)
  have f1:Fin C A bd w γ hg nx g w1 (upd γ g.nx gh) _ (g.new (.loop nt t ps.toList assign body dfr .ready none)):=OC r1 s1;have h6:=f1.ext B hx;have h3:=f1.freed hr B hf;obtain⟨Q,W⟩:=hi.call _ _ _ _ _ _ q;have h8:RV w1 (upd γ g.nx gh) A bd (.yld g.nx) (.func (.yield w.heap.size) #[] #[]):=.yld _ _ _ (by simp[gh]) (by simp[gh]);have I:RVs w1 (upd γ g.nx gh) A bd (xs++(.yld g.nx::ys)) (vs1.toList++(.func (.yield w.heap.size) #[] #[]::us1.toList)):=by
   refine ((OH hl h1).step s1).append ?_;have hu:=(OH hl2 h2).step s1;refine⟨by simp[hu.1],λi x v hx' hv=>?_⟩;cases i with
   |zero=>simp at hx' hv;subst hx';subst hv;exact h8
   |succ i=>exact hu.2 i x v (by simpa using hx') (by simpa using hv)
  let a1:Act:={ a with defers:=mark++a.defers }
  let fr1:=b.atR a1 (.inRangeFunc w.heap.size::k)
  obtain⟨u,X,γ2,S,f2,_,fr,st,q1,q2,q3,q4,fn,q5,q6⟩:=W A w1 _ _ _ _ f1.rel h6 wf1 (h3.le m3.nx) I .normal (fr1::cs) (.inl rfl);have D:=f1.trans f2 B H;have h7:=D.ext (B.trans H) hx;have N:(vs1.toList++(.func (.yield w.heap.size) #[] #[]::us1.toList)).toArray=(vs1++#[.func (.yield w.heap.size) #[] #[]])++us1:=by apply S7;simp
  rw[N]at st;have E:step C.P (lone (b.atR a (.code (.rangeFunc fo ps assign body)::k)) cs w00)=.next (lone (Frame.enter C.P f ((vs1++#[.func (.yield w.heap.size) #[] #[]])++us1) .normal) (fr1::cs) w1):=by
   refine stepR_rangeFunc (l:=w.heap.size) (mark:=mark) (w₁:=w1) (w₁':=w1) (d:={ target:=.fn (.func f) us1,args:=vs1++#[.func (.yield w.heap.size) #[] #[]] }) henter ?_ ?_
   ·simp only[resolve];rw[hfo];simp[Deferred.ofValue,Act.eval]
   ·exact Q _ _
  have R:fr1.finish u=b.atR a1 (.endRangeFunc w.heap.size::k):=finish_atR_inRangeFunc _ _;have J:Steps C.P (lone (b.atR a (.code (.rangeFunc fo ps assign body)::k)) cs w00) (lone (b.atR a1 (.endRangeFunc w.heap.size::k)) cs X):=by refine .head E (Steps.trans st (.one ?_));rw[<-R];exact step_leave_returned ⟨q1,q2,q3,fn,by rw[q4];exact q5,q6⟩
  unfold dK at h
  split at h
  rotate_left
  ·cases h
  rename_i nt3 Z ps3 assign3 body3 dfr3 st3 pend3 n;have n:g2.h.get g.nx=.loop nt3 Z ps3 assign3 body3 dfr3 st3 pend3:=by simpa using n
  have U:S g.nx=.loop nt3 Z ps3 assign3 body3 dfr3 st3 pend3:=by rw[h7 g.nx (by rw[n];simp),n]
  have V:=D.rel.obj g.nx;rw[U]at V;obtain⟨k1,k2,L2,Y,k4,k5,k6,k7,k8,k9,ha,hc,hd⟩:=V;have O:(γ2 g.nx).blk=w.heap.size:=by have:=f2.stp.blk_eq (id:=g.nx) (by simp[gh]) (by simp[gh]);rw[this];simp[gh]
  obtain⟨r3,s3⟩:=D.rel.setLoop (st':=.exhausted) (pend':=pend3) U Y;rw[O]at Y r3 s3;have f3:Fin C A bd X γ2 S (Nat.max nx g2.nx) g2 _ γ2 _ (g2.put g.nx (.loop nt3 Z ps3 assign3 body3 dfr3 .exhausted pend3)):=OD r3 s3;have M:Mon g2 (g2.put g.nx (.loop nt3 Z ps3 assign3 body3 dfr3 .exhausted pend3)):=Mon.put wf2 (by rw[n];simp);have m:=D.trans f3 (B.trans H) M;have h9:(γ2 g.nx).kind≠0:=by rw[k1];decide
  have r:st3≠.busy->(Instr.endLoop w.heap.size).run C.P X=.ok pend3 (World.setBlk X w.heap.size (.loop { L2 with state:=.exhausted,pending:=pend3 })):=by
   intro h5;unfold Instr.endLoop;have hb:(L2.state == LoopState.busy)=false:=by rw[k4];cases st3<;>first|rfl|exact absurd rfl h5
   simp only[QC,j3 Y,Qy,hb,Sq,if_false,Q0,rI Y];subst k5
   rfl
  have z:Stp w γ (World.setBlk X w.heap.size (.loop { L2 with state:=.exhausted,pending:=pend3 })) γ2:=m.stp
  split at h
  ·cases h
  ·rename_i h4;have r:=r (by rintro rfl;exact h4 rfl);have p:=Steps.trans J (.one (stepR_endRangeFunc (P:=C.P) (b:=b) (a:=a1) (k:=k) (cs:=cs) r))
   split at h
   ·injection h with e1 e2 e3 e4;subst e1;subst e2;subst e3;subst e4;exact⟨a1,_,γ2,_,m,ht.step z,hdf.step z,by simpa [Arr] using p⟩
   ·rename_i c;have m5:=hi.mon.code _ _ _ _ _ _ _ _ _ _ _ h (M.wf wf2);obtain⟨a',w',γ',hg',f4,tr,dr,ar⟩:=hi.code _ _ _ _ _ _ _ _ _ _ _ h A _ _ _ _ b a1 k cs m.rel (m.ext ((B.trans H).trans M) hx) (M.wf wf2) (m.freed hr ((B.trans H).trans M) hf)
     (ht.step z) (hdf.step z) (hrd.step z) hcalm
    exact⟨a',w',γ',hg',m.trans f4 ((B.trans H).trans M) m5,tr,dr,ar.of_steps (by simpa using p)⟩
 |_=>cases h
theorem ym{o:Obj}:(newObj o).run P w=.ok w.heap.size (World.add w o):=by simp[newObj,Sem.run,World.add]
theorem y8{fn:FuncId}{ps:Array Tmp} :
  (Instr.enterLoop fn tmps ps assign body none).run P w=.ok (w.heap.size+1,[{ target:=.collected w.heap.size,args:=#[] }])
   (World.add (World.add w (.deferred (some []))) (.loop { state:=.ready,pending:=none,fn,tmps,params:=ps,assign,body,defers:=w.heap.size })):=by
 unfold Instr.enterLoop;simp only[QC,ym,Qy,Q0,add_size]
theorem AO{fn:FuncId}{ps:Array Tmp}{l:Nat}{L:Loop}(h:w.heap[l]?=some (.loop L)) :
  (Instr.enterLoop fn tmps ps assign body (some l)).run P w=.ok (w.heap.size,[])
   (World.add w (.loop { state:=.ready,pending:=none,fn,tmps,params:=ps,assign,body,defers:=L.defers })):=by
 unfold Instr.enterLoop;simp only[QC,j3 h,ym,Qy,Q0]
theorem EJ(hC:CfgOk C)(hi:IHOk C ih){fo:Operand}{s:Stg (T->AV)}{ps:Array Tmp}{e:Ex}
  (hs:aN C fo=some s) (h:mg C nt s.run ps.toList assign body ih (bd+1) rd t df g=.ok e t' df' g'):wA C bd nt rd (.rangeFunc fo ps assign body) t df g e t' df' g':=by
 intro A w γ hg nx b a k cs hr hx q hf ht m j f;unfold mg at h;cases rd with
 | some l =>
  dsimp only at h
  split at h
  rotate_left
  ·cases h
  rename_i nt0 t0 ps0 as0 bo0 dfr st0 pe0 d;have d:g.h.get l=.loop nt0 t0 ps0 as0 bo0 dfr st0 pe0:=by simpa using d
  have u:hg l=.loop nt0 t0 ps0 as0 bo0 dfr st0 pe0:=by rw[hx l (by rw[d];simp),d]
  have n:=hr.obj l;rw[u]at n;obtain⟨F,k2,L,D,H,I,J,K,M,N,B,v,x⟩:=n;have c:=AO (P:=C.P) (fn:=b.fn) (tmps:=a.tmps) (ps:=ps) (assign:=assign) (body:=body) D;rw[x,<-j.2]at c;exact sP (mark:=[]) hC hi hs h q hr hx hf ht m j f ⟨v,rfl⟩ c
 | none =>
  dsimp only at h
  let gh:Gh:=⟨4,0,0,0,w.heap.size,0,0,true⟩
  have r:Mon g (g.new (.dfr true)):=Mon.mk';have wf1:=r.wf q;have z:=nB hi.mon h wf1;have i:(γ g.nx).kind=0:=hf g.nx (Qq _) (QW r.nx z.nx);obtain⟨E,y⟩:=hr.add (id:=g.nx) (gh:=gh) (o:=.deferred (some [])) (ao:=.dfr true) (nx':=Nat.max nx (g.nx+1)) i rfl (RO _ _) (QR (Su _) (R5 _ _)) (by
   refine⟨by simp[gh],by simp[gh],by rw[jS];simp[gh]⟩)
  have f1:Fin C A bd w γ hg nx g _ (upd γ g.nx gh) _ (g.new (.dfr true)):=OC E y;have c:=y8 (P:=C.P) (w:=w) (fn:=b.fn) (tmps:=a.tmps) (ps:=ps) (assign:=assign) (body:=body);have p:b.roundOf=none:=j;rw[<-p]at c;obtain⟨a',w',γ',hg',f2,tr,dr,ar⟩:=sP (nt:=nt) (rd:=none) (b:=b) (a:=a) (k:=k) (cs:=cs) (mark:=[{ target:=.collected w.heap.size,args:=#[] }]) (blk:=w.heap.size) (w00:=w) hC hi hs h wf1 f1.rel (f1.ext r hx) (f1.freed hr r hf)
   (ht.step y) ⟨⟨by simp[gh],by simp[gh]⟩,m.step y⟩ p f ⟨by simp[gh],by simp[gh]⟩ (by simpa using c)
  exact⟨a',w',γ',hg',f1.trans f2 r z,tr,dr,ar⟩
theorem uK(hC:CfgOk C)(hi:IHOk C ih):∀(c:Code) {t:T} {df:List ADf} {g:G} {e:Ex} {t':T} {df':List ADf} {g':G},
  (aL C nt c).run ih (bd+1) rd t df g=.ok e t' df' g'->wA C bd nt rd c t df g e t' df' g':=by
 intro c
 induction c with
 | skip =>
  intro t df g e t' df' g' h A w γ hg nx b a k cs hr hx n hf ht i o d;simp only[aL]at h;injection h with h1 h2 h3 h4;subst h1;subst h2;subst h3;subst h4;exact⟨a,w,γ,hg,Fin.refl hr,ht,i,.one stepR_skip⟩
 | label l =>
  intro t df g e t' df' g' h A w γ hg nx b a k cs hr hx n hf ht i o d;simp only[aL]at h;injection h with h1 h2 h3 h4;subst h1;subst h2;subst h3;subst h4;exact⟨a,w,γ,hg,Fin.refl hr,ht,i,.one stepR_label⟩
 |region id ops draw=>intro t df g e t' df' g' h;exact EL hC hi h
 | seq x y ihx ihy =>
  intro t df g e t' df' g' h A w γ hg nx b a k cs hr hx n hf ht i o d;simp only[aL]at h;generalize hc:(aL C nt x).run ih (bd+1) rd t df g=r at h;cases r with
  |fail=>cases h
  | ok e1 t1 df1 g1 =>
   have q:=jz hC.mon hi.mon _ hc n;have wf1:=q.wf n;cases e1 with
   | norm =>
    have h:(aL C nt y).run ih (bd+1) rd t1 df1 g1=.ok e t' df' g':=h;have z:=jz hC.mon hi.mon _ h wf1;obtain⟨a1,w1,γ1,m,f1,tr1,dr1,ar1⟩:=ihx hc A w γ hg nx b a (.code y::k) cs hr hx n (hf.le z.nx) ht i o d;obtain⟨a2,D,γ2,u,f2,tr2,dr2,ar2⟩:=ihy h A w1 γ1 m _ b a1 k cs f1.rel (f1.ext q hx) wf1 (f1.freed hr q hf) tr1 dr1 (o.step f1.stp) d;exact⟨a2,D,γ2,u,f1.trans f2 q z,tr2,dr2,ar2.of_steps (.head stepR_seq ar1)⟩
   | exit j =>
    have h:CR.ok (.exit j) t1 df1 g1=.ok e t' df' g':=h;injection h with h1 h2 h3 h4;subst h1;subst h2;subst h3;subst h4;obtain⟨a1,w1,γ1,m,f1,tr1,dr1,k₁,hk,ar1⟩:=ihx hc A w γ hg nx b a (.code y::k) cs hr hx n hf ht i o d;exact⟨a1,w1,γ1,m,f1,tr1,dr1,k₁,by rw[hk];rfl,.head stepR_seq ar1⟩
   | ret =>
    have h:CR.ok .ret t1 df1 g1=.ok e t' df' g':=h;injection h with h1 h2 h3 h4;subst h1;subst h2;subst h3;subst h4;obtain⟨a1,w1,γ1,m,f1,tr1,dr1,k₁,ar1⟩:=ihx hc A w γ hg nx b a (.code y::k) cs hr hx n hf ht i o d;exact⟨a1,w1,γ1,m,f1,tr1,dr1,k₁,.head stepR_seq ar1⟩
 | cond c x y ihx ihy =>
  intro t df g e t' df' g' h A w γ hg nx b a k cs hr hx n hf ht i o d;simp only[aL]at h
  split at h
  rotate_left
  ·cases h
  rename_i s hs;dsimp only at h;have hv:=au hs ht hr;generalize hcv:a.eval c=vc at hv;generalize s.run t=cv at h hv;cases hv with
  | bool _ bv =>
   dsimp only at h;cases bv with
   | true =>
    obtain⟨a1,w1,γ1,m,f1,tr1,dr1,ar1⟩:=ihx h A w γ hg nx b a k cs hr hx n hf ht i o d;exact⟨a1,w1,γ1,m,f1,tr1,dr1,ar1.of_steps (.one (by simpa using stepR_cond (P:=C.P) (b:=b) (a:=a) (k:=k) (cs:=cs) (w:=w) (x:=x) (y:=y) hcv))⟩
   | false =>
    obtain⟨a1,w1,γ1,m,f1,tr1,dr1,ar1⟩:=ihy h A w γ hg nx b a k cs hr hx n hf ht i o d;exact⟨a1,w1,γ1,m,f1,tr1,dr1,ar1.of_steps (.one (by simpa using stepR_cond (P:=C.P) (b:=b) (a:=a) (k:=k) (cs:=cs) (w:=w) (x:=x) (y:=y) hcv))⟩
  |_=>cases h
 | block id body ihb =>
  intro t df g e t' df' g' h A w γ hg nx b a k cs hr hx n hf ht i o d;simp only[aL]at h;generalize hc:(aL C nt body).run ih (bd+1) rd t df g=r at h;cases r with
  |fail=>cases h
  | ok e1 t1 df1 g1 =>
   cases e1 with
   | norm =>
    have h:CR.ok .norm t1 df1 g1=.ok e t' df' g':=h;injection h with h1 h2 h3 h4;subst h1;subst h2;subst h3;subst h4;obtain⟨a1,w1,γ1,m,f1,tr1,dr1,ar1⟩:=ihb hc A w γ hg nx b a (.inBlock id::k) cs hr hx n hf ht i o d;exact⟨a1,w1,γ1,m,f1,tr1,dr1,.head stepR_block (Steps.trans ar1 (.one stepR_inBlock))⟩
   | exit j =>
    simp only[sU,aa]at h
    split at h
    ·rename_i v;have v:=aI v;subst v;injection h with h1 h2 h3 h4;subst h1;subst h2;subst h3;subst h4;obtain⟨a1,w1,γ1,m,f1,tr1,dr1,k₁,hk,ar1⟩:=ihb hc A w γ hg nx b a (.inBlock j::k) cs hr hx n hf ht i o d;exact⟨a1,w1,γ1,m,f1,tr1,dr1,.head stepR_block (Steps.trans ar1 (.one (stepR_exit (by rw[hk];simp[exitTo]))))⟩
    ·rename_i v;injection h with h1 h2 h3 h4;subst h1;subst h2;subst h3;subst h4;obtain⟨a1,w1,γ1,m,f1,tr1,dr1,k₁,hk,ar1⟩:=ihb hc A w γ hg nx b a (.inBlock id::k) cs hr hx n hf ht i o d;refine⟨a1,w1,γ1,m,f1,tr1,dr1,k₁,?_,.head stepR_block ar1⟩;rw[hk];have B:(id == j)=false:=by simp only[beq_eq_false_iff_ne,ne_eq];rintro rfl;exact v (Q2 _)
     simp[exitTo,B]
   | ret =>
    have h:CR.ok .ret t1 df1 g1=.ok e t' df' g':=h;injection h with h1 h2 h3 h4;subst h1;subst h2;subst h3;subst h4;obtain⟨a1,w1,γ1,m,f1,tr1,dr1,k₁,ar1⟩:=ihb hc A w γ hg nx b a (.inBlock id::k) cs hr hx n hf ht i o d;exact⟨a1,w1,γ1,m,f1,tr1,dr1,k₁,.head stepR_block ar1⟩
 | loop body ihb =>
  intro t df g e t' df' g' h A w γ hg nx b a k cs hr hx n hf ht i o d;simp only[aL]at h;generalize hc:(aL C nt body).run ih (bd+1) rd t df g=r at h;cases r with
  |fail=>cases h
  | ok e1 t1 df1 g1 =>
   have q:=jz hC.mon hi.mon _ hc n;have wf1:=q.wf n;cases e1 with
   | norm =>
    have h:ih.code nt (bd+1) rd (.loop body) t1 df1 g1=.ok e t' df' g':=h;have z:=hi.mon.code _ _ _ _ _ _ _ _ _ _ _ h wf1;obtain⟨a1,w1,γ1,m,f1,tr1,dr1,ar1⟩:=ihb hc A w γ hg nx b a (.inLoop body::k) cs hr hx n (hf.le z.nx) ht i o d;obtain⟨a2,D,γ2,u,f2,tr2,dr2,ar2⟩:=hi.code _ _ _ _ _ _ _ _ _ _ _ h A w1 γ1 m _ b a1 k cs f1.rel (f1.ext q hx) wf1 (f1.freed hr q hf) tr1 dr1 (o.step f1.stp) d;refine⟨a2,D,γ2,u,f1.trans f2 q z,tr2,dr2,Arr.of_steps (.head stepR_loop (Steps.trans ar1 (.one stepR_inLoop))) ?_⟩;have p:step C.P (lone (b.atR a1 (.code (.loop body)::k)) cs w1)=.next (lone (b.atR a1 (.code body::.inLoop body::k)) cs w1):=stepR_loop;have ne:∀{a':Act} {k':List Item} {w':World},k'≠.code (.loop body)::k->lone (b.atR a1 (.code (.loop body)::k)) cs w1≠lone (b.atR a' k') cs w':=λh h'=>h (yW h').symm;cases e with
    |norm=>exact fq ar2 (ne (λh=>by have:=congrArg List.length h;simp at this)) p
    | exit j =>
     obtain⟨k₁,hk,ar2⟩:=ar2;exact⟨k₁,hk,fq ar2 (ne (λh=>by injection h with h _;injection h with h;cases h)) p⟩
    | ret =>
     obtain⟨k₁,ar2⟩:=ar2;exact⟨k₁,fq ar2 (ne (λh=>by injection h with h _;injection h with h;cases h)) p⟩
   | exit j =>
    have h:CR.ok (.exit j) t1 df1 g1=.ok e t' df' g':=h;injection h with h1 h2 h3 h4;subst h1;subst h2;subst h3;subst h4;obtain⟨a1,w1,γ1,m,f1,tr1,dr1,k₁,hk,ar1⟩:=ihb hc A w γ hg nx b a (.inLoop body::k) cs hr hx n hf ht i o d;exact⟨a1,w1,γ1,m,f1,tr1,dr1,k₁,by rw[hk];rfl,.head stepR_loop ar1⟩
   | ret =>
    have h:CR.ok .ret t1 df1 g1=.ok e t' df' g':=h;injection h with h1 h2 h3 h4;subst h1;subst h2;subst h3;subst h4;obtain⟨a1,w1,γ1,m,f1,tr1,dr1,k₁,ar1⟩:=ihb hc A w γ hg nx b a (.inLoop body::k) cs hr hx n hf ht i o d;exact⟨a1,w1,γ1,m,f1,tr1,dr1,k₁,.head stepR_loop ar1⟩
 | scope body ihb =>
  intro t df g e t' df' g' h A w γ hg nx b a k cs hr hx n hf ht i o d;have h:(aL C nt body).run ih (bd+1) rd t df g=.ok e t' df' g':=h;obtain⟨a1,w1,γ1,m,f1,tr1,dr1,ar1⟩:=ihb h A w γ hg nx b a (.inScope body::k) cs hr hx n hf ht i o d;refine⟨a1,w1,γ1,m,f1,tr1,dr1,?_⟩;cases e with
  |norm=>exact .head ck (Steps.trans ar1 (.one nC))
  |exit j=>obtain⟨k₁,hk,ar1⟩:=ar1;exact⟨k₁,by rw[hk];rfl,.head ck ar1⟩
  |ret=>obtain⟨k₁,ar1⟩:=ar1;exact⟨k₁,.head ck ar1⟩
 | exit id =>
  intro t df g e t' df' g' h A w γ hg nx b a k cs hr hx n hf ht i o d;simp only[aL]at h;injection h with h1 h2 h3 h4;subst h1;subst h2;subst h3;subst h4;exact⟨a,w,γ,hg,Fin.refl hr,ht,i,k,rfl,Steps.refl _ _⟩
 | ret =>
  intro t df g e t' df' g' h A w γ hg nx b a k cs hr hx n hf ht i o d;simp only[aL]at h;injection h with h1 h2 h3 h4;subst h1;subst h2;subst h3;subst h4;exact⟨a,w,γ,hg,Fin.refl hr,ht,i,k,Steps.refl _ _⟩
 | rangeFunc f ps assign body _ _ =>
  intro t df g e t' df' g' h;simp only[aL]at h
  split at h
  ·rename_i s hs;exact EJ hC hi hs h
  ·cases h
 |_=>intro t df g e t' df' g' h;cases h
theorem Hr(fr:Frame)(h:fr.mode=.returning):({ fr with mode:=.returning }:Frame)=fr:=by cases fr;simp at h;subst h;rfl
theorem Ao(hi:IHOk C ih):∀{df:List ADf} {g g':G},dM ih (bd+1) df g=some g'->WF g ->
  ∀{w γ hg nx} {fr:Frame} {cs:List Frame},Rel C A bd w γ hg nx->Ext g.h hg->Free γ g g'->DR w γ A bd df fr.defers->fr.mode=.returning ->
   ∃w' γ' hg',Fin C A bd w γ hg nx g w' γ' hg' g'/\Steps C.P (lone fr cs w) (lone { fr with defers:=[] } cs w'):=by
 intro df
 induction df with
 | nil =>
  intro g g' h _ w γ hg nx fr cs hr hx hf k hm;simp only[dM]at h;injection h with h;subst h;have hd:fr.defers=[]:=by
   cases hd:fr.defers with
   |nil=>rfl
   |cons d ds=>rw[hd]at k;exact k.elim
  refine⟨w,γ,hg,Fin.refl hr,?_⟩;have:({ fr with defers:=[] }:Frame)=fr:=by cases fr;simp at hd;subst hd;rfl
  rw[this];exact Steps.refl _ _
 | cons x df ihl =>
  intro g g' h b w γ hg nx fr cs hr hx hf k hm;cases hd:fr.defers with
  |nil=>rw[hd]at k;cases x<;>exact k.elim
  | cons d ds =>
   rw[hd]at k;cases x with
   | mark id =>
    obtain⟨⟨hk,rfl⟩,k⟩:=k;simp only[dM]at h
    split at h
    ·rename_i a;have a:g.h.get id=.dfr true:=by simpa using a
     have B:hg id=.dfr true:=by rw[hx id (by rw[a];simp),a]
     have r:=hr.obj id;rw[B]at r;obtain⟨E,k2,F⟩:=r;have q:(γ id).kind≠0:=by rw[E];decide
     have i:Mon g (g.put id (.dfr false)):=Mon.put b (by rw[a];simp);obtain⟨M,H⟩:=hr.setBlk (id:=id) (o:=.deferred none) (ao:=.dfr false) q k2 ⟨E,k2,by rw[dj];simp[(hr.lt id q).2]⟩;have f1:Fin C A bd w γ hg nx g _ γ _ (g.put id (.dfr false)):=OD M H;have t:=lf hi.mon h (i.wf b);obtain⟨w',γ',hg',f2,st⟩:=ihl h (i.wf b) (fr:={ fr with defers:=ds }) (cs:=cs) f1.rel (f1.ext i hx) (f1.freed hr i hf) (k.step H) hm;refine⟨w',γ',hg',f1.trans f2 i t,.head (step_lone_go ?_) st⟩;have m:(Instr.takeDeferred (γ id).blk).run C.P w=.ok [] (World.setBlk w (γ id).blk (.deferred none)):=by unfold Instr.takeDeferred;simp only[QC,fe F (by simp),Qy,if_true,hZ F (by simp),Q0]
     simp[stepG,hm,unwind,hd,Sem.runT_eq,m,GStep.bare_after]
    ·cases h
   | call fv args =>
    obtain⟨⟨f,ys,us,rfl,j,D,l⟩,k⟩:=k;simp only[dM]at h
    split at h
    rotate_left
    ·cases h
    rename_i v g1 e;have i:=hi.mon.call _ _ _ _ _ _ e b;have wf1:=i.wf b;have t:=lf hi.mon h wf1;obtain⟨p,s⟩:=hi.call _ _ _ _ _ _ e
    let fr0:Frame:={ fr with defers:=ds }
    obtain⟨u,w1,γ1,I,f1,_,frX,st,J,q2,q3,K,fn,q5,L⟩:=s A w γ hg nx (d.args.toList++us.toList) hr hx b (hf.le t.nx) (by simpa using l.append D) .deferred (fr0::cs) (.inr ⟨rfl,fr0,cs,rfl,.inl hm⟩);have n:(d.args.toList++us.toList).toArray=d.args++us:=by apply S7;simp
    rw[n]at st;obtain⟨w',γ',hg',f2,st2⟩:=ihl h wf1 (fr:=fr0) (cs:=cs) f1.rel (f1.ext i hx) (f1.freed hr i hf) (k.step f1.stp) hm;refine⟨w',γ',hg',f1.trans f2 i t,.head (step_defer (by rw[hm];simp) hd j ?_) (Steps.trans st (.head ?_ st2))⟩
    ·rw[j];simp only[invoke];exact p _ _
    ·have z:frX.going C.P w1 (.returned u):=⟨J,q2,fn,by rw[K];exact q5,L⟩;have:=step_going_returned (P:=C.P) (c:=fr0) (cs:=cs) q3 z;have hs:settle fr0.mode=.returning:=by have:fr0.mode=.returning:=hm;rw[this];rfl
     rw[hs]at this;have y:({ fr0 with mode:=.returning }:Frame)=fr0:=by exact Hr fr0 hm
     rw[y]at this;exact this
theorem CJ{ty:TypeId}{x v:Value}{w w':World}(h:(do loadVar ty (<-Instr.sureAddr x):Sem Value).run P w=.ok v w') :
  (do loadVar ty (<-asAddr x):Sem Value).run P w=.ok v w':=by
 cases x with
 |pointer p=>cases p<;>simp[Instr.sureAddr,asAddr]at h ⊢;exact h
 |_=>simp[Instr.sureAddr]at h
theorem xx(hC:CfgOk C)(ht:TR w γ A bd nt t tmps)(hr:Rel C A bd w γ hg nx)(hx:Ext g.h hg):∀{rs:List ResultVar} {k:Stg (T->G->Option (List AV))} {vs:List AV},mu C rs=some k->k.run t g=some vs ->
  ∃us:List Value,(rs.mapM (fun|.tmp t=>pure (tmps.getD t undef)|.cell a t=>do loadVar t (<-asAddr (tmps.getD a undef))):Sem (List Value)).run C.P w=.ok us w/\RVs w γ A bd vs us:=by
 intro rs
 induction rs with
 |nil=>intro k vs h hv;simp[mu]at h;subst h;simp at hv;subst hv;exact⟨[],by simp,rfl,λi x v h=>by simp at h⟩
 | cons r rs ihr =>
  intro k vs h hv;cases r with
  | tmp n =>
   simp only[mu]at h
   split at h
   ·rename_i q d;injection h with h;subst h;dsimp only at hv
    split at hv
    ·rename_i vs0 b;injection hv with hv;subst hv;obtain⟨us,h1,h2⟩:=ihr d b;refine⟨tmps.getD n undef::us,?_,by simp[h2.1],λi x v hx' hv'=>?_⟩
     ·rw[List.mapM_cons];simp only[QC,Q0,Qy,h1]
     ·cases i with
      |zero=>simp at hx' hv';subst hx';subst hv';simpa [Re] using ht.2 n
      |succ i=>exact h2.2 i x v (by simpa using hx') (by simpa using hv')
    ·cases hv
   ·cases h
  | cell ad ty =>
   simp only[mu]at h
   split at h
   ·rename_i q l d hl;injection h with h;subst h;dsimp only at hv
    split at hv
    ·rename_i y j
     split at hv
     ·rename_i vs0 b;injection hv with hv;subst hv;obtain⟨us,h1,h2⟩:=ihr d b
      let o:Oper:={ (default:Oper) with op:=.load ty (.tmp ad) }
      have f:∀id∈a_ C (.load ty (.tmp ad)) t g,hg id=g.h.get id:=by intro id c;exact hx id λp=>by rw[Du hl c p]at j;cases j
      have e:∃v,(do loadVar ty (<-asAddr (tmps.getD ad undef)):Sem Value).run C.P w=.ok v w/\RV w γ A bd y v:=by
       simp only[cm]at hl
       split at hl
       ·rename_i s ag n hs m p;injection hl with hl;subst hl;have:=CK (g:=g) (ty:=ty) (t:=t) hr (au (a:={ tmps:=tmps,defers:=[] }) hs ht hr) m p (λid c=>f id (by simp[a_,aK,ah,hs,c]));have j:l_ ag n s.run t g=.val y:=j;rw[j]at this;obtain⟨v,h1,h2⟩:=this;refine⟨v,?_,h2⟩;have h1:(Instr.loadAt ty (tmps.getD ad undef)).run C.P w=.ok v w:=h1;unfold Instr.loadAt at h1;exact CJ h1
       ·cases hl
      obtain⟨v,h3,h4⟩:=e;refine⟨v::us,?_,by simp[h2.1],λi x v' hx' hv'=>?_⟩
      ·rw[List.mapM_cons];simp only[QC,Q0];simp only[QC]at h3;rw[h3];simp only[Qy,h1]
      ·cases i with
       |zero=>simp at hx' hv';subst hx';subst hv';exact h4
       |succ i=>exact h2.2 i x v' (by simpa using hx') (by simpa using hv')
     ·cases hv
    ·cases hv
   ·cases h
theorem Ey:∀(vs:List AV) (i:Nat) (t:T) (s:Nat),(bk i vs t).get AV.undef s=if i<=s/\s<i+vs.length then vs.getD (s - i) AV.undef else t.get AV.undef s:=by
 intro vs
 induction vs with
 |nil=>intro i t s;simp only[bk,SB];rw[Qu (by omega)]
 | cons v vs ihv =>
  intro i t s;simp only[bk];rw[ihv,sp_get]
  by_cases h1:s=i
  ·subst h1;rw[Qu (by omega),Qw rfl,Qw (by simp)];simp
  ·rw[Qu h1]
   by_cases h2:i+1<=s/\s<i+1+vs.length
   ·rw[Qw h2,Qw (by simp;omega),show s - i=(s - (i+1))+1 by omega];simp
   ·rw[Qu h2,Qu (by simp;omega)]
theorem wC{as:List AV}{vs:List Value}(hv:RVs w γ A bd as vs)(hn:as.length<=nt) :
  TR w γ A bd nt (bk 0 as .nil) (vs.toArray++Array.replicate (nt - vs.toArray.size) undef):=by
 have hl:=hv.1;refine⟨by simp;omega,λs=>?_⟩;rw[Ey]
 by_cases hs:s<as.length
 ·rw[Qw (by simpa using hs)];have h1:as[s]?=some (as[s]):=Qr hs;have h2:vs[s]?=some (vs[s]'(by omega)):=Qr (by omega);have:=hv.2 s _ _ h1 h2;have e1:as.getD (s - 0) AV.undef=as[s]:=by simp[R1,h1]
  have e2:(vs.toArray++Array.replicate (nt - vs.toArray.size) undef).getD s undef=vs[s]'(by omega):=by rw[Re,Array.getElem?_append_left (by simp;omega)];simp[h2]
  rw[e1,e2];exact this
 ·rw[Qu (by simpa using hs),OI];have e2:(vs.toArray++Array.replicate (nt - vs.toArray.size) undef).getD s undef=undef:=by
   rw[Re,Array.getElem?_append_right (by simp;omega),Array.getElem?_replicate]
   split<;>rfl
  rw[e2];exact cC
theorem rG{fn:Func}{us:List Value}
  (h:(fn.results.toList.mapM (fun|.tmp t=>pure (tmps.getD t undef)|.cell a t=>do loadVar t (<-asAddr (tmps.getD a undef))):Sem (List Value)).run P w=.ok us w) :
  ∃u,(results fn tmps).run P w=.ok u w/\∀{xs:List AV},RVs w γ A bd xs us->RV w γ A bd (eg xs) u:=by
 have hm:(fn.results.mapM (fun|.tmp t=>pure (tmps.getD t undef)|.cell a t=>do loadVar t (<-asAddr (tmps.getD a undef))):Sem (Array Value)).run P w=.ok us.toArray w:=by
  rw[Array.mapM_eq_mapM_toList];simp only[Sem.run_map,h]
  rfl
 refine⟨if hs:us.toArray.size=1 then us.toArray[0] else .tuple us.toArray,?_,?_⟩
 ·unfold results;simp only[QC];have k:=hm;generalize hq:(fn.results.mapM (fun|.tmp t=>pure (tmps.getD t undef)|.cell a t=>do loadVar t (<-asAddr (tmps.getD a undef))):Sem (Array Value))=q at k;rw[k];simp only[Qy,Q0]
 ·intro xs hv;have hl:=hv.1;have tup:RV w γ A bd (.tup xs) (.tuple us.toArray):=.tup _ _ _ (by simpa using hl) λi x v h1 h2=>hv.2 i x v h1 (by simpa using h2);cases us with
  | nil =>
   have:xs=[]:=Sj.1 hl;subst this;exact tup
  | cons u us =>
   cases us with
   | nil =>
    cases xs with
    |nil=>simp at hl
    | cons x xs =>
     have:xs=[]:=Sj.1 (by simpa using hl);subst this;exact hv.2 0 x u rfl rfl
   | cons u' us =>
    rw[dif_neg (by simp)];cases xs with
    |nil=>simp at hl
    | cons x xs =>
     cases xs with
     |nil=>simp at hl
     |cons x' xs=>exact tup
theorem Lh(hC:CfgOk C)(hi:IHOk C ih){f:Nat}{x:Stg (IH->Nat->List AV->G->FR)}(hx:cFn C f=some x){as:List AV}
  (h:x.run ih (bd+1) as g=.ok v g'):Enters C.P f/\wz C bd f as g v g':=by
 unfold cFn at hx
 split at hx
 ·cases hx
 rename_i fn hfn
 split at hx
 ·cases hx
 rename_i c hbody
 split at hx
 rotate_left
 ·cases hx
 rename_i r hres;rw[aa]at hx
 split at hx
 ·cases hx
 rename_i hname;injection hx with hx;subst hx;refine⟨λargs w=>?_,?_⟩
 ·unfold callFunc;have hn : fn.name ≠ "runtime.NumGoroutine" := by simpa using hname
  simp[hfn,hn,hbody]
 intro A w γ hg nx vs hr hex hwf hf hv K cs hcalm;dsimp only at h;rw[aa]at h
 split at h
 rotate_left
 ·cases h
 rename_i hle;rw[Q6,aq]at hle
 let b:Frame:={ (default:Frame) with fn:=f,kind:=K,roundOf:=none }
 let a0:Act:={ tmps:=vs.toArray++Array.replicate (fn.ntmps - vs.toArray.size) undef,defers:=[] }
 have henter:Frame.enter C.P f vs.toArray K=b.atR a0 [.code c]:=by simp[Frame.enter,Frame.atR,hfn,hbody,b,a0]
 have key:∀{e:Ex} {t1:T} {df:List ADf} {g1:G},(aL C fn.ntmps c).run ih (bd+1) none (bk 0 as .nil) [] g=.ok e t1 df g1->(∀j,e≠.exit j)->bD ih (bd+1) r.run t1 df g1=.ok v g' ->
   ∃u w' γ' hg',Fin C A bd w γ hg nx g w' γ' hg' g'/\RV w' γ' A bd v u/\Outs C.P K f vs.toArray cs w u w':=by
  intro e t1 df g1 hc hne hend;have m1:=jz hC.mon hi.mon _ hc hwf;have wf1:=m1.wf hwf;unfold bD at hend
  split at hend
  ·cases hend
  rename_i g2 h2;have m2:=lf hi.mon h2 wf1
  split at hend
  rotate_left
  ·cases hend
  rename_i xs hxs;injection hend with h1 h2';subst h2';subst h1;obtain⟨a1,w1,γ1,hg1,f1,tr1,dr1,ar1⟩:=uK hC hi c hc A w γ hg nx b a0 [] cs hr hex hwf (hf.le m2.nx) (wC hv hle) trivial rfl hcalm;have hret:∃fr:Frame,Steps C.P (lone (Frame.enter C.P f vs.toArray K) cs w) (lone fr cs w1)/\fr.mode=.returning/\fr.defers=a1.defers/\fr.kind=K/\fr.fn=f/\fr.tmps=a1.tmps:=by
   rw[henter];cases e with
   |norm=>exact⟨{ b.atR a1 [] with mode:=.returning },Steps.trans ar1 (.one (stepR_end rfl)),rfl,rfl,rfl,rfl,rfl⟩
   | ret =>
    obtain⟨k₁,ar1⟩:=ar1;exact⟨{ b.atR a1 (.code .ret::k₁) with mode:=.returning },Steps.trans ar1 (.one (stepR_ret rfl)),rfl,rfl,rfl,rfl,rfl⟩
   |exit j=>exact absurd rfl (hne j)
  obtain⟨fr,st1,q1,q2,q3,q4,q5⟩:=hret;obtain⟨w2,γ2,hg2,f2,st2⟩:=Ao hi h2 wf1 (fr:=fr) (cs:=cs) f1.rel (f1.ext m1 hex) (f1.freed hr m1 hf) (by rw[q2];exact dr1) q1;have f12:=f1.trans f2 m1 m2;obtain⟨us,hus,hrv⟩:=xx hC (tr1.step f2.stp) f12.rel (f12.ext (m1.trans m2) hex) hres hxs;obtain⟨u,hu,hone⟩:=rG (γ:=γ2) (A:=A) (bd:=bd) hus;exact⟨u,w2,γ2,hg2,f12,hone hrv,{ fr with defers:=[] },Steps.trans st1 st2,q1,rfl,q3,q4,fn,hfn,by
   have:({ fr with defers:=[] }:Frame).tmps=a1.tmps:=q5;rw[this];exact hu⟩
 split at h
 ·cases h
 ·rename_i e t1 df g1 hne hc;exact key hc (by rintro j rfl;exact hne j rfl) h
 ·cases h
theorem pK(hC:CfgOk C):∀n,IHOk C (sem C n):=by
 intro n
 induction n with
 |zero=>exact⟨wV hC.mon 0,λbd f as g v g' h=>(by cases h),λbd nt rd c t df g e t' df' g' h=>(by cases h)⟩
 | succ n ihn =>
  refine⟨wV hC.mon (n+1),λbd f as g v g' h=>?_,λbd nt rd c t df g e t' df' g' h=>uK hC ihn c h⟩;change d8 C (sem C n) (bd+1) f as g=.ok v g' at h;unfold d8 at h
  split at h
  ·rename_i x hx;exact Lh hC ihn hx h
  ·cases h
end
end
end
end Hx
section
namespace Hx
open Go Go.RowKit
def gm0:Gm:=λ_=>⟨0,0,0,0,0,0,0,false⟩
def av0:Nat->Nat->Prop:=λ_ _=>False
theorem N8(b:Nat):¬Mut gm0 b:=by rintro⟨id,h,_⟩;exact h rfl
abbrev RV0 (w:World)(x:AV)(v:Value):Prop:=RV w gm0 av0 0 x v
abbrev RVs0 (w:World)(xs:List AV)(vs:List Value):Prop:=RVs w gm0 av0 0 xs vs
theorem zN:G.empty.h.get=λ_=>AObj.none:=by funext id;simp[G.empty,H.get,OI]
theorem AM{C:Cfg}(hC:CfgOk C){n f:Nat}{as:List AV}{v:AV}{g':G}(h:(sem C n).call 1 f as G.empty=.ok v g'){w:World}{vs:List Value}(hargs:RVs0 w as vs)
  (hglob:∀gl sz rows,C.glob gl=some (sz,rows)->RV0 w (.tptr 0 sz rows 0 0) (.pointer (some ⟨gl,0,none⟩))) :
  Calls C.P f vs.toArray w λe w'=>∃u γ' A',e=.returned u/\Below w.heap.size w w'/\RV w' γ' A' 0 v u:=by
 intro cs;have c:=pK hC n;obtain⟨_,a⟩:=c.call 0 f as G.empty v g' h;have hr:Rel C av0 0 w gm0 (λ_=>.none) 0 :=
  ⟨λid=>rfl,λid h=>absurd rfl h,λi j h=>absurd rfl h,λid h=>absurd rfl h,λt b h=>h.elim,hglob⟩
 obtain⟨u,w',γ',hg',fin,rv,fr,st,l,q2,q3,d,fn,q5,m⟩:=a av0 w gm0 _ 0 vs hr (λid h=>by rw[zN]at h;exact absurd rfl h) (λid _=>by rw[zN]) (λ_ _ _=>rfl) hargs .normal cs (.inl rfl);refine⟨.returned u,w',fr,⟨u,γ',av0,rfl,⟨fin.stp.os,fin.stp.tape,fin.stp.output,fin.stp.sz,λk hk=>fin.stp.fr k hk (N8 k)⟩,rv⟩,st,d,l,q2,q3,fn,by rw[d];exact q5,m⟩
theorem Er{C:Cfg}(hC:CfgOk C){n f:Nat}{as:List AV}{g':G}(h:(sem C n).call 1 f as G.empty=.ok (.bool true) g'){w:World}{vs:List Value}(hargs:RVs0 w as vs)
  (hglob:∀gl sz rows,C.glob gl=some (sz,rows)->RV0 w (.tptr 0 sz rows 0 0) (.pointer (some ⟨gl,0,none⟩))) :
  Calls C.P f vs.toArray w λe w'=>e=.returned (.bool true)/\Below w.heap.size w w' :=
 (AM hC h hargs hglob).mono λe w' ⟨u,γ',A',he,hb,rv⟩=>by cases rv;exact⟨he,hb⟩
end Hx
end
namespace Hx
open Go
noncomputable section
variable {g g':G}{v x:AV}{b n i d nt m c B:Nat}{t t':T}{P:Program}{rd:Option Nat}{df:List ADf}{pm:List Nat}{tmps:Array Value}{C:Cfg}{assign body:Code}{Q:QT}{K:AV->G->Prop}{D:ADf->Prop}
end
end Hx
section
namespace Hx
open Go Go.RowKit
theorem CfgOk.plain{P:Program}{iso:Nat->Bool}{glob:Nat->Option (Nat×List (List AV))}(hm:P.follows .mixedOrders=true)(hrf:P.follows .rangeFuncRecover=true) :
  CfgOk { P,iso,ext:=λ_=>none,glob } :=
 ⟨hm,hrf,λf e h=>(by cases h),λf e h=>(by cases h),λf e h=>(by cases h)⟩
theorem Rel.cfg{C C':Cfg}(h:C'.glob=C.glob){A:Nat->Nat->Prop}{bd:Nat}{w:World}{γ:Gm}{hg:Nat->AObj}{nx:Nat}(r:Rel C A bd w γ hg nx):Rel C' A bd w γ hg nx :=
 ⟨r.obj,r.lt,r.inj,r.av,r.ab,by rw[h];exact r.glob⟩
theorem Fin.cfg{C C':Cfg}(h:C'.glob=C.glob){A:Nat->Nat->Prop}{bd:Nat}{w w':World}{γ γ':Gm}{hg hg':Nat->AObj}{nx:Nat}{g g':G}(f:Fin C A bd w γ hg nx g w' γ' hg' g') :
  Fin C' A bd w γ hg nx g w' γ' hg' g':=⟨f.rel.cfg h,f.stp,f.new⟩
structure ExtOk (C:Cfg) (f:Nat) (e:Nat->List AV->G->OR):Prop where
 mon:∀d args g,WF g->Mon g (gOf g (e d args g))
 noDfr:∀d args g y,e d args g≠.dfr y
 run:∀A bd w γ hg nx g as vs,Rel C A bd w γ hg nx->WF g->(∀id∈as.flatMap (aE g.h aD),g.h.get id≠.none->hg id=g.h.get id)->Free γ g (gOf g (e (bd+1) as g)) ->
  RVs w γ A bd as vs->e (bd+1) as g≠.fail->∀cs,
  ∃u w' γ' hg',Fin C A bd w γ hg nx g w' γ' hg' (gOf g (e (bd+1) as g))/\RV w' γ' A bd (vOf (e (bd+1) as g)) u /\
   ((callFunc f vs.toArray).run C.P w=.ok (.value u) w'\/(Enters C.P f/\Outs C.P .normal f vs.toArray cs w u w'))
noncomputable def Cfg.add(C:Cfg)(f:Nat)(e:Nat->List AV->G->OR):Cfg:={ C with ext:=λk=>ak (Nat.beq k f) (some e) (C.ext k) }
theorem ExtOk.cfg{C C':Cfg}{f:Nat}{e:Nat->List AV->G->OR}(hp:C'.P=C.P)(hgl:C'.glob=C.glob)(h:ExtOk C f e):ExtOk C' f e:=by refine⟨h.mon,h.noDfr,λA bd w γ hg nx g as vs hr hwf hx hf hv hne cs=>?_⟩;obtain⟨u,w',γ',hg',fin,rv,out⟩:=h.run A bd w γ hg nx g as vs (hr.cfg hgl.symm) hwf hx hf hv hne cs;exact⟨u,w',γ',hg',fin.cfg hgl,rv,by rw[hp];exact out⟩
theorem CfgOk.add{C:Cfg}(h:CfgOk C){f:Nat}{e:Nat->List AV->G->OR}(he:ExtOk C f e):CfgOk (C.add f e):=by
 have which:∀k e',(C.add f e).ext k=some e'->(k=f/\e'=e)\/C.ext k=some e':=by
  intro k e' hk;have hk:ak (Nat.beq k f) (some e) (C.ext k)=some e':=hk;rw[aa]at hk
  split at hk
  ·rename_i hb;injection hk with hk;exact .inl ⟨aI hb,hk.symm⟩
  ·exact .inr hk
 refine⟨h.mixed,h.recov,λk e' hk d args g hwf=>?_,λk e' hk d args g y=>?_,λk e' hk A bd w γ hg nx g as vs hr hwf hx hf hv hne cs=>?_⟩
 ·rcases which k e' hk with⟨_,rfl⟩|hk
  ·exact he.mon d args g hwf
  ·exact h.mon k e' hk d args g hwf
 ·rcases which k e' hk with⟨_,rfl⟩|hk
  ·exact he.noDfr d args g y
  ·exact h.noDfr k e' hk d args g y
 ·rcases which k e' hk with⟨rfl,rfl⟩|hk
  ·obtain⟨u,w',γ',hg',fin,rv,out⟩:=he.run A bd w γ hg nx g as vs (Rel.cfg (C:=C.add k e') (C':=C) rfl hr) hwf hx hf hv hne cs;exact⟨u,w',γ',hg',Fin.cfg (C:=C) (C':=C.add k e') rfl fin,rv,out⟩
  ·obtain⟨u,w',γ',hg',fin,rv,out⟩:=h.ext k e' hk A bd w γ hg nx g as vs (Rel.cfg (C:=C.add f e) (C':=C) rfl hr) hwf hx hf hv hne cs;exact⟨u,w',γ',hg',Fin.cfg (C:=C) (C':=C.add f e) rfl fin,rv,out⟩
noncomputable def xG(v:AV):Nat->List AV->G->OR:=λd as _ =>
 match d with
 | 1=>match as with
  |[]=>.val v
  |_=>.fail
 |_=>.fail
theorem CC{ih:IH}{d:Nat}{g g0:G}{f:Nat}{v:AV}(h:ap ih d g0 f []=.val v):ap ih d g f []=.val v:=by
 unfold ap at h ⊢;simp only[aF]at h ⊢;cases hc:ih.call (Nat.succ d) f [] G.empty with
 |fail=>rw[hc]at h;cases h
 | ok r g' =>
  rw[hc]at h;dsimp only at h ⊢;cases hs:snap g'.h 0 aD r with
  |none=>rw[hs]at h;cases h
  | some r' =>
   rw[hs]at h;dsimp only at h ⊢;cases hm:eh aD r' with
   |none=>rw[hm]at h;cases h
   | some m =>
    rw[hm]at h;dsimp only at h ⊢;cases hb:Nat.blt m d with
    |true=>rw[hb]at h;exact h
    | false =>
     rw[hb]at h
     split at h
     ·cases h
     ·split at h
      ·cases h
      ·rename_i m' k;cases hb':Nat.blt m' d with
       |true=>rw[hb']at h;cases h
       |false=>rw[hb']at h;cases h
theorem G9{C:Cfg}(hC:CfgOk C){n f:Nat}{v:AV}(h:ap (sem C n) 1 G.empty f []=.val v):ExtOk C f (xG v):=by
 have sh:∀d args g,xG v d args g=.fail\/(d=1/\args=[]/\xG v d args g=.val v):=by
  intro d args g;unfold xG
  split
  ·split
   ·exact .inr ⟨rfl,rfl,rfl⟩
   ·exact .inl rfl
  ·exact .inl rfl
 refine⟨λd args g _=>?_,λd args g y hy=>?_,λA bd w γ hg nx g as vs hr hwf hx hf hv hne cs=>?_⟩
 ·rcases sh d args g with h|⟨_,_,h⟩<;>rw[h]<;>exact Mon.refl g
 ·rcases sh d args g with h|⟨_,_,h⟩<;>rw[h]at hy<;>cases hy
 ·rcases sh (bd+1) as g with h0|⟨h1,rfl,h0⟩
  ·exact absurd h0 hne
  ·have a:bd=0:=by omega
   subst a;have hc:=CC (g:=g) h;rw[h0];have k:=pK hC n;obtain⟨he,u,w',γ',hg',fin,rv,out⟩:=rA (args:=[]) (f:=f) k.call k.mon.call hr hx hv (by rw[hc];simp) cs;rw[hc]at fin rv;exact⟨u,w',γ',hg',fin,rv,.inr ⟨he,out⟩⟩
end Hx
end
namespace Hx
open Go
noncomputable section
variable {g g':G}{v x:AV}{b n i d nt m c B:Nat}{t t':T}{P:Program}{rd:Option Nat}{df:List ADf}{pm:List Nat}{tmps:Array Value}{C:Cfg}{assign body:Code}{Q:QT}{K:AV->G->Prop}{D:ADf->Prop}
section
variable {body:SC}{ti:Nat}
def kR(J:PT)(b:Nat)(Q:QT):QT:=λe t df g=>match e with
 |.norm=>J t df g
 |.exit x=>if x=b then J t df g else Q (.exit x) t df g
 |.ret=>Q .ret t df g
theorem A3(J:PT)(b:Nat)(Q:QT)(t:T)(df:List ADf)(g:G):kR J b Q .norm t df g=J t df g:=rfl
theorem pB(J:PT)(b x:Nat)(Q:QT)(t:T)(df:List ADf)(g:G):kR J b Q (.exit x) t df g=if x=b then J t df g else Q (.exit x) t df g:=rfl
theorem JJ(J:PT)(b:Nat)(Q:QT)(t:T)(df:List ADf)(g:G):kR J b Q .ret t df g=Q .ret t df g:=rfl
variable {C:Cfg}{d:Nat}{rd:Option Nat}
theorem cw:∀(s:SC) {Q Q':QT} {t:T} {df:List ADf} {g:G},wp C d rd s Q t df g->(∀e t df g,Q e t df g->Q' e t df g)->wp C d rd s Q' t df g:=by
 have j:∀(l:List SI) {Q Q':PT} {t:T} {df:List ADf} {g:G},wpO C d rd l Q t df g->(∀t df g,Q t df g->Q' t df g)->wpO C d rd l Q' t df g:=by
  intro l
  induction l with
  |nil=>intro Q Q' t df g h hq;exact hq _ _ _ h
  | cons i r ih =>
   intro Q Q' t df g h hq;have run:∀t df g,qq C d rd i (wpO C d rd r Q) t df g->qq C d rd i (wpO C d rd r Q') t df g:=λt df g h =>
    OR.sat_mono h (λv g' h=>ih h hq) (λa h=>ih h hq)
   have skp:∀t df g,vY i (wpO C d rd r Q) t df g->vY i (wpO C d rd r Q') t df g:=λt df g h=>ih h hq;unfold wpO at h ⊢
   split at h
   ·exact run _ _ _ h
   ·rename_i s w hg;unfold gdP at h ⊢
    split at h
    ·rw[aa]at h ⊢
     split at h
     ·rename_i hw;rw[Qw hw];exact⟨λq=>run _ _ _ (h.1 q),λq=>skp _ _ _ (h.2 q)⟩
     ·rename_i hw;rw[Qu hw];exact⟨λq=>skp _ _ _ (h.1 q),λq=>run _ _ _ (h.2 q)⟩
    ·exact skp _ _ _ h
    ·exact h
 have m:∀(pm:List Nat) (l:List SI) {Q Q':PT} {t:T} {df:List ADf} {g:G} {fs:List Foot},wpF C d rd pm l Q t df g fs->(∀t df g,Q t df g->Q' t df g)->wpF C d rd pm l Q' t df g fs:=by
  intro pm l
  induction l with
  |nil=>intro Q Q' t df g fs h hq;exact⟨h.1,hq _ _ _ h.2⟩
  | cons i r ih =>
   intro Q Q' t df g fs h hq;have run:∀t df g,HV C d rd i (wpF C d rd pm r Q) fs t df g->HV C d rd i (wpF C d rd pm r Q') fs t df g:=λt df g h =>
    OR.sat_mono h (λv g' h=>ih h hq) (λa h=>h)
   have skp:∀t df g,Dn i (wpF C d rd pm r Q) fs t df g->Dn i (wpF C d rd pm r Q') fs t df g:=λt df g h=>ih h hq;unfold wpF at h ⊢
   split at h
   ·exact run _ _ _ h
   ·rename_i s w hg;unfold gdP at h ⊢
    split at h
    ·rw[aa]at h ⊢
     split at h
     ·rename_i hw;rw[Qw hw];exact⟨λq=>run _ _ _ (h.1 q),λq=>skp _ _ _ (h.2 q)⟩
     ·rename_i hw;rw[Qu hw];exact⟨λq=>skp _ _ _ (h.1 q),λq=>run _ _ _ (h.2 q)⟩
    ·exact skp _ _ _ h
    ·exact h
 intro s
 induction s with
 |skip=>intro Q Q' t df g h hq;exact hq _ _ _ _ h
 |ops l=>intro Q Q' t df g h hq;exact j l h (hq _)
 |quiet l=>intro Q Q' t df g h hq;exact j l h (λt df g' h=>⟨h.1,h.2.1,hq _ _ _ _ h.2.2⟩)
 |feet pm l=>intro Q Q' t df g h hq;exact m pm l h (hq _)
 | seq a b iha ihb =>
  intro Q Q' t df g h hq;refine iha h λe t df g h=>?_;cases e with
  |norm=>exact ihb h hq
  |exit x=>exact hq _ _ _ _ h
  |ret=>exact hq _ _ _ _ h
 | cond c a b iha ihb =>
  intro Q Q' t df g h hq;have h:wpC (c.get t) (wp C d rd a Q) (wp C d rd b Q) t df g:=h;show wpC (c.get t) (wp C d rd a Q') (wp C d rd b Q') t df g;unfold wpC at h ⊢
  split at h
  ·exact⟨λq=>iha (h.1 q) hq,λq=>ihb (h.2 q) hq⟩
  ·exact h
 | blk id b ih =>
  intro Q Q' t df g h hq;refine ih h λe t df g h=>?_;cases e with
  |norm=>exact hq _ _ _ _ h
  | exit x =>
   rw[rV]at h ⊢
   split at h
   ·rename_i e;rw[Qw e];exact hq _ _ _ _ h
   ·rename_i e;rw[Qu e];exact hq _ _ _ _ h
  |ret=>exact hq _ _ _ _ h
 | loop b ih =>
  intro Q Q' t df g h hq;obtain⟨Inv,hk,hs⟩:=h;refine⟨Inv,hk,λk t df g hi=>ih (hs k t df g hi) λe t df g h=>?_⟩;cases e with
  |norm=>exact h
  |exit x=>exact hq _ _ _ _ h
  |ret=>exact hq _ _ _ _ h
 |exit id=>intro Q Q' t df g h hq;exact hq _ _ _ _ h
 |ret=>intro Q Q' t df g h hq;exact hq _ _ _ _ h
 |rng nt f ps a b _ _=>intro Q Q' t df g h hq assign body ha hb;exact CR.sat_mono (h assign body ha hb) hq
 |raw nt c=>intro Q Q' t df g h hq;exact CR.sat_mono h hq
theorem aM{tn k:Nat}(hm:m<9223372036854775808)(J:Nat->PT)
  (h0:J 0 t df g) (hi:tat t ti=.int .i64 0) (hn:tat t tn=.int .i64 (m:Int)) (hc:c≠ti/\c≠tn/\k≠tn/\ti≠tn/\b≠B)
  (hJ:∀j t df g v s,s=c\/s=ti\/s=k->J j t df g->J j (ei t s v) df g)
  (step:∀j t df g,j<m->J j t df g->tat t ti=.int .i64 (j:Int)->tat t tn=.int .i64 (m:Int) ->
   wp C d rd body (kR (λt df g=>J (j+1) t df g/\tat t ti=.int .i64 (j:Int)/\tat t tn=.int .i64 (m:Int)) b Q) t df g)
  (fin:∀t df g,J m t df g->Q (.exit B) t df g) :
  wpL (wp C d rd (.seq (.ops [o c (.bin .lss (.t ti) (.t tn))]) (.seq (.cond (.t c) .skip (.exit B)) (.seq (.blk b body) (.ops [o k (.bin .add (.t ti) (.k (.int .i64 1))),o ti (.mv (.t k))]))))) Q t df g:=by
 obtain⟨c1,i,l,p,q⟩:=hc;refine tD (λn t df g=>∃j:Nat,n=m - j/\j<=m/\J j t df g/\tat t ti=.int .i64 (j:Int)/\tat t tn=.int .i64 (m:Int)) m ⟨0,by omega,by omega,h0,hi,hn⟩ ?_;rintro n t df g ⟨j,rfl,r,a,h1,h2⟩;simp only[sx,SO.run,↓reduceIte,h1,h2];refine⟨λhq=>?_,λhq=>?_⟩
 ·have hlt:j<m:=by simpa using hq
  simp only[sx];refine cw _ (step j _ df g hlt (hJ _ _ _ _ _ _ (.inl rfl) a) (by simp only[b_];rw[Qu (R0 c1),h1]) (by simp only[b_];rw[Qu (R0 i),h2])) λe t df g h=>?_;have key:J (j+1) t df g/\tat t ti=.int .i64 (j:Int)/\tat t tn=.int .i64 (m:Int)->wp C d rd (.ops [o k (.bin .add (.t ti) (.k (.int .i64 1))),o ti (.mv (.t k))])
    (kL (λn t df g=>∃j:Nat,n=m - j/\j<=m/\J j t df g/\tat t ti=.int .i64 (j:Int)/\tat t tn=.int .i64 (m:Int)) (m - j) Q) t df g:=by
   rintro⟨a1,a2,f⟩;simp only[sx,SO.run,a2,↓reduceIte];refine⟨_,?_,j+1,rfl,by omega,hJ _ _ _ _ _ _ (.inr (.inl rfl)) (hJ _ _ _ _ _ _ (.inr (.inr rfl)) a1),?_,?_⟩
   ·omega
   ·rw[aB (by omega) (by omega)];rfl
   ·rw[Qu (R0 p),Qu (R0 l),f]
  cases e with
  |norm=>exact key h
  |ret=>exact h
  | exit x =>
   rw[pB]at h;rw[rV]
   split at h
   ·rename_i e;rw[Qw e];exact key h
   ·rename_i e;rw[Qu e];exact h
 ·have:j=m:=by simp at hq;omega
  subst this;simp only[sx];exact fin _ _ _ (hJ _ _ _ _ _ _ (.inl rfl) a)
theorem Bz{Hd inc:SC}(J:Nat->PT)(h0:J 0 t df g)
  (hd:∀j t df g,j<=m->J j t df g->wp C d rd Hd (λe t df g=>e=.norm/\tat t c=.bool (decide (j<m))/\J j t df g) t df g)
  (step:∀j t df g,j<m->J j t df g->wp C d rd body (kR (λt df g=>wp C d rd inc (λe t df g=>e=.norm/\J (j+1) t df g) t df g) b Q) t df g)
  (fin:∀t df g,J m t df g->Q (.exit B) t df g) :
  wpL (wp C d rd (.seq (.seq Hd (.cond (.t c) .skip (.exit B))) (.seq (.blk b body) inc))) Q t df g:=by
 refine tD (λn t df g=>∃j:Nat,n=m - j/\j<=m/\J j t df g) m ⟨0,by omega,by omega,h0⟩ ?_;rintro n t df g ⟨j,rfl,a,k⟩;simp only[dt];refine cw _ (hd j t df g a k) ?_;rintro e t df g ⟨rfl,hq,k⟩;simp only[sx,hq];refine⟨λhq=>?_,λhq=>?_⟩
 ·have hlt:j<m:=by simpa using hq
  simp only[sx];refine cw _ (step j t df g hlt k) λe t df g h=>?_;have key:wp C d rd inc (λe t df g=>e=.norm/\J (j+1) t df g) t df g->wp C d rd inc (kL (λn t df g=>∃j:Nat,n=m - j/\j<=m/\J j t df g) (m - j) Q) t df g:=by intro h;refine cw _ h ?_;rintro e t df g ⟨rfl,h⟩;exact⟨_,by omega,j+1,rfl,by omega,h⟩
  cases e with
  |norm=>exact key h
  |ret=>exact h
  | exit x =>
   rw[pB]at h;rw[rV]
   split at h
   ·rename_i e;rw[Qw e];exact key h
   ·rename_i e;rw[Qu e];exact h
 ·have:j=m:=by simp at hq;omega
  subst this;simp only[sx];exact fin _ _ _ k
theorem GG{a b' e sl x y:Nat}(hm:m<9223372036854775808)(hlen:∀g,bY .slice v g=.val (.int .i64 (m:Int)))(J:Nat->PT)
  (h0:J 0 t df g) (hi:tat t ti=.int .i64 0) (hs:tat t sl=v)
  (hc:(a≠ti/\b'≠ti/\e≠ti/\c≠ti)/\(a≠sl/\b'≠sl/\e≠sl/\c≠sl/\x≠sl/\y≠sl/\ti≠sl)/\a≠b'/\a≠e/\x≠y)
  (hJ:∀j t df g v s,s=a\/s=b'\/s=e\/s=c\/s=ti\/s=x\/s=y->J j t df g->J j (ei t s v) df g)
  (step:∀j t df g,j<m->J j t df g->tat t ti=.int .i64 (j:Int)->tat t sl=v ->
   wp C d rd body (kR (λt df g=>J (j+1) t df g/\tat t ti=.int .i64 (j:Int)/\tat t sl=v) b Q) t df g)
  (fin:∀t df g,J m t df g->tat t sl=v->Q (.exit B) t df g) :
  wpL (wp C d rd (.seq (.seq (.ops [o a (.mv (.t ti)),o b' (.mv (.t sl)),o e (.len .slice (.t b')),o c (.bin .lss (.t a) (.t e))]) (.cond (.t c) .skip (.exit B))) (.seq (.blk b body)
   (.ops [o x (.mv (.t ti)),o y (.bin .add (.t x) (.k (.int .i64 1))),o ti (.mv (.t y))])))) Q t df g:=by
 obtain⟨⟨n,q2,q3,p⟩,⟨q,r,u,w,r5,z,A⟩,i,l,D⟩:=hc;refine Bz (m:=m) (λj t df g=>J j t df g/\tat t ti=.int .i64 (j:Int)/\tat t sl=v) ⟨h0,hi,hs⟩ ?_ ?_ (λt df g h=>fin t df g h.1 h.2.2)
 ·rintro j t df g f ⟨h1,h2,h3⟩;simp only[sx,SO.run,h2,h3,hlen,i,l,R0 q,↓reduceIte,R0 n,R0 q2,R0 q3,R0 p,R0 r,R0 u,R0 w,true_and,and_true];refine⟨by congr 1;simp,hJ _ _ _ _ _ _ (.inr (.inr (.inr (.inl rfl)))) (hJ _ _ _ _ _ _ (.inr (.inr (.inl rfl))) (hJ _ _ _ _ _ _ (.inr (.inl rfl)) (hJ _ _ _ _ _ _ (.inl rfl) h1)))⟩
 ·rintro j t df g f ⟨h1,h2,h3⟩;refine cw _ (step j t df g f h1 h2 h3) λe t df g h=>?_;have key:J (j+1) t df g/\tat t ti=.int .i64 (j:Int)/\tat t sl=v->wp C d rd (.ops [o x (.mv (.t ti)),o y (.bin .add (.t x) (.k (.int .i64 1))),o ti (.mv (.t y))])
    (λe t df g=>e=.norm/\J (j+1) t df g/\tat t ti=.int .i64 ((j+1:Nat):Int)/\tat t sl=v) t df g:=by
   rintro⟨h1,h2,h3⟩;simp only[sx,SO.run,h2,↓reduceIte,R0 r5,R0 z,R0 A,h3,true_and,and_true];refine⟨hJ _ _ _ _ _ _ (.inr (.inr (.inr (.inr (.inl rfl))))) (hJ _ _ _ _ _ _ (.inr (.inr (.inr (.inr (.inr (.inr rfl)))))) (hJ _ _ _ _ _ _ (.inr (.inr (.inr (.inr (.inr (.inl rfl)))))) h1)),?_⟩;rw[aB (by omega) (by omega)];rfl
  cases e with
  |norm=>exact key h
  |ret=>exact h
  | exit x =>
   rw[pB]at h ⊢
   split at h
   ·rename_i e;rw[Qw e];exact key h
   ·rename_i e;rw[Qu e];exact h
theorem d7{Hd:List SI}{x y:Nat}(m:Nat)(hm:m<9223372036854775808)(J:Nat->PT)
  (h0:J 0 t df g) (hi:tat t ti=.int .i64 0) (hx:x≠ti)
  (hJ:∀j t df g v s,s=ti\/s=x\/s=y->J j t df g->J j (ei t s v) df g)
  (hd:∀j t df g,j<=m->J j t df g->tat t ti=.int .i64 (j:Int)->wpO C d rd Hd (λt df g=>tat t c=.bool (decide ((j:Int)<(m:Int)))/\J j t df g/\tat t ti=.int .i64 (j:Int)) t df g)
  (step:∀j t df g,j<m->J j t df g->tat t ti=.int .i64 (j:Int)->wp C d rd body (kR (λt df g=>J (j+1) t df g/\tat t ti=.int .i64 (j:Int)) b Q) t df g)
  (fin:∀t df g,J m t df g->Q (.exit B) t df g) :
  wpL (wp C d rd (.seq (.seq (.ops Hd) (.cond (.t c) .skip (.exit B))) (.seq (.blk b body)
   (.ops [o x (.mv (.t ti)),o y (.bin .add (.t x) (.k (.int .i64 1))),o ti (.mv (.t y))])))) Q t df g:=by
 refine Bz (m:=m) (λj t df g=>J j t df g/\tat t ti=.int .i64 (j:Int)) ⟨h0,hi⟩ ?_ ?_ (λt df g h=>fin t df g h.1)
 ·rintro j t df g a ⟨h1,h2⟩;have:=hd j t df g a h1 h2;refine cw (.ops Hd) (Q:=λe t df g=>e=.norm/\tat t c=.bool (decide ((j:Int)<(m:Int)))/\J j t df g/\tat t ti=.int .i64 (j:Int)) (by rw[BE];simpa using this) ?_;rintro e t df g ⟨rfl,a1,a2,f⟩;refine⟨rfl,?_,a2,f⟩;rw[a1];congr 1;simp
 ·rintro j t df g a ⟨h1,h2⟩;refine cw _ (step j t df g a h1 h2) λe t df g h=>?_;have key:J (j+1) t df g/\tat t ti=.int .i64 (j:Int)->wp C d rd (.ops [o x (.mv (.t ti)),o y (.bin .add (.t x) (.k (.int .i64 1))),o ti (.mv (.t y))])
    (λe t df g=>e=.norm/\J (j+1) t df g/\tat t ti=.int .i64 ((j+1:Nat):Int)) t df g:=by
   rintro⟨h1,h2⟩;simp only[sx,SO.run,h2,↓reduceIte,true_and];refine⟨hJ _ _ _ _ _ _ (.inl rfl) (hJ _ _ _ _ _ _ (.inr (.inr rfl)) (hJ _ _ _ _ _ _ (.inr (.inl rfl)) h1)),?_⟩;rw[aB (by omega) (by omega)];rfl
  cases e with
  |norm=>exact key h
  |ret=>exact h
  | exit x =>
   rw[pB]at h ⊢
   split at h
   ·rename_i e;rw[Qw e];exact key h
   ·rename_i e;rw[Qu e];exact h
end
section
variable {off:Nat}
def vid:AV->Option Nat
 |.hsl id _ _ _ _=>some id
 |_=>none
def Own(g:G)(b:Nat)(v:AV)(sz:Nat)(rows:List (List AV)):Prop :=
 (v=.nils/\rows=[])\/∃id ep lo,b<=id/\id<g.nx/\v=.hsl id ep 0 rows.length none/\g.h.get id=.cells sz rows ep lo false
theorem Own.rows{g:G}{b:Nat}{v:AV}{sz:Nat}{rows:List (List AV)}(h:Own g b v sz rows):am g.h sz v=some rows:=by
 rcases h with⟨rfl,rfl⟩|⟨id,ep,lo,h1,h2,rfl,h3⟩
 ·rfl
 ·rw[ba,h3,vN]
theorem Own.fr{g:G}{sz:Nat}{rows:List (List AV)}(h:Own g b v sz rows)(hn:g.nx<=g'.nx)(hf:∀i,vid v=some i->g'.h.get i=g.h.get i):Own g' b v sz rows:=by
 rcases h with h|⟨id,ep,lo,h1,h2,rfl,h3⟩
 ·exact .inl h
 ·exact .inr ⟨id,ep,lo,h1,by omega,rfl,by rw[hf id rfl,h3]⟩
theorem Own.lt{g:G}{sz:Nat}{rows:List (List AV)}(h:Own g b v sz rows)(hi:vid v=some i):b<=i/\i<g.nx:=by
 rcases h with⟨rfl,-⟩|⟨id,ep,lo,h1,h2,rfl,h3⟩
 ·cases hi
 ·injection hi with hi;subst hi;exact⟨h1,h2⟩
theorem Own.cell{g:G}{sz:Nat}{rows:List (List AV)}(h:Own g b v sz rows):v.cells=[v]/\v.isTup=false:=by rcases h with⟨rfl,-⟩|⟨id,ep,lo,h1,h2,rfl,h3⟩<;>exact⟨rfl,rfl⟩
theorem bg{g:G}{sz bytes:Nat}{rows new:List (List AV)}(hv:Own g b v sz rows)(hx:am g.h sz x=some new)(hb:b<=g.nx)
  (hr:(rows.length+new.length)*bytes<=aS)
  (k:∀v' g',Own g' b v' sz (rows++new)->g.nx<=g'.nx->(∀i,i<g.nx->vid v≠some i->g'.h.get i=g.h.get i)->(vid v'=vid v\/∃i,vid v'=some i/\g.nx<=i)->(∀i∈g'.lg,i∈g.lg\/b<=i)->K v' g') :
  (cQ sz bytes v x g).sat K g D:=by
 unfold cQ;rw[hx];dsimp only;rcases hv with⟨rfl,rfl⟩|⟨id,ep,lo,h1,h2,rfl,h3⟩
 ·cases new with
  |nil=>exact k _ _ (.inl ⟨rfl,rfl⟩) (Qq _) (λ_ _ _=>rfl) (.inl rfl) (λi hi=>.inl hi)
  | cons r new =>
   simp only[a8,aq,aa,Q6];rw[Qw (by simpa using hr)];refine k _ _ (.inr ⟨g.nx,0,true,hb,by simp,rfl,by simp[a9]⟩) (by simp) (λi hi _=>?_) (.inr ⟨g.nx,rfl,Qq _⟩) (λi hi=>by simp at hi;rcases hi with rfl|hi;exact .inr hb;exact .inl hi);rw[G.new_h,ax _ _ _ (by omega)]
 ·simp only[a8,G.get_eq,h3,aq,aa,show Nat.beq ep ep=true from Q2 ep,show Nat.beq sz sz=true from Q2 sz,Rz,Q6,Qt,Rn,RT,R6];rw[Qw ⟨Qq _,hr⟩];cases new with
  | nil =>
   rw[Qw (by simp)];refine k _ _ (.inr ⟨id,ep,lo,h1,h2,by simp,by simpa using h3⟩) (Qq _) (λ_ _ _=>rfl) (.inl rfl) (λi hi=>.inl hi)
  | cons r new =>
   rw[Qu (by simp)];have ht:fY rows.length (eR 0 rows)=rows:=by rw[be,bc];simp
   cases lo with
   | false =>
    rw[Qw (by simp)];refine k _ _ (.inr ⟨g.nx,0,true,by omega,by simp,by simp,by simp[a9,ht]⟩) (by simp) (λi hi _=>?_) (.inr ⟨g.nx,rfl,Qq _⟩) (λi hi=>by simp at hi;rcases hi with rfl|hi;exact .inr hb;exact .inl hi);rw[G.new_h,ax _ _ _ (by omega)]
   | true =>
    rw[Qu (by simp)];refine k _ _ (.inr ⟨id,ep+1,true,h1,by simpa using h2,by simp,by simp[a9,ht]⟩) (by simp) (λi hi hne=>?_) (.inl rfl) (λi hi=>by simp at hi;rcases hi with rfl|hi;exact .inr h1;exact .inl hi);rw[G.put_h,ax _ _ _ (λe=>hne (by rw[e];rfl))]
def Fr(g g':G):Prop:=g.nx<=g'.nx/\∀i,i<g.nx->g'.h.get i=g.h.get i
theorem Fr.refl(g:G):Fr g g:=⟨Qq _,λ_ _=>rfl⟩
theorem Fr.trans{g g'':G}(h:Fr g g')(h':Fr g' g''):Fr g g'':=⟨QW h.1 h'.1,λi hi=>by rw[h'.2 i (QR hi h.1),h.2 i hi]⟩
theorem Fr.new(g:G)(o:AObj):Fr g (g.new o):=⟨by simp,λi hi=>by rw[G.new_h,ax _ _ _ (by omega)]⟩
theorem Own.step{g:G}{sz:Nat}{rows:List (List AV)}(h:Own g b v sz rows)(f:Fr g g'):Own g' b v sz rows :=
 h.fr f.1 λi hi=>f.2 i (h.lt hi).2
theorem ct{g:G}{sz:Nat}{rows:List (List AV)}{row row':List AV}(hv:Own g b v sz rows)(hr:rows[i]?=some row)
  (hl:x.cells.length=n) (ht:x.isTup=false) (hp:cj row off x.cells=some row')
  (k:∀g',Own g' b v sz (rows.set i row')->g'.nx=g.nx->(∀i,vid v≠some i->g'.h.get i=g.h.get i)->K .undef g'):(mj n (kX sz v i off) x g).sat K g D:=by
 rcases hv with⟨rfl,rfl⟩|⟨id,ep,lo,h1,h2,rfl,h3⟩
 ·simp at hr
 ·simp only[kX,Rn];rw[yR h3 hr rfl ht hl hp];refine k _ (.inr ⟨id,ep,lo,h1,by simpa using h2,by simp,by simp[a9]⟩) (by simp) (λi hne=>?_);rw[G.put_h,ax _ _ _ (λe=>hne (by rw[e];rfl))]
theorem wO{g:G}{sz bytes:Nat}{zero:List AV}{k1 k2:IntKind}(hn:n<=aS)(hb:n*bytes<=aS)(hg:b<=g.nx)
  (k:∀v' g',Own g' b v' sz (List.replicate n zero)->g'.nx=g.nx+1->(∀i,i<g.nx->g'.h.get i=g.h.get i)->vid v'=some g.nx->K v' g') :
  (yk sz bytes zero (.int k1 (n:Int)) (.int k2 (n:Int)) g).sat K g D:=by
 show (match bN aS (.int k2 (.ofNat n)) with
  | some cn=>match bN cn (.int k1 (.ofNat n)) with
   |some ln=>ak (Nat.ble (cn*bytes) aS) (OR.upd (.hsl g.nx 0 0 ln none) (g.new (Tq sz (eH cn zero)))) .fail
   |none=>.fail
  |none=>.fail).sat K g D
 simp only[bN,aa,Q6,Qw hn,Qq,Qw hb,if_true];refine k _ _ (.inr ⟨g.nx,0,false,hg,by simp,by simp,by simp[a9,eH]⟩) (by simp) (λi hi=>?_) rfl;rw[G.new_h,ax _ _ _ (by omega)]
theorem Own.sl{α:Type} [Rp α]{g:G}{rows:List (List AV)}{l:List α}{P:Nat->Prop}{k:Nat}(h:Own g b v (Rp.sz α) rows)(hl:l.length<9223372036854775808)(hr:All2 (Rp.rp P k g.h) l rows)
  (hp:∀i,vid v=some i->P i):SlR P k g.h l v:=by
 refine⟨hl,?_⟩;have a:=h.rows;rcases h with⟨rfl,rfl⟩|⟨id,ep,lo,h1,h2,rfl,h3⟩
 ·exact QY hr.len
 ·exact⟨hp id rfl,rows,a,hr⟩
theorem Own.ints{g:G}{l:List Int}{k:Nat}(h:Own g b v 1 (l.map ci))(hl:l.length<9223372036854775808):One l (λ_=>True) k g.h v :=
 ⟨v,rfl,Own.sl (α:=Int) h hl (Oz (λa=>aG.2 rfl) l) λ_ _=>trivial⟩
theorem bL{x:OR}{Q:AV->Prop}{g:G}(h:∃r,x=.val r/\Q r)(k:∀r,Q r->K r g):x.sat K g D:=by obtain⟨r,rfl,hr⟩:=h;exact k r hr
section feet
variable {C:Cfg}{d:Nat}{rd:Option Nat}{pm:List Nat}
theorem GF(Q:PT)(t:T)(df:List ADf)(g:G)(fs:List Foot):wpF C d rd pm [] Q t df g fs=(pA pm fs.reverse=true/\Q t df g):=rfl
theorem M3(n:Nat)(op:SO)(r:List SI)(Q:PT)(t:T)(df:List ADf)(g:G)(fs:List Foot):wpF C d rd pm (o n op::r) Q t df g fs =
  (op.run C d rd t (aJ g [])).sat (kF (wpF C d rd pm r Q) (some n) t df g.lg fs (op.foot C t g)) (aJ g []) (λ_=>False):=rfl
theorem KO(op:SO)(r:List SI)(Q:PT)(t:T)(df:List ADf)(g:G)(fs:List Foot):wpF C d rd pm (oz op::r) Q t df g fs =
  (op.run C d rd t (aJ g [])).sat (kF (wpF C d rd pm r Q) none t df g.lg fs (op.foot C t g)) (aJ g []) (λ_=>False):=rfl
theorem KN(n s:Nat)(w:Bool)(op:SO)(r:List SI)(Q:PT)(t:T)(df:List ADf)(g:G)(fs:List Foot) :
  wpF C d rd pm (og n s w op::r) Q t df g fs=gdP (tat t s) w (HV C d rd (o n op) (wpF C d rd pm r Q) fs) (Dn (o n op) (wpF C d rd pm r Q) fs) t df g:=rfl
theorem Kq(n:Nat)(op:SO)(W:FT)(fs:List Foot)(t:T)(df:List ADf)(g:G):HV C d rd (o n op) W fs t df g =
  (op.run C d rd t (aJ g [])).sat (kF W (some n) t df g.lg fs (op.foot C t g)) (aJ g []) (λ_=>False):=rfl
theorem Gx(n:Nat)(op:SO)(W:FT)(fs:List Foot)(t:T)(df:List ADf)(g:G):Dn (o n op) W fs t df g=W (ei t n .undef) df g (⟨aC,[]⟩::fs):=rfl
theorem FV(W:FT)(n:Nat)(t:T)(df:List ADf)(lg:List Nat)(fs:List Foot)(lk:Looks)(v:AV)(g:G):kF W (some n) t df lg fs lk v g=W (ei t n v) df (nK g (g.lg++lg)) (⟨lk,g.lg⟩::fs):=rfl
theorem FU(W:FT)(t:T)(df:List ADf)(lg:List Nat)(fs:List Foot)(lk:Looks)(v:AV)(g:G):kF W none t df lg fs lk v g=W t df (nK g (g.lg++lg)) (⟨lk,g.lg⟩::fs):=rfl
theorem Dd{sz:Nat}(h:wx v=true):af (kX sz v i off)=af v:=by cases v<;>first|rfl|cases h
theorem fm(id ep i off:Nat):af (.hptr id ep i off)=[id]:=rfl
theorem yH(id ep off len:Nat)(lim:Option Nat):af (.hsl id ep off len lim)=[id]:=rfl
end feet
section looks
variable {C:Cfg}{t:T}{g:G}
theorem MK(x:Od):SO.foot C t g (.mv x)=aC:=rfl
theorem FL(c a b:Od):SO.foot C t g (.pick c a b)=aC:=rfl
theorem Cm(cs:List AV):SO.foot C t g (.alloc cs)=aC:=rfl
theorem Jf(x:Od):SO.foot C t g (.box x)=aC:=rfl
theorem Cn(z:List AV)(pl:List (Nat×Nat))(vs:List Od):SO.foot C t g (.build z pl vs)=aC:=rfl
theorem Jg(sz len:Nat)(z:List AV)(is:List Nat)(vs:List Od):SO.foot C t g (.bsl sz len z is vs)=aC:=rfl
theorem FI(ag:Bool)(n:Nat)(a:Od):SO.foot C t g (.load ag n a)=ah (af (a.get t)):=rfl
theorem Co(n:Nat)(a x:Od):SO.foot C t g (.store n a x)=ah (af (a.get t)):=rfl
theorem FK(x:Od):SO.foot C t g (.nilc x)=aC:=rfl
theorem Je(op:BinOp)(x y:Od):SO.foot C t g (.bin op x y)=aC:=rfl
theorem MG(ng:Bool)(ek:EqKind)(x y:Od):SO.foot C t g (.eq ng ek x y)=aC:=rfl
theorem Jq(x:Od):SO.foot C t g (.not x)=aC:=rfl
theorem FH(k:IntKind)(x:Od):SO.foot C t g (.conv k x)=aC:=rfl
theorem Jo(f:Nat)(a c:List Od):SO.foot C t g (.mkf f a c)=aC:=rfl
theorem Jp(sz bt:Nat)(z:List AV)(l c:Od):SO.foot C t g (.mks sz bt z l c)=aC:=rfl
theorem Jr(sz:Nat)(x:Od)(lo hi:List Od):SO.foot C t g (.slc sz x lo hi)=ah (af (x.get t)):=rfl
theorem Jj(fo:Nat)(x:Od):SO.foot C t g (.fad fo x)=aC:=rfl
theorem Jk(ag:Bool)(n fo:Nat)(x:Od):SO.foot C t g (.fld ag n fo x)=aC:=rfl
theorem Jm(sz:Nat)(x i:Od):SO.foot C t g (.ixs sz x i)=ah (af (x.get t)):=rfl
theorem Jl(n sz:Nat)(x i:Od):SO.foot C t g (.ixa n sz x i)=aC:=rfl
theorem MH(ag:Bool)(n sz:Nat)(x i:Od):SO.foot C t g (.ix ag n sz x i)=aC:=rfl
theorem Ji(x:Od)(i:Nat):SO.foot C t g (.ext x i)=aC:=rfl
theorem Jn(x:Od):SO.foot C t g (.len .slice x)=aC:=rfl
theorem Jd(sz bt:Nat)(x y:Od):SO.foot C t g (.app sz bt x y)=ah (af (x.get t)++af (y.get t)):=rfl
theorem Jh(sz:Nat)(x y:Od):SO.foot C t g (.cpy sz x y)=ah (af (x.get t)++af (y.get t)):=rfl
theorem ML(x y:Od):SO.foot C t g (.mx x y)=ah (af (x.get t)++af (y.get t)):=rfl
theorem MJ(x y:Od):SO.foot C t g (.mn x y)=ah (af (x.get t)++af (y.get t)):=rfl
end looks
theorem sf:type_of% (Qp @MK <|Qp @FL <|Qp @Cm <|Qp @Jf <|Qp @Cn <|Qp @Jg <|Qp @FI <|Qp @Co <|Qp @FK <|Qp @Je <|Qp @MG <|Qp @Jq <|Qp @FH <|Qp @Jo <|Qp @Jp <|Qp @Jr <|Qp @Jj <|Qp @Jk <|Qp @Jm <|Qp @Jl <|Qp @MH <|Qp @Ji <|Qp @Jn <|Qp @Jd <|Qp @Jh <|Qp @ML <|@MJ) :=
 Qp @MK <|Qp @FL <|Qp @Cm <|Qp @Jf <|Qp @Cn <|Qp @Jg <|Qp @FI <|Qp @Co <|Qp @FK <|Qp @Je <|Qp @MG <|Qp @Jq <|Qp @FH <|Qp @Jo <|Qp @Jp <|Qp @Jr <|Qp @Jj <|Qp @Jk <|Qp @Jm <|Qp @Jl <|Qp @MH <|Qp @Ji <|Qp @Jn <|Qp @Jd <|Qp @Jh <|Qp @ML <|@MJ
theorem zG(k:IntKind)(x:Int):(AV.int k x).cells=[.int k x]:=rfl
theorem xB(x:Bool):(AV.bool x).cells=[.bool x]:=rfl
theorem zE(cs:List AV):(AV.agg cs).cells=cs:=rfl
theorem xC:AV.nils.cells=[.nils]:=rfl
theorem zW(k:IntKind)(x:Int):(AV.int k x).isTup=false:=rfl
theorem x_(x:Bool):(AV.bool x).isTup=false:=rfl
theorem zU(cs:List AV):(AV.agg cs).isTup=false:=rfl
theorem ya:AV.nils.isTup=false:=rfl
theorem zF(id ep off len:Nat)(lim:Option Nat):(AV.hsl id ep off len lim).cells=[.hsl id ep off len lim]:=rfl
theorem zV(id ep off len:Nat)(lim:Option Nat):(AV.hsl id ep off len lim).isTup=false:=rfl
theorem zH(t s:Nat)(rows:List (List AV)):(AV.tsl t s rows).cells=[.tsl t s rows]:=rfl
theorem zX(t s:Nat)(rows:List (List AV)):(AV.tsl t s rows).isTup=false:=rfl
theorem D9(x:AV)(g:G)(h:x.isTup=false):AH x g=.upd (.hptr g.nx 0 0 0) (g.new (Tq x.cells.length [x.cells])):=by simp only[AH,h,aq]
theorem Fy(sz:Nat)(zero:List AV)(g:G):II sz 0 zero [] [] g=.upd (.hsl g.nx 0 0 0 none) (g.new (Tq sz [])):=rfl
theorem oW(sz:Nat)(zero:List AV)(v:AV)(g:G)(hl:v.cells.length=sz)(ht:v.isTup=false) :
  II sz 1 zero [0] [v] g=.upd (.hsl g.nx 0 0 1 none) (g.new (Tq sz [v.cells])):=by
 subst hl;have:Nat.beq (a7 v.cells) v.cells.length=true:=by rw[aq];exact Q2 _
 have h2:dH v.cells.length [zero] [(0,v)]=some [v.cells]:=by simp only[dH,ht,aa,aq,fG,notb_eq];rw[show Nat.beq v.cells.length v.cells.length=true from Q2 _];rfl
 show (match dH v.cells.length [zero] [(0,v)] with|some rows=>OR.upd (.hsl g.nx 0 0 1 none) (g.new (Tq v.cells.length rows))|none=>.fail)=_;rw[h2]
theorem iF(row:List AV)(off:Nat)(cs:List AV):cj row off cs=if off+cs.length<=row.length then some (row.take off++(cs++row.drop (off+cs.length))) else none:=by
 simp only[cj,aq,aa,Q6,fG,be,bc]
 split
 ·rename_i h
  split
  ·rename_i c;simp only[R_]at h;rw[List.set_eq_take_append_cons_drop,Qw (by omega)];rfl
  ·rfl
 ·rfl
theorem MA(a:AV)(l:List AV):I4 (.tup (a::l)) 0=.val a:=rfl
theorem MB(a b:AV)(l:List AV):I4 (.tup (a::b::l)) 1=.val b:=rfl
theorem MC(a b c:AV)(l:List AV):I4 (.tup (a::b::c::l)) 2=.val c:=rfl
theorem I_(ag:Bool)(n fo:Nat)(cs:List AV):Nl ag n fo (.agg cs)=orV (bX ag n cs fo):=rfl
theorem Af{row:List AV}:bX true (n+1) row off=if off+(n+1)<=row.length then some (.agg ((row.drop off).take (n+1))) else none:=by
 split
 ·rename_i h;exact J9 h
 ·rename_i h;simp only[bX,be,bc,aq,QZ,Si,aa];rw[Qu];intro e;have:=Ro e;omega
theorem BX(zero:List AV)(pl:List (Nat×Nat))(vs:List AV):AI zero pl vs=match ef zero (pl.zip vs) with|some cs=>.val (.agg cs)|none=>.fail:=rfl
theorem zP(cs:List AV):ef cs []=some cs:=rfl
theorem xS(cs:List AV)(off size:Nat)(v:AV)(rest:List ((Nat×Nat)×AV))(hl:v.cells.length=size)(ht:v.isTup=false) :
  ef cs (((off,size),v)::rest)=match cj cs off v.cells with|some cs=>ef cs rest|none=>none:=by
 subst hl;have:Nat.beq (a7 v.cells) v.cells.length=true:=by rw[aq];exact Q2 _
 simp only[ef,this,ht,notb_eq,Sx,SU]
 rfl
theorem Kh(ag:Bool)(n a:Nat)(r:List SR)(t:T)(g:G)(K:List AV->Prop):qo (.cell ag n a::r) t g K=match qf ag n (tat t a) g with|.val v=>qo r t g λvs=>K (v::vs)|_=>False:=rfl
theorem ud(a b:AV)(l:List AV):eg (a::b::l)=.tup (a::b::l):=rfl
theorem sy:type_of% (Qp @BX <|Qp @zP <|Qp @xS <|Qp @Kh <|Qp @Ss.{0,0} <|Qp @List.zip_nil_left.{0,0} <|Qp @GF <|Qp @M3 <|Qp @KO <|Qp @KN <|Qp @Kq <|Qp @Gx <|Qp @FV <|Qp @FU <|Qp @bumpG_h <|Qp @bumpG_nx <|Qp @bumpG_lg <|Qp @true_and <|Qp @and_true <|Qp @A3 <|Qp @pB <|Qp @JJ <|Qp @setLog_h <|Qp @setLog_nx <|Qp @setLog_lg <|Qp @MR <|Qp @zG <|Qp @xB <|Qp @zE <|Qp @xC <|Qp @zW <|Qp @x_ <|Qp @zU <|Qp @ya <|
 Qp @zF <|Qp @zV <|Qp @zH <|Qp @zX <|Qp @D9 <|Qp @Fy <|Qp @oW <|Qp @iF <|Qp @MA <|Qp @MB <|Qp @MC <|
 Qp @I_ <|Qp @Af <|Qp @ud <|Qp @cX <|Qp @aq <|Qp @Rd.{0} <|Qp @SB.{0} <|Qp @R8.{0} <|
 Qp @Tm.{0} <|Qp @Td.{0} <|Qp @Sa.{0} <|Qp @QQ.{0} <|Qp @QU.{0} <|Qp @QJ.{0} <|Qp @R3.{0} <|Qp @S1.{0} <|
 Qp @Rn <|Qp @OE <|Qp @ba <|Qp @cg <|Qp @vT <|@pI) :=
 Qp @BX <|Qp @zP <|Qp @xS <|Qp @Kh <|Qp @Ss.{0,0} <|Qp @List.zip_nil_left.{0,0} <|Qp @GF <|Qp @M3 <|Qp @KO <|Qp @KN <|Qp @Kq <|Qp @Gx <|Qp @FV <|Qp @FU <|Qp @bumpG_h <|Qp @bumpG_nx <|Qp @bumpG_lg <|Qp @true_and <|Qp @and_true <|Qp @A3 <|Qp @pB <|Qp @JJ <|Qp @setLog_h <|Qp @setLog_nx <|Qp @setLog_lg <|Qp @MR <|Qp @zG <|Qp @xB <|Qp @zE <|Qp @xC <|Qp @zW <|Qp @x_ <|Qp @zU <|Qp @ya <|
 Qp @zF <|Qp @zV <|Qp @zH <|Qp @zX <|Qp @D9 <|Qp @Fy <|Qp @oW <|Qp @iF <|Qp @MA <|Qp @MB <|Qp @MC <|
 Qp @I_ <|Qp @Af <|Qp @ud <|Qp @cX <|Qp @aq <|Qp @Rd.{0} <|Qp @SB.{0} <|Qp @R8.{0} <|
 Qp @Tm.{0} <|Qp @Td.{0} <|Qp @Sa.{0} <|Qp @QQ.{0} <|Qp @QU.{0} <|Qp @QJ.{0} <|Qp @R3.{0} <|Qp @S1.{0} <|
 Qp @Rn <|Qp @OE <|Qp @ba <|Qp @cg <|Qp @vT <|@pI
end
theorem zi{ih:IH}{f:Nat}{args:List AV}{y:ADf}:ap ih d g f args≠.dfr y:=by
 intro k;revert k;unfold ap
 repeat' (first|split|rw[aa])
 all_goals (intro h;cases h)
end
end Hx
