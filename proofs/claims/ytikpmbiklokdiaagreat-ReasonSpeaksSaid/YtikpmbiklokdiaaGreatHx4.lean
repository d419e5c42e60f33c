/- A part of the proof: what the functions of the chapter compute. -/
import Derived.Orders
import Derived.Below
import Derived.Laws.Externs
import Derived.Test.YtikpmbiklokdiaaGreatHx3
set_option linter.all false
set_option maxRecDepth 20000
set_option maxHeartbeats 8000000
namespace Hx
open Go
noncomputable section
variable {g g':G}{v:AV}{b d nt n i x f c B ti m:Nat}{t t':T}{P:Program}{rd:Option Nat}{df:List ADf}{C:Cfg}{tmps:Array Value}{body:SC}{Q:QT}{pm:List Nat}{assign:Code}{K:AV->G->Prop}{D:ADf->Prop}
section
variable {C:Cfg}{t t':T}{g:G}{ih:IH}
theorem EV{x:Operand}{s:Stg (T->AV)}(h:aN C x=some s)(hx:∀n,x=.tmp n->t.get AV.undef n=t'.get AV.undef n):s.run t=s.run t':=by
 cases x with
 |tmp n=>simp[aN]at h;subst h;simpa using hx n rfl
 | const v =>
  simp only[aN]at h
  split at h
  ·injection h with h;subst h;rfl
  ·cases h
 | global gl =>
  simp only[aN]at h
  split at h
  ·injection h with h;subst h;rfl
  ·cases h
 |func f=>simp[aN]at h;subst h;rfl
def AO(C:Cfg)(t t':T)(xs:List Operand):Prop:=∀x∈xs,∀s,aN C x=some s->s.run t=s.run t'
theorem cD:∀{xs:List Operand} {vs:Stg (T->List AV)},bL C xs=some vs->AO C t t' xs->vs.run t=vs.run t':=by
 intro xs
 induction xs with
 |nil=>intro vs h _;simp[bL]at h;subst h;rfl
 | cons x xs ih =>
  intro vs h hx;simp only[bL]at h
  split at h
  ·rename_i a as h1 h2;injection h with h;subst h;simp only[hx x Rm a h1,ih h2 λy hy=>hx y (Rj _ hy)]
  ·cases h
variable {op:Op}{f:Stg SFn}
theorem yu{b:Builtin}{argTypes:Array TypeId}{args:List Operand}(h:cT C b argTypes args=some f)(hx:AO C t t' args):f.run t g=f.run t' g:=by
 unfold cT at h
 split at h
 ·split at h
  ·rename_i s _ hs;injection h with h;subst h;simp only[hx _ (by simp) _ hs]
  ·cases h
 ·split at h
  ·rename_i sa sx _ _ ha hb;have e1:=hx _ (by simp) _ ha;have k:=hx _ (by simp) _ hb
   repeat' (first|split at h| (rw[aa]at h;split at h))
   all_goals first| (cases h;done)| (injection h with h;subst h;simp only[e1,k])
  ·cases h
 ·split at h
  ·rename_i sa sx _ ha hb;have e1:=hx _ (by simp) _ ha;have k:=hx _ (by simp) _ hb
   repeat' (first|split at h)
   all_goals first| (cases h;done)| (injection h with h;subst h;simp only[e1,k])
  ·cases h
 ·split at h
  ·rename_i s _ hs;have e1:=hx _ (by simp) _ hs
   repeat' (first|split at h)
   all_goals first| (cases h;done)| (injection h with h;subst h;simp only[e1])
  ·cases h
 ·split at h
  ·rename_i s _ hs;have e1:=hx _ (by simp) _ hs
   repeat' (first|split at h| (rw[aa]at h;split at h))
   all_goals first| (cases h;done)| (injection h with h;subst h;simp only[e1])
  ·cases h
 ·split at h
  ·rename_i sa sx ha hb;injection h with h;subst h;simp only[hx _ (by simp) _ ha,hx _ (by simp) _ hb]
  ·cases h
 ·split at h
  ·rename_i sa sx ha hb;injection h with h;subst h;simp only[hx _ (by simp) _ ha,hx _ (by simp) _ hb]
  ·cases h
 ·cases h
theorem EW(h:cd C op=some f)(hx:AO C t t' op.operands.toList):f.run t g=f.run t' g:=by
 cases op<;>simp only[cd]at h<;>first| (cases h;done)|skip
 case call c =>
  obtain⟨callee,args,argTypes⟩:=c;cases callee<;>first| (cases h;done)|skip
  dsimp only at h;exact yu h λx hm=>hx x (by simpa [Op.operands,Call.operands] using hm)
 case move x =>
  split at h
  ·rename_i s hs;injection h with h;subst h;simp only[hx _ (by simp[Op.operands]) _ hs]
  ·cases h
 case assign x =>
  split at h
  ·rename_i s hs;injection h with h;subst h;simp only[hx _ (by simp[Op.operands]) _ hs]
  ·cases h
 case pick c x y =>
  split at h
  ·rename_i sc sx sy hc h1 h2;injection h with h;subst h;simp only[hx _ (by simp[Op.operands]) _ hc,hx _ (by simp[Op.operands]) _ h1,hx _ (by simp[Op.operands]) _ h2]
  ·cases h
 case alloc ty =>
  split at h
  ·injection h with h;subst h;rfl
  ·cases h
 case box ty x =>
  split at h
  ·rename_i s hs;injection h with h;subst h;simp only[Jc,hx _ (by simp[Op.operands]) _ hs]
  ·cases h
 case load ty x =>
  split at h
  ·rename_i s ag n hs A B;injection h with h;subst h;simp only[l8,hx _ (by simp[Op.operands]) _ hs]
  ·cases h
 case store ty x y =>
  split at h
  ·rename_i s u n hs hu B;injection h with h;subst h;simp only[nK,hx _ (by simp[Op.operands]) _ hs,hx _ (by simp[Op.operands]) _ hu]
  ·cases h
 case binOp op ty x y p =>
  split at h
  ·rename_i s u hs hu;injection h with h;subst h;simp only[hx _ (by simp[Op.operands]) _ hs,hx _ (by simp[Op.operands]) _ hu]
  ·cases h
 case unOp op ty x =>
  split at h
  ·rename_i s hs;injection h with h;subst h;simp only[hx _ (by simp[Op.operands]) _ hs]
  ·cases h
 case convert src dst x =>
  split at h
  ·rename_i s sd k hs v hk;injection h with h;subst h;simp only[hx _ (by simp[Op.operands]) _ hs]
  ·cases h
 case nilCheck x =>
  split at h
  ·rename_i s hs;injection h with h;subst h;simp only[hx _ (by simp[Op.operands]) _ hs]
  ·cases h
 case makeInterface ty x =>
  split at h
  ·cases h
  ·rename_i s d D hs hu;injection h with h;subst h;simp only[hx _ (by simp[Op.operands]) _ hs]
  ·cases h
 case makeSlice ty l c =>
  split at h
  ·rename_i e sl sc he hl hc
   split at h
   ·rw[aa]at h
    split at h
    ·injection h with h;subst h;simp only[gA,hx _ (by simp[Op.operands]) _ hl,hx _ (by simp[Op.operands]) _ hc]
    ·cases h
   ·cases h
  ·cases h
 case fieldAddr ty x fi =>
  split at h
  ·rename_i s fo ft hs o
   split at h
   ·injection h with h;subst h;simp only[i_,hx _ (by simp[Op.operands]) _ hs]
   ·cases h
  ·cases h
 case field ty x fi =>
  split at h
  ·rename_i s fo ft hs o
   split at h
   ·injection h with h;subst h;simp only[hx _ (by simp[Op.operands]) _ hs]
   ·cases h
  ·cases h
 case indexAddr ty x ix =>
  split at h
  ·rename_i s i hs hi
   split at h
   ·split at h
    ·injection h with h;subst h;simp only[fY,hx _ (by simp[Op.operands]) _ hs,hx _ (by simp[Op.operands]) _ hi]
    ·cases h
   ·split at h
    ·injection h with h;subst h;simp only[l6,hx _ (by simp[Op.operands]) _ hs,hx _ (by simp[Op.operands]) _ hi]
    ·cases h
   ·cases h
  ·cases h
 case index ty x ix =>
  split at h
  ·rename_i s i hs hi
   split at h
   ·split at h
    ·injection h with h;subst h;simp only[tX,hx _ (by simp[Op.operands]) _ hs,hx _ (by simp[Op.operands]) _ hi]
    ·cases h
   ·injection h with h;subst h;simp only[oQ,hx _ (by simp[Op.operands]) _ hs,hx _ (by simp[Op.operands]) _ hi]
   ·cases h
  ·cases h
 case lookup ty x k ok =>
  split at h
  ·rename_i m kk kt et hm hk hu
   split at h
   ·injection h with h;subst h;simp only[di,hx _ (by simp[Op.operands]) _ hm,hx _ (by simp[Op.operands]) _ hk]
   ·cases h
  ·cases h
 case mapUpdate ty m k x =>
  split at h
  ·rename_i sm sk sx kt et hm hk a hu;injection h with h;subst h;simp only[fd,hx _ (by simp[Op.operands]) _ hm,hx _ (by simp[Op.operands]) _ hk,hx _ (by simp[Op.operands]) _ a]
  ·cases h
 case insert ty m k x =>
  split at h
  ·rename_i sm sk sx kt et hm hk a hu;injection h with h;subst h;simp only[fd,hx _ (by simp[Op.operands]) _ hm,hx _ (by simp[Op.operands]) _ hk,hx _ (by simp[Op.operands]) _ a]
  ·cases h
 case mapEntry ty m k =>
  split at h
  ·rename_i sm sk kt et hm hk hu
   split at h
   ·injection h with h;subst h;simp only[fF,hx _ (by simp[Op.operands]) _ hm,hx _ (by simp[Op.operands]) _ hk]
   ·cases h
  ·cases h
 case entryStore ty m st x =>
  split at h
  ·rename_i sm ss sx hm hs a;injection h with h;subst h;simp only[gI,hx _ (by simp[Op.operands]) _ hm,hx _ (by simp[Op.operands]) _ hs,hx _ (by simp[Op.operands]) _ a]
  ·cases h
 case extract x i =>
  split at h
  ·rename_i s hs;injection h with h;subst h;simp only[hx _ (by simp[Op.operands]) _ hs]
  ·cases h
 case makeMap ty r =>
  cases r with
  |some r=>cases h
  | none =>
   dsimp only at h
   split at h
   ·injection h with h;subst h;rfl
   ·cases h
 case makeFunc fn fi ca =>
  cases fn with
  | func fx =>
   dsimp only at h
   split at h
   ·rename_i sa sc ha hc;injection h with h;subst h;have e1:=cD (t:=t) (t':=t') ha λx hm=>hx x (by simp[Op.operands]at hm ⊢;exact .inl hm);have w:=cD (t:=t) (t':=t') hc λx hm=>hx x (by simp[Op.operands]at hm ⊢;exact .inr hm);simp only[e1,w]
   ·cases h
  |_=>cases h
 case buildSlice ty len parts =>
  split at h
  ·rename_i e vs he b;have e1:=cD (t:=t) (t':=t') b λx hm=>hx x (by simpa [Op.operands] using hm)
   split at h
   ·rw[aa]at h
    split at h
    ·injection h with h;subst h;simp only[gG,e1]
    ·cases h
   ·cases h
  ·cases h
 case build ty parts =>
  split at h
  ·rename_i zero vs hz b;have e1:=cD (t:=t) (t':=t') b λx hm=>hx x (by simpa [Op.operands] using hm)
   split at h
   ·split at h
    ·split at h
     ·injection h with h;subst h;simp only[mY,e1]
     ·cases h
    ·cases h
   ·split at h
    ·injection h with h;subst h;simp only[mY,e1]
    ·cases h
   ·cases h
  ·cases h
 case slice ty x lo hi mx =>
  have optR:∀{y:Option Operand} {s:Stg (T->List AV)},(∀z,y=some z->z∈(Op.slice ty x lo hi mx).operands.toList)->bL C y.toList=some s->s.run t=s.run t':=by
   intro y s E hs;refine cD hs λz hm=>hx z (E z ?_);cases y with
   |none=>simp at hm
   |some q=>simp at hm;rw[hm]
  cases mx with
  | none =>
   dsimp only at h
   split at h
   ·rename_i e sx sl sh hu h1 h2 j
    split at h
    ·injection h with h;subst h;simp only[hx _ (by simp[Op.operands]) _ h1,optR (by rintro z rfl;simp[Op.operands]) h2,optR (by rintro z rfl;simp[Op.operands]) j]
    ·cases h
   ·rename_i n e sx sl sh hu h1 h2 j
    split at h
    ·injection h with h;subst h;simp only[gX,hx _ (by simp[Op.operands]) _ h1,optR (by rintro z rfl;simp[Op.operands]) h2,optR (by rintro z rfl;simp[Op.operands]) j]
    ·cases h
   ·cases h
  | some mx =>
   cases hi with
   |none=>cases h
   | some hi =>
    dsimp only at h
    split at h
    ·rename_i e sx sl sh sm he h1 h2 j h4
     split at h
     ·injection h with h;subst h;simp only[hx _ (by simp[Op.operands]) _ h1,optR (by rintro z rfl;simp[Op.operands]) h2,hx _ (by simp[Op.operands]) _ j,hx _ (by simp[Op.operands]) _ h4]
     ·cases h
    ·cases h
theorem ET(hx:AO C t t' op.operands.toList):(b_ C op).run ih d rd t g=(b_ C op).run ih d rd t' g:=by
 unfold b_
 split
 rotate_left
 ·rfl
 rename_i f h;unfold cOp at h
 split at h
 ·rename_i fx args at2
  split at h
  ·rename_i vs k;have e1:=cD (t:=t) (t':=t') k λx hm=>hx x (by simp[Op.operands,Call.operands]at hm ⊢;exact .inr hm)
   repeat' (first|split at h| (rw[aa]at h;split at h))
   all_goals (injection h with h;subst h;simp only[e1])
  ·cases h
 ·rename_i fo args at2 c
  split at h
  ·rename_i fv vs a k;have e1:=cD (t:=t) (t':=t') k λx hm=>hx x (by simp[Op.operands,Call.operands]at hm ⊢;exact .inr hm);have b:=hx fo (by simp[Op.operands,Call.operands]) _ a;injection h with h;subst h;simp only[e1,b]
  ·cases h
 ·injection h with h;subst h;rfl
 ·rename_i fo args at2
  split at h
  ·rename_i fv vs a k;have e1:=cD (t:=t) (t':=t') k λx hm=>hx x (by simp[Op.operands,Call.operands]at hm ⊢;exact .inr hm);have b:=hx fo (by simp[Op.operands,Call.operands]) _ a;injection h with h;subst h;simp only[e1,b]
  ·cases h
 ·split at h
  ·rename_i s hs;injection h with h;subst h;exact EW hs hx
  ·cases h
theorem CZ(hh:g.h=g'.h)(hx:AO C t t' op.operands.toList):(aL C op).run t g=(aL C op).run t' g':=by
 have one:∀{x:Operand} {F:AV->Looks},x∈op.operands.toList ->
   (match aN C x with|some a=>(⟨λt _=>F (a.run t)⟩:Stg (T->G->Looks))|none=>⟨λ_ _=>cA⟩).run t g =
   (match aN C x with|some a=>(⟨λt _=>F (a.run t)⟩:Stg (T->G->Looks))|none=>⟨λ_ _=>cA⟩).run t' g':=by
  intro x F hm;cases hs:aN C x with
  |none=>rfl
  |some s=>simp only[hx x hm s hs]
 cases op<;>first|rfl|skip
 case load ty x=>exact one (F:=λv=>ak (am v)) (by simp[Op.operands])
 case store ty x y=>exact one (F:=λv=>ak (am v)) (by simp[Op.operands])
 case slice ty x lo hi mx=>exact one (F:=λv=>ak (am v)) (by simp[Op.operands])
 case mapUpdate ty x k y=>exact one (F:=λv=>ak (am v)) (by simp[Op.operands])
 case insert ty x k y=>exact one (F:=λv=>ak (am v)) (by simp[Op.operands])
 case entryStore ty x k y=>exact one (F:=λv=>ak (am v)) (by simp[Op.operands])
 case mapEntry ty x k=>exact one (F:=λv=>⟨am v,[],(am v).map (·,ty),false⟩) (by simp[Op.operands])
 case lookup ty x k ok =>
  cases ok
  ·exact one (F:=λv=>⟨[],(am v).map (·,ty),[],false⟩) (by simp[Op.operands])
  ·exact one (F:=λv=>ak (am v)) (by simp[Op.operands])
 case indexAddr ty x ix =>
  simp only[aL]
  split
  ·rename_i e s hu hs;simp only[hx x (by simp[Op.operands]) s hs]
  ·rfl
 case call c =>
  obtain⟨callee,args,argTypes⟩:=c;cases callee with
  | builtin b =>
   simp only[aL]
   split
   ·rename_i vs d;simp only[cD d λx hm=>hx x (by simpa [Op.operands,Call.operands] using hm)]
   ·rfl
  | value fo =>
   simp only[aL]
   split
   ·rename_i fv vs f d;simp only[cD d λx hm=>hx x (by simp[Op.operands,Call.operands]at hm ⊢;exact .inr hm),hx fo (by simp[Op.operands,Call.operands]) _ f,hh]
   ·rfl
  |invoke r m=>rfl
end
section
variable {C:Cfg}{A:Nat->Nat->Prop}{bd:Nat}{w w':World}{γ γ':Gm}{hg:Nat->AObj}{nx:Nat}
variable {t:T}{g:G}{ih:IH}
theorem TR.put{nt:Nat}{a:Act}{dst:Option Tmp}{out:Stg (T->AV->T)}{x:AV}{v:Value}(ho:oT nt dst=some out)(ht:TR w γ A bd nt t a.tmps)(hv:RV w γ A bd x v) :
  TR w γ A bd nt (out.run t x) (a.put dst v).tmps:=by
 cases dst with
 |none=>simp[oT]at ho;subst ho;exact ht
 | some d =>
  simp only[oT,aa]at ho
  split at ho
  ·rename_i hd;rw[Rn]at hd;injection ho with ho;subst ho;refine⟨by simp[Act.put,ht.1],λs=>?_⟩;rw[sp_get]
   by_cases hs:s=d
   ·subst hs;rw[QA rfl];have:s<a.tmps.size:=by rw[ht.1];exact hd
    simpa [Act.put,Array.getD,this] using hv
   ·rw[Qw hs];have:=ht.2 s;simp only[Act.put,Re]at this ⊢;rw[R3 (RJ hs)];exact this
  ·cases ho
theorem kP{ops:Array Oper}{o:Oper}{q:Stg (T->Option Bool)}{bv:Bool}(hq:hZ ops.toList o.guard=some q)(ht:TR w γ A bd nt t tmps)
  (h:q.run t=some bv):Region.wanted o (yielded ops tmps)=bv:=by
 unfold Region.wanted;cases hg:o.guard with
 | none =>
  rw[hg]at hq;simp[hZ]at hq;subst hq;injection h with h
 | some p =>
  obtain⟨j,want⟩:=p;rw[hg]at hq;simp only[hZ]at hq
  split at hq
  ·rename_i oj c
   split at hq
   ·rename_i d hd;injection hq with hq;subst hq;have a:ops[j]?=some oj:=by simpa using c
    dsimp only at h;rw[gp_run]at h;have k:=ht.2 d;simp only[yielded,a,R9,hd];generalize t.get AV.undef d=y at h k
    split at h
    ·rename_i b;injection h with h;subst h;have hb:tmps[d]?=some (.bool b):=by
      cases hrv':tmps[d]? with
      |none=>simp[Re,hrv',undef]at k;cases k
      | some v =>
       simp only[Re,hrv',QC]at k;cases k;rfl
     simp only[hb];cases want<;>cases b<;>rfl
    ·injection h with h;subst h;cases hrv':tmps[d]? with
     |none=>rfl
     | some v =>
      simp only[Re,hrv',QC]at k;cases k;rfl
    ·cases h
   ·cases hq
  ·cases hq
theorem BL{all:List Oper}{gd:Option (Nat×Bool)}{q:Stg (T->Option Bool)}{t:T}(hq:hZ all gd=some q)
  (h:∀j b oj d,gd=some (j,b)->all[j]?=some oj->oj.dst=some d->t.get AV.undef d=t'.get AV.undef d):q.run t=q.run t':=by
 cases gd with
 |none=>simp[hZ]at hq;subst hq;rfl
 | some p =>
  obtain⟨j,want⟩:=p;simp only[hZ]at hq
  split at hq
  ·rename_i oj k
   split at hq
   ·rename_i d hd;injection hq with hq;subst hq;dsimp only;rw[gp_run,gp_run,h j want oj d rfl k hd]
   ·cases hq
  ·cases hq
variable {b:Frame}{a:Act}{ops:Array Oper}{i:Nat}{rest:List Nat}{k:List Item}{cs:List Frame}{o:Oper}
theorem CC{d:Deferred}(ho:ops[i]?=some o)(hw:Region.wanted o (yielded ops a.tmps)=true)(hro:b.roundOf=none)
  (hrun:(execOp a.eval o).run P w=.ok (.defer d) w) :
  step P (lone (b.atR a (.inRegion ops (i::rest)::k)) cs w)=.next (lone (b.atR ({ a with defers:=d::a.defers }.put o.dst undef) (.inRegion ops rest::k)) cs w):=by
 have h:=Frame.finish_atR b { a with defers:=d::a.defers } ops i rest k undef;rw[ho]at h;simp only[R9]at h;refine step_lone_go ?_;rw[stepGR_op ho hw,hro,Oper.semAt_none,<-h];simp[stepG.apply,hrun,Frame.atR]
theorem rW(ho:ops[i]?=some o)(hw:Region.wanted o (yielded ops a.tmps)=false) :
  step P (lone (b.atR a (.inRegion ops (i::rest)::k)) cs w)=.next (lone (b.atR (a.put o.dst undef) (.inRegion ops rest::k)) cs w):=by
 have:=stepR_op_skip (P:=P) (b:=b) (a:=a) (k:=k) (cs:=cs) (w:=w) (ops:=ops) (i:=i) (rest:=rest) (by rw[ho];simpa using hw);rw[ho]at this;simpa using this
theorem Gx(hr:Rel C A bd w γ hg nx)(ht:TR w γ A bd nt t a.tmps)(hrd:RdOk γ rd b)(hdf:DR w γ A bd df a.defers)
  {x:ADf} (h:(b_ C o.op).run ih d rd t g=.dfr x) (hE:∀f e d args g y,C.ext f=some e->e d args g≠.dfr y) (ho:ops[i]?=some o) (hw:Region.wanted o (yielded ops a.tmps)=true) :
  ∃dd,DR w γ A bd (x::df) (dd::a.defers) /\
   step C.P (lone (b.atR a (.inRegion ops (i::rest)::k)) cs w)=.next (lone (b.atR ({ a with defers:=dd::a.defers }.put o.dst undef) (.inRegion ops rest::k)) cs w):=by
 have iso:∀f args,ah ih d g f args≠.dfr x:=by
  intro f args;unfold ah
  repeat' (first|split|rw[aa])
  all_goals (intro h;cases h)
 have orf:∀r,orF r≠.dfr x:=by intro r h;cases r<;>cases h
 have rnd:∀id args,cQ ih d id args g≠.dfr x:=by
  intro id args;unfold cQ
  repeat' split
  all_goals (intro h;cases h)
 unfold b_ at h
 split at h
 rotate_left
 ·cases h
 rename_i f c;generalize hop:o.op=op at c;unfold cOp at c
 split at c
 ·rename_i fx args at2
  split at c
  ·split at c
   ·rename_i e he;injection c with c;subst c;exact absurd h (hE _ _ _ _ _ _ he)
   ·rw[aa]at c
    split at c
    ·injection c with c;subst c;exact absurd h (iso _ _)
    ·injection c with c;subst c;exact absurd h (orf _)
  ·cases c
 ·rename_i fo args at2 m
  split at c
  ·rename_i fv vs j l;injection c with c;subst c;dsimp only at h;unfold lj at h
   split at h
   ·split at h
    ·rename_i e he;exact absurd h (hE _ _ _ _ _ _ he)
    ·rw[aa]at h
     split at h
     ·exact absurd h (iso _ _)
     ·exact absurd h (orf _)
   ·exact absurd h (rnd _ _)
   ·cases h
  ·cases c
 ·injection c with c;subst c;cases h
 ·rename_i fo args at2
  split at c
  ·rename_i fv vs j l;injection c with c;subst c;dsimp only at h;cases rd with
   |some _=>cases h
   | none =>
    dsimp only at h;have hf:=ax j ht hr;have n:=ge ht hr l;generalize hfo:a.eval fo=vfo at hf;generalize fv.run t=y at h hf;cases hf with
    | clo _ fx xs ys vs1 us1 hl hl2 h1 h2 =>
     dsimp only at h;injection h with h;subst h;refine⟨{ target:=.fn (.func fx) us1,args:=vs1++args.map a.eval },⟨⟨fx,ys,us1,rfl,rfl,Pb hl2 h2,?_⟩,hdf⟩,CC ho hw hrd ?_⟩
     ·have:=(Pb hl h1).append n;simpa using this
     ·simp only[execOp,hop,resolve,hfo,Deferred.ofValue,QF,Q3,QB]
    |_=>cases h
  ·cases c
 ·split at c
  ·rename_i s hs;injection c with c;subst c;have:=wx (t:=t) (g:=g) hs;have h:s.run t g=.dfr x:=h;rw[h]at this;exact this.elim
  ·cases c
theorem Jg(hC:CfgOk C)(hi:IHOk C ih):∀(l:List Oper) (i:Nat) {t:T} {df:List ADf} {g:G} {e:Ex} {t':T} {df':List ADf} {g':G},
  ops.toList.drop i=l->(iV C nt ops.toList l).run ih (bd+1) rd t df g=.ok e t' df' g'->WF g ->
  ∀{w γ hg nx a},Rel C A bd w γ hg nx->Ext g.h hg->Free γ g g'->TR w γ A bd nt t a.tmps->DR w γ A bd df a.defers->RdOk γ rd b->nO b.kind cs ->
   e=.norm/\∃a' w' γ' hg',Fin C A bd w γ hg nx g w' γ' hg' g'/\TR w' γ' A bd nt t' a'.tmps/\DR w' γ' A bd df' a'.defers /\
    Steps C.P (lone (b.atR a (.inRegion ops (List.range' i l.length)::k)) cs w) (lone (b.atR a' k) cs w'):=by
 intro l
 induction l with
 | nil =>
  intro i t df g e t' df' g' _ h _ w γ hg nx a hr hx hf ht n v c;simp only[iV]at h;injection h with h1 h2 M h4;subst h1;subst h2;subst M;subst h4;exact⟨rfl,a,w,γ,hg,Fin.refl hr,ht,n,.one stepR_region_end⟩
 | cons o rest ihl =>
  intro i t df g e t' df' g' p h z w γ hg nx a hr hx hf ht n v c;have ho:ops[i]?=some o:=by
   have:(ops.toList.drop i)[0]?=some o:=by rw[p];rfl
   simpa [Q5] using this
  have m:ops.toList.drop (i+1)=rest:=by rw[<-RI,p];rfl
  have B:List.range' i (o::rest).length=i::List.range' (i+1) rest.length:=by simp[Ti]
  rw[B];have exec:∀{out:Stg (T->AV->T)},oT nt o.dst=some out->Region.wanted o (yielded ops a.tmps)=true ->
    nM out.run ((iV C nt ops.toList rest).run ih (bd+1) rd) t df g ((b_ C o.op).run ih (bd+1) rd t g)=.ok e t' df' g' ->
    e=.norm/\∃a' w' γ' hg',Fin C A bd w γ hg nx g w' γ' hg' g'/\TR w' γ' A bd nt t' a'.tmps/\DR w' γ' A bd df' a'.defers /\
     Steps C.P (lone (b.atR a (.inRegion ops (i::List.range' (i+1) rest.length)::k)) cs w) (lone (b.atR a' k) cs w'):=by
   intro out j hw h;have hm:=h_ (op:=o.op) (d:=bd+1) (rd:=rd) (t:=t) hC.mon hi.mon z;generalize hres:(b_ C o.op).run ih (bd+1) rd t g=r at h hm;have go:∀{x:AV} {g1:G},r≠.fail->(∀y,r≠.dfr y)->vOf r=x->gOf g r=g1->(iV C nt ops.toList rest).run ih (bd+1) rd (out.run t x) df g1=.ok e t' df' g' ->
     e=.norm/\∃a' w' γ' hg',Fin C A bd w γ hg nx g w' γ' hg' g'/\TR w' γ' A bd nt t' a'.tmps/\DR w' γ' A bd df' a'.defers /\
     Steps C.P (lone (b.atR a (.inRegion ops (i::List.range' (i+1) rest.length)::k)) cs w) (lone (b.atR a' k) cs w'):=by
    intro x g1 J I K H h;subst K;subst H;have w1:=hm.wf z;have L:=yw hC.mon hi.mon h w1;obtain⟨u,wa,γa,N,f1,rv,st⟩:=Ck (b:=b) (cs:=cs) (rest:=List.range' (i+1) rest.length) (k:=k) hC hi hr z ht c hx.agr hres J I (hf.le L.nx) ho hw;obtain⟨he,a',wb,γb,s,f2,tr,dr,st2⟩:=ihl (i+1) m h w1 (a:=a.put o.dst u) f1.rel (f1.ext hm hx) (f1.freed hr hm hf) ((ht.step f1.stp).put j rv)
     (by have:=n.step f1.stp;cases hd:o.dst<;>simpa [Act.put,hd] using this) (v.step f1.stp) c
    exact⟨he,a',wb,γb,s,f1.trans f2 hm L,tr,dr,Steps.trans st st2⟩
   cases r with
   |fail=>cases h
   |val x=>exact go (by simp) (by simp) rfl rfl h
   |upd x g1=>exact go (by simp) (by simp) rfl rfl h
   | dfr x =>
    obtain⟨dd,F,st⟩:=Gx (b:=b) (cs:=cs) (rest:=List.range' (i+1) rest.length) (k:=k) hr ht v n hres (λf e d args g y he hy=>by
     exact extNoDfr hC he hy) ho hw
    obtain⟨he,a',wb,γb,s,f2,tr,dr,st2⟩:=ihl (i+1) m h z (a:={ a with defers:=dd::a.defers }.put o.dst undef) hr hx hf
     (ht.put (a:={ a with defers:=dd::a.defers }) j cz)
     (by cases hd:o.dst<;>simpa [Act.put,hd] using F) v c
    exact⟨he,a',wb,γb,s,f2,tr,dr,.head st st2⟩
  simp only[iV]at h
  split at h
  ·rename_i out j
   split at h
   ·rename_i D;refine exec j ?_ h;simp[Region.wanted,D]
   ·rename_i gd D
    split at h
    ·rename_i q hq;rw[<-D]at hq;dsimp only at h
     split at h
     ·rename_i E;exact exec j (kP hq ht E) h
     ·rename_i E;have hw:=kP hq ht E;obtain⟨he,a',wb,γb,s,f2,tr,dr,st2⟩:=ihl (i+1) m h z (a:=a.put o.dst undef) hr hx hf
       (ht.put j cz) (by cases hd:o.dst<;>simpa [Act.put,hd] using n) v c
      exact⟨he,a',wb,γb,s,f2,tr,dr,.head (rW ho hw) st2⟩
     ·cases h
    ·cases h
  ·cases h where
 extNoDfr {f d:Nat} {e:Nat->List AV->G->OR} {args:List AV} {g:G} {y:ADf} (hC:CfgOk C) (he:C.ext f=some e) (hy:e d args g=.dfr y):False:=by exact (hC.noDfr f e he d args g y) hy
end
section
variable {z:AV}
theorem tb{d:TypeDesc}{x y:AV}(hx:nE d x=true)(hy:nE d y=true):∃b,pf x y=some b:=by
 cases d<;>cases x<;>simp[nE]at hx<;>cases y<;>simp[nE]at hy
 ·exact⟨_,rfl⟩
 ·rename_i h k n1 k2 n2;rw[kT]at hx hy;simp only[QQ]at hx hy;subst hx;subst hy;exact⟨_,by simp[pf,kT];rfl⟩
 ·exact⟨_,rfl⟩
theorem xf:∀{ds:List TypeDesc} {xs ys:List AV},dQ ds xs=true->dQ ds ys=true->∃b,eC xs ys=some b:=by
 intro ds
 induction ds with
 |nil=>intro xs ys hx h;cases xs<;>simp[dQ]at hx;cases ys<;>simp[dQ]at h;exact⟨_,rfl⟩
 | cons d ds ih =>
  intro xs ys hx h;cases xs<;>simp[dQ,aa]at hx;cases ys<;>simp[dQ,aa]at h;obtain⟨b1,h1⟩:=tb hx.1 h.1;obtain⟨b2,h2⟩:=ih hx.2 h.2;exact⟨_,by simp only[eC,h1,h2];rfl⟩
theorem Ki{kk:KeyKind}{x y:AV}(hx:mQ kk x=true)(hy:mQ kk y=true):∃b,oR x y=some b:=by
 cases kk with
 | one d =>
  simp only[mQ]at hx hy;obtain⟨b,hb⟩:=tb hx hy;cases x<;>first| (cases d<;>simp[nE]at hx;done)|skip
  all_goals
   cases y<;>first| (cases d<;>simp[nE]at hy;done)| (exact⟨b,by simpa [oR] using hb⟩)|skip
 | flat ds =>
  cases x<;>simp[mQ]at hx;cases y<;>simp[mQ]at hy;obtain⟨b,hb⟩:=xf hx hy;exact⟨b,by simpa [oR] using hb⟩
 |other=>cases x<;>simp[mQ]at hx
theorem E_{k k0:AV}:∀{es:List (AV×AV)} {r:Option AV},mM k es=some r->(∃b,oR k k0=some b) ->
  mM k (es++[(k0,z)])=some (match r with|some v=>some v|none=>if oR k k0=some true then some z else none):=by
 intro es
 induction es with
 | nil =>
  intro r h hk;simp only[mM]at h;injection h with h;subst h;obtain⟨b,hb⟩:=hk;cases b<;>simp[mM,hb]
 | cons e es ih =>
  intro r h hk;obtain⟨k',v'⟩:=e;simp only[mM]at h;simp only[QI,mM]
  split at h
  ·injection h with h;subst h;rfl
  ·exact ih h hk
  ·cases h
theorem DO{kk:KeyKind}{m k:T->AV}{id:Nat}{es:List (AV×AV)}{k0:AV}(h:di kk z false m k t g=.val v)(hm:m t=.hmap id)
  (hg:g.h.get id=.map es) (hg':g'.h.get id=.map (es++[(k0,z)])) (hk0:mQ kk k0=true):di kk z false m k t g'=.val v:=by
 unfold di at h ⊢;rw[aa]at h ⊢
 split at h
 ·rename_i hk;rw[QA hk];simp only[hm,G.get_eq,hg,hg']at h ⊢;cases hf:mM (k t) es with
  |none=>rw[hf]at h;cases h
  | some r =>
   rw[E_ hf (Ki hk hk0)];rw[hf]at h;cases r with
   |some v'=>exact h
   | none =>
    dsimp only at h ⊢
    by_cases hq:oR (k t) k0=some true
    ·rw[QA hq];exact h
    ·rw[Qw hq];exact h
 ·cases h
theorem OK{op:Op}(h:((aL C op).run t g).sr≠[]):∃ty x k a,op=.lookup ty x k false/\aN C x=some a /\
  (aL C op).run t g=⟨[],(am (a.run t)).map (·,ty),[],false⟩:=by
 cases op<;>simp only[aL]at h ⊢<;>try (exact absurd rfl h)
 case lookup ty x k ok =>
  cases ok
  ·dsimp only at h ⊢
   split at h
   ·rename_i a ha;exact⟨ty,x,k,a,rfl,ha,by simp[ha]⟩
   ·exact absurd rfl h
  ·dsimp only at h
   split at h<;>exact absurd rfl h
 case call c =>
  obtain⟨callee,args,at'⟩:=c;cases callee<;>simp only at h
  ·split at h
   ·dsimp only at h
    split at h
    ·rw[aa]at h;split at h<;>exact absurd rfl h
    ·exact absurd rfl h
   ·exact absurd rfl h
  ·exact absurd rfl h
  ·split at h<;>exact absurd rfl h
 all_goals (split at h<;>exact absurd rfl h)
theorem MN{op:Op}{p:Nat×Nat}(h:p∈((aL C op).run t g).soft):∃x k a,op=.mapEntry p.2 x k/\aN C x=some a/\p.1∈am (a.run t):=by
 cases op<;>simp only[aL]at h<;>try (exact absurd h QG)
 case mapEntry ty x k =>
  split at h
  ·rename_i a ha;dsimp only at h;obtain⟨id,h1,h2⟩:=Ri.1 h;subst h2;exact⟨x,k,a,rfl,ha,h1⟩
  ·exact absurd h QG
 case lookup ty x k ok =>
  cases ok<;>dsimp only at h<;>split at h<;>exact absurd h QG
 case call c =>
  obtain⟨callee,args,at'⟩:=c;cases callee<;>simp only at h
  ·split at h
   ·dsimp only at h
    split at h
    ·rw[aa]at h;split at h<;>exact absurd h QG
    ·exact absurd h QG
   ·exact absurd h QG
  ·exact absurd h QG
  ·split at h<;>exact absurd h QG
 all_goals (split at h<;>exact absurd h QG)
theorem C1{ih:IH}{ty:TypeId}{x k:Operand}{ok:Bool}{r:OR}(h:(b_ C (.lookup ty x k ok)).run ih d rd t g=r)(hne:r≠.fail) :
  ∃a kk kt et z,aN C x=some a/\aN C k=some kk/\C.P.underlying ty=some (.map kt et)/\wU C.P et=some z /\
   (∀t g,(b_ C (.lookup ty x k ok)).run ih d rd t g=di (fE C.P kt) z ok a.run kk.run t g)/\r=di (fE C.P kt) z ok a.run kk.run t g:=by
 unfold b_ at h ⊢;simp only[cOp,cd]at h ⊢
 split at h
 ·rename_i f hf
  split at hf
  ·rename_i s hs;injection hf with hf;subst hf
   split at hs
   ·rename_i a kk kt et ha hk hu
    split at hs
    ·rename_i z hz;injection hs with hs;subst hs;refine⟨a,kk,kt,et,z,ha,hk,hu,hz,λt g=>?_,h.symm⟩;simp only[ha]
    ·cases hs
   ·cases hs
  ·cases hf
 ·exact absurd h.symm hne
theorem Ad{ih:IH}{ty:TypeId}{x k:Operand}{r:OR}(h:(b_ C (.mapEntry ty x k)).run ih d rd t g=r)(hne:r≠.fail) :
  ∃a kk kt et z,aN C x=some a/\aN C k=some kk/\C.P.underlying ty=some (.map kt et)/\wU C.P et=some z/\r=fF (fE C.P kt) z a.run kk.run t g:=by
 unfold b_ at h;simp only[cOp,cd]at h
 split at h
 ·rename_i f hf
  split at hf
  ·rename_i s hs;injection hf with hf;subst hf
   split at hs
   ·rename_i a kk kt et ha hk hu
    split at hs
    ·rename_i z hz;injection hs with hs;subst hs;exact⟨a,kk,kt,et,z,ha,hk,hu,hz,h.symm⟩
    ·cases hs
   ·cases hs
  ·cases hf
 ·exact absurd h.symm hne
theorem Cd{kk:KeyKind}{m k:T->AV}(h:fF kk z m k t g=.upd v g') :
  ∃id es,m t=.hmap id/\g.h.get id=.map es/\g'=g.put id (.map (es++[(k t,z)]))/\mQ kk (k t)=true:=by
 unfold fF at h;rw[aa]at h
 split at h
 ·rename_i hk
  split at h
  ·rename_i id hm
   split at h
   ·rename_i es a
    split at h
    ·cases h
    ·injection h with h1 h2;subst h2;exact⟨id,es,hm,by simpa using a,rfl,hk⟩
    ·cases h
   ·cases h
  ·cases h
 ·cases h
theorem Cy{x:Foot}:∀{l:List Foot} {j0 j:Nat} {y:Foot},l[j]?=some y->(pm.getD (j0+j) 0).testBit i=false->meets y.wr (fst1 x.lk.sr)=true ->
  1<=eh pm i x j0 l:=by
 intro l
 induction l with
 |nil=>intro j0 j y h;simp at h
 | cons a l ih =>
  intro j0 j y h h1 h2;cases j with
  | zero =>
   simp at h;subst h;simp only[eh,aa];rw[Qw]
   ·omega
   ·simp only[R7]at h1;rw[h1,h2];simp
  | succ j =>
   have:=ih (j0:=Nat.succ j0) (by simpa using h) (by rw[show Nat.succ j0+j=j0+(j+1) by omega];exact h1) h2;simp only[eh,aa]
   split<;>omega
theorem AL{x:Foot}:∀{l:List Foot} {j0 j j':Nat} {y y':Foot},j<j'->l[j]?=some y->l[j']?=some y'->(pm.getD (j0+j) 0).testBit i=false->(pm.getD (j0+j') 0).testBit i=false ->
  meets y.wr (fst1 x.lk.sr)=true->meets y'.wr (fst1 x.lk.sr)=true->2<=eh pm i x j0 l:=by
 intro l
 induction l with
 |nil=>intro j0 j j' y y' _ h;simp at h
 | cons a l ih =>
  intro j0 j j' y y' hlt h h' h1 k h2 b;cases j' with
  |zero=>omega
  | succ j' =>
   cases j with
   | zero =>
    simp at h;subst h;have:=Cy (pm:=pm) (i:=i) (x:=x) (j0:=Nat.succ j0) (j:=j') (by simpa using h') (by rw[show Nat.succ j0+j'=j0+(j'+1) by omega];exact k) b;simp only[eh,aa];rw[Qw]
    ·omega
    ·simp only[R7]at h1;rw[h1,h2];simp
   | succ j =>
    have:=ih (j0:=Nat.succ j0) (j:=j) (j':=j') (by omega) (by simpa using h) (by simpa using h') (by rw[show Nat.succ j0+j=j0+(j+1) by omega];exact h1) (by rw[show Nat.succ j0+j'=j0+(j'+1) by omega];exact k) h2 b;simp only[eh,aa]
    split<;>omega
theorem Gg{b x:Bool}(h:ap b x false=true):b=true/\x=true:=by
 cases b
 ·cases h
 ·exact⟨rfl,h⟩
theorem Cz:∀{l:List Foot} {i0:Nat},rV pm i0 l=true->∀(i j j':Nat) x y y',i<j->j<j'->l[i]?=some x->l[j]?=some y->l[j']?=some y'->x.lk.sr≠[] ->
  (pm.getD (i0+j) 0).testBit (i0+i)=false->(pm.getD (i0+j') 0).testBit (i0+i)=false->meets y.wr (fst1 x.lk.sr)=true->meets y'.wr (fst1 x.lk.sr)=true->False:=by
 intro l
 induction l with
 |nil=>intro i0 _ i j j' x y y' _ _ h;simp at h
 | cons a l ih =>
  intro i0 h i j j' x y y' m n hx f d c h1 k h2 b;obtain⟨hc,h⟩:=Gg h;cases j' with
  |zero=>omega
  | succ j' =>
   cases j with
   |zero=>omega
   | succ j =>
    cases i with
    | zero =>
     simp at hx;subst hx;have e:Nat.ble (eh pm i0 a (Nat.succ i0) l) 1=true:=by
      cases hsr':a.lk.sr with
      |nil=>exact absurd hsr' c
      |cons p r=>rw[hsr']at hc;exact hc
     rw[Q6]at e;have:=AL (pm:=pm) (i:=i0) (x:=a) (j0:=Nat.succ i0) (j:=j) (j':=j') (by omega) (by simpa using f) (by simpa using d)
      (by rw[show Nat.succ i0+j=i0+(j+1) by omega];exact h1) (by rw[show Nat.succ i0+j'=i0+(j'+1) by omega];exact k) h2 b
     omega
    | succ i =>
     refine ih h i j j' x y y' (by omega) (by omega) (by simpa using hx) (by simpa using f) (by simpa using d) c ?_ ?_ h2 b
     ·rw[show Nat.succ i0+j=i0+(j+1) by omega,show Nat.succ i0+i=i0+(i+1) by omega];exact h1
     ·rw[show Nat.succ i0+j'=i0+(j'+1) by omega,show Nat.succ i0+i=i0+(i+1) by omega];exact k
theorem eg{a b:List Nat}(ha:x∈a)(hb:x∈b):meets a b=true:=by unfold meets;exact List.any_eq_true.2 ⟨x,ha,by simpa using hb⟩
theorem oO{l:List (Nat×Nat)}(h:x∈l.map (·.1)):x∈fst1 l:=h
theorem Fz{p:Nat×Nat}:∀{l:List (Nat×Nat)},Co p l=true->p∈l:=by
 intro l
 induction l with
 |nil=>intro h;cases h
 | cons q l ih =>
  intro h;simp only[Co,aa]at h
  split at h
  ·rename_i hc;simp only[Qy]at hc;have h1:=ay hc.1;have h2:=ay hc.2;exact Q8.2 (.inl (Prod.ext h1 h2))
  ·exact Rj _ (ih h)
end
section
variable {j:Nat}
def TraAt(C:Cfg)(ih:IH)(d:Nat)(rd:Option Nat)(nt:Nat)(ops:Array Oper)(q:Bool)(o:Oper)(t t':T)(g g':G)(f:Foot):Prop :=
 ∃out gd,oT nt o.dst=some out/\hZ ops.toList o.guard=some gd /\
  ((gd.run t=some false/\t'=out.run t .undef/\g'=g/\f.wr=[]) \/
   (gd.run t=some true/\∃r,(b_ C o.op).run ih d rd t (aK g [])=r/\r≠.fail/\(∀a,r≠.dfr a)/\t'=out.run t (vOf r)/\g'.h=(gOf (aK g []) r).h /\
    f.wr=(gOf (aK g []) r).lg/\(gOf (aK g []) r).nx<=g'.nx/\(q=false->f.lk=(aL C o.op).run t g/\(gOf (aK g []) r).nx<g'.nx)))
def ib(ops:Array Oper)(i:Nat):Option Tmp:=(ops[i]?).bind (·.dst)
structure Reg (C:Cfg) (ih:IH) (bd:Nat) (rd:Option Nat) (nt:Nat) (ops:Array Oper) (q:Bool) (T':Nat->T) (G':Nat->G) (F':Nat->Foot) (hg0:Nat->AObj):Prop where
 hC:CfgOk C
 hi:IHOk C ih
 tra:∀i o,ops[i]?=some o->TraAt C ih (bd+1) rd nt ops q o (T' i) (T' (i+1)) (G' i) (G' (i+1)) (F' i)
 wf0:WF (G' 0)
 ext0:Ext (G' 0).h hg0
 free0:∀id,(G' 0).nx<=id->id<=(G' ops.size).nx->hg0 id=.none
 apart:∀i j,i<j->j<ops.size->((bi ops.toList []).getD j 0).testBit i=true\/bM (F' i) (F' j)=true
 once:∀i j j',i<j->j<j'->j'<ops.size->(F' i).lk.sr≠[]->((bi ops.toList []).getD j 0).testBit i=false->((bi ops.toList []).getD j' 0).testBit i=false ->
  meets (F' j).wr (fst1 (F' i).lk.sr)=true->meets (F' j').wr (fst1 (F' i).lk.sr)=true->False
 slots:∀i j oi oj,i<j->ops[i]?=some oi->ops[j]?=some oj->((bi ops.toList []).getD j 0).testBit i=true\/jg ops.toList oi oj=true
 guards:∀i o j b,ops[i]?=some o->o.guard=some (j,b)->((bi ops.toList []).getD i 0).testBit j=true
 quiet:q=true->∀i,i<ops.size->(F' i).wr=[]
section
variable {C:Cfg}{A:Nat->Nat->Prop}{bd:Nat}{ih:IH}{rd:Option Nat}{nt:Nat}{ops:Array Oper}{q:Bool}{T':Nat->T}{G':Nat->G}{F':Nat->Foot}{hg0:Nat->AObj}
theorem TraAt.facts(hC:CfgOk C)(hi:IHOk C ih){o:Oper}{f:Foot}(h:TraAt C ih d rd nt ops q o t t' g g' f)(hwf:WF g) :
  WF g'/\g.nx<=g'.nx/\(∀id,id ∉ f.wr->g'.h.get id=g.h.get id)/\∀id∈f.wr,id<g'.nx/\(g.h.get id=.none->g.nx<=id):=by
 obtain⟨out,gd,_,_,h⟩:=h;rcases h with⟨_,_,rfl,hw⟩|⟨_,r,hr,l,_,_,j,hw,i,_⟩
 ·rw[hw];exact⟨hwf,Qv _,λ_ _=>rfl,λ_ h=>absurd h QG⟩
 ·have hm:Mon (aK g []) (gOf (aK g []) r):=by rw[<-hr];exact h_ hC.mon hi.mon hwf.setLog
  obtain⟨n,a,b,c⟩:=hm.new;have e:(gOf (aK g []) r).lg=n:=by simpa using a
  have k:g.nx<=(gOf (aK g []) r).nx:=by have:=hm.nx;simpa using this
  refine⟨λid hid=>?_,QW k i,λid hid=>?_,λid hid=>?_⟩
  ·rw[j];exact hm.wf hwf.setLog id (by omega)
  ·rw[j,b id (by rw[<-e,<-hw];exact hid)];simp
  ·have:=c id (by rw[<-e,<-hw];exact hid);simp only[setLog_h,setLog_nx]at this;exact⟨by omega,this.2⟩
theorem Reg.facts(R:Reg C ih bd rd nt ops q T' G' F' hg0):∀i,i<=ops.size->WF (G' i):=by
 intro i
 induction i with
 |zero=>intro _;exact R.wf0
 | succ i ih' =>
  intro h;have ho:ops[i]?=some ops[i]:=QH (by omega);exact (TraAt.facts R.hC R.hi (R.tra i _ ho) (ih' (by omega))).1
theorem Reg.at(R:Reg C ih bd rd nt ops q T' G' F' hg0){i:Nat}(h:i<ops.size) :
  (G' i).nx<=(G' (i+1)).nx/\(∀id,id ∉ (F' i).wr->(G' (i+1)).h.get id=(G' i).h.get id)/\∀id∈(F' i).wr,id<(G' (i+1)).nx/\((G' i).h.get id=.none->(G' i).nx<=id):=by
 have ho:ops[i]?=some ops[i]:=QH h;exact (TraAt.facts R.hC R.hi (R.tra i _ ho) (R.facts i (by omega))).2
theorem Reg.nx_mono(R:Reg C ih bd rd nt ops q T' G' F' hg0){i:Nat}(h:i<=j)(hj:j<=ops.size):(G' i).nx<=(G' j).nx:=by
 induction j with
 | zero=>have:i=0:=by omega
         subst this;exact Qv _
 | succ j ih' =>
  by_cases hij:i=j+1
  ·subst hij;exact Qv _
  ·exact QW (ih' (by omega) (by omega)) (R.at (by omega)).1
theorem Reg.keepT(R:Reg C ih bd rd nt ops q T' G' F' hg0)(hj:j<ops.size){s:Nat}(h:ib ops j≠some s):(T' (j+1)).get AV.undef s=(T' j).get AV.undef s:=by
 have ho:ops[j]?=some ops[j]:=QH hj;obtain⟨out,gd,k,_,h'⟩:=R.tra j _ ho;have key:∀x,(out.run (T' j) x).get AV.undef s=(T' j).get AV.undef s:=by
  intro x;simp only[ib,ho,R9]at h;cases hd:ops[j].dst with
  |none=>rw[hd]at k;simp[oT]at k;subst k;rfl
  | some d =>
   rw[hd]at k h;simp only[oT,aa]at k
   split at k
   ·injection k with k;subst k;rw[sp_get,Qw];rintro rfl;exact h rfl
   ·cases k
 rcases h' with⟨_,h1,_⟩|⟨_,r,_,_,_,h1,_⟩
 ·rw[h1,key]
 ·rw[h1,key]
def Down(ops:Array Oper)(S:Nat->Prop):Prop:=∀j o,ops[j]?=some o->S j->∀e∈o.after.toList,Region.binds .any e=true->S e.on
theorem Down.mask{S:Nat->Prop}(h:Down ops S){i:Nat}(hb:((bi ops.toList []).getD j 0).testBit i=true)(hj:S j):S i :=
 zI (S:=S) (all:=ops.toList) (λj o ho=>h j o (by simpa using ho)) ops.toList [] [] rfl rfl (λj i hj=>by simp at hj) j i hb hj
theorem Mk(S:Nat->Prop):∀n,∃t:T,∀s,t.get AV.undef s=ov S (λi s=>ib ops i=some s) (λi s=>(T' i).get AV.undef s) (λs=>(T' 0).get AV.undef s) n s:=by
 intro n
 induction n with
 |zero=>exact⟨T' 0,λs=>rfl⟩
 | succ n ih' =>
  obtain⟨t,ht⟩:=ih'
  by_cases hS:S n
  ·cases hd:ib ops n with
   |none=>exact⟨t,λs=>by simp only[ov];rw[Qw (by rw[hd];simp)];exact ht s⟩
   | some d =>
    refine⟨(sp AV.undef d).run t ((T' (n+1)).get AV.undef d),λs=>?_⟩;rw[sp_get];simp only[ov]
    by_cases hs:s=d
    ·subst hs;rw[QA rfl,QA ⟨hS,hd⟩]
    ·rw[Qw hs,Qw (by rw[hd];rintro⟨_,h⟩;exact hs (by injection h with h;exact h.symm))];exact ht s
  ·exact⟨t,λs=>by simp only[ov];rw[Qw (λh=>hS h.1)];exact ht s⟩
structure Inv (C:Cfg) (A:Nat->Nat->Prop) (bd nt:Nat) (ops:Array Oper) (T':Nat->T) (G':Nat->G) (F':Nat->Foot) (hg0:Nat->AObj) (N:Nat) (w0:World) (γ0:Gm) (df0:List Deferred)
  (S:Nat->Prop) (a:Act) (w:World) (γ:Gm) (hg:Nat->AObj):Prop where
 rel:Rel C A bd w γ hg N
 stp:Stp w0 γ0 w γ
 size:a.tmps.size=nt
 slots:∀s,RV w γ A bd (ov S (λi s=>ib ops i=some s) (λi s=>(T' i).get AV.undef s) (λs=>(T' 0).get AV.undef s) ops.size s) (a.tmps.getD s undef)
 objs:∀id,hg id=ov S (λi id=>id∈(F' i).wr) (λi id=>(G' i).h.get id) hg0 ops.size id
 dfr:a.defers=df0
theorem jk{x y:Foot}(h:iz x y=true){id:Nat}(hid:id∈x.wr):y.lk.big=false/\id ∉ y.wr/\id ∉ y.lk.rd/\id ∉ y.lk.sr.map (·.1):=by
 unfold iz at h
 split at h
 ·rename_i he;rw[he]at hid;exact absurd hid QG
 ·simp only[Qy,RQ]at h;obtain⟨⟨⟨h1,h2⟩,k⟩,h4⟩:=h;refine⟨h1,λh=>?_,λh=>?_,λh=>?_⟩
  ·rw[eg hid h]at h2;cases h2
  ·rw[eg hid h]at k;cases k
  ·rw[eg hid (oO h)]at h4;cases h4
theorem rC{x y:Foot}(h:fD x y=true){id:Nat}(hid:id∈x.wr):y.lk.big=false/\id ∉ y.wr/\id ∉ y.lk.rd/\(id∈y.lk.sr.map (·.1)->∀p∈y.lk.sr,p∈x.lk.soft):=by
 unfold fD at h
 split at h
 ·rename_i he;rw[he]at hid;exact absurd hid QG
 ·simp only[Qy,RQ,Rk]at h;obtain⟨⟨⟨h1,h2⟩,k⟩,h4⟩:=h;refine⟨h1,λh=>?_,λh=>?_,λh p hp=>?_⟩
  ·rw[eg hid h]at h2;cases h2
  ·rw[eg hid h]at k;cases k
  ·rcases h4 with h4|h4
   ·rw[eg hid (oO h)]at h4;cases h4
   ·exact Fz (QS.1 h4 p hp)
theorem cS{x y:Foot}(h:bM x y=true):iz x y=true/\fD y x=true:=by unfold bM at h;simpa using h
theorem jY{all:List Oper}{x y:Oper}(h:jg all x y=true) :
  (∀d,x.dst=some d->d ∉ sN all y/\y.dst≠some d)/\(∀d,y.dst=some d->d ∉ sN all x):=by
 unfold jg at h;simp only[Qy]at h;refine⟨λd hd=>?_,λd hd=>?_⟩
 ·have:=h.1;rw[hd]at this;simp only[Qy,RQ,bne_iff_ne,ne_eq]at this;exact⟨λhm=>(by have h1:=this.1;rw[Sp.2 hm]at h1;cases h1),this.2⟩
 ·have:=h.2;rw[hd]at this;simp only[RQ]at this;intro hm;rw[Sp.2 hm]at this;cases this
variable {N:Nat}{w0:World}{γ0:Gm}{df0:List Deferred}{S:Nat->Prop}{a:Act}{w:World}{γ:Gm}{hg:Nat->AObj}
variable {b:Frame}{i:Nat}{rest:List Nat}{k:List Item}{cs:List Frame}{o:Oper}
theorem Reg.good(R:Reg C ih bd rd nt ops q T' G' F' hg0)(I:Inv C A bd nt ops T' G' F' hg0 N w0 γ0 df0 S a w γ hg)(hin:i<=ops.size){id:Nat}
  (h:∀j,j<ops.size->id∈(F' j).wr->(S j↔j<i)) (hne:(G' i).h.get id≠.none):hg id=(G' i).h.get id:=by
 rw[I.objs id];rcases Kv (S:=S) (wr:=λi id=>id∈(F' i).wr) (val:=λi id=>(G' i).h.get id) (base:=hg0) (k:=id) hin (λj hj hw=>(R.at hj).2.1 id hw) h with⟨_,h2⟩|⟨_,h2,b⟩
 ·exact h2
 ·rw[h2,b];exact R.ext0 id (by rw[<-b];exact hne)
theorem J7(R:Reg C ih bd rd nt ops q T' G' F' hg0)(I:Inv C A bd nt ops T' G' F' hg0 N w0 γ0 df0 S a w γ hg)(hN:(G' ops.size).nx<=N)
  (ho:ops[i]?=some o) (hS:¬S i) (hdown:Down ops S) (hready:∀e∈o.after.toList,Region.binds .any e=true->S e.on) (hcalm:nO b.kind cs) :
  ∃a' w' γ' hg',Inv C A bd nt ops T' G' F' hg0 N w0 γ0 df0 (λj=>S j\/j=i) a' w' γ' hg' /\
   Steps C.P (lone (b.atR a (.inRegion ops (i::rest)::k)) cs w) (lone (b.atR a' (.inRegion ops rest::k)) cs w'):=by
 have hi:i<ops.size:=(RH.1 ho).1;have hh:Down ops (λj=>S j\/j=i):=by
  intro j oj B E e he hb;rcases E with E|rfl
  ·exact .inl (hdown j oj B E e he hb)
  ·rw[ho]at B;injection B with B;subst B;exact .inl (hready e he hb)
 have ahead:∀j,j≠i->((bi ops.toList []).getD i 0).testBit j=true->S j:=by
  intro j E hb;rcases hh.mask hb (.inr rfl) with h|h
  ·exact h
  ·exact absurd h E
 have behind:∀j,S j->((bi ops.toList []).getD j 0).testBit i≠true:=λj E hb=>hS (hdown.mask hb E);have h5:ib ops i=o.dst:=by simp[ib,ho]
 have kl:∀s∈sN ops.toList o,ov S (λi s=>ib ops i=some s) (λi s=>(T' i).get AV.undef s) (λs=>(T' 0).get AV.undef s) ops.size s=(T' i).get AV.undef s:=by
  intro s hs;have h:∀j,j<ops.size->ib ops j=some s->(S j↔j<i):=by
   intro j E hd;have B:ops[j]?=some ops[j]:=QH E;have hf:ops[j].dst=some s:=by simpa [ib,B] using hd
   constructor
   ·intro p;rcases Nat.lt_trichotomy j i with h|h|h
    ·exact h
    ·subst h;exact absurd p hS
    ·rcases R.slots i j _ _ h ho B with hb|hb
     ·exact absurd hb (behind j p)
     ·exact absurd hs ((jY hb).2 s hf)
   ·intro hlt;rcases R.slots j i _ _ hlt B ho with hb|hb
    ·exact ahead j (by omega) hb
    ·exact absurd hs ((jY hb).1 s hf).1
  rcases Kv (S:=S) (wr:=λi s=>ib ops i=some s) (val:=λi s=>(T' i).get AV.undef s) (base:=λs=>(T' 0).get AV.undef s) (k:=s) (by omega:i<=ops.size) (λj E hw=>R.keepT E hw) h with⟨_,h2⟩|⟨_,h2,Y⟩
  ·exact h2
  ·rw[h2,<-Y]
 obtain⟨ts,km⟩:=Mk (ops:=ops) (T':=T') S ops.size;have h9:TR w γ A bd nt ts a.tmps:=⟨I.size,λs=>by rw[km s];exact I.slots s⟩;have kq:∀s∈sN ops.toList o,ts.get AV.undef s=(T' i).get AV.undef s:=λs hs=>by rw[km s,kl s hs]
 have L:AO C ts (T' i) o.op.operands.toList:=by intro x hx s hs;refine EV hs λn hn=>kq n ?_;subst hn;exact R6 _ (List.mem_filterMap.2 ⟨_,hx,rfl⟩)
 obtain⟨out,gd,c,kb,k9⟩:=R.tra i o ho;have kv:gd.run ts=gd.run (T' i):=by refine BL kb λj b' oj d hg' B hd=>kq d ?_;refine R1 _ ?_;simp only[hg',B,hd];simp
 have a4:∀s,ib ops i=some s->∀j,i<j->j<ops.size->S j->¬ib ops j=some s:=by
  intro s hd j X E p hf;have B:ops[j]?=some ops[j]:=QH E;rcases R.slots i j _ _ X ho B with hb|hb
  ·exact behind j p hb
  ·exact ((jY hb).1 s (h5 ▸ hd)).2 (by simpa [ib,B] using hf)
 have slots':∀{w':World} {γ':Gm} {x:AV} {v:Value},Stp w γ w' γ'->RV w' γ' A bd x v->T' (i+1)=out.run (T' i) x ->
   (a.put o.dst v).tmps.size=nt/\∀s,RV w' γ' A bd (ov (λj=>S j\/j=i) (λi s=>ib ops i=some s) (λi s=>(T' i).get AV.undef s) (λs=>(T' 0).get AV.undef s) ops.size s) ((a.put o.dst v).tmps.getD s undef):=by
  intro w' γ' x v b2 hv hT;have h1:=(h9.step b2).put c hv;refine⟨h1.1,λs=>?_⟩;have h2:=h1.2 s
  by_cases hs:ib ops i=some s
  ·rw[Ku (wr:=λi s=>ib ops i=some s) hi hs (a4 s hs),hT];rw[h5]at hs;rw[hs]at c h2 ⊢;simp only[oT,aa]at c
   split at c
   ·injection c with c;subst c;simp only[sp_get,if_true]at h2 ⊢;exact h2
   ·cases c
  ·rw[Cn (wr:=λi s=>ib ops i=some s) hs,<-km s];have:(out.run ts x).get AV.undef s=ts.get AV.undef s:=by
    cases hd:o.dst with
    |none=>rw[hd]at c;simp[oT]at c;subst c;rfl
    | some d =>
     rw[hd]at c;simp only[oT,aa]at c
     split at c
     ·injection c with c;subst c;rw[sp_get,Qw];rintro rfl;exact hs (by rw[h5,hd])
     ·cases c
   rw[this]at h2;exact h2
 rcases k9 with⟨hq,hT,hG,hW⟩|⟨hq,r,hr,hp,a2,hT,hH,hW,a6,kd⟩
 ·
  rw[<-kv]at hq;have hw:=kP kb h9 hq;obtain⟨s1,s2⟩:=slots' (Stp.refl w γ) cz hT;refine⟨_,w,γ,hg,⟨I.rel,I.stp,s1,s2,λid=>?_,?_⟩,.one (rW ho hw)⟩
  ·rw[I.objs id];exact (Cn (by rw[hW];exact QG)).symm
  ·have:=I.dfr;cases hd:o.dst<;>simpa [Act.put,hd] using this
 ·
  rw[<-kv]at hq;have hw:=kP kb h9 hq;have b3:WF (aK (G' i) []):=(R.facts i (by omega)).setLog;rw[<-ET L]at hr;have h6:Free γ (aK (G' i) []) (gOf (aK (G' i) []) r):=by
   intro id h1 h2;simp only[setLog_nx]at h1;rw[I.rel.none_iff,I.objs id,zE (m:=0) (Rf _)]
   ·exact R.free0 id (QW (R.nx_mono (Rf i) (by omega)) h1) (QW h2 (QW a6 (R.nx_mono (by omega) (Qv _))))
   ·intro j _ E p hw;cases q with
    |true=>rw[R.quiet rfl j E]at hw;exact QG hw
    | false =>
     have hlt:id<(G' (i+1)).nx:=by have:=(kd rfl).2;omega
     rcases Nat.lt_trichotomy j i with h|h|h
     ·have:=((R.at E).2.2 id hw).1;have:=R.nx_mono (show j+1<=i by omega) (by omega);omega
     ·subst h;exact hS p
     ·have kn:id∈(F' i).wr:=RK λhn=>by
       have key:∀m,i<m->m<=j->(G' m).h.get id=.none:=by
        intro m
        induction m with
        |zero=>intro h;omega
        | succ m ihm =>
         intro b6 b7
         by_cases hmi:m=i
         ·subst hmi;rw[(R.at (by omega)).2.1 id hn];exact R.facts m (by omega) id h1
         ·have:=ihm (by omega) (by omega)
          by_cases hm:id∈(F' m).wr
          ·have Y:=((R.at (i:=m) (by omega)).2.2 id hm).2 this;have h4:=R.nx_mono (show i+1<=m by omega) (by omega);omega
          ·rw[(R.at (by omega)).2.1 id hm];exact this
       have Y:=((R.at E).2.2 id hw).2 (key j h (Qv _));have h4:=R.nx_mono (show i+1<=j by omega) (by omega);omega
      rcases R.apart i j h E with hb|hb
      ·exact behind j p hb
      ·exact (jk (cS hb).1 kn).2.1 hw
  have fin:∀{gs:G} {u:Value} {w':World} {γ':Gm} {hg':Nat->AObj},Fin C A bd w γ hg N gs w' γ' hg' (gOf (aK (G' i) []) r)->gs.lg=[]->RV w' γ' A bd (vOf r) u ->
    Steps C.P (lone (b.atR a (.inRegion ops (i::rest)::k)) cs w) (lone (b.atR (a.put o.dst u) (.inRegion ops rest::k)) cs w') ->
    ∃a' w' γ' hg',Inv C A bd nt ops T' G' F' hg0 N w0 γ0 df0 (λj=>S j\/j=i) a' w' γ' hg' /\
     Steps C.P (lone (b.atR a (.inRegion ops (i::rest)::k)) cs w) (lone (b.atR a' (.inRegion ops rest::k)) cs w'):=by
   intro gs u w' γ' hg' f hk hv st;obtain⟨s1,s2⟩:=slots' f.stp hv hT;have av:(gOf (aK (G' i) []) r).nx<=N:=QW a6 (QW (R.nx_mono (by omega) (Qv _)) hN);refine⟨_,w',γ',hg',⟨?_,I.stp.trans f.stp,s1,s2,λid=>?_,?_⟩,st⟩
   ·have:=f.rel;rw[show Nat.max N (gOf (aK (G' i) []) r).nx=N from Nat.max_eq_left av]at this;exact this
   ·obtain⟨n,e1,e2,e3⟩:=f.new;have en:(F' i).wr=n:=by rw[hW,e1,hk,QN]
    by_cases t:id∈(F' i).wr
    ·rw[e2 id (en ▸ t),<-hH];refine (Ku (wr:=λi id=>id∈(F' i).wr) (val:=λi id=>(G' i).h.get id) hi t λj X E p hw=>?_).symm;rcases R.apart i j X E with hb|hb
     ·exact behind j p hb
     ·exact (jk (cS hb).1 t).2.1 hw
    ·rw[e3 id (en ▸ t),I.objs id];exact (Cn (wr:=λi id=>id∈(F' i).wr) t).symm
   ·have:=I.dfr;cases hd:o.dst<;>simpa [Act.put,hd] using this
  have O:∀id,(q=false->(F' i).lk.big=true\/id∈(F' i).lk.rd\/(id∈(F' i).lk.sr.map (·.1)/\∀j,i<j->j<ops.size->S j->id ∉ (F' j).wr)) ->
    (G' i).h.get id≠.none->hg id=(G' i).h.get id:=by
   intro id F D;refine R.good I (by omega) (λj E hw=>?_) D;cases q with
   |true=>rw[R.quiet rfl j E]at hw;exact absurd hw QG
   | false =>
    have F:=F rfl;constructor
    ·intro p;rcases Nat.lt_trichotomy j i with h|h|h
     ·exact h
     ·subst h;exact absurd p hS
     ·rcases R.apart i j h E with hb|hb
      ·exact absurd hb (behind j p)
      ·obtain⟨h1,h2,Y,h4⟩:=rC (cS hb).2 hw;rcases F with hl|hl|⟨_,hl⟩
       ·rw[h1]at hl;cases hl
       ·exact absurd hl Y
       ·exact absurd hw (hl j h E p)
    ·intro hlt;rcases R.apart j i hlt hi with hb|hb
     ·exact ahead j (by omega) hb
     ·obtain⟨h1,h2,Y,h4⟩:=jk (cS hb).1 hw;rcases F with hl|hl|⟨hl,_⟩
      ·rw[h1]at hl;cases hl
      ·exact absurd hl Y
      ·exact absurd hl h4
  have ka:(aL C o.op).run ts (aK (G' i) [])=(aL C o.op).run (T' i) (G' i):=CZ (by simp) L
  by_cases hsoft:q=false/\∃id j,id∈(F' i).lk.sr.map (·.1)/\i<j/\j<ops.size/\S j/\id∈(F' j).wr
  ·
   obtain⟨rfl,id,j,t,X,E,p,H⟩:=hsoft;have W:=(kd rfl).1;have B:ops[j]?=some ops[j]:=QH E;have k5:((bi ops.toList []).getD j 0).testBit i=false:=by have:=behind j p;simpa using this
   have ar:bM (F' i) (F' j)=true:=(R.apart i j X E).resolve_left (behind j p);obtain⟨_,_,_,h4⟩:=rC (cS ar).2 H;have h4:=h4 t;have Q:(F' i).lk.sr≠[]:=by intro h;rw[h]at t;simp at t
   rw[W]at Q;obtain⟨ty,x,kx,a0,ht,k8,ks⟩:=OK Q;rw[ht]at hr;obtain⟨a1,kk,kt,et,z,ha,b9,hu,hz,kp,K⟩:=C1 hr hp;rw[k8]at ha;injection ha with ha;subst ha;have ag:∃v,r=.val v:=by
    rw[K];have:Small (aK (G' i) []) (di (fE C.P kt) z false a0.run kk.run ts (aK (G' i) [])):=by
     unfold di;rw[aa]
     repeat' split
     all_goals trivial
    cases hrr:di (fE C.P kt) z false a0.run kk.run ts (aK (G' i) []) with
    |fail=>rw[hrr]at K;exact absurd K hp
    |val v=>exact⟨v,rfl⟩
    | upd v g' =>
     exfalso;unfold di at hrr;rw[aa]at hrr
     repeat' (split at hrr)
     all_goals cases hrr
    |dfr x=>rw[hrr]at this;exact this.elim
   obtain⟨v,hv⟩:=ag;subst hv;have ea0:a0.run ts=a0.run (T' i):=L x (by rw[ht];simp[Op.operands]) a0 k8;have J:id∈am (a0.run (T' i)):=by rw[W,ks]at t;simpa using t
   have hmap:∃es,a0.run ts=.hmap id/\(G' i).h.get id=.map es:=by
    have l:=K.symm;unfold di at l;rw[aa]at l
    split at l
    ·rw[<-ea0]at J;generalize a0.run ts=y at J l;cases y<;>simp[am]at J
     ·cases l
     ·cases l
     ·subst J;simp only[G.get_eq,setLog_h]at l
      split at l
      ·rename_i es M
       split at M
       ·rename_i es' kr;injection M with M;subst M;exact⟨_,rfl,kr⟩
       ·cases M
      ·cases l
    ·cases l
   obtain⟨es,kz,ke⟩:=hmap;have h8:(id,ty)∈(F' j).lk.soft:=h4 _ (by rw[W,ks];simpa using J);obtain⟨outj,gdj,az,b4,hc⟩:=R.tra j _ B;rcases hc with⟨_,_,_,k7⟩|⟨_,rj,a7,k3,a3,b8,al,k7,b5,ky⟩
   ·rw[k7]at H;exact absurd H QG
   rw[(ky rfl).1]at h8;obtain⟨xj,kj,aj,k4,ao,V⟩:=MN h8;dsimp only at k4 V;rw[k4]at a7;obtain⟨aj',kkj,ktj,etj,zj,U,bb,hy,k1,kf⟩:=Ad a7 k3;rw[ao]at U;injection U with U;subst U;rw[hu]at hy;injection hy with hy;injection hy with ab ad;subst ab;subst ad;rw[hz]at k1;injection k1 with k1;subst k1;cases rj with
   |fail=>exact absurd rfl k3
   |val v=>rw[k7]at H;simp[gOf]at H
   |dfr x=>exact absurd rfl (a3 x)
   | upd vj gj =>
    obtain⟨idj,esj,q1,q2,q3,q4⟩:=Cd kf.symm;rw[q1]at V;simp[am]at V;subst V;have h7:∀m,i<m->m<ops.size->S m->id∈(F' m).wr->m=j:=by
     intro m kc hm k6 T;refine RK λhmj=>?_;have hb:((bi ops.toList []).getD m 0).testBit i=false:=by simpa using behind m k6
     have a8:(F' i).lk.sr≠[]:=by rw[W];exact Q
     rcases RX m j with h|h
     ·exact R.once i m j kc h E a8 hb k5 (eg T (oO t)) (eg H (oO t))
     ·exact R.once i j m X (by omega) hm a8 k5 hb (eg H (oO t)) (eg T (oO t))
    have kn:(F' i).wr=[]:=by rw[hW];simp[gOf]
    have ki:(G' j).h.get id=(G' i).h.get id:=by
     have key:∀m,i<=m->m<=j->(G' m).h.get id=(G' i).h.get id:=by
      intro m
      induction m with
      | zero=>intro h1 _;have:i=0:=by omega
              subst this;rfl
      | succ m ihm =>
       intro h1 h2
       by_cases kc:i=m+1
       ·subst kc;rfl
       ·rw[(R.at (by omega)).2.1 id ?_]
        ·exact ihm (by omega) (by omega)
        ·intro T
         by_cases hmi:m=i
         ·subst hmi;rw[kn]at T;exact QG T
         ·rcases R.apart m j (by omega) E with hb|hb
          ·have k6:=hdown.mask hb p;exact absurd (h7 m (by omega) (by omega) k6 T) (by omega)
          ·exact (jk (cS hb).1 T).2.1 H
     exact key j (by omega) (Qv _)
    have M:esj=es:=by
     have h1:(G' j).h.get id=.map esj:=by simpa using q2
     rw[ki,ke]at h1;injection h1 with h1;exact h1.symm
    subst M;have a5:hg id=.map (esj++[(kkj.run (T' j),z)]):=by rw[I.objs id,zE (m:=j+1) (by omega) (λm h1 h2 Y h4=>by have:=h7 m (by omega) h2 Y h4;omega)];simp only[ov];rw[QA ⟨p,H⟩,al,q3];simp[gOf,O6]
    let gs:G:=⟨(G' i).h.put id (.map (esj++[(kkj.run (T' j),z)])),(G' i).nx,[]⟩
    have hk:gs.h.get id=.map (esj++[(kkj.run (T' j),z)]):=by simp[gs,O6]
    have b1:(b_ C o.op).run ih (bd+1) rd ts gs=.val v:=by rw[ht,kp];exact DO K.symm kz (by simpa using ke) hk q4
    have as:id<(G' i).nx:=Nat.lt_of_not_le λh=>by have:=R.facts i (by omega) id h;rw[ke]at this;cases this
    have ai:WF gs:=λid' h'=>by have h':(G' i).nx<=id':=h';simp only[gs,O6];rw[Qw (by omega)];exact R.facts i (by omega) id' h'
    have Z:Agr ((aL C o.op).run ts gs) gs hg:=by
     have e:(aL C o.op).run ts gs=⟨[],(am (a0.run ts)).map (·,ty),[],false⟩:=by rw[ht];simp[aL,k8]
     rw[e];simp only[Agr,kz,am];intro id' k2 _;simp at k2;subst k2;rw[a5,hk]
    obtain⟨u,w',γ',hg',f,rv,st⟩:=Ck (b:=b) (cs:=cs) (rest:=rest) (k:=k) R.hC R.hi I.rel ai h9 hcalm Z b1 hp a2 (λid' h1 h2=>h6 id' (by simpa [gs] using h1) (by simpa [gs,gOf] using h2)) ho hw;refine fin (gs:=gs) (u:=u) (w':=w') (γ':=γ') (hg':=hg') ⟨?_,f.stp,?_⟩ rfl rv st
    ·have:=f.rel;simpa [gOf,gs] using this
    ·obtain⟨n,e1,e2,e3⟩:=f.new;have:n=[]:=by simpa [gOf,gs] using e1
     subst this;exact⟨[],by simp[gOf,gs],λ_ h=>absurd h QG,e3⟩
  ·have Z:Agr ((aL C o.op).run ts (aK (G' i) [])) (aK (G' i) []) hg:=by
    cases hqq:q with
    | true =>
     refine Ext.agr λid D=>?_;simp only[setLog_h]at D ⊢;refine O id (λh=>?_) D;rw[hqq]at h;cases h
    | false =>
     rw[ka,<-(kd hqq).1];unfold Agr
     split
     ·rename_i hb;exact λid D=>by simp only[setLog_h]at D ⊢;exact O id (λ_=>.inl hb) D
     ·intro id t D;simp only[setLog_h]at D ⊢;refine O id (λ_=>.inr ?_) D;rcases Q0.1 t with h|h
      ·exact .inl h
      ·exact .inr ⟨h,λj h1 h2 Y h4=>hsoft ⟨hqq,id,j,h,h1,h2,Y,h4⟩⟩
   obtain⟨u,w',γ',hg',f,rv,st⟩:=Ck (b:=b) (cs:=cs) (rest:=rest) (k:=k) R.hC R.hi I.rel b3 h9 hcalm Z hr hp a2 h6 ho hw;exact fin f (by simp) rv st
end
end
section
variable {C:Cfg}{A:Nat->Nat->Prop}{bd:Nat}{ih:IH}{rd:Option Nat}{nt:Nat}{ops:Array Oper}{q:Bool}{T':Nat->T}{G':Nat->G}{F':Nat->Foot}{hg0:Nat->AObj}
variable {N:Nat}{w0:World}{γ0:Gm}{df0:List Deferred}{b:Frame}{k:List Item}{cs:List Frame}
theorem Lx(R:Reg C ih bd rd nt ops q T' G' F' hg0)(hN:(G' ops.size).nx<=N)(hedge:∀i o,ops[i]?=some o->∀e∈o.after.toList,Region.binds .any e=true->e.on<i)(hcalm:nO b.kind cs) :
  ∀(fuel tq:Nat) (listed:Array Bool) (S:Nat->Prop) {a:Act} {w:World} {γ:Gm} {hg:Nat->AObj},listed.size=ops.size->(∀j,S j↔listed.getD j false=true)->Down ops S ->
   cnt (λj=>!listed.getD j true) ops.size<=fuel->Inv C A bd nt ops T' G' F' hg0 N w0 γ0 df0 S a w γ hg ->
   ∃a' w' γ' hg',Inv C A bd nt ops T' G' F' hg0 N w0 γ0 df0 (λj=>j<ops.size) a' w' γ' hg' /\
    Steps C.P (lone (b.atR a (.inRegion ops (Region.linearise.go .any ops fuel tq listed [])::k)) cs w) (lone (b.atR a' (.inRegion ops []::k)) cs w'):=by
 have done:∀{listed:Array Bool} {S:Nat->Prop} {a:Act} {w:World} {γ:Gm} {hg:Nat->AObj},listed.size=ops.size->(∀j,S j↔listed.getD j false=true) ->
   (∀j,j<ops.size->listed.getD j true=true)->Inv C A bd nt ops T' G' F' hg0 N w0 γ0 df0 S a w γ hg->Inv C A bd nt ops T' G' F' hg0 N w0 γ0 df0 (λj=>j<ops.size) a w γ hg:=by
  intro listed S a w γ hg n hS c I;have e:S=λj=>j<ops.size:=by
   funext j;refine propext ⟨λh=>?_,λh=>?_⟩
   ·rw[hS]at h;rcases RX j ops.size with h'|h'
    ·exact h'
    ·simp[Re,RP (by omega:listed.size<=j)]at h
   ·rw[hS];have:=c j h;have hlt:j<listed.size:=by omega
    simpa [Array.getD,hlt] using this
  rw[<-e];exact I
 intro fuel
 induction fuel with
 | zero =>
  intro tq listed S a w γ hg n hS f hc I;have hz:=Jm (Nat.le_zero.1 hc);refine⟨a,w,γ,hg,done n hS (λj d=>by simpa using hz j d) I,?_⟩;simp only[Region.linearise.go,QZ];exact Steps.refl _ _
 | succ fuel ihf =>
  intro tq listed S a w γ hg n hS f hc I;simp only[Region.linearise.go];change ∃a' w' γ' hg',_/\Steps C.P (lone (b.atR a (.inRegion ops (match (Region.ready .any ops listed)[tq % (Region.ready .any ops listed).length]? with
   |some i=>Region.linearise.go .any ops fuel (tq / (Region.ready .any ops listed).length) (listed.setIfInBounds i true) [i]
   |none=>[].reverse)::k)) cs w) _
  cases hi:(Region.ready .any ops listed)[tq % (Region.ready .any ops listed).length]? with
  | none =>
   have u:Region.ready .any ops listed=[]:=by
    cases hr:Region.ready .any ops listed with
    |nil=>rfl
    | cons x xs =>
     rw[hr]at hi;have hlt:tq % (x::xs).length<(x::xs).length:=R_ _ (by simp);rw[Qu hlt]at hi;cases hi
   have c:∀j,j<ops.size->listed.getD j true=true:=by
    intro j
    induction j using Nat.strongRecOn with
    | _ j ihj =>
     intro d;refine RK λs=>?_;have s:listed.getD j true=false:=by simpa using s
     have:j∈Region.ready .any ops listed:=by
      rw[mem_ready];refine⟨s,ops[j],QH d,λe he hb=>?_⟩;have hlt:=hedge j _ (QH d) e (by simpa using he) hb;have h1:=ihj e.on hlt (by omega);have hl:e.on<listed.size:=by omega
      simpa [Array.getD,hl] using h1
     rw[u]at this;exact absurd this QG
   exact⟨a,w,γ,hg,done n hS c I,by simp only[QZ];exact Steps.refl _ _⟩
  | some i =>
   have t:=Qz hi;obtain⟨r,o,ho,c⟩:=mem_ready.1 t;have z:i<ops.size:=(RH.1 ho).1;have v:¬S i:=by
    rw[hS];have hl:i<listed.size:=by omega
    simp[Array.getD,hl]at r ⊢;exact r
   have l:∀e∈o.after.toList,Region.binds .any e=true->S e.on:=λe he hb=>by rw[hS];exact c e (by simpa using he) hb
   simp only[];rw[linearise_go_acc,List.reverse_singleton,List.singleton_append];obtain⟨a1,w1,γ1,B,I1,st1⟩:=J7 (b:=b) (k:=k) (cs:=cs) (rest:=Region.linearise.go .any ops fuel (tq / (Region.ready .any ops listed).length) (listed.setIfInBounds i true) []) R I hN ho v f l hcalm;obtain⟨a2,D,γ2,y,I2,st2⟩:=ihf (tq / (Region.ready .any ops listed).length) (listed.setIfInBounds i true) (λj=>S j\/j=i) (by simp[n]) (λj=>by
     rw[hS]
     by_cases d:j=i
     ·subst d;have hl:j<listed.size:=by omega
      simp[Array.getD,hl]
     ·simp only[Re];rw[R3 (RJ d)];simp[d]) (λj oj m d e he hb=>by
     rcases d with d|rfl
     ·exact .inl (f j oj m d e he hb)
     ·rw[ho]at m;injection m with m;subst m;exact .inl (l e he hb)) (by
     have:=NJ (p:=λj=>!listed.getD j true) (q:=λj=>!(listed.setIfInBounds i true).getD j true) (λj d=>by
      by_cases hji:j=i
      ·subst hji;simpa using r
      ·simp only[Re]at d ⊢;rw[R3 (RJ hji)]at d;exact d) z (by simpa using r) (by
      have hl:i<listed.size:=by omega
      simp[Array.getD,hl])
     omega) I1
   exact⟨a2,D,γ2,y,I2,Steps.trans st1 st2⟩
theorem Ew(h:g.lg=[]):aK g []=g:=by cases g;simp at h;subst h;rfl
theorem JD:∀(l:List Oper) (i:Nat) {t:T} {df:List ADf} {g:G} {fs:List Foot} {e:Ex} {t':T} {df':List ADf} {g':G},
  (g_ C nt pm ops.toList i l).run ih d rd t df g fs=.ok e t' df' g' ->
  e=.norm/\df'=df/\∃(T':Nat->T) (G':Nat->G) (F':Nat->Foot),T' i=t/\G' i=g/\T' (i+l.length)=t'/\G' (i+l.length)=g' /\
   (∀j o,l[j]?=some o->TraAt C ih d rd nt ops false o (T' (i+j)) (T' (i+j+1)) (G' (i+j)) (G' (i+j+1)) (F' (i+j))/\(G' (i+j+1)).lg=(F' (i+j)).wr++(G' (i+j)).lg) /\
   mN pm (fs.reverse++(List.range l.length).map λj=>F' (i+j))=true:=by
 intro l
 induction l with
 | nil =>
  intro i t df g fs e t' df' g' h;simp only[g_,aa]at h
  split at h
  ·rename_i hf;injection h with h1 h2 u h4;subst h1;subst h2;subst u;subst h4;exact⟨rfl,rfl,λ_=>t,λ_=>g,λ_=>⟨aw,[]⟩,rfl,rfl,rfl,rfl,λj o h=>by simp at h,by simpa using hf⟩
  ·cases h
 | cons o rest ihl =>
  intro i t df g fs e t' df' g' h;have go:∀{t1:T} {g1:G} {f:Foot},(g_ C nt pm ops.toList (i+1) rest).run ih d rd t1 df g1 (f::fs)=.ok e t' df' g' ->
    TraAt C ih d rd nt ops false o t t1 g g1 f->g1.lg=f.wr++g.lg ->
    e=.norm/\df'=df/\∃(T':Nat->T) (G':Nat->G) (F':Nat->Foot),T' i=t/\G' i=g/\T' (i+(o::rest).length)=t'/\G' (i+(o::rest).length)=g' /\
     (∀j o',(o::rest)[j]?=some o'->TraAt C ih d rd nt ops false o' (T' (i+j)) (T' (i+j+1)) (G' (i+j)) (G' (i+j+1)) (F' (i+j))/\(G' (i+j+1)).lg=(F' (i+j)).wr++(G' (i+j)).lg) /\
     mN pm (fs.reverse++(List.range (o::rest).length).map λj=>F' (i+j))=true:=by
   intro t1 g1 f h c p;obtain⟨h1,h2,T1,G1,F1,a1,a2,a3,a4,q,s⟩:=ihl (i+1) h;have ne:∀j,i+1+j≠i:=λj=>by omega
   refine⟨h1,h2,λm=>if m=i then t else T1 m,λm=>if m=i then g else G1 m,λm=>if m=i then f else F1 m,by simp,by simp,?_,?_,?_,?_⟩
   ·simp only[Q9];rw[Qw (by omega),show i+(rest.length+1)=i+1+rest.length by omega];exact a3
   ·simp only[Q9];rw[Qw (by omega),show i+(rest.length+1)=i+1+rest.length by omega];exact a4
   ·intro j o' n;cases j with
    | zero =>
     simp at n;subst n;simp only[R7,if_true];rw[Qw (by omega),Qw (by omega),a1,a2];exact⟨c,p⟩
    | succ j =>
     have:=q j o' (by simpa using n);rw[show i+(j+1)=i+1+j by omega];simp only[Qw (ne j),show i+1+j+1=i+1+(j+1) by omega,Qw (ne (j+1))];rw[show i+1+(j+1)=i+1+j+1 by omega];exact this
   ·rw[Q9,List.range_succ_eq_map,Rx,List.map_map];simp only[R7,if_true];rw[<-s];congr 1;simp only[Q2,RG,List.singleton_append];congr 2;refine R0 λj _=>?_;simp only[Function.comp];rw[Qw (by omega),show i+(j+1)=i+1+j by omega]
  simp only[g_]at h
  split at h
  ·rename_i out gd k b;dsimp only at h
   split at h
   ·rename_i hq;generalize hr:(b_ C o.op).run ih d rd t (aK g [])=r at h;cases r with
    |fail=>cases h
    | val v =>
     refine go (t1:=out.run t v) (g1:=iH g g.lg) (f:=⟨(aL C o.op).run t g,[]⟩) h ⟨out,gd,k,b,.inr ⟨hq,_,hr,by simp,by simp,rfl,by simp[gOf],by simp[gOf],by simp[gOf],λ_=>⟨rfl,by simp[gOf]⟩⟩⟩ (by simp)
    | upd v g1 =>
     refine go (t1:=out.run t v) (g1:=iH g1 (g1.lg++g.lg)) (f:=⟨(aL C o.op).run t g,g1.lg⟩) h ⟨out,gd,k,b,.inr ⟨hq,_,hr,by simp,by simp,rfl,by simp[gOf],by simp[gOf],by simp[gOf],λ_=>⟨rfl,by simp[gOf]⟩⟩⟩ (by simp)
    |dfr a=>cases h
   ·rename_i hq;exact go h ⟨out,gd,k,b,.inl ⟨hq,rfl,rfl,rfl⟩⟩ (by simp)
   ·cases h
  ·cases h
theorem Jf(hC:CfgOk C){op:Op}{x:ADf}(h:(b_ C op).run ih d rd t g=.dfr x):∃c,op=.defer c:=by
 have iso:∀f args,ah ih d g f args≠.dfr x:=by
  intro f args;unfold ah
  repeat' (first|split|rw[aa])
  all_goals (intro h;cases h)
 have orf:∀r,orF r≠.dfr x:=by intro r h;cases r<;>cases h
 have rnd:∀id args,cQ ih d id args g≠.dfr x:=by
  intro id args;unfold cQ
  repeat' split
  all_goals (intro h;cases h)
 unfold b_ at h
 split at h
 rotate_left
 ·cases h
 rename_i f k;unfold cOp at k
 split at k
 ·split at k
  ·split at k
   ·rename_i e he;injection k with k;subst k;exact absurd h (hC.noDfr _ _ he _ _ _ _)
   ·rw[aa]at k
    split at k
    ·injection k with k;subst k;exact absurd h (iso _ _)
    ·injection k with k;subst k;exact absurd h (orf _)
  ·cases k
 ·split at k
  ·injection k with k;subst k;dsimp only at h;unfold lj at h
   split at h
   ·split at h
    ·rename_i e he;exact absurd h (hC.noDfr _ _ he _ _ _ _)
    ·rw[aa]at h
     split at h
     ·exact absurd h (iso _ _)
     ·exact absurd h (orf _)
   ·exact absurd h (rnd _ _)
   ·cases h
  ·cases k
 ·injection k with k;subst k;cases h
 ·exact⟨_,rfl⟩
 ·split at k
  ·rename_i s hs;injection k with k;subst k;have:=wx (t:=t) (g:=g) hs;have h:s.run t g=.dfr x:=h;rw[h]at this;exact this.elim
  ·cases k
theorem Iw(hC:CfgOk C)(hi:IHOk C ih):∀(l:List Oper) (i:Nat) {t:T} {df:List ADf} {g:G} {e:Ex} {t':T} {df':List ADf} {g':G},
  (iV C nt ops.toList l).run ih d rd t df g=.ok e t' df' g'->(∀o∈l,xS C o.op=true)->g.lg=[]->g'.lg=[]->WF g ->
  e=.norm/\df'=df/\∃(T':Nat->T) (G':Nat->G) (F':Nat->Foot),T' i=t/\G' i=g/\T' (i+l.length)=t'/\G' (i+l.length)=g' /\
   (∀j o,l[j]?=some o->TraAt C ih d rd nt ops true o (T' (i+j)) (T' (i+j+1)) (G' (i+j)) (G' (i+j+1)) (F' (i+j)))/\∀j,(F' j).wr=[]:=by
 intro l
 induction l with
 | nil =>
  intro i t df g e t' df' g' h _ _ _ _;simp only[iV]at h;injection h with h1 h2 F h4;subst h1;subst h2;subst F;subst h4;exact⟨rfl,rfl,λ_=>t,λ_=>g,λ_=>⟨aw,[]⟩,rfl,rfl,rfl,rfl,λj o h=>by simp at h,λ_=>rfl⟩
 | cons o rest ihl =>
  intro i t df g e t' df' g' h hq s q p;have go:∀{t1:T} {g1:G},(iV C nt ops.toList rest).run ih d rd t1 df g1=.ok e t' df' g'->g1.lg=[]->WF g1 ->
    TraAt C ih d rd nt ops true o t t1 g g1 ⟨aw,[]⟩ ->
    e=.norm/\df'=df/\∃(T':Nat->T) (G':Nat->G) (F':Nat->Foot),T' i=t/\G' i=g/\T' (i+(o::rest).length)=t'/\G' (i+(o::rest).length)=g' /\
     (∀j o',(o::rest)[j]?=some o'->TraAt C ih d rd nt ops true o' (T' (i+j)) (T' (i+j+1)) (G' (i+j)) (G' (i+j+1)) (F' (i+j)))/\∀j,(F' j).wr=[]:=by
   intro t1 g1 h f B z;obtain⟨h1,h2,T1,G1,F1,a1,a2,a3,a4,D,E⟩:=ihl (i+1) h (λo' ho'=>hq o' (Rj _ ho')) f q B;have ne:∀j,i+1+j≠i:=λj=>by omega
   refine⟨h1,h2,λm=>if m=i then t else T1 m,λm=>if m=i then g else G1 m,λm=>if m=i then ⟨aw,[]⟩ else F1 m,by simp,by simp,?_,?_,?_,?_⟩
   ·simp only[Q9];rw[Qw (by omega),show i+(rest.length+1)=i+1+rest.length by omega];exact a3
   ·simp only[Q9];rw[Qw (by omega),show i+(rest.length+1)=i+1+rest.length by omega];exact a4
   ·intro j o' A;cases j with
    | zero =>
     simp at A;subst A;simp only[R7,if_true];rw[Qw (by omega),Qw (by omega),a1,a2];exact z
    | succ j =>
     have:=D j o' (by simpa using A);rw[show i+(j+1)=i+1+j by omega];simp only[Qw (ne j),show i+1+j+1=i+1+(j+1) by omega,Qw (ne (j+1))];rw[show i+1+(j+1)=i+1+j+1 by omega];exact this
   ·intro j;dsimp only
    split
    ·rfl
    ·exact E j
  have exec:∀{out:Stg (T->AV->T)} {gd:Stg (T->Option Bool)},oT nt o.dst=some out->hZ ops.toList o.guard=some gd->gd.run t=some true ->
    nM out.run ((iV C nt ops.toList rest).run ih d rd) t df g ((b_ C o.op).run ih d rd t g)=.ok e t' df' g' ->
    e=.norm/\df'=df/\∃(T':Nat->T) (G':Nat->G) (F':Nat->Foot),T' i=t/\G' i=g/\T' (i+(o::rest).length)=t'/\G' (i+(o::rest).length)=g' /\
     (∀j o',(o::rest)[j]?=some o'->TraAt C ih d rd nt ops true o' (T' (i+j)) (T' (i+j+1)) (G' (i+j)) (G' (i+j+1)) (F' (i+j)))/\∀j,(F' j).wr=[]:=by
   intro out gd k b x h;have hm:=h_ (op:=o.op) (d:=d) (rd:=rd) (t:=t) hC.mon hi.mon p;generalize hr:(b_ C o.op).run ih d rd t g=r at h hm;have y:(b_ C o.op).run ih d rd t (aK g [])=r:=by rw[Ew s];exact hr
   cases r with
   |fail=>cases h
   | val v =>
    exact go (t1:=out.run t v) (g1:=g) h s p ⟨out,gd,k,b,.inr ⟨x,_,y,by simp,by simp,rfl,by simp[gOf],by simp[gOf],by simp[gOf],λh=>by cases h⟩⟩
   | upd v g1 =>
    have w1:WF g1:=hm.wf p;have H:=yw hC.mon hi.mon h w1;have f:g1.lg=[]:=by obtain⟨n,a,_,_⟩:=H.new;rw[q]at a;exact (List.append_eq_nil_iff.1 a.symm).2
    exact go (t1:=out.run t v) (g1:=g1) h f w1 ⟨out,gd,k,b,.inr ⟨x,_,y,by simp,by simp,rfl,by simp[gOf],by simp[gOf,f],by simp[gOf],λh=>by cases h⟩⟩
   | dfr a =>
    obtain⟨c,hc⟩:=Jf hC hr;have:=hq o Rm;rw[hc]at this;simp[xS]at this
  simp only[iV]at h
  split at h
  ·rename_i out k
   split at h
   ·rename_i b;exact exec k (gd:=⟨λ_=>some true⟩) (by rw[b];rfl) rfl h
   ·rename_i gd0 b
    split at h
    ·rename_i gd u;rw[<-b]at u;dsimp only at h
     split at h
     ·rename_i w;exact exec k u w h
     ·rename_i w;exact go h s p ⟨out,gd,k,u,.inl ⟨w,rfl,rfl,rfl⟩⟩
     ·cases h
    ·cases h
  ·cases h
theorem G_{K V:Type}{wr:Nat->K->Prop}{val:Nat->K->V}{base:K->V}{k:K}:ov (λ_=>False) wr val base n k=base k:=by rw[zE (m:=0) (Rf _) (λ_ _ _ h=>h.elim)];rfl
theorem C_(R:Reg C ih bd rd nt ops q T' G' F' hg0)(hmix:C.P.follows .mixedOrders=true)(hedge:∀i o,ops[i]?=some o->∀e∈o.after.toList,Region.binds .any e=true->e.on<i)
  {w:World} {γ:Gm} {nx:Nat} {a:Act} {id:Nat} (hr:Rel C A bd w γ hg0 nx) (ht:TR w γ A bd nt (T' 0) a.tmps) (hcalm:nO b.kind cs) :
  ∃a' w' γ' hg',Rel C A bd w' γ' hg' (Nat.max nx (G' ops.size).nx)/\Stp w γ w' γ'/\TR w' γ' A bd nt (T' ops.size) a'.tmps/\a'.defers=a.defers /\
   (∀id,((∃j,j<ops.size/\id∈(F' j).wr)/\hg' id=(G' ops.size).h.get id)\/((∀j,j<ops.size->id ∉ (F' j).wr)/\hg' id=hg0 id)) /\
   Steps C.P (lone (b.atR a (.code (.region id ops true)::k)) cs w) (lone (b.atR a' k) cs w'):=by
 let w1:World:={ w with drawn:=w.drawn+1 }
 have l:Stp w γ w1 γ:=EE (Qv _) rfl rfl rfl (Sm _) λ_ _=>rfl;have m:Rel C A bd w1 γ hg0 nx:=hr.same l λ_ _=>rfl;have I0:Inv C A bd nt ops T' G' F' hg0 (Nat.max nx (G' ops.size).nx) w γ a.defers (λ_=>False) a w1 γ hg0:=by refine⟨m.up (RN _ _),l,ht.1,λs=>?_,λid=>by rw[G_],rfl⟩;rw[G_];exact (ht.2 s).step l
 have f:cnt (λj=>!(Array.replicate ops.size false).getD j true) ops.size<=ops.size:=by
  generalize (λj=>!(Array.replicate ops.size false).getD j true)=p;generalize ops.size=n
  induction n with
  |zero=>exact Qv _
  |succ n ih'=>simp only[cnt];split<;>omega
 obtain⟨a',w',γ',hg',I,st⟩:=Lx (b:=b) (k:=k) (cs:=cs) R (R8 _ _) hedge hcalm ops.size (w.tape w.drawn (.order b.fn id)) (Array.replicate ops.size false) (λ_=>False) (by simp)
  (λj=>by simp[Re,Array.getElem?_replicate];split<;>simp) (λj o _ h=>h.elim) f I0
 have d:∀{K V:Type} {wr:Nat->K->Prop} {val:Nat->K->V} {base:K->V} {k:K},(∀j,j<ops.size->¬wr j k->val (j+1) k=val j k) ->
   ((∃j,j<ops.size/\wr j k)/\ov (λj=>j<ops.size) wr val base ops.size k=val ops.size k)\/((∀j,j<ops.size->¬wr j k)/\ov (λj=>j<ops.size) wr val base ops.size k=base k/\val ops.size k=val 0 k) :=
  λkeep=>Kv (Qv _) keep λj _ _=>Iff.rfl
 refine⟨a',w',γ',hg',I.rel,I.stp,⟨I.size,λs=>?_⟩,I.dfr,λid'=>?_,?_⟩
 ·have:=I.slots s;rcases d (wr:=λi s=>ib ops i=some s) (val:=λi s=>(T' i).get AV.undef s) (base:=λs=>(T' 0).get AV.undef s) (k:=s) (λj hj hw=>R.keepT hj hw) with⟨_,h⟩|⟨_,h,h2⟩
  ·rw[h]at this;exact this
  ·rw[h,<-h2]at this;exact this
 ·rw[I.objs id'];rcases d (wr:=λi id=>id∈(F' i).wr) (val:=λi id=>(G' i).h.get id) (base:=hg0) (k:=id') (λj hj hw=>(R.at hj).2.1 id' hw) with⟨h1,h⟩|⟨h1,h,_⟩
  ·exact .inl ⟨h1,h⟩
  ·exact .inr ⟨h1,h⟩
 ·refine .head stepR_region_draw ?_;have c:Region.schedule (C.P.follows .mixedOrders) ops (w.tape w.drawn (.order b.fn id))=Region.linearise.go .any ops ops.size (w.tape w.drawn (.order b.fn id)) (Array.replicate ops.size false) []:=by
   simp only[Region.schedule,hmix,Tx,if_true]
   rfl
  rw[c];exact Steps.trans st (.one stepR_region_end)
end
section
variable {body:Code}{df':List ADf}
section
variable {C:Cfg}{A:Nat->Nat->Prop}{bd:Nat}{w w':World}{γ γ':Gm}{hg:Nat->AObj}{nx:Nat}
variable {t:T}{g:G}{ih:IH}
def OU(C:Cfg)(A:Nat->Nat->Prop)(bd nt:Nat)(b:Frame)(k:List Item)(cs:List Frame)(m:Machine)(w:World)(γ:Gm)(hg:Nat->AObj)(nx:Nat)(g:G)(e:Ex)(t':T)(df':List ADf)(g':G):Prop :=
 ∃a' w' γ' hg',Fin C A bd w γ hg nx g w' γ' hg' g'/\TR w' γ' A bd nt t' a'.tmps/\DR w' γ' A bd df' a'.defers/\Arr C.P m b k cs e a' w'
theorem FF(hC:CfgOk C)(hi:IHOk C ih){ops:Array Oper}{draw:Bool}{rid:Nat}{e:Ex}
  (h:(fu C nt ops.toList draw).run ih (bd+1) rd t df g=.ok e t' df' g'):xF C bd nt rd (.region rid ops draw) t df g e t' df' g':=by
 intro A w γ hg nx b a k cs hr hx B hf ht E X l;unfold fu at h;rw[aa]at h
 split at h
 rotate_left
 ·rename_i c;have c:draw=false:=by simpa using c
  subst c;obtain⟨rfl,a',w',γ',hg',f,tr,dr,st⟩:=Jg (b:=b) (cs:=cs) (k:=k) hC hi ops.toList 0 (by simp) h B hr hx hf ht E X l;refine⟨a',w',γ',hg',f,tr,dr,.head stepR_region ?_⟩;rw[Tg];simpa using st
 rename_i c;subst c;rw[aa]at h
 split at h
 rotate_left
 ·cases h
 rename_i d;have d:nZ 0 ops.toList=true/\lZ (bi ops.toList []) 0 ops.toList=true /\
   jr (λi x j y=>((bi ops.toList []).getD j 0).testBit i || jg ops.toList x y) 0 ops.toList=true:=by
  simp only[Cm,Qy]at d;exact⟨d.1.1,d.1.2,d.2⟩
 obtain⟨Q,S,U⟩:=d;have r:∀i o,ops[i]?=some o->∀e∈o.after.toList,Region.binds .any e=true->e.on<i:=by intro i o ho e he hb;have:=Aj Q i o (by simpa using ho) e he hb;omega
 have m:∀i o j b,ops[i]?=some o->o.guard=some (j,b)->((bi ops.toList []).getD i 0).testBit j=true:=by intro i o j b ho hg';have:=za S i o (by simpa using ho) j b hg';simpa using this
 have u:∀i j oi oj,i<j->ops[i]?=some oi->ops[j]?=some oj->((bi ops.toList []).getD j 0).testBit i=true\/jg ops.toList oi oj=true:=by intro i j oi oj F V W;have:=uq U i j oi oj F (by simpa using V) (by simpa using W);simpa using this
 have M:∀id,(γ id).kind=0->hg id=.none:=λid h=>(hr.none_iff id).1 h;rw[aa]at h
 split at h
 ·
  rename_i hq;dsimp only at h;generalize hc:(iV C nt ops.toList ops.toList).run ih (bd+1) rd t df (aK g [])=cr at h;cases cr with
  |fail=>cases h
  | ok e1 t1 df1 g1 =>
   simp only[mb]at h;cases hlg:g1.lg with
   |cons x xs=>rw[hlg]at h;cases h
   | nil =>
    rw[hlg]at h;dsimp only at h;rw[aa]at h
    split at h
    rotate_left
    ·cases h
    rename_i z;have z:=ay z;injection h with h1 h2 K h4;subst h1;subst h2;subst K;subst h4;obtain⟨rfl,rfl,T',G',F',a1,a2,a3,a4,J,D⟩:=Iw hC hi ops.toList 0 hc (λo ho=>QS.1 hq o ho) (by simp) hlg B.setLog;simp only[Rc,Array.length_toList]at a3 a4 J;have R:Reg C ih bd rd nt ops true T' G' F' hg:=by
     refine⟨hC,hi,λi o ho=>J i o (by simpa using ho),by rw[a2];exact B.setLog,by rw[a2];simpa using hx,λid h1 h2=>?_,λi j _ _=>.inr ?_,λi j j' _ _ _ _ _ _ hm=>?_,u,m,λ_ i _=>D i⟩
     ·rw[a2]at h1;rw[a4,z]at h2;exact M id (hf id (by simpa using h1) h2)
     ·simp[bM,iz,fD,D]
     ·rw[D j]at hm;simp[meets]at hm
    obtain⟨a',w',γ',hg',s,v,I,q,p,st⟩:=C_ (b:=b) (k:=k) (cs:=cs) (id:=rid) R hC.mixed r hr (by rw[a1];exact ht) l;have H:∀id,hg' id=hg id:=λid=>by
     rcases p id with⟨⟨j,_,h⟩,_⟩|⟨_,h⟩
     ·rw[D j]at h;exact absurd h QG
     ·exact h
    refine⟨a',w',γ',hg',⟨?_,v,⟨[],rfl,λ_ h=>absurd h QG,λid _=>H id⟩⟩,by rw[<-a3];exact I,by rw[q];exact E.step v,st⟩;rw[a4,z]at s;exact s
 ·dsimp only at h;obtain⟨rfl,rfl,T',G',F',a1,a2,a3,a4,J,D⟩:=JD ops.toList 0 h;simp only[Rc,Array.length_toList,QZ,QY]at a3 a4 J D;obtain⟨b1,b2⟩:=Gg D;have L:∀j,j<ops.size->((List.range ops.size).map F')[j]?=some (F' j):=λj hj=>by simp[S3 hj]
  have R:Reg C ih bd rd nt ops false T' G' F' hg:=by
   refine⟨hC,hi,λi o ho=>(J i o (by simpa using ho)).1,by rw[a2];exact B,by rw[a2];exact hx,λid h1 h2=>?_,λi j F hj=>?_,λi j j' h1 h2 K h4 h5 h6 h7 h8=>?_,u,m,λh=>by cases h⟩
   ·rw[a2]at h1;rw[a4]at h2;exact M id (hf id h1 h2)
   ·have:=uq b1 i j _ _ F (L i (by omega)) (L j hj);simpa using this
   ·exact Cz b2 i j j' _ _ _ h1 h2 (L i (by omega)) (L j (by omega)) (L j' K) h4 (by simpa using h5) (by simpa using h6) h7 h8
  obtain⟨a',w',γ',hg',s,v,I,q,p,st⟩:=C_ (b:=b) (k:=k) (cs:=cs) (id:=rid) R hC.mixed r hr (by rw[a1];exact ht) l;have N:∀n,n<=ops.size->∃new,(G' n).lg=new++g.lg/\∀id,id∈new↔∃j,j<n/\id∈(F' j).wr:=by
   intro n
   induction n with
   |zero=>intro _;exact⟨[],by rw[a2];rfl,λid=>⟨λh=>absurd h QG,λ⟨j,h,_⟩=>absurd h (Nat.not_lt_zero j)⟩⟩
   | succ n ihn =>
    intro Y;obtain⟨new,e1,O⟩:=ihn (by omega);have P:n<ops.size:=by omega
    have:=(J n ops[n] (by rw[Td];exact QH P)).2;refine⟨(F' n).wr++new,by rw[this,e1,RG],λid=>?_⟩;rw[Q0,O];constructor
    ·rintro (h|⟨j,h1,h2⟩)
     ·exact⟨n,by omega,h⟩
     ·exact⟨j,by omega,h2⟩
    ·rintro⟨j,h1,h2⟩
     by_cases hj:j=n
     ·subst hj;exact .inl h2
     ·exact .inr ⟨j,by omega,h2⟩
  obtain⟨new,e1,O⟩:=N ops.size (Qv _);refine⟨a',w',γ',hg',⟨by rw[a4]at s;exact s,v,⟨new,by rw[<-a4];exact e1,λid hid=>?_,λid hid=>?_⟩⟩,by rw[<-a3];exact I,by rw[q];exact E.step v,st⟩
  ·rcases p id with⟨_,h⟩|⟨h1,_⟩
   ·rw[h,a4]
   ·obtain⟨j,h2,K⟩:=(O id).1 hid;exact absurd K (h1 j h2)
  ·rcases p id with⟨h1,_⟩|⟨_,h⟩
   ·exact absurd ((O id).2 h1) hid
   ·exact h
theorem bZ{b:Frame}{a:Act}{k:List Item}{cs:List Frame}{c:Code} :
  step P (lone (b.atR a (.code (.scope c)::k)) cs w)=.next (lone (b.atR a (.code c::.inScope c::k)) cs w) :=
 step_lone_go (by simp[stepG,stepG.exec,Frame.atR])
theorem nJ{b:Frame}{a:Act}{k:List Item}{cs:List Frame}{c:Code} :
  step P (lone (b.atR a (.inScope c::k)) cs w)=.next (lone (b.atR a k) cs w) :=
 step_lone_go (by simp[stepG,stepG.exec,Frame.atR])
theorem fg{m m1 X:Machine}(h:Steps P m X)(hne:m≠X)(hs:step P m=.next m1):Steps P m1 X:=by
 obtain⟨n,k⟩:=h;cases n with
 |zero=>simp[runN]at k;exact absurd k hne
 |succ n=>exact⟨n,by simpa [runN,hs] using k⟩
theorem zX{b b':Frame}{a a':Act}{k k':List Item}{cs cs':List Frame}{w w':World}(h:lone (b.atR a k) cs w=lone (b'.atR a' k') cs' w'):k=k':=by
 have h1:(lone (b.atR a k) cs w).gs=(lone (b'.atR a' k') cs' w').gs:=by rw[h]
 simp only[lone,Array.mk.injEq,List.cons.injEq,and_true]at h1;have h2:=congrArg (λg:Goroutine=>g.frame.todo) h1;simpa [Frame.atR] using h2
theorem tx(hC:CfgOk C)(hi:IHOk C ih){fo:Operand}{s:Stg (T->AV)}{ps:Array Tmp}{dfr:Nat}{e:Ex}
  (hs:aN C fo=some s) (h:cG C ih nt (bd+1) rd (s.run t) ps.toList assign body t df dfr g=.ok e t' df' g')
  (hwf:WF g) {b:Frame} {a:Act} {k:List Item} {cs:List Frame} {mark:List Deferred} {blk:Nat}
  (hr:Rel C A bd w γ hg nx) (hx:Ext g.h hg) (hf:Free γ g g') (ht:TR w γ A bd nt t a.tmps) (hdf:DR w γ A bd df (mark++a.defers)) (hrd:RdOk γ rd b) (hcalm:nO b.kind cs)
  (hdfr:(γ dfr).kind=4/\(γ dfr).blk=blk) {w00:World}
  (henter:(Instr.enterLoop b.fn a.tmps ps assign body b.roundOf).run C.P w00=.ok (w.heap.size,mark) (World.add w (.loop { state:=.ready,pending:=none,fn:=b.fn,tmps:=a.tmps,params:=ps,assign,body,defers:=blk }))) :
  OU C A bd nt b k cs (lone (b.atR a (.code (.rangeFunc fo ps assign body)::k)) cs w00) w γ hg nx g e t' df' g':=by
 unfold cG at h;have K:=ax hs ht hr;generalize hfo:a.eval fo=vf at K;generalize s.run t=y at h K;cases K with
 | clo _ f xs ys vs1 us1 hl hl2 h1 h2 =>
  dsimp only at h;rw[aa]at h
  split at h
  ·cases h
  split at h
  rotate_left
  ·cases h
  rename_i rv0 g2 q
  let L:Loop:={ state:=.ready,pending:=none,fn:=b.fn,tmps:=a.tmps,params:=ps,assign,body,defers:=blk }
  let w1:=World.add w (.loop L)
  let gh:Gh:=⟨3,0,0,0,w.heap.size,0,0,true⟩
  have B:Mon g (g.new (.loop nt t ps.toList assign body dfr .ready none)):=Mon.mk';have wf1:=B.wf hwf;have H:=hi.mon.call _ _ _ _ _ _ q wf1;have wf2:=H.wf wf1;have m3:=vo hi.mon h wf2;have j:(γ g.nx).kind=0:=hf g.nx (Qv _) (QW B.nx (QW H.nx m3.nx));have F:dfr≠g.nx:=by rintro rfl;rw[hdfr.1]at j;cases j
  obtain⟨r1,s1⟩:=hr.add (id:=g.nx) (gh:=gh) (o:=.loop L) (ao:=.loop nt t ps.toList assign body dfr .ready none) (nx':=Nat.max nx (g.nx+1)) j rfl (RN _ _) (QV (Nat.lt_succ_self _) (R8 _ _)) (by
   have s0:=CE (w:=w) (o:=.loop L) (gh:=gh) j rfl;refine⟨by simp[gh],by simp[gh],L,by rw[jq];simp[gh],rfl,rfl,rfl,rfl,rfl,ht.1,λi=>(ht.2 i).step s0,?_,?_⟩
   ·rw[ct _ _ F];exact hdfr.1
   ·rw[ct _ _ F];exact hdfr.2.symm)
  have f1:Fin C A bd w γ hg nx g w1 (upd γ g.nx gh) _ (g.new (.loop nt t ps.toList assign body dfr .ready none)):=O4 r1 s1;have h6:=f1.ext B hx;have h3:=f1.freed hr B hf;obtain⟨Q,W⟩:=hi.call _ _ _ _ _ _ q;have h8:RV w1 (upd γ g.nx gh) A bd (.yld g.nx) (.func (.yield w.heap.size) #[] #[]):=.yld _ _ _ (by simp[gh]) (by simp[gh]);have I:RVs w1 (upd γ g.nx gh) A bd (xs++(.yld g.nx::ys)) (vs1.toList++(.func (.yield w.heap.size) #[] #[]::us1.toList)):=by
   refine ((Pb hl h1).step s1).append ?_;have hu:=(Pb hl2 h2).step s1;refine⟨by simp[hu.1],λi x v hx' hv=>?_⟩;cases i with
   |zero=>simp at hx' hv;subst hx';subst hv;exact h8
   |succ i=>exact hu.2 i x v (by simpa using hx') (by simpa using hv)
  let a1:Act:={ a with defers:=mark++a.defers }
  let fr1:=b.atR a1 (.inRangeFunc w.heap.size::k)
  obtain⟨u,X,γ2,S,f2,_,fr,st,q1,q2,q3,q4,fn,q5,q6⟩:=W A w1 _ _ _ _ f1.rel h6 wf1 (h3.le m3.nx) I .normal (fr1::cs) (.inl rfl);have D:=f1.trans f2 B H;have h7:=D.ext (B.trans H) hx;have N:(vs1.toList++(.func (.yield w.heap.size) #[] #[]::us1.toList)).toArray=(vs1++#[.func (.yield w.heap.size) #[] #[]])++us1:=by apply Tf;simp
  rw[N]at st;have E:step C.P (lone (b.atR a (.code (.rangeFunc fo ps assign body)::k)) cs w00)=.next (lone (Frame.enter C.P f ((vs1++#[.func (.yield w.heap.size) #[] #[]])++us1) .normal) (fr1::cs) w1):=by
   refine stepR_rangeFunc (l:=w.heap.size) (mark:=mark) (w₁:=w1) (w₁':=w1) (d:={ target:=.fn (.func f) us1,args:=vs1++#[.func (.yield w.heap.size) #[] #[]] }) henter ?_ ?_
   ·simp only[resolve];rw[hfo];simp[Deferred.ofValue,Act.eval]
   ·exact Q _ _
  have R:fr1.finish u=b.atR a1 (.endRangeFunc w.heap.size::k):=finish_atR_inRangeFunc _ _;have J:Steps C.P (lone (b.atR a (.code (.rangeFunc fo ps assign body)::k)) cs w00) (lone (b.atR a1 (.endRangeFunc w.heap.size::k)) cs X):=by refine .head E (Steps.trans st (.one ?_));rw[<-R];exact step_leave_returned ⟨q1,q2,q3,fn,by rw[q4];exact q5,q6⟩
  unfold dJ at h
  split at h
  rotate_left
  ·cases h
  rename_i nt3 Z ps3 assign3 body3 dfr3 st3 pend3 n;have n:g2.h.get g.nx=.loop nt3 Z ps3 assign3 body3 dfr3 st3 pend3:=by simpa using n
  have U:S g.nx=.loop nt3 Z ps3 assign3 body3 dfr3 st3 pend3:=by rw[h7 g.nx (by rw[n];simp),n]
  have V:=D.rel.obj g.nx;rw[U]at V;obtain⟨k1,k2,L2,Y,k4,k5,k6,k7,k8,k9,ha,hc,hd⟩:=V;have O:(γ2 g.nx).blk=w.heap.size:=by have:=f2.stp.blk_eq (id:=g.nx) (by simp[gh]) (by simp[gh]);rw[this];simp[gh]
  obtain⟨r3,s3⟩:=D.rel.setLoop (st':=.exhausted) (pend':=pend3) U Y;rw[O]at Y r3 s3;have f3:Fin C A bd X γ2 S (Nat.max nx g2.nx) g2 _ γ2 _ (g2.put g.nx (.loop nt3 Z ps3 assign3 body3 dfr3 .exhausted pend3)):=O5 r3 s3;have M:Mon g2 (g2.put g.nx (.loop nt3 Z ps3 assign3 body3 dfr3 .exhausted pend3)):=Mon.put wf2 (by rw[n];simp);have m:=D.trans f3 (B.trans H) M;have h9:(γ2 g.nx).kind≠0:=by rw[k1];decide
  have r:st3≠.busy->(Instr.endLoop w.heap.size).run C.P X=.ok pend3 (World.setBlk X w.heap.size (.loop { L2 with state:=.exhausted,pending:=pend3 })):=by
   intro h5;unfold Instr.endLoop;have hb:(L2.state == LoopState.busy)=false:=by rw[k4];cases st3<;>first|rfl|exact absurd rfl h5
   simp only[QF,jC Y,QB,hb,Se,if_false,Q3,rT Y];subst k5
   rfl
  have z:Stp w γ (World.setBlk X w.heap.size (.loop { L2 with state:=.exhausted,pending:=pend3 })) γ2:=m.stp
  split at h
  ·cases h
  ·rename_i h4;have r:=r (by rintro rfl;exact h4 rfl);have p:=Steps.trans J (.one (stepR_endRangeFunc (P:=C.P) (b:=b) (a:=a1) (k:=k) (cs:=cs) r))
   split at h
   ·injection h with e1 e2 e3 e4;subst e1;subst e2;subst e3;subst e4;exact⟨a1,_,γ2,_,m,ht.step z,hdf.step z,by simpa [Arr] using p⟩
   ·rename_i c;have m5:=hi.mon.code _ _ _ _ _ _ _ _ _ _ _ h (M.wf wf2);obtain⟨a',w',γ',hg',f4,tr,dr,ar⟩:=hi.code _ _ _ _ _ _ _ _ _ _ _ h A _ _ _ _ b a1 k cs m.rel (m.ext ((B.trans H).trans M) hx) (M.wf wf2) (m.freed hr ((B.trans H).trans M) hf)
     (ht.step z) (hdf.step z) (hrd.step z) hcalm
    exact⟨a',w',γ',hg',m.trans f4 ((B.trans H).trans M) m5,tr,dr,ar.of_steps (by simpa using p)⟩
 |_=>cases h
theorem zw{o:Obj}:(newObj o).run P w=.ok w.heap.size (World.add w o):=by simp[newObj,Sem.run,World.add]
theorem Ak{fn:FuncId}{ps:Array Tmp} :
  (Instr.enterLoop fn tmps ps assign body none).run P w=.ok (w.heap.size+1,[{ target:=.collected w.heap.size,args:=#[] }])
   (World.add (World.add w (.deferred (some []))) (.loop { state:=.ready,pending:=none,fn,tmps,params:=ps,assign,body,defers:=w.heap.size })):=by
 unfold Instr.enterLoop;simp only[QF,zw,QB,Q3,add_size]
theorem BV{fn:FuncId}{ps:Array Tmp}{l:Nat}{L:Loop}(h:w.heap[l]?=some (.loop L)) :
  (Instr.enterLoop fn tmps ps assign body (some l)).run P w=.ok (w.heap.size,[])
   (World.add w (.loop { state:=.ready,pending:=none,fn,tmps,params:=ps,assign,body,defers:=L.defers })):=by
 unfold Instr.enterLoop;simp only[QF,jC h,zw,QB,Q3]
theorem FE(hC:CfgOk C)(hi:IHOk C ih){fo:Operand}{s:Stg (T->AV)}{ps:Array Tmp}{e:Ex}
  (hs:aN C fo=some s) (h:mc C nt s.run ps.toList assign body ih (bd+1) rd t df g=.ok e t' df' g'):xF C bd nt rd (.rangeFunc fo ps assign body) t df g e t' df' g':=by
 intro A w γ hg nx b a k cs hr hx q hf ht m j f;unfold mc at h;cases rd with
 | some l =>
  dsimp only at h
  split at h
  rotate_left
  ·cases h
  rename_i nt0 B ps0 as0 bo0 dfr st0 pe0 d;have d:g.h.get l=.loop nt0 B ps0 as0 bo0 dfr st0 pe0:=by simpa using d
  have u:hg l=.loop nt0 B ps0 as0 bo0 dfr st0 pe0:=by rw[hx l (by rw[d];simp),d]
  have n:=hr.obj l;rw[u]at n;obtain⟨H,k2,L,E,I,J,K,M,N,O,D,v,x⟩:=n;have c:=BV (P:=C.P) (fn:=b.fn) (tmps:=a.tmps) (ps:=ps) (assign:=assign) (body:=body) E;rw[x,<-j.2]at c;exact tx (mark:=[]) hC hi hs h q hr hx hf ht m j f ⟨v,rfl⟩ c
 | none =>
  dsimp only at h
  let gh:Gh:=⟨4,0,0,0,w.heap.size,0,0,true⟩
  have r:Mon g (g.new (.dfr true)):=Mon.mk';have wf1:=r.wf q;have z:=nG hi.mon h wf1;have i:(γ g.nx).kind=0:=hf g.nx (Qv _) (QW r.nx z.nx);obtain⟨F,y⟩:=hr.add (id:=g.nx) (gh:=gh) (o:=.deferred (some [])) (ao:=.dfr true) (nx':=Nat.max nx (g.nx+1)) i rfl (RN _ _) (QV (Nat.lt_succ_self _) (R8 _ _)) (by
   refine⟨by simp[gh],by simp[gh],by rw[jq];simp[gh]⟩)
  have f1:Fin C A bd w γ hg nx g _ (upd γ g.nx gh) _ (g.new (.dfr true)):=O4 F y;have c:=Ak (P:=C.P) (w:=w) (fn:=b.fn) (tmps:=a.tmps) (ps:=ps) (assign:=assign) (body:=body);have p:b.roundOf=none:=j;rw[<-p]at c;obtain⟨a',w',γ',hg',f2,tr,dr,ar⟩:=tx (nt:=nt) (rd:=none) (b:=b) (a:=a) (k:=k) (cs:=cs) (mark:=[{ target:=.collected w.heap.size,args:=#[] }]) (blk:=w.heap.size) (w00:=w) hC hi hs h wf1 f1.rel (f1.ext r hx) (f1.freed hr r hf)
   (ht.step y) ⟨⟨by simp[gh],by simp[gh]⟩,m.step y⟩ p f ⟨by simp[gh],by simp[gh]⟩ (by simpa using c)
  exact⟨a',w',γ',hg',f1.trans f2 r z,tr,dr,ar⟩
theorem vI(hC:CfgOk C)(hi:IHOk C ih):∀(c:Code) {t:T} {df:List ADf} {g:G} {e:Ex} {t':T} {df':List ADf} {g':G},
  (aM C nt c).run ih (bd+1) rd t df g=.ok e t' df' g'->xF C bd nt rd c t df g e t' df' g':=by
 intro c
 induction c with
 | skip =>
  intro t df g e t' df' g' h A w γ hg nx b a k cs hr hx n hf ht i o d;simp only[aM]at h;injection h with h1 h2 p h4;subst h1;subst h2;subst p;subst h4;exact⟨a,w,γ,hg,Fin.refl hr,ht,i,.one stepR_skip⟩
 | label l =>
  intro t df g e t' df' g' h A w γ hg nx b a k cs hr hx n hf ht i o d;simp only[aM]at h;injection h with h1 h2 p h4;subst h1;subst h2;subst p;subst h4;exact⟨a,w,γ,hg,Fin.refl hr,ht,i,.one stepR_label⟩
 |region id ops draw=>intro t df g e t' df' g' h;exact FF hC hi h
 | seq x y ihx ihy =>
  intro t df g e t' df' g' h A w γ hg nx b a k cs hr hx n hf ht i o d;simp only[aM]at h;generalize hc:(aM C nt x).run ih (bd+1) rd t df g=r at h;cases r with
  |fail=>cases h
  | ok e1 t1 df1 g1 =>
   have u:=iU hC.mon hi.mon _ hc n;have wf1:=u.wf n;cases e1 with
   | norm =>
    have h:(aM C nt y).run ih (bd+1) rd t1 df1 g1=.ok e t' df' g':=h;have B:=iU hC.mon hi.mon _ h wf1;obtain⟨a1,w1,γ1,m,f1,tr1,dr1,ar1⟩:=ihx hc A w γ hg nx b a (.code y::k) cs hr hx n (hf.le B.nx) ht i o d;obtain⟨a2,F,γ2,v,f2,tr2,dr2,ar2⟩:=ihy h A w1 γ1 m _ b a1 k cs f1.rel (f1.ext u hx) wf1 (f1.freed hr u hf) tr1 dr1 (o.step f1.stp) d;exact⟨a2,F,γ2,v,f1.trans f2 u B,tr2,dr2,ar2.of_steps (.head stepR_seq ar1)⟩
   | exit j =>
    have h:CR.ok (.exit j) t1 df1 g1=.ok e t' df' g':=h;injection h with h1 h2 p h4;subst h1;subst h2;subst p;subst h4;obtain⟨a1,w1,γ1,m,f1,tr1,dr1,k₁,hk,ar1⟩:=ihx hc A w γ hg nx b a (.code y::k) cs hr hx n hf ht i o d;exact⟨a1,w1,γ1,m,f1,tr1,dr1,k₁,by rw[hk];rfl,.head stepR_seq ar1⟩
   | ret =>
    have h:CR.ok .ret t1 df1 g1=.ok e t' df' g':=h;injection h with h1 h2 p h4;subst h1;subst h2;subst p;subst h4;obtain⟨a1,w1,γ1,m,f1,tr1,dr1,k₁,ar1⟩:=ihx hc A w γ hg nx b a (.code y::k) cs hr hx n hf ht i o d;exact⟨a1,w1,γ1,m,f1,tr1,dr1,k₁,.head stepR_seq ar1⟩
 | cond c x y ihx ihy =>
  intro t df g e t' df' g' h A w γ hg nx b a k cs hr hx n hf ht i o d;simp only[aM]at h
  split at h
  rotate_left
  ·cases h
  rename_i s hs;dsimp only at h;have E:=ax hs ht hr;generalize hcv:a.eval c=vc at E;generalize s.run t=cv at h E;cases E with
  | bool _ bv =>
   dsimp only at h;cases bv with
   | true =>
    obtain⟨a1,w1,γ1,m,f1,tr1,dr1,ar1⟩:=ihx h A w γ hg nx b a k cs hr hx n hf ht i o d;exact⟨a1,w1,γ1,m,f1,tr1,dr1,ar1.of_steps (.one (by simpa using stepR_cond (P:=C.P) (b:=b) (a:=a) (k:=k) (cs:=cs) (w:=w) (x:=x) (y:=y) hcv))⟩
   | false =>
    obtain⟨a1,w1,γ1,m,f1,tr1,dr1,ar1⟩:=ihy h A w γ hg nx b a k cs hr hx n hf ht i o d;exact⟨a1,w1,γ1,m,f1,tr1,dr1,ar1.of_steps (.one (by simpa using stepR_cond (P:=C.P) (b:=b) (a:=a) (k:=k) (cs:=cs) (w:=w) (x:=x) (y:=y) hcv))⟩
  |_=>cases h
 | block id body ihb =>
  intro t df g e t' df' g' h A w γ hg nx b a k cs hr hx n hf ht i o d;simp only[aM]at h;generalize hc:(aM C nt body).run ih (bd+1) rd t df g=r at h;cases r with
  |fail=>cases h
  | ok e1 t1 df1 g1 =>
   cases e1 with
   | norm =>
    have h:CR.ok .norm t1 df1 g1=.ok e t' df' g':=h;injection h with h1 h2 p h4;subst h1;subst h2;subst p;subst h4;obtain⟨a1,w1,γ1,m,f1,tr1,dr1,ar1⟩:=ihb hc A w γ hg nx b a (.inBlock id::k) cs hr hx n hf ht i o d;exact⟨a1,w1,γ1,m,f1,tr1,dr1,.head stepR_block (Steps.trans ar1 (.one stepR_inBlock))⟩
   | exit j =>
    simp only[tA,aa]at h
    split at h
    ·rename_i z;have z:=ay z;subst z;injection h with h1 h2 p h4;subst h1;subst h2;subst p;subst h4;obtain⟨a1,w1,γ1,m,f1,tr1,dr1,k₁,hk,ar1⟩:=ihb hc A w γ hg nx b a (.inBlock j::k) cs hr hx n hf ht i o d;exact⟨a1,w1,γ1,m,f1,tr1,dr1,.head stepR_block (Steps.trans ar1 (.one (stepR_exit (by rw[hk];simp[exitTo]))))⟩
    ·rename_i z;injection h with h1 h2 p h4;subst h1;subst h2;subst p;subst h4;obtain⟨a1,w1,γ1,m,f1,tr1,dr1,k₁,hk,ar1⟩:=ihb hc A w γ hg nx b a (.inBlock id::k) cs hr hx n hf ht i o d;refine⟨a1,w1,γ1,m,f1,tr1,dr1,k₁,?_,.head stepR_block ar1⟩;rw[hk];have D:(id == j)=false:=by simp only[beq_eq_false_iff_ne,ne_eq];rintro rfl;exact z (Q7 _)
     simp[exitTo,D]
   | ret =>
    have h:CR.ok .ret t1 df1 g1=.ok e t' df' g':=h;injection h with h1 h2 p h4;subst h1;subst h2;subst p;subst h4;obtain⟨a1,w1,γ1,m,f1,tr1,dr1,k₁,ar1⟩:=ihb hc A w γ hg nx b a (.inBlock id::k) cs hr hx n hf ht i o d;exact⟨a1,w1,γ1,m,f1,tr1,dr1,k₁,.head stepR_block ar1⟩
 | loop body ihb =>
  intro t df g e t' df' g' h A w γ hg nx b a k cs hr hx n hf ht i o d;simp only[aM]at h;generalize hc:(aM C nt body).run ih (bd+1) rd t df g=r at h;cases r with
  |fail=>cases h
  | ok e1 t1 df1 g1 =>
   have u:=iU hC.mon hi.mon _ hc n;have wf1:=u.wf n;cases e1 with
   | norm =>
    have h:ih.code nt (bd+1) rd (.loop body) t1 df1 g1=.ok e t' df' g':=h;have B:=hi.mon.code _ _ _ _ _ _ _ _ _ _ _ h wf1;obtain⟨a1,w1,γ1,m,f1,tr1,dr1,ar1⟩:=ihb hc A w γ hg nx b a (.inLoop body::k) cs hr hx n (hf.le B.nx) ht i o d;obtain⟨a2,F,γ2,v,f2,tr2,dr2,ar2⟩:=hi.code _ _ _ _ _ _ _ _ _ _ _ h A w1 γ1 m _ b a1 k cs f1.rel (f1.ext u hx) wf1 (f1.freed hr u hf) tr1 dr1 (o.step f1.stp) d;refine⟨a2,F,γ2,v,f1.trans f2 u B,tr2,dr2,Arr.of_steps (.head stepR_loop (Steps.trans ar1 (.one stepR_inLoop))) ?_⟩;have q:step C.P (lone (b.atR a1 (.code (.loop body)::k)) cs w1)=.next (lone (b.atR a1 (.code body::.inLoop body::k)) cs w1):=stepR_loop;have ne:∀{a':Act} {k':List Item} {w':World},k'≠.code (.loop body)::k->lone (b.atR a1 (.code (.loop body)::k)) cs w1≠lone (b.atR a' k') cs w':=λh h'=>h (zX h').symm;cases e with
    |norm=>exact fg ar2 (ne (λh=>by have:=congrArg List.length h;simp at this)) q
    | exit j =>
     obtain⟨k₁,hk,ar2⟩:=ar2;exact⟨k₁,hk,fg ar2 (ne (λh=>by injection h with h _;injection h with h;cases h)) q⟩
    | ret =>
     obtain⟨k₁,ar2⟩:=ar2;exact⟨k₁,fg ar2 (ne (λh=>by injection h with h _;injection h with h;cases h)) q⟩
   | exit j =>
    have h:CR.ok (.exit j) t1 df1 g1=.ok e t' df' g':=h;injection h with h1 h2 p h4;subst h1;subst h2;subst p;subst h4;obtain⟨a1,w1,γ1,m,f1,tr1,dr1,k₁,hk,ar1⟩:=ihb hc A w γ hg nx b a (.inLoop body::k) cs hr hx n hf ht i o d;exact⟨a1,w1,γ1,m,f1,tr1,dr1,k₁,by rw[hk];rfl,.head stepR_loop ar1⟩
   | ret =>
    have h:CR.ok .ret t1 df1 g1=.ok e t' df' g':=h;injection h with h1 h2 p h4;subst h1;subst h2;subst p;subst h4;obtain⟨a1,w1,γ1,m,f1,tr1,dr1,k₁,ar1⟩:=ihb hc A w γ hg nx b a (.inLoop body::k) cs hr hx n hf ht i o d;exact⟨a1,w1,γ1,m,f1,tr1,dr1,k₁,.head stepR_loop ar1⟩
 | scope body ihb =>
  intro t df g e t' df' g' h A w γ hg nx b a k cs hr hx n hf ht i o d;have h:(aM C nt body).run ih (bd+1) rd t df g=.ok e t' df' g':=h;obtain⟨a1,w1,γ1,m,f1,tr1,dr1,ar1⟩:=ihb h A w γ hg nx b a (.inScope body::k) cs hr hx n hf ht i o d;refine⟨a1,w1,γ1,m,f1,tr1,dr1,?_⟩;cases e with
  |norm=>exact .head bZ (Steps.trans ar1 (.one nJ))
  |exit j=>obtain⟨k₁,hk,ar1⟩:=ar1;exact⟨k₁,by rw[hk];rfl,.head bZ ar1⟩
  |ret=>obtain⟨k₁,ar1⟩:=ar1;exact⟨k₁,.head bZ ar1⟩
 | exit id =>
  intro t df g e t' df' g' h A w γ hg nx b a k cs hr hx n hf ht i o d;simp only[aM]at h;injection h with h1 h2 p h4;subst h1;subst h2;subst p;subst h4;exact⟨a,w,γ,hg,Fin.refl hr,ht,i,k,rfl,Steps.refl _ _⟩
 | ret =>
  intro t df g e t' df' g' h A w γ hg nx b a k cs hr hx n hf ht i o d;simp only[aM]at h;injection h with h1 h2 p h4;subst h1;subst h2;subst p;subst h4;exact⟨a,w,γ,hg,Fin.refl hr,ht,i,k,Steps.refl _ _⟩
 | rangeFunc f ps assign body _ _ =>
  intro t df g e t' df' g' h;simp only[aM]at h
  split at h
  ·rename_i s hs;exact FE hC hi hs h
  ·cases h
 |_=>intro t df g e t' df' g' h;cases h
theorem If(fr:Frame)(h:fr.mode=.returning):({ fr with mode:=.returning }:Frame)=fr:=by cases fr;simp at h;subst h;rfl
theorem Bq(hi:IHOk C ih):∀{df:List ADf} {g g':G},eH ih (bd+1) df g=some g'->WF g ->
  ∀{w γ hg nx} {fr:Frame} {cs:List Frame},Rel C A bd w γ hg nx->Ext g.h hg->Free γ g g'->DR w γ A bd df fr.defers->fr.mode=.returning ->
   ∃w' γ' hg',Fin C A bd w γ hg nx g w' γ' hg' g'/\Steps C.P (lone fr cs w) (lone { fr with defers:=[] } cs w'):=by
 intro df
 induction df with
 | nil =>
  intro g g' h _ w γ hg nx fr cs hr hx hf k hm;simp only[eH]at h;injection h with h;subst h;have hd:fr.defers=[]:=by
   cases hd:fr.defers with
   |nil=>rfl
   |cons d ds=>rw[hd]at k;exact k.elim
  refine⟨w,γ,hg,Fin.refl hr,?_⟩;have:({ fr with defers:=[] }:Frame)=fr:=by cases fr;simp at hd;subst hd;rfl
  rw[this];exact Steps.refl _ _
 | cons x df ihl =>
  intro g g' h b w γ hg nx fr cs hr hx hf k hm;cases hd:fr.defers with
  |nil=>rw[hd]at k;cases x<;>exact k.elim
  | cons d ds =>
   rw[hd]at k;cases x with
   | mark id =>
    obtain⟨⟨hk,rfl⟩,k⟩:=k;simp only[eH]at h
    split at h
    ·rename_i a;have a:g.h.get id=.dfr true:=by simpa using a
     have B:hg id=.dfr true:=by rw[hx id (by rw[a];simp),a]
     have r:=hr.obj id;rw[B]at r;obtain⟨E,k2,F⟩:=r;have q:(γ id).kind≠0:=by rw[E];decide
     have i:Mon g (g.put id (.dfr false)):=Mon.put b (by rw[a];simp);obtain⟨L,H⟩:=hr.setBlk (id:=id) (o:=.deferred none) (ao:=.dfr false) q k2 ⟨E,k2,by rw[aR];simp[(hr.lt id q).2]⟩;have f1:Fin C A bd w γ hg nx g _ γ _ (g.put id (.dfr false)):=O5 L H;have t:=kW hi.mon h (i.wf b);obtain⟨w',γ',hg',f2,st⟩:=ihl h (i.wf b) (fr:={ fr with defers:=ds }) (cs:=cs) f1.rel (f1.ext i hx) (f1.freed hr i hf) (k.step H) hm;refine⟨w',γ',hg',f1.trans f2 i t,.head (step_lone_go ?_) st⟩;have m:(Instr.takeDeferred (γ id).blk).run C.P w=.ok [] (World.setBlk w (γ id).blk (.deferred none)):=by unfold Instr.takeDeferred;simp only[QF,eX F (by simp),QB,if_true,gD F (by simp),Q3]
     simp[stepG,hm,unwind,hd,Sem.runT_eq,m,GStep.bare_after]
    ·cases h
   | call fv args =>
    obtain⟨⟨f,ys,us,rfl,j,D,l⟩,k⟩:=k;simp only[eH]at h
    split at h
    rotate_left
    ·cases h
    rename_i v g1 e;have i:=hi.mon.call _ _ _ _ _ _ e b;have wf1:=i.wf b;have t:=kW hi.mon h wf1;obtain⟨p,s⟩:=hi.call _ _ _ _ _ _ e
    let fr0:Frame:={ fr with defers:=ds }
    obtain⟨u,w1,γ1,I,f1,_,frX,st,q1,q2,q3,J,fn,q5,K⟩:=s A w γ hg nx (d.args.toList++us.toList) hr hx b (hf.le t.nx) (by simpa using l.append D) .deferred (fr0::cs) (.inr ⟨rfl,fr0,cs,rfl,.inl hm⟩);have n:(d.args.toList++us.toList).toArray=d.args++us:=by apply Tf;simp
    rw[n]at st;obtain⟨w',γ',hg',f2,st2⟩:=ihl h wf1 (fr:=fr0) (cs:=cs) f1.rel (f1.ext i hx) (f1.freed hr i hf) (k.step f1.stp) hm;refine⟨w',γ',hg',f1.trans f2 i t,.head (step_defer (by rw[hm];simp) hd j ?_) (Steps.trans st (.head ?_ st2))⟩
    ·rw[j];simp only[invoke];exact p _ _
    ·have z:frX.going C.P w1 (.returned u):=⟨q1,q2,fn,by rw[J];exact q5,K⟩;have:=step_going_returned (P:=C.P) (c:=fr0) (cs:=cs) q3 z;have hs:settle fr0.mode=.returning:=by have:fr0.mode=.returning:=hm;rw[this];rfl
     rw[hs]at this;have y:({ fr0 with mode:=.returning }:Frame)=fr0:=by exact If fr0 hm
     rw[y]at this;exact this
theorem DI{ty:TypeId}{x v:Value}{w w':World}(h:(do loadVar ty (<-Instr.sureAddr x):Sem Value).run P w=.ok v w') :
  (do loadVar ty (<-asAddr x):Sem Value).run P w=.ok v w':=by
 cases x with
 |pointer p=>cases p<;>simp[Instr.sureAddr,asAddr]at h ⊢;exact h
 |_=>simp[Instr.sureAddr]at h
theorem yx(hC:CfgOk C)(ht:TR w γ A bd nt t tmps)(hr:Rel C A bd w γ hg nx)(hx:Ext g.h hg):∀{rs:List ResultVar} {k:Stg (T->G->Option (List AV))} {vs:List AV},mq C rs=some k->k.run t g=some vs ->
  ∃us:List Value,(rs.mapM (fun|.tmp t=>pure (tmps.getD t undef)|.cell a t=>do loadVar t (<-asAddr (tmps.getD a undef))):Sem (List Value)).run C.P w=.ok us w/\RVs w γ A bd vs us:=by
 intro rs
 induction rs with
 |nil=>intro k vs h b;simp[mq]at h;subst h;simp at b;subst b;exact⟨[],by simp,rfl,λi x v h=>by simp at h⟩
 | cons r rs ihr =>
  intro k vs h b;cases r with
  | tmp n =>
   simp only[mq]at h
   split at h
   ·rename_i z e;injection h with h;subst h;dsimp only at b
    split at b
    ·rename_i vs0 c;injection b with b;subst b;obtain⟨us,h1,h2⟩:=ihr e c;refine⟨tmps.getD n undef::us,?_,by simp[h2.1],λi x v hx' hv'=>?_⟩
     ·rw[List.mapM_cons];simp only[QF,Q3,QB,h1]
     ·cases i with
      |zero=>simp at hx' hv';subst hx';subst hv';simpa [Re] using ht.2 n
      |succ i=>exact h2.2 i x v (by simpa using hx') (by simpa using hv')
    ·cases b
   ·cases h
  | cell ad ty =>
   simp only[mq]at h
   split at h
   ·rename_i z l e hl;injection h with h;subst h;dsimp only at b
    split at b
    ·rename_i y m
     split at b
     ·rename_i vs0 c;injection b with b;subst b;obtain⟨us,h1,h2⟩:=ihr e c
      let o:Oper:={ (default:Oper) with op:=.load ty (.tmp ad) }
      have j:∀id∈bc C (.load ty (.tmp ad)) t g,hg id=g.h.get id:=by intro id d;exact hx id λq=>by rw[EC hl d q]at m;cases m
      have f:∃v,(do loadVar ty (<-asAddr (tmps.getD ad undef)):Sem Value).run C.P w=.ok v w/\RV w γ A bd y v:=by
       simp only[cd]at hl
       split at hl
       ·rename_i s ag n hs p q;injection hl with hl;subst hl;have:=DM (g:=g) (ty:=ty) (t:=t) hr (ax (a:={ tmps:=tmps,defers:=[] }) hs ht hr) p q (λid d=>j id (by simp[bc,aL,ak,hs,d]));have m:l8 ag n s.run t g=.val y:=m;rw[m]at this;obtain⟨v,h1,h2⟩:=this;refine⟨v,?_,h2⟩;have h1:(Instr.loadAt ty (tmps.getD ad undef)).run C.P w=.ok v w:=h1;unfold Instr.loadAt at h1;exact DI h1
       ·cases hl
      obtain⟨v,u,h4⟩:=f;refine⟨v::us,?_,by simp[h2.1],λi x v' hx' hv'=>?_⟩
      ·rw[List.mapM_cons];simp only[QF,Q3];simp only[QF]at u;rw[u];simp only[QB,h1]
      ·cases i with
       |zero=>simp at hx' hv';subst hx';subst hv';exact h4
       |succ i=>exact h2.2 i x v' (by simpa using hx') (by simpa using hv')
     ·cases b
    ·cases b
   ·cases h
theorem Fv:∀(vs:List AV) (i:Nat) (t:T) (s:Nat),(bh i vs t).get AV.undef s=if i<=s/\s<i+vs.length then vs.getD (s - i) AV.undef else t.get AV.undef s:=by
 intro vs
 induction vs with
 |nil=>intro i t s;simp only[bh,Sc];rw[Qw (by omega)]
 | cons v vs ihv =>
  intro i t s;simp only[bh];rw[ihv,sp_get]
  by_cases h1:s=i
  ·subst h1;rw[Qw (by omega),QA rfl,QA (by simp)];simp
  ·rw[Qw h1]
   by_cases h2:i+1<=s/\s<i+1+vs.length
   ·rw[QA h2,QA (by simp;omega),show s - i=(s - (i+1))+1 by omega];simp
   ·rw[Qw h2,Qw (by simp;omega)]
theorem xH{as:List AV}{vs:List Value}(hv:RVs w γ A bd as vs)(hn:as.length<=nt) :
  TR w γ A bd nt (bh 0 as .nil) (vs.toArray++Array.replicate (nt - vs.toArray.size) undef):=by
 have hl:=hv.1;refine⟨by simp;omega,λs=>?_⟩;rw[Fv]
 by_cases hs:s<as.length
 ·rw[QA (by simpa using hs)];have h1:as[s]?=some (as[s]):=Qu hs;have h2:vs[s]?=some (vs[s]'(by omega)):=Qu (by omega);have:=hv.2 s _ _ h1 h2;have e1:as.getD (s - 0) AV.undef=as[s]:=by simp[R5,h1]
  have h:(vs.toArray++Array.replicate (nt - vs.toArray.size) undef).getD s undef=vs[s]'(by omega):=by rw[Re,R4 (by simp;omega)];simp[h2]
  rw[e1,h];exact this
 ·rw[Qw (by simpa using hs),Pc];have h:(vs.toArray++Array.replicate (nt - vs.toArray.size) undef).getD s undef=undef:=by
   rw[Re,Array.getElem?_append_right (by simp;omega),Array.getElem?_replicate]
   split<;>rfl
  rw[h];exact cz
theorem rN{fn:Func}{us:List Value}
  (h:(fn.results.toList.mapM (fun|.tmp t=>pure (tmps.getD t undef)|.cell a t=>do loadVar t (<-asAddr (tmps.getD a undef))):Sem (List Value)).run P w=.ok us w) :
  ∃u,(results fn tmps).run P w=.ok u w/\∀{xs:List AV},RVs w γ A bd xs us->RV w γ A bd (iB xs) u:=by
 have hm:(fn.results.mapM (fun|.tmp t=>pure (tmps.getD t undef)|.cell a t=>do loadVar t (<-asAddr (tmps.getD a undef))):Sem (Array Value)).run P w=.ok us.toArray w:=by
  rw[Array.mapM_eq_mapM_toList];simp only[Sem.run_map,h]
  rfl
 refine⟨if hs:us.toArray.size=1 then us.toArray[0] else .tuple us.toArray,?_,?_⟩
 ·unfold results;simp only[QF];have k:=hm;generalize hq:(fn.results.mapM (fun|.tmp t=>pure (tmps.getD t undef)|.cell a t=>do loadVar t (<-asAddr (tmps.getD a undef))):Sem (Array Value))=q at k;rw[k];simp only[QB,Q3]
 ·intro xs b;have hl:=b.1;have tup:RV w γ A bd (.tup xs) (.tuple us.toArray):=.tup _ _ _ (by simpa using hl) λi x v h1 h2=>b.2 i x v h1 (by simpa using h2);cases us with
  | nil =>
   have:xs=[]:=S7.1 hl;subst this;exact tup
  | cons u us =>
   cases us with
   | nil =>
    cases xs with
    |nil=>simp at hl
    | cons x xs =>
     have:xs=[]:=S7.1 (by simpa using hl);subst this;exact b.2 0 x u rfl rfl
   | cons u' us =>
    rw[dif_neg (by simp)];cases xs with
    |nil=>simp at hl
    | cons x xs =>
     cases xs with
     |nil=>simp at hl
     |cons x' xs=>exact tup
theorem LE(hC:CfgOk C)(hi:IHOk C ih){x:Stg (IH->Nat->List AV->G->FR)}(hx:cFn C f=some x){as:List AV}
  (h:x.run ih (bd+1) as g=.ok v g'):Enters C.P f/\xE C bd f as g v g':=by
 unfold cFn at hx
 split at hx
 ·cases hx
 rename_i fn hfn
 split at hx
 ·cases hx
 rename_i c hbody
 split at hx
 rotate_left
 ·cases hx
 rename_i r hres;rw[aa]at hx
 split at hx
 ·cases hx
 rename_i hname;injection hx with hx;subst hx;refine⟨λargs w=>?_,?_⟩
 ·unfold callFunc;have hn : fn.name ≠ "runtime.NumGoroutine" := by simpa using hname
  simp[hfn,hn,hbody]
 intro A w γ hg nx vs hr hex hwf hf hv K cs hcalm;dsimp only at h;rw[aa]at h
 split at h
 rotate_left
 ·cases h
 rename_i hle;rw[Q6,au]at hle
 let b:Frame:={ (default:Frame) with fn:=f,kind:=K,roundOf:=none }
 let a0:Act:={ tmps:=vs.toArray++Array.replicate (fn.ntmps - vs.toArray.size) undef,defers:=[] }
 have henter:Frame.enter C.P f vs.toArray K=b.atR a0 [.code c]:=by simp[Frame.enter,Frame.atR,hfn,hbody,b,a0]
 have key:∀{e:Ex} {t1:T} {df:List ADf} {g1:G},(aM C fn.ntmps c).run ih (bd+1) none (bh 0 as .nil) [] g=.ok e t1 df g1->(∀j,e≠.exit j)->bB ih (bd+1) r.run t1 df g1=.ok v g' ->
   ∃u w' γ' hg',Fin C A bd w γ hg nx g w' γ' hg' g'/\RV w' γ' A bd v u/\Outs C.P K f vs.toArray cs w u w':=by
  intro e t1 df g1 hc hne hend;have m1:=iU hC.mon hi.mon _ hc hwf;have wf1:=m1.wf hwf;unfold bB at hend
  split at hend
  ·cases hend
  rename_i g2 h2;have m2:=kW hi.mon h2 wf1
  split at hend
  rotate_left
  ·cases hend
  rename_i xs hxs;injection hend with h1 h2';subst h2';subst h1;obtain⟨a1,w1,γ1,hg1,f1,tr1,dr1,ar1⟩:=vI hC hi c hc A w γ hg nx b a0 [] cs hr hex hwf (hf.le m2.nx) (xH hv hle) trivial rfl hcalm;have hret:∃fr:Frame,Steps C.P (lone (Frame.enter C.P f vs.toArray K) cs w) (lone fr cs w1)/\fr.mode=.returning/\fr.defers=a1.defers/\fr.kind=K/\fr.fn=f/\fr.tmps=a1.tmps:=by
   rw[henter];cases e with
   |norm=>exact⟨{ b.atR a1 [] with mode:=.returning },Steps.trans ar1 (.one (stepR_end rfl)),rfl,rfl,rfl,rfl,rfl⟩
   | ret =>
    obtain⟨k₁,ar1⟩:=ar1;exact⟨{ b.atR a1 (.code .ret::k₁) with mode:=.returning },Steps.trans ar1 (.one (stepR_ret rfl)),rfl,rfl,rfl,rfl,rfl⟩
   |exit j=>exact absurd rfl (hne j)
  obtain⟨fr,st1,q1,q2,q3,q4,q5⟩:=hret;obtain⟨w2,γ2,hg2,f2,st2⟩:=Bq hi h2 wf1 (fr:=fr) (cs:=cs) f1.rel (f1.ext m1 hex) (f1.freed hr m1 hf) (by rw[q2];exact dr1) q1;have f12:=f1.trans f2 m1 m2;obtain⟨us,hus,hrv⟩:=yx hC (tr1.step f2.stp) f12.rel (f12.ext (m1.trans m2) hex) hres hxs;obtain⟨u,hu,hone⟩:=rN (γ:=γ2) (A:=A) (bd:=bd) hus;exact⟨u,w2,γ2,hg2,f12,hone hrv,{ fr with defers:=[] },Steps.trans st1 st2,q1,rfl,q3,q4,fn,hfn,by
   have:({ fr with defers:=[] }:Frame).tmps=a1.tmps:=q5;rw[this];exact hu⟩
 split at h
 ·cases h
 ·rename_i e t1 df g1 hne hc;exact key hc (by rintro j rfl;exact hne j rfl) h
 ·cases h
theorem mg(hC:CfgOk C):∀n,IHOk C (sem C n):=by
 intro n
 induction n with
 |zero=>exact⟨xW hC.mon 0,λbd f as g v g' h=>(by cases h),λbd nt rd c t df g e t' df' g' h=>(by cases h)⟩
 | succ n ihn =>
  refine⟨xW hC.mon (n+1),λbd f as g v g' h=>?_,λbd nt rd c t df g e t' df' g' h=>vI hC ihn c h⟩;change dX C (sem C n) (bd+1) f as g=.ok v g' at h;unfold dX at h
  split at h
  ·rename_i x hx;exact LE hC ihn hx h
  ·cases h
end
end
end
end Hx
section
namespace Hx
open Go Go.RowKit
def gm0:Gm:=λ_=>⟨0,0,0,0,0,0,0,false⟩
def av0:Nat->Nat->Prop:=λ_ _=>False
theorem OD(b:Nat):¬Mut gm0 b:=by rintro⟨id,h,_⟩;exact h rfl
abbrev RV0 (w:World)(x:AV)(v:Value):Prop:=RV w gm0 av0 0 x v
abbrev RVs0 (w:World)(xs:List AV)(vs:List Value):Prop:=RVs w gm0 av0 0 xs vs
theorem A5:G.empty.h.get=λ_=>AObj.none:=by funext id;simp[G.empty,H.get,Pc]
theorem BP{C:Cfg}(hC:CfgOk C){n f:Nat}{as:List AV}{v:AV}{g':G}(h:(sem C n).call 1 f as G.empty=.ok v g'){w:World}{vs:List Value}(hargs:RVs0 w as vs)
  (hglob:∀gl sz rows,C.glob gl=some (sz,rows)->RV0 w (.tptr 0 sz rows 0 0) (.pointer (some ⟨gl,0,none⟩))) :
  Calls C.P f vs.toArray w λe w'=>∃u γ' A',e=.returned u/\Below w.heap.size w w'/\RV w' γ' A' 0 v u:=by
 intro cs;have c:=mg hC n;obtain⟨_,a⟩:=c.call 0 f as G.empty v g' h;have hr:Rel C av0 0 w gm0 (λ_=>.none) 0 :=
  ⟨λid=>rfl,λid h=>absurd rfl h,λi j h=>absurd rfl h,λid h=>absurd rfl h,λt b h=>h.elim,hglob⟩
 obtain⟨u,w',γ',hg',fin,rv,fr,st,q1,q2,q3,d,fn,q5,l⟩:=a av0 w gm0 _ 0 vs hr (λid h=>by rw[A5]at h;exact absurd rfl h) (λid _=>by rw[A5]) (λ_ _ _=>rfl) hargs .normal cs (.inl rfl);refine⟨.returned u,w',fr,⟨u,γ',av0,rfl,⟨fin.stp.os,fin.stp.tape,fin.stp.output,fin.stp.sz,λk hk=>fin.stp.fr k hk (OD k)⟩,rv⟩,st,d,q1,q2,q3,fn,by rw[d];exact q5,l⟩
theorem Fm{C:Cfg}(hC:CfgOk C){n f:Nat}{as:List AV}{g':G}(h:(sem C n).call 1 f as G.empty=.ok (.bool true) g'){w:World}{vs:List Value}(hargs:RVs0 w as vs)
  (hglob:∀gl sz rows,C.glob gl=some (sz,rows)->RV0 w (.tptr 0 sz rows 0 0) (.pointer (some ⟨gl,0,none⟩))) :
  Calls C.P f vs.toArray w λe w'=>e=.returned (.bool true)/\Below w.heap.size w w' :=
 (BP hC h hargs hglob).mono λe w' ⟨u,γ',A',he,hb,rv⟩=>by cases rv;exact⟨he,hb⟩
end Hx
end
namespace Hx
open Go
noncomputable section
variable {g g':G}{v:AV}{b d nt n i x f c B ti m:Nat}{t t':T}{P:Program}{rd:Option Nat}{df:List ADf}{C:Cfg}{tmps:Array Value}{body:SC}{Q:QT}{pm:List Nat}{assign:Code}{K:AV->G->Prop}{D:ADf->Prop}
end
end Hx
section
namespace Hx
open Go Go.RowKit
theorem CfgOk.plain{P:Program}{iso:Nat->Bool}{glob:Nat->Option (Nat×List (List AV))}(hm:P.follows .mixedOrders=true)(hrf:P.follows .rangeFuncRecover=true) :
  CfgOk { P,iso,ext:=λ_=>none,glob } :=
 ⟨hm,hrf,λf e h=>(by cases h),λf e h=>(by cases h),λf e h=>(by cases h)⟩
theorem Rel.cfg{C C':Cfg}(h:C'.glob=C.glob){A:Nat->Nat->Prop}{bd:Nat}{w:World}{γ:Gm}{hg:Nat->AObj}{nx:Nat}(r:Rel C A bd w γ hg nx):Rel C' A bd w γ hg nx :=
 ⟨r.obj,r.lt,r.inj,r.av,r.ab,by rw[h];exact r.glob⟩
theorem Fin.cfg{C C':Cfg}(h:C'.glob=C.glob){A:Nat->Nat->Prop}{bd:Nat}{w w':World}{γ γ':Gm}{hg hg':Nat->AObj}{nx:Nat}{g g':G}(f:Fin C A bd w γ hg nx g w' γ' hg' g') :
  Fin C' A bd w γ hg nx g w' γ' hg' g':=⟨f.rel.cfg h,f.stp,f.new⟩
structure ExtOk (C:Cfg) (f:Nat) (e:Nat->List AV->G->OR):Prop where
 mon:∀d args g,WF g->Mon g (gOf g (e d args g))
 noDfr:∀d args g y,e d args g≠.dfr y
 run:∀A bd w γ hg nx g as vs,Rel C A bd w γ hg nx->WF g->(∀id∈as.flatMap (aH g.h aD),g.h.get id≠.none->hg id=g.h.get id)->Free γ g (gOf g (e (bd+1) as g)) ->
  RVs w γ A bd as vs->e (bd+1) as g≠.fail->∀cs,
  ∃u w' γ' hg',Fin C A bd w γ hg nx g w' γ' hg' (gOf g (e (bd+1) as g))/\RV w' γ' A bd (vOf (e (bd+1) as g)) u /\
   ((callFunc f vs.toArray).run C.P w=.ok (.value u) w'\/(Enters C.P f/\Outs C.P .normal f vs.toArray cs w u w'))
noncomputable def Cfg.add(C:Cfg)(f:Nat)(e:Nat->List AV->G->OR):Cfg:={ C with ext:=λk=>ap (Nat.beq k f) (some e) (C.ext k) }
theorem ExtOk.cfg{C C':Cfg}{f:Nat}{e:Nat->List AV->G->OR}(hp:C'.P=C.P)(hgl:C'.glob=C.glob)(h:ExtOk C f e):ExtOk C' f e:=by refine⟨h.mon,h.noDfr,λA bd w γ hg nx g as vs hr hwf hx hf hv hne cs=>?_⟩;obtain⟨u,w',γ',hg',fin,rv,out⟩:=h.run A bd w γ hg nx g as vs (hr.cfg hgl.symm) hwf hx hf hv hne cs;exact⟨u,w',γ',hg',fin.cfg hgl,rv,by rw[hp];exact out⟩
theorem CfgOk.add{C:Cfg}(h:CfgOk C){f:Nat}{e:Nat->List AV->G->OR}(he:ExtOk C f e):CfgOk (C.add f e):=by
 have which:∀k e',(C.add f e).ext k=some e'->(k=f/\e'=e)\/C.ext k=some e':=by
  intro k e' hk;have hk:ap (Nat.beq k f) (some e) (C.ext k)=some e':=hk;rw[aa]at hk
  split at hk
  ·rename_i hb;injection hk with hk;exact .inl ⟨ay hb,hk.symm⟩
  ·exact .inr hk
 refine⟨h.mixed,h.recov,λk e' hk d args g hwf=>?_,λk e' hk d args g y=>?_,λk e' hk A bd w γ hg nx g as vs hr hwf hx hf hv hne cs=>?_⟩
 ·rcases which k e' hk with⟨_,rfl⟩|hk
  ·exact he.mon d args g hwf
  ·exact h.mon k e' hk d args g hwf
 ·rcases which k e' hk with⟨_,rfl⟩|hk
  ·exact he.noDfr d args g y
  ·exact h.noDfr k e' hk d args g y
 ·rcases which k e' hk with⟨rfl,rfl⟩|hk
  ·obtain⟨u,w',γ',hg',fin,rv,out⟩:=he.run A bd w γ hg nx g as vs (Rel.cfg (C:=C.add k e') (C':=C) rfl hr) hwf hx hf hv hne cs;exact⟨u,w',γ',hg',Fin.cfg (C:=C) (C':=C.add k e') rfl fin,rv,out⟩
  ·obtain⟨u,w',γ',hg',fin,rv,out⟩:=h.ext k e' hk A bd w γ hg nx g as vs (Rel.cfg (C:=C.add f e) (C':=C) rfl hr) hwf hx hf hv hne cs;exact⟨u,w',γ',hg',Fin.cfg (C:=C) (C':=C.add f e) rfl fin,rv,out⟩
noncomputable def yH(v:AV):Nat->List AV->G->OR:=λd as _ =>
 match d with
 | 1=>match as with
  |[]=>.val v
  |_=>.fail
 |_=>.fail
theorem Dx{ih:IH}{d:Nat}{g g0:G}{f:Nat}{v:AV}(h:ah ih d g0 f []=.val v):ah ih d g f []=.val v:=by
 unfold ah at h ⊢;simp only[aF]at h ⊢;cases hc:ih.call (Nat.succ d) f [] G.empty with
 |fail=>rw[hc]at h;cases h
 | ok r g' =>
  rw[hc]at h;dsimp only at h ⊢;cases hs:snap g'.h 0 aD r with
  |none=>rw[hs]at h;cases h
  | some r' =>
   rw[hs]at h;dsimp only at h ⊢;cases hm:dU aD r' with
   |none=>rw[hm]at h;cases h
   | some m =>
    rw[hm]at h;dsimp only at h ⊢;cases hb:Nat.blt m d with
    |true=>rw[hb]at h;exact h
    | false =>
     rw[hb]at h
     split at h
     ·cases h
     ·split at h
      ·cases h
      ·rename_i m' k;cases hb':Nat.blt m' d with
       |true=>rw[hb']at h;cases h
       |false=>rw[hb']at h;cases h
theorem HV{C:Cfg}(hC:CfgOk C){n f:Nat}{v:AV}(h:ah (sem C n) 1 G.empty f []=.val v):ExtOk C f (yH v):=by
 have sh:∀d args g,yH v d args g=.fail\/(d=1/\args=[]/\yH v d args g=.val v):=by
  intro d args g;unfold yH
  split
  ·split
   ·exact .inr ⟨rfl,rfl,rfl⟩
   ·exact .inl rfl
  ·exact .inl rfl
 refine⟨λd args g _=>?_,λd args g y hy=>?_,λA bd w γ hg nx g as vs hr hwf hx hf hv hne cs=>?_⟩
 ·rcases sh d args g with h|⟨_,_,h⟩<;>rw[h]<;>exact Mon.refl g
 ·rcases sh d args g with h|⟨_,_,h⟩<;>rw[h]at hy<;>cases hy
 ·rcases sh (bd+1) as g with h0|⟨h1,rfl,h0⟩
  ·exact absurd h0 hne
  ·have a:bd=0:=by omega
   subst a;have hc:=Dx (g:=g) h;rw[h0];have k:=mg hC n;obtain⟨he,u,w',γ',hg',fin,rv,out⟩:=mO (args:=[]) (f:=f) k.call k.mon.call hr hx hv (by rw[hc];simp) cs;rw[hc]at fin rv;exact⟨u,w',γ',hg',fin,rv,.inr ⟨he,out⟩⟩
noncomputable def qN{α:Type}(f:α->α->Bool):List α->List α->Bool
 |[],[]=>true
 |a::as,b::bs=>ap (f a b) (qN f as bs) false
 |_,_=>false
noncomputable def BX:Nat->AV->AV->Bool
 |0,_,_=>false
 | n+1,x,y=>match x with
  |.bool a=>match y with|.bool b=>ap a b (iA b)|_=>false
  |.int k a=>match y with|.int k' b=>ap (cC k k') (Ig a b) false|_=>false
  |.tup a=>match y with|.tup b=>qN (BX n) a b|_=>false
  |.agg a=>match y with|.agg b=>qN (BX n) a b|_=>false
  |.nilp=>match y with|.nilp=>true|_=>false
  |.nils=>match y with|.nils=>true|_=>false
  |.nilf=>match y with|.nilf=>true|_=>false
  |.nilm=>match y with|.nilm=>true|_=>false
  |.nili=>match y with|.nili=>true|_=>false
  |.esl=>match y with|.esl=>true|_=>false
  |.tsl t s r=>match y with|.tsl t' s' r'=>ap (Nat.beq t t'&&Nat.beq s s') (qN (qN (BX n)) r r') false|_=>false
  |.clo f a c=>match y with|.clo f' a' c'=>ap (Nat.beq f f') (ap (qN (BX n) a a') (qN (BX n) c c') false) false|_=>false
  |_=>false
theorem yP{α:Type}{f:α->α->Bool}(hf:∀a b,f a b=true->a=b):∀{l l':List α},qN f l l'=true->l=l':=by
 intro l
 induction l with
 | nil=>intro l' h;cases l' with
  |nil=>rfl
  |cons b bs=>cases h
 | cons a as ih=>intro l' h;cases l' with
  |nil=>cases h
  | cons b bs =>
   simp only[qN,aa]at h
   split at h
   ·rename_i h1;rw[hf a b h1,ih h]
   ·cases h
theorem LP:∀(n:Nat) (x y:AV),BX n x y=true->x=y:=by
 intro n
 induction n with
 |zero=>intro x y h;cases h
 | succ n ih =>
  intro x y h;have l1:=λ{l l':List AV} (h:qN (BX n) l l'=true)=>yP ih h;cases x<;>cases y<;>simp only[BX]at h<;>first| (cases h;done)|rfl|skip
  ·rename_i a b;cases a<;>cases b<;>first|rfl| (cases h;done)
  ·rename_i k a k' b;rw[aa]at h
   split at h
   ·rename_i hk;rw[kT]at hk;rw[uU]at h;simp only[QQ]at hk h;rw[hk,h]
   ·cases h
  ·rw[l1 h]
  ·rw[l1 h]
  ·rw[aa]at h
   split at h
   ·rename_i hk;simp only[Qy]at hk;rw[ay hk.1,ay hk.2,yP (λa b h=>l1 h) h]
   ·cases h
  ·rw[aa]at h
   split at h
   ·rename_i hf;rw[aa]at h
    split at h
    ·rename_i ha;rw[ay hf,l1 ha,l1 h]
    ·cases h
   ·cases h
noncomputable def xK(as:List AV):List (List AV×AV)->Option AV
 |[]=>none
 |e::r=>ap (qN (BX aD) e.1 as) (some e.2) (xK as r)
theorem Dk{as:List AV}{v:AV}:∀{l:List (List AV×AV)},xK as l=some v->(as,v)∈l:=by
 intro l
 induction l with
 |nil=>intro h;cases h
 | cons e r ih =>
  intro h;simp only[xK,aa]at h
  split at h
  ·rename_i he;injection h with h;have:=yP (LP aD) he;subst this;subst h;exact Rm
  ·exact Rj _ (ih h)
noncomputable def jX(d:Nat):FR->Option AV
 |.fail=>none
 | .ok r g'=>match snap g'.h 0 aD r with
  |none=>none
  | some r'=>match dU aD r' with
   |none=>none
   |some m=>ap (Nat.blt m d) (some r') none
theorem Dy{ih:IH}{d:Nat}{g:G}{f:Nat}{args as:List AV}{v:AV}(hs:aF (snap g.h d aD) args=some as)(h:jX d (ih.call (Nat.succ d) f as G.empty)=some v) :
  ah ih d g f args=.val v:=by
 unfold ah;rw[hs];dsimp only;cases hc:ih.call (Nat.succ d) f as G.empty with
 |fail=>rw[hc]at h;cases h
 | ok r g' =>
  rw[hc]at h;simp only[jX]at h;dsimp only;cases hs':snap g'.h 0 aD r with
  |none=>rw[hs']at h;cases h
  | some r' =>
   rw[hs']at h;dsimp only at h ⊢;cases hm:dU aD r' with
   |none=>rw[hm]at h;cases h
   | some m =>
    rw[hm]at h;dsimp only at h ⊢;cases hb:Nat.blt m d with
    |true=>rw[hb]at h;injection h with h;rw[h]
    |false=>rw[hb]at h;cases h
end Hx
end
namespace Hx
open Go
noncomputable section
variable {g g':G}{v:AV}{b d nt n i x f c B ti m:Nat}{t t':T}{P:Program}{rd:Option Nat}{df:List ADf}{C:Cfg}{tmps:Array Value}{body:SC}{Q:QT}{pm:List Nat}{assign:Code}{K:AV->G->Prop}{D:ADf->Prop}
section
variable {y:Nat}
def kR(J:PT)(b:Nat)(Q:QT):QT:=λe t df g=>match e with
 |.norm=>J t df g
 |.exit x=>if x=b then J t df g else Q (.exit x) t df g
 |.ret=>Q .ret t df g
theorem Cb(J:PT)(b:Nat)(Q:QT)(t:T)(df:List ADf)(g:G):kR J b Q .norm t df g=J t df g:=rfl
theorem mP(J:PT)(b x:Nat)(Q:QT)(t:T)(df:List ADf)(g:G):kR J b Q (.exit x) t df g=if x=b then J t df g else Q (.exit x) t df g:=rfl
theorem Kf(J:PT)(b:Nat)(Q:QT)(t:T)(df:List ADf)(g:G):kR J b Q .ret t df g=Q .ret t df g:=rfl
variable {C:Cfg}{d:Nat}{rd:Option Nat}
theorem cK:∀(s:SC) {Q Q':QT} {t:T} {df:List ADf} {g:G},wp C d rd s Q t df g->(∀e t df g,Q e t df g->Q' e t df g)->wp C d rd s Q' t df g:=by
 have j:∀(l:List SI) {Q Q':PT} {t:T} {df:List ADf} {g:G},wpO C d rd l Q t df g->(∀t df g,Q t df g->Q' t df g)->wpO C d rd l Q' t df g:=by
  intro l
  induction l with
  |nil=>intro Q Q' t df g h hq;exact hq _ _ _ h
  | cons i r ih =>
   intro Q Q' t df g h hq;have run:∀t df g,qE C d rd i (wpO C d rd r Q) t df g->qE C d rd i (wpO C d rd r Q') t df g:=λt df g h =>
    OR.sat_mono h (λv g' h=>ih h hq) (λa h=>ih h hq)
   have skp:∀t df g,wR i (wpO C d rd r Q) t df g->wR i (wpO C d rd r Q') t df g:=λt df g h=>ih h hq;unfold wpO at h ⊢
   split at h
   ·exact run _ _ _ h
   ·rename_i s w hg;unfold gdP at h ⊢
    split at h
    ·rw[aa]at h ⊢
     split at h
     ·rename_i hw;rw[QA hw];exact⟨λq=>run _ _ _ (h.1 q),λq=>skp _ _ _ (h.2 q)⟩
     ·rename_i hw;rw[Qw hw];exact⟨λq=>skp _ _ _ (h.1 q),λq=>run _ _ _ (h.2 q)⟩
    ·exact skp _ _ _ h
    ·exact h
 have m:∀(pm:List Nat) (l:List SI) {Q Q':PT} {t:T} {df:List ADf} {g:G} {fs:List Foot},wpF C d rd pm l Q t df g fs->(∀t df g,Q t df g->Q' t df g)->wpF C d rd pm l Q' t df g fs:=by
  intro pm l
  induction l with
  |nil=>intro Q Q' t df g fs h hq;exact⟨h.1,hq _ _ _ h.2⟩
  | cons i r ih =>
   intro Q Q' t df g fs h hq;have run:∀t df g,IF C d rd i (wpF C d rd pm r Q) fs t df g->IF C d rd i (wpF C d rd pm r Q') fs t df g:=λt df g h =>
    OR.sat_mono h (λv g' h=>ih h hq) (λa h=>h)
   have skp:∀t df g,Ez i (wpF C d rd pm r Q) fs t df g->Ez i (wpF C d rd pm r Q') fs t df g:=λt df g h=>ih h hq;unfold wpF at h ⊢
   split at h
   ·exact run _ _ _ h
   ·rename_i s w hg;unfold gdP at h ⊢
    split at h
    ·rw[aa]at h ⊢
     split at h
     ·rename_i hw;rw[QA hw];exact⟨λq=>run _ _ _ (h.1 q),λq=>skp _ _ _ (h.2 q)⟩
     ·rename_i hw;rw[Qw hw];exact⟨λq=>skp _ _ _ (h.1 q),λq=>run _ _ _ (h.2 q)⟩
    ·exact skp _ _ _ h
    ·exact h
 intro s
 induction s with
 |skip=>intro Q Q' t df g h hq;exact hq _ _ _ _ h
 |ops l=>intro Q Q' t df g h hq;exact j l h (hq _)
 |quiet l=>intro Q Q' t df g h hq;exact j l h (λt df g' h=>⟨h.1,h.2.1,hq _ _ _ _ h.2.2⟩)
 |feet pm l=>intro Q Q' t df g h hq;exact m pm l h (hq _)
 | seq a b iha ihb =>
  intro Q Q' t df g h hq;refine iha h λe t df g h=>?_;cases e with
  |norm=>exact ihb h hq
  |exit x=>exact hq _ _ _ _ h
  |ret=>exact hq _ _ _ _ h
 | cond c a b iha ihb =>
  intro Q Q' t df g h hq;have h:wpC (c.get t) (wp C d rd a Q) (wp C d rd b Q) t df g:=h;show wpC (c.get t) (wp C d rd a Q') (wp C d rd b Q') t df g;unfold wpC at h ⊢
  split at h
  ·exact⟨λq=>iha (h.1 q) hq,λq=>ihb (h.2 q) hq⟩
  ·exact h
 | blk id b ih =>
  intro Q Q' t df g h hq;refine ih h λe t df g h=>?_;cases e with
  |norm=>exact hq _ _ _ _ h
  | exit x =>
   rw[pD]at h ⊢
   split at h
   ·rename_i e;rw[QA e];exact hq _ _ _ _ h
   ·rename_i e;rw[Qw e];exact hq _ _ _ _ h
  |ret=>exact hq _ _ _ _ h
 | loop b ih =>
  intro Q Q' t df g h hq;obtain⟨Inv,hk,hs⟩:=h;refine⟨Inv,hk,λk t df g hi=>ih (hs k t df g hi) λe t df g h=>?_⟩;cases e with
  |norm=>exact h
  |exit x=>exact hq _ _ _ _ h
  |ret=>exact hq _ _ _ _ h
 |exit id=>intro Q Q' t df g h hq;exact hq _ _ _ _ h
 |ret=>intro Q Q' t df g h hq;exact hq _ _ _ _ h
 |rng nt f ps a b _ _=>intro Q Q' t df g h hq assign body ha hb;exact CR.sat_mono (h assign body ha hb) hq
 |raw nt c=>intro Q Q' t df g h hq;exact CR.sat_mono h hq
theorem bz{tn k:Nat}(hm:m<9223372036854775808)(J:Nat->PT)
  (h0:J 0 t df g) (hi:tat t ti=.int .i64 0) (hn:tat t tn=.int .i64 (m:Int)) (hc:c≠ti/\c≠tn/\k≠tn/\ti≠tn/\b≠B)
  (hJ:∀j t df g v s,s=c\/s=ti\/s=k->J j t df g->J j (fj t s v) df g)
  (step:∀j t df g,j<m->J j t df g->tat t ti=.int .i64 (j:Int)->tat t tn=.int .i64 (m:Int) ->
   wp C d rd body (kR (λt df g=>J (j+1) t df g/\tat t ti=.int .i64 (j:Int)/\tat t tn=.int .i64 (m:Int)) b Q) t df g)
  (fin:∀t df g,J m t df g->Q (.exit B) t df g) :
  wpL (wp C d rd (.seq (.ops [o c (.bin .lss (.t ti) (.t tn))]) (.seq (.cond (.t c) .skip (.exit B)) (.seq (.blk b body) (.ops [o k (.bin .add (.t ti) (.k (.int .i64 1))),o ti (.mv (.t k))]))))) Q t df g:=by
 obtain⟨c1,f,i,l,p⟩:=hc;refine rZ (λn t df g=>∃j:Nat,n=m - j/\j<=m/\J j t df g/\tat t ti=.int .i64 (j:Int)/\tat t tn=.int .i64 (m:Int)) m ⟨0,by omega,by omega,h0,hi,hn⟩ ?_;rintro n t df g ⟨j,rfl,q,a,h1,h2⟩;simp only[sx,SO.run,↓reduceIte,h1,h2];refine⟨λhq=>?_,λhq=>?_⟩
 ·have hlt:j<m:=by simpa using hq
  simp only[sx];refine cK _ (step j _ df g hlt (hJ _ _ _ _ _ _ (.inl rfl) a) (by simp only[d8];rw[Qw (RJ c1),h1]) (by simp only[d8];rw[Qw (RJ f),h2])) λe t df g h=>?_;have key:J (j+1) t df g/\tat t ti=.int .i64 (j:Int)/\tat t tn=.int .i64 (m:Int)->wp C d rd (.ops [o k (.bin .add (.t ti) (.k (.int .i64 1))),o ti (.mv (.t k))])
    (kL (λn t df g=>∃j:Nat,n=m - j/\j<=m/\J j t df g/\tat t ti=.int .i64 (j:Int)/\tat t tn=.int .i64 (m:Int)) (m - j) Q) t df g:=by
   rintro⟨a1,a2,a3⟩;simp only[sx,SO.run,a2,↓reduceIte];refine⟨_,?_,j+1,rfl,by omega,hJ _ _ _ _ _ _ (.inr (.inl rfl)) (hJ _ _ _ _ _ _ (.inr (.inr rfl)) a1),?_,?_⟩
   ·omega
   ·rw[aA (by omega) (by omega)];rfl
   ·rw[Qw (RJ l),Qw (RJ i),a3]
  cases e with
  |norm=>exact key h
  |ret=>exact h
  | exit x =>
   rw[mP]at h;rw[pD]
   split at h
   ·rename_i e;rw[QA e];exact key h
   ·rename_i e;rw[Qw e];exact h
 ·have:j=m:=by simp at hq;omega
  subst this;simp only[sx];exact fin _ _ _ (hJ _ _ _ _ _ _ (.inl rfl) a)
theorem HB{Hd inc:SC}(J:Nat->PT)(h0:J 0 t df g)
  (hd:∀j t df g,j<=m->J j t df g->wp C d rd Hd (λe t df g=>e=.norm/\tat t c=.bool (decide (j<m))/\J j t df g) t df g)
  (step:∀j t df g,j<m->J j t df g->wp C d rd body (kR (λt df g=>wp C d rd inc (λe t df g=>e=.norm/\J (j+1) t df g) t df g) b Q) t df g)
  (fin:∀t df g,J m t df g->Q (.exit B) t df g) :
  wpL (wp C d rd (.seq (.seq Hd (.cond (.t c) .skip (.exit B))) (.seq (.blk b body) inc))) Q t df g:=by
 refine rZ (λn t df g=>∃j:Nat,n=m - j/\j<=m/\J j t df g) m ⟨0,by omega,by omega,h0⟩ ?_;rintro n t df g ⟨j,rfl,a,k⟩;simp only[dW];refine cK _ (hd j t df g a k) ?_;rintro e t df g ⟨rfl,hq,k⟩;simp only[sx,hq];refine⟨λhq=>?_,λhq=>?_⟩
 ·have hlt:j<m:=by simpa using hq
  simp only[sx];refine cK _ (step j t df g hlt k) λe t df g h=>?_;have key:wp C d rd inc (λe t df g=>e=.norm/\J (j+1) t df g) t df g->wp C d rd inc (kL (λn t df g=>∃j:Nat,n=m - j/\j<=m/\J j t df g) (m - j) Q) t df g:=by intro h;refine cK _ h ?_;rintro e t df g ⟨rfl,h⟩;exact⟨_,by omega,j+1,rfl,by omega,h⟩
  cases e with
  |norm=>exact key h
  |ret=>exact h
  | exit x =>
   rw[mP]at h;rw[pD]
   split at h
   ·rename_i e;rw[QA e];exact key h
   ·rename_i e;rw[Qw e];exact h
 ·have:j=m:=by simp at hq;omega
  subst this;simp only[sx];exact fin _ _ _ k
theorem sP{a b' e sl:Nat}(hm:m<9223372036854775808)(hlen:∀g,gz .slice v g=.val (.int .i64 (m:Int)))(J:Nat->PT)
  (h0:J 0 t df g) (hi:tat t ti=.int .i64 0) (hs:tat t sl=v)
  (hc:(a≠ti/\b'≠ti/\e≠ti/\c≠ti)/\(a≠sl/\b'≠sl/\e≠sl/\c≠sl/\x≠sl/\y≠sl/\ti≠sl)/\a≠b'/\a≠e/\x≠y)
  (hJ:∀j t df g v s,s=a\/s=b'\/s=e\/s=c\/s=ti\/s=x\/s=y->J j t df g->J j (fj t s v) df g)
  (step:∀j t df g,j<m->J j t df g->tat t ti=.int .i64 (j:Int)->tat t sl=v ->
   wp C d rd body (kR (λt df g=>J (j+1) t df g/\tat t ti=.int .i64 (j:Int)/\tat t sl=v) b Q) t df g)
  (fin:∀t df g,J m t df g->tat t sl=v->Q (.exit B) t df g) :
  wpL (wp C d rd (.seq (.seq (.ops [o a (.mv (.t ti)),o b' (.mv (.t sl)),o e (.len .slice (.t b')),o c (.bin .lss (.t a) (.t e))]) (.cond (.t c) .skip (.exit B))) (.seq (.blk b body)
   (.ops [o x (.mv (.t ti)),o y (.bin .add (.t x) (.k (.int .i64 1))),o ti (.mv (.t y))])))) Q t df g:=by
 obtain⟨⟨q1,q2,q3,l⟩,⟨n,p,q,r,r5,u,w⟩,p1,p2,p3⟩:=hc;refine HB (m:=m) (λj t df g=>J j t df g/\tat t ti=.int .i64 (j:Int)/\tat t sl=v) ⟨h0,hi,hs⟩ ?_ ?_ (λt df g h=>fin t df g h.1 h.2.2)
 ·rintro j t df g i ⟨h1,h2,f⟩;simp only[sx,SO.run,h2,f,hlen,p1,p2,RJ n,↓reduceIte,RJ q1,RJ q2,RJ q3,RJ l,RJ p,RJ q,RJ r,true_and,and_true];refine⟨by congr 1;simp,hJ _ _ _ _ _ _ (.inr (.inr (.inr (.inl rfl)))) (hJ _ _ _ _ _ _ (.inr (.inr (.inl rfl))) (hJ _ _ _ _ _ _ (.inr (.inl rfl)) (hJ _ _ _ _ _ _ (.inl rfl) h1)))⟩
 ·rintro j t df g i ⟨h1,h2,f⟩;refine cK _ (step j t df g i h1 h2 f) λe t df g h=>?_;have key:J (j+1) t df g/\tat t ti=.int .i64 (j:Int)/\tat t sl=v->wp C d rd (.ops [o x (.mv (.t ti)),o y (.bin .add (.t x) (.k (.int .i64 1))),o ti (.mv (.t y))])
    (λe t df g=>e=.norm/\J (j+1) t df g/\tat t ti=.int .i64 ((j+1:Nat):Int)/\tat t sl=v) t df g:=by
   rintro⟨h1,h2,f⟩;simp only[sx,SO.run,h2,↓reduceIte,RJ r5,RJ u,RJ w,f,true_and,and_true];refine⟨hJ _ _ _ _ _ _ (.inr (.inr (.inr (.inr (.inl rfl))))) (hJ _ _ _ _ _ _ (.inr (.inr (.inr (.inr (.inr (.inr rfl)))))) (hJ _ _ _ _ _ _ (.inr (.inr (.inr (.inr (.inr (.inl rfl)))))) h1)),?_⟩;rw[aA (by omega) (by omega)];rfl
  cases e with
  |norm=>exact key h
  |ret=>exact h
  | exit x =>
   rw[mP]at h ⊢
   split at h
   ·rename_i e;rw[QA e];exact key h
   ·rename_i e;rw[Qw e];exact h
theorem vB{a:Nat}(hm:m<9223372036854775808)(J:Nat->PT)
  (h0:J m t df g) (hi:tat t ti=.int .i64 ((m:Int) - 1)) (hc:a≠ti/\c≠ti/\x≠ti)
  (hJ:∀j t df g v s,s=a\/s=c\/s=ti\/s=x\/s=y->J j t df g->J j (fj t s v) df g)
  (step:∀j t df g,j<m->J (j+1) t df g->tat t ti=.int .i64 (j:Int)->wp C d rd body (kR (λt df g=>J j t df g/\tat t ti=.int .i64 (j:Int)) b Q) t df g)
  (fin:∀t df g,J 0 t df g->Q (.exit B) t df g) :
  wpL (wp C d rd (.seq (.seq (.ops [o a (.mv (.t ti)),o c (.bin .geq (.t a) (.k (.int .i64 0)))]) (.cond (.t c) .skip (.exit B))) (.seq (.blk b body)
   (.ops [o x (.mv (.t ti)),o y (.bin .sub (.t x) (.k (.int .i64 1))),o ti (.mv (.t y))])))) Q t df g:=by
 obtain⟨c1,i,l⟩:=hc;refine rZ (λn t df g=>n<=m/\J n t df g/\tat t ti=.int .i64 ((n:Int) - 1)) m ⟨Qv _,h0,hi⟩ ?_;rintro n t df g ⟨p,f,h1⟩;simp only[sx,SO.run,↓reduceIte,h1];refine⟨λhq=>?_,λhq=>?_⟩
 ·obtain⟨j,rfl⟩:∃j,n=j+1:=⟨n - 1,by simp at hq;omega⟩;simp only[sx];refine cK _ (step j _ df g (by omega) (hJ _ _ _ _ _ _ (.inr (.inl rfl)) (hJ _ _ _ _ _ _ (.inl rfl) f)) (by simp only[d8];rw[Qw (RJ i),Qw (RJ c1),h1];congr 1;omega)) λe t df g h=>?_;have key:J j t df g/\tat t ti=.int .i64 (j:Int)->wp C d rd (.ops [o x (.mv (.t ti)),o y (.bin .sub (.t x) (.k (.int .i64 1))),o ti (.mv (.t y))])
    (kL (λn t df g=>n<=m/\J n t df g/\tat t ti=.int .i64 ((n:Int) - 1)) (j+1) Q) t df g:=by
   rintro⟨a1,a2⟩;simp only[sx,SO.run,a2,↓reduceIte];refine⟨j,by omega,by omega,hJ _ _ _ _ _ _ (.inr (.inr (.inl rfl))) (hJ _ _ _ _ _ _ (.inr (.inr (.inr (.inr rfl)))) (hJ _ _ _ _ _ _ (.inr (.inr (.inr (.inl rfl)))) a1)),?_⟩;rw[aA (by omega) (by omega)]
  cases e with
  |norm=>exact key h
  |ret=>exact h
  | exit x =>
   rw[mP]at h;rw[pD]
   split at h
   ·rename_i e;rw[QA e];exact key h
   ·rename_i e;rw[Qw e];exact h
 ·have:n=0:=by simp at hq;omega
  subst this;simp only[sx];exact fin _ _ _ (hJ _ _ _ _ _ _ (.inr (.inl rfl)) (hJ _ _ _ _ _ _ (.inl rfl) f))
theorem be{Hd:List SI}(m:Nat)(hm:m<9223372036854775808)(J:Nat->PT)
  (h0:J 0 t df g) (hi:tat t ti=.int .i64 0) (hx:x≠ti)
  (hJ:∀j t df g v s,s=ti\/s=x\/s=y->J j t df g->J j (fj t s v) df g)
  (hd:∀j t df g,j<=m->J j t df g->tat t ti=.int .i64 (j:Int)->wpO C d rd Hd (λt df g=>tat t c=.bool (decide ((j:Int)<(m:Int)))/\J j t df g/\tat t ti=.int .i64 (j:Int)) t df g)
  (step:∀j t df g,j<m->J j t df g->tat t ti=.int .i64 (j:Int)->wp C d rd body (kR (λt df g=>J (j+1) t df g/\tat t ti=.int .i64 (j:Int)) b Q) t df g)
  (fin:∀t df g,J m t df g->Q (.exit B) t df g) :
  wpL (wp C d rd (.seq (.seq (.ops Hd) (.cond (.t c) .skip (.exit B))) (.seq (.blk b body)
   (.ops [o x (.mv (.t ti)),o y (.bin .add (.t x) (.k (.int .i64 1))),o ti (.mv (.t y))])))) Q t df g:=by
 refine HB (m:=m) (λj t df g=>J j t df g/\tat t ti=.int .i64 (j:Int)) ⟨h0,hi⟩ ?_ ?_ (λt df g h=>fin t df g h.1)
 ·rintro j t df g a ⟨h1,h2⟩;have:=hd j t df g a h1 h2;refine cK (.ops Hd) (Q:=λe t df g=>e=.norm/\tat t c=.bool (decide ((j:Int)<(m:Int)))/\J j t df g/\tat t ti=.int .i64 (j:Int)) (by rw[CM];simpa using this) ?_;rintro e t df g ⟨rfl,a1,a2,a3⟩;refine⟨rfl,?_,a2,a3⟩;rw[a1];congr 1;simp
 ·rintro j t df g a ⟨h1,h2⟩;refine cK _ (step j t df g a h1 h2) λe t df g h=>?_;have key:J (j+1) t df g/\tat t ti=.int .i64 (j:Int)->wp C d rd (.ops [o x (.mv (.t ti)),o y (.bin .add (.t x) (.k (.int .i64 1))),o ti (.mv (.t y))])
    (λe t df g=>e=.norm/\J (j+1) t df g/\tat t ti=.int .i64 ((j+1:Nat):Int)) t df g:=by
   rintro⟨h1,h2⟩;simp only[sx,SO.run,h2,↓reduceIte,true_and];refine⟨hJ _ _ _ _ _ _ (.inl rfl) (hJ _ _ _ _ _ _ (.inr (.inr rfl)) (hJ _ _ _ _ _ _ (.inr (.inl rfl)) h1)),?_⟩;rw[aA (by omega) (by omega)];rfl
  cases e with
  |norm=>exact key h
  |ret=>exact h
  | exit x =>
   rw[mP]at h ⊢
   split at h
   ·rename_i e;rw[QA e];exact key h
   ·rename_i e;rw[Qw e];exact h
end
section
variable {off:Nat}
def vid:AV->Option Nat
 |.hsl id _ _ _ _=>some id
 |_=>none
def Own(g:G)(b:Nat)(v:AV)(sz:Nat)(rows:List (List AV)):Prop :=
 (v=.nils/\rows=[])\/∃id ep lo,b<=id/\id<g.nx/\v=.hsl id ep 0 rows.length none/\g.h.get id=.cells sz rows ep lo false
theorem Own.rows{g:G}{b:Nat}{v:AV}{sz:Nat}{rows:List (List AV)}(h:Own g b v sz rows):af g.h sz v=some rows:=by
 rcases h with⟨rfl,rfl⟩|⟨id,ep,lo,h1,h2,rfl,k⟩
 ·rfl
 ·rw[ff,k,wI]
theorem Own.fr{g:G}{sz:Nat}{rows:List (List AV)}(h:Own g b v sz rows)(hn:g.nx<=g'.nx)(hf:∀i,vid v=some i->g'.h.get i=g.h.get i):Own g' b v sz rows:=by
 rcases h with h|⟨id,ep,lo,h1,h2,rfl,k⟩
 ·exact .inl h
 ·exact .inr ⟨id,ep,lo,h1,by omega,rfl,by rw[hf id rfl,k]⟩
theorem Own.lt{g:G}{sz:Nat}{rows:List (List AV)}(h:Own g b v sz rows)(hi:vid v=some i):b<=i/\i<g.nx:=by
 rcases h with⟨rfl,-⟩|⟨id,ep,lo,h1,h2,rfl,k⟩
 ·cases hi
 ·injection hi with hi;subst hi;exact⟨h1,h2⟩
theorem Own.cell{g:G}{sz:Nat}{rows:List (List AV)}(h:Own g b v sz rows):v.cells=[v]/\v.isTup=false:=by rcases h with⟨rfl,-⟩|⟨id,ep,lo,h1,h2,rfl,k⟩<;>exact⟨rfl,rfl⟩
theorem bD{g:G}{x:AV}{sz bytes:Nat}{rows new:List (List AV)}(hv:Own g b v sz rows)(hx:af g.h sz x=some new)(hb:b<=g.nx)
  (hr:(rows.length+new.length)*bytes<=aQ)
  (k:∀v' g',Own g' b v' sz (rows++new)->g.nx<=g'.nx->(∀i,i<g.nx->vid v≠some i->g'.h.get i=g.h.get i)->(vid v'=vid v\/∃i,vid v'=some i/\g.nx<=i)->(∀i∈g'.lg,i∈g.lg\/b<=i)->K v' g') :
  (dh sz bytes v x g).sat K g D:=by
 unfold dh;rw[hx];dsimp only;rcases hv with⟨rfl,rfl⟩|⟨id,ep,lo,h1,h2,rfl,a⟩
 ·cases new with
  |nil=>exact k _ _ (.inl ⟨rfl,rfl⟩) (Qv _) (λ_ _ _=>rfl) (.inl rfl) (λi hi=>.inl hi)
  | cons r new =>
   simp only[bg,au,aa,Q6];rw[QA (by simpa using hr)];refine k _ _ (.inr ⟨g.nx,0,true,hb,by simp,rfl,by simp[aV]⟩) (by simp) (λi hi _=>?_) (.inr ⟨g.nx,rfl,Qv _⟩) (λi hi=>by simp at hi;rcases hi with rfl|hi;exact .inr hb;exact .inl hi);rw[G.new_h,aE _ _ _ (by omega)]
 ·simp only[bg,G.get_eq,a,au,aa,show Nat.beq ep ep=true from Q7 ep,show Nat.beq sz sz=true from Q7 sz,RS,Q6,Qy,Rc,SS,SN];rw[QA ⟨Qv _,hr⟩];cases new with
  | nil =>
   rw[QA (by simp)];refine k _ _ (.inr ⟨id,ep,lo,h1,h2,by simp,by simpa using a⟩) (Qv _) (λ_ _ _=>rfl) (.inl rfl) (λi hi=>.inl hi)
  | cons r new =>
   rw[Qw (by simp)];have ht:iG rows.length (gH 0 rows)=rows:=by rw[a_,aX];simp
   cases lo with
   | false =>
    rw[QA (by simp)];refine k _ _ (.inr ⟨g.nx,0,true,by omega,by simp,by simp,by simp[aV,ht]⟩) (by simp) (λi hi _=>?_) (.inr ⟨g.nx,rfl,Qv _⟩) (λi hi=>by simp at hi;rcases hi with rfl|hi;exact .inr hb;exact .inl hi);rw[G.new_h,aE _ _ _ (by omega)]
   | true =>
    rw[Qw (by simp)];refine k _ _ (.inr ⟨id,ep+1,true,h1,by simpa using h2,by simp,by simp[aV,ht]⟩) (by simp) (λi hi hne=>?_) (.inl rfl) (λi hi=>by simp at hi;rcases hi with rfl|hi;exact .inr h1;exact .inl hi);rw[G.put_h,aE _ _ _ (λe=>hne (by rw[e];rfl))]
def Fr(g g':G):Prop:=g.nx<=g'.nx/\∀i,i<g.nx->g'.h.get i=g.h.get i
theorem Fr.refl(g:G):Fr g g:=⟨Qv _,λ_ _=>rfl⟩
theorem Fr.trans{g g'':G}(h:Fr g g')(h':Fr g' g''):Fr g g'':=⟨QW h.1 h'.1,λi hi=>by rw[h'.2 i (QV hi h.1),h.2 i hi]⟩
theorem Fr.new(g:G)(o:AObj):Fr g (g.new o):=⟨by simp,λi hi=>by rw[G.new_h,aE _ _ _ (by omega)]⟩
theorem Own.step{g:G}{sz:Nat}{rows:List (List AV)}(h:Own g b v sz rows)(f:Fr g g'):Own g' b v sz rows :=
 h.fr f.1 λi hi=>f.2 i (h.lt hi).2
theorem ID{g:G}{sz:Nat}(f:Fr g g')(hv:∀i,vid v=some i->i<g.nx):af g'.h sz v=af g.h sz v :=
 rP λid ep off len lim e=>by subst e;exact f.2 id (hv id rfl)
theorem ck{g:G}{sz:Nat}{rows:List (List AV)}{row row':List AV}{x:AV}(hv:Own g b v sz rows)(hr:rows[i]?=some row)
  (hl:x.cells.length=n) (ht:x.isTup=false) (hp:bY row off x.cells=some row')
  (k:∀g',Own g' b v sz (rows.set i row')->g'.nx=g.nx->(∀i,vid v≠some i->g'.h.get i=g.h.get i)->K .undef g'):(mi n (jf sz v i off) x g).sat K g D:=by
 rcases hv with⟨rfl,rfl⟩|⟨id,ep,lo,h1,h2,rfl,a⟩
 ·simp at hr
 ·simp only[jf,Rc];rw[zU a hr rfl ht hl hp];refine k _ (.inr ⟨id,ep,lo,h1,by simpa using h2,by simp,by simp[aV]⟩) (by simp) (λi hne=>?_);rw[G.put_h,aE _ _ _ (λe=>hne (by rw[e];rfl))]
theorem uZ{g:G}{sz bytes:Nat}{zero:List AV}{k1 k2:IntKind}(hn:n<=aQ)(hb:n*bytes<=aQ)(hg:b<=g.nx)
  (k:∀v' g',Own g' b v' sz (List.replicate n zero)->g'.nx=g.nx+1->(∀i,i<g.nx->g'.h.get i=g.h.get i)->vid v'=some g.nx->K v' g') :
  (Fs sz bytes zero (.int k1 (n:Int)) (.int k2 (n:Int)) g).sat K g D:=by
 show (match cL aQ (.int k2 (.ofNat n)) with
  | some cn=>match cL cn (.int k1 (.ofNat n)) with
   |some ln=>ap (Nat.ble (cn*bytes) aQ) (OR.upd (.hsl g.nx 0 0 ln none) (g.new (TD sz (gc cn zero)))) .fail
   |none=>.fail
  |none=>.fail).sat K g D
 simp only[cL,aa,Q6,QA hn,Qv,QA hb,if_true];refine k _ _ (.inr ⟨g.nx,0,false,hg,by simp,by simp,by simp[aV,gc]⟩) (by simp) (λi hi=>?_) rfl;rw[G.new_h,aE _ _ _ (by omega)]
theorem Own.sl{α:Type} [Rp α]{g:G}{rows:List (List AV)}{l:List α}{P:Nat->Prop}{k:Nat}(h:Own g b v (Rp.sz α) rows)(hl:l.length<9223372036854775808)(hr:All2 (Rp.rp P k g.h) l rows)
  (hp:∀i,vid v=some i->P i):SlR P k g.h l v:=by
 refine⟨hl,?_⟩;have a:=h.rows;rcases h with⟨rfl,rfl⟩|⟨id,ep,lo,h1,h2,rfl,c⟩
 ·exact QU hr.len
 ·exact⟨hp id rfl,rows,a,hr⟩
theorem Own.ints{g:G}{l:List Int}{k:Nat}(h:Own g b v 1 (l.map ci))(hl:l.length<9223372036854775808):One l (λ_=>True) k g.h v :=
 ⟨v,rfl,Own.sl (α:=Int) h hl (O2 (λa=>aI.2 rfl) l) λ_ _=>trivial⟩
theorem bF{x:OR}{Q:AV->Prop}{g:G}(h:∃r,x=.val r/\Q r)(k:∀r,Q r->K r g):x.sat K g D:=by obtain⟨r,rfl,hr⟩:=h;exact k r hr
section feet
variable {C:Cfg}{d:Nat}{rd:Option Nat}{pm:List Nat}
theorem HA(Q:PT)(t:T)(df:List ADf)(g:G)(fs:List Foot):wpF C d rd pm [] Q t df g fs=(mN pm fs.reverse=true/\Q t df g):=rfl
theorem Ns(n:Nat)(op:SO)(r:List SI)(Q:PT)(t:T)(df:List ADf)(g:G)(fs:List Foot):wpF C d rd pm (o n op::r) Q t df g fs =
  (op.run C d rd t (aK g [])).sat (kF (wpF C d rd pm r Q) (some n) t df g.lg fs (op.foot C t g)) (aK g []) (λ_=>False):=rfl
theorem Lg(op:SO)(r:List SI)(Q:PT)(t:T)(df:List ADf)(g:G)(fs:List Foot):wpF C d rd pm (oz op::r) Q t df g fs =
  (op.run C d rd t (aK g [])).sat (kF (wpF C d rd pm r Q) none t df g.lg fs (op.foot C t g)) (aK g []) (λ_=>False):=rfl
theorem Lf(n s:Nat)(w:Bool)(op:SO)(r:List SI)(Q:PT)(t:T)(df:List ADf)(g:G)(fs:List Foot) :
  wpF C d rd pm (og n s w op::r) Q t df g fs=gdP (tat t s) w (IF C d rd (o n op) (wpF C d rd pm r Q) fs) (Ez (o n op) (wpF C d rd pm r Q) fs) t df g:=rfl
theorem KX(n:Nat)(op:SO)(W:FT)(fs:List Foot)(t:T)(df:List ADf)(g:G):IF C d rd (o n op) W fs t df g =
  (op.run C d rd t (aK g [])).sat (kF W (some n) t df g.lg fs (op.foot C t g)) (aK g []) (λ_=>False):=rfl
theorem Hs(n:Nat)(op:SO)(W:FT)(fs:List Foot)(t:T)(df:List ADf)(g:G):Ez (o n op) W fs t df g=W (fj t n .undef) df g (⟨aw,[]⟩::fs):=rfl
theorem GN(W:FT)(n:Nat)(t:T)(df:List ADf)(lg:List Nat)(fs:List Foot)(lk:Looks)(v:AV)(g:G):kF W (some n) t df lg fs lk v g=W (fj t n v) df (iH g (g.lg++lg)) (⟨lk,g.lg⟩::fs):=rfl
theorem GM(W:FT)(t:T)(df:List ADf)(lg:List Nat)(fs:List Foot)(lk:Looks)(v:AV)(g:G):kF W none t df lg fs lk v g=W t df (iH g (g.lg++lg)) (⟨lk,g.lg⟩::fs):=rfl
theorem jG{sz:Nat}(h:md v=true):am (jf sz v i off)=am v:=by cases v<;>first|rfl|cases h
theorem rL(id ep i off:Nat):am (.hptr id ep i off)=[id]:=rfl
end feet
section looks
variable {C:Cfg}{t:T}{g:G}
theorem M7(x:Od):SO.foot C t g (.mv x)=aw:=rfl
theorem GF(c a b:Od):SO.foot C t g (.pick c a b)=aw:=rfl
theorem Dn(cs:List AV):SO.foot C t g (.alloc cs)=aw:=rfl
theorem JK(x:Od):SO.foot C t g (.box x)=aw:=rfl
theorem Do(z:List AV)(pl:List (Nat×Nat))(vs:List Od):SO.foot C t g (.build z pl vs)=aw:=rfl
theorem JL(sz len:Nat)(z:List AV)(is:List Nat)(vs:List Od):SO.foot C t g (.bsl sz len z is vs)=aw:=rfl
theorem GD(ag:Bool)(n:Nat)(a:Od):SO.foot C t g (.load ag n a)=ak (am (a.get t)):=rfl
theorem Dp(n:Nat)(a x:Od):SO.foot C t g (.store n a x)=ak (am (a.get t)):=rfl
theorem GE(x:Od):SO.foot C t g (.nilc x)=aw:=rfl
theorem JJ(op:BinOp)(x y:Od):SO.foot C t g (.bin op x y)=aw:=rfl
theorem M4(ng:Bool)(ek:EqKind)(x y:Od):SO.foot C t g (.eq ng ek x y)=aw:=rfl
theorem JV(x:Od):SO.foot C t g (.not x)=aw:=rfl
theorem GC(k:IntKind)(x:Od):SO.foot C t g (.conv k x)=aw:=rfl
theorem JT(f:Nat)(a c:List Od):SO.foot C t g (.mkf f a c)=aw:=rfl
theorem JU(sz bt:Nat)(z:List AV)(l c:Od):SO.foot C t g (.mks sz bt z l c)=aw:=rfl
theorem JW(sz:Nat)(x:Od)(lo hi:List Od):SO.foot C t g (.slc sz x lo hi)=ak (am (x.get t)):=rfl
theorem JO(fo:Nat)(x:Od):SO.foot C t g (.fad fo x)=aw:=rfl
theorem JP(ag:Bool)(n fo:Nat)(x:Od):SO.foot C t g (.fld ag n fo x)=aw:=rfl
theorem JR(sz:Nat)(x i:Od):SO.foot C t g (.ixs sz x i)=ak (am (x.get t)):=rfl
theorem JQ(n sz:Nat)(x i:Od):SO.foot C t g (.ixa n sz x i)=aw:=rfl
theorem M5(ag:Bool)(n sz:Nat)(x i:Od):SO.foot C t g (.ix ag n sz x i)=aw:=rfl
theorem JN(x:Od)(i:Nat):SO.foot C t g (.ext x i)=aw:=rfl
theorem JS(x:Od):SO.foot C t g (.len .slice x)=aw:=rfl
theorem JI(sz bt:Nat)(x y:Od):SO.foot C t g (.app sz bt x y)=ak (am (x.get t)++am (y.get t)):=rfl
theorem JM(sz:Nat)(x y:Od):SO.foot C t g (.cpy sz x y)=ak (am (x.get t)++am (y.get t)):=rfl
theorem M8(x y:Od):SO.foot C t g (.mx x y)=ak (am (x.get t)++am (y.get t)):=rfl
theorem M6(x y:Od):SO.foot C t g (.mn x y)=ak (am (x.get t)++am (y.get t)):=rfl
end looks
theorem sf:type_of% (Qs @M7 <|Qs @GF <|Qs @Dn <|Qs @JK <|Qs @Do <|Qs @JL <|Qs @GD <|Qs @Dp <|Qs @GE <|Qs @JJ <|Qs @M4 <|Qs @JV <|Qs @GC <|Qs @JT <|Qs @JU <|Qs @JW <|Qs @JO <|Qs @JP <|Qs @JR <|Qs @JQ <|Qs @M5 <|Qs @JN <|Qs @JS <|Qs @JI <|Qs @JM <|Qs @M8 <|@M6) :=
 Qs @M7 <|Qs @GF <|Qs @Dn <|Qs @JK <|Qs @Do <|Qs @JL <|Qs @GD <|Qs @Dp <|Qs @GE <|Qs @JJ <|Qs @M4 <|Qs @JV <|Qs @GC <|Qs @JT <|Qs @JU <|Qs @JW <|Qs @JO <|Qs @JP <|Qs @JR <|Qs @JQ <|Qs @M5 <|Qs @JN <|Qs @JS <|Qs @JI <|Qs @JM <|Qs @M8 <|@M6
theorem AY(k:IntKind)(x:Int):(AV.int k x).cells=[.int k x]:=rfl
theorem yC(x:Bool):(AV.bool x).cells=[.bool x]:=rfl
theorem vT(cs:List AV):(AV.agg cs).cells=cs:=rfl
theorem yD:AV.nils.cells=[.nils]:=rfl
theorem Bb(k:IntKind)(x:Int):(AV.int k x).isTup=false:=rfl
theorem zg(x:Bool):(AV.bool x).isTup=false:=rfl
theorem wh(cs:List AV):(AV.agg cs).isTup=false:=rfl
theorem zh:AV.nils.isTup=false:=rfl
theorem AX(id ep off len:Nat)(lim:Option Nat):(AV.hsl id ep off len lim).cells=[.hsl id ep off len lim]:=rfl
theorem Ba(id ep off len:Nat)(lim:Option Nat):(AV.hsl id ep off len lim).isTup=false:=rfl
theorem AZ(t s:Nat)(rows:List (List AV)):(AV.tsl t s rows).cells=[.tsl t s rows]:=rfl
theorem Bc(t s:Nat)(rows:List (List AV)):(AV.tsl t s rows).isTup=false:=rfl
theorem ES(x:AV)(g:G)(h:x.isTup=false):Jd x g=.upd (.hptr g.nx 0 0 0) (g.new (TD x.cells.length [x.cells])):=by simp only[Jd,h,au]
theorem Gr(sz:Nat)(zero:List AV)(g:G):Je sz 0 zero [] [] g=.upd (.hsl g.nx 0 0 0 none) (g.new (TD sz [])):=rfl
theorem Gs(sz:Nat)(zero:List AV)(v:AV)(g:G)(hl:v.cells.length=sz)(ht:v.isTup=false) :
  Je sz 1 zero [0] [v] g=.upd (.hsl g.nx 0 0 1 none) (g.new (TD sz [v.cells])):=by
 subst hl;have:Nat.beq (aZ v.cells) v.cells.length=true:=by rw[au];exact Q7 _
 have h2:fW v.cells.length [zero] [(0,v)]=some [v.cells]:=by simp only[fW,ht,aa,au,iD,notb_eq];rw[show Nat.beq v.cells.length v.cells.length=true from Q7 _];rfl
 show (match fW v.cells.length [zero] [(0,v)] with|some rows=>OR.upd (.hsl g.nx 0 0 1 none) (g.new (TD v.cells.length rows))|none=>.fail)=_;rw[h2]
theorem cZ(row:List AV)(off:Nat)(cs:List AV):bY row off cs=if off+cs.length<=row.length then some (row.take off++(cs++row.drop (off+cs.length))) else none:=by
 simp only[bY,au,aa,Q6,iD,a_,aX]
 split
 ·rename_i h
  split
  ·rename_i c;simp only[List.length_singleton]at h;rw[List.set_eq_take_append_cons_drop,QA (by omega)];rfl
  ·rfl
 ·rfl
theorem MZ(a:AV)(l:List AV):Jy (.tup (a::l)) 0=.val a:=rfl
theorem M1(a b:AV)(l:List AV):Jy (.tup (a::b::l)) 1=.val b:=rfl
theorem M2(a b c:AV)(l:List AV):Jy (.tup (a::b::c::l)) 2=.val c:=rfl
theorem JH(ag:Bool)(n fo:Nat)(cs:List AV):NT ag n fo (.agg cs)=orV (bN ag n cs fo):=rfl
theorem Bl{row:List AV}:bN true (n+1) row off=if off+(n+1)<=row.length then some (.agg ((row.drop off).take (n+1))) else none:=by
 split
 ·rename_i h;exact KA h
 ·rename_i h;simp only[bN,a_,aX,au,Q_,S6,aa];rw[Qw];intro e;have:=Ro e;omega
theorem CW(zero:List AV)(pl:List (Nat×Nat))(vs:List AV):BK zero pl vs=match cX zero (pl.zip vs) with|some cs=>.val (.agg cs)|none=>.fail:=rfl
theorem A7(cs:List AV):cX cs []=some cs:=rfl
theorem yY(cs:List AV)(off size:Nat)(v:AV)(rest:List ((Nat×Nat)×AV))(hl:v.cells.length=size)(ht:v.isTup=false) :
  cX cs (((off,size),v)::rest)=match bY cs off v.cells with|some cs=>cX cs rest|none=>none:=by
 subst hl;have:Nat.beq (aZ v.cells) v.cells.length=true:=by rw[au];exact Q7 _
 simp only[cX,this,ht,notb_eq,ST,S0]
 rfl
theorem KJ(ag:Bool)(n a:Nat)(r:List SR)(t:T)(g:G)(K:List AV->Prop):uc (.cell ag n a::r) t g K=match qs ag n (tat t a) g with|.val v=>uc r t g λvs=>K (v::vs)|_=>False:=rfl
theorem pK(a b:AV)(l:List AV):iB (a::b::l)=.tup (a::b::l):=rfl
theorem sy:type_of% (Qs @CW <|Qs @A7 <|Qs @yY <|Qs @KJ <|Qs @Ss.{0,0} <|Qs @List.zip_nil_left.{0,0} <|Qs @HA <|Qs @Ns <|Qs @Lg <|Qs @Lf <|Qs @KX <|Qs @Hs <|Qs @GN <|Qs @GM <|Qs @bumpG_h <|Qs @bumpG_nx <|Qs @bumpG_lg <|Qs @true_and <|Qs @and_true <|Qs @Cb <|Qs @mP <|Qs @Kf <|Qs @setLog_h <|Qs @setLog_nx <|Qs @setLog_lg <|Qs @Nf <|Qs @AY <|Qs @yC <|Qs @vT <|Qs @yD <|Qs @Bb <|Qs @zg <|Qs @wh <|Qs @zh <|
 Qs @AX <|Qs @Ba <|Qs @AZ <|Qs @Bc <|Qs @ES <|Qs @Gr <|Qs @Gs <|Qs @cZ <|Qs @MZ <|Qs @M1 <|Qs @M2 <|
 Qs @JH <|Qs @Bl <|Qs @pK <|Qs @qr <|Qs @au <|Qs @Q9.{0} <|Qs @Sc.{0} <|Qs @Tl.{0} <|
 Qs @TA.{0} <|Qs @Tk.{0} <|Qs @Sz.{0} <|Qs @QI.{0} <|Qs @QY.{0} <|Qs @QN.{0} <|Qs @Sf.{0} <|Qs @Tt.{0} <|
 Qs @Rc <|Qs @O6 <|Qs @ff <|Qs @dg <|Qs @wM <|@pN) :=
 Qs @CW <|Qs @A7 <|Qs @yY <|Qs @KJ <|Qs @Ss.{0,0} <|Qs @List.zip_nil_left.{0,0} <|Qs @HA <|Qs @Ns <|Qs @Lg <|Qs @Lf <|Qs @KX <|Qs @Hs <|Qs @GN <|Qs @GM <|Qs @bumpG_h <|Qs @bumpG_nx <|Qs @bumpG_lg <|Qs @true_and <|Qs @and_true <|Qs @Cb <|Qs @mP <|Qs @Kf <|Qs @setLog_h <|Qs @setLog_nx <|Qs @setLog_lg <|Qs @Nf <|Qs @AY <|Qs @yC <|Qs @vT <|Qs @yD <|Qs @Bb <|Qs @zg <|Qs @wh <|Qs @zh <|
 Qs @AX <|Qs @Ba <|Qs @AZ <|Qs @Bc <|Qs @ES <|Qs @Gr <|Qs @Gs <|Qs @cZ <|Qs @MZ <|Qs @M1 <|Qs @M2 <|
 Qs @JH <|Qs @Bl <|Qs @pK <|Qs @qr <|Qs @au <|Qs @Q9.{0} <|Qs @Sc.{0} <|Qs @Tl.{0} <|
 Qs @TA.{0} <|Qs @Tk.{0} <|Qs @Sz.{0} <|Qs @QI.{0} <|Qs @QY.{0} <|Qs @QN.{0} <|Qs @Sf.{0} <|Qs @Tt.{0} <|
 Qs @Rc <|Qs @O6 <|Qs @ff <|Qs @dg <|Qs @wM <|@pN
end
noncomputable def NU(C:Cfg)(n f:Nat):Nat->List AV->G->OR:=λd as g=>ah (sem C n) d g f as
theorem nD{ih:IH}{args:List AV}{y:ADf}:ah ih d g f args≠.dfr y:=by
 intro k;revert k;unfold ah
 repeat' (first|split|rw[aa])
 all_goals (intro h;cases h)
theorem B8(hC:CfgOk C):ExtOk C f (NU C n f):=by refine⟨λd args g hwf=>jD hwf,λd args g y=>nD,λA bd w γ hg nx g as vs hr hwf hx hf hv hne cs=>?_⟩;have h:=mg hC n;obtain⟨he,u,w',γ',hg',fin,rv,out⟩:=mO h.call h.mon.call hr hx hv hne cs;exact⟨u,w',γ',hg',fin,rv,.inr ⟨he,out⟩⟩
noncomputable def CG(d0:Nat)(tab:List (List AV×AV))(fb:Nat->List AV->G->OR):Nat->List AV->G->OR:=λd as g =>
 ap (Nat.beq d d0) (match aF (snap g.h d aD) as with
  | some as'=>match xK as' tab with
   |some v=>.val v
   |none=>fb d as g
  |none=>.fail) (fb d as g)
theorem xY(hC:CfgOk C){d0:Nat}{tab:List (List AV×AV)}(h:∀e∈tab,jX d0 ((sem C n).call (Nat.succ d0) f e.1 G.empty)=some e.2)
  {fb:Nat->List AV->G->OR} (hfb:ExtOk C f fb):ExtOk C f (CG d0 tab fb):=by
 have sh:∀d args g,CG d0 tab fb d args g=.fail\/CG d0 tab fb d args g=fb d args g\/CG d0 tab fb d args g=ah (sem C n) d g f args:=by
  intro d args g;unfold CG;rw[aa]
  split
  ·rename_i hd;have hd:=ay hd;subst hd
   split
   ·rename_i as' a
    split
    ·rename_i v k;have:=Dk k;exact .inr (.inr (Dy a (h _ this)).symm)
    ·exact .inr (.inl rfl)
   ·exact .inl rfl
  ·exact .inr (.inl rfl)
 refine⟨λd args g hwf=>?_,λd args g y hy=>?_,λA bd w γ hg nx g as vs hr hwf hx hf k hne cs=>?_⟩
 ·rcases sh d args g with h|h|h<;>rw[h]
  ·exact Mon.refl g
  ·exact hfb.mon d args g hwf
  ·exact jD hwf
 ·rcases sh d args g with h|h|h<;>rw[h]at hy
  ·cases hy
  ·exact hfb.noDfr d args g y hy
  ·exact nD hy
 ·rcases sh (bd+1) as g with h0|h0|h0
  ·exact absurd h0 hne
  ·rw[h0]at hne hf ⊢;exact hfb.run A bd w γ hg nx g as vs hr hwf hx hf k hne cs
  ·rw[h0]at hne hf ⊢;exact (B8 (n:=n) hC).run A bd w γ hg nx g as vs hr hwf hx hf k hne cs
noncomputable def rM(h:H):List Nat->H
 |[]=>.nil
 |id::l=>(rM h l).put id (h.get id)
noncomputable def pH(h h':H):List Nat->H
 |[]=>h
 |id::l=>(pH h h' l).put id (h'.get id)
theorem Mi(k:Nat):H.get (Tr.nil:H) k=.none:=by simp[H.get,Pc]
theorem sI(h:H)(k:Nat):∀l,(rM h l).get k=if k∈l then h.get k else .none
 |[]=>by simp[rM,Mi]
 | id::l=>by
  rw[rM,O6,sI h k l]
  by_cases hk:k=id
  ·subst hk;simp
  ·simp[hk]
theorem pI(h h':H)(k:Nat):∀l,(pH h h' l).get k=if k∈l then h'.get k else h.get k
 |[]=>by simp[pH]
 | id::l=>by
  rw[pH,O6,pI h h' k l]
  by_cases hk:k=id
  ·subst hk;simp
  ·simp[hk]
noncomputable def J5(C:Cfg)(n f:Nat):Nat->List AV->G->OR:=λd as g =>
 match (sem C n).call d f as ⟨rM g.h (as.flatMap (aH g.h aD)),g.nx,[]⟩ with
 |.ok v g'=>.upd v ⟨pH g.h g'.h g'.lg,g'.nx,g'.lg++g.lg⟩
 |.fail=>.fail
theorem L5(hC:CfgOk C):ExtOk C f (J5 C n f):=by
 have j:=mg hC n;have wfr:∀(g:G) (ids:List Nat),WF g->WF ⟨rM g.h ids,g.nx,[]⟩:=by
  intro g ids e id k;show (rM g.h ids).get id=.none;rw[sI]
  split
  ·exact e id k
  ·rfl
 have sh:∀d as g,J5 C n f d as g=.fail\/∃v g',(sem C n).call d f as ⟨rM g.h (as.flatMap (aH g.h aD)),g.nx,[]⟩=.ok v g' /\
   J5 C n f d as g=.upd v ⟨pH g.h g'.h g'.lg,g'.nx,g'.lg++g.lg⟩:=by
  intro d as g;unfold J5
  split
  ·rename_i v g' h;exact .inr ⟨v,g',h,rfl⟩
  ·exact .inl rfl
 refine⟨λd as g e=>?_,λd as g y hy=>?_,λA bd w γ hg nx g as vs hr e hx hf hv hne cs=>?_⟩
 ·rcases sh d as g with h|⟨v,g',h1,h2⟩
  ·rw[h];exact Mon.refl g
  ·rw[h2];have m:=j.mon.call _ _ _ _ _ _ h1 (wfr g _ e);obtain⟨nw,a,b,c⟩:=m.new;have ha:g'.lg=nw:=by simpa using a
   refine⟨m.nx,⟨g'.lg,rfl,λid k=>?_,λid k=>?_⟩,λhw id k=>?_⟩
   ·show (pH _ _ _).get id=_;rw[pI,Qw k]
   ·obtain⟨c1,l⟩:=c id (by rw[<-ha];exact k);refine⟨c1,λhn=>l ?_⟩;show (rM _ _).get id=_;rw[sI,hn];simp
   ·show (pH _ _ _).get id=_;have k:g'.nx<=id:=k;have o:g.nx<=g'.nx:=m.nx;rw[pI,Qw]
    ·exact hw id (by omega)
    ·intro hl;have:=(c id (by rw[<-ha];exact hl)).1;omega
 ·rcases sh d as g with h|⟨v,g',h1,h2⟩
  ·rw[h]at hy;cases hy
  ·rw[h2]at hy;cases hy
 ·rcases sh (bd+1) as g with h|⟨v,g',h1,h2⟩
  ·exact absurd h hne
  ·rw[h2]at hf ⊢;obtain⟨he,run⟩:=j.call _ _ _ _ _ _ h1;obtain⟨u,w',γ',hg',fin,rv,out⟩:=run A w γ hg nx vs hr (λid hn=>by
     have i:(rM g.h (as.flatMap (aH g.h aD))).get id≠.none:=hn;show hg id=(rM _ _).get id;rw[sI]at i ⊢
     split at i
     ·rename_i hm;rw[QA hm];exact hx id hm i
     ·exact absurd rfl i) (wfr g _ e) (λid h1 h2=>hf id h1 h2) hv .normal cs (.inl rfl)
   refine⟨u,w',γ',hg',⟨fin.rel,fin.stp,?_⟩,rv,.inr ⟨he,out⟩⟩;obtain⟨nw,a,b,c⟩:=fin.new;have ha:g'.lg=nw:=by simpa using a
   subst ha;refine⟨g'.lg,rfl,λid k=>?_,c⟩;show hg' id=(pH _ _ _).get id;rw[pI,QA k];exact b id k
end
end Hx
