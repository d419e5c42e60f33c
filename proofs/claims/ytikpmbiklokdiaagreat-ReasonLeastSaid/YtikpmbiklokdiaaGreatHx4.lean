/- A part of the proof: what the functions of the chapter compute. -/
import Derived.Orders
import Derived.Below
import Derived.Laws.Externs
import Derived.Test.YtikpmbiklokdiaaGreatHx3
set_option linter.all false
set_option maxRecDepth 20000
set_option maxHeartbeats 8000000
namespace Hx
open Go
noncomputable section
variable {g g':G}{b d nt n x f c B i ti m:Nat}{t t':T}{v:AV}{P:Program}{rd:Option Nat}{df:List ADf}{C:Cfg}{tmps:Array Value}{body:SC}{Q:QT}{pm:List Nat}{assign:Code}{K:AV->G->Prop}{D:ADf->Prop}
section
variable {C:Cfg}{t t':T}{g:G}{ih:IH}
theorem G6{x:Operand}{s:Stg (T->AV)}(h:aP C x=some s)(hx:∀n,x=.tmp n->t.get AV.undef n=t'.get AV.undef n):s.run t=s.run t':=by
 cases x with
 |tmp n=>simp[aP]at h;subst h;simpa using hx n rfl
 | const v =>
  simp only[aP]at h
  split at h
  ·injection h with h;subst h;rfl
  ·cases h
 | global gl =>
  simp only[aP]at h
  split at h
  ·injection h with h;subst h;rfl
  ·cases h
 |func f=>simp[aP]at h;subst h;rfl
def Ci(C:Cfg)(t t':T)(xs:List Operand):Prop:=∀x∈xs,∀s,aP C x=some s->s.run t=s.run t'
theorem c_:∀{xs:List Operand} {vs:Stg (T->List AV)},bV C xs=some vs->Ci C t t' xs->vs.run t=vs.run t':=by
 intro xs
 induction xs with
 |nil=>intro vs h _;simp[bV]at h;subst h;rfl
 | cons x xs ih =>
  intro vs h hx;simp only[bV]at h
  split at h
  ·rename_i a as h1 h2;injection h with h;subst h;simp only[hx x U9 a h1,ih h2 λy hy=>hx y (U6 _ hy)]
  ·cases h
variable {op:Op}{f:Stg SFn}
theorem zM{b:Builtin}{argTypes:Array TypeId}{args:List Operand}(h:dJ C b argTypes args=some f)(hx:Ci C t t' args):f.run t g=f.run t' g:=by
 unfold dJ at h
 split at h
 ·split at h
  ·rename_i s _ hs;injection h with h;subst h;simp only[hx _ (by simp) _ hs]
  ·cases h
 ·split at h
  ·rename_i sa sx _ _ ha hb;have e1:=hx _ (by simp) _ ha;have k:=hx _ (by simp) _ hb
   repeat' (first|split at h| (rw[aa]at h;split at h))
   all_goals first| (cases h;done)| (injection h with h;subst h;simp only[e1,k])
  ·cases h
 ·split at h
  ·rename_i sa sx _ ha hb;have e1:=hx _ (by simp) _ ha;have k:=hx _ (by simp) _ hb
   repeat' (first|split at h)
   all_goals first| (cases h;done)| (injection h with h;subst h;simp only[e1,k])
  ·cases h
 ·split at h
  ·rename_i s _ hs;have e1:=hx _ (by simp) _ hs
   repeat' (first|split at h)
   all_goals first| (cases h;done)| (injection h with h;subst h;simp only[e1])
  ·cases h
 ·split at h
  ·rename_i s _ hs;have e1:=hx _ (by simp) _ hs
   repeat' (first|split at h| (rw[aa]at h;split at h))
   all_goals first| (cases h;done)| (injection h with h;subst h;simp only[e1])
  ·cases h
 ·split at h
  ·rename_i sa sx ha hb;injection h with h;subst h;simp only[hx _ (by simp) _ ha,hx _ (by simp) _ hb]
  ·cases h
 ·split at h
  ·rename_i sa sx ha hb;injection h with h;subst h;simp only[hx _ (by simp) _ ha,hx _ (by simp) _ hb]
  ·cases h
 ·cases h
theorem G7(h:cm C op=some f)(hx:Ci C t t' op.operands.toList):f.run t g=f.run t' g:=by
 cases op<;>simp only[cm]at h<;>first| (cases h;done)|skip
 case call c =>
  obtain⟨callee,args,argTypes⟩:=c;cases callee<;>first| (cases h;done)|skip
  dsimp only at h;exact zM h λx hm=>hx x (by simpa [Op.operands,Call.operands] using hm)
 case move x =>
  split at h
  ·rename_i s hs;injection h with h;subst h;simp only[hx _ (by simp[Op.operands]) _ hs]
  ·cases h
 case assign x =>
  split at h
  ·rename_i s hs;injection h with h;subst h;simp only[hx _ (by simp[Op.operands]) _ hs]
  ·cases h
 case pick c x y =>
  split at h
  ·rename_i sc sx sy hc h1 h2;injection h with h;subst h;simp only[hx _ (by simp[Op.operands]) _ hc,hx _ (by simp[Op.operands]) _ h1,hx _ (by simp[Op.operands]) _ h2]
  ·cases h
 case alloc ty =>
  split at h
  ·injection h with h;subst h;rfl
  ·cases h
 case box ty x =>
  split at h
  ·rename_i s hs;injection h with h;subst h;simp only[LJ,hx _ (by simp[Op.operands]) _ hs]
  ·cases h
 case load ty x =>
  split at h
  ·rename_i s ag n hs A B;injection h with h;subst h;simp only[nH,hx _ (by simp[Op.operands]) _ hs]
  ·cases h
 case store ty x y =>
  split at h
  ·rename_i s u n hs hu B;injection h with h;subst h;simp only[pz,hx _ (by simp[Op.operands]) _ hs,hx _ (by simp[Op.operands]) _ hu]
  ·cases h
 case binOp op ty x y p =>
  split at h
  ·rename_i s u hs hu;injection h with h;subst h;simp only[hx _ (by simp[Op.operands]) _ hs,hx _ (by simp[Op.operands]) _ hu]
  ·cases h
 case unOp op ty x =>
  split at h
  ·rename_i s hs;injection h with h;subst h;simp only[hx _ (by simp[Op.operands]) _ hs]
  ·cases h
 case convert src dst x =>
  split at h
  ·rename_i s sd k hs v hk;injection h with h;subst h;simp only[hx _ (by simp[Op.operands]) _ hs]
  ·cases h
 case nilCheck x =>
  split at h
  ·rename_i s hs;injection h with h;subst h;simp only[hx _ (by simp[Op.operands]) _ hs]
  ·cases h
 case makeInterface ty x =>
  split at h
  ·cases h
  ·rename_i s d D hs hu;injection h with h;subst h;simp only[hx _ (by simp[Op.operands]) _ hs]
  ·cases h
 case makeSlice ty l c =>
  split at h
  ·rename_i e sl sc he hl hc
   split at h
   ·rw[aa]at h
    split at h
    ·injection h with h;subst h;simp only[it,hx _ (by simp[Op.operands]) _ hl,hx _ (by simp[Op.operands]) _ hc]
    ·cases h
   ·cases h
  ·cases h
 case fieldAddr ty x fi =>
  split at h
  ·rename_i s fo ft hs o
   split at h
   ·injection h with h;subst h;simp only[ki,hx _ (by simp[Op.operands]) _ hs]
   ·cases h
  ·cases h
 case field ty x fi =>
  split at h
  ·rename_i s fo ft hs o
   split at h
   ·injection h with h;subst h;simp only[hx _ (by simp[Op.operands]) _ hs]
   ·cases h
  ·cases h
 case indexAddr ty x ix =>
  split at h
  ·rename_i s i hs hi
   split at h
   ·split at h
    ·injection h with h;subst h;simp only[gZ,hx _ (by simp[Op.operands]) _ hs,hx _ (by simp[Op.operands]) _ hi]
    ·cases h
   ·split at h
    ·injection h with h;subst h;simp only[nG,hx _ (by simp[Op.operands]) _ hs,hx _ (by simp[Op.operands]) _ hi]
    ·cases h
   ·cases h
  ·cases h
 case index ty x ix =>
  split at h
  ·rename_i s i hs hi
   split at h
   ·split at h
    ·injection h with h;subst h;simp only[vT,hx _ (by simp[Op.operands]) _ hs,hx _ (by simp[Op.operands]) _ hi]
    ·cases h
   ·injection h with h;subst h;simp only[qf,hx _ (by simp[Op.operands]) _ hs,hx _ (by simp[Op.operands]) _ hi]
   ·cases h
  ·cases h
 case lookup ty x k ok =>
  split at h
  ·rename_i m kk kt et hm hk hu
   split at h
   ·injection h with h;subst h;simp only[cz,hx _ (by simp[Op.operands]) _ hm,hx _ (by simp[Op.operands]) _ hk]
   ·cases h
  ·cases h
 case mapUpdate ty m k x =>
  split at h
  ·rename_i sm sk sx kt et hm hk a hu;injection h with h;subst h;simp only[dq,hx _ (by simp[Op.operands]) _ hm,hx _ (by simp[Op.operands]) _ hk,hx _ (by simp[Op.operands]) _ a]
  ·cases h
 case insert ty m k x =>
  split at h
  ·rename_i sm sk sx kt et hm hk a hu;injection h with h;subst h;simp only[dq,hx _ (by simp[Op.operands]) _ hm,hx _ (by simp[Op.operands]) _ hk,hx _ (by simp[Op.operands]) _ a]
  ·cases h
 case mapEntry ty m k =>
  split at h
  ·rename_i sm sk kt et hm hk hu
   split at h
   ·injection h with h;subst h;simp only[dh,hx _ (by simp[Op.operands]) _ hm,hx _ (by simp[Op.operands]) _ hk]
   ·cases h
  ·cases h
 case entryStore ty m st x =>
  split at h
  ·rename_i sm ss sx hm hs a;injection h with h;subst h;simp only[da,hx _ (by simp[Op.operands]) _ hm,hx _ (by simp[Op.operands]) _ hs,hx _ (by simp[Op.operands]) _ a]
  ·cases h
 case extract x i =>
  split at h
  ·rename_i s hs;injection h with h;subst h;simp only[hx _ (by simp[Op.operands]) _ hs]
  ·cases h
 case makeMap ty r =>
  cases r with
  |some r=>cases h
  | none =>
   dsimp only at h
   split at h
   ·injection h with h;subst h;rfl
   ·cases h
 case makeFunc fn fi ca =>
  cases fn with
  | func fx =>
   dsimp only at h
   split at h
   ·rename_i sa sc ha hc;injection h with h;subst h;have e1:=c_ (t:=t) (t':=t') ha λx hm=>hx x (by simp[Op.operands]at hm ⊢;exact .inl hm);have w:=c_ (t:=t) (t':=t') hc λx hm=>hx x (by simp[Op.operands]at hm ⊢;exact .inr hm);simp only[e1,w]
   ·cases h
  |_=>cases h
 case buildSlice ty len parts =>
  split at h
  ·rename_i e vs he b;have e1:=c_ (t:=t) (t':=t') b λx hm=>hx x (by simpa [Op.operands] using hm)
   split at h
   ·rw[aa]at h
    split at h
    ·injection h with h;subst h;simp only[iz,e1]
    ·cases h
   ·cases h
  ·cases h
 case build ty parts =>
  split at h
  ·rename_i zero vs hz b;have e1:=c_ (t:=t) (t':=t') b λx hm=>hx x (by simpa [Op.operands] using hm)
   split at h
   ·split at h
    ·split at h
     ·injection h with h;subst h;simp only[oG,e1]
     ·cases h
    ·cases h
   ·split at h
    ·injection h with h;subst h;simp only[oG,e1]
    ·cases h
   ·cases h
  ·cases h
 case slice ty x lo hi mx =>
  have optR:∀{y:Option Operand} {s:Stg (T->List AV)},(∀z,y=some z->z∈(Op.slice ty x lo hi mx).operands.toList)->bV C y.toList=some s->s.run t=s.run t':=by
   intro y s E hs;refine c_ hs λz hm=>hx z (E z ?_);cases y with
   |none=>simp at hm
   |some q=>simp at hm;rw[hm]
  cases mx with
  | none =>
   dsimp only at h
   split at h
   ·rename_i e sx sl sh hu h1 h2 j
    split at h
    ·injection h with h;subst h;simp only[hx _ (by simp[Op.operands]) _ h1,optR (by rintro z rfl;simp[Op.operands]) h2,optR (by rintro z rfl;simp[Op.operands]) j]
    ·cases h
   ·rename_i n e sx sl sh hu h1 h2 j
    split at h
    ·injection h with h;subst h;simp only[iU,hx _ (by simp[Op.operands]) _ h1,optR (by rintro z rfl;simp[Op.operands]) h2,optR (by rintro z rfl;simp[Op.operands]) j]
    ·cases h
   ·cases h
  | some mx =>
   cases hi with
   |none=>cases h
   | some hi =>
    dsimp only at h
    split at h
    ·rename_i e sx sl sh sm he h1 h2 j h4
     split at h
     ·injection h with h;subst h;simp only[hx _ (by simp[Op.operands]) _ h1,optR (by rintro z rfl;simp[Op.operands]) h2,hx _ (by simp[Op.operands]) _ j,hx _ (by simp[Op.operands]) _ h4]
     ·cases h
    ·cases h
theorem G3(hx:Ci C t t' op.operands.toList):(bC C op).run ih d rd t g=(bC C op).run ih d rd t' g:=by
 unfold bC
 split
 rotate_left
 ·rfl
 rename_i f h;unfold cOp at h
 split at h
 ·rename_i fx args at2
  split at h
  ·rename_i vs k;have e1:=c_ (t:=t) (t':=t') k λx hm=>hx x (by simp[Op.operands,Call.operands]at hm ⊢;exact .inr hm)
   repeat' (first|split at h| (rw[aa]at h;split at h))
   all_goals (injection h with h;subst h;simp only[e1])
  ·cases h
 ·rename_i fo args at2 c
  split at h
  ·rename_i fv vs a k;have e1:=c_ (t:=t) (t':=t') k λx hm=>hx x (by simp[Op.operands,Call.operands]at hm ⊢;exact .inr hm);have b:=hx fo (by simp[Op.operands,Call.operands]) _ a;injection h with h;subst h;simp only[e1,b]
  ·cases h
 ·injection h with h;subst h;rfl
 ·rename_i fo args at2
  split at h
  ·rename_i fv vs a k;have e1:=c_ (t:=t) (t':=t') k λx hm=>hx x (by simp[Op.operands,Call.operands]at hm ⊢;exact .inr hm);have b:=hx fo (by simp[Op.operands,Call.operands]) _ a;injection h with h;subst h;simp only[e1,b]
  ·cases h
 ·split at h
  ·rename_i s hs;injection h with h;subst h;exact G7 hs hx
  ·cases h
theorem E6(hh:g.h=g'.h)(hx:Ci C t t' op.operands.toList):(aH C op).run t g=(aH C op).run t' g':=by
 have one:∀{x:Operand} {F:AV->Looks},x∈op.operands.toList ->
   (match aP C x with|some a=>(⟨λt _=>F (a.run t)⟩:Stg (T->G->Looks))|none=>⟨λ_ _=>cK⟩).run t g =
   (match aP C x with|some a=>(⟨λt _=>F (a.run t)⟩:Stg (T->G->Looks))|none=>⟨λ_ _=>cK⟩).run t' g':=by
  intro x F hm;cases hs:aP C x with
  |none=>rfl
  |some s=>simp only[hx x hm s hs]
 cases op<;>first|rfl|skip
 case load ty x=>exact one (F:=λv=>am (af v)) (by simp[Op.operands])
 case store ty x y=>exact one (F:=λv=>am (af v)) (by simp[Op.operands])
 case slice ty x lo hi mx=>exact one (F:=λv=>am (af v)) (by simp[Op.operands])
 case mapUpdate ty x k y=>exact one (F:=λv=>am (af v)) (by simp[Op.operands])
 case insert ty x k y=>exact one (F:=λv=>am (af v)) (by simp[Op.operands])
 case entryStore ty x k y=>exact one (F:=λv=>am (af v)) (by simp[Op.operands])
 case mapEntry ty x k=>exact one (F:=λv=>⟨af v,[],(af v).map (·,ty),false⟩) (by simp[Op.operands])
 case lookup ty x k ok =>
  cases ok
  ·exact one (F:=λv=>⟨[],(af v).map (·,ty),[],false⟩) (by simp[Op.operands])
  ·exact one (F:=λv=>am (af v)) (by simp[Op.operands])
 case indexAddr ty x ix =>
  simp only[aH]
  split
  ·rename_i e s hu hs;simp only[hx x (by simp[Op.operands]) s hs]
  ·rfl
 case call c =>
  obtain⟨callee,args,argTypes⟩:=c;cases callee with
  | builtin b =>
   simp only[aH]
   split
   ·rename_i vs d;simp only[c_ d λx hm=>hx x (by simpa [Op.operands,Call.operands] using hm)]
   ·rfl
  | value fo =>
   simp only[aH]
   split
   ·rename_i fv vs f d;simp only[c_ d λx hm=>hx x (by simp[Op.operands,Call.operands]at hm ⊢;exact .inr hm),hx fo (by simp[Op.operands,Call.operands]) _ f,hh]
   ·rfl
  |invoke r m=>rfl
end
section
variable {C:Cfg}{A:Nat->Nat->Prop}{bd:Nat}{w w':World}{γ γ':Gm}{hg:Nat->AObj}{nx:Nat}
variable {t:T}{g:G}{ih:IH}
theorem TR.put{nt:Nat}{a:Act}{dst:Option Tmp}{out:Stg (T->AV->T)}{x:AV}{v:Value}(ho:qj nt dst=some out)(ht:TR w γ A bd nt t a.tmps)(hv:RV w γ A bd x v) :
  TR w γ A bd nt (out.run t x) (a.put dst v).tmps:=by
 cases dst with
 |none=>simp[qj]at ho;subst ho;exact ht
 | some d =>
  simp only[qj,aa]at ho
  split at ho
  ·rename_i hd;rw[U_]at hd;injection ho with ho;subst ho;refine⟨by simp[Act.put,ht.1],λs=>?_⟩;rw[sp_get]
   by_cases hs:s=d
   ·subst hs;rw[Un rfl];have:s<a.tmps.size:=by rw[ht.1];exact hd
    simpa [Act.put,Array.getD,this] using hv
   ·rw[Um hs];have:=ht.2 s;simp only[Act.put,U1]at this ⊢;rw[VU (VC hs)];exact this
  ·cases ho
theorem mP{ops:Array Oper}{o:Oper}{q:Stg (T->Option Bool)}{bv:Bool}(hq:i4 ops.toList o.guard=some q)(ht:TR w γ A bd nt t tmps)
  (h:q.run t=some bv):Region.wanted o (yielded ops tmps)=bv:=by
 unfold Region.wanted;cases hg:o.guard with
 | none =>
  rw[hg]at hq;simp[i4]at hq;subst hq;injection h with h
 | some p =>
  obtain⟨j,want⟩:=p;rw[hg]at hq;simp only[i4]at hq
  split at hq
  ·rename_i oj c
   split at hq
   ·rename_i d hd;injection hq with hq;subst hq;have a:ops[j]?=some oj:=by simpa using c
    dsimp only at h;rw[gp_run]at h;have k:=ht.2 d;simp only[yielded,a,VX,hd];generalize t.get AV.undef d=y at h k
    split at h
    ·rename_i b;injection h with h;subst h;have hb:tmps[d]?=some (.bool b):=by
      cases hrv':tmps[d]? with
      |none=>simp[U1,hrv',undef]at k;cases k
      | some v =>
       simp only[U1,hrv',Us]at k;cases k;rfl
     simp only[hb];cases want<;>cases b<;>rfl
    ·injection h with h;subst h;cases hrv':tmps[d]? with
     |none=>rfl
     | some v =>
      simp only[U1,hrv',Us]at k;cases k;rfl
    ·cases h
   ·cases hq
  ·cases hq
theorem Dz{all:List Oper}{gd:Option (Nat×Bool)}{q:Stg (T->Option Bool)}{t:T}(hq:i4 all gd=some q)
  (h:∀j b oj d,gd=some (j,b)->all[j]?=some oj->oj.dst=some d->t.get AV.undef d=t'.get AV.undef d):q.run t=q.run t':=by
 cases gd with
 |none=>simp[i4]at hq;subst hq;rfl
 | some p =>
  obtain⟨j,want⟩:=p;simp only[i4]at hq
  split at hq
  ·rename_i oj k
   split at hq
   ·rename_i d hd;injection hq with hq;subst hq;dsimp only;rw[gp_run,gp_run,h j want oj d rfl k hd]
   ·cases hq
  ·cases hq
variable {b:Frame}{a:Act}{ops:Array Oper}{i:Nat}{rest:List Nat}{k:List Item}{cs:List Frame}{o:Oper}
theorem ED{d:Deferred}(ho:ops[i]?=some o)(hw:Region.wanted o (yielded ops a.tmps)=true)(hro:b.roundOf=none)
  (hrun:(execOp a.eval o).run P w=.ok (.defer d) w) :
  step P (lone (b.atR a (.inRegion ops (i::rest)::k)) cs w)=.next (lone (b.atR ({ a with defers:=d::a.defers }.put o.dst undef) (.inRegion ops rest::k)) cs w):=by
 have h:=Frame.finish_atR b { a with defers:=d::a.defers } ops i rest k undef;rw[ho]at h;simp only[VX]at h;refine step_lone_go ?_;rw[stepGR_op ho hw,hro,Oper.semAt_none,<-h];simp[stepG.apply,hrun,Frame.atR]
theorem t7(ho:ops[i]?=some o)(hw:Region.wanted o (yielded ops a.tmps)=false) :
  step P (lone (b.atR a (.inRegion ops (i::rest)::k)) cs w)=.next (lone (b.atR (a.put o.dst undef) (.inRegion ops rest::k)) cs w):=by
 have:=stepR_op_skip (P:=P) (b:=b) (a:=a) (k:=k) (cs:=cs) (w:=w) (ops:=ops) (i:=i) (rest:=rest) (by rw[ho];simpa using hw);rw[ho]at this;simpa using this
theorem IC(hr:Rel C A bd w γ hg nx)(ht:TR w γ A bd nt t a.tmps)(hrd:RdOk γ rd b)(hdf:DR w γ A bd df a.defers)
  {x:ADf} (h:(bC C o.op).run ih d rd t g=.dfr x) (hE:∀f e d args g y,C.ext f=some e->e d args g≠.dfr y) (ho:ops[i]?=some o) (hw:Region.wanted o (yielded ops a.tmps)=true) :
  ∃dd,DR w γ A bd (x::df) (dd::a.defers) /\
   step C.P (lone (b.atR a (.inRegion ops (i::rest)::k)) cs w)=.next (lone (b.atR ({ a with defers:=dd::a.defers }.put o.dst undef) (.inRegion ops rest::k)) cs w):=by
 have iso:∀f args,ac ih d g f args≠.dfr x:=by
  intro f args;unfold ac
  repeat' (first|split|rw[aa])
  all_goals (intro h;cases h)
 have orf:∀r,orF r≠.dfr x:=by intro r h;cases r<;>cases h
 have rnd:∀id args,cR ih d id args g≠.dfr x:=by
  intro id args;unfold cR
  repeat' split
  all_goals (intro h;cases h)
 unfold bC at h
 split at h
 rotate_left
 ·cases h
 rename_i f c;generalize hop:o.op=op at c;unfold cOp at c
 split at c
 ·rename_i fx args at2
  split at c
  ·split at c
   ·rename_i e he;injection c with c;subst c;exact absurd h (hE _ _ _ _ _ _ he)
   ·rw[aa]at c
    split at c
    ·injection c with c;subst c;exact absurd h (iso _ _)
    ·injection c with c;subst c;exact absurd h (orf _)
  ·cases c
 ·rename_i fo args at2 m
  split at c
  ·rename_i fv vs j l;injection c with c;subst c;dsimp only at h;unfold dj at h
   split at h
   ·split at h
    ·rename_i e he;exact absurd h (hE _ _ _ _ _ _ he)
    ·rw[aa]at h
     split at h
     ·exact absurd h (iso _ _)
     ·exact absurd h (orf _)
   ·exact absurd h (rnd _ _)
   ·cases h
  ·cases c
 ·injection c with c;subst c;cases h
 ·rename_i fo args at2
  split at c
  ·rename_i fv vs j l;injection c with c;subst c;dsimp only at h;cases rd with
   |some _=>cases h
   | none =>
    dsimp only at h;have hf:=au j ht hr;have n:=ic ht hr l;generalize hfo:a.eval fo=vfo at hf;generalize fv.run t=y at h hf;cases hf with
    | clo _ fx xs ys vs1 us1 hl hl2 h1 h2 =>
     dsimp only at h;injection h with h;subst h;refine⟨{ target:=.fn (.func fx) us1,args:=vs1++args.map a.eval },⟨⟨fx,ys,us1,rfl,rfl,SH hl2 h2,?_⟩,hdf⟩,ED ho hw hrd ?_⟩
     ·have:=(SH hl h1).append n;simpa using this
     ·simp only[execOp,hop,resolve,hfo,Deferred.ofValue,Ut,UN,Uq]
    |_=>cases h
  ·cases c
 ·split at c
  ·rename_i s hs;injection c with c;subst c;have:=yf (t:=t) (g:=g) hs;have h:s.run t g=.dfr x:=h;rw[h]at this;exact this.elim
  ·cases c
theorem LP(hC:CfgOk C)(hi:IHOk C ih):∀(l:List Oper) (i:Nat) {t:T} {df:List ADf} {g:G} {e:Ex} {t':T} {df':List ADf} {g':G},
  ops.toList.drop i=l->(jU C nt ops.toList l).run ih (bd+1) rd t df g=.ok e t' df' g'->WF g ->
  ∀{w γ hg nx a},Rel C A bd w γ hg nx->Ext g.h hg->Free γ g g'->TR w γ A bd nt t a.tmps->DR w γ A bd df a.defers->RdOk γ rd b->pD b.kind cs ->
   e=.norm/\∃a' w' γ' hg',Fin C A bd w γ hg nx g w' γ' hg' g'/\TR w' γ' A bd nt t' a'.tmps/\DR w' γ' A bd df' a'.defers /\
    Steps C.P (lone (b.atR a (.inRegion ops (List.range' i l.length)::k)) cs w) (lone (b.atR a' k) cs w'):=by
 intro l
 induction l with
 | nil =>
  intro i t df g e t' df' g' _ h _ w γ hg nx a hr hx hf ht n v c;simp only[jU]at h;injection h with h1 h2 M h4;subst h1;subst h2;subst M;subst h4;exact⟨rfl,a,w,γ,hg,Fin.refl hr,ht,n,.one stepR_region_end⟩
 | cons o rest ihl =>
  intro i t df g e t' df' g' p h z w γ hg nx a hr hx hf ht n v c;have ho:ops[i]?=some o:=by
   have:(ops.toList.drop i)[0]?=some o:=by rw[p];rfl
   simpa [UO] using this
  have m:ops.toList.drop (i+1)=rest:=by rw[<-Vq,p];rfl
  have B:List.range' i (o::rest).length=i::List.range' (i+1) rest.length:=by simp[W7]
  rw[B];have exec:∀{out:Stg (T->AV->T)},qj nt o.dst=some out->Region.wanted o (yielded ops a.tmps)=true ->
    pB out.run ((jU C nt ops.toList rest).run ih (bd+1) rd) t df g ((bC C o.op).run ih (bd+1) rd t g)=.ok e t' df' g' ->
    e=.norm/\∃a' w' γ' hg',Fin C A bd w γ hg nx g w' γ' hg' g'/\TR w' γ' A bd nt t' a'.tmps/\DR w' γ' A bd df' a'.defers /\
     Steps C.P (lone (b.atR a (.inRegion ops (i::List.range' (i+1) rest.length)::k)) cs w) (lone (b.atR a' k) cs w'):=by
   intro out j hw h;have hm:=i6 (op:=o.op) (d:=bd+1) (rd:=rd) (t:=t) hC.mon hi.mon z;generalize hres:(bC C o.op).run ih (bd+1) rd t g=r at h hm;have go:∀{x:AV} {g1:G},r≠.fail->(∀y,r≠.dfr y)->vOf r=x->gOf g r=g1->(jU C nt ops.toList rest).run ih (bd+1) rd (out.run t x) df g1=.ok e t' df' g' ->
     e=.norm/\∃a' w' γ' hg',Fin C A bd w γ hg nx g w' γ' hg' g'/\TR w' γ' A bd nt t' a'.tmps/\DR w' γ' A bd df' a'.defers /\
     Steps C.P (lone (b.atR a (.inRegion ops (i::List.range' (i+1) rest.length)::k)) cs w) (lone (b.atR a' k) cs w'):=by
    intro x g1 J I K H h;subst K;subst H;have w1:=hm.wf z;have L:=zO hC.mon hi.mon h w1;obtain⟨u,wa,γa,N,f1,rv,st⟩:=Em (b:=b) (cs:=cs) (rest:=List.range' (i+1) rest.length) (k:=k) hC hi hr z ht c hx.agr hres J I (hf.le L.nx) ho hw;obtain⟨he,a',wb,γb,s,f2,tr,dr,st2⟩:=ihl (i+1) m h w1 (a:=a.put o.dst u) f1.rel (f1.ext hm hx) (f1.freed hr hm hf) ((ht.step f1.stp).put j rv)
     (by have:=n.step f1.stp;cases hd:o.dst<;>simpa [Act.put,hd] using this) (v.step f1.stp) c
    exact⟨he,a',wb,γb,s,f1.trans f2 hm L,tr,dr,Steps.trans st st2⟩
   cases r with
   |fail=>cases h
   |val x=>exact go (by simp) (by simp) rfl rfl h
   |upd x g1=>exact go (by simp) (by simp) rfl rfl h
   | dfr x =>
    obtain⟨dd,F,st⟩:=IC (b:=b) (cs:=cs) (rest:=List.range' (i+1) rest.length) (k:=k) hr ht v n hres (λf e d args g y he hy=>by
     exact extNoDfr hC he hy) ho hw
    obtain⟨he,a',wb,γb,s,f2,tr,dr,st2⟩:=ihl (i+1) m h z (a:={ a with defers:=dd::a.defers }.put o.dst undef) hr hx hf
     (ht.put (a:={ a with defers:=dd::a.defers }) j cU)
     (by cases hd:o.dst<;>simpa [Act.put,hd] using F) v c
    exact⟨he,a',wb,γb,s,f2,tr,dr,.head st st2⟩
  simp only[jU]at h
  split at h
  ·rename_i out j
   split at h
   ·rename_i D;refine exec j ?_ h;simp[Region.wanted,D]
   ·rename_i gd D
    split at h
    ·rename_i q hq;rw[<-D]at hq;dsimp only at h
     split at h
     ·rename_i E;exact exec j (mP hq ht E) h
     ·rename_i E;have hw:=mP hq ht E;obtain⟨he,a',wb,γb,s,f2,tr,dr,st2⟩:=ihl (i+1) m h z (a:=a.put o.dst undef) hr hx hf
       (ht.put j cU) (by cases hd:o.dst<;>simpa [Act.put,hd] using n) v c
      exact⟨he,a',wb,γb,s,f2,tr,dr,.head (t7 ho hw) st2⟩
     ·cases h
    ·cases h
  ·cases h where
 extNoDfr {f d:Nat} {e:Nat->List AV->G->OR} {args:List AV} {g:G} {y:ADf} (hC:CfgOk C) (he:C.ext f=some e) (hy:e d args g=.dfr y):False:=by exact (hC.noDfr f e he d args g y) hy
end
section
variable {z:AV}
theorem uM{d:TypeDesc}{x y:AV}(hx:pj d x=true)(hy:pj d y=true):∃b,m6 x y=some b:=by
 cases d<;>cases x<;>simp[pj]at hx<;>cases y<;>simp[pj]at hy
 ·exact⟨_,rfl⟩
 ·rename_i h k n1 k2 n2;rw[mQ]at hx hy;simp only[UD]at hx hy;subst hx;subst hy;exact⟨_,by simp[m6,mQ];rfl⟩
 ·exact⟨_,rfl⟩
theorem yR:∀{ds:List TypeDesc} {xs ys:List AV},dZ ds xs=true->dZ ds ys=true->∃b,dY xs ys=some b:=by
 intro ds
 induction ds with
 |nil=>intro xs ys hx h;cases xs<;>simp[dZ]at hx;cases ys<;>simp[dZ]at h;exact⟨_,rfl⟩
 | cons d ds ih =>
  intro xs ys hx h;cases xs<;>simp[dZ,aa]at hx;cases ys<;>simp[dZ,aa]at h;obtain⟨b1,h1⟩:=uM hx.1 h.1;obtain⟨b2,h2⟩:=ih hx.2 h.2;exact⟨_,by simp only[dY,h1,h2];rfl⟩
theorem Na{kk:KeyKind}{x y:AV}(hx:jQ kk x=true)(hy:jQ kk y=true):∃b,jP x y=some b:=by
 cases kk with
 | one d =>
  simp only[jQ]at hx hy;obtain⟨b,hb⟩:=uM hx hy;cases x<;>first| (cases d<;>simp[pj]at hx;done)|skip
  all_goals
   cases y<;>first| (cases d<;>simp[pj]at hy;done)| (exact⟨b,by simpa [jP] using hb⟩)|skip
 | flat ds =>
  cases x<;>simp[jQ]at hx;cases y<;>simp[jQ]at hy;obtain⟨b,hb⟩:=yR hx hy;exact⟨b,by simpa [jP] using hb⟩
 |other=>cases x<;>simp[jQ]at hx
theorem Hl{k k0:AV}:∀{es:List (AV×AV)} {r:Option AV},jO k es=some r->(∃b,jP k k0=some b) ->
  jO k (es++[(k0,z)])=some (match r with|some v=>some v|none=>if jP k k0=some true then some z else none):=by
 intro es
 induction es with
 | nil =>
  intro r h hk;simp only[jO]at h;injection h with h;subst h;obtain⟨b,hb⟩:=hk;cases b<;>simp[jO,hb]
 | cons e es ih =>
  intro r h hk;obtain⟨k',v'⟩:=e;simp only[jO]at h;simp only[UE,jO]
  split at h
  ·injection h with h;subst h;rfl
  ·exact ih h hk
  ·cases h
theorem F4{kk:KeyKind}{m k:T->AV}{id:Nat}{es:List (AV×AV)}{k0:AV}(h:cz kk z false m k t g=.val v)(hm:m t=.hmap id)
  (hg:g.h.get id=.map es) (hg':g'.h.get id=.map (es++[(k0,z)])) (hk0:jQ kk k0=true):cz kk z false m k t g'=.val v:=by
 unfold cz at h ⊢;rw[aa]at h ⊢
 split at h
 ·rename_i hk;rw[Un hk];simp only[hm,G.get_eq,hg,hg']at h ⊢;cases hf:jO (k t) es with
  |none=>rw[hf]at h;cases h
  | some r =>
   rw[Hl hf (Na hk hk0)];rw[hf]at h;cases r with
   |some v'=>exact h
   | none =>
    dsimp only at h ⊢
    by_cases hq:jP (k t) k0=some true
    ·rw[Un hq];exact h
    ·rw[Um hq];exact h
 ·cases h
theorem Sa{op:Op}(h:((aH C op).run t g).sr≠[]):∃ty x k a,op=.lookup ty x k false/\aP C x=some a /\
  (aH C op).run t g=⟨[],(af (a.run t)).map (·,ty),[],false⟩:=by
 cases op<;>simp only[aH]at h ⊢<;>try (exact absurd rfl h)
 case lookup ty x k ok =>
  cases ok
  ·dsimp only at h ⊢
   split at h
   ·rename_i a ha;exact⟨ty,x,k,a,rfl,ha,by simp[ha]⟩
   ·exact absurd rfl h
  ·dsimp only at h
   split at h<;>exact absurd rfl h
 case call c =>
  obtain⟨callee,args,at'⟩:=c;cases callee<;>simp only at h
  ·split at h
   ·dsimp only at h
    split at h
    ·rw[aa]at h;split at h<;>exact absurd rfl h
    ·exact absurd rfl h
   ·exact absurd rfl h
  ·exact absurd rfl h
  ·split at h<;>exact absurd rfl h
 all_goals (split at h<;>exact absurd rfl h)
theorem PY{op:Op}{p:Nat×Nat}(h:p∈((aH C op).run t g).soft):∃x k a,op=.mapEntry p.2 x k/\aP C x=some a/\p.1∈af (a.run t):=by
 cases op<;>simp only[aH]at h<;>try (exact absurd h Uu)
 case mapEntry ty x k =>
  split at h
  ·rename_i a ha;dsimp only at h;obtain⟨id,h1,h2⟩:=U4.1 h;subst h2;exact⟨x,k,a,rfl,ha,h1⟩
  ·exact absurd h Uu
 case lookup ty x k ok =>
  cases ok<;>dsimp only at h<;>split at h<;>exact absurd h Uu
 case call c =>
  obtain⟨callee,args,at'⟩:=c;cases callee<;>simp only at h
  ·split at h
   ·dsimp only at h
    split at h
    ·rw[aa]at h;split at h<;>exact absurd h Uu
    ·exact absurd h Uu
   ·exact absurd h Uu
  ·exact absurd h Uu
  ·split at h<;>exact absurd h Uu
 all_goals (split at h<;>exact absurd h Uu)
theorem E7{ih:IH}{ty:TypeId}{x k:Operand}{ok:Bool}{r:OR}(h:(bC C (.lookup ty x k ok)).run ih d rd t g=r)(hne:r≠.fail) :
  ∃a kk kt et z,aP C x=some a/\aP C k=some kk/\C.P.underlying ty=some (.map kt et)/\rR C.P et=some z /\
   (∀t g,(bC C (.lookup ty x k ok)).run ih d rd t g=cz (ck C.P kt) z ok a.run kk.run t g)/\r=cz (ck C.P kt) z ok a.run kk.run t g:=by
 unfold bC at h ⊢;simp only[cOp,cm]at h ⊢
 split at h
 ·rename_i f hf
  split at hf
  ·rename_i s hs;injection hf with hf;subst hf
   split at hs
   ·rename_i a kk kt et ha hk hu
    split at hs
    ·rename_i z hz;injection hs with hs;subst hs;refine⟨a,kk,kt,et,z,ha,hk,hu,hz,λt g=>?_,h.symm⟩;simp only[ha]
    ·cases hs
   ·cases hs
  ·cases hf
 ·exact absurd h.symm hne
theorem BF{ih:IH}{ty:TypeId}{x k:Operand}{r:OR}(h:(bC C (.mapEntry ty x k)).run ih d rd t g=r)(hne:r≠.fail) :
  ∃a kk kt et z,aP C x=some a/\aP C k=some kk/\C.P.underlying ty=some (.map kt et)/\rR C.P et=some z/\r=dh (ck C.P kt) z a.run kk.run t g:=by
 unfold bC at h;simp only[cOp,cm]at h
 split at h
 ·rename_i f hf
  split at hf
  ·rename_i s hs;injection hf with hf;subst hf
   split at hs
   ·rename_i a kk kt et ha hk hu
    split at hs
    ·rename_i z hz;injection hs with hs;subst hs;exact⟨a,kk,kt,et,z,ha,hk,hu,hz,h.symm⟩
    ·cases hs
   ·cases hs
  ·cases hf
 ·exact absurd h.symm hne
theorem Ee{kk:KeyKind}{m k:T->AV}(h:dh kk z m k t g=.upd v g') :
  ∃id es,m t=.hmap id/\g.h.get id=.map es/\g'=g.put id (.map (es++[(k t,z)]))/\jQ kk (k t)=true:=by
 unfold dh at h;rw[aa]at h
 split at h
 ·rename_i hk
  split at h
  ·rename_i id hm
   split at h
   ·rename_i es a
    split at h
    ·cases h
    ·injection h with h1 h2;subst h2;exact⟨id,es,hm,by simpa using a,rfl,hk⟩
    ·cases h
   ·cases h
  ·cases h
 ·cases h
theorem EA{x:Foot}:∀{l:List Foot} {j0 j:Nat} {y:Foot},l[j]?=some y->(pm.getD (j0+j) 0).testBit i=false->meets y.wr (fst1 x.lk.sr)=true ->
  1<=b_ pm i x j0 l:=by
 intro l
 induction l with
 |nil=>intro j0 j y h;simp at h
 | cons a l ih =>
  intro j0 j y h h1 h2;cases j with
  | zero =>
   simp at h;subst h;simp only[b_,aa];rw[Um]
   ·omega
   ·simp only[VH]at h1;rw[h1,h2];simp
  | succ j =>
   have:=ih (j0:=Nat.succ j0) (by simpa using h) (by rw[show Nat.succ j0+j=j0+(j+1) by omega];exact h1) h2;simp only[b_,aa]
   split<;>omega
theorem Cf{x:Foot}:∀{l:List Foot} {j0 j j':Nat} {y y':Foot},j<j'->l[j]?=some y->l[j']?=some y'->(pm.getD (j0+j) 0).testBit i=false->(pm.getD (j0+j') 0).testBit i=false ->
  meets y.wr (fst1 x.lk.sr)=true->meets y'.wr (fst1 x.lk.sr)=true->2<=b_ pm i x j0 l:=by
 intro l
 induction l with
 |nil=>intro j0 j j' y y' _ h;simp at h
 | cons a l ih =>
  intro j0 j j' y y' hlt h h' h1 k h2 b;cases j' with
  |zero=>omega
  | succ j' =>
   cases j with
   | zero =>
    simp at h;subst h;have:=EA (pm:=pm) (i:=i) (x:=x) (j0:=Nat.succ j0) (j:=j') (by simpa using h') (by rw[show Nat.succ j0+j'=j0+(j'+1) by omega];exact k) b;simp only[b_,aa];rw[Um]
    ·omega
    ·simp only[VH]at h1;rw[h1,h2];simp
   | succ j =>
    have:=ih (j0:=Nat.succ j0) (j:=j) (j':=j') (by omega) (by simpa using h) (by simpa using h') (by rw[show Nat.succ j0+j=j0+(j+1) by omega];exact h1) (by rw[show Nat.succ j0+j'=j0+(j'+1) by omega];exact k) h2 b;simp only[b_,aa]
    split<;>omega
theorem It{b x:Bool}(h:ak b x false=true):b=true/\x=true:=by
 cases b
 ·cases h
 ·exact⟨rfl,h⟩
theorem EB:∀{l:List Foot} {i0:Nat},gg pm i0 l=true->∀(i j j':Nat) x y y',i<j->j<j'->l[i]?=some x->l[j]?=some y->l[j']?=some y'->x.lk.sr≠[] ->
  (pm.getD (i0+j) 0).testBit (i0+i)=false->(pm.getD (i0+j') 0).testBit (i0+i)=false->meets y.wr (fst1 x.lk.sr)=true->meets y'.wr (fst1 x.lk.sr)=true->False:=by
 intro l
 induction l with
 |nil=>intro i0 _ i j j' x y y' _ _ h;simp at h
 | cons a l ih =>
  intro i0 h i j j' x y y' m n hx f d c h1 k h2 b;obtain⟨hc,h⟩:=It h;cases j' with
  |zero=>omega
  | succ j' =>
   cases j with
   |zero=>omega
   | succ j =>
    cases i with
    | zero =>
     simp at hx;subst hx;have e:Nat.ble (b_ pm i0 a (Nat.succ i0) l) 1=true:=by
      cases hsr':a.lk.sr with
      |nil=>exact absurd hsr' c
      |cons p r=>rw[hsr']at hc;exact hc
     rw[UR]at e;have:=Cf (pm:=pm) (i:=i0) (x:=a) (j0:=Nat.succ i0) (j:=j) (j':=j') (by omega) (by simpa using f) (by simpa using d)
      (by rw[show Nat.succ i0+j=i0+(j+1) by omega];exact h1) (by rw[show Nat.succ i0+j'=i0+(j'+1) by omega];exact k) h2 b
     omega
    | succ i =>
     refine ih h i j j' x y y' (by omega) (by omega) (by simpa using hx) (by simpa using f) (by simpa using d) c ?_ ?_ h2 b
     ·rw[show Nat.succ i0+j=i0+(j+1) by omega,show Nat.succ i0+i=i0+(i+1) by omega];exact h1
     ·rw[show Nat.succ i0+j'=i0+(j'+1) by omega,show Nat.succ i0+i=i0+(i+1) by omega];exact k
theorem fD{a b:List Nat}(ha:x∈a)(hb:x∈b):meets a b=true:=by unfold meets;exact W6.2 ⟨x,ha,by simpa using hb⟩
theorem qe{l:List (Nat×Nat)}(h:x∈l.map (·.1)):x∈fst1 l:=h
theorem HO{p:Nat×Nat}:∀{l:List (Nat×Nat)},A9 p l=true->p∈l:=by
 intro l
 induction l with
 |nil=>intro h;cases h
 | cons q l ih =>
  intro h;simp only[A9,aa]at h
  split at h
  ·rename_i hc;simp only[Uk]at hc;have h1:=aB hc.1;have h2:=aB hc.2;exact UW.2 (.inl (Prod.ext h1 h2))
  ·exact U6 _ (ih h)
end
section
variable {j:Nat}
def TraAt(C:Cfg)(ih:IH)(d:Nat)(rd:Option Nat)(nt:Nat)(ops:Array Oper)(q:Bool)(o:Oper)(t t':T)(g g':G)(f:Foot):Prop :=
 ∃out gd,qj nt o.dst=some out/\i4 ops.toList o.guard=some gd /\
  ((gd.run t=some false/\t'=out.run t .undef/\g'=g/\f.wr=[]) \/
   (gd.run t=some true/\∃r,(bC C o.op).run ih d rd t (aR g [])=r/\r≠.fail/\(∀a,r≠.dfr a)/\t'=out.run t (vOf r)/\g'.h=(gOf (aR g []) r).h /\
    f.wr=(gOf (aR g []) r).lg/\(gOf (aR g []) r).nx<=g'.nx/\(q=false->f.lk=(aH C o.op).run t g/\(gOf (aR g []) r).nx<g'.nx)))
def ja(ops:Array Oper)(i:Nat):Option Tmp:=(ops[i]?).bind (·.dst)
structure Reg (C:Cfg) (ih:IH) (bd:Nat) (rd:Option Nat) (nt:Nat) (ops:Array Oper) (q:Bool) (T':Nat->T) (G':Nat->G) (F':Nat->Foot) (hg0:Nat->AObj):Prop where
 hC:CfgOk C
 hi:IHOk C ih
 tra:∀i o,ops[i]?=some o->TraAt C ih (bd+1) rd nt ops q o (T' i) (T' (i+1)) (G' i) (G' (i+1)) (F' i)
 wf0:WF (G' 0)
 ext0:Ext (G' 0).h hg0
 free0:∀id,(G' 0).nx<=id->id<=(G' ops.size).nx->hg0 id=.none
 apart:∀i j,i<j->j<ops.size->((bD ops.toList []).getD j 0).testBit i=true\/be (F' i) (F' j)=true
 once:∀i j j',i<j->j<j'->j'<ops.size->(F' i).lk.sr≠[]->((bD ops.toList []).getD j 0).testBit i=false->((bD ops.toList []).getD j' 0).testBit i=false ->
  meets (F' j).wr (fst1 (F' i).lk.sr)=true->meets (F' j').wr (fst1 (F' i).lk.sr)=true->False
 slots:∀i j oi oj,i<j->ops[i]?=some oi->ops[j]?=some oj->((bD ops.toList []).getD j 0).testBit i=true\/kG ops.toList oi oj=true
 guards:∀i o j b,ops[i]?=some o->o.guard=some (j,b)->((bD ops.toList []).getD i 0).testBit j=true
 quiet:q=true->∀i,i<ops.size->(F' i).wr=[]
section
variable {C:Cfg}{A:Nat->Nat->Prop}{bd:Nat}{ih:IH}{rd:Option Nat}{nt:Nat}{ops:Array Oper}{q:Bool}{T':Nat->T}{G':Nat->G}{F':Nat->Foot}{hg0:Nat->AObj}
theorem TraAt.facts(hC:CfgOk C)(hi:IHOk C ih){o:Oper}{f:Foot}(h:TraAt C ih d rd nt ops q o t t' g g' f)(hwf:WF g) :
  WF g'/\g.nx<=g'.nx/\(∀id,id ∉ f.wr->g'.h.get id=g.h.get id)/\∀id∈f.wr,id<g'.nx/\(g.h.get id=.none->g.nx<=id):=by
 obtain⟨out,gd,_,_,h⟩:=h;rcases h with⟨_,_,rfl,hw⟩|⟨_,r,hr,l,_,_,j,hw,i,_⟩
 ·rw[hw];exact⟨hwf,Ui _,λ_ _=>rfl,λ_ h=>absurd h Uu⟩
 ·have hm:Mon (aR g []) (gOf (aR g []) r):=by rw[<-hr];exact i6 hC.mon hi.mon hwf.setLog
  obtain⟨n,a,b,c⟩:=hm.new;have e:(gOf (aR g []) r).lg=n:=by simpa using a
  have k:g.nx<=(gOf (aR g []) r).nx:=by have:=hm.nx;simpa using this
  refine⟨λid hid=>?_,Uy k i,λid hid=>?_,λid hid=>?_⟩
  ·rw[j];exact hm.wf hwf.setLog id (by omega)
  ·rw[j,b id (by rw[<-e,<-hw];exact hid)];simp
  ·have:=c id (by rw[<-e,<-hw];exact hid);simp only[setLog_h,setLog_nx]at this;exact⟨by omega,this.2⟩
theorem Reg.facts(R:Reg C ih bd rd nt ops q T' G' F' hg0):∀i,i<=ops.size->WF (G' i):=by
 intro i
 induction i with
 |zero=>intro _;exact R.wf0
 | succ i ih' =>
  intro h;have ho:ops[i]?=some ops[i]:=Uv (by omega);exact (TraAt.facts R.hC R.hi (R.tra i _ ho) (ih' (by omega))).1
theorem Reg.at(R:Reg C ih bd rd nt ops q T' G' F' hg0){i:Nat}(h:i<ops.size) :
  (G' i).nx<=(G' (i+1)).nx/\(∀id,id ∉ (F' i).wr->(G' (i+1)).h.get id=(G' i).h.get id)/\∀id∈(F' i).wr,id<(G' (i+1)).nx/\((G' i).h.get id=.none->(G' i).nx<=id):=by
 have ho:ops[i]?=some ops[i]:=Uv h;exact (TraAt.facts R.hC R.hi (R.tra i _ ho) (R.facts i (by omega))).2
theorem Reg.nx_mono(R:Reg C ih bd rd nt ops q T' G' F' hg0){i:Nat}(h:i<=j)(hj:j<=ops.size):(G' i).nx<=(G' j).nx:=by
 induction j with
 | zero=>have:i=0:=by omega
         subst this;exact Ui _
 | succ j ih' =>
  by_cases hij:i=j+1
  ·subst hij;exact Ui _
  ·exact Uy (ih' (by omega) (by omega)) (R.at (by omega)).1
theorem Reg.keepT(R:Reg C ih bd rd nt ops q T' G' F' hg0)(hj:j<ops.size){s:Nat}(h:ja ops j≠some s):(T' (j+1)).get AV.undef s=(T' j).get AV.undef s:=by
 have ho:ops[j]?=some ops[j]:=Uv hj;obtain⟨out,gd,k,_,h'⟩:=R.tra j _ ho;have key:∀x,(out.run (T' j) x).get AV.undef s=(T' j).get AV.undef s:=by
  intro x;simp only[ja,ho,VX]at h;cases hd:ops[j].dst with
  |none=>rw[hd]at k;simp[qj]at k;subst k;rfl
  | some d =>
   rw[hd]at k h;simp only[qj,aa]at k
   split at k
   ·injection k with k;subst k;rw[sp_get,Um];rintro rfl;exact h rfl
   ·cases k
 rcases h' with⟨_,h1,_⟩|⟨_,r,_,_,_,h1,_⟩
 ·rw[h1,key]
 ·rw[h1,key]
def Down(ops:Array Oper)(S:Nat->Prop):Prop:=∀j o,ops[j]?=some o->S j->∀e∈o.after.toList,Region.binds .any e=true->S e.on
theorem Down.mask{S:Nat->Prop}(h:Down ops S){i:Nat}(hb:((bD ops.toList []).getD j 0).testBit i=true)(hj:S j):S i :=
 Bc (S:=S) (all:=ops.toList) (λj o ho=>h j o (by simpa using ho)) ops.toList [] [] rfl rfl (λj i hj=>by simp at hj) j i hb hj
theorem Py(S:Nat->Prop):∀n,∃t:T,∀s,t.get AV.undef s=ov S (λi s=>ja ops i=some s) (λi s=>(T' i).get AV.undef s) (λs=>(T' 0).get AV.undef s) n s:=by
 intro n
 induction n with
 |zero=>exact⟨T' 0,λs=>rfl⟩
 | succ n ih' =>
  obtain⟨t,ht⟩:=ih'
  by_cases hS:S n
  ·cases hd:ja ops n with
   |none=>exact⟨t,λs=>by simp only[ov];rw[Um (by rw[hd];simp)];exact ht s⟩
   | some d =>
    refine⟨(sp AV.undef d).run t ((T' (n+1)).get AV.undef d),λs=>?_⟩;rw[sp_get];simp only[ov]
    by_cases hs:s=d
    ·subst hs;rw[Un rfl,Un ⟨hS,hd⟩]
    ·rw[Um hs,Um (by rw[hd];rintro⟨_,h⟩;exact hs (by injection h with h;exact h.symm))];exact ht s
  ·exact⟨t,λs=>by simp only[ov];rw[Um (λh=>hS h.1)];exact ht s⟩
structure Inv (C:Cfg) (A:Nat->Nat->Prop) (bd nt:Nat) (ops:Array Oper) (T':Nat->T) (G':Nat->G) (F':Nat->Foot) (hg0:Nat->AObj) (N:Nat) (w0:World) (γ0:Gm) (df0:List Deferred)
  (S:Nat->Prop) (a:Act) (w:World) (γ:Gm) (hg:Nat->AObj):Prop where
 rel:Rel C A bd w γ hg N
 stp:Stp w0 γ0 w γ
 size:a.tmps.size=nt
 slots:∀s,RV w γ A bd (ov S (λi s=>ja ops i=some s) (λi s=>(T' i).get AV.undef s) (λs=>(T' 0).get AV.undef s) ops.size s) (a.tmps.getD s undef)
 objs:∀id,hg id=ov S (λi id=>id∈(F' i).wr) (λi id=>(G' i).h.get id) hg0 ops.size id
 dfr:a.defers=df0
theorem kU{x y:Foot}(h:eG x y=true){id:Nat}(hid:id∈x.wr):y.lk.big=false/\id ∉ y.wr/\id ∉ y.lk.rd/\id ∉ y.lk.sr.map (·.1):=by
 unfold eG at h
 split at h
 ·rename_i he;rw[he]at hid;exact absurd hid Uu
 ·simp only[Uk,Vb]at h;obtain⟨⟨⟨h1,h2⟩,k⟩,h4⟩:=h;refine⟨h1,λh=>?_,λh=>?_,λh=>?_⟩
  ·rw[fD hid h]at h2;cases h2
  ·rw[fD hid h]at k;cases k
  ·rw[fD hid (qe h)]at h4;cases h4
theorem tA{x y:Foot}(h:dg x y=true){id:Nat}(hid:id∈x.wr):y.lk.big=false/\id ∉ y.wr/\id ∉ y.lk.rd/\(id∈y.lk.sr.map (·.1)->∀p∈y.lk.sr,p∈x.lk.soft):=by
 unfold dg at h
 split at h
 ·rename_i he;rw[he]at hid;exact absurd hid Uu
 ·simp only[Uk,Vb,UZ]at h;obtain⟨⟨⟨h1,h2⟩,k⟩,h4⟩:=h;refine⟨h1,λh=>?_,λh=>?_,λh p hp=>?_⟩
  ·rw[fD hid h]at h2;cases h2
  ·rw[fD hid h]at k;cases k
  ·rcases h4 with h4|h4
   ·rw[fD hid (qe h)]at h4;cases h4
   ·exact HO (Uz.1 h4 p hp)
theorem dH{x y:Foot}(h:be x y=true):eG x y=true/\dg y x=true:=by unfold be at h;simpa using h
theorem md{all:List Oper}{x y:Oper}(h:kG all x y=true) :
  (∀d,x.dst=some d->d ∉ uv all y/\y.dst≠some d)/\(∀d,y.dst=some d->d ∉ uv all x):=by
 unfold kG at h;simp only[Uk]at h;refine⟨λd hd=>?_,λd hd=>?_⟩
 ·have:=h.1;rw[hd]at this;simp only[Uk,Vb,bne_iff_ne,ne_eq]at this;exact⟨λhm=>(by have h1:=this.1;rw[VP.2 hm]at h1;cases h1),this.2⟩
 ·have:=h.2;rw[hd]at this;simp only[Vb]at this;intro hm;rw[VP.2 hm]at this;cases this
variable {N:Nat}{w0:World}{γ0:Gm}{df0:List Deferred}{S:Nat->Prop}{a:Act}{w:World}{γ:Gm}{hg:Nat->AObj}
variable {b:Frame}{i:Nat}{rest:List Nat}{k:List Item}{cs:List Frame}{o:Oper}
theorem Reg.good(R:Reg C ih bd rd nt ops q T' G' F' hg0)(I:Inv C A bd nt ops T' G' F' hg0 N w0 γ0 df0 S a w γ hg)(hin:i<=ops.size){id:Nat}
  (h:∀j,j<ops.size->id∈(F' j).wr->(S j↔j<i)) (hne:(G' i).h.get id≠.none):hg id=(G' i).h.get id:=by
 rw[I.objs id];rcases NA (S:=S) (wr:=λi id=>id∈(F' i).wr) (val:=λi id=>(G' i).h.get id) (base:=hg0) (k:=id) hin (λj hj hw=>(R.at hj).2.1 id hw) h with⟨_,h2⟩|⟨_,h2,b⟩
 ·exact h2
 ·rw[h2,b];exact R.ext0 id (by rw[<-b];exact hne)
theorem MV(R:Reg C ih bd rd nt ops q T' G' F' hg0)(I:Inv C A bd nt ops T' G' F' hg0 N w0 γ0 df0 S a w γ hg)(hN:(G' ops.size).nx<=N)
  (ho:ops[i]?=some o) (hS:¬S i) (hdown:Down ops S) (hready:∀e∈o.after.toList,Region.binds .any e=true->S e.on) (hcalm:pD b.kind cs) :
  ∃a' w' γ' hg',Inv C A bd nt ops T' G' F' hg0 N w0 γ0 df0 (λj=>S j\/j=i) a' w' γ' hg' /\
   Steps C.P (lone (b.atR a (.inRegion ops (i::rest)::k)) cs w) (lone (b.atR a' (.inRegion ops rest::k)) cs w'):=by
 have hi:i<ops.size:=(Vf.1 ho).1;have hh:Down ops (λj=>S j\/j=i):=by
  intro j oj B E e he hb;rcases E with E|rfl
  ·exact .inl (hdown j oj B E e he hb)
  ·rw[ho]at B;injection B with B;subst B;exact .inl (hready e he hb)
 have ahead:∀j,j≠i->((bD ops.toList []).getD i 0).testBit j=true->S j:=by
  intro j E hb;rcases hh.mask hb (.inr rfl) with h|h
  ·exact h
  ·exact absurd h E
 have behind:∀j,S j->((bD ops.toList []).getD j 0).testBit i≠true:=λj E hb=>hS (hdown.mask hb E);have h5:ja ops i=o.dst:=by simp[ja,ho]
 have km:∀s∈uv ops.toList o,ov S (λi s=>ja ops i=some s) (λi s=>(T' i).get AV.undef s) (λs=>(T' 0).get AV.undef s) ops.size s=(T' i).get AV.undef s:=by
  intro s hs;have h:∀j,j<ops.size->ja ops j=some s->(S j↔j<i):=by
   intro j E hd;have B:ops[j]?=some ops[j]:=Uv E;have hf:ops[j].dst=some s:=by simpa [ja,B] using hd
   constructor
   ·intro p;rcases Nat.lt_trichotomy j i with h|h|h
    ·exact h
    ·subst h;exact absurd p hS
    ·rcases R.slots i j _ _ h ho B with hb|hb
     ·exact absurd hb (behind j p)
     ·exact absurd hs ((md hb).2 s hf)
   ·intro hlt;rcases R.slots j i _ _ hlt B ho with hb|hb
    ·exact ahead j (by omega) hb
    ·exact absurd hs ((md hb).1 s hf).1
  rcases NA (S:=S) (wr:=λi s=>ja ops i=some s) (val:=λi s=>(T' i).get AV.undef s) (base:=λs=>(T' 0).get AV.undef s) (k:=s) (by omega:i<=ops.size) (λj E hw=>R.keepT E hw) h with⟨_,h2⟩|⟨_,h2,Y⟩
  ·exact h2
  ·rw[h2,<-Y]
 obtain⟨ts,kn⟩:=Py (ops:=ops) (T':=T') S ops.size;have h9:TR w γ A bd nt ts a.tmps:=⟨I.size,λs=>by rw[kn s];exact I.slots s⟩;have kr:∀s∈uv ops.toList o,ts.get AV.undef s=(T' i).get AV.undef s:=λs hs=>by rw[kn s,km s hs]
 have L:Ci C ts (T' i) o.op.operands.toList:=by intro x hx s hs;refine G6 hs λn hn=>kr n ?_;subst hn;exact VV _ (List.mem_filterMap.2 ⟨_,hx,rfl⟩)
 obtain⟨out,gd,c,kb,k9⟩:=R.tra i o ho;have ky:gd.run ts=gd.run (T' i):=by refine Dz kb λj b' oj d hg' B hd=>kr d ?_;refine VQ _ ?_;simp only[hg',B,hd];simp
 have a5:∀s,ja ops i=some s->∀j,i<j->j<ops.size->S j->¬ja ops j=some s:=by
  intro s hd j X E p hf;have B:ops[j]?=some ops[j]:=Uv E;rcases R.slots i j _ _ X ho B with hb|hb
  ·exact behind j p hb
  ·exact ((md hb).1 s (h5 ▸ hd)).2 (by simpa [ja,B] using hf)
 have slots':∀{w':World} {γ':Gm} {x:AV} {v:Value},Stp w γ w' γ'->RV w' γ' A bd x v->T' (i+1)=out.run (T' i) x ->
   (a.put o.dst v).tmps.size=nt/\∀s,RV w' γ' A bd (ov (λj=>S j\/j=i) (λi s=>ja ops i=some s) (λi s=>(T' i).get AV.undef s) (λs=>(T' 0).get AV.undef s) ops.size s) ((a.put o.dst v).tmps.getD s undef):=by
  intro w' γ' x v b2 hv hT;have h1:=(h9.step b2).put c hv;refine⟨h1.1,λs=>?_⟩;have h2:=h1.2 s
  by_cases hs:ja ops i=some s
  ·rw[Nz (wr:=λi s=>ja ops i=some s) hi hs (a5 s hs),hT];rw[h5]at hs;rw[hs]at c h2 ⊢;simp only[qj,aa]at c
   split at c
   ·injection c with c;subst c;simp only[sp_get,if_true]at h2 ⊢;exact h2
   ·cases c
  ·rw[Ep (wr:=λi s=>ja ops i=some s) hs,<-kn s];have:(out.run ts x).get AV.undef s=ts.get AV.undef s:=by
    cases hd:o.dst with
    |none=>rw[hd]at c;simp[qj]at c;subst c;rfl
    | some d =>
     rw[hd]at c;simp only[qj,aa]at c
     split at c
     ·injection c with c;subst c;rw[sp_get,Um];rintro rfl;exact hs (by rw[h5,hd])
     ·cases c
   rw[this]at h2;exact h2
 rcases k9 with⟨hq,hT,hG,hW⟩|⟨hq,r,hr,hp,a3,hT,hH,hW,a7,kd⟩
 ·
  rw[<-ky]at hq;have hw:=mP kb h9 hq;obtain⟨s1,s2⟩:=slots' (Stp.refl w γ) cU hT;refine⟨_,w,γ,hg,⟨I.rel,I.stp,s1,s2,λid=>?_,?_⟩,.one (t7 ho hw)⟩
  ·rw[I.objs id];exact (Ep (by rw[hW];exact Uu)).symm
  ·have:=I.dfr;cases hd:o.dst<;>simpa [Act.put,hd] using this
 ·
  rw[<-ky]at hq;have hw:=mP kb h9 hq;have b3:WF (aR (G' i) []):=(R.facts i (by omega)).setLog;rw[<-G3 L]at hr;have h6:Free γ (aR (G' i) []) (gOf (aR (G' i) []) r):=by
   intro id h1 h2;simp only[setLog_nx]at h1;rw[I.rel.none_iff,I.objs id,A8 (m:=0) (US _)]
   ·exact R.free0 id (Uy (R.nx_mono (US i) (by omega)) h1) (Uy h2 (Uy a7 (R.nx_mono (by omega) (Ui _))))
   ·intro j _ E p hw;cases q with
    |true=>rw[R.quiet rfl j E]at hw;exact Uu hw
    | false =>
     have hlt:id<(G' (i+1)).nx:=by have:=(kd rfl).2;omega
     rcases Nat.lt_trichotomy j i with h|h|h
     ·have:=((R.at E).2.2 id hw).1;have:=R.nx_mono (show j+1<=i by omega) (by omega);omega
     ·subst h;exact hS p
     ·have kp:id∈(F' i).wr:=Vt λhn=>by
       have key:∀m,i<m->m<=j->(G' m).h.get id=.none:=by
        intro m
        induction m with
        |zero=>intro h;omega
        | succ m ihm =>
         intro b6 b7
         by_cases hmi:m=i
         ·subst hmi;rw[(R.at (by omega)).2.1 id hn];exact R.facts m (by omega) id h1
         ·have:=ihm (by omega) (by omega)
          by_cases hm:id∈(F' m).wr
          ·have Y:=((R.at (i:=m) (by omega)).2.2 id hm).2 this;have h4:=R.nx_mono (show i+1<=m by omega) (by omega);omega
          ·rw[(R.at (by omega)).2.1 id hm];exact this
       have Y:=((R.at E).2.2 id hw).2 (key j h (Ui _));have h4:=R.nx_mono (show i+1<=j by omega) (by omega);omega
      rcases R.apart i j h E with hb|hb
      ·exact behind j p hb
      ·exact (kU (dH hb).1 kp).2.1 hw
  have fin:∀{gs:G} {u:Value} {w':World} {γ':Gm} {hg':Nat->AObj},Fin C A bd w γ hg N gs w' γ' hg' (gOf (aR (G' i) []) r)->gs.lg=[]->RV w' γ' A bd (vOf r) u ->
    Steps C.P (lone (b.atR a (.inRegion ops (i::rest)::k)) cs w) (lone (b.atR (a.put o.dst u) (.inRegion ops rest::k)) cs w') ->
    ∃a' w' γ' hg',Inv C A bd nt ops T' G' F' hg0 N w0 γ0 df0 (λj=>S j\/j=i) a' w' γ' hg' /\
     Steps C.P (lone (b.atR a (.inRegion ops (i::rest)::k)) cs w) (lone (b.atR a' (.inRegion ops rest::k)) cs w'):=by
   intro gs u w' γ' hg' f hk hv st;obtain⟨s1,s2⟩:=slots' f.stp hv hT;have av:(gOf (aR (G' i) []) r).nx<=N:=Uy a7 (Uy (R.nx_mono (by omega) (Ui _)) hN);refine⟨_,w',γ',hg',⟨?_,I.stp.trans f.stp,s1,s2,λid=>?_,?_⟩,st⟩
   ·have:=f.rel;rw[show Nat.max N (gOf (aR (G' i) []) r).nx=N from Nat.max_eq_left av]at this;exact this
   ·obtain⟨n,e1,e2,e3⟩:=f.new;have en:(F' i).wr=n:=by rw[hW,e1,hk,Ux]
    by_cases t:id∈(F' i).wr
    ·rw[e2 id (en ▸ t),<-hH];refine (Nz (wr:=λi id=>id∈(F' i).wr) (val:=λi id=>(G' i).h.get id) hi t λj X E p hw=>?_).symm;rcases R.apart i j X E with hb|hb
     ·exact behind j p hb
     ·exact (kU (dH hb).1 t).2.1 hw
    ·rw[e3 id (en ▸ t),I.objs id];exact (Ep (wr:=λi id=>id∈(F' i).wr) t).symm
   ·have:=I.dfr;cases hd:o.dst<;>simpa [Act.put,hd] using this
  have O:∀id,(q=false->(F' i).lk.big=true\/id∈(F' i).lk.rd\/(id∈(F' i).lk.sr.map (·.1)/\∀j,i<j->j<ops.size->S j->id ∉ (F' j).wr)) ->
    (G' i).h.get id≠.none->hg id=(G' i).h.get id:=by
   intro id F D;refine R.good I (by omega) (λj E hw=>?_) D;cases q with
   |true=>rw[R.quiet rfl j E]at hw;exact absurd hw Uu
   | false =>
    have F:=F rfl;constructor
    ·intro p;rcases Nat.lt_trichotomy j i with h|h|h
     ·exact h
     ·subst h;exact absurd p hS
     ·rcases R.apart i j h E with hb|hb
      ·exact absurd hb (behind j p)
      ·obtain⟨h1,h2,Y,h4⟩:=tA (dH hb).2 hw;rcases F with hl|hl|⟨_,hl⟩
       ·rw[h1]at hl;cases hl
       ·exact absurd hl Y
       ·exact absurd hw (hl j h E p)
    ·intro hlt;rcases R.apart j i hlt hi with hb|hb
     ·exact ahead j (by omega) hb
     ·obtain⟨h1,h2,Y,h4⟩:=kU (dH hb).1 hw;rcases F with hl|hl|⟨hl,_⟩
      ·rw[h1]at hl;cases hl
      ·exact absurd hl Y
      ·exact absurd hl h4
  have ka:(aH C o.op).run ts (aR (G' i) [])=(aH C o.op).run (T' i) (G' i):=E6 (by simp) L
  by_cases hsoft:q=false/\∃id j,id∈(F' i).lk.sr.map (·.1)/\i<j/\j<ops.size/\S j/\id∈(F' j).wr
  ·
   obtain⟨rfl,id,j,t,X,E,p,H⟩:=hsoft;have W:=(kd rfl).1;have B:ops[j]?=some ops[j]:=Uv E;have k5:((bD ops.toList []).getD j 0).testBit i=false:=by have:=behind j p;simpa using this
   have ar:be (F' i) (F' j)=true:=(R.apart i j X E).resolve_left (behind j p);obtain⟨_,_,_,h4⟩:=tA (dH ar).2 H;have h4:=h4 t;have Q:(F' i).lk.sr≠[]:=by intro h;rw[h]at t;simp at t
   rw[W]at Q;obtain⟨ty,x,kx,a0,ht,k8,kv⟩:=Sa Q;rw[ht]at hr;obtain⟨a1,kk,kt,et,z,ha,b9,hu,hz,kq,K⟩:=E7 hr hp;rw[k8]at ha;injection ha with ha;subst ha;have ag:∃v,r=.val v:=by
    rw[K];have:Small (aR (G' i) []) (cz (ck C.P kt) z false a0.run kk.run ts (aR (G' i) [])):=by
     unfold cz;rw[aa]
     repeat' split
     all_goals trivial
    cases hrr:cz (ck C.P kt) z false a0.run kk.run ts (aR (G' i) []) with
    |fail=>rw[hrr]at K;exact absurd K hp
    |val v=>exact⟨v,rfl⟩
    | upd v g' =>
     exfalso;unfold cz at hrr;rw[aa]at hrr
     repeat' (split at hrr)
     all_goals cases hrr
    |dfr x=>rw[hrr]at this;exact this.elim
   obtain⟨v,hv⟩:=ag;subst hv;have ea0:a0.run ts=a0.run (T' i):=L x (by rw[ht];simp[Op.operands]) a0 k8;have J:id∈af (a0.run (T' i)):=by rw[W,kv]at t;simpa using t
   have hmap:∃es,a0.run ts=.hmap id/\(G' i).h.get id=.map es:=by
    have l:=K.symm;unfold cz at l;rw[aa]at l
    split at l
    ·rw[<-ea0]at J;generalize a0.run ts=y at J l;cases y<;>simp[af]at J
     ·cases l
     ·cases l
     ·subst J;simp only[G.get_eq,setLog_h]at l
      split at l
      ·rename_i es M
       split at M
       ·rename_i es' ks;injection M with M;subst M;exact⟨_,rfl,ks⟩
       ·cases M
      ·cases l
    ·cases l
   obtain⟨es,a2,ke⟩:=hmap;have h8:(id,ty)∈(F' j).lk.soft:=h4 _ (by rw[W,kv];simpa using J);obtain⟨outj,gdj,az,b4,hc⟩:=R.tra j _ B;rcases hc with⟨_,_,_,k7⟩|⟨_,rj,a8,k3,a4,b8,al,k7,b5,kz⟩
   ·rw[k7]at H;exact absurd H Uu
   rw[(kz rfl).1]at h8;obtain⟨xj,kj,aj,k4,ao,V⟩:=PY h8;dsimp only at k4 V;rw[k4]at a8;obtain⟨aj',kkj,ktj,etj,zj,U,bb,hy,k1,kf⟩:=BF a8 k3;rw[ao]at U;injection U with U;subst U;rw[hu]at hy;injection hy with hy;injection hy with ab ad;subst ab;subst ad;rw[hz]at k1;injection k1 with k1;subst k1;cases rj with
   |fail=>exact absurd rfl k3
   |val v=>rw[k7]at H;simp[gOf]at H
   |dfr x=>exact absurd rfl (a4 x)
   | upd vj gj =>
    obtain⟨idj,esj,q1,q2,q3,q4⟩:=Ee kf.symm;rw[q1]at V;simp[af]at V;subst V;have h7:∀m,i<m->m<ops.size->S m->id∈(F' m).wr->m=j:=by
     intro m kc hm k6 T;refine Vt λhmj=>?_;have hb:((bD ops.toList []).getD m 0).testBit i=false:=by simpa using behind m k6
     have a9:(F' i).lk.sr≠[]:=by rw[W];exact Q
     rcases VI m j with h|h
     ·exact R.once i m j kc h E a9 hb k5 (fD T (qe t)) (fD H (qe t))
     ·exact R.once i j m X (by omega) hm a9 k5 hb (fD H (qe t)) (fD T (qe t))
    have kp:(F' i).wr=[]:=by rw[hW];simp[gOf]
    have kl:(G' j).h.get id=(G' i).h.get id:=by
     have key:∀m,i<=m->m<=j->(G' m).h.get id=(G' i).h.get id:=by
      intro m
      induction m with
      | zero=>intro h1 _;have:i=0:=by omega
              subst this;rfl
      | succ m ihm =>
       intro h1 h2
       by_cases kc:i=m+1
       ·subst kc;rfl
       ·rw[(R.at (by omega)).2.1 id ?_]
        ·exact ihm (by omega) (by omega)
        ·intro T
         by_cases hmi:m=i
         ·subst hmi;rw[kp]at T;exact Uu T
         ·rcases R.apart m j (by omega) E with hb|hb
          ·have k6:=hdown.mask hb p;exact absurd (h7 m (by omega) (by omega) k6 T) (by omega)
          ·exact (kU (dH hb).1 T).2.1 H
     exact key j (by omega) (Ui _)
    have M:esj=es:=by
     have h1:(G' j).h.get id=.map esj:=by simpa using q2
     rw[kl,ke]at h1;injection h1 with h1;exact h1.symm
    subst M;have a6:hg id=.map (esj++[(kkj.run (T' j),z)]):=by rw[I.objs id,A8 (m:=j+1) (by omega) (λm h1 h2 Y h4=>by have:=h7 m (by omega) h2 Y h4;omega)];simp only[ov];rw[Un ⟨p,H⟩,al,q3];simp[gOf,SD]
    let gs:G:=⟨(G' i).h.put id (.map (esj++[(kkj.run (T' j),z)])),(G' i).nx,[]⟩
    have hk:gs.h.get id=.map (esj++[(kkj.run (T' j),z)]):=by simp[gs,SD]
    have b1:(bC C o.op).run ih (bd+1) rd ts gs=.val v:=by rw[ht,kq];exact F4 K.symm a2 (by simpa using ke) hk q4
    have as:id<(G' i).nx:=Nat.lt_of_not_le λh=>by have:=R.facts i (by omega) id h;rw[ke]at this;cases this
    have ai:WF gs:=λid' h'=>by have h':(G' i).nx<=id':=h';simp only[gs,SD];rw[Um (by omega)];exact R.facts i (by omega) id' h'
    have Z:Agr ((aH C o.op).run ts gs) gs hg:=by
     have e:(aH C o.op).run ts gs=⟨[],(af (a0.run ts)).map (·,ty),[],false⟩:=by rw[ht];simp[aH,k8]
     rw[e];simp only[Agr,a2,af];intro id' k2 _;simp at k2;subst k2;rw[a6,hk]
    obtain⟨u,w',γ',hg',f,rv,st⟩:=Em (b:=b) (cs:=cs) (rest:=rest) (k:=k) R.hC R.hi I.rel ai h9 hcalm Z b1 hp a3 (λid' h1 h2=>h6 id' (by simpa [gs] using h1) (by simpa [gs,gOf] using h2)) ho hw;refine fin (gs:=gs) (u:=u) (w':=w') (γ':=γ') (hg':=hg') ⟨?_,f.stp,?_⟩ rfl rv st
    ·have:=f.rel;simpa [gOf,gs] using this
    ·obtain⟨n,e1,e2,e3⟩:=f.new;have:n=[]:=by simpa [gOf,gs] using e1
     subst this;exact⟨[],by simp[gOf,gs],λ_ h=>absurd h Uu,e3⟩
  ·have Z:Agr ((aH C o.op).run ts (aR (G' i) [])) (aR (G' i) []) hg:=by
    cases hqq:q with
    | true =>
     refine Ext.agr λid D=>?_;simp only[setLog_h]at D ⊢;refine O id (λh=>?_) D;rw[hqq]at h;cases h
    | false =>
     rw[ka,<-(kd hqq).1];unfold Agr
     split
     ·rename_i hb;exact λid D=>by simp only[setLog_h]at D ⊢;exact O id (λ_=>.inl hb) D
     ·intro id t D;simp only[setLog_h]at D ⊢;refine O id (λ_=>.inr ?_) D;rcases UL.1 t with h|h
      ·exact .inl h
      ·exact .inr ⟨h,λj h1 h2 Y h4=>hsoft ⟨hqq,id,j,h,h1,h2,Y,h4⟩⟩
   obtain⟨u,w',γ',hg',f,rv,st⟩:=Em (b:=b) (cs:=cs) (rest:=rest) (k:=k) R.hC R.hi I.rel b3 h9 hcalm Z hr hp a3 h6 ho hw;exact fin f (by simp) rv st
end
end
section
variable {C:Cfg}{A:Nat->Nat->Prop}{bd:Nat}{ih:IH}{rd:Option Nat}{nt:Nat}{ops:Array Oper}{q:Bool}{T':Nat->T}{G':Nat->G}{F':Nat->Foot}{hg0:Nat->AObj}
variable {N:Nat}{w0:World}{γ0:Gm}{df0:List Deferred}{b:Frame}{k:List Item}{cs:List Frame}
theorem OJ(R:Reg C ih bd rd nt ops q T' G' F' hg0)(hN:(G' ops.size).nx<=N)(hedge:∀i o,ops[i]?=some o->∀e∈o.after.toList,Region.binds .any e=true->e.on<i)(hcalm:pD b.kind cs) :
  ∀(fuel tq:Nat) (listed:Array Bool) (S:Nat->Prop) {a:Act} {w:World} {γ:Gm} {hg:Nat->AObj},listed.size=ops.size->(∀j,S j↔listed.getD j false=true)->Down ops S ->
   cnt (λj=>!listed.getD j true) ops.size<=fuel->Inv C A bd nt ops T' G' F' hg0 N w0 γ0 df0 S a w γ hg ->
   ∃a' w' γ' hg',Inv C A bd nt ops T' G' F' hg0 N w0 γ0 df0 (λj=>j<ops.size) a' w' γ' hg' /\
    Steps C.P (lone (b.atR a (.inRegion ops (Region.linearise.go .any ops fuel tq listed [])::k)) cs w) (lone (b.atR a' (.inRegion ops []::k)) cs w'):=by
 have done:∀{listed:Array Bool} {S:Nat->Prop} {a:Act} {w:World} {γ:Gm} {hg:Nat->AObj},listed.size=ops.size->(∀j,S j↔listed.getD j false=true) ->
   (∀j,j<ops.size->listed.getD j true=true)->Inv C A bd nt ops T' G' F' hg0 N w0 γ0 df0 S a w γ hg->Inv C A bd nt ops T' G' F' hg0 N w0 γ0 df0 (λj=>j<ops.size) a w γ hg:=by
  intro listed S a w γ hg n hS c I;have e:S=λj=>j<ops.size:=by
   funext j;refine propext ⟨λh=>?_,λh=>?_⟩
   ·rw[hS]at h;rcases VI j ops.size with h'|h'
    ·exact h'
    ·simp[U1,Vl (by omega:listed.size<=j)]at h
   ·rw[hS];have:=c j h;have hlt:j<listed.size:=by omega
    simpa [Array.getD,hlt] using this
  rw[<-e];exact I
 intro fuel
 induction fuel with
 | zero =>
  intro tq listed S a w γ hg n hS f hc I;have hz:=LZ (Nat.le_zero.1 hc);refine⟨a,w,γ,hg,done n hS (λj d=>by simpa using hz j d) I,?_⟩;simp only[Region.linearise.go,UP];exact Steps.refl _ _
 | succ fuel ihf =>
  intro tq listed S a w γ hg n hS f hc I;simp only[Region.linearise.go];change ∃a' w' γ' hg',_/\Steps C.P (lone (b.atR a (.inRegion ops (match (Region.ready .any ops listed)[tq % (Region.ready .any ops listed).length]? with
   |some i=>Region.linearise.go .any ops fuel (tq / (Region.ready .any ops listed).length) (listed.setIfInBounds i true) [i]
   |none=>[].reverse)::k)) cs w) _
  cases hi:(Region.ready .any ops listed)[tq % (Region.ready .any ops listed).length]? with
  | none =>
   have u:Region.ready .any ops listed=[]:=by
    cases hr:Region.ready .any ops listed with
    |nil=>rfl
    | cons x xs =>
     rw[hr]at hi;have hlt:tq % (x::xs).length<(x::xs).length:=VT _ (by simp);rw[Uj hlt]at hi;cases hi
   have c:∀j,j<ops.size->listed.getD j true=true:=by
    intro j
    induction j using Nat.strongRecOn with
    | _ j ihj =>
     intro d;refine Vt λs=>?_;have s:listed.getD j true=false:=by simpa using s
     have:j∈Region.ready .any ops listed:=by
      rw[mem_ready];refine⟨s,ops[j],Uv d,λe he hb=>?_⟩;have hlt:=hedge j _ (Uv d) e (by simpa using he) hb;have h1:=ihj e.on hlt (by omega);have hl:e.on<listed.size:=by omega
      simpa [Array.getD,hl] using h1
     rw[u]at this;exact absurd this Uu
   exact⟨a,w,γ,hg,done n hS c I,by simp only[UP];exact Steps.refl _ _⟩
  | some i =>
   have t:=Ul hi;obtain⟨r,o,ho,c⟩:=mem_ready.1 t;have z:i<ops.size:=(Vf.1 ho).1;have v:¬S i:=by
    rw[hS];have hl:i<listed.size:=by omega
    simp[Array.getD,hl]at r ⊢;exact r
   have l:∀e∈o.after.toList,Region.binds .any e=true->S e.on:=λe he hb=>by rw[hS];exact c e (by simpa using he) hb
   simp only[];rw[linearise_go_acc,List.reverse_singleton,List.singleton_append];obtain⟨a1,w1,γ1,B,I1,st1⟩:=MV (b:=b) (k:=k) (cs:=cs) (rest:=Region.linearise.go .any ops fuel (tq / (Region.ready .any ops listed).length) (listed.setIfInBounds i true) []) R I hN ho v f l hcalm;obtain⟨a2,D,γ2,y,I2,st2⟩:=ihf (tq / (Region.ready .any ops listed).length) (listed.setIfInBounds i true) (λj=>S j\/j=i) (by simp[n]) (λj=>by
     rw[hS]
     by_cases d:j=i
     ·subst d;have hl:j<listed.size:=by omega
      simp[Array.getD,hl]
     ·simp only[U1];rw[VU (VC d)];simp[d]) (λj oj m d e he hb=>by
     rcases d with d|rfl
     ·exact .inl (f j oj m d e he hb)
     ·rw[ho]at m;injection m with m;subst m;exact .inl (l e he hb)) (by
     have:=Q5 (p:=λj=>!listed.getD j true) (q:=λj=>!(listed.setIfInBounds i true).getD j true) (λj d=>by
      by_cases hji:j=i
      ·subst hji;simpa using r
      ·simp only[U1]at d ⊢;rw[VU (VC hji)]at d;exact d) z (by simpa using r) (by
      have hl:i<listed.size:=by omega
      simp[Array.getD,hl])
     omega) I1
   exact⟨a2,D,γ2,y,I2,Steps.trans st1 st2⟩
theorem GB(h:g.lg=[]):aR g []=g:=by cases g;simp at h;subst h;rfl
theorem Mm:∀(l:List Oper) (i:Nat) {t:T} {df:List ADf} {g:G} {fs:List Foot} {e:Ex} {t':T} {df':List ADf} {g':G},
  (iZ C nt pm ops.toList i l).run ih d rd t df g fs=.ok e t' df' g' ->
  e=.norm/\df'=df/\∃(T':Nat->T) (G':Nat->G) (F':Nat->Foot),T' i=t/\G' i=g/\T' (i+l.length)=t'/\G' (i+l.length)=g' /\
   (∀j o,l[j]?=some o->TraAt C ih d rd nt ops false o (T' (i+j)) (T' (i+j+1)) (G' (i+j)) (G' (i+j+1)) (F' (i+j))/\(G' (i+j+1)).lg=(F' (i+j)).wr++(G' (i+j)).lg) /\
   jt pm (fs.reverse++(List.range l.length).map λj=>F' (i+j))=true:=by
 intro l
 induction l with
 | nil =>
  intro i t df g fs e t' df' g' h;simp only[iZ,aa]at h
  split at h
  ·rename_i hf;injection h with h1 h2 w h4;subst h1;subst h2;subst w;subst h4;exact⟨rfl,rfl,λ_=>t,λ_=>g,λ_=>⟨aA,[]⟩,rfl,rfl,rfl,rfl,λj o h=>by simp at h,by simpa using hf⟩
  ·cases h
 | cons o rest ihl =>
  intro i t df g fs e t' df' g' h;have go:∀{t1:T} {g1:G} {f:Foot},(iZ C nt pm ops.toList (i+1) rest).run ih d rd t1 df g1 (f::fs)=.ok e t' df' g' ->
    TraAt C ih d rd nt ops false o t t1 g g1 f->g1.lg=f.wr++g.lg ->
    e=.norm/\df'=df/\∃(T':Nat->T) (G':Nat->G) (F':Nat->Foot),T' i=t/\G' i=g/\T' (i+(o::rest).length)=t'/\G' (i+(o::rest).length)=g' /\
     (∀j o',(o::rest)[j]?=some o'->TraAt C ih d rd nt ops false o' (T' (i+j)) (T' (i+j+1)) (G' (i+j)) (G' (i+j+1)) (F' (i+j))/\(G' (i+j+1)).lg=(F' (i+j)).wr++(G' (i+j)).lg) /\
     jt pm (fs.reverse++(List.range (o::rest).length).map λj=>F' (i+j))=true:=by
   intro t1 g1 f h c p;obtain⟨h1,h2,T1,G1,F1,a1,a2,q,a4,s,u⟩:=ihl (i+1) h;have ne:∀j,i+1+j≠i:=λj=>by omega
   refine⟨h1,h2,λm=>if m=i then t else T1 m,λm=>if m=i then g else G1 m,λm=>if m=i then f else F1 m,by simp,by simp,?_,?_,?_,?_⟩
   ·simp only[UX];rw[Um (by omega),show i+(rest.length+1)=i+1+rest.length by omega];exact q
   ·simp only[UX];rw[Um (by omega),show i+(rest.length+1)=i+1+rest.length by omega];exact a4
   ·intro j o' n;cases j with
    | zero =>
     simp at n;subst n;simp only[VH,if_true];rw[Um (by omega),Um (by omega),a1,a2];exact⟨c,p⟩
    | succ j =>
     have:=s j o' (by simpa using n);rw[show i+(j+1)=i+1+j by omega];simp only[Um (ne j),show i+1+j+1=i+1+(j+1) by omega,Um (ne (j+1))];rw[show i+1+(j+1)=i+1+j+1 by omega];exact this
   ·rw[UX,List.range_succ_eq_map,VM,WI];simp only[VH,if_true];rw[<-u];congr 1;simp only[UQ,VB,List.singleton_append];congr 2;refine Vr λj _=>?_;simp only[Function.comp];rw[Um (by omega),show i+(j+1)=i+1+j by omega]
  simp only[iZ]at h
  split at h
  ·rename_i out gd k b;dsimp only at h
   split at h
   ·rename_i hq;generalize hr:(bC C o.op).run ih d rd t (aR g [])=r at h;cases r with
    |fail=>cases h
    | val v =>
     refine go (t1:=out.run t v) (g1:=od g g.lg) (f:=⟨(aH C o.op).run t g,[]⟩) h ⟨out,gd,k,b,.inr ⟨hq,_,hr,by simp,by simp,rfl,by simp[gOf],by simp[gOf],by simp[gOf],λ_=>⟨rfl,by simp[gOf]⟩⟩⟩ (by simp)
    | upd v g1 =>
     refine go (t1:=out.run t v) (g1:=od g1 (g1.lg++g.lg)) (f:=⟨(aH C o.op).run t g,g1.lg⟩) h ⟨out,gd,k,b,.inr ⟨hq,_,hr,by simp,by simp,rfl,by simp[gOf],by simp[gOf],by simp[gOf],λ_=>⟨rfl,by simp[gOf]⟩⟩⟩ (by simp)
    |dfr a=>cases h
   ·rename_i hq;exact go h ⟨out,gd,k,b,.inl ⟨hq,rfl,rfl,rfl⟩⟩ (by simp)
   ·cases h
  ·cases h
theorem LO(hC:CfgOk C){op:Op}{x:ADf}(h:(bC C op).run ih d rd t g=.dfr x):∃c,op=.defer c:=by
 have iso:∀f args,ac ih d g f args≠.dfr x:=by
  intro f args;unfold ac
  repeat' (first|split|rw[aa])
  all_goals (intro h;cases h)
 have orf:∀r,orF r≠.dfr x:=by intro r h;cases r<;>cases h
 have rnd:∀id args,cR ih d id args g≠.dfr x:=by
  intro id args;unfold cR
  repeat' split
  all_goals (intro h;cases h)
 unfold bC at h
 split at h
 rotate_left
 ·cases h
 rename_i f k;unfold cOp at k
 split at k
 ·split at k
  ·split at k
   ·rename_i e he;injection k with k;subst k;exact absurd h (hC.noDfr _ _ he _ _ _ _)
   ·rw[aa]at k
    split at k
    ·injection k with k;subst k;exact absurd h (iso _ _)
    ·injection k with k;subst k;exact absurd h (orf _)
  ·cases k
 ·split at k
  ·injection k with k;subst k;dsimp only at h;unfold dj at h
   split at h
   ·split at h
    ·rename_i e he;exact absurd h (hC.noDfr _ _ he _ _ _ _)
    ·rw[aa]at h
     split at h
     ·exact absurd h (iso _ _)
     ·exact absurd h (orf _)
   ·exact absurd h (rnd _ _)
   ·cases h
  ·cases k
 ·injection k with k;subst k;cases h
 ·exact⟨_,rfl⟩
 ·split at k
  ·rename_i s hs;injection k with k;subst k;have:=yf (t:=t) (g:=g) hs;have h:s.run t g=.dfr x:=h;rw[h]at this;exact this.elim
  ·cases k
theorem K0(hC:CfgOk C)(hi:IHOk C ih):∀(l:List Oper) (i:Nat) {t:T} {df:List ADf} {g:G} {e:Ex} {t':T} {df':List ADf} {g':G},
  (jU C nt ops.toList l).run ih d rd t df g=.ok e t' df' g'->(∀o∈l,zo C o.op=true)->g.lg=[]->g'.lg=[]->WF g ->
  e=.norm/\df'=df/\∃(T':Nat->T) (G':Nat->G) (F':Nat->Foot),T' i=t/\G' i=g/\T' (i+l.length)=t'/\G' (i+l.length)=g' /\
   (∀j o,l[j]?=some o->TraAt C ih d rd nt ops true o (T' (i+j)) (T' (i+j+1)) (G' (i+j)) (G' (i+j+1)) (F' (i+j)))/\∀j,(F' j).wr=[]:=by
 intro l
 induction l with
 | nil =>
  intro i t df g e t' df' g' h _ _ _ _;simp only[jU]at h;injection h with h1 h2 H h4;subst h1;subst h2;subst H;subst h4;exact⟨rfl,rfl,λ_=>t,λ_=>g,λ_=>⟨aA,[]⟩,rfl,rfl,rfl,rfl,λj o h=>by simp at h,λ_=>rfl⟩
 | cons o rest ihl =>
  intro i t df g e t' df' g' h hq s q p;have go:∀{t1:T} {g1:G},(jU C nt ops.toList rest).run ih d rd t1 df g1=.ok e t' df' g'->g1.lg=[]->WF g1 ->
    TraAt C ih d rd nt ops true o t t1 g g1 ⟨aA,[]⟩ ->
    e=.norm/\df'=df/\∃(T':Nat->T) (G':Nat->G) (F':Nat->Foot),T' i=t/\G' i=g/\T' (i+(o::rest).length)=t'/\G' (i+(o::rest).length)=g' /\
     (∀j o',(o::rest)[j]?=some o'->TraAt C ih d rd nt ops true o' (T' (i+j)) (T' (i+j+1)) (G' (i+j)) (G' (i+j+1)) (F' (i+j)))/\∀j,(F' j).wr=[]:=by
   intro t1 g1 h f B z;obtain⟨h1,h2,T1,G1,F1,a1,a2,D,a4,E,F⟩:=ihl (i+1) h (λo' ho'=>hq o' (U6 _ ho')) f q B;have ne:∀j,i+1+j≠i:=λj=>by omega
   refine⟨h1,h2,λm=>if m=i then t else T1 m,λm=>if m=i then g else G1 m,λm=>if m=i then ⟨aA,[]⟩ else F1 m,by simp,by simp,?_,?_,?_,?_⟩
   ·simp only[UX];rw[Um (by omega),show i+(rest.length+1)=i+1+rest.length by omega];exact D
   ·simp only[UX];rw[Um (by omega),show i+(rest.length+1)=i+1+rest.length by omega];exact a4
   ·intro j o' A;cases j with
    | zero =>
     simp at A;subst A;simp only[VH,if_true];rw[Um (by omega),Um (by omega),a1,a2];exact z
    | succ j =>
     have:=E j o' (by simpa using A);rw[show i+(j+1)=i+1+j by omega];simp only[Um (ne j),show i+1+j+1=i+1+(j+1) by omega,Um (ne (j+1))];rw[show i+1+(j+1)=i+1+j+1 by omega];exact this
   ·intro j;dsimp only
    split
    ·rfl
    ·exact F j
  have exec:∀{out:Stg (T->AV->T)} {gd:Stg (T->Option Bool)},qj nt o.dst=some out->i4 ops.toList o.guard=some gd->gd.run t=some true ->
    pB out.run ((jU C nt ops.toList rest).run ih d rd) t df g ((bC C o.op).run ih d rd t g)=.ok e t' df' g' ->
    e=.norm/\df'=df/\∃(T':Nat->T) (G':Nat->G) (F':Nat->Foot),T' i=t/\G' i=g/\T' (i+(o::rest).length)=t'/\G' (i+(o::rest).length)=g' /\
     (∀j o',(o::rest)[j]?=some o'->TraAt C ih d rd nt ops true o' (T' (i+j)) (T' (i+j+1)) (G' (i+j)) (G' (i+j+1)) (F' (i+j)))/\∀j,(F' j).wr=[]:=by
   intro out gd k b x h;have hm:=i6 (op:=o.op) (d:=d) (rd:=rd) (t:=t) hC.mon hi.mon p;generalize hr:(bC C o.op).run ih d rd t g=r at h hm;have y:(bC C o.op).run ih d rd t (aR g [])=r:=by rw[GB s];exact hr
   cases r with
   |fail=>cases h
   | val v =>
    exact go (t1:=out.run t v) (g1:=g) h s p ⟨out,gd,k,b,.inr ⟨x,_,y,by simp,by simp,rfl,by simp[gOf],by simp[gOf],by simp[gOf],λh=>by cases h⟩⟩
   | upd v g1 =>
    have w1:WF g1:=hm.wf p;have I:=zO hC.mon hi.mon h w1;have f:g1.lg=[]:=by obtain⟨n,a,_,_⟩:=I.new;rw[q]at a;exact (List.append_eq_nil_iff.1 a.symm).2
    exact go (t1:=out.run t v) (g1:=g1) h f w1 ⟨out,gd,k,b,.inr ⟨x,_,y,by simp,by simp,rfl,by simp[gOf],by simp[gOf,f],by simp[gOf],λh=>by cases h⟩⟩
   | dfr a =>
    obtain⟨c,hc⟩:=LO hC hr;have:=hq o U9;rw[hc]at this;simp[zo]at this
  simp only[jU]at h
  split at h
  ·rename_i out k
   split at h
   ·rename_i b;exact exec k (gd:=⟨λ_=>some true⟩) (by rw[b];rfl) rfl h
   ·rename_i gd0 b
    split at h
    ·rename_i gd u;rw[<-b]at u;dsimp only at h
     split at h
     ·rename_i w;exact exec k u w h
     ·rename_i w;exact go h s p ⟨out,gd,k,u,.inl ⟨w,rfl,rfl,rfl⟩⟩
     ·cases h
    ·cases h
  ·cases h
theorem Jr{K V:Type}{wr:Nat->K->Prop}{val:Nat->K->V}{base:K->V}{k:K}:ov (λ_=>False) wr val base n k=base k:=by rw[A8 (m:=0) (US _) (λ_ _ _ h=>h.elim)];rfl
theorem Fg(R:Reg C ih bd rd nt ops q T' G' F' hg0)(hmix:C.P.follows .mixedOrders=true)(hedge:∀i o,ops[i]?=some o->∀e∈o.after.toList,Region.binds .any e=true->e.on<i)
  {w:World} {γ:Gm} {nx:Nat} {a:Act} {id:Nat} (hr:Rel C A bd w γ hg0 nx) (ht:TR w γ A bd nt (T' 0) a.tmps) (hcalm:pD b.kind cs) :
  ∃a' w' γ' hg',Rel C A bd w' γ' hg' (Nat.max nx (G' ops.size).nx)/\Stp w γ w' γ'/\TR w' γ' A bd nt (T' ops.size) a'.tmps/\a'.defers=a.defers /\
   (∀id,((∃j,j<ops.size/\id∈(F' j).wr)/\hg' id=(G' ops.size).h.get id)\/((∀j,j<ops.size->id ∉ (F' j).wr)/\hg' id=hg0 id)) /\
   Steps C.P (lone (b.atR a (.code (.region id ops true)::k)) cs w) (lone (b.atR a' k) cs w'):=by
 let w1:World:={ w with drawn:=w.drawn+1 }
 have l:Stp w γ w1 γ:=Bp (Ui _) rfl rfl rfl (V6 _) λ_ _=>rfl;have m:Rel C A bd w1 γ hg0 nx:=hr.same l λ_ _=>rfl;have I0:Inv C A bd nt ops T' G' F' hg0 (Nat.max nx (G' ops.size).nx) w γ a.defers (λ_=>False) a w1 γ hg0:=by refine⟨m.up (Vv _ _),l,ht.1,λs=>?_,λid=>by rw[Jr],rfl⟩;rw[Jr];exact (ht.2 s).step l
 have f:cnt (λj=>!(Array.replicate ops.size false).getD j true) ops.size<=ops.size:=by
  generalize (λj=>!(Array.replicate ops.size false).getD j true)=p;generalize ops.size=n
  induction n with
  |zero=>exact Ui _
  |succ n ih'=>simp only[cnt];split<;>omega
 obtain⟨a',w',γ',hg',I,st⟩:=OJ (b:=b) (k:=k) (cs:=cs) R (VW _ _) hedge hcalm ops.size (w.tape w.drawn (.order b.fn id)) (Array.replicate ops.size false) (λ_=>False) (by simp)
  (λj=>by simp[U1,Array.getElem?_replicate];split<;>simp) (λj o _ h=>h.elim) f I0
 have d:∀{K V:Type} {wr:Nat->K->Prop} {val:Nat->K->V} {base:K->V} {k:K},(∀j,j<ops.size->¬wr j k->val (j+1) k=val j k) ->
   ((∃j,j<ops.size/\wr j k)/\ov (λj=>j<ops.size) wr val base ops.size k=val ops.size k)\/((∀j,j<ops.size->¬wr j k)/\ov (λj=>j<ops.size) wr val base ops.size k=base k/\val ops.size k=val 0 k) :=
  λkeep=>NA (Ui _) keep λj _ _=>Iff.rfl
 refine⟨a',w',γ',hg',I.rel,I.stp,⟨I.size,λs=>?_⟩,I.dfr,λid'=>?_,?_⟩
 ·have:=I.slots s;rcases d (wr:=λi s=>ja ops i=some s) (val:=λi s=>(T' i).get AV.undef s) (base:=λs=>(T' 0).get AV.undef s) (k:=s) (λj hj hw=>R.keepT hj hw) with⟨_,h⟩|⟨_,h,h2⟩
  ·rw[h]at this;exact this
  ·rw[h,<-h2]at this;exact this
 ·rw[I.objs id'];rcases d (wr:=λi id=>id∈(F' i).wr) (val:=λi id=>(G' i).h.get id) (base:=hg0) (k:=id') (λj hj hw=>(R.at hj).2.1 id' hw) with⟨h1,h⟩|⟨h1,h,_⟩
  ·exact .inl ⟨h1,h⟩
  ·exact .inr ⟨h1,h⟩
 ·refine .head stepR_region_draw ?_;have c:Region.schedule (C.P.follows .mixedOrders) ops (w.tape w.drawn (.order b.fn id))=Region.linearise.go .any ops ops.size (w.tape w.drawn (.order b.fn id)) (Array.replicate ops.size false) []:=by
   simp only[Region.schedule,hmix,WH,if_true]
   rfl
  rw[c];exact Steps.trans st (.one stepR_region_end)
end
section
variable {body:Code}{df':List ADf}
section
variable {C:Cfg}{A:Nat->Nat->Prop}{bd:Nat}{w w':World}{γ γ':Gm}{hg:Nat->AObj}{nx:Nat}
variable {t:T}{g:G}{ih:IH}
def Sl(C:Cfg)(A:Nat->Nat->Prop)(bd nt:Nat)(b:Frame)(k:List Item)(cs:List Frame)(m:Machine)(w:World)(γ:Gm)(hg:Nat->AObj)(nx:Nat)(g:G)(e:Ex)(t':T)(df':List ADf)(g':G):Prop :=
 ∃a' w' γ' hg',Fin C A bd w γ hg nx g w' γ' hg' g'/\TR w' γ' A bd nt t' a'.tmps/\DR w' γ' A bd df' a'.defers/\Arr C.P m b k cs e a' w'
theorem HX(hC:CfgOk C)(hi:IHOk C ih){ops:Array Oper}{draw:Bool}{rid:Nat}{e:Ex}
  (h:(gt C nt ops.toList draw).run ih (bd+1) rd t df g=.ok e t' df' g'):y_ C bd nt rd (.region rid ops draw) t df g e t' df' g':=by
 intro A w γ hg nx b a k cs hr hx B hf ht E Y l;unfold gt at h;rw[aa]at h
 split at h
 rotate_left
 ·rename_i c;have c:draw=false:=by simpa using c
  subst c;obtain⟨rfl,a',w',γ',hg',f,tr,dr,st⟩:=LP (b:=b) (cs:=cs) (k:=k) hC hi ops.toList 0 (by simp) h B hr hx hf ht E Y l;refine⟨a',w',γ',hg',f,tr,dr,.head stepR_region ?_⟩;rw[W5];simpa using st
 rename_i c;subst c;rw[aa]at h
 split at h
 rotate_left
 ·cases h
 rename_i d;have d:pP 0 ops.toList=true/\nF (bD ops.toList []) 0 ops.toList=true /\
   li (λi x j y=>((bD ops.toList []).getD j 0).testBit i || kG ops.toList x y) 0 ops.toList=true:=by
  simp only[Eo,Uk]at d;exact⟨d.1.1,d.1.2,d.2⟩
 obtain⟨S,U,V⟩:=d;have r:∀i o,ops[i]?=some o->∀e∈o.after.toList,Region.binds .any e=true->e.on<i:=by intro i o ho e he hb;have:=BM S i o (by simpa using ho) e he hb;omega
 have m:∀i o j b,ops[i]?=some o->o.guard=some (j,b)->((bD ops.toList []).getD i 0).testBit j=true:=by intro i o j b ho hg';have:=AD U i o (by simpa using ho) j b hg';simpa using this
 have u:∀i j oi oj,i<j->ops[i]?=some oi->ops[j]?=some oj->((bD ops.toList []).getD j 0).testBit i=true\/kG ops.toList oi oj=true:=by intro i j oi oj F W X;have:=wk V i j oi oj F (by simpa using W) (by simpa using X);simpa using this
 have N:∀id,(γ id).kind=0->hg id=.none:=λid h=>(hr.none_iff id).1 h;rw[aa]at h
 split at h
 ·
  rename_i hq;dsimp only at h;generalize hc:(jU C nt ops.toList ops.toList).run ih (bd+1) rd t df (aR g [])=cr at h;cases cr with
  |fail=>cases h
  | ok e1 t1 df1 g1 =>
   simp only[nL]at h;cases hlg:g1.lg with
   |cons x xs=>rw[hlg]at h;cases h
   | nil =>
    rw[hlg]at h;dsimp only at h;rw[aa]at h
    split at h
    rotate_left
    ·cases h
    rename_i z;have z:=aB z;injection h with h1 h2 L h4;subst h1;subst h2;subst L;subst h4;obtain⟨rfl,rfl,T',G',F',a1,a2,K,a4,J,D⟩:=K0 hC hi ops.toList 0 hc (λo ho=>Uz.1 hq o ho) (by simp) hlg B.setLog;simp only[UU,Array.length_toList]at K a4 J;have R:Reg C ih bd rd nt ops true T' G' F' hg:=by
     refine⟨hC,hi,λi o ho=>J i o (by simpa using ho),by rw[a2];exact B.setLog,by rw[a2];simpa using hx,λid h1 h2=>?_,λi j _ _=>.inr ?_,λi j j' _ _ _ _ _ _ hm=>?_,u,m,λ_ i _=>D i⟩
     ·rw[a2]at h1;rw[a4,z]at h2;exact N id (hf id (by simpa using h1) h2)
     ·simp[be,eG,dg,D]
     ·rw[D j]at hm;simp[meets]at hm
    obtain⟨a',w',γ',hg',s,v,I,q,p,st⟩:=Fg (b:=b) (k:=k) (cs:=cs) (id:=rid) R hC.mixed r hr (by rw[a1];exact ht) l;have H:∀id,hg' id=hg id:=λid=>by
     rcases p id with⟨⟨j,_,h⟩,_⟩|⟨_,h⟩
     ·rw[D j]at h;exact absurd h Uu
     ·exact h
    refine⟨a',w',γ',hg',⟨?_,v,⟨[],rfl,λ_ h=>absurd h Uu,λid _=>H id⟩⟩,by rw[<-K];exact I,by rw[q];exact E.step v,st⟩;rw[a4,z]at s;exact s
 ·dsimp only at h;obtain⟨rfl,rfl,T',G',F',a1,a2,K,a4,J,D⟩:=Mm ops.toList 0 h;simp only[UU,Array.length_toList,UP,UM]at K a4 J D;obtain⟨b1,b2⟩:=It D;have M:∀j,j<ops.size->((List.range ops.size).map F')[j]?=some (F' j):=λj hj=>by simp[Xa hj]
  have R:Reg C ih bd rd nt ops false T' G' F' hg:=by
   refine⟨hC,hi,λi o ho=>(J i o (by simpa using ho)).1,by rw[a2];exact B,by rw[a2];exact hx,λid h1 h2=>?_,λi j F hj=>?_,λi j j' h1 h2 L h4 h5 h6 h7 h8=>?_,u,m,λh=>by cases h⟩
   ·rw[a2]at h1;rw[a4]at h2;exact N id (hf id h1 h2)
   ·have:=wk b1 i j _ _ F (M i (by omega)) (M j hj);simpa using this
   ·exact EB b2 i j j' _ _ _ h1 h2 (M i (by omega)) (M j (by omega)) (M j' L) h4 (by simpa using h5) (by simpa using h6) h7 h8
  obtain⟨a',w',γ',hg',s,v,I,q,p,st⟩:=Fg (b:=b) (k:=k) (cs:=cs) (id:=rid) R hC.mixed r hr (by rw[a1];exact ht) l;have O:∀n,n<=ops.size->∃new,(G' n).lg=new++g.lg/\∀id,id∈new↔∃j,j<n/\id∈(F' j).wr:=by
   intro n
   induction n with
   |zero=>intro _;exact⟨[],by rw[a2];rfl,λid=>⟨λh=>absurd h Uu,λ⟨j,h,_⟩=>absurd h (Nat.not_lt_zero j)⟩⟩
   | succ n ihn =>
    intro Z;obtain⟨new,e1,P⟩:=ihn (by omega);have Q:n<ops.size:=by omega
    have:=(J n ops[n] (by rw[WX];exact Uv Q)).2;refine⟨(F' n).wr++new,by rw[this,e1,VB],λid=>?_⟩;rw[UL,P];constructor
    ·rintro (h|⟨j,h1,h2⟩)
     ·exact⟨n,by omega,h⟩
     ·exact⟨j,by omega,h2⟩
    ·rintro⟨j,h1,h2⟩
     by_cases hj:j=n
     ·subst hj;exact .inl h2
     ·exact .inr ⟨j,by omega,h2⟩
  obtain⟨new,e1,P⟩:=O ops.size (Ui _);refine⟨a',w',γ',hg',⟨by rw[a4]at s;exact s,v,⟨new,by rw[<-a4];exact e1,λid hid=>?_,λid hid=>?_⟩⟩,by rw[<-K];exact I,by rw[q];exact E.step v,st⟩
  ·rcases p id with⟨_,h⟩|⟨h1,_⟩
   ·rw[h,a4]
   ·obtain⟨j,h2,L⟩:=(P id).1 hid;exact absurd L (h1 j h2)
  ·rcases p id with⟨h1,_⟩|⟨_,h⟩
   ·exact absurd ((P id).2 h1) hid
   ·exact h
theorem cI{b:Frame}{a:Act}{k:List Item}{cs:List Frame}{c:Code} :
  step P (lone (b.atR a (.code (.scope c)::k)) cs w)=.next (lone (b.atR a (.code c::.inScope c::k)) cs w) :=
 step_lone_go (by simp[stepG,stepG.exec,Frame.atR])
theorem py{b:Frame}{a:Act}{k:List Item}{cs:List Frame}{c:Code} :
  step P (lone (b.atR a (.inScope c::k)) cs w)=.next (lone (b.atR a k) cs w) :=
 step_lone_go (by simp[stepG,stepG.exec,Frame.atR])
theorem gi{m m1 X:Machine}(h:Steps P m X)(hne:m≠X)(hs:step P m=.next m1):Steps P m1 X:=by
 obtain⟨n,k⟩:=h;cases n with
 |zero=>simp[runN]at k;exact absurd k hne
 |succ n=>exact⟨n,by simpa [runN,hs] using k⟩
theorem Bv{b b':Frame}{a a':Act}{k k':List Item}{cs cs':List Frame}{w w':World}(h:lone (b.atR a k) cs w=lone (b'.atR a' k') cs' w'):k=k':=by
 have h1:(lone (b.atR a k) cs w).gs=(lone (b'.atR a' k') cs' w').gs:=by rw[h]
 simp only[lone,Array.mk.injEq,List.cons.injEq,and_true]at h1;have h2:=congrArg (λg:Goroutine=>g.frame.todo) h1;simpa [Frame.atR] using h2
theorem u_(hC:CfgOk C)(hi:IHOk C ih){fo:Operand}{s:Stg (T->AV)}{ps:Array Tmp}{dfr:Nat}{e:Ex}
  (hs:aP C fo=some s) (h:bK C ih nt (bd+1) rd (s.run t) ps.toList assign body t df dfr g=.ok e t' df' g')
  (hwf:WF g) {b:Frame} {a:Act} {k:List Item} {cs:List Frame} {mark:List Deferred} {blk:Nat}
  (hr:Rel C A bd w γ hg nx) (hx:Ext g.h hg) (hf:Free γ g g') (ht:TR w γ A bd nt t a.tmps) (hdf:DR w γ A bd df (mark++a.defers)) (hrd:RdOk γ rd b) (hcalm:pD b.kind cs)
  (hdfr:(γ dfr).kind=4/\(γ dfr).blk=blk) {w00:World}
  (henter:(Instr.enterLoop b.fn a.tmps ps assign body b.roundOf).run C.P w00=.ok (w.heap.size,mark) (World.add w (.loop { state:=.ready,pending:=none,fn:=b.fn,tmps:=a.tmps,params:=ps,assign,body,defers:=blk }))) :
  Sl C A bd nt b k cs (lone (b.atR a (.code (.rangeFunc fo ps assign body)::k)) cs w00) w γ hg nx g e t' df' g':=by
 unfold bK at h;have K:=au hs ht hr;generalize hfo:a.eval fo=vf at K;generalize s.run t=y at h K;cases K with
 | clo _ f xs ys vs1 us1 hl hl2 h1 h2 =>
  dsimp only at h;rw[aa]at h
  split at h
  ·cases h
  split at h
  rotate_left
  ·cases h
  rename_i rv0 g2 q
  let L:Loop:={ state:=.ready,pending:=none,fn:=b.fn,tmps:=a.tmps,params:=ps,assign,body,defers:=blk }
  let w1:=World.add w (.loop L)
  let gh:Gh:=⟨3,0,0,0,w.heap.size,0,0,true⟩
  have B:Mon g (g.new (.loop nt t ps.toList assign body dfr .ready none)):=Mon.mk';have wf1:=B.wf hwf;have H:=hi.mon.call _ _ _ _ _ _ q wf1;have wf2:=H.wf wf1;have m3:=xd hi.mon h wf2;have j:(γ g.nx).kind=0:=hf g.nx (Ui _) (Uy B.nx (Uy H.nx m3.nx));have F:dfr≠g.nx:=by rintro rfl;rw[hdfr.1]at j;cases j
  obtain⟨r1,s1⟩:=hr.add (id:=g.nx) (gh:=gh) (o:=.loop L) (ao:=.loop nt t ps.toList assign body dfr .ready none) (nx':=Nat.max nx (g.nx+1)) j rfl (Vv _ _) (UI (W8 _) (VW _ _)) (by
   have s0:=EF (w:=w) (o:=.loop L) (gh:=gh) j rfl;refine⟨by simp[gh],by simp[gh],L,by rw[k_];simp[gh],rfl,rfl,rfl,rfl,rfl,ht.1,λi=>(ht.2 i).step s0,?_,?_⟩
   ·rw[cJ _ _ F];exact hdfr.1
   ·rw[cJ _ _ F];exact hdfr.2.symm)
  have f1:Fin C A bd w γ hg nx g w1 (upd γ g.nx gh) _ (g.new (.loop nt t ps.toList assign body dfr .ready none)):=SA r1 s1;have h6:=f1.ext B hx;have h3:=f1.freed hr B hf;obtain⟨Q,W⟩:=hi.call _ _ _ _ _ _ q;have h8:RV w1 (upd γ g.nx gh) A bd (.yld g.nx) (.func (.yield w.heap.size) #[] #[]):=.yld _ _ _ (by simp[gh]) (by simp[gh]);have I:RVs w1 (upd γ g.nx gh) A bd (xs++(.yld g.nx::ys)) (vs1.toList++(.func (.yield w.heap.size) #[] #[]::us1.toList)):=by
   refine ((SH hl h1).step s1).append ?_;have hu:=(SH hl2 h2).step s1;refine⟨by simp[hu.1],λi x v hx' hv=>?_⟩;cases i with
   |zero=>simp at hx' hv;subst hx';subst hv;exact h8
   |succ i=>exact hu.2 i x v (by simpa using hx') (by simpa using hv)
  let a1:Act:={ a with defers:=mark++a.defers }
  let fr1:=b.atR a1 (.inRangeFunc w.heap.size::k)
  obtain⟨u,X,γ2,S,f2,_,fr,st,q1,q2,q3,q4,fn,q5,q6⟩:=W A w1 _ _ _ _ f1.rel h6 wf1 (h3.le m3.nx) I .normal (fr1::cs) (.inl rfl);have D:=f1.trans f2 B H;have h7:=D.ext (B.trans H) hx;have N:(vs1.toList++(.func (.yield w.heap.size) #[] #[]::us1.toList)).toArray=(vs1++#[.func (.yield w.heap.size) #[] #[]])++us1:=by apply W0;simp
  rw[N]at st;have E:step C.P (lone (b.atR a (.code (.rangeFunc fo ps assign body)::k)) cs w00)=.next (lone (Frame.enter C.P f ((vs1++#[.func (.yield w.heap.size) #[] #[]])++us1) .normal) (fr1::cs) w1):=by
   refine stepR_rangeFunc (l:=w.heap.size) (mark:=mark) (w₁:=w1) (w₁':=w1) (d:={ target:=.fn (.func f) us1,args:=vs1++#[.func (.yield w.heap.size) #[] #[]] }) henter ?_ ?_
   ·simp only[resolve];rw[hfo];simp[Deferred.ofValue,Act.eval]
   ·exact Q _ _
  have R:fr1.finish u=b.atR a1 (.endRangeFunc w.heap.size::k):=finish_atR_inRangeFunc _ _;have J:Steps C.P (lone (b.atR a (.code (.rangeFunc fo ps assign body)::k)) cs w00) (lone (b.atR a1 (.endRangeFunc w.heap.size::k)) cs X):=by refine .head E (Steps.trans st (.one ?_));rw[<-R];exact step_leave_returned ⟨q1,q2,q3,fn,by rw[q4];exact q5,q6⟩
  unfold cT at h
  split at h
  rotate_left
  ·cases h
  rename_i nt3 Z ps3 assign3 body3 dfr3 st3 pend3 n;have n:g2.h.get g.nx=.loop nt3 Z ps3 assign3 body3 dfr3 st3 pend3:=by simpa using n
  have U:S g.nx=.loop nt3 Z ps3 assign3 body3 dfr3 st3 pend3:=by rw[h7 g.nx (by rw[n];simp),n]
  have V:=D.rel.obj g.nx;rw[U]at V;obtain⟨k1,k2,L2,Y,k4,k5,k6,k7,k8,k9,ha,hc,hd⟩:=V;have O:(γ2 g.nx).blk=w.heap.size:=by have:=f2.stp.blk_eq (id:=g.nx) (by simp[gh]) (by simp[gh]);rw[this];simp[gh]
  obtain⟨r3,s3⟩:=D.rel.setLoop (st':=.exhausted) (pend':=pend3) U Y;rw[O]at Y r3 s3;have f3:Fin C A bd X γ2 S (Nat.max nx g2.nx) g2 _ γ2 _ (g2.put g.nx (.loop nt3 Z ps3 assign3 body3 dfr3 .exhausted pend3)):=SB r3 s3;have M:Mon g2 (g2.put g.nx (.loop nt3 Z ps3 assign3 body3 dfr3 .exhausted pend3)):=Mon.put wf2 (by rw[n];simp);have m:=D.trans f3 (B.trans H) M;have h9:(γ2 g.nx).kind≠0:=by rw[k1];decide
  have r:st3≠.busy->(Instr.endLoop w.heap.size).run C.P X=.ok pend3 (World.setBlk X w.heap.size (.loop { L2 with state:=.exhausted,pending:=pend3 })):=by
   intro h5;unfold Instr.endLoop;have hb:(L2.state == LoopState.busy)=false:=by rw[k4];cases st3<;>first|rfl|exact absurd rfl h5
   simp only[Ut,lD Y,Uq,hb,VF,if_false,UN,tZ Y];subst k5
   rfl
  have z:Stp w γ (World.setBlk X w.heap.size (.loop { L2 with state:=.exhausted,pending:=pend3 })) γ2:=m.stp
  split at h
  ·cases h
  ·rename_i h4;have r:=r (by rintro rfl;exact h4 rfl);have p:=Steps.trans J (.one (stepR_endRangeFunc (P:=C.P) (b:=b) (a:=a1) (k:=k) (cs:=cs) r))
   split at h
   ·injection h with e1 e2 e3 e4;subst e1;subst e2;subst e3;subst e4;exact⟨a1,_,γ2,_,m,ht.step z,hdf.step z,by simpa [Arr] using p⟩
   ·rename_i c;have m5:=hi.mon.code _ _ _ _ _ _ _ _ _ _ _ h (M.wf wf2);obtain⟨a',w',γ',hg',f4,tr,dr,ar⟩:=hi.code _ _ _ _ _ _ _ _ _ _ _ h A _ _ _ _ b a1 k cs m.rel (m.ext ((B.trans H).trans M) hx) (M.wf wf2) (m.freed hr ((B.trans H).trans M) hf)
     (ht.step z) (hdf.step z) (hrd.step z) hcalm
    exact⟨a',w',γ',hg',m.trans f4 ((B.trans H).trans M) m5,tr,dr,ar.of_steps (by simpa using p)⟩
 |_=>cases h
theorem A2{o:Obj}:(newObj o).run P w=.ok w.heap.size (World.add w o):=by simp[newObj,Sem.run,World.add]
theorem BO{fn:FuncId}{ps:Array Tmp} :
  (Instr.enterLoop fn tmps ps assign body none).run P w=.ok (w.heap.size+1,[{ target:=.collected w.heap.size,args:=#[] }])
   (World.add (World.add w (.deferred (some []))) (.loop { state:=.ready,pending:=none,fn,tmps,params:=ps,assign,body,defers:=w.heap.size })):=by
 unfold Instr.enterLoop;simp only[Ut,A2,Uq,UN,add_size]
theorem DI{fn:FuncId}{ps:Array Tmp}{l:Nat}{L:Loop}(h:w.heap[l]?=some (.loop L)) :
  (Instr.enterLoop fn tmps ps assign body (some l)).run P w=.ok (w.heap.size,[])
   (World.add w (.loop { state:=.ready,pending:=none,fn,tmps,params:=ps,assign,body,defers:=L.defers })):=by
 unfold Instr.enterLoop;simp only[Ut,lD h,A2,Uq,UN]
theorem HU(hC:CfgOk C)(hi:IHOk C ih){fo:Operand}{s:Stg (T->AV)}{ps:Array Tmp}{e:Ex}
  (hs:aP C fo=some s) (h:nM C nt s.run ps.toList assign body ih (bd+1) rd t df g=.ok e t' df' g'):y_ C bd nt rd (.rangeFunc fo ps assign body) t df g e t' df' g':=by
 intro A w γ hg nx b a k cs hr hx q hf ht m j f;unfold nM at h;cases rd with
 | some l =>
  dsimp only at h
  split at h
  rotate_left
  ·cases h
  rename_i nt0 B ps0 as0 bo0 dfr st0 pe0 d;have d:g.h.get l=.loop nt0 B ps0 as0 bo0 dfr st0 pe0:=by simpa using d
  have u:hg l=.loop nt0 B ps0 as0 bo0 dfr st0 pe0:=by rw[hx l (by rw[d];simp),d]
  have n:=hr.obj l;rw[u]at n;obtain⟨H,k2,L,E,I,J,K,M,N,O,D,v,x⟩:=n;have c:=DI (P:=C.P) (fn:=b.fn) (tmps:=a.tmps) (ps:=ps) (assign:=assign) (body:=body) E;rw[x,<-j.2]at c;exact u_ (mark:=[]) hC hi hs h q hr hx hf ht m j f ⟨v,rfl⟩ c
 | none =>
  dsimp only at h
  let gh:Gh:=⟨4,0,0,0,w.heap.size,0,0,true⟩
  have r:Mon g (g.new (.dfr true)):=Mon.mk';have wf1:=r.wf q;have z:=pt hi.mon h wf1;have i:(γ g.nx).kind=0:=hf g.nx (Ui _) (Uy r.nx z.nx);obtain⟨F,y⟩:=hr.add (id:=g.nx) (gh:=gh) (o:=.deferred (some [])) (ao:=.dfr true) (nx':=Nat.max nx (g.nx+1)) i rfl (Vv _ _) (UI (W8 _) (VW _ _)) (by
   refine⟨by simp[gh],by simp[gh],by rw[k_];simp[gh]⟩)
  have f1:Fin C A bd w γ hg nx g _ (upd γ g.nx gh) _ (g.new (.dfr true)):=SA F y;have c:=BO (P:=C.P) (w:=w) (fn:=b.fn) (tmps:=a.tmps) (ps:=ps) (assign:=assign) (body:=body);have p:b.roundOf=none:=j;rw[<-p]at c;obtain⟨a',w',γ',hg',f2,tr,dr,ar⟩:=u_ (nt:=nt) (rd:=none) (b:=b) (a:=a) (k:=k) (cs:=cs) (mark:=[{ target:=.collected w.heap.size,args:=#[] }]) (blk:=w.heap.size) (w00:=w) hC hi hs h wf1 f1.rel (f1.ext r hx) (f1.freed hr r hf)
   (ht.step y) ⟨⟨by simp[gh],by simp[gh]⟩,m.step y⟩ p f ⟨by simp[gh],by simp[gh]⟩ (by simpa using c)
  exact⟨a',w',γ',hg',f1.trans f2 r z,tr,dr,ar⟩
theorem xz(hC:CfgOk C)(hi:IHOk C ih):∀(c:Code) {t:T} {df:List ADf} {g:G} {e:Ex} {t':T} {df':List ADf} {g':G},
  (aK C nt c).run ih (bd+1) rd t df g=.ok e t' df' g'->y_ C bd nt rd c t df g e t' df' g':=by
 intro c
 induction c with
 | skip =>
  intro t df g e t' df' g' h A w γ hg nx b a k cs hr hx n hf ht i o d;simp only[aK]at h;injection h with h1 h2 p h4;subst h1;subst h2;subst p;subst h4;exact⟨a,w,γ,hg,Fin.refl hr,ht,i,.one stepR_skip⟩
 | label l =>
  intro t df g e t' df' g' h A w γ hg nx b a k cs hr hx n hf ht i o d;simp only[aK]at h;injection h with h1 h2 p h4;subst h1;subst h2;subst p;subst h4;exact⟨a,w,γ,hg,Fin.refl hr,ht,i,.one stepR_label⟩
 |region id ops draw=>intro t df g e t' df' g' h;exact HX hC hi h
 | seq x y ihx ihy =>
  intro t df g e t' df' g' h A w γ hg nx b a k cs hr hx n hf ht i o d;simp only[aK]at h;generalize hc:(aK C nt x).run ih (bd+1) rd t df g=r at h;cases r with
  |fail=>cases h
  | ok e1 t1 df1 g1 =>
   have u:=jT hC.mon hi.mon _ hc n;have wf1:=u.wf n;cases e1 with
   | norm =>
    have h:(aK C nt y).run ih (bd+1) rd t1 df1 g1=.ok e t' df' g':=h;have B:=jT hC.mon hi.mon _ h wf1;obtain⟨a1,w1,γ1,m,f1,tr1,dr1,ar1⟩:=ihx hc A w γ hg nx b a (.code y::k) cs hr hx n (hf.le B.nx) ht i o d;obtain⟨a2,F,γ2,v,f2,tr2,dr2,ar2⟩:=ihy h A w1 γ1 m _ b a1 k cs f1.rel (f1.ext u hx) wf1 (f1.freed hr u hf) tr1 dr1 (o.step f1.stp) d;exact⟨a2,F,γ2,v,f1.trans f2 u B,tr2,dr2,ar2.of_steps (.head stepR_seq ar1)⟩
   | exit j =>
    have h:CR.ok (.exit j) t1 df1 g1=.ok e t' df' g':=h;injection h with h1 h2 p h4;subst h1;subst h2;subst p;subst h4;obtain⟨a1,w1,γ1,m,f1,tr1,dr1,k₁,hk,ar1⟩:=ihx hc A w γ hg nx b a (.code y::k) cs hr hx n hf ht i o d;exact⟨a1,w1,γ1,m,f1,tr1,dr1,k₁,by rw[hk];rfl,.head stepR_seq ar1⟩
   | ret =>
    have h:CR.ok .ret t1 df1 g1=.ok e t' df' g':=h;injection h with h1 h2 p h4;subst h1;subst h2;subst p;subst h4;obtain⟨a1,w1,γ1,m,f1,tr1,dr1,k₁,ar1⟩:=ihx hc A w γ hg nx b a (.code y::k) cs hr hx n hf ht i o d;exact⟨a1,w1,γ1,m,f1,tr1,dr1,k₁,.head stepR_seq ar1⟩
 | cond c x y ihx ihy =>
  intro t df g e t' df' g' h A w γ hg nx b a k cs hr hx n hf ht i o d;simp only[aK]at h
  split at h
  rotate_left
  ·cases h
  rename_i s hs;dsimp only at h;have E:=au hs ht hr;generalize hcv:a.eval c=vc at E;generalize s.run t=cv at h E;cases E with
  | bool _ bv =>
   dsimp only at h;cases bv with
   | true =>
    obtain⟨a1,w1,γ1,m,f1,tr1,dr1,ar1⟩:=ihx h A w γ hg nx b a k cs hr hx n hf ht i o d;exact⟨a1,w1,γ1,m,f1,tr1,dr1,ar1.of_steps (.one (by simpa using stepR_cond (P:=C.P) (b:=b) (a:=a) (k:=k) (cs:=cs) (w:=w) (x:=x) (y:=y) hcv))⟩
   | false =>
    obtain⟨a1,w1,γ1,m,f1,tr1,dr1,ar1⟩:=ihy h A w γ hg nx b a k cs hr hx n hf ht i o d;exact⟨a1,w1,γ1,m,f1,tr1,dr1,ar1.of_steps (.one (by simpa using stepR_cond (P:=C.P) (b:=b) (a:=a) (k:=k) (cs:=cs) (w:=w) (x:=x) (y:=y) hcv))⟩
  |_=>cases h
 | block id body ihb =>
  intro t df g e t' df' g' h A w γ hg nx b a k cs hr hx n hf ht i o d;simp only[aK]at h;generalize hc:(aK C nt body).run ih (bd+1) rd t df g=r at h;cases r with
  |fail=>cases h
  | ok e1 t1 df1 g1 =>
   cases e1 with
   | norm =>
    have h:CR.ok .norm t1 df1 g1=.ok e t' df' g':=h;injection h with h1 h2 p h4;subst h1;subst h2;subst p;subst h4;obtain⟨a1,w1,γ1,m,f1,tr1,dr1,ar1⟩:=ihb hc A w γ hg nx b a (.inBlock id::k) cs hr hx n hf ht i o d;exact⟨a1,w1,γ1,m,f1,tr1,dr1,.head stepR_block (Steps.trans ar1 (.one stepR_inBlock))⟩
   | exit j =>
    simp only[vq,aa]at h
    split at h
    ·rename_i z;have z:=aB z;subst z;injection h with h1 h2 p h4;subst h1;subst h2;subst p;subst h4;obtain⟨a1,w1,γ1,m,f1,tr1,dr1,k₁,hk,ar1⟩:=ihb hc A w γ hg nx b a (.inBlock j::k) cs hr hx n hf ht i o d;exact⟨a1,w1,γ1,m,f1,tr1,dr1,.head stepR_block (Steps.trans ar1 (.one (stepR_exit (by rw[hk];simp[exitTo]))))⟩
    ·rename_i z;injection h with h1 h2 p h4;subst h1;subst h2;subst p;subst h4;obtain⟨a1,w1,γ1,m,f1,tr1,dr1,k₁,hk,ar1⟩:=ihb hc A w γ hg nx b a (.inBlock id::k) cs hr hx n hf ht i o d;refine⟨a1,w1,γ1,m,f1,tr1,dr1,k₁,?_,.head stepR_block ar1⟩;rw[hk];have D:(id == j)=false:=by simp only[beq_eq_false_iff_ne,ne_eq];rintro rfl;exact z (UT _)
     simp[exitTo,D]
   | ret =>
    have h:CR.ok .ret t1 df1 g1=.ok e t' df' g':=h;injection h with h1 h2 p h4;subst h1;subst h2;subst p;subst h4;obtain⟨a1,w1,γ1,m,f1,tr1,dr1,k₁,ar1⟩:=ihb hc A w γ hg nx b a (.inBlock id::k) cs hr hx n hf ht i o d;exact⟨a1,w1,γ1,m,f1,tr1,dr1,k₁,.head stepR_block ar1⟩
 | loop body ihb =>
  intro t df g e t' df' g' h A w γ hg nx b a k cs hr hx n hf ht i o d;simp only[aK]at h;generalize hc:(aK C nt body).run ih (bd+1) rd t df g=r at h;cases r with
  |fail=>cases h
  | ok e1 t1 df1 g1 =>
   have u:=jT hC.mon hi.mon _ hc n;have wf1:=u.wf n;cases e1 with
   | norm =>
    have h:ih.code nt (bd+1) rd (.loop body) t1 df1 g1=.ok e t' df' g':=h;have B:=hi.mon.code _ _ _ _ _ _ _ _ _ _ _ h wf1;obtain⟨a1,w1,γ1,m,f1,tr1,dr1,ar1⟩:=ihb hc A w γ hg nx b a (.inLoop body::k) cs hr hx n (hf.le B.nx) ht i o d;obtain⟨a2,F,γ2,v,f2,tr2,dr2,ar2⟩:=hi.code _ _ _ _ _ _ _ _ _ _ _ h A w1 γ1 m _ b a1 k cs f1.rel (f1.ext u hx) wf1 (f1.freed hr u hf) tr1 dr1 (o.step f1.stp) d;refine⟨a2,F,γ2,v,f1.trans f2 u B,tr2,dr2,Arr.of_steps (.head stepR_loop (Steps.trans ar1 (.one stepR_inLoop))) ?_⟩;have q:step C.P (lone (b.atR a1 (.code (.loop body)::k)) cs w1)=.next (lone (b.atR a1 (.code body::.inLoop body::k)) cs w1):=stepR_loop;have ne:∀{a':Act} {k':List Item} {w':World},k'≠.code (.loop body)::k->lone (b.atR a1 (.code (.loop body)::k)) cs w1≠lone (b.atR a' k') cs w':=λh h'=>h (Bv h').symm;cases e with
    |norm=>exact gi ar2 (ne (λh=>by have:=congrArg List.length h;simp at this)) q
    | exit j =>
     obtain⟨k₁,hk,ar2⟩:=ar2;exact⟨k₁,hk,gi ar2 (ne (λh=>by injection h with h _;injection h with h;cases h)) q⟩
    | ret =>
     obtain⟨k₁,ar2⟩:=ar2;exact⟨k₁,gi ar2 (ne (λh=>by injection h with h _;injection h with h;cases h)) q⟩
   | exit j =>
    have h:CR.ok (.exit j) t1 df1 g1=.ok e t' df' g':=h;injection h with h1 h2 p h4;subst h1;subst h2;subst p;subst h4;obtain⟨a1,w1,γ1,m,f1,tr1,dr1,k₁,hk,ar1⟩:=ihb hc A w γ hg nx b a (.inLoop body::k) cs hr hx n hf ht i o d;exact⟨a1,w1,γ1,m,f1,tr1,dr1,k₁,by rw[hk];rfl,.head stepR_loop ar1⟩
   | ret =>
    have h:CR.ok .ret t1 df1 g1=.ok e t' df' g':=h;injection h with h1 h2 p h4;subst h1;subst h2;subst p;subst h4;obtain⟨a1,w1,γ1,m,f1,tr1,dr1,k₁,ar1⟩:=ihb hc A w γ hg nx b a (.inLoop body::k) cs hr hx n hf ht i o d;exact⟨a1,w1,γ1,m,f1,tr1,dr1,k₁,.head stepR_loop ar1⟩
 | scope body ihb =>
  intro t df g e t' df' g' h A w γ hg nx b a k cs hr hx n hf ht i o d;have h:(aK C nt body).run ih (bd+1) rd t df g=.ok e t' df' g':=h;obtain⟨a1,w1,γ1,m,f1,tr1,dr1,ar1⟩:=ihb h A w γ hg nx b a (.inScope body::k) cs hr hx n hf ht i o d;refine⟨a1,w1,γ1,m,f1,tr1,dr1,?_⟩;cases e with
  |norm=>exact .head cI (Steps.trans ar1 (.one py))
  |exit j=>obtain⟨k₁,hk,ar1⟩:=ar1;exact⟨k₁,by rw[hk];rfl,.head cI ar1⟩
  |ret=>obtain⟨k₁,ar1⟩:=ar1;exact⟨k₁,.head cI ar1⟩
 | exit id =>
  intro t df g e t' df' g' h A w γ hg nx b a k cs hr hx n hf ht i o d;simp only[aK]at h;injection h with h1 h2 p h4;subst h1;subst h2;subst p;subst h4;exact⟨a,w,γ,hg,Fin.refl hr,ht,i,k,rfl,Steps.refl _ _⟩
 | ret =>
  intro t df g e t' df' g' h A w γ hg nx b a k cs hr hx n hf ht i o d;simp only[aK]at h;injection h with h1 h2 p h4;subst h1;subst h2;subst p;subst h4;exact⟨a,w,γ,hg,Fin.refl hr,ht,i,k,Steps.refl _ _⟩
 | rangeFunc f ps assign body _ _ =>
  intro t df g e t' df' g' h;simp only[aK]at h
  split at h
  ·rename_i s hs;exact HU hC hi hs h
  ·cases h
 |_=>intro t df g e t' df' g' h;cases h
theorem Kw(fr:Frame)(h:fr.mode=.returning):({ fr with mode:=.returning }:Frame)=fr:=by cases fr;simp at h;subst h;rfl
theorem Da(hi:IHOk C ih):∀{df:List ADf} {g g':G},fN ih (bd+1) df g=some g'->WF g ->
  ∀{w γ hg nx} {fr:Frame} {cs:List Frame},Rel C A bd w γ hg nx->Ext g.h hg->Free γ g g'->DR w γ A bd df fr.defers->fr.mode=.returning ->
   ∃w' γ' hg',Fin C A bd w γ hg nx g w' γ' hg' g'/\Steps C.P (lone fr cs w) (lone { fr with defers:=[] } cs w'):=by
 intro df
 induction df with
 | nil =>
  intro g g' h _ w γ hg nx fr cs hr hx hf k hm;simp only[fN]at h;injection h with h;subst h;have hd:fr.defers=[]:=by
   cases hd:fr.defers with
   |nil=>rfl
   |cons d ds=>rw[hd]at k;exact k.elim
  refine⟨w,γ,hg,Fin.refl hr,?_⟩;have:({ fr with defers:=[] }:Frame)=fr:=by cases fr;simp at hd;subst hd;rfl
  rw[this];exact Steps.refl _ _
 | cons x df ihl =>
  intro g g' h b w γ hg nx fr cs hr hx hf k hm;cases hd:fr.defers with
  |nil=>rw[hd]at k;cases x<;>exact k.elim
  | cons d ds =>
   rw[hd]at k;cases x with
   | mark id =>
    obtain⟨⟨hk,rfl⟩,k⟩:=k;simp only[fN]at h
    split at h
    ·rename_i a;have a:g.h.get id=.dfr true:=by simpa using a
     have B:hg id=.dfr true:=by rw[hx id (by rw[a];simp),a]
     have r:=hr.obj id;rw[B]at r;obtain⟨E,k2,F⟩:=r;have q:(γ id).kind≠0:=by rw[E];decide
     have i:Mon g (g.put id (.dfr false)):=Mon.put b (by rw[a];simp);obtain⟨L,H⟩:=hr.setBlk (id:=id) (o:=.deferred none) (ao:=.dfr false) q k2 ⟨E,k2,by rw[aX];simp[(hr.lt id q).2]⟩;have f1:Fin C A bd w γ hg nx g _ γ _ (g.put id (.dfr false)):=SB L H;have t:=mT hi.mon h (i.wf b);obtain⟨w',γ',hg',f2,st⟩:=ihl h (i.wf b) (fr:={ fr with defers:=ds }) (cs:=cs) f1.rel (f1.ext i hx) (f1.freed hr i hf) (k.step H) hm;refine⟨w',γ',hg',f1.trans f2 i t,.head (step_lone_go ?_) st⟩;have m:(Instr.takeDeferred (γ id).blk).run C.P w=.ok [] (World.setBlk w (γ id).blk (.deferred none)):=by unfold Instr.takeDeferred;simp only[Ut,ge F (by simp),Uq,if_true,iy F (by simp),UN]
     simp[stepG,hm,unwind,hd,Sem.runT_eq,m,GStep.bare_after]
    ·cases h
   | call fv args =>
    obtain⟨⟨f,ys,us,rfl,j,D,l⟩,k⟩:=k;simp only[fN]at h
    split at h
    rotate_left
    ·cases h
    rename_i v g1 e;have i:=hi.mon.call _ _ _ _ _ _ e b;have wf1:=i.wf b;have t:=mT hi.mon h wf1;obtain⟨p,s⟩:=hi.call _ _ _ _ _ _ e
    let fr0:Frame:={ fr with defers:=ds }
    obtain⟨u,w1,γ1,I,f1,_,frX,st,q1,q2,q3,J,fn,q5,K⟩:=s A w γ hg nx (d.args.toList++us.toList) hr hx b (hf.le t.nx) (by simpa using l.append D) .deferred (fr0::cs) (.inr ⟨rfl,fr0,cs,rfl,.inl hm⟩);have n:(d.args.toList++us.toList).toArray=d.args++us:=by apply W0;simp
    rw[n]at st;obtain⟨w',γ',hg',f2,st2⟩:=ihl h wf1 (fr:=fr0) (cs:=cs) f1.rel (f1.ext i hx) (f1.freed hr i hf) (k.step f1.stp) hm;refine⟨w',γ',hg',f1.trans f2 i t,.head (step_defer (by rw[hm];simp) hd j ?_) (Steps.trans st (.head ?_ st2))⟩
    ·rw[j];simp only[invoke];exact p _ _
    ·have z:frX.going C.P w1 (.returned u):=⟨q1,q2,fn,by rw[J];exact q5,K⟩;have:=step_going_returned (P:=C.P) (c:=fr0) (cs:=cs) q3 z;have hs:settle fr0.mode=.returning:=by have:fr0.mode=.returning:=hm;rw[this];rfl
     rw[hs]at this;have y:({ fr0 with mode:=.returning }:Frame)=fr0:=by exact Kw fr0 hm
     rw[y]at this;exact this
theorem F0{ty:TypeId}{x v:Value}{w w':World}(h:(do loadVar ty (<-Instr.sureAddr x):Sem Value).run P w=.ok v w') :
  (do loadVar ty (<-asAddr x):Sem Value).run P w=.ok v w':=by
 cases x with
 |pointer p=>cases p<;>simp[Instr.sureAddr,asAddr]at h ⊢;exact h
 |_=>simp[Instr.sureAddr]at h
theorem zP(hC:CfgOk C)(ht:TR w γ A bd nt t tmps)(hr:Rel C A bd w γ hg nx)(hx:Ext g.h hg):∀{rs:List ResultVar} {k:Stg (T->G->Option (List AV))} {vs:List AV},nT C rs=some k->k.run t g=some vs ->
  ∃us:List Value,(rs.mapM (fun|.tmp t=>pure (tmps.getD t undef)|.cell a t=>do loadVar t (<-asAddr (tmps.getD a undef))):Sem (List Value)).run C.P w=.ok us w/\RVs w γ A bd vs us:=by
 intro rs
 induction rs with
 |nil=>intro k vs h b;simp[nT]at h;subst h;simp at b;subst b;exact⟨[],by simp,rfl,λi x v h=>by simp at h⟩
 | cons r rs ihr =>
  intro k vs h b;cases r with
  | tmp n =>
   simp only[nT]at h
   split at h
   ·rename_i z e;injection h with h;subst h;dsimp only at b
    split at b
    ·rename_i vs0 c;injection b with b;subst b;obtain⟨us,h1,h2⟩:=ihr e c;refine⟨tmps.getD n undef::us,?_,by simp[h2.1],λi x v hx' hv'=>?_⟩
     ·rw[List.mapM_cons];simp only[Ut,UN,Uq,h1]
     ·cases i with
      |zero=>simp at hx' hv';subst hx';subst hv';simpa [U1] using ht.2 n
      |succ i=>exact h2.2 i x v (by simpa using hx') (by simpa using hv')
    ·cases b
   ·cases h
  | cell ad ty =>
   simp only[nT]at h
   split at h
   ·rename_i z l e hl;injection h with h;subst h;dsimp only at b
    split at b
    ·rename_i y m
     split at b
     ·rename_i vs0 c;injection b with b;subst b;obtain⟨us,h1,h2⟩:=ihr e c
      let o:Oper:={ (default:Oper) with op:=.load ty (.tmp ad) }
      have j:∀id∈bu C (.load ty (.tmp ad)) t g,hg id=g.h.get id:=by intro id d;exact hx id λq=>by rw[GI hl d q]at m;cases m
      have f:∃v,(do loadVar ty (<-asAddr (tmps.getD ad undef)):Sem Value).run C.P w=.ok v w/\RV w γ A bd y v:=by
       simp only[cm]at hl
       split at hl
       ·rename_i s ag n hs p q;injection hl with hl;subst hl;have:=F2 (g:=g) (ty:=ty) (t:=t) hr (au (a:={ tmps:=tmps,defers:=[] }) hs ht hr) p q (λid d=>j id (by simp[bu,aH,am,hs,d]));have m:nH ag n s.run t g=.val y:=m;rw[m]at this;obtain⟨v,h1,h2⟩:=this;refine⟨v,?_,h2⟩;have h1:(Instr.loadAt ty (tmps.getD ad undef)).run C.P w=.ok v w:=h1;unfold Instr.loadAt at h1;exact F0 h1
       ·cases hl
      obtain⟨v,u,h4⟩:=f;refine⟨v::us,?_,by simp[h2.1],λi x v' hx' hv'=>?_⟩
      ·rw[List.mapM_cons];simp only[Ut,UN];simp only[Ut]at u;rw[u];simp only[Uq,h1]
      ·cases i with
       |zero=>simp at hx' hv';subst hx';subst hv';exact h4
       |succ i=>exact h2.2 i x v' (by simpa using hx') (by simpa using hv')
     ·cases b
    ·cases b
   ·cases h
theorem HK:∀(vs:List AV) (i:Nat) (t:T) (s:Nat),(ba i vs t).get AV.undef s=if i<=s/\s<i+vs.length then vs.getD (s - i) AV.undef else t.get AV.undef s:=by
 intro vs
 induction vs with
 |nil=>intro i t s;simp only[ba,V8];rw[Um (by omega)]
 | cons v vs ihv =>
  intro i t s;simp only[ba];rw[ihv,sp_get]
  by_cases h1:s=i
  ·subst h1;rw[Um (by omega),Un rfl,Un (by simp)];simp
  ·rw[Um h1]
   by_cases h2:i+1<=s/\s<i+1+vs.length
   ·rw[Un h2,Un (by simp;omega),show s - i=(s - (i+1))+1 by omega];simp
   ·rw[Um h2,Um (by simp;omega)]
theorem zb{as:List AV}{vs:List Value}(hv:RVs w γ A bd as vs)(hn:as.length<=nt) :
  TR w γ A bd nt (ba 0 as .nil) (vs.toArray++Array.replicate (nt - vs.toArray.size) undef):=by
 have hl:=hv.1;refine⟨by simp;omega,λs=>?_⟩;rw[HK]
 by_cases hs:s<as.length
 ·rw[Un (by simpa using hs)];have h1:as[s]?=some (as[s]):=Uj hs;have h2:vs[s]?=some (vs[s]'(by omega)):=Uj (by omega);have:=hv.2 s _ _ h1 h2;have e1:as.getD (s - 0) AV.undef=as[s]:=by simp[U8,h1]
  have h:(vs.toArray++Array.replicate (nt - vs.toArray.size) undef).getD s undef=vs[s]'(by omega):=by rw[U1,Vp (by simp;omega)];simp[h2]
  rw[e1,h];exact this
 ·rw[Um (by simpa using hs),SJ];have h:(vs.toArray++Array.replicate (nt - vs.toArray.size) undef).getD s undef=undef:=by
   rw[U1,Array.getElem?_append_right (by simp;omega),Array.getElem?_replicate]
   split<;>rfl
  rw[h];exact cU
theorem tW{fn:Func}{us:List Value}
  (h:(fn.results.toList.mapM (fun|.tmp t=>pure (tmps.getD t undef)|.cell a t=>do loadVar t (<-asAddr (tmps.getD a undef))):Sem (List Value)).run P w=.ok us w) :
  ∃u,(results fn tmps).run P w=.ok u w/\∀{xs:List AV},RVs w γ A bd xs us->RV w γ A bd (jv xs) u:=by
 have hm:(fn.results.mapM (fun|.tmp t=>pure (tmps.getD t undef)|.cell a t=>do loadVar t (<-asAddr (tmps.getD a undef))):Sem (Array Value)).run P w=.ok us.toArray w:=by
  rw[Array.mapM_eq_mapM_toList];simp only[Sem.run_map,h]
  rfl
 refine⟨if hs:us.toArray.size=1 then us.toArray[0] else .tuple us.toArray,?_,?_⟩
 ·unfold results;simp only[Ut];have k:=hm;generalize hq:(fn.results.mapM (fun|.tmp t=>pure (tmps.getD t undef)|.cell a t=>do loadVar t (<-asAddr (tmps.getD a undef))):Sem (Array Value))=q at k;rw[k];simp only[Uq,UN]
 ·intro xs b;have hl:=b.1;have tup:RV w γ A bd (.tup xs) (.tuple us.toArray):=.tup _ _ _ (by simpa using hl) λi x v h1 h2=>b.2 i x v h1 (by simpa using h2);cases us with
  | nil =>
   have:xs=[]:=WR.1 hl;subst this;exact tup
  | cons u us =>
   cases us with
   | nil =>
    cases xs with
    |nil=>simp at hl
    | cons x xs =>
     have:xs=[]:=WR.1 (by simpa using hl);subst this;exact b.2 0 x u rfl rfl
   | cons u' us =>
    rw[dif_neg (by simp)];cases xs with
    |nil=>simp at hl
    | cons x xs =>
     cases xs with
     |nil=>simp at hl
     |cons x' xs=>exact tup
theorem OP(hC:CfgOk C)(hi:IHOk C ih){x:Stg (IH->Nat->List AV->G->FR)}(hx:cFn C f=some x){as:List AV}
  (h:x.run ih (bd+1) as g=.ok v g'):Enters C.P f/\y9 C bd f as g v g':=by
 unfold cFn at hx
 split at hx
 ·cases hx
 rename_i fn hfn
 split at hx
 ·cases hx
 rename_i c hbody
 split at hx
 rotate_left
 ·cases hx
 rename_i r hres;rw[aa]at hx
 split at hx
 ·cases hx
 rename_i hname;injection hx with hx;subst hx;refine⟨λargs w=>?_,?_⟩
 ·unfold callFunc;have hn : fn.name ≠ "runtime.NumGoroutine" := by simpa using hname
  simp[hfn,hn,hbody]
 intro A w γ hg nx vs hr hex hwf hf hv K cs hcalm;dsimp only at h;rw[aa]at h
 split at h
 rotate_left
 ·cases h
 rename_i hle;rw[UR,aq]at hle
 let b:Frame:={ (default:Frame) with fn:=f,kind:=K,roundOf:=none }
 let a0:Act:={ tmps:=vs.toArray++Array.replicate (fn.ntmps - vs.toArray.size) undef,defers:=[] }
 have henter:Frame.enter C.P f vs.toArray K=b.atR a0 [.code c]:=by simp[Frame.enter,Frame.atR,hfn,hbody,b,a0]
 have key:∀{e:Ex} {t1:T} {df:List ADf} {g1:G},(aK C fn.ntmps c).run ih (bd+1) none (ba 0 as .nil) [] g=.ok e t1 df g1->(∀j,e≠.exit j)->bN ih (bd+1) r.run t1 df g1=.ok v g' ->
   ∃u w' γ' hg',Fin C A bd w γ hg nx g w' γ' hg' g'/\RV w' γ' A bd v u/\Outs C.P K f vs.toArray cs w u w':=by
  intro e t1 df g1 hc hne hend;have m1:=jT hC.mon hi.mon _ hc hwf;have wf1:=m1.wf hwf;unfold bN at hend
  split at hend
  ·cases hend
  rename_i g2 h2;have m2:=mT hi.mon h2 wf1
  split at hend
  rotate_left
  ·cases hend
  rename_i xs hxs;injection hend with h1 h2';subst h2';subst h1;obtain⟨a1,w1,γ1,hg1,f1,tr1,dr1,ar1⟩:=xz hC hi c hc A w γ hg nx b a0 [] cs hr hex hwf (hf.le m2.nx) (zb hv hle) trivial rfl hcalm;have hret:∃fr:Frame,Steps C.P (lone (Frame.enter C.P f vs.toArray K) cs w) (lone fr cs w1)/\fr.mode=.returning/\fr.defers=a1.defers/\fr.kind=K/\fr.fn=f/\fr.tmps=a1.tmps:=by
   rw[henter];cases e with
   |norm=>exact⟨{ b.atR a1 [] with mode:=.returning },Steps.trans ar1 (.one (stepR_end rfl)),rfl,rfl,rfl,rfl,rfl⟩
   | ret =>
    obtain⟨k₁,ar1⟩:=ar1;exact⟨{ b.atR a1 (.code .ret::k₁) with mode:=.returning },Steps.trans ar1 (.one (stepR_ret rfl)),rfl,rfl,rfl,rfl,rfl⟩
   |exit j=>exact absurd rfl (hne j)
  obtain⟨fr,st1,q1,q2,q3,q4,q5⟩:=hret;obtain⟨w2,γ2,hg2,f2,st2⟩:=Da hi h2 wf1 (fr:=fr) (cs:=cs) f1.rel (f1.ext m1 hex) (f1.freed hr m1 hf) (by rw[q2];exact dr1) q1;have f12:=f1.trans f2 m1 m2;obtain⟨us,hus,hrv⟩:=zP hC (tr1.step f2.stp) f12.rel (f12.ext (m1.trans m2) hex) hres hxs;obtain⟨u,hu,hone⟩:=tW (γ:=γ2) (A:=A) (bd:=bd) hus;exact⟨u,w2,γ2,hg2,f12,hone hrv,{ fr with defers:=[] },Steps.trans st1 st2,q1,rfl,q3,q4,fn,hfn,by
   have:({ fr with defers:=[] }:Frame).tmps=a1.tmps:=q5;rw[this];exact hu⟩
 split at h
 ·cases h
 ·rename_i e t1 df g1 hne hc;exact key hc (by rintro j rfl;exact hne j rfl) h
 ·cases h
theorem mb(hC:CfgOk C):∀n,IHOk C (sem C n):=by
 intro n
 induction n with
 |zero=>exact⟨zt hC.mon 0,λbd f as g v g' h=>(by cases h),λbd nt rd c t df g e t' df' g' h=>(by cases h)⟩
 | succ n ihn =>
  refine⟨zt hC.mon (n+1),λbd f as g v g' h=>?_,λbd nt rd c t df g e t' df' g' h=>xz hC ihn c h⟩;change ff C (sem C n) (bd+1) f as g=.ok v g' at h;unfold ff at h
  split at h
  ·rename_i x hx;exact OP hC ihn hx h
  ·cases h
end
end
end
end Hx
section
namespace Hx
open Go Go.RowKit
def gm0:Gm:=λ_=>⟨0,0,0,0,0,0,0,false⟩
def av0:Nat->Nat->Prop:=λ_ _=>False
theorem R5(b:Nat):¬Mut gm0 b:=by rintro⟨id,h,_⟩;exact h rfl
abbrev RV0 (w:World)(x:AV)(v:Value):Prop:=RV w gm0 av0 0 x v
abbrev RVs0 (w:World)(xs:List AV)(vs:List Value):Prop:=RVs w gm0 av0 0 xs vs
theorem CA:G.empty.h.get=λ_=>AObj.none:=by funext id;simp[G.empty,H.get,SJ]
theorem DF{C:Cfg}(hC:CfgOk C){n f:Nat}{as:List AV}{v:AV}{g':G}(h:(sem C n).call 1 f as G.empty=.ok v g'){w:World}{vs:List Value}(hargs:RVs0 w as vs)
  (hglob:∀gl sz rows,C.glob gl=some (sz,rows)->RV0 w (.tptr 0 sz rows 0 0) (.pointer (some ⟨gl,0,none⟩))) :
  Calls C.P f vs.toArray w λe w'=>∃u γ' A',e=.returned u/\Below w.heap.size w w'/\RV w' γ' A' 0 v u:=by
 intro cs;have c:=mb hC n;obtain⟨_,a⟩:=c.call 0 f as G.empty v g' h;have hr:Rel C av0 0 w gm0 (λ_=>.none) 0 :=
  ⟨λid=>rfl,λid h=>absurd rfl h,λi j h=>absurd rfl h,λid h=>absurd rfl h,λt b h=>h.elim,hglob⟩
 obtain⟨u,w',γ',hg',fin,rv,fr,st,q1,q2,q3,d,fn,q5,l⟩:=a av0 w gm0 _ 0 vs hr (λid h=>by rw[CA]at h;exact absurd rfl h) (λid _=>by rw[CA]) (λ_ _ _=>rfl) hargs .normal cs (.inl rfl);refine⟨.returned u,w',fr,⟨u,γ',av0,rfl,⟨fin.stp.os,fin.stp.tape,fin.stp.output,fin.stp.sz,λk hk=>fin.stp.fr k hk (R5 k)⟩,rv⟩,st,d,q1,q2,q3,fn,by rw[d];exact q5,l⟩
theorem Hz{C:Cfg}(hC:CfgOk C){n f:Nat}{as:List AV}{g':G}(h:(sem C n).call 1 f as G.empty=.ok (.bool true) g'){w:World}{vs:List Value}(hargs:RVs0 w as vs)
  (hglob:∀gl sz rows,C.glob gl=some (sz,rows)->RV0 w (.tptr 0 sz rows 0 0) (.pointer (some ⟨gl,0,none⟩))) :
  Calls C.P f vs.toArray w λe w'=>e=.returned (.bool true)/\Below w.heap.size w w' :=
 (DF hC h hargs hglob).mono λe w' ⟨u,γ',A',he,hb,rv⟩=>by cases rv;exact⟨he,hb⟩
end Hx
end
namespace Hx
open Go
noncomputable section
variable {g g':G}{b d nt n x f c B i ti m:Nat}{t t':T}{v:AV}{P:Program}{rd:Option Nat}{df:List ADf}{C:Cfg}{tmps:Array Value}{body:SC}{Q:QT}{pm:List Nat}{assign:Code}{K:AV->G->Prop}{D:ADf->Prop}
end
end Hx
section
namespace Hx
open Go Go.RowKit
theorem CfgOk.plain{P:Program}{iso:Nat->Bool}{glob:Nat->Option (Nat×List (List AV))}(hm:P.follows .mixedOrders=true)(hrf:P.follows .rangeFuncRecover=true) :
  CfgOk { P,iso,ext:=λ_=>none,glob } :=
 ⟨hm,hrf,λf e h=>(by cases h),λf e h=>(by cases h),λf e h=>(by cases h)⟩
theorem Rel.cfg{C C':Cfg}(h:C'.glob=C.glob){A:Nat->Nat->Prop}{bd:Nat}{w:World}{γ:Gm}{hg:Nat->AObj}{nx:Nat}(r:Rel C A bd w γ hg nx):Rel C' A bd w γ hg nx :=
 ⟨r.obj,r.lt,r.inj,r.av,r.ab,by rw[h];exact r.glob⟩
theorem Fin.cfg{C C':Cfg}(h:C'.glob=C.glob){A:Nat->Nat->Prop}{bd:Nat}{w w':World}{γ γ':Gm}{hg hg':Nat->AObj}{nx:Nat}{g g':G}(f:Fin C A bd w γ hg nx g w' γ' hg' g') :
  Fin C' A bd w γ hg nx g w' γ' hg' g':=⟨f.rel.cfg h,f.stp,f.new⟩
structure ExtOk (C:Cfg) (f:Nat) (e:Nat->List AV->G->OR):Prop where
 mon:∀d args g,WF g->Mon g (gOf g (e d args g))
 noDfr:∀d args g y,e d args g≠.dfr y
 run:∀A bd w γ hg nx g as vs,Rel C A bd w γ hg nx->WF g->(∀id∈as.flatMap (aw g.h an),g.h.get id≠.none->hg id=g.h.get id)->Free γ g (gOf g (e (bd+1) as g)) ->
  RVs w γ A bd as vs->e (bd+1) as g≠.fail->∀cs,
  ∃u w' γ' hg',Fin C A bd w γ hg nx g w' γ' hg' (gOf g (e (bd+1) as g))/\RV w' γ' A bd (vOf (e (bd+1) as g)) u /\
   ((callFunc f vs.toArray).run C.P w=.ok (.value u) w'\/(Enters C.P f/\Outs C.P .normal f vs.toArray cs w u w'))
noncomputable def Cfg.add(C:Cfg)(f:Nat)(e:Nat->List AV->G->OR):Cfg:={ C with ext:=λk=>ak (Nat.beq k f) (some e) (C.ext k) }
theorem ExtOk.cfg{C C':Cfg}{f:Nat}{e:Nat->List AV->G->OR}(hp:C'.P=C.P)(hgl:C'.glob=C.glob)(h:ExtOk C f e):ExtOk C' f e:=by refine⟨h.mon,h.noDfr,λA bd w γ hg nx g as vs hr hwf hx hf hv hne cs=>?_⟩;obtain⟨u,w',γ',hg',fin,rv,out⟩:=h.run A bd w γ hg nx g as vs (hr.cfg hgl.symm) hwf hx hf hv hne cs;exact⟨u,w',γ',hg',fin.cfg hgl,rv,by rw[hp];exact out⟩
theorem CfgOk.add{C:Cfg}(h:CfgOk C){f:Nat}{e:Nat->List AV->G->OR}(he:ExtOk C f e):CfgOk (C.add f e):=by
 have which:∀k e',(C.add f e).ext k=some e'->(k=f/\e'=e)\/C.ext k=some e':=by
  intro k e' hk;have hk:ak (Nat.beq k f) (some e) (C.ext k)=some e':=hk;rw[aa]at hk
  split at hk
  ·rename_i hb;injection hk with hk;exact .inl ⟨aB hb,hk.symm⟩
  ·exact .inr hk
 refine⟨h.mixed,h.recov,λk e' hk d args g hwf=>?_,λk e' hk d args g y=>?_,λk e' hk A bd w γ hg nx g as vs hr hwf hx hf hv hne cs=>?_⟩
 ·rcases which k e' hk with⟨_,rfl⟩|hk
  ·exact he.mon d args g hwf
  ·exact h.mon k e' hk d args g hwf
 ·rcases which k e' hk with⟨_,rfl⟩|hk
  ·exact he.noDfr d args g y
  ·exact h.noDfr k e' hk d args g y
 ·rcases which k e' hk with⟨rfl,rfl⟩|hk
  ·obtain⟨u,w',γ',hg',fin,rv,out⟩:=he.run A bd w γ hg nx g as vs (Rel.cfg (C:=C.add k e') (C':=C) rfl hr) hwf hx hf hv hne cs;exact⟨u,w',γ',hg',Fin.cfg (C:=C) (C':=C.add k e') rfl fin,rv,out⟩
  ·obtain⟨u,w',γ',hg',fin,rv,out⟩:=h.ext k e' hk A bd w γ hg nx g as vs (Rel.cfg (C:=C.add f e) (C':=C) rfl hr) hwf hx hf hv hne cs;exact⟨u,w',γ',hg',Fin.cfg (C:=C) (C':=C.add f e) rfl fin,rv,out⟩
noncomputable def Aa(v:AV):Nat->List AV->G->OR:=λd as _ =>
 match d with
 | 1=>match as with
  |[]=>.val v
  |_=>.fail
 |_=>.fail
theorem FQ{ih:IH}{d:Nat}{g g0:G}{f:Nat}{v:AV}(h:ac ih d g0 f []=.val v):ac ih d g f []=.val v:=by
 unfold ac at h ⊢;simp only[aD]at h ⊢;cases hc:ih.call (Nat.succ d) f [] G.empty with
 |fail=>rw[hc]at h;cases h
 | ok r g' =>
  rw[hc]at h;dsimp only at h ⊢;cases hs:snap g'.h 0 an r with
  |none=>rw[hs]at h;cases h
  | some r' =>
   rw[hs]at h;dsimp only at h ⊢;cases hm:eN an r' with
   |none=>rw[hm]at h;cases h
   | some m =>
    rw[hm]at h;dsimp only at h ⊢;cases hb:Nat.blt m d with
    |true=>rw[hb]at h;exact h
    | false =>
     rw[hb]at h
     split at h
     ·cases h
     ·split at h
      ·cases h
      ·rename_i m' k;cases hb':Nat.blt m' d with
       |true=>rw[hb']at h;cases h
       |false=>rw[hb']at h;cases h
theorem Kc{C:Cfg}(hC:CfgOk C){n f:Nat}{v:AV}(h:ac (sem C n) 1 G.empty f []=.val v):ExtOk C f (Aa v):=by
 have sh:∀d args g,Aa v d args g=.fail\/(d=1/\args=[]/\Aa v d args g=.val v):=by
  intro d args g;unfold Aa
  split
  ·split
   ·exact .inr ⟨rfl,rfl,rfl⟩
   ·exact .inl rfl
  ·exact .inl rfl
 refine⟨λd args g _=>?_,λd args g y hy=>?_,λA bd w γ hg nx g as vs hr hwf hx hf hv hne cs=>?_⟩
 ·rcases sh d args g with h|⟨_,_,h⟩<;>rw[h]<;>exact Mon.refl g
 ·rcases sh d args g with h|⟨_,_,h⟩<;>rw[h]at hy<;>cases hy
 ·rcases sh (bd+1) as g with h0|⟨h1,rfl,h0⟩
  ·exact absurd h0 hne
  ·have a:bd=0:=by omega
   subst a;have hc:=FQ (g:=g) h;rw[h0];have k:=mb hC n;obtain⟨he,u,w',γ',hg',fin,rv,out⟩:=om (args:=[]) (f:=f) k.call k.mon.call hr hx hv (by rw[hc];simp) cs;rw[hc]at fin rv;exact⟨u,w',γ',hg',fin,rv,.inr ⟨he,out⟩⟩
noncomputable def sH{α:Type}(f:α->α->Bool):List α->List α->Bool
 |[],[]=>true
 |a::as,b::bs=>ak (f a b) (sH f as bs) false
 |_,_=>false
noncomputable def DM:Nat->AV->AV->Bool
 |0,_,_=>false
 | n+1,x,y=>match x with
  |.bool a=>match y with|.bool b=>ak a b (ju b)|_=>false
  |.int k a=>match y with|.int k' b=>ak (cZ k k') (AG a b) false|_=>false
  |.tup a=>match y with|.tup b=>sH (DM n) a b|_=>false
  |.agg a=>match y with|.agg b=>sH (DM n) a b|_=>false
  |.nilp=>match y with|.nilp=>true|_=>false
  |.nils=>match y with|.nils=>true|_=>false
  |.nilf=>match y with|.nilf=>true|_=>false
  |.nilm=>match y with|.nilm=>true|_=>false
  |.nili=>match y with|.nili=>true|_=>false
  |.esl=>match y with|.esl=>true|_=>false
  |.tsl t s r=>match y with|.tsl t' s' r'=>ak (Nat.beq t t'&&Nat.beq s s') (sH (sH (DM n)) r r') false|_=>false
  |.clo f a c=>match y with|.clo f' a' c'=>ak (Nat.beq f f') (ak (sH (DM n) a a') (sH (DM n) c c') false) false|_=>false
  |_=>false
theorem Aj{α:Type}{f:α->α->Bool}(hf:∀a b,f a b=true->a=b):∀{l l':List α},sH f l l'=true->l=l':=by
 intro l
 induction l with
 | nil=>intro l' h;cases l' with
  |nil=>rfl
  |cons b bs=>cases h
 | cons a as ih=>intro l' h;cases l' with
  |nil=>cases h
  | cons b bs =>
   simp only[sH,aa]at h
   split at h
   ·rename_i h1;rw[hf a b h1,ih h]
   ·cases h
theorem OX:∀(n:Nat) (x y:AV),DM n x y=true->x=y:=by
 intro n
 induction n with
 |zero=>intro x y h;cases h
 | succ n ih =>
  intro x y h;have l1:=λ{l l':List AV} (h:sH (DM n) l l'=true)=>Aj ih h;cases x<;>cases y<;>simp only[DM]at h<;>first| (cases h;done)|rfl|skip
  ·rename_i a b;cases a<;>cases b<;>first|rfl| (cases h;done)
  ·rename_i k a k' b;rw[aa]at h
   split at h
   ·rename_i hk;rw[mQ]at hk;rw[kV]at h;simp only[UD]at hk h;rw[hk,h]
   ·cases h
  ·rw[l1 h]
  ·rw[l1 h]
  ·rw[aa]at h
   split at h
   ·rename_i hk;simp only[Uk]at hk;rw[aB hk.1,aB hk.2,Aj (λa b h=>l1 h) h]
   ·cases h
  ·rw[aa]at h
   split at h
   ·rename_i hf;rw[aa]at h
    split at h
    ·rename_i ha;rw[aB hf,l1 ha,l1 h]
    ·cases h
   ·cases h
noncomputable def zd(as:List AV):List (List AV×AV)->Option AV
 |[]=>none
 |e::r=>ak (sH (DM an) e.1 as) (some e.2) (zd as r)
theorem Fy{as:List AV}{v:AV}:∀{l:List (List AV×AV)},zd as l=some v->(as,v)∈l:=by
 intro l
 induction l with
 |nil=>intro h;cases h
 | cons e r ih =>
  intro h;simp only[zd,aa]at h
  split at h
  ·rename_i he;injection h with h;have:=Aj (OX an) he;subst this;subst h;exact U9
  ·exact U6 _ (ih h)
noncomputable def l8(d:Nat):FR->Option AV
 |.fail=>none
 | .ok r g'=>match snap g'.h 0 an r with
  |none=>none
  | some r'=>match eN an r' with
   |none=>none
   |some m=>ak (Nat.blt m d) (some r') none
theorem FS{ih:IH}{d:Nat}{g:G}{f:Nat}{args as:List AV}{v:AV}(hs:aD (snap g.h d an) args=some as)(h:l8 d (ih.call (Nat.succ d) f as G.empty)=some v) :
  ac ih d g f args=.val v:=by
 unfold ac;rw[hs];dsimp only;cases hc:ih.call (Nat.succ d) f as G.empty with
 |fail=>rw[hc]at h;cases h
 | ok r g' =>
  rw[hc]at h;simp only[l8]at h;dsimp only;cases hs':snap g'.h 0 an r with
  |none=>rw[hs']at h;cases h
  | some r' =>
   rw[hs']at h;dsimp only at h ⊢;cases hm:eN an r' with
   |none=>rw[hm]at h;cases h
   | some m =>
    rw[hm]at h;dsimp only at h ⊢;cases hb:Nat.blt m d with
    |true=>rw[hb]at h;injection h with h;rw[h]
    |false=>rw[hb]at h;cases h
end Hx
end
namespace Hx
open Go
noncomputable section
variable {g g':G}{b d nt n x f c B i ti m:Nat}{t t':T}{v:AV}{P:Program}{rd:Option Nat}{df:List ADf}{C:Cfg}{tmps:Array Value}{body:SC}{Q:QT}{pm:List Nat}{assign:Code}{K:AV->G->Prop}{D:ADf->Prop}
section
variable {y:Nat}
def kR(J:PT)(b:Nat)(Q:QT):QT:=λe t df g=>match e with
 |.norm=>J t df g
 |.exit x=>if x=b then J t df g else Q (.exit x) t df g
 |.ret=>Q .ret t df g
theorem Ea(J:PT)(b:Nat)(Q:QT)(t:T)(df:List ADf)(g:G):kR J b Q .norm t df g=J t df g:=rfl
theorem oo(J:PT)(b x:Nat)(Q:QT)(t:T)(df:List ADf)(g:G):kR J b Q (.exit x) t df g=if x=b then J t df g else Q (.exit x) t df g:=rfl
theorem M8(J:PT)(b:Nat)(Q:QT)(t:T)(df:List ADf)(g:G):kR J b Q .ret t df g=Q .ret t df g:=rfl
variable {C:Cfg}{d:Nat}{rd:Option Nat}
theorem bO:∀(s:SC) {Q Q':QT} {t:T} {df:List ADf} {g:G},wp C d rd s Q t df g->(∀e t df g,Q e t df g->Q' e t df g)->wp C d rd s Q' t df g:=by
 have j:∀(l:List SI) {Q Q':PT} {t:T} {df:List ADf} {g:G},wpO C d rd l Q t df g->(∀t df g,Q t df g->Q' t df g)->wpO C d rd l Q' t df g:=by
  intro l
  induction l with
  |nil=>intro Q Q' t df g h hq;exact hq _ _ _ h
  | cons i r ih =>
   intro Q Q' t df g h hq;have run:∀t df g,pu C d rd i (wpO C d rd r Q) t df g->pu C d rd i (wpO C d rd r Q') t df g:=λt df g h =>
    OR.sat_mono h (λv g' h=>ih h hq) (λa h=>ih h hq)
   have skp:∀t df g,yE i (wpO C d rd r Q) t df g->yE i (wpO C d rd r Q') t df g:=λt df g h=>ih h hq;unfold wpO at h ⊢
   split at h
   ·exact run _ _ _ h
   ·rename_i s w hg;unfold gdP at h ⊢
    split at h
    ·rw[aa]at h ⊢
     split at h
     ·rename_i hw;rw[Un hw];exact⟨λq=>run _ _ _ (h.1 q),λq=>skp _ _ _ (h.2 q)⟩
     ·rename_i hw;rw[Um hw];exact⟨λq=>skp _ _ _ (h.1 q),λq=>run _ _ _ (h.2 q)⟩
    ·exact skp _ _ _ h
    ·exact h
 have m:∀(pm:List Nat) (l:List SI) {Q Q':PT} {t:T} {df:List ADf} {g:G} {fs:List Foot},wpF C d rd pm l Q t df g fs->(∀t df g,Q t df g->Q' t df g)->wpF C d rd pm l Q' t df g fs:=by
  intro pm l
  induction l with
  |nil=>intro Q Q' t df g fs h hq;exact⟨h.1,hq _ _ _ h.2⟩
  | cons i r ih =>
   intro Q Q' t df g fs h hq;have run:∀t df g,K_ C d rd i (wpF C d rd pm r Q) fs t df g->K_ C d rd i (wpF C d rd pm r Q') fs t df g:=λt df g h =>
    OR.sat_mono h (λv g' h=>ih h hq) (λa h=>h)
   have skp:∀t df g,GD i (wpF C d rd pm r Q) fs t df g->GD i (wpF C d rd pm r Q') fs t df g:=λt df g h=>ih h hq;unfold wpF at h ⊢
   split at h
   ·exact run _ _ _ h
   ·rename_i s w hg;unfold gdP at h ⊢
    split at h
    ·rw[aa]at h ⊢
     split at h
     ·rename_i hw;rw[Un hw];exact⟨λq=>run _ _ _ (h.1 q),λq=>skp _ _ _ (h.2 q)⟩
     ·rename_i hw;rw[Um hw];exact⟨λq=>skp _ _ _ (h.1 q),λq=>run _ _ _ (h.2 q)⟩
    ·exact skp _ _ _ h
    ·exact h
 intro s
 induction s with
 |skip=>intro Q Q' t df g h hq;exact hq _ _ _ _ h
 |ops l=>intro Q Q' t df g h hq;exact j l h (hq _)
 |quiet l=>intro Q Q' t df g h hq;exact j l h (λt df g' h=>⟨h.1,h.2.1,hq _ _ _ _ h.2.2⟩)
 |feet pm l=>intro Q Q' t df g h hq;exact m pm l h (hq _)
 | seq a b iha ihb =>
  intro Q Q' t df g h hq;refine iha h λe t df g h=>?_;cases e with
  |norm=>exact ihb h hq
  |exit x=>exact hq _ _ _ _ h
  |ret=>exact hq _ _ _ _ h
 | cond c a b iha ihb =>
  intro Q Q' t df g h hq;have h:wpC (c.get t) (wp C d rd a Q) (wp C d rd b Q) t df g:=h;show wpC (c.get t) (wp C d rd a Q') (wp C d rd b Q') t df g;unfold wpC at h ⊢
  split at h
  ·exact⟨λq=>iha (h.1 q) hq,λq=>ihb (h.2 q) hq⟩
  ·exact h
 | blk id b ih =>
  intro Q Q' t df g h hq;refine ih h λe t df g h=>?_;cases e with
  |norm=>exact hq _ _ _ _ h
  | exit x =>
   rw[kX]at h ⊢
   split at h
   ·rename_i e;rw[Un e];exact hq _ _ _ _ h
   ·rename_i e;rw[Um e];exact hq _ _ _ _ h
  |ret=>exact hq _ _ _ _ h
 | loop b ih =>
  intro Q Q' t df g h hq;obtain⟨Inv,hk,hs⟩:=h;refine⟨Inv,hk,λk t df g hi=>ih (hs k t df g hi) λe t df g h=>?_⟩;cases e with
  |norm=>exact h
  |exit x=>exact hq _ _ _ _ h
  |ret=>exact hq _ _ _ _ h
 |exit id=>intro Q Q' t df g h hq;exact hq _ _ _ _ h
 |ret=>intro Q Q' t df g h hq;exact hq _ _ _ _ h
 |rng nt f ps a b _ _=>intro Q Q' t df g h hq assign body ha hb;exact CR.sat_mono (h assign body ha hb) hq
 |raw nt c=>intro Q Q' t df g h hq;exact CR.sat_mono h hq
theorem aV{tn k:Nat}(hm:m<9223372036854775808)(J:Nat->PT)
  (h0:J 0 t df g) (hi:tat t ti=.int .i64 0) (hn:tat t tn=.int .i64 (m:Int)) (hc:c≠ti/\c≠tn/\k≠tn/\ti≠tn/\b≠B)
  (hJ:∀j t df g v s,s=c\/s=ti\/s=k->J j t df g->J j (fe t s v) df g)
  (step:∀j t df g,j<m->J j t df g->tat t ti=.int .i64 (j:Int)->tat t tn=.int .i64 (m:Int) ->
   wp C d rd body (kR (λt df g=>J (j+1) t df g/\tat t ti=.int .i64 (j:Int)/\tat t tn=.int .i64 (m:Int)) b Q) t df g)
  (fin:∀t df g,J m t df g->Q (.exit B) t df g) :
  wpL (wp C d rd (.seq (.ops [o c (.bin .lss (.t ti) (.t tn))]) (.seq (.cond (.t c) .skip (.exit B)) (.seq (.blk b body) (.ops [o k (.bin .add (.t ti) (.k (.int .i64 1))),o ti (.mv (.t k))]))))) Q t df g:=by
 obtain⟨c1,i,l,p,q⟩:=hc;refine pC (λn t df g=>∃j:Nat,n=m - j/\j<=m/\J j t df g/\tat t ti=.int .i64 (j:Int)/\tat t tn=.int .i64 (m:Int)) m ⟨0,by omega,by omega,h0,hi,hn⟩ ?_;rintro n t df g ⟨j,rfl,r,a,h1,h2⟩;simp only[sx,SO.run,↓reduceIte,h1,h2];refine⟨λhq=>?_,λhq=>?_⟩
 ·have hlt:j<m:=by simpa using hq
  simp only[sx];refine bO _ (step j _ df g hlt (hJ _ _ _ _ _ _ (.inl rfl) a) (by simp only[fy];rw[Um (VC c1),h1]) (by simp only[fy];rw[Um (VC i),h2])) λe t df g h=>?_;have key:J (j+1) t df g/\tat t ti=.int .i64 (j:Int)/\tat t tn=.int .i64 (m:Int)->wp C d rd (.ops [o k (.bin .add (.t ti) (.k (.int .i64 1))),o ti (.mv (.t k))])
    (kL (λn t df g=>∃j:Nat,n=m - j/\j<=m/\J j t df g/\tat t ti=.int .i64 (j:Int)/\tat t tn=.int .i64 (m:Int)) (m - j) Q) t df g:=by
   rintro⟨a1,a2,f⟩;simp only[sx,SO.run,a2,↓reduceIte];refine⟨_,?_,j+1,rfl,by omega,hJ _ _ _ _ _ _ (.inr (.inl rfl)) (hJ _ _ _ _ _ _ (.inr (.inr rfl)) a1),?_,?_⟩
   ·omega
   ·rw[aE (by omega) (by omega)];rfl
   ·rw[Um (VC p),Um (VC l),f]
  cases e with
  |norm=>exact key h
  |ret=>exact h
  | exit x =>
   rw[oo]at h;rw[kX]
   split at h
   ·rename_i e;rw[Un e];exact key h
   ·rename_i e;rw[Um e];exact h
 ·have:j=m:=by simp at hq;omega
  subst this;simp only[sx];exact fin _ _ _ (hJ _ _ _ _ _ _ (.inl rfl) a)
theorem xn{Hd inc:SC}(J:Nat->PT)(h0:J 0 t df g)
  (hd:∀j t df g,j<=m->J j t df g->wp C d rd Hd (λe t df g=>e=.norm/\tat t c=.bool (decide (j<m))/\J j t df g) t df g)
  (step:∀j t df g,j<m->J j t df g->wp C d rd body (kR (λt df g=>wp C d rd inc (λe t df g=>e=.norm/\J (j+1) t df g) t df g) b Q) t df g)
  (fin:∀t df g,J m t df g->Q (.exit B) t df g) :
  wpL (wp C d rd (.seq (.seq Hd (.cond (.t c) .skip (.exit B))) (.seq (.blk b body) inc))) Q t df g:=by
 refine pC (λn t df g=>∃j:Nat,n=m - j/\j<=m/\J j t df g) m ⟨0,by omega,by omega,h0⟩ ?_;rintro n t df g ⟨j,rfl,a,k⟩;simp only[dU];refine bO _ (hd j t df g a k) ?_;rintro e t df g ⟨rfl,hq,k⟩;simp only[sx,hq];refine⟨λhq=>?_,λhq=>?_⟩
 ·have hlt:j<m:=by simpa using hq
  simp only[sx];refine bO _ (step j t df g hlt k) λe t df g h=>?_;have key:wp C d rd inc (λe t df g=>e=.norm/\J (j+1) t df g) t df g->wp C d rd inc (kL (λn t df g=>∃j:Nat,n=m - j/\j<=m/\J j t df g) (m - j) Q) t df g:=by intro h;refine bO _ h ?_;rintro e t df g ⟨rfl,h⟩;exact⟨_,by omega,j+1,rfl,by omega,h⟩
  cases e with
  |norm=>exact key h
  |ret=>exact h
  | exit x =>
   rw[oo]at h;rw[kX]
   split at h
   ·rename_i e;rw[Un e];exact key h
   ·rename_i e;rw[Um e];exact h
 ·have:j=m:=by simp at hq;omega
  subst this;simp only[sx];exact fin _ _ _ k
theorem JU{a b' e sl:Nat}(hm:m<9223372036854775808)(hlen:∀g,jC .slice v g=.val (.int .i64 (m:Int)))(J:Nat->PT)
  (h0:J 0 t df g) (hi:tat t ti=.int .i64 0) (hs:tat t sl=v)
  (hc:(a≠ti/\b'≠ti/\e≠ti/\c≠ti)/\(a≠sl/\b'≠sl/\e≠sl/\c≠sl/\x≠sl/\y≠sl/\ti≠sl)/\a≠b'/\a≠e/\x≠y)
  (hJ:∀j t df g v s,s=a\/s=b'\/s=e\/s=c\/s=ti\/s=x\/s=y->J j t df g->J j (fe t s v) df g)
  (step:∀j t df g,j<m->J j t df g->tat t ti=.int .i64 (j:Int)->tat t sl=v ->
   wp C d rd body (kR (λt df g=>J (j+1) t df g/\tat t ti=.int .i64 (j:Int)/\tat t sl=v) b Q) t df g)
  (fin:∀t df g,J m t df g->tat t sl=v->Q (.exit B) t df g) :
  wpL (wp C d rd (.seq (.seq (.ops [o a (.mv (.t ti)),o b' (.mv (.t sl)),o e (.len .slice (.t b')),o c (.bin .lss (.t a) (.t e))]) (.cond (.t c) .skip (.exit B))) (.seq (.blk b body)
   (.ops [o x (.mv (.t ti)),o y (.bin .add (.t x) (.k (.int .i64 1))),o ti (.mv (.t y))])))) Q t df g:=by
 obtain⟨⟨q1,q2,q3,l⟩,⟨n,p,q,r,r5,u,w⟩,p1,p2,p3⟩:=hc;refine xn (m:=m) (λj t df g=>J j t df g/\tat t ti=.int .i64 (j:Int)/\tat t sl=v) ⟨h0,hi,hs⟩ ?_ ?_ (λt df g h=>fin t df g h.1 h.2.2)
 ·rintro j t df g i ⟨h1,h2,f⟩;simp only[sx,SO.run,h2,f,hlen,p1,p2,VC n,↓reduceIte,VC q1,VC q2,VC q3,VC l,VC p,VC q,VC r,true_and,and_true];refine⟨by congr 1;simp,hJ _ _ _ _ _ _ (.inr (.inr (.inr (.inl rfl)))) (hJ _ _ _ _ _ _ (.inr (.inr (.inl rfl))) (hJ _ _ _ _ _ _ (.inr (.inl rfl)) (hJ _ _ _ _ _ _ (.inl rfl) h1)))⟩
 ·rintro j t df g i ⟨h1,h2,f⟩;refine bO _ (step j t df g i h1 h2 f) λe t df g h=>?_;have key:J (j+1) t df g/\tat t ti=.int .i64 (j:Int)/\tat t sl=v->wp C d rd (.ops [o x (.mv (.t ti)),o y (.bin .add (.t x) (.k (.int .i64 1))),o ti (.mv (.t y))])
    (λe t df g=>e=.norm/\J (j+1) t df g/\tat t ti=.int .i64 ((j+1:Nat):Int)/\tat t sl=v) t df g:=by
   rintro⟨h1,h2,f⟩;simp only[sx,SO.run,h2,↓reduceIte,VC r5,VC u,VC w,f,true_and,and_true];refine⟨hJ _ _ _ _ _ _ (.inr (.inr (.inr (.inr (.inl rfl))))) (hJ _ _ _ _ _ _ (.inr (.inr (.inr (.inr (.inr (.inr rfl)))))) (hJ _ _ _ _ _ _ (.inr (.inr (.inr (.inr (.inr (.inl rfl)))))) h1)),?_⟩;rw[aE (by omega) (by omega)];rfl
  cases e with
  |norm=>exact key h
  |ret=>exact h
  | exit x =>
   rw[oo]at h ⊢
   split at h
   ·rename_i e;rw[Un e];exact key h
   ·rename_i e;rw[Um e];exact h
theorem Oq{a:Nat}(hm:m<9223372036854775808)(J:Nat->PT)
  (h0:J m t df g) (hi:tat t ti=.int .i64 ((m:Int) - 1)) (hc:a≠ti/\c≠ti/\x≠ti)
  (hJ:∀j t df g v s,s=a\/s=c\/s=ti\/s=x\/s=y->J j t df g->J j (fe t s v) df g)
  (step:∀j t df g,j<m->J (j+1) t df g->tat t ti=.int .i64 (j:Int)->wp C d rd body (kR (λt df g=>J j t df g/\tat t ti=.int .i64 (j:Int)) b Q) t df g)
  (fin:∀t df g,J 0 t df g->Q (.exit B) t df g) :
  wpL (wp C d rd (.seq (.seq (.ops [o a (.mv (.t ti)),o c (.bin .geq (.t a) (.k (.int .i64 0)))]) (.cond (.t c) .skip (.exit B))) (.seq (.blk b body)
   (.ops [o x (.mv (.t ti)),o y (.bin .sub (.t x) (.k (.int .i64 1))),o ti (.mv (.t y))])))) Q t df g:=by
 obtain⟨c1,i,l⟩:=hc;refine pC (λn t df g=>n<=m/\J n t df g/\tat t ti=.int .i64 ((n:Int) - 1)) m ⟨Ui _,h0,hi⟩ ?_;rintro n t df g ⟨p,f,h1⟩;simp only[sx,SO.run,↓reduceIte,h1];refine⟨λhq=>?_,λhq=>?_⟩
 ·obtain⟨j,rfl⟩:∃j,n=j+1:=⟨n - 1,by simp at hq;omega⟩;simp only[sx];refine bO _ (step j _ df g (by omega) (hJ _ _ _ _ _ _ (.inr (.inl rfl)) (hJ _ _ _ _ _ _ (.inl rfl) f)) (by simp only[fy];rw[Um (VC i),Um (VC c1),h1];congr 1;omega)) λe t df g h=>?_;have key:J j t df g/\tat t ti=.int .i64 (j:Int)->wp C d rd (.ops [o x (.mv (.t ti)),o y (.bin .sub (.t x) (.k (.int .i64 1))),o ti (.mv (.t y))])
    (kL (λn t df g=>n<=m/\J n t df g/\tat t ti=.int .i64 ((n:Int) - 1)) (j+1) Q) t df g:=by
   rintro⟨a1,a2⟩;simp only[sx,SO.run,a2,↓reduceIte];refine⟨j,by omega,by omega,hJ _ _ _ _ _ _ (.inr (.inr (.inl rfl))) (hJ _ _ _ _ _ _ (.inr (.inr (.inr (.inr rfl)))) (hJ _ _ _ _ _ _ (.inr (.inr (.inr (.inl rfl)))) a1)),?_⟩;rw[aE (by omega) (by omega)]
  cases e with
  |norm=>exact key h
  |ret=>exact h
  | exit x =>
   rw[oo]at h;rw[kX]
   split at h
   ·rename_i e;rw[Un e];exact key h
   ·rename_i e;rw[Um e];exact h
 ·have:n=0:=by simp at hq;omega
  subst this;simp only[sx];exact fin _ _ _ (hJ _ _ _ _ _ _ (.inr (.inl rfl)) (hJ _ _ _ _ _ _ (.inl rfl) f))
theorem im{Hd:List SI}(m:Nat)(hm:m<9223372036854775808)(J:Nat->PT)
  (h0:J 0 t df g) (hi:tat t ti=.int .i64 0) (hx:x≠ti)
  (hJ:∀j t df g v s,s=ti\/s=x\/s=y->J j t df g->J j (fe t s v) df g)
  (hd:∀j t df g,j<=m->J j t df g->tat t ti=.int .i64 (j:Int)->wpO C d rd Hd (λt df g=>tat t c=.bool (decide ((j:Int)<(m:Int)))/\J j t df g/\tat t ti=.int .i64 (j:Int)) t df g)
  (step:∀j t df g,j<m->J j t df g->tat t ti=.int .i64 (j:Int)->wp C d rd body (kR (λt df g=>J (j+1) t df g/\tat t ti=.int .i64 (j:Int)) b Q) t df g)
  (fin:∀t df g,J m t df g->Q (.exit B) t df g) :
  wpL (wp C d rd (.seq (.seq (.ops Hd) (.cond (.t c) .skip (.exit B))) (.seq (.blk b body)
   (.ops [o x (.mv (.t ti)),o y (.bin .add (.t x) (.k (.int .i64 1))),o ti (.mv (.t y))])))) Q t df g:=by
 refine xn (m:=m) (λj t df g=>J j t df g/\tat t ti=.int .i64 (j:Int)) ⟨h0,hi⟩ ?_ ?_ (λt df g h=>fin t df g h.1)
 ·rintro j t df g a ⟨h1,h2⟩;have:=hd j t df g a h1 h2;refine bO (.ops Hd) (Q:=λe t df g=>e=.norm/\tat t c=.bool (decide ((j:Int)<(m:Int)))/\J j t df g/\tat t ti=.int .i64 (j:Int)) (by rw[BB];simpa using this) ?_;rintro e t df g ⟨rfl,a1,a2,f⟩;refine⟨rfl,?_,a2,f⟩;rw[a1];congr 1;simp
 ·rintro j t df g a ⟨h1,h2⟩;refine bO _ (step j t df g a h1 h2) λe t df g h=>?_;have key:J (j+1) t df g/\tat t ti=.int .i64 (j:Int)->wp C d rd (.ops [o x (.mv (.t ti)),o y (.bin .add (.t x) (.k (.int .i64 1))),o ti (.mv (.t y))])
    (λe t df g=>e=.norm/\J (j+1) t df g/\tat t ti=.int .i64 ((j+1:Nat):Int)) t df g:=by
   rintro⟨h1,h2⟩;simp only[sx,SO.run,h2,↓reduceIte,true_and];refine⟨hJ _ _ _ _ _ _ (.inl rfl) (hJ _ _ _ _ _ _ (.inr (.inr rfl)) (hJ _ _ _ _ _ _ (.inr (.inl rfl)) h1)),?_⟩;rw[aE (by omega) (by omega)];rfl
  cases e with
  |norm=>exact key h
  |ret=>exact h
  | exit x =>
   rw[oo]at h ⊢
   split at h
   ·rename_i e;rw[Un e];exact key h
   ·rename_i e;rw[Um e];exact h
end
def vid:AV->Option Nat
 |.hsl id _ _ _ _=>some id
 |_=>none
def Own(g:G)(b:Nat)(v:AV)(sz:Nat)(rows:List (List AV)):Prop :=
 (v=.nils/\rows=[])\/∃id ep lo,b<=id/\id<g.nx/\v=.hsl id ep 0 rows.length none/\g.h.get id=.cells sz rows ep lo false
theorem Own.rows{g:G}{b:Nat}{v:AV}{sz:Nat}{rows:List (List AV)}(h:Own g b v sz rows):ah g.h sz v=some rows:=by
 rcases h with⟨rfl,rfl⟩|⟨id,ep,lo,h1,h2,rfl,k⟩
 ·rfl
 ·rw[kC,k,FL]
theorem Own.fr{g:G}{sz:Nat}{rows:List (List AV)}(h:Own g b v sz rows)(hn:g.nx<=g'.nx)(hf:∀i,vid v=some i->g'.h.get i=g.h.get i):Own g' b v sz rows:=by
 rcases h with h|⟨id,ep,lo,h1,h2,rfl,k⟩
 ·exact .inl h
 ·exact .inr ⟨id,ep,lo,h1,by omega,rfl,by rw[hf id rfl,k]⟩
theorem Own.lt{g:G}{sz:Nat}{rows:List (List AV)}(h:Own g b v sz rows)(hi:vid v=some i):b<=i/\i<g.nx:=by
 rcases h with⟨rfl,-⟩|⟨id,ep,lo,h1,h2,rfl,k⟩
 ·cases hi
 ·injection hi with hi;subst hi;exact⟨h1,h2⟩
theorem Own.cell{g:G}{sz:Nat}{rows:List (List AV)}(h:Own g b v sz rows):v.cells=[v]/\v.isTup=false:=by rcases h with⟨rfl,-⟩|⟨id,ep,lo,h1,h2,rfl,k⟩<;>exact⟨rfl,rfl⟩
theorem dS{g:G}{x:AV}{sz bytes:Nat}{rows new:List (List AV)}(hv:Own g b v sz rows)(hx:ah g.h sz x=some new)(hb:b<=g.nx)
  (hr:(rows.length+new.length)*bytes<=bz)
  (k:∀v' g',Own g' b v' sz (rows++new)->g.nx<=g'.nx->(∀i,i<g.nx->vid v≠some i->g'.h.get i=g.h.get i)->(vid v'=vid v\/∃i,vid v'=some i/\g.nx<=i)->(∀i∈g'.lg,i∈g.lg\/b<=i)->K v' g') :
  (eS sz bytes v x g).sat K g D:=by
 unfold eS;rw[hx];dsimp only;rcases hv with⟨rfl,rfl⟩|⟨id,ep,lo,h1,h2,rfl,a⟩
 ·cases new with
  |nil=>exact k _ _ (.inl ⟨rfl,rfl⟩) (Ui _) (λ_ _ _=>rfl) (.inl rfl) (λi hi=>.inl hi)
  | cons r new =>
   simp only[bA,aq,aa,UR];rw[Un (by simpa using hr)];refine k _ _ (.inr ⟨g.nx,0,true,hb,by simp,rfl,by simp[bg]⟩) (by simp) (λi hi _=>?_) (.inr ⟨g.nx,rfl,Ui _⟩) (λi hi=>by simp at hi;rcases hi with rfl|hi;exact .inr hb;exact .inl hi);rw[G.new_h,aL _ _ _ (by omega)]
 ·simp only[bA,G.get_eq,a,aq,aa,show Nat.beq ep ep=true from UT ep,show Nat.beq sz sz=true from UT sz,Vd,UR,Uk,UU,WS,WJ];rw[Un ⟨Ui _,hr⟩];cases new with
  | nil =>
   rw[Un (by simp)];refine k _ _ (.inr ⟨id,ep,lo,h1,h2,by simp,by simpa using a⟩) (Ui _) (λ_ _ _=>rfl) (.inl rfl) (λi hi=>.inl hi)
  | cons r new =>
   rw[Um (by simp)];have ht:jB rows.length (iA 0 rows)=rows:=by rw[bk,bh];simp
   cases lo with
   | false =>
    rw[Un (by simp)];refine k _ _ (.inr ⟨g.nx,0,true,by omega,by simp,by simp,by simp[bg,ht]⟩) (by simp) (λi hi _=>?_) (.inr ⟨g.nx,rfl,Ui _⟩) (λi hi=>by simp at hi;rcases hi with rfl|hi;exact .inr hb;exact .inl hi);rw[G.new_h,aL _ _ _ (by omega)]
   | true =>
    rw[Um (by simp)];refine k _ _ (.inr ⟨id,ep+1,true,h1,by simpa using h2,by simp,by simp[bg,ht]⟩) (by simp) (λi hi hne=>?_) (.inl rfl) (λi hi=>by simp at hi;rcases hi with rfl|hi;exact .inr h1;exact .inl hi);rw[G.put_h,aL _ _ _ (λe=>hne (by rw[e];rfl))]
def Fr(g g':G):Prop:=g.nx<=g'.nx/\∀i,i<g.nx->g'.h.get i=g.h.get i
theorem Fr.refl(g:G):Fr g g:=⟨Ui _,λ_ _=>rfl⟩
theorem Fr.trans{g g'':G}(h:Fr g g')(h':Fr g' g''):Fr g g'':=⟨Uy h.1 h'.1,λi hi=>by rw[h'.2 i (UI hi h.1),h.2 i hi]⟩
theorem Fr.new(g:G)(o:AObj):Fr g (g.new o):=⟨by simp,λi hi=>by rw[G.new_h,aL _ _ _ (by omega)]⟩
theorem Own.step{g:G}{sz:Nat}{rows:List (List AV)}(h:Own g b v sz rows)(f:Fr g g'):Own g' b v sz rows :=
 h.fr f.1 λi hi=>f.2 i (h.lt hi).2
theorem K9{g:G}{sz:Nat}(f:Fr g g')(hv:∀i,vid v=some i->i<g.nx):ah g'.h sz v=ah g.h sz v :=
 tX λid ep off len lim e=>by subst e;exact f.2 id (hv id rfl)
theorem cP{g:G}{sz off:Nat}{rows:List (List AV)}{row row':List AV}{x:AV}(hv:Own g b v sz rows)(hr:rows[i]?=some row)
  (hl:x.cells.length=n) (ht:x.isTup=false) (hp:cH row off x.cells=some row')
  (k:∀g',Own g' b v sz (rows.set i row')->g'.nx=g.nx->(∀i,vid v≠some i->g'.h.get i=g.h.get i)->K .undef g'):(nO n (nZ sz v i off) x g).sat K g D:=by
 rcases hv with⟨rfl,rfl⟩|⟨id,ep,lo,h1,h2,rfl,a⟩
 ·simp at hr
 ·simp only[nZ,UU];rw[Bo a hr rfl ht hl hp];refine k _ (.inr ⟨id,ep,lo,h1,by simpa using h2,by simp,by simp[bg]⟩) (by simp) (λi hne=>?_);rw[G.put_h,aL _ _ _ (λe=>hne (by rw[e];rfl))]
theorem wU{g:G}{sz bytes:Nat}{zero:List AV}{k1 k2:IntKind}(hn:n<=bz)(hb:n*bytes<=bz)(hg:b<=g.nx)
  (k:∀v' g',Own g' b v' sz (List.replicate n zero)->g'.nx=g.nx+1->(∀i,i<g.nx->g'.h.get i=g.h.get i)->vid v'=some g.nx->K v' g') :
  (HF sz bytes zero (.int k1 (n:Int)) (.int k2 (n:Int)) g).sat K g D:=by
 show (match dN bz (.int k2 (.ofNat n)) with
  | some cn=>match dN cn (.int k1 (.ofNat n)) with
   |some ln=>ak (Nat.ble (cn*bytes) bz) (OR.upd (.hsl g.nx 0 0 ln none) (g.new (Xs sz (ib cn zero)))) .fail
   |none=>.fail
  |none=>.fail).sat K g D
 simp only[dN,aa,UR,Un hn,Ui,Un hb,if_true];refine k _ _ (.inr ⟨g.nx,0,false,hg,by simp,by simp,by simp[bg,ib]⟩) (by simp) (λi hi=>?_) rfl;rw[G.new_h,aL _ _ _ (by omega)]
theorem Own.sl{α:Type} [Rp α]{g:G}{rows:List (List AV)}{l:List α}{P:Nat->Prop}{k:Nat}(h:Own g b v (Rp.sz α) rows)(hl:l.length<9223372036854775808)(hr:All2 (Rp.rp P k g.h) l rows)
  (hp:∀i,vid v=some i->P i):SlR P k g.h l v:=by
 refine⟨hl,?_⟩;have a:=h.rows;rcases h with⟨rfl,rfl⟩|⟨id,ep,lo,h1,h2,rfl,c⟩
 ·exact UJ hr.len
 ·exact⟨hp id rfl,rows,a,hr⟩
theorem Own.ints{g:G}{l:List Int}{k:Nat}(h:Own g b v 1 (l.map ci))(hl:l.length<9223372036854775808):One l (λ_=>True) k g.h v :=
 ⟨v,rfl,Own.sl (α:=Int) h hl (Sx (λa=>ax.2 rfl) l) λ_ _=>trivial⟩
theorem dE{x:OR}{Q:AV->Prop}{g:G}(h:∃r,x=.val r/\Q r)(k:∀r,Q r->K r g):x.sat K g D:=by obtain⟨r,rfl,hr⟩:=h;exact k r hr
section feet
variable {C:Cfg}{d:Nat}{rd:Option Nat}{pm:List Nat}
theorem JT(Q:PT)(t:T)(df:List ADf)(g:G)(fs:List Foot):wpF C d rd pm [] Q t df g fs=(jt pm fs.reverse=true/\Q t df g):=rfl
theorem QQ(n:Nat)(op:SO)(r:List SI)(Q:PT)(t:T)(df:List ADf)(g:G)(fs:List Foot):wpF C d rd pm (o n op::r) Q t df g fs =
  (op.run C d rd t (aR g [])).sat (kF (wpF C d rd pm r Q) (some n) t df g.lg fs (op.foot C t g)) (aR g []) (λ_=>False):=rfl
theorem Oo(op:SO)(r:List SI)(Q:PT)(t:T)(df:List ADf)(g:G)(fs:List Foot):wpF C d rd pm (oz op::r) Q t df g fs =
  (op.run C d rd t (aR g [])).sat (kF (wpF C d rd pm r Q) none t df g.lg fs (op.foot C t g)) (aR g []) (λ_=>False):=rfl
theorem On(n s:Nat)(w:Bool)(op:SO)(r:List SI)(Q:PT)(t:T)(df:List ADf)(g:G)(fs:List Foot) :
  wpF C d rd pm (og n s w op::r) Q t df g fs=gdP (tat t s) w (K_ C d rd (o n op) (wpF C d rd pm r Q) fs) (GD (o n op) (wpF C d rd pm r Q) fs) t df g:=rfl
theorem NZ(n:Nat)(op:SO)(W:FT)(fs:List Foot)(t:T)(df:List ADf)(g:G):K_ C d rd (o n op) W fs t df g =
  (op.run C d rd t (aR g [])).sat (kF W (some n) t df g.lg fs (op.foot C t g)) (aR g []) (λ_=>False):=rfl
theorem JL(n:Nat)(op:SO)(W:FT)(fs:List Foot)(t:T)(df:List ADf)(g:G):GD (o n op) W fs t df g=W (fe t n .undef) df g (⟨aA,[]⟩::fs):=rfl
theorem I3(W:FT)(n:Nat)(t:T)(df:List ADf)(lg:List Nat)(fs:List Foot)(lk:Looks)(v:AV)(g:G):kF W (some n) t df lg fs lk v g=W (fe t n v) df (od g (g.lg++lg)) (⟨lk,g.lg⟩::fs):=rfl
theorem IZ(W:FT)(t:T)(df:List ADf)(lg:List Nat)(fs:List Foot)(lk:Looks)(v:AV)(g:G):kF W none t df lg fs lk v g=W t df (od g (g.lg++lg)) (⟨lk,g.lg⟩::fs):=rfl
theorem tT(id ep i off:Nat):af (.hptr id ep i off)=[id]:=rfl
end feet
section looks
variable {C:Cfg}{t:T}{g:G}
theorem Qn(x:Od):SO.foot C t g (.mv x)=aA:=rfl
theorem IQ(c a b:Od):SO.foot C t g (.pick c a b)=aA:=rfl
theorem FC(cs:List AV):SO.foot C t g (.alloc cs)=aA:=rfl
theorem Mu(x:Od):SO.foot C t g (.box x)=aA:=rfl
theorem FD(z:List AV)(pl:List (Nat×Nat))(vs:List Od):SO.foot C t g (.build z pl vs)=aA:=rfl
theorem Mv(sz len:Nat)(z:List AV)(is:List Nat)(vs:List Od):SO.foot C t g (.bsl sz len z is vs)=aA:=rfl
theorem IN(ag:Bool)(n:Nat)(a:Od):SO.foot C t g (.load ag n a)=am (af (a.get t)):=rfl
theorem FF(n:Nat)(a x:Od):SO.foot C t g (.store n a x)=am (af (a.get t)):=rfl
theorem IP(x:Od):SO.foot C t g (.nilc x)=aA:=rfl
theorem Mt(op:BinOp)(x y:Od):SO.foot C t g (.bin op x y)=aA:=rfl
theorem Qk(ng:Bool)(ek:EqKind)(x y:Od):SO.foot C t g (.eq ng ek x y)=aA:=rfl
theorem MH(x:Od):SO.foot C t g (.not x)=aA:=rfl
theorem IM(k:IntKind)(x:Od):SO.foot C t g (.conv k x)=aA:=rfl
theorem MF(f:Nat)(a c:List Od):SO.foot C t g (.mkf f a c)=aA:=rfl
theorem MG(sz bt:Nat)(z:List AV)(l c:Od):SO.foot C t g (.mks sz bt z l c)=aA:=rfl
theorem MJ(sz:Nat)(x:Od)(lo hi:List Od):SO.foot C t g (.slc sz x lo hi)=am (af (x.get t)):=rfl
theorem My(fo:Nat)(x:Od):SO.foot C t g (.fad fo x)=aA:=rfl
theorem Mz(ag:Bool)(n fo:Nat)(x:Od):SO.foot C t g (.fld ag n fo x)=aA:=rfl
theorem MB(sz:Nat)(x i:Od):SO.foot C t g (.ixs sz x i)=am (af (x.get t)):=rfl
theorem MA(n sz:Nat)(x i:Od):SO.foot C t g (.ixa n sz x i)=aA:=rfl
theorem Ql(ag:Bool)(n sz:Nat)(x i:Od):SO.foot C t g (.ix ag n sz x i)=aA:=rfl
theorem Mx(x:Od)(i:Nat):SO.foot C t g (.ext x i)=aA:=rfl
theorem MC(x:Od):SO.foot C t g (.len .slice x)=aA:=rfl
theorem Ms(sz bt:Nat)(x y:Od):SO.foot C t g (.app sz bt x y)=am (af (x.get t)++af (y.get t)):=rfl
theorem Mw(sz:Nat)(x y:Od):SO.foot C t g (.cpy sz x y)=am (af (x.get t)++af (y.get t)):=rfl
theorem Qo(x y:Od):SO.foot C t g (.mx x y)=am (af (x.get t)++af (y.get t)):=rfl
theorem Qm(x y:Od):SO.foot C t g (.mn x y)=am (af (x.get t)++af (y.get t)):=rfl
end looks
theorem sf:type_of% (Uf @Qn <|Uf @IQ <|Uf @FC <|Uf @Mu <|Uf @FD <|Uf @Mv <|Uf @IN <|Uf @FF <|Uf @IP <|Uf @Mt <|Uf @Qk <|Uf @MH <|Uf @IM <|Uf @MF <|Uf @MG <|Uf @MJ <|Uf @My <|Uf @Mz <|Uf @MB <|Uf @MA <|Uf @Ql <|Uf @Mx <|Uf @MC <|Uf @Ms <|Uf @Mw <|Uf @Qo <|@Qm) :=
 Uf @Qn <|Uf @IQ <|Uf @FC <|Uf @Mu <|Uf @FD <|Uf @Mv <|Uf @IN <|Uf @FF <|Uf @IP <|Uf @Mt <|Uf @Qk <|Uf @MH <|Uf @IM <|Uf @MF <|Uf @MG <|Uf @MJ <|Uf @My <|Uf @Mz <|Uf @MB <|Uf @MA <|Uf @Ql <|Uf @Mx <|Uf @MC <|Uf @Ms <|Uf @Mw <|Uf @Qo <|@Qm
theorem Cs(k:IntKind)(x:Int):(AV.int k x).cells=[.int k x]:=rfl
theorem zW(x:Bool):(AV.bool x).cells=[.bool x]:=rfl
theorem xJ(cs:List AV):(AV.agg cs).cells=cs:=rfl
theorem zX:AV.nils.cells=[.nils]:=rfl
theorem CT(k:IntKind)(x:Int):(AV.int k x).isTup=false:=rfl
theorem AK(x:Bool):(AV.bool x).isTup=false:=rfl
theorem xR(cs:List AV):(AV.agg cs).isTup=false:=rfl
theorem AL:AV.nils.isTup=false:=rfl
theorem Cr(id ep off len:Nat)(lim:Option Nat):(AV.hsl id ep off len lim).cells=[.hsl id ep off len lim]:=rfl
theorem CS(id ep off len:Nat)(lim:Option Nat):(AV.hsl id ep off len lim).isTup=false:=rfl
theorem Cu(t s:Nat)(rows:List (List AV)):(AV.tsl t s rows).cells=[.tsl t s rows]:=rfl
theorem CU(t s:Nat)(rows:List (List AV)):(AV.tsl t s rows).isTup=false:=rfl
theorem GZ(x:AV)(g:G)(h:x.isTup=false):EX x g=.upd (.hptr g.nx 0 0 0) (g.new (Xs x.cells.length [x.cells])):=by simp only[EX,h,aq]
theorem Iz(sz:Nat)(zero:List AV)(g:G):ON sz 0 zero [] [] g=.upd (.hsl g.nx 0 0 0 none) (g.new (Xs sz [])):=rfl
theorem wu(sz:Nat)(zero:List AV)(v:AV)(g:G)(hl:v.cells.length=sz)(ht:v.isTup=false) :
  ON sz 1 zero [0] [v] g=.upd (.hsl g.nx 0 0 1 none) (g.new (Xs sz [v.cells])):=by
 subst hl;have:Nat.beq (bi v.cells) v.cells.length=true:=by rw[aq];exact UT _
 have h2:gY v.cells.length [zero] [(0,v)]=some [v.cells]:=by simp only[gY,ht,aa,aq,il,notb_eq];rw[show Nat.beq v.cells.length v.cells.length=true from UT _];rfl
 show (match gY v.cells.length [zero] [(0,v)] with|some rows=>OR.upd (.hsl g.nx 0 0 1 none) (g.new (Xs v.cells.length rows))|none=>.fail)=_;rw[h2]
theorem dP(row:List AV)(off:Nat)(cs:List AV):cH row off cs=if off+cs.length<=row.length then some (row.take off++(cs++row.drop (off+cs.length))) else none:=by
 simp only[cH,aq,aa,UR,il,bk,bh]
 split
 ·rename_i h
  split
  ·rename_i c;simp only[List.length_singleton]at h;rw[List.set_eq_take_append_cons_drop,Un (by omega)];rfl
  ·rfl
 ·rfl
theorem Qe(a:AV)(l:List AV):Hh (.tup (a::l)) 0=.val a:=rfl
theorem Qg(a b:AV)(l:List AV):Hh (.tup (a::b::l)) 1=.val b:=rfl
theorem Qh(a b c:AV)(l:List AV):Hh (.tup (a::b::c::l)) 2=.val c:=rfl
theorem Mr(ag:Bool)(n fo:Nat)(cs:List AV):Rf ag n fo (.agg cs)=orV (ch ag n cs fo):=rfl
theorem C4{row:List AV}{off:Nat}:ch true (n+1) row off=if off+(n+1)<=row.length then some (.agg ((row.drop off).take (n+1))) else none:=by
 split
 ·rename_i h;exact NF h
 ·rename_i h;simp only[ch,bk,bh,aq,U0,WQ,aa];rw[Um];intro e;have:=Vj e;omega
theorem EY(zero:List AV)(pl:List (Nat×Nat))(vs:List AV):vy zero pl vs=match eF zero (pl.zip vs) with|some cs=>.val (.agg cs)|none=>.fail:=rfl
theorem CM(cs:List AV):eF cs []=some cs:=rfl
theorem Au(cs:List AV)(off size:Nat)(v:AV)(rest:List ((Nat×Nat)×AV))(hl:v.cells.length=size)(ht:v.isTup=false) :
  eF cs (((off,size),v)::rest)=match cH cs off v.cells with|some cs=>eF cs rest|none=>none:=by
 subst hl;have:Nat.beq (bi v.cells) v.cells.length=true:=by rw[aq];exact UT _
 simp only[eF,this,ht,notb_eq,Wy,Wn]
 rfl
theorem NO(ag:Bool)(n a:Nat)(r:List SR)(t:T)(g:G)(K:List AV->Prop):v8 (.cell ag n a::r) t g K=match qh ag n (tat t a) g with|.val v=>v8 r t g λvs=>K (v::vs)|_=>False:=rfl
theorem qW(a b:AV)(l:List AV):jv (a::b::l)=.tup (a::b::l):=rfl
theorem sy:type_of% (Uf @EY <|Uf @CM <|Uf @Au <|Uf @NO <|Uf @Wk.{0,0} <|Uf @List.zip_nil_left.{0,0} <|Uf @JT <|Uf @QQ <|Uf @Oo <|Uf @On <|Uf @NZ <|Uf @JL <|Uf @I3 <|Uf @IZ <|Uf @bumpG_h <|Uf @bumpG_nx <|Uf @bumpG_lg <|Uf @true_and <|Uf @and_true <|Uf @Ea <|Uf @oo <|Uf @M8 <|Uf @setLog_h <|Uf @setLog_nx <|Uf @setLog_lg <|Uf @Qu <|Uf @Cs <|Uf @zW <|Uf @xJ <|Uf @zX <|Uf @CT <|Uf @AK <|Uf @xR <|Uf @AL <|
 Uf @Cr <|Uf @CS <|Uf @Cu <|Uf @CU <|Uf @GZ <|Uf @Iz <|Uf @wu <|Uf @dP <|Uf @Qe <|Uf @Qg <|Uf @Qh <|
 Uf @Mr <|Uf @C4 <|Uf @qW <|Uf @rP <|Uf @aq <|Uf @UX.{0} <|Uf @V8.{0} <|Uf @Xb.{0} <|
 Uf @Xn.{0} <|Uf @W_.{0} <|Uf @WA.{0} <|Uf @UE.{0} <|Uf @UM.{0} <|Uf @Ux.{0} <|Uf @Wa.{0} <|Uf @Xi.{0} <|
 Uf @UU <|Uf @SD <|Uf @kC <|Uf @fB <|Uf @yA <|@q_) :=
 Uf @EY <|Uf @CM <|Uf @Au <|Uf @NO <|Uf @Wk.{0,0} <|Uf @List.zip_nil_left.{0,0} <|Uf @JT <|Uf @QQ <|Uf @Oo <|Uf @On <|Uf @NZ <|Uf @JL <|Uf @I3 <|Uf @IZ <|Uf @bumpG_h <|Uf @bumpG_nx <|Uf @bumpG_lg <|Uf @true_and <|Uf @and_true <|Uf @Ea <|Uf @oo <|Uf @M8 <|Uf @setLog_h <|Uf @setLog_nx <|Uf @setLog_lg <|Uf @Qu <|Uf @Cs <|Uf @zW <|Uf @xJ <|Uf @zX <|Uf @CT <|Uf @AK <|Uf @xR <|Uf @AL <|
 Uf @Cr <|Uf @CS <|Uf @Cu <|Uf @CU <|Uf @GZ <|Uf @Iz <|Uf @wu <|Uf @dP <|Uf @Qe <|Uf @Qg <|Uf @Qh <|
 Uf @Mr <|Uf @C4 <|Uf @qW <|Uf @rP <|Uf @aq <|Uf @UX.{0} <|Uf @V8.{0} <|Uf @Xb.{0} <|
 Uf @Xn.{0} <|Uf @W_.{0} <|Uf @WA.{0} <|Uf @UE.{0} <|Uf @UM.{0} <|Uf @Ux.{0} <|Uf @Wa.{0} <|Uf @Xi.{0} <|
 Uf @UU <|Uf @SD <|Uf @kC <|Uf @fB <|Uf @yA <|@q_
noncomputable def KH(C:Cfg)(n f:Nat):Nat->List AV->G->OR:=λd as g=>ac (sem C n) d g f as
theorem pi{ih:IH}{args:List AV}{y:ADf}:ac ih d g f args≠.dfr y:=by
 intro k;revert k;unfold ac
 repeat' (first|split|rw[aa])
 all_goals (intro h;cases h)
theorem zf(hC:CfgOk C):ExtOk C f (KH C n f):=by refine⟨λd args g hwf=>lE hwf,λd args g y=>pi,λA bd w γ hg nx g as vs hr hwf hx hf hv hne cs=>?_⟩;have h:=mb hC n;obtain⟨he,u,w',γ',hg',fin,rv,out⟩:=om h.call h.mon.call hr hx hv hne cs;exact⟨u,w',γ',hg',fin,rv,.inr ⟨he,out⟩⟩
noncomputable def EH(d0:Nat)(tab:List (List AV×AV))(fb:Nat->List AV->G->OR):Nat->List AV->G->OR:=λd as g =>
 ak (Nat.beq d d0) (match aD (snap g.h d an) as with
  | some as'=>match zd as' tab with
   |some v=>.val v
   |none=>fb d as g
  |none=>.fail) (fb d as g)
theorem zx(hC:CfgOk C){d0:Nat}{tab:List (List AV×AV)}(h:∀e∈tab,l8 d0 ((sem C n).call (Nat.succ d0) f e.1 G.empty)=some e.2)
  {fb:Nat->List AV->G->OR} (hfb:ExtOk C f fb):ExtOk C f (EH d0 tab fb):=by
 have sh:∀d args g,EH d0 tab fb d args g=.fail\/EH d0 tab fb d args g=fb d args g\/EH d0 tab fb d args g=ac (sem C n) d g f args:=by
  intro d args g;unfold EH;rw[aa]
  split
  ·rename_i hd;have hd:=aB hd;subst hd
   split
   ·rename_i as' a
    split
    ·rename_i v k;have:=Fy k;exact .inr (.inr (FS a (h _ this)).symm)
    ·exact .inr (.inl rfl)
   ·exact .inl rfl
  ·exact .inr (.inl rfl)
 refine⟨λd args g hwf=>?_,λd args g y hy=>?_,λA bd w γ hg nx g as vs hr hwf hx hf k hne cs=>?_⟩
 ·rcases sh d args g with h|h|h<;>rw[h]
  ·exact Mon.refl g
  ·exact hfb.mon d args g hwf
  ·exact lE hwf
 ·rcases sh d args g with h|h|h<;>rw[h]at hy
  ·cases hy
  ·exact hfb.noDfr d args g y hy
  ·exact pi hy
 ·rcases sh (bd+1) as g with h0|h0|h0
  ·exact absurd h0 hne
  ·rw[h0]at hne hf ⊢;exact hfb.run A bd w γ hg nx g as vs hr hwf hx hf k hne cs
  ·rw[h0]at hne hf ⊢;exact (zf (n:=n) hC).run A bd w γ hg nx g as vs hr hwf hx hf k hne cs
noncomputable def tV(h:H):List Nat->H
 |[]=>.nil
 |id::l=>(tV h l).put id (h.get id)
noncomputable def qT(h h':H):List Nat->H
 |[]=>h
 |id::l=>(qT h h' l).put id (h'.get id)
theorem Pt(k:Nat):H.get (Tr.nil:H) k=.none:=by simp[H.get,SJ]
theorem uq(h:H)(k:Nat):∀l,(tV h l).get k=if k∈l then h.get k else .none
 |[]=>by simp[tV,Pt]
 | id::l=>by
  rw[tV,SD,uq h k l]
  by_cases hk:k=id
  ·subst hk;simp
  ·simp[hk]
theorem qU(h h':H)(k:Nat):∀l,(qT h h' l).get k=if k∈l then h'.get k else h.get k
 |[]=>by simp[qT]
 | id::l=>by
  rw[qT,SD,qU h h' k l]
  by_cases hk:k=id
  ·subst hk;simp
  ·simp[hk]
noncomputable def MT(C:Cfg)(n f:Nat):Nat->List AV->G->OR:=λd as g =>
 match (sem C n).call d f as ⟨tV g.h (as.flatMap (aw g.h an)),g.nx,[]⟩ with
 |.ok v g'=>.upd v ⟨qT g.h g'.h g'.lg,g'.nx,g'.lg++g.lg⟩
 |.fail=>.fail
theorem O_(hC:CfgOk C):ExtOk C f (MT C n f):=by
 have j:=mb hC n;have wfr:∀(g:G) (ids:List Nat),WF g->WF ⟨tV g.h ids,g.nx,[]⟩:=by
  intro g ids e id k;show (tV g.h ids).get id=.none;rw[uq]
  split
  ·exact e id k
  ·rfl
 have sh:∀d as g,MT C n f d as g=.fail\/∃v g',(sem C n).call d f as ⟨tV g.h (as.flatMap (aw g.h an)),g.nx,[]⟩=.ok v g' /\
   MT C n f d as g=.upd v ⟨qT g.h g'.h g'.lg,g'.nx,g'.lg++g.lg⟩:=by
  intro d as g;unfold MT
  split
  ·rename_i v g' h;exact .inr ⟨v,g',h,rfl⟩
  ·exact .inl rfl
 refine⟨λd as g e=>?_,λd as g y hy=>?_,λA bd w γ hg nx g as vs hr e hx hf hv hne cs=>?_⟩
 ·rcases sh d as g with h|⟨v,g',h1,h2⟩
  ·rw[h];exact Mon.refl g
  ·rw[h2];have m:=j.mon.call _ _ _ _ _ _ h1 (wfr g _ e);obtain⟨nw,a,b,c⟩:=m.new;have ha:g'.lg=nw:=by simpa using a
   refine⟨m.nx,⟨g'.lg,rfl,λid k=>?_,λid k=>?_⟩,λhw id k=>?_⟩
   ·show (qT _ _ _).get id=_;rw[qU,Um k]
   ·obtain⟨c1,l⟩:=c id (by rw[<-ha];exact k);refine⟨c1,λhn=>l ?_⟩;show (tV _ _).get id=_;rw[uq,hn];simp
   ·show (qT _ _ _).get id=_;have k:g'.nx<=id:=k;have o:g.nx<=g'.nx:=m.nx;rw[qU,Um]
    ·exact hw id (by omega)
    ·intro hl;have:=(c id (by rw[<-ha];exact hl)).1;omega
 ·rcases sh d as g with h|⟨v,g',h1,h2⟩
  ·rw[h]at hy;cases hy
  ·rw[h2]at hy;cases hy
 ·rcases sh (bd+1) as g with h|⟨v,g',h1,h2⟩
  ·exact absurd h hne
  ·rw[h2]at hf ⊢;obtain⟨he,run⟩:=j.call _ _ _ _ _ _ h1;obtain⟨u,w',γ',hg',fin,rv,out⟩:=run A w γ hg nx vs hr (λid hn=>by
     have i:(tV g.h (as.flatMap (aw g.h an))).get id≠.none:=hn;show hg id=(tV _ _).get id;rw[uq]at i ⊢
     split at i
     ·rename_i hm;rw[Un hm];exact hx id hm i
     ·exact absurd rfl i) (wfr g _ e) (λid h1 h2=>hf id h1 h2) hv .normal cs (.inl rfl)
   refine⟨u,w',γ',hg',⟨fin.rel,fin.stp,?_⟩,rv,.inr ⟨he,out⟩⟩;obtain⟨nw,a,b,c⟩:=fin.new;have ha:g'.lg=nw:=by simpa using a
   subst ha;refine⟨g'.lg,rfl,λid k=>?_,c⟩;show hg' id=(qT _ _ _).get id;rw[qU,Un k];exact b id k
end
end Hx
