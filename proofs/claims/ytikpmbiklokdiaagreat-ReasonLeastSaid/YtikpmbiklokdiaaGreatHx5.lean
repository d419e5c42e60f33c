/- A part of the proof: what the functions of the chapter compute. -/
import Derived.Recover
import Derived.Test.YtikpmbiklokdiaaGreatHx4
set_option linter.all false
set_option maxRecDepth 20000
set_option maxHeartbeats 8000000
namespace Hx
open Go
noncomputable section
variable {g g':G}{df df':List ADf}{t t':T}{v:AV}{f nt d n m:Nat}{xs as:List AV}{op:Op}{W:PT}{dst:Option Nat}{b:SC}{C:Cfg}
section
variable {P:Program}{u:Value}
inductive PE where
 |ex (e:Ex)
 |pan (v:AV)
inductive PR where
 |fail
 |ok (e:PE) (t:T) (df:List ADf) (g:G)
inductive PF where
 |fail
 |ok (v:AV) (g:G)
 |pan (v:AV) (g:G)
structure PH where
 code:Nat->Nat->Code->T->List ADf->G->PR
 call:Nat->Nat->List AV->G->PF
def Jc:CR->PR
 |.ok e t df g=>.ok (.ex e) t df g
 |.fail=>.fail
abbrev PFn:=IH->PH->Nat->T->List ADf->G->PR
def Bu(out:T->AV->T)(next:T->List ADf->G->PR)(t:T)(df:List ADf):PF->PR
 |.ok v g=>next (out t v) df g
 |.pan v g=>.ok (.pan v) t df g
 |.fail=>.fail
def pA(out:T->AV->T)(next:T->List ADf->G->PR)(t:T)(df:List ADf)(g:G):OR->PR
 |.fail=>.fail
 |.val v=>next (out t v) df g
 |.upd v g'=>next (out t v) df g'
 |.dfr a=>next (out t .undef) (a::df) g
def pH(C:Cfg)(ph:PH)(d:Nat)(fv:AV)(vs:List AV)(g:G):Option PF :=
 match fv with
 |.clo f first cap=>ak ((C.ext f).isSome || C.iso f) none (some (ph.call d f (first++(vs++cap)) g))
 |_=>none
def tM(C:Cfg)(op:Op)(out:T->AV->T):Stg ((T->List ADf->G->PR)->PFn) :=
 match op with
 | .panic x=>match aP C x with
  | some s=>⟨λ_ _ _ _ t df g=>match s.run t with
   |.ifc ty v=>.ok (.pan (.ifc ty v)) t df g
   |_=>.fail⟩
  |none=>⟨λ_ _ _ _ _ _ _=>.fail⟩
 | .typeAssert x _ asserted ok=>match aP C x,C.P.underlying asserted with
  | some s,some (.int _)=>⟨λnext _ _ _ t df g=>match s.run t with
   |.ifc ty v=>ak (Nat.beq ty asserted) (next (out t (ak ok (.tup [v,.bool true]) v)) df g) .fail
   |_=>.fail⟩
  |_,_=>⟨λ_ _ _ _ _ _ _=>.fail⟩
 | .call { callee:=.value fo,args,argTypes }=>match aP C fo,bV C args.toList with
  | some fv,some vs=>⟨λnext ih ph d t df g=>match pH C ph d (fv.run t) (vs.run t) g with
   |some r=>Bu out next t df r
   |none=>pA out next t df g ((bC C (.call { callee:=.value fo,args,argTypes })).run ih d none t g)⟩
  |_,_=>⟨λ_ _ _ _ _ _ _=>.fail⟩
 |op=>⟨λnext ih _ d t df g=>pA out next t df g ((bC C op).run ih d none t g)⟩
def nJ(C:Cfg)(nt:Nat)(all:List Oper):List Oper->Stg PFn
 |[]=>⟨λ_ _ _ t df g=>.ok (.ex .norm) t df g⟩
 | o::rest=>match qj nt o.dst with
  | some out=>match o.guard with
   |none=>⟨λih ph d t df g=>(tM C o.op out.run).run (λt df g=>(nJ C nt all rest).run ih ph d t df g) ih ph d t df g⟩
   | some gd=>match i4 all (some gd) with
    | some q=>⟨λih ph d t df g=>match q.run t with
     |some true=>(tM C o.op out.run).run (λt df g=>(nJ C nt all rest).run ih ph d t df g) ih ph d t df g
     |some false=>(nJ C nt all rest).run ih ph d (out.run t .undef) df g
     |none=>.fail⟩
    |none=>⟨λ_ _ _ _ _ _=>.fail⟩
  |none=>⟨λ_ _ _ _ _ _=>.fail⟩
def H5(k:T->List ADf->G->PR):PR->PR
 |.ok (.ex .norm) t df g=>k t df g
 |r=>r
def qt(id:Nat):PR->PR
 |.ok (.ex (.exit j)) t df g=>ak (Nat.beq j id) (.ok (.ex .norm) t df g) (.ok (.ex (.exit j)) t df g)
 |r=>r
def bT(C:Cfg)(nt:Nat):Code->Stg PFn
 |.region _ ops false=>nJ C nt ops.toList ops.toList
 |.seq a b=>⟨λih ph d t df g=>H5 ((bT C nt b).run ih ph d) ((bT C nt a).run ih ph d t df g)⟩
 | .cond c a b=>match aP C c with
  | some q=>⟨λih ph d t df g=>match q.run t with
   |.bool v=>ak v ((bT C nt a).run ih ph d t df g) ((bT C nt b).run ih ph d t df g)
   |_=>.fail⟩
  |none=>⟨λ_ _ _ _ _ _=>.fail⟩
 |.block id body=>⟨λih ph d t df g=>qt id ((bT C nt body).run ih ph d t df g)⟩
 |.loop body=>⟨λih ph d t df g=>H5 (λt df g=>ph.code nt d (.loop body) t df g) ((bT C nt body).run ih ph d t df g)⟩
 |.scope body=>bT C nt body
 |c=>⟨λih _ d t df g=>Jc ((aK C nt c).run ih d none t df g)⟩
abbrev Sj:=IH->PH->Nat->AV->T->G->PR
def mH(C:Cfg)(nt:Nat):Code->Stg Sj
 | .region _ ops false=>match ops.toList with
  | o::rest=>match o.op,o.guard with
   | .call { callee:=.builtin .recover,.. },none=>match qj nt o.dst with
    |some out=>⟨λih ph d v t g=>(nJ C nt ops.toList rest).run ih ph d (out.run t v) [] g⟩
    |none=>⟨λ_ _ _ _ _ _=>.fail⟩
   |_,_=>⟨λ_ _ _ _ _ _=>.fail⟩
  |[]=>⟨λ_ _ _ _ _ _=>.fail⟩
 |.seq a b=>⟨λih ph d v t g=>H5 ((bT C nt b).run ih ph d) ((mH C nt a).run ih ph d v t g)⟩
 |.block id a=>⟨λih ph d v t g=>qt id ((mH C nt a).run ih ph d v t g)⟩
 |.scope a=>mH C nt a
 |_=>⟨λ_ _ _ _ _ _=>.fail⟩
def xW(C:Cfg)(ih:IH)(ph:PH)(d f:Nat)(v:AV)(args:List AV)(g:G):Option G :=
 match C.P.funcs[f]? with
 |none=>none
 | some fn=>match fn.body,nT C fn.results.toList with
  | some c, some r => ak ((fn.name == "runtime.NumGoroutine") || !Nat.ble (bi args) fn.ntmps) none
   (match (mH C fn.ntmps c).run ih ph d v (ba 0 args .nil) g with
    |.ok (.ex (.exit _)) _ _ _=>none
    |.ok (.ex _) t [] g'=>(match r.run t g' with|some _=>some g'|none=>none)
    |_=>none)
  |_,_=>none
def Ig:FR->PF
 |.ok v g=>.ok v g
 |.fail=>.fail
def jX(C:Cfg)(ih:IH)(ph:PH)(d:Nat)(res:T->G->Option (List AV))(v:AV)(t:T):List ADf->G->PF
 |[],g=>.pan v g
 | .call (.clo f [] cap) args::ds,g=>match xW C ih ph d f v (args++cap) g with
  |some g'=>Ig (bN ih d res t ds g')
  |none=>.fail
 |_::_,_=>.fail
def dG(C:Cfg)(ih:IH)(ph:PH)(d f:Nat)(args:List AV)(g:G):PF :=
 match C.P.funcs[f]? with
 |none=>.fail
 | some fn=>match fn.body,nT C fn.results.toList with
  | some c, some r => ak ((fn.name == "runtime.NumGoroutine") || !Nat.ble (bi args) fn.ntmps) .fail
   (match (bT C fn.ntmps c).run ih ph d (ba 0 args .nil) [] g with
    |.ok (.ex (.exit _)) _ _ _=>.fail
    |.ok (.ex _) t df g'=>Ig (bN ih d r.run t df g')
    |.ok (.pan v) t df g'=>jX C ih ph d r.run v t df g'
    |.fail=>.fail)
  |_,_=>.fail
def PH.zero:PH:=⟨λ_ _ _ _ _ _=>.fail,λ_ _ _ _=>.fail⟩
def EC(C:Cfg)(ih:IH)(ph:PH):PH:=⟨λnt d c t df g=>(bT C nt c).run ih ph d t df g,dG C ih ph⟩
def RB(C:Cfg)(n:Nat)(m:Nat):PH:=@Nat.rec (λ_=>PH) PH.zero (λ_ ph=>EC C (sem C n) ph) m
section
variable {C:Cfg}{ih:IH}{ph:PH}
structure PHMon (ph:PH):Prop where
 code:∀nt d c t df g e t' df' g',ph.code nt d c t df g=.ok e t' df' g'->WF g->Mon g g'
 call:∀d f as g v g',(ph.call d f as g=.ok v g'\/ph.call d f as g=.pan v g')->WF g->Mon g g'
theorem If{out:T->AV->T}{next:T->List ADf->G->PR}{t:T}{g:G}{r:OR}{e:PE}
  (h:pA out next t df g r=.ok e t' df' g') (hwf:WF g) (hr:Mon g (gOf g r)) (hn:∀t df g1,next t df g1=.ok e t' df' g'->WF g1->Mon g1 g'):Mon g g':=by
 cases r with
 |fail=>cases h
 |val v=>exact hn _ _ _ h hwf
 |upd v g1=>exact hr.trans (hn _ _ _ h (hr.wf hwf))
 |dfr a=>exact hn _ _ _ h hwf
theorem xA(hp:PHMon ph){fv:AV}{vs:List AV}{g:G}{r:PF}(h:pH C ph d fv vs g=some r)(hr:r=.ok v g'\/r=.pan v g')(hwf:WF g):Mon g g':=by
 unfold pH at h
 split at h
 ·rw[aa]at h
  split at h
  ·cases h
  ·injection h with h;subst h;exact hp.call _ _ _ _ _ _ hr hwf
 ·cases h
theorem Gg(he:eR C)(hi:IHMon ih)(hp:PHMon ph){out:T->AV->T}{next:T->List ADf->G->PR}{t:T}{g:G}{e:PE}
  (h:(tM C op out).run next ih ph d t df g=.ok e t' df' g') (hwf:WF g) (hn:∀t df g1,next t df g1=.ok e t' df' g'->WF g1->Mon g1 g'):Mon g g':=by
 have plain:∀{op:Op},pA out next t df g ((bC C op).run ih d none t g)=.ok e t' df' g'->Mon g g':=λh=>If h hwf (i6 he hi hwf) hn
 unfold tM at h
 split at h
 ·split at h
  ·dsimp only at h
   split at h
   ·injection h with _ _ _ h;subst h;exact Mon.refl _
   ·cases h
  ·cases h
 ·split at h
  ·dsimp only at h
   split at h
   ·rw[aa]at h
    split at h
    ·exact hn _ _ _ h hwf
    ·cases h
   ·cases h
  ·cases h
 ·split at h
  ·dsimp only at h
   split at h
   ·rename_i r hr;cases r with
    |fail=>cases h
    | ok v g1 =>
     have m:=xA hp hr (.inl rfl) hwf;exact m.trans (hn _ _ _ h (m.wf hwf))
    | pan v g1 =>
     have m:=xA hp hr (.inr rfl) hwf;have h:PR.ok (.pan v) t df g1=.ok e t' df' g':=h;injection h with _ _ _ h;subst h;exact m
   ·exact plain h
  ·cases h
 ·exact plain h
theorem tN(he:eR C)(hi:IHMon ih)(hp:PHMon ph){all:List Oper}:∀{ops:List Oper} {d:Nat} {t:T} {df:List ADf} {g:G} {e:PE} {t':T} {df':List ADf} {g':G},
  (nJ C nt all ops).run ih ph d t df g=.ok e t' df' g'->WF g->Mon g g':=by
 intro ops
 induction ops with
 |nil=>intro d t df g e t' df' g' h _;simp only[nJ]at h;injection h with _ _ _ h;subst h;exact Mon.refl _
 | cons o rest ihl =>
  intro d t df g e t' df' g' h k;simp only[nJ]at h
  split at h
  ·split at h
   ·exact Gg he hi hp h k λ_ _ _ h1 h2=>ihl h1 h2
   ·split at h
    ·dsimp only at h
     split at h
     ·exact Gg he hi hp h k λ_ _ _ h1 h2=>ihl h1 h2
     ·exact ihl h k
     ·cases h
    ·cases h
  ·cases h
theorem FY(he:eR C)(hi:IHMon ih){c:Code}{t:T}{g:G}{e:PE}
  (h:Jc ((aK C nt c).run ih d none t df g)=.ok e t' df' g') (hwf:WF g):Mon g g':=by
 generalize hr:(aK C nt c).run ih d none t df g=r at h;cases r with
 |fail=>cases h
 | ok e1 t1 df1 g1 =>
  have h:PR.ok (.ex e1) t1 df1 g1=.ok e t' df' g':=h;injection h with _ _ _ h;subst h;exact jT he hi _ hr hwf
theorem dc(he:eR C)(hi:IHMon ih)(hp:PHMon ph):∀(c:Code) {d:Nat} {t:T} {df:List ADf} {g:G} {e:PE} {t':T} {df':List ADf} {g':G},
  (bT C nt c).run ih ph d t df g=.ok e t' df' g'->WF g->Mon g g':=by
 intro c;have now:∀{e e':PE} {t t':T} {df df':List ADf} {g g':G},PR.ok e' t df g=.ok e t' df' g'->Mon g g':=by intro e e' t t' df df' g g' h;injection h with _ _ _ h;subst h;exact Mon.refl _
 induction c with
 | region id ops draw =>
  intro d t df g e t' df' g' h k;cases draw with
  |true=>exact FY (c:=.region id ops true) he hi h k
  |false=>exact tN he hi hp h k
 | seq a b iha ihb =>
  intro d t df g e t' df' g' h k;simp only[bT]at h;generalize hr:(bT C nt a).run ih ph d t df g=r at h;cases r with
  |fail=>cases h
  | ok e1 t1 df1 g1 =>
   have f:=iha hr k;cases e1 with
   |pan v=>exact f.trans (now h)
   | ex e1 =>
    cases e1 with
    |norm=>exact f.trans (ihb h (f.wf k))
    |exit j=>exact f.trans (now h)
    |ret=>exact f.trans (now h)
 | cond c a b iha ihb =>
  intro d t df g e t' df' g' h k;simp only[bT]at h
  split at h
  ·dsimp only at h
   split at h
   ·rw[aa]at h
    split at h
    ·exact iha h k
    ·exact ihb h k
   ·cases h
  ·cases h
 | block id body ihb =>
  intro d t df g e t' df' g' h k;simp only[bT]at h;generalize hr:(bT C nt body).run ih ph d t df g=r at h;cases r with
  |fail=>cases h
  | ok e1 t1 df1 g1 =>
   have f:=ihb hr k;cases e1 with
   |pan v=>exact f.trans (now h)
   | ex e1 =>
    cases e1 with
    |norm=>exact f.trans (now h)
    | exit j =>
     simp only[qt,aa]at h
     split at h
     ·exact f.trans (now h)
     ·exact f.trans (now h)
    |ret=>exact f.trans (now h)
 | loop body ihb =>
  intro d t df g e t' df' g' h k;simp only[bT]at h;generalize hr:(bT C nt body).run ih ph d t df g=r at h;cases r with
  |fail=>cases h
  | ok e1 t1 df1 g1 =>
   have f:=ihb hr k;cases e1 with
   |pan v=>exact f.trans (now h)
   | ex e1 =>
    cases e1 with
    |norm=>exact f.trans (hp.code _ _ _ _ _ _ _ _ _ _ h (f.wf k))
    |exit j=>exact f.trans (now h)
    |ret=>exact f.trans (now h)
 |scope body ihb=>intro d t df g e t' df' g' h k;exact ihb h k
 |_=>intro d t df g e t' df' g' h k;simp only[bT]at h;exact FY he hi h k
theorem Bf(he:eR C)(hi:IHMon ih)(hp:PHMon ph):∀(c:Code) {d:Nat} {v:AV} {t:T} {g:G} {e:PE} {t':T} {df':List ADf} {g':G},
  (mH C nt c).run ih ph d v t g=.ok e t' df' g'->WF g->Mon g g':=by
 intro c;have now:∀{e e':PE} {t t':T} {df df':List ADf} {g g':G},PR.ok e' t df g=.ok e t' df' g'->Mon g g':=by intro e e' t t' df df' g g' h;injection h with _ _ _ h;subst h;exact Mon.refl _
 induction c with
 | region id ops draw =>
  intro d v t g e t' df' g' h k;cases draw with
  |true=>cases h
  | false =>
   simp only[mH]at h
   split at h
   ·split at h
    ·split at h
     ·exact tN he hi hp h k
     ·cases h
    ·cases h
   ·cases h
 | seq a b iha _ =>
  intro d v t g e t' df' g' h k;simp only[mH]at h;generalize hr:(mH C nt a).run ih ph d v t g=r at h;cases r with
  |fail=>cases h
  | ok e1 t1 df1 g1 =>
   have f:=iha hr k;cases e1 with
   |pan v=>exact f.trans (now h)
   | ex e1 =>
    cases e1 with
    |norm=>exact f.trans (dc he hi hp _ h (f.wf k))
    |exit j=>exact f.trans (now h)
    |ret=>exact f.trans (now h)
 | block id body ihb =>
  intro d v t g e t' df' g' h k;simp only[mH]at h;generalize hr:(mH C nt body).run ih ph d v t g=r at h;cases r with
  |fail=>cases h
  | ok e1 t1 df1 g1 =>
   have f:=ihb hr k;cases e1 with
   |pan v=>exact f.trans (now h)
   | ex e1 =>
    cases e1 with
    |norm=>exact f.trans (now h)
    | exit j =>
     simp only[qt,aa]at h
     split at h
     ·exact f.trans (now h)
     ·exact f.trans (now h)
    |ret=>exact f.trans (now h)
 |scope body ihb=>intro d v t g e t' df' g' h k;exact ihb h k
 |_=>intro d v t g e t' df' g' h k;cases h
theorem Gt(he:eR C)(hi:IHMon ih)(hp:PHMon ph){args:List AV}{g:G}(h:xW C ih ph d f v args g=some g')(hwf:WF g):Mon g g':=by
 unfold xW at h
 split at h
 ·cases h
 split at h
 ·rw[aa]at h
  split at h
  ·cases h
  split at h
  ·cases h
  ·rename_i hc
   split at h
   ·injection h with h;subst h;exact Bf he hi hp _ hc hwf
   ·cases h
  ·cases h
 ·cases h
theorem oe(hi:IHMon ih){res:T->G->Option (List AV)}{t:T}{g:G}(h:bN ih d res t df g=.ok v g')(hwf:WF g):Mon g g':=by
 unfold bN at h
 split at h
 ·cases h
 ·rename_i g2 h2;have k:=mT hi h2 hwf
  split at h
  ·injection h with _ h;subst h;exact k
  ·cases h
theorem zz{r:FR}{g:G}(h:Ig r=.ok v g):r=.ok v g:=by
 cases r with
 |fail=>cases h
 |ok v' g'=>injection h with h1 h2;rw[h1,h2]
theorem xl{r:FR}{g:G}(h:Ig r=.pan v g):False:=by
 cases r with
 |fail=>cases h
 |ok v' g'=>cases h
theorem vD(he:eR C)(hi:IHMon ih)(hp:PHMon ph){res:T->G->Option (List AV)}{t:T}{g:G}{x:AV}
  (h:jX C ih ph d res v t df g=.ok x g'\/jX C ih ph d res v t df g=.pan x g') (hwf:WF g):Mon g g':=by
 unfold jX at h
 split at h
 ·rcases h with h|h
  ·cases h
  ·injection h with _ h;subst h;exact Mon.refl _
 ·split at h
  ·rename_i g1 h1;have k:=Gt he hi hp h1 hwf;rcases h with h|h
   ·exact k.trans (oe hi (zz h) (k.wf hwf))
   ·exact (xl h).elim
  ·rcases h with h|h<;>cases h
 ·rcases h with h|h<;>cases h
theorem uL(he:eR C)(hi:IHMon ih)(hp:PHMon ph){g:G}
  (h:dG C ih ph d f as g=.ok v g'\/dG C ih ph d f as g=.pan v g') (hwf:WF g):Mon g g':=by
 unfold dG at h
 split at h
 ·rcases h with h|h<;>cases h
 split at h
 ·rw[aa]at h
  split at h
  ·rcases h with h|h<;>cases h
  split at h
  ·rcases h with h|h<;>cases h
  ·rename_i hc;have k:=dc he hi hp _ hc hwf;rcases h with h|h
   ·exact k.trans (oe hi (zz h) (k.wf hwf))
   ·exact (xl h).elim
  ·rename_i hc;have k:=dc he hi hp _ hc hwf;exact k.trans (vD he hi hp h (k.wf hwf))
  ·rcases h with h|h<;>cases h
 ·rcases h with h|h<;>cases h
theorem Bi(he:eR C)(n:Nat):∀m,PHMon (RB C n m):=by
 intro m
 induction m with
 |zero=>exact⟨λnt d c t df g e t' df' g' h=>(by cases h),λd f as g v g' h=>(by rcases h with h|h<;>cases h)⟩
 |succ m ihm=>exact⟨λnt d c t df g e t' df' g' h hwf=>dc he (zt he n) ihm c h hwf,λd f as g v g' h hwf=>uL he (zt he n) ihm h hwf⟩
end
section
variable {C:Cfg}{ih:IH}{ph:PH}{A:Nat->Nat->Prop}{bd:Nat}{w w':World}{γ γ':Gm}{hg:Nat->AObj}{nx:Nat}{t:T}{g:G}
def ArrP(P:Program)(m:Machine)(b:Frame)(k:List Item)(cs:List Frame)(u:Value):PE->Act->World->Prop
 |.ex e,a,w=>Arr P m b k cs e a w
 |.pan _,a,w=>∃k₁,Steps P m (lone ((b.atR a k₁).raise [{ v:=u,recovered:=false }]) cs w)
def Si(w:World)(γ:Gm)(A:Nat->Nat->Prop)(bd:Nat):PE->Value->Prop
 |.ex _,_=>True
 |.pan v,u=>RV w γ A bd v u
theorem ArrP.of_steps{P:Program}{m m₁:Machine}{b:Frame}{k:List Item}{cs:List Frame}{u:Value}{e:PE}{a:Act}(h:Steps P m m₁)(h':ArrP P m₁ b k cs u e a w):ArrP P m b k cs u e a w:=by
 cases e with
 |ex e=>exact Arr.of_steps h h'
 |pan v=>obtain⟨k₁,h2⟩:=h';exact⟨k₁,Steps.trans h h2⟩
def zD(C:Cfg)(A:Nat->Nat->Prop)(bd nt:Nat)(b:Frame)(k:List Item)(cs:List Frame)(m:Machine)(w:World)(γ:Gm)(hg:Nat->AObj)(nx:Nat)(g:G)(e:PE)(t':T)(df':List ADf)(g':G):Prop :=
 ∃a' w' γ' hg' u,Fin C A bd w γ hg nx g w' γ' hg' g'/\TR w' γ' A bd nt t' a'.tmps/\DR w' γ' A bd df' a'.defers/\Si w' γ' A bd e u/\ArrP C.P m b k cs u e a' w'
def zC(C:Cfg)(bd nt:Nat)(c:Code)(t:T)(df:List ADf)(g:G)(e:PE)(t':T)(df':List ADf)(g':G):Prop :=
 ∀A w γ hg nx b a k cs,Rel C A bd w γ hg nx->Ext g.h hg->WF g->Free γ g g'->TR w γ A bd nt t a.tmps->DR w γ A bd df a.defers->b.roundOf=none->pD b.kind cs ->
  zD C A bd nt b k cs (lone (b.atR a (.code c::k)) cs w) w γ hg nx g e t' df' g'
def Iq(P:Program)(K:CallKind)(f:FuncId)(vs:Array Value)(cs:List Frame)(w:World)(u:Value)(w':World):Prop :=
 ∃fr,Steps P (lone (Frame.enter P f vs K) cs w) (lone fr cs w')/\fr.leaving P w' (.panicked [{ v:=u,recovered:=false }])
def Ip(C:Cfg)(bd:Nat)(f:FuncId)(as:List AV)(g:G)(v:AV)(g':G):Prop :=
 ∀A w γ hg nx vs,Rel C A bd w γ hg nx->Ext g.h hg->WF g->Free γ g g'->RVs w γ A bd as vs->∀K cs,pD K cs ->
  ∃u w' γ' hg',Fin C A bd w γ hg nx g w' γ' hg' g'/\RV w' γ' A bd v u/\Iq C.P K f vs.toArray cs w u w'
structure PHOk (C:Cfg) (ph:PH):Prop where
 mon:PHMon ph
 code:∀bd nt c t df g e t' df' g',ph.code nt (bd+1) c t df g=.ok e t' df' g'->zC C bd nt c t df g e t' df' g'
 call:∀bd f as g v g',ph.call (bd+1) f as g=.ok v g'->Enters C.P f/\y9 C bd f as g v g'
 pan:∀bd f as g v g',ph.call (bd+1) f as g=.pan v g'->Enters C.P f/\Ip C bd f as g v g'
section
variable {b:Frame}{a:Act}{ops:Array Oper}{i:Nat}{rest:List Nat}{k:List Item}{cs:List Frame}{o:Oper}
theorem Ib{v:Value}(ho:ops[i]?=some o)(hw:Region.wanted o (yielded ops a.tmps)=true)(hd:∀c,o.op≠.defer c)
  (hrun:(execOp a.eval o).run P w=.halt (.panic v) w) :
  step P (lone (b.atR a (.inRegion ops (i::rest)::k)) cs w)=.next (lone ((b.atR a (.inRegion ops (i::rest)::k)).raise [{ v,recovered:=false }]) cs w):=by
 refine step_lone_go ?_;rw[stepGR_op ho hw,Oper.semAt_eq _ _ _ hd];simp[stepG.apply,hrun]
theorem Cg{f:FuncId}{args:Array Value}{w₁:World}(ho:ops[i]?=some o)(hw:Region.wanted o (yielded ops a.tmps)=true)(hd:∀c,o.op≠.defer c)
  (hrun:(execOp a.eval o).run P w=.ok (.enter f args) w)
  (hout:Iq P .normal f args (b.atR a (.inRegion ops (i::rest)::k)::cs) w u w₁) :
  Steps P (lone (b.atR a (.inRegion ops (i::rest)::k)) cs w) (lone ((b.atR a (.inRegion ops (i::rest)::k)).raise [{ v:=u,recovered:=false }]) cs w₁):=by
 obtain⟨fr,hs,hl⟩:=hout;exact .head (Bn ho hw hd hrun) (Steps.trans hs (.one (step_leave_panicked hl)))
theorem GJ{c0:Frame}{older:List PanicEntry}(ho:ops[i]?=some o)(hw:Region.wanted o (yielded ops a.tmps)=true)(hd:∀c,o.op≠.defer c)
  (hk:b.kind=.deferred) (hro:b.roundOf=none) (hm:c0.mode=.panicking ({ v:=u,recovered:=false }::older)) (hrun:(execOp a.eval o).run P w=.ok .recover w) :
  step P (lone (b.atR a (.inRegion ops (i::rest)::k)) (c0::cs) w)=.next (lone (b.atR (a.put o.dst u) (.inRegion ops rest::k)) ({ c0 with mode:=.panicking ({ v:=u,recovered:=true }::older) }::cs) w):=by
 have h:=Frame.finish_atR b a ops i rest k u;rw[ho]at h;simp only[VX]at h;have d:tryRecover (b.atR a (.inRegion ops (i::rest)::k)) (c0::cs)=some (u,{ c0 with mode:=.panicking ({ v:=u,recovered:=true }::older) }::cs):=by unfold tryRecover;simp[Frame.atR,hk,hm]
 refine step_lone_go ?_;rw[stepGR_op ho hw,Oper.semAt_eq _ _ _ hd,<-h];have e:(b.atR a (.inRegion ops (i::rest)::k)).roundOf=none:=hro;simp only[stepG.apply,Sem.runT_eq,hrun,d,e,if_true,GStep.bare_after];simp[GStep.bare_after]
theorem J9(hp:PHOk C ph)(hr:Rel C A bd w γ hg nx)(hwf:WF g)(hx:Ext g.h hg){fv:AV}{v:Value}{vs:List Value}
  (hfv:RV w γ A bd fv v) (has:RVs w γ A bd as vs) {r:PF} (h:pH C ph (bd+1) fv as g=some r)
  (ho:ops[i]?=some o) (hw:Region.wanted o (yielded ops a.tmps)=true) (hd:∀c,o.op≠.defer c)
  (hexec:(execOp a.eval o).run C.P w=(do let d <-Deferred.ofValue v vs.toArray;invoke d.target d.args:Sem Next).run C.P w) :
  (∀x g1,r=.ok x g1->Free γ g g1->∃u w' γ' hg',Fin C A bd w γ hg nx g w' γ' hg' g1/\RV w' γ' A bd x u /\
   Steps C.P (lone (b.atR a (.inRegion ops (i::rest)::k)) cs w) (lone (b.atR (a.put o.dst u) (.inRegion ops rest::k)) cs w')) /\
  (∀x g1,r=.pan x g1->Free γ g g1->∃u w' γ' hg',Fin C A bd w γ hg nx g w' γ' hg' g1/\RV w' γ' A bd x u /\
   Steps C.P (lone (b.atR a (.inRegion ops (i::rest)::k)) cs w) (lone ((b.atR a (.inRegion ops (i::rest)::k)).raise [{ v:=u,recovered:=false }]) cs w')):=by
 unfold pH at h;cases hfv with
 | clo _ f xs ys vs1 us1 hl hl2 h1 h2 =>
  dsimp only at h;rw[aa]at h
  split at h
  ·cases h
  injection h with h;have j:RVs w γ A bd (xs++(as++ys)) (vs1.toList++(vs++us1.toList)):=(SH hl h1).append (has.append (SH hl2 h2));have l:(vs1.toList++(vs++us1.toList)).toArray=(vs1++vs.toArray)++us1:=by apply W0;simp
  have e:Enters C.P f->(execOp a.eval o).run C.P w=.ok (.enter f ((vs1++vs.toArray)++us1)) w:=by intro he;rw[hexec];simp only[Deferred.ofValue,invoke,Ut,UN,Uq];exact he _ _
  refine⟨λx g1 hr1 hf=>?_,λx g1 hr1 hf=>?_⟩
  ·obtain⟨he,hs⟩:=hp.call _ _ _ _ _ _ (h.trans hr1);obtain⟨u,w',γ',hg',f1,rv,out⟩:=hs A w γ hg nx _ hr hx hwf hf j .normal (b.atR a (.inRegion ops (i::rest)::k)::cs) (.inl rfl);rw[l]at out;exact⟨u,w',γ',hg',f1,rv,ri ho hw hd (e he) out⟩
  ·obtain⟨he,hs⟩:=hp.pan _ _ _ _ _ _ (h.trans hr1);obtain⟨u,w',γ',hg',f1,rv,out⟩:=hs A w γ hg nx _ hr hx hwf hf j .normal (b.atR a (.inRegion ops (i::rest)::k)::cs) (.inl rfl);rw[l]at out;exact⟨u,w',γ',hg',f1,rv,Cg ho hw hd (e he) out⟩
 |_=>cases h
end
theorem Gi(hC:CfgOk C)(hi:IHOk C ih)(hp:PHOk C ph){ops:Array Oper}{b:Frame}{k:List Item}{cs:List Frame}:∀(l:List Oper) (i:Nat) {t:T} {df:List ADf} {g:G} {e:PE} {t':T} {df':List ADf} {g':G},
  ops.toList.drop i=l->(nJ C nt ops.toList l).run ih ph (bd+1) t df g=.ok e t' df' g'->WF g ->
  ∀{w γ hg nx a},Rel C A bd w γ hg nx->Ext g.h hg->Free γ g g'->TR w γ A bd nt t a.tmps->DR w γ A bd df a.defers->b.roundOf=none->pD b.kind cs ->
   zD C A bd nt b k cs (lone (b.atR a (.inRegion ops (List.range' i l.length)::k)) cs w) w γ hg nx g e t' df' g':=by
 intro l
 induction l with
 | nil =>
  intro i t df g e t' df' g' _ h _ w γ hg nx a hr hx hf ht z H m;simp only[nJ]at h;injection h with h1 h2 O h4;subst h1;subst h2;subst O;subst h4;exact⟨a,w,γ,hg,undef,Fin.refl hr,ht,z,trivial,.one stepR_region_end⟩
 | cons o rest ihl =>
  intro i t df g e t' df' g' E h p w γ hg nx a hr hx hf ht z H m;have ho:ops[i]?=some o:=by
   have:(ops.toList.drop i)[0]?=some o:=by rw[E];rfl
   simpa [UO] using this
  have n:ops.toList.drop (i+1)=rest:=by rw[<-Vq,E];rfl
  have I:List.range' i (o::rest).length=i::List.range' (i+1) rest.length:=by simp[W7]
  rw[I];have K:∀(args:Array Operand),(args.toList.map a.eval).toArray=args.map a.eval:=λargs=>by apply W0;simp
  have next:∀{out:Stg (T->AV->T)} {x:AV} {u:Value} {g1:G} {w1:World} {γ1:Gm} {B:Nat->AObj},qj nt o.dst=some out->Mon g g1->Fin C A bd w γ hg nx g w1 γ1 B g1->RV w1 γ1 A bd x u ->
    Steps C.P (lone (b.atR a (.inRegion ops (i::List.range' (i+1) rest.length)::k)) cs w) (lone (b.atR (a.put o.dst u) (.inRegion ops (List.range' (i+1) rest.length)::k)) cs w1) ->
    (nJ C nt ops.toList rest).run ih ph (bd+1) (out.run t x) df g1=.ok e t' df' g' ->
    zD C A bd nt b k cs (lone (b.atR a (.inRegion ops (i::List.range' (i+1) rest.length)::k)) cs w) w γ hg nx g e t' df' g':=by
   intro out x u g1 w1 γ1 B j hm f1 rv st h;have wf1:=hm.wf p;have U:=tN hC.mon hi.mon hp.mon h wf1;obtain⟨a',wb,γb,F,uu,f2,tr,dr,pv,st2⟩:=ihl (i+1) n h wf1 (a:=a.put o.dst u) f1.rel (f1.ext hm hx) (f1.freed hr hm hf) ((ht.step f1.stp).put j rv)
    (by have:=z.step f1.stp;cases hd:o.dst<;>simpa [Act.put,hd] using this) H m
   exact⟨a',wb,γb,F,uu,f1.trans f2 hm U,tr,dr,pv,st2.of_steps st⟩
  have plain:∀{out:Stg (T->AV->T)},qj nt o.dst=some out->Region.wanted o (yielded ops a.tmps)=true ->
    pA out.run (λt df g=>(nJ C nt ops.toList rest).run ih ph (bd+1) t df g) t df g ((bC C o.op).run ih (bd+1) none t g)=.ok e t' df' g' ->
    zD C A bd nt b k cs (lone (b.atR a (.inRegion ops (i::List.range' (i+1) rest.length)::k)) cs w) w γ hg nx g e t' df' g':=by
   intro out j hw h;have hm:=i6 (op:=o.op) (d:=bd+1) (rd:=none) (t:=t) hC.mon hi.mon p;generalize hres:(bC C o.op).run ih (bd+1) none t g=r at h hm;have go:∀{x:AV} {g1:G},r≠.fail->(∀y,r≠.dfr y)->vOf r=x->gOf g r=g1->(nJ C nt ops.toList rest).run ih ph (bd+1) (out.run t x) df g1=.ok e t' df' g' ->
     zD C A bd nt b k cs (lone (b.atR a (.inRegion ops (i::List.range' (i+1) rest.length)::k)) cs w) w γ hg nx g e t' df' g':=by
    intro x g1 Y X h5 B h;subst h5;subst B;have U:=tN hC.mon hi.mon hp.mon h (hm.wf p);obtain⟨u,wa,γa,h6,f1,rv,st⟩:=Em (b:=b) (cs:=cs) (rest:=List.range' (i+1) rest.length) (k:=k) hC hi hr p ht m hx.agr hres Y X (hf.le U.nx) ho hw;exact next j hm f1 rv st h
   cases r with
   |fail=>cases h
   |val x=>exact go (by simp) (by simp) rfl rfl h
   |upd x g1=>exact go (by simp) (by simp) rfl rfl h
   | dfr x =>
    obtain⟨dd,V,st⟩:=IC (b:=b) (cs:=cs) (rest:=List.range' (i+1) rest.length) (k:=k) (rd:=none) hr ht H z hres (λf e d args g y he S=>hC.noDfr f e he d args g y S) ho hw;obtain⟨a',wb,γb,F,uu,f2,tr,dr,pv,st2⟩:=ihl (i+1) n h p (a:={ a with defers:=dd::a.defers }.put o.dst undef) hr hx hf
     (ht.put (a:={ a with defers:=dd::a.defers }) j cU)
     (by cases hd:o.dst<;>simpa [Act.put,hd] using V) H m
    exact⟨a',wb,γb,F,uu,f2,tr,dr,pv,st2.of_steps (.one st)⟩
  have exec:∀{out:Stg (T->AV->T)},qj nt o.dst=some out->Region.wanted o (yielded ops a.tmps)=true ->
    (tM C o.op out.run).run (λt df g=>(nJ C nt ops.toList rest).run ih ph (bd+1) t df g) ih ph (bd+1) t df g=.ok e t' df' g' ->
    zD C A bd nt b k cs (lone (b.atR a (.inRegion ops (i::List.range' (i+1) rest.length)::k)) cs w) w γ hg nx g e t' df' g':=by
   intro out j hw h;generalize hop:o.op=op at h;unfold tM at h
   split at h
   ·
    rename_i x;have hd:∀c,o.op≠.defer c:=by rw[hop];intro c h;cases h
    split at h
    rotate_left
    ·cases h
    rename_i s hs;dsimp only at h;have J:=au hs ht hr;generalize hev:a.eval x=vx at J
    split at h
    rotate_left
    ·cases h
    rename_i ty y S;rw[S]at J;injection h with h1 h2 O h4;subst h1;subst h2;subst O;subst h4;refine⟨a,w,γ,hg,vx,Fin.refl hr,ht,z,J,_,.one (Ib ho hw hd ?_)⟩;cases J with
    | ifc _ _ _ u hu =>
     simp only[execOp,hop,hev]
     rfl
   ·
    rename_i x xty asserted ok;have hd:∀c,o.op≠.defer c:=by rw[hop];intro c h;cases h
    split at h
    rotate_left
    ·cases h
    rename_i s _ ik hs R;dsimp only at h;have J:=au hs ht hr;generalize hev:a.eval x=vx at J
    split at h
    rotate_left
    ·cases h
    rename_i ty y S;rw[S]at J;rw[aa]at h
    split at h
    rotate_left
    ·cases h
    rename_i N;have N:=aB N;subst N;cases J with
    | ifc _ _ _ u hu =>
     have Q:(execOp a.eval o).run C.P w=.ok (.value (if ok then .tuple #[u,.bool true] else u)) w:=by simp only[execOp,hop,hev,Instr.typeAssert,Ut,aC R,Uq,if_true,UN]
     refine next j (Mon.refl g) (Fin.refl hr) ?_ (.one (wc ho hw hd Q)) h
     cases ok with
     | true =>
      refine RV.tup _ [y,.bool true] #[u,.bool true] rfl λi x v h1 h2=>?_
      match i with
      |0=>simp at h1 h2;subst h1;subst h2;exact hu
      |1=>simp at h1 h2;subst h1;subst h2;exact .bool _ _
      |i+2=>simp at h1
     |false=>exact hu
   ·
    rename_i fo args at2;have hd:∀c,o.op≠.defer c:=by rw[hop];intro c h;cases h
    split at h
    rotate_left
    ·cases h
    rename_i fv vs W Z;dsimp only at h
    split at h
    ·rename_i r D;obtain⟨s1,s2⟩:=J9 (b:=b) (cs:=cs) (rest:=List.range' (i+1) rest.length) (k:=k) hp hr p hx (au W ht hr) (ic ht hr Z) D ho hw hd (by simp only[execOp,hop,resolve,K]);cases r with
     |fail=>cases h
     | ok x g1 =>
      have hm:=xA hp.mon D (.inl rfl) p;have U:=tN hC.mon hi.mon hp.mon h (hm.wf p);obtain⟨u,w1,γ1,B,f1,rv,st⟩:=s1 x g1 rfl (hf.le U.nx);exact next j hm f1 rv st h
     | pan x g1 =>
      have h:PR.ok (.pan x) t df g1=.ok e t' df' g':=h;injection h with h1 h2 O h4;subst h1;subst h2;subst O;subst h4;obtain⟨u,w1,γ1,B,f1,rv,st⟩:=s2 x g1 rfl hf;exact⟨a,w1,γ1,B,u,f1,ht.step f1.stp,z.step f1.stp,rv,_,st⟩
    ·exact plain j hw (by rw[hop];exact h)
   ·exact plain j hw (by rw[hop];exact h)
  simp only[nJ]at h
  split at h
  ·rename_i out j
   split at h
   ·rename_i L;refine exec j ?_ h;simp[Region.wanted,L]
   ·rename_i gd L
    split at h
    ·rename_i q hq;rw[<-L]at hq;dsimp only at h
     split at h
     ·rename_i M;exact exec j (mP hq ht M) h
     ·rename_i M;have hw:=mP hq ht M;obtain⟨a',wb,γb,F,uu,f2,tr,dr,pv,st2⟩:=ihl (i+1) n h p (a:=a.put o.dst undef) hr hx hf
       (ht.put j cU) (by cases hd:o.dst<;>simpa [Act.put,hd] using z) H m
      exact⟨a',wb,γb,F,uu,f2,tr,dr,pv,st2.of_steps (.one (t7 ho hw))⟩
     ·cases h
    ·cases h
  ·cases h
theorem FZ(hC:CfgOk C)(hi:IHOk C ih){c:Code}{t:T}{g:G}{e:PE}
  (h:Jc ((aK C nt c).run ih (bd+1) none t df g)=.ok e t' df' g'):zC C bd nt c t df g e t' df' g':=by
 generalize hr:(aK C nt c).run ih (bd+1) none t df g=r at h;cases r with
 |fail=>cases h
 | ok e1 t1 df1 g1 =>
  have h:PR.ok (.ex e1) t1 df1 g1=.ok e t' df' g':=h;injection h with h1 h2 n h4;subst h1;subst h2;subst n;subst h4;intro A w γ hg nx b a k cs i hx m hf ht j l d;obtain⟨a',w',γ',hg',f,tr,dr,ar⟩:=xz hC hi c hr A w γ hg nx b a k cs i hx m hf ht j l d;exact⟨a',w',γ',hg',undef,f,tr,dr,trivial,ar⟩
theorem pO(hC:CfgOk C)(hi:IHOk C ih)(hp:PHOk C ph):∀(c:Code) {t:T} {df:List ADf} {g:G} {e:PE} {t':T} {df':List ADf} {g':G},
  (bT C nt c).run ih ph (bd+1) t df g=.ok e t' df' g'->zC C bd nt c t df g e t' df' g':=by
 intro c
 induction c with
 | region id ops draw =>
  intro t df g e t' df' g' h;cases draw with
  |true=>simp only[bT]at h;exact FZ hC hi h
  | false =>
   intro A w γ hg nx b a k cs hr hx l hf ht n m d;simp only[bT]at h;obtain⟨a',w',γ',hg',u,f,tr,dr,pv,ar⟩:=Gi (b:=b) (cs:=cs) (k:=k) hC hi hp ops.toList 0 (by simp) h l hr hx hf ht n m d;refine⟨a',w',γ',hg',u,f,tr,dr,pv,ArrP.of_steps (.one stepR_region) ?_⟩;rw[W5];simpa using ar
 | seq x y ihx ihy =>
  intro t df g e t' df' g' h A w γ hg nx b a k cs hr hx l hf ht n m d;simp only[bT]at h;generalize hc:(bT C nt x).run ih ph (bd+1) t df g=r at h;cases r with
  |fail=>cases h
  | ok e1 t1 df1 g1 =>
   have z:=dc hC.mon hi.mon hp.mon _ hc l;have wf1:=z.wf l;cases e1 with
   | pan v =>
    have h:PR.ok (.pan v) t1 df1 g1=.ok e t' df' g':=h;injection h with h1 h2 p h4;subst h1;subst h2;subst p;subst h4;obtain⟨a1,w1,γ1,i,o,f1,tr1,dr1,pv1,k₁,ar1⟩:=ihx hc A w γ hg nx b a (.code y::k) cs hr hx l hf ht n m d;exact⟨a1,w1,γ1,i,o,f1,tr1,dr1,pv1,k₁,.head stepR_seq ar1⟩
   | ex e1 =>
    cases e1 with
    | norm =>
     have h:(bT C nt y).run ih ph (bd+1) t1 df1 g1=.ok e t' df' g':=h;have E:=dc hC.mon hi.mon hp.mon _ h wf1;obtain⟨a1,w1,γ1,i,o,f1,tr1,dr1,pv1,ar1⟩:=ihx hc A w γ hg nx b a (.code y::k) cs hr hx l (hf.le E.nx) ht n m d;obtain⟨a2,H,γ2,B,F,f2,tr2,dr2,pv2,ar2⟩:=ihy h A w1 γ1 i _ b a1 k cs f1.rel (f1.ext z hx) wf1 (f1.freed hr z hf) tr1 dr1 m d;exact⟨a2,H,γ2,B,F,f1.trans f2 z E,tr2,dr2,pv2,ar2.of_steps (.head stepR_seq ar1)⟩
    | exit j =>
     have h:PR.ok (.ex (.exit j)) t1 df1 g1=.ok e t' df' g':=h;injection h with h1 h2 p h4;subst h1;subst h2;subst p;subst h4;obtain⟨a1,w1,γ1,i,o,f1,tr1,dr1,pv1,k₁,hk,ar1⟩:=ihx hc A w γ hg nx b a (.code y::k) cs hr hx l hf ht n m d;exact⟨a1,w1,γ1,i,o,f1,tr1,dr1,pv1,k₁,by rw[hk];rfl,.head stepR_seq ar1⟩
    | ret =>
     have h:PR.ok (.ex .ret) t1 df1 g1=.ok e t' df' g':=h;injection h with h1 h2 p h4;subst h1;subst h2;subst p;subst h4;obtain⟨a1,w1,γ1,i,o,f1,tr1,dr1,pv1,k₁,ar1⟩:=ihx hc A w γ hg nx b a (.code y::k) cs hr hx l hf ht n m d;exact⟨a1,w1,γ1,i,o,f1,tr1,dr1,pv1,k₁,.head stepR_seq ar1⟩
 | cond c x y ihx ihy =>
  intro t df g e t' df' g' h A w γ hg nx b a k cs hr hx l hf ht n m d;simp only[bT]at h
  split at h
  rotate_left
  ·cases h
  rename_i s hs;dsimp only at h;have J:=au hs ht hr;generalize hcv:a.eval c=vc at J;generalize s.run t=cv at h J;cases J with
  | bool _ bv =>
   dsimp only at h;cases bv with
   | true =>
    obtain⟨a1,w1,γ1,i,o,f1,tr1,dr1,pv1,ar1⟩:=ihx h A w γ hg nx b a k cs hr hx l hf ht n m d;exact⟨a1,w1,γ1,i,o,f1,tr1,dr1,pv1,ar1.of_steps (.one (by simpa using stepR_cond (P:=C.P) (b:=b) (a:=a) (k:=k) (cs:=cs) (w:=w) (x:=x) (y:=y) hcv))⟩
   | false =>
    obtain⟨a1,w1,γ1,i,o,f1,tr1,dr1,pv1,ar1⟩:=ihy h A w γ hg nx b a k cs hr hx l hf ht n m d;exact⟨a1,w1,γ1,i,o,f1,tr1,dr1,pv1,ar1.of_steps (.one (by simpa using stepR_cond (P:=C.P) (b:=b) (a:=a) (k:=k) (cs:=cs) (w:=w) (x:=x) (y:=y) hcv))⟩
  |_=>cases h
 | block id body ihb =>
  intro t df g e t' df' g' h A w γ hg nx b a k cs hr hx l hf ht n m d;simp only[bT]at h;generalize hc:(bT C nt body).run ih ph (bd+1) t df g=r at h;cases r with
  |fail=>cases h
  | ok e1 t1 df1 g1 =>
   cases e1 with
   | pan v =>
    have h:PR.ok (.pan v) t1 df1 g1=.ok e t' df' g':=h;injection h with h1 h2 p h4;subst h1;subst h2;subst p;subst h4;obtain⟨a1,w1,γ1,i,o,f1,tr1,dr1,pv1,k₁,ar1⟩:=ihb hc A w γ hg nx b a (.inBlock id::k) cs hr hx l hf ht n m d;exact⟨a1,w1,γ1,i,o,f1,tr1,dr1,pv1,k₁,.head stepR_block ar1⟩
   | ex e1 =>
    cases e1 with
    | norm =>
     have h:PR.ok (.ex .norm) t1 df1 g1=.ok e t' df' g':=h;injection h with h1 h2 p h4;subst h1;subst h2;subst p;subst h4;obtain⟨a1,w1,γ1,i,o,f1,tr1,dr1,pv1,ar1⟩:=ihb hc A w γ hg nx b a (.inBlock id::k) cs hr hx l hf ht n m d;exact⟨a1,w1,γ1,i,o,f1,tr1,dr1,pv1,.head stepR_block (Steps.trans ar1 (.one stepR_inBlock))⟩
    | exit j =>
     simp only[qt,aa]at h
     split at h
     ·rename_i D;have D:=aB D;subst D;injection h with h1 h2 p h4;subst h1;subst h2;subst p;subst h4;obtain⟨a1,w1,γ1,i,o,f1,tr1,dr1,pv1,k₁,hk,ar1⟩:=ihb hc A w γ hg nx b a (.inBlock j::k) cs hr hx l hf ht n m d;exact⟨a1,w1,γ1,i,o,f1,tr1,dr1,trivial,.head stepR_block (Steps.trans ar1 (.one (stepR_exit (by rw[hk];simp[exitTo]))))⟩
     ·rename_i D;injection h with h1 h2 p h4;subst h1;subst h2;subst p;subst h4;obtain⟨a1,w1,γ1,i,o,f1,tr1,dr1,pv1,k₁,hk,ar1⟩:=ihb hc A w γ hg nx b a (.inBlock id::k) cs hr hx l hf ht n m d;refine⟨a1,w1,γ1,i,o,f1,tr1,dr1,pv1,k₁,?_,.head stepR_block ar1⟩;rw[hk];have I:(id == j)=false:=by simp only[beq_eq_false_iff_ne,ne_eq];rintro rfl;exact D (UT _)
      simp[exitTo,I]
    | ret =>
     have h:PR.ok (.ex .ret) t1 df1 g1=.ok e t' df' g':=h;injection h with h1 h2 p h4;subst h1;subst h2;subst p;subst h4;obtain⟨a1,w1,γ1,i,o,f1,tr1,dr1,pv1,k₁,ar1⟩:=ihb hc A w γ hg nx b a (.inBlock id::k) cs hr hx l hf ht n m d;exact⟨a1,w1,γ1,i,o,f1,tr1,dr1,pv1,k₁,.head stepR_block ar1⟩
 | loop body ihb =>
  intro t df g e t' df' g' h A w γ hg nx b a k cs hr hx l hf ht n m d;simp only[bT]at h;generalize hc:(bT C nt body).run ih ph (bd+1) t df g=r at h;cases r with
  |fail=>cases h
  | ok e1 t1 df1 g1 =>
   have z:=dc hC.mon hi.mon hp.mon _ hc l;have wf1:=z.wf l;cases e1 with
   | pan v =>
    have h:PR.ok (.pan v) t1 df1 g1=.ok e t' df' g':=h;injection h with h1 h2 p h4;subst h1;subst h2;subst p;subst h4;obtain⟨a1,w1,γ1,i,o,f1,tr1,dr1,pv1,k₁,ar1⟩:=ihb hc A w γ hg nx b a (.inLoop body::k) cs hr hx l hf ht n m d;exact⟨a1,w1,γ1,i,o,f1,tr1,dr1,pv1,k₁,.head stepR_loop ar1⟩
   | ex e1 =>
    cases e1 with
    | norm =>
     have h:ph.code nt (bd+1) (.loop body) t1 df1 g1=.ok e t' df' g':=h;have E:=hp.mon.code _ _ _ _ _ _ _ _ _ _ h wf1;obtain⟨a1,w1,γ1,i,o,f1,tr1,dr1,pv1,ar1⟩:=ihb hc A w γ hg nx b a (.inLoop body::k) cs hr hx l (hf.le E.nx) ht n m d;obtain⟨a2,H,γ2,B,F,f2,tr2,dr2,pv2,ar2⟩:=hp.code _ _ _ _ _ _ _ _ _ _ h A w1 γ1 i _ b a1 k cs f1.rel (f1.ext z hx) wf1 (f1.freed hr z hf) tr1 dr1 m d;refine⟨a2,H,γ2,B,F,f1.trans f2 z E,tr2,dr2,pv2,ArrP.of_steps (.head stepR_loop (Steps.trans ar1 (.one stepR_inLoop))) ?_⟩;have q:step C.P (lone (b.atR a1 (.code (.loop body)::k)) cs w1)=.next (lone (b.atR a1 (.code body::.inLoop body::k)) cs w1):=stepR_loop;have ne:∀{a':Act} {k':List Item} {w':World},k'≠.code (.loop body)::k->lone (b.atR a1 (.code (.loop body)::k)) cs w1≠lone (b.atR a' k') cs w':=λh h'=>h (Bv h').symm;cases e with
     | pan v =>
      obtain⟨k₁,ar2⟩:=ar2;refine⟨k₁,gi ar2 (λh'=>?_) q⟩;have h1:(lone (b.atR a1 (.code (.loop body)::k)) cs w1).gs=(lone ((b.atR a2 k₁).raise [{ v:=F,recovered:=false }]) cs H).gs:=by rw[h']
      simp only[lone,Array.mk.injEq,List.cons.injEq,and_true]at h1;have h2:=congrArg (λg:Goroutine=>g.frame.mode) h1;simp[Frame.atR,Frame.raise]at h2
     | ex e =>
      cases e with
      |norm=>exact gi ar2 (ne (λh=>by have:=congrArg List.length h;simp at this)) q
      | exit j =>
       obtain⟨k₁,hk,ar2⟩:=ar2;exact⟨k₁,hk,gi ar2 (ne (λh=>by injection h with h _;injection h with h;cases h)) q⟩
      | ret =>
       obtain⟨k₁,ar2⟩:=ar2;exact⟨k₁,gi ar2 (ne (λh=>by injection h with h _;injection h with h;cases h)) q⟩
    | exit j =>
     have h:PR.ok (.ex (.exit j)) t1 df1 g1=.ok e t' df' g':=h;injection h with h1 h2 p h4;subst h1;subst h2;subst p;subst h4;obtain⟨a1,w1,γ1,i,o,f1,tr1,dr1,pv1,k₁,hk,ar1⟩:=ihb hc A w γ hg nx b a (.inLoop body::k) cs hr hx l hf ht n m d;exact⟨a1,w1,γ1,i,o,f1,tr1,dr1,pv1,k₁,by rw[hk];rfl,.head stepR_loop ar1⟩
    | ret =>
     have h:PR.ok (.ex .ret) t1 df1 g1=.ok e t' df' g':=h;injection h with h1 h2 p h4;subst h1;subst h2;subst p;subst h4;obtain⟨a1,w1,γ1,i,o,f1,tr1,dr1,pv1,k₁,ar1⟩:=ihb hc A w γ hg nx b a (.inLoop body::k) cs hr hx l hf ht n m d;exact⟨a1,w1,γ1,i,o,f1,tr1,dr1,pv1,k₁,.head stepR_loop ar1⟩
 | scope body ihb =>
  intro t df g e t' df' g' h A w γ hg nx b a k cs hr hx l hf ht n m d;have h:(bT C nt body).run ih ph (bd+1) t df g=.ok e t' df' g':=h;obtain⟨a1,w1,γ1,i,o,f1,tr1,dr1,pv1,ar1⟩:=ihb h A w γ hg nx b a (.inScope body::k) cs hr hx l hf ht n m d;refine⟨a1,w1,γ1,i,o,f1,tr1,dr1,pv1,?_⟩;cases e with
  |pan v=>obtain⟨k₁,ar1⟩:=ar1;exact⟨k₁,.head cI ar1⟩
  | ex e =>
   cases e with
   |norm=>exact .head cI (Steps.trans ar1 (.one py))
   |exit j=>obtain⟨k₁,hk,ar1⟩:=ar1;exact⟨k₁,by rw[hk];rfl,.head cI ar1⟩
   |ret=>obtain⟨k₁,ar1⟩:=ar1;exact⟨k₁,.head cI ar1⟩
 |_=>intro t df g e t' df' g' h;simp only[bT]at h;exact FZ hC hi h
theorem NM(hC:CfgOk C)(hi:IHOk C ih)(hp:PHOk C ph):∀(c:Code) {v:AV} {t:T} {g:G} {e:PE} {t':T} {df':List ADf} {g':G},
  (mH C nt c).run ih ph (bd+1) v t g=.ok e t' df' g'->∀A w γ hg nx (b:Frame) (a:Act) k c0 cs u,Rel C A bd w γ hg nx->Ext g.h hg->WF g->Free γ g g'->TR w γ A bd nt t a.tmps->a.defers=[]->RV w γ A bd v u ->
  b.roundOf=none->b.kind=.deferred->c0.mode=.panicking [{ v:=u,recovered:=false }] ->
  zD C A bd nt b k ({ c0 with mode:=.panicking [{ v:=u,recovered:=true }] }::cs) (lone (b.atR a (.code c::k)) (c0::cs) w) w γ hg nx g e t' df' g':=by
 intro c
 induction c with
 | region id ops draw =>
  intro v t g e t' df' g' h A w γ hg nx b a k c0 cs u hr hx l hf ht m q i hk hm;cases draw with
  |true=>cases h
  | false =>
   simp only[mH]at h
   split at h
   rotate_left
   ·cases h
   rename_i o rest z
   split at h
   rotate_left
   ·cases h
   rename_i ca cb D I
   split at h
   rotate_left
   ·cases h
   rename_i out E;have ho:ops[0]?=some o:=by
    have:ops.toList[0]?=some o:=by rw[z];rfl
    simpa using this
   have hd:∀c,o.op≠.defer c:=by rw[D];intro c h;cases h
   have hw:Region.wanted o (yielded ops a.tmps)=true:=by simp[Region.wanted,I]
   have st0:=GJ (P:=C.P) (b:=b) (a:=a) (k:=k) (cs:=cs) (rest:=List.range' 1 rest.length) (w:=w) ho hw hd hk i hm
    (by simp only[execOp,D,resolve,invoke,Ut,UN,Uq];rfl)
   obtain⟨a',w',γ',hg',uu,f,tr,dr,pv,st⟩:=Gi (b:=b) (cs:={ c0 with mode:=.panicking [{ v:=u,recovered:=true }] }::cs) (k:=k) (a:=a.put o.dst u) hC hi hp rest 1 (by rw[z];rfl) h l hr hx hf (ht.put E q)
    (by cases hd:o.dst<;>simp[Act.put,m,DR]) i (.inr ⟨hk,_,cs,rfl,.inr ⟨u,false,[],rfl⟩⟩)
   have K:List.range ops.size=0::List.range' 1 rest.length:=by
    have:ops.size=rest.length+1:=by rw[<-Array.length_toList,z];rfl
    rw[this,W5,W7]
   refine⟨a',w',γ',hg',uu,f,tr,dr,pv,st.of_steps (.head stepR_region (.one ?_))⟩;rw[K];exact st0
 | seq x y ihx _ =>
  intro v t g e t' df' g' h A w γ hg nx b a k c0 cs u hr hx l hf ht m q i hk hm;simp only[mH]at h;generalize hc:(mH C nt x).run ih ph (bd+1) v t g=r at h;cases r with
  |fail=>cases h
  | ok e1 t1 df1 g1 =>
   have F:=Bf hC.mon hi.mon hp.mon _ hc l;have wf1:=F.wf l;cases e1 with
   | pan v1 =>
    have h:PR.ok (.pan v1) t1 df1 g1=.ok e t' df' g':=h;injection h with h1 h2 p h4;subst h1;subst h2;subst p;subst h4;obtain⟨a1,w1,γ1,d,n,f1,tr1,dr1,pv1,k₁,ar1⟩:=ihx hc A w γ hg nx b a (.code y::k) c0 cs u hr hx l hf ht m q i hk hm;exact⟨a1,w1,γ1,d,n,f1,tr1,dr1,pv1,k₁,.head stepR_seq ar1⟩
   | ex e1 =>
    cases e1 with
    | norm =>
     have h:(bT C nt y).run ih ph (bd+1) t1 df1 g1=.ok e t' df' g':=h;have L:=dc hC.mon hi.mon hp.mon _ h wf1;obtain⟨a1,w1,γ1,d,n,f1,tr1,dr1,pv1,ar1⟩:=ihx hc A w γ hg nx b a (.code y::k) c0 cs u hr hx l (hf.le L.nx) ht m q i hk hm;obtain⟨a2,N,γ2,H,M,f2,tr2,dr2,pv2,ar2⟩:=pO hC hi hp y h A w1 γ1 d _ b a1 k ({ c0 with mode:=.panicking [{ v:=u,recovered:=true }] }::cs) f1.rel (f1.ext F hx) wf1 (f1.freed hr F hf) tr1 dr1 i (.inr ⟨hk,_,cs,rfl,.inr ⟨u,false,[],rfl⟩⟩);exact⟨a2,N,γ2,H,M,f1.trans f2 F L,tr2,dr2,pv2,ar2.of_steps (.head stepR_seq ar1)⟩
    | exit j =>
     have h:PR.ok (.ex (.exit j)) t1 df1 g1=.ok e t' df' g':=h;injection h with h1 h2 p h4;subst h1;subst h2;subst p;subst h4;obtain⟨a1,w1,γ1,d,n,f1,tr1,dr1,pv1,k₁,s,ar1⟩:=ihx hc A w γ hg nx b a (.code y::k) c0 cs u hr hx l hf ht m q i hk hm;exact⟨a1,w1,γ1,d,n,f1,tr1,dr1,pv1,k₁,by rw[s];rfl,.head stepR_seq ar1⟩
    | ret =>
     have h:PR.ok (.ex .ret) t1 df1 g1=.ok e t' df' g':=h;injection h with h1 h2 p h4;subst h1;subst h2;subst p;subst h4;obtain⟨a1,w1,γ1,d,n,f1,tr1,dr1,pv1,k₁,ar1⟩:=ihx hc A w γ hg nx b a (.code y::k) c0 cs u hr hx l hf ht m q i hk hm;exact⟨a1,w1,γ1,d,n,f1,tr1,dr1,pv1,k₁,.head stepR_seq ar1⟩
 | block id body ihb =>
  intro v t g e t' df' g' h A w γ hg nx b a k c0 cs u hr hx l hf ht m q i hk hm;simp only[mH]at h;generalize hc:(mH C nt body).run ih ph (bd+1) v t g=r at h;cases r with
  |fail=>cases h
  | ok e1 t1 df1 g1 =>
   cases e1 with
   | pan v1 =>
    have h:PR.ok (.pan v1) t1 df1 g1=.ok e t' df' g':=h;injection h with h1 h2 p h4;subst h1;subst h2;subst p;subst h4;obtain⟨a1,w1,γ1,d,n,f1,tr1,dr1,pv1,k₁,ar1⟩:=ihb hc A w γ hg nx b a (.inBlock id::k) c0 cs u hr hx l hf ht m q i hk hm;exact⟨a1,w1,γ1,d,n,f1,tr1,dr1,pv1,k₁,.head stepR_block ar1⟩
   | ex e1 =>
    cases e1 with
    | norm =>
     have h:PR.ok (.ex .norm) t1 df1 g1=.ok e t' df' g':=h;injection h with h1 h2 p h4;subst h1;subst h2;subst p;subst h4;obtain⟨a1,w1,γ1,d,n,f1,tr1,dr1,pv1,ar1⟩:=ihb hc A w γ hg nx b a (.inBlock id::k) c0 cs u hr hx l hf ht m q i hk hm;exact⟨a1,w1,γ1,d,n,f1,tr1,dr1,pv1,.head stepR_block (Steps.trans ar1 (.one stepR_inBlock))⟩
    | exit j =>
     simp only[qt,aa]at h
     split at h
     ·rename_i B;have B:=aB B;subst B;injection h with h1 h2 p h4;subst h1;subst h2;subst p;subst h4;obtain⟨a1,w1,γ1,d,n,f1,tr1,dr1,pv1,k₁,s,ar1⟩:=ihb hc A w γ hg nx b a (.inBlock j::k) c0 cs u hr hx l hf ht m q i hk hm;exact⟨a1,w1,γ1,d,n,f1,tr1,dr1,trivial,.head stepR_block (Steps.trans ar1 (.one (stepR_exit (by rw[s];simp[exitTo]))))⟩
     ·rename_i B;injection h with h1 h2 p h4;subst h1;subst h2;subst p;subst h4;obtain⟨a1,w1,γ1,d,n,f1,tr1,dr1,pv1,k₁,s,ar1⟩:=ihb hc A w γ hg nx b a (.inBlock id::k) c0 cs u hr hx l hf ht m q i hk hm;refine⟨a1,w1,γ1,d,n,f1,tr1,dr1,pv1,k₁,?_,.head stepR_block ar1⟩;rw[s];have J:(id == j)=false:=by simp only[beq_eq_false_iff_ne,ne_eq];rintro rfl;exact B (UT _)
      simp[exitTo,J]
    | ret =>
     have h:PR.ok (.ex .ret) t1 df1 g1=.ok e t' df' g':=h;injection h with h1 h2 p h4;subst h1;subst h2;subst p;subst h4;obtain⟨a1,w1,γ1,d,n,f1,tr1,dr1,pv1,k₁,ar1⟩:=ihb hc A w γ hg nx b a (.inBlock id::k) c0 cs u hr hx l hf ht m q i hk hm;exact⟨a1,w1,γ1,d,n,f1,tr1,dr1,pv1,k₁,.head stepR_block ar1⟩
 | scope body ihb =>
  intro v t g e t' df' g' h A w γ hg nx b a k c0 cs u hr hx l hf ht m q i hk hm;have h:(mH C nt body).run ih ph (bd+1) v t g=.ok e t' df' g':=h;obtain⟨a1,w1,γ1,d,n,f1,tr1,dr1,pv1,ar1⟩:=ihb h A w γ hg nx b a (.inScope body::k) c0 cs u hr hx l hf ht m q i hk hm;refine⟨a1,w1,γ1,d,n,f1,tr1,dr1,pv1,?_⟩;cases e with
  |pan v=>obtain⟨k₁,ar1⟩:=ar1;exact⟨k₁,.head cI ar1⟩
  | ex e =>
   cases e with
   |norm=>exact .head cI (Steps.trans ar1 (.one py))
   |exit j=>obtain⟨k₁,hk,ar1⟩:=ar1;exact⟨k₁,by rw[hk];rfl,.head cI ar1⟩
   |ret=>obtain⟨k₁,ar1⟩:=ar1;exact⟨k₁,.head cI ar1⟩
 |_=>intro v t g e t' df' g' h;cases h
theorem NN(hC:CfgOk C)(hi:IHOk C ih)(hp:PHOk C ph){g:G}(h:xW C ih ph (bd+1) f v as g=some g'):Enters C.P f /\
  ∀A w γ hg nx vs,Rel C A bd w γ hg nx->Ext g.h hg->WF g->Free γ g g'->RVs w γ A bd as vs->∀(c0:Frame) (cs:List Frame) (u:Value),RV w γ A bd v u->c0.mode=.panicking [{ v:=u,recovered:=false }] ->
  ∃w' γ' hg' frX val,Fin C A bd w γ hg nx g w' γ' hg' g' /\
   Steps C.P (lone (Frame.enter C.P f vs.toArray .deferred) (c0::cs) w) (lone frX ({ c0 with mode:=.panicking [{ v:=u,recovered:=true }] }::cs) w')/\frX.kind=.deferred/\frX.going C.P w' (.returned val):=by
 unfold xW at h
 split at h
 ·cases h
 rename_i fn hfn
 split at h
 rotate_left
 ·cases h
 rename_i c r hbody hres;rw[aa]at h
 split at h
 ·cases h
 rename_i hcond;simp only[UZ,not_or,U5,Bool.not_eq_false']at hcond;obtain⟨hname,hle⟩:=hcond;rw[UR,aq]at hle;refine⟨λargs w=>?_,?_⟩
 ·unfold callFunc;have hn : fn.name ≠ "runtime.NumGoroutine" := by simpa using hname
  simp[hfn,hn,hbody]
 intro A w γ hg nx vs hr hx hwf hf hv c0 cs u hvu hm
 let b:Frame:={ (default:Frame) with fn:=f,kind:=.deferred,roundOf:=none }
 let a0:Act:={ tmps:=vs.toArray++Array.replicate (fn.ntmps - vs.toArray.size) undef,defers:=[] }
 have henter:Frame.enter C.P f vs.toArray .deferred=b.atR a0 [.code c]:=by simp[Frame.enter,Frame.atR,hfn,hbody,b,a0]
 have key:∀{e:Ex} {t1:T} {g1:G},(mH C fn.ntmps c).run ih ph (bd+1) v (ba 0 as .nil) g=.ok (.ex e) t1 [] g1->(∀j,e≠.exit j)->(match r.run t1 g1 with|some _=>some g1|none=>none)=some g' ->
   ∃w' γ' hg' frX val,Fin C A bd w γ hg nx g w' γ' hg' g' /\
   Steps C.P (lone (Frame.enter C.P f vs.toArray .deferred) (c0::cs) w) (lone frX ({ c0 with mode:=.panicking [{ v:=u,recovered:=true }] }::cs) w')/\frX.kind=.deferred/\frX.going C.P w' (.returned val):=by
  intro e t1 g1 hc hne hend
  split at hend
  rotate_left
  ·cases hend
  rename_i xs hxs;injection hend with hend;subst hend;have m1:=Bf hC.mon hi.mon hp.mon _ hc hwf;obtain⟨a1,w1,γ1,hg1,u1,f1,tr1,dr1,pv1,ar1⟩:=NM hC hi hp c hc A w γ hg nx b a0 [] c0 cs u hr hx hwf hf (zb hv hle) rfl hvu rfl rfl hm;have hd1:a1.defers=[]:=by
   cases hd:a1.defers with
   |nil=>rfl
   |cons d ds=>rw[hd]at dr1;exact dr1.elim
  obtain⟨us,hus,hrv⟩:=zP hC tr1 f1.rel (f1.ext m1 hx) hres hxs;obtain⟨val,hval,_⟩:=tW (γ:=γ1) (A:=A) (bd:=bd) hus;rw[henter];cases e with
  |norm=>exact⟨w1,γ1,hg1,{ b.atR a1 [] with mode:=.returning },val,f1,Steps.trans ar1 (.one (stepR_end rfl)),rfl,rfl,hd1,fn,hfn,hval⟩
  | ret =>
   obtain⟨k₁,ar1⟩:=ar1;exact⟨w1,γ1,hg1,{ b.atR a1 (.code .ret::k₁) with mode:=.returning },val,f1,Steps.trans ar1 (.one (stepR_ret rfl)),rfl,rfl,hd1,fn,hfn,hval⟩
  |exit j=>exact absurd rfl (hne j)
 split at h
 ·cases h
 ·rename_i e t1 g1 hne hc;exact key hc (by rintro j rfl;exact hne j rfl) h
 ·cases h
theorem yp(hC:CfgOk C)(hi:IHOk C ih){fn:Func}{r:Stg (T->G->Option (List AV))}(hres:nT C fn.results.toList=some r)
  (hend:bN ih (bd+1) r.run t df g=.ok v g') (hwf:WF g) (hr:Rel C A bd w γ hg nx) (hx:Ext g.h hg) (hf:Free γ g g') {fr:Frame} {cs:List Frame} (ht:TR w γ A bd fn.ntmps t fr.tmps) (hdf:DR w γ A bd df fr.defers) (hm:fr.mode=.returning) :
  ∃u w' γ' hg',Fin C A bd w γ hg nx g w' γ' hg' g'/\RV w' γ' A bd v u/\Steps C.P (lone fr cs w) (lone { fr with defers:=[] } cs w')/\(results fn fr.tmps).run C.P w'=.ok u w':=by
 unfold bN at hend
 split at hend
 ·cases hend
 rename_i g2 h2;have f:=mT hi.mon h2 hwf
 split at hend
 rotate_left
 ·cases hend
 rename_i xs e;injection hend with h1 a;subst a;subst h1;obtain⟨i,γ2,b,f2,st2⟩:=Da hi h2 hwf (fr:=fr) (cs:=cs) hr hx hf hdf hm;obtain⟨us,d,c⟩:=zP hC (ht.step f2.stp) f2.rel (f2.ext f hx) hres e;obtain⟨u,hu,k⟩:=tW (γ:=γ2) (A:=A) (bd:=bd) d;exact⟨u,i,γ2,b,f2,k c,st2,hu⟩
theorem Ah(hC:CfgOk C)(hi:IHOk C ih)(hp:PHOk C ph){fn:Func}{r:Stg (T->G->Option (List AV))}(hres:nT C fn.results.toList=some r)(hwf:WF g)(hr:Rel C A bd w γ hg nx)(hx:Ext g.h hg)(hf:Free γ g g')
  {fr:Frame} {cs:List Frame} (ht:TR w γ A bd fn.ntmps t fr.tmps) (hdf:DR w γ A bd df fr.defers)  (hm:fr.mode=.panicking [{ v:=u,recovered:=false }]) (hv:RV w γ A bd v u) (hfn:C.P.funcs[fr.fn]?=some fn) :
  (∀x,jX C ih ph (bd+1) r.run v t df g=.ok x g'->∃y w' γ' hg',Fin C A bd w γ hg nx g w' γ' hg' g'/\RV w' γ' A bd x y/\Steps C.P (lone fr cs w) (lone { fr with mode:=.returning,defers:=[] } cs w')/\(results fn fr.tmps).run C.P w'=.ok y w') /\
  (∀x,jX C ih ph (bd+1) r.run v t df g=.pan x g'->∃y w' γ' hg',Fin C A bd w γ hg nx g w' γ' hg' g'/\RV w' γ' A bd x y/\fr.leaving C.P w' (.panicked [{ v:=y,recovered:=false }])/\w'=w):=by
 unfold jX
 split
 ·refine⟨λx h=>(by cases h),λx h=>?_⟩;injection h with h1 h2;subst h1;subst h2;have hd:fr.defers=[]:=by
   cases hd:fr.defers with
   |nil=>rfl
   |cons d ds=>rw[hd]at hdf;exact hdf.elim
  exact⟨u,w,γ,hg,Fin.refl hr,hv,⟨hm,hd,fn,hfn⟩,rfl⟩
 ·rename_i f cap args ds
  split
  rotate_left
  ·exact⟨λx h=>(by cases h),λx h=>(by cases h)⟩
  rename_i g1 h1;refine⟨λx h=>?_,λx h=>(xl h).elim⟩;have h:=zz h;have m:=Gt hC.mon hi.mon hp.mon h1 hwf;have wf1:=m.wf hwf;have q:=oe hi.mon h wf1;obtain⟨j,l⟩:=NN (bd:=bd) hC hi hp h1;cases hd:fr.defers with
  |nil=>rw[hd]at hdf;exact hdf.elim
  | cons d es =>
   rw[hd]at hdf;obtain⟨⟨f',ys,us,i,k,p,a⟩,hdf⟩:=hdf;injection i with e1 B s;subst e1;subst s
   let fr0:Frame:={ fr with defers:=es }
   obtain⟨w1,γ1,n,frX,val,f1,st,q1,q2⟩:=l A w γ hg nx (d.args.toList++us.toList) hr hx hwf (hf.le q.nx) (by simpa using a.append p) fr0 cs u hv hm;have e:(d.args.toList++us.toList).toArray=d.args++us:=by apply W0;simp
   rw[e]at st
   let fr1:Frame:={ fr with defers:=es,mode:=.returning }
   obtain⟨y,z,γ2,o,f2,rv,st2,b⟩:=yp (w:=w1) (γ:=γ1) (hg:=n) (fr:=fr1) (cs:=cs) hC hi hres h wf1 f1.rel (f1.ext m hx) (f1.freed hr m hf) (ht.step f1.stp) (hdf.step f1.stp) rfl;refine⟨y,z,γ2,o,f1.trans f2 m q,rv,.head (step_defer (by rw[hm];simp) hd k ?_) (Steps.trans st (.head ?_ st2)),b⟩
   ·rw[k];simp only[invoke];exact j _ _
   ·have:=step_going_returned (P:=C.P) (c:={ fr0 with mode:=.panicking [{ v:=u,recovered:=true }] }) (cs:=cs) q1 q2;simpa [settle,fr0,fr1] using this
 ·exact⟨λx h=>(by cases h),λx h=>(by cases h)⟩
theorem kI(hC:CfgOk C)(hi:IHOk C ih)(hp:PHOk C ph) :
  (dG C ih ph (bd+1) f as g=.ok v g'->Enters C.P f/\y9 C bd f as g v g')/\(dG C ih ph (bd+1) f as g=.pan v g'->Enters C.P f/\Ip C bd f as g v g'):=by
 unfold dG
 split
 ·exact⟨λh=>(by cases h),λh=>(by cases h)⟩
 rename_i fn hfn
 split
 rotate_left
 ·exact⟨λh=>(by cases h),λh=>(by cases h)⟩
 rename_i c r hbody hres;rw[aa]
 split
 ·exact⟨λh=>(by cases h),λh=>(by cases h)⟩
 rename_i hcond;simp only[UZ,not_or,U5,Bool.not_eq_false']at hcond;obtain⟨hname,hle⟩:=hcond;rw[UR,aq]at hle;have hent:Enters C.P f:=λargs w=>by
  unfold callFunc;have hn : fn.name ≠ "runtime.NumGoroutine" := by simpa using hname
  simp[hfn,hn,hbody]
 have enter:∀(K:CallKind) (vs:List Value),Frame.enter C.P f vs.toArray K=({ (default:Frame) with fn:=f,kind:=K,roundOf:=none }:Frame).atR { tmps:=vs.toArray++Array.replicate (fn.ntmps - vs.toArray.size) undef,defers:=[] } [.code c]:=λK vs=>by simp[Frame.enter,Frame.atR,hfn,hbody]
 split
 ·exact⟨λh=>(by cases h),λh=>(by cases h)⟩
 ·rename_i e t1 df1 g1 hne hc;refine⟨λh=>⟨hent,?_⟩,λh=>(xl h).elim⟩;have h:=zz h;intro A w γ hg nx vs hr hex hwf hf hv K cs hcalm;have m1:=dc hC.mon hi.mon hp.mon _ hc hwf;have wf1:=m1.wf hwf;have m2:=oe hi.mon h wf1;obtain⟨a1,w1,γ1,hg1,u1,f1,tr1,dr1,pv1,ar1⟩:=pO hC hi hp c hc A w γ hg nx { (default:Frame) with fn:=f,kind:=K,roundOf:=none } { tmps:=vs.toArray++Array.replicate (fn.ntmps - vs.toArray.size) undef,defers:=[] } [] cs hr hex hwf (hf.le m2.nx) (zb hv hle) trivial rfl hcalm;have hret:∃fr:Frame,Steps C.P (lone (Frame.enter C.P f vs.toArray K) cs w) (lone fr cs w1)/\fr.mode=.returning/\fr.defers=a1.defers/\fr.kind=K/\fr.fn=f/\fr.tmps=a1.tmps:=by
   rw[enter];cases e with
   |norm=>exact⟨_,Steps.trans ar1 (.one (stepR_end rfl)),rfl,rfl,rfl,rfl,rfl⟩
   | ret =>
    obtain⟨k₁,ar1⟩:=ar1;exact⟨_,Steps.trans ar1 (.one (stepR_ret rfl)),rfl,rfl,rfl,rfl,rfl⟩
   |exit j=>exact absurd rfl (hne j)
  obtain⟨fr,st1,q1,q2,q3,q4,q5⟩:=hret;obtain⟨u,w2,γ2,hg2,f2,rv,st2,hres2⟩:=yp (w:=w1) (γ:=γ1) (hg:=hg1) (fr:=fr) (cs:=cs) hC hi hres h wf1 f1.rel (f1.ext m1 hex) (f1.freed hr m1 hf) (by rw[q5];exact tr1) (by rw[q2];exact dr1) q1;exact⟨u,w2,γ2,hg2,f1.trans f2 m1 m2,rv,{ fr with defers:=[] },Steps.trans st1 st2,q1,rfl,q3,q4,fn,hfn,hres2⟩
 ·rename_i v1 t1 df1 g1 hc;have key:∀(A:Nat->Nat->Prop) (w:World) (γ:Gm) (hg:Nat->AObj) (nx:Nat) (vs:List Value),Rel C A bd w γ hg nx->Ext g.h hg->WF g->Free γ g g1->RVs w γ A bd as vs->∀K cs,pD K cs ->
    ∃fr w1 γ1 hg1 u1,Mon g g1/\Fin C A bd w γ hg nx g w1 γ1 hg1 g1/\TR w1 γ1 A bd fn.ntmps t1 fr.tmps/\DR w1 γ1 A bd df1 fr.defers/\RV w1 γ1 A bd v1 u1/\fr.mode=.panicking [{ v:=u1,recovered:=false }]/\fr.kind=K/\fr.fn=f /\
     Steps C.P (lone (Frame.enter C.P f vs.toArray K) cs w) (lone fr cs w1):=by
   intro A w γ hg nx vs hr hex hwf hf hv K cs hcalm;have m1:=dc hC.mon hi.mon hp.mon _ hc hwf;obtain⟨a1,w1,γ1,hg1,u1,f1,tr1,dr1,pv1,k₁,ar1⟩:=pO hC hi hp c hc A w γ hg nx { (default:Frame) with fn:=f,kind:=K,roundOf:=none } { tmps:=vs.toArray++Array.replicate (fn.ntmps - vs.toArray.size) undef,defers:=[] } [] cs hr hex hwf hf (zb hv hle) trivial rfl hcalm;rw[enter];exact⟨_,w1,γ1,hg1,u1,m1,f1,tr1,dr1,pv1,rfl,rfl,rfl,ar1⟩
  refine⟨λh=>⟨hent,?_⟩,λh=>⟨hent,?_⟩⟩
  ·intro A w γ hg nx vs hr hex hwf hf hv K cs hcalm;have m1:=dc hC.mon hi.mon hp.mon _ hc hwf;have m2:=vD hC.mon hi.mon hp.mon (.inl h) (m1.wf hwf);obtain⟨fr,w1,γ1,hg1,u1,_,f1,tr1,dr1,rv1,q1,q3,q4,st1⟩:=key A w γ hg nx vs hr hex hwf (hf.le m2.nx) hv K cs hcalm;obtain⟨u,w2,γ2,hg2,f2,rv,st2,hres2⟩:=(Ah (fr:=fr) (cs:=cs) hC hi hp hres (m1.wf hwf) f1.rel (f1.ext m1 hex) (f1.freed hr m1 hf) tr1 dr1 q1 rv1 (by rw[q4];exact hfn)).1 v h;exact⟨u,w2,γ2,hg2,f1.trans f2 m1 m2,rv,_,Steps.trans st1 st2,rfl,rfl,q3,q4,fn,hfn,hres2⟩
  ·intro A w γ hg nx vs hr hex hwf hf hv K cs hcalm;have m1:=dc hC.mon hi.mon hp.mon _ hc hwf;have m2:=vD hC.mon hi.mon hp.mon (.inr h) (m1.wf hwf);obtain⟨fr,w1,γ1,hg1,u1,_,f1,tr1,dr1,rv1,q1,q3,q4,st1⟩:=key A w γ hg nx vs hr hex hwf (hf.le m2.nx) hv K cs hcalm;obtain⟨u,w2,γ2,hg2,f2,rv,hl,rfl⟩:=(Ah (fr:=fr) (cs:=cs) hC hi hp hres (m1.wf hwf) f1.rel (f1.ext m1 hex) (f1.freed hr m1 hf) tr1 dr1 q1 rv1 (by rw[q4];exact hfn)).2 v h;exact⟨u,w2,γ2,hg2,f1.trans f2 m1 m2,rv,fr,st1,hl⟩
 ·exact⟨λh=>(by cases h),λh=>(by cases h)⟩
theorem PO(hC:CfgOk C)(n:Nat):∀m,PHOk C (RB C n m):=by
 intro m
 induction m with
 |zero=>exact⟨Bi hC.mon n 0,λbd nt c t df g e t' df' g' h=>(by cases h),λbd f as g v g' h=>(by cases h),λbd f as g v g' h=>(by cases h)⟩
 | succ m ihm =>
  exact⟨Bi hC.mon n (m+1),λbd nt c t df g e t' df' g' h=>pO hC (mb hC n) ihm c h,λbd f as g v g' h=>(kI hC (mb hC n) ihm).1 h,λbd f as g v g' h=>(kI hC (mb hC n) ihm).2 h⟩
end
end
def Nu:PF->FR
 |.ok v g=>.ok v g
 |_=>.fail
def ihP(C:Cfg)(n m:Nat):IH:=⟨λ_ _ _ _ _ _ _=>.fail,λd f as g=>Nu ((RB C n m).call d f as g)⟩
theorem Ek{r:PF}(h:Nu r=.ok v g):r=.ok v g:=by
 cases r with
 |ok v' g'=>injection h with h1 h2;rw[h1,h2]
 |fail=>cases h
 |pan v' g'=>cases h
theorem MS(hC:CfgOk C):zB C (ihP C n m):=λbd f as g v g' h=>(PO hC n m).call bd f as g v g' (Ek h)
theorem O9(hC:CfgOk C):wg (ihP C n m):=λd f as g v g' h hwf=>(Bi hC.mon n m).call d f as g v g' (.inl (Ek h)) hwf
def MW(C:Cfg)(n m f:Nat):Nat->List AV->G->OR:=λd as g=>ac (ihP C n m) d g f as
theorem IV{ih:IH}(hc:zB C ih)(hm:wg ih):ExtOk C f (λd as g=>ac ih d g f as):=by refine⟨λd args g hwf=>lE hwf,λd args g y=>pi,λA bd w γ hg nx g as vs hr hwf hx hf hv hne cs=>?_⟩;obtain⟨he,u,w',γ',hg',fin,rv,out⟩:=om hc hm hr hx hv hne cs;exact⟨u,w',γ',hg',fin,rv,.inr ⟨he,out⟩⟩
theorem zg(hC:CfgOk C):ExtOk C f (MW C n m f):=IV (MS hC) (O9 hC)
def vg(a b:PR):Prop:=a=.fail\/a=b
def LC(a b:PF):Prop:=a=.fail\/a=b
structure PHLe (a b:PH):Prop where
 code:∀nt d c t df g,vg (a.code nt d c t df g) (b.code nt d c t df g)
 call:∀d f xs g,LC (a.call d f xs g) (b.call d f xs g)
section
variable {C:Cfg}{ih:IH}{p q:PH}
theorem Lu{out:T->AV->T}{n m:T->List ADf->G->PR}{a b:PF}(h:LC a b)(hn:∀t df g,vg (n t df g) (m t df g)):vg (Bu out n t df a) (Bu out m t df b):=by
 rcases h with rfl|rfl
 ·exact .inl rfl
 ·cases a with
  |fail=>exact .inl rfl
  |ok v g=>exact hn _ _ _
  |pan v g=>exact .inr rfl
theorem Df{out:T->AV->T}{n m:T->List ADf->G->PR}{r:OR}(hn:∀t df g,vg (n t df g) (m t df g)):vg (pA out n t df g r) (pA out m t df g r):=by
 cases r with
 |fail=>exact .inl rfl
 |val v=>exact hn _ _ _
 |upd v g'=>exact hn _ _ _
 |dfr a=>exact hn _ _ _
theorem LT(h:PHLe p q){fv:AV}{vs:List AV}:(pH C p d fv vs g=none/\pH C q d fv vs g=none)\/∃a b,pH C p d fv vs g=some a/\pH C q d fv vs g=some b/\LC a b:=by
 unfold pH
 split
 ·rw[aa,aa]
  split
  ·exact .inl ⟨rfl,rfl⟩
  ·exact .inr ⟨_,_,rfl,rfl,h.call _ _ _ _⟩
 ·exact .inl ⟨rfl,rfl⟩
theorem Jm(h:PHLe p q){out:T->AV->T}{n m:T->List ADf->G->PR}(hn:∀t df g,vg (n t df g) (m t df g)) :
  vg ((tM C op out).run n ih p d t df g) ((tM C op out).run m ih q d t df g):=by
 unfold tM
 split
 ·split
  ·exact .inr rfl
  ·exact .inl rfl
 ·split
  ·dsimp only
   split
   ·rename_i ty v _;cases e:Nat.beq ty _ with
    |true=>exact hn _ _ _
    |false=>exact .inl rfl
   ·exact .inl rfl
  ·exact .inl rfl
 ·split
  ·dsimp only;rename_i fv vs _ _;rcases LT (C:=C) h (d:=d) (fv:=fv.run t) (vs:=vs.run t) (g:=g) with⟨h1,h2⟩|⟨a,b,h1,h2,k⟩
   ·rw[h1,h2];exact Df hn
   ·rw[h1,h2];exact Lu k hn
  ·exact .inl rfl
 ·exact Df hn
theorem Jo(h:PHLe p q){all:List Oper}:∀(l:List Oper) (d:Nat) (t:T) (df:List ADf) (g:G),vg ((nJ C nt all l).run ih p d t df g) ((nJ C nt all l).run ih q d t df g):=by
 intro l
 induction l with
 |nil=>intro d t df g;exact .inr rfl
 | cons o rest ihl =>
  intro d t df g;simp only[nJ]
  split
  ·split
   ·exact Jm h λt df g=>ihl d t df g
   ·split
    ·dsimp only
     split
     ·exact Jm h λt df g=>ihl d t df g
     ·exact ihl _ _ _ _
     ·exact .inl rfl
    ·exact .inl rfl
  ·exact .inl rfl
theorem Ev{n m:T->List ADf->G->PR}{a b:PR}(h:vg a b)(hn:∀t df g,vg (n t df g) (m t df g)):vg (H5 n a) (H5 m b):=by
 rcases h with rfl|rfl
 ·exact .inl rfl
 ·unfold H5
  split
  ·exact hn _ _ _
  ·exact .inr rfl
theorem Co{id:Nat}{a b:PR}(h:vg a b):vg (qt id a) (qt id b):=by
 rcases h with rfl|rfl
 ·exact .inl rfl
 ·exact .inr rfl
theorem z_(h:PHLe p q):∀(c:Code) (d:Nat) (t:T) (df:List ADf) (g:G),vg ((bT C nt c).run ih p d t df g) ((bT C nt c).run ih q d t df g):=by
 intro c
 induction c with
 | region ps ops draw =>
  intro d t df g;cases draw with
  |false=>exact Jo h _ _ _ _ _
  |true=>exact .inr rfl
 | seq a b iha ihb =>
  intro d t df g;exact Ev (iha _ _ _ _) λt df g=>ihb _ _ _ _
 | cond c a b iha ihb =>
  intro d t df g;simp only[bT]
  split
  ·dsimp only
   split
   ·rw[aa,aa]
    split
    ·exact iha _ _ _ _
    ·exact ihb _ _ _ _
   ·exact .inl rfl
  ·exact .inl rfl
 |block id b ihb=>intro d t df g;exact Co (ihb _ _ _ _)
 |loop b ihb=>intro d t df g;exact Ev (ihb _ _ _ _) λt df g=>h.code _ _ _ _ _ _
 |scope b ihb=>intro d t df g;exact ihb _ _ _ _
 |_=>intro d t df g;exact .inr rfl
theorem PI(h:PHLe p q):∀(c:Code) (d:Nat) (v:AV) (t:T) (g:G),vg ((mH C nt c).run ih p d v t g) ((mH C nt c).run ih q d v t g):=by
 intro c
 induction c with
 | region ps ops draw =>
  intro d v t g;cases draw with
  | false =>
   simp only[mH]
   split
   ·split
    ·split
     ·exact Jo h _ _ _ _ _
     ·exact .inl rfl
    ·exact .inl rfl
   ·exact .inl rfl
  |true=>exact .inl rfl
 | seq a b iha ihb =>
  intro d v t g;exact Ev (iha _ _ _ _) λt df g=>z_ h _ _ _ _ _
 |block id b ihb=>intro d v t g;exact Co (ihb _ _ _ _)
 |scope b ihb=>intro d v t g;exact ihb _ _ _ _
 |_=>intro d v t g;exact .inl rfl
theorem PJ(h:PHLe p q):xW C ih p d f v xs g=none\/xW C ih p d f v xs g=xW C ih q d f v xs g:=by
 unfold xW
 split
 ·exact .inl rfl
 ·split
  ·rename_i c r _ _;rw[aa,aa]
   split
   ·exact .inl rfl
   ·rcases PI (C:=C) (ih:=ih) h c d v (ba 0 xs .nil) g with e|e
    ·rw[e];exact .inl rfl
    ·rw[e];exact .inr rfl
  ·exact .inl rfl
theorem Ki(h:PHLe p q){res:T->G->Option (List AV)}:∀{df:List ADf} {g:G},LC (jX C ih p d res v t df g) (jX C ih q d res v t df g):=by
 intro df g;unfold jX
 split
 ·exact .inr rfl
 ·rename_i f cap xs ds;rcases PJ (C:=C) (ih:=ih) h (d:=d) (f:=f) (v:=v) (xs:=xs++cap) (g:=g) with e|e
  ·rw[e];exact .inl rfl
  ·rw[e];exact .inr rfl
 ·exact .inl rfl
theorem DE(h:PHLe p q):LC (dG C ih p d f xs g) (dG C ih q d f xs g):=by
 unfold dG
 split
 ·exact .inl rfl
 ·rename_i fn _
  split
  ·rename_i c r _ _;rw[aa,aa]
   split
   ·exact .inl rfl
   ·rcases z_ (C:=C) (ih:=ih) h (nt:=fn.ntmps) c d (ba 0 xs .nil) [] g with e|e
    ·rw[e];exact .inl rfl
    ·rw[e]
     split
     ·exact .inl rfl
     ·exact .inr rfl
     ·exact Ki h
     ·exact .inl rfl
  ·exact .inl rfl
theorem Lq(h:PHLe p q):PHLe (EC C ih p) (EC C ih q):=⟨λ_ _ c _ _ _=>z_ h c _ _ _ _,λ_ _ _ _=>DE h⟩
end
def fO(C:Cfg)(m:Nat):PH:=@Nat.rec (λ_=>PH) PH.zero (λ_ ph=>EC C (I C) ph) m
theorem xh(C:Cfg):∀m,PHLe (fO C m) (fO C (m+1))
 |0=>⟨λ_ _ _ _ _ _=>.inl rfl,λ_ _ _ _=>.inl rfl⟩
 |m+1=>Lq (xh C m)
theorem PHLe.trans{a b c:PH}(h:PHLe a b)(h':PHLe b c):PHLe a c :=
 ⟨λnt d x t df g=>(h.code nt d x t df g).elim .inl λe=>by rw[e];exact h'.code nt d x t df g,λd f xs g=>(h.call d f xs g).elim .inl λe=>by rw[e];exact h'.call d f xs g⟩
theorem JI(C:Cfg)(h:n<=m):PHLe (fO C n) (fO C m):=by
 induction h with
 |refl=>exact⟨λ_ _ _ _ _ _=>.inr rfl,λ_ _ _ _=>.inr rfl⟩
 |step _ ih=>exact ih.trans (xh C _)
theorem Sg{C:Cfg}(hC:CfgOk C):IHOk C (I C):=by
 have k:∀{nt d:Nat} {rd:Option Nat} {c:Code} {t:T} {df:List ADf} {g:G} {r:CR},(I C).code nt d rd c t df g=r->∃n,(sem C n).code nt d rd c t df g=r:=λ{nt d rd c t df g r} h=>by obtain⟨m,h'⟩:=Ct.code (C:=C) nt d rd c t df g;exact⟨m,by rw[<-h];exact h' m (Ui m)⟩
 refine⟨⟨λnt d rd c t df g e t' df' g' h hwf=>?_,λd f xs g v g' h hwf=>?_⟩,λbd f xs g v g' h=>?_,?_⟩
 ·obtain⟨n,h⟩:=k h;exact (mb hC n).mon.code _ _ _ _ _ _ _ _ _ _ _ h hwf
 ·obtain⟨n,h⟩:=LA h;exact (mb hC n).mon.call _ _ _ _ _ _ h hwf
 ·obtain⟨n,h⟩:=LA h;exact (mb hC n).call _ _ _ _ _ _ h
 ·intro bd nt rd c t df g e t' df' g' h;obtain⟨n,h⟩:=k h;exact (mb hC n).code _ _ _ _ _ _ _ _ _ _ _ h
theorem JJ{C:Cfg}(hC:CfgOk C):∀m,PHOk C (fO C m):=by
 intro m
 induction m with
 |zero=>exact⟨⟨λnt d c t df g e t' df' g' h=>(by cases h),λd f xs g v g' h=>(by rcases h with h|h<;>cases h)⟩,λbd nt c t df g e t' df' g' h=>(by cases h),λbd f xs g v g' h=>(by cases h),λbd f xs g v g' h=>(by cases h)⟩
 | succ m ihm =>
  have hi:=Sg hC;exact⟨⟨λnt d c t df g e t' df' g' h hwf=>dc hC.mon hi.mon ihm.mon c h hwf,λd f xs g v g' h hwf=>uL hC.mon hi.mon ihm.mon h hwf⟩,
   λbd nt c t df g e t' df' g' h=>pO hC hi ihm c h,λbd f xs g v g' h=>(kI hC hi ihm).1 h,λbd f xs g v g' h=>(kI hC hi ihm).2 h⟩
open Classical in
def KE(C:Cfg):IH:=⟨λ_ _ _ _ _ _ _=>.fail,λd f xs g=>if h:∃m,Nu ((fO C m).call d f xs g)≠.fail then Nu ((fO C (Classical.choose h)).call d f xs g) else .fail⟩
theorem FM{C:Cfg}(h:(KE C).call d f xs g=.ok v g'):∃m,(fO C m).call d f xs g=.ok v g':=by
 unfold KE at h;dsimp only at h
 split at h
 ·exact⟨_,Ek h⟩
 ·cases h
theorem O8{C:Cfg}(h:(fO C m).call d f xs g=.ok v g'):(KE C).call d f xs g=.ok v g':=by
 have a:∃m,Nu ((fO C m).call d f xs g)≠.fail:=⟨m,by rw[h];intro e;cases e⟩;unfold KE;dsimp only;rw[dif_pos a];have hs:=Classical.choose_spec a;generalize Classical.choose a=k at hs;have e:(fO C k).call d f xs g=(fO C m).call d f xs g:=by
  rcases Nat.le_total k m with hk|hk
  ·rcases (JI C hk).call d f xs g with e|e
   ·rw[e]at hs;exact absurd rfl hs
   ·exact e
  ·rcases (JI C hk).call d f xs g with e|e
   ·rw[h]at e;cases e
   ·exact e.symm
 rw[e,h];rfl
def eL(C:Cfg)(f:Nat):Nat->List AV->G->OR:=λd xs g=>ac (KE C) d g f xs
theorem AN{C:Cfg}(hC:CfgOk C):ExtOk C f (eL C f) :=
 IV (λbd f xs g v g' h=>by obtain⟨m,h⟩:=FM h;exact (JJ hC m).call _ _ _ _ _ _ h)
  (λd f xs g v g' h hwf=>by obtain⟨m,h⟩:=FM h;exact (JJ hC m).mon.call _ _ _ _ _ _ (.inl h) hwf)
abbrev QP:=PE->T->List ADf->G->Prop
def EvP(F:Nat->PR)(Q:QP):Prop:=∃m e t df g,(∀m',m<=m'->F m'=.ok e t df g)/\Q e t df g
def CallsP(C:Cfg)(d f:Nat)(xs:List AV)(g:G)(K KP:AV->G->Prop):Prop :=
 ∃m,(∃v g',(∀m',m<=m'->(fO C m').call d f xs g=.ok v g')/\K v g')\/∃v g',(∀m',m<=m'->(fO C m').call d f xs g=.pan v g')/\KP v g'
def mc(C:Cfg)(f:Nat):Bool:=(C.ext f).isSome || C.iso f
def qY:Op->Bool
 |.panic _=>false
 |.typeAssert ..=>false
 |.call { callee:=.value _,.. }=>false
 |_=>true
def ma(C:Cfg)(d:Nat)(i:SI)(W:PT)(Q:QP)(t:T)(df:List ADf)(g:G):Prop :=
 match i.op with
 |.call f xs=>if mc C f=true then pu C d none i W t df g else CallsP C d f (eH t xs) g (λv g'=>W (nY i.dst t v) df g') λv g'=>Q (.pan v) t df g'
 | .dyn fo xs=>match fo.get t with
  |.clo f first cap=>if mc C f=true then pu C d none i W t df g else CallsP C d f (first++(eH t xs++cap)) g (λv g'=>W (nY i.dst t v) df g') λv g'=>Q (.pan v) t df g'
  |_=>False
 | .raw (.panic x)=>match nOd C x with
  | some o=>match o.get t with
   |.ifc ty v=>Q (.pan (.ifc ty v)) t df g
   |_=>False
  |none=>False
 | .raw (.typeAssert x _ asserted ok)=>match nOd C x,C.P.underlying asserted with
  | some o,some (.int _)=>match o.get t with
   |.ifc ty v=>if ty=asserted then W (nY i.dst t (ak ok (.tup [v,.bool true]) v)) df g else False
   |_=>False
  |_,_=>False
 |.raw op=>if qY op=true then pu C d none i W t df g else False
 |_=>pu C d none i W t df g
def wpQ(C:Cfg)(d:Nat):List SI->QP->T->List ADf->G->Prop
 |[],Q,t,df,g=>Q (.ex .norm) t df g
 | i::r,Q,t,df,g =>
  match i.gd with
  |none=>ma C d i (wpQ C d r Q) Q t df g
  |some (s,w)=>gdP (tat t s) w (ma C d i (wpQ C d r Q) Q) (yE i (wpQ C d r Q)) t df g
def kSP(W:PT)(Q:QP)(e:PE)(t:T)(df:List ADf)(g:G):Prop:=match e with|.ex .norm=>W t df g|e=>Q e t df g
def kBP(id:Nat)(Q:QP)(e:PE)(t:T)(df:List ADf)(g:G):Prop:=match e with|.ex (.exit j)=>ak (Nat.beq j id) (Q (.ex .norm) t df g) (Q (.ex (.exit j)) t df g)|e=>Q e t df g
def kLP(Inv:Nat->PT)(k:Nat)(Q:QP)(e:PE)(t:T)(df:List ADf)(g:G):Prop:=match e with|.ex .norm=>∃k',k'<k/\Inv k' t df g|e=>Q e t df g
def RM(W:QP->PT)(Q:QP)(t:T)(df:List ADf)(g:G):Prop :=
 ∃Inv:Nat->PT,(∃k,Inv k t df g)/\∀k t df g,Inv k t df g->W (kLP Inv k Q) t df g
def wpP(C:Cfg)(d:Nat):SC->QP->T->List ADf->G->Prop
 |.ops l,Q,t,df,g=>wpQ C d l Q t df g
 |.seq a b,Q,t,df,g=>wpP C d a (kSP (wpP C d b Q) Q) t df g
 |.cond c a b,Q,t,df,g=>wpC (c.get t) (wpP C d a Q) (wpP C d b Q) t df g
 |.blk id b,Q,t,df,g=>wpP C d b (kBP id Q) t df g
 |.loop b,Q,t,df,g=>RM (wpP C d b) Q t df g
 |.raw _ _,_,_,_,_=>False
 |c,Q,t,df,g=>wp C d none c (λe t df g=>Q (.ex e) t df g) t df g
section
variable {C:Cfg}{d:Nat}
theorem EvP.now{e:PE}{Q:QP}(h:Q e t df g):EvP (λ_=>.ok e t df g) Q:=⟨0,e,t,df,g,λ_ _=>rfl,h⟩
theorem Sy{F F':Nat->PR}{Q:QP}(h:EvP F Q)(e:∀m,F' m=F m):EvP F' Q:=by have:F'=F:=funext e;rw[this];exact h
theorem Sz{out:T->AV->T}(ho:∀t v,out t v=nY dst t v){next:Nat->T->List ADf->G->PR}{Q:QP}(hn:∀t df g,W t df g->EvP (λm=>next m t df g) Q)
     {r:OR} (h:r.sat (kO W dst t df) g (kD W dst t df g)):EvP (λm=>pA out (next m) t df g r) Q:=by
 cases r with
 |fail=>exact h.elim
 |val v=>exact hn _ _ _ (by rw[ho];exact h)
 |upd v g'=>exact hn _ _ _ (by rw[ho];exact h)
 |dfr a=>exact hn _ _ _ (by rw[ho];exact h)
theorem EvP.call{out:T->AV->T}{dst:Option Nat}(ho:∀t v,out t v=nY dst t v){next:Nat->T->List ADf->G->PR}{W:PT}{Q:QP}(hn:∀t df g,W t df g->EvP (λm=>next m t df g) Q)
  {t:T} {df:List ADf} {g:G} {f:Nat} {xs:List AV} (h:CallsP C d f xs g (λv g'=>W (nY dst t v) df g') λv g'=>Q (.pan v) t df g') :
  EvP (λm=>Bu out (next m) t df ((fO C m).call d f xs g)) Q:=by
 obtain⟨m,⟨v,g',h1,h2⟩|⟨v,g',h1,h2⟩⟩:=h
 ·obtain⟨a,e,t2,df2,g2,k,h4⟩:=hn _ _ _ (by rw[<-ho]at h2;exact h2);refine⟨max m a,e,t2,df2,g2,λm' hm=>?_,h4⟩;dsimp only;rw[h1 m' (by omega)];exact k m' (by omega)
 ·exact⟨m,.pan v,t,df,g',λm' hm=>by dsimp only;rw[h1 m' hm];rfl,h2⟩
theorem HM(hp:qY op=true){out:T->AV->T}{next:T->List ADf->G->PR}{ih:IH}{ph:PH} :
  (tM C op out).run next ih ph d t df g=pA out next t df g ((bC C op).run ih d none t g):=by
 unfold tM
 split
 ·cases hp
 ·cases hp
 ·cases hp
 ·rfl
theorem C3(hp:qY op=true):(∀f xs,nOp C op≠.call f xs)/\(∀f xs,nOp C op≠.dyn f xs)/\∀o,nOp C op=.raw o->o=op:=by
 have hs:(∀f xs,Eh C op≠.call f xs)/\(∀f xs,Eh C op≠.dyn f xs)/\∀o,Eh C op=.raw o->o=op:=by unfold Eh;refine⟨λf xs=>?_,λf xs=>?_,λo=>?_⟩<;>(repeat' split)<;>intro h<;>first| (cases h;done)| (cases h;rfl)| (rw[aa]at h;split at h<;>first| (cases h;done)| (cases h;rfl))
 unfold nOp
 split
 ·cases hp
 ·cases hp
 ·refine⟨λf xs=>?_,λf xs=>?_,λo=>?_⟩<;>(repeat' split)<;>intro h<;>first| (cases h;done)| (cases h;rfl)| (rw[aa]at h;split at h<;>first| (cases h;done)| (cases h;rfl))
 ·exact hs
theorem H4(hp:qY op=true){gd:Option (Nat×Bool)}{Q:QP}(h:ma C d ⟨dst,gd,nOp C op⟩ W Q t df g):pu C d none ⟨dst,gd,nOp C op⟩ W t df g:=by
 obtain⟨h1,h2,k⟩:=C3 (C:=C) hp;unfold ma at h
 split at h
 ·rename_i e;exact absurd e (h1 _ _)
 ·rename_i e;exact absurd e (h2 _ _)
 ·rename_i x e;have:=k _ e;subst this;cases hp
 ·rename_i e;have:=k _ e;subst this;cases hp
 ·rename_i o _ e;have:=k _ e;subst this;rw[Un hp]at h;exact h
 ·exact h
theorem Jn{out:T->AV->T}{gd:Option (Nat×Bool)}(ho:∀t v,out t v=nY dst t v){next:Nat->T->List ADf->G->PR}{Q:QP}(hn:∀t df g,W t df g->EvP (λm=>next m t df g) Q)
     (h:ma C d ⟨dst,gd,nOp C op⟩ W Q t df g):EvP (λm=>(tM C op out).run (next m) (I C) (fO C m) d t df g) Q:=by
 by_cases hp:qY op=true
 ·have h:=H4 hp h;refine Sy ?_ λm=>HM hp;refine Sz ho hn ?_;rw[<-xT];exact h
 ·cases op with
  | panic x =>
   have e:nOp C (.panic x)=.raw (.panic x):=rfl;rw[e]at h;unfold ma at h;dsimp only at h
   split at h
   ·rename_i o hx;obtain⟨s,hs,he⟩:=aM hx
    split at h
    ·rename_i ty v k;refine Sy (EvP.now h) λm=>?_;simp only[tM,hs,he,k]
    ·exact h.elim
   ·exact h.elim
  | typeAssert x a b c =>
   have e:nOp C (.typeAssert x a b c)=.raw (.typeAssert x a b c):=rfl;rw[e]at h;unfold ma at h;dsimp only at h
   split at h
   ·rename_i o ik hx hu;obtain⟨s,hs,he⟩:=aM hx
    split at h
    ·rename_i ty v k
     split at h
     ·rename_i p;subst p;refine Sy (hn _ _ _ h) λm=>?_;simp only[tM,hs,hu,he,k,aa,UT,if_true,ho]
     ·exact h.elim
    ·exact h.elim
   ·exact h.elim
  | call c =>
   obtain⟨callee,args,ats⟩:=c;cases callee with
   | value fo =>
    have key:∀{fv:AV} {vs:List AV} {f:Nat} {first cap:List AV},fv=.clo f first cap->(if mc C f=true then ((nOp C (.call ⟨.value fo,args,ats⟩)).run C d none t g).sat (kO W dst t df) g (kD W dst t df g) else CallsP C d f (first++(vs++cap)) g (λv g'=>W (nY dst t v) df g') λv g'=>Q (.pan v) t df g') ->
      EvP (λm=>match pH C (fO C m) d fv vs g with
       |some r=>Bu out (next m) t df r
       |none=>pA out (next m) t df g ((bC C (.call ⟨.value fo,args,ats⟩)).run (I C) d none t g)) Q:=by
     intro fv vs f first cap j h
     subst j
     by_cases hs:mc C f=true
     ·rw[Un hs]at h;refine Sy (Sz ho hn (by rw[xT]at h;exact h)) λm=>?_;have:pH C (fO C m) d (.clo f first cap) vs g=none:=by show ak (mc C f) none _=none;rw[aa,Un hs]
      rw[this]
     ·rw[Um hs]at h;refine Sy (EvP.call ho hn h) λm=>?_;have:pH C (fO C m) d (.clo f first cap) vs g=some ((fO C m).call d f (first++(vs++cap)) g):=by show ak (mc C f) none _=_;rw[aa,Um hs]
      rw[this]
    have dynCase:(∀f,fo≠.func f)->ma C d ⟨dst,gd,nOp C (.call ⟨.value fo,args,ats⟩)⟩ W Q t df g->EvP (λm=>(tM C (.call ⟨.value fo,args,ats⟩) out).run (next m) (I C) (fO C m) d t df g) Q:=by
     intro l h;have e:nOp C (.call ⟨.value fo,args,ats⟩)=match nOd C fo,lH C args.toList with
      |some f,some vs=>.dyn f vs
      |_,_=>.raw (.call ⟨.value fo,args,ats⟩):=by
      cases fo<;>first|rfl|exact absurd rfl (l _)
     cases hfo:nOd C fo with
     | none =>
      rw[hfo]at e;rw[e]at h;unfold ma at h;dsimp only at h;rw[Um hp]at h;exact h.elim
     | some fo2 =>
      cases k:lH C args.toList with
      | none =>
       rw[hfo,k]at e;rw[e]at h;unfold ma at h;dsimp only at h;rw[Um hp]at h;exact h.elim
      | some vs =>
       rw[hfo,k]at e;obtain⟨s,hs,he⟩:=cN k;obtain⟨u,n,i⟩:=aM hfo;have h':=h;rw[e]at h';unfold ma at h';dsimp only at h'
       split at h'
       ·rename_i f first cap hc
        refine Sy (key (fv:=fo2.get t) (vs:=eH t vs) hc ?_) λm=>by simp only[tM,hs,he,n,i];try rfl
        rw[e];exact h'
       ·exact h'.elim
    cases fo with
    | func f =>
     cases k:lH C args.toList with
     | some vs =>
      have e:nOp C (.call ⟨.value (.func f),args,ats⟩)=.call f vs:=by simp only[nOp,k]
      obtain⟨s,hs,he⟩:=cN k;have h':=h;rw[e]at h';unfold ma at h';dsimp only at h';have q:aP C (.func f)=some ⟨λ_=>.clo f [] []⟩:=rfl;refine Sy (key (fv:=.clo f [] []) (vs:=eH t vs) rfl ?_) λm=>by simp only[tM,q,hs,he];try rfl
      rw[e];simpa only[UM,Ux,pu] using h'
     | none =>
      have e:nOp C (.call ⟨.value (.func f),args,ats⟩)=.raw (.call ⟨.value (.func f),args,ats⟩):=by simp only[nOp,k]
      rw[e]at h;unfold ma at h;dsimp only at h;rw[Um hp]at h;exact h.elim
    |_=>exact dynCase (λf e=>by cases e) h
   |invoke r m=>exact absurd rfl hp
   |builtin b=>exact absurd rfl hp
  |_=>exact absurd rfl hp
theorem Jp{all:List Oper}{Q:QP}:∀(l:List Oper) (s:List SI),Eg C nt all l=some s->∀t df g,wpQ C d s Q t df g->EvP (λm=>(nJ C nt all l).run (I C) (fO C m) d t df g) Q:=by
 intro l
 induction l with
 |nil=>intro s h t df g hq;injection h with h;subst h;exact EvP.now hq
 | cons o rest ih =>
  intro s h t df g hq;unfold Eg at h
  split at h
  ·rename_i gd r hd hg hr;injection h with h;subst h;obtain⟨ot,e1,a⟩:=zm hd;have nx:∀t df g,wpQ C d r Q t df g->EvP (λm=>(nJ C nt all rest).run (I C) (fO C m) d t df g) Q:=ih r hr;cases hgd:o.guard with
   | none =>
    rw[hgd]at hg;injection hg with hg;subst hg;refine Sy (Jn (op:=o.op) (out:=ot.run) (dst:=o.dst) (gd:=none) a nx hq) λm=>?_;simp only[nJ,e1,hgd]
   | some jw =>
    obtain⟨j,w⟩:=jw;rw[hgd]at hg;obtain⟨sl,h1,h2⟩:=ub hg;subst h1;obtain⟨q,b,h4,h5⟩:=AB hq;have k:(gp AV.undef sl).run t=tat t sl:=gp_run _ _ _;cases q with
    | true =>
     refine Sy (Jn (op:=o.op) (out:=ot.run) (dst:=o.dst) (gd:=some (sl,w)) a nx (h4 rfl)) λm=>?_;simp only[nJ,e1,hgd,h2,k,b]
    | false =>
     refine Sy (nx _ _ _ (h5 rfl)) λm=>?_;simp only[nJ,e1,hgd,h2,k,b,a]
  ·cases h
theorem ug{c:Code}{Q:QP}(h:wp C d none (bQ C nt c) (λe t df g=>Q (.ex e) t df g) t df g):EvP (λ_=>Jc ((aK C nt c).run (I C) d none t df g)) Q:=by
 have h:=OB c _ _ _ _ h;cases hr:(aK C nt c).run (I C) d none t df g with
 |fail=>rw[hr]at h;exact h.elim
 |ok e t1 df1 g1=>rw[hr]at h;exact EvP.now h
theorem EvP.seq{F:Nat->PR}{k:Nat->T->List ADf->G->PR}{Q:QP}(h:EvP F (kSP W Q))(hk:∀t df g,W t df g->EvP (λm=>k m t df g) Q):EvP (λm=>H5 (k m) (F m)) Q:=by
 obtain⟨m,e,t,df,g,h1,h2⟩:=h;cases e with
 |pan v=>exact⟨m,.pan v,t,df,g,λm' hm=>by dsimp only;rw[h1 m' hm];rfl,h2⟩
 | ex e =>
  cases e with
  | norm =>
   obtain⟨c,a,t2,df2,g2,b,h4⟩:=hk _ _ _ h2;refine⟨max m c,a,t2,df2,g2,λm' hm=>?_,h4⟩;dsimp only;rw[h1 m' (by omega)];exact b m' (by omega)
  |exit j=>exact⟨m,.ex (.exit j),t,df,g,λm' hm=>by dsimp only;rw[h1 m' hm];rfl,h2⟩
  |ret=>exact⟨m,.ex .ret,t,df,g,λm' hm=>by dsimp only;rw[h1 m' hm];rfl,h2⟩
theorem EvP.blk{F:Nat->PR}{id:Nat}{Q:QP}(h:EvP F (kBP id Q)):EvP (λm=>qt id (F m)) Q:=by
 obtain⟨m,e,t,df,g,h1,h2⟩:=h;cases e with
 |pan v=>exact⟨m,.pan v,t,df,g,λm' hm=>by dsimp only;rw[h1 m' hm];rfl,h2⟩
 | ex e =>
  cases e with
  |norm=>exact⟨m,.ex .norm,t,df,g,λm' hm=>by dsimp only;rw[h1 m' hm];rfl,h2⟩
  |ret=>exact⟨m,.ex .ret,t,df,g,λm' hm=>by dsimp only;rw[h1 m' hm];rfl,h2⟩
  | exit j =>
   have h2:ak (Nat.beq j id) (Q (.ex .norm) t df g) (Q (.ex (.exit j)) t df g):=h2;cases hb:Nat.beq j id with
   |true=>rw[hb]at h2;exact⟨m,.ex .norm,t,df,g,λm' hm=>by dsimp only;rw[h1 m' hm];show ak (Nat.beq j id) _ _=_;rw[hb],h2⟩
   |false=>rw[hb]at h2;exact⟨m,.ex (.exit j),t,df,g,λm' hm=>by dsimp only;rw[h1 m' hm];show ak (Nat.beq j id) _ _=_;rw[hb],h2⟩
theorem Oz:∀(c:Code) (Q:QP) (t:T) (df:List ADf) (g:G),wpP C d (bQ C nt c) Q t df g->EvP (λm=>(bT C nt c).run (I C) (fO C m) d t df g) Q:=by
 intro c
 induction c with
 | region p ops draw =>
  intro Q t df g h;unfold bQ at h;cases draw with
  | false =>
   split at h
   ·rename_i l hl;exact Jp _ _ hl _ _ _ h
   ·exact h.elim
  | true =>
   refine ug ?_;unfold bQ
   split at h
   ·rename_i l hl;rw[aa]at h ⊢;rw[Un rfl]at h ⊢;rw[aa]at h ⊢
    split at h
    ·rw[Un (by assumption)];rw[aa]at h ⊢
     split at h
     ·rw[Un (by assumption)];exact h
     ·rw[Um (by assumption)];exact h
    ·exact h.elim
   ·exact h.elim
 | seq a b iha ihb =>
  intro Q t df g h;exact EvP.seq (iha _ _ _ _ h) λt df g h=>ihb _ _ _ _ h
 | cond q a b iha ihb =>
  intro Q t df g h;unfold bQ at h
  split at h
  ·rename_i o ho;obtain⟨s,hs,he⟩:=aM ho;have h:wpC (o.get t) (wpP C d (bQ C nt a) Q) (wpP C d (bQ C nt b) Q) t df g:=h;unfold wpC at h;cases hv:Od.get t o with
   | bool v =>
    rw[hv]at h;cases v with
    |true=>exact Sy (iha _ _ _ _ (h.1 rfl)) λm=>by simp only[bT,hs,he,hv]
    |false=>exact Sy (ihb _ _ _ _ (h.2 rfl)) λm=>by simp only[bT,hs,he,hv]
   |_=>rw[hv]at h;exact h.elim
  ·exact h.elim
 | block id body ih =>
  intro Q t df g h;exact EvP.blk (ih _ _ _ _ h)
 | loop body ih =>
  intro Q t df g h;obtain⟨Inv,⟨k,hk⟩,hs⟩:=h
  induction k using Nat.strongRecOn generalizing t df g with
  | _ k rec =>
   have h:=ih _ t df g (hs k t df g hk);refine EvP.seq (k:=λm t df g=>(fO C m).code nt d (.loop body) t df g) (W:=λt df g=>∃k',k'<k/\Inv k' t df g) h ?_;rintro t df g ⟨k',i,hi⟩;obtain⟨m,e,t2,df2,g2,h1,h2⟩:=rec k' i t df g hi;refine⟨m+1,e,t2,df2,g2,λm' hm=>?_,h2⟩;obtain⟨j,rfl⟩:∃j,m'=j+1:=⟨m' - 1,by omega⟩;exact h1 j (by omega)
 |scope body ih=>intro Q t df g h;exact ih _ _ _ _ h
 |skip=>intro Q t df g h;exact ug h
 |label l=>intro Q t df g h;exact ug h
 |exit id=>intro Q t df g h;exact ug h
 |ret=>intro Q t df g h;exact ug h
 | rangeFunc f ps a b =>
  intro Q t df g h;refine ug ?_;unfold bQ at h ⊢
  split at h
  ·exact h
  ·exact h.elim
 |_=>intro Q t df g h;exact h.elim
theorem Ag{l:List ResultVar}{r:List SR}{rs:Stg (T->G->Option (List AV))}(hr:xU C l=some r)(hrs:nT C l=some rs){K:AV->G->Prop}(h:uC C d r t df g K):(bN (I C) d rs.run t df g).sat K:=by
 unfold uC at h;unfold bN
 split at h
 ·rename_i g2 k;rw[k];obtain⟨b,vs,h1,h2,a⟩:=Et _ _ _ hr h;rw[hrs]at h1;injection h1 with h1;subst h1;simp only[h2];exact a
 ·exact h.elim
theorem uc:∀{l:List ResultVar} {r:List SR},xU C l=some r->∃s,nT C l=some s
 |[],r,_=>⟨_,rfl⟩
 | x::l,r,h=>by
  cases x with
  | tmp n =>
   unfold xU at h
   split at h
   ·rename_i k hr;obtain⟨s,hs⟩:=uc hr;exact⟨_,by simp only[nT,hs];rfl⟩
   ·cases h
  | cell a ty =>
   unfold xU at h
   split at h
   ·rename_i k ag n hr ha b;obtain⟨s,hs⟩:=uc hr;exact⟨_,by simp only[nT,hs,cm,aP,ha,b];rfl⟩
   ·cases h
def OG(C:Cfg)(d f:Nat)(v:AV)(xs:List AV)(g:G)(K:G->Prop):Prop:=∃m g',(∀m',m<=m'->xW C (I C) (fO C m') d f v xs g=some g')/\K g'
def Rr(C:Cfg)(d:Nat)(r:List SR)(v:AV)(t:T)(K KP:AV->G->Prop):List ADf->G->Prop
 |[],g=>KP v g
 |.call (.clo f [] cap) xs::ds,g=>OG C d f v (xs++cap) g λg'=>uC C d r t ds g' K
 |_::_,_=>False
def fnP(C:Cfg)(d:Nat)(r:List SR)(K KP:AV->G->Prop):QP:=λe t df g=>match e with|.ex e=>fnQ C d r K e t df g|.pan v=>Rr C d r v t K KP df g
theorem fA{s:SF}(hf:nFn C f=some s){K KP:AV->G->Prop}(hl:xs.length<=s.nt)(h:wpP C d s.code (fnP C d s.res K KP) (ba 0 xs .nil) [] g):CallsP C d f xs g K KP:=by
 unfold nFn at hf
 split at hf
 ·cases hf
 rename_i fn l
 split at hf
 ·cases hf
 rename_i c hc
 split at hf
 rotate_left
 ·cases hf
 rename_i r hr;rw[aa]at hf
 split at hf
 ·cases hf
 rename_i p;injection hf with hf;subst hf;obtain⟨m,e,t,df,g',h1,h2⟩:=Oz c _ _ _ _ h;have h1:∀m',m<=m'->(bT C fn.ntmps c).run (I C) (fO C m') d (ba 0 xs .nil) [] g=.ok e t df g':=h1;obtain⟨rs,i⟩:=uc hr;have k:∀m',m<=m'->(fO C (m'+1)).call d f xs g=(match (.ok e t df g':PR) with
    |.ok (.ex (.exit _)) _ _ _=>.fail
    |.ok (.ex _) t df g'=>Ig (bN (I C) d rs.run t df g')
    |.ok (.pan v) t df g'=>jX C (I C) (fO C m') d rs.run v t df g'
    |.fail=>.fail:PF):=λm' hm=>by
  show dG C (I C) (fO C m') d f xs g=_;unfold dG;simp only[l,hc,i];rw[aa,Um (by
   have h1:Nat.ble (bi xs) fn.ntmps=true:=by rw[aq,UR];exact hl
   rw[h1];simpa using p),h1 m' hm]
  try rfl
 have key:uC C d r t df g' K->∃v g2,Ig (bN (I C) d rs.run t df g')=.ok v g2/\K v g2:=λh=>by
  have h:=Ag hr i h;cases he:bN (I C) d rs.run t df g' with
  |fail=>rw[he]at h;exact h.elim
  |ok v g2=>rw[he]at h;exact⟨v,g2,rfl,h⟩
 have up:∀{m':Nat},m+1<=m'->∃b,m'=b+1/\m<=b:=λ{m'} hm=>⟨m' - 1,by omega,by omega⟩;cases e with
 | ex e =>
  cases e with
  |exit j=>exact h2.elim
  | norm =>
   obtain⟨v,g2,n,k2⟩:=key h2;refine⟨m+1,.inl ⟨v,g2,λm' hm=>?_,k2⟩⟩;obtain⟨b,rfl,a⟩:=up hm;rw[k b a];exact n
  | ret =>
   obtain⟨v,g2,n,k2⟩:=key h2;refine⟨m+1,.inl ⟨v,g2,λm' hm=>?_,k2⟩⟩;obtain⟨b,rfl,a⟩:=up hm;rw[k b a];exact n
 | pan v =>
  have h2:Rr C d r v t K KP df g':=h2;unfold Rr at h2
  split at h2
  ·refine⟨m+1,.inr ⟨v,g',λm' hm=>?_,h2⟩⟩;obtain⟨b,rfl,a⟩:=up hm;rw[k b a];try rfl
  ·rename_i f2 cap ys ds _ _;obtain⟨q,g3,q1,q2⟩:=h2;have h:=Ag hr i q2;cases he:bN (I C) d rs.run t ds g3 with
   |fail=>rw[he]at h;exact h.elim
   | ok v2 g2 =>
    rw[he]at h;refine⟨max m q+1,.inl ⟨v2,g2,λm' hm=>?_,h⟩⟩;obtain⟨b,rfl,a⟩:=up (m':=m') (by omega);rw[k b a];show jX C (I C) (fO C b) d rs.run v t (.call (.clo f2 [] cap) ys::ds) g'=_;have o:jX C (I C) (fO C b) d rs.run v t (.call (.clo f2 [] cap) ys::ds) g'=match xW C (I C) (fO C b) d f2 v (ys++cap) g' with
     |some g'=>Ig (bN (I C) d rs.run t ds g')
     |none=>.fail:=rfl
    rw[o,q1 b (by omega)];dsimp only;rw[he];try rfl
  ·exact h2.elim
def wpR(C:Cfg)(d:Nat)(v:AV):SC->QP->T->G->Prop
 |.ops (i::l),Q,t,g=>i.gd=none/\(match i.op with|.raw (.call { callee:=.builtin .recover,.. })=>True|_=>False)/\wpQ C d l Q (nY i.dst t v) [] g
 |.seq a b,Q,t,g=>wpR C d v a (kSP (wpP C d b Q) Q) t g
 |.blk id a,Q,t,g=>wpR C d v a (kBP id Q) t g
 |_,_,_,_=>False
theorem F_(h:match nOp C op with|.raw (.call { callee:=.builtin .recover,.. })=>True|_=>False):∃args ats,op=.call ⟨.builtin .recover,args,ats⟩:=by
 by_cases hp:qY op=true
 ·split at h
  ·rename_i args ats e;have:=(C3 (C:=C) hp).2.2 _ e;exact⟨_,_,this.symm⟩
  ·exact h.elim
 ·cases op with
  | call c =>
   obtain⟨callee,args,ats⟩:=c;cases callee with
   | value fo =>
    exfalso;cases fo with
    | func f =>
     cases hv:lH C args.toList with
     |some vs=>simp only[nOp,hv]at h
     |none=>simp only[nOp,hv]at h
    | _ =>
     simp only[nOp]at h
     split at h
     ·rename_i e
      split at e<;>cases e
     ·exact h
   |invoke r m=>exact absurd rfl hp
   |builtin b=>exact absurd rfl hp
  |panic x=>exact h.elim
  |typeAssert a b c e=>exact h.elim
  |_=>exact absurd rfl hp
theorem RP:∀(c:Code) (Q:QP) (t:T) (g:G),wpR C d v (bQ C nt c) Q t g->EvP (λm=>(mH C nt c).run (I C) (fO C m) d v t g) Q:=by
 intro c
 induction c with
 | region p ops draw =>
  intro Q t g h;unfold bQ at h;cases draw with
  | false =>
   split at h
   ·rename_i l hl;have h:wpR C d v (.ops l) Q t g:=h;cases l with
    |nil=>exact h.elim
    | cons i l =>
     obtain⟨a1,a2,n⟩:=h;cases hops:ops.toList with
     |nil=>rw[hops]at hl;cases hl
     | cons o rest =>
      rw[hops]at hl;unfold Eg at hl
      split at hl
      ·rename_i gd r hd hg hr;injection hl with hl;injection hl with e1 s;subst e1;subst s;obtain⟨args,ats,e⟩:=F_ a2;have k:o.guard=none:=by
        cases hgo:o.guard with
        |none=>rfl
        | some jw =>
         obtain⟨j,w⟩:=jw;rw[hgo]at hg;obtain⟨sl,h1,-⟩:=ub hg;rw[h1]at a1;cases a1
       obtain⟨ot,f1,f2⟩:=zm hd;refine Sy (Jp (nt:=nt) (all:=o::rest) rest r hr _ _ _ n) λm=>?_;simp only[mH,hops,e,k,f1,f2]
      ·cases hl
   ·exact h.elim
  | true =>
   exfalso
   split at h
   ·rw[aa,Un rfl,aa]at h
    split at h
    ·rw[aa]at h
     split at h<;>exact h
    ·exact h
   ·exact h
 | seq a b iha ihb =>
  intro Q t g h;exact EvP.seq (iha _ _ _ h) λt df g h=>Oz b _ _ _ _ h
 | block id body ih =>
  intro Q t g h;exact EvP.blk (ih _ _ _ h)
 |scope body ih=>intro Q t g h;exact ih _ _ _ h
 | cond q a b iha ihb =>
  intro Q t g h;unfold bQ at h
  split at h<;>exact h.elim
 | rangeFunc f ps a b =>
  intro Q t g h;unfold bQ at h
  split at h<;>exact h.elim
 |_=>intro Q t g h;exact h.elim
def Su(r:List SR)(K:G->Prop):QP:=λe t df g=>match e with|.ex (.exit _)=>False|.ex _=>df=[]/\v8 r t g λ_=>K g|.pan _=>False
theorem Jx{s:SF}(hf:nFn C f=some s){K:G->Prop}(hl:xs.length<=s.nt)(h:wpR C d v s.code (Su s.res K) (ba 0 xs .nil) g):OG C d f v xs g K:=by
 unfold nFn at hf
 split at hf
 ·cases hf
 rename_i fn l
 split at hf
 ·cases hf
 rename_i c hc
 split at hf
 rotate_left
 ·cases hf
 rename_i r hr;rw[aa]at hf
 split at hf
 ·cases hf
 rename_i n;injection hf with hf;subst hf;obtain⟨m,e,t,df,g',h1,h2⟩:=RP c _ _ _ h;have h1:∀m',m<=m'->(mH C fn.ntmps c).run (I C) (fO C m') d v (ba 0 xs .nil) g=.ok e t df g':=h1;obtain⟨rs,b⟩:=uc hr;have k:∀m',m<=m'->xW C (I C) (fO C m') d f v xs g=(match (.ok e t df g':PR) with
    |.ok (.ex (.exit _)) _ _ _=>none
    |.ok (.ex _) t [] g'=>(match rs.run t g' with|some _=>some g'|none=>none)
    |_=>none:Option G):=λm' hm=>by
  unfold xW;simp only[l,hc,b];rw[aa,Um (by
   have h1:Nat.ble (bi xs) fn.ntmps=true:=by rw[aq,UR];exact hl
   rw[h1];simpa using n),h1 m' hm]
  try rfl
 have key:(df=[]/\v8 r t g' λ_=>K g')->e≠.ex .ret\/True->(∃vs,rs.run t g'=some vs)/\df=[]/\K g':=λ⟨e1,e2⟩ _=>by obtain⟨o,vs,a,k2,i⟩:=Et _ _ _ hr e2;rw[b]at a;injection a with a;subst a;exact⟨⟨vs,k2⟩,e1,i⟩
 cases e with
 |pan v=>exact h2.elim
 | ex e =>
  cases e with
  |exit j=>exact h2.elim
  | norm =>
   obtain⟨⟨vs,a⟩,k2,i⟩:=key h2 (.inr trivial);subst k2;exact⟨m,g',λm' hm=>by rw[k m' hm];simp only[a],i⟩
  | ret =>
   obtain⟨⟨vs,a⟩,k2,i⟩:=key h2 (.inr trivial);subst k2;exact⟨m,g',λm' hm=>by rw[k m' hm];simp only[a],i⟩
theorem xS{s:SF}{args:List AV}(hf:nFn C f=some s)(hs:aD (snap g.h d an) args=some xs)(hl:xs.length<=s.nt){R:VS}{j:Nat}(hR:Snb R j)(hj:j<=4){k':Nat}(hk:k'<d)
  (h:wpP C (d+1) s.code (fnP C (d+1) s.res (λv g'=>∃P,R P k' g'.h v) λ_ _=>False) (ba 0 xs .nil) [] G.empty):∃r,eL C f d args g=.val r/\R NoP k' .nil r:=by
 obtain⟨m,⟨v,g',h1,P,h2⟩|⟨v,g',h1,h2⟩⟩:=fA hf hl h
 ·have hc:=O8 (h1 m (Ui m));unfold eL ac;rw[hs];dsimp only;rw[show (KE C).call (Nat.succ d) f xs G.empty=.ok v g' from hc];obtain⟨r,e,hr⟩:=hR.snap (n:=an) 0 h2 (by show _<=24;omega);rw[Nat.max_eq_left (US k')]at hr;obtain⟨m,em,lm⟩:=hR.tag (n:=an) hr (by show _<=24;omega);refine⟨r,?_,hr⟩;simp only[e,em,aa,U_];rw[Un (by omega)]
 ·exact h2.elim
def ul(C:Cfg)(i:SI):Bool :=
 match i.op with
 |.call f _=>mc C f
 |.dyn _ _=>false
 |.raw op=>qY op
 |_=>true
def v7(C:Cfg):List SI->Bool
 |[]=>true
 |i::r=>ul C i&&v7 C r
theorem xg{i:SI}(h:ul C i=true){Q:QP}(hr:pu C d none i W t df g):ma C d i W Q t df g:=by
 unfold ul at h;unfold ma
 split
 ·rename_i e;rw[e]at h;rw[Un h];exact hr
 ·rename_i e;rw[e]at h;cases h
 ·rename_i e;rw[e]at h;cases h
 ·rename_i e;rw[e]at h;cases h
 ·rename_i e;rw[e]at h;rw[Un h];exact hr
 ·exact hr
theorem dI{i:SI}{W':PT}(hw:∀t df g,W t df g->W' t df g){rd:Option Nat}(h:pu C d rd i W t df g):pu C d rd i W' t df g:=by
 unfold pu at h ⊢;cases hr:i.op.run C d rd t g with
 |fail=>rw[hr]at h;exact h
 |val v=>rw[hr]at h;exact hw _ _ _ h
 |upd v g'=>rw[hr]at h;exact hw _ _ _ h
 |dfr a=>rw[hr]at h;exact hw _ _ _ h
theorem tF{w:Bool}{A B A' B':PT}(ha:∀t df g,A t df g->A' t df g)(hb:∀t df g,B t df g->B' t df g)(h:gdP v w A B t df g):gdP v w A' B' t df g:=by
 unfold gdP at h ⊢
 split at h
 ·rename_i q;rw[aa]at h ⊢
  split at h
  ·rename_i hw;rw[Un hw];exact⟨λe=>ha _ _ _ (h.1 e),λe=>hb _ _ _ (h.2 e)⟩
  ·rename_i hw;rw[Um hw];exact⟨λe=>hb _ _ _ (h.1 e),λe=>ha _ _ _ (h.2 e)⟩
 ·exact hb _ _ _ h
 ·exact h
theorem aW{Q:QP}:∀{l:List SI},v7 C l=true->∀{t:T} {df:List ADf} {g:G},wpO C d none l (Q (.ex .norm)) t df g->wpQ C d l Q t df g:=by
 intro l
 induction l with
 |nil=>intro _ t df g h;exact h
 | cons i r ih =>
  intro hp t df g h;have hp:(ul C i&&v7 C r)=true:=hp;rw[Uk]at hp;have ih:=λt df g h=>ih hp.2 (t:=t) (df:=df) (g:=g) h;unfold wpO at h;unfold wpQ;cases hg:i.gd with
  | none =>
   rw[hg]at h;exact xg hp.1 (dI ih h)
  | some sw =>
   rw[hg]at h;exact tF (λt df g h=>xg hp.1 (dI ih h)) (λt df g h=>ih _ _ _ h) h
theorem bc{l:List SI}{Q:QP}(hp:v7 C l=true)(h:wpO C d none l (wpP C d b Q) t df g):wpP C d (.seq (.ops l) b) Q t df g:=by show wpQ C d l _ t df g;exact aW hp h
theorem xp{l:List SI}{Q:QP}(hp:v7 C l=true)(h:wpO C d none l (Q (.ex .norm)) t df g):wpP C d (.ops l) Q t df g:=aW hp h
end
section
variable {C:Cfg}{d:Nat}
theorem CallsP.mono{K K' KP KP':AV->G->Prop}(h:CallsP C d f xs g K KP)(hk:∀v g,K v g->K' v g)(hp:∀v g,KP v g->KP' v g):CallsP C d f xs g K' KP':=by
 obtain⟨m,⟨v,g',h1,h2⟩|⟨v,g',h1,h2⟩⟩:=h
 ·exact⟨m,.inl ⟨v,g',h1,hk _ _ h2⟩⟩
 ·exact⟨m,.inr ⟨v,g',h1,hp _ _ h2⟩⟩
theorem Db{i:SI}{W':PT}{Q Q':QP}(hw:∀t df g,W t df g->W' t df g)(hq:∀e t df g,Q e t df g->Q' e t df g)(h:ma C d i W Q t df g):ma C d i W' Q' t df g:=by
 unfold ma at h ⊢
 split at h
 ·split at h
  ·rename_i hs;rw[Un hs];exact dI hw h
  ·rename_i hs;rw[Um hs];exact h.mono (λv g h=>hw _ _ _ h) λv g h=>hq _ _ _ _ h
 ·split at h
  ·split at h
   ·rename_i hs;rw[Un hs];exact dI hw h
   ·rename_i hs;rw[Um hs];exact h.mono (λv g h=>hw _ _ _ h) λv g h=>hq _ _ _ _ h
  ·exact h
 ·split at h
  ·split at h
   ·exact hq _ _ _ _ h
   ·exact h
  ·exact h
 ·split at h
  ·split at h
   ·split at h
    ·rename_i hs;rw[Un hs];exact hw _ _ _ h
    ·exact h.elim
   ·exact h
  ·exact h
 ·split at h
  ·rename_i hs;rw[Un hs];exact dI hw h
  ·exact h.elim
 ·exact dI hw h
theorem GR{Q Q':QP}(hq:∀e t df g,Q e t df g->Q' e t df g):∀{l:List SI} {t:T} {df:List ADf} {g:G},wpQ C d l Q t df g->wpQ C d l Q' t df g:=by
 intro l
 induction l with
 |nil=>intro t df g h;exact hq _ _ _ _ h
 | cons i r ih =>
  intro t df g h;unfold wpQ at h ⊢
  split at h
  ·exact Db (λt df g h=>ih h) hq h
  ·exact tF (λt df g h=>Db (λt df g h=>ih h) hq h) (λt df g h=>ih h) h
theorem Oy:∀(s:SC) {Q Q':QP} {t:T} {df:List ADf} {g:G},wpP C d s Q t df g->(∀e t df g,Q e t df g->Q' e t df g)->wpP C d s Q' t df g:=by
 intro s
 induction s with
 |ops l=>intro Q Q' t df g h hq;exact GR hq h
 | seq a b iha ihb =>
  intro Q Q' t df g h hq;refine iha h λe t df g h=>?_;cases e with
  |pan v=>exact hq _ _ _ _ h
  | ex e =>
   cases e with
   |norm=>exact ihb h hq
   |exit x=>exact hq _ _ _ _ h
   |ret=>exact hq _ _ _ _ h
 | cond c a b iha ihb =>
  intro Q Q' t df g h hq;have h:wpC (c.get t) (wpP C d a Q) (wpP C d b Q) t df g:=h;show wpC (c.get t) (wpP C d a Q') (wpP C d b Q') t df g;unfold wpC at h ⊢
  split at h
  ·exact⟨λq=>iha (h.1 q) hq,λq=>ihb (h.2 q) hq⟩
  ·exact h
 | blk id b ih =>
  intro Q Q' t df g h hq;refine ih h λe t df g h=>?_;cases e with
  |pan v=>exact hq _ _ _ _ h
  | ex e =>
   cases e with
   |norm=>exact hq _ _ _ _ h
   | exit x =>
    have h:ak (Nat.beq x id) (Q (.ex .norm) t df g) (Q (.ex (.exit x)) t df g):=h;show ak (Nat.beq x id) (Q' (.ex .norm) t df g) (Q' (.ex (.exit x)) t df g);rw[aa]at h ⊢
    split at h
    ·rename_i e;rw[Un e];exact hq _ _ _ _ h
    ·rename_i e;rw[Um e];exact hq _ _ _ _ h
   |ret=>exact hq _ _ _ _ h
 | loop b ih =>
  intro Q Q' t df g h hq;obtain⟨Inv,hk,hs⟩:=h;refine⟨Inv,hk,λk t df g hi=>ih (hs k t df g hi) λe t df g h=>?_⟩;cases e with
  |pan v=>exact hq _ _ _ _ h
  | ex e =>
   cases e with
   |norm=>exact h
   |exit x=>exact hq _ _ _ _ h
   |ret=>exact hq _ _ _ _ h
 |raw nt c=>intro Q Q' t df g h _;exact h
 |_=>intro Q Q' t df g h hq;exact bO _ h λe t df g h=>hq _ _ _ _ h
theorem bJ{a:SC}{Q:QP}:wpP C d (.seq a b) Q t df g=wpP C d a (kSP (wpP C d b Q) Q) t df g:=rfl
theorem bo{c:Od}{a:SC}{Q:QP}:wpP C d (.cond c a b) Q t df g=wpC (c.get t) (wpP C d a Q) (wpP C d b Q) t df g:=rfl
theorem EM{id:Nat}{Q:QP}:wpP C d (.blk id b) Q t df g=wpP C d b (kBP id Q) t df g:=rfl
theorem GQ{Q:QP}:wpP C d (.loop b) Q t df g=RM (wpP C d b) Q t df g:=rfl
theorem gk{Q:QP}:wpP C d .skip Q t df g=Q (.ex .norm) t df g:=rfl
theorem Ox{id:Nat}{Q:QP}:wpP C d (.exit id) Q t df g=Q (.ex (.exit id)) t df g:=rfl
theorem mL{Q:QP}:wpP C d .ret Q t df g=Q (.ex .ret) t df g:=rfl
theorem aO(W:PT)(Q:QP)(t:T)(df:List ADf)(g:G):kSP W Q (.ex .norm) t df g=W t df g:=rfl
theorem M9(W:PT)(Q:QP)(j:Nat)(t:T)(df:List ADf)(g:G):kSP W Q (.ex (.exit j)) t df g=Q (.ex (.exit j)) t df g:=rfl
theorem wS(id:Nat)(Q:QP)(j:Nat)(t:T)(df:List ADf)(g:G):kBP id Q (.ex (.exit j)) t df g=if j=id then Q (.ex .norm) t df g else Q (.ex (.exit j)) t df g:=by
 show ak (Nat.beq j id) _ _=_;rw[aa]
 by_cases e:j=id
 ·rw[Un e,Un (by rw[e];exact UT id)]
 ·rw[Um e,Um λh=>e (aB h)]
theorem M6(Inv:Nat->PT)(k:Nat)(Q:QP)(t:T)(df:List ADf)(g:G):kLP Inv k Q (.ex .norm) t df g=∃k',k'<k/\Inv k' t df g:=rfl
theorem M5(Inv:Nat->PT)(k:Nat)(Q:QP)(j:Nat)(t:T)(df:List ADf)(g:G):kLP Inv k Q (.ex (.exit j)) t df g=Q (.ex (.exit j)) t df g:=rfl
def kRP(J:PT)(b:Nat)(Q:QP):QP:=λe t df g=>match e with
 |.ex .norm=>J t df g
 |.ex (.exit x)=>if x=b then J t df g else Q (.ex (.exit x)) t df g
 |e=>Q e t df g
theorem By{body:SC}{c ti tn k B b:Nat}{Q:QP}(hm:m<9223372036854775808)(J:Nat->PT)
  (h0:J 0 t df g) (hi:tat t ti=.int .i64 0) (hn:tat t tn=.int .i64 (m:Int)) (hc:c≠ti/\c≠tn/\k≠tn/\ti≠tn/\b≠B)
  (hJ:∀j t df g v s,s=c\/s=ti\/s=k->J j t df g->J j (fe t s v) df g)
  (step:∀j t df g,j<m->J j t df g->tat t ti=.int .i64 (j:Int)->tat t tn=.int .i64 (m:Int) ->
   wpP C d body (kRP (λt df g=>J (j+1) t df g/\tat t ti=.int .i64 (j:Int)/\tat t tn=.int .i64 (m:Int)) b Q) t df g)
  (fin:∀t df g,J m t df g->Q (.ex (.exit B)) t df g) :
  RM (wpP C d (.seq (.ops [o c (.bin .lss (.t ti) (.t tn))]) (.seq (.cond (.t c) .skip (.exit B)) (.seq (.blk b body) (.ops [o k (.bin .add (.t ti) (.k (.int .i64 1))),o ti (.mv (.t k))]))))) Q t df g:=by
 obtain⟨c1,i,l,p,q⟩:=hc;refine⟨λn t df g=>∃j:Nat,n=m - j/\j<=m/\J j t df g/\tat t ti=.int .i64 (j:Int)/\tat t tn=.int .i64 (m:Int),⟨m,0,by omega,by omega,h0,hi,hn⟩,?_⟩;rintro n t df g ⟨j,rfl,r,a,h1,h2⟩;refine bc rfl ?_;simp only[sx,SO.run,↓reduceIte,h1,h2];rw[bJ,bo];simp only[sx];refine⟨λhq=>?_,λhq=>?_⟩
 ·have hlt:j<m:=by simpa using hq
  rw[gk,aO,bJ,EM];refine Oy _ (step j _ df g hlt (hJ _ _ _ _ _ _ (.inl rfl) a) (by simp only[fy];rw[Um (VC c1),h1]) (by simp only[fy];rw[Um (VC i),h2])) λe t df g h=>?_;have key:J (j+1) t df g/\tat t ti=.int .i64 (j:Int)/\tat t tn=.int .i64 (m:Int)->wpP C d (.ops [o k (.bin .add (.t ti) (.k (.int .i64 1))),o ti (.mv (.t k))])
    (kLP (λn t df g=>∃j:Nat,n=m - j/\j<=m/\J j t df g/\tat t ti=.int .i64 (j:Int)/\tat t tn=.int .i64 (m:Int)) (m - j) Q) t df g:=by
   rintro⟨a1,a2,f⟩;refine xp rfl ?_;simp only[sx,SO.run,a2,↓reduceIte];rw[M6];refine⟨_,?_,j+1,rfl,by omega,hJ _ _ _ _ _ _ (.inr (.inl rfl)) (hJ _ _ _ _ _ _ (.inr (.inr rfl)) a1),?_,?_⟩
   ·omega
   ·simp only[fy,↓reduceIte];rw[aE (by omega) (by omega)];rfl
   ·simp only[fy];rw[Um (VC p),Um (VC l),f]
  cases e with
  |pan v=>exact h
  | ex e =>
   cases e with
   |norm=>exact key h
   |ret=>exact h
   | exit x =>
    have h:if x=b then J (j+1) t df g/\tat t ti=.int .i64 (j:Int)/\tat t tn=.int .i64 (m:Int) else Q (.ex (.exit x)) t df g:=h;rw[wS]
    split at h
    ·rename_i e;rw[Un e];exact key h
    ·rename_i e;rw[Um e];exact h
 ·have:j=m:=by simp at hq;omega
  subst this;rw[Ox,M9,M5];exact fin _ _ _ (hJ _ _ _ _ _ _ (.inl rfl) a)
theorem bZ{Q:QP}{l2:List SI}:∀{l:List SI},v7 C l=true->∀{t:T} {df:List ADf} {g:G},wpO C d none l (wpQ C d l2 Q) t df g->wpQ C d (l++l2) Q t df g:=by
 intro l
 induction l with
 |nil=>intro _ t df g h;exact h
 | cons i r ih =>
  intro hp t df g h;have hp:(ul C i&&v7 C r)=true:=hp;rw[Uk]at hp;have ih:=λt df g h=>ih hp.2 (t:=t) (df:=df) (g:=g) h;unfold wpO at h;rw[UE];unfold wpQ;cases hg:i.gd with
  | none =>
   rw[hg]at h;exact xg hp.1 (dI ih h)
  | some sw =>
   rw[hg]at h;exact tF (λt df g h=>xg hp.1 (dI ih h)) (λt df g h=>ih _ _ _ h) h
theorem JY{Q:QP}{ty:Nat}(hv:tat t n=.ifc ty v)(h:Q (.pan (.ifc ty v)) t df g):wpQ C d [oz (.raw (.panic (.tmp n)))] Q t df g:=by show (match (Od.t n).get t with|.ifc ty v=>Q (.pan (.ifc ty v)) t df g|_=>False);rw[FG,hv];exact h
theorem Bz{Q:QP}{a ty:Nat}{ok:Bool}{ik:IntKind}{r:List SI}(hv:tat t n=.ifc ty v)(hu:C.P.underlying ty=some (.int ik))
  (h:wpQ C d r Q (nY dst t (ak ok (.tup [v,.bool true]) v)) df g):wpQ C d (⟨dst,none,.raw (.typeAssert (.tmp n) a ty ok)⟩::r) Q t df g:=by
 show ma C d ⟨dst,none,.raw (.typeAssert (.tmp n) a ty ok)⟩ (wpQ C d r Q) Q t df g;unfold ma;dsimp only;rw[show nOd C (.tmp n)=some (.t n) from rfl,hu];dsimp only;rw[FG,hv];dsimp only;rw[Un rfl];exact h
theorem JX{Q:QP}{first cap:List AV}{xs:List Od}{r:List SI}(hv:tat t n=.clo f first cap)(hs:mc C f=false)
  (h:CallsP C d f (first++(eH t xs++cap)) g (λv g'=>wpQ C d r Q (nY dst t v) df g') λv g'=>Q (.pan v) t df g'):wpQ C d (⟨dst,none,.dyn (.t n) xs⟩::r) Q t df g:=by
 show ma C d ⟨dst,none,.dyn (.t n) xs⟩ (wpQ C d r Q) Q t df g;unfold ma;dsimp only;rw[FG,hv];dsimp only;rw[Um (by rw[hs];decide)];exact h
end
section
variable {C:Cfg}{d:Nat}
theorem nE(r:List SR)(K KP:AV->G->Prop)(e:Ex)(t:T)(df:List ADf)(g:G):fnP C d r K KP (.ex e) t df g=fnQ C d r K e t df g:=rfl
end
@[reducible] def oM (d a:Nat):SI:=o d (.mv (.t a))
@[reducible] def oL (d a:Nat):SI:=o d (.load false 1 (.t a))
@[reducible] def oN (d a:Nat):SI:=o d (.len .slice (.t a))
@[reducible] def oF (d n a:Nat):SI:=o d (.fad n (.t a))
@[reducible] def oX (d a b:Nat):SI:=o d (.ixs 1 (.t a) (.t b))
@[reducible] def qI (z:Int):Od:=.k (.int .i64 z)
@[reducible] def oK (d:Nat) (z:Int):SI:=o d (.mv (qI z))
@[reducible] def oA (d a:Nat):SI:=o d (.bin .add (.t a) (qI 1))
@[reducible] def sQ (l:List SI) (x:SC):SC:=.seq (.ops l) x
theorem sz:type_of% (Uf sx <|Uf sy <|Uf @Option.isSome_some.{0} <|Uf @Us.{0} <|Uf @decide_true <|Uf @decide_false <|Uf @WV <|Uf @Wy <|
 Uf @SO.run.eq_1 <|Uf @SO.run.eq_2 <|Uf @SO.run.eq_3 <|Uf @SO.run.eq_4 <|Uf @SO.run.eq_5 <|Uf @SO.run.eq_6 <|Uf @SO.run.eq_7 <|Uf @SO.run.eq_8 <|Uf @SO.run.eq_9 <|Uf @SO.run.eq_10 <|Uf @SO.run.eq_11 <|Uf @SO.run.eq_12 <|Uf @SO.run.eq_13 <|Uf @SO.run.eq_14 <|Uf @SO.run.eq_15 <|Uf @SO.run.eq_16 <|Uf @SO.run.eq_17 <|Uf @SO.run.eq_18 <|Uf @SO.run.eq_19 <|Uf @SO.run.eq_20 <|Uf @SO.run.eq_21 <|Uf @SO.run.eq_22 <|Uf @SO.run.eq_23 <|Uf @SO.run.eq_24 <|Uf @SO.run.eq_25 <|Uf @SO.run.eq_26 <|Uf @SO.run.eq_27 <|Uf @SO.run.eq_28 <|Uf @SO.run.eq_29 <|Uf @SO.run.eq_30 <|Uf @SO.run.eq_31 <|@SO.run.eq_32) :=
 Uf sx <|Uf sy <|Uf @Option.isSome_some.{0} <|Uf @Us.{0} <|Uf @decide_true <|Uf @decide_false <|Uf @WV <|Uf @Wy <|
 Uf @SO.run.eq_1 <|Uf @SO.run.eq_2 <|Uf @SO.run.eq_3 <|Uf @SO.run.eq_4 <|Uf @SO.run.eq_5 <|Uf @SO.run.eq_6 <|Uf @SO.run.eq_7 <|Uf @SO.run.eq_8 <|Uf @SO.run.eq_9 <|Uf @SO.run.eq_10 <|Uf @SO.run.eq_11 <|Uf @SO.run.eq_12 <|Uf @SO.run.eq_13 <|Uf @SO.run.eq_14 <|Uf @SO.run.eq_15 <|Uf @SO.run.eq_16 <|Uf @SO.run.eq_17 <|Uf @SO.run.eq_18 <|Uf @SO.run.eq_19 <|Uf @SO.run.eq_20 <|Uf @SO.run.eq_21 <|Uf @SO.run.eq_22 <|Uf @SO.run.eq_23 <|Uf @SO.run.eq_24 <|Uf @SO.run.eq_25 <|Uf @SO.run.eq_26 <|Uf @SO.run.eq_27 <|Uf @SO.run.eq_28 <|Uf @SO.run.eq_29 <|Uf @SO.run.eq_30 <|Uf @SO.run.eq_31 <|@SO.run.eq_32
end
end Hx
