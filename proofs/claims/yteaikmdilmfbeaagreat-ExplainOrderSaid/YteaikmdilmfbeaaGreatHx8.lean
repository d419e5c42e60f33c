/- A part of the proof: what the functions of the chapter compute. -/
import Derived.Recover
import Derived.Test.YteaikmdilmfbeaaGreatHx7
set_option linter.all false
set_option maxRecDepth 20000
set_option maxHeartbeats 8000000
namespace Hx
open Go
noncomputable section
variable {g':G}{v:AV}{df df':List ADf}{nt d f:Nat}{t':T}{as:List AV}{C:Cfg}
section
variable {P:Program}{u:Value}
inductive PE where
 |ex (e:Ex)
 |pan (v:AV)
inductive PR where
 |fail
 |ok (e:PE) (t:T) (df:List ADf) (g:G)
inductive PF where
 |fail
 |ok (v:AV) (g:G)
 |pan (v:AV) (g:G)
structure PH where
 code:Nat->Nat->Code->T->List ADf->G->PR
 call:Nat->Nat->List AV->G->PF
def Mr:CR->PR
 |.ok e t df g=>.ok (.ex e) t df g
 |.fail=>.fail
abbrev PFn:=IH->PH->Nat->T->List ADf->G->PR
def Q8(out:T->AV->T)(next:T->List ADf->G->PR)(t:T)(df:List ADf):PF->PR
 |.ok v g=>next (out t v) df g
 |.pan v g=>.ok (.pan v) t df g
 |.fail=>.fail
def BA(out:T->AV->T)(next:T->List ADf->G->PR)(t:T)(df:List ADf)(g:G):OR->PR
 |.fail=>.fail
 |.val v=>next (out t v) df g
 |.upd v g'=>next (out t v) df g'
 |.dfr a=>next (out t .undef) (a::df) g
def EO(C:Cfg)(ph:PH)(d:Nat)(fv:AV)(vs:List AV)(g:G):Option PF :=
 match fv with
 |.clo f first cap=>ay ((C.ext f).isSome || C.iso f) none (some (ph.call d f (first++(vs++cap)) g))
 |_=>none
def J8(C:Cfg)(op:Op)(out:T->AV->T):Stg ((T->List ADf->G->PR)->PFn) :=
 match op with
 | .panic x=>match aU C x with
  | some s=>⟨λ_ _ _ _ t df g=>match s.run t with
   |.ifc ty v=>.ok (.pan (.ifc ty v)) t df g
   |_=>.fail⟩
  |none=>⟨λ_ _ _ _ _ _ _=>.fail⟩
 | .typeAssert x _ asserted ok=>match aU C x,C.P.underlying asserted with
  | some s,some (.int _)=>⟨λnext _ _ _ t df g=>match s.run t with
   |.ifc ty v=>ay (Nat.beq ty asserted) (next (out t (ay ok (.tup [v,.bool true]) v)) df g) .fail
   |_=>.fail⟩
  |_,_=>⟨λ_ _ _ _ _ _ _=>.fail⟩
 | .call { callee:=.value fo,args,argTypes }=>match aU C fo,bM C args.toList with
  | some fv,some vs=>⟨λnext ih ph d t df g=>match EO C ph d (fv.run t) (vs.run t) g with
   |some r=>Q8 out next t df r
   |none=>BA out next t df g ((cE C (.call { callee:=.value fo,args,argTypes })).run ih d none t g)⟩
  |_,_=>⟨λ_ _ _ _ _ _ _=>.fail⟩
 |op=>⟨λnext ih _ d t df g=>BA out next t df g ((cE C op).run ih d none t g)⟩
def vH(C:Cfg)(nt:Nat)(all:List Oper):List Oper->Stg PFn
 |[]=>⟨λ_ _ _ t df g=>.ok (.ex .norm) t df g⟩
 | o::rest=>match qb nt o.dst with
  | some out=>match o.guard with
   |none=>⟨λih ph d t df g=>(J8 C o.op out.run).run (λt df g=>(vH C nt all rest).run ih ph d t df g) ih ph d t df g⟩
   | some gd=>match iV all (some gd) with
    | some q=>⟨λih ph d t df g=>match q.run t with
     |some true=>(J8 C o.op out.run).run (λt df g=>(vH C nt all rest).run ih ph d t df g) ih ph d t df g
     |some false=>(vH C nt all rest).run ih ph d (out.run t .undef) df g
     |none=>.fail⟩
    |none=>⟨λ_ _ _ _ _ _=>.fail⟩
  |none=>⟨λ_ _ _ _ _ _=>.fail⟩
def QV(k:T->List ADf->G->PR):PR->PR
 |.ok (.ex .norm) t df g=>k t df g
 |r=>r
def xw(id:Nat):PR->PR
 |.ok (.ex (.exit j)) t df g=>ay (Nat.beq j id) (.ok (.ex .norm) t df g) (.ok (.ex (.exit j)) t df g)
 |r=>r
def cC(C:Cfg)(nt:Nat):Code->Stg PFn
 |.region _ ops false=>vH C nt ops.toList ops.toList
 |.seq a b=>⟨λih ph d t df g=>QV ((cC C nt b).run ih ph d) ((cC C nt a).run ih ph d t df g)⟩
 | .cond c a b=>match aU C c with
  | some q=>⟨λih ph d t df g=>match q.run t with
   |.bool v=>ay v ((cC C nt a).run ih ph d t df g) ((cC C nt b).run ih ph d t df g)
   |_=>.fail⟩
  |none=>⟨λ_ _ _ _ _ _=>.fail⟩
 |.block id body=>⟨λih ph d t df g=>xw id ((cC C nt body).run ih ph d t df g)⟩
 |.loop body=>⟨λih ph d t df g=>QV (λt df g=>ph.code nt d (.loop body) t df g) ((cC C nt body).run ih ph d t df g)⟩
 |.scope body=>cC C nt body
 |c=>⟨λih _ d t df g=>Mr ((aS C nt c).run ih d none t df g)⟩
abbrev RH:=IH->PH->Nat->AV->T->G->PR
def si(C:Cfg)(nt:Nat):Code->Stg RH
 | .region _ ops false=>match ops.toList with
  | o::rest=>match o.op,o.guard with
   | .call { callee:=.builtin .recover,.. },none=>match qb nt o.dst with
    |some out=>⟨λih ph d v t g=>(vH C nt ops.toList rest).run ih ph d (out.run t v) [] g⟩
    |none=>⟨λ_ _ _ _ _ _=>.fail⟩
   |_,_=>⟨λ_ _ _ _ _ _=>.fail⟩
  |[]=>⟨λ_ _ _ _ _ _=>.fail⟩
 |.seq a b=>⟨λih ph d v t g=>QV ((cC C nt b).run ih ph d) ((si C nt a).run ih ph d v t g)⟩
 |.block id a=>⟨λih ph d v t g=>xw id ((si C nt a).run ih ph d v t g)⟩
 |.scope a=>si C nt a
 |_=>⟨λ_ _ _ _ _ _=>.fail⟩
def M2(C:Cfg)(ih:IH)(ph:PH)(d f:Nat)(v:AV)(args:List AV)(g:G):Option G :=
 match C.P.funcs[f]? with
 |none=>none
 | some fn=>match fn.body,rT C fn.results.toList with
  | some c, some r => ay ((fn.name == "runtime.NumGoroutine") || !Nat.ble (bj args) fn.ntmps) none
   (match (si C fn.ntmps c).run ih ph d v (bN 0 args .nil) g with
    |.ok (.ex (.exit _)) _ _ _=>none
    |.ok (.ex _) t [] g'=>(match r.run t g' with|some _=>some g'|none=>none)
    |_=>none)
  |_,_=>none
def Pq:FR->PF
 |.ok v g=>.ok v g
 |.fail=>.fail
def u9(C:Cfg)(ih:IH)(ph:PH)(d:Nat)(res:T->G->Option (List AV))(v:AV)(t:T):List ADf->G->PF
 |[],g=>.pan v g
 | .call (.clo f [] cap) args::ds,g=>match M2 C ih ph d f v (args++cap) g with
  |some g'=>Pq (cT ih d res t ds g')
  |none=>.fail
 |_::_,_=>.fail
def jV(C:Cfg)(ih:IH)(ph:PH)(d f:Nat)(args:List AV)(g:G):PF :=
 match C.P.funcs[f]? with
 |none=>.fail
 | some fn=>match fn.body,rT C fn.results.toList with
  | some c, some r => ay ((fn.name == "runtime.NumGoroutine") || !Nat.ble (bj args) fn.ntmps) .fail
   (match (cC C fn.ntmps c).run ih ph d (bN 0 args .nil) [] g with
    |.ok (.ex (.exit _)) _ _ _=>.fail
    |.ok (.ex _) t df g'=>Pq (cT ih d r.run t df g')
    |.ok (.pan v) t df g'=>u9 C ih ph d r.run v t df g'
    |.fail=>.fail)
  |_,_=>.fail
def PH.zero:PH:=⟨λ_ _ _ _ _ _=>.fail,λ_ _ _ _=>.fail⟩
def Q5(C:Cfg)(ih:IH)(ph:PH):PH:=⟨λnt d c t df g=>(cC C nt c).run ih ph d t df g,jV C ih ph⟩
def QU(C:Cfg)(n:Nat)(m:Nat):PH:=@Nat.rec (λ_=>PH) PH.zero (λ_ ph=>Q5 C (sem C n) ph) m
section
variable {C:Cfg}{ih:IH}{ph:PH}
structure PHMon (ph:PH):Prop where
 code:∀nt d c t df g e t' df' g',ph.code nt d c t df g=.ok e t' df' g'->WF g->Mon g g'
 call:∀d f as g v g',(ph.call d f as g=.ok v g'\/ph.call d f as g=.pan v g')->WF g->Mon g g'
theorem HF{out:T->AV->T}{next:T->List ADf->G->PR}{t:T}{g:G}{r:OR}{e:PE}
  (h:BA out next t df g r=.ok e t' df' g') (hwf:WF g) (hr:Mon g (gOf g r)) (hn:∀t df g1,next t df g1=.ok e t' df' g'->WF g1->Mon g1 g'):Mon g g':=by
 cases r with
 |fail=>cases h
 |val v=>exact hn _ _ _ h hwf
 |upd v g1=>exact hr.trans (hn _ _ _ h (hr.wf hwf))
 |dfr a=>exact hn _ _ _ h hwf
theorem xy(hp:PHMon ph){fv:AV}{vs:List AV}{g:G}{r:PF}(h:EO C ph d fv vs g=some r)(hr:r=.ok v g'\/r=.pan v g')(hwf:WF g):Mon g g':=by
 unfold EO at h
 split at h
 ·rw[aa]at h
  split at h
  ·cases h
  ·injection h with h;subst h;exact hp.call _ _ _ _ _ _ hr hwf
 ·cases h
theorem FL(he:d9 C)(hi:IHMon ih)(hp:PHMon ph){op:Op}{out:T->AV->T}{next:T->List ADf->G->PR}{t:T}{g:G}{e:PE}
  (h:(J8 C op out).run next ih ph d t df g=.ok e t' df' g') (hwf:WF g) (hn:∀t df g1,next t df g1=.ok e t' df' g'->WF g1->Mon g1 g'):Mon g g':=by
 have plain:∀{op:Op},BA out next t df g ((cE C op).run ih d none t g)=.ok e t' df' g'->Mon g g':=λh=>HF h hwf (iW he hi hwf) hn
 unfold J8 at h
 split at h
 ·split at h
  ·dsimp only at h
   split at h
   ·injection h with _ _ _ h;subst h;exact Mon.refl _
   ·cases h
  ·cases h
 ·split at h
  ·dsimp only at h
   split at h
   ·rw[aa]at h
    split at h
    ·exact hn _ _ _ h hwf
    ·cases h
   ·cases h
  ·cases h
 ·split at h
  ·dsimp only at h
   split at h
   ·rename_i r hr;cases r with
    |fail=>cases h
    | ok v g1 =>
     have m:=xy hp hr (.inl rfl) hwf;exact m.trans (hn _ _ _ h (m.wf hwf))
    | pan v g1 =>
     have m:=xy hp hr (.inr rfl) hwf;have h:PR.ok (.pan v) t df g1=.ok e t' df' g':=h;injection h with _ _ _ h;subst h;exact m
   ·exact plain h
  ·cases h
 ·exact plain h
theorem tP(he:d9 C)(hi:IHMon ih)(hp:PHMon ph){all:List Oper}:∀{ops:List Oper} {d:Nat} {t:T} {df:List ADf} {g:G} {e:PE} {t':T} {df':List ADf} {g':G},
  (vH C nt all ops).run ih ph d t df g=.ok e t' df' g'->WF g->Mon g g':=by
 intro ops
 induction ops with
 |nil=>intro d t df g e t' df' g' h _;simp only[vH]at h;injection h with _ _ _ h;subst h;exact Mon.refl _
 | cons o rest ihl =>
  intro d t df g e t' df' g' h k;simp only[vH]at h
  split at h
  ·split at h
   ·exact FL he hi hp h k λ_ _ _ h1 h2=>ihl h1 h2
   ·split at h
    ·dsimp only at h
     split at h
     ·exact FL he hi hp h k λ_ _ _ h1 h2=>ihl h1 h2
     ·exact ihl h k
     ·cases h
    ·cases h
  ·cases h
theorem Fs(he:d9 C)(hi:IHMon ih){c:Code}{t:T}{g:G}{e:PE}
  (h:Mr ((aS C nt c).run ih d none t df g)=.ok e t' df' g') (hwf:WF g):Mon g g':=by
 generalize hr:(aS C nt c).run ih d none t df g=r at h;cases r with
 |fail=>cases h
 | ok e1 t1 df1 g1 =>
  have h:PR.ok (.ex e1) t1 df1 g1=.ok e t' df' g':=h;injection h with _ _ _ h;subst h;exact jT he hi _ hr hwf
theorem cZ(he:d9 C)(hi:IHMon ih)(hp:PHMon ph):∀(c:Code) {d:Nat} {t:T} {df:List ADf} {g:G} {e:PE} {t':T} {df':List ADf} {g':G},
  (cC C nt c).run ih ph d t df g=.ok e t' df' g'->WF g->Mon g g':=by
 intro c;have now:∀{e e':PE} {t t':T} {df df':List ADf} {g g':G},PR.ok e' t df g=.ok e t' df' g'->Mon g g':=by intro e e' t t' df df' g g' h;injection h with _ _ _ h;subst h;exact Mon.refl _
 induction c with
 | region id ops draw =>
  intro d t df g e t' df' g' h k;cases draw with
  |true=>exact Fs (c:=.region id ops true) he hi h k
  |false=>exact tP he hi hp h k
 | seq a b iha ihb =>
  intro d t df g e t' df' g' h k;simp only[cC]at h;generalize hr:(cC C nt a).run ih ph d t df g=r at h;cases r with
  |fail=>cases h
  | ok e1 t1 df1 g1 =>
   have f:=iha hr k;cases e1 with
   |pan v=>exact f.trans (now h)
   | ex e1 =>
    cases e1 with
    |norm=>exact f.trans (ihb h (f.wf k))
    |exit j=>exact f.trans (now h)
    |ret=>exact f.trans (now h)
 | cond c a b iha ihb =>
  intro d t df g e t' df' g' h k;simp only[cC]at h
  split at h
  ·dsimp only at h
   split at h
   ·rw[aa]at h
    split at h
    ·exact iha h k
    ·exact ihb h k
   ·cases h
  ·cases h
 | block id body ihb =>
  intro d t df g e t' df' g' h k;simp only[cC]at h;generalize hr:(cC C nt body).run ih ph d t df g=r at h;cases r with
  |fail=>cases h
  | ok e1 t1 df1 g1 =>
   have f:=ihb hr k;cases e1 with
   |pan v=>exact f.trans (now h)
   | ex e1 =>
    cases e1 with
    |norm=>exact f.trans (now h)
    | exit j =>
     simp only[xw,aa]at h
     split at h
     ·exact f.trans (now h)
     ·exact f.trans (now h)
    |ret=>exact f.trans (now h)
 | loop body ihb =>
  intro d t df g e t' df' g' h k;simp only[cC]at h;generalize hr:(cC C nt body).run ih ph d t df g=r at h;cases r with
  |fail=>cases h
  | ok e1 t1 df1 g1 =>
   have f:=ihb hr k;cases e1 with
   |pan v=>exact f.trans (now h)
   | ex e1 =>
    cases e1 with
    |norm=>exact f.trans (hp.code _ _ _ _ _ _ _ _ _ _ h (f.wf k))
    |exit j=>exact f.trans (now h)
    |ret=>exact f.trans (now h)
 |scope body ihb=>intro d t df g e t' df' g' h k;exact ihb h k
 |_=>intro d t df g e t' df' g' h k;simp only[cC]at h;exact Fs he hi h k
theorem Bj(he:d9 C)(hi:IHMon ih)(hp:PHMon ph):∀(c:Code) {d:Nat} {v:AV} {t:T} {g:G} {e:PE} {t':T} {df':List ADf} {g':G},
  (si C nt c).run ih ph d v t g=.ok e t' df' g'->WF g->Mon g g':=by
 intro c;have now:∀{e e':PE} {t t':T} {df df':List ADf} {g g':G},PR.ok e' t df g=.ok e t' df' g'->Mon g g':=by intro e e' t t' df df' g g' h;injection h with _ _ _ h;subst h;exact Mon.refl _
 induction c with
 | region id ops draw =>
  intro d v t g e t' df' g' h k;cases draw with
  |true=>cases h
  | false =>
   simp only[si]at h
   split at h
   ·split at h
    ·split at h
     ·exact tP he hi hp h k
     ·cases h
    ·cases h
   ·cases h
 | seq a b iha _ =>
  intro d v t g e t' df' g' h k;simp only[si]at h;generalize hr:(si C nt a).run ih ph d v t g=r at h;cases r with
  |fail=>cases h
  | ok e1 t1 df1 g1 =>
   have f:=iha hr k;cases e1 with
   |pan v=>exact f.trans (now h)
   | ex e1 =>
    cases e1 with
    |norm=>exact f.trans (cZ he hi hp _ h (f.wf k))
    |exit j=>exact f.trans (now h)
    |ret=>exact f.trans (now h)
 | block id body ihb =>
  intro d v t g e t' df' g' h k;simp only[si]at h;generalize hr:(si C nt body).run ih ph d v t g=r at h;cases r with
  |fail=>cases h
  | ok e1 t1 df1 g1 =>
   have f:=ihb hr k;cases e1 with
   |pan v=>exact f.trans (now h)
   | ex e1 =>
    cases e1 with
    |norm=>exact f.trans (now h)
    | exit j =>
     simp only[xw,aa]at h
     split at h
     ·exact f.trans (now h)
     ·exact f.trans (now h)
    |ret=>exact f.trans (now h)
 |scope body ihb=>intro d v t g e t' df' g' h k;exact ihb h k
 |_=>intro d v t g e t' df' g' h k;cases h
theorem F0(he:d9 C)(hi:IHMon ih)(hp:PHMon ph){args:List AV}{g:G}(h:M2 C ih ph d f v args g=some g')(hwf:WF g):Mon g g':=by
 unfold M2 at h
 split at h
 ·cases h
 split at h
 ·rw[aa]at h
  split at h
  ·cases h
  split at h
  ·cases h
  ·rename_i hc
   split at h
   ·injection h with h;subst h;exact Bj he hi hp _ hc hwf
   ·cases h
  ·cases h
 ·cases h
theorem nJ(hi:IHMon ih){res:T->G->Option (List AV)}{t:T}{g:G}(h:cT ih d res t df g=.ok v g')(hwf:WF g):Mon g g':=by
 unfold cT at h
 split at h
 ·cases h
 ·rename_i g2 h2;have k:=mg hi h2 hwf
  split at h
  ·injection h with _ h;subst h;exact k
  ·cases h
theorem zz{r:FR}{g:G}(h:Pq r=.ok v g):r=.ok v g:=by
 cases r with
 |fail=>cases h
 |ok v' g'=>injection h with h1 h2;rw[h1,h2]
theorem xg{r:FR}{g:G}(h:Pq r=.pan v g):False:=by
 cases r with
 |fail=>cases h
 |ok v' g'=>cases h
theorem u_(he:d9 C)(hi:IHMon ih)(hp:PHMon ph){res:T->G->Option (List AV)}{t:T}{g:G}{x:AV}
  (h:u9 C ih ph d res v t df g=.ok x g'\/u9 C ih ph d res v t df g=.pan x g') (hwf:WF g):Mon g g':=by
 unfold u9 at h
 split at h
 ·rcases h with h|h
  ·cases h
  ·injection h with _ h;subst h;exact Mon.refl _
 ·split at h
  ·rename_i g1 h1;have k:=F0 he hi hp h1 hwf;rcases h with h|h
   ·exact k.trans (nJ hi (zz h) (k.wf hwf))
   ·exact (xg h).elim
  ·rcases h with h|h<;>cases h
 ·rcases h with h|h<;>cases h
theorem BI(he:d9 C)(hi:IHMon ih)(hp:PHMon ph){g:G}
  (h:jV C ih ph d f as g=.ok v g'\/jV C ih ph d f as g=.pan v g') (hwf:WF g):Mon g g':=by
 unfold jV at h
 split at h
 ·rcases h with h|h<;>cases h
 split at h
 ·rw[aa]at h
  split at h
  ·rcases h with h|h<;>cases h
  split at h
  ·rcases h with h|h<;>cases h
  ·rename_i hc;have k:=cZ he hi hp _ hc hwf;rcases h with h|h
   ·exact k.trans (nJ hi (zz h) (k.wf hwf))
   ·exact (xg h).elim
  ·rename_i hc;have k:=cZ he hi hp _ hc hwf;exact k.trans (u_ he hi hp h (k.wf hwf))
  ·rcases h with h|h<;>cases h
 ·rcases h with h|h<;>cases h
theorem Bp(he:d9 C)(n:Nat):∀m,PHMon (QU C n m):=by
 intro m
 induction m with
 |zero=>exact⟨λnt d c t df g e t' df' g' h=>(by cases h),λd f as g v g' h=>(by rcases h with h|h<;>cases h)⟩
 |succ m ihm=>exact⟨λnt d c t df g e t' df' g' h hwf=>cZ he (zu he n) ihm c h hwf,λd f as g v g' h hwf=>BI he (zu he n) ihm h hwf⟩
end
section
variable {C:Cfg}{ih:IH}{ph:PH}{A:Nat->Nat->Prop}{bd:Nat}{w w':World}{γ γ':Gm}{hg:Nat->AObj}{nx:Nat}{t:T}{g:G}
def ArrP(P:Program)(m:Machine)(b:Frame)(k:List Item)(cs:List Frame)(u:Value):PE->Act->World->Prop
 |.ex e,a,w=>Arr P m b k cs e a w
 |.pan _,a,w=>∃k₁,Steps P m (lone ((b.atR a k₁).raise [{ v:=u,recovered:=false }]) cs w)
def RG(w:World)(γ:Gm)(A:Nat->Nat->Prop)(bd:Nat):PE->Value->Prop
 |.ex _,_=>True
 |.pan v,u=>RV w γ A bd v u
theorem ArrP.of_steps{P:Program}{m m₁:Machine}{b:Frame}{k:List Item}{cs:List Frame}{u:Value}{e:PE}{a:Act}(h:Steps P m m₁)(h':ArrP P m₁ b k cs u e a w):ArrP P m b k cs u e a w:=by
 cases e with
 |ex e=>exact Arr.of_steps h h'
 |pan v=>obtain⟨k₁,h2⟩:=h';exact⟨k₁,Steps.trans h h2⟩
def zF(C:Cfg)(A:Nat->Nat->Prop)(bd nt:Nat)(b:Frame)(k:List Item)(cs:List Frame)(m:Machine)(w:World)(γ:Gm)(hg:Nat->AObj)(nx:Nat)(g:G)(e:PE)(t':T)(df':List ADf)(g':G):Prop :=
 ∃a' w' γ' hg' u,Fin C A bd w γ hg nx g w' γ' hg' g'/\TR w' γ' A bd nt t' a'.tmps/\DR w' γ' A bd df' a'.defers/\RG w' γ' A bd e u/\ArrP C.P m b k cs u e a' w'
def zE(C:Cfg)(bd nt:Nat)(c:Code)(t:T)(df:List ADf)(g:G)(e:PE)(t':T)(df':List ADf)(g':G):Prop :=
 ∀A w γ hg nx b a k cs,Rel C A bd w γ hg nx->Ext g.h hg->WF g->Free γ g g'->TR w γ A bd nt t a.tmps->DR w γ A bd df a.defers->b.roundOf=none->pf b.kind cs ->
  zF C A bd nt b k cs (lone (b.atR a (.code c::k)) cs w) w γ hg nx g e t' df' g'
def HQ(P:Program)(K:CallKind)(f:FuncId)(vs:Array Value)(cs:List Frame)(w:World)(u:Value)(w':World):Prop :=
 ∃fr,Steps P (lone (Frame.enter P f vs K) cs w) (lone fr cs w')/\fr.leaving P w' (.panicked [{ v:=u,recovered:=false }])
def HP(C:Cfg)(bd:Nat)(f:FuncId)(as:List AV)(g:G)(v:AV)(g':G):Prop :=
 ∀A w γ hg nx vs,Rel C A bd w γ hg nx->Ext g.h hg->WF g->Free γ g g'->RVs w γ A bd as vs->∀K cs,pf K cs ->
  ∃u w' γ' hg',Fin C A bd w γ hg nx g w' γ' hg' g'/\RV w' γ' A bd v u/\HQ C.P K f vs.toArray cs w u w'
structure PHOk (C:Cfg) (ph:PH):Prop where
 mon:PHMon ph
 code:∀bd nt c t df g e t' df' g',ph.code nt (bd+1) c t df g=.ok e t' df' g'->zE C bd nt c t df g e t' df' g'
 call:∀bd f as g v g',ph.call (bd+1) f as g=.ok v g'->Enters C.P f/\zc C bd f as g v g'
 pan:∀bd f as g v g',ph.call (bd+1) f as g=.pan v g'->Enters C.P f/\HP C bd f as g v g'
section
variable {b:Frame}{a:Act}{ops:Array Oper}{i:Nat}{rest:List Nat}{k:List Item}{cs:List Frame}{o:Oper}
theorem HC{v:Value}(ho:ops[i]?=some o)(hw:Region.wanted o (yielded ops a.tmps)=true)(hd:∀c,o.op≠.defer c)
  (hrun:(execOp a.eval o).run P w=.halt (.panic v) w) :
  step P (lone (b.atR a (.inRegion ops (i::rest)::k)) cs w)=.next (lone ((b.atR a (.inRegion ops (i::rest)::k)).raise [{ v,recovered:=false }]) cs w):=by
 refine step_lone_go ?_;rw[stepGR_op ho hw,Oper.semAt_eq _ _ _ hd];simp[stepG.apply,hrun]
theorem Ch{f:FuncId}{args:Array Value}{w₁:World}(ho:ops[i]?=some o)(hw:Region.wanted o (yielded ops a.tmps)=true)(hd:∀c,o.op≠.defer c)
  (hrun:(execOp a.eval o).run P w=.ok (.enter f args) w)
  (hout:HQ P .normal f args (b.atR a (.inRegion ops (i::rest)::k)::cs) w u w₁) :
  Steps P (lone (b.atR a (.inRegion ops (i::rest)::k)) cs w) (lone ((b.atR a (.inRegion ops (i::rest)::k)).raise [{ v:=u,recovered:=false }]) cs w₁):=by
 obtain⟨fr,hs,hl⟩:=hout;exact .head (Bu ho hw hd hrun) (Steps.trans hs (.one (step_leave_panicked hl)))
theorem Gg{c0:Frame}{older:List PanicEntry}(ho:ops[i]?=some o)(hw:Region.wanted o (yielded ops a.tmps)=true)(hd:∀c,o.op≠.defer c)
  (hk:b.kind=.deferred) (hro:b.roundOf=none) (hm:c0.mode=.panicking ({ v:=u,recovered:=false }::older)) (hrun:(execOp a.eval o).run P w=.ok .recover w) :
  step P (lone (b.atR a (.inRegion ops (i::rest)::k)) (c0::cs) w)=.next (lone (b.atR (a.put o.dst u) (.inRegion ops rest::k)) ({ c0 with mode:=.panicking ({ v:=u,recovered:=true }::older) }::cs) w):=by
 have h:=Frame.finish_atR b a ops i rest k u;rw[ho]at h;simp only[VC]at h;have d:tryRecover (b.atR a (.inRegion ops (i::rest)::k)) (c0::cs)=some (u,{ c0 with mode:=.panicking ({ v:=u,recovered:=true }::older) }::cs):=by unfold tryRecover;simp[Frame.atR,hk,hm]
 refine step_lone_go ?_;rw[stepGR_op ho hw,Oper.semAt_eq _ _ _ hd,<-h];have e:(b.atR a (.inRegion ops (i::rest)::k)).roundOf=none:=hro;simp only[stepG.apply,Sem.runT_eq,hrun,d,e,if_true,GStep.bare_after];simp[GStep.bare_after]
theorem Ju(hp:PHOk C ph)(hr:Rel C A bd w γ hg nx)(hwf:WF g)(hx:Ext g.h hg){fv:AV}{v:Value}{vs:List Value}
  (hfv:RV w γ A bd fv v) (has:RVs w γ A bd as vs) {r:PF} (h:EO C ph (bd+1) fv as g=some r)
  (ho:ops[i]?=some o) (hw:Region.wanted o (yielded ops a.tmps)=true) (hd:∀c,o.op≠.defer c)
  (hexec:(execOp a.eval o).run C.P w=(do let d <-Deferred.ofValue v vs.toArray;invoke d.target d.args:Sem Next).run C.P w) :
  (∀x g1,r=.ok x g1->Free γ g g1->∃u w' γ' hg',Fin C A bd w γ hg nx g w' γ' hg' g1/\RV w' γ' A bd x u /\
   Steps C.P (lone (b.atR a (.inRegion ops (i::rest)::k)) cs w) (lone (b.atR (a.put o.dst u) (.inRegion ops rest::k)) cs w')) /\
  (∀x g1,r=.pan x g1->Free γ g g1->∃u w' γ' hg',Fin C A bd w γ hg nx g w' γ' hg' g1/\RV w' γ' A bd x u /\
   Steps C.P (lone (b.atR a (.inRegion ops (i::rest)::k)) cs w) (lone ((b.atR a (.inRegion ops (i::rest)::k)).raise [{ v:=u,recovered:=false }]) cs w')):=by
 unfold EO at h;cases hfv with
 | clo _ f xs ys vs1 us1 hl hl2 h1 h2 =>
  dsimp only at h;rw[aa]at h
  split at h
  ·cases h
  injection h with h;have j:RVs w γ A bd (xs++(as++ys)) (vs1.toList++(vs++us1.toList)):=(RT hl h1).append (has.append (RT hl2 h2));have l:(vs1.toList++(vs++us1.toList)).toArray=(vs1++vs.toArray)++us1:=by apply WI;simp
  have e:Enters C.P f->(execOp a.eval o).run C.P w=.ok (.enter f ((vs1++vs.toArray)++us1)) w:=by intro he;rw[hexec];simp only[Deferred.ofValue,invoke,TV,Un,TQ];exact he _ _
  refine⟨λx g1 hr1 hf=>?_,λx g1 hr1 hf=>?_⟩
  ·obtain⟨he,hs⟩:=hp.call _ _ _ _ _ _ (h.trans hr1);obtain⟨u,w',γ',hg',f1,rv,out⟩:=hs A w γ hg nx _ hr hx hwf hf j .normal (b.atR a (.inRegion ops (i::rest)::k)::cs) (.inl rfl);rw[l]at out;exact⟨u,w',γ',hg',f1,rv,qT ho hw hd (e he) out⟩
  ·obtain⟨he,hs⟩:=hp.pan _ _ _ _ _ _ (h.trans hr1);obtain⟨u,w',γ',hg',f1,rv,out⟩:=hs A w γ hg nx _ hr hx hwf hf j .normal (b.atR a (.inRegion ops (i::rest)::k)::cs) (.inl rfl);rw[l]at out;exact⟨u,w',γ',hg',f1,rv,Ch ho hw hd (e he) out⟩
 |_=>cases h
end
theorem FM(hC:CfgOk C)(hi:IHOk C ih)(hp:PHOk C ph){ops:Array Oper}{b:Frame}{k:List Item}{cs:List Frame}:∀(l:List Oper) (i:Nat) {t:T} {df:List ADf} {g:G} {e:PE} {t':T} {df':List ADf} {g':G},
  ops.toList.drop i=l->(vH C nt ops.toList l).run ih ph (bd+1) t df g=.ok e t' df' g'->WF g ->
  ∀{w γ hg nx a},Rel C A bd w γ hg nx->Ext g.h hg->Free γ g g'->TR w γ A bd nt t a.tmps->DR w γ A bd df a.defers->b.roundOf=none->pf b.kind cs ->
   zF C A bd nt b k cs (lone (b.atR a (.inRegion ops (List.range' i l.length)::k)) cs w) w γ hg nx g e t' df' g':=by
 intro l
 induction l with
 | nil =>
  intro i t df g e t' df' g' _ h _ w γ hg nx a hr hx hf ht z H m;simp only[vH]at h;injection h with h1 h2 h3 h4;subst h1;subst h2;subst h3;subst h4;exact⟨a,w,γ,hg,undef,Fin.refl hr,ht,z,trivial,.one stepR_region_end⟩
 | cons o rest ihl =>
  intro i t df g e t' df' g' E h p w γ hg nx a hr hx hf ht z H m;have ho:ops[i]?=some o:=by
   have:(ops.toList.drop i)[0]?=some o:=by rw[E];rfl
   simpa [Um] using this
  have n:ops.toList.drop (i+1)=rest:=by rw[<-U4,E];rfl
  have I:List.range' i (o::rest).length=i::List.range' (i+1) rest.length:=by simp[WO]
  rw[I];have K:∀(args:Array Operand),(args.toList.map a.eval).toArray=args.map a.eval:=λargs=>by apply WI;simp
  have next:∀{out:Stg (T->AV->T)} {x:AV} {u:Value} {g1:G} {w1:World} {γ1:Gm} {B:Nat->AObj},qb nt o.dst=some out->Mon g g1->Fin C A bd w γ hg nx g w1 γ1 B g1->RV w1 γ1 A bd x u ->
    Steps C.P (lone (b.atR a (.inRegion ops (i::List.range' (i+1) rest.length)::k)) cs w) (lone (b.atR (a.put o.dst u) (.inRegion ops (List.range' (i+1) rest.length)::k)) cs w1) ->
    (vH C nt ops.toList rest).run ih ph (bd+1) (out.run t x) df g1=.ok e t' df' g' ->
    zF C A bd nt b k cs (lone (b.atR a (.inRegion ops (i::List.range' (i+1) rest.length)::k)) cs w) w γ hg nx g e t' df' g':=by
   intro out x u g1 w1 γ1 B j hm f1 rv st h;have wf1:=hm.wf p;have S:=tP hC.mon hi.mon hp.mon h wf1;obtain⟨a',wb,γb,F,uu,f2,tr,dr,pv,st2⟩:=ihl (i+1) n h wf1 (a:=a.put o.dst u) f1.rel (f1.ext hm hx) (f1.freed hr hm hf) ((ht.step f1.stp).put j rv)
    (by have:=z.step f1.stp;cases hd:o.dst<;>simpa [Act.put,hd] using this) H m
   exact⟨a',wb,γb,F,uu,f1.trans f2 hm S,tr,dr,pv,st2.of_steps st⟩
  have plain:∀{out:Stg (T->AV->T)},qb nt o.dst=some out->Region.wanted o (yielded ops a.tmps)=true ->
    BA out.run (λt df g=>(vH C nt ops.toList rest).run ih ph (bd+1) t df g) t df g ((cE C o.op).run ih (bd+1) none t g)=.ok e t' df' g' ->
    zF C A bd nt b k cs (lone (b.atR a (.inRegion ops (i::List.range' (i+1) rest.length)::k)) cs w) w γ hg nx g e t' df' g':=by
   intro out j hw h;have hm:=iW (op:=o.op) (d:=bd+1) (rd:=none) (t:=t) hC.mon hi.mon p;generalize hres:(cE C o.op).run ih (bd+1) none t g=r at h hm;have go:∀{x:AV} {g1:G},r≠.fail->(∀y,r≠.dfr y)->vOf r=x->gOf g r=g1->(vH C nt ops.toList rest).run ih ph (bd+1) (out.run t x) df g1=.ok e t' df' g' ->
     zF C A bd nt b k cs (lone (b.atR a (.inRegion ops (i::List.range' (i+1) rest.length)::k)) cs w) w γ hg nx g e t' df' g':=by
    intro x g1 X W Z B h;subst Z;subst B;have S:=tP hC.mon hi.mon hp.mon h (hm.wf p);obtain⟨u,wa,γa,h5,f1,rv,st⟩:=Eb (b:=b) (cs:=cs) (rest:=List.range' (i+1) rest.length) (k:=k) hC hi hr p ht m hx.agr hres X W (hf.le S.nx) ho hw;exact next j hm f1 rv st h
   cases r with
   |fail=>cases h
   |val x=>exact go (by simp) (by simp) rfl rfl h
   |upd x g1=>exact go (by simp) (by simp) rfl rfl h
   | dfr x =>
    obtain⟨dd,U,st⟩:=Ie (b:=b) (cs:=cs) (rest:=List.range' (i+1) rest.length) (k:=k) (rd:=none) hr ht H z hres (λf e d args g y he R=>hC.noDfr f e he d args g y R) ho hw;obtain⟨a',wb,γb,F,uu,f2,tr,dr,pv,st2⟩:=ihl (i+1) n h p (a:={ a with defers:=dd::a.defers }.put o.dst undef) hr hx hf
     (ht.put (a:={ a with defers:=dd::a.defers }) j cD)
     (by cases hd:o.dst<;>simpa [Act.put,hd] using U) H m
    exact⟨a',wb,γb,F,uu,f2,tr,dr,pv,st2.of_steps (.one st)⟩
  have exec:∀{out:Stg (T->AV->T)},qb nt o.dst=some out->Region.wanted o (yielded ops a.tmps)=true ->
    (J8 C o.op out.run).run (λt df g=>(vH C nt ops.toList rest).run ih ph (bd+1) t df g) ih ph (bd+1) t df g=.ok e t' df' g' ->
    zF C A bd nt b k cs (lone (b.atR a (.inRegion ops (i::List.range' (i+1) rest.length)::k)) cs w) w γ hg nx g e t' df' g':=by
   intro out j hw h;generalize hop:o.op=op at h;unfold J8 at h
   split at h
   ·
    rename_i x;have hd:∀c,o.op≠.defer c:=by rw[hop];intro c h;cases h
    split at h
    rotate_left
    ·cases h
    rename_i s hs;dsimp only at h;have J:=aD hs ht hr;generalize hev:a.eval x=vx at J
    split at h
    rotate_left
    ·cases h
    rename_i ty y R;rw[R]at J;injection h with h1 h2 h3 h4;subst h1;subst h2;subst h3;subst h4;refine⟨a,w,γ,hg,vx,Fin.refl hr,ht,z,J,_,.one (HC ho hw hd ?_)⟩;cases J with
    | ifc _ _ _ u hu =>
     simp only[execOp,hop,hev]
     rfl
   ·
    rename_i x xty asserted ok;have hd:∀c,o.op≠.defer c:=by rw[hop];intro c h;cases h
    split at h
    rotate_left
    ·cases h
    rename_i s _ ik hs Q;dsimp only at h;have J:=aD hs ht hr;generalize hev:a.eval x=vx at J
    split at h
    rotate_left
    ·cases h
    rename_i ty y R;rw[R]at J;rw[aa]at h
    split at h
    rotate_left
    ·cases h
    rename_i N;have N:=aH N;subst N;cases J with
    | ifc _ _ _ u hu =>
     have O:(execOp a.eval o).run C.P w=.ok (.value (if ok then .tuple #[u,.bool true] else u)) w:=by simp only[execOp,hop,hev,Instr.typeAssert,TV,aG Q,TQ,if_true,Un]
     refine next j (Mon.refl g) (Fin.refl hr) ?_ (.one (vP ho hw hd O)) h
     cases ok with
     | true =>
      refine RV.tup _ [y,.bool true] #[u,.bool true] rfl λi x v h1 h2=>?_
      match i with
      |0=>simp at h1 h2;subst h1;subst h2;exact hu
      |1=>simp at h1 h2;subst h1;subst h2;exact .bool _ _
      |i+2=>simp at h1
     |false=>exact hu
   ·
    rename_i fo args at2;have hd:∀c,o.op≠.defer c:=by rw[hop];intro c h;cases h
    split at h
    rotate_left
    ·cases h
    rename_i fv vs V Y;dsimp only at h
    split at h
    ·rename_i r D;obtain⟨s1,s2⟩:=Ju (b:=b) (cs:=cs) (rest:=List.range' (i+1) rest.length) (k:=k) hp hr p hx (aD V ht hr) (gR ht hr Y) D ho hw hd (by simp only[execOp,hop,resolve,K]);cases r with
     |fail=>cases h
     | ok x g1 =>
      have hm:=xy hp.mon D (.inl rfl) p;have S:=tP hC.mon hi.mon hp.mon h (hm.wf p);obtain⟨u,w1,γ1,B,f1,rv,st⟩:=s1 x g1 rfl (hf.le S.nx);exact next j hm f1 rv st h
     | pan x g1 =>
      have h:PR.ok (.pan x) t df g1=.ok e t' df' g':=h;injection h with h1 h2 h3 h4;subst h1;subst h2;subst h3;subst h4;obtain⟨u,w1,γ1,B,f1,rv,st⟩:=s2 x g1 rfl hf;exact⟨a,w1,γ1,B,u,f1,ht.step f1.stp,z.step f1.stp,rv,_,st⟩
    ·exact plain j hw (by rw[hop];exact h)
   ·exact plain j hw (by rw[hop];exact h)
  simp only[vH]at h
  split at h
  ·rename_i out j
   split at h
   ·rename_i L;refine exec j ?_ h;simp[Region.wanted,L]
   ·rename_i gd L
    split at h
    ·rename_i q hq;rw[<-L]at hq;dsimp only at h
     split at h
     ·rename_i M;exact exec j (mf hq ht M) h
     ·rename_i M;have hw:=mf hq ht M;obtain⟨a',wb,γb,F,uu,f2,tr,dr,pv,st2⟩:=ihl (i+1) n h p (a:=a.put o.dst undef) hr hx hf
       (ht.put j cD) (by cases hd:o.dst<;>simpa [Act.put,hd] using z) H m
      exact⟨a',wb,γb,F,uu,f2,tr,dr,pv,st2.of_steps (.one (tW ho hw))⟩
     ·cases h
    ·cases h
  ·cases h
theorem Ft(hC:CfgOk C)(hi:IHOk C ih){c:Code}{t:T}{g:G}{e:PE}
  (h:Mr ((aS C nt c).run ih (bd+1) none t df g)=.ok e t' df' g'):zE C bd nt c t df g e t' df' g':=by
 generalize hr:(aS C nt c).run ih (bd+1) none t df g=r at h;cases r with
 |fail=>cases h
 | ok e1 t1 df1 g1 =>
  have h:PR.ok (.ex e1) t1 df1 g1=.ok e t' df' g':=h;injection h with h1 h2 h3 h4;subst h1;subst h2;subst h3;subst h4;intro A w γ hg nx b a k cs i hx m hf ht j l d;obtain⟨a',w',γ',hg',f,tr,dr,ar⟩:=xx hC hi c hr A w γ hg nx b a k cs i hx m hf ht j l d;exact⟨a',w',γ',hg',undef,f,tr,dr,trivial,ar⟩
theorem t8(hC:CfgOk C)(hi:IHOk C ih)(hp:PHOk C ph):∀(c:Code) {t:T} {df:List ADf} {g:G} {e:PE} {t':T} {df':List ADf} {g':G},
  (cC C nt c).run ih ph (bd+1) t df g=.ok e t' df' g'->zE C bd nt c t df g e t' df' g':=by
 intro c
 induction c with
 | region id ops draw =>
  intro t df g e t' df' g' h;cases draw with
  |true=>simp only[cC]at h;exact Ft hC hi h
  | false =>
   intro A w γ hg nx b a k cs hr hx l hf ht n m d;simp only[cC]at h;obtain⟨a',w',γ',hg',u,f,tr,dr,pv,ar⟩:=FM (b:=b) (cs:=cs) (k:=k) hC hi hp ops.toList 0 (by simp) h l hr hx hf ht n m d;refine⟨a',w',γ',hg',u,f,tr,dr,pv,ArrP.of_steps (.one stepR_region) ?_⟩;rw[WK];simpa using ar
 | seq x y ihx ihy =>
  intro t df g e t' df' g' h A w γ hg nx b a k cs hr hx l hf ht n m d;simp only[cC]at h;generalize hc:(cC C nt x).run ih ph (bd+1) t df g=r at h;cases r with
  |fail=>cases h
  | ok e1 t1 df1 g1 =>
   have q:=cZ hC.mon hi.mon hp.mon _ hc l;have wf1:=q.wf l;cases e1 with
   | pan v =>
    have h:PR.ok (.pan v) t1 df1 g1=.ok e t' df' g':=h;injection h with h1 h2 h3 h4;subst h1;subst h2;subst h3;subst h4;obtain⟨a1,w1,γ1,i,o,f1,tr1,dr1,pv1,k₁,ar1⟩:=ihx hc A w γ hg nx b a (.code y::k) cs hr hx l hf ht n m d;exact⟨a1,w1,γ1,i,o,f1,tr1,dr1,pv1,k₁,.head stepR_seq ar1⟩
   | ex e1 =>
    cases e1 with
    | norm =>
     have h:(cC C nt y).run ih ph (bd+1) t1 df1 g1=.ok e t' df' g':=h;have D:=cZ hC.mon hi.mon hp.mon _ h wf1;obtain⟨a1,w1,γ1,i,o,f1,tr1,dr1,pv1,ar1⟩:=ihx hc A w γ hg nx b a (.code y::k) cs hr hx l (hf.le D.nx) ht n m d;obtain⟨a2,F,γ2,z,E,f2,tr2,dr2,pv2,ar2⟩:=ihy h A w1 γ1 i _ b a1 k cs f1.rel (f1.ext q hx) wf1 (f1.freed hr q hf) tr1 dr1 m d;exact⟨a2,F,γ2,z,E,f1.trans f2 q D,tr2,dr2,pv2,ar2.of_steps (.head stepR_seq ar1)⟩
    | exit j =>
     have h:PR.ok (.ex (.exit j)) t1 df1 g1=.ok e t' df' g':=h;injection h with h1 h2 h3 h4;subst h1;subst h2;subst h3;subst h4;obtain⟨a1,w1,γ1,i,o,f1,tr1,dr1,pv1,k₁,hk,ar1⟩:=ihx hc A w γ hg nx b a (.code y::k) cs hr hx l hf ht n m d;exact⟨a1,w1,γ1,i,o,f1,tr1,dr1,pv1,k₁,by rw[hk];rfl,.head stepR_seq ar1⟩
    | ret =>
     have h:PR.ok (.ex .ret) t1 df1 g1=.ok e t' df' g':=h;injection h with h1 h2 h3 h4;subst h1;subst h2;subst h3;subst h4;obtain⟨a1,w1,γ1,i,o,f1,tr1,dr1,pv1,k₁,ar1⟩:=ihx hc A w γ hg nx b a (.code y::k) cs hr hx l hf ht n m d;exact⟨a1,w1,γ1,i,o,f1,tr1,dr1,pv1,k₁,.head stepR_seq ar1⟩
 | cond c x y ihx ihy =>
  intro t df g e t' df' g' h A w γ hg nx b a k cs hr hx l hf ht n m d;simp only[cC]at h
  split at h
  rotate_left
  ·cases h
  rename_i s hs;dsimp only at h;have I:=aD hs ht hr;generalize hcv:a.eval c=vc at I;generalize s.run t=cv at h I;cases I with
  | bool _ bv =>
   dsimp only at h;cases bv with
   | true =>
    obtain⟨a1,w1,γ1,i,o,f1,tr1,dr1,pv1,ar1⟩:=ihx h A w γ hg nx b a k cs hr hx l hf ht n m d;exact⟨a1,w1,γ1,i,o,f1,tr1,dr1,pv1,ar1.of_steps (.one (by simpa using stepR_cond (P:=C.P) (b:=b) (a:=a) (k:=k) (cs:=cs) (w:=w) (x:=x) (y:=y) hcv))⟩
   | false =>
    obtain⟨a1,w1,γ1,i,o,f1,tr1,dr1,pv1,ar1⟩:=ihy h A w γ hg nx b a k cs hr hx l hf ht n m d;exact⟨a1,w1,γ1,i,o,f1,tr1,dr1,pv1,ar1.of_steps (.one (by simpa using stepR_cond (P:=C.P) (b:=b) (a:=a) (k:=k) (cs:=cs) (w:=w) (x:=x) (y:=y) hcv))⟩
  |_=>cases h
 | block id body ihb =>
  intro t df g e t' df' g' h A w γ hg nx b a k cs hr hx l hf ht n m d;simp only[cC]at h;generalize hc:(cC C nt body).run ih ph (bd+1) t df g=r at h;cases r with
  |fail=>cases h
  | ok e1 t1 df1 g1 =>
   cases e1 with
   | pan v =>
    have h:PR.ok (.pan v) t1 df1 g1=.ok e t' df' g':=h;injection h with h1 h2 h3 h4;subst h1;subst h2;subst h3;subst h4;obtain⟨a1,w1,γ1,i,o,f1,tr1,dr1,pv1,k₁,ar1⟩:=ihb hc A w γ hg nx b a (.inBlock id::k) cs hr hx l hf ht n m d;exact⟨a1,w1,γ1,i,o,f1,tr1,dr1,pv1,k₁,.head stepR_block ar1⟩
   | ex e1 =>
    cases e1 with
    | norm =>
     have h:PR.ok (.ex .norm) t1 df1 g1=.ok e t' df' g':=h;injection h with h1 h2 h3 h4;subst h1;subst h2;subst h3;subst h4;obtain⟨a1,w1,γ1,i,o,f1,tr1,dr1,pv1,ar1⟩:=ihb hc A w γ hg nx b a (.inBlock id::k) cs hr hx l hf ht n m d;exact⟨a1,w1,γ1,i,o,f1,tr1,dr1,pv1,.head stepR_block (Steps.trans ar1 (.one stepR_inBlock))⟩
    | exit j =>
     simp only[xw,aa]at h
     split at h
     ·rename_i B;have B:=aH B;subst B;injection h with h1 h2 h3 h4;subst h1;subst h2;subst h3;subst h4;obtain⟨a1,w1,γ1,i,o,f1,tr1,dr1,pv1,k₁,hk,ar1⟩:=ihb hc A w γ hg nx b a (.inBlock j::k) cs hr hx l hf ht n m d;exact⟨a1,w1,γ1,i,o,f1,tr1,dr1,trivial,.head stepR_block (Steps.trans ar1 (.one (stepR_exit (by rw[hk];simp[exitTo]))))⟩
     ·rename_i B;injection h with h1 h2 h3 h4;subst h1;subst h2;subst h3;subst h4;obtain⟨a1,w1,γ1,i,o,f1,tr1,dr1,pv1,k₁,hk,ar1⟩:=ihb hc A w γ hg nx b a (.inBlock id::k) cs hr hx l hf ht n m d;refine⟨a1,w1,γ1,i,o,f1,tr1,dr1,pv1,k₁,?_,.head stepR_block ar1⟩;rw[hk];have H:(id == j)=false:=by simp only[beq_eq_false_iff_ne,ne_eq];rintro rfl;exact B (Uv _)
      simp[exitTo,H]
    | ret =>
     have h:PR.ok (.ex .ret) t1 df1 g1=.ok e t' df' g':=h;injection h with h1 h2 h3 h4;subst h1;subst h2;subst h3;subst h4;obtain⟨a1,w1,γ1,i,o,f1,tr1,dr1,pv1,k₁,ar1⟩:=ihb hc A w γ hg nx b a (.inBlock id::k) cs hr hx l hf ht n m d;exact⟨a1,w1,γ1,i,o,f1,tr1,dr1,pv1,k₁,.head stepR_block ar1⟩
 | loop body ihb =>
  intro t df g e t' df' g' h A w γ hg nx b a k cs hr hx l hf ht n m d;simp only[cC]at h;generalize hc:(cC C nt body).run ih ph (bd+1) t df g=r at h;cases r with
  |fail=>cases h
  | ok e1 t1 df1 g1 =>
   have q:=cZ hC.mon hi.mon hp.mon _ hc l;have wf1:=q.wf l;cases e1 with
   | pan v =>
    have h:PR.ok (.pan v) t1 df1 g1=.ok e t' df' g':=h;injection h with h1 h2 h3 h4;subst h1;subst h2;subst h3;subst h4;obtain⟨a1,w1,γ1,i,o,f1,tr1,dr1,pv1,k₁,ar1⟩:=ihb hc A w γ hg nx b a (.inLoop body::k) cs hr hx l hf ht n m d;exact⟨a1,w1,γ1,i,o,f1,tr1,dr1,pv1,k₁,.head stepR_loop ar1⟩
   | ex e1 =>
    cases e1 with
    | norm =>
     have h:ph.code nt (bd+1) (.loop body) t1 df1 g1=.ok e t' df' g':=h;have D:=hp.mon.code _ _ _ _ _ _ _ _ _ _ h wf1;obtain⟨a1,w1,γ1,i,o,f1,tr1,dr1,pv1,ar1⟩:=ihb hc A w γ hg nx b a (.inLoop body::k) cs hr hx l (hf.le D.nx) ht n m d;obtain⟨a2,F,γ2,z,E,f2,tr2,dr2,pv2,ar2⟩:=hp.code _ _ _ _ _ _ _ _ _ _ h A w1 γ1 i _ b a1 k cs f1.rel (f1.ext q hx) wf1 (f1.freed hr q hf) tr1 dr1 m d;refine⟨a2,F,γ2,z,E,f1.trans f2 q D,tr2,dr2,pv2,ArrP.of_steps (.head stepR_loop (Steps.trans ar1 (.one stepR_inLoop))) ?_⟩;have p:step C.P (lone (b.atR a1 (.code (.loop body)::k)) cs w1)=.next (lone (b.atR a1 (.code body::.inLoop body::k)) cs w1):=stepR_loop;have ne:∀{a':Act} {k':List Item} {w':World},k'≠.code (.loop body)::k->lone (b.atR a1 (.code (.loop body)::k)) cs w1≠lone (b.atR a' k') cs w':=λh h'=>h (BC h').symm;cases e with
     | pan v =>
      obtain⟨k₁,ar2⟩:=ar2;refine⟨k₁,fR ar2 (λh'=>?_) p⟩;have h1:(lone (b.atR a1 (.code (.loop body)::k)) cs w1).gs=(lone ((b.atR a2 k₁).raise [{ v:=E,recovered:=false }]) cs F).gs:=by rw[h']
      simp only[lone,Array.mk.injEq,List.cons.injEq,and_true]at h1;have h2:=congrArg (λg:Goroutine=>g.frame.mode) h1;simp[Frame.atR,Frame.raise]at h2
     | ex e =>
      cases e with
      |norm=>exact fR ar2 (ne (λh=>by have:=congrArg List.length h;simp at this)) p
      | exit j =>
       obtain⟨k₁,hk,ar2⟩:=ar2;exact⟨k₁,hk,fR ar2 (ne (λh=>by injection h with h _;injection h with h;cases h)) p⟩
      | ret =>
       obtain⟨k₁,ar2⟩:=ar2;exact⟨k₁,fR ar2 (ne (λh=>by injection h with h _;injection h with h;cases h)) p⟩
    | exit j =>
     have h:PR.ok (.ex (.exit j)) t1 df1 g1=.ok e t' df' g':=h;injection h with h1 h2 h3 h4;subst h1;subst h2;subst h3;subst h4;obtain⟨a1,w1,γ1,i,o,f1,tr1,dr1,pv1,k₁,hk,ar1⟩:=ihb hc A w γ hg nx b a (.inLoop body::k) cs hr hx l hf ht n m d;exact⟨a1,w1,γ1,i,o,f1,tr1,dr1,pv1,k₁,by rw[hk];rfl,.head stepR_loop ar1⟩
    | ret =>
     have h:PR.ok (.ex .ret) t1 df1 g1=.ok e t' df' g':=h;injection h with h1 h2 h3 h4;subst h1;subst h2;subst h3;subst h4;obtain⟨a1,w1,γ1,i,o,f1,tr1,dr1,pv1,k₁,ar1⟩:=ihb hc A w γ hg nx b a (.inLoop body::k) cs hr hx l hf ht n m d;exact⟨a1,w1,γ1,i,o,f1,tr1,dr1,pv1,k₁,.head stepR_loop ar1⟩
 | scope body ihb =>
  intro t df g e t' df' g' h A w γ hg nx b a k cs hr hx l hf ht n m d;have h:(cC C nt body).run ih ph (bd+1) t df g=.ok e t' df' g':=h;obtain⟨a1,w1,γ1,i,o,f1,tr1,dr1,pv1,ar1⟩:=ihb h A w γ hg nx b a (.inScope body::k) cs hr hx l hf ht n m d;refine⟨a1,w1,γ1,i,o,f1,tr1,dr1,pv1,?_⟩;cases e with
  |pan v=>obtain⟨k₁,ar1⟩:=ar1;exact⟨k₁,.head bY ar1⟩
  | ex e =>
   cases e with
   |norm=>exact .head bY (Steps.trans ar1 (.one o_))
   |exit j=>obtain⟨k₁,hk,ar1⟩:=ar1;exact⟨k₁,by rw[hk];rfl,.head bY ar1⟩
   |ret=>obtain⟨k₁,ar1⟩:=ar1;exact⟨k₁,.head bY ar1⟩
 |_=>intro t df g e t' df' g' h;simp only[cC]at h;exact Ft hC hi h
theorem M1(hC:CfgOk C)(hi:IHOk C ih)(hp:PHOk C ph):∀(c:Code) {v:AV} {t:T} {g:G} {e:PE} {t':T} {df':List ADf} {g':G},
  (si C nt c).run ih ph (bd+1) v t g=.ok e t' df' g'->∀A w γ hg nx (b:Frame) (a:Act) k c0 cs u,Rel C A bd w γ hg nx->Ext g.h hg->WF g->Free γ g g'->TR w γ A bd nt t a.tmps->a.defers=[]->RV w γ A bd v u ->
  b.roundOf=none->b.kind=.deferred->c0.mode=.panicking [{ v:=u,recovered:=false }] ->
  zF C A bd nt b k ({ c0 with mode:=.panicking [{ v:=u,recovered:=true }] }::cs) (lone (b.atR a (.code c::k)) (c0::cs) w) w γ hg nx g e t' df' g':=by
 intro c
 induction c with
 | region id ops draw =>
  intro v t g e t' df' g' h A w γ hg nx b a k c0 cs u hr hx l hf ht m p i hk hm;cases draw with
  |true=>cases h
  | false =>
   simp only[si]at h
   split at h
   rotate_left
   ·cases h
   rename_i o rest s
   split at h
   rotate_left
   ·cases h
   rename_i ca cb B H
   split at h
   rotate_left
   ·cases h
   rename_i out D;have ho:ops[0]?=some o:=by
    have:ops.toList[0]?=some o:=by rw[s];rfl
    simpa using this
   have hd:∀c,o.op≠.defer c:=by rw[B];intro c h;cases h
   have hw:Region.wanted o (yielded ops a.tmps)=true:=by simp[Region.wanted,H]
   have st0:=Gg (P:=C.P) (b:=b) (a:=a) (k:=k) (cs:=cs) (rest:=List.range' 1 rest.length) (w:=w) ho hw hd hk i hm
    (by simp only[execOp,B,resolve,invoke,TV,Un,TQ];rfl)
   obtain⟨a',w',γ',hg',uu,f,tr,dr,pv,st⟩:=FM (b:=b) (cs:={ c0 with mode:=.panicking [{ v:=u,recovered:=true }] }::cs) (k:=k) (a:=a.put o.dst u) hC hi hp rest 1 (by rw[s];rfl) h l hr hx hf (ht.put D p)
    (by cases hd:o.dst<;>simp[Act.put,m,DR]) i (.inr ⟨hk,_,cs,rfl,.inr ⟨u,false,[],rfl⟩⟩)
   have J:List.range ops.size=0::List.range' 1 rest.length:=by
    have:ops.size=rest.length+1:=by rw[<-WQ,s];rfl
    rw[this,WK,WO]
   refine⟨a',w',γ',hg',uu,f,tr,dr,pv,st.of_steps (.head stepR_region (.one ?_))⟩;rw[J];exact st0
 | seq x y ihx _ =>
  intro v t g e t' df' g' h A w γ hg nx b a k c0 cs u hr hx l hf ht m p i hk hm;simp only[si]at h;generalize hc:(si C nt x).run ih ph (bd+1) v t g=r at h;cases r with
  |fail=>cases h
  | ok e1 t1 df1 g1 =>
   have E:=Bj hC.mon hi.mon hp.mon _ hc l;have wf1:=E.wf l;cases e1 with
   | pan v1 =>
    have h:PR.ok (.pan v1) t1 df1 g1=.ok e t' df' g':=h;injection h with h1 h2 h3 h4;subst h1;subst h2;subst h3;subst h4;obtain⟨a1,w1,γ1,d,n,f1,tr1,dr1,pv1,k₁,ar1⟩:=ihx hc A w γ hg nx b a (.code y::k) c0 cs u hr hx l hf ht m p i hk hm;exact⟨a1,w1,γ1,d,n,f1,tr1,dr1,pv1,k₁,.head stepR_seq ar1⟩
   | ex e1 =>
    cases e1 with
    | norm =>
     have h:(cC C nt y).run ih ph (bd+1) t1 df1 g1=.ok e t' df' g':=h;have K:=cZ hC.mon hi.mon hp.mon _ h wf1;obtain⟨a1,w1,γ1,d,n,f1,tr1,dr1,pv1,ar1⟩:=ihx hc A w γ hg nx b a (.code y::k) c0 cs u hr hx l (hf.le K.nx) ht m p i hk hm;obtain⟨a2,M,γ2,F,L,f2,tr2,dr2,pv2,ar2⟩:=t8 hC hi hp y h A w1 γ1 d _ b a1 k ({ c0 with mode:=.panicking [{ v:=u,recovered:=true }] }::cs) f1.rel (f1.ext E hx) wf1 (f1.freed hr E hf) tr1 dr1 i (.inr ⟨hk,_,cs,rfl,.inr ⟨u,false,[],rfl⟩⟩);exact⟨a2,M,γ2,F,L,f1.trans f2 E K,tr2,dr2,pv2,ar2.of_steps (.head stepR_seq ar1)⟩
    | exit j =>
     have h:PR.ok (.ex (.exit j)) t1 df1 g1=.ok e t' df' g':=h;injection h with h1 h2 h3 h4;subst h1;subst h2;subst h3;subst h4;obtain⟨a1,w1,γ1,d,n,f1,tr1,dr1,pv1,k₁,q,ar1⟩:=ihx hc A w γ hg nx b a (.code y::k) c0 cs u hr hx l hf ht m p i hk hm;exact⟨a1,w1,γ1,d,n,f1,tr1,dr1,pv1,k₁,by rw[q];rfl,.head stepR_seq ar1⟩
    | ret =>
     have h:PR.ok (.ex .ret) t1 df1 g1=.ok e t' df' g':=h;injection h with h1 h2 h3 h4;subst h1;subst h2;subst h3;subst h4;obtain⟨a1,w1,γ1,d,n,f1,tr1,dr1,pv1,k₁,ar1⟩:=ihx hc A w γ hg nx b a (.code y::k) c0 cs u hr hx l hf ht m p i hk hm;exact⟨a1,w1,γ1,d,n,f1,tr1,dr1,pv1,k₁,.head stepR_seq ar1⟩
 | block id body ihb =>
  intro v t g e t' df' g' h A w γ hg nx b a k c0 cs u hr hx l hf ht m p i hk hm;simp only[si]at h;generalize hc:(si C nt body).run ih ph (bd+1) v t g=r at h;cases r with
  |fail=>cases h
  | ok e1 t1 df1 g1 =>
   cases e1 with
   | pan v1 =>
    have h:PR.ok (.pan v1) t1 df1 g1=.ok e t' df' g':=h;injection h with h1 h2 h3 h4;subst h1;subst h2;subst h3;subst h4;obtain⟨a1,w1,γ1,d,n,f1,tr1,dr1,pv1,k₁,ar1⟩:=ihb hc A w γ hg nx b a (.inBlock id::k) c0 cs u hr hx l hf ht m p i hk hm;exact⟨a1,w1,γ1,d,n,f1,tr1,dr1,pv1,k₁,.head stepR_block ar1⟩
   | ex e1 =>
    cases e1 with
    | norm =>
     have h:PR.ok (.ex .norm) t1 df1 g1=.ok e t' df' g':=h;injection h with h1 h2 h3 h4;subst h1;subst h2;subst h3;subst h4;obtain⟨a1,w1,γ1,d,n,f1,tr1,dr1,pv1,ar1⟩:=ihb hc A w γ hg nx b a (.inBlock id::k) c0 cs u hr hx l hf ht m p i hk hm;exact⟨a1,w1,γ1,d,n,f1,tr1,dr1,pv1,.head stepR_block (Steps.trans ar1 (.one stepR_inBlock))⟩
    | exit j =>
     simp only[xw,aa]at h
     split at h
     ·rename_i z;have z:=aH z;subst z;injection h with h1 h2 h3 h4;subst h1;subst h2;subst h3;subst h4;obtain⟨a1,w1,γ1,d,n,f1,tr1,dr1,pv1,k₁,q,ar1⟩:=ihb hc A w γ hg nx b a (.inBlock j::k) c0 cs u hr hx l hf ht m p i hk hm;exact⟨a1,w1,γ1,d,n,f1,tr1,dr1,trivial,.head stepR_block (Steps.trans ar1 (.one (stepR_exit (by rw[q];simp[exitTo]))))⟩
     ·rename_i z;injection h with h1 h2 h3 h4;subst h1;subst h2;subst h3;subst h4;obtain⟨a1,w1,γ1,d,n,f1,tr1,dr1,pv1,k₁,q,ar1⟩:=ihb hc A w γ hg nx b a (.inBlock id::k) c0 cs u hr hx l hf ht m p i hk hm;refine⟨a1,w1,γ1,d,n,f1,tr1,dr1,pv1,k₁,?_,.head stepR_block ar1⟩;rw[q];have I:(id == j)=false:=by simp only[beq_eq_false_iff_ne,ne_eq];rintro rfl;exact z (Uv _)
      simp[exitTo,I]
    | ret =>
     have h:PR.ok (.ex .ret) t1 df1 g1=.ok e t' df' g':=h;injection h with h1 h2 h3 h4;subst h1;subst h2;subst h3;subst h4;obtain⟨a1,w1,γ1,d,n,f1,tr1,dr1,pv1,k₁,ar1⟩:=ihb hc A w γ hg nx b a (.inBlock id::k) c0 cs u hr hx l hf ht m p i hk hm;exact⟨a1,w1,γ1,d,n,f1,tr1,dr1,pv1,k₁,.head stepR_block ar1⟩
 | scope body ihb =>
  intro v t g e t' df' g' h A w γ hg nx b a k c0 cs u hr hx l hf ht m p i hk hm;have h:(si C nt body).run ih ph (bd+1) v t g=.ok e t' df' g':=h;obtain⟨a1,w1,γ1,d,n,f1,tr1,dr1,pv1,ar1⟩:=ihb h A w γ hg nx b a (.inScope body::k) c0 cs u hr hx l hf ht m p i hk hm;refine⟨a1,w1,γ1,d,n,f1,tr1,dr1,pv1,?_⟩;cases e with
  |pan v=>obtain⟨k₁,ar1⟩:=ar1;exact⟨k₁,.head bY ar1⟩
  | ex e =>
   cases e with
   |norm=>exact .head bY (Steps.trans ar1 (.one o_))
   |exit j=>obtain⟨k₁,hk,ar1⟩:=ar1;exact⟨k₁,by rw[hk];rfl,.head bY ar1⟩
   |ret=>obtain⟨k₁,ar1⟩:=ar1;exact⟨k₁,.head bY ar1⟩
 |_=>intro v t g e t' df' g' h;cases h
theorem M3(hC:CfgOk C)(hi:IHOk C ih)(hp:PHOk C ph){g:G}(h:M2 C ih ph (bd+1) f v as g=some g'):Enters C.P f /\
  ∀A w γ hg nx vs,Rel C A bd w γ hg nx->Ext g.h hg->WF g->Free γ g g'->RVs w γ A bd as vs->∀(c0:Frame) (cs:List Frame) (u:Value),RV w γ A bd v u->c0.mode=.panicking [{ v:=u,recovered:=false }] ->
  ∃w' γ' hg' frX val,Fin C A bd w γ hg nx g w' γ' hg' g' /\
   Steps C.P (lone (Frame.enter C.P f vs.toArray .deferred) (c0::cs) w) (lone frX ({ c0 with mode:=.panicking [{ v:=u,recovered:=true }] }::cs) w')/\frX.kind=.deferred/\frX.going C.P w' (.returned val):=by
 unfold M2 at h
 split at h
 ·cases h
 rename_i fn hfn
 split at h
 rotate_left
 ·cases h
 rename_i c r hbody hres;rw[aa]at h
 split at h
 ·cases h
 rename_i hcond;simp only[UB,not_or,Vh,Bool.not_eq_false']at hcond;obtain⟨hname,hle⟩:=hcond;rw[Uw,aA]at hle;refine⟨λargs w=>?_,?_⟩
 ·unfold callFunc;have hn : fn.name ≠ "runtime.NumGoroutine" := by simpa using hname
  simp[hfn,hn,hbody]
 intro A w γ hg nx vs hr hx hwf hf hv c0 cs u hvu hm
 let b:Frame:={ (default:Frame) with fn:=f,kind:=.deferred,roundOf:=none }
 let a0:Act:={ tmps:=vs.toArray++Array.replicate (fn.ntmps - vs.toArray.size) undef,defers:=[] }
 have henter:Frame.enter C.P f vs.toArray .deferred=b.atR a0 [.code c]:=by simp[Frame.enter,Frame.atR,hfn,hbody,b,a0]
 have key:∀{e:Ex} {t1:T} {g1:G},(si C fn.ntmps c).run ih ph (bd+1) v (bN 0 as .nil) g=.ok (.ex e) t1 [] g1->(∀j,e≠.exit j)->(match r.run t1 g1 with|some _=>some g1|none=>none)=some g' ->
   ∃w' γ' hg' frX val,Fin C A bd w γ hg nx g w' γ' hg' g' /\
   Steps C.P (lone (Frame.enter C.P f vs.toArray .deferred) (c0::cs) w) (lone frX ({ c0 with mode:=.panicking [{ v:=u,recovered:=true }] }::cs) w')/\frX.kind=.deferred/\frX.going C.P w' (.returned val):=by
  intro e t1 g1 hc hne hend
  split at hend
  rotate_left
  ·cases hend
  rename_i xs hxs;injection hend with hend;subst hend;have m1:=Bj hC.mon hi.mon hp.mon _ hc hwf;obtain⟨a1,w1,γ1,hg1,u1,f1,tr1,dr1,pv1,ar1⟩:=M1 hC hi hp c hc A w γ hg nx b a0 [] c0 cs u hr hx hwf hf (ze hv hle) rfl hvu rfl rfl hm;have hd1:a1.defers=[]:=by
   cases hd:a1.defers with
   |nil=>rfl
   |cons d ds=>rw[hd]at dr1;exact dr1.elim
  obtain⟨us,hus,hrv⟩:=zU hC tr1 f1.rel (f1.ext m1 hx) hres hxs;obtain⟨val,hval,_⟩:=tR (γ:=γ1) (A:=A) (bd:=bd) hus;rw[henter];cases e with
  |norm=>exact⟨w1,γ1,hg1,{ b.atR a1 [] with mode:=.returning },val,f1,Steps.trans ar1 (.one (stepR_end rfl)),rfl,rfl,hd1,fn,hfn,hval⟩
  | ret =>
   obtain⟨k₁,ar1⟩:=ar1;exact⟨w1,γ1,hg1,{ b.atR a1 (.code .ret::k₁) with mode:=.returning },val,f1,Steps.trans ar1 (.one (stepR_ret rfl)),rfl,rfl,hd1,fn,hfn,hval⟩
  |exit j=>exact absurd rfl (hne j)
 split at h
 ·cases h
 ·rename_i e t1 g1 hne hc;exact key hc (by rintro j rfl;exact hne j rfl) h
 ·cases h
theorem yq(hC:CfgOk C)(hi:IHOk C ih){fn:Func}{r:Stg (T->G->Option (List AV))}(hres:rT C fn.results.toList=some r)
  (hend:cT ih (bd+1) r.run t df g=.ok v g') (hwf:WF g) (hr:Rel C A bd w γ hg nx) (hx:Ext g.h hg) (hf:Free γ g g') {fr:Frame} {cs:List Frame} (ht:TR w γ A bd fn.ntmps t fr.tmps) (hdf:DR w γ A bd df fr.defers) (hm:fr.mode=.returning) :
  ∃u w' γ' hg',Fin C A bd w γ hg nx g w' γ' hg' g'/\RV w' γ' A bd v u/\Steps C.P (lone fr cs w) (lone { fr with defers:=[] } cs w')/\(results fn fr.tmps).run C.P w'=.ok u w':=by
 unfold cT at hend
 split at hend
 ·cases hend
 rename_i g2 h2;have f:=mg hi.mon h2 hwf
 split at hend
 rotate_left
 ·cases hend
 rename_i xs e;injection hend with h1 a;subst a;subst h1;obtain⟨i,γ2,b,f2,st2⟩:=Db hi h2 hwf (fr:=fr) (cs:=cs) hr hx hf hdf hm;obtain⟨us,d,c⟩:=zU hC (ht.step f2.stp) f2.rel (f2.ext f hx) hres e;obtain⟨u,hu,k⟩:=tR (γ:=γ2) (A:=A) (bd:=bd) d;exact⟨u,i,γ2,b,f2,k c,st2,hu⟩
theorem An(hC:CfgOk C)(hi:IHOk C ih)(hp:PHOk C ph){fn:Func}{r:Stg (T->G->Option (List AV))}(hres:rT C fn.results.toList=some r)(hwf:WF g)(hr:Rel C A bd w γ hg nx)(hx:Ext g.h hg)(hf:Free γ g g')
  {fr:Frame} {cs:List Frame} (ht:TR w γ A bd fn.ntmps t fr.tmps) (hdf:DR w γ A bd df fr.defers)  (hm:fr.mode=.panicking [{ v:=u,recovered:=false }]) (hv:RV w γ A bd v u) (hfn:C.P.funcs[fr.fn]?=some fn) :
  (∀x,u9 C ih ph (bd+1) r.run v t df g=.ok x g'->∃y w' γ' hg',Fin C A bd w γ hg nx g w' γ' hg' g'/\RV w' γ' A bd x y/\Steps C.P (lone fr cs w) (lone { fr with mode:=.returning,defers:=[] } cs w')/\(results fn fr.tmps).run C.P w'=.ok y w') /\
  (∀x,u9 C ih ph (bd+1) r.run v t df g=.pan x g'->∃y w' γ' hg',Fin C A bd w γ hg nx g w' γ' hg' g'/\RV w' γ' A bd x y/\fr.leaving C.P w' (.panicked [{ v:=y,recovered:=false }])/\w'=w):=by
 unfold u9
 split
 ·refine⟨λx h=>(by cases h),λx h=>?_⟩;injection h with h1 h2;subst h1;subst h2;have hd:fr.defers=[]:=by
   cases hd:fr.defers with
   |nil=>rfl
   |cons d ds=>rw[hd]at hdf;exact hdf.elim
  exact⟨u,w,γ,hg,Fin.refl hr,hv,⟨hm,hd,fn,hfn⟩,rfl⟩
 ·rename_i f cap args ds
  split
  rotate_left
  ·exact⟨λx h=>(by cases h),λx h=>(by cases h)⟩
  rename_i g1 h1;refine⟨λx h=>?_,λx h=>(xg h).elim⟩;have h:=zz h;have m:=F0 hC.mon hi.mon hp.mon h1 hwf;have wf1:=m.wf hwf;have q:=nJ hi.mon h wf1;obtain⟨j,l⟩:=M3 (bd:=bd) hC hi hp h1;cases hd:fr.defers with
  |nil=>rw[hd]at hdf;exact hdf.elim
  | cons d es =>
   rw[hd]at hdf;obtain⟨⟨f',ys,us,i,k,p,a⟩,hdf⟩:=hdf;injection i with e1 e2 e3;subst e1;subst e3
   let fr0:Frame:={ fr with defers:=es }
   obtain⟨w1,γ1,n,frX,val,f1,st,s,q2⟩:=l A w γ hg nx (d.args.toList++us.toList) hr hx hwf (hf.le q.nx) (by simpa using a.append p) fr0 cs u hv hm;have e:(d.args.toList++us.toList).toArray=d.args++us:=by apply WI;simp
   rw[e]at st
   let fr1:Frame:={ fr with defers:=es,mode:=.returning }
   obtain⟨y,z,γ2,o,f2,rv,st2,b⟩:=yq (w:=w1) (γ:=γ1) (hg:=n) (fr:=fr1) (cs:=cs) hC hi hres h wf1 f1.rel (f1.ext m hx) (f1.freed hr m hf) (ht.step f1.stp) (hdf.step f1.stp) rfl;refine⟨y,z,γ2,o,f1.trans f2 m q,rv,.head (step_defer (by rw[hm];simp) hd k ?_) (Steps.trans st (.head ?_ st2)),b⟩
   ·rw[k];simp only[invoke];exact j _ _
   ·have:=step_going_returned (P:=C.P) (c:={ fr0 with mode:=.panicking [{ v:=u,recovered:=true }] }) (cs:=cs) s q2;simpa [settle,fr0,fr1] using this
 ·exact⟨λx h=>(by cases h),λx h=>(by cases h)⟩
theorem uC(hC:CfgOk C)(hi:IHOk C ih)(hp:PHOk C ph) :
  (jV C ih ph (bd+1) f as g=.ok v g'->Enters C.P f/\zc C bd f as g v g')/\(jV C ih ph (bd+1) f as g=.pan v g'->Enters C.P f/\HP C bd f as g v g'):=by
 unfold jV
 split
 ·exact⟨λh=>(by cases h),λh=>(by cases h)⟩
 rename_i fn hfn
 split
 rotate_left
 ·exact⟨λh=>(by cases h),λh=>(by cases h)⟩
 rename_i c r hbody hres;rw[aa]
 split
 ·exact⟨λh=>(by cases h),λh=>(by cases h)⟩
 rename_i hcond;simp only[UB,not_or,Vh,Bool.not_eq_false']at hcond;obtain⟨hname,hle⟩:=hcond;rw[Uw,aA]at hle;have hent:Enters C.P f:=λargs w=>by
  unfold callFunc;have hn : fn.name ≠ "runtime.NumGoroutine" := by simpa using hname
  simp[hfn,hn,hbody]
 have enter:∀(K:CallKind) (vs:List Value),Frame.enter C.P f vs.toArray K=({ (default:Frame) with fn:=f,kind:=K,roundOf:=none }:Frame).atR { tmps:=vs.toArray++Array.replicate (fn.ntmps - vs.toArray.size) undef,defers:=[] } [.code c]:=λK vs=>by simp[Frame.enter,Frame.atR,hfn,hbody]
 split
 ·exact⟨λh=>(by cases h),λh=>(by cases h)⟩
 ·rename_i e t1 df1 g1 hne hc;refine⟨λh=>⟨hent,?_⟩,λh=>(xg h).elim⟩;have h:=zz h;intro A w γ hg nx vs hr hex hwf hf hv K cs hcalm;have m1:=cZ hC.mon hi.mon hp.mon _ hc hwf;have wf1:=m1.wf hwf;have m2:=nJ hi.mon h wf1;obtain⟨a1,w1,γ1,hg1,u1,f1,tr1,dr1,pv1,ar1⟩:=t8 hC hi hp c hc A w γ hg nx { (default:Frame) with fn:=f,kind:=K,roundOf:=none } { tmps:=vs.toArray++Array.replicate (fn.ntmps - vs.toArray.size) undef,defers:=[] } [] cs hr hex hwf (hf.le m2.nx) (ze hv hle) trivial rfl hcalm;have hret:∃fr:Frame,Steps C.P (lone (Frame.enter C.P f vs.toArray K) cs w) (lone fr cs w1)/\fr.mode=.returning/\fr.defers=a1.defers/\fr.kind=K/\fr.fn=f/\fr.tmps=a1.tmps:=by
   rw[enter];cases e with
   |norm=>exact⟨_,Steps.trans ar1 (.one (stepR_end rfl)),rfl,rfl,rfl,rfl,rfl⟩
   | ret =>
    obtain⟨k₁,ar1⟩:=ar1;exact⟨_,Steps.trans ar1 (.one (stepR_ret rfl)),rfl,rfl,rfl,rfl,rfl⟩
   |exit j=>exact absurd rfl (hne j)
  obtain⟨fr,st1,q1,q2,q3,q4,q5⟩:=hret;obtain⟨u,w2,γ2,hg2,f2,rv,st2,hres2⟩:=yq (w:=w1) (γ:=γ1) (hg:=hg1) (fr:=fr) (cs:=cs) hC hi hres h wf1 f1.rel (f1.ext m1 hex) (f1.freed hr m1 hf) (by rw[q5];exact tr1) (by rw[q2];exact dr1) q1;exact⟨u,w2,γ2,hg2,f1.trans f2 m1 m2,rv,{ fr with defers:=[] },Steps.trans st1 st2,q1,rfl,q3,q4,fn,hfn,hres2⟩
 ·rename_i v1 t1 df1 g1 hc;have key:∀(A:Nat->Nat->Prop) (w:World) (γ:Gm) (hg:Nat->AObj) (nx:Nat) (vs:List Value),Rel C A bd w γ hg nx->Ext g.h hg->WF g->Free γ g g1->RVs w γ A bd as vs->∀K cs,pf K cs ->
    ∃fr w1 γ1 hg1 u1,Mon g g1/\Fin C A bd w γ hg nx g w1 γ1 hg1 g1/\TR w1 γ1 A bd fn.ntmps t1 fr.tmps/\DR w1 γ1 A bd df1 fr.defers/\RV w1 γ1 A bd v1 u1/\fr.mode=.panicking [{ v:=u1,recovered:=false }]/\fr.kind=K/\fr.fn=f /\
     Steps C.P (lone (Frame.enter C.P f vs.toArray K) cs w) (lone fr cs w1):=by
   intro A w γ hg nx vs hr hex hwf hf hv K cs hcalm;have m1:=cZ hC.mon hi.mon hp.mon _ hc hwf;obtain⟨a1,w1,γ1,hg1,u1,f1,tr1,dr1,pv1,k₁,ar1⟩:=t8 hC hi hp c hc A w γ hg nx { (default:Frame) with fn:=f,kind:=K,roundOf:=none } { tmps:=vs.toArray++Array.replicate (fn.ntmps - vs.toArray.size) undef,defers:=[] } [] cs hr hex hwf hf (ze hv hle) trivial rfl hcalm;rw[enter];exact⟨_,w1,γ1,hg1,u1,m1,f1,tr1,dr1,pv1,rfl,rfl,rfl,ar1⟩
  refine⟨λh=>⟨hent,?_⟩,λh=>⟨hent,?_⟩⟩
  ·intro A w γ hg nx vs hr hex hwf hf hv K cs hcalm;have m1:=cZ hC.mon hi.mon hp.mon _ hc hwf;have m2:=u_ hC.mon hi.mon hp.mon (.inl h) (m1.wf hwf);obtain⟨fr,w1,γ1,hg1,u1,_,f1,tr1,dr1,rv1,q1,q3,q4,st1⟩:=key A w γ hg nx vs hr hex hwf (hf.le m2.nx) hv K cs hcalm;obtain⟨u,w2,γ2,hg2,f2,rv,st2,hres2⟩:=(An (fr:=fr) (cs:=cs) hC hi hp hres (m1.wf hwf) f1.rel (f1.ext m1 hex) (f1.freed hr m1 hf) tr1 dr1 q1 rv1 (by rw[q4];exact hfn)).1 v h;exact⟨u,w2,γ2,hg2,f1.trans f2 m1 m2,rv,_,Steps.trans st1 st2,rfl,rfl,q3,q4,fn,hfn,hres2⟩
  ·intro A w γ hg nx vs hr hex hwf hf hv K cs hcalm;have m1:=cZ hC.mon hi.mon hp.mon _ hc hwf;have m2:=u_ hC.mon hi.mon hp.mon (.inr h) (m1.wf hwf);obtain⟨fr,w1,γ1,hg1,u1,_,f1,tr1,dr1,rv1,q1,q3,q4,st1⟩:=key A w γ hg nx vs hr hex hwf (hf.le m2.nx) hv K cs hcalm;obtain⟨u,w2,γ2,hg2,f2,rv,hl,rfl⟩:=(An (fr:=fr) (cs:=cs) hC hi hp hres (m1.wf hwf) f1.rel (f1.ext m1 hex) (f1.freed hr m1 hf) tr1 dr1 q1 rv1 (by rw[q4];exact hfn)).2 v h;exact⟨u,w2,γ2,hg2,f1.trans f2 m1 m2,rv,fr,st1,hl⟩
 ·exact⟨λh=>(by cases h),λh=>(by cases h)⟩
theorem O7(hC:CfgOk C)(n:Nat):∀m,PHOk C (QU C n m):=by
 intro m
 induction m with
 |zero=>exact⟨Bp hC.mon n 0,λbd nt c t df g e t' df' g' h=>(by cases h),λbd f as g v g' h=>(by cases h),λbd f as g v g' h=>(by cases h)⟩
 | succ m ihm =>
  exact⟨Bp hC.mon n (m+1),λbd nt c t df g e t' df' g' h=>t8 hC (xZ hC n) ihm c h,λbd f as g v g' h=>(uC hC (xZ hC n) ihm).1 h,λbd f as g v g' h=>(uC hC (xZ hC n) ihm).2 h⟩
end
end
section
variable {n m:Nat}
def Rx:PF->FR
 |.ok v g=>.ok v g
 |_=>.fail
def ihP(C:Cfg)(n m:Nat):IH:=⟨λ_ _ _ _ _ _ _=>.fail,λd f as g=>Rx ((QU C n m).call d f as g)⟩
theorem IL{r:PF}{g:G}(h:Rx r=.ok v g):r=.ok v g:=by
 cases r with
 |ok v' g'=>injection h with h1 h2;rw[h1,h2]
 |fail=>cases h
 |pan v' g'=>cases h
theorem L_(hC:CfgOk C):zD C (ihP C n m):=λbd f as g v g' h=>(O7 hC n m).call bd f as g v g' (IL h)
theorem Ox(hC:CfgOk C):vV (ihP C n m):=λd f as g v g' h hwf=>(Bp hC.mon n m).call d f as g v g' (.inl (IL h)) hwf
def Rg(C:Cfg)(n m f:Nat):Nat->List AV->G->OR:=λd as g=>af (ihP C n m) d g f as
theorem Oy{ih:IH}(hc:zD C ih)(hm:vV ih):ExtOk C f (λd as g=>af ih d g f as):=by refine⟨λd args g hwf=>tL hwf,λd args g y=>Cb,λA bd w γ hg nx g as vs hr hwf hx hf hv hne cs=>?_⟩;obtain⟨he,u,w',γ',hg',fin,rv,out⟩:=tM hc hm hr hx hv hne cs;exact⟨u,w',γ',hg',fin,rv,.inr ⟨he,out⟩⟩
theorem Oz(hC:CfgOk C):ExtOk C f (Rg C n m f):=Oy (L_ hC) (Ox hC)
end
@[reducible] def oM (d a:Nat):SI:=o d (.mv (.t a))
@[reducible] def oL (d a:Nat):SI:=o d (.load false 1 (.t a))
@[reducible] def oN (d a:Nat):SI:=o d (.len .slice (.t a))
@[reducible] def oF (d n a:Nat):SI:=o d (.fad n (.t a))
@[reducible] def oX (d a b:Nat):SI:=o d (.ixs 1 (.t a) (.t b))
@[reducible] def qI (z:Int):Od:=.k (.int .i64 z)
@[reducible] def oK (d:Nat) (z:Int):SI:=o d (.mv (qI z))
@[reducible] def oA (d a:Nat):SI:=o d (.bin .add (.t a) (qI 1))
@[reducible] def sQ (l:List SI) (x:SC):SC:=.seq (.ops l) x
theorem sz:type_of% (TF sx <|TF sy <|TF @Option.isSome_some.{0} <|TF @TS.{0} <|TF @decide_true <|TF @decide_false <|TF @Bool.not_true <|TF @Wk <|
 TF @SO.run.eq_1 <|TF @SO.run.eq_2 <|TF @SO.run.eq_3 <|TF @SO.run.eq_4 <|TF @SO.run.eq_5 <|TF @SO.run.eq_6 <|TF @SO.run.eq_7 <|TF @SO.run.eq_8 <|TF @SO.run.eq_9 <|TF @SO.run.eq_10 <|TF @SO.run.eq_11 <|TF @SO.run.eq_12 <|TF @SO.run.eq_13 <|TF @SO.run.eq_14 <|TF @SO.run.eq_15 <|TF @SO.run.eq_16 <|TF @SO.run.eq_17 <|TF @SO.run.eq_18 <|TF @SO.run.eq_19 <|TF @SO.run.eq_20 <|TF @SO.run.eq_21 <|TF @SO.run.eq_22 <|TF @SO.run.eq_23 <|TF @SO.run.eq_24 <|TF @SO.run.eq_25 <|TF @SO.run.eq_26 <|TF @SO.run.eq_27 <|TF @SO.run.eq_28 <|TF @SO.run.eq_29 <|TF @SO.run.eq_30 <|TF @SO.run.eq_31 <|@SO.run.eq_32) :=
 TF sx <|TF sy <|TF @Option.isSome_some.{0} <|TF @TS.{0} <|TF @decide_true <|TF @decide_false <|TF @Bool.not_true <|TF @Wk <|
 TF @SO.run.eq_1 <|TF @SO.run.eq_2 <|TF @SO.run.eq_3 <|TF @SO.run.eq_4 <|TF @SO.run.eq_5 <|TF @SO.run.eq_6 <|TF @SO.run.eq_7 <|TF @SO.run.eq_8 <|TF @SO.run.eq_9 <|TF @SO.run.eq_10 <|TF @SO.run.eq_11 <|TF @SO.run.eq_12 <|TF @SO.run.eq_13 <|TF @SO.run.eq_14 <|TF @SO.run.eq_15 <|TF @SO.run.eq_16 <|TF @SO.run.eq_17 <|TF @SO.run.eq_18 <|TF @SO.run.eq_19 <|TF @SO.run.eq_20 <|TF @SO.run.eq_21 <|TF @SO.run.eq_22 <|TF @SO.run.eq_23 <|TF @SO.run.eq_24 <|TF @SO.run.eq_25 <|TF @SO.run.eq_26 <|TF @SO.run.eq_27 <|TF @SO.run.eq_28 <|TF @SO.run.eq_29 <|TF @SO.run.eq_30 <|TF @SO.run.eq_31 <|@SO.run.eq_32
end
end Hx
