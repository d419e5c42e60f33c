/- A part of the proof. -/
import Derived.Recover
import Derived.Test.YteaikmdilmfbeaaGreatHx4
set_option linter.all false
set_option maxRecDepth 20000
set_option maxHeartbeats 8000000
namespace Hx
open Go
noncomputable section
variable {g g':G}{df df':List Xo}{t t':T}{v:AV}{f nt d m n:Nat}{xs as:List AV}{op:Op}{W:PT}{b:SC}{C:Xg}{dst:Option Nat}
section
variable {P:Program}{u:Value}
inductive PE where
 |ex (e:Ex)
 |WH (v:AV)
inductive PR where
 |fail
 |ok (e:PE) (t:T) (df:List Xo) (g:G)
inductive PF where
 |fail
 |ok (v:AV) (g:G)
 |WH (v:AV) (g:G)
structure PH where
 code:Nat->Nat->Code->T->List Xo->G->PR
 call:Nat->Nat->List AV->G->PF
def L5:CR->PR
 |.ok e t df g=>.ok (.ex e) t df g
 |.fail=>.fail
abbrev PFn:=IH->PH->Nat->T->List Xo->G->PR
def EH(out:T->AV->T)(next:T->List Xo->G->PR)(t:T)(df:List Xo):PF->PR
 |.ok v g=>next (out t v) df g
 |.WH v g=>.ok (.WH v) t df g
 |.fail=>.fail
def rk(out:T->AV->T)(next:T->List Xo->G->PR)(t:T)(df:List Xo)(g:G):OR->PR
 |.fail=>.fail
 |.val v=>next (out t v) df g
 |.upd v g'=>next (out t v) df g'
 |.Xi a=>next (out t .undef) (a::df) g
def rG(C:Xg)(ph:PH)(d:Nat)(fv:AV)(vs:List AV)(g:G):Option PF :=
 match fv with
 |.W_ f first cap=>ax ((C.ext f).isSome || C.ON f) none (some (ph.call d f (first++(vs++cap)) g))
 |_=>none
def xQ(C:Xg)(op:Op)(out:T->AV->T):Wv ((T->List Xo->G->PR)->PFn) :=
 match op with
 | .panic x=>match aW C x with
  | some s=>⟨λ_ _ _ _ t df g=>match s.run t with
   |.V9 ty v=>.ok (.WH (.V9 ty v)) t df g
   |_=>.fail⟩
  |none=>⟨λ_ _ _ _ _ _ _=>.fail⟩
 | .typeAssert x _ asserted ok=>match aW C x,C.P.underlying asserted with
  | some s,some (.int _)=>⟨λnext _ _ _ t df g=>match s.run t with
   |.V9 ty v=>ax (Nat.beq ty asserted) (next (out t (ax ok (.WM [v,.bool true]) v)) df g) .fail
   |_=>.fail⟩
  |_,_=>⟨λ_ _ _ _ _ _ _=>.fail⟩
 | .call { callee:=.value fo,args,argTypes }=>match aW C fo,cp C args.toList with
  | some fv,some vs=>⟨λnext ih ph d t df g=>match rG C ph d (fv.run t) (vs.run t) g with
   |some r=>EH out next t df r
   |none=>rk out next t df g ((cI C (.call { callee:=.value fo,args,argTypes })).run ih d none t g)⟩
  |_,_=>⟨λ_ _ _ _ _ _ _=>.fail⟩
 |op=>⟨λnext ih _ d t df g=>rk out next t df g ((cI C op).run ih d none t g)⟩
def pp(C:Xg)(nt:Nat)(all:List Oper):List Oper->Wv PFn
 |[]=>⟨λ_ _ _ t df g=>.ok (.ex .norm) t df g⟩
 | o::rest=>match ta nt o.dst with
  | some out=>match o.guard with
   |none=>⟨λih ph d t df g=>(xQ C o.op out.run).run (λt df g=>(pp C nt all rest).run ih ph d t df g) ih ph d t df g⟩
   | some gd=>match jP all (some gd) with
    | some q=>⟨λih ph d t df g=>match q.run t with
     |some true=>(xQ C o.op out.run).run (λt df g=>(pp C nt all rest).run ih ph d t df g) ih ph d t df g
     |some false=>(pp C nt all rest).run ih ph d (out.run t .undef) df g
     |none=>.fail⟩
    |none=>⟨λ_ _ _ _ _ _=>.fail⟩
  |none=>⟨λ_ _ _ _ _ _=>.fail⟩
def KR(k:T->List Xo->G->PR):PR->PR
 |.ok (.ex .norm) t df g=>k t df g
 |r=>r
def tz(id:Nat):PR->PR
 |.ok (.ex (.exit j)) t df g=>ax (Nat.beq j id) (.ok (.ex .norm) t df g) (.ok (.ex (.exit j)) t df g)
 |r=>r
def cj(C:Xg)(nt:Nat):Code->Wv PFn
 |.region _ ops false=>pp C nt ops.toList ops.toList
 |.seq a b=>⟨λih ph d t df g=>KR ((cj C nt b).run ih ph d) ((cj C nt a).run ih ph d t df g)⟩
 | .cond c a b=>match aW C c with
  | some q=>⟨λih ph d t df g=>match q.run t with
   |.bool v=>ax v ((cj C nt a).run ih ph d t df g) ((cj C nt b).run ih ph d t df g)
   |_=>.fail⟩
  |none=>⟨λ_ _ _ _ _ _=>.fail⟩
 |.block id body=>⟨λih ph d t df g=>tz id ((cj C nt body).run ih ph d t df g)⟩
 |.loop body=>⟨λih ph d t df g=>KR (λt df g=>ph.code nt d (.loop body) t df g) ((cj C nt body).run ih ph d t df g)⟩
 |.scope body=>cj C nt body
 |c=>⟨λih _ d t df g=>L5 ((aR C nt c).run ih d none t df g)⟩
abbrev VA:=IH->PH->Nat->AV->T->G->PR
def nF(C:Xg)(nt:Nat):Code->Wv VA
 | .region _ ops false=>match ops.toList with
  | o::rest=>match o.op,o.guard with
   | .call { callee:=.builtin .recover,.. },none=>match ta nt o.dst with
    |some out=>⟨λih ph d v t g=>(pp C nt ops.toList rest).run ih ph d (out.run t v) [] g⟩
    |none=>⟨λ_ _ _ _ _ _=>.fail⟩
   |_,_=>⟨λ_ _ _ _ _ _=>.fail⟩
  |[]=>⟨λ_ _ _ _ _ _=>.fail⟩
 |.seq a b=>⟨λih ph d v t g=>KR ((cj C nt b).run ih ph d) ((nF C nt a).run ih ph d v t g)⟩
 |.block id a=>⟨λih ph d v t g=>tz id ((nF C nt a).run ih ph d v t g)⟩
 |.scope a=>nF C nt a
 |_=>⟨λ_ _ _ _ _ _=>.fail⟩
def A_(C:Xg)(ih:IH)(ph:PH)(d f:Nat)(v:AV)(args:List AV)(g:G):Option G :=
 match C.P.funcs[f]? with
 |none=>none
 | some fn=>match fn.body,pE C fn.results.toList with
  | some c, some r => ax ((fn.name == "runtime.NumGoroutine") || !Nat.ble (bD args) fn.ntmps) none
   (match (nF C fn.ntmps c).run ih ph d v (bJ 0 args .nil) g with
    |.ok (.ex (.exit _)) _ _ _=>none
    |.ok (.ex _) t [] g'=>(match r.run t g' with|some _=>some g'|none=>none)
    |_=>none)
  |_,_=>none
def K1:FR->PF
 |.ok v g=>.ok v g
 |.fail=>.fail
def lC(C:Xg)(ih:IH)(ph:PH)(d:Nat)(res:T->G->Option (List AV))(v:AV)(t:T):List Xo->G->PF
 |[],g=>.WH v g
 | .call (.W_ f [] cap) args::ds,g=>match A_ C ih ph d f v (args++cap) g with
  |some g'=>K1 (bV ih d res t ds g')
  |none=>.fail
 |_::_,_=>.fail
def dJ(C:Xg)(ih:IH)(ph:PH)(d f:Nat)(args:List AV)(g:G):PF :=
 match C.P.funcs[f]? with
 |none=>.fail
 | some fn=>match fn.body,pE C fn.results.toList with
  | some c, some r => ax ((fn.name == "runtime.NumGoroutine") || !Nat.ble (bD args) fn.ntmps) .fail
   (match (cj C fn.ntmps c).run ih ph d (bJ 0 args .nil) [] g with
    |.ok (.ex (.exit _)) _ _ _=>.fail
    |.ok (.ex _) t df g'=>K1 (bV ih d r.run t df g')
    |.ok (.WH v) t df g'=>lC C ih ph d r.run v t df g'
    |.fail=>.fail)
  |_,_=>.fail
def PH.zero:PH:=⟨λ_ _ _ _ _ _=>.fail,λ_ _ _ _=>.fail⟩
def Hr(C:Xg)(ih:IH)(ph:PH):PH:=⟨λnt d c t df g=>(cj C nt c).run ih ph d t df g,dJ C ih ph⟩
def UG(C:Xg)(n:Nat)(m:Nat):PH:=@Nat.rec (λ_=>PH) PH.zero (λ_ ph=>Hr C (OU C n) ph) m
section
variable {C:Xg}{ih:IH}{ph:PH}
structure OI (ph:PH):Prop where
 code:∀nt d c t df g e t' df' g',ph.code nt d c t df g=.ok e t' df' g'->WF g->Mon g g'
 call:∀d f as g v g',(ph.call d f as g=.ok v g'\/ph.call d f as g=.WH v g')->WF g->Mon g g'
def K0{out:T->AV->T}{next:T->List Xo->G->PR}{t:T}{g:G}{r:OR}{e:PE}
  (h:rk out next t df g r=.ok e t' df' g') (hwf:WF g) (hr:Mon g (Wh g r)) (hn:∀t df g1,next t df g1=.ok e t' df' g'->WF g1->Mon g1 g'):Mon g g':=by
 cases r with
 |fail=>cases h
 |val v=>exact hn _ _ _ h hwf
 |upd v g1=>exact hr.trans (hn _ _ _ h (hr.wf hwf))
 |Xi a=>exact hn _ _ _ h hwf
def AB(hp:OI ph){fv:AV}{vs:List AV}{g:G}{r:PF}(h:rG C ph d fv vs g=some r)(hr:r=.ok v g'\/r=.WH v g')(hwf:WF g):Mon g g':=by
 unfold rG at h
 split at h
 ·rw[aa]at h
  split at h
  ·cases h
  ·cases h;exact hp.call _ _ _ _ _ _ hr hwf
 ·cases h
def I5(he:eG C)(hi:WI ih)(hp:OI ph){out:T->AV->T}{next:T->List Xo->G->PR}{t:T}{g:G}{e:PE}
  (h:(xQ C op out).run next ih ph d t df g=.ok e t' df' g') (hwf:WF g) (hn:∀t df g1,next t df g1=.ok e t' df' g'->WF g1->Mon g1 g'):Mon g g':=by
 have plain:∀{op:Op},rk out next t df g ((cI C op).run ih d none t g)=.ok e t' df' g'->Mon g g':=λh=>K0 h hwf (jQ he hi hwf) hn
 unfold xQ at h
 split at h
 ·split at h
  ·dsimp only at h
   split at h
   ·injection h with _ _ _ h;subst h;exact Mon.refl _
   ·cases h
  ·cases h
 ·split at h
  ·dsimp only at h
   split at h
   ·rw[aa]at h
    split at h
    ·exact hn _ _ _ h hwf
    ·cases h
   ·cases h
  ·cases h
 ·split at h
  ·dsimp only at h
   split at h
   ·rename_i r hr;cases r with
    |fail=>cases h
    | ok v g1 =>have m:=AB hp hr (.inl rfl) hwf;exact m.trans (hn _ _ _ h (m.wf hwf))
    | WH v g1 =>have m:=AB hp hr (.inr rfl) hwf;have h:PR.ok (.WH v) t df g1=.ok e t' df' g':=h;injection h with _ _ _ h;subst h;exact m
   ·exact plain h
  ·cases h
 ·exact plain h
def wQ(he:eG C)(hi:WI ih)(hp:OI ph){all:List Oper}:∀{ops:List Oper} {d:Nat} {t:T} {df:List Xo} {g:G} {e:PE} {t':T} {df':List Xo} {g':G},
  (pp C nt all ops).run ih ph d t df g=.ok e t' df' g'->WF g->Mon g g':=by
 intro ops
 induction ops with
 |nil=>intro d t df g e t' df' g' h _;simp only[pp]at h;injection h with _ _ _ h;subst h;exact Mon.refl _
 | cons o rest ihl =>
  intro d t df g e t' df' g' h k;simp only[pp]at h
  split at h
  ·split at h
   ·exact I5 he hi hp h k λ_ _ _ h1 h2=>ihl h1 h2
   ·split at h
    ·dsimp only at h
     split at h
     ·exact I5 he hi hp h k λ_ _ _ h1 h2=>ihl h1 h2
     ·exact ihl h k
     ·cases h
    ·cases h
  ·cases h
def IG(he:eG C)(hi:WI ih){c:Code}{t:T}{g:G}{e:PE}
  (h:L5 ((aR C nt c).run ih d none t df g)=.ok e t' df' g') (hwf:WF g):Mon g g':=by
 generalize hr:(aR C nt c).run ih d none t df g=r at h;cases r with
 |fail=>cases h
 | ok e1 t1 df1 g1 =>have h:PR.ok (.ex e1) t1 df1 g1=.ok e t' df' g':=h;injection h with _ _ _ h;subst h;exact lq he hi _ hr hwf
def dq(he:eG C)(hi:WI ih)(hp:OI ph):∀(c:Code) {d:Nat} {t:T} {df:List Xo} {g:G} {e:PE} {t':T} {df':List Xo} {g':G},
  (cj C nt c).run ih ph d t df g=.ok e t' df' g'->WF g->Mon g g':=by
 intro c;have now:∀{e e':PE} {t t':T} {df df':List Xo} {g g':G},PR.ok e' t df g=.ok e t' df' g'->Mon g g':=by intro e e' t t' df df' g g' h;injection h with _ _ _ h;subst h;exact Mon.refl _
 induction c with
 | region id ops draw =>
  intro d t df g e t' df' g' h k;cases draw with
  |true=>exact IG he hi h k
  |false=>exact wQ he hi hp h k
 | seq a b iha ihb =>
  intro d t df g e t' df' g' h k;simp only[cj]at h;generalize hr:(cj C nt a).run ih ph d t df g=r at h;cases r with
  |fail=>cases h
  | ok e1 t1 df1 g1 =>
   have f:=iha hr k;cases e1 with
   |WH v=>exact f.trans (now h)
   | ex e1 =>
    cases e1 with
    |norm=>exact f.trans (ihb h (f.wf k))
    |exit j=>exact f.trans (now h)
    |ret=>exact f.trans (now h)
 | cond c a b iha ihb =>
  intro d t df g e t' df' g' h k;simp only[cj]at h
  split at h
  ·dsimp only at h
   split at h
   ·rw[aa]at h
    split at h
    ·exact iha h k
    ·exact ihb h k
   ·cases h
  ·cases h
 | block id body ihb =>
  intro d t df g e t' df' g' h k;simp only[cj]at h;generalize hr:(cj C nt body).run ih ph d t df g=r at h;cases r with
  |fail=>cases h
  | ok e1 t1 df1 g1 =>
   have f:=ihb hr k;cases e1 with
   |WH v=>exact f.trans (now h)
   | ex e1 =>
    cases e1 with
    |norm=>exact f.trans (now h)
    | exit j =>
     simp only[tz,aa]at h
     split at h
     ·exact f.trans (now h)
     ·exact f.trans (now h)
    |ret=>exact f.trans (now h)
 | loop body ihb =>
  intro d t df g e t' df' g' h k;simp only[cj]at h;generalize hr:(cj C nt body).run ih ph d t df g=r at h;cases r with
  |fail=>cases h
  | ok e1 t1 df1 g1 =>
   have f:=ihb hr k;cases e1 with
   |WH v=>exact f.trans (now h)
   | ex e1 =>
    cases e1 with
    |norm=>exact f.trans (hp.code _ _ _ _ _ _ _ _ _ _ h (f.wf k))
    |exit j=>exact f.trans (now h)
    |ret=>exact f.trans (now h)
 |scope body ihb=>intro d t df g e t' df' g' h k;exact ihb h k
 |_=>intro d t df g e t' df' g' h k;simp only[cj]at h;exact IG he hi h k
def Ek(he:eG C)(hi:WI ih)(hp:OI ph):∀(c:Code) {d:Nat} {v:AV} {t:T} {g:G} {e:PE} {t':T} {df':List Xo} {g':G},
  (nF C nt c).run ih ph d v t g=.ok e t' df' g'->WF g->Mon g g':=by
 intro c;have now:∀{e e':PE} {t t':T} {df df':List Xo} {g g':G},PR.ok e' t df g=.ok e t' df' g'->Mon g g':=by intro e e' t t' df df' g g' h;injection h with _ _ _ h;subst h;exact Mon.refl _
 induction c with
 | region id ops draw =>
  intro d v t g e t' df' g' h k;cases draw with
  |true=>cases h
  | false =>
   simp only[nF]at h
   split at h
   ·split at h
    ·split at h
     ·exact wQ he hi hp h k
     ·cases h
    ·cases h
   ·cases h
 | seq a b iha _ =>
  intro d v t g e t' df' g' h k;simp only[nF]at h;generalize hr:(nF C nt a).run ih ph d v t g=r at h;cases r with
  |fail=>cases h
  | ok e1 t1 df1 g1 =>
   have f:=iha hr k;cases e1 with
   |WH v=>exact f.trans (now h)
   | ex e1 =>
    cases e1 with
    |norm=>exact f.trans (dq he hi hp _ h (f.wf k))
    |exit j=>exact f.trans (now h)
    |ret=>exact f.trans (now h)
 | block id body ihb =>
  intro d v t g e t' df' g' h k;simp only[nF]at h;generalize hr:(nF C nt body).run ih ph d v t g=r at h;cases r with
  |fail=>cases h
  | ok e1 t1 df1 g1 =>
   have f:=ihb hr k;cases e1 with
   |WH v=>exact f.trans (now h)
   | ex e1 =>
    cases e1 with
    |norm=>exact f.trans (now h)
    | exit j =>
     simp only[tz,aa]at h
     split at h
     ·exact f.trans (now h)
     ·exact f.trans (now h)
    |ret=>exact f.trans (now h)
 |scope body ihb=>intro d v t g e t' df' g' h k;exact ihb h k
 |_=>intro d v t g e t' df' g' h k;cases h
def Jk(he:eG C)(hi:WI ih)(hp:OI ph){args:List AV}{g:G}(h:A_ C ih ph d f v args g=some g')(hwf:WF g):Mon g g':=by
 unfold A_ at h
 split at h
 ·cases h
 split at h
 ·rw[aa]at h
  split at h
  ·cases h
  split at h
  ·cases h
  ·rename_i hc
   split at h
   ·cases h;exact Ek he hi hp _ hc hwf
   ·cases h
  ·cases h
 ·cases h
def pK(hi:WI ih){res:T->G->Option (List AV)}{t:T}{g:G}(h:bV ih d res t df g=.ok v g')(hwf:WF g):Mon g g':=by
 unfold bV at h
 split at h
 ·cases h
 ·rename_i g2 h2;have k:=nK hi h2 hwf
  split at h
  ·injection h with _ h;subst h;exact k
  ·cases h
def CC{r:FR}{g:G}(h:K1 r=.ok v g):r=.ok v g:=by
 cases r with
 |fail=>cases h
 |ok v' g'=>injection h with h1 h2;rw[h1,h2]
def Am{r:FR}{g:G}(h:K1 r=.WH v g):False:=by
 cases r with
 |fail=>cases h
 |ok v' g'=>cases h
def yA(he:eG C)(hi:WI ih)(hp:OI ph){res:T->G->Option (List AV)}{t:T}{g:G}{x:AV}
  (h:lC C ih ph d res v t df g=.ok x g'\/lC C ih ph d res v t df g=.WH x g') (hwf:WF g):Mon g g':=by
 unfold lC at h
 split at h
 ·rcases h with h|h
  ·cases h
  ·injection h with _ h;subst h;exact Mon.refl _
 ·split at h
  ·rename_i g1 h1;have k:=Jk he hi hp h1 hwf;rcases h with h|h
   ·exact k.trans (pK hi (CC h) (k.wf hwf))
   ·exact (Am h).elim
  ·rcases h with h|h<;>cases h
 ·rcases h with h|h<;>cases h
def xS(he:eG C)(hi:WI ih)(hp:OI ph){g:G}
  (h:dJ C ih ph d f as g=.ok v g'\/dJ C ih ph d f as g=.WH v g') (hwf:WF g):Mon g g':=by
 unfold dJ at h
 split at h
 ·rcases h with h|h<;>cases h
 split at h
 ·rw[aa]at h
  split at h
  ·rcases h with h|h<;>cases h
  split at h
  ·rcases h with h|h<;>cases h
  ·rename_i hc;have k:=dq he hi hp _ hc hwf;rcases h with h|h
   ·exact k.trans (pK hi (CC h) (k.wf hwf))
   ·exact (Am h).elim
  ·rename_i hc;have k:=dq he hi hp _ hc hwf;exact k.trans (yA he hi hp h (k.wf hwf))
  ·rcases h with h|h<;>cases h
 ·rcases h with h|h<;>cases h
def Et(he:eG C)(n:Nat):∀m,OI (UG C n m):=by
 intro m
 induction m with
 |zero=>exact⟨λnt d c t df g e t' df' g' h=>(by cases h),λd f as g v g' h=>(by rcases h with h|h<;>cases h)⟩
 |succ m ihm=>exact⟨λnt d c t df g e t' df' g' h hwf=>dq he (CB he n) ihm c h hwf,λd f as g v g' h hwf=>xS he (CB he n) ihm h hwf⟩
end
section
variable {C:Xg}{ih:IH}{ph:PH}{A:Nat->Nat->Prop}{bd:Nat}{w w':World}{γ γ':Gm}{hg:Nat->Xh}{nx:Nat}{t:T}{g:G}
def Nf(P:Program)(m:Machine)(b:Frame)(k:List Item)(cs:List Frame)(u:Value):PE->Act->World->Prop
 |.ex e,a,w=>JS P m b k cs e a w
 |.WH _,a,w=>∃k₁,Steps P m (lone ((b.atR a k₁).raise [{ v:=u,recovered:=false }]) cs w)
def Vz(w:World)(γ:Gm)(A:Nat->Nat->Prop)(bd:Nat):PE->Value->Prop
 |.ex _,_=>True
 |.WH v,u=>RV w γ A bd v u
def Nf.of_steps{P:Program}{m m₁:Machine}{b:Frame}{k:List Item}{cs:List Frame}{u:Value}{e:PE}{a:Act}(h:Steps P m m₁)(h':Nf P m₁ b k cs u e a w):Nf P m b k cs u e a w:=by
 cases e with
 |ex e=>exact JS.of_steps h h'
 |WH v=>let⟨k₁,h2⟩:=h';exact⟨k₁,Steps.trans h h2⟩
def CG(C:Xg)(A:Nat->Nat->Prop)(bd nt:Nat)(b:Frame)(k:List Item)(cs:List Frame)(m:Machine)(w:World)(γ:Gm)(hg:Nat->Xh)(nx:Nat)(g:G)(e:PE)(t':T)(df':List Xo)(g':G):Prop :=∃a' w' γ' hg' u,Fin C A bd w γ hg nx g w' γ' hg' g'/\TR w' γ' A bd nt t' a'.tmps/\DR w' γ' A bd df' a'.defers/\Vz w' γ' A bd e u/\Nf C.P m b k cs u e a' w'
def CF(C:Xg)(bd nt:Nat)(c:Code)(t:T)(df:List Xo)(g:G)(e:PE)(t':T)(df':List Xo)(g':G):Prop :=
 ∀A w γ hg nx b a k cs,W4 C A bd w γ hg nx->PI g.h hg->WF g->Wm γ g g'->TR w γ A bd nt t a.tmps->DR w γ A bd df a.defers->b.roundOf=none->rC b.kind cs ->
  CG C A bd nt b k cs (lone (b.atR a (.code c::k)) cs w) w γ hg nx g e t' df' g'
def K_(P:Program)(K:CallKind)(f:FuncId)(vs:Array Value)(cs:List Frame)(w:World)(u:Value)(w':World):Prop :=∃fr,Steps P (lone (Frame.enter P f vs K) cs w) (lone fr cs w')/\fr.leaving P w' (.panicked [{ v:=u,recovered:=false }])
def K9(C:Xg)(bd:Nat)(f:FuncId)(as:List AV)(g:G)(v:AV)(g':G):Prop :=
 ∀A w γ hg nx vs,W4 C A bd w γ hg nx->PI g.h hg->WF g->Wm γ g g'->Wa w γ A bd as vs->∀K cs,rC K cs ->
  ∃u w' γ' hg',Fin C A bd w γ hg nx g w' γ' hg' g'/\RV w' γ' A bd v u/\K_ C.P K f vs.toArray cs w u w'
structure Uy (C:Xg) (ph:PH):Prop where
 WZ:OI ph
 code:∀bd nt c t df g e t' df' g',ph.code nt (bd+1) c t df g=.ok e t' df' g'->CF C bd nt c t df g e t' df' g'
 call:∀bd f as g v g',ph.call (bd+1) f as g=.ok v g'->Wk C.P f/\Cc C bd f as g v g'
 WH:∀bd f as g v g',ph.call (bd+1) f as g=.WH v g'->Wk C.P f/\K9 C bd f as g v g'
section
variable {b:Frame}{a:Act}{ops:Array Oper}{i:Nat}{rest:List Nat}{k:List Item}{cs:List Frame}{o:Oper}
def KX{v:Value}(ho:ops[i]?=some o)(hw:Region.wanted o (yielded ops a.tmps)=true)(hd:∀c,o.op≠.defer c)
  (hrun:(execOp a.eval o).run P w=.halt (.panic v) w) :
  step P (lone (b.atR a (.inRegion ops (i::rest)::k)) cs w)=.next (lone ((b.atR a (.inRegion ops (i::rest)::k)).raise [{ v,recovered:=false }]) cs w):=by
 refine step_lone_go ?_;rw[stepGR_op ho hw,Oper.semAt_eq _ _ _ hd];simp[stepG.apply,hrun]
def Fo{f:FuncId}{args:Array Value}{w₁:World}(ho:ops[i]?=some o)(hw:Region.wanted o (yielded ops a.tmps)=true)(hd:∀c,o.op≠.defer c)
  (hrun:(execOp a.eval o).run P w=.ok (.enter f args) w)
  (hout:K_ P .normal f args (b.atR a (.inRegion ops (i::rest)::k)::cs) w u w₁) :
  Steps P (lone (b.atR a (.inRegion ops (i::rest)::k)) cs w) (lone ((b.atR a (.inRegion ops (i::rest)::k)).raise [{ v:=u,recovered:=false }]) cs w₁):=by
 let⟨fr,hs,hl⟩:=hout;exact .head (EB ho hw hd hrun) (Steps.trans hs (.one (step_leave_panicked hl)))
def JA{c0:Frame}{older:List PanicEntry}(ho:ops[i]?=some o)(hw:Region.wanted o (yielded ops a.tmps)=true)(hd:∀c,o.op≠.defer c)
  (hk:b.kind=.deferred) (hro:b.roundOf=none) (hm:c0.mode=.panicking ({ v:=u,recovered:=false }::older)) (hrun:(execOp a.eval o).run P w=.ok .recover w) :
  step P (lone (b.atR a (.inRegion ops (i::rest)::k)) (c0::cs) w)=.next (lone (b.atR (a.put o.dst u) (.inRegion ops rest::k)) ({ c0 with mode:=.panicking ({ v:=u,recovered:=true }::older) }::cs) w):=by
 have h:=Frame.finish_atR b a ops i rest k u;rw[ho]at h;simp only[ZG]at h;have d:tryRecover (b.atR a (.inRegion ops (i::rest)::k)) (c0::cs)=some (u,{ c0 with mode:=.panicking ({ v:=u,recovered:=true }::older) }::cs):=by unfold tryRecover;simp[Frame.atR,hk,hm]
 refine step_lone_go ?_;rw[stepGR_op ho hw,Oper.semAt_eq _ _ _ hd,<-h];have e:(b.atR a (.inRegion ops (i::rest)::k)).roundOf=none:=hro;simp only[stepG.apply,Sem.runT_eq,hrun,d,e,if_true,GStep.bare_after];simp[GStep.bare_after]
def M8(hp:Uy C ph)(hr:W4 C A bd w γ hg nx)(hwf:WF g)(hx:PI g.h hg){fv:AV}{v:Value}{vs:List Value}
  (hfv:RV w γ A bd fv v) (has:Wa w γ A bd as vs) {r:PF} (h:rG C ph (bd+1) fv as g=some r)
  (ho:ops[i]?=some o) (hw:Region.wanted o (yielded ops a.tmps)=true) (hd:∀c,o.op≠.defer c)
  (hexec:(execOp a.eval o).run C.P w=(do let d <-Deferred.ofValue v vs.toArray;invoke d.target d.args:Sem Next).run C.P w) :
  (∀x g1,r=.ok x g1->Wm γ g g1->∃u w' γ' hg',Fin C A bd w γ hg nx g w' γ' hg' g1/\RV w' γ' A bd x u /\
   Steps C.P (lone (b.atR a (.inRegion ops (i::rest)::k)) cs w) (lone (b.atR (a.put o.dst u) (.inRegion ops rest::k)) cs w')) /\
  (∀x g1,r=.WH x g1->Wm γ g g1->∃u w' γ' hg',Fin C A bd w γ hg nx g w' γ' hg' g1/\RV w' γ' A bd x u /\
   Steps C.P (lone (b.atR a (.inRegion ops (i::rest)::k)) cs w) (lone ((b.atR a (.inRegion ops (i::rest)::k)).raise [{ v:=u,recovered:=false }]) cs w')):=by
 unfold rG at h;cases hfv with
 | W_ _ f xs ys vs1 us1 hl hl2 h1 h2 =>
  dsimp only at h;rw[aa]at h
  split at h
  ·cases h
  injection h with h;have j:Wa w γ A bd (xs++(as++ys)) (vs1.toList++(vs++us1.toList)):=(VU hl h1).append (has.append (VU hl2 h2));have l:(vs1.toList++(vs++us1.toList)).toArray=(vs1++vs.toArray)++us1:=by apply On;simp
  have e:Wk C.P f->(execOp a.eval o).run C.P w=.ok (.enter f ((vs1++vs.toArray)++us1)) w:=by intro he;rw[hexec];simp only[Deferred.ofValue,invoke,Yb,Yu,XT];exact he _ _
  refine⟨λx g1 hr1 hf=>?_,λx g1 hr1 hf=>?_⟩
  ·let⟨he,hs⟩:=hp.call _ _ _ _ _ _ (h.trans hr1);let⟨u,w',γ',hg',f1,rv,out⟩:=hs A w γ hg nx _ hr hx hwf hf j .normal (b.atR a (.inRegion ops (i::rest)::k)::cs) (.inl rfl);rw[l]at out;exact⟨u,w',γ',hg',f1,rv,uk ho hw hd (e he) out⟩
  ·let⟨he,hs⟩:=hp.WH _ _ _ _ _ _ (h.trans hr1);let⟨u,w',γ',hg',f1,rv,out⟩:=hs A w γ hg nx _ hr hx hwf hf j .normal (b.atR a (.inRegion ops (i::rest)::k)::cs) (.inl rfl);rw[l]at out;exact⟨u,w',γ',hg',f1,rv,Fo ho hw hd (e he) out⟩
 |_=>cases h
end
theorem I6(hC:Xa C)(hi:V7 C ih)(hp:Uy C ph){ops:Array Oper}{b:Frame}{k:List Item}{cs:List Frame}:∀(l:List Oper) (i:Nat) {t:T} {df:List Xo} {g:G} {e:PE} {t':T} {df':List Xo} {g':G},
  ops.toList.drop i=l->(pp C nt ops.toList l).run ih ph (bd+1) t df g=.ok e t' df' g'->WF g ->
  ∀{w γ hg nx a},W4 C A bd w γ hg nx->PI g.h hg->Wm γ g g'->TR w γ A bd nt t a.tmps->DR w γ A bd df a.defers->b.roundOf=none->rC b.kind cs ->
   CG C A bd nt b k cs (lone (b.atR a (.inRegion ops (List.range' i l.length)::k)) cs w) w γ hg nx g e t' df' g':=by
 intro l
 induction l with
 | nil =>intro i t df g e t' df' g' _ h _ w γ hg nx a hr hx hf ht z H m;simp only[pp]at h;injection h with h1 h2 h3 h4;subst h1;subst h2;subst h3;subst h4;exact⟨a,w,γ,hg,undef,Fin.refl hr,ht,z,trivial,.one stepR_region_end⟩
 | cons o rest ihl =>
  intro i t df g e t' df' g' E h p w γ hg nx a hr hx hf ht z H m;have ho:ops[i]?=some o:=by
   have:(ops.toList.drop i)[0]?=some o:=by rw[E];rfl
   simpa [YH] using this
  have n:ops.toList.drop (i+1)=rest:=by rw[<-Zb,E];rfl
  have I:List.range' i (o::rest).length=i::List.range' (i+1) rest.length:=by simp[aaY]
  rw[I];have J:∀(args:Array Operand),(args.toList.map a.eval).toArray=args.map a.eval:=λargs=>by apply On;simp
  have next:∀{out:Wv (T->AV->T)} {x:AV} {u:Value} {g1:G} {w1:World} {γ1:Gm} {B:Nat->Xh},ta nt o.dst=some out->Mon g g1->Fin C A bd w γ hg nx g w1 γ1 B g1->RV w1 γ1 A bd x u ->
    Steps C.P (lone (b.atR a (.inRegion ops (i::List.range' (i+1) rest.length)::k)) cs w) (lone (b.atR (a.put o.dst u) (.inRegion ops (List.range' (i+1) rest.length)::k)) cs w1) ->
    (pp C nt ops.toList rest).run ih ph (bd+1) (out.run t x) df g1=.ok e t' df' g' ->
    CG C A bd nt b k cs (lone (b.atR a (.inRegion ops (i::List.range' (i+1) rest.length)::k)) cs w) w γ hg nx g e t' df' g':=by
   intro out x u g1 w1 γ1 B j hm f1 rv st h;have wf1:=hm.wf p;have R:=wQ hC.WZ hi.WZ hp.WZ h wf1;obtain⟨a',wb,γb,F,uu,f2,tr,dr,pv,st2⟩:=ihl (i+1) n h wf1 (a:=a.put o.dst u) f1.rel (f1.ext hm hx) (f1.freed hr hm hf) ((ht.step f1.pk).put j rv)
    (by have:=z.step f1.pk;cases hd:o.dst<;>simpa [Act.put,hd] using this) H m
   exact⟨a',wb,γb,F,uu,f1.trans f2 hm R,tr,dr,pv,st2.of_steps st⟩
  have plain:∀{out:Wv (T->AV->T)},ta nt o.dst=some out->Region.wanted o (yielded ops a.tmps)=true ->
    rk out.run (λt df g=>(pp C nt ops.toList rest).run ih ph (bd+1) t df g) t df g ((cI C o.op).run ih (bd+1) none t g)=.ok e t' df' g' ->
    CG C A bd nt b k cs (lone (b.atR a (.inRegion ops (i::List.range' (i+1) rest.length)::k)) cs w) w γ hg nx g e t' df' g':=by
   intro out j hw h;have hm:=jQ (op:=o.op) (d:=bd+1) (rd:=none) (t:=t) hC.WZ hi.WZ p;generalize hres:(cI C o.op).run ih (bd+1) none t g=r at h hm;have go:∀{x:AV} {g1:G},r≠.fail->(∀y,r≠.Xi y)->OM r=x->Wh g r=g1->(pp C nt ops.toList rest).run ih ph (bd+1) (out.run t x) df g1=.ok e t' df' g' ->
     CG C A bd nt b k cs (lone (b.atR a (.inRegion ops (i::List.range' (i+1) rest.length)::k)) cs w) w γ hg nx g e t' df' g':=by
    intro x g1 W V Y B h;subst Y;subst B;have R:=wQ hC.WZ hi.WZ hp.WZ h (hm.wf p);obtain⟨u,wa,γa,Z,f1,rv,st⟩:=Ks (b:=b) (cs:=cs) (rest:=List.range' (i+1) rest.length) (k:=k) hC hi hr p ht m hx.agr hres W V (hf.le R.nx) ho hw;exact next j hm f1 rv st h
   cases r with
   |fail=>cases h
   |val x=>exact go (by simp) (by simp) rfl rfl h
   |upd x g1=>exact go (by simp) (by simp) rfl rfl h
   | Xi x =>
    obtain⟨dd,S,st⟩:=Lz (b:=b) (cs:=cs) (rest:=List.range' (i+1) rest.length) (k:=k) (rd:=none) hr ht H z hres (λf e d args g y he Q=>hC.UH f e he d args g y Q) ho hw;obtain⟨a',wb,γb,F,uu,f2,tr,dr,pv,st2⟩:=ihl (i+1) n h p (a:={ a with defers:=dd::a.defers }.put o.dst undef) hr hx hf
     (ht.put (a:={ a with defers:=dd::a.defers }) j pB)
     (by cases hd:o.dst<;>simpa [Act.put,hd] using S) H m
    exact⟨a',wb,γb,F,uu,f2,tr,dr,pv,st2.of_steps (.one st)⟩
  have exec:∀{out:Wv (T->AV->T)},ta nt o.dst=some out->Region.wanted o (yielded ops a.tmps)=true ->
    (xQ C o.op out.run).run (λt df g=>(pp C nt ops.toList rest).run ih ph (bd+1) t df g) ih ph (bd+1) t df g=.ok e t' df' g' ->
    CG C A bd nt b k cs (lone (b.atR a (.inRegion ops (i::List.range' (i+1) rest.length)::k)) cs w) w γ hg nx g e t' df' g':=by
   intro out j hw h;generalize hop:o.op=op at h;unfold xQ at h
   split at h
   ·
    rename_i x;have hd:∀c,o.op≠.defer c:=by rw[hop];intro c h;cases h
    split at h
    rotate_left
    ·cases h
    rename_i s hs;dsimp only at h;have hv:=aA hs ht hr;generalize hev:a.eval x=vx at hv
    split at h
    rotate_left
    ·cases h
    rename_i ty y Q;rw[Q]at hv;injection h with h1 h2 h3 h4;subst h1;subst h2;subst h3;subst h4;refine⟨a,w,γ,hg,vx,Fin.refl hr,ht,z,hv,_,.one (KX ho hw hd ?_)⟩;cases hv with
    | V9 _ _ _ u hu =>
     simp only[execOp,hop,hev]
     rfl
   ·
    rename_i x xty asserted ok;have hd:∀c,o.op≠.defer c:=by rw[hop];intro c h;cases h
    split at h
    rotate_left
    ·cases h
    rename_i s _ ik hs O;dsimp only at h;have hv:=aA hs ht hr;generalize hev:a.eval x=vx at hv
    split at h
    rotate_left
    ·cases h
    rename_i ty y Q;rw[Q]at hv;rw[aa]at h
    split at h
    rotate_left
    ·cases h
    rename_i M;have M:=ba M;subst M;cases hv with
    | V9 _ _ _ u hu =>
     have N:(execOp a.eval o).run C.P w=.ok (.value (if ok then .tuple #[u,.bool true] else u)) w:=by simp only[execOp,hop,hev,Instr.typeAssert,Yb,aN O,XT,if_true,Yu]
     refine next j (Mon.refl g) (Fin.refl hr) ?_ (.one (yZ ho hw hd N)) h
     cases ok with
     | true =>
      refine RV.WM _ [y,.bool true] #[u,.bool true] rfl λi x v h1 h2=>?_
      match i with
      |0=>simp at h1 h2;subst h1;subst h2;exact hu
      |1=>simp at h1 h2;subst h1;subst h2;exact .bool _ _
      |i+2=>simp at h1
     |false=>exact hu
   ·
    rename_i fo args at2;have hd:∀c,o.op≠.defer c:=by rw[hop];intro c h;cases h
    split at h
    rotate_left
    ·cases h
    rename_i fv vs U X;dsimp only at h
    split at h
    ·rename_i r D;obtain⟨s1,s2⟩:=M8 (b:=b) (cs:=cs) (rest:=List.range' (i+1) rest.length) (k:=k) hp hr p hx (aA U ht hr) (i_ ht hr X) D ho hw hd (by simp only[execOp,hop,resolve,J]);cases r with
     |fail=>cases h
     | ok x g1 =>have hm:=AB hp.WZ D (.inl rfl) p;have R:=wQ hC.WZ hi.WZ hp.WZ h (hm.wf p);obtain⟨u,w1,γ1,B,f1,rv,st⟩:=s1 x g1 rfl (hf.le R.nx);exact next j hm f1 rv st h
     | WH x g1 =>have h:PR.ok (.WH x) t df g1=.ok e t' df' g':=h;injection h with h1 h2 h3 h4;subst h1;subst h2;subst h3;subst h4;obtain⟨u,w1,γ1,B,f1,rv,st⟩:=s2 x g1 rfl hf;exact⟨a,w1,γ1,B,u,f1,ht.step f1.pk,z.step f1.pk,rv,_,st⟩
    ·exact plain j hw (by rw[hop];exact h)
   ·exact plain j hw (by rw[hop];exact h)
  simp only[pp]at h
  split at h
  ·rename_i out j
   split at h
   ·rename_i K;refine exec j ?_ h;simp[Region.wanted,K]
   ·rename_i gd K
    split at h
    ·rename_i q hq;rw[<-K]at hq;dsimp only at h
     split at h
     ·rename_i L;exact exec j (nI hq ht L) h
     ·rename_i L;have hw:=nI hq ht L;obtain⟨a',wb,γb,F,uu,f2,tr,dr,pv,st2⟩:=ihl (i+1) n h p (a:=a.put o.dst undef) hr hx hf
       (ht.put j pB) (by cases hd:o.dst<;>simpa [Act.put,hd] using z) H m
      exact⟨a',wb,γb,F,uu,f2,tr,dr,pv,st2.of_steps (.one (w_ ho hw))⟩
     ·cases h
    ·cases h
  ·cases h
def II(hC:Xa C)(hi:V7 C ih){c:Code}{t:T}{g:G}{e:PE}
  (h:L5 ((aR C nt c).run ih (bd+1) none t df g)=.ok e t' df' g'):CF C bd nt c t df g e t' df' g':=by
 generalize hr:(aR C nt c).run ih (bd+1) none t df g=r at h;cases r with
 |fail=>cases h
 | ok e1 t1 df1 g1 =>have h:PR.ok (.ex e1) t1 df1 g1=.ok e t' df' g':=h;cases h;intro A w γ hg nx b a k cs i hx m hf ht j l d;let⟨a',w',γ',hg',f,tr,dr,ar⟩:=Az hC hi c hr A w γ hg nx b a k cs i hx m hf ht j l d;exact⟨a',w',γ',hg',undef,f,tr,dr,trivial,ar⟩
def rM(hC:Xa C)(hi:V7 C ih)(hp:Uy C ph):∀(c:Code) {t:T} {df:List Xo} {g:G} {e:PE} {t':T} {df':List Xo} {g':G},
  (cj C nt c).run ih ph (bd+1) t df g=.ok e t' df' g'->CF C bd nt c t df g e t' df' g':=by
 intro c
 induction c with
 | region id ops draw =>
  intro t df g e t' df' g' h;cases draw with
  |true=>simp only[cj]at h;exact II hC hi h
  | false =>intro A w γ hg nx b a k cs hr hx l hf ht n m d;simp only[cj]at h;obtain⟨a',w',γ',hg',u,f,tr,dr,pv,ar⟩:=I6 (b:=b) (cs:=cs) (k:=k) hC hi hp ops.toList 0 (by simp) h l hr hx hf ht n m d;refine⟨a',w',γ',hg',u,f,tr,dr,pv,Nf.of_steps (.one stepR_region) ?_⟩;rw[aaw];simpa using ar
 | seq x y ihx ihy =>
  intro t df g e t' df' g' h A w γ hg nx b a k cs hr hx l hf ht n m d;simp only[cj]at h;generalize hc:(cj C nt x).run ih ph (bd+1) t df g=r at h;cases r with
  |fail=>cases h
  | ok e1 t1 df1 g1 =>
   have q:=dq hC.WZ hi.WZ hp.WZ _ hc l;have wf1:=q.wf l;cases e1 with
   | WH v =>have h:PR.ok (.WH v) t1 df1 g1=.ok e t' df' g':=h;injection h with h1 h2 h3 h4;subst h1;subst h2;subst h3;subst h4;obtain⟨a1,w1,γ1,i,o,f1,tr1,dr1,pv1,k₁,ar1⟩:=ihx hc A w γ hg nx b a (.code y::k) cs hr hx l hf ht n m d;exact⟨a1,w1,γ1,i,o,f1,tr1,dr1,pv1,k₁,.head stepR_seq ar1⟩
   | ex e1 =>
    cases e1 with
    | norm =>have h:(cj C nt y).run ih ph (bd+1) t1 df1 g1=.ok e t' df' g':=h;have D:=dq hC.WZ hi.WZ hp.WZ _ h wf1;obtain⟨a1,w1,γ1,i,o,f1,tr1,dr1,pv1,ar1⟩:=ihx hc A w γ hg nx b a (.code y::k) cs hr hx l (hf.le D.nx) ht n m d;obtain⟨a2,w2,γ2,z,E,f2,tr2,dr2,pv2,ar2⟩:=ihy h A w1 γ1 i _ b a1 k cs f1.rel (f1.ext q hx) wf1 (f1.freed hr q hf) tr1 dr1 m d;exact⟨a2,w2,γ2,z,E,f1.trans f2 q D,tr2,dr2,pv2,ar2.of_steps (.head stepR_seq ar1)⟩
    | exit j =>have h:PR.ok (.ex (.exit j)) t1 df1 g1=.ok e t' df' g':=h;injection h with h1 h2 h3 h4;subst h1;subst h2;subst h3;subst h4;obtain⟨a1,w1,γ1,i,o,f1,tr1,dr1,pv1,k₁,hk,ar1⟩:=ihx hc A w γ hg nx b a (.code y::k) cs hr hx l hf ht n m d;exact⟨a1,w1,γ1,i,o,f1,tr1,dr1,pv1,k₁,by rw[hk];rfl,.head stepR_seq ar1⟩
    | ret =>have h:PR.ok (.ex .ret) t1 df1 g1=.ok e t' df' g':=h;injection h with h1 h2 h3 h4;subst h1;subst h2;subst h3;subst h4;obtain⟨a1,w1,γ1,i,o,f1,tr1,dr1,pv1,k₁,ar1⟩:=ihx hc A w γ hg nx b a (.code y::k) cs hr hx l hf ht n m d;exact⟨a1,w1,γ1,i,o,f1,tr1,dr1,pv1,k₁,.head stepR_seq ar1⟩
 | cond c x y ihx ihy =>
  intro t df g e t' df' g' h A w γ hg nx b a k cs hr hx l hf ht n m d;simp only[cj]at h
  split at h
  rotate_left
  ·cases h
  rename_i s hs;dsimp only at h;have hv:=aA hs ht hr;generalize hcv:a.eval c=vc at hv;generalize s.run t=cv at h hv;cases hv with
  | bool _ bv =>
   dsimp only at h;cases bv with
   | true =>obtain⟨a1,w1,γ1,i,o,f1,tr1,dr1,pv1,ar1⟩:=ihx h A w γ hg nx b a k cs hr hx l hf ht n m d;exact⟨a1,w1,γ1,i,o,f1,tr1,dr1,pv1,ar1.of_steps (.one (by simpa using stepR_cond (P:=C.P) (b:=b) (a:=a) (k:=k) (cs:=cs) (w:=w) (x:=x) (y:=y) hcv))⟩
   | false =>obtain⟨a1,w1,γ1,i,o,f1,tr1,dr1,pv1,ar1⟩:=ihy h A w γ hg nx b a k cs hr hx l hf ht n m d;exact⟨a1,w1,γ1,i,o,f1,tr1,dr1,pv1,ar1.of_steps (.one (by simpa using stepR_cond (P:=C.P) (b:=b) (a:=a) (k:=k) (cs:=cs) (w:=w) (x:=x) (y:=y) hcv))⟩
  |_=>cases h
 | block id body ihb =>
  intro t df g e t' df' g' h A w γ hg nx b a k cs hr hx l hf ht n m d;simp only[cj]at h;generalize hc:(cj C nt body).run ih ph (bd+1) t df g=r at h;cases r with
  |fail=>cases h
  | ok e1 t1 df1 g1 =>
   cases e1 with
   | WH v =>have h:PR.ok (.WH v) t1 df1 g1=.ok e t' df' g':=h;injection h with h1 h2 h3 h4;subst h1;subst h2;subst h3;subst h4;obtain⟨a1,w1,γ1,i,o,f1,tr1,dr1,pv1,k₁,ar1⟩:=ihb hc A w γ hg nx b a (.inBlock id::k) cs hr hx l hf ht n m d;exact⟨a1,w1,γ1,i,o,f1,tr1,dr1,pv1,k₁,.head stepR_block ar1⟩
   | ex e1 =>
    cases e1 with
    | norm =>have h:PR.ok (.ex .norm) t1 df1 g1=.ok e t' df' g':=h;injection h with h1 h2 h3 h4;subst h1;subst h2;subst h3;subst h4;obtain⟨a1,w1,γ1,i,o,f1,tr1,dr1,pv1,ar1⟩:=ihb hc A w γ hg nx b a (.inBlock id::k) cs hr hx l hf ht n m d;exact⟨a1,w1,γ1,i,o,f1,tr1,dr1,pv1,.head stepR_block (Steps.trans ar1 (.one stepR_inBlock))⟩
    | exit j =>
     simp only[tz,aa]at h
     split at h
     ·rename_i B;have B:=ba B;subst B;injection h with h1 h2 h3 h4;subst h1;subst h2;subst h3;subst h4;obtain⟨a1,w1,γ1,i,o,f1,tr1,dr1,pv1,k₁,hk,ar1⟩:=ihb hc A w γ hg nx b a (.inBlock j::k) cs hr hx l hf ht n m d;exact⟨a1,w1,γ1,i,o,f1,tr1,dr1,trivial,.head stepR_block (Steps.trans ar1 (.one (stepR_exit (by rw[hk];simp[exitTo]))))⟩
     ·rename_i B;injection h with h1 h2 h3 h4;subst h1;subst h2;subst h3;subst h4;obtain⟨a1,w1,γ1,i,o,f1,tr1,dr1,pv1,k₁,hk,ar1⟩:=ihb hc A w γ hg nx b a (.inBlock id::k) cs hr hx l hf ht n m d;refine⟨a1,w1,γ1,i,o,f1,tr1,dr1,pv1,k₁,?_,.head stepR_block ar1⟩;rw[hk];have F:(id == j)=false:=by simp only[beq_eq_false_iff_ne,ne_eq];rintro rfl;exact B (Yl _)
      simp[exitTo,F]
    | ret =>have h:PR.ok (.ex .ret) t1 df1 g1=.ok e t' df' g':=h;injection h with h1 h2 h3 h4;subst h1;subst h2;subst h3;subst h4;obtain⟨a1,w1,γ1,i,o,f1,tr1,dr1,pv1,k₁,ar1⟩:=ihb hc A w γ hg nx b a (.inBlock id::k) cs hr hx l hf ht n m d;exact⟨a1,w1,γ1,i,o,f1,tr1,dr1,pv1,k₁,.head stepR_block ar1⟩
 | loop body ihb =>
  intro t df g e t' df' g' h A w γ hg nx b a k cs hr hx l hf ht n m d;simp only[cj]at h;generalize hc:(cj C nt body).run ih ph (bd+1) t df g=r at h;cases r with
  |fail=>cases h
  | ok e1 t1 df1 g1 =>
   have q:=dq hC.WZ hi.WZ hp.WZ _ hc l;have wf1:=q.wf l;cases e1 with
   | WH v =>have h:PR.ok (.WH v) t1 df1 g1=.ok e t' df' g':=h;injection h with h1 h2 h3 h4;subst h1;subst h2;subst h3;subst h4;obtain⟨a1,w1,γ1,i,o,f1,tr1,dr1,pv1,k₁,ar1⟩:=ihb hc A w γ hg nx b a (.inLoop body::k) cs hr hx l hf ht n m d;exact⟨a1,w1,γ1,i,o,f1,tr1,dr1,pv1,k₁,.head stepR_loop ar1⟩
   | ex e1 =>
    cases e1 with
    | norm =>
     have h:ph.code nt (bd+1) (.loop body) t1 df1 g1=.ok e t' df' g':=h;have D:=hp.WZ.code _ _ _ _ _ _ _ _ _ _ h wf1;obtain⟨a1,w1,γ1,i,o,f1,tr1,dr1,pv1,ar1⟩:=ihb hc A w γ hg nx b a (.inLoop body::k) cs hr hx l (hf.le D.nx) ht n m d;obtain⟨a2,w2,γ2,z,E,f2,tr2,dr2,pv2,ar2⟩:=hp.code _ _ _ _ _ _ _ _ _ _ h A w1 γ1 i _ b a1 k cs f1.rel (f1.ext q hx) wf1 (f1.freed hr q hf) tr1 dr1 m d;refine⟨a2,w2,γ2,z,E,f1.trans f2 q D,tr2,dr2,pv2,Nf.of_steps (.head stepR_loop (Steps.trans ar1 (.one stepR_inLoop))) ?_⟩;have p:step C.P (lone (b.atR a1 (.code (.loop body)::k)) cs w1)=.next (lone (b.atR a1 (.code body::.inLoop body::k)) cs w1):=stepR_loop;have ne:∀{a':Act} {k':List Item} {w':World},k'≠.code (.loop body)::k->lone (b.atR a1 (.code (.loop body)::k)) cs w1≠lone (b.atR a' k') cs w':=λh h'=>h (EI h').symm;cases e with
     | WH v =>
      obtain⟨k₁,ar2⟩:=ar2;refine⟨k₁,gf ar2 (λh'=>?_) p⟩;have h1:(lone (b.atR a1 (.code (.loop body)::k)) cs w1).gs=(lone ((b.atR a2 k₁).raise [{ v:=E,recovered:=false }]) cs w2).gs:=by rw[h']
      simp only[lone,Array.mk.injEq,List.cons.injEq,and_true]at h1;have h2:=congrArg (λg:Goroutine=>g.frame.mode) h1;simp[Frame.atR,Frame.raise]at h2
     | ex e =>
      cases e with
      |norm=>exact gf ar2 (ne (λh=>by have:=congrArg List.length h;simp at this)) p
      | exit j =>obtain⟨k₁,hk,ar2⟩:=ar2;exact⟨k₁,hk,gf ar2 (ne (λh=>by injection h with h _;injection h with h;cases h)) p⟩
      | ret =>obtain⟨k₁,ar2⟩:=ar2;exact⟨k₁,gf ar2 (ne (λh=>by injection h with h _;injection h with h;cases h)) p⟩
    | exit j =>have h:PR.ok (.ex (.exit j)) t1 df1 g1=.ok e t' df' g':=h;injection h with h1 h2 h3 h4;subst h1;subst h2;subst h3;subst h4;obtain⟨a1,w1,γ1,i,o,f1,tr1,dr1,pv1,k₁,hk,ar1⟩:=ihb hc A w γ hg nx b a (.inLoop body::k) cs hr hx l hf ht n m d;exact⟨a1,w1,γ1,i,o,f1,tr1,dr1,pv1,k₁,by rw[hk];rfl,.head stepR_loop ar1⟩
    | ret =>have h:PR.ok (.ex .ret) t1 df1 g1=.ok e t' df' g':=h;injection h with h1 h2 h3 h4;subst h1;subst h2;subst h3;subst h4;obtain⟨a1,w1,γ1,i,o,f1,tr1,dr1,pv1,k₁,ar1⟩:=ihb hc A w γ hg nx b a (.inLoop body::k) cs hr hx l hf ht n m d;exact⟨a1,w1,γ1,i,o,f1,tr1,dr1,pv1,k₁,.head stepR_loop ar1⟩
 | scope body ihb =>
  intro t df g e t' df' g' h A w γ hg nx b a k cs hr hx l hf ht n m d;have h:(cj C nt body).run ih ph (bd+1) t df g=.ok e t' df' g':=h;obtain⟨a1,w1,γ1,i,o,f1,tr1,dr1,pv1,ar1⟩:=ihb h A w γ hg nx b a (.inScope body::k) cs hr hx l hf ht n m d;refine⟨a1,w1,γ1,i,o,f1,tr1,dr1,pv1,?_⟩;cases e with
  |WH v=>obtain⟨k₁,ar1⟩:=ar1;exact⟨k₁,.head cO ar1⟩
  | ex e =>
   cases e with
   |norm=>exact .head cO (Steps.trans ar1 (.one rh))
   |exit j=>obtain⟨k₁,hk,ar1⟩:=ar1;exact⟨k₁,by rw[hk];rfl,.head cO ar1⟩
   |ret=>obtain⟨k₁,ar1⟩:=ar1;exact⟨k₁,.head cO ar1⟩
 |_=>intro t df g e t' df' g' h;simp only[cj]at h;exact II hC hi h
theorem QH(hC:Xa C)(hi:V7 C ih)(hp:Uy C ph):∀(c:Code) {v:AV} {t:T} {g:G} {e:PE} {t':T} {df':List Xo} {g':G},
  (nF C nt c).run ih ph (bd+1) v t g=.ok e t' df' g'->∀A w γ hg nx (b:Frame) (a:Act) k c0 cs u,W4 C A bd w γ hg nx->PI g.h hg->WF g->Wm γ g g'->TR w γ A bd nt t a.tmps->a.defers=[]->RV w γ A bd v u ->
  b.roundOf=none->b.kind=.deferred->c0.mode=.panicking [{ v:=u,recovered:=false }] ->
  CG C A bd nt b k ({ c0 with mode:=.panicking [{ v:=u,recovered:=true }] }::cs) (lone (b.atR a (.code c::k)) (c0::cs) w) w γ hg nx g e t' df' g':=by
 intro c
 induction c with
 | region id ops draw =>
  intro v t g e t' df' g' h A w γ hg nx b a k c0 cs u hr hx l hf ht m hv i hk hm;cases draw with
  |true=>cases h
  | false =>
   simp only[nF]at h
   split at h
   rotate_left
   ·cases h
   rename_i o rest q
   split at h
   rotate_left
   ·cases h
   rename_i ca cb z F
   split at h
   rotate_left
   ·cases h
   rename_i out B;have ho:ops[0]?=some o:=by
    have:ops.toList[0]?=some o:=by rw[q];rfl
    simpa using this
   have hd:∀c,o.op≠.defer c:=by rw[z];intro c h;cases h
   have hw:Region.wanted o (yielded ops a.tmps)=true:=by simp[Region.wanted,F]
   have st0:=JA (P:=C.P) (b:=b) (a:=a) (k:=k) (cs:=cs) (rest:=List.range' 1 rest.length) (w:=w) ho hw hd hk i hm
    (by simp only[execOp,z,resolve,invoke,Yb,Yu,XT];rfl)
   obtain⟨a',w',γ',hg',uu,f,tr,dr,pv,st⟩:=I6 (b:=b) (cs:={ c0 with mode:=.panicking [{ v:=u,recovered:=true }] }::cs) (k:=k) (a:=a.put o.dst u) hC hi hp rest 1 (by rw[q];rfl) h l hr hx hf (ht.put B hv)
    (by cases hd:o.dst<;>simp[Act.put,m,DR]) i (.inr ⟨hk,_,cs,rfl,.inr ⟨u,false,[],rfl⟩⟩)
   have I:List.range ops.size=0::List.range' 1 rest.length:=by
    have:ops.size=rest.length+1:=by rw[<-aa9,q];rfl
    rw[this,aaw,aaY]
   refine⟨a',w',γ',hg',uu,f,tr,dr,pv,st.of_steps (.head stepR_region (.one ?_))⟩;rw[I];exact st0
 | seq x y ihx _ =>
  intro v t g e t' df' g' h A w γ hg nx b a k c0 cs u hr hx l hf ht m hv i hk hm;simp only[nF]at h;generalize hc:(nF C nt x).run ih ph (bd+1) v t g=r at h;cases r with
  |fail=>cases h
  | ok e1 t1 df1 g1 =>
   have D:=Ek hC.WZ hi.WZ hp.WZ _ hc l;have wf1:=D.wf l;cases e1 with
   | WH v1 =>have h:PR.ok (.WH v1) t1 df1 g1=.ok e t' df' g':=h;injection h with h1 h2 h3 h4;subst h1;subst h2;subst h3;subst h4;obtain⟨a1,w1,γ1,d,n,f1,tr1,dr1,pv1,k₁,ar1⟩:=ihx hc A w γ hg nx b a (.code y::k) c0 cs u hr hx l hf ht m hv i hk hm;exact⟨a1,w1,γ1,d,n,f1,tr1,dr1,pv1,k₁,.head stepR_seq ar1⟩
   | ex e1 =>
    cases e1 with
    | norm =>have h:(cj C nt y).run ih ph (bd+1) t1 df1 g1=.ok e t' df' g':=h;have J:=dq hC.WZ hi.WZ hp.WZ _ h wf1;obtain⟨a1,w1,γ1,d,n,f1,tr1,dr1,pv1,ar1⟩:=ihx hc A w γ hg nx b a (.code y::k) c0 cs u hr hx l (hf.le J.nx) ht m hv i hk hm;obtain⟨a2,w2,γ2,E,K,f2,tr2,dr2,pv2,ar2⟩:=rM hC hi hp y h A w1 γ1 d _ b a1 k ({ c0 with mode:=.panicking [{ v:=u,recovered:=true }] }::cs) f1.rel (f1.ext D hx) wf1 (f1.freed hr D hf) tr1 dr1 i (.inr ⟨hk,_,cs,rfl,.inr ⟨u,false,[],rfl⟩⟩);exact⟨a2,w2,γ2,E,K,f1.trans f2 D J,tr2,dr2,pv2,ar2.of_steps (.head stepR_seq ar1)⟩
    | exit j =>have h:PR.ok (.ex (.exit j)) t1 df1 g1=.ok e t' df' g':=h;injection h with h1 h2 h3 h4;subst h1;subst h2;subst h3;subst h4;obtain⟨a1,w1,γ1,d,n,f1,tr1,dr1,pv1,k₁,p,ar1⟩:=ihx hc A w γ hg nx b a (.code y::k) c0 cs u hr hx l hf ht m hv i hk hm;exact⟨a1,w1,γ1,d,n,f1,tr1,dr1,pv1,k₁,by rw[p];rfl,.head stepR_seq ar1⟩
    | ret =>have h:PR.ok (.ex .ret) t1 df1 g1=.ok e t' df' g':=h;injection h with h1 h2 h3 h4;subst h1;subst h2;subst h3;subst h4;obtain⟨a1,w1,γ1,d,n,f1,tr1,dr1,pv1,k₁,ar1⟩:=ihx hc A w γ hg nx b a (.code y::k) c0 cs u hr hx l hf ht m hv i hk hm;exact⟨a1,w1,γ1,d,n,f1,tr1,dr1,pv1,k₁,.head stepR_seq ar1⟩
 | block id body ihb =>
  intro v t g e t' df' g' h A w γ hg nx b a k c0 cs u hr hx l hf ht m hv i hk hm;simp only[nF]at h;generalize hc:(nF C nt body).run ih ph (bd+1) v t g=r at h;cases r with
  |fail=>cases h
  | ok e1 t1 df1 g1 =>
   cases e1 with
   | WH v1 =>have h:PR.ok (.WH v1) t1 df1 g1=.ok e t' df' g':=h;injection h with h1 h2 h3 h4;subst h1;subst h2;subst h3;subst h4;obtain⟨a1,w1,γ1,d,n,f1,tr1,dr1,pv1,k₁,ar1⟩:=ihb hc A w γ hg nx b a (.inBlock id::k) c0 cs u hr hx l hf ht m hv i hk hm;exact⟨a1,w1,γ1,d,n,f1,tr1,dr1,pv1,k₁,.head stepR_block ar1⟩
   | ex e1 =>
    cases e1 with
    | norm =>have h:PR.ok (.ex .norm) t1 df1 g1=.ok e t' df' g':=h;injection h with h1 h2 h3 h4;subst h1;subst h2;subst h3;subst h4;obtain⟨a1,w1,γ1,d,n,f1,tr1,dr1,pv1,ar1⟩:=ihb hc A w γ hg nx b a (.inBlock id::k) c0 cs u hr hx l hf ht m hv i hk hm;exact⟨a1,w1,γ1,d,n,f1,tr1,dr1,pv1,.head stepR_block (Steps.trans ar1 (.one stepR_inBlock))⟩
    | exit j =>
     simp only[tz,aa]at h
     split at h
     ·rename_i s;have s:=ba s;subst s;injection h with h1 h2 h3 h4;subst h1;subst h2;subst h3;subst h4;obtain⟨a1,w1,γ1,d,n,f1,tr1,dr1,pv1,k₁,p,ar1⟩:=ihb hc A w γ hg nx b a (.inBlock j::k) c0 cs u hr hx l hf ht m hv i hk hm;exact⟨a1,w1,γ1,d,n,f1,tr1,dr1,trivial,.head stepR_block (Steps.trans ar1 (.one (stepR_exit (by rw[p];simp[exitTo]))))⟩
     ·rename_i s;injection h with h1 h2 h3 h4;subst h1;subst h2;subst h3;subst h4;obtain⟨a1,w1,γ1,d,n,f1,tr1,dr1,pv1,k₁,p,ar1⟩:=ihb hc A w γ hg nx b a (.inBlock id::k) c0 cs u hr hx l hf ht m hv i hk hm;refine⟨a1,w1,γ1,d,n,f1,tr1,dr1,pv1,k₁,?_,.head stepR_block ar1⟩;rw[p];have H:(id == j)=false:=by simp only[beq_eq_false_iff_ne,ne_eq];rintro rfl;exact s (Yl _)
      simp[exitTo,H]
    | ret =>have h:PR.ok (.ex .ret) t1 df1 g1=.ok e t' df' g':=h;injection h with h1 h2 h3 h4;subst h1;subst h2;subst h3;subst h4;obtain⟨a1,w1,γ1,d,n,f1,tr1,dr1,pv1,k₁,ar1⟩:=ihb hc A w γ hg nx b a (.inBlock id::k) c0 cs u hr hx l hf ht m hv i hk hm;exact⟨a1,w1,γ1,d,n,f1,tr1,dr1,pv1,k₁,.head stepR_block ar1⟩
 | scope body ihb =>
  intro v t g e t' df' g' h A w γ hg nx b a k c0 cs u hr hx l hf ht m hv i hk hm;have h:(nF C nt body).run ih ph (bd+1) v t g=.ok e t' df' g':=h;obtain⟨a1,w1,γ1,d,n,f1,tr1,dr1,pv1,ar1⟩:=ihb h A w γ hg nx b a (.inScope body::k) c0 cs u hr hx l hf ht m hv i hk hm;refine⟨a1,w1,γ1,d,n,f1,tr1,dr1,pv1,?_⟩;cases e with
  |WH v=>obtain⟨k₁,ar1⟩:=ar1;exact⟨k₁,.head cO ar1⟩
  | ex e =>
   cases e with
   |norm=>exact .head cO (Steps.trans ar1 (.one rh))
   |exit j=>obtain⟨k₁,hk,ar1⟩:=ar1;exact⟨k₁,by rw[hk];rfl,.head cO ar1⟩
   |ret=>obtain⟨k₁,ar1⟩:=ar1;exact⟨k₁,.head cO ar1⟩
 |_=>intro v t g e t' df' g' h;cases h
def QJ(hC:Xa C)(hi:V7 C ih)(hp:Uy C ph){g:G}(h:A_ C ih ph (bd+1) f v as g=some g'):Wk C.P f /\
  ∀A w γ hg nx vs,W4 C A bd w γ hg nx->PI g.h hg->WF g->Wm γ g g'->Wa w γ A bd as vs->∀(c0:Frame) (cs:List Frame) (u:Value),RV w γ A bd v u->c0.mode=.panicking [{ v:=u,recovered:=false }] ->
  ∃w' γ' hg' frX val,Fin C A bd w γ hg nx g w' γ' hg' g' /\
   Steps C.P (lone (Frame.enter C.P f vs.toArray .deferred) (c0::cs) w) (lone frX ({ c0 with mode:=.panicking [{ v:=u,recovered:=true }] }::cs) w')/\frX.kind=.deferred/\frX.going C.P w' (.returned val):=by
 unfold A_ at h
 split at h
 ·cases h
 rename_i fn hfn
 split at h
 rotate_left
 ·cases h
 rename_i c r hbody hres;rw[aa]at h
 split at h
 ·cases h
 rename_i hcond;simp only[YE,not_or,Za,abK]at hcond;let⟨hname,hle⟩:=hcond;rw[Yt,ay]at hle;refine⟨λargs w=>?_,?_⟩
 ·unfold callFunc;have hn : fn.name ≠ "runtime.NumGoroutine" := by simpa using hname
  simp[hfn,hn,hbody]
 intro A w γ hg nx vs hr hx hwf hf hv c0 cs u hvu hm
 let b:Frame:={ (default:Frame) with fn:=f,kind:=.deferred,roundOf:=none }
 let a0:Act:={ tmps:=vs.toArray++Array.replicate (fn.ntmps - vs.toArray.size) undef,defers:=[] }
 have henter:Frame.enter C.P f vs.toArray .deferred=b.atR a0 [.code c]:=by simp[Frame.enter,Frame.atR,hfn,hbody,b,a0]
 have key:∀{e:Ex} {t1:T} {g1:G},(nF C fn.ntmps c).run ih ph (bd+1) v (bJ 0 as .nil) g=.ok (.ex e) t1 [] g1->(∀j,e≠.exit j)->(match r.run t1 g1 with|some _=>some g1|none=>none)=some g' ->
   ∃w' γ' hg' frX val,Fin C A bd w γ hg nx g w' γ' hg' g' /\
   Steps C.P (lone (Frame.enter C.P f vs.toArray .deferred) (c0::cs) w) (lone frX ({ c0 with mode:=.panicking [{ v:=u,recovered:=true }] }::cs) w')/\frX.kind=.deferred/\frX.going C.P w' (.returned val):=by
  intro e t1 g1 hc hne hend
  split at hend
  rotate_left
  ·cases hend
  rename_i xs hxs;cases hend;have m1:=Ek hC.WZ hi.WZ hp.WZ _ hc hwf;let⟨a1,w1,γ1,hg1,u1,f1,tr1,dr1,pv1,ar1⟩:=QH hC hi hp c hc A w γ hg nx b a0 [] c0 cs u hr hx hwf hf (Cf hv hle) rfl hvu rfl rfl hm;have hd1:a1.defers=[]:=by
   cases hd:a1.defers with
   |nil=>rfl
   |cons d ds=>rw[hd]at dr1;exact dr1.elim
  obtain⟨us,hus,hrv⟩:=CU hC tr1 f1.rel (f1.ext m1 hx) hres hxs;obtain⟨val,hval,_⟩:=wU (γ:=γ1) (A:=A) (bd:=bd) hus;rw[henter];cases e with
  |norm=>exact⟨w1,γ1,hg1,{ b.atR a1 [] with mode:=.returning },val,f1,Steps.trans ar1 (.one (stepR_end rfl)),rfl,rfl,hd1,fn,hfn,hval⟩
  | ret =>let⟨k₁,ar1⟩:=ar1;exact⟨w1,γ1,hg1,{ b.atR a1 (.code .ret::k₁) with mode:=.returning },val,f1,Steps.trans ar1 (.one (stepR_ret rfl)),rfl,rfl,hd1,fn,hfn,hval⟩
  |exit j=>exact absurd rfl (hne j)
 split at h
 ·cases h
 ·rename_i e t1 g1 hne hc;exact key hc (by rintro j rfl;exact hne j rfl) h
 ·cases h
def Bp(hC:Xa C)(hi:V7 C ih){fn:Func}{r:Wv (T->G->Option (List AV))}(hres:pE C fn.results.toList=some r)
  (hend:bV ih (bd+1) r.run t df g=.ok v g') (hwf:WF g) (hr:W4 C A bd w γ hg nx) (hx:PI g.h hg) (hf:Wm γ g g') {fr:Frame} {cs:List Frame} (ht:TR w γ A bd fn.ntmps t fr.tmps) (hdf:DR w γ A bd df fr.defers) (hm:fr.mode=.returning) :
  ∃u w' γ' hg',Fin C A bd w γ hg nx g w' γ' hg' g'/\RV w' γ' A bd v u/\Steps C.P (lone fr cs w) (lone { fr with defers:=[] } cs w')/\(results fn fr.tmps).run C.P w'=.ok u w':=by
 unfold bV at hend
 split at hend
 ·cases hend
 rename_i g2 h2;have f:=nK hi.WZ h2 hwf
 split at hend
 rotate_left
 ·cases hend
 rename_i xs e;injection hend with h1 a;subst a;subst h1;obtain⟨w2,γ2,b,f2,st2⟩:=Ge hi h2 hwf (fr:=fr) (cs:=cs) hr hx hf hdf hm;obtain⟨us,d,c⟩:=CU hC (ht.step f2.pk) f2.rel (f2.ext f hx) hres e;obtain⟨u,hu,k⟩:=wU (γ:=γ2) (A:=A) (bd:=bd) d;exact⟨u,w2,γ2,b,f2,k c,st2,hu⟩
def Dc(hC:Xa C)(hi:V7 C ih)(hp:Uy C ph){fn:Func}{r:Wv (T->G->Option (List AV))}(hres:pE C fn.results.toList=some r)(hwf:WF g)(hr:W4 C A bd w γ hg nx)(hx:PI g.h hg)(hf:Wm γ g g')
  {fr:Frame} {cs:List Frame} (ht:TR w γ A bd fn.ntmps t fr.tmps) (hdf:DR w γ A bd df fr.defers)  (hm:fr.mode=.panicking [{ v:=u,recovered:=false }]) (hv:RV w γ A bd v u) (hfn:C.P.funcs[fr.fn]?=some fn) :
  (∀x,lC C ih ph (bd+1) r.run v t df g=.ok x g'->∃y w' γ' hg',Fin C A bd w γ hg nx g w' γ' hg' g'/\RV w' γ' A bd x y/\Steps C.P (lone fr cs w) (lone { fr with mode:=.returning,defers:=[] } cs w')/\(results fn fr.tmps).run C.P w'=.ok y w') /\
  (∀x,lC C ih ph (bd+1) r.run v t df g=.WH x g'->∃y w' γ' hg',Fin C A bd w γ hg nx g w' γ' hg' g'/\RV w' γ' A bd x y/\fr.leaving C.P w' (.panicked [{ v:=y,recovered:=false }])/\w'=w):=by
 unfold lC
 split
 ·refine⟨λx h=>(by cases h),λx h=>?_⟩;cases h;have hd:fr.defers=[]:=by
   cases hd:fr.defers with
   |nil=>rfl
   |cons d ds=>rw[hd]at hdf;exact hdf.elim
  exact⟨u,w,γ,hg,Fin.refl hr,hv,⟨hm,hd,fn,hfn⟩,rfl⟩
 ·rename_i f cap args ds
  split
  rotate_left
  ·exact⟨λx h=>(by cases h),λx h=>(by cases h)⟩
  rename_i g1 h1;refine⟨λx h=>?_,λx h=>(Am h).elim⟩;have h:=CC h;have m:=Jk hC.WZ hi.WZ hp.WZ h1 hwf;have wf1:=m.wf hwf;have q:=pK hi.WZ h wf1;let⟨j,l⟩:=QJ hC hi hp h1;cases hd:fr.defers with
  |nil=>rw[hd]at hdf;exact hdf.elim
  | cons d es =>
   rw[hd]at hdf;obtain⟨⟨f',ys,us,i,k,p,a⟩,hdf⟩:=hdf;injection i with e1 e2 e3;subst e1;subst e3
   let fr0:Frame:={ fr with defers:=es }
   obtain⟨w1,γ1,n,frX,val,f1,st,s,q2⟩:=l A w γ hg nx (d.args.toList++us.toList) hr hx hwf (hf.le q.nx) (by simpa using a.append p) fr0 cs u hv hm;have e:(d.args.toList++us.toList).toArray=d.args++us:=by apply On;simp
   rw[e]at st
   let fr1:Frame:={ fr with defers:=es,mode:=.returning }
   obtain⟨y,w2,γ2,o,f2,rv,st2,b⟩:=Bp (w:=w1) (γ:=γ1) (hg:=n) (fr:=fr1) (cs:=cs) hC hi hres h wf1 f1.rel (f1.ext m hx) (f1.freed hr m hf) (ht.step f1.pk) (hdf.step f1.pk) rfl;refine⟨y,w2,γ2,o,f1.trans f2 m q,rv,.head (step_defer (by rw[hm];simp) hd k ?_) (Steps.trans st (.head ?_ st2)),b⟩
   ·rw[k];simp only[invoke];exact j _ _
   ·have:=step_going_returned (P:=C.P) (c:={ fr0 with mode:=.panicking [{ v:=u,recovered:=true }] }) (cs:=cs) s q2;simpa [settle,fr0,fr1] using this
 ·exact⟨λx h=>(by cases h),λx h=>(by cases h)⟩
theorem lZ(hC:Xa C)(hi:V7 C ih)(hp:Uy C ph) :
  (dJ C ih ph (bd+1) f as g=.ok v g'->Wk C.P f/\Cc C bd f as g v g')/\(dJ C ih ph (bd+1) f as g=.WH v g'->Wk C.P f/\K9 C bd f as g v g'):=by
 unfold dJ
 split
 ·exact⟨λh=>(by cases h),λh=>(by cases h)⟩
 rename_i fn hfn
 split
 rotate_left
 ·exact⟨λh=>(by cases h),λh=>(by cases h)⟩
 rename_i c r hbody hres;rw[aa]
 split
 ·exact⟨λh=>(by cases h),λh=>(by cases h)⟩
 rename_i hcond;simp only[YE,not_or,Za,abK]at hcond;obtain⟨hname,hle⟩:=hcond;rw[Yt,ay]at hle;have hent:Wk C.P f:=λargs w=>by
  unfold callFunc;have hn : fn.name ≠ "runtime.NumGoroutine" := by simpa using hname
  simp[hfn,hn,hbody]
 have enter:∀(K:CallKind) (vs:List Value),Frame.enter C.P f vs.toArray K=({ (default:Frame) with fn:=f,kind:=K,roundOf:=none }:Frame).atR { tmps:=vs.toArray++Array.replicate (fn.ntmps - vs.toArray.size) undef,defers:=[] } [.code c]:=λK vs=>by simp[Frame.enter,Frame.atR,hfn,hbody]
 split
 ·exact⟨λh=>(by cases h),λh=>(by cases h)⟩
 ·rename_i e t1 df1 g1 hne hc;refine⟨λh=>⟨hent,?_⟩,λh=>(Am h).elim⟩;have h:=CC h;intro A w γ hg nx vs hr hex hwf hf hv K cs hcalm;have m1:=dq hC.WZ hi.WZ hp.WZ _ hc hwf;have wf1:=m1.wf hwf;have m2:=pK hi.WZ h wf1;obtain⟨a1,w1,γ1,hg1,u1,f1,tr1,dr1,pv1,ar1⟩:=rM hC hi hp c hc A w γ hg nx { (default:Frame) with fn:=f,kind:=K,roundOf:=none } { tmps:=vs.toArray++Array.replicate (fn.ntmps - vs.toArray.size) undef,defers:=[] } [] cs hr hex hwf (hf.le m2.nx) (Cf hv hle) trivial rfl hcalm;have hret:∃fr:Frame,Steps C.P (lone (Frame.enter C.P f vs.toArray K) cs w) (lone fr cs w1)/\fr.mode=.returning/\fr.defers=a1.defers/\fr.kind=K/\fr.fn=f/\fr.tmps=a1.tmps:=by
   rw[enter];cases e with
   |norm=>exact⟨_,Steps.trans ar1 (.one (stepR_end rfl)),rfl,rfl,rfl,rfl,rfl⟩
   | ret =>obtain⟨k₁,ar1⟩:=ar1;exact⟨_,Steps.trans ar1 (.one (stepR_ret rfl)),rfl,rfl,rfl,rfl,rfl⟩
   |exit j=>exact absurd rfl (hne j)
  obtain⟨fr,st1,q1,q2,q3,q4,q5⟩:=hret;obtain⟨u,w2,γ2,hg2,f2,rv,st2,hres2⟩:=Bp (w:=w1) (γ:=γ1) (hg:=hg1) (fr:=fr) (cs:=cs) hC hi hres h wf1 f1.rel (f1.ext m1 hex) (f1.freed hr m1 hf) (by rw[q5];exact tr1) (by rw[q2];exact dr1) q1;exact⟨u,w2,γ2,hg2,f1.trans f2 m1 m2,rv,{ fr with defers:=[] },Steps.trans st1 st2,q1,rfl,q3,q4,fn,hfn,hres2⟩
 ·rename_i v1 t1 df1 g1 hc;have key:∀(A:Nat->Nat->Prop) (w:World) (γ:Gm) (hg:Nat->Xh) (nx:Nat) (vs:List Value),W4 C A bd w γ hg nx->PI g.h hg->WF g->Wm γ g g1->Wa w γ A bd as vs->∀K cs,rC K cs ->
    ∃fr w1 γ1 hg1 u1,Mon g g1/\Fin C A bd w γ hg nx g w1 γ1 hg1 g1/\TR w1 γ1 A bd fn.ntmps t1 fr.tmps/\DR w1 γ1 A bd df1 fr.defers/\RV w1 γ1 A bd v1 u1/\fr.mode=.panicking [{ v:=u1,recovered:=false }]/\fr.kind=K/\fr.fn=f /\
     Steps C.P (lone (Frame.enter C.P f vs.toArray K) cs w) (lone fr cs w1):=by
   intro A w γ hg nx vs hr hex hwf hf hv K cs hcalm;have m1:=dq hC.WZ hi.WZ hp.WZ _ hc hwf;obtain⟨a1,w1,γ1,hg1,u1,f1,tr1,dr1,pv1,k₁,ar1⟩:=rM hC hi hp c hc A w γ hg nx { (default:Frame) with fn:=f,kind:=K,roundOf:=none } { tmps:=vs.toArray++Array.replicate (fn.ntmps - vs.toArray.size) undef,defers:=[] } [] cs hr hex hwf hf (Cf hv hle) trivial rfl hcalm;rw[enter];exact⟨_,w1,γ1,hg1,u1,m1,f1,tr1,dr1,pv1,rfl,rfl,rfl,ar1⟩
  refine⟨λh=>⟨hent,?_⟩,λh=>⟨hent,?_⟩⟩
  ·intro A w γ hg nx vs hr hex hwf hf hv K cs hcalm;have m1:=dq hC.WZ hi.WZ hp.WZ _ hc hwf;have m2:=yA hC.WZ hi.WZ hp.WZ (.inl h) (m1.wf hwf);obtain⟨fr,w1,γ1,hg1,u1,_,f1,tr1,dr1,rv1,q1,q3,q4,st1⟩:=key A w γ hg nx vs hr hex hwf (hf.le m2.nx) hv K cs hcalm;obtain⟨u,w2,γ2,hg2,f2,rv,st2,hres2⟩:=(Dc (fr:=fr) (cs:=cs) hC hi hp hres (m1.wf hwf) f1.rel (f1.ext m1 hex) (f1.freed hr m1 hf) tr1 dr1 q1 rv1 (by rw[q4];exact hfn)).1 v h;exact⟨u,w2,γ2,hg2,f1.trans f2 m1 m2,rv,_,Steps.trans st1 st2,rfl,rfl,q3,q4,fn,hfn,hres2⟩
  ·intro A w γ hg nx vs hr hex hwf hf hv K cs hcalm;have m1:=dq hC.WZ hi.WZ hp.WZ _ hc hwf;have m2:=yA hC.WZ hi.WZ hp.WZ (.inr h) (m1.wf hwf);obtain⟨fr,w1,γ1,hg1,u1,_,f1,tr1,dr1,rv1,q1,q3,q4,st1⟩:=key A w γ hg nx vs hr hex hwf (hf.le m2.nx) hv K cs hcalm;obtain⟨u,w2,γ2,hg2,f2,rv,hl,rfl⟩:=(Dc (fr:=fr) (cs:=cs) hC hi hp hres (m1.wf hwf) f1.rel (f1.ext m1 hex) (f1.freed hr m1 hf) tr1 dr1 q1 rv1 (by rw[q4];exact hfn)).2 v h;exact⟨u,w2,γ2,hg2,f1.trans f2 m1 m2,rv,fr,st1,hl⟩
 ·exact⟨λh=>(by cases h),λh=>(by cases h)⟩
def S8(hC:Xa C)(n:Nat):∀m,Uy C (UG C n m):=by
 intro m
 induction m with
 |zero=>exact⟨Et hC.WZ n 0,λbd nt c t df g e t' df' g' h=>(by cases h),λbd f as g v g' h=>(by cases h),λbd f as g v g' h=>(by cases h)⟩
 | succ m ihm =>exact⟨Et hC.WZ n (m+1),λbd nt c t df g e t' df' g' h=>rM hC (uj hC n) ihm c h,λbd f as g v g' h=>(lZ hC (uj hC n) ihm).1 h,λbd f as g v g' h=>(lZ hC (uj hC n) ihm).2 h⟩
end
end
def Qj:PF->FR
 |.ok v g=>.ok v g
 |_=>.fail
def ihP(C:Xg)(n m:Nat):IH:=⟨λ_ _ _ _ _ _ _=>.fail,λd f as g=>Qj ((UG C n m).call d f as g)⟩
def G9{r:PF}(h:Qj r=.ok v g):r=.ok v g:=by
 cases r with
 |ok v' g'=>injection h with h1 h2;rw[h1,h2]
 |fail=>cases h
 |WH v' g'=>cases h
def PO(hC:Xa C):Gs C (ihP C n m):=λbd f as g v g' h=>(S8 hC n m).call bd f as g v g' (G9 h)
def Sf(hC:Xa C):Cb (ihP C n m):=λd f as g v g' h hwf=>(Et hC.WZ n m).call d f as g v g' (.inl (G9 h)) hwf
def U_(C:Xg)(n m f:Nat):Nat->List AV->G->OR:=λd as g=>aj (ihP C n m) d g f as
def LO{ih:IH}(hc:Gs C ih)(hm:Cb ih):T3 C f (λd as g=>aj ih d g f as):=by refine⟨λd args g hwf=>wN hwf,λd args g y=>Fh,λA bd w γ hg nx g as vs hr hwf hx hf hv hne cs=>?_⟩;let⟨he,u,w',γ',hg',fin,rv,out⟩:=wO hc hm hr hx hv hne cs;exact⟨u,w',γ',hg',fin,rv,.inr ⟨he,out⟩⟩
def Sg(hC:Xa C):T3 C f (U_ C n m f):=LO (PO hC) (Sf hC)
def yh(a b:PR):Prop:=a=.fail\/a=b
def Ov(a b:PF):Prop:=a=.fail\/a=b
structure OL (a b:PH):Prop where
 code:∀nt d c t df g,yh (a.code nt d c t df g) (b.code nt d c t df g)
 call:∀d f xs g,Ov (a.call d f xs g) (b.call d f xs g)
section
variable {C:Xg}{ih:IH}{p q:PH}
def Oh{out:T->AV->T}{n m:T->List Xo->G->PR}{a b:PF}(h:Ov a b)(hn:∀t df g,yh (n t df g) (m t df g)):yh (EH out n t df a) (EH out m t df b):=by
 rcases h with rfl|rfl
 ·exact .inl rfl
 ·cases a with
  |fail=>exact .inl rfl
  |ok v g=>exact hn _ _ _
  |WH v g=>exact .inr rfl
def Gk{out:T->AV->T}{n m:T->List Xo->G->PR}{r:OR}(hn:∀t df g,yh (n t df g) (m t df g)):yh (rk out n t df g r) (rk out m t df g r):=by
 cases r with
 |fail=>exact .inl rfl
 |val v=>exact hn _ _ _
 |upd v g'=>exact hn _ _ _
 |Xi a=>exact hn _ _ _
def OY(h:OL p q){fv:AV}{vs:List AV}:(rG C p d fv vs g=none/\rG C q d fv vs g=none)\/∃a b,rG C p d fv vs g=some a/\rG C q d fv vs g=some b/\Ov a b:=by
 unfold rG
 split
 ·rw[aa,aa]
  split
  ·exact .inl ⟨rfl,rfl⟩
  ·exact .inr ⟨_,_,rfl,rfl,h.call _ _ _ _⟩
 ·exact .inl ⟨rfl,rfl⟩
def L_(h:OL p q){out:T->AV->T}{n m:T->List Xo->G->PR}(hn:∀t df g,yh (n t df g) (m t df g)) :
  yh ((xQ C op out).run n ih p d t df g) ((xQ C op out).run m ih q d t df g):=by
 unfold xQ
 split
 ·split
  ·exact .inr rfl
  ·exact .inl rfl
 ·split
  ·dsimp only
   split
   ·rename_i ty v _;cases e:Nat.beq ty _ with
    |true=>exact hn _ _ _
    |false=>exact .inl rfl
   ·exact .inl rfl
  ·exact .inl rfl
 ·split
  ·dsimp only;rename_i fv vs _ _;rcases OY h with⟨h1,h2⟩|⟨a,b,h1,h2,h3⟩
   ·rw[h1,h2];exact Gk hn
   ·rw[h1,h2];exact Oh h3 hn
  ·exact .inl rfl
 ·exact Gk hn
def Mb(h:OL p q){all:List Oper}:∀(l:List Oper) (d:Nat) (t:T) (df:List Xo) (g:G),yh ((pp C nt all l).run ih p d t df g) ((pp C nt all l).run ih q d t df g):=by
 intro l
 induction l with
 |nil=>intro d t df g;exact .inr rfl
 | cons o rest ihl =>
  intro d t df g;simp only[pp]
  split
  ·split
   ·exact L_ h λt df g=>ihl d t df g
   ·split
    ·dsimp only
     split
     ·exact L_ h λt df g=>ihl d t df g
     ·exact ihl _ _ _ _
     ·exact .inl rfl
    ·exact .inl rfl
  ·exact .inl rfl
def Hk{n m:T->List Xo->G->PR}{a b:PR}(h:yh a b)(hn:∀t df g,yh (n t df g) (m t df g)):yh (KR n a) (KR m b):=by
 rcases h with rfl|rfl
 ·exact .inl rfl
 ·unfold KR
  split
  ·exact hn _ _ _
  ·exact .inr rfl
def Ft{id:Nat}{a b:PR}(h:yh a b):yh (tz id a) (tz id b):=by
 rcases h with rfl|rfl
 ·exact .inl rfl
 ·exact .inr rfl
def C5(h:OL p q):∀(c:Code) (d:Nat) (t:T) (df:List Xo) (g:G),yh ((cj C nt c).run ih p d t df g) ((cj C nt c).run ih q d t df g):=by
 intro c
 induction c with
 | region ps ops draw =>
  intro d t df g;cases draw with
  |false=>exact Mb h _ _ _ _ _
  |true=>exact .inr rfl
 | seq a b iha ihb =>intro d t df g;exact Hk (iha _ _ _ _) λt df g=>ihb _ _ _ _
 | cond c a b iha ihb =>
  intro d t df g;simp only[cj]
  split
  ·dsimp only
   split
   ·rw[aa,aa]
    split
    ·exact iha _ _ _ _
    ·exact ihb _ _ _ _
   ·exact .inl rfl
  ·exact .inl rfl
 |block id b ihb=>intro d t df g;exact Ft (ihb _ _ _ _)
 |loop b ihb=>intro d t df g;exact Hk (ihb _ _ _ _) λt df g=>h.code _ _ _ _ _ _
 |scope b ihb=>intro d t df g;exact ihb _ _ _ _
 |_=>intro d t df g;exact .inr rfl
def SS(h:OL p q):∀(c:Code) (d:Nat) (v:AV) (t:T) (g:G),yh ((nF C nt c).run ih p d v t g) ((nF C nt c).run ih q d v t g):=by
 intro c
 induction c with
 | region ps ops draw =>
  intro d v t g;cases draw with
  | false =>
   simp only[nF]
   split
   ·split
    ·split
     ·exact Mb h _ _ _ _ _
     ·exact .inl rfl
    ·exact .inl rfl
   ·exact .inl rfl
  |true=>exact .inl rfl
 | seq a b iha ihb =>intro d v t g;exact Hk (iha _ _ _ _) λt df g=>C5 h _ _ _ _ _
 |block id b ihb=>intro d v t g;exact Ft (ihb _ _ _ _)
 |scope b ihb=>intro d v t g;exact ihb _ _ _ _
 |_=>intro d v t g;exact .inl rfl
def ST(h:OL p q):A_ C ih p d f v xs g=none\/A_ C ih p d f v xs g=A_ C ih q d f v xs g:=by
 unfold A_
 split
 ·exact .inl rfl
 ·split
  ·rename_i c r _ _;rw[aa,aa]
   split
   ·exact .inl rfl
   ·rcases SS h c d v (bJ 0 xs .nil) g with e|e
    ·rw[e];exact .inl rfl
    ·rw[e];exact .inr rfl
  ·exact .inl rfl
def Nl(h:OL p q){res:T->G->Option (List AV)}:∀{df:List Xo} {g:G},Ov (lC C ih p d res v t df g) (lC C ih q d res v t df g):=by
 intro df g;unfold lC
 split
 ·exact .inr rfl
 ·rename_i f cap xs ds;rcases ST h with e|e
  ·rw[e];exact .inl rfl
  ·rw[e];exact .inr rfl
 ·exact .inl rfl
def GC(h:OL p q):Ov (dJ C ih p d f xs g) (dJ C ih q d f xs g):=by
 unfold dJ
 split
 ·exact .inl rfl
 ·rename_i fn _
  split
  ·rename_i c r _ _;rw[aa,aa]
   split
   ·exact .inl rfl
   ·rcases C5 h c d (bJ 0 xs .nil) [] g with e|e
    ·rw[e];exact .inl rfl
    ·rw[e]
     split
     ·exact .inl rfl
     ·exact .inr rfl
     ·exact Nl h
     ·exact .inl rfl
  ·exact .inl rfl
def N_(h:OL p q):OL (Hr C ih p) (Hr C ih q):=⟨λ_ _ c _ _ _=>C5 h c _ _ _ _,λ_ _ _ _=>GC h⟩
end
def fL(C:Xg)(m:Nat):PH:=@Nat.rec (λ_=>PH) PH.zero (λ_ ph=>Hr C (I C) ph) m
def Ag(C:Xg):∀m,OL (fL C m) (fL C (m+1))
 |0=>⟨λ_ _ _ _ _ _=>.inl rfl,λ_ _ _ _=>.inl rfl⟩
 |m+1=>N_ (Ag C m)
def OL.trans{a b c:PH}(h:OL a b)(h':OL b c):OL a c :=⟨λnt d x t df g=>(h.code nt d x t df g).elim .inl λe=>by rw[e];exact h'.code nt d x t df g,λd f xs g=>(h.call d f xs g).elim .inl λe=>by rw[e];exact h'.call d f xs g⟩
def Mx(C:Xg)(h:n<=m):OL (fL C n) (fL C m):=by
 induction h with
 |refl=>exact⟨λ_ _ _ _ _ _=>.inr rfl,λ_ _ _ _=>.inr rfl⟩
 |step _ ih=>exact ih.trans (Ag C _)
def Vx{C:Xg}(hC:Xa C):V7 C (I C):=by
 have k:∀{nt d:Nat} {rd:Option Nat} {c:Code} {t:T} {df:List Xo} {g:G} {r:CR},(I C).code nt d rd c t df g=r->∃n,(OU C n).code nt d rd c t df g=r:=λ{nt d rd c t df g r} h=>by obtain⟨m,h'⟩:=Ct.code (C:=C) nt d rd c t df g;exact⟨m,by rw[<-h];exact h' m (XH m)⟩
 refine⟨⟨λnt d rd c t df g e t' df' g' h hwf=>?_,λd f xs g v g' h hwf=>?_⟩,λbd f xs g v g' h=>?_,?_⟩
 ·obtain⟨n,h⟩:=k h;exact (uj hC n).WZ.code _ _ _ _ _ _ _ _ _ _ _ h hwf
 ·obtain⟨n,h⟩:=Ot h;exact (uj hC n).WZ.call _ _ _ _ _ _ h hwf
 ·obtain⟨n,h⟩:=Ot h;exact (uj hC n).call _ _ _ _ _ _ h
 ·intro bd nt rd c t df g e t' df' g' h;obtain⟨n,h⟩:=k h;exact (uj hC n).code _ _ _ _ _ _ _ _ _ _ _ h
def My{C:Xg}(hC:Xa C):∀m,Uy C (fL C m):=by
 intro m
 induction m with
 |zero=>exact⟨⟨λnt d c t df g e t' df' g' h=>(by cases h),λd f xs g v g' h=>(by rcases h with h|h<;>cases h)⟩,λbd nt c t df g e t' df' g' h=>(by cases h),λbd f xs g v g' h=>(by cases h),λbd f xs g v g' h=>(by cases h)⟩
 | succ m ihm =>
  have hi:=Vx hC;exact⟨⟨λnt d c t df g e t' df' g' h hwf=>dq hC.WZ hi.WZ ihm.WZ c h hwf,λd f xs g v g' h hwf=>xS hC.WZ hi.WZ ihm.WZ h hwf⟩,
   λbd nt c t df g e t' df' g' h=>rM hC hi ihm c h,λbd f xs g v g' h=>(lZ hC hi ihm).1 h,λbd f xs g v g' h=>(lZ hC hi ihm).2 h⟩
open Classical in
def Nx(C:Xg):IH:=⟨λ_ _ _ _ _ _ _=>.fail,λd f xs g=>if h:∃m,Qj ((fL C m).call d f xs g)≠.fail then Qj ((fL C (Classical.choose h)).call d f xs g) else .fail⟩
def Iu{C:Xg}(h:(Nx C).call d f xs g=.ok v g'):∃m,(fL C m).call d f xs g=.ok v g':=by
 unfold Nx at h;dsimp only at h
 split at h
 ·exact⟨_,G9 h⟩
 ·cases h
def Se{C:Xg}(h:(fL C m).call d f xs g=.ok v g'):(Nx C).call d f xs g=.ok v g':=by
 have a:∃m,Qj ((fL C m).call d f xs g)≠.fail:=⟨m,by rw[h];intro e;cases e⟩;unfold Nx;dsimp only;rw[dif_pos a];have hs:=Classical.choose_spec a;generalize Classical.choose a=k at hs;have e:(fL C k).call d f xs g=(fL C m).call d f xs g:=by
  rcases Nat.le_total k m with hk|hk
  ·rcases (Mx C hk).call d f xs g with e|e
   ·rw[e]at hs;exact absurd rfl hs
   ·exact e
  ·rcases (Mx C hk).call d f xs g with e|e
   ·rw[h]at e;cases e
   ·exact e.symm
 rw[e,h];rfl
def Bv(C:Xg)(f:Nat):Nat->List AV->G->OR:=λd xs g=>aj (Nx C) d g f xs
def PS{C:Xg}(hC:Xa C):T3 C f (Bv C f) :=
 LO (λbd f xs g v g' h=>by let⟨m,h⟩:=Iu h;exact (My hC m).call _ _ _ _ _ _ h)
  (λd f xs g v g' h hwf=>by let⟨m,h⟩:=Iu h;exact (My hC m).WZ.call _ _ _ _ _ _ (.inl h) hwf)
abbrev QP:=PE->T->List Xo->G->Prop
def V6(F:Nat->PR)(Q:QP):Prop:=∃m e t df g,(∀m',m<=m'->F m'=.ok e t df g)/\Q e t df g
def We(C:Xg)(d f:Nat)(xs:List AV)(g:G)(K KP:AV->G->Prop):Prop :=∃m,(∃v g',(∀m',m<=m'->(fL C m').call d f xs g=.ok v g')/\K v g')\/∃v g',(∀m',m<=m'->(fL C m').call d f xs g=.WH v g')/\KP v g'
def wX(C:Xg)(f:Nat):Bool:=(C.ext f).isSome || C.ON f
def uf:Op->Bool
 |.panic _=>false
 |.typeAssert ..=>false
 |.call { callee:=.value _,.. }=>false
 |_=>true
def td(C:Xg)(d:Nat)(i:SI)(W:PT)(Q:QP)(t:T)(df:List Xo)(g:G):Prop :=
 match i.op with
 |.call f xs=>if wX C f=true then vq C d none i W t df g else We C d f (fe t xs) g (λv g'=>W (vo i.dst t v) df g') λv g'=>Q (.WH v) t df g'
 | .dyn fo xs=>match fo.get t with
  |.W_ f first cap=>if wX C f=true then vq C d none i W t df g else We C d f (first++(fe t xs++cap)) g (λv g'=>W (vo i.dst t v) df g') λv g'=>Q (.WH v) t df g'
  |_=>False
 | .raw (.panic x)=>match tM C x with
  | some o=>match o.get t with
   |.V9 ty v=>Q (.WH (.V9 ty v)) t df g
   |_=>False
  |none=>False
 |.raw op=>if uf op=true then vq C d none i W t df g else False
 |_=>vq C d none i W t df g
def Nu(C:Xg)(d:Nat):List SI->QP->T->List Xo->G->Prop
 |[],Q,t,df,g=>Q (.ex .norm) t df g
 | i::r,Q,t,df,g =>
  match i.gd with
  |none=>td C d i (Nu C d r Q) Q t df g
  |some (s,w)=>RI (Xs t s) w (td C d i (Nu C d r Q) Q) (BF i (Nu C d r Q)) t df g
def Vi(W:PT)(Q:QP)(e:PE)(t:T)(df:List Xo)(g:G):Prop:=match e with|.ex .norm=>W t df g|e=>Q e t df g
def kBP(id:Nat)(Q:QP)(e:PE)(t:T)(df:List Xo)(g:G):Prop:=match e with|.ex (.exit j)=>ax (Nat.beq j id) (Q (.ex .norm) t df g) (Q (.ex (.exit j)) t df g)|e=>Q e t df g
def kLP(Inv:Nat->PT)(k:Nat)(Q:QP)(e:PE)(t:T)(df:List Xo)(g:G):Prop:=match e with|.ex .norm=>∃k',k'<k/\Inv k' t df g|e=>Q e t df g
def Rq(W:QP->PT)(Q:QP)(t:T)(df:List Xo)(g:G):Prop :=∃Inv:Nat->PT,(∃k,Inv k t df g)/\∀k t df g,Inv k t df g->W (kLP Inv k Q) t df g
def VX(C:Xg)(d:Nat):SC->QP->T->List Xo->G->Prop
 |.ops l,Q,t,df,g=>Nu C d l Q t df g
 |.seq a b,Q,t,df,g=>VX C d a (Vi (VX C d b Q) Q) t df g
 |.cond c a b,Q,t,df,g=>wpC (c.get t) (VX C d a Q) (VX C d b Q) t df g
 |.blk id b,Q,t,df,g=>VX C d b (kBP id Q) t df g
 |.loop b,Q,t,df,g=>Rq (VX C d b) Q t df g
 |.raw _ _,_,_,_,_=>False
 |c,Q,t,df,g=>wp C d none c (λe t df g=>Q (.ex e) t df g) t df g
section
variable {C:Xg}{d:Nat}
def V6.now{e:PE}{Q:QP}(h:Q e t df g):V6 (λ_=>.ok e t df g) Q:=⟨0,e,t,df,g,λ_ _=>rfl,h⟩
def V6.congr{F F':Nat->PR}{Q:QP}(h:V6 F Q)(e:∀m,F' m=F m):V6 F' Q:=by have:F'=F:=funext e;rw[this];exact h
def VL{out:T->AV->T}(ho:∀t v,out t v=vo dst t v){next:Nat->T->List Xo->G->PR}{Q:QP}(hn:∀t df g,W t df g->V6 (λm=>next m t df g) Q)
     {r:OR} (h:r.sat (kO W dst t df) g (kD W dst t df g)):V6 (λm=>rk out (next m) t df g r) Q:=by
 cases r with
 |fail=>exact h.elim
 |val v=>exact hn _ _ _ (by rw[ho];exact h)
 |upd v g'=>exact hn _ _ _ (by rw[ho];exact h)
 |Xi a=>exact hn _ _ _ (by rw[ho];exact h)
theorem V6.call{out:T->AV->T}{dst:Option Nat}(ho:∀t v,out t v=vo dst t v){next:Nat->T->List Xo->G->PR}{W:PT}{Q:QP}(hn:∀t df g,W t df g->V6 (λm=>next m t df g) Q)
  {t:T} {df:List Xo} {g:G} {f:Nat} {xs:List AV} (h:We C d f xs g (λv g'=>W (vo dst t v) df g') λv g'=>Q (.WH v) t df g') :
  V6 (λm=>EH out (next m) t df ((fL C m).call d f xs g)) Q:=by
 obtain⟨m,⟨v,g',h1,h2⟩|⟨v,g',h1,h2⟩⟩:=h
 ·obtain⟨k,e,a,df2,g2,h3,h4⟩:=hn _ _ _ (by rw[<-ho]at h2;exact h2);refine⟨max m k,e,a,df2,g2,λm' hm=>?_,h4⟩;dsimp only;rw[h1 m' (by omega)];exact h3 m' (by omega)
 ·exact⟨m,.WH v,t,df,g',λm' hm=>by dsimp only;rw[h1 m' hm];rfl,h2⟩
def Kr(hp:uf op=true){out:T->AV->T}{next:T->List Xo->G->PR}{ih:IH}{ph:PH} :
  (xQ C op out).run next ih ph d t df g=rk out next t df g ((cI C op).run ih d none t g):=by
 unfold xQ
 split
 ·cases hp
 ·cases hp
 ·cases hp
 ·rfl
def F0(hp:uf op=true):(∀f xs,NL C op≠.call f xs)/\(∀f xs,NL C op≠.dyn f xs)/\∀o,NL C op=.raw o->o=op:=by
 have hs:(∀f xs,G5 C op≠.call f xs)/\(∀f xs,G5 C op≠.dyn f xs)/\∀o,G5 C op=.raw o->o=op:=by unfold G5;refine⟨λf xs=>?_,λf xs=>?_,λo=>?_⟩<;>(repeat' split)<;>intro h<;>first| (cases h;done)| (cases h;rfl)| (rw[aa]at h;split at h<;>first| (cases h;done)| (cases h;rfl))
 unfold NL
 split
 ·cases hp
 ·cases hp
 ·refine⟨λf xs=>?_,λf xs=>?_,λo=>?_⟩<;>(repeat' split)<;>intro h<;>first| (cases h;done)| (cases h;rfl)| (rw[aa]at h;split at h<;>first| (cases h;done)| (cases h;rfl))
 ·exact hs
theorem KM(hp:uf op=true){gd:Option (Nat×Bool)}{Q:QP}(h:td C d ⟨dst,gd,NL C op⟩ W Q t df g):vq C d none ⟨dst,gd,NL C op⟩ W t df g:=by
 obtain⟨h1,h2,h3⟩:=F0 (C:=C) hp;unfold td at h
 split at h
 ·rename_i e;exact absurd e (h1 _ _)
 ·rename_i e;exact absurd e (h2 _ _)
 ·rename_i x e;have:=h3 _ e;subst this;cases hp
 ·rename_i o _ e;have:=h3 _ e;subst this;rw[XO hp]at h;exact h
 ·exact h
def Ma{out:T->AV->T}{gd:Option (Nat×Bool)}(ho:∀t v,out t v=vo dst t v){next:Nat->T->List Xo->G->PR}{Q:QP}(hn:∀t df g,W t df g->V6 (λm=>next m t df g) Q)
     (h:td C d ⟨dst,gd,NL C op⟩ W Q t df g):V6 (λm=>(xQ C op out).run (next m) (I C) (fL C m) d t df g) Q:=by
 by_cases hp:uf op=true
 ·have h:=KM hp h;refine V6.congr ?_ λm=>Kr hp;refine VL ho hn ?_;rw[<-A7];exact h
 ·cases op with
  | panic x =>
   have e:NL C (.panic x)=.raw (.panic x):=rfl;rw[e]at h;unfold td at h;dsimp only at h
   split at h
   ·rename_i o hx;let⟨s,hs,he⟩:=bG hx
    split at h
    ·rename_i ty v hv;refine V6.congr (V6.now h) λm=>?_;simp only[xQ,hs,he,hv]
    ·exact h.elim
   ·exact h.elim
  | typeAssert x a b c =>have e:NL C (.typeAssert x a b c)=.raw (.typeAssert x a b c):=rfl;rw[e]at h;unfold td at h;dsimp only at h;rw[XS hp]at h;exact h.elim
  | call c =>
   let⟨callee,args,ats⟩:=c;cases callee with
   | value fo =>
    have key:∀{fv:AV} {vs:List AV} {f:Nat} {first cap:List AV},fv=.W_ f first cap->(if wX C f=true then ((NL C (.call ⟨.value fo,args,ats⟩)).run C d none t g).sat (kO W dst t df) g (kD W dst t df g) else We C d f (first++(vs++cap)) g (λv g'=>W (vo dst t v) df g') λv g'=>Q (.WH v) t df g') ->
      V6 (λm=>match rG C (fL C m) d fv vs g with
       |some r=>EH out (next m) t df r
       |none=>rk out (next m) t df g ((cI C (.call ⟨.value fo,args,ats⟩)).run (I C) d none t g)) Q:=by
     intro fv vs f first cap i h
     subst i
     by_cases hs:wX C f=true
     ·rw[XO hs]at h;refine V6.congr (VL ho hn (by rw[A7]at h;exact h)) λm=>?_;have:rG C (fL C m) d (.W_ f first cap) vs g=none:=by show ax (wX C f) none _=none;rw[aa,XO hs]
      rw[this]
     ·rw[XS hs]at h;refine V6.congr (V6.call ho hn h) λm=>?_;have:rG C (fL C m) d (.W_ f first cap) vs g=some ((fL C m).call d f (first++(vs++cap)) g):=by show ax (wX C f) none _=_;rw[aa,XS hs]
      rw[this]
    have dynCase:(∀f,fo≠.func f)->td C d ⟨dst,gd,NL C (.call ⟨.value fo,args,ats⟩)⟩ W Q t df g->V6 (λm=>(xQ C (.call ⟨.value fo,args,ats⟩) out).run (next m) (I C) (fL C m) d t df g) Q:=by
     intro j h;have e:NL C (.call ⟨.value fo,args,ats⟩)=match tM C fo,mD C args.toList with
      |some f,some vs=>.dyn f vs
      |_,_=>.raw (.call ⟨.value fo,args,ats⟩):=by
      cases fo<;>first|rfl|exact absurd rfl (j _)
     cases hfo:tM C fo with
     | none =>rw[hfo]at e;rw[e]at h;unfold td at h;dsimp only at h;rw[XS hp]at h;exact h.elim
     | some fo2 =>
      cases hv:mD C args.toList with
      | none =>rw[hfo,hv]at e;rw[e]at h;unfold td at h;dsimp only at h;rw[XS hp]at h;exact h.elim
      | some vs =>
       rw[hfo,hv]at e;let⟨s,hs,he⟩:=cS hv;let⟨n,l,k⟩:=bG hfo;have h':=h;rw[e]at h';unfold td at h';dsimp only at h'
       split at h'
       ·rename_i f first cap hc
        refine V6.congr (key hc ?_) λm=>by simp only[xQ,hs,he,l,k];try rfl
        rw[e];exact h'
       ·exact h'.elim
    cases fo with
    | func f =>
     cases hv:mD C args.toList with
     | some vs =>
      have e:NL C (.call ⟨.value (.func f),args,ats⟩)=.call f vs:=by simp only[NL,hv]
      let⟨s,hs,he⟩:=cS hv;have h':=h;rw[e]at h';unfold td at h';dsimp only at h';have e2:aW C (.func f)=some ⟨λ_=>.W_ f [] []⟩:=rfl;refine V6.congr (key rfl ?_) λm=>by simp only[xQ,e2,hs,he];try rfl
      rw[e];simpa only[X3,X6,vq] using h'
     | none =>
      have e:NL C (.call ⟨.value (.func f),args,ats⟩)=.raw (.call ⟨.value (.func f),args,ats⟩):=by simp only[NL,hv]
      rw[e]at h;unfold td at h;dsimp only at h;rw[XS hp]at h;exact h.elim
    |_=>exact dynCase (λf e=>by cases e) h
   |invoke r m=>exact absurd rfl hp
   |builtin b=>exact absurd rfl hp
  |_=>exact absurd rfl hp
def Mc{all:List Oper}{Q:QP}:∀(l:List Oper) (s:List SI),G4 C nt all l=some s->∀t df g,Nu C d s Q t df g->V6 (λm=>(pp C nt all l).run (I C) (fL C m) d t df g) Q:=by
 intro l
 induction l with
 |nil=>intro s h t df g hq;cases h;exact V6.now hq
 | cons o rest ih =>
  intro s h t df g hq;unfold G4 at h
  split at h
  ·rename_i gd r hd hg hr;cases h;let⟨ot,e1,e2⟩:=Cu hd;have nx:∀t df g,Nu C d r Q t df g->V6 (λm=>(pp C nt all rest).run (I C) (fL C m) d t df g) Q:=ih r hr;cases hgd:o.guard with
   | none =>rw[hgd]at hg;cases hg;refine V6.congr (Ma e2 nx hq) λm=>?_;simp only[pp,e1,hgd]
   | some jw =>
    let⟨j,w⟩:=jw;rw[hgd]at hg;let⟨sl,h1,h2⟩:=xi hg;subst h1;let⟨q,h3,h4,h5⟩:=DC hq;have k:(gp AV.undef sl).run t=Xs t sl:=Wz _ _ _;cases q with
    | true =>refine V6.congr (Ma e2 nx (h4 rfl)) λm=>?_;simp only[pp,e1,hgd,h2,k,h3]
    | false =>refine V6.congr (nx _ _ _ (h5 rfl)) λm=>?_;simp only[pp,e1,hgd,h2,k,h3,e2]
  ·cases h
def xw{c:Code}{Q:QP}(h:wp C d none (cF C nt c) (λe t df g=>Q (.ex e) t df g) t df g):V6 (λ_=>L5 ((aR C nt c).run (I C) d none t df g)) Q:=by
 have h:=Ry c _ _ _ _ h;cases hr:(aR C nt c).run (I C) d none t df g with
 |fail=>rw[hr]at h;exact h.elim
 |ok e t1 df1 g1=>rw[hr]at h;exact V6.now h
def V6.seq{F:Nat->PR}{k:Nat->T->List Xo->G->PR}{Q:QP}(h:V6 F (Vi W Q))(hk:∀t df g,W t df g->V6 (λm=>k m t df g) Q):V6 (λm=>KR (k m) (F m)) Q:=by
 let⟨m,e,t,df,g,h1,h2⟩:=h;cases e with
 |WH v=>exact⟨m,.WH v,t,df,g,λm' hm=>by dsimp only;rw[h1 m' hm];rfl,h2⟩
 | ex e =>
  cases e with
  | norm =>let⟨a,e2,b,df2,g2,h3,h4⟩:=hk _ _ _ h2;refine⟨max m a,e2,b,df2,g2,λm' hm=>?_,h4⟩;dsimp only;rw[h1 m' (by omega)];exact h3 m' (by omega)
  |exit j=>exact⟨m,.ex (.exit j),t,df,g,λm' hm=>by dsimp only;rw[h1 m' hm];rfl,h2⟩
  |ret=>exact⟨m,.ex .ret,t,df,g,λm' hm=>by dsimp only;rw[h1 m' hm];rfl,h2⟩
def V6.blk{F:Nat->PR}{id:Nat}{Q:QP}(h:V6 F (kBP id Q)):V6 (λm=>tz id (F m)) Q:=by
 let⟨m,e,t,df,g,h1,h2⟩:=h;cases e with
 |WH v=>exact⟨m,.WH v,t,df,g,λm' hm=>by dsimp only;rw[h1 m' hm];rfl,h2⟩
 | ex e =>
  cases e with
  |norm=>exact⟨m,.ex .norm,t,df,g,λm' hm=>by dsimp only;rw[h1 m' hm];rfl,h2⟩
  |ret=>exact⟨m,.ex .ret,t,df,g,λm' hm=>by dsimp only;rw[h1 m' hm];rfl,h2⟩
  | exit j =>
   have h2:ax (Nat.beq j id) (Q (.ex .norm) t df g) (Q (.ex (.exit j)) t df g):=h2;cases hb:Nat.beq j id with
   |true=>rw[hb]at h2;exact⟨m,.ex .norm,t,df,g,λm' hm=>by dsimp only;rw[h1 m' hm];show ax (Nat.beq j id) _ _=_;rw[hb],h2⟩
   |false=>rw[hb]at h2;exact⟨m,.ex (.exit j),t,df,g,λm' hm=>by dsimp only;rw[h1 m' hm];show ax (Nat.beq j id) _ _=_;rw[hb],h2⟩
def Rv:∀(c:Code) (Q:QP) (t:T) (df:List Xo) (g:G),VX C d (cF C nt c) Q t df g->V6 (λm=>(cj C nt c).run (I C) (fL C m) d t df g) Q:=by
 intro c
 induction c with
 | region p ops draw =>
  intro Q t df g h;unfold cF at h;cases draw with
  | false =>
   split at h
   ·rename_i l hl;exact Mc _ _ hl _ _ _ h
   ·exact h.elim
  | true =>
   refine xw ?_;unfold cF
   split at h
   ·rename_i l hl;rw[aa]at h ⊢;rw[XO rfl]at h ⊢;rw[aa]at h ⊢
    split at h
    ·rw[XO (by assumption)];rw[aa]at h ⊢
     split at h
     ·rw[XO (by assumption)];exact h
     ·rw[XS (by assumption)];exact h
    ·exact h.elim
   ·exact h.elim
 | seq a b iha ihb =>intro Q t df g h;exact V6.seq (iha _ _ _ _ h) λt df g h=>ihb _ _ _ _ h
 | cond q a b iha ihb =>
  intro Q t df g h;unfold cF at h
  split at h
  ·rename_i o ho;let⟨s,hs,he⟩:=bG ho;have h:wpC (o.get t) (VX C d (cF C nt a) Q) (VX C d (cF C nt b) Q) t df g:=h;unfold wpC at h;cases hv:Od.get t o with
   | bool v =>
    rw[hv]at h;cases v with
    |true=>exact V6.congr (iha _ _ _ _ (h.1 rfl)) λm=>by simp only[cj,hs,he,hv]
    |false=>exact V6.congr (ihb _ _ _ _ (h.2 rfl)) λm=>by simp only[cj,hs,he,hv]
   |_=>rw[hv]at h;exact h.elim
  ·exact h.elim
 | block id body ih =>intro Q t df g h;exact V6.blk (ih _ _ _ _ h)
 | loop body ih =>
  intro Q t df g h;obtain⟨Inv,⟨k,hk⟩,hs⟩:=h
  induction k using Nat.strongRecOn generalizing t df g with
  | _ k rec =>have h:=ih _ t df g (hs k t df g hk);refine V6.seq (k:=λm t df g=>(fL C m).code nt d (.loop body) t df g) (W:=λt df g=>∃k',k'<k/\Inv k' t df g) h ?_;rintro t df g ⟨k',i,hi⟩;obtain⟨m,e,n,df2,g2,h1,h2⟩:=rec k' i t df g hi;refine⟨m+1,e,n,df2,g2,λm' hm=>?_,h2⟩;obtain⟨j,rfl⟩:∃j,m'=j+1:=⟨m' - 1,by omega⟩;exact h1 j (by omega)
 |scope body ih=>intro Q t df g h;exact ih _ _ _ _ h
 |skip=>intro Q t df g h;exact xw h
 |label l=>intro Q t df g h;exact xw h
 |exit id=>intro Q t df g h;exact xw h
 |ret=>intro Q t df g h;exact xw h
 | rangeFunc f ps a b =>
  intro Q t df g h;refine xw ?_;unfold cF at h ⊢
  split at h
  ·exact h
  ·exact h.elim
 |_=>intro Q t df g h;exact h.elim
def Db{l:List ResultVar}{r:List SR}{rs:Wv (T->G->Option (List AV))}(hr:A8 C l=some r)(hrs:pE C l=some rs){K:AV->G->Prop}(h:mN C d r t df g K):(bV (I C) d rs.run t df g).sat K:=by
 unfold mN at h;unfold bV
 split at h
 ·rename_i g2 k;rw[k];let⟨a,vs,h1,h2,h3⟩:=Hi _ _ _ hr h;rw[hrs]at h1;cases h1;simp only[h2];exact h3
 ·exact h.elim
def xj:∀{l:List ResultVar} {r:List SR},A8 C l=some r->∃s,pE C l=some s
 |[],r,_=>⟨_,rfl⟩
 | x::l,r,h=>by
  cases x with
  | tmp n =>
   unfold A8 at h
   split at h
   ·rename_i k hr;let⟨s,hs⟩:=xj hr;exact⟨_,by simp only[pE,hs];rfl⟩
   ·cases h
  | cell a ty =>
   unfold A8 at h
   split at h
   ·rename_i k ag n hr ha b;let⟨s,hs⟩:=xj hr;exact⟨_,by simp only[pE,hs,cT,aW,ha,b];rfl⟩
   ·cases h
def TY(C:Xg)(d f:Nat)(v:AV)(xs:List AV)(g:G)(K:G->Prop):Prop:=∃m g',(∀m',m<=m'->A_ C (I C) (fL C m') d f v xs g=some g')/\K g'
def SG(C:Xg)(d:Nat)(r:List SR)(v:AV)(t:T)(K KP:AV->G->Prop):List Xo->G->Prop
 |[],g=>KP v g
 |.call (.W_ f [] cap) xs::ds,g=>TY C d f v (xs++cap) g λg'=>mN C d r t ds g' K
 |_::_,_=>False
def fnP(C:Xg)(d:Nat)(r:List SR)(K KP:AV->G->Prop):QP:=λe t df g=>match e with|.ex e=>Sb C d r K e t df g|.WH v=>SG C d r v t K KP df g
def xk{s:SF}(hf:WY C f=some s){K KP:AV->G->Prop}(hl:xs.length<=s.nt)(h:VX C d s.code (fnP C d s.res K KP) (bJ 0 xs .nil) [] g):We C d f xs g K KP:=by
 unfold WY at hf
 split at hf
 ·cases hf
 rename_i fn l
 split at hf
 ·cases hf
 rename_i c hc
 split at hf
 rotate_left
 ·cases hf
 rename_i r hr;rw[aa]at hf
 split at hf
 ·cases hf
 rename_i o;cases hf;let⟨m,e,t,df,g',h1,h2⟩:=Rv c _ _ _ _ h;have h1:∀m',m<=m'->(cj C fn.ntmps c).run (I C) (fL C m') d (bJ 0 xs .nil) [] g=.ok e t df g':=h1;let⟨rs,i⟩:=xj hr;have k:∀m',m<=m'->(fL C (m'+1)).call d f xs g=(match (.ok e t df g':PR) with
    |.ok (.ex (.exit _)) _ _ _=>.fail
    |.ok (.ex _) t df g'=>K1 (bV (I C) d rs.run t df g')
    |.ok (.WH v) t df g'=>lC C (I C) (fL C m') d rs.run v t df g'
    |.fail=>.fail:PF):=λm' hm=>by
  show dJ C (I C) (fL C m') d f xs g=_;unfold dJ;simp only[l,hc,i];rw[aa,XS (by
   have h1:Nat.ble (bD xs) fn.ntmps=true:=by rw[ay,Yt];exact hl
   rw[h1];simpa using o),h1 m' hm]
  try rfl
 have key:mN C d r t df g' K->∃v g2,K1 (bV (I C) d rs.run t df g')=.ok v g2/\K v g2:=λh=>by
  have h:=Db hr i h;cases he:bV (I C) d rs.run t df g' with
  |fail=>rw[he]at h;exact h.elim
  |ok v g2=>rw[he]at h;exact⟨v,g2,rfl,h⟩
 have up:∀{m':Nat},m+1<=m'->∃b,m'=b+1/\m<=b:=λ{m'} hm=>⟨m' - 1,by omega,by omega⟩;cases e with
 | ex e =>
  cases e with
  |exit j=>exact h2.elim
  | norm =>let⟨v,g2,n,k2⟩:=key h2;refine⟨m+1,.inl ⟨v,g2,λm' hm=>?_,k2⟩⟩;obtain⟨b,rfl,a⟩:=up hm;rw[k b a];exact n
  | ret =>let⟨v,g2,n,k2⟩:=key h2;refine⟨m+1,.inl ⟨v,g2,λm' hm=>?_,k2⟩⟩;obtain⟨b,rfl,a⟩:=up hm;rw[k b a];exact n
 | WH v =>
  have h2:SG C d r v t K KP df g':=h2;unfold SG at h2
  split at h2
  ·refine⟨m+1,.inr ⟨v,g',λm' hm=>?_,h2⟩⟩;obtain⟨b,rfl,a⟩:=up hm;rw[k b a];try rfl
  ·rename_i f2 cap ys ds _ _;let⟨p,g3,q,q2⟩:=h2;have h:=Db hr i q2;cases he:bV (I C) d rs.run t ds g3 with
   |fail=>rw[he]at h;exact h.elim
   | ok v2 g2 =>
    rw[he]at h;refine⟨max m p+1,.inl ⟨v2,g2,λm' hm=>?_,h⟩⟩;obtain⟨b,rfl,a⟩:=up (m':=m') (by omega);rw[k b a];show lC C (I C) (fL C b) d rs.run v t (.call (.W_ f2 [] cap) ys::ds) g'=_;have e3:lC C (I C) (fL C b) d rs.run v t (.call (.W_ f2 [] cap) ys::ds) g'=match A_ C (I C) (fL C b) d f2 v (ys++cap) g' with
     |some g'=>K1 (bV (I C) d rs.run t ds g')
     |none=>.fail:=rfl
    rw[e3,q b (by omega)];dsimp only;rw[he];try rfl
  ·exact h2.elim
def wpR(C:Xg)(d:Nat)(v:AV):SC->QP->T->G->Prop
 |.ops (i::l),Q,t,g=>i.gd=none/\(match i.op with|.raw (.call { callee:=.builtin .recover,.. })=>True|_=>False)/\Nu C d l Q (vo i.dst t v) [] g
 |.seq a b,Q,t,g=>wpR C d v a (Vi (VX C d b Q) Q) t g
 |.blk id a,Q,t,g=>wpR C d v a (kBP id Q) t g
 |_,_,_,_=>False
def IR(h:match NL C op with|.raw (.call { callee:=.builtin .recover,.. })=>True|_=>False):∃args ats,op=.call ⟨.builtin .recover,args,ats⟩:=by
 by_cases hp:uf op=true
 ·split at h
  ·rename_i args ats e;have:=(F0 hp).2.2 _ e;exact⟨_,_,this.symm⟩
  ·exact h.elim
 ·cases op with
  | call c =>
   let⟨callee,args,ats⟩:=c;cases callee with
   | value fo =>
    exfalso;cases fo with
    | func f =>
     cases hv:mD C args.toList with
     |some vs=>simp only[NL,hv]at h
     |none=>simp only[NL,hv]at h
    | _ =>
     simp only[NL]at h
     split at h
     ·rename_i e
      split at e<;>cases e
     ·exact h
   |invoke r m=>exact absurd rfl hp
   |builtin b=>exact absurd rfl hp
  |panic x=>exact h.elim
  |typeAssert a b c e=>exact h.elim
  |_=>exact absurd rfl hp
def US:∀(c:Code) (Q:QP) (t:T) (g:G),wpR C d v (cF C nt c) Q t g->V6 (λm=>(nF C nt c).run (I C) (fL C m) d v t g) Q:=by
 intro c
 induction c with
 | region p ops draw =>
  intro Q t g h;unfold cF at h;cases draw with
  | false =>
   split at h
   ·rename_i l hl;have h:wpR C d v (.ops l) Q t g:=h;cases l with
    |nil=>exact h.elim
    | cons i l =>
     let⟨a1,a2,n⟩:=h;cases hops:ops.toList with
     |nil=>rw[hops]at hl;cases hl
     | cons o rest =>
      rw[hops]at hl;unfold G4 at hl
      split at hl
      ·rename_i gd r hd hg hr;injection hl with hl;injection hl with e1 e2;subst e1;subst e2;obtain⟨args,ats,e⟩:=IR a2;have k:o.guard=none:=by
        cases hgo:o.guard with
        |none=>rfl
        | some jw =>obtain⟨j,w⟩:=jw;rw[hgo]at hg;obtain⟨sl,h1,-⟩:=xi hg;rw[h1]at a1;cases a1
       obtain⟨ot,f1,f2⟩:=Cu hd;refine V6.congr (Mc (nt:=nt) (all:=o::rest) rest r hr _ _ _ n) λm=>?_;simp only[nF,hops,e,k,f1,f2]
      ·cases hl
   ·exact h.elim
  | true =>
   exfalso
   split at h
   ·rw[aa,XO rfl,aa]at h
    split at h
    ·rw[aa]at h
     split at h<;>exact h
    ·exact h
   ·exact h
 | seq a b iha ihb =>intro Q t g h;exact V6.seq (iha _ _ _ h) λt df g h=>Rv b _ _ _ _ h
 | block id body ih =>intro Q t g h;exact V6.blk (ih _ _ _ h)
 |scope body ih=>intro Q t g h;exact ih _ _ _ h
 | cond q a b iha ihb =>
  intro Q t g h;unfold cF at h
  split at h<;>exact h.elim
 | rangeFunc f ps a b =>
  intro Q t g h;unfold cF at h
  split at h<;>exact h.elim
 |_=>intro Q t g h;exact h.elim
def VH(r:List SR)(K:G->Prop):QP:=λe t df g=>match e with|.ex (.exit _)=>False|.ex _=>df=[]/\vp r t g λ_=>K g|.WH _=>False
def SU{s:SF}(hf:WY C f=some s){K:G->Prop}(hl:xs.length<=s.nt)(h:wpR C d v s.code (VH s.res K) (bJ 0 xs .nil) g):TY C d f v xs g K:=by
 unfold WY at hf
 split at hf
 ·cases hf
 rename_i fn l
 split at hf
 ·cases hf
 rename_i c hc
 split at hf
 rotate_left
 ·cases hf
 rename_i r hr;rw[aa]at hf
 split at hf
 ·cases hf
 rename_i n;cases hf;let⟨m,e,t,df,g',h1,h2⟩:=US c _ _ _ h;have h1:∀m',m<=m'->(nF C fn.ntmps c).run (I C) (fL C m') d v (bJ 0 xs .nil) g=.ok e t df g':=h1;let⟨rs,b⟩:=xj hr;have k:∀m',m<=m'->A_ C (I C) (fL C m') d f v xs g=(match (.ok e t df g':PR) with
    |.ok (.ex (.exit _)) _ _ _=>none
    |.ok (.ex _) t [] g'=>(match rs.run t g' with|some _=>some g'|none=>none)
    |_=>none:Option G):=λm' hm=>by
  unfold A_;simp only[l,hc,b];rw[aa,XS (by
   have h1:Nat.ble (bD xs) fn.ntmps=true:=by rw[ay,Yt];exact hl
   rw[h1];simpa using n),h1 m' hm]
  try rfl
 have key:(df=[]/\vp r t g' λ_=>K g')->e≠.ex .ret\/True->(∃vs,rs.run t g'=some vs)/\df=[]/\K g':=λ⟨e1,e2⟩ _=>by let⟨o,vs,a,k2,i⟩:=Hi _ _ _ hr e2;rw[b]at a;cases a;exact⟨⟨vs,k2⟩,e1,i⟩
 cases e with
 |WH v=>exact h2.elim
 | ex e =>
  cases e with
  |exit j=>exact h2.elim
  | norm =>let⟨⟨vs,a⟩,k2,i⟩:=key h2 (.inr trivial);subst k2;exact⟨m,g',λm' hm=>by rw[k m' hm];simp only[a],i⟩
  | ret =>let⟨⟨vs,a⟩,k2,i⟩:=key h2 (.inr trivial);subst k2;exact⟨m,g',λm' hm=>by rw[k m' hm];simp only[a],i⟩
def NA{s:SF}{args:List AV}(hf:WY C f=some s)(hs:aD (Xm g.h d aF) args=some xs)(hl:xs.length<=s.nt){R:VS}{j:Nat}(hR:Q6 R j)(hj:j<=4){k':Nat}(hk:k'<d)
  (h:VX C (d+1) s.code (fnP C (d+1) s.res (λv g'=>∃P,R P k' g'.h v) λ_ _=>False) (bJ 0 xs .nil) [] G.empty):∃r,Bv C f d args g=.val r/\R Xt k' .nil r:=by
 obtain⟨m,⟨v,g',h1,P,h2⟩|⟨v,g',h1,h2⟩⟩:=xk hf hl h
 ·have hc:=Se (h1 m (XH m));unfold Bv aj;rw[hs];dsimp only;rw[show (Nx C).call (Nat.succ d) f xs G.empty=.ok v g' from hc];obtain⟨r,e,hr⟩:=hR.Xm (n:=aF) 0 h2 (by show _<=24;omega);rw[aa8 (Yi k')]at hr;obtain⟨m,em,lm⟩:=hR.tag (n:=aF) hr (by show _<=24;omega);refine⟨r,?_,hr⟩;simp only[e,em,aa,YM];rw[dk]
 ·exact h2.elim
def z9(C:Xg)(i:SI):Bool :=
 match i.op with
 |.call f _=>wX C f
 |.dyn _ _=>false
 |.raw op=>uf op
 |_=>true
def yT(C:Xg):List SI->Bool
 |[]=>true
 |i::r=>z9 C i&&yT C r
def CA{i:SI}(h:z9 C i=true){Q:QP}(hr:vq C d none i W t df g):td C d i W Q t df g:=by
 unfold z9 at h;unfold td
 split
 ·rename_i e;rw[e]at h;rw[XO h];exact hr
 ·rename_i e;rw[e]at h;cases h
 ·rename_i e;rw[e]at h;cases h
 ·rename_i e;rw[e]at h;rw[XO h];exact hr
 ·exact hr
def jJ{i:SI}{W':PT}(hw:∀t df g,W t df g->W' t df g){rd:Option Nat}(h:vq C d rd i W t df g):vq C d rd i W' t df g:=by
 unfold vq at h ⊢;cases hr:i.op.run C d rd t g with
 |fail=>rw[hr]at h;exact h
 |val v=>rw[hr]at h;exact hw _ _ _ h
 |upd v g'=>rw[hr]at h;exact hw _ _ _ h
 |Xi a=>rw[hr]at h;exact hw _ _ _ h
def Dz{w:Bool}{A B A' B':PT}(ha:∀t df g,A t df g->A' t df g)(hb:∀t df g,B t df g->B' t df g)(h:RI v w A B t df g):RI v w A' B' t df g:=by
 unfold RI at h ⊢
 split at h
 ·rename_i q;rw[aa]at h ⊢
  split at h
  ·rename_i hw;rw[XO hw];exact⟨λe=>ha _ _ _ (h.1 e),λe=>hb _ _ _ (h.2 e)⟩
  ·rename_i hw;rw[XS hw];exact⟨λe=>hb _ _ _ (h.1 e),λe=>ha _ _ _ (h.2 e)⟩
 ·exact hb _ _ _ h
 ·exact h
theorem Bk{Q:QP}:∀{l:List SI},yT C l=true->∀{t:T} {df:List Xo} {g:G},Qz C d none l (Q (.ex .norm)) t df g->Nu C d l Q t df g:=by
 intro l
 induction l with
 |nil=>intro _ t df g h;exact h
 | cons i r ih =>
  intro hp t df g h;have hp:(z9 C i&&yT C r)=true:=hp;rw[XM]at hp;have ih:=λt df g h=>ih hp.2 (t:=t) (df:=df) (g:=g) h;unfold Qz at h;unfold Nu;cases hg:i.gd with
  | none =>rw[hg]at h;exact CA hp.1 (jJ ih h)
  | some sw =>rw[hg]at h;exact Dz (λt df g h=>CA hp.1 (jJ ih h)) (λt df g h=>ih _ _ _ h) h
def bg{l:List SI}{Q:QP}(hp:yT C l=true)(h:Qz C d none l (VX C d b Q) t df g):VX C d (.seq (.ops l) b) Q t df g:=by show Nu C d l _ t df g;exact Bk hp h
def HB{l:List SI}{Q:QP}(hp:yT C l=true)(h:Qz C d none l (Q (.ex .norm)) t df g):VX C d (.ops l) Q t df g:=Bk hp h
end
section
variable {C:Xg}{d:Nat}
def We.mono{K K' KP KP':AV->G->Prop}(h:We C d f xs g K KP)(hk:∀v g,K v g->K' v g)(hp:∀v g,KP v g->KP' v g):We C d f xs g K' KP':=by
 obtain⟨m,⟨v,g',h1,h2⟩|⟨v,g',h1,h2⟩⟩:=h
 ·exact⟨m,.inl ⟨v,g',h1,hk _ _ h2⟩⟩
 ·exact⟨m,.inr ⟨v,g',h1,hp _ _ h2⟩⟩
def Gf{i:SI}{W':PT}{Q Q':QP}(hw:∀t df g,W t df g->W' t df g)(hq:∀e t df g,Q e t df g->Q' e t df g)(h:td C d i W Q t df g):td C d i W' Q' t df g:=by
 unfold td at h ⊢
 split at h
 ·split at h
  ·rename_i hs;rw[XO hs];exact jJ hw h
  ·rename_i hs;rw[XS hs];exact h.mono (λv g h=>hw _ _ _ h) λv g h=>hq _ _ _ _ h
 ·split at h
  ·split at h
   ·rename_i hs;rw[XO hs];exact jJ hw h
   ·rename_i hs;rw[XS hs];exact h.mono (λv g h=>hw _ _ _ h) λv g h=>hq _ _ _ _ h
  ·exact h
 ·split at h
  ·split at h
   ·exact hq _ _ _ _ h
   ·exact h
  ·exact h
 ·split at h
  ·rename_i hs;rw[XO hs];exact jJ hw h
  ·exact h.elim
 ·exact jJ hw h
def Rx{Q Q':QP}(hq:∀e t df g,Q e t df g->Q' e t df g):∀{l:List SI} {t:T} {df:List Xo} {g:G},Nu C d l Q t df g->Nu C d l Q' t df g:=by
 intro l
 induction l with
 |nil=>intro t df g h;exact hq _ _ _ _ h
 | cons i r ih =>
  intro t df g h;unfold Nu at h ⊢
  split at h
  ·exact Gf (λt df g h=>ih h) hq h
  ·exact Dz (λt df g h=>Gf (λt df g h=>ih h) hq h) (λt df g h=>ih h) h
def JL:∀(s:SC) {Q Q':QP} {t:T} {df:List Xo} {g:G},VX C d s Q t df g->(∀e t df g,Q e t df g->Q' e t df g)->VX C d s Q' t df g:=by
 intro s
 induction s with
 |ops l=>intro Q Q' t df g h hq;exact Rx hq h
 | seq a b iha ihb =>
  intro Q Q' t df g h hq;refine iha h λe t df g h=>?_;cases e with
  |WH v=>exact hq _ _ _ _ h
  | ex e =>
   cases e with
   |norm=>exact ihb h hq
   |exit x=>exact hq _ _ _ _ h
   |ret=>exact hq _ _ _ _ h
 | cond c a b iha ihb =>
  intro Q Q' t df g h hq;have h:wpC (c.get t) (VX C d a Q) (VX C d b Q) t df g:=h;show wpC (c.get t) (VX C d a Q') (VX C d b Q') t df g;unfold wpC at h ⊢
  split at h
  ·exact⟨λq=>iha (h.1 q) hq,λq=>ihb (h.2 q) hq⟩
  ·exact h
 | blk id b ih =>
  intro Q Q' t df g h hq;refine ih h λe t df g h=>?_;cases e with
  |WH v=>exact hq _ _ _ _ h
  | ex e =>
   cases e with
   |norm=>exact hq _ _ _ _ h
   | exit x =>
    have h:ax (Nat.beq x id) (Q (.ex .norm) t df g) (Q (.ex (.exit x)) t df g):=h;show ax (Nat.beq x id) (Q' (.ex .norm) t df g) (Q' (.ex (.exit x)) t df g);rw[aa]at h ⊢
    split at h
    ·rename_i e;rw[XO e];exact hq _ _ _ _ h
    ·rename_i e;rw[XS e];exact hq _ _ _ _ h
   |ret=>exact hq _ _ _ _ h
 | loop b ih =>
  intro Q Q' t df g h hq;let⟨Inv,hk,hs⟩:=h;refine⟨Inv,hk,λk t df g hi=>ih (hs k t df g hi) λe t df g h=>?_⟩;cases e with
  |WH v=>exact hq _ _ _ _ h
  | ex e =>
   cases e with
   |norm=>exact h
   |exit x=>exact hq _ _ _ _ h
   |ret=>exact hq _ _ _ _ h
 |raw nt c=>intro Q Q' t df g h _;exact h
 |_=>intro Q Q' t df g h hq;exact ch _ h λe t df g h=>hq _ _ _ _ h
def rA{a:SC}{Q:QP}:VX C d (.seq a b) Q t df g=VX C d a (Vi (VX C d b Q) Q) t df g:=rfl
def eD{c:Od}{a:SC}{Q:QP}:VX C d (.cond c a b) Q t df g=wpC (c.get t) (VX C d a Q) (VX C d b Q) t df g:=rfl
def ux{id:Nat}{Q:QP}:VX C d (.blk id b) Q t df g=VX C d b (kBP id Q) t df g:=rfl
def xe{Q:QP}:VX C d (.loop b) Q t df g=Rq (VX C d b) Q t df g:=rfl
def mJ{Q:QP}:VX C d .skip Q t df g=Q (.ex .norm) t df g:=rfl
def JK{id:Nat}{Q:QP}:VX C d (.exit id) Q t df g=Q (.ex (.exit id)) t df g:=rfl
def HC{Q:QP}:VX C d .ret Q t df g=Q (.ex .ret) t df g:=rfl
def mB(W:PT)(Q:QP)(t:T)(df:List Xo)(g:G):Vi W Q (.ex .norm) t df g=W t df g:=rfl
def ID(W:PT)(Q:QP)(j:Nat)(t:T)(df:List Xo)(g:G):Vi W Q (.ex (.exit j)) t df g=Q (.ex (.exit j)) t df g:=rfl
def L0(W:PT)(Q:QP)(t:T)(df:List Xo)(g:G):Vi W Q (.ex .ret) t df g=Q (.ex .ret) t df g:=rfl
def pi(id:Nat)(Q:QP)(j:Nat)(t:T)(df:List Xo)(g:G):kBP id Q (.ex (.exit j)) t df g=if j=id then Q (.ex .norm) t df g else Q (.ex (.exit j)) t df g:=by
 show ax (Nat.beq j id) _ _=_;rw[aa]
 by_cases e:j=id
 ·rw[XO e,XO (by rw[e];exact Yl id)]
 ·rw[XS e,XS λh=>e (ba h)]
def IC(Inv:Nat->PT)(k:Nat)(Q:QP)(t:T)(df:List Xo)(g:G):kLP Inv k Q (.ex .norm) t df g=∃k',k'<k/\Inv k' t df g:=rfl
def IB(Inv:Nat->PT)(k:Nat)(Q:QP)(j:Nat)(t:T)(df:List Xo)(g:G):kLP Inv k Q (.ex (.exit j)) t df g=Q (.ex (.exit j)) t df g:=rfl
def kRP(J:PT)(b:Nat)(Q:QP):QP:=λe t df g=>match e with
 |.ex .norm=>J t df g
 |.ex (.exit x)=>if x=b then J t df g else Q (.ex (.exit x)) t df g
 |e=>Q e t df g
def uw{body:SC}{c ti tn k B b:Nat}{Q:QP}(hm:m<2^63)(J:Nat->PT)
  (h0:J 0 t df g) (hi:Xs t ti=.int .i64 0) (hn:Xs t tn=.int .i64 (m:Int)) (hc:c≠ti/\c≠tn/\k≠tn/\ti≠tn/\b≠B)
  (hJ:∀j t df g v s,s=c\/s=ti\/s=k->J j t df g->J j (eT t s v) df g)
  (step:∀j t df g,j<m->J j t df g->Xs t ti=.int .i64 (j:Int)->Xs t tn=.int .i64 (m:Int) ->
   VX C d body (kRP (λt df g=>J (j+1) t df g/\Xs t ti=.int .i64 (j:Int)/\Xs t tn=.int .i64 (m:Int)) b Q) t df g)
  (fin:∀t df g,J m t df g->Q (.ex (.exit B)) t df g) :
  Rq (VX C d (.seq (.ops [o c (.bin .lss (.t ti) (.t tn))]) (.seq (.cond (.t c) .skip (.exit B)) (.seq (.blk b body) (.ops [o k (.bin .add (.t ti) (.k (.int .i64 1))),o ti (.mv (.t k))]))))) Q t df g:=by
 let⟨c1,i,l,p,q⟩:=hc;refine⟨λn t df g=>∃j:Nat,n=m - j/\j<=m/\J j t df g/\Xs t ti=.int .i64 (j:Int)/\Xs t tn=.int .i64 (m:Int),⟨m,0,by omega,by omega,h0,hi,hn⟩,?_⟩;rintro n t df g ⟨j,rfl,r,a,h1,h2⟩;refine bg rfl ?_;simp only[sx,SO.run,↓reduceIte,h1,h2];rw[rA,eD];simp only[sx];refine⟨λhq=>?_,λhq=>?_⟩
 ·have hlt:j<m:=by simpa using hq
  rw[mJ,mB,rA,ux];refine JL _ (step j _ df g hlt (hJ _ _ _ _ _ _ (.inl rfl) a) (by simp only[cw];rw[XS (Y5 c1),h1]) (by simp only[cw];rw[XS (Y5 i),h2])) λe t df g h=>?_;have key:J (j+1) t df g/\Xs t ti=.int .i64 (j:Int)/\Xs t tn=.int .i64 (m:Int)->VX C d (.ops [o k (.bin .add (.t ti) (.k (.int .i64 1))),o ti (.mv (.t k))])
    (kLP (λn t df g=>∃j:Nat,n=m - j/\j<=m/\J j t df g/\Xs t ti=.int .i64 (j:Int)/\Xs t tn=.int .i64 (m:Int)) (m - j) Q) t df g:=by
   rintro⟨a1,a2,f⟩;refine HB rfl ?_;simp only[sx,SO.run,a2,↓reduceIte];rw[IC];refine⟨_,?_,j+1,rfl,by omega,hJ _ _ _ _ _ _ (.inr (.inl rfl)) (hJ _ _ _ _ _ _ (.inr (.inr rfl)) a1),?_,?_⟩
   ·omega
   ·simp only[cw,↓reduceIte];rw[an];rfl
   ·simp only[cw];rw[XS (Y5 p),XS (Y5 l),f]
  cases e with
  |WH v=>exact h
  | ex e =>
   cases e with
   |norm=>exact key h
   |ret=>exact h
   | exit x =>
    have h:if x=b then J (j+1) t df g/\Xs t ti=.int .i64 (j:Int)/\Xs t tn=.int .i64 (m:Int) else Q (.ex (.exit x)) t df g:=h;rw[pi]
    split at h
    ·rename_i e;rw[XO e];exact key h
    ·rename_i e;rw[XS e];exact h
 ·have:j=m:=by simp at hq;omega
  subst this;rw[JK,ID,IB];exact fin _ _ _ (hJ _ _ _ _ _ _ (.inl rfl) a)
theorem uy{Q:QP}{l2:List SI}:∀{l:List SI},yT C l=true->∀{t:T} {df:List Xo} {g:G},Qz C d none l (Nu C d l2 Q) t df g->Nu C d (l++l2) Q t df g:=by
 intro l
 induction l with
 |nil=>intro _ t df g h;exact h
 | cons i r ih =>
  intro hp t df g h;have hp:(z9 C i&&yT C r)=true:=hp;rw[XM]at hp;have ih:=λt df g h=>ih hp.2 (t:=t) (df:=df) (g:=g) h;unfold Qz at h;rw[XY];unfold Nu;cases hg:i.gd with
  | none =>rw[hg]at h;exact CA hp.1 (jJ ih h)
  | some sw =>rw[hg]at h;exact Dz (λt df g h=>CA hp.1 (jJ ih h)) (λt df g h=>ih _ _ _ h) h
def CD{Q:QP}{ty:Nat}(hv:Xs t n=.V9 ty v)(h:Q (.WH (.V9 ty v)) t df g):Nu C d [oz (.raw (.panic (.tmp n)))] Q t df g:=by show (match (Od.t n).get t with|.V9 ty v=>Q (.WH (.V9 ty v)) t df g|_=>False);rw[Io,hv];exact h
def HD{Q:QP}{first cap:List AV}{xs:List Od}{r:List SI}(hv:Xs t n=.W_ f first cap)(hs:wX C f=false)
  (h:We C d f (first++(fe t xs++cap)) g (λv g'=>Nu C d r Q (vo dst t v) df g') λv g'=>Q (.WH v) t df g'):Nu C d (⟨dst,none,.dyn (.t n) xs⟩::r) Q t df g:=by
 show td C d ⟨dst,none,.dyn (.t n) xs⟩ (Nu C d r Q) Q t df g;unfold td;dsimp only;rw[Io,hv];dsimp only;rw[XS (by rw[hs];decide)];exact h
end
section
variable {C:Xg}{d:Nat}
def Pk(r:List SR)(K KP:AV->G->Prop)(e:Ex)(t:T)(df:List Xo)(g:G):fnP C d r K KP (.ex e) t df g=Sb C d r K e t df g:=rfl
def JJ{body:SC}{c ti k B b:Nat}{Q:QP}(hm:m<2^63)(J:Nat->PT)
  (h0:J 0 t df g) (hi:Xs t ti=.int .i64 0) (hc:c≠ti/\b≠B)
  (hJ:∀j t df g v s,s=c\/s=ti\/s=k->J j t df g->J j (eT t s v) df g)
  (step:∀j t df g,j<m->J j t df g->Xs t ti=.int .i64 (j:Int) ->
   VX C d body (kRP (λt df g=>J (j+1) t df g/\Xs t ti=.int .i64 (j:Int)) b Q) t df g)
  (fin:∀t df g,J m t df g->Q (.ex (.exit B)) t df g) :
  Rq (VX C d (.seq (.ops [o c (.bin .lss (.t ti) (.k (.int .i64 (m:Int))))]) (.seq (.cond (.t c) .skip (.exit B)) (.seq (.blk b body) (.ops [o k (.bin .add (.t ti) (.k (.int .i64 1))),o ti (.mv (.t k))]))))) Q t df g:=by
 let⟨c1,f⟩:=hc;refine⟨λn t df g=>∃j:Nat,n=m - j/\j<=m/\J j t df g/\Xs t ti=.int .i64 (j:Int),⟨m,0,by omega,by omega,h0,hi⟩,?_⟩;rintro n t df g ⟨j,rfl,i,a,h1⟩;refine bg rfl ?_;simp only[sx,SO.run,↓reduceIte,h1];rw[rA,eD];simp only[sx];refine⟨λhq=>?_,λhq=>?_⟩
 ·have hlt:j<m:=by simpa using hq
  rw[mJ,mB,rA,ux];refine JL _ (step j _ df g hlt (hJ _ _ _ _ _ _ (.inl rfl) a) (by simp only[cw];rw[XS (Y5 c1),h1])) λe t df g h=>?_;have key:J (j+1) t df g/\Xs t ti=.int .i64 (j:Int)->VX C d (.ops [o k (.bin .add (.t ti) (.k (.int .i64 1))),o ti (.mv (.t k))])
    (kLP (λn t df g=>∃j:Nat,n=m - j/\j<=m/\J j t df g/\Xs t ti=.int .i64 (j:Int)) (m - j) Q) t df g:=by
   rintro⟨a1,a2⟩;refine HB rfl ?_;simp only[sx,SO.run,a2,↓reduceIte];rw[IC];refine⟨_,?_,j+1,rfl,by omega,hJ _ _ _ _ _ _ (.inr (.inl rfl)) (hJ _ _ _ _ _ _ (.inr (.inr rfl)) a1),?_⟩
   ·omega
   ·simp only[cw,↓reduceIte];rw[an];rfl
  cases e with
  |WH v=>exact h
  | ex e =>
   cases e with
   |norm=>exact key h
   |ret=>exact h
   | exit x =>
    have h:if x=b then J (j+1) t df g/\Xs t ti=.int .i64 (j:Int) else Q (.ex (.exit x)) t df g:=h;rw[pi]
    split at h
    ·rename_i e;rw[XO e];exact key h
    ·rename_i e;rw[XS e];exact h
 ·have:j=m:=by simp at hq;omega
  subst this;rw[JK,ID,IB];exact fin _ _ _ (hJ _ _ _ _ _ _ (.inl rfl) a)
end
@[reducible] def oM (d a:Nat):SI:=o d (.mv (.t a))
@[reducible] def oL (d a:Nat):SI:=o d (.load false 1 (.t a))
@[reducible] def oN (d a:Nat):SI:=o d (.len .slice (.t a))
@[reducible] def oF (d n a:Nat):SI:=o d (.fad n (.t a))
@[reducible] def oX (d a b:Nat):SI:=o d (.NQ 1 (.t a) (.t b))
@[reducible] def qI (z:Int):Od:=.k (.int .i64 z)
@[reducible] def oK (d:Nat) (z:Int):SI:=o d (.mv (qI z))
@[reducible] def oA (d a:Nat):SI:=o d (.bin .add (.t a) (qI 1))
@[reducible] def sQ (l:List SI) (x:SC):SC:=.seq (.ops l) x
theorem sz:type_of% (XG sx <|XG sy <|XG @aac.{0} <|XG @XP.{0} <|XG @decide_true <|XG @decide_false <|XG @abl <|XG @ZK <|
 XG @SO.run.eq_1 <|XG @SO.run.eq_2 <|XG @SO.run.eq_3 <|XG @SO.run.eq_4 <|XG @SO.run.eq_5 <|XG @SO.run.eq_6 <|XG @SO.run.eq_7 <|XG @SO.run.eq_8 <|XG @SO.run.eq_9 <|XG @SO.run.eq_10 <|XG @SO.run.eq_11 <|XG @SO.run.eq_12 <|XG @SO.run.eq_13 <|XG @SO.run.eq_14 <|XG @SO.run.eq_15 <|XG @SO.run.eq_16 <|XG @SO.run.eq_17 <|XG @SO.run.eq_18 <|XG @SO.run.eq_19 <|XG @SO.run.eq_20 <|XG @SO.run.eq_21 <|XG @SO.run.eq_22 <|XG @SO.run.eq_23 <|XG @SO.run.eq_24 <|XG @SO.run.eq_25 <|XG @SO.run.eq_26 <|XG @SO.run.eq_27 <|XG @SO.run.eq_28 <|XG @SO.run.eq_29 <|XG @SO.run.eq_30 <|XG @SO.run.eq_31 <|@SO.run.eq_32) :=
 XG sx <|XG sy <|XG @aac.{0} <|XG @XP.{0} <|XG @decide_true <|XG @decide_false <|XG @abl <|XG @ZK <|
 XG @SO.run.eq_1 <|XG @SO.run.eq_2 <|XG @SO.run.eq_3 <|XG @SO.run.eq_4 <|XG @SO.run.eq_5 <|XG @SO.run.eq_6 <|XG @SO.run.eq_7 <|XG @SO.run.eq_8 <|XG @SO.run.eq_9 <|XG @SO.run.eq_10 <|XG @SO.run.eq_11 <|XG @SO.run.eq_12 <|XG @SO.run.eq_13 <|XG @SO.run.eq_14 <|XG @SO.run.eq_15 <|XG @SO.run.eq_16 <|XG @SO.run.eq_17 <|XG @SO.run.eq_18 <|XG @SO.run.eq_19 <|XG @SO.run.eq_20 <|XG @SO.run.eq_21 <|XG @SO.run.eq_22 <|XG @SO.run.eq_23 <|XG @SO.run.eq_24 <|XG @SO.run.eq_25 <|XG @SO.run.eq_26 <|XG @SO.run.eq_27 <|XG @SO.run.eq_28 <|XG @SO.run.eq_29 <|XG @SO.run.eq_30 <|XG @SO.run.eq_31 <|@SO.run.eq_32
end
end Hx
