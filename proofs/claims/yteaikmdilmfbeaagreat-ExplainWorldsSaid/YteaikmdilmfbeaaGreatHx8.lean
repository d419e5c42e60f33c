/- A part of the proof: an interpreter over abstract values, shown right against the model, and what the functions of the chapter compute on it. -/
import Derived.Recover
import Derived.Test.YteaikmdilmfbeaaGreatHx7
set_option linter.unusedVariables false
set_option linter.unusedSimpArgs false
set_option linter.unnecessarySimpa false
section
namespace Hx
open Go
noncomputable section
inductive PE where
 | ex (e:Ex)
 | pan (v:AV)
inductive PR where
 | fail
 | ok (e:PE) (t:T) (df:List ADf) (g:G)
inductive PF where
 | fail
 | ok (v:AV) (g:G)
 | pan (v:AV) (g:G)
structure PH where
 code:Nat->Nat->Code->T->List ADf->G->PR
 call:Nat->Nat->List AV->G->PF
def Js:CR->PR
 | .ok e t df g=>.ok (.ex e) t df g
 | .fail=>.fail
abbrev PFn:=IH->PH->Nat->T->List ADf->G->PR
def NO (out:T->AV->T)(next:T->List ADf->G->PR)(t:T)(df:List ADf):PF->PR
 | .ok v g=>next (out t v) df g
 | .pan v g=>.ok (.pan v) t df g
 | .fail=>.fail
def zt (out:T->AV->T)(next:T->List ADf->G->PR)(t:T)(df:List ADf)(g:G):OR->PR
 | .fail=>.fail
 | .val v=>next (out t v) df g
 | .upd v g'=>next (out t v) df g'
 | .dfr a=>next (out t .undef) (a::df) g
def Cw (C:Cfg)(ph:PH)(d:Nat)(fv:AV)(vs:List AV)(g:G):Option PF :=
 match fv with
 | .clo f first cap=>au ((C.ext f).isSome || C.iso f) none (some (ph.call d f (first++(vs++cap)) g))
 | _=>none
def HC (C:Cfg)(op:Op)(out:T->AV->T):Stg ((T->List ADf->G->PR)->PFn) :=
 match op with
 | .panic x=>match aM C x with
  | some s=>⟨λ_ _ _ _ t df g=>match s.run t with
   | .ifc ty v=>.ok (.pan (.ifc ty v)) t df g
   | _=>.fail⟩
  | none=>⟨λ_ _ _ _ _ _ _=>.fail⟩
 | .typeAssert x _ asserted ok=>match aM C x,C.P.underlying asserted with
  | some s,some (.int _)=>⟨λnext _ _ _ t df g=>match s.run t with
   | .ifc ty v=>au (Nat.beq ty asserted) (next (out t (au ok (.tup [v,.bool true]) v)) df g) .fail
   | _=>.fail⟩
  | _,_=>⟨λ_ _ _ _ _ _ _=>.fail⟩
 | .call { callee:=.value fo,args,argTypes }=>match aM C fo,bC C args.toList with
  | some fv,some vs=>⟨λnext ih ph d t df g=>match Cw C ph d (fv.run t) (vs.run t) g with
   | some r=>NO out next t df r
   | none=>zt out next t df g ((cy C (.call { callee:=.value fo,args,argTypes })).run ih d none t g)⟩
  | _,_=>⟨λ_ _ _ _ _ _ _=>.fail⟩
 | op=>⟨λnext ih _ d t df g=>zt out next t df g ((cy C op).run ih d none t g)⟩
def tJ (C:Cfg)(nt:Nat)(all:List Oper):List Oper->Stg PFn
 | []=>⟨λ_ _ _ t df g=>.ok (.ex .norm) t df g⟩
 | o::rest=>match oq nt o.dst with
  | some out=>match o.guard with
   | none=>⟨λih ph d t df g=>(HC C o.op out.run).run (λt df g=>(tJ C nt all rest).run ih ph d t df g) ih ph d t df g⟩
   | some gd=>match gq all (some gd) with
    | some q=>⟨λih ph d t df g=>match q.run t with
     | some true=>(HC C o.op out.run).run (λt df g=>(tJ C nt all rest).run ih ph d t df g) ih ph d t df g
     | some false=>(tJ C nt all rest).run ih ph d (out.run t .undef) df g
     | none=>.fail⟩
    | none=>⟨λ_ _ _ _ _ _=>.fail⟩
  | none=>⟨λ_ _ _ _ _ _=>.fail⟩
def NF (k:T->List ADf->G->PR):PR->PR
 | .ok (.ex .norm) t df g=>k t df g
 | r=>r
def u9 (id:Nat):PR->PR
 | .ok (.ex (.exit j)) t df g=>au (Nat.beq j id) (.ok (.ex .norm) t df g) (.ok (.ex (.exit j)) t df g)
 | r=>r
def bX (C:Cfg)(nt:Nat):Code->Stg PFn
 | .region _ ops false=>tJ C nt ops.toList ops.toList
 | .seq a b=>⟨λih ph d t df g=>NF ((bX C nt b).run ih ph d) ((bX C nt a).run ih ph d t df g)⟩
 | .cond c a b=>match aM C c with
  | some q=>⟨λih ph d t df g=>match q.run t with
   | .bool v=>au v ((bX C nt a).run ih ph d t df g) ((bX C nt b).run ih ph d t df g)
   | _=>.fail⟩
  | none=>⟨λ_ _ _ _ _ _=>.fail⟩
 | .block id body=>⟨λih ph d t df g=>u9 id ((bX C nt body).run ih ph d t df g)⟩
 | .loop body=>⟨λih ph d t df g=>NF (λt df g=>ph.code nt d (.loop body) t df g) ((bX C nt body).run ih ph d t df g)⟩
 | .scope body=>bX C nt body
 | c=>⟨λih _ d t df g=>Js ((aJ C nt c).run ih d none t df g)⟩
abbrev Ox:=IH->PH->Nat->AV->T->G->PR
def pZ (C:Cfg)(nt:Nat):Code->Stg Ox
 | .region _ ops false=>match ops.toList with
  | o::rest=>match o.op,o.guard with
   | .call { callee:=.builtin .recover,.. },none=>match oq nt o.dst with
    | some out=>⟨λih ph d v t g=>(tJ C nt ops.toList rest).run ih ph d (out.run t v) [] g⟩
    | none=>⟨λ_ _ _ _ _ _=>.fail⟩
   | _,_=>⟨λ_ _ _ _ _ _=>.fail⟩
  | []=>⟨λ_ _ _ _ _ _=>.fail⟩
 | .seq a b=>⟨λih ph d v t g=>NF ((bX C nt b).run ih ph d) ((pZ C nt a).run ih ph d v t g)⟩
 | .block id a=>⟨λih ph d v t g=>u9 id ((pZ C nt a).run ih ph d v t g)⟩
 | .scope a=>pZ C nt a
 | _=>⟨λ_ _ _ _ _ _=>.fail⟩
def J0 (C:Cfg)(ih:IH)(ph:PH)(d f:Nat)(v:AV)(args:List AV)(g:G):Option G :=
 match C.P.funcs[f]? with
 | none=>none
 | some fn=>match fn.body,pP C fn.results.toList with
  | some c, some r => au ((fn.name == "runtime.NumGoroutine") || !Nat.ble (aY args) fn.ntmps) none
   (match (pZ C fn.ntmps c).run ih ph d v (bK 0 args .nil) g with
    | .ok (.ex (.exit _)) _ _ _=>none
    | .ok (.ex _) t [] g'=>(match r.run t g' with | some _=>some g' | none=>none)
    | _=>none)
  | _,_=>none
def Mm:FR->PF
 | .ok v g=>.ok v g
 | .fail=>.fail
def tc (C:Cfg)(ih:IH)(ph:PH)(d:Nat)(res:T->G->Option (List AV))(v:AV)(t:T):List ADf->G->PF
 | [],g=>.pan v g
 | .call (.clo f [] cap) args::ds,g=>match J0 C ih ph d f v (args++cap) g with
  | some g'=>Mm (cD ih d res t ds g')
  | none=>.fail
 | _::_,_=>.fail
def im (C:Cfg)(ih:IH)(ph:PH)(d f:Nat)(args:List AV)(g:G):PF :=
 match C.P.funcs[f]? with
 | none=>.fail
 | some fn=>match fn.body,pP C fn.results.toList with
  | some c, some r => au ((fn.name == "runtime.NumGoroutine") || !Nat.ble (aY args) fn.ntmps) .fail
   (match (bX C fn.ntmps c).run ih ph d (bK 0 args .nil) [] g with
    | .ok (.ex (.exit _)) _ _ _=>.fail
    | .ok (.ex _) t df g'=>Mm (cD ih d r.run t df g')
    | .ok (.pan v) t df g'=>tc C ih ph d r.run v t df g'
    | .fail=>.fail)
  | _,_=>.fail
def PH.zero:PH:=⟨λ_ _ _ _ _ _=>.fail,λ_ _ _ _=>.fail⟩
def NL (C:Cfg)(ih:IH)(ph:PH):PH:=⟨λnt d c t df g=>(bX C nt c).run ih ph d t df g,im C ih ph⟩
def NE (C:Cfg)(n:Nat)(m:Nat):PH:=@Nat.rec (λ_=>PH) PH.zero (λ_ ph=>NL C (sem C n) ph) m
section
variable {C:Cfg}{ih:IH}{ph:PH}
structure PHMon (ph:PH):Prop where
 code:∀nt d c t df g e t' df' g',ph.code nt d c t df g=.ok e t' df' g'->WF g->Mon g g'
 call:∀d f as g v g',(ph.call d f as g=.ok v g'\/ph.call d f as g=.pan v g')->WF g->Mon g g'
theorem Fh {out:T->AV->T}{next:T->List ADf->G->PR}{t:T}{df:List ADf}{g:G}{r:OR}{e:PE}{t':T}{df':List ADf}{g':G}
  (h:zt out next t df g r=.ok e t' df' g') (hwf:WF g) (hr:Mon g (gOf g r)) (hn:∀t df g1,next t df g1=.ok e t' df' g'->WF g1->Mon g1 g'):Mon g g':=by
 cases r with
 | fail=>cases h
 | val v=>exact hn _ _ _ h hwf
 | upd v g1=>exact hr.trans (hn _ _ _ h (hr.wf hwf))
 | dfr a=>exact hn _ _ _ h hwf
theorem vd (hp:PHMon ph){d:Nat}{fv:AV}{vs:List AV}{g:G}{r:PF}(h:Cw C ph d fv vs g=some r){v:AV}{g':G}(hr:r=.ok v g'\/r=.pan v g')(hwf:WF g):Mon g g':=by
 unfold Cw at h
 split at h
 ·rw[aa] at h
  split at h
  ·cases h
  ·injection h with h;subst h;exact hp.call _ _ _ _ _ _ hr hwf
 ·cases h
theorem Dl (he:dx C)(hi:IHMon ih)(hp:PHMon ph){op:Op}{out:T->AV->T}{next:T->List ADf->G->PR}{d:Nat}{t:T}{df:List ADf}{g:G}{e:PE}{t':T}{df':List ADf}{g':G}
  (h:(HC C op out).run next ih ph d t df g=.ok e t' df' g') (hwf:WF g) (hn:∀t df g1,next t df g1=.ok e t' df' g'->WF g1->Mon g1 g'):Mon g g':=by
 have plain:∀{op:Op},zt out next t df g ((cy C op).run ih d none t g)=.ok e t' df' g'->Mon g g':=λh=>Fh h hwf (gt he hi hwf) hn
 unfold HC at h
 split at h
 ·split at h
  ·dsimp only at h
   split at h
   ·injection h with _ _ _ h;subst h;exact Mon.refl _
   ·cases h
  ·cases h
 ·split at h
  ·dsimp only at h
   split at h
   ·rw[aa] at h
    split at h
    ·exact hn _ _ _ h hwf
    ·cases h
   ·cases h
  ·cases h
 ·split at h
  ·dsimp only at h
   split at h
   ·rename_i r hr;cases r with
    | fail=>cases h
    | ok v g1 =>
     have m:=vd hp hr (.inl rfl) hwf;exact m.trans (hn _ _ _ h (m.wf hwf))
    | pan v g1 =>
     have m:=vd hp hr (.inr rfl) hwf;have h:PR.ok (.pan v) t df g1=.ok e t' df' g':=h;injection h with _ _ _ h;subst h;exact m
   ·exact plain h
  ·cases h
 ·exact plain h
theorem ro (he:dx C)(hi:IHMon ih)(hp:PHMon ph){nt:Nat}{all:List Oper}:∀{ops:List Oper} {d:Nat} {t:T} {df:List ADf} {g:G} {e:PE} {t':T} {df':List ADf} {g':G},
  (tJ C nt all ops).run ih ph d t df g=.ok e t' df' g'->WF g->Mon g g':=by
 intro ops
 induction ops with
 | nil=>intro d t df g e t' df' g' h _;simp only[tJ] at h;injection h with _ _ _ h;subst h;exact Mon.refl _
 | cons o rest ihl =>
  intro d t df g e t' df' g' h hwf;simp only[tJ] at h
  split at h
  ·split at h
   ·exact Dl he hi hp h hwf λ_ _ _ h1 h2=>ihl h1 h2
   ·split at h
    ·dsimp only at h
     split at h
     ·exact Dl he hi hp h hwf λ_ _ _ h1 h2=>ihl h1 h2
     ·exact ihl h hwf
     ·cases h
    ·cases h
  ·cases h
theorem C5 (he:dx C)(hi:IHMon ih){nt d:Nat}{c:Code}{t:T}{df:List ADf}{g:G}{e:PE}{t':T}{df':List ADf}{g':G}
  (h:Js ((aJ C nt c).run ih d none t df g)=.ok e t' df' g') (hwf:WF g):Mon g g':=by
 generalize hr:(aJ C nt c).run ih d none t df g=r at h;cases r with
 | fail=>cases h
 | ok e1 t1 df1 g1 =>
  have h:PR.ok (.ex e1) t1 df1 g1=.ok e t' df' g':=h;injection h with _ _ _ h;subst h;exact ij he hi _ hr hwf
theorem cJ (he:dx C)(hi:IHMon ih)(hp:PHMon ph){nt:Nat}:∀(c:Code) {d:Nat} {t:T} {df:List ADf} {g:G} {e:PE} {t':T} {df':List ADf} {g':G},
  (bX C nt c).run ih ph d t df g=.ok e t' df' g'->WF g->Mon g g':=by
 intro c;have now:∀{e e':PE} {t t':T} {df df':List ADf} {g g':G},PR.ok e' t df g=.ok e t' df' g'->Mon g g':=by intro e e' t t' df df' g g' h;injection h with _ _ _ h;subst h;exact Mon.refl _
 induction c with
 | region id ops draw =>
  intro d t df g e t' df' g' h hwf;cases draw with
  | true=>exact C5 (c:=.region id ops true) he hi h hwf
  | false=>exact ro he hi hp h hwf
 | seq a b iha ihb =>
  intro d t df g e t' df' g' h hwf;simp only[bX] at h;generalize hr:(bX C nt a).run ih ph d t df g=r at h;cases r with
  | fail=>cases h
  | ok e1 t1 df1 g1 =>
   have m1:=iha hr hwf;cases e1 with
   | pan v=>exact m1.trans (now h)
   | ex e1 =>
    cases e1 with
    | norm=>exact m1.trans (ihb h (m1.wf hwf))
    | exit j=>exact m1.trans (now h)
    | ret=>exact m1.trans (now h)
 | cond c a b iha ihb =>
  intro d t df g e t' df' g' h hwf;simp only[bX] at h
  split at h
  ·dsimp only at h
   split at h
   ·rw[aa] at h
    split at h
    ·exact iha h hwf
    ·exact ihb h hwf
   ·cases h
  ·cases h
 | block id body ihb =>
  intro d t df g e t' df' g' h hwf;simp only[bX] at h;generalize hr:(bX C nt body).run ih ph d t df g=r at h;cases r with
  | fail=>cases h
  | ok e1 t1 df1 g1 =>
   have m1:=ihb hr hwf;cases e1 with
   | pan v=>exact m1.trans (now h)
   | ex e1 =>
    cases e1 with
    | norm=>exact m1.trans (now h)
    | exit j =>
     simp only[u9,aa] at h
     split at h
     ·exact m1.trans (now h)
     ·exact m1.trans (now h)
    | ret=>exact m1.trans (now h)
 | loop body ihb =>
  intro d t df g e t' df' g' h hwf;simp only[bX] at h;generalize hr:(bX C nt body).run ih ph d t df g=r at h;cases r with
  | fail=>cases h
  | ok e1 t1 df1 g1 =>
   have m1:=ihb hr hwf;cases e1 with
   | pan v=>exact m1.trans (now h)
   | ex e1 =>
    cases e1 with
    | norm=>exact m1.trans (hp.code _ _ _ _ _ _ _ _ _ _ h (m1.wf hwf))
    | exit j=>exact m1.trans (now h)
    | ret=>exact m1.trans (now h)
 | scope body ihb=>intro d t df g e t' df' g' h hwf;exact ihb h hwf
 | _=>intro d t df g e t' df' g' h hwf;simp only[bX] at h;exact C5 he hi h hwf
theorem zc (he:dx C)(hi:IHMon ih)(hp:PHMon ph){nt:Nat}:∀(c:Code) {d:Nat} {v:AV} {t:T} {g:G} {e:PE} {t':T} {df':List ADf} {g':G},
  (pZ C nt c).run ih ph d v t g=.ok e t' df' g'->WF g->Mon g g':=by
 intro c;have now:∀{e e':PE} {t t':T} {df df':List ADf} {g g':G},PR.ok e' t df g=.ok e t' df' g'->Mon g g':=by intro e e' t t' df df' g g' h;injection h with _ _ _ h;subst h;exact Mon.refl _
 induction c with
 | region id ops draw =>
  intro d v t g e t' df' g' h hwf;cases draw with
  | true=>cases h
  | false =>
   simp only[pZ] at h
   split at h
   ·split at h
    ·split at h
     ·exact ro he hi hp h hwf
     ·cases h
    ·cases h
   ·cases h
 | seq a b iha _ =>
  intro d v t g e t' df' g' h hwf;simp only[pZ] at h;generalize hr:(pZ C nt a).run ih ph d v t g=r at h;cases r with
  | fail=>cases h
  | ok e1 t1 df1 g1 =>
   have m1:=iha hr hwf;cases e1 with
   | pan v=>exact m1.trans (now h)
   | ex e1 =>
    cases e1 with
    | norm=>exact m1.trans (cJ he hi hp _ h (m1.wf hwf))
    | exit j=>exact m1.trans (now h)
    | ret=>exact m1.trans (now h)
 | block id body ihb =>
  intro d v t g e t' df' g' h hwf;simp only[pZ] at h;generalize hr:(pZ C nt body).run ih ph d v t g=r at h;cases r with
  | fail=>cases h
  | ok e1 t1 df1 g1 =>
   have m1:=ihb hr hwf;cases e1 with
   | pan v=>exact m1.trans (now h)
   | ex e1 =>
    cases e1 with
    | norm=>exact m1.trans (now h)
    | exit j =>
     simp only[u9,aa] at h
     split at h
     ·exact m1.trans (now h)
     ·exact m1.trans (now h)
    | ret=>exact m1.trans (now h)
 | scope body ihb=>intro d v t g e t' df' g' h hwf;exact ihb h hwf
 | _=>intro d v t g e t' df' g' h hwf;cases h
theorem DF (he:dx C)(hi:IHMon ih)(hp:PHMon ph){d f:Nat}{v:AV}{args:List AV}{g g':G}(h:J0 C ih ph d f v args g=some g')(hwf:WF g):Mon g g':=by
 unfold J0 at h
 split at h
 ·cases h
 split at h
 ·rw[aa] at h
  split at h
  ·cases h
  split at h
  ·cases h
  ·rename_i hc
   split at h
   ·injection h with h;subst h;exact zc he hi hp _ hc hwf
   ·cases h
  ·cases h
 ·cases h
theorem lU (hi:IHMon ih){d:Nat}{res:T->G->Option (List AV)}{t:T}{df:List ADf}{g:G}{v:AV}{g':G}(h:cD ih d res t df g=.ok v g')(hwf:WF g):Mon g g':=by
 unfold cD at h
 split at h
 ·cases h
 ·rename_i g2 h2;have m2:=jY hi h2 hwf
  split at h
  ·injection h with _ h;subst h;exact m2
  ·cases h
theorem xH {r:FR}{v:AV}{g:G}(h:Mm r=.ok v g):r=.ok v g:=by
 cases r with
 | fail=>cases h
 | ok v' g'=>injection h with h1 h2;rw[h1,h2]
theorem uQ {r:FR}{v:AV}{g:G}(h:Mm r=.pan v g):False:=by
 cases r with
 | fail=>cases h
 | ok v' g'=>cases h
theorem td (he:dx C)(hi:IHMon ih)(hp:PHMon ph){d:Nat}{res:T->G->Option (List AV)}{v:AV}{t:T}{df:List ADf}{g:G}{x:AV}{g':G}
  (h:tc C ih ph d res v t df g=.ok x g'\/tc C ih ph d res v t df g=.pan x g') (hwf:WF g):Mon g g':=by
 unfold tc at h
 split at h
 ·rcases h with h | h
  ·cases h
  ·injection h with _ h;subst h;exact Mon.refl _
 ·split at h
  ·rename_i g1 h1;have m1:=DF he hi hp h1 hwf;rcases h with h | h
   ·exact m1.trans (lU hi (xH h) (m1.wf hwf))
   ·exact (uQ h).elim
  ·rcases h with h | h<;>cases h
 ·rcases h with h | h<;>cases h
theorem zA (he:dx C)(hi:IHMon ih)(hp:PHMon ph){d f:Nat}{as:List AV}{g:G}{v:AV}{g':G}
  (h:im C ih ph d f as g=.ok v g'\/im C ih ph d f as g=.pan v g') (hwf:WF g):Mon g g':=by
 unfold im at h
 split at h
 ·rcases h with h | h<;>cases h
 split at h
 ·rw[aa] at h
  split at h
  ·rcases h with h | h<;>cases h
  split at h
  ·rcases h with h | h<;>cases h
  ·rename_i hc;have m1:=cJ he hi hp _ hc hwf;rcases h with h | h
   ·exact m1.trans (lU hi (xH h) (m1.wf hwf))
   ·exact (uQ h).elim
  ·rename_i hc;have m1:=cJ he hi hp _ hc hwf;exact m1.trans (td he hi hp h (m1.wf hwf))
  ·rcases h with h | h<;>cases h
 ·rcases h with h | h<;>cases h
theorem zk (he:dx C)(n:Nat):∀m,PHMon (NE C n m):=by
 intro m
 induction m with
 | zero=>exact ⟨λnt d c t df g e t' df' g' h=>(by cases h),λd f as g v g' h=>(by rcases h with h | h<;>cases h)⟩
 | succ m ihm=>exact ⟨λnt d c t df g e t' df' g' h hwf=>cJ he (xD he n) ihm c h hwf,λd f as g v g' h hwf=>zA he (xD he n) ihm h hwf⟩
end
section
variable {C:Cfg}{ih:IH}{ph:PH}{A:Nat->Nat->Prop}{bd:Nat}{w w':World}{γ γ':Gm}{hg:Nat->AObj}{nx:Nat}{t:T}{g:G}
def ArrP (P:Program)(m:Machine)(b:Frame)(k:List Item)(cs:List Frame)(u:Value):PE->Act->World->Prop
 | .ex e,a,w=>Arr P m b k cs e a w
 | .pan _,a,w=>∃k₁,Steps P m (lone ((b.atR a k₁).raise [{ v:=u,recovered:=false }]) cs w)
def Ow (w:World)(γ:Gm)(A:Nat->Nat->Prop)(bd:Nat):PE->Value->Prop
 | .ex _,_=>True
 | .pan v,u=>RV w γ A bd v u
theorem ArrP.of_steps {P:Program}{m m₁:Machine}{b:Frame}{k:List Item}{cs:List Frame}{u:Value}{e:PE}{a:Act}(h:Steps P m m₁)(h':ArrP P m₁ b k cs u e a w):ArrP P m b k cs u e a w:=by
 cases e with
 | ex e=>exact Arr.of_steps h h'
 | pan v=>obtain ⟨k₁,h2⟩:=h';exact ⟨k₁,Steps.trans h h2⟩
def xL (C:Cfg)(A:Nat->Nat->Prop)(bd nt:Nat)(b:Frame)(k:List Item)(cs:List Frame)(m:Machine)(w:World)(γ:Gm)(hg:Nat->AObj)(nx:Nat)(g:G)(e:PE)(t':T)(df':List ADf)(g':G):Prop :=
 ∃a' w' γ' hg' u,Fin C A bd w γ hg nx g w' γ' hg' g'/\TR w' γ' A bd nt t' a'.tmps/\DR w' γ' A bd df' a'.defers/\Ow w' γ' A bd e u/\ArrP C.P m b k cs u e a' w'
def xK (C:Cfg)(bd nt:Nat)(c:Code)(t:T)(df:List ADf)(g:G)(e:PE)(t':T)(df':List ADf)(g':G):Prop :=
 ∀A w γ hg nx b a k cs,Rel C A bd w γ hg nx->Ext g.h hg->WF g->Free γ g g'->TR w γ A bd nt t a.tmps->DR w γ A bd df a.defers->b.roundOf=none->ni b.kind cs ->
  xL C A bd nt b k cs (lone (b.atR a (.code c::k)) cs w) w γ hg nx g e t' df' g'
def Fs (P:Program)(K:CallKind)(f:FuncId)(vs:Array Value)(cs:List Frame)(w:World)(u:Value)(w':World):Prop :=
 ∃fr,Steps P (lone (Frame.enter P f vs K) cs w) (lone fr cs w')/\fr.leaving P w' (.panicked [{ v:=u,recovered:=false }])
def Fq (C:Cfg)(bd:Nat)(f:FuncId)(as:List AV)(g:G)(v:AV)(g':G):Prop :=
 ∀A w γ hg nx vs,Rel C A bd w γ hg nx->Ext g.h hg->WF g->Free γ g g'->RVs w γ A bd as vs->∀K cs,ni K cs ->
  ∃u w' γ' hg',Fin C A bd w γ hg nx g w' γ' hg' g'/\RV w' γ' A bd v u/\Fs C.P K f vs.toArray cs w u w'
structure PHOk (C:Cfg) (ph:PH):Prop where
 mon:PHMon ph
 code:∀bd nt c t df g e t' df' g',ph.code nt (bd+1) c t df g=.ok e t' df' g'->xK C bd nt c t df g e t' df' g'
 call:∀bd f as g v g',ph.call (bd+1) f as g=.ok v g'->Enters C.P f/\xp C bd f as g v g'
 pan:∀bd f as g v g',ph.call (bd+1) f as g=.pan v g'->Enters C.P f/\Fq C bd f as g v g'
section
variable {b:Frame}{a:Act}{ops:Array Oper}{i:Nat}{rest:List Nat}{k:List Item}{cs:List Frame}{o:Oper}
theorem Ff {P:Program}{v:Value}(ho:ops[i]?=some o)(hw:Region.wanted o (yielded ops a.tmps)=true)(hd:∀c,o.op≠.defer c)
  (hrun:(execOp a.eval o).run P w=.halt (.panic v) w) :
  step P (lone (b.atR a (.inRegion ops (i::rest)::k)) cs w)=.next (lone ((b.atR a (.inRegion ops (i::rest)::k)).raise [{ v,recovered:=false }]) cs w):=by
 refine step_lone_go ?_;rw[stepGR_op ho hw,Oper.semAt_eq _ _ _ hd];simp[stepG.apply,hrun]
theorem Ah {P:Program}{f:FuncId}{args:Array Value}{u:Value}{w₁:World}(ho:ops[i]?=some o)(hw:Region.wanted o (yielded ops a.tmps)=true)(hd:∀c,o.op≠.defer c)
  (hrun:(execOp a.eval o).run P w=.ok (.enter f args) w)
  (hout:Fs P .normal f args (b.atR a (.inRegion ops (i::rest)::k)::cs) w u w₁) :
  Steps P (lone (b.atR a (.inRegion ops (i::rest)::k)) cs w) (lone ((b.atR a (.inRegion ops (i::rest)::k)).raise [{ v:=u,recovered:=false }]) cs w₁):=by
 obtain ⟨fr,hs,hl⟩:=hout;exact .head (zo ho hw hd hrun) (Steps.trans hs (.one (step_leave_panicked hl)))
theorem DY {P:Program}{c0:Frame}{u:Value}{older:List PanicEntry}(ho:ops[i]?=some o)(hw:Region.wanted o (yielded ops a.tmps)=true)(hd:∀c,o.op≠.defer c)
  (hk:b.kind=.deferred) (hro:b.roundOf=none) (hm:c0.mode=.panicking ({ v:=u,recovered:=false }::older)) (hrun:(execOp a.eval o).run P w=.ok .recover w) :
  step P (lone (b.atR a (.inRegion ops (i::rest)::k)) (c0::cs) w)=.next (lone (b.atR (a.put o.dst u) (.inRegion ops rest::k)) ({ c0 with mode:=.panicking ({ v:=u,recovered:=true }::older) }::cs) w):=by
 have hfin:=Frame.finish_atR b a ops i rest k u;rw[ho] at hfin;simp only[Option.bind_some] at hfin;have htry:tryRecover (b.atR a (.inRegion ops (i::rest)::k)) (c0::cs)=some (u,{ c0 with mode:=.panicking ({ v:=u,recovered:=true }::older) }::cs):=by unfold tryRecover;simp[Frame.atR,hk,hm]
 refine step_lone_go ?_;rw[stepGR_op ho hw,Oper.semAt_eq _ _ _ hd,<-hfin];have hr0:(b.atR a (.inRegion ops (i::rest)::k)).roundOf=none:=hro;simp only[stepG.apply,Sem.runT_eq,hrun,htry,hr0,if_true,GStep.bare_after];simp[GStep.bare_after]
theorem Ha (hp:PHOk C ph)(hr:Rel C A bd w γ hg nx)(hwf:WF g)(hx:Ext g.h hg){fv:AV}{v:Value}{as:List AV}{vs:List Value}
  (hfv:RV w γ A bd fv v) (has:RVs w γ A bd as vs) {r:PF} (h:Cw C ph (bd+1) fv as g=some r)
  (ho:ops[i]?=some o) (hw:Region.wanted o (yielded ops a.tmps)=true) (hd:∀c,o.op≠.defer c)
  (hexec:(execOp a.eval o).run C.P w=(do let d <-Deferred.ofValue v vs.toArray;invoke d.target d.args:Sem Next).run C.P w) :
  (∀x g1,r=.ok x g1->Free γ g g1->∃u w' γ' hg',Fin C A bd w γ hg nx g w' γ' hg' g1/\RV w' γ' A bd x u /\
   Steps C.P (lone (b.atR a (.inRegion ops (i::rest)::k)) cs w) (lone (b.atR (a.put o.dst u) (.inRegion ops rest::k)) cs w')) /\
  (∀x g1,r=.pan x g1->Free γ g g1->∃u w' γ' hg',Fin C A bd w γ hg nx g w' γ' hg' g1/\RV w' γ' A bd x u /\
   Steps C.P (lone (b.atR a (.inRegion ops (i::rest)::k)) cs w) (lone ((b.atR a (.inRegion ops (i::rest)::k)).raise [{ v:=u,recovered:=false }]) cs w')):=by
 unfold Cw at h;cases hfv with
 | clo _ f xs ys vs1 us1 hl hl2 h1 h2 =>
  dsimp only at h;rw[aa] at h
  split at h
  ·cases h
  injection h with h;have hall:RVs w γ A bd (xs++(as++ys)) (vs1.toList++(vs++us1.toList)):=(RVs.ofArr hl h1).append (has.append (RVs.ofArr hl2 h2));have harr:(vs1.toList++(vs++us1.toList)).toArray=(vs1++vs.toArray)++us1:=by apply Array.ext';simp
  have henter:Enters C.P f->(execOp a.eval o).run C.P w=.ok (.enter f ((vs1++vs.toArray)++us1)) w:=by intro he;rw[hexec];simp only[Deferred.ofValue,invoke,Sem.run_bind,Sem.run_pure,Result.andThen_ok];exact he _ _
  refine ⟨λx g1 hr1 hf=>?_,λx g1 hr1 hf=>?_⟩
  ·obtain ⟨he,hs⟩:=hp.call _ _ _ _ _ _ (h.trans hr1);obtain ⟨u,w',γ',hg',f1,rv,out⟩:=hs A w γ hg nx _ hr hx hwf hf hall .normal (b.atR a (.inRegion ops (i::rest)::k)::cs) (.inl rfl);rw[harr] at out;exact ⟨u,w',γ',hg',f1,rv,pj ho hw hd (henter he) out⟩
  ·obtain ⟨he,hs⟩:=hp.pan _ _ _ _ _ _ (h.trans hr1);obtain ⟨u,w',γ',hg',f1,rv,out⟩:=hs A w γ hg nx _ hr hx hwf hf hall .normal (b.atR a (.inRegion ops (i::rest)::k)::cs) (.inl rfl);rw[harr] at out;exact ⟨u,w',γ',hg',f1,rv,Ah ho hw hd (henter he) out⟩
 | _=>cases h
end
theorem Dm (hC:CfgOk C)(hi:IHOk C ih)(hp:PHOk C ph){nt:Nat}{ops:Array Oper}{b:Frame}{k:List Item}{cs:List Frame}:∀(l:List Oper) (i:Nat) {t:T} {df:List ADf} {g:G} {e:PE} {t':T} {df':List ADf} {g':G},
  ops.toList.drop i=l->(tJ C nt ops.toList l).run ih ph (bd+1) t df g=.ok e t' df' g'->WF g ->
  ∀{w γ hg nx a},Rel C A bd w γ hg nx->Ext g.h hg->Free γ g g'->TR w γ A bd nt t a.tmps->DR w γ A bd df a.defers->b.roundOf=none->ni b.kind cs ->
   xL C A bd nt b k cs (lone (b.atR a (.inRegion ops (List.range' i l.length)::k)) cs w) w γ hg nx g e t' df' g':=by
 intro l
 induction l with
 | nil =>
  intro i t df g e t' df' g' _ h _ w γ hg nx a hr hx hf ht hdf hro hcalm;simp only[tJ] at h;injection h with h1 h2 h3 h4;subst h1;subst h2;subst h3;subst h4;exact ⟨a,w,γ,hg,undef,Fin.refl hr,ht,hdf,trivial,.one stepR_region_end⟩
 | cons o rest ihl =>
  intro i t df g e t' df' g' hdrop h hwf w γ hg nx a hr hx hf ht hdf hro hcalm;have ho:ops[i]?=some o:=by
   have:(ops.toList.drop i)[0]?=some o:=by rw[hdrop];rfl
   simpa [List.getElem?_drop] using this
  have hdrop':ops.toList.drop (i+1)=rest:=by rw[<-List.drop_drop,hdrop];rfl
  have hrange:List.range' i (o::rest).length=i::List.range' (i+1) rest.length:=by simp[List.range'_succ]
  rw[hrange];have hargs:∀(args:Array Operand),(args.toList.map a.eval).toArray=args.map a.eval:=λargs=>by apply Array.ext';simp
  have next:∀{out:Stg (T->AV->T)} {x:AV} {u:Value} {g1:G} {w1:World} {γ1:Gm} {hg1:Nat->AObj},oq nt o.dst=some out->Mon g g1->Fin C A bd w γ hg nx g w1 γ1 hg1 g1->RV w1 γ1 A bd x u ->
    Steps C.P (lone (b.atR a (.inRegion ops (i::List.range' (i+1) rest.length)::k)) cs w) (lone (b.atR (a.put o.dst u) (.inRegion ops (List.range' (i+1) rest.length)::k)) cs w1) ->
    (tJ C nt ops.toList rest).run ih ph (bd+1) (out.run t x) df g1=.ok e t' df' g' ->
    xL C A bd nt b k cs (lone (b.atR a (.inRegion ops (i::List.range' (i+1) rest.length)::k)) cs w) w γ hg nx g e t' df' g':=by
   intro out x u g1 w1 γ1 hg1 hout hm f1 rv st h;have wf1:=hm.wf hwf;have m2:=ro hC.mon hi.mon hp.mon h wf1;obtain ⟨a',wb,γb,hgb,uu,f2,tr,dr,pv,st2⟩:=ihl (i+1) hdrop' h wf1 (a:=a.put o.dst u) f1.rel (f1.ext hm hx) (f1.freed hr hm hf) ((ht.step f1.stp).put hout rv)
    (by have:=hdf.step f1.stp;cases hd:o.dst<;>simpa [Act.put,hd] using this) hro hcalm
   exact ⟨a',wb,γb,hgb,uu,f1.trans f2 hm m2,tr,dr,pv,st2.of_steps st⟩
  have plain:∀{out:Stg (T->AV->T)},oq nt o.dst=some out->Region.wanted o (yielded ops a.tmps)=true ->
    zt out.run (λt df g=>(tJ C nt ops.toList rest).run ih ph (bd+1) t df g) t df g ((cy C o.op).run ih (bd+1) none t g)=.ok e t' df' g' ->
    xL C A bd nt b k cs (lone (b.atR a (.inRegion ops (i::List.range' (i+1) rest.length)::k)) cs w) w γ hg nx g e t' df' g':=by
   intro out hout hw h;have hm:=gt (op:=o.op) (d:=bd+1) (rd:=none) (t:=t) hC.mon hi.mon hwf;generalize hres:(cy C o.op).run ih (bd+1) none t g=r at h hm;have go:∀{x:AV} {g1:G},r≠.fail->(∀y,r≠.dfr y)->vOf r=x->gOf g r=g1->(tJ C nt ops.toList rest).run ih ph (bd+1) (out.run t x) df g1=.ok e t' df' g' ->
     xL C A bd nt b k cs (lone (b.atR a (.inRegion ops (i::List.range' (i+1) rest.length)::k)) cs w) w γ hg nx g e t' df' g':=by
    intro x g1 hne hnd hx' hg1 h;subst hx';subst hg1;have m2:=ro hC.mon hi.mon hp.mon h (hm.wf hwf);obtain ⟨u,wa,γa,hga,f1,rv,st⟩:=BV (b:=b) (cs:=cs) (rest:=List.range' (i+1) rest.length) (k:=k) hC hi hr hwf ht hcalm hx.agr hres hne hnd (hf.le m2.nx) ho hw;exact next hout hm f1 rv st h
   cases r with
   | fail=>cases h
   | val x=>exact go (by simp) (by simp) rfl rfl h
   | upd x g1=>exact go (by simp) (by simp) rfl rfl h
   | dfr x =>
    obtain ⟨dd,hdr,st⟩:=FS (b:=b) (cs:=cs) (rest:=List.range' (i+1) rest.length) (k:=k) (rd:=none) hr ht hro hdf hres (λf e d args g y he hy=>hC.noDfr f e he d args g y hy) ho hw;obtain ⟨a',wb,γb,hgb,uu,f2,tr,dr,pv,st2⟩:=ihl (i+1) hdrop' h hwf (a:={ a with defers:=dd::a.defers }.put o.dst undef) hr hx hf
     (ht.put (a:={ a with defers:=dd::a.defers }) hout b_)
     (by cases hd:o.dst<;>simpa [Act.put,hd] using hdr) hro hcalm
    exact ⟨a',wb,γb,hgb,uu,f2,tr,dr,pv,st2.of_steps (.one st)⟩
  have exec:∀{out:Stg (T->AV->T)},oq nt o.dst=some out->Region.wanted o (yielded ops a.tmps)=true ->
    (HC C o.op out.run).run (λt df g=>(tJ C nt ops.toList rest).run ih ph (bd+1) t df g) ih ph (bd+1) t df g=.ok e t' df' g' ->
    xL C A bd nt b k cs (lone (b.atR a (.inRegion ops (i::List.range' (i+1) rest.length)::k)) cs w) w γ hg nx g e t' df' g':=by
   intro out hout hw h;generalize hop:o.op=op at h;unfold HC at h
   split at h
   ·
    rename_i x;have hd:∀c,o.op≠.defer c:=by rw[hop];intro c h;cases h
    split at h
    rotate_left
    ·cases h
    rename_i s hs;dsimp only at h;have hv:=ax hs ht hr;generalize hev:a.eval x=vx at hv
    split at h
    rotate_left
    ·cases h
    rename_i ty y hy;rw[hy] at hv;injection h with h1 h2 h3 h4;subst h1;subst h2;subst h3;subst h4;refine ⟨a,w,γ,hg,vx,Fin.refl hr,ht,hdf,hv,_,.one (Ff ho hw hd ?_)⟩;cases hv with
    | ifc _ _ _ u hu =>
     simp only[execOp,hop,hev]
     rfl
   ·
    rename_i x xty asserted ok;have hd:∀c,o.op≠.defer c:=by rw[hop];intro c h;cases h
    split at h
    rotate_left
    ·cases h
    rename_i s _ ik hs hund;dsimp only at h;have hv:=ax hs ht hr;generalize hev:a.eval x=vx at hv
    split at h
    rotate_left
    ·cases h
    rename_i ty y hy;rw[hy] at hv;rw[aa] at h
    split at h
    rotate_left
    ·cases h
    rename_i hty;have hty:=aD hty;subst hty;cases hv with
    | ifc _ _ _ u hu =>
     have hrun:(execOp a.eval o).run C.P w=.ok (.value (if ok then .tuple #[u,.bool true] else u)) w:=by simp only[execOp,hop,hev,Instr.typeAssert,Sem.run_bind,aC hund,Result.andThen_ok,if_true,Sem.run_pure]
     refine next hout (Mon.refl g) (Fin.refl hr) ?_ (.one (tQ ho hw hd hrun)) h
     cases ok with
     | true =>
      refine RV.tup _ [y,.bool true] #[u,.bool true] rfl λi x v h1 h2=>?_
      match i with
      | 0=>simp at h1 h2;subst h1;subst h2;exact hu
      | 1=>simp at h1 h2;subst h1;subst h2;exact .bool _ _
      | i+2=>simp at h1
     | false=>exact hu
   ·
    rename_i fo args at2;have hd:∀c,o.op≠.defer c:=by rw[hop];intro c h;cases h
    split at h
    rotate_left
    ·cases h
    rename_i fv vs hfv hvs;dsimp only at h
    split at h
    ·rename_i r hcall;obtain ⟨s1,s2⟩:=Ha (b:=b) (cs:=cs) (rest:=List.range' (i+1) rest.length) (k:=k) hp hr hwf hx (ax hfv ht hr) (fk ht hr hvs) hcall ho hw hd (by simp only[execOp,hop,resolve,hargs]);cases r with
     | fail=>cases h
     | ok x g1 =>
      have hm:=vd hp.mon hcall (.inl rfl) hwf;have m2:=ro hC.mon hi.mon hp.mon h (hm.wf hwf);obtain ⟨u,w1,γ1,hg1,f1,rv,st⟩:=s1 x g1 rfl (hf.le m2.nx);exact next hout hm f1 rv st h
     | pan x g1 =>
      have h:PR.ok (.pan x) t df g1=.ok e t' df' g':=h;injection h with h1 h2 h3 h4;subst h1;subst h2;subst h3;subst h4;obtain ⟨u,w1,γ1,hg1,f1,rv,st⟩:=s2 x g1 rfl hf;exact ⟨a,w1,γ1,hg1,u,f1,ht.step f1.stp,hdf.step f1.stp,rv,_,st⟩
    ·exact plain hout hw (by rw[hop];exact h)
   ·exact plain hout hw (by rw[hop];exact h)
  simp only[tJ] at h
  split at h
  ·rename_i out hout
   split at h
   ·rename_i hgd;refine exec hout ?_ h;simp[Region.wanted,hgd]
   ·rename_i gd hgd
    split at h
    ·rename_i q hq;rw[<-hgd] at hq;dsimp only at h
     split at h
     ·rename_i hq';exact exec hout (jX hq ht hq') h
     ·rename_i hq';have hw:=jX hq ht hq';obtain ⟨a',wb,γb,hgb,uu,f2,tr,dr,pv,st2⟩:=ihl (i+1) hdrop' h hwf (a:=a.put o.dst undef) hr hx hf
       (ht.put hout b_) (by cases hd:o.dst<;>simpa [Act.put,hd] using hdf) hro hcalm
      exact ⟨a',wb,γb,hgb,uu,f2,tr,dr,pv,st2.of_steps (.one (rF ho hw))⟩
     ·cases h
    ·cases h
  ·cases h
theorem C6 (hC:CfgOk C)(hi:IHOk C ih){nt:Nat}{c:Code}{t:T}{df:List ADf}{g:G}{e:PE}{t':T}{df':List ADf}{g':G}
  (h:Js ((aJ C nt c).run ih (bd+1) none t df g)=.ok e t' df' g'):xK C bd nt c t df g e t' df' g':=by
 generalize hr:(aJ C nt c).run ih (bd+1) none t df g=r at h;cases r with
 | fail=>cases h
 | ok e1 t1 df1 g1 =>
  have h:PR.ok (.ex e1) t1 df1 g1=.ok e t' df' g':=h;injection h with h1 h2 h3 h4;subst h1;subst h2;subst h3;subst h4;intro A w γ hg nx b a k cs hrel hx hwf hf ht hdf hro hcalm;obtain ⟨a',w',γ',hg',f,tr,dr,ar⟩:=u_ hC hi c hr A w γ hg nx b a k cs hrel hx hwf hf ht hdf hro hcalm;exact ⟨a',w',γ',hg',undef,f,tr,dr,trivial,ar⟩
theorem rM (hC:CfgOk C)(hi:IHOk C ih)(hp:PHOk C ph){nt:Nat}:∀(c:Code) {t:T} {df:List ADf} {g:G} {e:PE} {t':T} {df':List ADf} {g':G},
  (bX C nt c).run ih ph (bd+1) t df g=.ok e t' df' g'->xK C bd nt c t df g e t' df' g':=by
 intro c
 induction c with
 | region id ops draw =>
  intro t df g e t' df' g' h;cases draw with
  | true=>simp only[bX] at h;exact C6 hC hi h
  | false =>
   intro A w γ hg nx b a k cs hr hx hwf hf ht hdf hro hcalm;simp only[bX] at h;obtain ⟨a',w',γ',hg',u,f,tr,dr,pv,ar⟩:=Dm (b:=b) (cs:=cs) (k:=k) hC hi hp ops.toList 0 (by simp) h hwf hr hx hf ht hdf hro hcalm;refine ⟨a',w',γ',hg',u,f,tr,dr,pv,ArrP.of_steps (.one stepR_region) ?_⟩;rw[List.range_eq_range'];simpa using ar
 | seq x y ihx ihy =>
  intro t df g e t' df' g' h A w γ hg nx b a k cs hr hx hwf hf ht hdf hro hcalm;simp only[bX] at h;generalize hc:(bX C nt x).run ih ph (bd+1) t df g=r at h;cases r with
  | fail=>cases h
  | ok e1 t1 df1 g1 =>
   have m1:=cJ hC.mon hi.mon hp.mon _ hc hwf;have wf1:=m1.wf hwf;cases e1 with
   | pan v =>
    have h:PR.ok (.pan v) t1 df1 g1=.ok e t' df' g':=h;injection h with h1 h2 h3 h4;subst h1;subst h2;subst h3;subst h4;obtain ⟨a1,w1,γ1,hg1,u1,f1,tr1,dr1,pv1,k₁,ar1⟩:=ihx hc A w γ hg nx b a (.code y::k) cs hr hx hwf hf ht hdf hro hcalm;exact ⟨a1,w1,γ1,hg1,u1,f1,tr1,dr1,pv1,k₁,.head stepR_seq ar1⟩
   | ex e1 =>
    cases e1 with
    | norm =>
     have h:(bX C nt y).run ih ph (bd+1) t1 df1 g1=.ok e t' df' g':=h;have m2:=cJ hC.mon hi.mon hp.mon _ h wf1;obtain ⟨a1,w1,γ1,hg1,u1,f1,tr1,dr1,pv1,ar1⟩:=ihx hc A w γ hg nx b a (.code y::k) cs hr hx hwf (hf.le m2.nx) ht hdf hro hcalm;obtain ⟨a2,w2,γ2,hg2,u2,f2,tr2,dr2,pv2,ar2⟩:=ihy h A w1 γ1 hg1 _ b a1 k cs f1.rel (f1.ext m1 hx) wf1 (f1.freed hr m1 hf) tr1 dr1 hro hcalm;exact ⟨a2,w2,γ2,hg2,u2,f1.trans f2 m1 m2,tr2,dr2,pv2,ar2.of_steps (.head stepR_seq ar1)⟩
    | exit j =>
     have h:PR.ok (.ex (.exit j)) t1 df1 g1=.ok e t' df' g':=h;injection h with h1 h2 h3 h4;subst h1;subst h2;subst h3;subst h4;obtain ⟨a1,w1,γ1,hg1,u1,f1,tr1,dr1,pv1,k₁,hk,ar1⟩:=ihx hc A w γ hg nx b a (.code y::k) cs hr hx hwf hf ht hdf hro hcalm;exact ⟨a1,w1,γ1,hg1,u1,f1,tr1,dr1,pv1,k₁,by rw[hk];rfl,.head stepR_seq ar1⟩
    | ret =>
     have h:PR.ok (.ex .ret) t1 df1 g1=.ok e t' df' g':=h;injection h with h1 h2 h3 h4;subst h1;subst h2;subst h3;subst h4;obtain ⟨a1,w1,γ1,hg1,u1,f1,tr1,dr1,pv1,k₁,ar1⟩:=ihx hc A w γ hg nx b a (.code y::k) cs hr hx hwf hf ht hdf hro hcalm;exact ⟨a1,w1,γ1,hg1,u1,f1,tr1,dr1,pv1,k₁,.head stepR_seq ar1⟩
 | cond c x y ihx ihy =>
  intro t df g e t' df' g' h A w γ hg nx b a k cs hr hx hwf hf ht hdf hro hcalm;simp only[bX] at h
  split at h
  rotate_left
  ·cases h
  rename_i s hs;dsimp only at h;have hv:=ax hs ht hr;generalize hcv:a.eval c=vc at hv;generalize s.run t=cv at h hv;cases hv with
  | bool _ bv =>
   dsimp only at h;cases bv with
   | true =>
    obtain ⟨a1,w1,γ1,hg1,u1,f1,tr1,dr1,pv1,ar1⟩:=ihx h A w γ hg nx b a k cs hr hx hwf hf ht hdf hro hcalm;exact ⟨a1,w1,γ1,hg1,u1,f1,tr1,dr1,pv1,ar1.of_steps (.one (by simpa using stepR_cond (P:=C.P) (b:=b) (a:=a) (k:=k) (cs:=cs) (w:=w) (x:=x) (y:=y) hcv))⟩
   | false =>
    obtain ⟨a1,w1,γ1,hg1,u1,f1,tr1,dr1,pv1,ar1⟩:=ihy h A w γ hg nx b a k cs hr hx hwf hf ht hdf hro hcalm;exact ⟨a1,w1,γ1,hg1,u1,f1,tr1,dr1,pv1,ar1.of_steps (.one (by simpa using stepR_cond (P:=C.P) (b:=b) (a:=a) (k:=k) (cs:=cs) (w:=w) (x:=x) (y:=y) hcv))⟩
  | _=>cases h
 | block id body ihb =>
  intro t df g e t' df' g' h A w γ hg nx b a k cs hr hx hwf hf ht hdf hro hcalm;simp only[bX] at h;generalize hc:(bX C nt body).run ih ph (bd+1) t df g=r at h;cases r with
  | fail=>cases h
  | ok e1 t1 df1 g1 =>
   cases e1 with
   | pan v =>
    have h:PR.ok (.pan v) t1 df1 g1=.ok e t' df' g':=h;injection h with h1 h2 h3 h4;subst h1;subst h2;subst h3;subst h4;obtain ⟨a1,w1,γ1,hg1,u1,f1,tr1,dr1,pv1,k₁,ar1⟩:=ihb hc A w γ hg nx b a (.inBlock id::k) cs hr hx hwf hf ht hdf hro hcalm;exact ⟨a1,w1,γ1,hg1,u1,f1,tr1,dr1,pv1,k₁,.head stepR_block ar1⟩
   | ex e1 =>
    cases e1 with
    | norm =>
     have h:PR.ok (.ex .norm) t1 df1 g1=.ok e t' df' g':=h;injection h with h1 h2 h3 h4;subst h1;subst h2;subst h3;subst h4;obtain ⟨a1,w1,γ1,hg1,u1,f1,tr1,dr1,pv1,ar1⟩:=ihb hc A w γ hg nx b a (.inBlock id::k) cs hr hx hwf hf ht hdf hro hcalm;exact ⟨a1,w1,γ1,hg1,u1,f1,tr1,dr1,pv1,.head stepR_block (Steps.trans ar1 (.one stepR_inBlock))⟩
    | exit j =>
     simp only[u9,aa] at h
     split at h
     ·rename_i hj;have hj:=aD hj;subst hj;injection h with h1 h2 h3 h4;subst h1;subst h2;subst h3;subst h4;obtain ⟨a1,w1,γ1,hg1,u1,f1,tr1,dr1,pv1,k₁,hk,ar1⟩:=ihb hc A w γ hg nx b a (.inBlock j::k) cs hr hx hwf hf ht hdf hro hcalm;exact ⟨a1,w1,γ1,hg1,u1,f1,tr1,dr1,trivial,.head stepR_block (Steps.trans ar1 (.one (stepR_exit (by rw[hk];simp[exitTo]))))⟩
     ·rename_i hj;injection h with h1 h2 h3 h4;subst h1;subst h2;subst h3;subst h4;obtain ⟨a1,w1,γ1,hg1,u1,f1,tr1,dr1,pv1,k₁,hk,ar1⟩:=ihb hc A w γ hg nx b a (.inBlock id::k) cs hr hx hwf hf ht hdf hro hcalm;refine ⟨a1,w1,γ1,hg1,u1,f1,tr1,dr1,pv1,k₁,?_,.head stepR_block ar1⟩;rw[hk];have hne:(id == j)=false:=by simp only[beq_eq_false_iff_ne,ne_eq];rintro rfl;exact hj (Nat.beq_refl _)
      simp[exitTo,hne]
    | ret =>
     have h:PR.ok (.ex .ret) t1 df1 g1=.ok e t' df' g':=h;injection h with h1 h2 h3 h4;subst h1;subst h2;subst h3;subst h4;obtain ⟨a1,w1,γ1,hg1,u1,f1,tr1,dr1,pv1,k₁,ar1⟩:=ihb hc A w γ hg nx b a (.inBlock id::k) cs hr hx hwf hf ht hdf hro hcalm;exact ⟨a1,w1,γ1,hg1,u1,f1,tr1,dr1,pv1,k₁,.head stepR_block ar1⟩
 | loop body ihb =>
  intro t df g e t' df' g' h A w γ hg nx b a k cs hr hx hwf hf ht hdf hro hcalm;simp only[bX] at h;generalize hc:(bX C nt body).run ih ph (bd+1) t df g=r at h;cases r with
  | fail=>cases h
  | ok e1 t1 df1 g1 =>
   have m1:=cJ hC.mon hi.mon hp.mon _ hc hwf;have wf1:=m1.wf hwf;cases e1 with
   | pan v =>
    have h:PR.ok (.pan v) t1 df1 g1=.ok e t' df' g':=h;injection h with h1 h2 h3 h4;subst h1;subst h2;subst h3;subst h4;obtain ⟨a1,w1,γ1,hg1,u1,f1,tr1,dr1,pv1,k₁,ar1⟩:=ihb hc A w γ hg nx b a (.inLoop body::k) cs hr hx hwf hf ht hdf hro hcalm;exact ⟨a1,w1,γ1,hg1,u1,f1,tr1,dr1,pv1,k₁,.head stepR_loop ar1⟩
   | ex e1 =>
    cases e1 with
    | norm =>
     have h:ph.code nt (bd+1) (.loop body) t1 df1 g1=.ok e t' df' g':=h;have m2:=hp.mon.code _ _ _ _ _ _ _ _ _ _ h wf1;obtain ⟨a1,w1,γ1,hg1,u1,f1,tr1,dr1,pv1,ar1⟩:=ihb hc A w γ hg nx b a (.inLoop body::k) cs hr hx hwf (hf.le m2.nx) ht hdf hro hcalm;obtain ⟨a2,w2,γ2,hg2,u2,f2,tr2,dr2,pv2,ar2⟩:=hp.code _ _ _ _ _ _ _ _ _ _ h A w1 γ1 hg1 _ b a1 k cs f1.rel (f1.ext m1 hx) wf1 (f1.freed hr m1 hf) tr1 dr1 hro hcalm;refine ⟨a2,w2,γ2,hg2,u2,f1.trans f2 m1 m2,tr2,dr2,pv2,ArrP.of_steps (.head stepR_loop (Steps.trans ar1 (.one stepR_inLoop))) ?_⟩;have hloop:step C.P (lone (b.atR a1 (.code (.loop body)::k)) cs w1)=.next (lone (b.atR a1 (.code body::.inLoop body::k)) cs w1):=stepR_loop;have ne:∀{a':Act} {k':List Item} {w':World},k'≠.code (.loop body)::k->lone (b.atR a1 (.code (.loop body)::k)) cs w1≠lone (b.atR a' k') cs w':=λh h'=>h (zw h').symm;cases e with
     | pan v =>
      obtain ⟨k₁,ar2⟩:=ar2;refine ⟨k₁,eA ar2 (λh'=>?_) hloop⟩;have h1:(lone (b.atR a1 (.code (.loop body)::k)) cs w1).gs=(lone ((b.atR a2 k₁).raise [{ v:=u2,recovered:=false }]) cs w2).gs:=by rw[h']
      simp only[lone,Array.mk.injEq,List.cons.injEq,and_true] at h1;have h2:=congrArg (λg:Goroutine=>g.frame.mode) h1;simp[Frame.atR,Frame.raise] at h2
     | ex e =>
      cases e with
      | norm=>exact eA ar2 (ne (λh=>by have:=congrArg List.length h;simp at this)) hloop
      | exit j =>
       obtain ⟨k₁,hk,ar2⟩:=ar2;exact ⟨k₁,hk,eA ar2 (ne (λh=>by injection h with h _;injection h with h;cases h)) hloop⟩
      | ret =>
       obtain ⟨k₁,ar2⟩:=ar2;exact ⟨k₁,eA ar2 (ne (λh=>by injection h with h _;injection h with h;cases h)) hloop⟩
    | exit j =>
     have h:PR.ok (.ex (.exit j)) t1 df1 g1=.ok e t' df' g':=h;injection h with h1 h2 h3 h4;subst h1;subst h2;subst h3;subst h4;obtain ⟨a1,w1,γ1,hg1,u1,f1,tr1,dr1,pv1,k₁,hk,ar1⟩:=ihb hc A w γ hg nx b a (.inLoop body::k) cs hr hx hwf hf ht hdf hro hcalm;exact ⟨a1,w1,γ1,hg1,u1,f1,tr1,dr1,pv1,k₁,by rw[hk];rfl,.head stepR_loop ar1⟩
    | ret =>
     have h:PR.ok (.ex .ret) t1 df1 g1=.ok e t' df' g':=h;injection h with h1 h2 h3 h4;subst h1;subst h2;subst h3;subst h4;obtain ⟨a1,w1,γ1,hg1,u1,f1,tr1,dr1,pv1,k₁,ar1⟩:=ihb hc A w γ hg nx b a (.inLoop body::k) cs hr hx hwf hf ht hdf hro hcalm;exact ⟨a1,w1,γ1,hg1,u1,f1,tr1,dr1,pv1,k₁,.head stepR_loop ar1⟩
 | scope body ihb =>
  intro t df g e t' df' g' h A w γ hg nx b a k cs hr hx hwf hf ht hdf hro hcalm;have h:(bX C nt body).run ih ph (bd+1) t df g=.ok e t' df' g':=h;obtain ⟨a1,w1,γ1,hg1,u1,f1,tr1,dr1,pv1,ar1⟩:=ihb h A w γ hg nx b a (.inScope body::k) cs hr hx hwf hf ht hdf hro hcalm;refine ⟨a1,w1,γ1,hg1,u1,f1,tr1,dr1,pv1,?_⟩;cases e with
  | pan v=>obtain ⟨k₁,ar1⟩:=ar1;exact ⟨k₁,.head bM ar1⟩
  | ex e =>
   cases e with
   | norm=>exact .head bM (Steps.trans ar1 (.one m9))
   | exit j=>obtain ⟨k₁,hk,ar1⟩:=ar1;exact ⟨k₁,by rw[hk];rfl,.head bM ar1⟩
   | ret=>obtain ⟨k₁,ar1⟩:=ar1;exact ⟨k₁,.head bM ar1⟩
 | _=>intro t df g e t' df' g' h;simp only[bX] at h;exact C6 hC hi h
theorem JZ (hC:CfgOk C)(hi:IHOk C ih)(hp:PHOk C ph){nt:Nat}:∀(c:Code) {v:AV} {t:T} {g:G} {e:PE} {t':T} {df':List ADf} {g':G},
  (pZ C nt c).run ih ph (bd+1) v t g=.ok e t' df' g'->∀A w γ hg nx (b:Frame) (a:Act) k c0 cs u,Rel C A bd w γ hg nx->Ext g.h hg->WF g->Free γ g g'->TR w γ A bd nt t a.tmps->a.defers=[]->RV w γ A bd v u ->
  b.roundOf=none->b.kind=.deferred->c0.mode=.panicking [{ v:=u,recovered:=false }] ->
  xL C A bd nt b k ({ c0 with mode:=.panicking [{ v:=u,recovered:=true }] }::cs) (lone (b.atR a (.code c::k)) (c0::cs) w) w γ hg nx g e t' df' g':=by
 intro c
 induction c with
 | region id ops draw =>
  intro v t g e t' df' g' h A w γ hg nx b a k c0 cs u hr hx hwf hf ht hdf hv hro hk hm;cases draw with
  | true=>cases h
  | false =>
   simp only[pZ] at h
   split at h
   rotate_left
   ·cases h
   rename_i o rest hops
   split at h
   rotate_left
   ·cases h
   rename_i ca cb hop hgd
   split at h
   rotate_left
   ·cases h
   rename_i out hout;have ho:ops[0]?=some o:=by
    have:ops.toList[0]?=some o:=by rw[hops];rfl
    simpa using this
   have hd:∀c,o.op≠.defer c:=by rw[hop];intro c h;cases h
   have hw:Region.wanted o (yielded ops a.tmps)=true:=by simp[Region.wanted,hgd]
   have st0:=DY (P:=C.P) (b:=b) (a:=a) (k:=k) (cs:=cs) (rest:=List.range' 1 rest.length) (w:=w) ho hw hd hk hro hm
    (by simp only[execOp,hop,resolve,invoke,Sem.run_bind,Sem.run_pure,Result.andThen_ok];rfl)
   obtain ⟨a',w',γ',hg',uu,f,tr,dr,pv,st⟩:=Dm (b:=b) (cs:={ c0 with mode:=.panicking [{ v:=u,recovered:=true }] }::cs) (k:=k) (a:=a.put o.dst u) hC hi hp rest 1 (by rw[hops];rfl) h hwf hr hx hf (ht.put hout hv)
    (by cases hd:o.dst<;>simp[Act.put,hdf,DR]) hro (.inr ⟨hk,_,cs,rfl,.inr ⟨u,false,[],rfl⟩⟩)
   have hsz:List.range ops.size=0::List.range' 1 rest.length:=by
    have:ops.size=rest.length+1:=by rw[<-Array.length_toList,hops];rfl
    rw[this,List.range_eq_range',List.range'_succ]
   refine ⟨a',w',γ',hg',uu,f,tr,dr,pv,st.of_steps (.head stepR_region (.one ?_))⟩;rw[hsz];exact st0
 | seq x y ihx _ =>
  intro v t g e t' df' g' h A w γ hg nx b a k c0 cs u hr hx hwf hf ht hdf hv hro hk hm;simp only[pZ] at h;generalize hc:(pZ C nt x).run ih ph (bd+1) v t g=r at h;cases r with
  | fail=>cases h
  | ok e1 t1 df1 g1 =>
   have m1:=zc hC.mon hi.mon hp.mon _ hc hwf;have wf1:=m1.wf hwf;cases e1 with
   | pan v1 =>
    have h:PR.ok (.pan v1) t1 df1 g1=.ok e t' df' g':=h;injection h with h1 h2 h3 h4;subst h1;subst h2;subst h3;subst h4;obtain ⟨a1,w1,γ1,hg1,u1,f1,tr1,dr1,pv1,k₁,ar1⟩:=ihx hc A w γ hg nx b a (.code y::k) c0 cs u hr hx hwf hf ht hdf hv hro hk hm;exact ⟨a1,w1,γ1,hg1,u1,f1,tr1,dr1,pv1,k₁,.head stepR_seq ar1⟩
   | ex e1 =>
    cases e1 with
    | norm =>
     have h:(bX C nt y).run ih ph (bd+1) t1 df1 g1=.ok e t' df' g':=h;have m2:=cJ hC.mon hi.mon hp.mon _ h wf1;obtain ⟨a1,w1,γ1,hg1,u1,f1,tr1,dr1,pv1,ar1⟩:=ihx hc A w γ hg nx b a (.code y::k) c0 cs u hr hx hwf (hf.le m2.nx) ht hdf hv hro hk hm;obtain ⟨a2,w2,γ2,hg2,u2,f2,tr2,dr2,pv2,ar2⟩:=rM hC hi hp y h A w1 γ1 hg1 _ b a1 k ({ c0 with mode:=.panicking [{ v:=u,recovered:=true }] }::cs) f1.rel (f1.ext m1 hx) wf1 (f1.freed hr m1 hf) tr1 dr1 hro (.inr ⟨hk,_,cs,rfl,.inr ⟨u,false,[],rfl⟩⟩);exact ⟨a2,w2,γ2,hg2,u2,f1.trans f2 m1 m2,tr2,dr2,pv2,ar2.of_steps (.head stepR_seq ar1)⟩
    | exit j =>
     have h:PR.ok (.ex (.exit j)) t1 df1 g1=.ok e t' df' g':=h;injection h with h1 h2 h3 h4;subst h1;subst h2;subst h3;subst h4;obtain ⟨a1,w1,γ1,hg1,u1,f1,tr1,dr1,pv1,k₁,hk1,ar1⟩:=ihx hc A w γ hg nx b a (.code y::k) c0 cs u hr hx hwf hf ht hdf hv hro hk hm;exact ⟨a1,w1,γ1,hg1,u1,f1,tr1,dr1,pv1,k₁,by rw[hk1];rfl,.head stepR_seq ar1⟩
    | ret =>
     have h:PR.ok (.ex .ret) t1 df1 g1=.ok e t' df' g':=h;injection h with h1 h2 h3 h4;subst h1;subst h2;subst h3;subst h4;obtain ⟨a1,w1,γ1,hg1,u1,f1,tr1,dr1,pv1,k₁,ar1⟩:=ihx hc A w γ hg nx b a (.code y::k) c0 cs u hr hx hwf hf ht hdf hv hro hk hm;exact ⟨a1,w1,γ1,hg1,u1,f1,tr1,dr1,pv1,k₁,.head stepR_seq ar1⟩
 | block id body ihb =>
  intro v t g e t' df' g' h A w γ hg nx b a k c0 cs u hr hx hwf hf ht hdf hv hro hk hm;simp only[pZ] at h;generalize hc:(pZ C nt body).run ih ph (bd+1) v t g=r at h;cases r with
  | fail=>cases h
  | ok e1 t1 df1 g1 =>
   cases e1 with
   | pan v1 =>
    have h:PR.ok (.pan v1) t1 df1 g1=.ok e t' df' g':=h;injection h with h1 h2 h3 h4;subst h1;subst h2;subst h3;subst h4;obtain ⟨a1,w1,γ1,hg1,u1,f1,tr1,dr1,pv1,k₁,ar1⟩:=ihb hc A w γ hg nx b a (.inBlock id::k) c0 cs u hr hx hwf hf ht hdf hv hro hk hm;exact ⟨a1,w1,γ1,hg1,u1,f1,tr1,dr1,pv1,k₁,.head stepR_block ar1⟩
   | ex e1 =>
    cases e1 with
    | norm =>
     have h:PR.ok (.ex .norm) t1 df1 g1=.ok e t' df' g':=h;injection h with h1 h2 h3 h4;subst h1;subst h2;subst h3;subst h4;obtain ⟨a1,w1,γ1,hg1,u1,f1,tr1,dr1,pv1,ar1⟩:=ihb hc A w γ hg nx b a (.inBlock id::k) c0 cs u hr hx hwf hf ht hdf hv hro hk hm;exact ⟨a1,w1,γ1,hg1,u1,f1,tr1,dr1,pv1,.head stepR_block (Steps.trans ar1 (.one stepR_inBlock))⟩
    | exit j =>
     simp only[u9,aa] at h
     split at h
     ·rename_i hj;have hj:=aD hj;subst hj;injection h with h1 h2 h3 h4;subst h1;subst h2;subst h3;subst h4;obtain ⟨a1,w1,γ1,hg1,u1,f1,tr1,dr1,pv1,k₁,hk1,ar1⟩:=ihb hc A w γ hg nx b a (.inBlock j::k) c0 cs u hr hx hwf hf ht hdf hv hro hk hm;exact ⟨a1,w1,γ1,hg1,u1,f1,tr1,dr1,trivial,.head stepR_block (Steps.trans ar1 (.one (stepR_exit (by rw[hk1];simp[exitTo]))))⟩
     ·rename_i hj;injection h with h1 h2 h3 h4;subst h1;subst h2;subst h3;subst h4;obtain ⟨a1,w1,γ1,hg1,u1,f1,tr1,dr1,pv1,k₁,hk1,ar1⟩:=ihb hc A w γ hg nx b a (.inBlock id::k) c0 cs u hr hx hwf hf ht hdf hv hro hk hm;refine ⟨a1,w1,γ1,hg1,u1,f1,tr1,dr1,pv1,k₁,?_,.head stepR_block ar1⟩;rw[hk1];have hne:(id == j)=false:=by simp only[beq_eq_false_iff_ne,ne_eq];rintro rfl;exact hj (Nat.beq_refl _)
      simp[exitTo,hne]
    | ret =>
     have h:PR.ok (.ex .ret) t1 df1 g1=.ok e t' df' g':=h;injection h with h1 h2 h3 h4;subst h1;subst h2;subst h3;subst h4;obtain ⟨a1,w1,γ1,hg1,u1,f1,tr1,dr1,pv1,k₁,ar1⟩:=ihb hc A w γ hg nx b a (.inBlock id::k) c0 cs u hr hx hwf hf ht hdf hv hro hk hm;exact ⟨a1,w1,γ1,hg1,u1,f1,tr1,dr1,pv1,k₁,.head stepR_block ar1⟩
 | scope body ihb =>
  intro v t g e t' df' g' h A w γ hg nx b a k c0 cs u hr hx hwf hf ht hdf hv hro hk hm;have h:(pZ C nt body).run ih ph (bd+1) v t g=.ok e t' df' g':=h;obtain ⟨a1,w1,γ1,hg1,u1,f1,tr1,dr1,pv1,ar1⟩:=ihb h A w γ hg nx b a (.inScope body::k) c0 cs u hr hx hwf hf ht hdf hv hro hk hm;refine ⟨a1,w1,γ1,hg1,u1,f1,tr1,dr1,pv1,?_⟩;cases e with
  | pan v=>obtain ⟨k₁,ar1⟩:=ar1;exact ⟨k₁,.head bM ar1⟩
  | ex e =>
   cases e with
   | norm=>exact .head bM (Steps.trans ar1 (.one m9))
   | exit j=>obtain ⟨k₁,hk,ar1⟩:=ar1;exact ⟨k₁,by rw[hk];rfl,.head bM ar1⟩
   | ret=>obtain ⟨k₁,ar1⟩:=ar1;exact ⟨k₁,.head bM ar1⟩
 | _=>intro v t g e t' df' g' h;cases h
theorem J1 (hC:CfgOk C)(hi:IHOk C ih)(hp:PHOk C ph){f:Nat}{v:AV}{as:List AV}{g g':G}(h:J0 C ih ph (bd+1) f v as g=some g'):Enters C.P f /\
  ∀A w γ hg nx vs,Rel C A bd w γ hg nx->Ext g.h hg->WF g->Free γ g g'->RVs w γ A bd as vs->∀(c0:Frame) (cs:List Frame) (u:Value),RV w γ A bd v u->c0.mode=.panicking [{ v:=u,recovered:=false }] ->
  ∃w' γ' hg' frX val,Fin C A bd w γ hg nx g w' γ' hg' g' /\
   Steps C.P (lone (Frame.enter C.P f vs.toArray .deferred) (c0::cs) w) (lone frX ({ c0 with mode:=.panicking [{ v:=u,recovered:=true }] }::cs) w')/\frX.kind=.deferred/\frX.going C.P w' (.returned val):=by
 unfold J0 at h
 split at h
 ·cases h
 rename_i fn hfn
 split at h
 rotate_left
 ·cases h
 rename_i c r hbody hres;rw[aa] at h
 split at h
 ·cases h
 rename_i hcond;simp only[Bool.or_eq_true,not_or,Bool.not_eq_true,Bool.not_eq_false'] at hcond;obtain ⟨hname,hle⟩:=hcond;rw[Nat.ble_eq,aw] at hle;refine ⟨λargs w=>?_,?_⟩
 ·unfold callFunc;have hn : fn.name ≠ "runtime.NumGoroutine" := by simpa using hname
  simp[hfn,hn,hbody]
 intro A w γ hg nx vs hr hx hwf hf hv c0 cs u hvu hm
 let b:Frame:={ (default:Frame) with fn:=f,kind:=.deferred,roundOf:=none }
 let a0:Act:={ tmps:=vs.toArray++Array.replicate (fn.ntmps - vs.toArray.size) undef,defers:=[] }
 have henter:Frame.enter C.P f vs.toArray .deferred=b.atR a0 [.code c]:=by simp[Frame.enter,Frame.atR,hfn,hbody,b,a0]
 have key:∀{e:Ex} {t1:T} {g1:G},(pZ C fn.ntmps c).run ih ph (bd+1) v (bK 0 as .nil) g=.ok (.ex e) t1 [] g1->(∀j,e≠.exit j)->(match r.run t1 g1 with | some _=>some g1 | none=>none)=some g' ->
   ∃w' γ' hg' frX val,Fin C A bd w γ hg nx g w' γ' hg' g' /\
   Steps C.P (lone (Frame.enter C.P f vs.toArray .deferred) (c0::cs) w) (lone frX ({ c0 with mode:=.panicking [{ v:=u,recovered:=true }] }::cs) w')/\frX.kind=.deferred/\frX.going C.P w' (.returned val):=by
  intro e t1 g1 hc hne hend
  split at hend
  rotate_left
  ·cases hend
  rename_i xs hxs;injection hend with hend;subst hend;have m1:=zc hC.mon hi.mon hp.mon _ hc hwf;obtain ⟨a1,w1,γ1,hg1,u1,f1,tr1,dr1,pv1,ar1⟩:=JZ hC hi hp c hc A w γ hg nx b a0 [] c0 cs u hr hx hwf hf (xr hv hle) rfl hvu rfl rfl hm;have hd1:a1.defers=[]:=by
   cases hd:a1.defers with
   | nil=>rfl
   | cons d ds=>rw[hd] at dr1;exact dr1.elim
  obtain ⟨us,hus,hrv⟩:=xV hC tr1 f1.rel (f1.ext m1 hx) hres hxs;obtain ⟨val,hval,_⟩:=rx (γ:=γ1) (A:=A) (bd:=bd) hus;rw[henter];cases e with
  | norm=>exact ⟨w1,γ1,hg1,{ b.atR a1 [] with mode:=.returning },val,f1,Steps.trans ar1 (.one (stepR_end rfl)),rfl,rfl,hd1,fn,hfn,hval⟩
  | ret =>
   obtain ⟨k₁,ar1⟩:=ar1;exact ⟨w1,γ1,hg1,{ b.atR a1 (.code .ret::k₁) with mode:=.returning },val,f1,Steps.trans ar1 (.one (stepR_ret rfl)),rfl,rfl,hd1,fn,hfn,hval⟩
  | exit j=>exact absurd rfl (hne j)
 split at h
 ·cases h
 ·rename_i e t1 g1 hne hc;exact key hc (by rintro j rfl;exact hne j rfl) h
 ·cases h
theorem wo (hC:CfgOk C)(hi:IHOk C ih){fn:Func}{r:Stg (T->G->Option (List AV))}(hres:pP C fn.results.toList=some r){df:List ADf}{v:AV}{g':G}
  (hend:cD ih (bd+1) r.run t df g=.ok v g') (hwf:WF g) (hr:Rel C A bd w γ hg nx) (hx:Ext g.h hg) (hf:Free γ g g') {fr:Frame} {cs:List Frame} (ht:TR w γ A bd fn.ntmps t fr.tmps) (hdf:DR w γ A bd df fr.defers) (hm:fr.mode=.returning) :
  ∃u w' γ' hg',Fin C A bd w γ hg nx g w' γ' hg' g'/\RV w' γ' A bd v u/\Steps C.P (lone fr cs w) (lone { fr with defers:=[] } cs w')/\(results fn fr.tmps).run C.P w'=.ok u w':=by
 unfold cD at hend
 split at hend
 ·cases hend
 rename_i g2 h2;have m2:=jY hi.mon h2 hwf
 split at hend
 rotate_left
 ·cases hend
 rename_i xs hxs;injection hend with h1 h2';subst h2';subst h1;obtain ⟨w2,γ2,hg2,f2,st2⟩:=A1 hi h2 hwf (fr:=fr) (cs:=cs) hr hx hf hdf hm;obtain ⟨us,hus,hrv⟩:=xV hC (ht.step f2.stp) f2.rel (f2.ext m2 hx) hres hxs;obtain ⟨u,hu,hone⟩:=rx (γ:=γ2) (A:=A) (bd:=bd) hus;exact ⟨u,w2,γ2,hg2,f2,hone hrv,st2,hu⟩
theorem yk (hC:CfgOk C)(hi:IHOk C ih)(hp:PHOk C ph){fn:Func}{r:Stg (T->G->Option (List AV))}(hres:pP C fn.results.toList=some r){v:AV}{df:List ADf}{g':G}(hwf:WF g)(hr:Rel C A bd w γ hg nx)(hx:Ext g.h hg)(hf:Free γ g g')
  {fr:Frame} {cs:List Frame} (ht:TR w γ A bd fn.ntmps t fr.tmps) (hdf:DR w γ A bd df fr.defers) {u:Value} (hm:fr.mode=.panicking [{ v:=u,recovered:=false }]) (hv:RV w γ A bd v u) (hfn:C.P.funcs[fr.fn]?=some fn) :
  (∀x,tc C ih ph (bd+1) r.run v t df g=.ok x g'->∃y w' γ' hg',Fin C A bd w γ hg nx g w' γ' hg' g'/\RV w' γ' A bd x y/\Steps C.P (lone fr cs w) (lone { fr with mode:=.returning,defers:=[] } cs w')/\(results fn fr.tmps).run C.P w'=.ok y w') /\
  (∀x,tc C ih ph (bd+1) r.run v t df g=.pan x g'->∃y w' γ' hg',Fin C A bd w γ hg nx g w' γ' hg' g'/\RV w' γ' A bd x y/\fr.leaving C.P w' (.panicked [{ v:=y,recovered:=false }])/\w'=w):=by
 unfold tc
 split
 ·refine ⟨λx h=>(by cases h),λx h=>?_⟩;injection h with h1 h2;subst h1;subst h2;have hd:fr.defers=[]:=by
   cases hd:fr.defers with
   | nil=>rfl
   | cons d ds=>rw[hd] at hdf;exact hdf.elim
  exact ⟨u,w,γ,hg,Fin.refl hr,hv,⟨hm,hd,fn,hfn⟩,rfl⟩
 ·rename_i f cap args ds
  split
  rotate_left
  ·exact ⟨λx h=>(by cases h),λx h=>(by cases h)⟩
  rename_i g1 h1;refine ⟨λx h=>?_,λx h=>(uQ h).elim⟩;have h:=xH h;have m1:=DF hC.mon hi.mon hp.mon h1 hwf;have wf1:=m1.wf hwf;have m2:=lU hi.mon h wf1;obtain ⟨hent,hrun⟩:=J1 (bd:=bd) hC hi hp h1;cases hd:fr.defers with
  | nil=>rw[hd] at hdf;exact hdf.elim
  | cons d es =>
   rw[hd] at hdf;obtain ⟨⟨f',ys,us,hclo,htar,hys,hargs⟩,hdf⟩:=hdf;injection hclo with e1 e2 e3;subst e1;subst e3
   let fr0:Frame:={ fr with defers:=es }
   obtain ⟨w1,γ1,hg1,frX,val,f1,st,q1,q2⟩:=hrun A w γ hg nx (d.args.toList++us.toList) hr hx hwf (hf.le m2.nx) (by simpa using hargs.append hys) fr0 cs u hv hm;have harr:(d.args.toList++us.toList).toArray=d.args++us:=by apply Array.ext';simp
   rw[harr] at st
   let fr1:Frame:={ fr with defers:=es,mode:=.returning }
   obtain ⟨y,w2,γ2,hg2,f2,rv,st2,hres2⟩:=wo (w:=w1) (γ:=γ1) (hg:=hg1) (fr:=fr1) (cs:=cs) hC hi hres h wf1 f1.rel (f1.ext m1 hx) (f1.freed hr m1 hf) (ht.step f1.stp) (hdf.step f1.stp) rfl;refine ⟨y,w2,γ2,hg2,f1.trans f2 m1 m2,rv,.head (step_defer (by rw[hm];simp) hd htar ?_) (Steps.trans st (.head ?_ st2)),hres2⟩
   ·rw[htar];simp only[invoke];exact hent _ _
   ·have:=step_going_returned (P:=C.P) (c:={ fr0 with mode:=.panicking [{ v:=u,recovered:=true }] }) (cs:=cs) q1 q2;simpa [settle,fr0,fr1] using this
 ·exact ⟨λx h=>(by cases h),λx h=>(by cases h)⟩
theorem sF (hC:CfgOk C)(hi:IHOk C ih)(hp:PHOk C ph){f:Nat}{as:List AV}{v:AV}{g':G} :
  (im C ih ph (bd+1) f as g=.ok v g'->Enters C.P f/\xp C bd f as g v g')/\(im C ih ph (bd+1) f as g=.pan v g'->Enters C.P f/\Fq C bd f as g v g'):=by
 unfold im
 split
 ·exact ⟨λh=>(by cases h),λh=>(by cases h)⟩
 rename_i fn hfn
 split
 rotate_left
 ·exact ⟨λh=>(by cases h),λh=>(by cases h)⟩
 rename_i c r hbody hres;rw[aa]
 split
 ·exact ⟨λh=>(by cases h),λh=>(by cases h)⟩
 rename_i hcond;simp only[Bool.or_eq_true,not_or,Bool.not_eq_true,Bool.not_eq_false'] at hcond;obtain ⟨hname,hle⟩:=hcond;rw[Nat.ble_eq,aw] at hle;have hent:Enters C.P f:=λargs w=>by
  unfold callFunc;have hn : fn.name ≠ "runtime.NumGoroutine" := by simpa using hname
  simp[hfn,hn,hbody]
 have enter:∀(K:CallKind) (vs:List Value),Frame.enter C.P f vs.toArray K=({ (default:Frame) with fn:=f,kind:=K,roundOf:=none }:Frame).atR { tmps:=vs.toArray++Array.replicate (fn.ntmps - vs.toArray.size) undef,defers:=[] } [.code c]:=λK vs=>by simp[Frame.enter,Frame.atR,hfn,hbody]
 split
 ·exact ⟨λh=>(by cases h),λh=>(by cases h)⟩
 ·rename_i e t1 df1 g1 hne hc;refine ⟨λh=>⟨hent,?_⟩,λh=>(uQ h).elim⟩;have h:=xH h;intro A w γ hg nx vs hr hex hwf hf hv K cs hcalm;have m1:=cJ hC.mon hi.mon hp.mon _ hc hwf;have wf1:=m1.wf hwf;have m2:=lU hi.mon h wf1;obtain ⟨a1,w1,γ1,hg1,u1,f1,tr1,dr1,pv1,ar1⟩:=rM hC hi hp c hc A w γ hg nx { (default:Frame) with fn:=f,kind:=K,roundOf:=none } { tmps:=vs.toArray++Array.replicate (fn.ntmps - vs.toArray.size) undef,defers:=[] } [] cs hr hex hwf (hf.le m2.nx) (xr hv hle) trivial rfl hcalm;have hret:∃fr:Frame,Steps C.P (lone (Frame.enter C.P f vs.toArray K) cs w) (lone fr cs w1)/\fr.mode=.returning/\fr.defers=a1.defers/\fr.kind=K/\fr.fn=f/\fr.tmps=a1.tmps:=by
   rw[enter];cases e with
   | norm=>exact ⟨_,Steps.trans ar1 (.one (stepR_end rfl)),rfl,rfl,rfl,rfl,rfl⟩
   | ret =>
    obtain ⟨k₁,ar1⟩:=ar1;exact ⟨_,Steps.trans ar1 (.one (stepR_ret rfl)),rfl,rfl,rfl,rfl,rfl⟩
   | exit j=>exact absurd rfl (hne j)
  obtain ⟨fr,st1,q1,q2,q3,q4,q5⟩:=hret;obtain ⟨u,w2,γ2,hg2,f2,rv,st2,hres2⟩:=wo (w:=w1) (γ:=γ1) (hg:=hg1) (fr:=fr) (cs:=cs) hC hi hres h wf1 f1.rel (f1.ext m1 hex) (f1.freed hr m1 hf) (by rw[q5];exact tr1) (by rw[q2];exact dr1) q1;exact ⟨u,w2,γ2,hg2,f1.trans f2 m1 m2,rv,{ fr with defers:=[] },Steps.trans st1 st2,q1,rfl,q3,q4,fn,hfn,hres2⟩
 ·rename_i v1 t1 df1 g1 hc;have key:∀(A:Nat->Nat->Prop) (w:World) (γ:Gm) (hg:Nat->AObj) (nx:Nat) (vs:List Value),Rel C A bd w γ hg nx->Ext g.h hg->WF g->Free γ g g1->RVs w γ A bd as vs->∀K cs,ni K cs ->
    ∃fr w1 γ1 hg1 u1,Mon g g1/\Fin C A bd w γ hg nx g w1 γ1 hg1 g1/\TR w1 γ1 A bd fn.ntmps t1 fr.tmps/\DR w1 γ1 A bd df1 fr.defers/\RV w1 γ1 A bd v1 u1/\fr.mode=.panicking [{ v:=u1,recovered:=false }]/\fr.kind=K/\fr.fn=f /\
     Steps C.P (lone (Frame.enter C.P f vs.toArray K) cs w) (lone fr cs w1):=by
   intro A w γ hg nx vs hr hex hwf hf hv K cs hcalm;have m1:=cJ hC.mon hi.mon hp.mon _ hc hwf;obtain ⟨a1,w1,γ1,hg1,u1,f1,tr1,dr1,pv1,k₁,ar1⟩:=rM hC hi hp c hc A w γ hg nx { (default:Frame) with fn:=f,kind:=K,roundOf:=none } { tmps:=vs.toArray++Array.replicate (fn.ntmps - vs.toArray.size) undef,defers:=[] } [] cs hr hex hwf hf (xr hv hle) trivial rfl hcalm;rw[enter];exact ⟨_,w1,γ1,hg1,u1,m1,f1,tr1,dr1,pv1,rfl,rfl,rfl,ar1⟩
  refine ⟨λh=>⟨hent,?_⟩,λh=>⟨hent,?_⟩⟩
  ·intro A w γ hg nx vs hr hex hwf hf hv K cs hcalm;have m1:=cJ hC.mon hi.mon hp.mon _ hc hwf;have m2:=td hC.mon hi.mon hp.mon (.inl h) (m1.wf hwf);obtain ⟨fr,w1,γ1,hg1,u1,_,f1,tr1,dr1,rv1,q1,q3,q4,st1⟩:=key A w γ hg nx vs hr hex hwf (hf.le m2.nx) hv K cs hcalm;obtain ⟨u,w2,γ2,hg2,f2,rv,st2,hres2⟩:=(yk (fr:=fr) (cs:=cs) hC hi hp hres (m1.wf hwf) f1.rel (f1.ext m1 hex) (f1.freed hr m1 hf) tr1 dr1 q1 rv1 (by rw[q4];exact hfn)).1 v h;exact ⟨u,w2,γ2,hg2,f1.trans f2 m1 m2,rv,_,Steps.trans st1 st2,rfl,rfl,q3,q4,fn,hfn,hres2⟩
  ·intro A w γ hg nx vs hr hex hwf hf hv K cs hcalm;have m1:=cJ hC.mon hi.mon hp.mon _ hc hwf;have m2:=td hC.mon hi.mon hp.mon (.inr h) (m1.wf hwf);obtain ⟨fr,w1,γ1,hg1,u1,_,f1,tr1,dr1,rv1,q1,q3,q4,st1⟩:=key A w γ hg nx vs hr hex hwf (hf.le m2.nx) hv K cs hcalm;obtain ⟨u,w2,γ2,hg2,f2,rv,hl,rfl⟩:=(yk (fr:=fr) (cs:=cs) hC hi hp hres (m1.wf hwf) f1.rel (f1.ext m1 hex) (f1.freed hr m1 hf) tr1 dr1 q1 rv1 (by rw[q4];exact hfn)).2 v h;exact ⟨u,w2,γ2,hg2,f1.trans f2 m1 m2,rv,fr,st1,hl⟩
 ·exact ⟨λh=>(by cases h),λh=>(by cases h)⟩
theorem L7 (hC:CfgOk C)(n:Nat):∀m,PHOk C (NE C n m):=by
 intro m
 induction m with
 | zero=>exact ⟨zk hC.mon n 0,λbd nt c t df g e t' df' g' h=>(by cases h),λbd f as g v g' h=>(by cases h),λbd f as g v g' h=>(by cases h)⟩
 | succ m ihm =>
  exact ⟨zk hC.mon n (m+1),λbd nt c t df g e t' df' g' h=>rM hC (vZ hC n) ihm c h,λbd f as g v g' h=>(sF hC (vZ hC n) ihm).1 h,λbd f as g v g' h=>(sF hC (vZ hC n) ihm).2 h⟩
end
end
end Hx
end
section
namespace Hx
open Go
noncomputable section
def Oh:PF->FR
 | .ok v g=>.ok v g
 | _=>.fail
def ihP (C:Cfg)(n m:Nat):IH:=⟨λ_ _ _ _ _ _ _=>.fail,λd f as g=>Oh ((NE C n m).call d f as g)⟩
theorem Gu {r:PF}{v:AV}{g:G}(h:Oh r=.ok v g):r=.ok v g:=by
 cases r with
 | ok v' g'=>injection h with h1 h2;rw[h1,h2]
 | fail=>cases h
 | pan v' g'=>cases h
theorem Jd {C:Cfg}(hC:CfgOk C){n m:Nat}:xJ C (ihP C n m):=λbd f as g v g' h=>(L7 hC n m).call bd f as g v g' (Gu h)
theorem Lu {C:Cfg}(hC:CfgOk C){n m:Nat}:tU (ihP C n m):=λd f as g v g' h hwf=>(zk hC.mon n m).call d f as g v g' (.inl (Gu h)) hwf
def N2 (C:Cfg)(n m f:Nat):Nat->List AV->G->OR:=λd as g=>af (ihP C n m) d g f as
theorem Lv {C:Cfg}{ih:IH}(hc:xJ C ih)(hm:tU ih){f:Nat}:ExtOk C f (λd as g=>af ih d g f as):=by refine ⟨λd args g hwf=>rh hwf,λd args g y=>Aa,λA bd w γ hg nx g as vs hr hwf hx hf hv hne cs=>?_⟩;obtain ⟨he,u,w',γ',hg',fin,rv,out⟩:=rk hc hm hr hx hv hne cs;exact ⟨u,w',γ',hg',fin,rv,.inr ⟨he,out⟩⟩
theorem Lw {C:Cfg}(hC:CfgOk C){n m f:Nat}:ExtOk C f (N2 C n m f):=Lv (Jd hC) (Lu hC)
end
end Hx
end
section
namespace Hx
open Go
@[reducible] def oM (d a:Nat):SI:=o d (.mv (.t a))
@[reducible] def oL (d a:Nat):SI:=o d (.load false 1 (.t a))
@[reducible] def oN (d a:Nat):SI:=o d (.len .slice (.t a))
@[reducible] def oF (d n a:Nat):SI:=o d (.fad n (.t a))
@[reducible] def oX (d a b:Nat):SI:=o d (.ixs 1 (.t a) (.t b))
@[reducible] def qI (z:Int):Od:=.k (.int .i64 z)
@[reducible] def oK (d:Nat) (z:Int):SI:=o d (.mv (qI z))
@[reducible] def oA (d a:Nat):SI:=o d (.bin .add (.t a) (qI 1))
@[reducible] def sQ (l:List SI) (x:SC):SC:=.seq (.ops l) x
theorem sz:type_of% (And.intro sx <| And.intro sy <| And.intro @Option.isSome_some.{0} <| And.intro @Option.getD_some.{0} <| And.intro @decide_true <| And.intro @decide_false <| And.intro @Bool.not_true <| And.intro @Bool.not_false <|
 And.intro @SO.run.eq_1 <| And.intro @SO.run.eq_2 <| And.intro @SO.run.eq_3 <| And.intro @SO.run.eq_4 <| And.intro @SO.run.eq_5 <| And.intro @SO.run.eq_6 <| And.intro @SO.run.eq_7 <| And.intro @SO.run.eq_8 <| And.intro @SO.run.eq_9 <| And.intro @SO.run.eq_10 <| And.intro @SO.run.eq_11 <| And.intro @SO.run.eq_12 <| And.intro @SO.run.eq_13 <| And.intro @SO.run.eq_14 <| And.intro @SO.run.eq_15 <| And.intro @SO.run.eq_16 <| And.intro @SO.run.eq_17 <| And.intro @SO.run.eq_18 <| And.intro @SO.run.eq_19 <| And.intro @SO.run.eq_20 <| And.intro @SO.run.eq_21 <| And.intro @SO.run.eq_22 <| And.intro @SO.run.eq_23 <| And.intro @SO.run.eq_24 <| And.intro @SO.run.eq_25 <| And.intro @SO.run.eq_26 <| And.intro @SO.run.eq_27 <| And.intro @SO.run.eq_28 <| And.intro @SO.run.eq_29 <| And.intro @SO.run.eq_30 <| And.intro @SO.run.eq_31 <| @SO.run.eq_32) :=
 And.intro sx <| And.intro sy <| And.intro @Option.isSome_some.{0} <| And.intro @Option.getD_some.{0} <| And.intro @decide_true <| And.intro @decide_false <| And.intro @Bool.not_true <| And.intro @Bool.not_false <|
 And.intro @SO.run.eq_1 <| And.intro @SO.run.eq_2 <| And.intro @SO.run.eq_3 <| And.intro @SO.run.eq_4 <| And.intro @SO.run.eq_5 <| And.intro @SO.run.eq_6 <| And.intro @SO.run.eq_7 <| And.intro @SO.run.eq_8 <| And.intro @SO.run.eq_9 <| And.intro @SO.run.eq_10 <| And.intro @SO.run.eq_11 <| And.intro @SO.run.eq_12 <| And.intro @SO.run.eq_13 <| And.intro @SO.run.eq_14 <| And.intro @SO.run.eq_15 <| And.intro @SO.run.eq_16 <| And.intro @SO.run.eq_17 <| And.intro @SO.run.eq_18 <| And.intro @SO.run.eq_19 <| And.intro @SO.run.eq_20 <| And.intro @SO.run.eq_21 <| And.intro @SO.run.eq_22 <| And.intro @SO.run.eq_23 <| And.intro @SO.run.eq_24 <| And.intro @SO.run.eq_25 <| And.intro @SO.run.eq_26 <| And.intro @SO.run.eq_27 <| And.intro @SO.run.eq_28 <| And.intro @SO.run.eq_29 <| And.intro @SO.run.eq_30 <| And.intro @SO.run.eq_31 <| @SO.run.eq_32
end Hx
end
