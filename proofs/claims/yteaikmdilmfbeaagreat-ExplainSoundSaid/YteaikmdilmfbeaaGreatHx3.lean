/- A part of the proof: what the functions of the chapter compute. -/
import Derived.RangeFuncIn
import Derived.AtR
import Derived.Test.YteaikmdilmfbeaaGreatHx2
set_option linter.all false
set_option maxRecDepth 20000
set_option maxHeartbeats 8000000
namespace Hx
open Go
noncomputable section
variable {g g':G}{d nt k n i f off m j dfr:Nat}{t t':T}{rd:Option Nat}{df df':List ADf}{v fv x:AV}{C:Cfg}{h:H}{P:Nat->Prop}{args cs row:List AV}{op:Op}{assign body:Code}{r:OR}{ps:List Nat}{l:List Int}
section
variable {C:Cfg}
theorem Mon.put{g:G}{id:Nat}{o:AObj}(hwf:WF g)(hid:g.h.get id≠.none):Mon g (g.put id o):=by
 have hi:id<g.nx:=Nat.lt_of_not_le λh=>hid (hwf id h);refine⟨by simp,⟨[id],by simp,λk hk=>?_,λk hk=>?_⟩,λh k hk=>?_⟩
 ·simp only[G.put_h,OE];rw[Qu];simpa using hk
 ·simp at hk;subst hk;exact⟨by simpa using hi,λhn=>absurd hn hid⟩
 ·simp only[G.put_nx]at hk;simp only[G.put_h,OE];rw[Qu (by omega)];exact h k hk
theorem Mon.mk'{g:G}{o:AObj}:Mon g (g.new o):=by
 refine⟨by simp,⟨[g.nx],by simp,λk hk=>?_,λk hk=>?_⟩,λh k hk=>?_⟩
 ·simp only[G.new_h,OE];rw[Qu];simpa using hk
 ·simp at hk;subst hk;simp
 ·simp only[G.new_nx]at hk;simp only[G.new_h,OE];rw[Qu (by omega)];exact h k (by omega)
def Small(g:G):OR->Prop
 |.fail=>True
 |.val _=>True
 |.upd _ g'=>(∃id ob,g'=g.put id ob/\g.h.get id≠.none)\/∃ob,g'=g.new ob
 |.dfr _=>False
theorem Small.mon{g:G}(h:Small g r)(hwf:WF g):Mon g (gOf g r):=by
 cases r with
 | upd v g' =>
  rcases h with⟨id,ob,rfl,h⟩|⟨ob,rfl⟩
  ·exact Mon.put hwf h
  ·exact Mon.mk'
 |_=>exact Mon.refl g
variable {op:Op}{t:T}{g:G}{f:Stg SFn}
theorem lq(x:Option AV):Small g (orV x):=by cases x<;>trivial
theorem vg(sz bytes:Nat)(s:AV)(new:List (List AV)):Small g (a8 sz bytes s new g):=by
 unfold a8;simp only[aa]
 repeat' split
 all_goals first
  |trivial
  |exact .inr ⟨_,rfl⟩
  |exact .inl ⟨_,_,rfl,λhn=>by simp_all⟩
theorem H0{P:Program}{op:BinOp}{ty:TypeId}{y:AV}:Small g ((xl P op ty).run x y):=by
 unfold xl
 split
 ·split
  ·dsimp only;split<;>first|exact lq _|trivial
  ·dsimp only;split<;>trivial
 ·split
  ·dsimp only;split<;>first|exact lq _|trivial
  ·dsimp only;split<;>trivial
 ·dsimp only;split<;>first|exact lq _|trivial
theorem Kz{op:UnOp}:Small g ((unA op).run x):=by
 unfold unA
 split
 ·dsimp only;split<;>trivial
 ·dsimp only;split<;>first|exact lq _|trivial
theorem vp(h:cm C op=some f):Small g (f.run t g):=by
 cases op<;>simp only[cm]at h<;>first| (cases h;done)|skip
 case call c =>
  obtain⟨callee,args,argTypes⟩:=c;cases callee<;>first| (cases h;done)|skip
  rename_i b;dsimp only at h;unfold cZ at h
  split at h
  all_goals
   repeat' (first|split at h| (rw[aa]at h;split at h))
   all_goals first| (cases h;done)|skip
   all_goals (injection h with h;subst h)
   all_goals dsimp only[bY,cQ,kT,zJ,B5,xE]
   all_goals try simp only[aa]
   all_goals repeat' split
   all_goals first
    |trivial
    |exact vg _ _ _ _
    |exact .inr ⟨_,rfl⟩
    |exact .inl ⟨_,_,rfl,λhn=>by simp_all⟩
 all_goals
  repeat' (first|split at h| (rw[aa]at h;split at h))
  all_goals first| (cases h;done)|skip
  all_goals first| (injection h with h;subst h)| (exfalso;injections;done)| (rename_i k _;cases k)
  all_goals dsimp only[l_,nD,AE,IG,mU,ia,jF,gI,l4,te,oB,gZ,dx,fk,fF,ib,iH]
  all_goals first
   |exact lq _
   |exact H0
   |exact Kz
   |skip
  all_goals try simp only[aa]
  all_goals repeat' split
  all_goals first
   |trivial
   |exact lq _
   |exact .inr ⟨_,rfl⟩
   |exact .inl ⟨_,_,rfl,λhn=>by simp_all⟩
   |skip
def dN(C:Cfg):Prop:=∀f e,C.ext f=some e->∀d args g,WF g->Mon g (gOf g (e d args g))
structure IHMon (ih:IH):Prop where
 code:∀nt d rd c t df g e t' df' g',ih.code nt d rd c t df g=.ok e t' df' g'->WF g->Mon g g'
 call:wy ih
variable {ih:IH}
theorem EO(hi:IHMon ih){id:Nat}{g:G}(hwf:WF g):Mon g (gOf g (cE ih d id args g)):=by
 unfold cE
 split
 ·split
  ·exact Mon.refl g
  ·split
   ·rename_i t1 g1 h1;have e:=hi.code _ _ _ _ _ _ _ _ _ _ _ h1 hwf;have w1:WF g1:=e.wf hwf
    split
    ·rename_i a
     split
     ·rename_i g2 h2;have c:g1.h.get id≠.none:=by rw[<-G.get_eq,a];simp
      have f:=λo=>Mon.put (o:=o) w1 c;have j:=hi.code _ _ _ _ _ _ _ _ _ _ _ h2 ((f _).wf w1);have i:=e.trans ((f _).trans j)
      split
      ·rename_i k;have b:g2.h.get id≠.none:=by rw[<-G.get_eq,k];simp
       split
       all_goals exact i.trans (Mon.put (i.wf hwf) b)
      ·exact Mon.refl g
     ·exact Mon.refl g
    ·exact Mon.refl g
   ·exact Mon.refl g
 ·exact Mon.refl g
theorem Ge{g:G}{r:FR}(h:∀v g',r=.ok v g'->Mon g g'):Mon g (gOf g (orF r)):=by
 cases r with
 |fail=>exact Mon.refl g
 |ok v g'=>exact h v g' rfl
theorem G2(he:dN C)(hi:IHMon ih){vs:List AV}{g:G}(hwf:WF g):Mon g (gOf g (jo C ih d fv vs g)):=by
 unfold jo
 split
 ·split
  ·rename_i e h;exact he _ e h _ _ g hwf
  ·rw[aa]
   split
   ·exact rx hwf
   ·exact Ge λv g' h=>hi.call _ _ _ _ _ _ h hwf
 ·exact EO hi hwf
 ·exact Mon.refl g
theorem Li(he:dN C)(hi:IHMon ih){op:Op}{f:Stg Ik}(h:cOp C op=some f){t:T}{g:G}(hwf:WF g) :
  Mon g (gOf g (f.run ih d rd t g)):=by
 unfold cOp at h
 split at h
 ·split at h
  ·split at h
   ·rename_i e k;injection h with h;subst h;exact he _ e k _ _ g hwf
   ·rw[aa]at h
    split at h
    ·injection h with h;subst h;exact rx hwf
    ·injection h with h;subst h;exact Ge λv g' h=>hi.call _ _ _ _ _ _ h hwf
  ·cases h
 ·split at h
  ·injection h with h;subst h;exact G2 he hi hwf
  ·cases h
 ·injection h with h;subst h;exact Mon.refl g
 ·split at h
  ·injection h with h;subst h;dsimp only
   split
   ·exact Mon.refl g
   ·split<;>exact Mon.refl g
  ·cases h
 ·split at h
  ·rename_i s hs;injection h with h;subst h;exact (vp hs).mon hwf
  ·cases h
theorem iO(he:dN C)(hi:IHMon ih){op:Op}{t:T}{g:G}(hwf:WF g) :
  Mon g (gOf g ((bS C op).run ih d rd t g)):=by
 unfold bS
 split
 ·rename_i f hf;exact Li he hi hf hwf
 ·exact Mon.refl g
theorem yU{out:T->AV->T}{next:T->List ADf->G->CR}{t:T}{g:G}{e:Ex}
  (h:nF out next t df g r=.ok e t' df' g') (hwf:WF g) (hr:Mon g (gOf g r)) (hn:∀t df g1,next t df g1=.ok e t' df' g'->WF g1->Mon g1 g'):Mon g g':=by
 cases r with
 |fail=>cases h
 |val v=>exact hn _ _ _ h hwf
 |upd v g1=>exact hr.trans (hn _ _ _ h (hr.wf hwf))
 |dfr a=>exact hn _ _ _ h hwf
theorem xw(he:dN C)(hi:IHMon ih){all:List Oper}:∀{ops:List Oper} {d:Nat} {rd:Option Nat} {t:T} {df:List ADf} {g:G} {e:Ex} {t':T} {df':List ADf} {g':G},
  (jA C nt all ops).run ih d rd t df g=.ok e t' df' g'->WF g->Mon g g':=by
 intro ops
 induction ops with
 |nil=>intro d rd t df g e t' df' g' h _;simp only[jA]at h;injection h with _ _ _ h;subst h;exact Mon.refl _
 | cons o rest ihl =>
  intro d rd t df g e t' df' g' h k;simp only[jA]at h
  split at h
  ·split at h
   ·exact yU h k (iO he hi k) λ_ _ _ h1 h2=>ihl h1 h2
   ·split at h
    ·dsimp only at h
     split at h
     ·exact yU h k (iO he hi k) λ_ _ _ h1 h2=>ihl h1 h2
     ·exact ihl h k
     ·cases h
    ·cases h
  ·cases h
theorem WF.setLog{g:G}{l:List Nat}(h:WF g):WF (aJ g l):=λid hid=>by simp only[setLog_nx]at hid;simp only[setLog_h];exact h id hid
theorem OF{g:G}:Mon g (nK g g.lg) :=
 ⟨by simp,⟨[],by simp,λid _=>by simp,λ_ h=>absurd h QH⟩,λh id hid=>by simp only[bumpG_nx]at hid;simp only[bumpG_h];exact h id (by omega)⟩
theorem OG{g g1:G}(h:Mon (aJ g []) g1):Mon g (nK g1 (g1.lg++g.lg)):=by
 obtain⟨n,a,b,c⟩:=h.new;have d:g.nx<=g1.nx:=by simpa using h.nx
 refine⟨by simp;omega,⟨g1.lg,by simp,λid hid=>?_,λid hid=>?_⟩,λhw id hid=>?_⟩
 ·have e:g1.lg=n:=by simpa using a
  rw[e]at hid;have:=b id hid;simpa using this
 ·have e:g1.lg=n:=by simpa using a
  rw[e]at hid;have:=c id hid;simp only[setLog_h,setLog_nx]at this;exact⟨by simp;omega,this.2⟩
 ·simp only[bumpG_nx]at hid;simp only[bumpG_h];exact h.wf (λk hk=>by simp only[setLog_nx]at hk;simp only[setLog_h];exact hw k hk) id (by omega)
theorem GY(he:dN C)(hi:IHMon ih){pm:List Nat}{all:List Oper}:∀{ops:List Oper} {i d:Nat} {rd:Option Nat} {t:T} {df:List ADf} {g:G} {fs:List Foot} {e:Ex} {t':T} {df':List ADf} {g':G},
  (iL C nt pm all i ops).run ih d rd t df g fs=.ok e t' df' g'->WF g->Mon g g':=by
 intro ops
 induction ops with
 | nil =>
  intro i d rd t df g fs e t' df' g' h _;simp only[iL,aa]at h
  split at h
  ·injection h with _ _ _ h;subst h;exact Mon.refl _
  ·cases h
 | cons o rest ihl =>
  intro i d rd t df g fs e t' df' g' h k;simp only[iL]at h
  split at h
  ·dsimp only at h
   split at h
   ·have hm:=iO (op:=o.op) (d:=d) (rd:=rd) (t:=t) he hi (k.setLog (l:=[]));generalize (bS C o.op).run ih d rd t (aJ g [])=r at h hm;cases r with
    |fail=>cases h
    |val v=>exact OF.trans (ihl h (OF.wf k))
    | upd v g1 =>
     have b:=OG hm;exact b.trans (ihl h (b.wf k))
    |dfr a=>cases h
   ·exact ihl h k
   ·cases h
  ·cases h
theorem B3(he:dN C)(hi:IHMon ih){ops:List Oper}{draw:Bool}{t:T}{g:G}{e:Ex}
  (h:(fB C nt ops draw).run ih d rd t df g=.ok e t' df' g') (hwf:WF g):Mon g g':=by
 unfold fB at h;rw[aa]at h
 split at h
 ·rw[aa]at h
  split at h
  ·rw[aa]at h
   split at h
   ·dsimp only at h;unfold mf at h
    split at h
    ·split at h
     ·rw[aa]at h
      split at h
      ·injection h with _ _ _ h;subst h;exact Mon.refl _
      ·cases h
     ·cases h
    ·cases h
   ·exact GY he hi h hwf
  ·cases h
 ·exact xw he hi h hwf
theorem uj(hi:IHMon ih){id:Nat}{t:T}{g:G}{e:Ex}
  (h:dK ih nt d rd id t df g=.ok e t' df' g') (hwf:WF g):Mon g g':=by
 unfold dK at h
 split at h
 ·rename_i k;have a:g.h.get id≠.none:=by rw[<-G.get_eq,k];simp
  have m:∀o,Mon g (g.put id o):=λo=>Mon.put hwf a
  split at h
  ·cases h
  ·split at h
   ·injection h with _ _ _ h;subst h;exact m _
   ·exact (m _).trans (hi.code _ _ _ _ _ _ _ _ _ _ _ h ((m _).wf hwf))
 ·cases h
theorem nB(hi:IHMon ih){t:T}{g:G}{e:Ex}
  (h:cJ C ih nt d rd fv ps assign body t df dfr g=.ok e t' df' g') (hwf:WF g):Mon g g':=by
 unfold cJ at h
 split at h
 ·rw[aa]at h
  split at h
  ·cases h
  ·split at h
   ·rename_i v g2 h2;have k:Mon g (g.new (.loop nt t ps assign body dfr .ready none)):=Mon.mk';have b:=hi.call _ _ _ _ _ _ h2 (k.wf hwf);have a:=k.trans b;exact a.trans (uj hi h (a.wf hwf))
   ·cases h
 ·cases h
theorem EI(hi:IHMon ih){fo:T->AV}{t:T}{g:G}{e:Ex}
  (h:mg C nt fo ps assign body ih d rd t df g=.ok e t' df' g') (hwf:WF g):Mon g g':=by
 unfold mg at h
 split at h
 ·split at h
  ·exact nB hi h hwf
  ·cases h
 ·have k:Mon g (g.new (.dfr true)):=Mon.mk';exact k.trans (nB hi h (k.wf hwf))
theorem jz(he:dN C)(hi:IHMon ih):∀(c:Code) {d:Nat} {rd:Option Nat} {t:T} {df:List ADf} {g:G} {e:Ex} {t':T} {df':List ADf} {g':G},
  (aL C nt c).run ih d rd t df g=.ok e t' df' g'->WF g->Mon g g':=by
 intro c;have now:∀{e e':Ex} {t t':T} {df df':List ADf} {g g':G},CR.ok e' t df g=.ok e t' df' g'->Mon g g':=by intro e e' t t' df df' g g' h;injection h with _ _ _ h;subst h;exact Mon.refl _
 induction c with
 |skip=>intro d rd t df g e t' df' g' h _;exact now h
 |label l=>intro d rd t df g e t' df' g' h _;exact now h
 |region id ops draw=>intro d rd t df g e t' df' g' h k;exact B3 he hi h k
 | seq a b iha ihb =>
  intro d rd t df g e t' df' g' h k;simp only[aL]at h;generalize hr:(aL C nt a).run ih d rd t df g=r at h;cases r with
  |fail=>cases h
  | ok e1 t1 df1 g1 =>
   have i:=iha hr k;cases e1 with
   |norm=>exact i.trans (ihb h (i.wf k))
   |exit j=>exact i.trans (now h)
   |ret=>exact i.trans (now h)
 | cond c a b iha ihb =>
  intro d rd t df g e t' df' g' h k;simp only[aL]at h
  split at h
  ·dsimp only at h
   split at h
   ·rw[aa]at h
    split at h
    ·exact iha h k
    ·exact ihb h k
   ·cases h
  ·cases h
 | block id body ihb =>
  intro d rd t df g e t' df' g' h k;simp only[aL]at h;generalize hr:(aL C nt body).run ih d rd t df g=r at h;cases r with
  |fail=>cases h
  | ok e1 t1 df1 g1 =>
   have i:=ihb hr k;cases e1 with
   |norm=>exact i.trans (now h)
   | exit j =>
    simp only[sU,aa]at h
    split at h
    ·exact i.trans (now h)
    ·exact i.trans (now h)
   |ret=>exact i.trans (now h)
 | loop body ihb =>
  intro d rd t df g e t' df' g' h k;simp only[aL]at h;generalize hr:(aL C nt body).run ih d rd t df g=r at h;cases r with
  |fail=>cases h
  | ok e1 t1 df1 g1 =>
   have i:=ihb hr k;cases e1 with
   |norm=>exact i.trans (hi.code _ _ _ _ _ _ _ _ _ _ _ h (i.wf k))
   |exit j=>exact i.trans (now h)
   |ret=>exact i.trans (now h)
 |scope body ihb=>intro d rd t df g e t' df' g' h k;exact ihb h k
 |exit id=>intro d rd t df g e t' df' g' h _;exact now h
 |ret=>intro d rd t df g e t' df' g' h _;exact now h
 | rangeFunc f ps assign body _ _ =>
  intro d rd t df g e t' df' g' h k;simp only[aL]at h
  split at h
  ·exact EI hi h k
  ·cases h
 |_=>intro d rd t df g e t' df' g' h _;cases h
theorem lf(hi:IHMon ih):∀{df:List ADf} {g g':G},dM ih d df g=some g'->WF g->Mon g g':=by
 intro df
 induction df with
 |nil=>intro g g' h _;simp only[dM]at h;injection h with h;subst h;exact Mon.refl _
 | cons a df ihl =>
  intro g g' h k;cases a with
  | mark id =>
   simp only[dM]at h
   split at h
   ·rename_i b;have m:Mon g (g.put id (.dfr false)):=Mon.put k (by rw[<-G.get_eq,b];simp);exact m.trans (ihl h (m.wf k))
   ·cases h
  | call f args =>
   cases f<;>simp only[dM]at h<;>first| (cases h;done)|skip
   split at h
   ·rename_i v g1 h1;have m:=hi.call _ _ _ _ _ _ h1 k;exact m.trans (ihl h (m.wf k))
   ·cases h
theorem Lg(he:dN C)(hi:IHMon ih){f:Nat}{x:Stg (IH->Nat->List AV->G->FR)}(hx:cFn C f=some x){g:G}
  (h:x.run ih d args g=.ok v g') (hwf:WF g):Mon g g':=by
 unfold cFn at hx
 split at hx
 ·cases hx
 split at hx
 ·cases hx
 split at hx
 ·rw[aa]at hx
  split at hx
  ·cases hx
  injection hx with hx;subst hx;dsimp only at h;rw[aa]at h
  split at h
  ·split at h
   ·cases h
   ·rename_i hc;have k:=jz he hi _ hc hwf;unfold bD at h
    split at h
    ·cases h
    ·rename_i g2 h2;have a:=lf hi h2 (k.wf hwf)
     split at h
     ·injection h with _ h;subst h;exact k.trans a
     ·cases h
   ·cases h
  ·cases h
 ·cases hx
theorem wV(he:dN C):∀n,IHMon (sem C n):=by
 intro n
 induction n with
 |zero=>exact⟨λnt d rd c t df g e t' df' g' h=>(by cases h),λd f as g v g' h=>(by cases h)⟩
 | succ n ihn =>
  refine⟨λnt d rd c t df g e t' df' g' h hwf=>jz he ihn c h hwf,λd f as g v g' h hwf=>?_⟩;change d8 C (sem C n) d f as g=.ok v g' at h;unfold d8 at h
  split at h
  ·rename_i x hx;exact Lg he ihn hx h hwf
  ·cases h
end
section
def CLe(a b:CR):Prop:=a=.fail\/a=b
def FLe(a b:FR):Prop:=a=.fail\/a=b
def OLe(a b:OR):Prop:=a=.fail\/a=b
structure IHLe (i j:IH):Prop where
 code:∀nt d rd c t df g,CLe (i.code nt d rd c t df g) (j.code nt d rd c t df g)
 call:∀d f as g,FLe (i.call d f as g) (j.call d f as g)
variable {i j:IH}
theorem yb(h:IHLe i j):OLe (ap i d g f args) (ap j d g f args):=by
 unfold ap
 split
 ·exact .inl rfl
 ·rename_i as _;rcases h.call (Nat.succ d) f as G.empty with e|e<;>rw[e]
  ·exact .inl rfl
  ·exact .inr rfl
theorem HT(h:IHLe i j){id:Nat}:OLe (cE i d id args g) (cE j d id args g):=by
 unfold cE
 split
 ·split
  ·exact .inl rfl
  ·rename_i nt t ps assign body dfr st pend hg o t' ht;rcases h.code nt d (some id) assign t' [] g with e|e<;>rw[e]
   ·exact .inl rfl
   ·split
    ·split
     ·rename_i t1 g1 _ _ nt1 k ps2 assign1 body1 dfr1 pend1 _;rcases h.code nt d (some id) body t1 [] (g1.put id (.loop nt1 k ps2 assign1 body1 dfr1 .busy pend1)) with e|e<;>rw[e]
      ·exact .inl rfl
      ·exact .inr rfl
     ·exact .inl rfl
    ·exact .inl rfl
 ·exact .inl rfl
theorem J1{a b:FR}(h:FLe a b):OLe (orF a) (orF b):=by
 rcases h with h|h<;>rw[h]
 ·exact .inl rfl
 ·exact .inr rfl
theorem IL(h:IHLe i j){vs:List AV}:OLe (jo C i d fv vs g) (jo C j d fv vs g):=by
 unfold jo
 split
 ·split
  ·exact .inr rfl
  ·rw[aa,aa]
   split
   ·exact yb h
   ·exact J1 (h.call _ _ _ _)
 ·exact HT h
 ·exact .inl rfl
theorem As{out:T->AV->T}{n m:T->List ADf->G->CR}{a b:OR}(h:OLe a b)(hn:∀t df g,CLe (n t df g) (m t df g)) :
  CLe (nF out n t df g a) (nF out m t df g b):=by
 rcases h with h|h<;>rw[h]
 ·exact .inl rfl
 ·cases b with
  |fail=>exact .inl rfl
  |val v=>exact hn _ _ _
  |upd v g'=>exact hn _ _ _
  |dfr a=>exact hn _ _ _
theorem DE{out:T->AV->T}{n m:T->List ADf->G->List Foot->CR}{fs:List Foot}{lk:Looks}{a b:OR}(h:OLe a b)
  (hn:∀t df g fs,CLe (n t df g fs) (m t df g fs)):CLe (j8 out n t df g fs lk a) (j8 out m t df g fs lk b):=by
 rcases h with h|h<;>rw[h]
 ·exact .inl rfl
 ·cases b with
  |fail=>exact .inl rfl
  |val v=>exact hn _ _ _ _
  |upd v g'=>exact hn _ _ _ _
  |dfr a=>exact .inl rfl
theorem Gw{n m:T->List ADf->G->CR}{a b:CR}(h:CLe a b)(hn:∀t df g,CLe (n t df g) (m t df g)):CLe (zm n a) (zm m b):=by
 rcases h with h|h<;>rw[h]
 ·exact .inl rfl
 ·unfold zm
  split
  ·exact hn _ _ _
  ·exact .inr rfl
theorem GW{id:Nat}{a b:CR}(h:CLe a b):CLe (sU id a) (sU id b):=by
 rcases h with h|h<;>rw[h]
 ·exact .inl rfl
 ·exact .inr rfl
theorem C9{a b:CR}(h:CLe a b):CLe (mf g a) (mf g b):=by
 rcases h with h|h<;>rw[h]
 ·exact .inl rfl
 ·exact .inr rfl
theorem Nf(h:IHLe i j){x:Stg Ik}(hx:cOp C op=some x):OLe (x.run i d rd t g) (x.run j d rd t g):=by
 unfold cOp at hx
 repeat' (first|split at hx|rw[aa]at hx)
 all_goals first
  | (cases hx;done)
  | (injection hx with hx;subst hx;first|exact .inr rfl|exact yb h|exact J1 (h.call _ _ _ _)|exact IL h)
theorem AK(h:IHLe i j):OLe ((bS C op).run i d rd t g) ((bS C op).run j d rd t g):=by
 unfold bS
 split
 ·rename_i x hx;exact Nf h hx
 ·exact .inl rfl
theorem tK{C:Cfg}(h:IHLe i j){nt:Nat}{all:List Oper}:∀(l:List Oper) (d:Nat) (rd:Option Nat) (t:T) (df:List ADf) (g:G),
  CLe ((jA C nt all l).run i d rd t df g) ((jA C nt all l).run j d rd t df g)
 |[],_,_,_,_,_=>.inr rfl
 | o::rest,d,rd,t,df,g=>by
  unfold jA
  split
  ·split
   ·exact As (AK h) λt df g=>tK h rest d rd t df g
   ·split
    ·dsimp only
     split
     ·exact As (AK h) λt df g=>tK h rest d rd t df g
     ·exact tK h rest d rd _ df g
     ·exact .inl rfl
    ·exact .inl rfl
  ·exact .inl rfl
theorem xu{C:Cfg}(h:IHLe i j){nt:Nat}{pm:List Nat}{all:List Oper}:∀(l:List Oper) (k d:Nat) (rd:Option Nat) (t:T) (df:List ADf) (g:G) (fs:List Foot),
  CLe ((iL C nt pm all k l).run i d rd t df g fs) ((iL C nt pm all k l).run j d rd t df g fs)
 |[],_,_,_,_,_,_,_=>.inr rfl
 | o::rest,k,d,rd,t,df,g,fs=>by
  unfold iL
  split
  ·dsimp only
   split
   ·exact DE (AK h) λt df g fs=>xu h rest (k+1) d rd t df g fs
   ·exact xu h rest (k+1) d rd _ df g _
   ·exact .inl rfl
  ·exact .inl rfl
theorem Ea(h:IHLe i j){ops:List Oper}{draw:Bool} :
  CLe ((fB C nt ops draw).run i d rd t df g) ((fB C nt ops draw).run j d rd t df g):=by
 unfold fB;rw[aa,aa,aa]
 split
 ·split
  ·split
   ·exact C9 (tK h _ _ _ _ _ _)
   ·exact xu h _ _ _ _ _ _ _ _
  ·exact .inl rfl
 ·exact tK h _ _ _ _ _ _
theorem Da(h:IHLe i j){id:Nat}:CLe (dK i nt d rd id t df g) (dK j nt d rd id t df g):=by
 unfold dK
 split
 ·split
  ·exact .inl rfl
  ·split
   ·exact .inr rfl
   ·exact h.code _ _ _ _ _ _ _
 ·exact .inl rfl
theorem ui(h:IHLe i j) :
  CLe (cJ C i nt d rd fv ps assign body t df dfr g) (cJ C j nt d rd fv ps assign body t df dfr g):=by
 unfold cJ
 split
 ·rename_i f first cap
  rw[aa,aa]
  split
  ·exact .inl rfl
  ·rcases h.call d f (first++(.yld g.nx::cap)) (g.new (.loop nt t ps assign body dfr .ready none)) with e|e<;>rw[e]
   ·exact .inl rfl
   ·split
    ·exact Da h
    ·exact .inl rfl
 ·exact .inl rfl
theorem HL(h:IHLe i j){fo:T->AV} :
  CLe (mg C nt fo ps assign body i d rd t df g) (mg C nt fo ps assign body j d rd t df g):=by
 unfold mg
 split
 ·split
  ·exact ui h
  ·exact .inl rfl
 ·exact ui h
theorem B0(h:IHLe i j):∀(c:Code) (d:Nat) (rd:Option Nat) (t:T) (df:List ADf) (g:G),
  CLe ((aL C nt c).run i d rd t df g) ((aL C nt c).run j d rd t df g):=by
 intro c
 induction c with
 |seq a b iha ihb=>intro d rd t df g;unfold aL;exact Gw (iha _ _ _ _ _) λt df g=>ihb _ _ _ _ _
 | cond q a b iha ihb =>
  intro d rd t df g;unfold aL
  split
  ·dsimp only
   split
   ·rw[aa,aa]
    split
    ·exact iha _ _ _ _ _
    ·exact ihb _ _ _ _ _
   ·exact .inl rfl
  ·exact .inl rfl
 |block id body ih=>intro d rd t df g;unfold aL;exact GW (ih _ _ _ _ _)
 |loop body ih=>intro d rd t df g;unfold aL;exact Gw (ih _ _ _ _ _) λt df g=>h.code _ _ _ _ _ _ _
 |scope body ih=>intro d rd t df g;unfold aL;exact ih _ _ _ _ _
 |region p ops draw=>intro d rd t df g;unfold aL;exact Ea h
 | rangeFunc f ps assign body _ _ =>
  intro d rd t df g;unfold aL
  split
  ·exact HL h
  ·exact .inl rfl
 |_=>intro d rd t df g;first|exact .inr rfl|exact .inl rfl
def ULe(a b:Option G):Prop:=a=none\/a=b
theorem Kp(h:IHLe i j):∀(l:List ADf) (g:G),ULe (dM i d l g) (dM j d l g):=by
 intro l
 induction l with
 |nil=>intro g;exact .inr rfl
 | cons a l ih =>
  intro g;cases a with
  | mark id =>
   simp only[dM]
   split
   ·exact ih _
   ·exact .inl rfl
  | call fv args =>
   cases fv with
   | clo f first cap =>
    simp only[dM];rcases h.call d f (first++(args++cap)) g with e|e<;>rw[e]
    ·exact .inl rfl
    ·split
     ·exact ih _
     ·exact .inl rfl
   |_=>exact .inl rfl
theorem Eg(h:IHLe i j){res:T->G->Option (List AV)}:FLe (bD i d res t df g) (bD j d res t df g):=by
 unfold bD;rcases Kp h (d:=d) df g with e|e<;>rw[e]
 ·exact .inl rfl
 ·exact .inr rfl
theorem B4(h:IHLe i j):FLe (d8 C i d f args g) (d8 C j d f args g):=by
 unfold d8
 split
 ·rename_i x hx;unfold cFn at hx
  split at hx
  ·cases hx
  rename_i fn b
  split at hx
  ·cases hx
  rename_i c k
  split at hx
  rotate_left
  ·cases hx
  rename_i r a;rw[aa]at hx
  split at hx
  ·cases hx
  injection hx with hx;subst hx;dsimp only;rw[aa,aa]
  split
  ·rcases B0 h (C:=C) (nt:=fn.ntmps) c d none (bk 0 args .nil) [] g with e|e<;>rw[e]
   ·exact .inl rfl
   ·split
    ·exact .inl rfl
    ·exact Eg h
    ·exact .inl rfl
  ·exact .inl rfl
 ·exact .inl rfl
theorem H4(h:IHLe i j):IHLe (E6 C i) (E6 C j) :=
 ⟨λnt d rd c t df g=>B0 h c d rd t df g,λd f as g=>B4 h⟩
theorem vX(C:Cfg):∀n,IHLe (sem C n) (sem C (n+1))
 |0=>⟨λ_ _ _ _ _ _ _=>.inl rfl,λ_ _ _ _=>.inl rfl⟩
 |n+1=>H4 (vX C n)
theorem Ks(C:Cfg)(h:n<=m):IHLe (sem C n) (sem C m):=by
 induction h with
 |refl=>exact⟨λ_ _ _ _ _ _ _=>.inr rfl,λ_ _ _ _=>.inr rfl⟩
 | @step k h ih =>
  have s:=vX C k;refine⟨λnt d rd c t df g=>?_,λd f as g=>?_⟩
  ·rcases ih.code nt d rd c t df g with e|e
   ·exact .inl e
   ·rw[e];exact s.code _ _ _ _ _ _ _
  ·rcases ih.call d f as g with e|e
   ·exact .inl e
   ·rw[e];exact s.call _ _ _ _
end
section
open Classical in
noncomputable def I(C:Cfg):IH :=
 ⟨λnt d rd c t df g=>if h:∃n,(sem C n).code nt d rd c t df g≠.fail then (sem C (Classical.choose h)).code nt d rd c t df g else .fail,
  λd f as g=>if h:∃n,(sem C n).call d f as g≠.fail then (sem C (Classical.choose h)).call d f as g else .fail⟩
def Ct(C:Cfg){α:Type}(F:IH->α):Prop:=∃n,∀m,n<=m->F (sem C m)=F (I C)
variable {C:Cfg}
theorem Ct.const{α:Type}(a:α):Ct C (λ_=>a):=⟨0,λ_ _=>rfl⟩
theorem Ct.bind{α β:Type}{F:IH->α}{K:IH->α->β}(h:Ct C F)(hk:Ct C λj=>K j (F (I C))):Ct C λj=>K j (F j):=by obtain⟨n,h⟩:=h;obtain⟨m,hk⟩:=hk;refine⟨max n m,λk hm=>?_⟩;have h1:=h k (by omega);have h2:=hk k (by omega);simp only[h1];exact h2
theorem Ct.map{α β:Type}{F:IH->α}(K:α->β)(h:Ct C F):Ct C λj=>K (F j):=Ct.bind (K:=λ_=>K) h (.const _)
theorem Ct.code(nt d:Nat)(rd:Option Nat)(c:Code)(t:T)(df:List ADf)(g:G):Ct C λj=>j.code nt d rd c t df g:=by
 by_cases h:∃n,(sem C n).code nt d rd c t df g≠.fail
 ·refine⟨Classical.choose h,λm hm=>?_⟩;have hs:=Classical.choose_spec h;have e:(I C).code nt d rd c t df g=(sem C (Classical.choose h)).code nt d rd c t df g:=dif_pos h;show _=(I C).code nt d rd c t df g;rw[e];rcases (Ks C hm).code nt d rd c t df g with q|q
  ·exact absurd q hs
  ·exact q.symm
 ·refine⟨0,λm _=>?_⟩;have e:(I C).code nt d rd c t df g=.fail:=dif_neg h;show _=(I C).code nt d rd c t df g;rw[e];exact RJ λq=>h ⟨m,q⟩
theorem Ct.call(d f:Nat)(as:List AV)(g:G):Ct C λj=>j.call d f as g:=by
 by_cases h:∃n,(sem C n).call d f as g≠.fail
 ·refine⟨Classical.choose h,λm hm=>?_⟩;have hs:=Classical.choose_spec h;have e:(I C).call d f as g=(sem C (Classical.choose h)).call d f as g:=dif_pos h;show _=(I C).call d f as g;rw[e];rcases (Ks C hm).call d f as g with q|q
  ·exact absurd q hs
  ·exact q.symm
 ·refine⟨0,λm _=>?_⟩;have e:(I C).call d f as g=.fail:=dif_neg h;show _=(I C).call d f as g;rw[e];exact RJ λq=>h ⟨m,q⟩
theorem xI:Ct C λj=>ap j d g f args:=by
 unfold ap
 split
 ·exact .const _
 ·rename_i as _;obtain⟨n,h⟩:=Ct.call (C:=C) (Nat.succ d) f as G.empty;exact⟨n,λm hm=>by
   have e:(sem C m).call (Nat.succ d) f as G.empty=(I C).call (Nat.succ d) f as G.empty:=h m hm;simp only[e]⟩
theorem Hb{id:Nat}:Ct C λj=>cE j d id args g:=by
 unfold cE
 split
 ·split
  ·exact .const _
  ·rename_i nt t ps assign body dfr st pend hg o t' ht;refine Ct.bind (K:=λj r=>match r with
    | .ok .norm t1 [] g1=>match g1.get id with
     | .loop nt1 t ps assign1 body1 dfr .ready pend =>
      match j.code nt d (some id) body t1 [] (g1.put id (.loop nt1 t ps assign1 body1 dfr .busy pend)) with
      | .ok e _ [] g2=>match g2.get id with
       | .loop nt t ps assign body dfr _ _=>match e with
        |.norm=>OR.upd (.bool true) (g2.put id (.loop nt t ps assign body dfr .ready none))
        |.exit j=>.upd (.bool false) (g2.put id (.loop nt t ps assign body dfr .done (some (.exit j))))
        |.ret=>.upd (.bool false) (g2.put id (.loop nt t ps assign body dfr .done (some .ret)))
       |_=>.fail
      |_=>.fail
     |_=>.fail
    |_=>.fail) (Ct.code nt d (some id) assign t' [] g) ?_
   split
   ·split
    ·rename_i t1 g1 _ _ nt1 h ps2 assign1 body1 dfr1 pend1 _;exact Ct.map (λr=>match r with
      | .ok e _ [] g2=>match g2.get id with
       | .loop nt t ps assign body dfr _ _=>match e with
        |.norm=>OR.upd (.bool true) (g2.put id (.loop nt t ps assign body dfr .ready none))
        |.exit j=>.upd (.bool false) (g2.put id (.loop nt t ps assign body dfr .done (some (.exit j))))
        |.ret=>.upd (.bool false) (g2.put id (.loop nt t ps assign body dfr .done (some .ret)))
       |_=>.fail
      |_=>.fail) (Ct.code nt d (some id) body t1 [] (g1.put id (.loop nt1 h ps2 assign1 body1 dfr1 .busy pend1)))
    ·exact .const _
   ·exact .const _
 ·exact .const _
theorem IV{vs:List AV}:Ct C λj=>jo C j d fv vs g:=by
 unfold jo
 split
 ·split
  ·exact .const _
  ·simp only[aa]
   split
   ·exact xI
   ·exact Ct.map orF (Ct.call _ _ _ _)
 ·exact Hb
 ·exact .const _
theorem Ni{x:Stg Ik}(hx:cOp C op=some x):Ct C λj=>x.run j d rd t g:=by
 unfold cOp at hx
 repeat' (first|split at hx|rw[aa]at hx)
 all_goals first
  | (cases hx;done)
  | (injection hx with hx;subst hx;first|exact Ct.const _|exact xI|exact Ct.map orF (Ct.call _ _ _ _)|exact IV)
theorem AN:Ct C λj=>(bS C op).run j d rd t g:=by
 unfold bS
 split
 ·rename_i x hx;exact Ni hx
 ·exact .const _
theorem zK{out:T->AV->T}{n:IH->T->List ADf->G->CR}{a:IH->OR}(h:Ct C a)(hn:∀t df g,Ct C λj=>n j t df g) :
  Ct C λj=>nF out (n j) t df g (a j):=by
 refine Ct.bind (K:=λj r=>nF out (n j) t df g r) h ?_;cases a (I C) with
 |fail=>exact .const _
 |val v=>exact hn _ _ _
 |upd v g'=>exact hn _ _ _
 |dfr a=>exact hn _ _ _
theorem Ca{out:T->AV->T}{n:IH->T->List ADf->G->List Foot->CR}{fs:List Foot}{lk:Looks}{a:IH->OR}(h:Ct C a)
  (hn:∀t df g fs,Ct C λj=>n j t df g fs):Ct C λj=>j8 out (n j) t df g fs lk (a j):=by
 refine Ct.bind (K:=λj r=>j8 out (n j) t df g fs lk r) h ?_;cases a (I C) with
 |fail=>exact .const _
 |val v=>exact hn _ _ _ _
 |upd v g'=>exact hn _ _ _ _
 |dfr a=>exact .const _
theorem FD{n:IH->T->List ADf->G->CR}{a:IH->CR}(h:Ct C a)(hn:∀t df g,Ct C λj=>n j t df g):Ct C λj=>zm (n j) (a j):=by
 refine Ct.bind (K:=λj r=>zm (n j) r) h ?_;unfold zm
 split
 ·exact hn _ _ _
 ·exact .const _
theorem tN{nt:Nat}{all:List Oper}:∀(l:List Oper) (d:Nat) (rd:Option Nat) (t:T) (df:List ADf) (g:G),Ct C λj=>(jA C nt all l).run j d rd t df g
 |[],_,_,_,_,_=>.const _
 | o::rest,d,rd,t,df,g=>by
  unfold jA
  split
  ·split
   ·exact zK AN λt df g=>tN rest d rd t df g
   ·split
    ·dsimp only
     split
     ·exact zK AN λt df g=>tN rest d rd t df g
     ·exact tN rest d rd _ df g
     ·exact .const _
    ·exact .const _
  ·exact .const _
theorem xH{nt:Nat}{pm:List Nat}{all:List Oper}:∀(l:List Oper) (k d:Nat) (rd:Option Nat) (t:T) (df:List ADf) (g:G) (fs:List Foot),
  Ct C λj=>(iL C nt pm all k l).run j d rd t df g fs
 |[],_,_,_,_,_,_,_=>.const _
 | o::rest,k,d,rd,t,df,g,fs=>by
  unfold iL
  split
  ·dsimp only
   split
   ·exact Ca AN λt df g fs=>xH rest (k+1) d rd t df g fs
   ·exact xH rest (k+1) d rd _ df g _
   ·exact .const _
  ·exact .const _
theorem Ee{ops:List Oper}{draw:Bool}:Ct C λj=>(fB C nt ops draw).run j d rd t df g:=by
 unfold fB;simp only[aa]
 split
 ·split
  ·split
   ·exact Ct.map (mf g) (tN _ _ _ _ _ _)
   ·exact xH _ _ _ _ _ _ _ _
  ·exact .const _
 ·exact tN _ _ _ _ _ _
theorem B_{id:Nat}:Ct C λj=>dK j nt d rd id t df g:=by
 unfold dK
 split
 ·split
  ·exact .const _
  ·split
   ·exact .const _
   ·exact Ct.code _ _ _ _ _ _ _
 ·exact .const _
theorem tP :
  Ct C λj=>cJ C j nt d rd fv ps assign body t df dfr g:=by
 unfold cJ
 split
 ·rename_i f first cap
  simp only[aa]
  split
  ·exact .const _
  ·refine Ct.bind (K:=λj r=>match r with|.ok _ g2=>dK j nt d rd g.nx t df g2|.fail=>.fail) (Ct.call d f (first++(.yld g.nx::cap)) (g.new (.loop nt t ps assign body dfr .ready none))) ?_
   split
   ·exact B_
   ·exact .const _
 ·exact .const _
theorem Ha{fo:T->AV}:Ct C λj=>mg C nt fo ps assign body j d rd t df g:=by
 unfold mg
 split
 ·split
  ·exact tP
  ·exact .const _
 ·exact tP
theorem B8:∀(c:Code) (d:Nat) (rd:Option Nat) (t:T) (df:List ADf) (g:G),Ct C λj=>(aL C nt c).run j d rd t df g:=by
 intro c
 induction c with
 |seq a b iha ihb=>intro d rd t df g;unfold aL;exact FD (iha _ _ _ _ _) λt df g=>ihb _ _ _ _ _
 | cond q a b iha ihb =>
  intro d rd t df g;unfold aL
  split
  ·dsimp only
   split
   ·simp only[aa]
    split
    ·exact iha _ _ _ _ _
    ·exact ihb _ _ _ _ _
   ·exact .const _
  ·exact .const _
 |block id body ih=>intro d rd t df g;unfold aL;exact Ct.map (sU id) (ih _ _ _ _ _)
 |loop body ih=>intro d rd t df g;unfold aL;exact FD (ih _ _ _ _ _) λt df g=>Ct.code _ _ _ _ _ _ _
 |scope body ih=>intro d rd t df g;unfold aL;exact ih _ _ _ _ _
 |region p ops draw=>intro d rd t df g;unfold aL;exact Ee
 | rangeFunc f ps assign body _ _ =>
  intro d rd t df g;unfold aL
  split
  ·exact Ha
  ·exact .const _
 |_=>intro d rd t df g;exact .const _
theorem IW:∀(l:List ADf) (g:G),Ct C λj=>dM j d l g:=by
 intro l
 induction l with
 |nil=>intro g;exact .const _
 | cons a l ih =>
  intro g;cases a with
  | mark id =>
   simp only[dM]
   split
   ·exact ih _
   ·exact .const _
  | call fv args =>
   cases fv with
   | clo f first cap =>
    simp only[dM];refine Ct.bind (K:=λj r=>match r with|.ok _ g'=>dM j d l g'|.fail=>none) (Ct.call d f (first++(args++cap)) g) ?_
    split
    ·exact ih _
    ·exact .const _
   |_=>exact .const _
theorem Ef{res:T->G->Option (List AV)}:Ct C λj=>bD j d res t df g:=by unfold bD;exact Ct.map (λr=>match r with|none=>FR.fail|some g'=>match res t g' with|some vs=>.ok (eg vs) g'|none=>.fail) (IW df g)
theorem B9:Ct C λj=>d8 C j d f args g:=by
 unfold d8
 split
 ·rename_i x hx;unfold cFn at hx
  split at hx
  ·cases hx
  rename_i fn a
  split at hx
  ·cases hx
  rename_i c h
  split at hx
  rotate_left
  ·cases hx
  rename_i r k;rw[aa]at hx
  split at hx
  ·cases hx
  injection hx with hx;subst hx;dsimp only;simp only[aa]
  split
  ·refine Ct.bind (K:=λj q=>match q with|.ok (.exit _) _ _ _=>FR.fail|.ok _ t df g'=>bD j d r.run t df g'|.fail=>.fail) (B8 c d none (bk 0 args .nil) [] g) ?_
   split
   ·exact .const _
   ·exact Ef
   ·exact .const _
  ·exact .const _
 ·exact .const _
theorem DU(nt d:Nat)(rd:Option Nat)(c:Code)(t:T)(df:List ADf)(g:G):(I C).code nt d rd c t df g=(aL C nt c).run (I C) d rd t df g:=by obtain⟨n,h⟩:=B8 (C:=C) (nt:=nt) c d rd t df g;obtain⟨m,h'⟩:=Ct.code (C:=C) nt d rd c t df g;have h1:=h (max n m) (by omega);have h2:=h' (max n m+1) (by omega);exact h2.symm.trans h1
theorem M6(d f:Nat)(as:List AV)(g:G):(I C).call d f as g=d8 C (I C) d f as g:=by obtain⟨n,h⟩:=B9 (C:=C) (d:=d) (f:=f) (args:=as) (g:=g);obtain⟨m,h'⟩:=Ct.call (C:=C) d f as g;have h1:=h (max n m) (by omega);have h2:=h' (max n m+1) (by omega);exact h2.symm.trans h1
theorem Ij{as:List AV}(h:(I C).call d f as g=.ok v g'):∃n,(sem C n).call d f as g=.ok v g':=by obtain⟨m,h'⟩:=Ct.call (C:=C) d f as g;exact⟨m,by rw[<-h];exact h' m (Qq m)⟩
end
def tat(t:T)(n:Nat):AV:=Tr.get AV.undef t n
def ei(t:T)(n:Nat)(v:AV):T:=(sp AV.undef n).run t v
inductive Od where
 |t (n:Nat)
 |k (v:AV)
def Od.get(t:T):Od->AV
 |.t n=>tat t n
 |.k v=>v
def ff(t:T):List Od->List AV
 |[]=>[]
 |o::os=>o.get t::ff t os
def Gg(c a b:AV):OR:=match c with|.bool q=>ak q (.val a) (.val b)|_=>.fail
def AH(x:AV)(g:G):OR:=ak x.isTup .fail (.upd (.hptr g.nx 0 0 0) (g.new (Tq (a7 x.cells) [x.cells])))
def AI(zero:List AV)(pl:List (Nat×Nat))(vs:List AV):OR :=
 match ef zero (pl.zip vs) with|some cs=>.val (.agg cs)|none=>.fail
def II(sz len:Nat)(zero:List AV)(is:List Nat)(vs:List AV)(g:G):OR :=
 match dH sz (eH len zero) (is.zip vs) with
 |some rows=>.upd (.hsl g.nx 0 0 len none) (g.new (Tq sz rows))
 |none=>.fail
def qf(ag:Bool)(n:Nat)(p:AV)(g:G):OR:=l_ ag n (λ_=>p) .nil g
def mj(n:Nat)(p x:AV)(g:G):OR:=nD n (λ_=>p) (λ_=>x) .nil g
def vR(x:AV):OR:=match x with
 |.tptr l sz rows i off=>.val (.tptr l sz rows i off)
 |.hptr id ep i off=>.val (.hptr id ep i off)
 |.clo f a c=>.val (.clo f a c)
 |.yld id=>.val (.yld id)
 |_=>.fail
def cx(op:BinOp)(x y:AV):OR:=match x,y with|.int k a,.int k' b=>orV ((fg op).run k a k' b)|_,_=>.fail
def Ei(neg:Bool)(ek:EqKind)(x y:AV):OR:=match eqA ek x y with|some b=>.val (.bool (ak neg (jI b) b))|none=>.fail
def LR(x:AV):OR:=match x with|.bool b=>.val (.bool (jI b))|_=>.fail
def unV(op:UnOp)(x:AV):OR:=match x with|.int k n=>orV (oP (Op.unary op (.int k n)))|_=>.fail
def FC(k:IntKind)(x:AV):OR:=match x with|.int _ n=>.val (.int k (rO k n))|_=>.fail
def yk(sz bytes:Nat)(zero:List AV)(l c:AV)(g:G):OR:=gZ sz bytes zero (λ_=>l) (λ_=>c) .nil g
def kG(sz:Nat)(x:AV)(lo hi:Option AV)(g:G):OR:=orV (jj sz x lo hi none g.h)
def Og(n sz:Nat)(x:AV)(lo hi:Option AV)(g:G):OR:=iH n sz (λ_=>x) (λ_=>lo) (λ_=>hi) .nil g
def AS(fo:Nat)(x:AV):OR:=match x with
 |.tptr l sz rows i off=>.val (.tptr l sz rows i (off+fo))
 |.hptr id ep i off=>.val (.hptr id ep i (off+fo))
 |_=>.fail
def Nl(ag:Bool)(n fo:Nat)(x:AV):OR:=match x with|.agg cs=>orV (bX ag n cs fo)|_=>.fail
def CD(sz:Nat)(x i:AV)(g:G):OR:=gI sz (λ_=>x) (λ_=>i) .nil g
def Nm(n sz:Nat)(x i:AV):OR:=l4 n sz (λ_=>x) (λ_=>i) .nil G.empty
def ixV(ag:Bool)(n sz:Nat)(x i:AV):OR:=te ag n sz (λ_=>x) (λ_=>i) .nil G.empty
def I4(x:AV)(i:Nat):OR:=match x with|.tup vs=>orV (yu i vs)|_=>.fail
def mxV(x y:AV):OR:=match x with
 |.int k m=>match y with|.int k' n=>ak (cN k k') (.val (.int k (ak (wn m n) n m))) .fail|_=>.fail
 |_=>.fail
def mnV(x y:AV):OR:=match x with
 |.int k m=>match y with|.int k' n=>ak (cN k k') (.val (.int k (ak (wn n m) n m))) .fail|_=>.fail
 |_=>.fail
def ay(C:Cfg)(d f:Nat)(as:List AV)(g:G):OR :=
 match C.ext f with
 |some e=>e d as g
 |none=>ak (C.iso f) (ap (I C) d g f as) (orF ((I C).call d f as g))
inductive SO where
 |mv (x:Od)
 |pick (c a b:Od)
 |alloc (cs:List AV)
 |box (x:Od)
 |build (zero:List AV) (pl:List (Nat×Nat)) (vs:List Od)
 |bsl (sz len:Nat) (zero:List AV) (is:List Nat) (vs:List Od)
 |load (ag:Bool) (n:Nat) (a:Od)
 |store (n:Nat) (a x:Od)
 |nilc (x:Od)
 |bin (op:BinOp) (x y:Od)
 |eq (neg:Bool) (ek:EqKind) (x y:Od)
 |not (x:Od)
 |un (op:UnOp) (x:Od)
 |conv (k:IntKind) (x:Od)
 |mkf (f:Nat) (a c:List Od)
 |mks (sz bytes:Nat) (zero:List AV) (l c:Od)
 |slc (sz:Nat) (x:Od) (lo hi:List Od)
 |sla (n sz:Nat) (x:Od) (lo hi:List Od)
 |fad (fo:Nat) (x:Od)
 |fld (ag:Bool) (n fo:Nat) (x:Od)
 |ixs (sz:Nat) (x i:Od)
 |ixa (n sz:Nat) (x i:Od)
 |ix (ag:Bool) (n sz:Nat) (x i:Od)
 |ext (x:Od) (i:Nat)
 |len (lk:LenKind) (x:Od)
 |app (sz bytes:Nat) (x y:Od)
 |cpy (sz:Nat) (x y:Od)
 |mx (x y:Od)
 |mn (x y:Od)
 |call (f:Nat) (as:List Od)
 |dyn (f:Od) (as:List Od)
 |raw (op:Op)
def SO.run(C:Cfg)(d:Nat)(rd:Option Nat)(t:T)(g:G):SO->OR
 |.mv x=>.val (x.get t)
 |.pick c a b=>Gg (c.get t) (a.get t) (b.get t)
 |.alloc cs=>.upd (.hptr g.nx 0 0 0) (g.new (Tq (a7 cs) [cs]))
 |.box x=>AH (x.get t) g
 |.build zero pl vs=>AI zero pl (ff t vs)
 |.bsl sz n zero is vs=>II sz n zero is (ff t vs) g
 |.load ag n a=>qf ag n (a.get t) g
 |.store n a x=>mj n (a.get t) (x.get t) g
 |.nilc x=>vR (x.get t)
 |.bin op x y=>cx op (x.get t) (y.get t)
 |.eq neg ek x y=>Ei neg ek (x.get t) (y.get t)
 |.not x=>LR (x.get t)
 |.un op x=>unV op (x.get t)
 |.conv k x=>FC k (x.get t)
 |.mkf f a c=>.val (.clo f (ff t a) (ff t c))
 |.mks sz bytes zero l c=>yk sz bytes zero (l.get t) (c.get t) g
 |.slc sz x lo hi=>kG sz (x.get t) (ff t lo).head? (ff t hi).head? g
 |.sla n sz x lo hi=>Og n sz (x.get t) (ff t lo).head? (ff t hi).head? g
 |.fad fo x=>AS fo (x.get t)
 |.fld ag n fo x=>Nl ag n fo (x.get t)
 |.ixs sz x i=>CD sz (x.get t) (i.get t) g
 |.ixa n sz x i=>Nm n sz (x.get t) (i.get t)
 |.ix ag n sz x i=>ixV ag n sz (x.get t) (i.get t)
 |.ext x i=>I4 (x.get t) i
 |.len lk x=>bY lk (x.get t) g
 |.app sz bytes x y=>cQ sz bytes (x.get t) (y.get t) g
 |.cpy sz x y=>zJ sz (x.get t) (y.get t) g
 |.mx x y=>mxV (x.get t) (y.get t)
 |.mn x y=>mnV (x.get t) (y.get t)
 |.call f as=>ay C d f (ff t as) g
 |.dyn f as=>jo C (I C) d (f.get t) (ff t as) g
 |.raw op=>(bS C op).run (I C) d rd t g
def nOd(C:Cfg):Operand->Option Od
 |.tmp n=>some (.t n)
 |.const v=>match ofV v with|some a=>some (.k a)|none=>none
 |.global g=>match C.glob g with|some (sz,rows)=>some (.k (.tptr 0 sz rows 0 0))|none=>none
 |.func f=>some (.k (.clo f [] []))
def j5(C:Cfg):List Operand->Option (List Od)
 |[]=>some []
 | x::xs=>match nOd C x,j5 C xs with
  |some a,some as=>some (a::as)
  |_,_=>none
theorem bh{x:Operand}{o:Od}(h:nOd C x=some o):∃s,aN C x=some s/\∀t,s.run t=o.get t:=by
 unfold nOd at h
 split at h
 ·injection h with h;subst h;exact⟨_,rfl,λt=>gp_run _ _ _⟩
 ·split at h
  ·rename_i a ha;injection h with h;subst h;exact⟨⟨λ_=>a⟩,by simp only[aN,ha],λt=>rfl⟩
  ·cases h
 ·split at h
  ·rename_i sz rows ha;injection h with h;subst h;exact⟨⟨λ_=>.tptr 0 sz rows 0 0⟩,by simp only[aN,ha],λt=>rfl⟩
  ·cases h
 ·injection h with h;subst h;exact⟨_,rfl,λt=>rfl⟩
theorem cq{C:Cfg}:∀{xs:List Operand} {os:List Od},j5 C xs=some os->∃s,bP C xs=some s/\∀t,s.run t=ff t os
 |[],os,h=>by injection h with h;subst h;exact⟨_,rfl,λt=>rfl⟩
 | x::xs,os,h=>by
  unfold j5 at h
  split at h
  ·rename_i a as ha k;injection h with h;subst h;obtain⟨s,h1,h2⟩:=bh ha;obtain⟨ss,h3,h4⟩:=cq k;exact⟨⟨λt=>s.run t::ss.run t⟩,by simp only[bP,h1,h3],λt=>by simp only[h2,h4,ff]⟩
  ·cases h
def A9(C:Cfg)(op:Op):SO :=
 match op with
 |.move x|.assign x=>match nOd C x with|some a=>.mv a|none=>.raw op
 | .pick c a b=>match nOd C c,nOd C a,nOd C b with
  |some c,some a,some b=>.pick c a b
  |_,_,_=>.raw op
 | .alloc ty=>match fu C.P ty with
  |some cs=>.alloc cs
  |none=>.raw op
 | .box _ x=>match nOd C x with
  |some a=>.box a
  |none=>.raw op
 | .build ty parts=>match fu C.P ty,j5 C (parts.toList.map (·.2)) with
  | some zero,some vs =>
   match C.P.underlying ty with
   | some (.struct fs)=>match aF (λf:Field=>match szT C.P f.type with| some n=>some (f.offset,n)| none=>none) fs.toList with
    | some places=>match aF (λi=>places[i]?) (parts.toList.map (·.1)) with
     |some pl=>.build zero pl vs
     |none=>.raw op
    |none=>.raw op
   | some (.array _ e)=>match szT C.P e with
    |some n=>.build zero ((parts.toList.map (·.1)).map λi=>(i*n,n)) vs
    |none=>.raw op
   |_=>.raw op
  |_,_=>.raw op
 | .buildSlice ty len parts=>match kK C.P ty,j5 C (parts.toList.map (·.2)) with
  | some e,some vs=>match szT C.P e,fu C.P e with
   | some sz,some zero=>ak (Nat.beq (a7 zero) sz&&Nat.blt 0 sz&&Nat.ble (len*sz) 1048576)
    (.bsl sz len zero (parts.toList.map (·.1)) vs) (.raw op)
   |_,_=>.raw op
  |_,_=>.raw op
 | .load ty a=>match nOd C a,qr C.P ty,szT C.P ty with
  |some a,some ag,some n=>.load ag n a
  |_,_,_=>.raw op
 | .store ty a x=>match nOd C a,nOd C x,szT C.P ty with
  |some a,some x,some n=>.store n a x
  |_,_,_=>.raw op
 | .nilCheck x=>match nOd C x with
  |some a=>.nilc a
  |none=>.raw op
 | .binOp b ty x y _=>match nOd C x,nOd C y with
  | some x,some y=>match b with
   | .eql=>match pj C.P ty with
    |.other=>.bin b x y
    |ek=>.eq false ek x y
   | .neq=>match pj C.P ty with
    |.other=>.bin b x y
    |ek=>.eq true ek x y
   |b=>.bin b x y
  |_,_=>.raw op
 | .unOp u _ x=>match nOd C x with
  | some x=>match u with
   |.not=>.not x
   |u=>.un u x
  |none=>.raw op
 | .convert src dst x=>match nOd C x,C.P.underlying src,C.P.underlying dst with
  |some x,some _,some (.int k)=>.conv k x
  |_,_,_=>.raw op
 | .makeFunc (.func f) first captured=>match j5 C first.toList,j5 C captured.toList with
  |some a,some c=>.mkf f a c
  |_,_=>.raw op
 | .makeSlice ty l c=>match kK C.P ty,nOd C l,nOd C c with
  | some e,some l,some c=>match szT C.P e,jy C.P e,fu C.P e with
   |some sz,some bytes,some zero=>ak (Nat.beq (a7 zero) sz&&Nat.blt 0 sz) (.mks sz bytes zero l c) (.raw op)
   |_,_,_=>.raw op
  |_,_,_=>.raw op
 | .slice ty x lo hi none=>match C.P.underlying ty,nOd C x,j5 C lo.toList,j5 C hi.toList with
  | some (.slice e),some x,some l,some h=>match szT C.P e with
   |some sz=>.slc sz x l h
   |none=>.raw op
  | some (.array n e),some x,some l,some h=>match szT C.P e with
   |some (sz+1)=>.sla n (sz+1) x l h
   |_=>.raw op
  |_,_,_,_=>.raw op
 | .fieldAddr ty x f=>match nOd C x,q8 C.P ty f with
  | some a,some (fo,ft)=>match szT C.P ft with
   |some (_+1)=>.fad fo a
   |_=>.raw op
  |_,_=>.raw op
 | .field ty x f=>match nOd C x,q8 C.P ty f with
  | some a,some (fo,ft)=>match qr C.P ft,szT C.P ft with
   |some ag,some n=>.fld ag n fo a
   |_,_=>.raw op
  |_,_=>.raw op
 | .indexAddr ty x ix=>match nOd C x,nOd C ix with
  | some a,some i=>match C.P.underlying ty with
   | some (.slice e)=>match szT C.P e with
    |some sz=>.ixs sz a i
    |none=>.raw op
   | some (.array n e)=>match szT C.P e with
    |some sz=>.ixa n sz a i
    |none=>.raw op
   |_=>.raw op
  |_,_=>.raw op
 | .index ty x ix=>match nOd C x,nOd C ix with
  | some a,some i=>match C.P.underlying ty with
   | some (.array n e)=>match qr C.P e,szT C.P e with
    |some ag,some sz=>.ix ag n sz a i
    |_,_=>.raw op
   |_=>.raw op
  |_,_=>.raw op
 | .extract x i=>match nOd C x with
  |some a=>.ext a i
  |none=>.raw op
 |op=>.raw op
def nOp(C:Cfg)(op:Op):SO :=
 match op with
 | .call { callee:=.value (.func f),args,.. }=>match j5 C args.toList with
  |some vs=>.call f vs
  |none=>.raw op
 | .call { callee:=.value fo,args,.. }=>match nOd C fo,j5 C args.toList with
  |some f,some vs=>.dyn f vs
  |_,_=>.raw op
 | .call { callee:=.builtin b,args,argTypes }=>match b,j5 C args.toList with
  | .len,some [x]=>match argTypes[0]? with
   |some t=>.len (kV C.P t) x
   |none=>.raw op
  | .append,some [a,x]=>match argTypes[0]?,argTypes[1]? with
   | some t,some xt=>match kK C.P t,C.P.underlying xt with
    | some e,some (.slice _)=>match szT C.P e,jy C.P e,fu C.P e with
     |some sz,some bytes,some zero=>ak (Nat.beq (a7 zero) sz&&Nat.blt 0 sz&&Nat.blt 0 bytes) (.app sz bytes a x) (.raw op)
     |_,_,_=>.raw op
    |_,_=>.raw op
   |_,_=>.raw op
  | .copy,some [a,x]=>match argTypes[0]? with
   | some t=>match kK C.P t with
    | some e=>match szT C.P e with
     |some sz=>.cpy sz a x
     |none=>.raw op
    |none=>.raw op
   |none=>.raw op
  |.max,some [x,y]=>.mx x y
  |.min,some [x,y]=>.mn x y
  |_,_=>.raw op
 |op=>A9 C op
theorem bO{s:Stg SFn}(h1:cOp C op=match cm C op with|some s=>some ⟨λ_ _ _ t g=>s.run t g⟩|none=>none)(h:cm C op=some s)
  {ih:IH}    :(bS C op).run ih d rd t g=s.run t g:=by
 unfold bS;rw[h1,h]
theorem LL(h1:cOp C op=match cm C op with|some s=>some ⟨λ_ _ _ t g=>s.run t g⟩|none=>none) :
  (A9 C op).run C d rd t g=(bS C op).run (I C) d rd t g:=by
 unfold A9
 split
 case h_1 x =>
  split
  ·rename_i a ha;obtain⟨s,hs,he⟩:=bh ha;rw[bO h1 (by simp only[cm,hs];rfl)];simp only[SO.run,he]<;>rfl
  ·rfl
 case h_2 x =>
  split
  ·rename_i a ha;obtain⟨s,hs,he⟩:=bh ha;rw[bO h1 (by simp only[cm,hs];rfl)];simp only[SO.run,he]<;>rfl
  ·rfl
 case h_3 c a b =>
  split
  ·rename_i c a b hc ha hb;obtain⟨F,E,e1⟩:=bh hc;obtain⟨o,q2,e2⟩:=bh ha;obtain⟨z,q3,e3⟩:=bh hb;rw[bO h1 (by simp only[cm,E,q2,q3];rfl)];simp only[SO.run,e1,e2,e3,Gg]<;>rfl
  ·rfl
 case h_4 ty =>
  split
  ·rename_i cs hz;rw[bO h1 (by simp only[cm,hz];rfl)];rfl
  ·rfl
 case h_5 ty x =>
  split
  ·rename_i a ha;obtain⟨s,hs,he⟩:=bh ha;rw[bO h1 (by simp only[cm,hs];rfl)];simp only[SO.run,AH,IG,he]<;>rfl
  ·rfl
 case h_6 ty parts =>
  split
  ·rename_i zero vs hz hv;obtain⟨s,hs,he⟩:=cq hv
   split
   ·rename_i fs hu
    split
    ·rename_i places hp
     split
     ·rename_i pl v;have r:cm C (.build ty parts)=some ⟨mU zero pl s.run⟩:=by
       simp only[cm,hz,hs,hu]
       split
       ·rename_i p' h';have:some places=some p':=hp.symm.trans h';injection this with this;subst this;rw[v]
       ·rename_i h';have:some places=none:=hp.symm.trans h';cases this
      rw[bO h1 r];simp only[SO.run,AI,mU,he]<;>rfl
     ·rfl
    ·rfl
   ·rename_i n e hu
    split
    ·rename_i n w;rw[bO h1 (by simp only[cm,hz,hs,hu,w];rfl)];simp only[SO.run,AI,mU,he]<;>rfl
    ·rfl
   ·rfl
  ·rfl
 case h_7 ty len parts =>
  split
  ·rename_i e vs hz hv;obtain⟨s,hs,he⟩:=cq hv
   split
   ·rename_i sz zero h2 h3;rw[aa]
    split
    ·rename_i hc;rw[bO h1 (by simp only[cm,hz,hs,h2,h3,hc];rfl)];simp only[SO.run,II,ia,he]<;>rfl
    ·rfl
   ·rfl
  ·rfl
 case h_8 ty a =>
  split
  ·rename_i a ag n ha h2 h3;obtain⟨s,hs,he⟩:=bh ha;rw[bO h1 (by simp only[cm,hs,h2,h3];rfl)];simp only[SO.run,qf,l_,he]<;>rfl
  ·rfl
 case h_9 ty a x =>
  split
  ·rename_i a x n ha hx h3;obtain⟨s,hs,he⟩:=bh ha;obtain⟨o,m,j⟩:=bh hx;rw[bO h1 (by simp only[cm,hs,m,h3];rfl)];simp only[SO.run,mj,nD,he,j]<;>rfl
  ·rfl
 case h_10 x =>
  split
  ·rename_i a ha;obtain⟨s,hs,he⟩:=bh ha;rw[bO h1 (by simp only[cm,hs];rfl)];simp only[SO.run,vR,he]<;>rfl
  ·rfl
 case h_11 b ty x y yt =>
  split
  ·rename_i x y hx D;obtain⟨s,hs,he⟩:=bh hx;obtain⟨o,m,j⟩:=bh D;rw[bO h1 (by simp only[cm,hs,m];rfl)];simp only[he,j]
   split
   ·split
    ·rename_i hk;simp only[xl,hk];rfl
    ·rename_i ek hk;simp only[SO.run,Ei,xl]<;>rfl
   ·split
    ·rename_i hk;simp only[xl,hk];rfl
    ·rename_i ek hk;simp only[SO.run,Ei,xl]<;>rfl
   ·rename_i A B;simp only[SO.run,xl,cx]<;>rfl
  ·rfl
 case h_12 u ty x =>
  split
  ·rename_i a ha;obtain⟨s,hs,he⟩:=bh ha;rw[bO h1 (by simp only[cm,hs];rfl)]
   split
   ·simp only[SO.run,LR,unA,he]<;>rfl
   ·rename_i w;simp only[SO.run,unV,unA,he]<;>rfl
  ·rfl
 case h_13 src dst x =>
  split
  ·rename_i a ty k ha h2 h3;obtain⟨s,hs,he⟩:=bh ha;rw[bO h1 (by simp only[cm,hs,h2,h3];rfl)];simp only[SO.run,FC,he]<;>rfl
  ·rfl
 case h_14 f first captured =>
  split
  ·rename_i a c ha hc;obtain⟨s,hs,he⟩:=cq ha;obtain⟨o,m,j⟩:=cq hc;rw[bO h1 (by simp only[cm,hs,m];rfl)];simp only[SO.run,he,j]<;>rfl
  ·rfl
 case h_15 ty l c =>
  split
  ·rename_i e l c h0 hl hc;obtain⟨s,hs,he⟩:=bh hl;obtain⟨o,m,j⟩:=bh hc
   split
   ·rename_i sz bytes zero h2 h3 h4;rw[aa]
    split
    ·rename_i hc;rw[bO h1 (by simp only[cm,h0,hs,m,h2,h3,h4,hc];rfl)];simp only[SO.run,yk,gZ,he,j]<;>rfl
    ·rfl
   ·rfl
  ·rfl
 case h_16 ty x lo hi =>
  split
  ·rename_i e x l h h0 hx hl r;obtain⟨s,hs,he⟩:=bh hx;obtain⟨o,m,j⟩:=cq hl;obtain⟨z,q,p⟩:=cq r
   split
   ·rename_i sz h2;rw[bO h1 (by simp only[cm,h0,hs,m,q,h2];rfl)];simp only[SO.run,kG,he,j,p]<;>rfl
   ·rfl
  ·rename_i n e x l h h0 hx hl r;obtain⟨s,hs,he⟩:=bh hx;obtain⟨o,m,j⟩:=cq hl;obtain⟨z,q,p⟩:=cq r
   split
   ·rename_i sz h2;rw[bO h1 (by simp only[cm,h0,hs,m,q,h2];rfl)];simp only[SO.run,Og,iH,he,j,p]<;>rfl
   ·rfl
  ·rfl
 case h_17 ty x f =>
  split
  ·rename_i a fo ft ha h0;obtain⟨s,hs,he⟩:=bh ha
   split
   ·rename_i k h2;rw[bO h1 (by simp only[cm,hs,h0,h2];rfl)];simp only[SO.run,AS,jF,he]<;>rfl
   ·rfl
  ·rfl
 case h_18 ty x f =>
  split
  ·rename_i a fo ft ha h0;obtain⟨s,hs,he⟩:=bh ha
   split
   ·rename_i ag n h2 h3;rw[bO h1 (by simp only[cm,hs,h0,h2,h3];rfl)];simp only[SO.run,Nl,he]<;>rfl
   ·rfl
  ·rfl
 case h_19 ty x ix =>
  split
  ·rename_i a i ha hi;obtain⟨s,hs,he⟩:=bh ha;obtain⟨o,m,j⟩:=bh hi
   split
   ·rename_i e h0
    split
    ·rename_i sz h2;rw[bO h1 (by simp only[cm,hs,m,h0,h2];rfl)];simp only[SO.run,CD,gI,he,j]<;>rfl
    ·rfl
   ·rename_i n e h0
    split
    ·rename_i sz h2;rw[bO h1 (by simp only[cm,hs,m,h0,h2];rfl)];simp only[SO.run,Nm,l4,he,j]<;>rfl
    ·rfl
   ·rfl
  ·rfl
 case h_20 ty x ix =>
  split
  ·rename_i a i ha hi;obtain⟨s,hs,he⟩:=bh ha;obtain⟨o,m,j⟩:=bh hi
   split
   ·rename_i n e h0
    split
    ·rename_i ag sz h2 h3;rw[bO h1 (by simp only[cm,hs,m,h0,h2,h3];rfl)];simp only[SO.run,ixV,te,he,j]<;>rfl
    ·rfl
   ·rfl
  ·rfl
 case h_21 x i =>
  split
  ·rename_i a ha;obtain⟨s,hs,he⟩:=bh ha;rw[bO h1 (by simp only[cm,hs];rfl)];simp only[SO.run,I4,he]<;>rfl
  ·rfl
 case h_22=>rfl
theorem nL{xs:List Operand}{os:List Od}(h:j5 C xs=some os) :
  (∀o,os=[o]->∃x s,xs=[x]/\aN C x=some s/\∀t,s.run t=o.get t) /\
  (∀o p,os=[o,p]->∃x y s u,xs=[x,y]/\aN C x=some s/\aN C y=some u/\(∀t,s.run t=o.get t)/\∀t,u.run t=p.get t):=by
 refine⟨λo ho=>?_,λo p ho=>?_⟩
 ·subst ho
  match xs,h with
  | [x],h =>
   unfold j5 at h
   split at h
   ·rename_i a as ha k;injection h with h;injection h with h1 h2;subst h1;obtain⟨s,q,e⟩:=bh ha;exact⟨x,s,rfl,q,e⟩
   ·cases h
  | x::y::xs,h =>
   unfold j5 at h
   split at h
   ·rename_i a as ha k;unfold j5 at k
    split at k
    ·injection k with k;subst k;injection h with h;injection h with h1 h2;cases h2
    ·cases k
   ·cases h
 ·subst ho
  match xs,h with
  | [x,y],h =>
   unfold j5 at h
   split at h
   ·rename_i a as ha k;unfold j5 at k
    split at k
    ·rename_i b bs hb c;injection k with k;subst k;injection h with h;injection h with h1 h2;injection h2 with h3 h4;subst h1;subst h3;obtain⟨s,q,e⟩:=bh ha;obtain⟨s',q',e'⟩:=bh hb;exact⟨x,y,s,s',rfl,q,q',e,e'⟩
    ·cases k
   ·cases h
  | [x],h =>
   unfold j5 at h
   split at h
   ·rename_i a as ha k;injection k with k;subst k;injection h with h;injection h with h1 h2;cases h2
   ·cases h
  | x::y::z::xs,h =>
   unfold j5 at h
   split at h
   ·rename_i a as ha k;unfold j5 at k
    split at k
    ·rename_i b bs hb c;unfold j5 at c
     split at c
     ·injection c with c;subst c;injection k with k;subst k;injection h with h;injection h with h1 h2;injection h2 with h3 h4;cases h4
     ·cases c
    ·cases k
   ·cases h
theorem u7:(nOp C op).run C d rd t g=(bS C op).run (I C) d rd t g:=by
 unfold nOp
 split
 ·rename_i f args ats
  split
  ·rename_i vs hv;obtain⟨s,hs,he⟩:=cq hv;simp only[SO.run,bS,cOp,hs,ay];cases hx:C.ext f with
   |some e=>simp only[he]
   |none=>cases hi:C.iso f<;>simp only[he]
  ·rfl
 ·rename_i fo args ats o
  split
  ·rename_i f vs hf hv;obtain⟨s,hs,he⟩:=cq hv;obtain⟨q,m,i⟩:=bh hf;cases fo with
   |func k=>exact absurd rfl (o k)
   |tmp k=>simp only[SO.run,bS,cOp,hs,m,he,i]
   |const k=>simp only[SO.run,bS,cOp,hs,m,he,i]
   |global k=>simp only[SO.run,bS,cOp,hs,m,he,i]
  ·rfl
 ·rename_i b args ats;have hc:b≠.recover->cOp C (.call { callee:=.builtin b,args:=args,argTypes:=ats })=match cm C (.call { callee:=.builtin b,args:=args,argTypes:=ats }) with
    |some s=>some ⟨λ_ _ _ t g=>s.run t g⟩|none=>none:=by
   intro hb;cases b<;>first|rfl|exact absurd rfl hb
  split
  ·rename_i x hx;obtain⟨y,s,j,hs,he⟩:=(nL hx).1 _ rfl
   split
   ·rename_i ty l;rw[bO (hc (by simp)) (by simp only[cm,cZ,j,l,hs];rfl)];simp only[SO.run,he]<;>rfl
   ·rfl
  ·rename_i a x hx;obtain⟨y,z,s,u,j,hs,hu,he,i⟩:=(nL hx).2 _ _ rfl
   split
   ·rename_i ty xt l p
    split
    ·rename_i e e2 h1 h2
     split
     ·rename_i sz bytes zero h3 h4 h5;rw[aa]
      split
      ·rename_i n;rw[bO (hc (by simp)) (by simp only[cm,cZ,j,l,p,hs,hu,h1,h2,h3,h4,h5,n];rfl)];simp only[SO.run,he,i]<;>rfl
      ·rfl
     ·rfl
    ·rfl
   ·rfl
  ·rename_i a x hx;obtain⟨y,z,s,u,j,hs,hu,he,i⟩:=(nL hx).2 _ _ rfl
   split
   ·rename_i ty l
    split
    ·rename_i e h1
     split
     ·rename_i sz h3;rw[bO (hc (by simp)) (by simp only[cm,cZ,j,l,hs,hu,h1,h3];rfl)];simp only[SO.run,he,i]<;>rfl
     ·rfl
    ·rfl
   ·rfl
  ·rename_i a x hx;obtain⟨y,z,s,u,j,hs,hu,he,i⟩:=(nL hx).2 _ _ rfl;rw[bO (hc (by simp)) (by simp only[cm,cZ,j,hs,hu];rfl)];simp only[SO.run,mxV,he,i]<;>rfl
  ·rename_i a x hx;obtain⟨y,z,s,u,j,hs,hu,he,i⟩:=(nL hx).2 _ _ rfl;rw[bO (hc (by simp)) (by simp only[cm,cZ,j,hs,hu];rfl)];simp only[SO.run,mnV,he,i]<;>rfl
  ·rfl
 ·rename_i h1 h2 h3;have key:∀op,(∀c,op≠.call c)->(∀c,op≠.defer c)->cOp C op=match cm C op with|some s=>some ⟨λ_ _ _ t g=>s.run t g⟩|none=>none:=by intro op hc hd;cases op<;>first|rfl|exact absurd rfl (hc _)|exact absurd rfl (hd _)
  cases op with
  |call c=>rfl
  |defer c=>rfl
  |_=>exact LL (key _ (λc h=>by cases h) (λc h=>by cases h))
structure SI where
 dst:Option Nat
 gd:Option (Nat×Bool)
 op:SO
inductive SC where
 |skip
 |ops (l:List SI)
 |quiet (l:List SI)
 |feet (pm:List Nat) (l:List SI)
 |seq (a b:SC)
 |cond (c:Od) (a b:SC)
 |blk (id:Nat) (b:SC)
 |loop (b:SC)
 |exit (id:Nat)
 |ret
 |rng (nt:Nat) (f:Od) (ps:List Nat) (assign body:SC)
 |raw (nt:Nat) (c:Code)
def OR.sat(r:OR)(K:AV->G->Prop)(g:G)(D:ADf->Prop):Prop :=
 match r with
 |.fail=>False
 |.val v=>K v g
 |.upd v g'=>K v g'
 |.dfr a=>D a
def CR.sat(r:CR)(Q:Ex->T->List ADf->G->Prop):Prop :=
 match r with
 |.fail=>False
 |.ok e t df g=>Q e t df g
def FR.sat(r:FR)(Q:AV->G->Prop):Prop :=
 match r with
 |.fail=>False
 |.ok v g=>Q v g
def qm(dst:Option Nat)(t:T)(v:AV):T:=match dst with|none=>t|some d=>ei t d v
abbrev PT:=T->List ADf->G->Prop
abbrev QT:=Ex->T->List ADf->G->Prop
def uG(q:Bool)(A B:PT)(t:T)(df:List ADf)(g:G):Prop:=(q=true->A t df g)/\(q=false->B t df g)
def gdP(v:AV)(w:Bool)(A B:PT)(t:T)(df:List ADf)(g:G):Prop :=
 match v with
 |.bool q=>ak w (uG q A B t df g) (uG q B A t df g)
 |.tup _=>B t df g
 |_=>False
def kO(W:PT)(dst:Option Nat)(t:T)(df:List ADf)(v:AV)(g:G):Prop:=W (qm dst t v) df g
def kD(W:PT)(dst:Option Nat)(t:T)(df:List ADf)(g:G)(a:ADf):Prop:=W (qm dst t .undef) (a::df) g
def qq(C:Cfg)(d:Nat)(rd:Option Nat)(i:SI)(W:PT)(t:T)(df:List ADf)(g:G):Prop:=(i.op.run C d rd t g).sat (kO W i.dst t df) g (kD W i.dst t df g)
def vY(i:SI)(W:PT)(t:T)(df:List ADf)(g:G):Prop:=W (qm i.dst t .undef) df g
def wpO(C:Cfg)(d:Nat)(rd:Option Nat):List SI->PT->T->List ADf->G->Prop
 |[],Q,t,df,g=>Q t df g
 | i::r,Q,t,df,g =>
  match i.gd with
  |none=>qq C d rd i (wpO C d rd r Q) t df g
  |some (s,w)=>gdP (tat t s) w (qq C d rd i (wpO C d rd r Q)) (vY i (wpO C d rd r Q)) t df g
def SO.foot(C:Cfg)(t:T)(g:G):SO->Looks
 |.load _ _ a=>ah (af (a.get t))
 |.store _ a _=>ah (af (a.get t))
 |.slc _ a _ _=>ah (af (a.get t))
 |.sla _ _ a _ _=>ah (af (a.get t))
 |.ixs _ a _=>ah (af (a.get t))
 |.app _ _ a x=>ah (af (a.get t)++af (x.get t))
 |.cpy _ a x=>ah (af (a.get t)++af (x.get t))
 |.mx a x=>ah (af (a.get t)++af (x.get t))
 |.mn a x=>ah (af (a.get t)++af (x.get t))
 |.len lk a=>match lk with|.map=>ah (uk (a.get t))|_=>aC
 |.call f as=>ak ((C.ext f).isSome || C.iso f) (ah ((ff t as).flatMap (aE g.h aD))) bT
 | .dyn f as=>match f.get t with
  |.clo f first cap=>ak ((C.ext f).isSome || C.iso f) (ah ((first++(ff t as++cap)).flatMap (aE g.h aD))) bT
  |_=>bT
 |.raw op=>(aK C op).run t g
 |_=>aC
abbrev FT:=T->List ADf->G->List Foot->Prop
def kF(W:FT)(dst:Option Nat)(t:T)(df:List ADf)(lg:List Nat)(fs:List Foot)(lk:Looks)(v:AV)(g':G):Prop:=W (qm dst t v) df (nK g' (g'.lg++lg)) (⟨lk,g'.lg⟩::fs)
def HV(C:Cfg)(d:Nat)(rd:Option Nat)(i:SI)(W:FT)(fs:List Foot)(t:T)(df:List ADf)(g:G):Prop :=
 (i.op.run C d rd t (aJ g [])).sat (kF W i.dst t df g.lg fs (i.op.foot C t g)) (aJ g []) (λ_=>False)
def Dn(i:SI)(W:FT)(fs:List Foot)(t:T)(df:List ADf)(g:G):Prop:=W (qm i.dst t .undef) df g (⟨aC,[]⟩::fs)
def wpF(C:Cfg)(d:Nat)(rd:Option Nat)(pm:List Nat):List SI->PT->T->List ADf->G->List Foot->Prop
 |[],Q,t,df,g,fs=>pA pm fs.reverse=true/\Q t df g
 | i::r,Q,t,df,g,fs =>
  match i.gd with
  |none=>HV C d rd i (wpF C d rd pm r Q) fs t df g
  |some (s,w)=>gdP (tat t s) w (HV C d rd i (wpF C d rd pm r Q) fs) (Dn i (wpF C d rd pm r Q) fs) t df g
def kS(W:PT)(Q:QT)(e:Ex)(t:T)(df:List ADf)(g:G):Prop:=match e with|.norm=>W t df g|e=>Q e t df g
def kB(id:Nat)(Q:QT)(e:Ex)(t:T)(df:List ADf)(g:G):Prop:=match e with|.exit j=>ak (Nat.beq j id) (Q .norm t df g) (Q (.exit j) t df g)|e=>Q e t df g
def kL(Inv:Nat->PT)(k:Nat)(Q:QT)(e:Ex)(t:T)(df:List ADf)(g:G):Prop:=match e with|.norm=>∃k',k'<k/\Inv k' t df g|e=>Q e t df g
def kQ(g0:G)(Q:QT)(t:T)(df:List ADf)(g:G):Prop:=g.lg=[]/\g.nx=g0.nx/\Q .norm t df g0
def wpC(v:AV)(A B:PT)(t:T)(df:List ADf)(g:G):Prop:=match v with|.bool q=>uG q A B t df g|_=>False
def wpL(W:QT->PT)(Q:QT)(t:T)(df:List ADf)(g:G):Prop :=
 ∃Inv:Nat->PT,(∃k,Inv k t df g)/\∀k t df g,Inv k t df g->W (kL Inv k Q) t df g
def nGd(all:List Oper):Option (Nat×Bool)->Option (Option (Nat×Bool))
 |none=>some none
 | some (j,w)=>match all[j]? with
  | some o=>match o.dst with
   |some d=>some (some (d,w))
   |none=>none
  |none=>none
def N9(nt:Nat):Option Nat->Bool
 |none=>true
 |some d=>Nat.blt d nt
def A8(C:Cfg)(nt:Nat)(all:List Oper):List Oper->Option (List SI)
 |[]=>some []
 | o::rest=>match N9 nt o.dst,nGd all o.guard,A8 C nt all rest with
  |true,some gd,some r=>some (⟨o.dst,gd,nOp C o.op⟩::r)
  |_,_,_=>none
def bZ(C:Cfg)(nt:Nat):Code->SC
 |.skip=>.skip
 |.label _=>.skip
 | .region p ops draw=>match A8 C nt ops.toList ops.toList with
  |some l=>ak draw (ak (Bd ops.toList) (ak (ops.toList.all λo=>wS C o.op) (.quiet l) (.feet (bm ops.toList []) l)) (.raw nt (.region p ops draw))) (.ops l)
  |none=>.raw nt (.region p ops draw)
 |.seq a b=>.seq (bZ C nt a) (bZ C nt b)
 | .cond c a b=>match nOd C c with
  |some c=>.cond c (bZ C nt a) (bZ C nt b)
  |none=>.raw nt (.cond c a b)
 |.block id b=>.blk id (bZ C nt b)
 |.loop b=>.loop (bZ C nt b)
 |.scope b=>bZ C nt b
 |.exit id=>.exit id
 |.ret=>.ret
 | .rangeFunc f ps assign body=>match nOd C f with
  |some f=>.rng nt f ps.toList (bZ C nt assign) (bZ C nt body)
  |none=>.raw nt (.rangeFunc f ps assign body)
 |c=>.raw nt c
def wp(C:Cfg)(d:Nat)(rd:Option Nat):SC->QT->T->List ADf->G->Prop
 |.skip,Q,t,df,g=>Q .norm t df g
 |.ops l,Q,t,df,g=>wpO C d rd l (Q .norm) t df g
 |.quiet l,Q,t,df,g=>wpO C d rd l (kQ g Q) t df (aJ g [])
 |.feet pm l,Q,t,df,g=>wpF C d rd pm l (Q .norm) t df g []
 |.seq a b,Q,t,df,g=>wp C d rd a (kS (wp C d rd b Q) Q) t df g
 |.cond c a b,Q,t,df,g=>wpC (c.get t) (wp C d rd a Q) (wp C d rd b Q) t df g
 |.blk id b,Q,t,df,g=>wp C d rd b (kB id Q) t df g
 |.loop b,Q,t,df,g=>wpL (wp C d rd b) Q t df g
 |.exit id,Q,t,df,g=>Q (.exit id) t df g
 |.ret,Q,t,df,g=>Q .ret t df g
 |.rng nt f ps a b,Q,t,df,g=>∀assign body,bZ C nt assign=a->bZ C nt body=b->(mg C nt (λt=>f.get t) ps assign body (I C) d rd t df g).sat Q
 |.raw nt c,Q,t,df,g=>((aL C nt c).run (I C) d rd t df g).sat Q
theorem wR{dst:Option Nat}(h:N9 nt dst=true):∃o,oI nt dst=some o/\∀t v,o.run t v=qm dst t v:=by
 cases dst with
 |none=>exact⟨_,rfl,λt v=>rfl⟩
 | some d =>
  refine⟨sp AV.undef d,?_,λt v=>rfl⟩;have h:Nat.blt d nt=true:=h;simp only[oI,h]
theorem rR{all:List Oper}{w:Bool}{r:Option (Nat×Bool)}(h:nGd all (some (j,w))=some r) :
  ∃s,r=some (s,w)/\iM all (some (j,w))=some ⟨λt=>match (gp AV.undef s).run t with|.bool b=>some (ak w b (jI b))|.tup _=>some false|_=>none⟩:=by
 unfold nGd at h;dsimp only at h
 split at h
 ·rename_i o ho
  split at h
  ·rename_i d hd;injection h with h;exact⟨d,h.symm,by simp only[iM,ho,hd];rfl⟩
  ·cases h
 ·cases h
theorem yL{out:T->AV->T}{dst:Option Nat}(ho:∀t v,out t v=qm dst t v){next:T->List ADf->G->CR}{Q:QT}{K:PT}(hk:∀t df g,K t df g->(next t df g).sat Q)
      (h:r.sat (kO K dst t df) g (kD K dst t df g)):(nF out next t df g r).sat Q:=by
 cases r with
 |fail=>exact h.elim
 |val v=>exact hk _ _ _ (by rw[ho];exact h)
 |upd v g'=>exact hk _ _ _ (by rw[ho];exact h)
 |dfr a=>exact hk _ _ _ (by rw[ho];exact h)
theorem xX{w:Bool}{A B:PT}(h:gdP v w A B t df g) :
  ∃q,(match v with|.bool b=>some (ak w b (jI b))|.tup _=>some false|_=>none:Option Bool)=some q/\(q=true->A t df g)/\(q=false->B t df g):=by
 unfold gdP at h
 split at h
 ·rename_i q;rw[aa]at h;refine⟨_,rfl,?_,?_⟩
  ·cases w<;>cases q<;>simp_all [uG]
  ·cases w<;>cases q<;>simp_all [uG]
 ·exact⟨false,rfl,λh=>(by cases h),λ_=>h⟩
 ·exact h.elim
theorem KS{all:List Oper}{Q:QT}:∀(l:List Oper) (s:List SI),A8 C nt all l=some s->∀t df g,wpO C d rd s (Q .norm) t df g ->
  ((jA C nt all l).run (I C) d rd t df g).sat Q:=by
 intro l
 induction l with
 |nil=>intro s h t df g hq;injection h with h;subst h;exact hq
 | cons o rest ih =>
  intro s h t df g hq;unfold A8 at h
  split at h
  ·rename_i gd r hd hg hr;injection h with h;subst h;obtain⟨ot,e1,e2⟩:=wR hd;unfold jA;rw[e1];dsimp only;cases hgd:o.guard with
   | none =>
    rw[hgd]at hg;injection hg with hg;subst hg;dsimp only;rw[<-u7];exact yL e2 (λt df g h=>ih r hr t df g h) hq
   | some jw =>
    obtain⟨j,w⟩:=jw;rw[hgd]at hg;obtain⟨sl,h1,h2⟩:=rR hg;subst h1;dsimp only;rw[h2];dsimp only;obtain⟨q,h3,h4,h5⟩:=xX hq;have:(gp AV.undef sl).run t=tat t sl:=gp_run _ _ _;rw[this,h3];cases q with
    | true =>
     dsimp only;rw[<-u7];exact yL e2 (λt df g h=>ih r hr t df g h) (h4 rfl)
    | false =>
     dsimp only;rw[e2];exact ih r hr _ _ _ (h5 rfl)
  ·cases h
theorem HC(hc:∀c,op≠.call c):(A9 C op).foot C t g=(aK C op).run t g:=by
 have k:∀{x:Operand} {o:Od},nOd C x=some o->∃s,aN C x=some s/\∀t,s.run t=o.get t:=bh;unfold A9
 split
 case h_8 ty a =>
  split
  ·rename_i a ag n ha h2 h3;obtain⟨s,hs,he⟩:=k ha;simp only[aK,hs,SO.foot,he]
  ·rfl
 case h_9 ty a x =>
  split
  ·rename_i a x n ha hx h3;obtain⟨s,hs,he⟩:=k ha;simp only[aK,hs,SO.foot,he]
  ·rfl
 case h_16 ty x lo hi =>
  split
  ·rename_i e x l h h0 hx hl b;obtain⟨s,hs,he⟩:=k hx
   split
   ·simp only[aK,hs,SO.foot,he]
   ·rfl
  ·rename_i n e x l h h0 hx hl b;obtain⟨s,hs,he⟩:=k hx
   split
   ·simp only[aK,hs,SO.foot,he]
   ·rfl
  ·rfl
 case h_19 ty x ix =>
  split
  ·rename_i a i ha hi;obtain⟨s,hs,he⟩:=k ha
   split
   ·rename_i e h0
    split
    ·simp only[aK,h0,hs,SO.foot,he]
    ·rfl
   ·rename_i n e h0
    split
    ·simp only[aK,h0,SO.foot]
    ·rfl
   ·rfl
  ·rfl
 all_goals (repeat' (first|rfl|split|rw[aa]))
theorem JU:(nOp C op).foot C t g=(aK C op).run t g:=by
 unfold nOp
 split
 ·rename_i f args ats
  split
  ·rename_i vs hv;obtain⟨s,hs,he⟩:=cq hv;simp only[SO.foot,aK,aN,hs,he,QU,QJ]
  ·rfl
 ·rename_i fo args ats j
  split
  ·rename_i f vs hf hv;obtain⟨s,hs,he⟩:=cq hv;obtain⟨l,e,d⟩:=bh hf;simp only[SO.foot,aK,hs,e,he,d];cases Od.get t f<;>rfl
  ·rfl
 ·rename_i b args ats
  split
  ·rename_i x hx;obtain⟨s,hs,he⟩:=cq hx
   split
   ·rename_i ty i;simp only[SO.foot,aK,hs,he,ff,Rl,Ru,QJ,kP,i];cases kV C.P ty<;>rfl
   ·rfl
  ·rename_i a x hx;obtain⟨s,hs,he⟩:=cq hx;have k:(aK C (.call { callee:=.builtin .append,args:=args,argTypes:=ats })).run t g=ah (af (a.get t)++af (x.get t)):=by simp only[aK,hs,he,ff,Rl,Ru,QJ,kP]
   split
   ·split
    ·split
     ·rw[aa];split
      ·exact k.symm
      ·rfl
     ·rfl
    ·rfl
   ·rfl
  ·rename_i a x hx;obtain⟨s,hs,he⟩:=cq hx;have k:(aK C (.call { callee:=.builtin .copy,args:=args,argTypes:=ats })).run t g=ah (af (a.get t)++af (x.get t)):=by simp only[aK,hs,he,ff,Rl,Ru,QJ,kP]
   split
   ·split
    ·split
     ·exact k.symm
     ·rfl
    ·rfl
   ·rfl
  ·rename_i a x hx;obtain⟨s,hs,he⟩:=cq hx;simp only[SO.foot,aK,hs,he,ff,Rl,Ru,QJ,kP]
  ·rename_i a x hx;obtain⟨s,hs,he⟩:=cq hx;simp only[SO.foot,aK,hs,he,ff,Rl,Ru,QJ,kP]
  ·rfl
 ·rename_i h1 h2 h3;cases op with
  |call c=>rfl
  |_=>exact HC (λc h=>by cases h)
theorem NO{all:List Oper}{pm:List Nat}{Q:QT}:∀(l:List Oper) (s:List SI) (k:Nat),A8 C nt all l=some s->∀t df g fs,wpF C d rd pm s (Q .norm) t df g fs ->
  ((iL C nt pm all k l).run (I C) d rd t df g fs).sat Q:=by
 intro l
 induction l with
 | nil =>
  intro s k h t df g fs hq;injection h with h;subst h;obtain⟨h1,h2⟩:=hq;unfold iL;dsimp only;rw[h1];exact h2
 | cons o rest ih =>
  intro s k h t df g fs hq;unfold A8 at h
  split at h
  ·rename_i gd r hd hg hr;injection h with h;subst h;obtain⟨ot,e1,e2⟩:=wR hd;have step:∀{x:OR},x.sat (kF (wpF C d rd pm r (Q .norm)) o.dst t df g.lg fs ((nOp C o.op).foot C t g)) (aJ g []) (λ_=>False) ->
     (j8 ot.run ((iL C nt pm all (k+1) rest).run (I C) d rd) t df g fs ((aK C o.op).run t g) x).sat Q:=by
    intro x hx;rw[JU]at hx;cases x with
    |fail=>exact hx.elim
    | val v =>
     simp only[j8,e2];refine ih r _ hr _ _ _ _ ?_;have hx:wpF C d rd pm r (Q .norm) (qm o.dst t v) df (nK (aJ g []) ((aJ g []).lg++g.lg)) (⟨(aK C o.op).run t g,(aJ g []).lg⟩::fs):=hx;obtain⟨h,nx,lg⟩:=g;exact hx
    | upd v g' =>
     simp only[j8,e2];exact ih r _ hr _ _ _ _ hx
    |dfr a=>exact hx.elim
   unfold iL;rw[e1];cases hgd:o.guard with
   | none =>
    rw[hgd]at hg;injection hg with hg;subst hg;simp only[iM];rw[<-u7];exact step hq
   | some jw =>
    obtain⟨j,w⟩:=jw;rw[hgd]at hg;obtain⟨sl,h1,h2⟩:=rR hg;subst h1;rw[h2];dsimp only;obtain⟨q,h3,h4,h5⟩:=xX hq;have:(gp AV.undef sl).run t=tat t sl:=gp_run _ _ _;rw[this,h3];cases q with
    | true =>
     dsimp only;rw[<-u7];exact step (h4 rfl)
    | false =>
     dsimp only;rw[e2];exact ih r _ hr _ _ _ _ (h5 rfl)
  ·cases h
theorem CR.sat_mono{r:CR}{Q Q':QT}(h:r.sat Q)(hq:∀e t df g,Q e t df g->Q' e t df g):r.sat Q':=by
 cases r with
 |fail=>exact h
 |ok e t df g=>exact hq _ _ _ _ h
theorem KX:∀(c:Code) (Q:QT) (t:T) (df:List ADf) (g:G),wp C d rd (bZ C nt c) Q t df g->((aL C nt c).run (I C) d rd t df g).sat Q:=by
 intro c
 induction c with
 | seq a b iha ihb =>
  intro Q t df g h;have h:=iha _ t df g h;show (zm _ ((aL C nt a).run (I C) d rd t df g)).sat Q;cases hr:(aL C nt a).run (I C) d rd t df g with
  |fail=>rw[hr]at h;exact h
  | ok e t1 df1 g1 =>
   rw[hr]at h;cases e with
   |norm=>exact ihb _ _ _ _ h
   |exit j=>exact h
   |ret=>exact h
 | cond q a b iha ihb =>
  intro Q t df g h;unfold bZ at h
  split at h
  ·rename_i o ho;obtain⟨s,hs,he⟩:=bh ho;simp only[aL,hs,he];have h:wpC (o.get t) (wp C d rd (bZ C nt a) Q) (wp C d rd (bZ C nt b) Q) t df g:=h;unfold wpC at h;cases hv:Od.get t o with
   | bool v =>
    rw[hv]at h;cases v with
    |true=>exact iha _ _ _ _ (h.1 rfl)
    |false=>exact ihb _ _ _ _ (h.2 rfl)
   |_=>rw[hv]at h;exact h.elim
  ·exact h
 | block id body ih =>
  intro Q t df g h;have h:=ih _ t df g h;show (sU id ((aL C nt body).run (I C) d rd t df g)).sat Q;cases hr:(aL C nt body).run (I C) d rd t df g with
  |fail=>rw[hr]at h;exact h
  | ok e t1 df1 g1 =>
   rw[hr]at h;cases e with
   |norm=>exact h
   | exit j =>
    have h:ak (Nat.beq j id) (Q .norm t1 df1 g1) (Q (.exit j) t1 df1 g1):=h;show (ak (Nat.beq j id) _ _:CR).sat Q;cases hb:Nat.beq j id
    ·rw[hb]at h;exact h
    ·rw[hb]at h;exact h
   |ret=>exact h
 | loop body ih =>
  intro Q t df g h;obtain⟨Inv,⟨k,hk⟩,hs⟩:=h
  induction k using Nat.strongRecOn generalizing t df g with
  | _ k rec =>
   have h:=ih _ t df g (hs k t df g hk);show (zm (λt df g=>(I C).code nt d rd (.loop body) t df g) ((aL C nt body).run (I C) d rd t df g)).sat Q;cases hr:(aL C nt body).run (I C) d rd t df g with
   |fail=>rw[hr]at h;exact h
   | ok e t1 df1 g1 =>
    rw[hr]at h;cases e with
    | norm =>
     obtain⟨k',hlt,hi⟩:=h;show ((I C).code nt d rd (.loop body) t1 df1 g1).sat Q;rw[DU];exact rec k' hlt t1 df1 g1 hi
    |exit j=>exact h
    |ret=>exact h
 |scope body ih=>intro Q t df g h;exact ih _ _ _ _ h
 | region p ops draw =>
  intro Q t df g h;show ((fB C nt ops.toList draw).run (I C) d rd t df g).sat Q;unfold bZ at h
  split at h
  ·rename_i l hl;rw[aa,aa,aa]at h;unfold fB;rw[aa,aa,aa]
   split
   ·rename_i hd;rw[Qw hd]at h
    split
    ·rename_i ho;rw[Qw ho]at h
     split
     ·rename_i hq;rw[Qw hq]at h;have h:wpO C d rd l (kQ g Q) t df (aJ g []):=h;have h:=KS (C:=C) (d:=d) (rd:=rd) (Q:=λe t df g'=>e=.norm/\g'.lg=[]/\g'.nx=g.nx/\Q .norm t df g) (nt:=nt) (all:=ops.toList) ops.toList l hl t df (aJ g [])
       (by
        refine cast ?_ h;congr 1;funext t df g';simp[kQ])
      dsimp only;cases hr:(jA C nt ops.toList ops.toList).run (I C) d rd t df (aJ g []) with
      |fail=>rw[hr]at h;exact h
      | ok e t1 df1 g1 =>
       rw[hr]at h;obtain⟨h0,h1,h2,h3⟩:=h;subst h0;simp only[mf,h1,h2,Q2];exact h3
     ·rename_i hq;rw[Qu hq]at h;exact NO _ l 0 hl _ _ _ _ h
    ·rename_i ho;rw[Qu ho]at h;unfold wp at h;simp only[aL,fB,aa,Qw hd,Qu ho]at h;exact h
   ·rename_i hd;rw[Qu hd]at h;exact KS _ l hl _ _ _ h
  ·exact h
 | rangeFunc f ps assign body _ _ =>
  intro Q t df g h;unfold bZ at h
  split at h
  ·rename_i o ho;obtain⟨s,hs,he⟩:=bh ho;have he:s.run=λt=>o.get t:=funext he;simp only[aL,hs,he];exact h assign body rfl rfl
  ·exact h
 |skip=>intro Q t df g h;exact h
 |label l=>intro Q t df g h;exact h
 |exit id=>intro Q t df g h;exact h
 |ret=>intro Q t df g h;exact h
 |goto l=>intro Q t df g h;exact h
 |refuse w=>intro Q t df g h;exact h
theorem OR.sat_mono{K K':AV->G->Prop}{D D':ADf->Prop}(h:r.sat K g D)(hk:∀v g',K v g'->K' v g')(hd:∀a,D a->D' a):r.sat K' g D':=by
 cases r with
 |fail=>exact h
 |val v=>exact hk _ _ h
 |upd v g'=>exact hk _ _ h
 |dfr a=>exact hd _ h
inductive SR where
 |tm (n:Nat)
 |cell (ag:Bool) (n a:Nat)
structure SF where
 nt:Nat
 res:List SR
 code:SC
def u9(C:Cfg):List ResultVar->Option (List SR)
 |[]=>some []
 | .tmp n::rs=>match u9 C rs with
  |some k=>some (.tm n::k)
  |none=>none
 | .cell a ty::rs=>match u9 C rs,qr C.P ty,szT C.P ty with
  |some k,some ag,some n=>some (.cell ag n a::k)
  |_,_,_=>none
def nFn(C:Cfg)(f:Nat):Option SF :=
 match C.P.funcs[f]? with
 |none=>none
 | some fn=>match fn.body with
  |none=>none
  | some c=>match u9 C fn.results.toList with
   | some r => ak (fn.name == "runtime.NumGoroutine") none (some ⟨fn.ntmps, r, bZ C fn.ntmps c⟩)
   |none=>none
def qo:List SR->T->G->(List AV->Prop)->Prop
 |[],_,_,K=>K []
 |.tm n::rs,t,g,K=>qo rs t g λvs=>K (tat t n::vs)
 | .cell ag n a::rs,t,g,K=>match qf ag n (tat t a) g with
  |.val v=>qo rs t g λvs=>K (v::vs)
  |_=>False
theorem Bk:∀(l:List ResultVar) (r:List SR) (K:List AV->Prop),u9 C l=some r->qo r t g K->∃s vs,mu C l=some s/\s.run t g=some vs/\K vs:=by
 intro l
 induction l with
 |nil=>intro r K h hk;injection h with h;subst h;exact⟨_,[],rfl,rfl,hk⟩
 | cons x l ih =>
  intro r K h hk;cases x with
  | tmp n =>
   unfold u9 at h
   split at h
   ·rename_i k hr;injection h with h;subst h;obtain⟨s,vs,h1,h2,h3⟩:=ih k _ hr hk;refine⟨⟨λt g=>match s.run t g with|some vs=>some ((gp AV.undef n).run t::vs)|none=>none⟩,tat t n::vs,by simp only[mu,h1];rfl,?_,h3⟩;simp only[h2,gp_run];rfl
   ·cases h
  | cell a ty =>
   unfold u9 at h
   split at h
   ·rename_i k ag n hr ha b;injection h with h;subst h;unfold qo at hk
    split at hk
    ·rename_i v hv;obtain⟨s,vs,h1,h2,h3⟩:=ih k _ hr hk;have hl:l_ ag n (gp AV.undef a).run t g=.val v:=by rw[<-hv];simp only[qf,l_,gp_run];rfl
     refine⟨⟨λt g=>match l_ ag n (gp AV.undef a).run t g with|.val v=>(match s.run t g with|some vs=>some (v::vs)|none=>none)|_=>none⟩,v::vs,
      by simp only[mu,h1,cm,aN,ha,b];rfl,?_,h3⟩
     simp only[hl,h2]
    ·exact hk.elim
   ·cases h
def kg(C:Cfg)(d:Nat)(r:List SR)(t:T)(df:List ADf)(g:G)(K:AV->G->Prop):Prop :=
 match dM (I C) d df g with
 |some g'=>qo r t g' λvs=>K (eg vs) g'
 |none=>False
def fnQ(C:Cfg)(d:Nat)(r:List SR)(K:AV->G->Prop):QT:=λe t df g=>match e with|.exit _=>False|_=>kg C d r t df g K
theorem o9{s:SF}(hf:nFn C f=some s){as:List AV}{K:AV->G->Prop}(hl:as.length<=s.nt)(h:wp C d none s.code (fnQ C d s.res K) (bk 0 as .nil) [] g) :
  ((I C).call d f as g).sat K:=by
 rw[M6];unfold nFn at hf
 split at hf
 ·cases hf
 rename_i fn m
 split at hf
 ·cases hf
 rename_i c hc
 split at hf
 rotate_left
 ·cases hf
 rename_i r hr;rw[aa]at hf
 split at hf
 ·cases hf
 rename_i p;injection hf with hf;subst hf;have h:=KX c _ _ _ _ h;have b:∃s,mu C fn.results.toList=some s:=by
  have:∀(l:List ResultVar) (r:List SR),u9 C l=some r->∃s,mu C l=some s:=by
   intro l
   induction l with
   |nil=>intro r _;exact⟨_,rfl⟩
   | cons x l ih =>
    intro r h;cases x with
    | tmp n =>
     unfold u9 at h
     split at h
     ·rename_i k hr;obtain⟨s,hs⟩:=ih k hr;exact⟨_,by simp only[mu,hs];rfl⟩
     ·cases h
    | cell a ty =>
     unfold u9 at h
     split at h
     ·rename_i k ag n hr ha p;obtain⟨s,hs⟩:=ih k hr;exact⟨_,by simp only[mu,hs,cm,aN,ha,p];rfl⟩
     ·cases h
  exact this _ _ hr
 obtain⟨rs,i⟩:=b;unfold d8 cFn;simp only[m,hc,i,aa,Qu p];rw[Qw (by rw[aq,Q6];exact hl)];cases hrun:(aL C fn.ntmps c).run (I C) d none (bk 0 as .nil) [] g with
 |fail=>rw[hrun]at h;exact h
 | ok e t df g' =>
  rw[hrun]at h;have key:kg C d r t df g' K->(bD (I C) d rs.run t df g').sat K:=by
   intro h;unfold kg at h;unfold bD
   split at h
   ·rename_i g2 o;rw[o];obtain⟨q,vs,h1,h2,h3⟩:=Bk _ _ _ hr h;rw[i]at h1;injection h1 with h1;subst h1;simp only[h2];exact h3
   ·exact h.elim
  cases e with
  |exit j=>exact h
  |norm=>exact key h
  |ret=>exact key h
def All2{α β:Type}(R:α->β->Prop):List α->List β->Prop
 |[],[]=>True
 |a::as,b::bs=>R a b/\All2 R as bs
 |_,_=>False
section all2
variable {α β:Type}{R S:α->β->Prop}
theorem All2.len:∀{l:List α} {m:List β},All2 R l m->l.length=m.length
 |[],[],_=>rfl
 |_::_,_::_,h=>by simp only[Rd,All2.len h.2]
theorem All2.mono(hs:∀a b,R a b->S a b):∀{l:List α} {m:List β},All2 R l m->All2 S l m
 |[],[],_=>trivial
 |_::_,_::_,h=>⟨hs _ _ h.1,All2.mono hs h.2⟩
theorem All2.get:∀{l:List α} {m:List β},All2 R l m->∀{i:Nat} {a:α},l[i]?=some a->∃b,m[i]?=some b/\R a b
 |_::_,b::_,h,0,_,e=>by simp at e;subst e;exact⟨b,rfl,h.1⟩
 |_::_,_::_,h,i+1,a,e=>by simpa using All2.get h.2 (i:=i) (by simpa using e)
 |[],[],_,i,a,e=>by simp at e
theorem All2.get':∀{l:List α} {m:List β},All2 R l m->∀{i:Nat} {b:β},m[i]?=some b->∃a,l[i]?=some a/\R a b
 |a::_,_::_,h,0,_,e=>by simp at e;subst e;exact⟨a,rfl,h.1⟩
 |_::_,_::_,h,i+1,a,e=>by simpa using All2.get' h.2 (i:=i) (by simpa using e)
 |[],[],_,i,a,e=>by simp at e
theorem All2.append:∀{l:List α} {m:List β} {l':List α} {m':List β},All2 R l m->All2 R l' m'->All2 R (l++l') (m++m')
 |[],[],_,_,_,h'=>h'
 |_::_,_::_,_,_,h,h'=>⟨h.1,All2.append h.2 h'⟩
theorem All2.take:∀{l:List α} {m:List β},All2 R l m->∀(i:Nat),All2 R (l.take i) (m.take i)
 |[],[],_,_=>by simp[All2]
 |_::_,_::_,h,0=>by simp[All2]
 |_::_,_::_,h,i+1=>⟨h.1,All2.take h.2 i⟩
theorem All2.drop:∀{l:List α} {m:List β},All2 R l m->∀(i:Nat),All2 R (l.drop i) (m.drop i)
 |[],[],_,_=>by simp[All2]
 |_::_,_::_,h,0=>h
 |_::_,_::_,h,i+1=>All2.drop h.2 i
theorem Oz{f:α->β}(h:∀a,R a (f a)):∀l:List α,All2 R l (l.map f)
 |[]=>trivial
 |a::l=>⟨h a,Oz h l⟩
theorem All2.eq_map{f:α->β}(hf:∀a b,R a b->b=f a):∀{l:List α} {m:List β},All2 R l m->m=l.map f
 |[],[],_=>rfl
 |a::l,b::m,h=>by rw[Sv,hf _ _ h.1,All2.eq_map hf h.2]
end all2
def NoP:Nat->Prop:=λ_=>False
class Rp (α:Type) where
 sz:Nat
 dp:Nat
 rp:(Nat->Prop)->Nat->H->α->List AV->Prop
 len:∀{P k h x cs},rp P k h x cs->cs.length=sz
 mono:∀{P P':Nat->Prop} {k k':Nat} {h h':H} {x:α} {cs:List AV},rp P k h x cs->(∀i,P i->P' i/\h'.get i=h.get i)->k<=k'->rp P' k' h' x cs
 snap:∀{P k h x cs n} (d:Nat),rp P k h x cs->dp<=n->dp<=aD->∃cs',aF (Hx.snap h d n) cs=some cs'/\rp NoP (max k d) .nil x cs'
 same:∀{k h x cs n} (d:Nat),rp NoP k h x cs->dp<=n->aF (Hx.snap h d n) cs=some cs
 ids:∀{P k h x cs n},rp P k h x cs->∀i∈cs.flatMap (aE h n),P i
 tag:∀{k h x cs n},rp NoP k h x cs->dp<=n->∃m,ge (eh n) cs=some m/\m<=k
theorem Rp.tree{α:Type} [Rp α]{k':Nat}{h':H}{x:α}(r:Rp.rp NoP k h x cs)(hk:k<=k'):Rp.rp P k' h' x cs :=
 Rp.mono r (λ_ h=>h.elim) hk
def AV.flat:AV->Bool
 |.bool _|.int _ _|.str _=>true
 |_=>false
theorem Aq(hv:v.flat=true)(hn:1<=n):Hx.snap h d n v=some v:=by obtain⟨n,rfl⟩:∃m,n=m+1:=⟨n - 1,by omega⟩;cases v<;>first|rfl|cases hv
theorem KH(hv:v.flat=true)(hn:1<=n):eh n v=some 0:=by obtain⟨n,rfl⟩:∃m,n=m+1:=⟨n - 1,by omega⟩;cases v<;>first|rfl|cases hv
theorem Jv{h:H}{n:Nat}{v:AV}(hv:v.flat=true):aE h n v=[]:=by
 cases n with
 |zero=>rfl
 |succ n=>cases v<;>first|rfl|cases hv
@[reducible] def Rp.plain {α:Type} (f:α->AV) (ok:α->Prop) (hf:∀x,(f x).flat=true):Rp α where
 sz:=1
 dp:=1
 rp:=λ_ _ _ x cs=>cs=[f x]/\ok x
 len:=by rintro P k h x cs ⟨rfl,-⟩;rfl
 mono:=λr _ _=>r
 snap:=by rintro P k h x cs n d ⟨rfl,ho⟩ hn _;exact⟨[f x],by simp only[aF,Aq (hf x) hn],rfl,ho⟩
 same:=by rintro k h x cs n d ⟨rfl,ho⟩ hn;simp only[aF,Aq (hf x) hn]
 ids:=by rintro P k h x cs n ⟨rfl,ho⟩ i hi;simp[Jv (hf x)]at hi
 tag:=by rintro k h x cs n ⟨rfl,ho⟩ hn;exact⟨0,by simp[ge,KH (hf x) hn],Q_ _⟩
def ci(x:Int):List AV:=[.int .i64 x]
def cu(x:Nat):List AV:=[.int .u64 (x:Int)]
instance : Rp Int:=Rp.plain (λx=>.int .i64 x) (λ_=>True) (λ_=>rfl)
instance : Rp Bool:=Rp.plain (λx=>.bool x) (λ_=>True) (λ_=>rfl)
instance : Rp Nat:=Rp.plain (λx=>.int .u64 (x:Int)) (λx=>x<18446744073709551616) (λ_=>rfl)
instance : Rp UInt8:=Rp.plain (λx=>.int .u8 (x.toNat:Int)) (λ_=>True) (λ_=>rfl)
instance : Rp UInt16:=Rp.plain (λx=>.int .u16 (x.toNat:Int)) (λ_=>True) (λ_=>rfl)
theorem rB{α β:Type}{f:α->Option β}:∀{l m:List α} {a b:List β},aF f l=some a->aF f m=some b->aF f (l++m)=some (a++b)
 |[],m,a,b,h1,h2=>by injection h1 with h1;subst h1;exact h2
 | x::l,m,a,b,h1,h2=>by
  unfold aF at h1
  split at h1
  ·rename_i y k
   split at h1
   ·rename_i ys h;injection h1 with h1;subst h1;simp only[QQ,aF,k,rB h h2]
   ·cases h1
  ·cases h1
theorem vQ{α:Type}{f:α->Option Nat}:∀{l m:List α} {a b:Nat},ge f l=some a->ge f m=some b->ge f (l++m)=some (max a b)
 |[],m,a,b,h1,h2=>by injection h1 with h1;subst h1;simpa using h2
 | x::l,m,a,b,h1,h2=>by
  unfold ge at h1
  split at h1
  ·rename_i y k
   split at h1
   ·rename_i ys h;injection h1 with h1;subst h1;simp only[QQ,ge,k,vQ h h2,RN,Nat.max_def]
    repeat' split
    all_goals omega
   ·cases h1
  ·cases h1
instance {α β:Type} [Rp α] [Rp β]:Rp (α×β) where
 sz:=Rp.sz α+Rp.sz β
 dp:=max (Rp.dp α) (Rp.dp β)
 rp:=λP k h x cs=>∃a b,cs=a++b/\Rp.rp P k h x.1 a/\Rp.rp P k h x.2 b
 len:=by rintro P k h x cs ⟨a,b,rfl,h1,h2⟩;rw[Q3,Rp.len h1,Rp.len h2]
 mono:=by rintro P P' k k' h h' x cs ⟨a,b,rfl,h1,h2⟩ hp hk;exact⟨a,b,rfl,Rp.mono h1 hp hk,Rp.mono h2 hp hk⟩
 snap:=by rintro P k h x cs n d ⟨a,b,rfl,h1,h2⟩ hn hA;obtain⟨a',e1,r1⟩:=Rp.snap (n:=n) d h1 (by omega) (by omega);obtain⟨b',e2,r2⟩:=Rp.snap (n:=n) d h2 (by omega) (by omega);exact⟨a'++b',rB e1 e2,a',b',rfl,r1,r2⟩
 same:=by rintro k h x cs n d ⟨a,b,rfl,h1,h2⟩ hn;exact rB (Rp.same d h1 (by omega)) (Rp.same d h2 (by omega))
 ids:=by
  rintro P k h x cs n ⟨a,b,rfl,h1,h2⟩ i hi;rw[SD,Q7]at hi;rcases hi with hi|hi
  ·exact Rp.ids h1 i hi
  ·exact Rp.ids h2 i hi
 tag:=by rintro k h x cs n ⟨a,b,rfl,h1,h2⟩ hn;obtain⟨m1,e1,l1⟩:=Rp.tag (n:=n) h1 (by omega);obtain⟨m2,e2,l2⟩:=Rp.tag (n:=n) h2 (by omega);exact⟨max m1 m2,vQ e1 e2,by omega⟩
@[reducible] def Rp.via {α β:Type} [Rp β] (f:α->β):Rp α where
 sz:=Rp.sz β
 dp:=Rp.dp β
 rp:=λP k h x cs=>Rp.rp P k h (f x) cs
 len:=Rp.len
 mono:=Rp.mono
 snap:=Rp.snap
 same:=Rp.same
 ids:=Rp.ids
 tag:=Rp.tag
def SlV{α:Type} [Rp α](P:Nat->Prop)(k:Nat)(h:H)(l:List α)(v:AV):Prop :=
 match v with
 |.nils|.esl=>l=[]
 |.tsl t s rows=>t<=k/\(s=Rp.sz α\/rows=[])/\All2 (Rp.rp NoP k .nil) l rows
 |.hsl id _ _ _ _=>P id/\∃rows,am h (Rp.sz α) v=some rows/\All2 (Rp.rp P k h) l rows
 |_=>False
def SlR{α:Type} [Rp α](P:Nat->Prop)(k:Nat)(h:H)(l:List α)(v:AV):Prop:=l.length<9223372036854775808/\SlV P k h l v
theorem SlR.rows{α:Type} [Rp α]{P:Nat->Prop}{k:Nat}{h:H}{l:List α}{v:AV}(r:SlR P k h l v):∃rows,am h (Rp.sz α) v=some rows/\All2 (Rp.rp P k h) l rows:=by
 have r:=r.2;unfold SlV at r
 split at r
 ·subst r;exact⟨[],rfl,trivial⟩
 ·subst r;exact⟨[],rfl,trivial⟩
 ·obtain⟨h1,h2,h3⟩:=r;refine⟨_,?_,h3.mono λa b r=>Rp.tree r (Qq _)⟩;simp only[am];rw[aa];rcases h2 with h2|h2
  ·subst h2;simp
  ·subst h2;simp
 ·exact r.2
 ·exact r.elim
theorem Aa{α β γ:Type}{R:α->β->Prop}{S:α->γ->Prop}{f:β->Option γ}(hf:∀a b,R a b->∃c,f b=some c/\S a c):∀{l:List α} {m:List β},All2 R l m->∃r,aF f m=some r/\All2 S l r
 |[],[],_=>⟨[],rfl,trivial⟩
 | a::l,b::m,h=>by obtain⟨c,e1,k⟩:=hf a b h.1;obtain⟨r,e2,d⟩:=Aa hf h.2;exact⟨c::r,by simp only[aF,e1,e2],k,d⟩
theorem Ab{α β:Type}{R:α->β->Prop}{f:β->Option Nat}{k:Nat}(hf:∀a b,R a b->∃m,f b=some m/\m<=k):∀{l:List α} {m:List β},All2 R l m->∃r,ge f m=some r/\r<=k
 |[],[],_=>⟨0,rfl,Q_ _⟩
 | a::l,b::m,h=>by obtain⟨c,e1,d⟩:=hf a b h.1;obtain⟨r,e2,e⟩:=Ab hf h.2;exact⟨max c r,by simp only[ge,e1,e2],by omega⟩
theorem CN{α β:Type}{R:α->β->Prop}:∀{l:List α} {m:List β},All2 R l m->∀b∈m,∃a,R a b
 |[],[],_,b,hb=>by simp at hb
 | a::l,c::m,h,b,hb=>by
  rcases Rh.1 hb with rfl|hb
  ·exact⟨a,h.1⟩
  ·exact CN h.2 b hb
theorem vS{h h':H}{sz:Nat}{v:AV}(he:∀id ep off len lim,v=.hsl id ep off len lim->h'.get id=h.get id):am h' sz v=am h sz v:=by
 cases v with
 |hsl id ep off len lim=>simp only[am,he id ep off len lim rfl]
 |_=>rfl
instance {α:Type} [Rp α]:Rp (List α) where
 sz:=1
 dp:=Rp.dp α+1
 rp:=λP k h l cs=>∃v,cs=[v]/\SlR P k h l v
 len:=by rintro P k h x cs ⟨v,rfl,h1⟩;rfl
 mono:=by
  rintro P P' k k' h h' x cs ⟨v,rfl,h0,h1⟩ hp hk;refine⟨v,rfl,h0,?_⟩;unfold SlV at h1 ⊢
  split at h1
  ·exact h1
  ·exact h1
  ·exact⟨by omega,h1.2.1,h1.2.2.mono λa b r=>Rp.mono r (λi hi=>hi.elim) hk⟩
  ·rename_i id ep off len lim;obtain⟨a,rows,b,c⟩:=h1;refine⟨(hp _ a).1,rows,?_,c.mono λa b r=>Rp.mono r hp hk⟩;rw[<-b];exact vS λ_ _ _ _ _ e=>by injection e with e;subst e;exact (hp _ a).2
  ·exact h1
 snap:=by
  rintro P k h x cs n d ⟨v,rfl,h0,h1⟩ hn hA;obtain⟨n,rfl⟩:∃m,n=m+1:=⟨n - 1,by omega⟩;have hdA:(23:Nat)+1=aD:=rfl;cases v with
  |nils=>exact⟨_,rfl,_,rfl,h0,h1⟩
  |esl=>exact⟨_,rfl,_,rfl,h0,h1⟩
  | tsl t s rows =>
   refine⟨_,rfl,_,rfl,h0,?_⟩;obtain⟨q1,q2,q3⟩:=h1;exact⟨by omega,q2,q3.mono λa b r=>Rp.mono r (λi hi=>hi.elim) (by omega)⟩
  | hsl id ep off len lim =>
   obtain⟨q1,rows,q2,q3⟩:=h1;simp only[am]at q2
   split at q2
   ·rename_i sz' rows' ep' lo fz hg;rw[aa]at q2
    split at q2
    ·rename_i hc;simp only[Qt]at hc;obtain⟨⟨hc1,hc2⟩,hc3⟩:=hc;injection q2 with q2;have e1:=Ro hc2;subst e1;obtain⟨rs,e2,a2⟩:=Aa (S:=Rp.rp NoP (max k d) .nil) (f:=aF (Hx.snap h d n)) (λa b r=>Rp.snap (n:=n) d r (by omega) (by omega)) q3;obtain⟨m,e3,l3⟩:=Ab (f:=ge (eh aD)) (k:=max k d) (λa b r=>Rp.tag (n:=aD) r (by omega)) a2;refine⟨[.tsl (Nat.max d m) (Rp.sz α) rs],?_,_,rfl,h0,?_⟩
     ·simp only[aF,Hx.snap,hg,hc1,hc3,SU,q2,e2,eM,e3]
     ·refine⟨?_,.inl rfl,a2⟩;show max d m<=max k d;omega
    ·cases q2
   ·cases q2
  |_=>exact h1.elim
 same:=by
  rintro k h x cs n d ⟨v,rfl,-,h1⟩ hn;obtain⟨n,rfl⟩:∃m,n=m+1:=⟨n - 1,by omega⟩;cases v with
  |nils=>rfl
  |esl=>rfl
  |tsl t s rows=>rfl
  |hsl id ep off len lim=>exact h1.1.elim
  |_=>exact h1.elim
 ids:=by
  rintro P k h x cs n ⟨v,rfl,-,h1⟩ i hi;cases n with
  |zero=>simp[aE]at hi
  | succ n =>
   simp only[Rl,Ru,QJ]at hi;cases v with
   | hsl id ep off len lim =>
    obtain⟨q1,rows,q2,q3⟩:=h1;unfold aE at hi;rcases Rh.1 hi with rfl|hi
    ·exact q1
    ·simp only[am]at q2
     split at q2
     ·rename_i sz' rows' ep' lo fz hg;rw[aa]at q2
      split at q2
      ·injection q2 with q2;rw[hg]at hi;simp only[q2,Sk]at hi;obtain⟨row,hr,c,hc,hi⟩:=hi;obtain⟨a,r⟩:=CN q3 row hr;exact Rp.ids (n:=n) r i (Sk.2 ⟨c,hc,hi⟩)
      ·cases q2
     ·cases q2
   |nils=>simp[aE]at hi
   |esl=>simp[aE]at hi
   |tsl t s rows=>simp[aE]at hi
   |_=>exact h1.elim
 tag:=by
  rintro k h x cs n ⟨v,rfl,-,h1⟩ hn;obtain⟨n,rfl⟩:∃m,n=m+1:=⟨n - 1,by omega⟩;cases v with
  |nils=>exact⟨0,rfl,Q_ _⟩
  |esl=>exact⟨0,rfl,Q_ _⟩
  |tsl t s rows=>exact⟨t,by simp[ge,eh],h1.1⟩
  |hsl id ep off len lim=>exact h1.1.elim
  |_=>exact h1.elim
theorem ch{α:Type} [Rp α]{l:List α}:Rp.rp P k h l cs↔∃v,cs=[v]/\SlR P k h l v:=Iff.rfl
theorem aG{x:Int}:Rp.rp P k h x cs↔cs=[.int .i64 x]:=by simp[Rp.rp]
theorem EQ{x:Nat}:Rp.rp P k h x cs↔cs=[.int .u64 (x:Int)]/\x<18446744073709551616:=by simp[Rp.rp]
theorem Bl{x:Bool}:Rp.rp P k h x cs↔cs=[.bool x]:=by simp[Rp.rp]
theorem di{x:UInt8}:Rp.rp P k h x cs↔cs=[.int .u8 (x.toNat:Int)]:=by simp[Rp.rp]
theorem Gn{α β:Type} [Rp α] [Rp β]{x:α×β}:Rp.rp P k h x cs↔∃a b,cs=a++b/\Rp.rp P k h x.1 a/\Rp.rp P k h x.2 b:=Iff.rfl
theorem SlR.ints(r:SlR P k h l v):am h 1 v=some (l.map ci):=by obtain⟨rows,h1,h2⟩:=r.rows;rw[show (1:Nat)=Rp.sz Int from rfl,h1,h2.eq_map (f:=ci) λa b r=>aG.1 r]
theorem SlR.nats{l:List Nat}(r:SlR P k h l v):am h 1 v=some (l.map cu):=by obtain⟨rows,h1,h2⟩:=r.rows;rw[show (1:Nat)=Rp.sz Nat from rfl,h1,h2.eq_map (f:=cu) λa b r=>(EQ.1 r).1]
theorem b_(t:T)(n m:Nat)(v:AV):tat (ei t n v) m=if m=n then v else tat t m:=sp_get _ _ _ _ _
theorem mO(i:Nat)(v:AV)(vs:List AV)(t:T):bk i (v::vs) t=bk (i+1) vs (ei t i v):=rfl
theorem CU(a:AV)(t:T):bk 0 [a] t=ei t 0 a:=rfl
theorem CV(a b:AV)(t:T):bk 0 [a,b] t=ei (ei t 0 a) 1 b:=rfl
theorem CW(a b c:AV)(t:T):bk 0 [a,b,c] t=ei (ei (ei t 0 a) 1 b) 2 c:=rfl
theorem CX(a b c e:AV)(t:T):bk 0 [a,b,c,e] t=ei (ei (ei (ei t 0 a) 1 b) 2 c) 3 e:=rfl
theorem yw(i:Nat)(t:T):bk i [] t=t:=rfl
theorem GD(m:Nat):tat Tr.nil m=AV.undef:=OI _ _
theorem cI(d:Nat)(t:T)(v:AV):qm (some d) t v=ei t d v:=rfl
theorem Cp(t:T)(n:Nat):Od.get t (.t n)=tat t n:=rfl
theorem MO(t:T)(v:AV):Od.get t (.k v)=v:=rfl
theorem Cq(t:T):ff t []=[]:=rfl
theorem zR(t:T)(o:Od)(os:List Od):ff t (o::os)=o.get t::ff t os:=rfl
theorem a9(h:H)(i:Nat)(o:AObj):(h.put i o).get i=o:=by rw[OE,Qw rfl]
theorem ax(h:H)(i:Nat)(o:AObj)(hk:k≠i):(h.put i o).get k=h.get k:=by rw[OE,Qu hk]
theorem FF(k:Nat):G.empty.h.get k=AObj.none:=by simp[G.empty,H.get,OI]
theorem Cd:G.empty.nx=0:=rfl
theorem Gt(v:AV)(K:AV->G->Prop)(g:G)(D:ADf->Prop):(OR.val v).sat K g D=K v g:=rfl
theorem Gs(v:AV)(g':G)(K:AV->G->Prop)(g:G)(D:ADf->Prop):(OR.upd v g').sat K g D=K v g':=rfl
theorem C1(v:AV):orV (some v)=.val v:=rfl
theorem aB{x:Int}(h:-9223372036854775808<=x)(h':x<9223372036854775808):IntKind.wrap .i64 x=x:=by
 by_cases h0:x<0
 ·exact uA x h h0
 ·obtain⟨n,rfl⟩:=QD (show 0<=x by omega);exact mo n (by omega)
theorem xa{x:Int}(h:0<=x)(h':x<18446744073709551616):IntKind.wrap .u64 x=x:=by simp only[IntKind.wrap,IntKind.bits,IntKind.signed,Bool.false_and,Sq,if_false];exact Int.emod_eq_of_lt h h'
theorem bJ(k:IntKind):cN k k=true:=by cases k<;>rfl
theorem Fn(k:IntKind)(a b:Int):cx .add (.int k a) (.int k b)=.val (.int k (k.wrap (a+b))):=by simp only[cx,fg,bJ,gN];rfl
theorem Fw(k:IntKind)(a b:Int):cx .sub (.int k a) (.int k b)=.val (.int k (k.wrap (a - b))):=by simp only[cx,fg,bJ,gN];rfl
theorem Fu(k:IntKind)(a b:Int):cx .mul (.int k a) (.int k b)=.val (.int k (k.wrap (a*b))):=by simp only[cx,fg,bJ,gN];rfl
theorem Fo(k:IntKind)(a b:Int):cx .eql (.int k a) (.int k b)=.val (.bool (decide (a=b))):=by simp only[cx,fg,bJ,wL];rfl
theorem Fv(k:IntKind)(a b:Int):cx .neq (.int k a) (.int k b)=.val (.bool (!decide (a=b))):=by simp only[cx,fg,bJ,wL,notb_eq];rfl
theorem Ft(k:IntKind)(a b:Int):cx .lss (.int k a) (.int k b)=.val (.bool (decide (a<b))):=by simp only[cx,fg,bJ,kU];rfl
theorem Fq(k:IntKind)(a b:Int):cx .gtr (.int k a) (.int k b)=.val (.bool (decide (b<a))):=by simp only[cx,fg,bJ,kU];rfl
theorem Fs(k:IntKind)(a b:Int):cx .leq (.int k a) (.int k b)=.val (.bool (decide (a<=b))):=by
 simp only[cx,fg,bJ,kU,notb_eq]
 by_cases h:b<a
 ·rw[Rf h,Rs (show ¬a<=b by omega)];rfl
 ·rw[Rs h,Rf (show a<=b by omega)];rfl
theorem Fp(k:IntKind)(a b:Int):cx .geq (.int k a) (.int k b)=.val (.bool (decide (b<=a))):=by
 simp only[cx,fg,bJ,kU,notb_eq]
 by_cases h:a<b
 ·rw[Rf h,Rs (show ¬b<=a by omega)];rfl
 ·rw[Rs h,Rf (show b<=a by omega)];rfl
theorem K_(k:IntKind){a b:Int}(ha:0<=a)(hb:0<b):cx .quo (.int k a) (.int k b)=.val (.int k (k.wrap (a / b))):=by obtain⟨m,rfl⟩:=QD ha;obtain⟨n,rfl⟩:=QD (show 0<=b by omega);obtain⟨n,rfl⟩:∃j,n=j+1:=⟨n - 1,by omega⟩;simp only[cx,fg,bJ];show orV (L4 k (.ofNat m) (.ofNat (n+1)))=_;simp only[L4,gN];rfl
theorem gQ(k:IntKind){a b:Int}(ha:0<=a)(hb:0<b):cx .rem (.int k a) (.int k b)=.val (.int k (a % b)):=by obtain⟨m,rfl⟩:=QD ha;obtain⟨n,rfl⟩:=QD (show 0<=b by omega);obtain⟨n,rfl⟩:∃j,n=j+1:=⟨n - 1,by omega⟩;simp only[cx,fg,bJ];show orV (Mb k (.ofNat m) (.ofNat (n+1)))=_;simp only[Mb];rfl
theorem Lc(k':IntKind)(m n:Nat):cx .shl (.int .u64 (m:Int)) (.int k' (n:Int))=.val (.int .u64 ((m*2 ^ n % 18446744073709551616:Nat):Int)):=by
 show orV (Kw .u64 (.ofNat m) (.ofNat n))=_;simp only[Kw,IntKind.bits];show OR.val (.int .u64 (rO .u64 (.ofNat (m*2 ^ (Nat.min n 64)))))=_;simp only[rO];congr 2;show ((m*2 ^ (min n 64) % 18446744073709551616:Nat):Int)=_
 by_cases h:n<=64
 ·rw[RB h]
 ·rw[Nat.min_eq_right (by omega)];obtain⟨j,rfl⟩:∃j,n=64+j:=⟨n - 64,by omega⟩;rw[Nat.pow_add,show (18446744073709551616:Nat)=2 ^ 64 from rfl,Nat.mul_mod_left,<-Nat.mul_assoc,Tn (m*2 ^ 64),<-Nat.mul_assoc,Nat.mul_mod_left]
theorem Ld(k':IntKind)(m n:Nat)(h:m<18446744073709551616):cx .shr (.int .u64 (m:Int)) (.int k' (n:Int))=.val (.int .u64 ((m / 2 ^ n:Nat):Int)):=by
 show orV (Kx .u64 (.ofNat m) (.ofNat n))=_;simp only[Kx,IntKind.bits];show OR.val (.int .u64 (.ofNat (m / 2 ^ (Nat.min n 64))))=_;congr 2;show ((m / 2 ^ (min n 64):Nat):Int)=_
 by_cases h2:n<=64
 ·rw[RB h2]
 ·rw[Nat.min_eq_right (by omega)];obtain⟨j,rfl⟩:∃j,n=64+j:=⟨n - 64,by omega⟩;rw[Nat.pow_add,<-Nat.div_div_eq_div_mul,show (2 ^ 64:Nat)=18446744073709551616 from rfl,Nat.div_eq_of_lt h,Nat.zero_div]
theorem vo(h:m<18446744073709551616)(h':n<18446744073709551616):kY .u64 m n=true:=by simp only[kY,Qt,Rr];exact⟨h,h'⟩
theorem IB(m n:Nat)(h:m<18446744073709551616)(h':n<18446744073709551616):cx .or (.int .u64 (m:Int)) (.int .u64 (n:Int))=.val (.int .u64 ((m ||| n:Nat):Int)):=by show orV (ak (kY .u64 m n) _ _)=_;rw[vo h h'];rfl
theorem K9(m n:Nat)(h:m<18446744073709551616)(h':n<18446744073709551616):cx .and (.int .u64 (m:Int)) (.int .u64 (n:Int))=.val (.int .u64 ((m &&& n:Nat):Int)):=by show orV (ak (kY .u64 m n) _ _)=_;rw[vo h h'];rfl
theorem D1(m n:Nat)(h:m<18446744073709551616)(h':n<18446744073709551616):cx .andNot (.int .u64 (m:Int)) (.int .u64 (n:Int))=.val (.int .u64 ((m ^^^ (m &&& n):Nat):Int)):=by show orV (ak (kY .u64 m n) _ _)=_;rw[vo h h'];rfl
theorem J2(h:m<18446744073709551616)(h':n<18446744073709551616):m ||| n<18446744073709551616:=Nat.or_lt_two_pow (n:=64) h h'
theorem CT(b:Bool):LR (.bool b)=.val (.bool (!b)):=by simp only[LR,notb_eq]
theorem B7(k k':IntKind)(a:Int):FC k (.int k' a)=.val (.int k (k.wrap a)):=by simp only[FC,gN]
theorem Ka(a b:AV):Gg (.bool true) a b=.val a:=rfl
theorem J_(a b:AV):Gg (.bool false) a b=.val b:=rfl
theorem JT(k:IntKind)(a b:Int):mxV (.int k a) (.int k b)=.val (.int k (max a b)):=by
 simp only[mxV,bJ,kU]
 by_cases h:a<b
 ·rw[Rf h,Int.max_eq_right (by omega)]
 ·rw[Rs h,Int.max_eq_left (by omega)]
theorem JR(k:IntKind)(a b:Int):mnV (.int k a) (.int k b)=.val (.int k (min a b)):=by
 simp only[mnV,bJ,kU]
 by_cases h:b<a
 ·rw[Rf h,Int.min_eq_right (by omega)]
 ·rw[Rs h,Int.min_eq_left (by omega)]
def kX(sz:Nat)(v:AV)(i off:Nat):AV :=
 match v with
 |.tsl l _ rows=>.tptr l sz rows i off
 |.hsl id ep o _ _=>.hptr id ep (o+i) off
 |_=>.undef
theorem JN{sz:Nat}{rows:List (List AV)}(h:am g.h sz v=some rows):bY .slice v g=.val (.int .i64 (rows.length:Int)):=by
 unfold am at h
 split at h
 ·injection h with h;subst h;rfl
 ·injection h with h;subst h;rfl
 ·rw[aa]at h
  split at h
  ·injection h with h;subst h;simp only[bY,aq];rfl
  ·cases h
 ·split at h
  ·rw[aa]at h
   split at h
   ·rename_i hc;injection h with h;subst h;simp only[Qt,Q6,aq]at hc;simp only[bY,be,bc,QZ,Si];congr 3;rw[RB (by omega)]
   ·cases h
  ·cases h
 ·cases h
theorem jH{sz:Nat}{rows:List (List AV)}(hv:am h sz v=some rows)(g:G):bY .slice v g=.val (.int .i64 (rows.length:Int)) :=
 (show bY .slice v g=bY .slice v ⟨h,0,[]⟩ from by cases v<;>rfl).trans (JN (g:=⟨h,0,[]⟩) hv)
theorem JE{sz:Nat}{rows:List (List AV)}{k:IntKind}{i:Int}(h:am g.h sz v=some rows)(h0:0<=i)(hi:i<rows.length) :
  CD sz v (.int k i) g=.val (kX sz v i.toNat 0):=by
 obtain⟨n,rfl⟩:=QD h0;have hi:n<rows.length:=by omega
 show CD sz v (.int k (.ofNat n)) g=.val (kX sz v n 0);unfold am at h
 split at h
 ·injection h with h;subst h;simp at hi
 ·injection h with h;subst h;simp at hi
 ·rw[aa]at h
  split at h
  ·rename_i hc;injection h with h;subst h;rename_i sz' rows _;have:Nat.beq sz sz'=true:=by
    simp only[Rg,List.isEmpty_iff]at hc;rcases hc with hc|hc
    ·exact hc
    ·rw[hc]at hi;simp at hi
   simp only[CD,gI,this,aq,Rz,aa,Rr,Qw hi,kX]
  ·cases h
 ·split at h
  ·rename_i sz' rows' ep' lo fz hg;rw[aa]at h
   split at h
   ·rename_i hc;injection h with h;subst h;simp only[Qt]at hc;simp only[be,bc,QZ,Si]at hi;simp only[CD,gI,G.get_eq,hg,hc.1.1,hc.1.2,Rz,aa,Rr];rw[Qw (by omega)];rfl
   ·cases h
  ·cases h
 ·cases h
theorem Hz{sz:Nat}{rows:List (List AV)}{ag:Bool}(h:am g.h sz v=some rows)(hr:rows[i]?=some row) :
  qf ag n (kX sz v i off) g=orV (bX ag n row off):=by
 unfold am at h
 split at h
 ·injection h with h;subst h;simp at hr
 ·injection h with h;subst h;simp at hr
 ·rw[aa]at h
  split at h
  ·injection h with h;subst h;simp only[qf,l_,kX,dy,hr]
  ·cases h
 ·split at h
  ·rename_i sz' rows' ep' lo fz hg;rw[aa]at h
   split at h
   ·rename_i hc;injection h with h;subst h;simp only[Qt]at hc;simp only[be,bc,Sr,Ra]at hr
    split at hr
    ·simp only[qf,l_,kX,G.get_eq,hg,hc.1.1,dy,hr]
    ·cases hr
   ·cases h
  ·cases h
 ·cases h
theorem Cj(fo id ep i off:Nat):AS fo (.hptr id ep i off)=.val (.hptr id ep i (off+fo)):=rfl
theorem C2:bX false n row off=row[off]?:=by simp only[bX,dy]
theorem J9(h:off+n<=row.length):bX true n row off=some (.agg ((row.drop off).take n)):=by simp only[bX,be,bc,aq,QZ,Si,aa];rw[Qw];rw[RB (by omega)];exact Q2 n
theorem yR{id ep sz:Nat}{rows:List (List AV)}{lo:Bool}{row':List AV}(hg:g.h.get id=.cells sz rows ep lo false)(hr:rows[i]?=some row)
  (hc:x.cells=cs) (ht:x.isTup=false) (hl:cs.length=n) (hp:cj row off cs=some row') :
  mj n (.hptr id ep i off) x g=.upd .undef (g.put id (.cells sz (rows.set i row') ep lo false)):=by
 subst hc;simp only[mj,nD,G.get_eq,hg,dy,hr,show Nat.beq ep ep=true from Q2 ep,aq,hl,show Nat.beq n n=true from Q2 n,ht,notb_eq,Sx,SU,hp,fG]
def wI(o:AObj)(ep off len sz:Nat):Option (List (List AV)) :=
 match o with
 |.cells sz' rows ep' _ _=>ak (Nat.beq ep ep'&&Nat.beq sz sz'&&Nat.ble (off+len) (a7 rows)) (some (fY len (eR off rows))) none
 |_=>none
theorem vT(h:H)(sz:Nat):am h sz .nils=some []:=rfl
theorem pI(h:H)(sz t:Nat)(rows:List (List AV)):am h sz (.tsl t sz rows)=some rows:=by simp only[am,show Nat.beq sz sz=true from Q2 sz,SG]
theorem ba(h:H)(sz id ep off len:Nat)(lim:Option Nat):am h sz (.hsl id ep off len lim)=wI (h.get id) ep off len sz:=rfl
theorem cg(sz:Nat)(rows:List (List AV))(ep:Nat)(lo fz:Bool)(off len:Nat) :
  wI (.cells sz rows ep lo fz) ep off len sz=if off+len<=rows.length then some ((rows.drop off).take len) else none:=by
 simp only[wI,show Nat.beq sz sz=true from Q2 sz,show Nat.beq ep ep=true from Q2 ep,Rz,aa,Q6,aq,be,bc]
theorem vN(sz:Nat)(rows:List (List AV))(ep:Nat)(lo fz:Bool):wI (.cells sz rows ep lo fz) ep 0 rows.length sz=some rows:=by rw[cg,Qw (by omega)];simp
def bB(o:AObj)(ep i:Nat)(ag:Bool)(n off:Nat):OR :=
 match o with
 |.cells _ rows ep' _ _=>ak (Nat.beq ep ep') (match rows[i]? with|some row=>orV (bX ag n row off)|none=>.fail) .fail
 |_=>.fail
theorem yh(g:G)(id ep i off n:Nat)(ag:Bool):qf ag n (.hptr id ep i off) g=bB (g.h.get id) ep i ag n off:=by
 simp only[qf,l_,G.get_eq,bB,dy]
 rfl
theorem rg(sz:Nat)(rows:List (List AV))(ep:Nat)(lo fz:Bool)(i n off:Nat)(ag:Bool) :
  bB (.cells sz rows ep lo fz) ep i ag n off=match rows[i]? with|some row=>orV (bX ag n row off)|none=>.fail:=by
 simp only[bB,show Nat.beq ep ep=true from Q2 ep]
def cH(o:AObj)(g:G)(id ep i n off:Nat)(x:AV):OR :=
 match o with
 | .cells sz rows ep' lo fz=>ak (Nat.beq ep ep'&&Nat.beq x.cells.length n&&jI fz&&jI x.isTup) (match rows[i]? with
   | some row=>match cj row off x.cells with
    |some row'=>.upd .undef (g.put id (.cells sz (rows.set i row') ep lo fz))
    |none=>.fail
   |none=>.fail) .fail
 |_=>.fail
theorem v_(g:G)(id ep i off n:Nat)(x:AV):mj n (.hptr id ep i off) x g=cH (g.h.get id) g id ep i n off x:=by
 simp only[mj,nD,G.get_eq,cH,dy,aq,fG]
 rfl
theorem cX(sz:Nat)(rows:List (List AV))(ep:Nat)(lo:Bool)(g:G)(id i n off:Nat)(x:AV)(hl:x.cells.length=n)(ht:x.isTup=false) :
  cH (.cells sz rows ep lo false) g id ep i n off x=match rows[i]? with
   | some row=>match cj row off x.cells with
    |some row'=>.upd .undef (g.put id (.cells sz (rows.set i row') ep lo false))
    |none=>.fail
   |none=>.fail:=by
 simp only[cH,show Nat.beq ep ep=true from Q2 ep,hl,show Nat.beq n n=true from Q2 n,ht,notb_eq,Sx,SU]
theorem z9{sz:Nat}{ag:Bool}(h:(am g.h sz v).isSome=true)(hi:i<((am g.h sz v).getD []).length) :
  qf ag n (kX sz v i off) g=orV (bX ag n (((am g.h sz v).getD [])[i]?.getD []) off):=by
 obtain⟨rows,hr⟩:=Option.isSome_iff_exists.1 h;rw[hr]at hi ⊢;simp only[Qz]at hi ⊢;rw[Hz hr (Qr hi),Qr hi,Qz]
theorem JF{sz:Nat}{k:IntKind}{i:Int}(h:(am g.h sz v).isSome=true)(h0:0<=i)(hi:i<((am g.h sz v).getD []).length) :
  CD sz v (.int k i) g=.val (kX sz v i.toNat 0):=by
 obtain⟨rows,hr⟩:=Option.isSome_iff_exists.1 h;rw[hr]at hi;exact JE hr h0 hi
theorem FP{sz:Nat}{k:IntKind}(h:(am g.h sz v).isSome=true)(hi:i<((am g.h sz v).getD []).length) :
  CD sz v (.int k (i:Int)) g=.val (kX sz v i 0):=JF h (SZ i) (by omega)
def wx:AV->Bool
 |.tsl ..|.hsl ..=>true
 |_=>false
theorem Ck{sz:Nat}{fo:Nat}(h:wx v=true):AS fo (kX sz v i off)=.val (kX sz v i (off+fo)):=by cases v<;>first|rfl|cases h
theorem Md{sz:Nat}{rows:List (List AV)}(hv:am h sz v=some rows)(hi:i<rows.length):wx v=true:=by
 unfold am at hv
 split at hv
 ·injection hv with h;subst h;simp at hi
 ·injection hv with h;subst h;simp at hi
 ·rfl
 ·rfl
 ·cases hv
def nq(h:H)(v:AV):List Int:=((am h 1 v).getD []).map λr=>match r with|[.int _ x]=>x|_=>0
def x9(h:H)(v:AV):Prop:=am h 1 v=some ((nq h v).map ci)
theorem JB(l:List Int):(l.map ci).map (λr=>match r with|[.int _ x]=>x|_=>0)=l:=by
 induction l with
 |nil=>rfl
 |cons a l ih=>simp only[Sv,ih,ci]
theorem FN(hv:am h 1 v=some (l.map ci)):nq h v=l:=by simp only[nq,hv,Qz,JB]
theorem Hv(hv:am h 1 v=some (l.map ci)):x9 h v:=by unfold x9;rw[FN hv,hv]
theorem MT{α:Type}(a:α)(l:List α):(a::l)[0]?=some a:=rfl
theorem MU{α:Type}(a b:α)(l:List α):(a::b::l)[1]?=some b:=rfl
theorem MV{α:Type}(a b c:α)(l:List α):(a::b::c::l)[2]?=some c:=rfl
theorem MW{α:Type}(a b c e:α)(l:List α):(a::b::c::e::l)[3]?=some e:=rfl
theorem MX{α:Type}(a b c e p:α)(l:List α):(a::b::c::e::p::l)[4]?=some p:=rfl
theorem MY{α:Type}(a b c e p q:α)(l:List α):(a::b::c::e::p::q::l)[5]?=some q:=rfl
theorem MZ{α:Type}(a b c e p q r:α)(l:List α):(a::b::c::e::p::q::r::l)[6]?=some r:=rfl
theorem M1{α:Type}(a b c e p q r s:α)(l:List α):(a::b::c::e::p::q::r::s::l)[7]?=some s:=rfl
theorem M2{α:Type}(a b c e p q r s u:α)(l:List α):(a::b::c::e::p::q::r::s::u::l)[8]?=some u:=rfl
@[reducible] def o (d:Nat) (op:SO):SI:=⟨some d,none,op⟩
@[reducible] def oz (op:SO):SI:=⟨none,none,op⟩
@[reducible] def og (d s:Nat) (w:Bool) (op:SO):SI:=⟨some d,some (s,w),op⟩
@[reducible] def ozg (s:Nat) (w:Bool) (op:SO):SI:=⟨none,some (s,w),op⟩
section steps
variable {C:Cfg}{d:Nat}{rd:Option Nat}
theorem BF(Q:QT)(t:T)(df:List ADf)(g:G):wp C d rd .skip Q t df g=Q .norm t df g:=rfl
theorem BE(l:List SI)(Q:QT)(t:T)(df:List ADf)(g:G):wp C d rd (.ops l) Q t df g=wpO C d rd l (Q .norm) t df g:=rfl
theorem DO(l:List SI)(Q:QT)(t:T)(df:List ADf)(g:G):wp C d rd (.quiet l) Q t df g=wpO C d rd l (kQ g Q) t df (aJ g []):=rfl
theorem GM(pm:List Nat)(l:List SI)(Q:QT)(t:T)(df:List ADf)(g:G):wp C d rd (.feet pm l) Q t df g=wpF C d rd pm l (Q .norm) t df g []:=rfl
theorem dt(a b:SC)(Q:QT)(t:T)(df:List ADf)(g:G):wp C d rd (.seq a b) Q t df g=wp C d rd a (kS (wp C d rd b Q) Q) t df g:=rfl
theorem GK(c:Od)(a b:SC)(Q:QT)(t:T)(df:List ADf)(g:G):wp C d rd (.cond c a b) Q t df g=wpC (c.get t) (wp C d rd a Q) (wp C d rd b Q) t df g:=rfl
theorem KW(id:Nat)(b:SC)(Q:QT)(t:T)(df:List ADf)(g:G):wp C d rd (.blk id b) Q t df g=wp C d rd b (kB id Q) t df g:=rfl
theorem GN(b:SC)(Q:QT)(t:T)(df:List ADf)(g:G):wp C d rd (.loop b) Q t df g=wpL (wp C d rd b) Q t df g:=rfl
theorem GL(id:Nat)(Q:QT)(t:T)(df:List ADf)(g:G):wp C d rd (.exit id) Q t df g=Q (.exit id) t df g:=rfl
theorem KY(Q:QT)(t:T)(df:List ADf)(g:G):wp C d rd .ret Q t df g=Q .ret t df g:=rfl
theorem MR(g0:G)(Q:QT)(t:T)(df:List ADf)(g:G):kQ g0 Q t df g=(g.lg=[]/\g.nx=g0.nx/\Q .norm t df g0):=rfl
theorem GI(Q:PT)(t:T)(df:List ADf)(g:G):wpO C d rd [] Q t df g=Q t df g:=rfl
theorem M4(n:Nat)(op:SO)(r:List SI)(Q:PT)(t:T)(df:List ADf)(g:G) :
  wpO C d rd (o n op::r) Q t df g=(op.run C d rd t g).sat (kO (wpO C d rd r Q) (some n) t df) g (kD (wpO C d rd r Q) (some n) t df g):=rfl
theorem KT(op:SO)(r:List SI)(Q:PT)(t:T)(df:List ADf)(g:G) :
  wpO C d rd (oz op::r) Q t df g=(op.run C d rd t g).sat (kO (wpO C d rd r Q) none t df) g (kD (wpO C d rd r Q) none t df g):=rfl
theorem KR(n s:Nat)(w:Bool)(op:SO)(r:List SI)(Q:PT)(t:T)(df:List ADf)(g:G) :
  wpO C d rd (og n s w op::r) Q t df g=gdP (tat t s) w (qq C d rd (o n op) (wpO C d rd r Q)) (vY (o n op) (wpO C d rd r Q)) t df g:=rfl
theorem GJ(s:Nat)(w:Bool)(op:SO)(r:List SI)(Q:PT)(t:T)(df:List ADf)(g:G) :
  wpO C d rd (ozg s w op::r) Q t df g=gdP (tat t s) w (qq C d rd (oz op) (wpO C d rd r Q)) (vY (oz op) (wpO C d rd r Q)) t df g:=rfl
theorem Kr(n:Nat)(op:SO)(W:PT)(t:T)(df:List ADf)(g:G):qq C d rd (o n op) W t df g=(op.run C d rd t g).sat (kO W (some n) t df) g (kD W (some n) t df g):=rfl
theorem Gq(op:SO)(W:PT)(t:T)(df:List ADf)(g:G):qq C d rd (oz op) W t df g=(op.run C d rd t g).sat (kO W none t df) g (kD W none t df g):=rfl
theorem Gy(n:Nat)(op:SO)(W:PT)(t:T)(df:List ADf)(g:G):vY (o n op) W t df g=W (ei t n .undef) df g:=rfl
theorem Do(op:SO)(W:PT)(t:T)(df:List ADf)(g:G):vY (oz op) W t df g=W t df g:=rfl
theorem FZ(W:PT)(n:Nat)(t:T)(df:List ADf)(v:AV)(g:G):kO W (some n) t df v g=W (ei t n v) df g:=rfl
theorem FY(W:PT)(t:T)(df:List ADf)(v:AV)(g:G):kO W none t df v g=W t df g:=rfl
theorem MN(q:Bool)(A B:PT)(t:T)(df:List ADf)(g:G):gdP (.bool q) true A B t df g=uG q A B t df g:=rfl
theorem MM(q:Bool)(A B:PT)(t:T)(df:List ADf)(g:G):gdP (.bool q) false A B t df g=uG q B A t df g:=rfl
theorem zQ(w:Bool)(A B:PT)(t:T)(df:List ADf)(g:G):gdP (.tup []) w A B t df g=B t df g:=rfl
theorem zA(A B:PT)(t:T)(df:List ADf)(g:G):uG true A B t df g=A t df g:=by simp[uG]
theorem xk(A B:PT)(t:T)(df:List ADf)(g:G):uG false A B t df g=B t df g:=by simp[uG]
theorem DF(q:Bool)(A B:PT)(t:T)(df:List ADf)(g:G):wpC (.bool q) A B t df g=uG q A B t df g:=rfl
theorem A4(W:PT)(Q:QT)(t:T)(df:List ADf)(g:G):kS W Q .norm t df g=W t df g:=rfl
theorem F3(W:PT)(Q:QT)(id:Nat)(t:T)(df:List ADf)(g:G):kS W Q (.exit id) t df g=Q (.exit id) t df g:=rfl
theorem JK(W:PT)(Q:QT)(t:T)(df:List ADf)(g:G):kS W Q .ret t df g=Q .ret t df g:=rfl
theorem FS(id:Nat)(Q:QT)(t:T)(df:List ADf)(g:G):kB id Q .norm t df g=Q .norm t df g:=rfl
theorem JH(id:Nat)(Q:QT)(t:T)(df:List ADf)(g:G):kB id Q .ret t df g=Q .ret t df g:=rfl
theorem LC(id:Nat)(Q:QT)(t:T)(df:List ADf)(g:G):kB id Q (.exit id) t df g=Q .norm t df g:=by simp[kB]
theorem JG(id j:Nat)(Q:QT)(t:T)(df:List ADf)(g:G)(h:j≠id):kB id Q (.exit j) t df g=Q (.exit j) t df g:=by simp only[kB];rw[aa,Qu (λe=>h (Ro e))]
theorem rV(id j:Nat)(Q:QT)(t:T)(df:List ADf)(g:G):kB id Q (.exit j) t df g=if j=id then Q .norm t df g else Q (.exit j) t df g:=by
 by_cases h:j=id
 ·subst h;rw[LC,Qw rfl]
 ·rw[JG _ _ _ _ _ _ h,Qu h]
theorem FX(Inv:Nat->PT)(k:Nat)(Q:QT)(t:T)(df:List ADf)(g:G):kL Inv k Q .norm t df g=∃k',k'<k/\Inv k' t df g:=rfl
theorem FW(Inv:Nat->PT)(k:Nat)(Q:QT)(id:Nat)(t:T)(df:List ADf)(g:G):kL Inv k Q (.exit id) t df g=Q (.exit id) t df g:=rfl
theorem JI(Inv:Nat->PT)(k:Nat)(Q:QT)(t:T)(df:List ADf)(g:G):kL Inv k Q .ret t df g=Q .ret t df g:=rfl
theorem mE{q:Bool}{A B:PT}(h1:q=true->A t df g)(h2:q=false->B t df g):uG q A B t df g:=⟨h1,h2⟩
theorem xU(r:List SR)(K:AV->G->Prop)(t:T)(df:List ADf)(g:G):fnQ C d r K .norm t df g=kg C d r t df g K:=rfl
theorem AX(r:List SR)(K:AV->G->Prop)(t:T)(df:List ADf)(g:G):fnQ C d r K .ret t df g=kg C d r t df g K:=rfl
theorem Ce(r:List SR)(K:AV->G->Prop)(t:T)(g:G):kg C d r t [] g K=qo r t g λvs=>K (eg vs) g:=rfl
theorem Df(t:T)(g:G)(K:List AV->Prop):qo [] t g K=K []:=rfl
theorem Gl(n:Nat)(r:List SR)(t:T)(g:G)(K:List AV->Prop):qo (.tm n::r) t g K=qo r t g λvs=>K (tat t n::vs):=rfl
theorem ub(v:AV):eg [v]=v:=rfl
theorem tD{W:QT->PT}{Q:QT}(Inv:Nat->PT)(k:Nat)(h0:Inv k t df g)(h:∀k t df g,Inv k t df g->W (kL Inv k Q) t df g):wpL W Q t df g:=⟨Inv,⟨k,h0⟩,h⟩
end steps
theorem sx:type_of% (Qp @GI <|Qp @M4 <|Qp @KT <|Qp @KR <|Qp @GJ <|Qp @Kr <|Qp @Gq <|Qp @Gy <|Qp @Do <|
 Qp @FZ <|Qp @FY <|Qp @MN <|Qp @MM <|Qp @zQ <|Qp @zA <|Qp @xk <|Qp @DF <|Qp @A4 <|Qp @F3 <|Qp @JK <|
 Qp @FS <|Qp @JH <|Qp @rV <|Qp @FX <|Qp @FW <|Qp @JI <|Qp @xU <|Qp @AX <|Qp @Ce <|Qp @Df <|Qp @Gl <|
 Qp @ub <|Qp @b_ <|Qp @CU <|Qp @CV <|Qp @CW <|Qp @CX <|Qp @BF <|Qp @BE <|Qp @DO <|Qp @GM <|Qp @dt <|Qp @GK <|Qp @KW <|Qp @GN <|Qp @GL <|Qp @KY <|Qp @yw <|Qp @GD <|Qp @Cp <|Qp @MO <|Qp @Cq <|Qp @zR <|Qp @Gt <|Qp @Gs <|Qp @C1 <|
 Qp @Fn <|Qp @Fw <|Qp @Fu <|Qp @Fo <|Qp @Fv <|Qp @Ft <|Qp @Fq <|Qp @Fs <|Qp @Fp <|Qp @CT <|Qp @B7 <|Qp @Ka <|Qp @J_ <|
 Qp @JT <|Qp @JR <|Qp @Cj <|Qp @yh <|Qp @rg <|Qp @v_ <|Qp @C2 <|Qp @z9 <|Qp @Ck <|Qp @FP <|
 Qp @MT <|Qp @MU <|Qp @MV <|Qp @MW <|Qp @MX <|Qp @MY <|Qp @MZ <|Qp @M1 <|Qp @M2 <|Qp @G.put_h <|Qp @G.put_nx <|Qp @G.new_h <|Qp @G.new_nx <|Qp @a9 <|Qp @Cd <|@FF) :=
 Qp @GI <|Qp @M4 <|Qp @KT <|Qp @KR <|Qp @GJ <|Qp @Kr <|Qp @Gq <|Qp @Gy <|Qp @Do <|
 Qp @FZ <|Qp @FY <|Qp @MN <|Qp @MM <|Qp @zQ <|Qp @zA <|Qp @xk <|Qp @DF <|Qp @A4 <|Qp @F3 <|Qp @JK <|
 Qp @FS <|Qp @JH <|Qp @rV <|Qp @FX <|Qp @FW <|Qp @JI <|Qp @xU <|Qp @AX <|Qp @Ce <|Qp @Df <|Qp @Gl <|
 Qp @ub <|Qp @b_ <|Qp @CU <|Qp @CV <|Qp @CW <|Qp @CX <|Qp @BF <|Qp @BE <|Qp @DO <|Qp @GM <|Qp @dt <|Qp @GK <|Qp @KW <|Qp @GN <|Qp @GL <|Qp @KY <|Qp @yw <|Qp @GD <|Qp @Cp <|Qp @MO <|Qp @Cq <|Qp @zR <|Qp @Gt <|Qp @Gs <|Qp @C1 <|
 Qp @Fn <|Qp @Fw <|Qp @Fu <|Qp @Fo <|Qp @Fv <|Qp @Ft <|Qp @Fq <|Qp @Fs <|Qp @Fp <|Qp @CT <|Qp @B7 <|Qp @Ka <|Qp @J_ <|
 Qp @JT <|Qp @JR <|Qp @Cj <|Qp @yh <|Qp @rg <|Qp @v_ <|Qp @C2 <|Qp @z9 <|Qp @Ck <|Qp @FP <|
 Qp @MT <|Qp @MU <|Qp @MV <|Qp @MW <|Qp @MX <|Qp @MY <|Qp @MZ <|Qp @M1 <|Qp @M2 <|Qp @G.put_h <|Qp @G.put_nx <|Qp @G.new_h <|Qp @G.new_nx <|Qp @a9 <|Qp @Cd <|@FF
def St(t:T):List (Nat×AV)->Prop
 |[]=>True
 | (n,v)::r=>tat t n=v/\St t r
abbrev VS:=(Nat->Prop)->Nat->H->AV->Prop
def One{α:Type} [Rp α](x:α):VS:=λP k h v=>Rp.rp P k h x [v]
def Agg{α:Type} [Rp α](x:α):VS:=λP k h v=>∃cs,v=.agg cs/\Rp.rp P k h x cs
def GT(S R:VS):VS:=λP k h v=>∃a b,v=.tup [a,b]/\S P k h a/\R P k h b
def M_(S R U:VS):VS:=λP k h v=>∃a b c,v=.tup [a,b,c]/\S P k h a/\R P k h b/\U P k h c
structure Snb (S:VS) (j:Nat):Prop where
 snap:∀{P k h v n} (d:Nat),S P k h v->20+j<=n->∃v',Hx.snap h d n v=some v'/\S NoP (max k d) .nil v'
 tag:∀{k h v n},S NoP k h v->20+j<=n->∃m,eh n v=some m/\m<=k
theorem bi{α:Type} [Rp α](x:α)(hd:Rp.dp α<=20:=by decide):Snb (One x) 0:=by
 refine⟨λ{P k h v n} d r hn=>?_,λ{k h v n} r hn=>?_⟩
 ·obtain⟨cs',e,r'⟩:=Rp.snap (n:=n) d r (by omega) (by show _<=24;omega);simp only[aF]at e
  split at e
  ·rename_i w hw;injection e with e;subst e;exact⟨w,hw,r'⟩
  ·cases e
 ·obtain⟨m,e,l⟩:=Rp.tag (n:=n) r (by omega);simp only[ge]at e
  split at e
  ·rename_i w hw;injection e with e;subst e;exact⟨w,hw,by have:Nat.max w 0=w:=Nat.max_eq_left (Q_ w);omega⟩
  ·cases e
theorem jk{α:Type} [Rp α](x:α)(hd:Rp.dp α<=20:=by decide):Snb (Agg x) 1:=by
 refine⟨λ{P k h v n} d r hn=>?_,λ{k h v n} r hn=>?_⟩
 ·obtain⟨cs,rfl,r⟩:=r;obtain⟨n,rfl⟩:∃m,n=m+1:=⟨n - 1,by omega⟩;obtain⟨cs',e,r'⟩:=Rp.snap (n:=n) d r (by omega) (by show _<=24;omega);exact⟨.agg cs',by simp only[Hx.snap,e],cs',rfl,r'⟩
 ·obtain⟨cs,rfl,r⟩:=r;obtain⟨n,rfl⟩:∃m,n=m+1:=⟨n - 1,by omega⟩;obtain⟨m,e,l⟩:=Rp.tag (n:=n) r (by omega);exact⟨m,by simp only[eh,e],l⟩
theorem rJ{S R:VS}(hs:Snb S i)(hr:Snb R j)(hi:i+1<=m)(hj:j+1<=m):Snb (GT S R) m:=by
 refine⟨λ{P k h v n} d r hn=>?_,λ{k h v n} r hn=>?_⟩
 ·obtain⟨a,b,rfl,c,f⟩:=r;obtain⟨n,rfl⟩:∃m,n=m+1:=⟨n - 1,by omega⟩;obtain⟨a',e1,e⟩:=hs.snap (n:=n) d c (by omega);obtain⟨b',e2,l⟩:=hr.snap (n:=n) d f (by omega);exact⟨.tup [a',b'],by simp only[Hx.snap,aF,e1,e2],a',b',rfl,e,l⟩
 ·obtain⟨a,b,rfl,c,f⟩:=r;obtain⟨n,rfl⟩:∃m,n=m+1:=⟨n - 1,by omega⟩;obtain⟨o,e1,l1⟩:=hs.tag (n:=n) c (by omega);obtain⟨p,e2,l2⟩:=hr.tag (n:=n) f (by omega);refine⟨max o p,?_,by omega⟩;simp only[eh,ge,e1,e2];congr 1;show max o (max p 0)=_;omega
theorem Ds{S R U:VS}{l:Nat}(hs:Snb S i)(hr:Snb R j)(hu:Snb U l)(hi:i+1<=m)(hj:j+1<=m)(hl:l+1<=m):Snb (M_ S R U) m:=by
 refine⟨λ{P k h v n} d r hn=>?_,λ{k h v n} r hn=>?_⟩
 ·obtain⟨a,b,c,rfl,e,o,q⟩:=r;obtain⟨n,rfl⟩:∃m,n=m+1:=⟨n - 1,by omega⟩;obtain⟨a',e1,f⟩:=hs.snap (n:=n) d e (by omega);obtain⟨b',e2,p⟩:=hr.snap (n:=n) d o (by omega);obtain⟨c',e3,s⟩:=hu.snap (n:=n) d q (by omega);exact⟨.tup [a',b',c'],by simp only[Hx.snap,aF,e1,e2,e3],a',b',c',rfl,f,p,s⟩
 ·obtain⟨a,b,c,rfl,e,o,q⟩:=r;obtain⟨n,rfl⟩:∃m,n=m+1:=⟨n - 1,by omega⟩;obtain⟨t,e1,l1⟩:=hs.tag (n:=n) e (by omega);obtain⟨u,e2,l2⟩:=hr.tag (n:=n) o (by omega);obtain⟨w,e3,x⟩:=hu.tag (n:=n) q (by omega);refine⟨max t (max u w),?_,by omega⟩;simp only[eh,ge,e1,e2,e3];congr 1;show max t (max u (max w 0))=_;omega
def Arg(S:VS)(k d:Nat)(h:H)(v v':AV):Prop:=Hx.snap h d aD v=some v'/\S NoP k .nil v'
theorem qu{S:VS}(hs:Snb S j)(hj:j<=4)(d:Nat)(r:S P k h v):∃v',Arg S (max k d) d h v v':=by obtain⟨v',e,r'⟩:=hs.snap (n:=aD) d r (by show _<=24;omega);exact⟨v',e,r'⟩
theorem tH{α:Type} [Rp α]{x:α}(d:Nat)(r:Agg x NoP k h v)(hd:Rp.dp α<=20:=by decide):Hx.snap h d aD v=some v:=by obtain⟨cs,rfl,r⟩:=r;show (match aF (Hx.snap h d 23) cs with|some as=>some (AV.agg as)|none=>none)=_;rw[Rp.same (n:=23) d r (by omega)]
theorem wX{α:Type} [Rp α]{l:List α}(d:Nat)(r:SlR NoP k h l v):Hx.snap h d aD v=some v:=by
 have r:=r.2;unfold SlV at r
 split at r<;>first|rfl|exact r.1.elim|exact r.elim
theorem iK(k d:Nat)(h:H)(q:IntKind)(x:Int):Hx.snap h d aD (.int q x)=some (.int q x):=rfl
theorem Io(hv:x9 h v)(hl:(nq h v).length<9223372036854775808)(d:Nat) :
  ∃v',Hx.snap h d aD v=some v'/\(∀h',am h' 1 v'=some ((nq h v).map ci))/\∀g,bY .slice v' g=.val (.int .i64 ((nq h v).length:Int)):=by
 suffices hs:∃v',Hx.snap h d aD v=some v'/\(∀h',am h' 1 v'=some ((nq h v).map ci)) by obtain⟨v',e,hr⟩:=hs;exact⟨v',e,hr,λg=>by rw[jH (hr .nil),QA]⟩
 obtain⟨k,r⟩:∃k,SlV (λ_=>True) k h (nq h v) v:=by
  have e:=hv;unfold x9 at e;have all:∀P k h',All2 (Rp.rp P k h') (nq h v) ((nq h v).map ci):=λP k h'=>Oz (λa=>aG.2 rfl) _;cases v with
  |nils=>exact⟨0,by simp only[am]at e;injection e with e;exact (SX.1 e.symm)⟩
  |esl=>exact⟨0,by simp only[am]at e;injection e with e;exact (SX.1 e.symm)⟩
  | tsl t s rows =>
   refine⟨t,Qq t,?_,?_⟩
   ·simp only[am,aa]at e
    split at e
    ·rename_i hc;rw[Rg]at hc;rcases hc with hc|hc
     ·exact .inl (Ro hc).symm
     ·exact .inr (List.isEmpty_iff.1 hc)
    ·cases e
   ·simp only[am,aa]at e
    split at e
    ·injection e with e;exact cast (congrArg _ e.symm) (all NoP t .nil)
    ·cases e
  |hsl id ep off len lim=>exact⟨0,trivial,_,e,all _ _ _⟩
  |_=>simp[am]at e
 obtain⟨v',e,r'⟩:=(bi (nq h v)).snap (n:=aD) d (show One (nq h v) _ k h v from ⟨v,rfl,hl,r⟩) (by decide);refine⟨v',e,λh'=>?_⟩;obtain⟨w,hw,r'⟩:=r';injection hw with hw;subst hw;have:SlR (λ_=>True) (max k d) h' (nq h v) v':=by have:=(Rp.mono (P':=λ_=>True) (k':=max k d) (h':=h') (show Rp.rp NoP (max k d) .nil (nq h v) [v'] from ⟨v',rfl,r'⟩) (λi hi=>hi.elim) (Qq _));obtain⟨w,hw,q⟩:=this;injection hw with hw;subst hw;exact q
 exact this.ints
abbrev IT (k:Nat)(l:List Int)(r:AV):Prop:=One l NoP k .nil r
theorem IT.sl{r:AV}(h:IT k l r)(h':H):SlR NoP k h' l r:=by obtain⟨w,hw,q⟩:=Rp.tree (P:=NoP) (k':=k) (h':=h') h (Qq _);injection hw with hw;subst hw;exact q
theorem SlR.cell{α:Type} [Rp α]{l:List α}(r:SlR P k h l v):v.cells=[v]/\v.isTup=false:=by
 have r:=r.2;unfold SlV at r
 split at r<;>first|exact⟨rfl,rfl⟩|exact r.elim
section iso
variable {C:Cfg}{f d:Nat}{s:SF}{g:G}{args xs:List AV}
theorem bK(hf:nFn C f=some s)(hs:aF (snap g.h d aD) args=some xs)(hl:xs.length<=s.nt){R:VS}(hR:Snb R j)(hj:j<=4){k':Nat}(hk:k'<d)
  (h:wp C (d+1) none s.code (fnQ C (d+1) s.res λv g'=>∃P,R P k' g'.h v) (bk 0 xs .nil) [] G.empty):∃r,ap (I C) d g f args=.val r/\R NoP k' .nil r:=by
 have h:=o9 hf hl h;unfold ap;rw[hs];dsimp only;cases hc:(I C).call (Nat.succ d) f xs G.empty with
 |fail=>rw[show (I C).call (d+1) f xs G.empty=.fail from hc]at h;exact h.elim
 | ok v g' =>
  rw[show (I C).call (d+1) f xs G.empty=.ok v g' from hc]at h;obtain⟨P,h⟩:=h;obtain⟨r,e,hr⟩:=hR.snap (n:=aD) 0 h (by show _<=24;omega);rw[Nat.max_eq_left (Q_ k')]at hr;obtain⟨m,em,lm⟩:=hR.tag (n:=aD) hr (by show _<=24;omega);refine⟨r,?_,hr⟩;simp only[e,em,aa,Rr];rw[Qw (by omega)]
theorem tR(hf:nFn C f=some s)(hl:xs.length<=s.nt){K:AV->G->Prop}{D:ADf->Prop}(h:wp C d none s.code (fnQ C d s.res K) (bk 0 xs .nil) [] g):(orF ((I C).call d f xs g)).sat K g D:=by
 have h:=o9 hf hl h;cases hc:(I C).call d f xs g with
 |fail=>rw[hc]at h;exact h.elim
 |ok v g'=>rw[hc]at h;exact h
theorem jf(hf:nFn C f=some s)(hs:aF (snap g.h d aD) args=some xs)(hl:xs.length<=s.nt){q:IntKind}{x:Int}(hk:0<d)
  (h:wp C (d+1) none s.code (fnQ C (d+1) s.res λv _=>v=.int q x) (bk 0 xs .nil) [] G.empty):ap (I C) d g f args=.val (.int q x):=by
 have h:=o9 hf hl h;unfold ap;rw[hs];dsimp only;cases hc:(I C).call (Nat.succ d) f xs G.empty with
 |fail=>rw[show (I C).call (d+1) f xs G.empty=.fail from hc]at h;exact h.elim
 | ok v g' =>
  rw[show (I C).call (d+1) f xs G.empty=.ok v g' from hc]at h;have h:v=.int q x:=h;subst h;show (match eh aD (.int q x) with|none=>OR.fail|some m=>ak (Nat.blt m d) (.val (.int q x)) _)=_;rw[show eh aD (.int q x)=some 0 from rfl];simp only[aa,Rr];rw[Qw hk]
theorem l8(hf:nFn C f=some s)(hs:aF (snap g.h d aD) args=some xs)(hl:xs.length<=s.nt){x:Bool}(hk:0<d)
  (h:wp C (d+1) none s.code (fnQ C (d+1) s.res λv _=>v=.bool x) (bk 0 xs .nil) [] G.empty):ap (I C) d g f args=.val (.bool x):=by
 have h:=o9 hf hl h;unfold ap;rw[hs];dsimp only;cases hc:(I C).call (Nat.succ d) f xs G.empty with
 |fail=>rw[show (I C).call (d+1) f xs G.empty=.fail from hc]at h;exact h.elim
 | ok v g' =>
  rw[show (I C).call (d+1) f xs G.empty=.ok v g' from hc]at h;have h:v=.bool x:=h;subst h;show (match eh aD (.bool x) with|none=>OR.fail|some m=>ak (Nat.blt m d) (.val (.bool x)) _)=_;rw[show eh aD (.bool x)=some 0 from rfl];simp only[aa,Rr];rw[Qw hk]
end iso
section
variable {C:Cfg}{A:Nat->Nat->Prop}{bd:Nat}{w w':World}{γ γ':Gm}{hg:Nat->AObj}{nx:Nat}
variable {op:Op}{t:T}{g:G}{f:Stg SFn}
theorem vV{sz id:Nat}(hid:id∈af x)(hn:h.get id=.none):am h sz x=none:=by
 cases x<;>simp[af]at hid
 ·subst hid;simp[am,hn]
 ·rfl
 ·rfl
theorem Ak{sz id:Nat}{bytes:Nat}{new:List (List AV)}(hid:id∈af x)(hn:g.h.get id=.none):a8 sz bytes x new g=.fail:=by
 cases x<;>simp[af]at hid
 ·subst hid;simp[a8,hn]
 ·rfl
 ·rfl
theorem Du(h:cm C op=some f){id:Nat}(hid:id∈a_ C op t g)(hn:g.h.get id=.none):f.run t g=.fail:=by
 have one:∀{x:AV},id∈af x->(∃a b c d,x=.hptr a b c d/\g.h.get a=.none)\/(∃a b c d e,x=.hsl a b c d e/\g.h.get a=.none)\/(∃a,x=.hmap a/\g.h.get a=.none):=by
  intro x hx;cases x<;>simp[af]at hx
  ·subst hx;exact .inr (.inl ⟨_,_,_,_,_,rfl,hn⟩)
  ·subst hx;exact .inl ⟨_,_,_,_,rfl,hn⟩
  ·subst hx;exact .inr (.inr ⟨_,rfl,hn⟩)
 cases op<;>simp only[cm]at h<;>first| (cases h;done)|skip
 case call c =>
  obtain⟨callee,args,argTypes⟩:=c;cases callee<;>first| (cases h;done)|skip
  rename_i b;dsimp only at h;obtain⟨vs,j⟩:=sE h;have hid:id∈(vs.run t).flatMap (kP C b argTypes):=by simpa only[a_,aK,j,ah,RQ,QJ] using hid
  generalize args.toList=l at h j;unfold cZ at h
  split at h
  ·
   split at h
   ·rename_i tt s h0 hs;injection h with h;subst h;simp only[bP,hs,RN]at j;subst j;simp only[Rl,Ru,QJ,kP,h0]at hid;dsimp only;generalize s.run t=x at *;generalize kV C.P tt=k at *;cases k<;>simp at hid;cases x<;>simp[uk]at hid;subst hid;simp[bY,hn]
   ·cases h
  ·
   split at h
   ·rename_i tt xt sa sx h0 h1 ha hx;simp only[bP,ha,hx,RN]at j;subst j;simp only[Rl,Ru,QJ,kP,Q7]at hid
    repeat' (first|split at h| (rw[aa]at h;split at h))
    all_goals first| (cases h;done)|skip
    all_goals (injection h with h;subst h)
    ·dsimp only[cQ]
     split
     ·rfl
     ·rename_i new o;rcases hid with hid|hid
      ·exact Ak hid hn
      ·rw[vV hid hn]at o;cases o
    ·dsimp only[kT]
     split
     ·rfl
     ·rename_i n q;rcases hid with hid|hid
      ·rw[aa]
       split
       ·exact Ak hid hn
       ·rfl
      ·generalize sx.run t=x at *;cases x<;>simp[af]at hid<;>simp[bN]at q
   ·cases h
  ·
   split at h
   ·rename_i tt sa sx h0 ha hx;simp only[bP,ha,hx,RN]at j;subst j;simp only[Rl,Ru,QJ,kP,Q7]at hid
    repeat' (first|split at h)
    all_goals first| (cases h;done)|skip
    all_goals (injection h with h;subst h)
    dsimp only[zJ]
    split
    ·rfl
    ·rename_i src p;rcases hid with hid|hid
     ·rcases one hid with⟨a,b,c,d,e,h1⟩|⟨a,b,c,d,e',e,h1⟩|⟨a,e,h1⟩<;>rw[e]<;>simp[h1]
     ·rw[vV hid hn]at p;cases p
   ·cases h
  ·
   split at h
   ·rename_i tt s h0 hs;simp only[bP,hs,RN]at j;subst j;simp only[Rl,Ru,QJ,kP]at hid
    repeat' (first|split at h)
    all_goals first| (cases h;done)|skip
    all_goals (injection h with h;subst h)
    dsimp only[B5];rcases one hid with⟨a,b,c,d,e,h1⟩|⟨a,b,c,d,e',e,h1⟩|⟨a,e,h1⟩<;>rw[e]<;>simp[h1]
   ·cases h
  ·
   split at h
   ·rename_i tt s h0 hs;simp only[bP,hs,RN]at j;subst j;simp only[Rl,Ru,QJ,kP]at hid
    repeat' (first|split at h| (rw[aa]at h;split at h))
    all_goals first| (cases h;done)|skip
    all_goals (injection h with h;subst h)
    dsimp only;generalize s.run t=x at *;cases x with
    | hsl i ep off len lim =>
     cases len with
     |zero=>simp[r_]at hid
     | succ len =>
      simp[r_]at hid;subst hid;simp[xE,hn]
    |_=>simp[r_]at hid
   ·cases h
  ·
   split at h
   ·rename_i sa sx ha hx;injection h with h;subst h;simp only[bP,ha,hx,RN]at j;subst j;simp only[Rl,Ru,QJ,kP,Q7]at hid;dsimp only;rcases hid with hid|hid
    ·rcases one hid with⟨a,b,c,d,e,h1⟩|⟨a,b,c,d,e',e,h1⟩|⟨a,e,h1⟩<;>rw[e]
    ·split
     ·rcases one hid with⟨a,b,c,d,e,h1⟩|⟨a,b,c,d,e',e,h1⟩|⟨a,e,h1⟩<;>rw[e]
     ·rfl
   ·cases h
  ·
   split at h
   ·rename_i sa sx ha hx;injection h with h;subst h;simp only[bP,ha,hx,RN]at j;subst j;simp only[Rl,Ru,QJ,kP,Q7]at hid;dsimp only;rcases hid with hid|hid
    ·rcases one hid with⟨a,b,c,d,e,h1⟩|⟨a,b,c,d,e',e,h1⟩|⟨a,e,h1⟩<;>rw[e]
    ·split
     ·rcases one hid with⟨a,b,c,d,e,h1⟩|⟨a,b,c,d,e',e,h1⟩|⟨a,e,h1⟩<;>rw[e]
     ·rfl
   ·cases h
  ·cases h
 case load ty a =>
  split at h
  ·rename_i s ag n hs w r;injection h with h;subst h;simp only[a_,aK,hs,ah,RQ,QJ]at hid;dsimp only[l_];rcases one hid with⟨a,b,c,d,e,h1⟩|⟨a,b,c,d,e',e,h1⟩|⟨a,e,h1⟩<;>rw[e]<;>simp[h1]
  ·cases h
 case store ty a x =>
  split at h
  ·rename_i s u n hs hu r;injection h with h;subst h;simp only[a_,aK,hs,ah,RQ,QJ]at hid;dsimp only[nD];rcases one hid with⟨a,b,c,d,e,h1⟩|⟨a,b,c,d,e',e,h1⟩|⟨a,e,h1⟩<;>rw[e]<;>simp[h1]
  ·cases h
 case indexAddr ty x ix =>
  split at h
  ·rename_i s i hs hi
   split at h
   ·rename_i e hu
    split at h
    ·injection h with h;subst h;simp only[a_,aK,hs,hu,ah,RQ,QJ]at hid;dsimp only[gI];rcases one hid with⟨a,b,c,d,e,h1⟩|⟨a,b,c,d,e',e,h1⟩|⟨a,e,h1⟩<;>rw[e];dsimp only
     split
     ·simp[h1]
     ·rfl
    ·cases h
   ·rename_i n e hu;simp[a_,aK,hs,hu,aC]at hid
   ·cases h
  ·cases h
 case lookup ty x k ok =>
  split at h
  ·rename_i sm kk kt et hm hk hu
   split at h
   ·injection h with h;subst h;have hid:id∈af (sm.run t):=by cases ok<;>simpa [a_,aK,hm,ah] using hid
    dsimp only[dx];rw[aa]
    split
    ·rcases one hid with⟨a,b,c,d,e,h1⟩|⟨a,b,c,d,e',e,h1⟩|⟨a,e,h1⟩<;>rw[e]<;>simp[h1]
    ·rfl
   ·cases h
  ·cases h
 case mapUpdate ty m k x =>
  split at h
  ·rename_i sm sk sx kt et hm hk hx hu;injection h with h;subst h;simp only[a_,aK,hm,ah,RQ,QJ]at hid;dsimp only[fk];rw[aa]
   split
   ·rcases one hid with⟨a,b,c,d,e,h1⟩|⟨a,b,c,d,e',e,h1⟩|⟨a,e,h1⟩<;>rw[e]<;>simp[h1]
   ·rfl
  ·cases h
 case insert ty m k x =>
  split at h
  ·rename_i sm sk sx kt et hm hk hx hu;injection h with h;subst h;simp only[a_,aK,hm,ah,RQ,QJ]at hid;dsimp only[fk];rw[aa]
   split
   ·rcases one hid with⟨a,b,c,d,e,h1⟩|⟨a,b,c,d,e',e,h1⟩|⟨a,e,h1⟩<;>rw[e]<;>simp[h1]
   ·rfl
  ·cases h
 case mapEntry ty m k =>
  split at h
  ·rename_i sm sk kt et hm hk hu
   split at h
   ·injection h with h;subst h;simp only[a_,aK,hm,RQ,QJ]at hid;dsimp only[fF];rw[aa]
    split
    ·rcases one hid with⟨a,b,c,d,e,h1⟩|⟨a,b,c,d,e',e,h1⟩|⟨a,e,h1⟩<;>rw[e]<;>simp[h1]
    ·rfl
   ·cases h
  ·cases h
 case entryStore ty m st x =>
  split at h
  ·rename_i sm ss sx hm hs hx;injection h with h;subst h;simp only[a_,aK,hm,ah,RQ,QJ]at hid;dsimp only[ib];rcases one hid with⟨a,b,c,d,e,h1⟩|⟨a,b,c,d,e',e,h1⟩|⟨a,e,h1⟩<;>rw[e]<;>simp[h1]
  ·cases h
 case slice ty x lo hi mx =>
  have key:∀{sz:Nat} {y:AV} {l h' m:Option AV},id∈af y->jj sz y l h' m g.h=none:=by intro sz y l h' m z;rcases one z with⟨a,b,c,d,e,h1⟩|⟨a,b,c,d,e',e,h1⟩|⟨a,e,h1⟩<;>rw[e]<;>simp[jj,h1]
  cases mx with
  | none =>
   dsimp only at h
   split at h
   ·rename_i e sx sl sh hu hx hl v
    split at h
    ·injection h with h;subst h;simp only[a_,aK,hx,ah,RQ,QJ]at hid;dsimp only;rw[key hid];rfl
    ·cases h
   ·rename_i n e sx sl sh hu hx hl v
    split at h
    ·injection h with h;subst h;simp only[a_,aK,hx,ah,RQ,QJ]at hid;dsimp only[iH]
     split
     ·rfl
     ·split
      ·rfl
      ·rcases one hid with⟨a,b,c,d,e,h1⟩|⟨a,b,c,d,e',e,h1⟩|⟨a,e,h1⟩<;>rw[e]<;>simp[h1]
    ·cases h
   ·cases h
  | some mx =>
   cases hi with
   |none=>cases h
   | some hi =>
    dsimp only at h
    split at h
    ·rename_i e sx sl sh sm he hx hl v hm
     split at h
     ·injection h with h;subst h;simp only[a_,aK,hx,ah,RQ,QJ]at hid;dsimp only;rw[key hid];rfl
     ·cases h
    ·cases h
 all_goals simp[a_,aK,aC]at hid
structure CfgOk (C:Cfg):Prop where
 mixed:C.P.follows .mixedOrders=true
 recov:C.P.follows .rangeFuncRecover=true
 mon:dN C
 noDfr:∀f e,C.ext f=some e->∀d args g y,e d args g≠.dfr y
 ext:∀f e,C.ext f=some e->∀A bd w γ hg nx g as vs,Rel C A bd w γ hg nx->WF g->(∀id∈as.flatMap (aE g.h aD),g.h.get id≠.none->hg id=g.h.get id)->Free γ g (gOf g (e (bd+1) as g)) ->
  RVs w γ A bd as vs->e (bd+1) as g≠.fail->∀cs,
  ∃u w' γ' hg',Fin C A bd w γ hg nx g w' γ' hg' (gOf g (e (bd+1) as g))/\RV w' γ' A bd (vOf (e (bd+1) as g)) u /\
   ((callFunc f vs.toArray).run C.P w=.ok (.value u) w'\/(Enters C.P f/\Outs C.P .normal f vs.toArray cs w u w'))
def DR(w:World)(γ:Gm)(A:Nat->Nat->Prop)(bd:Nat):List ADf->List Deferred->Prop
 |[],[]=>True
 |.mark id::ds,d::es=>((γ id).kind=4/\d={ target:=.collected (γ id).blk,args:=#[] })/\DR w γ A bd ds es
 |.call fv args::ds,d::es=>(∃f ys us,fv=.clo f [] ys/\d.target=.fn (.func f) us/\RVs w γ A bd ys us.toList/\RVs w γ A bd args d.args.toList)/\DR w γ A bd ds es
 |_,_=>False
theorem DR.step{ds:List ADf}:∀{es:List Deferred},DR w γ A bd ds es->Stp w γ w' γ'->DR w' γ' A bd ds es:=by
 induction ds with
 |nil=>intro es h _;cases es<;>simpa [DR] using h
 | cons d ds ih =>
  intro es h s;cases es with
  |nil=>cases d<;>simp[DR]at h
  | cons e es =>
   cases d with
   | mark id =>
    obtain⟨⟨h1,h2⟩,h3⟩:=h;have hk:(γ id).kind≠0:=by rw[h1];decide
    exact⟨⟨by rw[s.kind_eq hk,h1],by rw[h2,s.blk_eq hk (by rw[h1];decide)]⟩,ih h3 s⟩
   | call fv args =>
    obtain⟨⟨f,ys,us,h1,h2,h4,h5⟩,h3⟩:=h;exact⟨⟨f,ys,us,h1,h2,h4.step s,h5.step s⟩,ih h3 s⟩
theorem TR.step{nt:Nat}{tmps:Array Value}(h:TR w γ A bd nt t tmps)(s:Stp w γ w' γ'):TR w' γ' A bd nt t tmps :=
 ⟨h.1,λi=>(h.2 i).step s⟩
def RdOk(γ:Gm)(rd:Option Nat)(b:Frame):Prop :=
 match rd with
 |none=>b.roundOf=none
 |some id=>(γ id).kind=3/\b.roundOf=some (γ id).blk
theorem RdOk.step{b:Frame}(h:RdOk γ rd b)(s:Stp w γ w' γ'):RdOk γ' rd b:=by
 cases rd with
 |none=>exact h
 | some id =>
  obtain⟨h1,h2⟩:=h;have hk:(γ id).kind≠0:=by rw[h1];decide
  exact⟨by rw[s.kind_eq hk,h1],by rw[h2,s.blk_eq hk (by rw[h1];decide)]⟩
def Arr(P:Program)(m:Machine)(b:Frame)(k:List Item)(cs:List Frame):Ex->Act->World->Prop
 |.norm,a,w=>Steps P m (lone (b.atR a k) cs w)
 |.exit id,a,w=>∃k₁,exitTo id k₁=exitTo id k/\Steps P m (lone (b.atR a (.code (.exit id)::k₁)) cs w)
 |.ret,a,w=>∃k₁,Steps P m (lone (b.atR a (.code .ret::k₁)) cs w)
theorem Arr.of_steps{P:Program}{m m₁:Machine}{b:Frame}{k:List Item}{cs:List Frame}{e:Ex}{a:Act}(h:Steps P m m₁)(h':Arr P m₁ b k cs e a w):Arr P m b k cs e a w:=by
 cases e with
 |norm=>exact Steps.trans h h'
 |exit id=>obtain⟨k₁,h1,h2⟩:=h';exact⟨k₁,h1,Steps.trans h h2⟩
 |ret=>obtain⟨k₁,h2⟩:=h';exact⟨k₁,Steps.trans h h2⟩
def wA(C:Cfg)(bd nt:Nat)(rd:Option Nat)(c:Code)(t:T)(df:List ADf)(g:G)(e:Ex)(t':T)(df':List ADf)(g':G):Prop :=
 ∀A w γ hg nx b a k cs,Rel C A bd w γ hg nx->Ext g.h hg->WF g->Free γ g g'->TR w γ A bd nt t a.tmps->DR w γ A bd df a.defers->RdOk γ rd b->nH b.kind cs ->
  ∃a' w' γ' hg',Fin C A bd w γ hg nx g w' γ' hg' g'/\TR w' γ' A bd nt t' a'.tmps/\DR w' γ' A bd df' a'.defers /\
   Arr C.P (lone (b.atR a (.code c::k)) cs w) b k cs e a' w'
def M5(C:Cfg)(ih:IH):Prop :=
 ∀bd nt rd c t df g e t' df' g',ih.code nt (bd+1) rd c t df g=.ok e t' df' g'->wA C bd nt rd c t df g e t' df' g'
structure IHOk (C:Cfg) (ih:IH):Prop where
 mon:IHMon ih
 call:Ay C ih
 code:M5 C ih
theorem RVs.append{xs ys:List AV}{vs us:List Value}(h1:RVs w γ A bd xs vs)(h2:RVs w γ A bd ys us):RVs w γ A bd (xs++ys) (vs++us):=by
 refine⟨by simp[h1.1,h2.1],λi x v hx hv=>?_⟩
 by_cases hi:i<xs.length
 ·rw[QK hi]at hx;rw[QK (by rw[<-h1.1];exact hi)]at hv;exact h1.2 i x v hx hv
 ·rw[QL (by omega)]at hx;rw[QL (by rw[<-h1.1];omega),<-h1.1]at hv;exact h2.2 _ x v hx hv
theorem OH{xs:List AV}{vs:Array Value}(hl:xs.length=vs.size)(h:∀(i:Nat) x v,xs[i]?=some x->vs[i]?=some v->RV w γ A bd x v) :
  RVs w γ A bd xs vs.toList:=⟨by simpa using hl,λi x v hx hv=>h i x v hx (by simpa using hv)⟩
section
variable {P:Program}{b:Frame}{a:Act}{ops:Array Oper}{i:Nat}{rest:List Nat}{k:List Item}{cs:List Frame}{o:Oper}
theorem tz{v:Value}(ho:ops[i]?=some o)(hw:Region.wanted o (yielded ops a.tmps)=true)(hd:∀c,o.op≠.defer c)
  (hrun:(execOp a.eval o).run P w=.ok (.value v) w') :
  step P (lone (b.atR a (.inRegion ops (i::rest)::k)) cs w)=.next (lone (b.atR (a.put o.dst v) (.inRegion ops rest::k)) cs w'):=by
 have h:=Frame.finish_atR b a ops i rest k v;rw[ho]at h;simp only[R7]at h;refine step_lone_go ?_;rw[stepGR_op ho hw,Oper.semAt_eq _ _ _ hd,<-h];simp[stepG.apply,hrun]
theorem H6(ho:ops[i]?=some o)(hw:Region.wanted o (yielded ops a.tmps)=true)(hd:∀c,o.op≠.defer c)
  (hrun:(execOp a.eval o).run P w=.ok .skip w') :
  step P (lone (b.atR a (.inRegion ops (i::rest)::k)) cs w)=.next (lone (b.atR (a.put o.dst undef) (.inRegion ops rest::k)) cs w'):=by
 have h:=Frame.finish_atR b a ops i rest k undef;rw[ho]at h;simp only[R7]at h;refine step_lone_go ?_;rw[stepGR_op ho hw,Oper.semAt_eq _ _ _ hd,<-h];simp[stepG.apply,hrun]
theorem tx{v:Value}(ho:ops[i]?=some o)(hw:Region.wanted o (yielded ops a.tmps)=true)(hd:∀c,o.op≠.defer c)
  (hrun:BG P o a.eval w v w') :
  Steps P (lone (b.atR a (.inRegion ops (i::rest)::k)) cs w) (lone (b.atR (a.put o.dst v) (.inRegion ops rest::k)) cs w'):=by
 rcases hrun with h|⟨h,rfl⟩
 ·exact .one (tz ho hw hd h)
 ·exact .one (H6 ho hw hd h)
theorem yQ{f:FuncId}{args:Array Value}(ho:ops[i]?=some o)(hw:Region.wanted o (yielded ops a.tmps)=true)(hd:∀c,o.op≠.defer c)
  (hrun:(execOp a.eval o).run P w=.ok (.enter f args) w') :
  step P (lone (b.atR a (.inRegion ops (i::rest)::k)) cs w)=.next (lone (Frame.enter P f args .normal) (b.atR a (.inRegion ops (i::rest)::k)::cs) w'):=by
 refine step_lone_go ?_;rw[stepGR_op ho hw,Oper.semAt_eq _ _ _ hd];simp[stepG.apply,hrun,Frame.atR]
theorem E8{l:Nat}{f:FuncId}{tmps:Array Value}(ho:ops[i]?=some o)(hw:Region.wanted o (yielded ops a.tmps)=true)(hd:∀c,o.op≠.defer c)
  (hrun:(execOp a.eval o).run P w=.ok (.round l f tmps assign body) w') :
  step P (lone (b.atR a (.inRegion ops (i::rest)::k)) cs w)=.next (lone (Frame.round l f tmps assign body .normal) (b.atR a (.inRegion ops (i::rest)::k)::cs) w'):=by
 refine step_lone_go ?_;rw[stepGR_op ho hw,Oper.semAt_eq _ _ _ hd];simp[stepG.apply,hrun,Frame.atR]
theorem pL{f:FuncId}{args:Array Value}{u:Value}{w₁:World}(ho:ops[i]?=some o)(hw:Region.wanted o (yielded ops a.tmps)=true)(hd:∀c,o.op≠.defer c)
  (hrun:(execOp a.eval o).run P w=.ok (.enter f args) w)
  (hout:Outs P .normal f args (b.atR a (.inRegion ops (i::rest)::k)::cs) w u w₁) :
  Steps P (lone (b.atR a (.inRegion ops (i::rest)::k)) cs w) (lone (b.atR (a.put o.dst u) (.inRegion ops rest::k)) cs w₁):=by
 obtain⟨fr,hs,h1,h2,h3,h4,fn,h5,h6⟩:=hout;have h:=Frame.finish_atR b a ops i rest k u;rw[ho]at h;simp only[R7]at h;refine .head (yQ ho hw hd hrun) (Steps.trans hs (.one ?_));rw[<-h];exact step_leave_returned ⟨h1,h2,h3,fn,by rw[h4];exact h5,h6⟩
theorem Bs(ho:ops[i]?=some o)(hw:Region.wanted o (yielded ops a.tmps)=true)(hd:∀c,o.op≠.defer c)
  (hrec:P.follows .rangeFuncRecover=true) (hcalm:nH b.kind cs)
  (hrun:(execOp a.eval o).run P w=.ok .recover w) :
  step P (lone (b.atR a (.inRegion ops (i::rest)::k)) cs w)=.next (lone (b.atR (a.put o.dst .nilIface) (.inRegion ops rest::k)) cs w):=by
 have d:=Frame.finish_atR b a ops i rest k .nilIface;rw[ho]at d;simp only[R7]at d;have e:tryRecover (b.atR a (.inRegion ops (i::rest)::k)) cs=none:=by
  unfold tryRecover;rcases hcalm with h|⟨h,c,cs',rfl,hm|⟨_,_,_,hm⟩⟩
  ·simp[Frame.atR,h]
  ·simp[Frame.atR,h,hm]
  ·simp[Frame.atR,h,hm]
 refine step_lone_go ?_;rw[stepGR_op ho hw,Oper.semAt_eq _ _ _ hd,<-d];simp only[stepG.apply,Sem.runT_eq,hrun,hrec,if_true,e];cases hro:(b.atR a (.inRegion ops (i::rest)::k)).roundOf<;>simp[GStep.bare_after]
end
theorem j3{P:Program}{l:Nat}{L:Loop}(h:w.heap[l]?=some (.loop L)):(Instr.getLoop l).run P w=.ok L w:=by
 unfold Instr.getLoop;simp only[QC,fe h (by simp),Qy]
 rfl
theorem rI{P:Program}{l:Nat}{L:Loop}{o:Obj}(h:w.heap[l]?=some (.loop L)):(setObj l o).run P w=.ok () (World.setBlk w l o) :=
 hZ h (by simp)
theorem Rel.setLoop(hr:Rel C A bd w γ hg nx){id:Nat}{t:T}{st st':LoopState}{pend pend':Option Code}{L:Loop}
  (hid:hg id=.loop nt t ps assign body dfr st pend) (hL:w.heap[(γ id).blk]?=some (.loop L)) :
  Rel C A bd (World.setBlk w (γ id).blk (.loop { L with state:=st',pending:=pend' })) γ (upd hg id (.loop nt t ps assign body dfr st' pend')) nx /\
   Stp w γ (World.setBlk w (γ id).blk (.loop { L with state:=st',pending:=pend' })) γ:=by
 have h:=hr.obj id;rw[hid]at h;obtain⟨h1,h2,L',h3,h4,h5,h6,h7,h8,h9,h10,k,a⟩:=h;rw[hL]at h3;injection h3 with h3;injection h3 with h3;subst h3;have hk:(γ id).kind≠0:=by rw[h1];decide
 have s:=sn (w:=w) (o:=.loop { L with state:=st',pending:=pend' }) hk h2;refine hr.setBlk hk h2 ⟨h1,h2,{ L with state:=st',pending:=pend' },?_,rfl,rfl,h6,h7,h8,h9,λi=>(h10 i).step s,k,a⟩;rw[dj];simp[(hr.lt id hk).2]
theorem OD{g:G}{id:Nat}{o:AObj}(hr:Rel C A bd w' γ' (upd hg id o) nx)(s:Stp w γ w' γ') :
  Fin C A bd w γ hg nx g w' γ' (upd hg id o) (g.put id o):=by
 refine⟨hr.up (RO _ _),s,⟨[id],by simp,λj hj=>?_,λj hj=>?_⟩⟩
 ·simp at hj;subst hj;simp[OE]
 ·exact cP _ _ (by simpa using hj)
theorem OC{g:G}{o:AObj}(hr:Rel C A bd w' γ' (upd hg g.nx o) (Nat.max nx (g.nx+1)))(s:Stp w γ w' γ') :
  Fin C A bd w γ hg nx g w' γ' (upd hg g.nx o) (g.new o):=by
 refine⟨by simpa using hr,s,⟨[g.nx],by simp,λj hj=>?_,λj hj=>?_⟩⟩
 ·simp at hj;subst hj;simp[OE]
 ·exact cP _ _ (by simpa using hj)
end
section
variable {C:Cfg}{A:Nat->Nat->Prop}{bd:Nat}{w w':World}{γ γ':Gm}{hg:Nat->AObj}{nx:Nat}
variable {t:T}{g:G}{ih:IH}
def Agr(lk:Looks)(g:G)(hg:Nat->AObj):Prop :=
 if lk.big then Ext g.h hg else ∀id∈lk.rd++lk.sr.map (·.1),g.h.get id≠.none->hg id=g.h.get id
theorem Ext.agr{lk:Looks}(h:Ext g.h hg):Agr lk g hg:=by
 unfold Agr
 split
 ·exact h
 ·exact λid _ hne=>h id hne
theorem zp:∀{ps:List Nat} {xs:List AV} {us:List Value} {t t':T} {tmps:Array Value},cY t nt ps xs=some t'->TR w γ A bd nt t tmps->RVs w γ A bd xs us ->
  ps.length=us.length/\TR w γ A bd nt t' ((ps.zip us).foldl (λtmps (t,a)=>tmps.setIfInBounds t a) tmps):=by
 intro ps
 induction ps with
 | nil =>
  intro xs us t t' tmps h ht hv;cases xs with
  | nil =>
   simp only[cY]at h;injection h with h;subst h;have:us=[]:=Sj.1 hv.1.symm;subst this;exact⟨rfl,ht⟩
  |cons x xs=>simp[cY]at h
 | cons p ps ih =>
  intro xs us t t' tmps h ht hv;cases xs with
  |nil=>simp[cY]at h
  | cons x xs =>
   cases us with
   |nil=>have:=hv.1;simp at this
   | cons u us =>
    simp only[cY,aa]at h
    split at h
    ·rename_i hp;rw[Rr]at hp;have h0:RV w γ A bd x u:=hv.2 0 x u rfl rfl;have k:RVs w γ A bd xs us:=⟨by have:=hv.1;simpa using this,λi x' u' hx hu=>hv.2 (i+1) x' u' (by simpa using hx) (by simpa using hu)⟩;have b:TR w γ A bd nt ((sp AV.undef p).run t x) (tmps.setIfInBounds p u):=by
      refine⟨by simp[ht.1],λi=>?_⟩;rw[sp_get]
      by_cases hi:i=p
      ·subst hi;rw[Qw rfl];have:i<tmps.size:=by rw[ht.1];exact hp
       simpa [Array.getD,this] using h0
      ·rw[Qu hi];have:=ht.2 i;simp only[Re]at this ⊢;rw[RZ (R0 hi)];exact this
     obtain⟨a1,a2⟩:=ih h b k;exact⟨by simp[a1],by simpa using a2⟩
    ·cases h
theorem HU(hi:IHOk C ih)(hr:Rel C A bd w γ hg nx)(hx:Ext g.h hg)(hwf:WF g){id:Nat}{vs:List Value}
  (hk:(γ id).kind=3) (hv:RVs w γ A bd args vs)  (h:cE ih (bd+1) id args g=r) (hne:r≠.fail) (hf:Free γ g (gOf g r)) (c:Frame) (cs:List Frame) :
  ∃f tmps assign body,(Instr.yield (γ id).blk vs.toArray).run C.P w=.ok (.round (γ id).blk f tmps assign body) w /\
   ∃u w' γ' hg',Fin C A bd w γ hg nx g w' γ' hg' (gOf g r)/\RV w' γ' A bd (vOf r) u /\
    Steps C.P (lone (Frame.round (γ id).blk f tmps assign body .normal) (c::cs) w) (lone (c.finish u) cs w'):=by
 unfold cE at h
 split at h
 rotate_left
 ·exact absurd h.symm hne
 rename_i nt t0 ps assign bodyX dfr0 st0 pend0 q;have q:g.h.get id=.loop nt t0 ps assign bodyX dfr0 st0 pend0:=by simpa using q
 have W:hg id=.loop nt t0 ps assign bodyX dfr0 st0 pend0:=by rw[hx id (by rw[q];simp),q]
 have R:=hr.obj id;rw[W]at R;obtain⟨k1,k2,L,k3,k4,k5,k6,k7,k8,k9,h7,h8,h9⟩:=R
 split at h
 ·exact absurd h.symm hne
 rename_i t' S;have h3:TR w γ A bd nt t0 L.tmps:=⟨k9,h7⟩;obtain⟨F,Z⟩:=zp S h3 hv
 split at h
 rotate_left
 ·exact absurd h.symm hne
 rename_i t1 g1 h1
 split at h
 rotate_left
 ·exact absurd h.symm hne
 rename_i nt1 U ps2 assign2 body1 dfr pend k;have k:g1.h.get id=.loop nt1 U ps2 assign2 body1 dfr .ready pend:=by simpa using k
 split at h
 rotate_left
 ·exact absurd h.symm hne
 rename_i e t3 g2 h2
 split at h
 rotate_left
 ·exact absurd h.symm hne
 rename_i nt3 V ps4 assign4 body4 dfr4 st4 pend4 d;have d:g2.h.get id=.loop nt3 V ps4 assign4 body4 dfr4 st4 pend4:=by simpa using d
 have I:=hi.mon.code _ _ _ _ _ _ _ _ _ _ _ h1 hwf;have w1:WF g1:=I.wf hwf;have J:Mon g1 (g1.put id (.loop nt1 U ps2 assign2 body1 dfr .busy pend)):=Mon.put w1 (by rw[k];simp);have w2:=J.wf w1;have T:=hi.mon.code _ _ _ _ _ _ _ _ _ _ _ h2 w2;have w3:=T.wf w2;have m4:∀o,Mon g2 (g2.put id o):=λo=>Mon.put w3 (by rw[d];simp);have Y:(gOf g r).nx=g2.nx:=by subst h;cases e<;>simp[gOf]
 have p:Free γ g g2:=λi a b=>hf i a (by rw[Y];exact b)
 let bR:Frame:={ (default:Frame) with fn:=L.fn,kind:=.normal,roundOf:=some (γ id).blk }
 let tmps:=(L.params.zip vs.toArray).foldl (λtmps (t,a)=>tmps.setIfInBounds t a) L.tmps
 have h4:tmps=(ps.zip vs).foldl (λtmps (t,a)=>tmps.setIfInBounds t a) L.tmps:=by simp only[tmps,<-Array.foldl_toList,Array.toList_zip,k6]
 have B:(Instr.yield (γ id).blk vs.toArray).run C.P w=.ok (.round (γ id).blk L.fn tmps assign bodyX) w:=by
  unfold Instr.yield;have hs:vs.toArray.size=L.params.size:=by rw[<-k6]at F;simpa using F.symm
  simp only[QC,j3 k3,Qy,hs,ne_eq,not_true_eq_false,if_false,k7,k8]
  rfl
 have z:Frame.round (γ id).blk L.fn tmps assign bodyX .normal=bR.atR { tmps:=tmps,defers:=[] } [.code assign,.beginRound,.code bodyX]:=by simp[Frame.round,Frame.atR,bR]
 obtain⟨a1,wa,γa,N,f1,tr1,dr1,ar1⟩:=hi.code _ _ _ _ _ _ _ _ _ _ _ h1 A w γ hg nx bR { tmps:=tmps,defers:=[] } [.beginRound,.code bodyX] (c::cs) hr hx hwf
  (p.le (QW J.nx T.nx)) (by rw[h4];exact Z) trivial ⟨hk,rfl⟩ (.inl rfl)
 have h5:Ext g1.h N:=f1.ext I hx;have D:N id=.loop nt1 U ps2 assign2 body1 dfr .ready pend:=by rw[h5 id (by rw[k];simp),k]
 have Q:(γ id).kind≠0:=by rw[hk];decide
 have s:(γa id).blk=(γ id).blk:=f1.stp.blk_eq Q (by rw[hk];decide);have G:=f1.rel.obj id;rw[D]at G;obtain⟨ka1,ka2,La,ka3,ka4,ka5,ka6,ka7,ka8,ka9,ka10,ka11,ka12⟩:=G;have l:=f1.rel.setLoop (st':=.busy) (pend':=pend) D ka3;rw[s]at ka3 l;have y:(Instr.beginRound (γ id).blk).run C.P wa=.ok () (World.setBlk wa (γ id).blk (.loop { La with state:=.busy,pending:=pend })):=by unfold Instr.beginRound;simp only[QC,j3 ka3,Qy,rI ka3,ka4,Q0,<-ka5]
 have f2:Fin C A bd wa γa N (Nat.max nx g1.nx) g1 _ γa _ (g1.put id (.loop nt1 U ps2 assign2 body1 dfr .busy pend)):=OD l.1 l.2;have x:=f1.trans f2 I J;obtain⟨a2,wb,γb,O,f3,tr3,dr3,ar3⟩:=hi.code _ _ _ _ _ _ _ _ _ _ _ h2 A _ γa _ (Nat.max nx (g1.put id (.loop nt1 U ps2 assign2 body1 dfr .busy pend)).nx) bR a1 [] (c::cs) x.rel (x.ext (I.trans J) hx) w2
  (x.freed hr (I.trans J) p) (tr1.step l.2) (by
   have:=dr1.step l.2;exact this) ⟨by rw[f1.stp.kind_eq Q];exact hk,by simp[bR,s]⟩ (.inl rfl)
 have m:=x.trans f3 (I.trans J) T;have h6:Ext g2.h O:=m.ext ((I.trans J).trans T) hx;have E:O id=.loop nt3 V ps4 assign4 body4 dfr4 st4 pend4:=by rw[h6 id (by rw[d];simp),d]
 have M:(γb id).blk=(γ id).blk:=m.stp.blk_eq Q (by rw[hk];decide);have H:=m.rel.obj id;rw[E]at H;obtain⟨kb1,kb2,Lb,kb3,kb4,kb5,kb6,kb7,kb8,kb9,kb10,kb11,kb12⟩:=H;have n:=λst' pend'=>m.rel.setLoop (st':=st') (pend':=pend') E kb3;rw[M]at kb3 n;have v:∀jump,(Instr.endRound (γ id).blk jump).run C.P wb=.ok (.bool jump.isNone) (World.setBlk wb (γ id).blk (.loop { Lb with state:=if jump.isNone then .ready else .done,pending:=jump })):=by intro jump;unfold Instr.endRound;simp only[QC,j3 kb3,Qy,rI kb3,Q0]
 refine⟨L.fn,tmps,assign,bodyX,B,?_⟩;rw[z];have sbegin:Steps C.P (lone (bR.atR { tmps:=tmps,defers:=[] } [.code assign,.beginRound,.code bodyX]) (c::cs) w) (lone (bR.atR a1 [.code bodyX]) (c::cs) (World.setBlk wa (γ id).blk (.loop { La with state:=.busy,pending:=pend }))) :=
  Steps.trans ar1 (.one (stepR_beginRound rfl y))
 have fin:∀(jump:Option Code) (st':LoopState),st'=(if jump.isNone then .ready else .done) ->
   Fin C A bd w γ hg nx g (World.setBlk wb (γ id).blk (.loop { Lb with state:=st',pending:=jump })) γb (upd O id (.loop nt3 V ps4 assign4 body4 dfr4 st' jump)) (g2.put id (.loop nt3 V ps4 assign4 body4 dfr4 st' jump)):=by
  intro jump st' _;exact m.trans (OD (n st' jump).1 (n st' jump).2) ((I.trans J).trans T) (m4 _)
 subst h;cases e with
 |norm=>exact⟨.bool true,_,γb,_,fin none .ready rfl,.bool _ _,Steps.trans sbegin (Steps.trans ar3 (.one (stepR_round_end rfl rfl (v none))))⟩
 | exit j =>
  obtain⟨k₁,X,K⟩:=ar3;exact⟨.bool false,_,γb,_,fin (some (.exit j)) .done rfl,.bool _ _,Steps.trans sbegin (Steps.trans K (.one (stepR_round_exit rfl rfl (by rw[X];rfl) (v (some (.exit j))))))⟩
 | ret =>
  obtain⟨k₁,K⟩:=ar3;exact⟨.bool false,_,γb,_,fin (some .ret) .done rfl,.bool _ _,Steps.trans sbegin (Steps.trans K (.one (stepR_round_ret rfl rfl (v (some .ret)))))⟩
noncomputable def MS(C:Cfg)(fv:AV)(as:List AV)(g:G):Looks :=
 match fv with
 |.clo f first cap=>ak ((C.ext f).isSome || C.iso f) (ah ((first++(as++cap)).flatMap (aE g.h aD))) bT
 |_=>bT
theorem K2(h:Agr bT g hg):Ext g.h hg:=h
section
variable {b:Frame}{a:Act}{ops:Array Oper}{i:Nat}{rest:List Nat}{k:List Item}{cs:List Frame}{o:Oper}
theorem zD(hC:CfgOk C)(hi:IHOk C ih)(hr:Rel C A bd w γ hg nx)(hwf:WF g){v:Value}{as:List AV}{vs:List Value}
  (hfv:RV w γ A bd fv v) (has:RVs w γ A bd as vs) (hag:Agr (MS C fv as g) g hg)
   (h:jo C ih (bd+1) fv as g=r) (hne:r≠.fail) (hf:Free γ g (gOf g r))
  (ho:ops[i]?=some o) (hw:Region.wanted o (yielded ops a.tmps)=true) (hd:∀c,o.op≠.defer c)
  (hexec:(execOp a.eval o).run C.P w=(do let d <-Deferred.ofValue v vs.toArray;invoke d.target d.args:Sem Next).run C.P w) :
  ∃u w' γ' hg',Fin C A bd w γ hg nx g w' γ' hg' (gOf g r)/\RV w' γ' A bd (vOf r) u /\
   Steps C.P (lone (b.atR a (.inRegion ops (i::rest)::k)) cs w) (lone (b.atR (a.put o.dst u) (.inRegion ops rest::k)) cs w'):=by
 cases hfv with
 | clo _ f xs ys vs1 us1 hl hl2 h1 h2 =>
  have l:RVs w γ A bd (xs++(as++ys)) (vs1.toList++(vs++us1.toList)):=(OH hl h1).append (has.append (OH hl2 h2));have m:(vs1.toList++(vs++us1.toList)).toArray=(vs1++vs.toArray)++us1:=by apply S7;simp
  have j:Enters C.P f->(execOp a.eval o).run C.P w=.ok (.enter f ((vs1++vs.toArray)++us1)) w:=by intro he;rw[hexec];simp only[Deferred.ofValue,invoke,QC,Q0,Qy];exact he _ _
  simp only[jo]at h;simp only[MS]at hag;cases hext:C.ext f with
  | some e =>
   simp only[hext]at h hag;have hx:∀id∈(xs++(as++ys)).flatMap (aE g.h aD),g.h.get id≠.none->hg id=g.h.get id:=by simpa [Agr,ah] using hag
   have hs:=hC.ext f e hext;subst h;obtain⟨u,w',γ',hg',f1,rv,out⟩:=hs A bd w γ hg nx g _ _ hr hwf hx hf l hne (b.atR a (.inRegion ops (i::rest)::k)::cs);rw[m]at out;rcases out with out|⟨he,out⟩
   ·refine⟨u,w',γ',hg',f1,rv,.one (tz ho hw hd ?_)⟩;rw[hexec];simp only[Deferred.ofValue,invoke,QC,Q0,Qy];exact out
   ·exact⟨u,w',γ',hg',f1,rv,pL ho hw hd (j he) out⟩
  | none =>
   simp only[hext]at h hag;cases hiso:C.iso f with
   | true =>
    simp only[hiso]at h hag;have hx:∀id∈(xs++(as++ys)).flatMap (aE g.h aD),g.h.get id≠.none->hg id=g.h.get id:=by simpa [Agr,ah] using hag
    subst h;obtain⟨he,u,w',γ',hg',f1,rv,out⟩:=rA hi.call hi.mon.call hr hx l hne (b.atR a (.inRegion ops (i::rest)::k)::cs);rw[m]at out;exact⟨u,w',γ',hg',f1,rv,pL ho hw hd (j he) out⟩
   | false =>
    simp only[hiso]at h hag;have hx:Ext g.h hg:=hag;cases hcall:ih.call (bd+1) f (xs++(as++ys)) g with
    | fail =>
     rw[hcall]at h;exact absurd h.symm hne
    | ok rv0 g1 =>
     rw[hcall]at h;have h:OR.upd rv0 g1=r:=h;subst h;obtain⟨he,hs⟩:=hi.call _ _ _ _ _ _ hcall;obtain⟨u,w',γ',hg',f1,rv,out⟩:=hs A w γ hg nx _ hr hx hwf hf l .normal (b.atR a (.inRegion ops (i::rest)::k)::cs) (.inl rfl);rw[m]at out;exact⟨u,w',γ',hg',f1,rv,pL ho hw hd (j he) out⟩
 | yld _ id bl hk hb =>
  subst hb;simp only[jo]at h;have hx:Ext g.h hg:=K2 hag;obtain⟨f,tmps,assign,body,p,u,w',γ',hg',f1,rv,st⟩:=HU hi hr hx hwf hk has h hne hf (b.atR a (.inRegion ops (i::rest)::k)) cs;have n:=Frame.finish_atR b a ops i rest k u;rw[ho]at n;simp only[R7]at n;rw[n]at st;refine⟨u,w',γ',hg',f1,rv,.head (E8 ho hw hd ?_) st⟩;rw[hexec];simp only[Deferred.ofValue,invoke,QC,Q0,Qy];simpa using p
 |_=>exact absurd h.symm hne
theorem Bc(hC:CfgOk C)(hi:IHOk C ih)(hr:Rel C A bd w γ hg nx)(hwf:WF g)(ht:TR w γ A bd nt t a.tmps)(hcalm:nH b.kind cs)
  (hag:Agr ((aK C o.op).run t g) g hg)  (h:(bS C o.op).run ih (bd+1) rd t g=r) (hne:r≠.fail) (hnd:∀x,r≠.dfr x) (hf:Free γ g (gOf g r))
  (ho:ops[i]?=some o) (hw:Region.wanted o (yielded ops a.tmps)=true) :
  ∃u w' γ' hg',Fin C A bd w γ hg nx g w' γ' hg' (gOf g r)/\RV w' γ' A bd (vOf r) u /\
   Steps C.P (lone (b.atR a (.inRegion ops (i::rest)::k)) cs w) (lone (b.atR (a.put o.dst u) (.inRegion ops rest::k)) cs w'):=by
 have hm:Mon g (gOf g r):=by rw[<-h];exact iO hC.mon hi.mon hwf
 unfold bS at h
 split at h
 rotate_left
 ·exact absurd h.symm hne
 rename_i f d;generalize hop:o.op=op at d hag;have j:∀(args:Array Operand),(args.toList.map a.eval).toArray=args.map a.eval:=λargs=>by apply S7;simp
 unfold cOp at d
 split at d
 ·
  rename_i fx args at2;have hd:∀c,o.op≠.defer c:=by rw[hop];intro c h;cases h
  split at d
  ·rename_i vs n;simp only[aK,aN,n]at hag;refine zD (fv:=.clo fx [] []) (v:=.func (.func fx) #[] #[]) (as:=vs.run t) hC hi hr hwf (.clo _ fx [] [] #[] #[] rfl rfl (λi x v h=>by simp at h) (λi x v h=>by simp at h)) (gL ht hr n) hag ?_ hne hf ho hw hd ?_
   ·rw[<-h];simp only[jo,QU,QJ]
    split at d
    ·rename_i e he;injection d with d;subst d;rfl
    ·rename_i he;rw[aa]at d
     split at d
     ·rename_i l;injection d with d;subst d;simp only[l]
     ·rename_i l;injection d with d;subst d;have:C.iso fx=false:=by simpa using l
      simp only[this]
   ·simp only[execOp,hop,resolve,j,Act.eval]
  ·cases d
 ·
  rename_i fo args at2 B;have hd:∀c,o.op≠.defer c:=by rw[hop];intro c h;cases h
  split at d
  ·rename_i fv vs q n;injection d with d;subst d;simp only[aK,q,n]at hag;refine zD (fv:=fv.run t) (v:=a.eval fo) (as:=vs.run t) hC hi hr hwf (au q ht hr) (gL ht hr n) hag h hne hf ho hw hd ?_;simp only[execOp,hop,resolve,j]
  ·cases d
 ·
  have hd:∀c,o.op≠.defer c:=by rw[hop];intro c h;cases h
  injection d with d;subst d;subst h;refine⟨.nilIface,w,γ,hg,Fin.refl hr,.nili _,.one (Bs ho hw hd hC.recov hcalm ?_)⟩;simp only[execOp,hop,resolve,invoke,QC,Q0,Qy]
  rfl
 ·
  split at d
  ·injection d with d;subst d;exfalso;dsimp only at h
   split at h
   ·exact hne h.symm
   ·split at h
    ·exact hnd _ h.symm
    ·exact hne h.symm
  ·cases d
 ·
  split at d
  ·rename_i s hs;injection d with d;subst d;have hd:∀c,o.op≠.defer c:=by rw[hop];rintro c rfl;simp[cm]at hs
   have p:∀id∈a_ C op t g,hg id=g.h.get id:=by
    intro id y;have z:g.h.get id≠.none:=λz=>hne (by rw[<-h];exact Du hs y z);unfold Agr at hag
    split at hag
    ·exact hag id z
    ·exact hag id y z
   have m:=Mt hs hop ht hr (hf g.nx (Qq _) hm.nx) p;have h:s.run t g=r:=h;rw[h]at m;cases r with
   |fail=>exact absurd rfl hne
   | val x =>
    obtain⟨v,h1,h2⟩:=m;exact⟨v,w,γ,hg,Fin.refl hr,h2,tx ho hw hd h1⟩
   | upd x g' =>
    obtain⟨v,w',γ',id,ob,h1,h2,h3,h4⟩:=m;rcases h4 with⟨rfl,h4⟩|⟨rfl,rfl,h4⟩
    ·exact⟨v,w',γ',_,OD h4 h3,h2,tx ho hw hd h1⟩
    ·exact⟨v,w',γ',_,OC h4 h3,h2,tx ho hw hd h1⟩
   |dfr x=>exact absurd rfl (hnd x)
  ·cases d
end
end
end
end Hx
