/- A part of the proof: what the functions of the chapter compute. -/
import Derived.RangeFuncIn
import Derived.AtR
import Derived.Test.YtikpmbiklokdiaaGreatHx2
set_option linter.all false
set_option maxRecDepth 20000
set_option maxHeartbeats 8000000
namespace Hx
open Go
noncomputable section
variable {g g':G}{d nt n k i f off m dfr j:Nat}{t t':T}{rd:Option Nat}{df df':List ADf}{v fv x:AV}{C:Cfg}{h:H}{P:Nat->Prop}{args cs row:List AV}{op:Op}{assign body:Code}{r:OR}{ps:List Nat}{l:List Int}
section
variable {C:Cfg}
theorem Mon.put{g:G}{id:Nat}{o:AObj}(hwf:WF g)(hid:g.h.get id≠.none):Mon g (g.put id o):=by
 have hi:id<g.nx:=Nat.lt_of_not_le λh=>hid (hwf id h);refine⟨by simp,⟨[id],by simp,λk hk=>?_,λk hk=>?_⟩,λh k hk=>?_⟩
 ·simp only[G.put_h,SD];rw[Um];simpa using hk
 ·simp at hk;subst hk;exact⟨by simpa using hi,λhn=>absurd hn hid⟩
 ·simp only[G.put_nx]at hk;simp only[G.put_h,SD];rw[Um (by omega)];exact h k hk
theorem Mon.mk'{g:G}{o:AObj}:Mon g (g.new o):=by
 refine⟨by simp,⟨[g.nx],by simp,λk hk=>?_,λk hk=>?_⟩,λh k hk=>?_⟩
 ·simp only[G.new_h,SD];rw[Um];simpa using hk
 ·simp at hk;subst hk;simp
 ·simp only[G.new_nx]at hk;simp only[G.new_h,SD];rw[Um (by omega)];exact h k (by omega)
def Small(g:G):OR->Prop
 |.fail=>True
 |.val _=>True
 |.upd _ g'=>(∃id ob,g'=g.put id ob/\g.h.get id≠.none)\/∃ob,g'=g.new ob
 |.dfr _=>False
theorem Small.mon{g:G}(h:Small g r)(hwf:WF g):Mon g (gOf g r):=by
 cases r with
 | upd v g' =>
  rcases h with⟨id,ob,rfl,h⟩|⟨ob,rfl⟩
  ·exact Mon.put hwf h
  ·exact Mon.mk'
 |_=>exact Mon.refl g
variable {op:Op}{t:T}{g:G}{f:Stg SFn}
theorem mW(x:Option AV):Small g (orV x):=by cases x<;>trivial
theorem x9(sz bytes:Nat)(s:AV)(new:List (List AV)):Small g (bA sz bytes s new g):=by
 unfold bA;simp only[aa]
 repeat' split
 all_goals first
  |trivial
  |exact .inr ⟨_,rfl⟩
  |exact .inl ⟨_,_,rfl,λhn=>by simp_all⟩
theorem Lh{P:Program}{op:BinOp}{ty:TypeId}{y:AV}:Small g ((zH P op ty).run x y):=by
 unfold zH
 split
 ·split
  ·dsimp only;split<;>first|exact mW _|trivial
  ·dsimp only;split<;>trivial
 ·split
  ·dsimp only;split<;>first|exact mW _|trivial
  ·dsimp only;split<;>trivial
 ·dsimp only;split<;>first|exact mW _|trivial
theorem N7{op:UnOp}:Small g ((unA op).run x):=by
 unfold unA
 split
 ·dsimp only;split<;>trivial
 ·dsimp only;split<;>first|exact mW _|trivial
theorem yf(h:cm C op=some f):Small g (f.run t g):=by
 cases op<;>simp only[cm]at h<;>first| (cases h;done)|skip
 case call c =>
  obtain⟨callee,args,argTypes⟩:=c;cases callee<;>first| (cases h;done)|skip
  rename_i b;dsimp only at h;unfold dJ at h
  split at h
  all_goals
   repeat' (first|split at h| (rw[aa]at h;split at h))
   all_goals first| (cases h;done)|skip
   all_goals (injection h with h;subst h)
   all_goals dsimp only[jC,eS,wm,Cw,LU,zZ]
   all_goals try simp only[aa]
   all_goals repeat' split
   all_goals first
    |trivial
    |exact x9 _ _ _ _
    |exact .inr ⟨_,rfl⟩
    |exact .inl ⟨_,_,rfl,λhn=>by simp_all⟩
 all_goals
  repeat' (first|split at h| (rw[aa]at h;split at h))
  all_goals first| (cases h;done)|skip
  all_goals first| (injection h with h;subst h)| (exfalso;injections;done)| (rename_i k _;cases k)
  all_goals dsimp only[nH,pz,Dq,LJ,oG,iz,ki,gZ,nG,vT,qf,it,cz,dq,dh,da,iU]
  all_goals first
   |exact mW _
   |exact Lh
   |exact N7
   |skip
  all_goals try simp only[aa]
  all_goals repeat' split
  all_goals first
   |trivial
   |exact mW _
   |exact .inr ⟨_,rfl⟩
   |exact .inl ⟨_,_,rfl,λhn=>by simp_all⟩
   |skip
def eR(C:Cfg):Prop:=∀f e,C.ext f=some e->∀d args g,WF g->Mon g (gOf g (e d args g))
structure IHMon (ih:IH):Prop where
 code:∀nt d rd c t df g e t' df' g',ih.code nt d rd c t df g=.ok e t' df' g'->WF g->Mon g g'
 call:wg ih
variable {ih:IH}
theorem HY(hi:IHMon ih){id:Nat}{g:G}(hwf:WF g):Mon g (gOf g (cR ih d id args g)):=by
 unfold cR
 split
 ·split
  ·exact Mon.refl g
  ·split
   ·rename_i t1 g1 h1;have e:=hi.code _ _ _ _ _ _ _ _ _ _ _ h1 hwf;have w1:WF g1:=e.wf hwf
    split
    ·rename_i a
     split
     ·rename_i g2 h2;have c:g1.h.get id≠.none:=by rw[<-G.get_eq,a];simp
      have f:=λo=>Mon.put (o:=o) w1 c;have j:=hi.code _ _ _ _ _ _ _ _ _ _ _ h2 ((f _).wf w1);have i:=e.trans ((f _).trans j)
      split
      ·rename_i k;have b:g2.h.get id≠.none:=by rw[<-G.get_eq,k];simp
       split
       all_goals exact i.trans (Mon.put (i.wf hwf) b)
      ·exact Mon.refl g
     ·exact Mon.refl g
    ·exact Mon.refl g
   ·exact Mon.refl g
 ·exact Mon.refl g
theorem Jq{g:G}{r:FR}(h:∀v g',r=.ok v g'->Mon g g'):Mon g (gOf g (orF r)):=by
 cases r with
 |fail=>exact Mon.refl g
 |ok v g'=>exact h v g' rfl
theorem J8(he:eR C)(hi:IHMon ih){vs:List AV}{g:G}(hwf:WF g):Mon g (gOf g (dj C ih d fv vs g)):=by
 unfold dj
 split
 ·split
  ·rename_i e h;exact he _ e h _ _ g hwf
  ·rw[aa]
   split
   ·exact lE hwf
   ·exact Jq λv g' h=>hi.call _ _ _ _ _ _ h hwf
 ·exact HY hi hwf
 ·exact Mon.refl g
theorem OQ(he:eR C)(hi:IHMon ih){op:Op}{f:Stg LB}(h:cOp C op=some f){t:T}{g:G}(hwf:WF g) :
  Mon g (gOf g (f.run ih d rd t g)):=by
 unfold cOp at h
 split at h
 ·split at h
  ·split at h
   ·rename_i e k;injection h with h;subst h;exact he _ e k _ _ g hwf
   ·rw[aa]at h
    split at h
    ·injection h with h;subst h;exact lE hwf
    ·injection h with h;subst h;exact Jq λv g' h=>hi.call _ _ _ _ _ _ h hwf
  ·cases h
 ·split at h
  ·injection h with h;subst h;exact J8 he hi hwf
  ·cases h
 ·injection h with h;subst h;exact Mon.refl g
 ·split at h
  ·injection h with h;subst h;dsimp only
   split
   ·exact Mon.refl g
   ·split<;>exact Mon.refl g
  ·cases h
 ·split at h
  ·rename_i s hs;injection h with h;subst h;exact (yf hs).mon hwf
  ·cases h
theorem i6(he:eR C)(hi:IHMon ih){op:Op}{t:T}{g:G}(hwf:WF g) :
  Mon g (gOf g ((bC C op).run ih d rd t g)):=by
 unfold bC
 split
 ·rename_i f hf;exact OQ he hi hf hwf
 ·exact Mon.refl g
theorem Bt{out:T->AV->T}{next:T->List ADf->G->CR}{t:T}{g:G}{e:Ex}
  (h:pB out next t df g r=.ok e t' df' g') (hwf:WF g) (hr:Mon g (gOf g r)) (hn:∀t df g1,next t df g1=.ok e t' df' g'->WF g1->Mon g1 g'):Mon g g':=by
 cases r with
 |fail=>cases h
 |val v=>exact hn _ _ _ h hwf
 |upd v g1=>exact hr.trans (hn _ _ _ h (hr.wf hwf))
 |dfr a=>exact hn _ _ _ h hwf
theorem zO(he:eR C)(hi:IHMon ih){all:List Oper}:∀{ops:List Oper} {d:Nat} {rd:Option Nat} {t:T} {df:List ADf} {g:G} {e:Ex} {t':T} {df':List ADf} {g':G},
  (jU C nt all ops).run ih d rd t df g=.ok e t' df' g'->WF g->Mon g g':=by
 intro ops
 induction ops with
 |nil=>intro d rd t df g e t' df' g' h _;simp only[jU]at h;injection h with _ _ _ h;subst h;exact Mon.refl _
 | cons o rest ihl =>
  intro d rd t df g e t' df' g' h k;simp only[jU]at h
  split at h
  ·split at h
   ·exact Bt h k (i6 he hi k) λ_ _ _ h1 h2=>ihl h1 h2
   ·split at h
    ·dsimp only at h
     split at h
     ·exact Bt h k (i6 he hi k) λ_ _ _ h1 h2=>ihl h1 h2
     ·exact ihl h k
     ·cases h
    ·cases h
  ·cases h
theorem WF.setLog{g:G}{l:List Nat}(h:WF g):WF (aR g l):=λid hid=>by simp only[setLog_nx]at hid;simp only[setLog_h];exact h id hid
theorem SE{g:G}:Mon g (od g g.lg) :=
 ⟨by simp,⟨[],by simp,λid _=>by simp,λ_ h=>absurd h Uu⟩,λh id hid=>by simp only[bumpG_nx]at hid;simp only[bumpG_h];exact h id (by omega)⟩
theorem SG{g g1:G}(h:Mon (aR g []) g1):Mon g (od g1 (g1.lg++g.lg)):=by
 obtain⟨n,a,b,c⟩:=h.new;have d:g.nx<=g1.nx:=by simpa using h.nx
 refine⟨by simp;omega,⟨g1.lg,by simp,λid hid=>?_,λid hid=>?_⟩,λhw id hid=>?_⟩
 ·have e:g1.lg=n:=by simpa using a
  rw[e]at hid;have:=b id hid;simpa using this
 ·have e:g1.lg=n:=by simpa using a
  rw[e]at hid;have:=c id hid;simp only[setLog_h,setLog_nx]at this;exact⟨by simp;omega,this.2⟩
 ·simp only[bumpG_nx]at hid;simp only[bumpG_h];exact h.wf (λk hk=>by simp only[setLog_nx]at hk;simp only[setLog_h];exact hw k hk) id (by omega)
theorem J6(he:eR C)(hi:IHMon ih){pm:List Nat}{all:List Oper}:∀{ops:List Oper} {i d:Nat} {rd:Option Nat} {t:T} {df:List ADf} {g:G} {fs:List Foot} {e:Ex} {t':T} {df':List ADf} {g':G},
  (iZ C nt pm all i ops).run ih d rd t df g fs=.ok e t' df' g'->WF g->Mon g g':=by
 intro ops
 induction ops with
 | nil =>
  intro i d rd t df g fs e t' df' g' h _;simp only[iZ,aa]at h
  split at h
  ·injection h with _ _ _ h;subst h;exact Mon.refl _
  ·cases h
 | cons o rest ihl =>
  intro i d rd t df g fs e t' df' g' h k;simp only[iZ]at h
  split at h
  ·dsimp only at h
   split at h
   ·have hm:=i6 (op:=o.op) (d:=d) (rd:=rd) (t:=t) he hi (k.setLog (l:=[]));generalize (bC C o.op).run ih d rd t (aR g [])=r at h hm;cases r with
    |fail=>cases h
    |val v=>exact SE.trans (ihl h (SE.wf k))
    | upd v g1 =>
     have b:=SG hm;exact b.trans (ihl h (b.wf k))
    |dfr a=>cases h
   ·exact ihl h k
   ·cases h
  ·cases h
theorem E8(he:eR C)(hi:IHMon ih){ops:List Oper}{draw:Bool}{t:T}{g:G}{e:Ex}
  (h:(gt C nt ops draw).run ih d rd t df g=.ok e t' df' g') (hwf:WF g):Mon g g':=by
 unfold gt at h;rw[aa]at h
 split at h
 ·rw[aa]at h
  split at h
  ·rw[aa]at h
   split at h
   ·dsimp only at h;unfold nL at h
    split at h
    ·split at h
     ·rw[aa]at h
      split at h
      ·injection h with _ _ _ h;subst h;exact Mon.refl _
      ·cases h
     ·cases h
    ·cases h
   ·exact J6 he hi h hwf
  ·cases h
 ·exact zO he hi h hwf
theorem xd(hi:IHMon ih){id:Nat}{t:T}{g:G}{e:Ex}
  (h:cT ih nt d rd id t df g=.ok e t' df' g') (hwf:WF g):Mon g g':=by
 unfold cT at h
 split at h
 ·rename_i k;have a:g.h.get id≠.none:=by rw[<-G.get_eq,k];simp
  have m:∀o,Mon g (g.put id o):=λo=>Mon.put hwf a
  split at h
  ·cases h
  ·split at h
   ·injection h with _ _ _ h;subst h;exact m _
   ·exact (m _).trans (hi.code _ _ _ _ _ _ _ _ _ _ _ h ((m _).wf hwf))
 ·cases h
theorem pt(hi:IHMon ih){t:T}{g:G}{e:Ex}
  (h:bK C ih nt d rd fv ps assign body t df dfr g=.ok e t' df' g') (hwf:WF g):Mon g g':=by
 unfold bK at h
 split at h
 ·rw[aa]at h
  split at h
  ·cases h
  ·split at h
   ·rename_i v g2 h2;have k:Mon g (g.new (.loop nt t ps assign body dfr .ready none)):=Mon.mk';have b:=hi.call _ _ _ _ _ _ h2 (k.wf hwf);have a:=k.trans b;exact a.trans (xd hi h (a.wf hwf))
   ·cases h
 ·cases h
theorem HT(hi:IHMon ih){fo:T->AV}{t:T}{g:G}{e:Ex}
  (h:nM C nt fo ps assign body ih d rd t df g=.ok e t' df' g') (hwf:WF g):Mon g g':=by
 unfold nM at h
 split at h
 ·split at h
  ·exact pt hi h hwf
  ·cases h
 ·have k:Mon g (g.new (.dfr true)):=Mon.mk';exact k.trans (pt hi h (k.wf hwf))
theorem jT(he:eR C)(hi:IHMon ih):∀(c:Code) {d:Nat} {rd:Option Nat} {t:T} {df:List ADf} {g:G} {e:Ex} {t':T} {df':List ADf} {g':G},
  (aK C nt c).run ih d rd t df g=.ok e t' df' g'->WF g->Mon g g':=by
 intro c;have now:∀{e e':Ex} {t t':T} {df df':List ADf} {g g':G},CR.ok e' t df g=.ok e t' df' g'->Mon g g':=by intro e e' t t' df df' g g' h;injection h with _ _ _ h;subst h;exact Mon.refl _
 induction c with
 |skip=>intro d rd t df g e t' df' g' h _;exact now h
 |label l=>intro d rd t df g e t' df' g' h _;exact now h
 |region id ops draw=>intro d rd t df g e t' df' g' h k;exact E8 he hi h k
 | seq a b iha ihb =>
  intro d rd t df g e t' df' g' h k;simp only[aK]at h;generalize hr:(aK C nt a).run ih d rd t df g=r at h;cases r with
  |fail=>cases h
  | ok e1 t1 df1 g1 =>
   have i:=iha hr k;cases e1 with
   |norm=>exact i.trans (ihb h (i.wf k))
   |exit j=>exact i.trans (now h)
   |ret=>exact i.trans (now h)
 | cond c a b iha ihb =>
  intro d rd t df g e t' df' g' h k;simp only[aK]at h
  split at h
  ·dsimp only at h
   split at h
   ·rw[aa]at h
    split at h
    ·exact iha h k
    ·exact ihb h k
   ·cases h
  ·cases h
 | block id body ihb =>
  intro d rd t df g e t' df' g' h k;simp only[aK]at h;generalize hr:(aK C nt body).run ih d rd t df g=r at h;cases r with
  |fail=>cases h
  | ok e1 t1 df1 g1 =>
   have i:=ihb hr k;cases e1 with
   |norm=>exact i.trans (now h)
   | exit j =>
    simp only[vq,aa]at h
    split at h
    ·exact i.trans (now h)
    ·exact i.trans (now h)
   |ret=>exact i.trans (now h)
 | loop body ihb =>
  intro d rd t df g e t' df' g' h k;simp only[aK]at h;generalize hr:(aK C nt body).run ih d rd t df g=r at h;cases r with
  |fail=>cases h
  | ok e1 t1 df1 g1 =>
   have i:=ihb hr k;cases e1 with
   |norm=>exact i.trans (hi.code _ _ _ _ _ _ _ _ _ _ _ h (i.wf k))
   |exit j=>exact i.trans (now h)
   |ret=>exact i.trans (now h)
 |scope body ihb=>intro d rd t df g e t' df' g' h k;exact ihb h k
 |exit id=>intro d rd t df g e t' df' g' h _;exact now h
 |ret=>intro d rd t df g e t' df' g' h _;exact now h
 | rangeFunc f ps assign body _ _ =>
  intro d rd t df g e t' df' g' h k;simp only[aK]at h
  split at h
  ·exact HT hi h k
  ·cases h
 |_=>intro d rd t df g e t' df' g' h _;cases h
theorem mT(hi:IHMon ih):∀{df:List ADf} {g g':G},fN ih d df g=some g'->WF g->Mon g g':=by
 intro df
 induction df with
 |nil=>intro g g' h _;simp only[fN]at h;injection h with h;subst h;exact Mon.refl _
 | cons a df ihl =>
  intro g g' h k;cases a with
  | mark id =>
   simp only[fN]at h
   split at h
   ·rename_i b;have m:Mon g (g.put id (.dfr false)):=Mon.put k (by rw[<-G.get_eq,b];simp);exact m.trans (ihl h (m.wf k))
   ·cases h
  | call f args =>
   cases f<;>simp only[fN]at h<;>first| (cases h;done)|skip
   split at h
   ·rename_i v g1 h1;have m:=hi.call _ _ _ _ _ _ h1 k;exact m.trans (ihl h (m.wf k))
   ·cases h
theorem OO(he:eR C)(hi:IHMon ih){f:Nat}{x:Stg (IH->Nat->List AV->G->FR)}(hx:cFn C f=some x){g:G}
  (h:x.run ih d args g=.ok v g') (hwf:WF g):Mon g g':=by
 unfold cFn at hx
 split at hx
 ·cases hx
 split at hx
 ·cases hx
 split at hx
 ·rw[aa]at hx
  split at hx
  ·cases hx
  injection hx with hx;subst hx;dsimp only at h;rw[aa]at h
  split at h
  ·split at h
   ·cases h
   ·rename_i hc;have k:=jT he hi _ hc hwf;unfold bN at h
    split at h
    ·cases h
    ·rename_i g2 h2;have a:=mT hi h2 (k.wf hwf)
     split at h
     ·injection h with _ h;subst h;exact k.trans a
     ·cases h
   ·cases h
  ·cases h
 ·cases hx
theorem zt(he:eR C):∀n,IHMon (sem C n):=by
 intro n
 induction n with
 |zero=>exact⟨λnt d rd c t df g e t' df' g' h=>(by cases h),λd f as g v g' h=>(by cases h)⟩
 | succ n ihn =>
  refine⟨λnt d rd c t df g e t' df' g' h hwf=>jT he ihn c h hwf,λd f as g v g' h hwf=>?_⟩;change ff C (sem C n) d f as g=.ok v g' at h;unfold ff at h
  split at h
  ·rename_i x hx;exact OO he ihn hx h hwf
  ·cases h
end
section
def CLe(a b:CR):Prop:=a=.fail\/a=b
def FLe(a b:FR):Prop:=a=.fail\/a=b
def OLe(a b:OR):Prop:=a=.fail\/a=b
structure IHLe (i j:IH):Prop where
 code:∀nt d rd c t df g,CLe (i.code nt d rd c t df g) (j.code nt d rd c t df g)
 call:∀d f as g,FLe (i.call d f as g) (j.call d f as g)
variable {i j:IH}
theorem AM(h:IHLe i j):OLe (ac i d g f args) (ac j d g f args):=by
 unfold ac
 split
 ·exact .inl rfl
 ·rename_i as _;rcases h.call (Nat.succ d) f as G.empty with e|e<;>rw[e]
  ·exact .inl rfl
  ·exact .inr rfl
theorem K7(h:IHLe i j){id:Nat}:OLe (cR i d id args g) (cR j d id args g):=by
 unfold cR
 split
 ·split
  ·exact .inl rfl
  ·rename_i nt t ps assign body dfr st pend hg o t' ht;rcases h.code nt d (some id) assign t' [] g with e|e<;>rw[e]
   ·exact .inl rfl
   ·split
    ·split
     ·rename_i t1 g1 _ _ nt1 t2 ps2 assign1 body1 dfr1 pend1 _;rcases h.code nt d (some id) body t1 [] (g1.put id (.loop nt1 t2 ps2 assign1 body1 dfr1 .busy pend1)) with e|e<;>rw[e]
      ·exact .inl rfl
      ·exact .inr rfl
     ·exact .inl rfl
    ·exact .inl rfl
 ·exact .inl rfl
theorem Nw{a b:FR}(h:FLe a b):OLe (orF a) (orF b):=by
 rcases h with h|h<;>rw[h]
 ·exact .inl rfl
 ·exact .inr rfl
theorem LR(h:IHLe i j){vs:List AV}:OLe (dj C i d fv vs g) (dj C j d fv vs g):=by
 unfold dj
 split
 ·split
  ·exact .inr rfl
  ·rw[aa,aa]
   split
   ·exact AM h
   ·exact Nw (h.call _ _ _ _)
 ·exact K7 h
 ·exact .inl rfl
theorem Dg{out:T->AV->T}{n m:T->List ADf->G->CR}{a b:OR}(h:OLe a b)(hn:∀t df g,CLe (n t df g) (m t df g)) :
  CLe (pB out n t df g a) (pB out m t df g b):=by
 rcases h with h|h<;>rw[h]
 ·exact .inl rfl
 ·cases b with
  |fail=>exact .inl rfl
  |val v=>exact hn _ _ _
  |upd v g'=>exact hn _ _ _
  |dfr a=>exact hn _ _ _
theorem GN{out:T->AV->T}{n m:T->List ADf->G->List Foot->CR}{fs:List Foot}{lk:Looks}{a b:OR}(h:OLe a b)
  (hn:∀t df g fs,CLe (n t df g fs) (m t df g fs)):CLe (lK out n t df g fs lk a) (lK out m t df g fs lk b):=by
 rcases h with h|h<;>rw[h]
 ·exact .inl rfl
 ·cases b with
  |fail=>exact .inl rfl
  |val v=>exact hn _ _ _ _
  |upd v g'=>exact hn _ _ _ _
  |dfr a=>exact .inl rfl
theorem JK{n m:T->List ADf->G->CR}{a b:CR}(h:CLe a b)(hn:∀t df g,CLe (n t df g) (m t df g)):CLe (Cc n a) (Cc m b):=by
 rcases h with h|h<;>rw[h]
 ·exact .inl rfl
 ·unfold Cc
  split
  ·exact hn _ _ _
  ·exact .inr rfl
theorem J5{id:Nat}{a b:CR}(h:CLe a b):CLe (vq id a) (vq id b):=by
 rcases h with h|h<;>rw[h]
 ·exact .inl rfl
 ·exact .inr rfl
theorem Gq{a b:CR}(h:CLe a b):CLe (nL g a) (nL g b):=by
 rcases h with h|h<;>rw[h]
 ·exact .inl rfl
 ·exact .inr rfl
theorem Q3(h:IHLe i j){x:Stg LB}(hx:cOp C op=some x):OLe (x.run i d rd t g) (x.run j d rd t g):=by
 unfold cOp at hx
 repeat' (first|split at hx|rw[aa]at hx)
 all_goals first
  | (cases hx;done)
  | (injection hx with hx;subst hx;first|exact .inr rfl|exact AM h|exact Nw (h.call _ _ _ _)|exact LR h)
theorem DC(h:IHLe i j):OLe ((bC C op).run i d rd t g) ((bC C op).run j d rd t g):=by
 unfold bC
 split
 ·rename_i x hx;exact Q3 h hx
 ·exact .inl rfl
theorem ww{C:Cfg}(h:IHLe i j){nt:Nat}{all:List Oper}:∀(l:List Oper) (d:Nat) (rd:Option Nat) (t:T) (df:List ADf) (g:G),
  CLe ((jU C nt all l).run i d rd t df g) ((jU C nt all l).run j d rd t df g)
 |[],_,_,_,_,_=>.inr rfl
 | o::rest,d,rd,t,df,g=>by
  unfold jU
  split
  ·split
   ·exact Dg (DC h) λt df g=>ww h rest d rd t df g
   ·split
    ·dsimp only
     split
     ·exact Dg (DC h) λt df g=>ww h rest d rd t df g
     ·exact ww h rest d rd _ df g
     ·exact .inl rfl
    ·exact .inl rfl
  ·exact .inl rfl
theorem zN{C:Cfg}(h:IHLe i j){nt:Nat}{pm:List Nat}{all:List Oper}:∀(l:List Oper) (k d:Nat) (rd:Option Nat) (t:T) (df:List ADf) (g:G) (fs:List Foot),
  CLe ((iZ C nt pm all k l).run i d rd t df g fs) ((iZ C nt pm all k l).run j d rd t df g fs)
 |[],_,_,_,_,_,_,_=>.inr rfl
 | o::rest,k,d,rd,t,df,g,fs=>by
  unfold iZ
  split
  ·dsimp only
   split
   ·exact GN (DC h) λt df g fs=>zN h rest (k+1) d rd t df g fs
   ·exact zN h rest (k+1) d rd _ df g _
   ·exact .inl rfl
  ·exact .inl rfl
theorem G5(h:IHLe i j){ops:List Oper}{draw:Bool} :
  CLe ((gt C nt ops draw).run i d rd t df g) ((gt C nt ops draw).run j d rd t df g):=by
 unfold gt;rw[aa,aa,aa]
 split
 ·split
  ·split
   ·exact Gq (ww h _ _ _ _ _ _)
   ·exact zN h _ _ _ _ _ _ _ _
  ·exact .inl rfl
 ·exact ww h _ _ _ _ _ _
theorem Gs(h:IHLe i j){id:Nat}:CLe (cT i nt d rd id t df g) (cT j nt d rd id t df g):=by
 unfold cT
 split
 ·split
  ·exact .inl rfl
  ·split
   ·exact .inr rfl
   ·exact h.code _ _ _ _ _ _ _
 ·exact .inl rfl
theorem xa(h:IHLe i j) :
  CLe (bK C i nt d rd fv ps assign body t df dfr g) (bK C j nt d rd fv ps assign body t df dfr g):=by
 unfold bK
 split
 ·rename_i f first cap
  rw[aa,aa]
  split
  ·exact .inl rfl
  ·rcases h.call d f (first++(.yld g.nx::cap)) (g.new (.loop nt t ps assign body dfr .ready none)) with e|e<;>rw[e]
   ·exact .inl rfl
   ·split
    ·exact Gs h
    ·exact .inl rfl
 ·exact .inl rfl
theorem K1(h:IHLe i j){fo:T->AV} :
  CLe (nM C nt fo ps assign body i d rd t df g) (nM C nt fo ps assign body j d rd t df g):=by
 unfold nM
 split
 ·split
  ·exact xa h
  ·exact .inl rfl
 ·exact xa h
theorem E1(h:IHLe i j):∀(c:Code) (d:Nat) (rd:Option Nat) (t:T) (df:List ADf) (g:G),
  CLe ((aK C nt c).run i d rd t df g) ((aK C nt c).run j d rd t df g):=by
 intro c
 induction c with
 |seq a b iha ihb=>intro d rd t df g;unfold aK;exact JK (iha _ _ _ _ _) λt df g=>ihb _ _ _ _ _
 | cond q a b iha ihb =>
  intro d rd t df g;unfold aK
  split
  ·dsimp only
   split
   ·rw[aa,aa]
    split
    ·exact iha _ _ _ _ _
    ·exact ihb _ _ _ _ _
   ·exact .inl rfl
  ·exact .inl rfl
 |block id body ih=>intro d rd t df g;unfold aK;exact J5 (ih _ _ _ _ _)
 |loop body ih=>intro d rd t df g;unfold aK;exact JK (ih _ _ _ _ _) λt df g=>h.code _ _ _ _ _ _ _
 |scope body ih=>intro d rd t df g;unfold aK;exact ih _ _ _ _ _
 |region p ops draw=>intro d rd t df g;unfold aK;exact G5 h
 | rangeFunc f ps assign body _ _ =>
  intro d rd t df g;unfold aK
  split
  ·exact K1 h
  ·exact .inl rfl
 |_=>intro d rd t df g;first|exact .inr rfl|exact .inl rfl
def ULe(a b:Option G):Prop:=a=none\/a=b
theorem NY(h:IHLe i j):∀(l:List ADf) (g:G),ULe (fN i d l g) (fN j d l g):=by
 intro l
 induction l with
 |nil=>intro g;exact .inr rfl
 | cons a l ih =>
  intro g;cases a with
  | mark id =>
   simp only[fN]
   split
   ·exact ih _
   ·exact .inl rfl
  | call fv args =>
   cases fv with
   | clo f first cap =>
    simp only[fN];rcases h.call d f (first++(args++cap)) g with e|e<;>rw[e]
    ·exact .inl rfl
    ·split
     ·exact ih _
     ·exact .inl rfl
   |_=>exact .inl rfl
theorem He(h:IHLe i j){res:T->G->Option (List AV)}:FLe (bN i d res t df g) (bN j d res t df g):=by
 unfold bN;rcases NY h (d:=d) df g with e|e<;>rw[e]
 ·exact .inl rfl
 ·exact .inr rfl
theorem E9(h:IHLe i j):FLe (ff C i d f args g) (ff C j d f args g):=by
 unfold ff
 split
 ·rename_i x hx;unfold cFn at hx
  split at hx
  ·cases hx
  rename_i fn b
  split at hx
  ·cases hx
  rename_i c k
  split at hx
  rotate_left
  ·cases hx
  rename_i r a;rw[aa]at hx
  split at hx
  ·cases hx
  injection hx with hx;subst hx;dsimp only;rw[aa,aa]
  split
  ·rcases E1 h (C:=C) (nt:=fn.ntmps) c d none (ba 0 args .nil) [] g with e|e<;>rw[e]
   ·exact .inl rfl
   ·split
    ·exact .inl rfl
    ·exact He h
    ·exact .inl rfl
  ·exact .inl rfl
 ·exact .inl rfl
theorem Lp(h:IHLe i j):IHLe (H_ C i) (H_ C j) :=
 ⟨λnt d rd c t df g=>E1 h c d rd t df g,λd f as g=>E9 h⟩
theorem yD(C:Cfg):∀n,IHLe (sem C n) (sem C (n+1))
 |0=>⟨λ_ _ _ _ _ _ _=>.inl rfl,λ_ _ _ _=>.inl rfl⟩
 |n+1=>Lp (yD C n)
theorem N3(C:Cfg)(h:n<=m):IHLe (sem C n) (sem C m):=by
 induction h with
 |refl=>exact⟨λ_ _ _ _ _ _ _=>.inr rfl,λ_ _ _ _=>.inr rfl⟩
 | @step k h ih =>
  have s:=yD C k;refine⟨λnt d rd c t df g=>?_,λd f as g=>?_⟩
  ·rcases ih.code nt d rd c t df g with e|e
   ·exact .inl e
   ·rw[e];exact s.code _ _ _ _ _ _ _
  ·rcases ih.call d f as g with e|e
   ·exact .inl e
   ·rw[e];exact s.call _ _ _ _
end
section
open Classical in
noncomputable def I(C:Cfg):IH :=
 ⟨λnt d rd c t df g=>if h:∃n,(sem C n).code nt d rd c t df g≠.fail then (sem C (Classical.choose h)).code nt d rd c t df g else .fail,
  λd f as g=>if h:∃n,(sem C n).call d f as g≠.fail then (sem C (Classical.choose h)).call d f as g else .fail⟩
def Ct(C:Cfg){α:Type}(F:IH->α):Prop:=∃n,∀m,n<=m->F (sem C m)=F (I C)
variable {C:Cfg}
theorem Ct.const{α:Type}(a:α):Ct C (λ_=>a):=⟨0,λ_ _=>rfl⟩
theorem Ct.bind{α β:Type}{F:IH->α}{K:IH->α->β}(h:Ct C F)(hk:Ct C λj=>K j (F (I C))):Ct C λj=>K j (F j):=by obtain⟨n,h⟩:=h;obtain⟨m,hk⟩:=hk;refine⟨max n m,λk hm=>?_⟩;have h1:=h k (by omega);have h2:=hk k (by omega);simp only[h1];exact h2
theorem Ct.map{α β:Type}{F:IH->α}(K:α->β)(h:Ct C F):Ct C λj=>K (F j):=Ct.bind (K:=λ_=>K) h (.const _)
theorem Ct.code(nt d:Nat)(rd:Option Nat)(c:Code)(t:T)(df:List ADf)(g:G):Ct C λj=>j.code nt d rd c t df g:=by
 by_cases h:∃n,(sem C n).code nt d rd c t df g≠.fail
 ·refine⟨Classical.choose h,λm hm=>?_⟩;have hs:=Classical.choose_spec h;have e:(I C).code nt d rd c t df g=(sem C (Classical.choose h)).code nt d rd c t df g:=dif_pos h;show _=(I C).code nt d rd c t df g;rw[e];rcases (N3 C hm).code nt d rd c t df g with q|q
  ·exact absurd q hs
  ·exact q.symm
 ·refine⟨0,λm _=>?_⟩;have e:(I C).code nt d rd c t df g=.fail:=dif_neg h;show _=(I C).code nt d rd c t df g;rw[e];exact Vt λq=>h ⟨m,q⟩
theorem Ct.call(d f:Nat)(as:List AV)(g:G):Ct C λj=>j.call d f as g:=by
 by_cases h:∃n,(sem C n).call d f as g≠.fail
 ·refine⟨Classical.choose h,λm hm=>?_⟩;have hs:=Classical.choose_spec h;have e:(I C).call d f as g=(sem C (Classical.choose h)).call d f as g:=dif_pos h;show _=(I C).call d f as g;rw[e];rcases (N3 C hm).call d f as g with q|q
  ·exact absurd q hs
  ·exact q.symm
 ·refine⟨0,λm _=>?_⟩;have e:(I C).call d f as g=.fail:=dif_neg h;show _=(I C).call d f as g;rw[e];exact Vt λq=>h ⟨m,q⟩
theorem vC:Ct C λj=>ac j d g f args:=by
 unfold ac
 split
 ·exact .const _
 ·rename_i as _;obtain⟨n,h⟩:=Ct.call (C:=C) (Nat.succ d) f as G.empty;exact⟨n,λm hm=>by
   have e:(sem C m).call (Nat.succ d) f as G.empty=(I C).call (Nat.succ d) f as G.empty:=h m hm;simp only[e]⟩
theorem Ke{id:Nat}:Ct C λj=>cR j d id args g:=by
 unfold cR
 split
 ·split
  ·exact .const _
  ·rename_i nt t ps assign body dfr st pend hg o t' ht;refine Ct.bind (K:=λj r=>match r with
    | .ok .norm t1 [] g1=>match g1.get id with
     | .loop nt1 t ps assign1 body1 dfr .ready pend =>
      match j.code nt d (some id) body t1 [] (g1.put id (.loop nt1 t ps assign1 body1 dfr .busy pend)) with
      | .ok e _ [] g2=>match g2.get id with
       | .loop nt t ps assign body dfr _ _=>match e with
        |.norm=>OR.upd (.bool true) (g2.put id (.loop nt t ps assign body dfr .ready none))
        |.exit j=>.upd (.bool false) (g2.put id (.loop nt t ps assign body dfr .done (some (.exit j))))
        |.ret=>.upd (.bool false) (g2.put id (.loop nt t ps assign body dfr .done (some .ret)))
       |_=>.fail
      |_=>.fail
     |_=>.fail
    |_=>.fail) (Ct.code nt d (some id) assign t' [] g) ?_
   split
   ·split
    ·rename_i t1 g1 _ _ nt1 t2 ps2 assign1 body1 dfr1 pend1 _;exact Ct.map (λr=>match r with
      | .ok e _ [] g2=>match g2.get id with
       | .loop nt t ps assign body dfr _ _=>match e with
        |.norm=>OR.upd (.bool true) (g2.put id (.loop nt t ps assign body dfr .ready none))
        |.exit j=>.upd (.bool false) (g2.put id (.loop nt t ps assign body dfr .done (some (.exit j))))
        |.ret=>.upd (.bool false) (g2.put id (.loop nt t ps assign body dfr .done (some .ret)))
       |_=>.fail
      |_=>.fail) (Ct.code nt d (some id) body t1 [] (g1.put id (.loop nt1 t2 ps2 assign1 body1 dfr1 .busy pend1)))
    ·exact .const _
   ·exact .const _
 ·exact .const _
theorem L4{vs:List AV}:Ct C λj=>dj C j d fv vs g:=by
 unfold dj
 split
 ·split
  ·exact .const _
  ·simp only[aa]
   split
   ·exact vC
   ·exact Ct.map orF (Ct.call _ _ _ _)
 ·exact Ke
 ·exact .const _
theorem Q6{x:Stg LB}(hx:cOp C op=some x):Ct C λj=>x.run j d rd t g:=by
 unfold cOp at hx
 repeat' (first|split at hx|rw[aa]at hx)
 all_goals first
  | (cases hx;done)
  | (injection hx with hx;subst hx;first|exact Ct.const _|exact vC|exact Ct.map orF (Ct.call _ _ _ _)|exact L4)
theorem DH:Ct C λj=>(bC C op).run j d rd t g:=by
 unfold bC
 split
 ·rename_i x hx;exact Q6 hx
 ·exact .const _
theorem Cx{out:T->AV->T}{n:IH->T->List ADf->G->CR}{a:IH->OR}(h:Ct C a)(hn:∀t df g,Ct C λj=>n j t df g) :
  Ct C λj=>pB out (n j) t df g (a j):=by
 refine Ct.bind (K:=λj r=>pB out (n j) t df g r) h ?_;cases a (I C) with
 |fail=>exact .const _
 |val v=>exact hn _ _ _
 |upd v g'=>exact hn _ _ _
 |dfr a=>exact hn _ _ _
theorem Ff{out:T->AV->T}{n:IH->T->List ADf->G->List Foot->CR}{fs:List Foot}{lk:Looks}{a:IH->OR}(h:Ct C a)
  (hn:∀t df g fs,Ct C λj=>n j t df g fs):Ct C λj=>lK out (n j) t df g fs lk (a j):=by
 refine Ct.bind (K:=λj r=>lK out (n j) t df g fs lk r) h ?_;cases a (I C) with
 |fail=>exact .const _
 |val v=>exact hn _ _ _ _
 |upd v g'=>exact hn _ _ _ _
 |dfr a=>exact .const _
theorem IB{n:IH->T->List ADf->G->CR}{a:IH->CR}(h:Ct C a)(hn:∀t df g,Ct C λj=>n j t df g):Ct C λj=>Cc (n j) (a j):=by
 refine Ct.bind (K:=λj r=>Cc (n j) r) h ?_;unfold Cc
 split
 ·exact hn _ _ _
 ·exact .const _
theorem wA{nt:Nat}{all:List Oper}:∀(l:List Oper) (d:Nat) (rd:Option Nat) (t:T) (df:List ADf) (g:G),Ct C λj=>(jU C nt all l).run j d rd t df g
 |[],_,_,_,_,_=>.const _
 | o::rest,d,rd,t,df,g=>by
  unfold jU
  split
  ·split
   ·exact Cx DH λt df g=>wA rest d rd t df g
   ·split
    ·dsimp only
     split
     ·exact Cx DH λt df g=>wA rest d rd t df g
     ·exact wA rest d rd _ df g
     ·exact .const _
    ·exact .const _
  ·exact .const _
theorem Ad{nt:Nat}{pm:List Nat}{all:List Oper}:∀(l:List Oper) (k d:Nat) (rd:Option Nat) (t:T) (df:List ADf) (g:G) (fs:List Foot),
  Ct C λj=>(iZ C nt pm all k l).run j d rd t df g fs
 |[],_,_,_,_,_,_,_=>.const _
 | o::rest,k,d,rd,t,df,g,fs=>by
  unfold iZ
  split
  ·dsimp only
   split
   ·exact Ff DH λt df g fs=>Ad rest (k+1) d rd t df g fs
   ·exact Ad rest (k+1) d rd _ df g _
   ·exact .const _
  ·exact .const _
theorem G9{ops:List Oper}{draw:Bool}:Ct C λj=>(gt C nt ops draw).run j d rd t df g:=by
 unfold gt;simp only[aa]
 split
 ·split
  ·split
   ·exact Ct.map (nL g) (wA _ _ _ _ _ _)
   ·exact Ad _ _ _ _ _ _ _ _
  ·exact .const _
 ·exact wA _ _ _ _ _ _
theorem Fe{id:Nat}:Ct C λj=>cT j nt d rd id t df g:=by
 unfold cT
 split
 ·split
  ·exact .const _
  ·split
   ·exact .const _
   ·exact Ct.code _ _ _ _ _ _ _
 ·exact .const _
theorem wB :
  Ct C λj=>bK C j nt d rd fv ps assign body t df dfr g:=by
 unfold bK
 split
 ·rename_i f first cap
  simp only[aa]
  split
  ·exact .const _
  ·refine Ct.bind (K:=λj r=>match r with|.ok _ g2=>cT j nt d rd g.nx t df g2|.fail=>.fail) (Ct.call d f (first++(.yld g.nx::cap)) (g.new (.loop nt t ps assign body dfr .ready none))) ?_
   split
   ·exact Fe
   ·exact .const _
 ·exact .const _
theorem Kd{fo:T->AV}:Ct C λj=>nM C nt fo ps assign body j d rd t df g:=by
 unfold nM
 split
 ·split
  ·exact wB
  ·exact .const _
 ·exact wB
theorem Fc:∀(c:Code) (d:Nat) (rd:Option Nat) (t:T) (df:List ADf) (g:G),Ct C λj=>(aK C nt c).run j d rd t df g:=by
 intro c
 induction c with
 |seq a b iha ihb=>intro d rd t df g;unfold aK;exact IB (iha _ _ _ _ _) λt df g=>ihb _ _ _ _ _
 | cond q a b iha ihb =>
  intro d rd t df g;unfold aK
  split
  ·dsimp only
   split
   ·simp only[aa]
    split
    ·exact iha _ _ _ _ _
    ·exact ihb _ _ _ _ _
   ·exact .const _
  ·exact .const _
 |block id body ih=>intro d rd t df g;unfold aK;exact Ct.map (vq id) (ih _ _ _ _ _)
 |loop body ih=>intro d rd t df g;unfold aK;exact IB (ih _ _ _ _ _) λt df g=>Ct.code _ _ _ _ _ _ _
 |scope body ih=>intro d rd t df g;unfold aK;exact ih _ _ _ _ _
 |region p ops draw=>intro d rd t df g;unfold aK;exact G9
 | rangeFunc f ps assign body _ _ =>
  intro d rd t df g;unfold aK
  split
  ·exact Kd
  ·exact .const _
 |_=>intro d rd t df g;exact .const _
theorem L5:∀(l:List ADf) (g:G),Ct C λj=>fN j d l g:=by
 intro l
 induction l with
 |nil=>intro g;exact .const _
 | cons a l ih =>
  intro g;cases a with
  | mark id =>
   simp only[fN]
   split
   ·exact ih _
   ·exact .const _
  | call fv args =>
   cases fv with
   | clo f first cap =>
    simp only[fN];refine Ct.bind (K:=λj r=>match r with|.ok _ g'=>fN j d l g'|.fail=>none) (Ct.call d f (first++(args++cap)) g) ?_
    split
    ·exact ih _
    ·exact .const _
   |_=>exact .const _
theorem G_{res:T->G->Option (List AV)}:Ct C λj=>bN j d res t df g:=by unfold bN;exact Ct.map (λr=>match r with|none=>FR.fail|some g'=>match res t g' with|some vs=>.ok (jv vs) g'|none=>.fail) (L5 df g)
theorem Fd:Ct C λj=>ff C j d f args g:=by
 unfold ff
 split
 ·rename_i x hx;unfold cFn at hx
  split at hx
  ·cases hx
  rename_i fn a
  split at hx
  ·cases hx
  rename_i c h
  split at hx
  rotate_left
  ·cases hx
  rename_i r k;rw[aa]at hx
  split at hx
  ·cases hx
  injection hx with hx;subst hx;dsimp only;simp only[aa]
  split
  ·refine Ct.bind (K:=λj q=>match q with|.ok (.exit _) _ _ _=>FR.fail|.ok _ t df g'=>bN j d r.run t df g'|.fail=>.fail) (Fc c d none (ba 0 args .nil) [] g) ?_
   split
   ·exact .const _
   ·exact G_
   ·exact .const _
  ·exact .const _
 ·exact .const _
theorem Dm(nt d:Nat)(rd:Option Nat)(c:Code)(t:T)(df:List ADf)(g:G):(I C).code nt d rd c t df g=(aK C nt c).run (I C) d rd t df g:=by obtain⟨n,h⟩:=Fc (C:=C) (nt:=nt) c d rd t df g;obtain⟨m,h'⟩:=Ct.code (C:=C) nt d rd c t df g;have h1:=h (max n m) (by omega);have h2:=h' (max n m+1) (by omega);exact h2.symm.trans h1
theorem QU(d f:Nat)(as:List AV)(g:G):(I C).call d f as g=ff C (I C) d f as g:=by obtain⟨n,h⟩:=Fd (C:=C) (d:=d) (f:=f) (args:=as) (g:=g);obtain⟨m,h'⟩:=Ct.call (C:=C) d f as g;have h1:=h (max n m) (by omega);have h2:=h' (max n m+1) (by omega);exact h2.symm.trans h1
theorem LA{as:List AV}(h:(I C).call d f as g=.ok v g'):∃n,(sem C n).call d f as g=.ok v g':=by obtain⟨m,h'⟩:=Ct.call (C:=C) d f as g;exact⟨m,by rw[<-h];exact h' m (Ui m)⟩
end
def tat(t:T)(n:Nat):AV:=Tr.get AV.undef t n
def fe(t:T)(n:Nat)(v:AV):T:=(sp AV.undef n).run t v
inductive Od where
 |t (n:Nat)
 |k (v:AV)
def Od.get(t:T):Od->AV
 |.t n=>tat t n
 |.k v=>v
def eH(t:T):List Od->List AV
 |[]=>[]
 |o::os=>o.get t::eH t os
def Js(c a b:AV):OR:=match c with|.bool q=>ak q (.val a) (.val b)|_=>.fail
def EX(x:AV)(g:G):OR:=ak x.isTup .fail (.upd (.hptr g.nx 0 0 0) (g.new (Xs (bi x.cells) [x.cells])))
def vy(zero:List AV)(pl:List (Nat×Nat))(vs:List AV):OR :=
 match eF zero (pl.zip vs) with|some cs=>.val (.agg cs)|none=>.fail
def ON(sz len:Nat)(zero:List AV)(is:List Nat)(vs:List AV)(g:G):OR :=
 match gY sz (ib len zero) (is.zip vs) with
 |some rows=>.upd (.hsl g.nx 0 0 len none) (g.new (Xs sz rows))
 |none=>.fail
def qh(ag:Bool)(n:Nat)(p:AV)(g:G):OR:=nH ag n (λ_=>p) .nil g
def nO(n:Nat)(p x:AV)(g:G):OR:=pz n (λ_=>p) (λ_=>x) .nil g
def Nr(x:AV):OR:=match x with
 |.tptr l sz rows i off=>.val (.tptr l sz rows i off)
 |.hptr id ep i off=>.val (.hptr id ep i off)
 |.clo f a c=>.val (.clo f a c)
 |.yld id=>.val (.yld id)
 |_=>.fail
def bB(op:BinOp)(x y:AV):OR:=match x,y with|.int k a,.int k' b=>orV ((gf op).run k a k' b)|_,_=>.fail
def jZ(neg:Bool)(ek:EqKind)(x y:AV):OR:=match eqA ek x y with|some b=>.val (.bool (ak neg (ju b) b))|none=>.fail
def Pu(x:AV):OR:=match x with|.bool b=>.val (.bool (ju b))|_=>.fail
def unV(op:UnOp)(x:AV):OR:=match x with|.int k n=>orV (tS (Op.unary op (.int k n)))|_=>.fail
def Fb(k:IntKind)(x:AV):OR:=match x with|.int _ n=>.val (.int k (t_ k n))|_=>.fail
def HF(sz bytes:Nat)(zero:List AV)(l c:AV)(g:G):OR:=it sz bytes zero (λ_=>l) (λ_=>c) .nil g
def H6(sz:Nat)(x:AV)(lo hi:Option AV)(g:G):OR:=orV (rh sz x lo hi none g.h)
def R_(n sz:Nat)(x:AV)(lo hi:Option AV)(g:G):OR:=iU n sz (λ_=>x) (λ_=>lo) (λ_=>hi) .nil g
def Mk(fo:Nat)(x:AV):OR:=match x with
 |.tptr l sz rows i off=>.val (.tptr l sz rows i (off+fo))
 |.hptr id ep i off=>.val (.hptr id ep i (off+fo))
 |_=>.fail
def Rf(ag:Bool)(n fo:Nat)(x:AV):OR:=match x with|.agg cs=>orV (ch ag n cs fo)|_=>.fail
def FU(sz:Nat)(x i:AV)(g:G):OR:=gZ sz (λ_=>x) (λ_=>i) .nil g
def AO(n sz:Nat)(x i:AV):OR:=nG n sz (λ_=>x) (λ_=>i) .nil G.empty
def ixV(ag:Bool)(n sz:Nat)(x i:AV):OR:=vT ag n sz (λ_=>x) (λ_=>i) .nil G.empty
def Hh(x:AV)(i:Nat):OR:=match x with|.tup vs=>orV (xV i vs)|_=>.fail
def mxV(x y:AV):OR:=match x with
 |.int k m=>match y with|.int k' n=>ak (cZ k k') (.val (.int k (ak (yZ m n) n m))) .fail|_=>.fail
 |_=>.fail
def mnV(x y:AV):OR:=match x with
 |.int k m=>match y with|.int k' n=>ak (cZ k k') (.val (.int k (ak (yZ n m) n m))) .fail|_=>.fail
 |_=>.fail
def ae(C:Cfg)(d f:Nat)(as:List AV)(g:G):OR :=
 match C.ext f with
 |some e=>e d as g
 |none=>ak (C.iso f) (ac (I C) d g f as) (orF ((I C).call d f as g))
inductive SO where
 |mv (x:Od)
 |pick (c a b:Od)
 |alloc (cs:List AV)
 |box (x:Od)
 |build (zero:List AV) (pl:List (Nat×Nat)) (vs:List Od)
 |bsl (sz len:Nat) (zero:List AV) (is:List Nat) (vs:List Od)
 |load (ag:Bool) (n:Nat) (a:Od)
 |store (n:Nat) (a x:Od)
 |nilc (x:Od)
 |bin (op:BinOp) (x y:Od)
 |eq (neg:Bool) (ek:EqKind) (x y:Od)
 |not (x:Od)
 |un (op:UnOp) (x:Od)
 |conv (k:IntKind) (x:Od)
 |mkf (f:Nat) (a c:List Od)
 |mks (sz bytes:Nat) (zero:List AV) (l c:Od)
 |slc (sz:Nat) (x:Od) (lo hi:List Od)
 |sla (n sz:Nat) (x:Od) (lo hi:List Od)
 |fad (fo:Nat) (x:Od)
 |fld (ag:Bool) (n fo:Nat) (x:Od)
 |ixs (sz:Nat) (x i:Od)
 |ixa (n sz:Nat) (x i:Od)
 |ix (ag:Bool) (n sz:Nat) (x i:Od)
 |ext (x:Od) (i:Nat)
 |len (lk:LenKind) (x:Od)
 |app (sz bytes:Nat) (x y:Od)
 |cpy (sz:Nat) (x y:Od)
 |mx (x y:Od)
 |mn (x y:Od)
 |call (f:Nat) (as:List Od)
 |dyn (f:Od) (as:List Od)
 |raw (op:Op)
def SO.run(C:Cfg)(d:Nat)(rd:Option Nat)(t:T)(g:G):SO->OR
 |.mv x=>.val (x.get t)
 |.pick c a b=>Js (c.get t) (a.get t) (b.get t)
 |.alloc cs=>.upd (.hptr g.nx 0 0 0) (g.new (Xs (bi cs) [cs]))
 |.box x=>EX (x.get t) g
 |.build zero pl vs=>vy zero pl (eH t vs)
 |.bsl sz n zero is vs=>ON sz n zero is (eH t vs) g
 |.load ag n a=>qh ag n (a.get t) g
 |.store n a x=>nO n (a.get t) (x.get t) g
 |.nilc x=>Nr (x.get t)
 |.bin op x y=>bB op (x.get t) (y.get t)
 |.eq neg ek x y=>jZ neg ek (x.get t) (y.get t)
 |.not x=>Pu (x.get t)
 |.un op x=>unV op (x.get t)
 |.conv k x=>Fb k (x.get t)
 |.mkf f a c=>.val (.clo f (eH t a) (eH t c))
 |.mks sz bytes zero l c=>HF sz bytes zero (l.get t) (c.get t) g
 |.slc sz x lo hi=>H6 sz (x.get t) (eH t lo).head? (eH t hi).head? g
 |.sla n sz x lo hi=>R_ n sz (x.get t) (eH t lo).head? (eH t hi).head? g
 |.fad fo x=>Mk fo (x.get t)
 |.fld ag n fo x=>Rf ag n fo (x.get t)
 |.ixs sz x i=>FU sz (x.get t) (i.get t) g
 |.ixa n sz x i=>AO n sz (x.get t) (i.get t)
 |.ix ag n sz x i=>ixV ag n sz (x.get t) (i.get t)
 |.ext x i=>Hh (x.get t) i
 |.len lk x=>jC lk (x.get t) g
 |.app sz bytes x y=>eS sz bytes (x.get t) (y.get t) g
 |.cpy sz x y=>Cw sz (x.get t) (y.get t) g
 |.mx x y=>mxV (x.get t) (y.get t)
 |.mn x y=>mnV (x.get t) (y.get t)
 |.call f as=>ae C d f (eH t as) g
 |.dyn f as=>dj C (I C) d (f.get t) (eH t as) g
 |.raw op=>(bC C op).run (I C) d rd t g
def nOd(C:Cfg):Operand->Option Od
 |.tmp n=>some (.t n)
 |.const v=>match ofV v with|some a=>some (.k a)|none=>none
 |.global g=>match C.glob g with|some (sz,rows)=>some (.k (.tptr 0 sz rows 0 0))|none=>none
 |.func f=>some (.k (.clo f [] []))
def lH(C:Cfg):List Operand->Option (List Od)
 |[]=>some []
 | x::xs=>match nOd C x,lH C xs with
  |some a,some as=>some (a::as)
  |_,_=>none
theorem aM{x:Operand}{o:Od}(h:nOd C x=some o):∃s,aP C x=some s/\∀t,s.run t=o.get t:=by
 unfold nOd at h
 split at h
 ·injection h with h;subst h;exact⟨_,rfl,λt=>gp_run _ _ _⟩
 ·split at h
  ·rename_i a ha;injection h with h;subst h;exact⟨⟨λ_=>a⟩,by simp only[aP,ha],λt=>rfl⟩
  ·cases h
 ·split at h
  ·rename_i sz rows ha;injection h with h;subst h;exact⟨⟨λ_=>.tptr 0 sz rows 0 0⟩,by simp only[aP,ha],λt=>rfl⟩
  ·cases h
 ·injection h with h;subst h;exact⟨_,rfl,λt=>rfl⟩
theorem cN{C:Cfg}:∀{xs:List Operand} {os:List Od},lH C xs=some os->∃s,bV C xs=some s/\∀t,s.run t=eH t os
 |[],os,h=>by injection h with h;subst h;exact⟨_,rfl,λt=>rfl⟩
 | x::xs,os,h=>by
  unfold lH at h
  split at h
  ·rename_i a as ha k;injection h with h;subst h;obtain⟨s,h1,h2⟩:=aM ha;obtain⟨ss,b,h4⟩:=cN k;exact⟨⟨λt=>s.run t::ss.run t⟩,by simp only[bV,h1,b],λt=>by simp only[h2,h4,eH]⟩
  ·cases h
def Eh(C:Cfg)(op:Op):SO :=
 match op with
 |.move x|.assign x=>match nOd C x with|some a=>.mv a|none=>.raw op
 | .pick c a b=>match nOd C c,nOd C a,nOd C b with
  |some c,some a,some b=>.pick c a b
  |_,_,_=>.raw op
 | .alloc ty=>match gm C.P ty with
  |some cs=>.alloc cs
  |none=>.raw op
 | .box _ x=>match nOd C x with
  |some a=>.box a
  |none=>.raw op
 | .build ty parts=>match gm C.P ty,lH C (parts.toList.map (·.2)) with
  | some zero,some vs =>
   match C.P.underlying ty with
   | some (.struct fs)=>match aD (λf:Field=>match szT C.P f.type with| some n=>some (f.offset,n)| none=>none) fs.toList with
    | some places=>match aD (λi=>places[i]?) (parts.toList.map (·.1)) with
     |some pl=>.build zero pl vs
     |none=>.raw op
    |none=>.raw op
   | some (.array _ e)=>match szT C.P e with
    |some n=>.build zero ((parts.toList.map (·.1)).map λi=>(i*n,n)) vs
    |none=>.raw op
   |_=>.raw op
  |_,_=>.raw op
 | .buildSlice ty len parts=>match me C.P ty,lH C (parts.toList.map (·.2)) with
  | some e,some vs=>match szT C.P e,gm C.P e with
   | some sz,some zero=>ak (Nat.beq (bi zero) sz&&Nat.blt 0 sz&&Nat.ble (len*sz) 1048576)
    (.bsl sz len zero (parts.toList.map (·.1)) vs) (.raw op)
   |_,_=>.raw op
  |_,_=>.raw op
 | .load ty a=>match nOd C a,rY C.P ty,szT C.P ty with
  |some a,some ag,some n=>.load ag n a
  |_,_,_=>.raw op
 | .store ty a x=>match nOd C a,nOd C x,szT C.P ty with
  |some a,some x,some n=>.store n a x
  |_,_,_=>.raw op
 | .nilCheck x=>match nOd C x with
  |some a=>.nilc a
  |none=>.raw op
 | .binOp b ty x y _=>match nOd C x,nOd C y with
  | some x,some y=>match b with
   | .eql=>match qA C.P ty with
    |.other=>.bin b x y
    |ek=>.eq false ek x y
   | .neq=>match qA C.P ty with
    |.other=>.bin b x y
    |ek=>.eq true ek x y
   |b=>.bin b x y
  |_,_=>.raw op
 | .unOp u _ x=>match nOd C x with
  | some x=>match u with
   |.not=>.not x
   |u=>.un u x
  |none=>.raw op
 | .convert src dst x=>match nOd C x,C.P.underlying src,C.P.underlying dst with
  |some x,some _,some (.int k)=>.conv k x
  |_,_,_=>.raw op
 | .makeFunc (.func f) first captured=>match lH C first.toList,lH C captured.toList with
  |some a,some c=>.mkf f a c
  |_,_=>.raw op
 | .makeSlice ty l c=>match me C.P ty,nOd C l,nOd C c with
  | some e,some l,some c=>match szT C.P e,jS C.P e,gm C.P e with
   |some sz,some bytes,some zero=>ak (Nat.beq (bi zero) sz&&Nat.blt 0 sz) (.mks sz bytes zero l c) (.raw op)
   |_,_,_=>.raw op
  |_,_,_=>.raw op
 | .slice ty x lo hi none=>match C.P.underlying ty,nOd C x,lH C lo.toList,lH C hi.toList with
  | some (.slice e),some x,some l,some h=>match szT C.P e with
   |some sz=>.slc sz x l h
   |none=>.raw op
  | some (.array n e),some x,some l,some h=>match szT C.P e with
   |some (sz+1)=>.sla n (sz+1) x l h
   |_=>.raw op
  |_,_,_,_=>.raw op
 | .fieldAddr ty x f=>match nOd C x,tw C.P ty f with
  | some a,some (fo,ft)=>match szT C.P ft with
   |some (_+1)=>.fad fo a
   |_=>.raw op
  |_,_=>.raw op
 | .field ty x f=>match nOd C x,tw C.P ty f with
  | some a,some (fo,ft)=>match rY C.P ft,szT C.P ft with
   |some ag,some n=>.fld ag n fo a
   |_,_=>.raw op
  |_,_=>.raw op
 | .indexAddr ty x ix=>match nOd C x,nOd C ix with
  | some a,some i=>match C.P.underlying ty with
   | some (.slice e)=>match szT C.P e with
    |some sz=>.ixs sz a i
    |none=>.raw op
   | some (.array n e)=>match szT C.P e with
    |some sz=>.ixa n sz a i
    |none=>.raw op
   |_=>.raw op
  |_,_=>.raw op
 | .index ty x ix=>match nOd C x,nOd C ix with
  | some a,some i=>match C.P.underlying ty with
   | some (.array n e)=>match rY C.P e,szT C.P e with
    |some ag,some sz=>.ix ag n sz a i
    |_,_=>.raw op
   |_=>.raw op
  |_,_=>.raw op
 | .extract x i=>match nOd C x with
  |some a=>.ext a i
  |none=>.raw op
 |op=>.raw op
def nOp(C:Cfg)(op:Op):SO :=
 match op with
 | .call { callee:=.value (.func f),args,.. }=>match lH C args.toList with
  |some vs=>.call f vs
  |none=>.raw op
 | .call { callee:=.value fo,args,.. }=>match nOd C fo,lH C args.toList with
  |some f,some vs=>.dyn f vs
  |_,_=>.raw op
 | .call { callee:=.builtin b,args,argTypes }=>match b,lH C args.toList with
  | .len,some [x]=>match argTypes[0]? with
   |some t=>.len (mF C.P t) x
   |none=>.raw op
  | .append,some [a,x]=>match argTypes[0]?,argTypes[1]? with
   | some t,some xt=>match me C.P t,C.P.underlying xt with
    | some e,some (.slice _)=>match szT C.P e,jS C.P e,gm C.P e with
     |some sz,some bytes,some zero=>ak (Nat.beq (bi zero) sz&&Nat.blt 0 sz&&Nat.blt 0 bytes) (.app sz bytes a x) (.raw op)
     |_,_,_=>.raw op
    |_,_=>.raw op
   |_,_=>.raw op
  | .copy,some [a,x]=>match argTypes[0]? with
   | some t=>match me C.P t with
    | some e=>match szT C.P e with
     |some sz=>.cpy sz a x
     |none=>.raw op
    |none=>.raw op
   |none=>.raw op
  |.max,some [x,y]=>.mx x y
  |.min,some [x,y]=>.mn x y
  |_,_=>.raw op
 |op=>Eh C op
theorem bI{s:Stg SFn}(h1:cOp C op=match cm C op with|some s=>some ⟨λ_ _ _ t g=>s.run t g⟩|none=>none)(h:cm C op=some s)
  {ih:IH}    :(bC C op).run ih d rd t g=s.run t g:=by
 unfold bC;rw[h1,h]
theorem Pp(h1:cOp C op=match cm C op with|some s=>some ⟨λ_ _ _ t g=>s.run t g⟩|none=>none) :
  (Eh C op).run C d rd t g=(bC C op).run (I C) d rd t g:=by
 unfold Eh
 split
 case h_1 x =>
  split
  ·rename_i a ha;obtain⟨s,hs,he⟩:=aM ha;rw[bI h1 (by simp only[cm,hs];rfl)];simp only[SO.run,he]<;>rfl
  ·rfl
 case h_2 x =>
  split
  ·rename_i a ha;obtain⟨s,hs,he⟩:=aM ha;rw[bI h1 (by simp only[cm,hs];rfl)];simp only[SO.run,he]<;>rfl
  ·rfl
 case h_3 c a b =>
  split
  ·rename_i c a b hc ha hb;obtain⟨K,q1,e1⟩:=aM hc;obtain⟨p,q2,D⟩:=aM ha;obtain⟨B,q3,E⟩:=aM hb;rw[bI h1 (by simp only[cm,q1,q2,q3];rfl)];simp only[SO.run,e1,D,E,Js]<;>rfl
  ·rfl
 case h_4 ty =>
  split
  ·rename_i cs hz;rw[bI h1 (by simp only[cm,hz];rfl)];rfl
  ·rfl
 case h_5 ty x =>
  split
  ·rename_i a ha;obtain⟨s,hs,he⟩:=aM ha;rw[bI h1 (by simp only[cm,hs];rfl)];simp only[SO.run,EX,LJ,he]<;>rfl
  ·rfl
 case h_6 ty parts =>
  split
  ·rename_i zero vs hz z;obtain⟨s,hs,he⟩:=cN z
   split
   ·rename_i fs hu
    split
    ·rename_i places hp
     split
     ·rename_i pl w;have v:cm C (.build ty parts)=some ⟨oG zero pl s.run⟩:=by
       simp only[cm,hz,hs,hu]
       split
       ·rename_i p' h';have:some places=some p':=hp.symm.trans h';injection this with this;subst this;rw[w]
       ·rename_i h';have:some places=none:=hp.symm.trans h';cases this
      rw[bI h1 v];simp only[SO.run,vy,oG,he]<;>rfl
     ·rfl
    ·rfl
   ·rename_i n e hu
    split
    ·rename_i n A;rw[bI h1 (by simp only[cm,hz,hs,hu,A];rfl)];simp only[SO.run,vy,oG,he]<;>rfl
    ·rfl
   ·rfl
  ·rfl
 case h_7 ty len parts =>
  split
  ·rename_i e vs hz z;obtain⟨s,hs,he⟩:=cN z
   split
   ·rename_i sz zero h2 o;rw[aa]
    split
    ·rename_i hc;rw[bI h1 (by simp only[cm,hz,hs,h2,o,hc];rfl)];simp only[SO.run,ON,iz,he]<;>rfl
    ·rfl
   ·rfl
  ·rfl
 case h_8 ty a =>
  split
  ·rename_i a ag n ha h2 o;obtain⟨s,hs,he⟩:=aM ha;rw[bI h1 (by simp only[cm,hs,h2,o];rfl)];simp only[SO.run,qh,nH,he]<;>rfl
  ·rfl
 case h_9 ty a x =>
  split
  ·rename_i a x n ha hx o;obtain⟨s,hs,he⟩:=aM ha;obtain⟨p,m,j⟩:=aM hx;rw[bI h1 (by simp only[cm,hs,m,o];rfl)];simp only[SO.run,nO,pz,he,j]<;>rfl
  ·rfl
 case h_10 x =>
  split
  ·rename_i a ha;obtain⟨s,hs,he⟩:=aM ha;rw[bI h1 (by simp only[cm,hs];rfl)];simp only[SO.run,Nr,he]<;>rfl
  ·rfl
 case h_11 b ty x y yt =>
  split
  ·rename_i x y hx J;obtain⟨s,hs,he⟩:=aM hx;obtain⟨p,m,j⟩:=aM J;rw[bI h1 (by simp only[cm,hs,m];rfl)];simp only[he,j]
   split
   ·split
    ·rename_i hk;simp only[zH,hk];rfl
    ·rename_i ek hk;simp only[SO.run,jZ,zH]<;>rfl
   ·split
    ·rename_i hk;simp only[zH,hk];rfl
    ·rename_i ek hk;simp only[SO.run,jZ,zH]<;>rfl
   ·rename_i F H;simp only[SO.run,zH,bB]<;>rfl
  ·rfl
 case h_12 u ty x =>
  split
  ·rename_i a ha;obtain⟨s,hs,he⟩:=aM ha;rw[bI h1 (by simp only[cm,hs];rfl)]
   split
   ·simp only[SO.run,Pu,unA,he]<;>rfl
   ·rename_i A;simp only[SO.run,unV,unA,he]<;>rfl
  ·rfl
 case h_13 src dst x =>
  split
  ·rename_i a ty k ha h2 o;obtain⟨s,hs,he⟩:=aM ha;rw[bI h1 (by simp only[cm,hs,h2,o];rfl)];simp only[SO.run,Fb,he]<;>rfl
  ·rfl
 case h_14 f first captured =>
  split
  ·rename_i a c ha hc;obtain⟨s,hs,he⟩:=cN ha;obtain⟨p,m,j⟩:=cN hc;rw[bI h1 (by simp only[cm,hs,m];rfl)];simp only[SO.run,he,j]<;>rfl
  ·rfl
 case h_15 ty l c =>
  split
  ·rename_i e l c h0 hl hc;obtain⟨s,hs,he⟩:=aM hl;obtain⟨p,m,j⟩:=aM hc
   split
   ·rename_i sz bytes zero h2 o h4;rw[aa]
    split
    ·rename_i hc;rw[bI h1 (by simp only[cm,h0,hs,m,h2,o,h4,hc];rfl)];simp only[SO.run,HF,it,he,j]<;>rfl
    ·rfl
   ·rfl
  ·rfl
 case h_16 ty x lo hi =>
  split
  ·rename_i e x l h h0 hx hl v;obtain⟨s,hs,he⟩:=aM hx;obtain⟨p,m,j⟩:=cN hl;obtain⟨B,r,q⟩:=cN v
   split
   ·rename_i sz h2;rw[bI h1 (by simp only[cm,h0,hs,m,r,h2];rfl)];simp only[SO.run,H6,he,j,q]<;>rfl
   ·rfl
  ·rename_i n e x l h h0 hx hl v;obtain⟨s,hs,he⟩:=aM hx;obtain⟨p,m,j⟩:=cN hl;obtain⟨B,r,q⟩:=cN v
   split
   ·rename_i sz h2;rw[bI h1 (by simp only[cm,h0,hs,m,r,h2];rfl)];simp only[SO.run,R_,iU,he,j,q]<;>rfl
   ·rfl
  ·rfl
 case h_17 ty x f =>
  split
  ·rename_i a fo ft ha h0;obtain⟨s,hs,he⟩:=aM ha
   split
   ·rename_i k h2;rw[bI h1 (by simp only[cm,hs,h0,h2];rfl)];simp only[SO.run,Mk,ki,he]<;>rfl
   ·rfl
  ·rfl
 case h_18 ty x f =>
  split
  ·rename_i a fo ft ha h0;obtain⟨s,hs,he⟩:=aM ha
   split
   ·rename_i ag n h2 o;rw[bI h1 (by simp only[cm,hs,h0,h2,o];rfl)];simp only[SO.run,Rf,he]<;>rfl
   ·rfl
  ·rfl
 case h_19 ty x ix =>
  split
  ·rename_i a i ha hi;obtain⟨s,hs,he⟩:=aM ha;obtain⟨p,m,j⟩:=aM hi
   split
   ·rename_i e h0
    split
    ·rename_i sz h2;rw[bI h1 (by simp only[cm,hs,m,h0,h2];rfl)];simp only[SO.run,FU,gZ,he,j]<;>rfl
    ·rfl
   ·rename_i n e h0
    split
    ·rename_i sz h2;rw[bI h1 (by simp only[cm,hs,m,h0,h2];rfl)];simp only[SO.run,AO,nG,he,j]<;>rfl
    ·rfl
   ·rfl
  ·rfl
 case h_20 ty x ix =>
  split
  ·rename_i a i ha hi;obtain⟨s,hs,he⟩:=aM ha;obtain⟨p,m,j⟩:=aM hi
   split
   ·rename_i n e h0
    split
    ·rename_i ag sz h2 o;rw[bI h1 (by simp only[cm,hs,m,h0,h2,o];rfl)];simp only[SO.run,ixV,vT,he,j]<;>rfl
    ·rfl
   ·rfl
  ·rfl
 case h_21 x i =>
  split
  ·rename_i a ha;obtain⟨s,hs,he⟩:=aM ha;rw[bI h1 (by simp only[cm,hs];rfl)];simp only[SO.run,Hh,he]<;>rfl
  ·rfl
 case h_22=>rfl
theorem pG{xs:List Operand}{os:List Od}(h:lH C xs=some os) :
  (∀o,os=[o]->∃x s,xs=[x]/\aP C x=some s/\∀t,s.run t=o.get t) /\
  (∀o p,os=[o,p]->∃x y s u,xs=[x,y]/\aP C x=some s/\aP C y=some u/\(∀t,s.run t=o.get t)/\∀t,u.run t=p.get t):=by
 refine⟨λo ho=>?_,λo p ho=>?_⟩
 ·subst ho
  match xs,h with
  | [x],h =>
   unfold lH at h
   split at h
   ·rename_i a as ha k;injection h with h;injection h with h1 h2;subst h1;obtain⟨s,q,e⟩:=aM ha;exact⟨x,s,rfl,q,e⟩
   ·cases h
  | x::y::xs,h =>
   unfold lH at h
   split at h
   ·rename_i a as ha k;unfold lH at k
    split at k
    ·injection k with k;subst k;injection h with h;injection h with h1 h2;cases h2
    ·cases k
   ·cases h
 ·subst ho
  match xs,h with
  | [x,y],h =>
   unfold lH at h
   split at h
   ·rename_i a as ha k;unfold lH at k
    split at k
    ·rename_i b bs hb c;injection k with k;subst k;injection h with h;injection h with h1 h2;injection h2 with d h4;subst h1;subst d;obtain⟨s,q,e⟩:=aM ha;obtain⟨s',q',e'⟩:=aM hb;exact⟨x,y,s,s',rfl,q,q',e,e'⟩
    ·cases k
   ·cases h
  | [x],h =>
   unfold lH at h
   split at h
   ·rename_i a as ha k;injection k with k;subst k;injection h with h;injection h with h1 h2;cases h2
   ·cases h
  | x::y::z::xs,h =>
   unfold lH at h
   split at h
   ·rename_i a as ha k;unfold lH at k
    split at k
    ·rename_i b bs hb c;unfold lH at c
     split at c
     ·injection c with c;subst c;injection k with k;subst k;injection h with h;injection h with h1 h2;injection h2 with d h4;cases h4
     ·cases c
    ·cases k
   ·cases h
theorem xT:(nOp C op).run C d rd t g=(bC C op).run (I C) d rd t g:=by
 unfold nOp
 split
 ·rename_i f args ats
  split
  ·rename_i vs q;obtain⟨s,hs,he⟩:=cN q;simp only[SO.run,bC,cOp,hs,ae];cases hx:C.ext f with
   |some e=>simp only[he]
   |none=>cases hi:C.iso f<;>simp only[he]
  ·rfl
 ·rename_i fo args ats p
  split
  ·rename_i f vs hf q;obtain⟨s,hs,he⟩:=cN q;obtain⟨w,m,i⟩:=aM hf;cases fo with
   |func k=>exact absurd rfl (p k)
   |tmp k=>simp only[SO.run,bC,cOp,hs,m,he,i]
   |const k=>simp only[SO.run,bC,cOp,hs,m,he,i]
   |global k=>simp only[SO.run,bC,cOp,hs,m,he,i]
  ·rfl
 ·rename_i b args ats;have hc:b≠.recover->cOp C (.call { callee:=.builtin b,args:=args,argTypes:=ats })=match cm C (.call { callee:=.builtin b,args:=args,argTypes:=ats }) with
    |some s=>some ⟨λ_ _ _ t g=>s.run t g⟩|none=>none:=by
   intro hb;cases b<;>first|rfl|exact absurd rfl hb
  split
  ·rename_i x hx;obtain⟨y,s,j,hs,he⟩:=(pG hx).1 _ rfl
   split
   ·rename_i ty l;rw[bI (hc (by simp)) (by simp only[cm,dJ,j,l,hs];rfl)];simp only[SO.run,he]<;>rfl
   ·rfl
  ·rename_i a x hx;obtain⟨y,z,s,u,j,hs,hu,he,i⟩:=(pG hx).2 _ _ rfl
   split
   ·rename_i ty xt l r
    split
    ·rename_i e v h1 h2
     split
     ·rename_i sz bytes zero n h4 h5;rw[aa]
      split
      ·rename_i o;rw[bI (hc (by simp)) (by simp only[cm,dJ,j,l,r,hs,hu,h1,h2,n,h4,h5,o];rfl)];simp only[SO.run,he,i]<;>rfl
      ·rfl
     ·rfl
    ·rfl
   ·rfl
  ·rename_i a x hx;obtain⟨y,z,s,u,j,hs,hu,he,i⟩:=(pG hx).2 _ _ rfl
   split
   ·rename_i ty l
    split
    ·rename_i e h1
     split
     ·rename_i sz n;rw[bI (hc (by simp)) (by simp only[cm,dJ,j,l,hs,hu,h1,n];rfl)];simp only[SO.run,he,i]<;>rfl
     ·rfl
    ·rfl
   ·rfl
  ·rename_i a x hx;obtain⟨y,z,s,u,j,hs,hu,he,i⟩:=(pG hx).2 _ _ rfl;rw[bI (hc (by simp)) (by simp only[cm,dJ,j,hs,hu];rfl)];simp only[SO.run,mxV,he,i]<;>rfl
  ·rename_i a x hx;obtain⟨y,z,s,u,j,hs,hu,he,i⟩:=(pG hx).2 _ _ rfl;rw[bI (hc (by simp)) (by simp only[cm,dJ,j,hs,hu];rfl)];simp only[SO.run,mnV,he,i]<;>rfl
  ·rfl
 ·rename_i h1 h2 n;have key:∀op,(∀c,op≠.call c)->(∀c,op≠.defer c)->cOp C op=match cm C op with|some s=>some ⟨λ_ _ _ t g=>s.run t g⟩|none=>none:=by intro op hc hd;cases op<;>first|rfl|exact absurd rfl (hc _)|exact absurd rfl (hd _)
  cases op with
  |call c=>rfl
  |defer c=>rfl
  |_=>exact Pp (key _ (λc h=>by cases h) (λc h=>by cases h))
structure SI where
 dst:Option Nat
 gd:Option (Nat×Bool)
 op:SO
inductive SC where
 |skip
 |ops (l:List SI)
 |quiet (l:List SI)
 |feet (pm:List Nat) (l:List SI)
 |seq (a b:SC)
 |cond (c:Od) (a b:SC)
 |blk (id:Nat) (b:SC)
 |loop (b:SC)
 |exit (id:Nat)
 |ret
 |rng (nt:Nat) (f:Od) (ps:List Nat) (assign body:SC)
 |raw (nt:Nat) (c:Code)
def OR.sat(r:OR)(K:AV->G->Prop)(g:G)(D:ADf->Prop):Prop :=
 match r with
 |.fail=>False
 |.val v=>K v g
 |.upd v g'=>K v g'
 |.dfr a=>D a
def CR.sat(r:CR)(Q:Ex->T->List ADf->G->Prop):Prop :=
 match r with
 |.fail=>False
 |.ok e t df g=>Q e t df g
def FR.sat(r:FR)(Q:AV->G->Prop):Prop :=
 match r with
 |.fail=>False
 |.ok v g=>Q v g
def nY(dst:Option Nat)(t:T)(v:AV):T:=match dst with|none=>t|some d=>fe t d v
abbrev PT:=T->List ADf->G->Prop
abbrev QT:=Ex->T->List ADf->G->Prop
def xy(q:Bool)(A B:PT)(t:T)(df:List ADf)(g:G):Prop:=(q=true->A t df g)/\(q=false->B t df g)
def gdP(v:AV)(w:Bool)(A B:PT)(t:T)(df:List ADf)(g:G):Prop :=
 match v with
 |.bool q=>ak w (xy q A B t df g) (xy q B A t df g)
 |.tup _=>B t df g
 |_=>False
def kO(W:PT)(dst:Option Nat)(t:T)(df:List ADf)(v:AV)(g:G):Prop:=W (nY dst t v) df g
def kD(W:PT)(dst:Option Nat)(t:T)(df:List ADf)(g:G)(a:ADf):Prop:=W (nY dst t .undef) (a::df) g
def pu(C:Cfg)(d:Nat)(rd:Option Nat)(i:SI)(W:PT)(t:T)(df:List ADf)(g:G):Prop:=(i.op.run C d rd t g).sat (kO W i.dst t df) g (kD W i.dst t df g)
def yE(i:SI)(W:PT)(t:T)(df:List ADf)(g:G):Prop:=W (nY i.dst t .undef) df g
def wpO(C:Cfg)(d:Nat)(rd:Option Nat):List SI->PT->T->List ADf->G->Prop
 |[],Q,t,df,g=>Q t df g
 | i::r,Q,t,df,g =>
  match i.gd with
  |none=>pu C d rd i (wpO C d rd r Q) t df g
  |some (s,w)=>gdP (tat t s) w (pu C d rd i (wpO C d rd r Q)) (yE i (wpO C d rd r Q)) t df g
def SO.foot(C:Cfg)(t:T)(g:G):SO->Looks
 |.load _ _ a=>am (af (a.get t))
 |.store _ a _=>am (af (a.get t))
 |.slc _ a _ _=>am (af (a.get t))
 |.sla _ _ a _ _=>am (af (a.get t))
 |.ixs _ a _=>am (af (a.get t))
 |.app _ _ a x=>am (af (a.get t)++af (x.get t))
 |.cpy _ a x=>am (af (a.get t)++af (x.get t))
 |.mx a x=>am (af (a.get t)++af (x.get t))
 |.mn a x=>am (af (a.get t)++af (x.get t))
 |.len lk a=>match lk with|.map=>am (xe (a.get t))|_=>aA
 |.call f as=>ak ((C.ext f).isSome || C.iso f) (am ((eH t as).flatMap (aw g.h an))) cK
 | .dyn f as=>match f.get t with
  |.clo f first cap=>ak ((C.ext f).isSome || C.iso f) (am ((first++(eH t as++cap)).flatMap (aw g.h an))) cK
  |_=>cK
 |.raw op=>(aH C op).run t g
 |_=>aA
abbrev FT:=T->List ADf->G->List Foot->Prop
def kF(W:FT)(dst:Option Nat)(t:T)(df:List ADf)(lg:List Nat)(fs:List Foot)(lk:Looks)(v:AV)(g':G):Prop:=W (nY dst t v) df (od g' (g'.lg++lg)) (⟨lk,g'.lg⟩::fs)
def K_(C:Cfg)(d:Nat)(rd:Option Nat)(i:SI)(W:FT)(fs:List Foot)(t:T)(df:List ADf)(g:G):Prop :=
 (i.op.run C d rd t (aR g [])).sat (kF W i.dst t df g.lg fs (i.op.foot C t g)) (aR g []) (λ_=>False)
def GD(i:SI)(W:FT)(fs:List Foot)(t:T)(df:List ADf)(g:G):Prop:=W (nY i.dst t .undef) df g (⟨aA,[]⟩::fs)
def wpF(C:Cfg)(d:Nat)(rd:Option Nat)(pm:List Nat):List SI->PT->T->List ADf->G->List Foot->Prop
 |[],Q,t,df,g,fs=>jt pm fs.reverse=true/\Q t df g
 | i::r,Q,t,df,g,fs =>
  match i.gd with
  |none=>K_ C d rd i (wpF C d rd pm r Q) fs t df g
  |some (s,w)=>gdP (tat t s) w (K_ C d rd i (wpF C d rd pm r Q) fs) (GD i (wpF C d rd pm r Q) fs) t df g
def kS(W:PT)(Q:QT)(e:Ex)(t:T)(df:List ADf)(g:G):Prop:=match e with|.norm=>W t df g|e=>Q e t df g
def kB(id:Nat)(Q:QT)(e:Ex)(t:T)(df:List ADf)(g:G):Prop:=match e with|.exit j=>ak (Nat.beq j id) (Q .norm t df g) (Q (.exit j) t df g)|e=>Q e t df g
def kL(Inv:Nat->PT)(k:Nat)(Q:QT)(e:Ex)(t:T)(df:List ADf)(g:G):Prop:=match e with|.norm=>∃k',k'<k/\Inv k' t df g|e=>Q e t df g
def kQ(g0:G)(Q:QT)(t:T)(df:List ADf)(g:G):Prop:=g.lg=[]/\g.nx=g0.nx/\Q .norm t df g0
def wpC(v:AV)(A B:PT)(t:T)(df:List ADf)(g:G):Prop:=match v with|.bool q=>xy q A B t df g|_=>False
def wpL(W:QT->PT)(Q:QT)(t:T)(df:List ADf)(g:G):Prop :=
 ∃Inv:Nat->PT,(∃k,Inv k t df g)/\∀k t df g,Inv k t df g->W (kL Inv k Q) t df g
def nGd(all:List Oper):Option (Nat×Bool)->Option (Option (Nat×Bool))
 |none=>some none
 | some (j,w)=>match all[j]? with
  | some o=>match o.dst with
   |some d=>some (some (d,w))
   |none=>none
  |none=>none
def R6(nt:Nat):Option Nat->Bool
 |none=>true
 |some d=>Nat.blt d nt
def Eg(C:Cfg)(nt:Nat)(all:List Oper):List Oper->Option (List SI)
 |[]=>some []
 | o::rest=>match R6 nt o.dst,nGd all o.guard,Eg C nt all rest with
  |true,some gd,some r=>some (⟨o.dst,gd,nOp C o.op⟩::r)
  |_,_,_=>none
def bQ(C:Cfg)(nt:Nat):Code->SC
 |.skip=>.skip
 |.label _=>.skip
 | .region p ops draw=>match Eg C nt ops.toList ops.toList with
  |some l=>ak draw (ak (Eo ops.toList) (ak (ops.toList.all λo=>zo C o.op) (.quiet l) (.feet (bD ops.toList []) l)) (.raw nt (.region p ops draw))) (.ops l)
  |none=>.raw nt (.region p ops draw)
 |.seq a b=>.seq (bQ C nt a) (bQ C nt b)
 | .cond c a b=>match nOd C c with
  |some c=>.cond c (bQ C nt a) (bQ C nt b)
  |none=>.raw nt (.cond c a b)
 |.block id b=>.blk id (bQ C nt b)
 |.loop b=>.loop (bQ C nt b)
 |.scope b=>bQ C nt b
 |.exit id=>.exit id
 |.ret=>.ret
 | .rangeFunc f ps assign body=>match nOd C f with
  |some f=>.rng nt f ps.toList (bQ C nt assign) (bQ C nt body)
  |none=>.raw nt (.rangeFunc f ps assign body)
 |c=>.raw nt c
def wp(C:Cfg)(d:Nat)(rd:Option Nat):SC->QT->T->List ADf->G->Prop
 |.skip,Q,t,df,g=>Q .norm t df g
 |.ops l,Q,t,df,g=>wpO C d rd l (Q .norm) t df g
 |.quiet l,Q,t,df,g=>wpO C d rd l (kQ g Q) t df (aR g [])
 |.feet pm l,Q,t,df,g=>wpF C d rd pm l (Q .norm) t df g []
 |.seq a b,Q,t,df,g=>wp C d rd a (kS (wp C d rd b Q) Q) t df g
 |.cond c a b,Q,t,df,g=>wpC (c.get t) (wp C d rd a Q) (wp C d rd b Q) t df g
 |.blk id b,Q,t,df,g=>wp C d rd b (kB id Q) t df g
 |.loop b,Q,t,df,g=>wpL (wp C d rd b) Q t df g
 |.exit id,Q,t,df,g=>Q (.exit id) t df g
 |.ret,Q,t,df,g=>Q .ret t df g
 |.rng nt f ps a b,Q,t,df,g=>∀assign body,bQ C nt assign=a->bQ C nt body=b->(nM C nt (λt=>f.get t) ps assign body (I C) d rd t df g).sat Q
 |.raw nt c,Q,t,df,g=>((aK C nt c).run (I C) d rd t df g).sat Q
theorem zm{dst:Option Nat}(h:R6 nt dst=true):∃o,qj nt dst=some o/\∀t v,o.run t v=nY dst t v:=by
 cases dst with
 |none=>exact⟨_,rfl,λt v=>rfl⟩
 | some d =>
  refine⟨sp AV.undef d,?_,λt v=>rfl⟩;have h:Nat.blt d nt=true:=h;simp only[qj,h]
theorem ub{all:List Oper}{w:Bool}{r:Option (Nat×Bool)}(h:nGd all (some (j,w))=some r) :
  ∃s,r=some (s,w)/\i4 all (some (j,w))=some ⟨λt=>match (gp AV.undef s).run t with|.bool b=>some (ak w b (ju b))|.tup _=>some false|_=>none⟩:=by
 unfold nGd at h;dsimp only at h
 split at h
 ·rename_i o ho
  split at h
  ·rename_i d hd;injection h with h;exact⟨d,h.symm,by simp only[i4,ho,hd];rfl⟩
  ·cases h
 ·cases h
theorem Bh{out:T->AV->T}{dst:Option Nat}(ho:∀t v,out t v=nY dst t v){next:T->List ADf->G->CR}{Q:QT}{K:PT}(hk:∀t df g,K t df g->(next t df g).sat Q)
      (h:r.sat (kO K dst t df) g (kD K dst t df g)):(pB out next t df g r).sat Q:=by
 cases r with
 |fail=>exact h.elim
 |val v=>exact hk _ _ _ (by rw[ho];exact h)
 |upd v g'=>exact hk _ _ _ (by rw[ho];exact h)
 |dfr a=>exact hk _ _ _ (by rw[ho];exact h)
theorem AB{w:Bool}{A B:PT}(h:gdP v w A B t df g) :
  ∃q,(match v with|.bool b=>some (ak w b (ju b))|.tup _=>some false|_=>none:Option Bool)=some q/\(q=true->A t df g)/\(q=false->B t df g):=by
 unfold gdP at h
 split at h
 ·rename_i q;rw[aa]at h;refine⟨_,rfl,?_,?_⟩
  ·cases w<;>cases q<;>simp_all [xy]
  ·cases w<;>cases q<;>simp_all [xy]
 ·exact⟨false,rfl,λh=>(by cases h),λ_=>h⟩
 ·exact h.elim
theorem Ov{all:List Oper}{Q:QT}:∀(l:List Oper) (s:List SI),Eg C nt all l=some s->∀t df g,wpO C d rd s (Q .norm) t df g ->
  ((jU C nt all l).run (I C) d rd t df g).sat Q:=by
 intro l
 induction l with
 |nil=>intro s h t df g hq;injection h with h;subst h;exact hq
 | cons o rest ih =>
  intro s h t df g hq;unfold Eg at h
  split at h
  ·rename_i gd r hd hg hr;injection h with h;subst h;obtain⟨ot,e1,k⟩:=zm hd;unfold jU;rw[e1];dsimp only;cases hgd:o.guard with
   | none =>
    rw[hgd]at hg;injection hg with hg;subst hg;dsimp only;rw[<-xT];exact Bh k (λt df g h=>ih r hr t df g h) hq
   | some jw =>
    obtain⟨j,w⟩:=jw;rw[hgd]at hg;obtain⟨sl,h1,h2⟩:=ub hg;subst h1;dsimp only;rw[h2];dsimp only;obtain⟨q,a,h4,h5⟩:=AB hq;have:(gp AV.undef sl).run t=tat t sl:=gp_run _ _ _;rw[this,a];cases q with
    | true =>
     dsimp only;rw[<-xT];exact Bh k (λt df g h=>ih r hr t df g h) (h4 rfl)
    | false =>
     dsimp only;rw[k];exact ih r hr _ _ _ (h5 rfl)
  ·cases h
theorem KS(hc:∀c,op≠.call c):(Eh C op).foot C t g=(aH C op).run t g:=by
 have k:∀{x:Operand} {o:Od},nOd C x=some o->∃s,aP C x=some s/\∀t,s.run t=o.get t:=aM;unfold Eh
 split
 case h_8 ty a =>
  split
  ·rename_i a ag n ha h2 b;obtain⟨s,hs,he⟩:=k ha;simp only[aH,hs,SO.foot,he]
  ·rfl
 case h_9 ty a x =>
  split
  ·rename_i a x n ha hx b;obtain⟨s,hs,he⟩:=k ha;simp only[aH,hs,SO.foot,he]
  ·rfl
 case h_16 ty x lo hi =>
  split
  ·rename_i e x l h h0 hx hl d;obtain⟨s,hs,he⟩:=k hx
   split
   ·simp only[aH,hs,SO.foot,he]
   ·rfl
  ·rename_i n e x l h h0 hx hl d;obtain⟨s,hs,he⟩:=k hx
   split
   ·simp only[aH,hs,SO.foot,he]
   ·rfl
  ·rfl
 case h_19 ty x ix =>
  split
  ·rename_i a i ha hi;obtain⟨s,hs,he⟩:=k ha
   split
   ·rename_i e h0
    split
    ·simp only[aH,h0,hs,SO.foot,he]
    ·rfl
   ·rename_i n e h0
    split
    ·simp only[aH,h0,SO.foot]
    ·rfl
   ·rfl
  ·rfl
 all_goals (repeat' (first|rfl|split|rw[aa]))
theorem Np:(nOp C op).foot C t g=(aH C op).run t g:=by
 unfold nOp
 split
 ·rename_i f args ats
  split
  ·rename_i vs j;obtain⟨s,hs,he⟩:=cN j;simp only[SO.foot,aH,aP,hs,he,UM,Ux]
  ·rfl
 ·rename_i fo args ats l
  split
  ·rename_i f vs hf j;obtain⟨s,hs,he⟩:=cN j;obtain⟨n,e,d⟩:=aM hf;simp only[SO.foot,aH,hs,e,he,d];cases Od.get t f<;>rfl
  ·rfl
 ·rename_i b args ats
  split
  ·rename_i x hx;obtain⟨s,hs,he⟩:=cN hx
   split
   ·rename_i ty i;simp only[SO.foot,aH,hs,he,eH,UY,Vu,Ux,mA,i];cases mF C.P ty<;>rfl
   ·rfl
  ·rename_i a x hx;obtain⟨s,hs,he⟩:=cN hx;have k:(aH C (.call { callee:=.builtin .append,args:=args,argTypes:=ats })).run t g=am (af (a.get t)++af (x.get t)):=by simp only[aH,hs,he,eH,UY,Vu,Ux,mA]
   split
   ·split
    ·split
     ·rw[aa];split
      ·exact k.symm
      ·rfl
     ·rfl
    ·rfl
   ·rfl
  ·rename_i a x hx;obtain⟨s,hs,he⟩:=cN hx;have k:(aH C (.call { callee:=.builtin .copy,args:=args,argTypes:=ats })).run t g=am (af (a.get t)++af (x.get t)):=by simp only[aH,hs,he,eH,UY,Vu,Ux,mA]
   split
   ·split
    ·split
     ·exact k.symm
     ·rfl
    ·rfl
   ·rfl
  ·rename_i a x hx;obtain⟨s,hs,he⟩:=cN hx;simp only[SO.foot,aH,hs,he,eH,UY,Vu,Ux,mA]
  ·rename_i a x hx;obtain⟨s,hs,he⟩:=cN hx;simp only[SO.foot,aH,hs,he,eH,UY,Vu,Ux,mA]
  ·rfl
 ·rename_i h1 h2 m;cases op with
  |call c=>rfl
  |_=>exact KS (λc h=>by cases h)
theorem RL{all:List Oper}{pm:List Nat}{Q:QT}:∀(l:List Oper) (s:List SI) (k:Nat),Eg C nt all l=some s->∀t df g fs,wpF C d rd pm s (Q .norm) t df g fs ->
  ((iZ C nt pm all k l).run (I C) d rd t df g fs).sat Q:=by
 intro l
 induction l with
 | nil =>
  intro s k h t df g fs hq;injection h with h;subst h;obtain⟨h1,h2⟩:=hq;unfold iZ;dsimp only;rw[h1];exact h2
 | cons o rest ih =>
  intro s k h t df g fs hq;unfold Eg at h
  split at h
  ·rename_i gd r hd hg hr;injection h with h;subst h;obtain⟨ot,e1,b⟩:=zm hd;have step:∀{x:OR},x.sat (kF (wpF C d rd pm r (Q .norm)) o.dst t df g.lg fs ((nOp C o.op).foot C t g)) (aR g []) (λ_=>False) ->
     (lK ot.run ((iZ C nt pm all (k+1) rest).run (I C) d rd) t df g fs ((aH C o.op).run t g) x).sat Q:=by
    intro x hx;rw[Np]at hx;cases x with
    |fail=>exact hx.elim
    | val v =>
     simp only[lK,b];refine ih r _ hr _ _ _ _ ?_;have hx:wpF C d rd pm r (Q .norm) (nY o.dst t v) df (od (aR g []) ((aR g []).lg++g.lg)) (⟨(aH C o.op).run t g,(aR g []).lg⟩::fs):=hx;obtain⟨h,nx,lg⟩:=g;exact hx
    | upd v g' =>
     simp only[lK,b];exact ih r _ hr _ _ _ _ hx
    |dfr a=>exact hx.elim
   unfold iZ;rw[e1];cases hgd:o.guard with
   | none =>
    rw[hgd]at hg;injection hg with hg;subst hg;simp only[i4];rw[<-xT];exact step hq
   | some jw =>
    obtain⟨j,w⟩:=jw;rw[hgd]at hg;obtain⟨sl,h1,h2⟩:=ub hg;subst h1;rw[h2];dsimp only;obtain⟨q,c,h4,h5⟩:=AB hq;have:(gp AV.undef sl).run t=tat t sl:=gp_run _ _ _;rw[this,c];cases q with
    | true =>
     dsimp only;rw[<-xT];exact step (h4 rfl)
    | false =>
     dsimp only;rw[b];exact ih r _ hr _ _ _ _ (h5 rfl)
  ·cases h
theorem CR.sat_mono{r:CR}{Q Q':QT}(h:r.sat Q)(hq:∀e t df g,Q e t df g->Q' e t df g):r.sat Q':=by
 cases r with
 |fail=>exact h
 |ok e t df g=>exact hq _ _ _ _ h
theorem OB:∀(c:Code) (Q:QT) (t:T) (df:List ADf) (g:G),wp C d rd (bQ C nt c) Q t df g->((aK C nt c).run (I C) d rd t df g).sat Q:=by
 intro c
 induction c with
 | seq a b iha ihb =>
  intro Q t df g h;have h:=iha _ t df g h;show (Cc _ ((aK C nt a).run (I C) d rd t df g)).sat Q;cases hr:(aK C nt a).run (I C) d rd t df g with
  |fail=>rw[hr]at h;exact h
  | ok e t1 df1 g1 =>
   rw[hr]at h;cases e with
   |norm=>exact ihb _ _ _ _ h
   |exit j=>exact h
   |ret=>exact h
 | cond q a b iha ihb =>
  intro Q t df g h;unfold bQ at h
  split at h
  ·rename_i o ho;obtain⟨s,hs,he⟩:=aM ho;simp only[aK,hs,he];have h:wpC (o.get t) (wp C d rd (bQ C nt a) Q) (wp C d rd (bQ C nt b) Q) t df g:=h;unfold wpC at h;cases hv:Od.get t o with
   | bool v =>
    rw[hv]at h;cases v with
    |true=>exact iha _ _ _ _ (h.1 rfl)
    |false=>exact ihb _ _ _ _ (h.2 rfl)
   |_=>rw[hv]at h;exact h.elim
  ·exact h
 | block id body ih =>
  intro Q t df g h;have h:=ih _ t df g h;show (vq id ((aK C nt body).run (I C) d rd t df g)).sat Q;cases hr:(aK C nt body).run (I C) d rd t df g with
  |fail=>rw[hr]at h;exact h
  | ok e t1 df1 g1 =>
   rw[hr]at h;cases e with
   |norm=>exact h
   | exit j =>
    have h:ak (Nat.beq j id) (Q .norm t1 df1 g1) (Q (.exit j) t1 df1 g1):=h;show (ak (Nat.beq j id) _ _:CR).sat Q;cases hb:Nat.beq j id
    ·rw[hb]at h;exact h
    ·rw[hb]at h;exact h
   |ret=>exact h
 | loop body ih =>
  intro Q t df g h;obtain⟨Inv,⟨k,hk⟩,hs⟩:=h
  induction k using Nat.strongRecOn generalizing t df g with
  | _ k rec =>
   have h:=ih _ t df g (hs k t df g hk);show (Cc (λt df g=>(I C).code nt d rd (.loop body) t df g) ((aK C nt body).run (I C) d rd t df g)).sat Q;cases hr:(aK C nt body).run (I C) d rd t df g with
   |fail=>rw[hr]at h;exact h
   | ok e t1 df1 g1 =>
    rw[hr]at h;cases e with
    | norm =>
     obtain⟨k',hlt,hi⟩:=h;show ((I C).code nt d rd (.loop body) t1 df1 g1).sat Q;rw[Dm];exact rec k' hlt t1 df1 g1 hi
    |exit j=>exact h
    |ret=>exact h
 |scope body ih=>intro Q t df g h;exact ih _ _ _ _ h
 | region p ops draw =>
  intro Q t df g h;show ((gt C nt ops.toList draw).run (I C) d rd t df g).sat Q;unfold bQ at h
  split at h
  ·rename_i l hl;rw[aa,aa,aa]at h;unfold gt;rw[aa,aa,aa]
   split
   ·rename_i hd;rw[Un hd]at h
    split
    ·rename_i ho;rw[Un ho]at h
     split
     ·rename_i hq;rw[Un hq]at h;have h:wpO C d rd l (kQ g Q) t df (aR g []):=h;have h:=Ov (C:=C) (d:=d) (rd:=rd) (Q:=λe t df g'=>e=.norm/\g'.lg=[]/\g'.nx=g.nx/\Q .norm t df g) (nt:=nt) (all:=ops.toList) ops.toList l hl t df (aR g [])
       (by
        refine cast ?_ h;congr 1;funext t df g';simp[kQ])
      dsimp only;cases hr:(jU C nt ops.toList ops.toList).run (I C) d rd t df (aR g []) with
      |fail=>rw[hr]at h;exact h
      | ok e t1 df1 g1 =>
       rw[hr]at h;obtain⟨h0,h1,h2,i⟩:=h;subst h0;simp only[nL,h1,h2,UT];exact i
     ·rename_i hq;rw[Um hq]at h;exact RL _ l 0 hl _ _ _ _ h
    ·rename_i ho;rw[Um ho]at h;unfold wp at h;simp only[aK,gt,aa,Un hd,Um ho]at h;exact h
   ·rename_i hd;rw[Um hd]at h;exact Ov _ l hl _ _ _ h
  ·exact h
 | rangeFunc f ps assign body _ _ =>
  intro Q t df g h;unfold bQ at h
  split at h
  ·rename_i o ho;obtain⟨s,hs,he⟩:=aM ho;have he:s.run=λt=>o.get t:=funext he;simp only[aK,hs,he];exact h assign body rfl rfl
  ·exact h
 |skip=>intro Q t df g h;exact h
 |label l=>intro Q t df g h;exact h
 |exit id=>intro Q t df g h;exact h
 |ret=>intro Q t df g h;exact h
 |goto l=>intro Q t df g h;exact h
 |refuse w=>intro Q t df g h;exact h
theorem OR.sat_mono{K K':AV->G->Prop}{D D':ADf->Prop}(h:r.sat K g D)(hk:∀v g',K v g'->K' v g')(hd:∀a,D a->D' a):r.sat K' g D':=by
 cases r with
 |fail=>exact h
 |val v=>exact hk _ _ h
 |upd v g'=>exact hk _ _ h
 |dfr a=>exact hd _ h
inductive SR where
 |tm (n:Nat)
 |cell (ag:Bool) (n a:Nat)
structure SF where
 nt:Nat
 res:List SR
 code:SC
def xU(C:Cfg):List ResultVar->Option (List SR)
 |[]=>some []
 | .tmp n::rs=>match xU C rs with
  |some k=>some (.tm n::k)
  |none=>none
 | .cell a ty::rs=>match xU C rs,rY C.P ty,szT C.P ty with
  |some k,some ag,some n=>some (.cell ag n a::k)
  |_,_,_=>none
def nFn(C:Cfg)(f:Nat):Option SF :=
 match C.P.funcs[f]? with
 |none=>none
 | some fn=>match fn.body with
  |none=>none
  | some c=>match xU C fn.results.toList with
   | some r => ak (fn.name == "runtime.NumGoroutine") none (some ⟨fn.ntmps, r, bQ C fn.ntmps c⟩)
   |none=>none
def v8:List SR->T->G->(List AV->Prop)->Prop
 |[],_,_,K=>K []
 |.tm n::rs,t,g,K=>v8 rs t g λvs=>K (tat t n::vs)
 | .cell ag n a::rs,t,g,K=>match qh ag n (tat t a) g with
  |.val v=>v8 rs t g λvs=>K (v::vs)
  |_=>False
theorem Et:∀(l:List ResultVar) (r:List SR) (K:List AV->Prop),xU C l=some r->v8 r t g K->∃s vs,nT C l=some s/\s.run t g=some vs/\K vs:=by
 intro l
 induction l with
 |nil=>intro r K h hk;injection h with h;subst h;exact⟨_,[],rfl,rfl,hk⟩
 | cons x l ih =>
  intro r K h hk;cases x with
  | tmp n =>
   unfold xU at h
   split at h
   ·rename_i k hr;injection h with h;subst h;obtain⟨s,vs,h1,h2,b⟩:=ih k _ hr hk;refine⟨⟨λt g=>match s.run t g with|some vs=>some ((gp AV.undef n).run t::vs)|none=>none⟩,tat t n::vs,by simp only[nT,h1];rfl,?_,b⟩;simp only[h2,gp_run];rfl
   ·cases h
  | cell a ty =>
   unfold xU at h
   split at h
   ·rename_i k ag n hr ha c;injection h with h;subst h;unfold v8 at hk
    split at hk
    ·rename_i v d;obtain⟨s,vs,h1,h2,b⟩:=ih k _ hr hk;have hl:nH ag n (gp AV.undef a).run t g=.val v:=by rw[<-d];simp only[qh,nH,gp_run];rfl
     refine⟨⟨λt g=>match nH ag n (gp AV.undef a).run t g with|.val v=>(match s.run t g with|some vs=>some (v::vs)|none=>none)|_=>none⟩,v::vs,
      by simp only[nT,h1,cm,aP,ha,c];rfl,?_,b⟩
     simp only[hl,h2]
    ·exact hk.elim
   ·cases h
def uC(C:Cfg)(d:Nat)(r:List SR)(t:T)(df:List ADf)(g:G)(K:AV->G->Prop):Prop :=
 match fN (I C) d df g with
 |some g'=>v8 r t g' λvs=>K (jv vs) g'
 |none=>False
def fnQ(C:Cfg)(d:Nat)(r:List SR)(K:AV->G->Prop):QT:=λe t df g=>match e with|.exit _=>False|_=>uC C d r t df g K
theorem i7{s:SF}(hf:nFn C f=some s){as:List AV}{K:AV->G->Prop}(hl:as.length<=s.nt)(h:wp C d none s.code (fnQ C d s.res K) (ba 0 as .nil) [] g) :
  ((I C).call d f as g).sat K:=by
 rw[QU];unfold nFn at hf
 split at hf
 ·cases hf
 rename_i fn m
 split at hf
 ·cases hf
 rename_i c hc
 split at hf
 rotate_left
 ·cases hf
 rename_i r hr;rw[aa]at hf
 split at hf
 ·cases hf
 rename_i p;injection hf with hf;subst hf;have h:=OB c _ _ _ _ h;have b:∃s,nT C fn.results.toList=some s:=by
  have:∀(l:List ResultVar) (r:List SR),xU C l=some r->∃s,nT C l=some s:=by
   intro l
   induction l with
   |nil=>intro r _;exact⟨_,rfl⟩
   | cons x l ih =>
    intro r h;cases x with
    | tmp n =>
     unfold xU at h
     split at h
     ·rename_i k hr;obtain⟨s,hs⟩:=ih k hr;exact⟨_,by simp only[nT,hs];rfl⟩
     ·cases h
    | cell a ty =>
     unfold xU at h
     split at h
     ·rename_i k ag n hr ha p;obtain⟨s,hs⟩:=ih k hr;exact⟨_,by simp only[nT,hs,cm,aP,ha,p];rfl⟩
     ·cases h
  exact this _ _ hr
 obtain⟨rs,i⟩:=b;unfold ff cFn;simp only[m,hc,i,aa,Um p];rw[Un (by rw[aq,UR];exact hl)];cases hrun:(aK C fn.ntmps c).run (I C) d none (ba 0 as .nil) [] g with
 |fail=>rw[hrun]at h;exact h
 | ok e t df g' =>
  rw[hrun]at h;have key:uC C d r t df g' K->(bN (I C) d rs.run t df g').sat K:=by
   intro h;unfold uC at h;unfold bN
   split at h
   ·rename_i g2 o;rw[o];obtain⟨u,vs,h1,h2,q⟩:=Et _ _ _ hr h;rw[i]at h1;injection h1 with h1;subst h1;simp only[h2];exact q
   ·exact h.elim
  cases e with
  |exit j=>exact h
  |norm=>exact key h
  |ret=>exact key h
def All2{α β:Type}(R:α->β->Prop):List α->List β->Prop
 |[],[]=>True
 |a::as,b::bs=>R a b/\All2 R as bs
 |_,_=>False
section all2
variable {α β:Type}{R S:α->β->Prop}
theorem All2.len:∀{l:List α} {m:List β},All2 R l m->l.length=m.length
 |[],[],_=>rfl
 |_::_,_::_,h=>by simp only[UX,All2.len h.2]
theorem All2.mono(hs:∀a b,R a b->S a b):∀{l:List α} {m:List β},All2 R l m->All2 S l m
 |[],[],_=>trivial
 |_::_,_::_,h=>⟨hs _ _ h.1,All2.mono hs h.2⟩
theorem All2.get:∀{l:List α} {m:List β},All2 R l m->∀{i:Nat} {a:α},l[i]?=some a->∃b,m[i]?=some b/\R a b
 |_::_,b::_,h,0,_,e=>by simp at e;subst e;exact⟨b,rfl,h.1⟩
 |_::_,_::_,h,i+1,a,e=>by simpa using All2.get h.2 (i:=i) (by simpa using e)
 |[],[],_,i,a,e=>by simp at e
theorem All2.append:∀{l:List α} {m:List β} {l':List α} {m':List β},All2 R l m->All2 R l' m'->All2 R (l++l') (m++m')
 |[],[],_,_,_,h'=>h'
 |_::_,_::_,_,_,h,h'=>⟨h.1,All2.append h.2 h'⟩
theorem All2.take:∀{l:List α} {m:List β},All2 R l m->∀(i:Nat),All2 R (l.take i) (m.take i)
 |[],[],_,_=>by simp[All2]
 |_::_,_::_,h,0=>by simp[All2]
 |_::_,_::_,h,i+1=>⟨h.1,All2.take h.2 i⟩
theorem Sx{f:α->β}(h:∀a,R a (f a)):∀l:List α,All2 R l (l.map f)
 |[]=>trivial
 |a::l=>⟨h a,Sx h l⟩
theorem All2.eq_map{f:α->β}(hf:∀a b,R a b->b=f a):∀{l:List α} {m:List β},All2 R l m->m=l.map f
 |[],[],_=>rfl
 |a::l,b::m,h=>by rw[VM,hf _ _ h.1,All2.eq_map hf h.2]
end all2
def NoP:Nat->Prop:=λ_=>False
class Rp (α:Type) where
 sz:Nat
 dp:Nat
 rp:(Nat->Prop)->Nat->H->α->List AV->Prop
 len:∀{P k h x cs},rp P k h x cs->cs.length=sz
 mono:∀{P P':Nat->Prop} {k k':Nat} {h h':H} {x:α} {cs:List AV},rp P k h x cs->(∀i,P i->P' i/\h'.get i=h.get i)->k<=k'->rp P' k' h' x cs
 snap:∀{P k h x cs n} (d:Nat),rp P k h x cs->dp<=n->dp<=an->∃cs',aD (Hx.snap h d n) cs=some cs'/\rp NoP (max k d) .nil x cs'
 same:∀{k h x cs n} (d:Nat),rp NoP k h x cs->dp<=n->aD (Hx.snap h d n) cs=some cs
 ids:∀{P k h x cs n},rp P k h x cs->∀i∈cs.flatMap (aw h n),P i
 tag:∀{k h x cs n},rp NoP k h x cs->dp<=n->∃m,h_ (eN n) cs=some m/\m<=k
theorem Rp.tree{α:Type} [Rp α]{k':Nat}{h':H}{x:α}(r:Rp.rp NoP k h x cs)(hk:k<=k'):Rp.rp P k' h' x cs :=
 Rp.mono r (λ_ h=>h.elim) hk
def AV.flat:AV->Bool
 |.bool _|.int _ _|.str _=>true
 |_=>false
theorem Dc(hv:v.flat=true)(hn:1<=n):Hx.snap h d n v=some v:=by obtain⟨n,rfl⟩:∃m,n=m+1:=⟨n - 1,by omega⟩;cases v<;>first|rfl|cases hv
theorem Og(hv:v.flat=true)(hn:1<=n):eN n v=some 0:=by obtain⟨n,rfl⟩:∃m,n=m+1:=⟨n - 1,by omega⟩;cases v<;>first|rfl|cases hv
theorem MO{h:H}{n:Nat}{v:AV}(hv:v.flat=true):aw h n v=[]:=by
 cases n with
 |zero=>rfl
 |succ n=>cases v<;>first|rfl|cases hv
@[reducible] def Rp.plain {α:Type} (f:α->AV) (ok:α->Prop) (hf:∀x,(f x).flat=true):Rp α where
 sz:=1
 dp:=1
 rp:=λ_ _ _ x cs=>cs=[f x]/\ok x
 len:=by rintro P k h x cs ⟨rfl,-⟩;rfl
 mono:=λr _ _=>r
 snap:=by rintro P k h x cs n d ⟨rfl,ho⟩ hn _;exact⟨[f x],by simp only[aD,Dc (hf x) hn],rfl,ho⟩
 same:=by rintro k h x cs n d ⟨rfl,ho⟩ hn;simp only[aD,Dc (hf x) hn]
 ids:=by rintro P k h x cs n ⟨rfl,ho⟩ i hi;simp[MO (hf x)]at hi
 tag:=by rintro k h x cs n ⟨rfl,ho⟩ hn;exact⟨0,by simp[h_,Og (hf x) hn],US _⟩
def ci(x:Int):List AV:=[.int .i64 x]
def cu(x:Nat):List AV:=[.int .u64 (x:Int)]
instance : Rp Int:=Rp.plain (λx=>.int .i64 x) (λ_=>True) (λ_=>rfl)
instance : Rp Bool:=Rp.plain (λx=>.bool x) (λ_=>True) (λ_=>rfl)
instance : Rp Nat:=Rp.plain (λx=>.int .u64 (x:Int)) (λx=>x<18446744073709551616) (λ_=>rfl)
instance : Rp UInt8:=Rp.plain (λx=>.int .u8 (x.toNat:Int)) (λ_=>True) (λ_=>rfl)
instance : Rp UInt16:=Rp.plain (λx=>.int .u16 (x.toNat:Int)) (λ_=>True) (λ_=>rfl)
theorem tK{α β:Type}{f:α->Option β}:∀{l m:List α} {a b:List β},aD f l=some a->aD f m=some b->aD f (l++m)=some (a++b)
 |[],m,a,b,h1,h2=>by injection h1 with h1;subst h1;exact h2
 | x::l,m,a,b,h1,h2=>by
  unfold aD at h1
  split at h1
  ·rename_i y k
   split at h1
   ·rename_i ys h;injection h1 with h1;subst h1;simp only[UE,aD,k,tK h h2]
   ·cases h1
  ·cases h1
theorem yy{α:Type}{f:α->Option Nat}:∀{l m:List α} {a b:Nat},h_ f l=some a->h_ f m=some b->h_ f (l++m)=some (max a b)
 |[],m,a,b,h1,h2=>by injection h1 with h1;subst h1;simpa using h2
 | x::l,m,a,b,h1,h2=>by
  unfold h_ at h1
  split at h1
  ·rename_i y k
   split at h1
   ·rename_i ys h;injection h1 with h1;subst h1;simp only[UE,h_,k,yy h h2,Vo,Nat.max_def]
    repeat' split
    all_goals omega
   ·cases h1
  ·cases h1
instance {α β:Type} [Rp α] [Rp β]:Rp (α×β) where
 sz:=Rp.sz α+Rp.sz β
 dp:=max (Rp.dp α) (Rp.dp β)
 rp:=λP k h x cs=>∃a b,cs=a++b/\Rp.rp P k h x.1 a/\Rp.rp P k h x.2 b
 len:=by rintro P k h x cs ⟨a,b,rfl,h1,h2⟩;rw[VG,Rp.len h1,Rp.len h2]
 mono:=by rintro P P' k k' h h' x cs ⟨a,b,rfl,h1,h2⟩ hp hk;exact⟨a,b,rfl,Rp.mono h1 hp hk,Rp.mono h2 hp hk⟩
 snap:=by rintro P k h x cs n d ⟨a,b,rfl,h1,h2⟩ hn hA;obtain⟨a',e1,r1⟩:=Rp.snap (n:=n) d h1 (by omega) (by omega);obtain⟨b',e2,r2⟩:=Rp.snap (n:=n) d h2 (by omega) (by omega);exact⟨a'++b',tK e1 e2,a',b',rfl,r1,r2⟩
 same:=by rintro k h x cs n d ⟨a,b,rfl,h1,h2⟩ hn;exact tK (Rp.same d h1 (by omega)) (Rp.same d h2 (by omega))
 ids:=by
  rintro P k h x cs n ⟨a,b,rfl,h1,h2⟩ i hi;rw[List.flatMap_append,UL]at hi;rcases hi with hi|hi
  ·exact Rp.ids h1 i hi
  ·exact Rp.ids h2 i hi
 tag:=by rintro k h x cs n ⟨a,b,rfl,h1,h2⟩ hn;obtain⟨m1,e1,l1⟩:=Rp.tag (n:=n) h1 (by omega);obtain⟨m2,e2,l2⟩:=Rp.tag (n:=n) h2 (by omega);exact⟨max m1 m2,yy e1 e2,by omega⟩
@[reducible] def Rp.via {α β:Type} [Rp β] (f:α->β):Rp α where
 sz:=Rp.sz β
 dp:=Rp.dp β
 rp:=λP k h x cs=>Rp.rp P k h (f x) cs
 len:=Rp.len
 mono:=Rp.mono
 snap:=Rp.snap
 same:=Rp.same
 ids:=Rp.ids
 tag:=Rp.tag
def SlV{α:Type} [Rp α](P:Nat->Prop)(k:Nat)(h:H)(l:List α)(v:AV):Prop :=
 match v with
 |.nils|.esl=>l=[]
 |.tsl t s rows=>t<=k/\(s=Rp.sz α\/rows=[])/\All2 (Rp.rp NoP k .nil) l rows
 |.hsl id _ _ _ _=>P id/\∃rows,ah h (Rp.sz α) v=some rows/\All2 (Rp.rp P k h) l rows
 |_=>False
def SlR{α:Type} [Rp α](P:Nat->Prop)(k:Nat)(h:H)(l:List α)(v:AV):Prop:=l.length<9223372036854775808/\SlV P k h l v
theorem SlR.rows{α:Type} [Rp α]{P:Nat->Prop}{k:Nat}{h:H}{l:List α}{v:AV}(r:SlR P k h l v):∃rows,ah h (Rp.sz α) v=some rows/\All2 (Rp.rp P k h) l rows:=by
 have r:=r.2;unfold SlV at r
 split at r
 ·subst r;exact⟨[],rfl,trivial⟩
 ·subst r;exact⟨[],rfl,trivial⟩
 ·obtain⟨h1,h2,c⟩:=r;refine⟨_,?_,c.mono λa b r=>Rp.tree r (Ui _)⟩;simp only[ah];rw[aa];rcases h2 with h2|h2
  ·subst h2;simp
  ·subst h2;simp
 ·exact r.2
 ·exact r.elim
theorem C1{α β γ:Type}{R:α->β->Prop}{S:α->γ->Prop}{f:β->Option γ}(hf:∀a b,R a b->∃c,f b=some c/\S a c):∀{l:List α} {m:List β},All2 R l m->∃r,aD f m=some r/\All2 S l r
 |[],[],_=>⟨[],rfl,trivial⟩
 | a::l,b::m,h=>by obtain⟨c,e1,d⟩:=hf a b h.1;obtain⟨r,k,e⟩:=C1 hf h.2;exact⟨c::r,by simp only[aD,e1,k],d,e⟩
theorem C2{α β:Type}{R:α->β->Prop}{f:β->Option Nat}{k:Nat}(hf:∀a b,R a b->∃m,f b=some m/\m<=k):∀{l:List α} {m:List β},All2 R l m->∃r,h_ f m=some r/\r<=k
 |[],[],_=>⟨0,rfl,US _⟩
 | a::l,b::m,h=>by obtain⟨c,e1,e⟩:=hf a b h.1;obtain⟨r,d,i⟩:=C2 hf h.2;exact⟨max c r,by simp only[h_,e1,d],by omega⟩
theorem F7{α β:Type}{R:α->β->Prop}:∀{l:List α} {m:List β},All2 R l m->∀b∈m,∃a,R a b
 |[],[],_,b,hb=>by simp at hb
 | a::l,c::m,h,b,hb=>by
  rcases UW.1 hb with rfl|hb
  ·exact⟨a,h.1⟩
  ·exact F7 h.2 b hb
theorem tX{h h':H}{sz:Nat}{v:AV}(he:∀id ep off len lim,v=.hsl id ep off len lim->h'.get id=h.get id):ah h' sz v=ah h sz v:=by
 cases v with
 |hsl id ep off len lim=>simp only[ah,he id ep off len lim rfl]
 |_=>rfl
instance {α:Type} [Rp α]:Rp (List α) where
 sz:=1
 dp:=Rp.dp α+1
 rp:=λP k h l cs=>∃v,cs=[v]/\SlR P k h l v
 len:=by rintro P k h x cs ⟨v,rfl,h1⟩;rfl
 mono:=by
  rintro P P' k k' h h' x cs ⟨v,rfl,h0,h1⟩ hp hk;refine⟨v,rfl,h0,?_⟩;unfold SlV at h1 ⊢
  split at h1
  ·exact h1
  ·exact h1
  ·exact⟨by omega,h1.2.1,h1.2.2.mono λa b r=>Rp.mono r (λi hi=>hi.elim) hk⟩
  ·rename_i id ep off len lim;obtain⟨a,rows,b,c⟩:=h1;refine⟨(hp _ a).1,rows,?_,c.mono λa b r=>Rp.mono r hp hk⟩;rw[<-b];exact tX λ_ _ _ _ _ e=>by injection e with e;subst e;exact (hp _ a).2
  ·exact h1
 snap:=by
  rintro P k h x cs n d ⟨v,rfl,h0,h1⟩ hn hA;obtain⟨n,rfl⟩:∃m,n=m+1:=⟨n - 1,by omega⟩;have hdA:(23:Nat)+1=an:=rfl;cases v with
  |nils=>exact⟨_,rfl,_,rfl,h0,h1⟩
  |esl=>exact⟨_,rfl,_,rfl,h0,h1⟩
  | tsl t s rows =>
   refine⟨_,rfl,_,rfl,h0,?_⟩;obtain⟨q1,q2,q3⟩:=h1;exact⟨by omega,q2,q3.mono λa b r=>Rp.mono r (λi hi=>hi.elim) (by omega)⟩
  | hsl id ep off len lim =>
   obtain⟨q1,rows,q2,q3⟩:=h1;simp only[ah]at q2
   split at q2
   ·rename_i sz' rows' ep' lo fz hg;rw[aa]at q2
    split at q2
    ·rename_i hc;simp only[Uk]at hc;obtain⟨⟨hc1,hc2⟩,hc3⟩:=hc;injection q2 with q2;have e1:=Vj hc2;subst e1;obtain⟨rs,e2,a2⟩:=C1 (S:=Rp.rp NoP (max k d) .nil) (f:=aD (Hx.snap h d n)) (λa b r=>Rp.snap (n:=n) d r (by omega) (by omega)) q3;obtain⟨m,e3,l3⟩:=C2 (f:=h_ (eN an)) (k:=max k d) (λa b r=>Rp.tag (n:=an) r (by omega)) a2;refine⟨[.tsl (Nat.max d m) (Rp.sz α) rs],?_,_,rfl,h0,?_⟩
     ·simp only[aD,Hx.snap,hg,hc1,hc3,Wn,q2,e2,gz,e3]
     ·refine⟨?_,.inl rfl,a2⟩;show max d m<=max k d;omega
    ·cases q2
   ·cases q2
  |_=>exact h1.elim
 same:=by
  rintro k h x cs n d ⟨v,rfl,-,h1⟩ hn;obtain⟨n,rfl⟩:∃m,n=m+1:=⟨n - 1,by omega⟩;cases v with
  |nils=>rfl
  |esl=>rfl
  |tsl t s rows=>rfl
  |hsl id ep off len lim=>exact h1.1.elim
  |_=>exact h1.elim
 ids:=by
  rintro P k h x cs n ⟨v,rfl,-,h1⟩ i hi;cases n with
  |zero=>simp[aw]at hi
  | succ n =>
   simp only[UY,Vu,Ux]at hi;cases v with
   | hsl id ep off len lim =>
    obtain⟨q1,rows,q2,q3⟩:=h1;unfold aw at hi;rcases UW.1 hi with rfl|hi
    ·exact q1
    ·simp only[ah]at q2
     split at q2
     ·rename_i sz' rows' ep' lo fz hg;rw[aa]at q2
      split at q2
      ·injection q2 with q2;rw[hg]at hi;simp only[q2,Wb]at hi;obtain⟨row,hr,c,hc,hi⟩:=hi;obtain⟨a,r⟩:=F7 q3 row hr;exact Rp.ids (n:=n) r i (Wb.2 ⟨c,hc,hi⟩)
      ·cases q2
     ·cases q2
   |nils=>simp[aw]at hi
   |esl=>simp[aw]at hi
   |tsl t s rows=>simp[aw]at hi
   |_=>exact h1.elim
 tag:=by
  rintro k h x cs n ⟨v,rfl,-,h1⟩ hn;obtain⟨n,rfl⟩:∃m,n=m+1:=⟨n - 1,by omega⟩;cases v with
  |nils=>exact⟨0,rfl,US _⟩
  |esl=>exact⟨0,rfl,US _⟩
  |tsl t s rows=>exact⟨t,by simp[h_,eN],h1.1⟩
  |hsl id ep off len lim=>exact h1.1.elim
  |_=>exact h1.elim
theorem jx{α:Type} [Rp α]{l:List α}:Rp.rp P k h l cs↔∃v,cs=[v]/\SlR P k h l v:=Iff.rfl
theorem ax{x:Int}:Rp.rp P k h x cs↔cs=[.int .i64 x]:=by simp[Rp.rp]
theorem l9{x:Nat}:Rp.rp P k h x cs↔cs=[.int .u64 (x:Int)]/\x<18446744073709551616:=by simp[Rp.rp]
theorem gy{x:Bool}:Rp.rp P k h x cs↔cs=[.bool x]:=by simp[Rp.rp]
theorem fM{x:UInt8}:Rp.rp P k h x cs↔cs=[.int .u8 (x.toNat:Int)]:=by simp[Rp.rp]
theorem rf{α β:Type} [Rp α] [Rp β]{x:α×β}:Rp.rp P k h x cs↔∃a b,cs=a++b/\Rp.rp P k h x.1 a/\Rp.rp P k h x.2 b:=Iff.rfl
theorem SlR.ints(r:SlR P k h l v):ah h 1 v=some (l.map ci):=by obtain⟨rows,h1,h2⟩:=r.rows;rw[show (1:Nat)=Rp.sz Int from rfl,h1,h2.eq_map (f:=ci) λa b r=>ax.1 r]
theorem SlR.nats{l:List Nat}(r:SlR P k h l v):ah h 1 v=some (l.map cu):=by obtain⟨rows,h1,h2⟩:=r.rows;rw[show (1:Nat)=Rp.sz Nat from rfl,h1,h2.eq_map (f:=cu) λa b r=>(l9.1 r).1]
theorem fy(t:T)(n m:Nat)(v:AV):tat (fe t n v) m=if m=n then v else tat t m:=sp_get _ _ _ _ _
theorem yz(i:Nat)(v:AV)(vs:List AV)(t:T):ba i (v::vs) t=ba (i+1) vs (fe t i v):=rfl
theorem Gc(a:AV)(t:T):ba 0 [a] t=fe t 0 a:=rfl
theorem Gd(a b:AV)(t:T):ba 0 [a,b] t=fe (fe t 0 a) 1 b:=rfl
theorem Ge(a b c:AV)(t:T):ba 0 [a,b,c] t=fe (fe (fe t 0 a) 1 b) 2 c:=rfl
theorem Gf(a b c e:AV)(t:T):ba 0 [a,b,c,e] t=fe (fe (fe (fe t 0 a) 1 b) 2 c) 3 e:=rfl
theorem A7(i:Nat)(t:T):ba i [] t=t:=rfl
theorem JQ(m:Nat):tat Tr.nil m=AV.undef:=SJ _ _
theorem aU(d:Nat)(t:T)(v:AV):nY (some d) t v=fe t d v:=rfl
theorem FG(t:T)(n:Nat):Od.get t (.t n)=tat t n:=rfl
theorem Qr(t:T)(v:AV):Od.get t (.k v)=v:=rfl
theorem FH(t:T):eH t []=[]:=rfl
theorem CP(t:T)(o:Od)(os:List Od):eH t (o::os)=o.get t::eH t os:=rfl
theorem bg(h:H)(i:Nat)(o:AObj):(h.put i o).get i=o:=by rw[SD,Un rfl]
theorem aL(h:H)(i:Nat)(o:AObj)(hk:k≠i):(h.put i o).get k=h.get k:=by rw[SD,Um hk]
theorem IE(k:Nat):G.empty.h.get k=AObj.none:=by simp[G.empty,H.get,SJ]
theorem Fi:G.empty.nx=0:=rfl
theorem JH(v:AV)(K:AV->G->Prop)(g:G)(D:ADf->Prop):(OR.val v).sat K g D=K v g:=rfl
theorem JG(v:AV)(g':G)(K:AV->G->Prop)(g:G)(D:ADf->Prop):(OR.upd v g').sat K g D=K v g':=rfl
theorem Gj(v:AV):orV (some v)=.val v:=rfl
theorem aE{x:Int}(h:-9223372036854775808<=x)(h':x<9223372036854775808):IntKind.wrap .i64 x=x:=by
 by_cases h0:x<0
 ·exact xq x h h0
 ·obtain⟨n,rfl⟩:=Ur (show 0<=x by omega);exact nR n (by omega)
theorem dR{x:Int}(h:0<=x)(h':x<18446744073709551616):IntKind.wrap .u64 x=x:=by simp only[IntKind.wrap,IntKind.bits,IntKind.signed,Bool.false_and,VF,if_false];exact Int.emod_eq_of_lt h h'
theorem bP(k:IntKind):cZ k k=true:=by cases k<;>rfl
theorem wn(k:IntKind)(a b:Int):bB .add (.int k a) (.int k b)=.val (.int k (k.wrap (a+b))):=by simp only[bB,gf,bP,ig];rfl
theorem wo(k:IntKind)(a b:Int):bB .sub (.int k a) (.int k b)=.val (.int k (k.wrap (a - b))):=by simp only[bB,gf,bP,ig];rfl
theorem Dw(k:IntKind)(a b:Int):bB .mul (.int k a) (.int k b)=.val (.int k (k.wrap (a*b))):=by simp only[bB,gf,bP,ig];rfl
theorem Iu(k:IntKind)(a b:Int):bB .eql (.int k a) (.int k b)=.val (.bool (decide (a=b))):=by simp only[bB,gf,bP,kV];rfl
theorem Ix(k:IntKind)(a b:Int):bB .neq (.int k a) (.int k b)=.val (.bool (!decide (a=b))):=by simp only[bB,gf,bP,kV,notb_eq];rfl
theorem Iw(k:IntKind)(a b:Int):bB .lss (.int k a) (.int k b)=.val (.bool (decide (a<b))):=by simp only[bB,gf,bP,mE];rfl
theorem Du(k:IntKind)(a b:Int):bB .gtr (.int k a) (.int k b)=.val (.bool (decide (b<a))):=by simp only[bB,gf,bP,mE];rfl
theorem Dv(k:IntKind)(a b:Int):bB .leq (.int k a) (.int k b)=.val (.bool (decide (a<=b))):=by
 simp only[bB,gf,bP,mE,notb_eq]
 by_cases h:b<a
 ·rw[VA h,Va (show ¬a<=b by omega)];rfl
 ·rw[Va h,VA (show a<=b by omega)];rfl
theorem Iv(k:IntKind)(a b:Int):bB .geq (.int k a) (.int k b)=.val (.bool (decide (b<=a))):=by
 simp only[bB,gf,bP,mE,notb_eq]
 by_cases h:a<b
 ·rw[VA h,Va (show ¬b<=a by omega)];rfl
 ·rw[Va h,VA (show b<=a by omega)];rfl
theorem Iy(k:IntKind){a b:Int}(ha:0<=a)(hb:0<b):bB .quo (.int k a) (.int k b)=.val (.int k (k.wrap (a / b))):=by obtain⟨m,rfl⟩:=Ur ha;obtain⟨n,rfl⟩:=Ur (show 0<=b by omega);obtain⟨n,rfl⟩:∃j,n=j+1:=⟨n - 1,by omega⟩;simp only[bB,gf,bP];show orV (PB k (.ofNat m) (.ofNat (n+1)))=_;simp only[PB,ig];rfl
theorem iX(k:IntKind){a b:Int}(ha:0<=a)(hb:0<b):bB .rem (.int k a) (.int k b)=.val (.int k (a % b)):=by obtain⟨m,rfl⟩:=Ur ha;obtain⟨n,rfl⟩:=Ur (show 0<=b by omega);obtain⟨n,rfl⟩:∃j,n=j+1:=⟨n - 1,by omega⟩;simp only[bB,gf,bP];show orV (PK k (.ofNat m) (.ofNat (n+1)))=_;simp only[PK];rfl
theorem OK(k':IntKind)(m n:Nat):bB .shl (.int .u64 (m:Int)) (.int k' (n:Int))=.val (.int .u64 ((m*2 ^ n % 18446744073709551616:Nat):Int)):=by
 show orV (N5 .u64 (.ofNat m) (.ofNat n))=_;simp only[N5,IntKind.bits];show OR.val (.int .u64 (t_ .u64 (.ofNat (m*2 ^ (Nat.min n 64)))))=_;simp only[t_];congr 2;show ((m*2 ^ (min n 64) % 18446744073709551616:Nat):Int)=_
 by_cases h:n<=64
 ·rw[Wi h]
 ·rw[Nat.min_eq_right (by omega)];obtain⟨j,rfl⟩:∃j,n=64+j:=⟨n - 64,by omega⟩;rw[Nat.pow_add,show (18446744073709551616:Nat)=2 ^ 64 from rfl,Nat.mul_mod_left,<-WW,Wg (m*2 ^ 64),<-WW,Nat.mul_mod_left]
theorem iY(k':IntKind)(m n:Nat)(h:m<18446744073709551616):bB .shr (.int .u64 (m:Int)) (.int k' (n:Int))=.val (.int .u64 ((m / 2 ^ n:Nat):Int)):=by
 show orV (N6 .u64 (.ofNat m) (.ofNat n))=_;simp only[N6,IntKind.bits];show OR.val (.int .u64 (.ofNat (m / 2 ^ (Nat.min n 64))))=_;congr 2;show ((m / 2 ^ (min n 64):Nat):Int)=_
 by_cases h2:n<=64
 ·rw[Wi h2]
 ·rw[Nat.min_eq_right (by omega)];obtain⟨j,rfl⟩:∃j,n=64+j:=⟨n - 64,by omega⟩;rw[Nat.pow_add,<-Nat.div_div_eq_div_mul,show (2 ^ 64:Nat)=18446744073709551616 from rfl,VN h,Nat.zero_div]
theorem x_(h:m<18446744073709551616)(h':n<18446744073709551616):mJ .u64 m n=true:=by simp only[mJ,Uk,U_];exact⟨h,h'⟩
theorem Dx(m n:Nat)(h:m<18446744073709551616)(h':n<18446744073709551616):bB .or (.int .u64 (m:Int)) (.int .u64 (n:Int))=.val (.int .u64 ((m ||| n:Nat):Int)):=by show orV (ak (mJ .u64 m n) _ _)=_;rw[x_ h h'];rfl
theorem mC(m n:Nat)(h:m<18446744073709551616)(h':n<18446744073709551616):bB .and (.int .u64 (m:Int)) (.int .u64 (n:Int))=.val (.int .u64 ((m &&& n:Nat):Int)):=by show orV (ak (mJ .u64 m n) _ _)=_;rw[x_ h h'];rfl
theorem zI(m n:Nat)(h:m<18446744073709551616)(h':n<18446744073709551616):bB .andNot (.int .u64 (m:Int)) (.int .u64 (n:Int))=.val (.int .u64 ((m ^^^ (m &&& n):Nat):Int)):=by show orV (ak (mJ .u64 m n) _ _)=_;rw[x_ h h'];rfl
theorem Nx(h:m<18446744073709551616)(h':n<18446744073709551616):m ||| n<18446744073709551616:=WZ (n:=64) h h'
theorem Ga(b:Bool):Pu (.bool b)=.val (.bool (!b)):=by simp only[Pu,notb_eq]
theorem Ab(k k':IntKind)(a:Int):Fb k (.int k' a)=.val (.int k (k.wrap a)):=by simp only[Fb,ig]
theorem NH(a b:AV):Js (.bool true) a b=.val a:=rfl
theorem NG(a b:AV):Js (.bool false) a b=.val b:=rfl
theorem No(k:IntKind)(a b:Int):mxV (.int k a) (.int k b)=.val (.int k (max a b)):=by
 simp only[mxV,bP,mE]
 by_cases h:a<b
 ·rw[VA h,Int.max_eq_right (by omega)]
 ·rw[Va h,Int.max_eq_left (by omega)]
theorem Nm(k:IntKind)(a b:Int):mnV (.int k a) (.int k b)=.val (.int k (min a b)):=by
 simp only[mnV,bP,mE]
 by_cases h:b<a
 ·rw[VA h,Int.min_eq_right (by omega)]
 ·rw[Va h,Int.min_eq_left (by omega)]
def nZ(sz:Nat)(v:AV)(i off:Nat):AV :=
 match v with
 |.tsl l _ rows=>.tptr l sz rows i off
 |.hsl id ep o _ _=>.hptr id ep (o+i) off
 |_=>.undef
theorem AS{sz:Nat}{rows:List (List AV)}(h:ah g.h sz v=some rows):jC .slice v g=.val (.int .i64 (rows.length:Int)):=by
 unfold ah at h
 split at h
 ·injection h with h;subst h;rfl
 ·injection h with h;subst h;rfl
 ·rw[aa]at h
  split at h
  ·injection h with h;subst h;simp only[jC,aq];rfl
  ·cases h
 ·split at h
  ·rw[aa]at h
   split at h
   ·rename_i hc;injection h with h;subst h;simp only[Uk,UR,aq]at hc;simp only[jC,bk,bh,U0,WQ];congr 3;rw[Wi (by omega)]
   ·cases h
  ·cases h
 ·cases h
theorem mS{sz:Nat}{rows:List (List AV)}(hv:ah h sz v=some rows)(g:G):jC .slice v g=.val (.int .i64 (rows.length:Int)) :=
 (show jC .slice v g=jC .slice v ⟨h,0,[]⟩ from by cases v<;>rfl).trans (AS (g:=⟨h,0,[]⟩) hv)
theorem MY{sz:Nat}{rows:List (List AV)}{k:IntKind}{i:Int}(h:ah g.h sz v=some rows)(h0:0<=i)(hi:i<rows.length) :
  FU sz v (.int k i) g=.val (nZ sz v i.toNat 0):=by
 obtain⟨n,rfl⟩:=Ur h0;have hi:n<rows.length:=by omega
 show FU sz v (.int k (.ofNat n)) g=.val (nZ sz v n 0);unfold ah at h
 split at h
 ·injection h with h;subst h;simp at hi
 ·injection h with h;subst h;simp at hi
 ·rw[aa]at h
  split at h
  ·rename_i hc;injection h with h;subst h;rename_i sz' rows _;have:Nat.beq sz sz'=true:=by
    simp only[UZ,List.isEmpty_iff]at hc;rcases hc with hc|hc
    ·exact hc
    ·rw[hc]at hi;simp at hi
   simp only[FU,gZ,this,aq,Vd,aa,U_,Un hi,nZ]
  ·cases h
 ·split at h
  ·rename_i sz' rows' ep' lo fz hg;rw[aa]at h
   split at h
   ·rename_i hc;injection h with h;subst h;simp only[Uk]at hc;simp only[bk,bh,U0,WQ]at hi;simp only[FU,gZ,G.get_eq,hg,hc.1.1,hc.1.2,Vd,aa,U_];rw[Un (by omega)];rfl
   ·cases h
  ·cases h
 ·cases h
theorem KL{sz:Nat}{rows:List (List AV)}{ag:Bool}(h:ah g.h sz v=some rows)(hr:rows[i]?=some row) :
  qh ag n (nZ sz v i off) g=orV (ch ag n row off):=by
 unfold ah at h
 split at h
 ·injection h with h;subst h;simp at hr
 ·injection h with h;subst h;simp at hr
 ·rw[aa]at h
  split at h
  ·injection h with h;subst h;simp only[qh,nH,nZ,dO,hr]
  ·cases h
 ·split at h
  ·rename_i sz' rows' ep' lo fz hg;rw[aa]at h
   split at h
   ·rename_i hc;injection h with h;subst h;simp only[Uk]at hc;simp only[bk,bh,V_,UO]at hr
    split at hr
    ·simp only[qh,nH,nZ,G.get_eq,hg,hc.1.1,dO,hr]
    ·cases hr
   ·cases h
  ·cases h
 ·cases h
theorem Fv(fo id ep i off:Nat):Mk fo (.hptr id ep i off)=.val (.hptr id ep i (off+fo)):=rfl
theorem Gk:ch false n row off=row[off]?:=by simp only[ch,dO]
theorem NF(h:off+n<=row.length):ch true n row off=some (.agg ((row.drop off).take n)):=by simp only[ch,bk,bh,aq,U0,WQ,aa];rw[Un];rw[Wi (by omega)];exact UT n
theorem Bo{id ep sz:Nat}{rows:List (List AV)}{lo:Bool}{row':List AV}(hg:g.h.get id=.cells sz rows ep lo false)(hr:rows[i]?=some row)
  (hc:x.cells=cs) (ht:x.isTup=false) (hl:cs.length=n) (hp:cH row off cs=some row') :
  nO n (.hptr id ep i off) x g=.upd .undef (g.put id (.cells sz (rows.set i row') ep lo false)):=by
 subst hc;simp only[nO,pz,G.get_eq,hg,dO,hr,show Nat.beq ep ep=true from UT ep,aq,hl,show Nat.beq n n=true from UT n,ht,notb_eq,Wy,Wn,hp,il]
def ze(o:AObj)(ep off len sz:Nat):Option (List (List AV)) :=
 match o with
 |.cells sz' rows ep' _ _=>ak (Nat.beq ep ep'&&Nat.beq sz sz'&&Nat.ble (off+len) (bi rows)) (some (jB len (iA off rows))) none
 |_=>none
theorem yA(h:H)(sz:Nat):ah h sz .nils=some []:=rfl
theorem q_(h:H)(sz t:Nat)(rows:List (List AV)):ah h sz (.tsl t sz rows)=some rows:=by simp only[ah,show Nat.beq sz sz=true from UT sz,WH]
theorem kC(h:H)(sz id ep off len:Nat)(lim:Option Nat):ah h sz (.hsl id ep off len lim)=ze (h.get id) ep off len sz:=rfl
theorem fB(sz:Nat)(rows:List (List AV))(ep:Nat)(lo fz:Bool)(off len:Nat) :
  ze (.cells sz rows ep lo fz) ep off len sz=if off+len<=rows.length then some ((rows.drop off).take len) else none:=by
 simp only[ze,show Nat.beq sz sz=true from UT sz,show Nat.beq ep ep=true from UT ep,Vd,aa,UR,aq,bk,bh]
theorem FL(sz:Nat)(rows:List (List AV))(ep:Nat)(lo fz:Bool):ze (.cells sz rows ep lo fz) ep 0 rows.length sz=some rows:=by rw[fB,Un (by omega)];simp
def aI(o:AObj)(ep i:Nat)(ag:Bool)(n off:Nat):OR :=
 match o with
 |.cells _ rows ep' _ _=>ak (Nat.beq ep ep') (match rows[i]? with|some row=>orV (ch ag n row off)|none=>.fail) .fail
 |_=>.fail
theorem AU(g:G)(id ep i off n:Nat)(ag:Bool):qh ag n (.hptr id ep i off) g=aI (g.h.get id) ep i ag n off:=by
 simp only[qh,nH,G.get_eq,aI,dO]
 rfl
theorem tG(sz:Nat)(rows:List (List AV))(ep:Nat)(lo fz:Bool)(i n off:Nat)(ag:Bool) :
  aI (.cells sz rows ep lo fz) ep i ag n off=match rows[i]? with|some row=>orV (ch ag n row off)|none=>.fail:=by
 simp only[aI,show Nat.beq ep ep=true from UT ep]
def eI(o:AObj)(g:G)(id ep i n off:Nat)(x:AV):OR :=
 match o with
 | .cells sz rows ep' lo fz=>ak (Nat.beq ep ep'&&Nat.beq x.cells.length n&&ju fz&&ju x.isTup) (match rows[i]? with
   | some row=>match cH row off x.cells with
    |some row'=>.upd .undef (g.put id (.cells sz (rows.set i row') ep lo fz))
    |none=>.fail
   |none=>.fail) .fail
 |_=>.fail
theorem yH(g:G)(id ep i off n:Nat)(x:AV):nO n (.hptr id ep i off) x g=eI (g.h.get id) g id ep i n off x:=by
 simp only[nO,pz,G.get_eq,eI,dO,aq,il]
 rfl
theorem rP(sz:Nat)(rows:List (List AV))(ep:Nat)(lo:Bool)(g:G)(id i n off:Nat)(x:AV)(hl:x.cells.length=n)(ht:x.isTup=false) :
  eI (.cells sz rows ep lo false) g id ep i n off x=match rows[i]? with
   | some row=>match cH row off x.cells with
    |some row'=>.upd .undef (g.put id (.cells sz (rows.set i row') ep lo false))
    |none=>.fail
   |none=>.fail:=by
 simp only[eI,show Nat.beq ep ep=true from UT ep,hl,show Nat.beq n n=true from UT n,ht,notb_eq,Wy,Wn]
theorem CY{sz:Nat}{ag:Bool}(h:(ah g.h sz v).isSome=true)(hi:i<((ah g.h sz v).getD []).length) :
  qh ag n (nZ sz v i off) g=orV (ch ag n (((ah g.h sz v).getD [])[i]?.getD []) off):=by
 obtain⟨rows,hr⟩:=Option.isSome_iff_exists.1 h;rw[hr]at hi ⊢;simp only[Us]at hi ⊢;rw[KL hr (Uj hi),Uj hi,Us]
theorem MZ{sz:Nat}{k:IntKind}{i:Int}(h:(ah g.h sz v).isSome=true)(h0:0<=i)(hi:i<((ah g.h sz v).getD []).length) :
  FU sz v (.int k i) g=.val (nZ sz v i.toNat 0):=by
 obtain⟨rows,hr⟩:=Option.isSome_iff_exists.1 h;rw[hr]at hi;exact MY hr h0 hi
theorem IW{sz:Nat}{k:IntKind}(h:(ah g.h sz v).isSome=true)(hi:i<((ah g.h sz v).getD []).length) :
  FU sz v (.int k (i:Int)) g=.val (nZ sz v i 0):=MZ h (Wz i) (by omega)
def xX:AV->Bool
 |.tsl ..|.hsl ..=>true
 |_=>false
theorem Fw{sz:Nat}{fo:Nat}(h:xX v=true):Mk fo (nZ sz v i off)=.val (nZ sz v i (off+fo)):=by cases v<;>first|rfl|cases h
theorem Eu{sz:Nat}{rows:List (List AV)}(hv:ah h sz v=some rows)(hi:i<rows.length):xX v=true:=by
 unfold ah at hv
 split at hv
 ·injection hv with h;subst h;simp at hi
 ·injection hv with h;subst h;simp at hi
 ·rfl
 ·rfl
 ·cases hv
def pf(h:H)(v:AV):List Int:=((ah h 1 v).getD []).map λr=>match r with|[.int _ x]=>x|_=>0
def AJ(h:H)(v:AV):Prop:=ah h 1 v=some ((pf h v).map ci)
theorem MU(l:List Int):(l.map ci).map (λr=>match r with|[.int _ x]=>x|_=>0)=l:=by
 induction l with
 |nil=>rfl
 |cons a l ih=>simp only[VM,ih,ci]
theorem IU(hv:ah h 1 v=some (l.map ci)):pf h v=l:=by simp only[pf,hv,Us,MU]
theorem KG(hv:ah h 1 v=some (l.map ci)):AJ h v:=by unfold AJ;rw[IU hv,hv]
theorem Qz{α:Type}(a:α)(l:List α):(a::l)[0]?=some a:=rfl
theorem QA{α:Type}(a b:α)(l:List α):(a::b::l)[1]?=some b:=rfl
theorem QB{α:Type}(a b c:α)(l:List α):(a::b::c::l)[2]?=some c:=rfl
theorem QC{α:Type}(a b c e:α)(l:List α):(a::b::c::e::l)[3]?=some e:=rfl
theorem QD{α:Type}(a b c e p:α)(l:List α):(a::b::c::e::p::l)[4]?=some p:=rfl
theorem QE{α:Type}(a b c e p q:α)(l:List α):(a::b::c::e::p::q::l)[5]?=some q:=rfl
theorem QF{α:Type}(a b c e p q r:α)(l:List α):(a::b::c::e::p::q::r::l)[6]?=some r:=rfl
theorem QG{α:Type}(a b c e p q r s:α)(l:List α):(a::b::c::e::p::q::r::s::l)[7]?=some s:=rfl
theorem QH{α:Type}(a b c e p q r s u:α)(l:List α):(a::b::c::e::p::q::r::s::u::l)[8]?=some u:=rfl
@[reducible] def o (d:Nat) (op:SO):SI:=⟨some d,none,op⟩
@[reducible] def oz (op:SO):SI:=⟨none,none,op⟩
@[reducible] def og (d s:Nat) (w:Bool) (op:SO):SI:=⟨some d,some (s,w),op⟩
@[reducible] def ozg (s:Nat) (w:Bool) (op:SO):SI:=⟨none,some (s,w),op⟩
section steps
variable {C:Cfg}{d:Nat}{rd:Option Nat}
theorem J1(Q:QT)(t:T)(df:List ADf)(g:G):wp C d rd .skip Q t df g=Q .norm t df g:=rfl
theorem BB(l:List SI)(Q:QT)(t:T)(df:List ADf)(g:G):wp C d rd (.ops l) Q t df g=wpO C d rd l (Q .norm) t df g:=rfl
theorem GS(l:List SI)(Q:QT)(t:T)(df:List ADf)(g:G):wp C d rd (.quiet l) Q t df g=wpO C d rd l (kQ g Q) t df (aR g []):=rfl
theorem J0(pm:List Nat)(l:List SI)(Q:QT)(t:T)(df:List ADf)(g:G):wp C d rd (.feet pm l) Q t df g=wpF C d rd pm l (Q .norm) t df g []:=rfl
theorem dU(a b:SC)(Q:QT)(t:T)(df:List ADf)(g:G):wp C d rd (.seq a b) Q t df g=wp C d rd a (kS (wp C d rd b Q) Q) t df g:=rfl
theorem EN(c:Od)(a b:SC)(Q:QT)(t:T)(df:List ADf)(g:G):wp C d rd (.cond c a b) Q t df g=wpC (c.get t) (wp C d rd a Q) (wp C d rd b Q) t df g:=rfl
theorem BA(id:Nat)(b:SC)(Q:QT)(t:T)(df:List ADf)(g:G):wp C d rd (.blk id b) Q t df g=wp C d rd b (kB id Q) t df g:=rfl
theorem EO(b:SC)(Q:QT)(t:T)(df:List ADf)(g:G):wp C d rd (.loop b) Q t df g=wpL (wp C d rd b) Q t df g:=rfl
theorem JZ(id:Nat)(Q:QT)(t:T)(df:List ADf)(g:G):wp C d rd (.exit id) Q t df g=Q (.exit id) t df g:=rfl
theorem OC(Q:QT)(t:T)(df:List ADf)(g:G):wp C d rd .ret Q t df g=Q .ret t df g:=rfl
theorem Qu(g0:G)(Q:QT)(t:T)(df:List ADf)(g:G):kQ g0 Q t df g=(g.lg=[]/\g.nx=g0.nx/\Q .norm t df g0):=rfl
theorem JV(Q:PT)(t:T)(df:List ADf)(g:G):wpO C d rd [] Q t df g=Q t df g:=rfl
theorem QR(n:Nat)(op:SO)(r:List SI)(Q:PT)(t:T)(df:List ADf)(g:G) :
  wpO C d rd (o n op::r) Q t df g=(op.run C d rd t g).sat (kO (wpO C d rd r Q) (some n) t df) g (kD (wpO C d rd r Q) (some n) t df g):=rfl
theorem Ow(op:SO)(r:List SI)(Q:PT)(t:T)(df:List ADf)(g:G) :
  wpO C d rd (oz op::r) Q t df g=(op.run C d rd t g).sat (kO (wpO C d rd r Q) none t df) g (kD (wpO C d rd r Q) none t df g):=rfl
theorem Ou(n s:Nat)(w:Bool)(op:SO)(r:List SI)(Q:PT)(t:T)(df:List ADf)(g:G) :
  wpO C d rd (og n s w op::r) Q t df g=gdP (tat t s) w (pu C d rd (o n op) (wpO C d rd r Q)) (yE (o n op) (wpO C d rd r Q)) t df g:=rfl
theorem JW(s:Nat)(w:Bool)(op:SO)(r:List SI)(Q:PT)(t:T)(df:List ADf)(g:G) :
  wpO C d rd (ozg s w op::r) Q t df g=gdP (tat t s) w (pu C d rd (oz op) (wpO C d rd r Q)) (yE (oz op) (wpO C d rd r Q)) t df g:=rfl
theorem N0(n:Nat)(op:SO)(W:PT)(t:T)(df:List ADf)(g:G):pu C d rd (o n op) W t df g=(op.run C d rd t g).sat (kO W (some n) t df) g (kD W (some n) t df g):=rfl
theorem JD(op:SO)(W:PT)(t:T)(df:List ADf)(g:G):pu C d rd (oz op) W t df g=(op.run C d rd t g).sat (kO W none t df) g (kD W none t df g):=rfl
theorem JM(n:Nat)(op:SO)(W:PT)(t:T)(df:List ADf)(g:G):yE (o n op) W t df g=W (fe t n .undef) df g:=rfl
theorem GE(op:SO)(W:PT)(t:T)(df:List ADf)(g:G):yE (oz op) W t df g=W t df g:=rfl
theorem I7(W:PT)(n:Nat)(t:T)(df:List ADf)(v:AV)(g:G):kO W (some n) t df v g=W (fe t n v) df g:=rfl
theorem I6(W:PT)(t:T)(df:List ADf)(v:AV)(g:G):kO W none t df v g=W t df g:=rfl
theorem Qq(q:Bool)(A B:PT)(t:T)(df:List ADf)(g:G):gdP (.bool q) true A B t df g=xy q A B t df g:=rfl
theorem Qp(q:Bool)(A B:PT)(t:T)(df:List ADf)(g:G):gdP (.bool q) false A B t df g=xy q B A t df g:=rfl
theorem CO(w:Bool)(A B:PT)(t:T)(df:List ADf)(g:G):gdP (.tup []) w A B t df g=B t df g:=rfl
theorem Ck(A B:PT)(t:T)(df:List ADf)(g:G):xy true A B t df g=A t df g:=by simp[xy]
theorem zG(A B:PT)(t:T)(df:List ADf)(g:G):xy false A B t df g=B t df g:=by simp[xy]
theorem GO(q:Bool)(A B:PT)(t:T)(df:List ADf)(g:G):wpC (.bool q) A B t df g=xy q A B t df g:=rfl
theorem I9(W:PT)(Q:QT)(t:T)(df:List ADf)(g:G):kS W Q .norm t df g=W t df g:=rfl
theorem I8(W:PT)(Q:QT)(id:Nat)(t:T)(df:List ADf)(g:G):kS W Q (.exit id) t df g=Q (.exit id) t df g:=rfl
theorem M_(W:PT)(Q:QT)(t:T)(df:List ADf)(g:G):kS W Q .ret t df g=Q .ret t df g:=rfl
theorem IY(id:Nat)(Q:QT)(t:T)(df:List ADf)(g:G):kB id Q .norm t df g=Q .norm t df g:=rfl
theorem M4(id:Nat)(Q:QT)(t:T)(df:List ADf)(g:G):kB id Q .ret t df g=Q .ret t df g:=rfl
theorem Pa(id:Nat)(Q:QT)(t:T)(df:List ADf)(g:G):kB id Q (.exit id) t df g=Q .norm t df g:=by simp[kB]
theorem M3(id j:Nat)(Q:QT)(t:T)(df:List ADf)(g:G)(h:j≠id):kB id Q (.exit j) t df g=Q (.exit j) t df g:=by simp only[kB];rw[aa,Um (λe=>h (Vj e))]
theorem kX(id j:Nat)(Q:QT)(t:T)(df:List ADf)(g:G):kB id Q (.exit j) t df g=if j=id then Q .norm t df g else Q (.exit j) t df g:=by
 by_cases h:j=id
 ·subst h;rw[Pa,Un rfl]
 ·rw[M3 _ _ _ _ _ _ h,Um h]
theorem I5(Inv:Nat->PT)(k:Nat)(Q:QT)(t:T)(df:List ADf)(g:G):kL Inv k Q .norm t df g=∃k',k'<k/\Inv k' t df g:=rfl
theorem I4(Inv:Nat->PT)(k:Nat)(Q:QT)(id:Nat)(t:T)(df:List ADf)(g:G):kL Inv k Q (.exit id) t df g=Q (.exit id) t df g:=rfl
theorem M7(Inv:Nat->PT)(k:Nat)(Q:QT)(t:T)(df:List ADf)(g:G):kL Inv k Q .ret t df g=Q .ret t df g:=rfl
theorem ij{q:Bool}{A B:PT}(h1:q=true->A t df g)(h2:q=false->B t df g):xy q A B t df g:=⟨h1,h2⟩
theorem FA(r:List SR)(K:AV->G->Prop)(t:T)(df:List ADf)(g:G):fnQ C d r K .norm t df g=uC C d r t df g K:=rfl
theorem kT(r:List SR)(K:AV->G->Prop)(t:T)(df:List ADf)(g:G):fnQ C d r K .ret t df g=uC C d r t df g K:=rfl
theorem Fj(r:List SR)(K:AV->G->Prop)(t:T)(g:G):uC C d r t [] g K=v8 r t g λvs=>K (jv vs) g:=rfl
theorem Gw(t:T)(g:G)(K:List AV->Prop):v8 [] t g K=K []:=rfl
theorem Jz(n:Nat)(r:List SR)(t:T)(g:G)(K:List AV->Prop):v8 (.tm n::r) t g K=v8 r t g λvs=>K (tat t n::vs):=rfl
theorem wY(v:AV):jv [v]=v:=rfl
theorem pC{W:QT->PT}{Q:QT}(Inv:Nat->PT)(k:Nat)(h0:Inv k t df g)(h:∀k t df g,Inv k t df g->W (kL Inv k Q) t df g):wpL W Q t df g:=⟨Inv,⟨k,h0⟩,h⟩
end steps
theorem sx:type_of% (Uf @JV <|Uf @QR <|Uf @Ow <|Uf @Ou <|Uf @JW <|Uf @N0 <|Uf @JD <|Uf @JM <|Uf @GE <|
 Uf @I7 <|Uf @I6 <|Uf @Qq <|Uf @Qp <|Uf @CO <|Uf @Ck <|Uf @zG <|Uf @GO <|Uf @I9 <|Uf @I8 <|Uf @M_ <|
 Uf @IY <|Uf @M4 <|Uf @kX <|Uf @I5 <|Uf @I4 <|Uf @M7 <|Uf @FA <|Uf @kT <|Uf @Fj <|Uf @Gw <|Uf @Jz <|
 Uf @wY <|Uf @fy <|Uf @Gc <|Uf @Gd <|Uf @Ge <|Uf @Gf <|Uf @J1 <|Uf @BB <|Uf @GS <|Uf @J0 <|Uf @dU <|Uf @EN <|Uf @BA <|Uf @EO <|Uf @JZ <|Uf @OC <|Uf @A7 <|Uf @JQ <|Uf @FG <|Uf @Qr <|Uf @FH <|Uf @CP <|Uf @JH <|Uf @JG <|Uf @Gj <|
 Uf @wn <|Uf @wo <|Uf @Dw <|Uf @Iu <|Uf @Ix <|Uf @Iw <|Uf @Du <|Uf @Dv <|Uf @Iv <|Uf @Ga <|Uf @Ab <|Uf @NH <|Uf @NG <|
 Uf @No <|Uf @Nm <|Uf @Fv <|Uf @AU <|Uf @tG <|Uf @yH <|Uf @Gk <|Uf @CY <|Uf @Fw <|Uf @IW <|
 Uf @Qz <|Uf @QA <|Uf @QB <|Uf @QC <|Uf @QD <|Uf @QE <|Uf @QF <|Uf @QG <|Uf @QH <|Uf @G.put_h <|Uf @G.put_nx <|Uf @G.new_h <|Uf @G.new_nx <|Uf @bg <|Uf @Fi <|@IE) :=
 Uf @JV <|Uf @QR <|Uf @Ow <|Uf @Ou <|Uf @JW <|Uf @N0 <|Uf @JD <|Uf @JM <|Uf @GE <|
 Uf @I7 <|Uf @I6 <|Uf @Qq <|Uf @Qp <|Uf @CO <|Uf @Ck <|Uf @zG <|Uf @GO <|Uf @I9 <|Uf @I8 <|Uf @M_ <|
 Uf @IY <|Uf @M4 <|Uf @kX <|Uf @I5 <|Uf @I4 <|Uf @M7 <|Uf @FA <|Uf @kT <|Uf @Fj <|Uf @Gw <|Uf @Jz <|
 Uf @wY <|Uf @fy <|Uf @Gc <|Uf @Gd <|Uf @Ge <|Uf @Gf <|Uf @J1 <|Uf @BB <|Uf @GS <|Uf @J0 <|Uf @dU <|Uf @EN <|Uf @BA <|Uf @EO <|Uf @JZ <|Uf @OC <|Uf @A7 <|Uf @JQ <|Uf @FG <|Uf @Qr <|Uf @FH <|Uf @CP <|Uf @JH <|Uf @JG <|Uf @Gj <|
 Uf @wn <|Uf @wo <|Uf @Dw <|Uf @Iu <|Uf @Ix <|Uf @Iw <|Uf @Du <|Uf @Dv <|Uf @Iv <|Uf @Ga <|Uf @Ab <|Uf @NH <|Uf @NG <|
 Uf @No <|Uf @Nm <|Uf @Fv <|Uf @AU <|Uf @tG <|Uf @yH <|Uf @Gk <|Uf @CY <|Uf @Fw <|Uf @IW <|
 Uf @Qz <|Uf @QA <|Uf @QB <|Uf @QC <|Uf @QD <|Uf @QE <|Uf @QF <|Uf @QG <|Uf @QH <|Uf @G.put_h <|Uf @G.put_nx <|Uf @G.new_h <|Uf @G.new_nx <|Uf @bg <|Uf @Fi <|@IE
def St(t:T):List (Nat×AV)->Prop
 |[]=>True
 | (n,v)::r=>tat t n=v/\St t r
abbrev VS:=(Nat->Prop)->Nat->H->AV->Prop
def One{α:Type} [Rp α](x:α):VS:=λP k h v=>Rp.rp P k h x [v]
def Agg{α:Type} [Rp α](x:α):VS:=λP k h v=>∃cs,v=.agg cs/\Rp.rp P k h x cs
def oE(S R:VS):VS:=λP k h v=>∃a b,v=.tup [a,b]/\S P k h a/\R P k h b
structure Snb (S:VS) (j:Nat):Prop where
 snap:∀{P k h v n} (d:Nat),S P k h v->20+j<=n->∃v',Hx.snap h d n v=some v'/\S NoP (max k d) .nil v'
 tag:∀{k h v n},S NoP k h v->20+j<=n->∃m,eN n v=some m/\m<=k
theorem aG{α:Type} [Rp α](x:α)(hd:Rp.dp α<=20:=by decide):Snb (One x) 0:=by
 refine⟨λ{P k h v n} d r hn=>?_,λ{k h v n} r hn=>?_⟩
 ·obtain⟨cs',e,r'⟩:=Rp.snap (n:=n) d r (by omega) (by show _<=24;omega);simp only[aD]at e
  split at e
  ·rename_i w hw;injection e with e;subst e;exact⟨w,hw,r'⟩
  ·cases e
 ·obtain⟨m,e,l⟩:=Rp.tag (n:=n) r (by omega);simp only[h_]at e
  split at e
  ·rename_i w hw;injection e with e;subst e;exact⟨w,hw,by have:Nat.max w 0=w:=Nat.max_eq_left (US w);omega⟩
  ·cases e
theorem dw{α:Type} [Rp α](x:α)(hd:Rp.dp α<=20:=by decide):Snb (Agg x) 1:=by
 refine⟨λ{P k h v n} d r hn=>?_,λ{k h v n} r hn=>?_⟩
 ·obtain⟨cs,rfl,r⟩:=r;obtain⟨n,rfl⟩:∃m,n=m+1:=⟨n - 1,by omega⟩;obtain⟨cs',e,r'⟩:=Rp.snap (n:=n) d r (by omega) (by show _<=24;omega);exact⟨.agg cs',by simp only[Hx.snap,e],cs',rfl,r'⟩
 ·obtain⟨cs,rfl,r⟩:=r;obtain⟨n,rfl⟩:∃m,n=m+1:=⟨n - 1,by omega⟩;obtain⟨m,e,l⟩:=Rp.tag (n:=n) r (by omega);exact⟨m,by simp only[eN,e],l⟩
theorem bY{S R:VS}(hs:Snb S i)(hr:Snb R j)(hi:i+1<=m)(hj:j+1<=m):Snb (oE S R) m:=by
 refine⟨λ{P k h v n} d r hn=>?_,λ{k h v n} r hn=>?_⟩
 ·obtain⟨a,b,rfl,e,l⟩:=r;obtain⟨n,rfl⟩:∃m,n=m+1:=⟨n - 1,by omega⟩;obtain⟨a',e1,f⟩:=hs.snap (n:=n) d e (by omega);obtain⟨b',c,o⟩:=hr.snap (n:=n) d l (by omega);exact⟨.tup [a',b'],by simp only[Hx.snap,aD,e1,c],a',b',rfl,f,o⟩
 ·obtain⟨a,b,rfl,e,l⟩:=r;obtain⟨n,rfl⟩:∃m,n=m+1:=⟨n - 1,by omega⟩;obtain⟨p,e1,l1⟩:=hs.tag (n:=n) e (by omega);obtain⟨q,c,l2⟩:=hr.tag (n:=n) l (by omega);refine⟨max p q,?_,by omega⟩;simp only[eN,h_,e1,c];congr 1;show max p (max q 0)=_;omega
def Arg(S:VS)(k d:Nat)(h:H)(v v':AV):Prop:=Hx.snap h d an v=some v'/\S NoP k .nil v'
theorem sj{S:VS}(hs:Snb S j)(hj:j<=4)(d:Nat)(r:S P k h v):∃v',Arg S (max k d) d h v v':=by obtain⟨v',e,r'⟩:=hs.snap (n:=an) d r (by show _<=24;omega);exact⟨v',e,r'⟩
theorem lf{α:Type} [Rp α]{x:α}(d:Nat)(r:Agg x NoP k h v)(hd:Rp.dp α<=20:=by decide):Hx.snap h d an v=some v:=by obtain⟨cs,rfl,r⟩:=r;show (match aD (Hx.snap h d 23) cs with|some as=>some (AV.agg as)|none=>none)=_;rw[Rp.same (n:=23) d r (by omega)]
theorem Ey{α:Type} [Rp α]{l:List α}(d:Nat)(r:SlR NoP k h l v):Hx.snap h d an v=some v:=by
 have r:=r.2;unfold SlV at r
 split at r<;>first|rfl|exact r.1.elim|exact r.elim
theorem cg(k d:Nat)(h:H)(q:IntKind)(x:Int):Hx.snap h d an (.int q x)=some (.int q x):=rfl
theorem LF(hv:AJ h v)(hl:(pf h v).length<9223372036854775808)(d:Nat) :
  ∃v',Hx.snap h d an v=some v'/\(∀h',ah h' 1 v'=some ((pf h v).map ci))/\∀g,jC .slice v' g=.val (.int .i64 ((pf h v).length:Int)):=by
 suffices hs:∃v',Hx.snap h d an v=some v'/\(∀h',ah h' 1 v'=some ((pf h v).map ci)) by obtain⟨v',e,hr⟩:=hs;exact⟨v',e,hr,λg=>by rw[mS (hr .nil),UK]⟩
 obtain⟨k,r⟩:∃k,SlV (λ_=>True) k h (pf h v) v:=by
  have e:=hv;unfold AJ at e;have all:∀P k h',All2 (Rp.rp P k h') (pf h v) ((pf h v).map ci):=λP k h'=>Sx (λa=>ax.2 rfl) _;cases v with
  |nils=>exact⟨0,by simp only[ah]at e;injection e with e;exact (List.map_eq_nil_iff.1 e.symm)⟩
  |esl=>exact⟨0,by simp only[ah]at e;injection e with e;exact (List.map_eq_nil_iff.1 e.symm)⟩
  | tsl t s rows =>
   refine⟨t,Ui t,?_,?_⟩
   ·simp only[ah,aa]at e
    split at e
    ·rename_i hc;rw[UZ]at hc;rcases hc with hc|hc
     ·exact .inl (Vj hc).symm
     ·exact .inr (List.isEmpty_iff.1 hc)
    ·cases e
   ·simp only[ah,aa]at e
    split at e
    ·injection e with e;exact cast (congrArg _ e.symm) (all NoP t .nil)
    ·cases e
  |hsl id ep off len lim=>exact⟨0,trivial,_,e,all _ _ _⟩
  |_=>simp[ah]at e
 obtain⟨v',e,r'⟩:=(aG (pf h v)).snap (n:=an) d (show One (pf h v) _ k h v from ⟨v,rfl,hl,r⟩) (by decide);refine⟨v',e,λh'=>?_⟩;obtain⟨w,hw,r'⟩:=r';injection hw with hw;subst hw;have:SlR (λ_=>True) (max k d) h' (pf h v) v':=by have:=(Rp.mono (P':=λ_=>True) (k':=max k d) (h':=h') (show Rp.rp NoP (max k d) .nil (pf h v) [v'] from ⟨v',rfl,r'⟩) (λi hi=>hi.elim) (Ui _));obtain⟨w,hw,q⟩:=this;injection hw with hw;subst hw;exact q
 exact this.ints
abbrev IT (k:Nat)(l:List Int)(r:AV):Prop:=One l NoP k .nil r
theorem IT.sl{r:AV}(h:IT k l r)(h':H):SlR NoP k h' l r:=by obtain⟨w,hw,q⟩:=Rp.tree (P:=NoP) (k':=k) (h':=h') h (Ui _);injection hw with hw;subst hw;exact q
theorem SlR.cell{α:Type} [Rp α]{l:List α}(r:SlR P k h l v):v.cells=[v]/\v.isTup=false:=by
 have r:=r.2;unfold SlV at r
 split at r<;>first|exact⟨rfl,rfl⟩|exact r.elim
section iso
variable {C:Cfg}{f d:Nat}{s:SF}{g:G}{args xs:List AV}
theorem a_(hf:nFn C f=some s)(hs:aD (snap g.h d an) args=some xs)(hl:xs.length<=s.nt){R:VS}(hR:Snb R j)(hj:j<=4){k':Nat}(hk:k'<d)
  (h:wp C (d+1) none s.code (fnQ C (d+1) s.res λv g'=>∃P,R P k' g'.h v) (ba 0 xs .nil) [] G.empty):∃r,ac (I C) d g f args=.val r/\R NoP k' .nil r:=by
 have h:=i7 hf hl h;unfold ac;rw[hs];dsimp only;cases hc:(I C).call (Nat.succ d) f xs G.empty with
 |fail=>rw[show (I C).call (d+1) f xs G.empty=.fail from hc]at h;exact h.elim
 | ok v g' =>
  rw[show (I C).call (d+1) f xs G.empty=.ok v g' from hc]at h;obtain⟨P,h⟩:=h;obtain⟨r,e,hr⟩:=hR.snap (n:=an) 0 h (by show _<=24;omega);rw[Nat.max_eq_left (US k')]at hr;obtain⟨m,em,lm⟩:=hR.tag (n:=an) hr (by show _<=24;omega);refine⟨r,?_,hr⟩;simp only[e,em,aa,U_];rw[Un (by omega)]
theorem kJ(hf:nFn C f=some s)(hl:xs.length<=s.nt){K:AV->G->Prop}{D:ADf->Prop}(h:wp C d none s.code (fnQ C d s.res K) (ba 0 xs .nil) [] g):(orF ((I C).call d f xs g)).sat K g D:=by
 have h:=i7 hf hl h;cases hc:(I C).call d f xs g with
 |fail=>rw[hc]at h;exact h.elim
 |ok v g'=>rw[hc]at h;exact h
theorem eX(hf:nFn C f=some s)(hs:aD (snap g.h d an) args=some xs)(hl:xs.length<=s.nt){q:IntKind}{x:Int}(hk:0<d)
  (h:wp C (d+1) none s.code (fnQ C (d+1) s.res λv _=>v=.int q x) (ba 0 xs .nil) [] G.empty):ac (I C) d g f args=.val (.int q x):=by
 have h:=i7 hf hl h;unfold ac;rw[hs];dsimp only;cases hc:(I C).call (Nat.succ d) f xs G.empty with
 |fail=>rw[show (I C).call (d+1) f xs G.empty=.fail from hc]at h;exact h.elim
 | ok v g' =>
  rw[show (I C).call (d+1) f xs G.empty=.ok v g' from hc]at h;have h:v=.int q x:=h;subst h;show (match eN an (.int q x) with|none=>OR.fail|some m=>ak (Nat.blt m d) (.val (.int q x)) _)=_;rw[show eN an (.int q x)=some 0 from rfl];simp only[aa,U_];rw[Un hk]
theorem lF(hf:nFn C f=some s)(hs:aD (snap g.h d an) args=some xs)(hl:xs.length<=s.nt){x:Bool}(hk:0<d)
  (h:wp C (d+1) none s.code (fnQ C (d+1) s.res λv _=>v=.bool x) (ba 0 xs .nil) [] G.empty):ac (I C) d g f args=.val (.bool x):=by
 have h:=i7 hf hl h;unfold ac;rw[hs];dsimp only;cases hc:(I C).call (Nat.succ d) f xs G.empty with
 |fail=>rw[show (I C).call (d+1) f xs G.empty=.fail from hc]at h;exact h.elim
 | ok v g' =>
  rw[show (I C).call (d+1) f xs G.empty=.ok v g' from hc]at h;have h:v=.bool x:=h;subst h;show (match eN an (.bool x) with|none=>OR.fail|some m=>ak (Nat.blt m d) (.val (.bool x)) _)=_;rw[show eN an (.bool x)=some 0 from rfl];simp only[aa,U_];rw[Un hk]
end iso
section
variable {C:Cfg}{A:Nat->Nat->Prop}{bd:Nat}{w w':World}{γ γ':Gm}{hg:Nat->AObj}{nx:Nat}
variable {op:Op}{t:T}{g:G}{f:Stg SFn}
theorem yB{sz id:Nat}(hid:id∈af x)(hn:h.get id=.none):ah h sz x=none:=by
 cases x<;>simp[af]at hid
 ·subst hid;simp[ah,hn]
 ·rfl
 ·rfl
theorem C9{sz id:Nat}{bytes:Nat}{new:List (List AV)}(hid:id∈af x)(hn:g.h.get id=.none):bA sz bytes x new g=.fail:=by
 cases x<;>simp[af]at hid
 ·subst hid;simp[bA,hn]
 ·rfl
 ·rfl
theorem GI(h:cm C op=some f){id:Nat}(hid:id∈bu C op t g)(hn:g.h.get id=.none):f.run t g=.fail:=by
 have one:∀{x:AV},id∈af x->(∃a b c d,x=.hptr a b c d/\g.h.get a=.none)\/(∃a b c d e,x=.hsl a b c d e/\g.h.get a=.none)\/(∃a,x=.hmap a/\g.h.get a=.none):=by
  intro x hx;cases x<;>simp[af]at hx
  ·subst hx;exact .inr (.inl ⟨_,_,_,_,_,rfl,hn⟩)
  ·subst hx;exact .inl ⟨_,_,_,_,rfl,hn⟩
  ·subst hx;exact .inr (.inr ⟨_,rfl,hn⟩)
 cases op<;>simp only[cm]at h<;>first| (cases h;done)|skip
 case call c =>
  obtain⟨callee,args,argTypes⟩:=c;cases callee<;>first| (cases h;done)|skip
  rename_i b;dsimp only at h;obtain⟨vs,j⟩:=uK h;have hid:id∈(vs.run t).flatMap (mA C b argTypes):=by simpa only[bu,aH,j,am,Vz,Ux] using hid
  generalize args.toList=l at h j;unfold dJ at h
  split at h
  ·
   split at h
   ·rename_i tt s h0 hs;injection h with h;subst h;simp only[bV,hs,Vo]at j;subst j;simp only[UY,Vu,Ux,mA,h0]at hid;dsimp only;generalize s.run t=x at *;generalize mF C.P tt=k at *;cases k<;>simp at hid;cases x<;>simp[xe]at hid;subst hid;simp[jC,hn]
   ·cases h
  ·
   split at h
   ·rename_i tt xt sa sx h0 h1 ha hx;simp only[bV,ha,hx,Vo]at j;subst j;simp only[UY,Vu,Ux,mA,UL]at hid
    repeat' (first|split at h| (rw[aa]at h;split at h))
    all_goals first| (cases h;done)|skip
    all_goals (injection h with h;subst h)
    ·dsimp only[eS]
     split
     ·rfl
     ·rename_i new o;rcases hid with hid|hid
      ·exact C9 hid hn
      ·rw[yB hid hn]at o;cases o
    ·dsimp only[wm]
     split
     ·rfl
     ·rename_i n q;rcases hid with hid|hid
      ·rw[aa]
       split
       ·exact C9 hid hn
       ·rfl
      ·generalize sx.run t=x at *;cases x<;>simp[af]at hid<;>simp[dN]at q
   ·cases h
  ·
   split at h
   ·rename_i tt sa sx h0 ha hx;simp only[bV,ha,hx,Vo]at j;subst j;simp only[UY,Vu,Ux,mA,UL]at hid
    repeat' (first|split at h)
    all_goals first| (cases h;done)|skip
    all_goals (injection h with h;subst h)
    dsimp only[Cw]
    split
    ·rfl
    ·rename_i src p;rcases hid with hid|hid
     ·rcases one hid with⟨a,b,c,d,e,h1⟩|⟨a,b,c,d,e',e,h1⟩|⟨a,e,h1⟩<;>rw[e]<;>simp[h1]
     ·rw[yB hid hn]at p;cases p
   ·cases h
  ·
   split at h
   ·rename_i tt s h0 hs;simp only[bV,hs,Vo]at j;subst j;simp only[UY,Vu,Ux,mA]at hid
    repeat' (first|split at h)
    all_goals first| (cases h;done)|skip
    all_goals (injection h with h;subst h)
    dsimp only[LU];rcases one hid with⟨a,b,c,d,e,h1⟩|⟨a,b,c,d,e',e,h1⟩|⟨a,e,h1⟩<;>rw[e]<;>simp[h1]
   ·cases h
  ·
   split at h
   ·rename_i tt s h0 hs;simp only[bV,hs,Vo]at j;subst j;simp only[UY,Vu,Ux,mA]at hid
    repeat' (first|split at h| (rw[aa]at h;split at h))
    all_goals first| (cases h;done)|skip
    all_goals (injection h with h;subst h)
    dsimp only;generalize s.run t=x at *;cases x with
    | hsl i ep off len lim =>
     cases len with
     |zero=>simp[uo]at hid
     | succ len =>
      simp[uo]at hid;subst hid;simp[zZ,hn]
    |_=>simp[uo]at hid
   ·cases h
  ·
   split at h
   ·rename_i sa sx ha hx;injection h with h;subst h;simp only[bV,ha,hx,Vo]at j;subst j;simp only[UY,Vu,Ux,mA,UL]at hid;dsimp only;rcases hid with hid|hid
    ·rcases one hid with⟨a,b,c,d,e,h1⟩|⟨a,b,c,d,e',e,h1⟩|⟨a,e,h1⟩<;>rw[e]
    ·split
     ·rcases one hid with⟨a,b,c,d,e,h1⟩|⟨a,b,c,d,e',e,h1⟩|⟨a,e,h1⟩<;>rw[e]
     ·rfl
   ·cases h
  ·
   split at h
   ·rename_i sa sx ha hx;injection h with h;subst h;simp only[bV,ha,hx,Vo]at j;subst j;simp only[UY,Vu,Ux,mA,UL]at hid;dsimp only;rcases hid with hid|hid
    ·rcases one hid with⟨a,b,c,d,e,h1⟩|⟨a,b,c,d,e',e,h1⟩|⟨a,e,h1⟩<;>rw[e]
    ·split
     ·rcases one hid with⟨a,b,c,d,e,h1⟩|⟨a,b,c,d,e',e,h1⟩|⟨a,e,h1⟩<;>rw[e]
     ·rfl
   ·cases h
  ·cases h
 case load ty a =>
  split at h
  ·rename_i s ag n hs w r;injection h with h;subst h;simp only[bu,aH,hs,am,Vz,Ux]at hid;dsimp only[nH];rcases one hid with⟨a,b,c,d,e,h1⟩|⟨a,b,c,d,e',e,h1⟩|⟨a,e,h1⟩<;>rw[e]<;>simp[h1]
  ·cases h
 case store ty a x =>
  split at h
  ·rename_i s u n hs hu r;injection h with h;subst h;simp only[bu,aH,hs,am,Vz,Ux]at hid;dsimp only[pz];rcases one hid with⟨a,b,c,d,e,h1⟩|⟨a,b,c,d,e',e,h1⟩|⟨a,e,h1⟩<;>rw[e]<;>simp[h1]
  ·cases h
 case indexAddr ty x ix =>
  split at h
  ·rename_i s i hs hi
   split at h
   ·rename_i e hu
    split at h
    ·injection h with h;subst h;simp only[bu,aH,hs,hu,am,Vz,Ux]at hid;dsimp only[gZ];rcases one hid with⟨a,b,c,d,e,h1⟩|⟨a,b,c,d,e',e,h1⟩|⟨a,e,h1⟩<;>rw[e];dsimp only
     split
     ·simp[h1]
     ·rfl
    ·cases h
   ·rename_i n e hu;simp[bu,aH,hs,hu,aA]at hid
   ·cases h
  ·cases h
 case lookup ty x k ok =>
  split at h
  ·rename_i sm kk kt et hm hk hu
   split at h
   ·injection h with h;subst h;have hid:id∈af (sm.run t):=by cases ok<;>simpa [bu,aH,hm,am] using hid
    dsimp only[cz];rw[aa]
    split
    ·rcases one hid with⟨a,b,c,d,e,h1⟩|⟨a,b,c,d,e',e,h1⟩|⟨a,e,h1⟩<;>rw[e]<;>simp[h1]
    ·rfl
   ·cases h
  ·cases h
 case mapUpdate ty m k x =>
  split at h
  ·rename_i sm sk sx kt et hm hk hx hu;injection h with h;subst h;simp only[bu,aH,hm,am,Vz,Ux]at hid;dsimp only[dq];rw[aa]
   split
   ·rcases one hid with⟨a,b,c,d,e,h1⟩|⟨a,b,c,d,e',e,h1⟩|⟨a,e,h1⟩<;>rw[e]<;>simp[h1]
   ·rfl
  ·cases h
 case insert ty m k x =>
  split at h
  ·rename_i sm sk sx kt et hm hk hx hu;injection h with h;subst h;simp only[bu,aH,hm,am,Vz,Ux]at hid;dsimp only[dq];rw[aa]
   split
   ·rcases one hid with⟨a,b,c,d,e,h1⟩|⟨a,b,c,d,e',e,h1⟩|⟨a,e,h1⟩<;>rw[e]<;>simp[h1]
   ·rfl
  ·cases h
 case mapEntry ty m k =>
  split at h
  ·rename_i sm sk kt et hm hk hu
   split at h
   ·injection h with h;subst h;simp only[bu,aH,hm,Vz,Ux]at hid;dsimp only[dh];rw[aa]
    split
    ·rcases one hid with⟨a,b,c,d,e,h1⟩|⟨a,b,c,d,e',e,h1⟩|⟨a,e,h1⟩<;>rw[e]<;>simp[h1]
    ·rfl
   ·cases h
  ·cases h
 case entryStore ty m st x =>
  split at h
  ·rename_i sm ss sx hm hs hx;injection h with h;subst h;simp only[bu,aH,hm,am,Vz,Ux]at hid;dsimp only[da];rcases one hid with⟨a,b,c,d,e,h1⟩|⟨a,b,c,d,e',e,h1⟩|⟨a,e,h1⟩<;>rw[e]<;>simp[h1]
  ·cases h
 case slice ty x lo hi mx =>
  have key:∀{sz:Nat} {y:AV} {l h' m:Option AV},id∈af y->rh sz y l h' m g.h=none:=by intro sz y l h' m z;rcases one z with⟨a,b,c,d,e,h1⟩|⟨a,b,c,d,e',e,h1⟩|⟨a,e,h1⟩<;>rw[e]<;>simp[rh,h1]
  cases mx with
  | none =>
   dsimp only at h
   split at h
   ·rename_i e sx sl sh hu hx hl v
    split at h
    ·injection h with h;subst h;simp only[bu,aH,hx,am,Vz,Ux]at hid;dsimp only;rw[key hid];rfl
    ·cases h
   ·rename_i n e sx sl sh hu hx hl v
    split at h
    ·injection h with h;subst h;simp only[bu,aH,hx,am,Vz,Ux]at hid;dsimp only[iU]
     split
     ·rfl
     ·split
      ·rfl
      ·rcases one hid with⟨a,b,c,d,e,h1⟩|⟨a,b,c,d,e',e,h1⟩|⟨a,e,h1⟩<;>rw[e]<;>simp[h1]
    ·cases h
   ·cases h
  | some mx =>
   cases hi with
   |none=>cases h
   | some hi =>
    dsimp only at h
    split at h
    ·rename_i e sx sl sh sm he hx hl v hm
     split at h
     ·injection h with h;subst h;simp only[bu,aH,hx,am,Vz,Ux]at hid;dsimp only;rw[key hid];rfl
     ·cases h
    ·cases h
 all_goals simp[bu,aH,aA]at hid
structure CfgOk (C:Cfg):Prop where
 mixed:C.P.follows .mixedOrders=true
 recov:C.P.follows .rangeFuncRecover=true
 mon:eR C
 noDfr:∀f e,C.ext f=some e->∀d args g y,e d args g≠.dfr y
 ext:∀f e,C.ext f=some e->∀A bd w γ hg nx g as vs,Rel C A bd w γ hg nx->WF g->(∀id∈as.flatMap (aw g.h an),g.h.get id≠.none->hg id=g.h.get id)->Free γ g (gOf g (e (bd+1) as g)) ->
  RVs w γ A bd as vs->e (bd+1) as g≠.fail->∀cs,
  ∃u w' γ' hg',Fin C A bd w γ hg nx g w' γ' hg' (gOf g (e (bd+1) as g))/\RV w' γ' A bd (vOf (e (bd+1) as g)) u /\
   ((callFunc f vs.toArray).run C.P w=.ok (.value u) w'\/(Enters C.P f/\Outs C.P .normal f vs.toArray cs w u w'))
def DR(w:World)(γ:Gm)(A:Nat->Nat->Prop)(bd:Nat):List ADf->List Deferred->Prop
 |[],[]=>True
 |.mark id::ds,d::es=>((γ id).kind=4/\d={ target:=.collected (γ id).blk,args:=#[] })/\DR w γ A bd ds es
 |.call fv args::ds,d::es=>(∃f ys us,fv=.clo f [] ys/\d.target=.fn (.func f) us/\RVs w γ A bd ys us.toList/\RVs w γ A bd args d.args.toList)/\DR w γ A bd ds es
 |_,_=>False
theorem DR.step{ds:List ADf}:∀{es:List Deferred},DR w γ A bd ds es->Stp w γ w' γ'->DR w' γ' A bd ds es:=by
 induction ds with
 |nil=>intro es h _;cases es<;>simpa [DR] using h
 | cons d ds ih =>
  intro es h s;cases es with
  |nil=>cases d<;>simp[DR]at h
  | cons e es =>
   cases d with
   | mark id =>
    obtain⟨⟨h1,h2⟩,k⟩:=h;have hk:(γ id).kind≠0:=by rw[h1];decide
    exact⟨⟨by rw[s.kind_eq hk,h1],by rw[h2,s.blk_eq hk (by rw[h1];decide)]⟩,ih k s⟩
   | call fv args =>
    obtain⟨⟨f,ys,us,h1,h2,h4,h5⟩,k⟩:=h;exact⟨⟨f,ys,us,h1,h2,h4.step s,h5.step s⟩,ih k s⟩
theorem TR.step{nt:Nat}{tmps:Array Value}(h:TR w γ A bd nt t tmps)(s:Stp w γ w' γ'):TR w' γ' A bd nt t tmps :=
 ⟨h.1,λi=>(h.2 i).step s⟩
def RdOk(γ:Gm)(rd:Option Nat)(b:Frame):Prop :=
 match rd with
 |none=>b.roundOf=none
 |some id=>(γ id).kind=3/\b.roundOf=some (γ id).blk
theorem RdOk.step{b:Frame}(h:RdOk γ rd b)(s:Stp w γ w' γ'):RdOk γ' rd b:=by
 cases rd with
 |none=>exact h
 | some id =>
  obtain⟨h1,h2⟩:=h;have hk:(γ id).kind≠0:=by rw[h1];decide
  exact⟨by rw[s.kind_eq hk,h1],by rw[h2,s.blk_eq hk (by rw[h1];decide)]⟩
def Arr(P:Program)(m:Machine)(b:Frame)(k:List Item)(cs:List Frame):Ex->Act->World->Prop
 |.norm,a,w=>Steps P m (lone (b.atR a k) cs w)
 |.exit id,a,w=>∃k₁,exitTo id k₁=exitTo id k/\Steps P m (lone (b.atR a (.code (.exit id)::k₁)) cs w)
 |.ret,a,w=>∃k₁,Steps P m (lone (b.atR a (.code .ret::k₁)) cs w)
theorem Arr.of_steps{P:Program}{m m₁:Machine}{b:Frame}{k:List Item}{cs:List Frame}{e:Ex}{a:Act}(h:Steps P m m₁)(h':Arr P m₁ b k cs e a w):Arr P m b k cs e a w:=by
 cases e with
 |norm=>exact Steps.trans h h'
 |exit id=>obtain⟨k₁,h1,h2⟩:=h';exact⟨k₁,h1,Steps.trans h h2⟩
 |ret=>obtain⟨k₁,h2⟩:=h';exact⟨k₁,Steps.trans h h2⟩
def y_(C:Cfg)(bd nt:Nat)(rd:Option Nat)(c:Code)(t:T)(df:List ADf)(g:G)(e:Ex)(t':T)(df':List ADf)(g':G):Prop :=
 ∀A w γ hg nx b a k cs,Rel C A bd w γ hg nx->Ext g.h hg->WF g->Free γ g g'->TR w γ A bd nt t a.tmps->DR w γ A bd df a.defers->RdOk γ rd b->pD b.kind cs ->
  ∃a' w' γ' hg',Fin C A bd w γ hg nx g w' γ' hg' g'/\TR w' γ' A bd nt t' a'.tmps/\DR w' γ' A bd df' a'.defers /\
   Arr C.P (lone (b.atR a (.code c::k)) cs w) b k cs e a' w'
def QS(C:Cfg)(ih:IH):Prop :=
 ∀bd nt rd c t df g e t' df' g',ih.code nt (bd+1) rd c t df g=.ok e t' df' g'->y_ C bd nt rd c t df g e t' df' g'
structure IHOk (C:Cfg) (ih:IH):Prop where
 mon:IHMon ih
 call:zB C ih
 code:QS C ih
theorem RVs.append{xs ys:List AV}{vs us:List Value}(h1:RVs w γ A bd xs vs)(h2:RVs w γ A bd ys us):RVs w γ A bd (xs++ys) (vs++us):=by
 refine⟨by simp[h1.1,h2.1],λi x v hx hv=>?_⟩
 by_cases hi:i<xs.length
 ·rw[UF hi]at hx;rw[UF (by rw[<-h1.1];exact hi)]at hv;exact h1.2 i x v hx hv
 ·rw[UA (by omega)]at hx;rw[UA (by rw[<-h1.1];omega),<-h1.1]at hv;exact h2.2 _ x v hx hv
theorem SH{xs:List AV}{vs:Array Value}(hl:xs.length=vs.size)(h:∀(i:Nat) x v,xs[i]?=some x->vs[i]?=some v->RV w γ A bd x v) :
  RVs w γ A bd xs vs.toList:=⟨by simpa using hl,λi x v hx hv=>h i x v hx (by simpa using hv)⟩
section
variable {P:Program}{b:Frame}{a:Act}{ops:Array Oper}{i:Nat}{rest:List Nat}{k:List Item}{cs:List Frame}{o:Oper}
theorem wc{v:Value}(ho:ops[i]?=some o)(hw:Region.wanted o (yielded ops a.tmps)=true)(hd:∀c,o.op≠.defer c)
  (hrun:(execOp a.eval o).run P w=.ok (.value v) w') :
  step P (lone (b.atR a (.inRegion ops (i::rest)::k)) cs w)=.next (lone (b.atR (a.put o.dst v) (.inRegion ops rest::k)) cs w'):=by
 have h:=Frame.finish_atR b a ops i rest k v;rw[ho]at h;simp only[VX]at h;refine step_lone_go ?_;rw[stepGR_op ho hw,Oper.semAt_eq _ _ _ hd,<-h];simp[stepG.apply,hrun]
theorem Lr(ho:ops[i]?=some o)(hw:Region.wanted o (yielded ops a.tmps)=true)(hd:∀c,o.op≠.defer c)
  (hrun:(execOp a.eval o).run P w=.ok .skip w') :
  step P (lone (b.atR a (.inRegion ops (i::rest)::k)) cs w)=.next (lone (b.atR (a.put o.dst undef) (.inRegion ops rest::k)) cs w'):=by
 have h:=Frame.finish_atR b a ops i rest k undef;rw[ho]at h;simp only[VX]at h;refine step_lone_go ?_;rw[stepGR_op ho hw,Oper.semAt_eq _ _ _ hd,<-h];simp[stepG.apply,hrun]
theorem v_{v:Value}(ho:ops[i]?=some o)(hw:Region.wanted o (yielded ops a.tmps)=true)(hd:∀c,o.op≠.defer c)
  (hrun:EP P o a.eval w v w') :
  Steps P (lone (b.atR a (.inRegion ops (i::rest)::k)) cs w) (lone (b.atR (a.put o.dst v) (.inRegion ops rest::k)) cs w'):=by
 rcases hrun with h|⟨h,rfl⟩
 ·exact .one (wc ho hw hd h)
 ·exact .one (Lr ho hw hd h)
theorem Bn{f:FuncId}{args:Array Value}(ho:ops[i]?=some o)(hw:Region.wanted o (yielded ops a.tmps)=true)(hd:∀c,o.op≠.defer c)
  (hrun:(execOp a.eval o).run P w=.ok (.enter f args) w') :
  step P (lone (b.atR a (.inRegion ops (i::rest)::k)) cs w)=.next (lone (Frame.enter P f args .normal) (b.atR a (.inRegion ops (i::rest)::k)::cs) w'):=by
 refine step_lone_go ?_;rw[stepGR_op ho hw,Oper.semAt_eq _ _ _ hd];simp[stepG.apply,hrun,Frame.atR]
theorem Ic{l:Nat}{f:FuncId}{tmps:Array Value}(ho:ops[i]?=some o)(hw:Region.wanted o (yielded ops a.tmps)=true)(hd:∀c,o.op≠.defer c)
  (hrun:(execOp a.eval o).run P w=.ok (.round l f tmps assign body) w') :
  step P (lone (b.atR a (.inRegion ops (i::rest)::k)) cs w)=.next (lone (Frame.round l f tmps assign body .normal) (b.atR a (.inRegion ops (i::rest)::k)::cs) w'):=by
 refine step_lone_go ?_;rw[stepGR_op ho hw,Oper.semAt_eq _ _ _ hd];simp[stepG.apply,hrun,Frame.atR]
theorem ri{f:FuncId}{args:Array Value}{u:Value}{w₁:World}(ho:ops[i]?=some o)(hw:Region.wanted o (yielded ops a.tmps)=true)(hd:∀c,o.op≠.defer c)
  (hrun:(execOp a.eval o).run P w=.ok (.enter f args) w)
  (hout:Outs P .normal f args (b.atR a (.inRegion ops (i::rest)::k)::cs) w u w₁) :
  Steps P (lone (b.atR a (.inRegion ops (i::rest)::k)) cs w) (lone (b.atR (a.put o.dst u) (.inRegion ops rest::k)) cs w₁):=by
 obtain⟨fr,hs,h1,h2,d,h4,fn,h5,e⟩:=hout;have h:=Frame.finish_atR b a ops i rest k u;rw[ho]at h;simp only[VX]at h;refine .head (Bn ho hw hd hrun) (Steps.trans hs (.one ?_));rw[<-h];exact step_leave_returned ⟨h1,h2,d,fn,by rw[h4];exact h5,e⟩
theorem EE(ho:ops[i]?=some o)(hw:Region.wanted o (yielded ops a.tmps)=true)(hd:∀c,o.op≠.defer c)
  (hrec:P.follows .rangeFuncRecover=true) (hcalm:pD b.kind cs)
  (hrun:(execOp a.eval o).run P w=.ok .recover w) :
  step P (lone (b.atR a (.inRegion ops (i::rest)::k)) cs w)=.next (lone (b.atR (a.put o.dst .nilIface) (.inRegion ops rest::k)) cs w):=by
 have d:=Frame.finish_atR b a ops i rest k .nilIface;rw[ho]at d;simp only[VX]at d;have e:tryRecover (b.atR a (.inRegion ops (i::rest)::k)) cs=none:=by
  unfold tryRecover;rcases hcalm with h|⟨h,c,cs',rfl,hm|⟨_,_,_,hm⟩⟩
  ·simp[Frame.atR,h]
  ·simp[Frame.atR,h,hm]
  ·simp[Frame.atR,h,hm]
 refine step_lone_go ?_;rw[stepGR_op ho hw,Oper.semAt_eq _ _ _ hd,<-d];simp only[stepG.apply,Sem.runT_eq,hrun,hrec,if_true,e];cases hro:(b.atR a (.inRegion ops (i::rest)::k)).roundOf<;>simp[GStep.bare_after]
end
theorem lD{P:Program}{l:Nat}{L:Loop}(h:w.heap[l]?=some (.loop L)):(Instr.getLoop l).run P w=.ok L w:=by
 unfold Instr.getLoop;simp only[Ut,ge h (by simp),Uq]
 rfl
theorem tZ{P:Program}{l:Nat}{L:Loop}{o:Obj}(h:w.heap[l]?=some (.loop L)):(setObj l o).run P w=.ok () (World.setBlk w l o) :=
 iy h (by simp)
theorem Rel.setLoop(hr:Rel C A bd w γ hg nx){id:Nat}{t:T}{st st':LoopState}{pend pend':Option Code}{L:Loop}
  (hid:hg id=.loop nt t ps assign body dfr st pend) (hL:w.heap[(γ id).blk]?=some (.loop L)) :
  Rel C A bd (World.setBlk w (γ id).blk (.loop { L with state:=st',pending:=pend' })) γ (upd hg id (.loop nt t ps assign body dfr st' pend')) nx /\
   Stp w γ (World.setBlk w (γ id).blk (.loop { L with state:=st',pending:=pend' })) γ:=by
 have k:=hr.obj id;rw[hid]at k;obtain⟨h1,h2,L',h,h4,h5,d,h7,h8,h9,a,b,c⟩:=k;rw[hL]at h;injection h with h;injection h with h;subst h;have hk:(γ id).kind≠0:=by rw[h1];decide
 have s:=uw (w:=w) (o:=.loop { L with state:=st',pending:=pend' }) hk h2;refine hr.setBlk hk h2 ⟨h1,h2,{ L with state:=st',pending:=pend' },?_,rfl,rfl,d,h7,h8,h9,λi=>(a i).step s,b,c⟩;rw[aX];simp[(hr.lt id hk).2]
theorem SB{g:G}{id:Nat}{o:AObj}(hr:Rel C A bd w' γ' (upd hg id o) nx)(s:Stp w γ w' γ') :
  Fin C A bd w γ hg nx g w' γ' (upd hg id o) (g.put id o):=by
 refine⟨hr.up (Vv _ _),s,⟨[id],by simp,λj hj=>?_,λj hj=>?_⟩⟩
 ·simp at hj;subst hj;simp[SD]
 ·exact cJ _ _ (by simpa using hj)
theorem SA{g:G}{o:AObj}(hr:Rel C A bd w' γ' (upd hg g.nx o) (Nat.max nx (g.nx+1)))(s:Stp w γ w' γ') :
  Fin C A bd w γ hg nx g w' γ' (upd hg g.nx o) (g.new o):=by
 refine⟨by simpa using hr,s,⟨[g.nx],by simp,λj hj=>?_,λj hj=>?_⟩⟩
 ·simp at hj;subst hj;simp[SD]
 ·exact cJ _ _ (by simpa using hj)
end
section
variable {C:Cfg}{A:Nat->Nat->Prop}{bd:Nat}{w w':World}{γ γ':Gm}{hg:Nat->AObj}{nx:Nat}
variable {t:T}{g:G}{ih:IH}
def Agr(lk:Looks)(g:G)(hg:Nat->AObj):Prop :=
 if lk.big then Ext g.h hg else ∀id∈lk.rd++lk.sr.map (·.1),g.h.get id≠.none->hg id=g.h.get id
theorem Ext.agr{lk:Looks}(h:Ext g.h hg):Agr lk g hg:=by
 unfold Agr
 split
 ·exact h
 ·exact λid _ hne=>h id hne
theorem Cd:∀{ps:List Nat} {xs:List AV} {us:List Value} {t t':T} {tmps:Array Value},di t nt ps xs=some t'->TR w γ A bd nt t tmps->RVs w γ A bd xs us ->
  ps.length=us.length/\TR w γ A bd nt t' ((ps.zip us).foldl (λtmps (t,a)=>tmps.setIfInBounds t a) tmps):=by
 intro ps
 induction ps with
 | nil =>
  intro xs us t t' tmps h ht b;cases xs with
  | nil =>
   simp only[di]at h;injection h with h;subst h;have:us=[]:=WR.1 b.1.symm;subst this;exact⟨rfl,ht⟩
  |cons x xs=>simp[di]at h
 | cons p ps ih =>
  intro xs us t t' tmps h ht b;cases xs with
  |nil=>simp[di]at h
  | cons x xs =>
   cases us with
   |nil=>have:=b.1;simp at this
   | cons u us =>
    simp only[di,aa]at h
    split at h
    ·rename_i hp;rw[U_]at hp;have h0:RV w γ A bd x u:=b.2 0 x u rfl rfl;have k:RVs w γ A bd xs us:=⟨by have:=b.1;simpa using this,λi x' u' hx hu=>b.2 (i+1) x' u' (by simpa using hx) (by simpa using hu)⟩;have c:TR w γ A bd nt ((sp AV.undef p).run t x) (tmps.setIfInBounds p u):=by
      refine⟨by simp[ht.1],λi=>?_⟩;rw[sp_get]
      by_cases hi:i=p
      ·subst hi;rw[Un rfl];have:i<tmps.size:=by rw[ht.1];exact hp
       simpa [Array.getD,this] using h0
      ·rw[Um hi];have:=ht.2 i;simp only[U1]at this ⊢;rw[VU (VC hi)];exact this
     obtain⟨a1,a2⟩:=ih h c k;exact⟨by simp[a1],by simpa using a2⟩
    ·cases h
theorem K8(hi:IHOk C ih)(hr:Rel C A bd w γ hg nx)(hx:Ext g.h hg)(hwf:WF g){id:Nat}{vs:List Value}
  (hk:(γ id).kind=3) (hv:RVs w γ A bd args vs)  (h:cR ih (bd+1) id args g=r) (hne:r≠.fail) (hf:Free γ g (gOf g r)) (c:Frame) (cs:List Frame) :
  ∃f tmps assign body,(Instr.yield (γ id).blk vs.toArray).run C.P w=.ok (.round (γ id).blk f tmps assign body) w /\
   ∃u w' γ' hg',Fin C A bd w γ hg nx g w' γ' hg' (gOf g r)/\RV w' γ' A bd (vOf r) u /\
    Steps C.P (lone (Frame.round (γ id).blk f tmps assign body .normal) (c::cs) w) (lone (c.finish u) cs w'):=by
 unfold cR at h
 split at h
 rotate_left
 ·exact absurd h.symm hne
 rename_i nt t0 ps assign bodyX dfr0 st0 pend0 q;have q:g.h.get id=.loop nt t0 ps assign bodyX dfr0 st0 pend0:=by simpa using q
 have V:hg id=.loop nt t0 ps assign bodyX dfr0 st0 pend0:=by rw[hx id (by rw[q];simp),q]
 have R:=hr.obj id;rw[V]at R;obtain⟨k1,k2,L,k3,k4,k5,k6,k7,k8,k9,h6,h7,h8⟩:=R
 split at h
 ·exact absurd h.symm hne
 rename_i t' S;have Z:TR w γ A bd nt t0 L.tmps:=⟨k9,h6⟩;obtain⟨F,Y⟩:=Cd S Z hv
 split at h
 rotate_left
 ·exact absurd h.symm hne
 rename_i t1 g1 h1
 split at h
 rotate_left
 ·exact absurd h.symm hne
 rename_i nt1 t2 ps2 assign2 body1 dfr pend k;have k:g1.h.get id=.loop nt1 t2 ps2 assign2 body1 dfr .ready pend:=by simpa using k
 split at h
 rotate_left
 ·exact absurd h.symm hne
 rename_i e t3 g2 h2
 split at h
 rotate_left
 ·exact absurd h.symm hne
 rename_i nt3 U ps4 assign4 body4 dfr4 st4 pend4 d;have d:g2.h.get id=.loop nt3 U ps4 assign4 body4 dfr4 st4 pend4:=by simpa using d
 have I:=hi.mon.code _ _ _ _ _ _ _ _ _ _ _ h1 hwf;have w1:WF g1:=I.wf hwf;have J:Mon g1 (g1.put id (.loop nt1 t2 ps2 assign2 body1 dfr .busy pend)):=Mon.put w1 (by rw[k];simp);have w2:=J.wf w1;have T:=hi.mon.code _ _ _ _ _ _ _ _ _ _ _ h2 w2;have w3:=T.wf w2;have m4:∀o,Mon g2 (g2.put id o):=λo=>Mon.put w3 (by rw[d];simp);have X:(gOf g r).nx=g2.nx:=by subst h;cases e<;>simp[gOf]
 have p:Free γ g g2:=λi a b=>hf i a (by rw[X];exact b)
 let bR:Frame:={ (default:Frame) with fn:=L.fn,kind:=.normal,roundOf:=some (γ id).blk }
 let tmps:=(L.params.zip vs.toArray).foldl (λtmps (t,a)=>tmps.setIfInBounds t a) L.tmps
 have h3:tmps=(ps.zip vs).foldl (λtmps (t,a)=>tmps.setIfInBounds t a) L.tmps:=by simp only[tmps,<-Array.foldl_toList,Array.toList_zip,k6]
 have B:(Instr.yield (γ id).blk vs.toArray).run C.P w=.ok (.round (γ id).blk L.fn tmps assign bodyX) w:=by
  unfold Instr.yield;have hs:vs.toArray.size=L.params.size:=by rw[<-k6]at F;simpa using F.symm
  simp only[Ut,lD k3,Uq,hs,ne_eq,not_true_eq_false,if_false,k7,k8]
  rfl
 have z:Frame.round (γ id).blk L.fn tmps assign bodyX .normal=bR.atR { tmps:=tmps,defers:=[] } [.code assign,.beginRound,.code bodyX]:=by simp[Frame.round,Frame.atR,bR]
 obtain⟨a1,wa,γa,N,f1,tr1,dr1,ar1⟩:=hi.code _ _ _ _ _ _ _ _ _ _ _ h1 A w γ hg nx bR { tmps:=tmps,defers:=[] } [.beginRound,.code bodyX] (c::cs) hr hx hwf
  (p.le (Uy J.nx T.nx)) (by rw[h3];exact Y) trivial ⟨hk,rfl⟩ (.inl rfl)
 have h4:Ext g1.h N:=f1.ext I hx;have D:N id=.loop nt1 t2 ps2 assign2 body1 dfr .ready pend:=by rw[h4 id (by rw[k];simp),k]
 have Q:(γ id).kind≠0:=by rw[hk];decide
 have s:(γa id).blk=(γ id).blk:=f1.stp.blk_eq Q (by rw[hk];decide);have G:=f1.rel.obj id;rw[D]at G;obtain⟨ka1,ka2,La,ka3,ka4,ka5,ka6,ka7,ka8,ka9,ka10,ka11,ka12⟩:=G;have l:=f1.rel.setLoop (st':=.busy) (pend':=pend) D ka3;rw[s]at ka3 l;have y:(Instr.beginRound (γ id).blk).run C.P wa=.ok () (World.setBlk wa (γ id).blk (.loop { La with state:=.busy,pending:=pend })):=by unfold Instr.beginRound;simp only[Ut,lD ka3,Uq,tZ ka3,ka4,UN,<-ka5]
 have f2:Fin C A bd wa γa N (Nat.max nx g1.nx) g1 _ γa _ (g1.put id (.loop nt1 t2 ps2 assign2 body1 dfr .busy pend)):=SB l.1 l.2;have x:=f1.trans f2 I J;obtain⟨a2,wb,γb,O,f3,tr3,dr3,ar3⟩:=hi.code _ _ _ _ _ _ _ _ _ _ _ h2 A _ γa _ (Nat.max nx (g1.put id (.loop nt1 t2 ps2 assign2 body1 dfr .busy pend)).nx) bR a1 [] (c::cs) x.rel (x.ext (I.trans J) hx) w2
  (x.freed hr (I.trans J) p) (tr1.step l.2) (by
   have:=dr1.step l.2;exact this) ⟨by rw[f1.stp.kind_eq Q];exact hk,by simp[bR,s]⟩ (.inl rfl)
 have m:=x.trans f3 (I.trans J) T;have h5:Ext g2.h O:=m.ext ((I.trans J).trans T) hx;have E:O id=.loop nt3 U ps4 assign4 body4 dfr4 st4 pend4:=by rw[h5 id (by rw[d];simp),d]
 have M:(γb id).blk=(γ id).blk:=m.stp.blk_eq Q (by rw[hk];decide);have H:=m.rel.obj id;rw[E]at H;obtain⟨kb1,kb2,Lb,kb3,kb4,kb5,kb6,kb7,kb8,kb9,kb10,kb11,kb12⟩:=H;have n:=λst' pend'=>m.rel.setLoop (st':=st') (pend':=pend') E kb3;rw[M]at kb3 n;have v:∀jump,(Instr.endRound (γ id).blk jump).run C.P wb=.ok (.bool jump.isNone) (World.setBlk wb (γ id).blk (.loop { Lb with state:=if jump.isNone then .ready else .done,pending:=jump })):=by intro jump;unfold Instr.endRound;simp only[Ut,lD kb3,Uq,tZ kb3,UN]
 refine⟨L.fn,tmps,assign,bodyX,B,?_⟩;rw[z];have sbegin:Steps C.P (lone (bR.atR { tmps:=tmps,defers:=[] } [.code assign,.beginRound,.code bodyX]) (c::cs) w) (lone (bR.atR a1 [.code bodyX]) (c::cs) (World.setBlk wa (γ id).blk (.loop { La with state:=.busy,pending:=pend }))) :=
  Steps.trans ar1 (.one (stepR_beginRound rfl y))
 have fin:∀(jump:Option Code) (st':LoopState),st'=(if jump.isNone then .ready else .done) ->
   Fin C A bd w γ hg nx g (World.setBlk wb (γ id).blk (.loop { Lb with state:=st',pending:=jump })) γb (upd O id (.loop nt3 U ps4 assign4 body4 dfr4 st' jump)) (g2.put id (.loop nt3 U ps4 assign4 body4 dfr4 st' jump)):=by
  intro jump st' _;exact m.trans (SB (n st' jump).1 (n st' jump).2) ((I.trans J).trans T) (m4 _)
 subst h;cases e with
 |norm=>exact⟨.bool true,_,γb,_,fin none .ready rfl,.bool _ _,Steps.trans sbegin (Steps.trans ar3 (.one (stepR_round_end rfl rfl (v none))))⟩
 | exit j =>
  obtain⟨k₁,W,K⟩:=ar3;exact⟨.bool false,_,γb,_,fin (some (.exit j)) .done rfl,.bool _ _,Steps.trans sbegin (Steps.trans K (.one (stepR_round_exit rfl rfl (by rw[W];rfl) (v (some (.exit j))))))⟩
 | ret =>
  obtain⟨k₁,K⟩:=ar3;exact⟨.bool false,_,γb,_,fin (some .ret) .done rfl,.bool _ _,Steps.trans sbegin (Steps.trans K (.one (stepR_round_ret rfl rfl (v (some .ret)))))⟩
noncomputable def Qy(C:Cfg)(fv:AV)(as:List AV)(g:G):Looks :=
 match fv with
 |.clo f first cap=>ak ((C.ext f).isSome || C.iso f) (am ((first++(as++cap)).flatMap (aw g.h an))) cK
 |_=>cK
theorem OI(h:Agr cK g hg):Ext g.h hg:=h
section
variable {b:Frame}{a:Act}{ops:Array Oper}{i:Nat}{rest:List Nat}{k:List Item}{cs:List Frame}{o:Oper}
theorem Cq(hC:CfgOk C)(hi:IHOk C ih)(hr:Rel C A bd w γ hg nx)(hwf:WF g){v:Value}{as:List AV}{vs:List Value}
  (hfv:RV w γ A bd fv v) (has:RVs w γ A bd as vs) (hag:Agr (Qy C fv as g) g hg)
   (h:dj C ih (bd+1) fv as g=r) (hne:r≠.fail) (hf:Free γ g (gOf g r))
  (ho:ops[i]?=some o) (hw:Region.wanted o (yielded ops a.tmps)=true) (hd:∀c,o.op≠.defer c)
  (hexec:(execOp a.eval o).run C.P w=(do let d <-Deferred.ofValue v vs.toArray;invoke d.target d.args:Sem Next).run C.P w) :
  ∃u w' γ' hg',Fin C A bd w γ hg nx g w' γ' hg' (gOf g r)/\RV w' γ' A bd (vOf r) u /\
   Steps C.P (lone (b.atR a (.inRegion ops (i::rest)::k)) cs w) (lone (b.atR (a.put o.dst u) (.inRegion ops rest::k)) cs w'):=by
 cases hfv with
 | clo _ f xs ys vs1 us1 hl hl2 h1 h2 =>
  have l:RVs w γ A bd (xs++(as++ys)) (vs1.toList++(vs++us1.toList)):=(SH hl h1).append (has.append (SH hl2 h2));have m:(vs1.toList++(vs++us1.toList)).toArray=(vs1++vs.toArray)++us1:=by apply W0;simp
  have j:Enters C.P f->(execOp a.eval o).run C.P w=.ok (.enter f ((vs1++vs.toArray)++us1)) w:=by intro he;rw[hexec];simp only[Deferred.ofValue,invoke,Ut,UN,Uq];exact he _ _
  simp only[dj]at h;simp only[Qy]at hag;cases hext:C.ext f with
  | some e =>
   simp only[hext]at h hag;have hx:∀id∈(xs++(as++ys)).flatMap (aw g.h an),g.h.get id≠.none->hg id=g.h.get id:=by simpa [Agr,am] using hag
   have hs:=hC.ext f e hext;subst h;obtain⟨u,w',γ',hg',f1,rv,out⟩:=hs A bd w γ hg nx g _ _ hr hwf hx hf l hne (b.atR a (.inRegion ops (i::rest)::k)::cs);rw[m]at out;rcases out with out|⟨he,out⟩
   ·refine⟨u,w',γ',hg',f1,rv,.one (wc ho hw hd ?_)⟩;rw[hexec];simp only[Deferred.ofValue,invoke,Ut,UN,Uq];exact out
   ·exact⟨u,w',γ',hg',f1,rv,ri ho hw hd (j he) out⟩
  | none =>
   simp only[hext]at h hag;cases hiso:C.iso f with
   | true =>
    simp only[hiso]at h hag;have hx:∀id∈(xs++(as++ys)).flatMap (aw g.h an),g.h.get id≠.none->hg id=g.h.get id:=by simpa [Agr,am] using hag
    subst h;obtain⟨he,u,w',γ',hg',f1,rv,out⟩:=om hi.call hi.mon.call hr hx l hne (b.atR a (.inRegion ops (i::rest)::k)::cs);rw[m]at out;exact⟨u,w',γ',hg',f1,rv,ri ho hw hd (j he) out⟩
   | false =>
    simp only[hiso]at h hag;have hx:Ext g.h hg:=hag;cases hcall:ih.call (bd+1) f (xs++(as++ys)) g with
    | fail =>
     rw[hcall]at h;exact absurd h.symm hne
    | ok rv0 g1 =>
     rw[hcall]at h;have h:OR.upd rv0 g1=r:=h;subst h;obtain⟨he,hs⟩:=hi.call _ _ _ _ _ _ hcall;obtain⟨u,w',γ',hg',f1,rv,out⟩:=hs A w γ hg nx _ hr hx hwf hf l .normal (b.atR a (.inRegion ops (i::rest)::k)::cs) (.inl rfl);rw[m]at out;exact⟨u,w',γ',hg',f1,rv,ri ho hw hd (j he) out⟩
 | yld _ id bl hk hb =>
  subst hb;simp only[dj]at h;have hx:Ext g.h hg:=OI hag;obtain⟨f,tmps,assign,body,p,u,w',γ',hg',f1,rv,st⟩:=K8 hi hr hx hwf hk has h hne hf (b.atR a (.inRegion ops (i::rest)::k)) cs;have n:=Frame.finish_atR b a ops i rest k u;rw[ho]at n;simp only[VX]at n;rw[n]at st;refine⟨u,w',γ',hg',f1,rv,.head (Ic ho hw hd ?_) st⟩;rw[hexec];simp only[Deferred.ofValue,invoke,Ut,UN,Uq];simpa using p
 |_=>exact absurd h.symm hne
theorem Em(hC:CfgOk C)(hi:IHOk C ih)(hr:Rel C A bd w γ hg nx)(hwf:WF g)(ht:TR w γ A bd nt t a.tmps)(hcalm:pD b.kind cs)
  (hag:Agr ((aH C o.op).run t g) g hg)  (h:(bC C o.op).run ih (bd+1) rd t g=r) (hne:r≠.fail) (hnd:∀x,r≠.dfr x) (hf:Free γ g (gOf g r))
  (ho:ops[i]?=some o) (hw:Region.wanted o (yielded ops a.tmps)=true) :
  ∃u w' γ' hg',Fin C A bd w γ hg nx g w' γ' hg' (gOf g r)/\RV w' γ' A bd (vOf r) u /\
   Steps C.P (lone (b.atR a (.inRegion ops (i::rest)::k)) cs w) (lone (b.atR (a.put o.dst u) (.inRegion ops rest::k)) cs w'):=by
 have hm:Mon g (gOf g r):=by rw[<-h];exact i6 hC.mon hi.mon hwf
 unfold bC at h
 split at h
 rotate_left
 ·exact absurd h.symm hne
 rename_i f d;generalize hop:o.op=op at d hag;have j:∀(args:Array Operand),(args.toList.map a.eval).toArray=args.map a.eval:=λargs=>by apply W0;simp
 unfold cOp at d
 split at d
 ·
  rename_i fx args at2;have hd:∀c,o.op≠.defer c:=by rw[hop];intro c h;cases h
  split at d
  ·rename_i vs n;simp only[aH,aP,n]at hag;refine Cq (fv:=.clo fx [] []) (v:=.func (.func fx) #[] #[]) (as:=vs.run t) hC hi hr hwf (.clo _ fx [] [] #[] #[] rfl rfl (λi x v h=>by simp at h) (λi x v h=>by simp at h)) (ic ht hr n) hag ?_ hne hf ho hw hd ?_
   ·rw[<-h];simp only[dj,UM,Ux]
    split at d
    ·rename_i e he;injection d with d;subst d;rfl
    ·rename_i he;rw[aa]at d
     split at d
     ·rename_i l;injection d with d;subst d;simp only[l]
     ·rename_i l;injection d with d;subst d;have:C.iso fx=false:=by simpa using l
      simp only[this]
   ·simp only[execOp,hop,resolve,j,Act.eval]
  ·cases d
 ·
  rename_i fo args at2 D;have hd:∀c,o.op≠.defer c:=by rw[hop];intro c h;cases h
  split at d
  ·rename_i fv vs q n;injection d with d;subst d;simp only[aH,q,n]at hag;refine Cq (fv:=fv.run t) (v:=a.eval fo) (as:=vs.run t) hC hi hr hwf (au q ht hr) (ic ht hr n) hag h hne hf ho hw hd ?_;simp only[execOp,hop,resolve,j]
  ·cases d
 ·
  have hd:∀c,o.op≠.defer c:=by rw[hop];intro c h;cases h
  injection d with d;subst d;subst h;refine⟨.nilIface,w,γ,hg,Fin.refl hr,.nili _,.one (EE ho hw hd hC.recov hcalm ?_)⟩;simp only[execOp,hop,resolve,invoke,Ut,UN,Uq]
  rfl
 ·
  split at d
  ·injection d with d;subst d;exfalso;dsimp only at h
   split at h
   ·exact hne h.symm
   ·split at h
    ·exact hnd _ h.symm
    ·exact hne h.symm
  ·cases d
 ·
  split at d
  ·rename_i s hs;injection d with d;subst d;have hd:∀c,o.op≠.defer c:=by rw[hop];rintro c rfl;simp[cm]at hs
   have p:∀id∈bu C op t g,hg id=g.h.get id:=by
    intro id y;have z:g.h.get id≠.none:=λz=>hne (by rw[<-h];exact GI hs y z);unfold Agr at hag
    split at hag
    ·exact hag id z
    ·exact hag id y z
   have m:=PZ hs hop ht hr (hf g.nx (Ui _) hm.nx) p;have h:s.run t g=r:=h;rw[h]at m;cases r with
   |fail=>exact absurd rfl hne
   | val x =>
    obtain⟨v,h1,h2⟩:=m;exact⟨v,w,γ,hg,Fin.refl hr,h2,v_ ho hw hd h1⟩
   | upd x g' =>
    obtain⟨v,w',γ',id,ob,h1,h2,B,h4⟩:=m;rcases h4 with⟨rfl,h4⟩|⟨rfl,rfl,h4⟩
    ·exact⟨v,w',γ',_,SB h4 B,h2,v_ ho hw hd h1⟩
    ·exact⟨v,w',γ',_,SA h4 B,h2,v_ ho hw hd h1⟩
   |dfr x=>exact absurd rfl (hnd x)
  ·cases d
end
end
section
variable {K V:Type}
open Classical in
noncomputable def ov(S:Nat->Prop)(wr:Nat->K->Prop)(val:Nat->K->V)(base:K->V):Nat->K->V
 |0,k=>base k
 |i+1,k=>if S i/\wr i k then val (i+1) k else ov S wr val base i k
variable {S S':Nat->Prop}{wr:Nat->K->Prop}{val:Nat->K->V}{base:K->V}{k:K}
theorem NC(h:∀j,j<n->wr j k->(S j↔S' j)):ov S wr val base n k=ov S' wr val base n k:=by
 induction n with
 |zero=>rfl
 | succ n ih =>
  simp only[ov];rw[ih λj hj=>h j (by omega)]
  by_cases hw:wr n k
  ·have hS:=h n (by omega) hw
   by_cases hs:S n
   ·rw[Un ⟨hs,hw⟩,Un ⟨hS.1 hs,hw⟩]
   ·rw[Um (λhh=>hs hh.1),Um (λhh=>hs (hS.2 hh.1))]
  ·rw[Um (λhh=>hw hh.2),Um (λhh=>hw hh.2)]
theorem A8(hm:m<=n)(h:∀j,m<=j->j<n->S j->¬wr j k):ov S wr val base n k=ov S wr val base m k:=by
 induction n with
 | zero=>have:m=0:=by omega
         subst this;rfl
 | succ n ih =>
  by_cases hmn:m=n+1
  ·subst hmn;rfl
  ·simp only[ov];rw[Um (λhh=>h n (by omega) (by omega) hh.1 hh.2)];exact ih (by omega) λj h1 h2=>h j h1 (by omega)
theorem Nz(hi:i<n)(hw:wr i k)(h:∀j,i<j->j<n->S j->¬wr j k):ov (λj=>S j\/j=i) wr val base n k=val (i+1) k:=by
 rw[A8 (m:=i+1) (by omega) (λj h1 h2 h3=>by
  rcases h3 with h3|h3
  ·exact h j (by omega) h2 h3
  ·omega)]
 simp[ov,hw]
theorem Ep(hw:¬wr i k):ov (λj=>S j\/j=i) wr val base n k=ov S wr val base n k:=by
 refine NC λj _ hj=>?_;constructor
 ·rintro (h|h)
  ·exact h
  ·subst h;exact absurd hj hw
 ·exact .inl
theorem NA(hi:i<=n)(keep:∀j,j<n->¬wr j k->val (j+1) k=val j k)(h:∀j,j<n->wr j k->(S j↔j<i)) :
  ((∃j,j<i/\wr j k)/\ov S wr val base n k=val i k)\/((∀j,j<i->¬wr j k)/\ov S wr val base n k=base k/\val i k=val 0 k):=by
 rw[A8 hi (λj h1 h2 a h4=>by have:=(h j h2 h4).1 a;omega)];have key:∀m,m<=i->((∃j,j<m/\wr j k)/\ov S wr val base m k=val m k)\/((∀j,j<m->¬wr j k)/\ov S wr val base m k=base k/\val m k=val 0 k):=by
  intro m
  induction m with
  |zero=>intro _;exact .inr ⟨λj hj=>absurd hj (Nat.not_lt_zero j),rfl,rfl⟩
  | succ m ih =>
   intro hm
   by_cases hw:wr m k
   ·left;refine⟨⟨m,by omega,hw⟩,?_⟩;simp only[ov];rw[Un ⟨(h m (by omega) hw).2 (by omega),hw⟩]
   ·simp only[ov];rw[Um (λhh=>hw hh.2)];rcases ih (by omega) with⟨⟨j,h1,h2⟩,a⟩|⟨h1,h2,a⟩
    ·left;exact⟨⟨j,by omega,h2⟩,by rw[a,keep m (by omega) hw]⟩
    ·right;refine⟨λj hj=>?_,h2,by rw[keep m (by omega) hw,a]⟩
     by_cases hjm:j=m
     ·subst hjm;exact hw
     ·exact h1 j (by omega)
 exact key i (Ui _)
end
theorem yi(es:List Edge)(acc:List Nat):∀(m i:Nat),
  (es.foldl (λm e=>ak (Region.binds .any e) (m ||| 2 ^ e.on ||| acc.getD e.on 0) m) m).testBit i=true ->
  m.testBit i=true\/∃e∈es,Region.binds .any e=true/\(e.on=i\/(acc.getD e.on 0).testBit i=true):=by
 induction es with
 |nil=>intro m i h;exact .inl h
 | cons e es ih =>
  intro m i h;simp only[WD]at h;rcases ih _ i h with h|⟨e',h1,h2,k⟩
  ·rw[aa]at h
   split at h
   ·rename_i hb;simp only[Nat.testBit_or,UZ]at h;rcases h with (h|h)|h
    ·exact .inl h
    ·right;refine⟨e,U9,hb,.inl ?_⟩;rw[Nat.testBit_two_pow]at h;simpa using h
    ·exact .inr ⟨e,U9,hb,.inr h⟩
   ·exact .inl h
  ·exact .inr ⟨e',U6 _ h1,h2,k⟩
theorem Bc{S:Nat->Prop}{all:List Oper}(hS:∀j o,all[j]?=some o->S j->∀e∈o.after.toList,Region.binds .any e=true->S e.on) :
  ∀(ops:List Oper) (acc:List Nat) (pre:List Oper),all=pre++ops->pre.length=acc.length->(∀j i,(acc.getD j 0).testBit i=true->S j->S i) ->
   ∀j i,((bD ops acc).getD j 0).testBit i=true->S j->S i:=by
 intro ops
 induction ops with
 |nil=>intro acc pre _ _ h;exact h
 | cons o rest ih =>
  intro acc pre k a h;simp only[bD];refine ih _ (pre++[o]) (by simp[k]) (by simp[a]) λj i hj hSj=>?_
  by_cases hlt:j<acc.length
  ·refine h j i ?_ hSj;rw[U8,UF hlt]at hj;rw[U8];exact hj
  ·by_cases hje:j=acc.length
   ·subst hje;rw[U8,UA (Ui _)]at hj;simp only[Ve,List.getElem?_cons_zero,Us]at hj;have ho:all[acc.length]?=some o:=by rw[k,<-a];simp
    rcases yi _ acc _ _ hj with h0|⟨e,h1,h2,h3⟩
    ·simp at h0
    ·have b:=hS _ o ho hSj e h1 h2;rcases h3 with h3|h3
     ·rw[<-h3];exact b
     ·exact h _ _ h3 b
   ·rw[U8,WY (by simp;omega)]at hj;simp at hj
theorem xx{α:Type}{f:Nat->α->Nat->α->Bool}{x:α}:∀{l:List α} {j0:Nat},gq f i x j0 l=true->∀(j:Nat) y,l[j]?=some y->f i x (j0+j) y=true:=by
 intro l
 induction l with
 |nil=>intro j0 _ j y h;simp at h
 | cons a l ih =>
  intro j0 h j y k;simp only[gq,Uk]at h;cases j with
  |zero=>simp at k;subst k;exact h.1
  | succ j =>
   have:=ih h.2 j y (by simpa using k);rw[show j0+(j+1)=j0+1+j by omega];exact this
theorem wk{α:Type}{f:Nat->α->Nat->α->Bool}:∀{l:List α} {i0:Nat},li f i0 l=true->∀(i j:Nat) x y,i<j->l[i]?=some x->l[j]?=some y->f (i0+i) x (i0+j) y=true:=by
 intro l
 induction l with
 |nil=>intro i0 _ i j x y _ h;simp at h
 | cons a l ih =>
  intro i0 h i j x y b hx k;simp only[li,Uk]at h;cases j with
  |zero=>omega
  | succ j =>
   cases i with
   | zero =>
    simp at hx;subst hx;have:=xx h.1 j y (by simpa using k);rw[show i0+(j+1)=i0+1+j by omega];simpa using this
   | succ i =>
    have:=ih h.2 i j x y (by omega) (by simpa using hx) (by simpa using k);rw[show i0+(i+1)=i0+1+i by omega,show i0+(j+1)=i0+1+j by omega];exact this
theorem BM:∀{l:List Oper} {i0:Nat},pP i0 l=true->∀(i:Nat) o,l[i]?=some o->∀e∈o.after.toList,Region.binds .any e=true->e.on<i0+i:=by
 intro l
 induction l with
 |nil=>intro i0 _ i o h;simp at h
 | cons a l ih =>
  intro i0 h i o ho e he hb;simp only[pP,Uk]at h;cases i with
  | zero =>
   simp at ho;subst ho;have:=Uz.1 h.1 e he;simp only[hb,WV,Bool.false_or,U_]at this;simpa using this
  | succ i =>
   have:=ih h.2 i o (by simpa using ho) e he hb;omega
theorem AD{pm:List Nat}:∀{l:List Oper} {i0:Nat},nF pm i0 l=true->∀(i:Nat) o,l[i]?=some o->∀j b,o.guard=some (j,b)->(pm.getD (i0+i) 0).testBit j=true:=by
 intro l
 induction l with
 |nil=>intro i0 _ i o h;simp at h
 | cons a l ih =>
  intro i0 h i o ho j b hg;simp only[nF,Uk]at h;cases i with
  | zero =>
   simp at ho;subst ho;have:=h.1;simp only[hg]at this;simpa using this
  | succ i =>
   have:=ih h.2 i o (by simpa using ho) j b hg;rw[show i0+(i+1)=i0+1+i by omega];exact this
def cnt(p:Nat->Bool):Nat->Nat
 |0=>0
 |n+1=>cnt p n+(if p n then 1 else 0)
theorem LZ{p:Nat->Bool}:∀{n:Nat},cnt p n=0->∀i,i<n->p i=false:=by
 intro n
 induction n with
 |zero=>intro _ i hi;omega
 | succ n ih =>
  intro h i hi;simp only[cnt]at h
  by_cases hin:i=n
  ·subst hin;cases hp:p i
   ·rfl
   ·simp[hp]at h
  ·exact ih (by omega) i (by omega)
theorem Q5{p q:Nat->Bool}(h:∀i,q i=true->p i=true):∀{n i:Nat},i<n->p i=true->q i=false->cnt q n<cnt p n:=by
 have k:∀n,cnt q n<=cnt p n:=by
  intro n
  induction n with
  |zero=>exact Ui _
  | succ n ih =>
   simp only[cnt];have:=h n;cases hq:q n
   ·cases p n<;>simp<;>omega
   ·simp[this hq];omega
 intro n
 induction n with
 |zero=>intro i hi;omega
 | succ n ih =>
  intro i hi hp hq;simp only[cnt]
  by_cases hin:i=n
  ·subst hin;simp[hp,hq];have:=k i;omega
  ·have:=ih (by omega) hp hq;have h2:=h n;cases hq':q n
   ·cases p n<;>simp<;>omega
   ·simp[h2 hq'];omega
end
end Hx
