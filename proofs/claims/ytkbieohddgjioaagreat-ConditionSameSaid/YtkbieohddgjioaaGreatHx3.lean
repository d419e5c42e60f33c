/- A part of the proof: what the functions of the chapter compute. -/
import Derived.RangeFuncIn
import Derived.AtR
import Derived.Test.YtkbieohddgjioaaGreatHx2
set_option linter.all false
section
namespace Hx
open Go
section
variable {C:Cfg}
theorem Mon.put{g:G}{id:Nat}{o:AObj}(hwf:WF g)(hid:g.h.get id≠.none):Mon g (g.put id o):=by
 have hi:id<g.nx:=Nat.lt_of_not_le λh=>hid (hwf id h);refine⟨by simp,⟨[id],by simp,λk hk=>?_,λk hk=>?_⟩,λh k hk=>?_⟩
 ·simp only[G.put_h,RW];rw[Sa];simpa using hk
 ·simp at hk;subst hk;exact⟨by simpa using hi,λhn=>absurd hn hid⟩
 ·simp only[G.put_nx]at hk;simp only[G.put_h,RW];rw[Sa (by omega)];exact h k hk
theorem Mon.mk'{g:G}{o:AObj}:Mon g (g.new o):=by
 refine⟨by simp,⟨[g.nx],by simp,λk hk=>?_,λk hk=>?_⟩,λh k hk=>?_⟩
 ·simp only[G.new_h,RW];rw[Sa];simpa using hk
 ·simp at hk;subst hk;simp
 ·simp only[G.new_nx]at hk;simp only[G.new_h,RW];rw[Sa (by omega)];exact h k (by omega)
def Small(g:G):OR->Prop
 |.fail=>True
 |.val _=>True
 |.upd _ g'=>(∃id ob,g'=g.put id ob/\g.h.get id≠.none)\/∃ob,g'=g.new ob
 |.dfr _=>False
theorem Small.mon{g:G}{r:OR}(h:Small g r)(hwf:WF g):Mon g (gOf g r):=by
 cases r with
 | upd v g' =>
  rcases h with⟨id,ob,rfl,h⟩|⟨ob,rfl⟩
  ·exact Mon.put hwf h
  ·exact Mon.mk'
 |_=>exact Mon.refl g
variable {op:Op}{t:T}{g:G}{f:Stg SFn}
theorem mJ(x:Option AV):Small g (orV x):=by cases x<;>trivial
theorem xu(sz bytes:Nat)(s:AV)(new:List (List AV)):Small g (bf sz bytes s new g):=by
 unfold bf;simp only[aa]
 repeat' split
 all_goals first
  |trivial
  |exact .inr ⟨_,rfl⟩
  |exact .inl ⟨_,_,rfl,λhn=>by simp_all⟩
theorem JX{P:Program}{op:BinOp}{ty:TypeId}{x y:AV}:Small g ((yR P op ty).run x y):=by
 unfold yR
 split
 ·split
  ·dsimp only;split<;>first|exact mJ _|trivial
  ·dsimp only;split<;>trivial
 ·split
  ·dsimp only;split<;>first|exact mJ _|trivial
  ·dsimp only;split<;>trivial
 ·dsimp only;split<;>first|exact mJ _|trivial
theorem M3{op:UnOp}{x:AV}:Small g ((unA op).run x):=by
 unfold unA
 split
 ·dsimp only;split<;>trivial
 ·dsimp only;split<;>first|exact mJ _|trivial
theorem xx(h:cm C op=some f):Small g (f.run t g):=by
 cases op<;>simp only[cm]at h<;>first| (cases h;done)|skip
 case call c =>
  obtain⟨callee,args,argTypes⟩:=c;cases callee<;>first| (cases h;done)|skip
  rename_i b;dsimp only at h;unfold dD at h
  split at h
  all_goals
   repeat' (first|split at h| (rw[aa]at h;split at h))
   all_goals first| (cases h;done)|skip
   all_goals (injection h with h;subst h)
   all_goals dsimp only[dO,dC,u9,Bg,Kz,zb]
   all_goals try simp only[aa]
   all_goals repeat' split
   all_goals first
    |trivial
    |exact xu _ _ _ _
    |exact .inr ⟨_,rfl⟩
    |exact .inl ⟨_,_,rfl,λhn=>by simp_all⟩
 all_goals
  repeat' (first|split at h| (rw[aa]at h;split at h))
  all_goals first| (cases h;done)|skip
  all_goals first| (injection h with h;subst h)| (exfalso;injections;done)| (rename_i heq _;cases heq)
  all_goals dsimp only[nD,pB,BW,Kq,oP,i_,kM,iH,nz,uJ,qc,iX,cJ,cW,gQ,jb,jr]
  all_goals first
   |exact mJ _
   |exact JX
   |exact M3
   |skip
  all_goals try simp only[aa]
  all_goals repeat' split
  all_goals first
   |trivial
   |exact mJ _
   |exact .inr ⟨_,rfl⟩
   |exact .inl ⟨_,_,rfl,λhn=>by simp_all⟩
   |skip
def oH(C:Cfg):Prop:=∀f e,C.ext f=some e->∀d args g,WF g->Mon g (gOf g (e d args g))
structure IHMon (ih:IH):Prop where
 code:∀nt d rd c t df g e t' df' g',ih.code nt d rd c t df g=.ok e t' df' g'->WF g->Mon g g'
 call:GX ih
variable {ih:IH}
theorem Gz(hi:IHMon ih){d id:Nat}{args:List AV}{g:G}(hwf:WF g):Mon g (gOf g (cp ih d id args g)):=by
 unfold cp
 split
 ·split
  ·exact Mon.refl g
  ·split
   ·rename_i t1 g1 h1;have m1:=hi.code _ _ _ _ _ _ _ _ _ _ _ h1 hwf;have w1:WF g1:=m1.wf hwf
    split
    ·rename_i hget
     split
     ·rename_i g2 h2;have hne:g1.h.get id≠.none:=by rw[<-G.get_eq,hget];simp
      have m2:=λo=>Mon.put (o:=o) w1 hne;have m3:=hi.code _ _ _ _ _ _ _ _ _ _ _ h2 ((m2 _).wf w1);have m4:=m1.trans ((m2 _).trans m3)
      split
      ·rename_i hget2;have hne2:g2.h.get id≠.none:=by rw[<-G.get_eq,hget2];simp
       split
       all_goals exact m4.trans (Mon.put (m4.wf hwf) hne2)
      ·exact Mon.refl g
     ·exact Mon.refl g
    ·exact Mon.refl g
   ·exact Mon.refl g
 ·exact Mon.refl g
theorem H4{g:G}{r:FR}(h:∀v g',r=.ok v g'->Mon g g'):Mon g (gOf g (orF r)):=by
 cases r with
 |fail=>exact Mon.refl g
 |ok v g'=>exact h v g' rfl
theorem IL(he:oH C)(hi:IHMon ih){d:Nat}{fv:AV}{vs:List AV}{g:G}(hwf:WF g):Mon g (gOf g (fd C ih d fv vs g)):=by
 unfold fd
 split
 ·split
  ·rename_i e h;exact he _ e h _ _ g hwf
  ·rw[aa]
   split
   ·exact xG hwf
   ·exact H4 λv g' h=>hi.call _ _ _ _ _ _ h hwf
 ·exact Gz hi hwf
 ·exact Mon.refl g
theorem NL(he:oH C)(hi:IHMon ih){op:Op}{f:Stg Kg}(h:cOp C op=some f){d:Nat}{rd:Option Nat}{t:T}{g:G}(hwf:WF g) :
  Mon g (gOf g (f.run ih d rd t g)):=by
 unfold cOp at h
 split at h
 ·split at h
  ·split at h
   ·rename_i e hext;injection h with h;subst h;exact he _ e hext _ _ g hwf
   ·rw[aa]at h
    split at h
    ·injection h with h;subst h;exact xG hwf
    ·injection h with h;subst h;exact H4 λv g' h=>hi.call _ _ _ _ _ _ h hwf
  ·cases h
 ·split at h
  ·injection h with h;subst h;exact IL he hi hwf
  ·cases h
 ·injection h with h;subst h;exact Mon.refl g
 ·split at h
  ·injection h with h;subst h;dsimp only
   split
   ·exact Mon.refl g
   ·split<;>exact Mon.refl g
  ·cases h
 ·split at h
  ·rename_i s hs;injection h with h;subst h;exact (xx hs).mon hwf
  ·cases h
theorem mM(he:oH C)(hi:IHMon ih){op:Op}{d:Nat}{rd:Option Nat}{t:T}{g:G}(hwf:WF g) :
  Mon g (gOf g ((dj C op).run ih d rd t g)):=by
 unfold dj
 split
 ·rename_i f hf;exact NL he hi hf hwf
 ·exact Mon.refl g
theorem Az{out:T->AV->T}{next:T->List ADf->G->CR}{t:T}{df:List ADf}{g:G}{r:OR}{e:Ex}{t':T}{df':List ADf}{g':G}
  (h:pC out next t df g r=.ok e t' df' g') (hwf:WF g) (hr:Mon g (gOf g r)) (hn:∀t df g1,next t df g1=.ok e t' df' g'->WF g1->Mon g1 g'):Mon g g':=by
 cases r with
 |fail=>cases h
 |val v=>exact hn _ _ _ h hwf
 |upd v g1=>exact hr.trans (hn _ _ _ h (hr.wf hwf))
 |dfr a=>exact hn _ _ _ h hwf
theorem yW(he:oH C)(hi:IHMon ih){nt:Nat}{all:List Oper}:∀{ops:List Oper} {d:Nat} {rd:Option Nat} {t:T} {df:List ADf} {g:G} {e:Ex} {t':T} {df':List ADf} {g':G},
  (ku C nt all ops).run ih d rd t df g=.ok e t' df' g'->WF g->Mon g g':=by
 intro ops
 induction ops with
 |nil=>intro d rd t df g e t' df' g' h _;simp only[ku]at h;injection h with _ _ _ h;subst h;exact Mon.refl _
 | cons o rest ihl =>
  intro d rd t df g e t' df' g' h hwf;simp only[ku]at h
  split at h
  ·split at h
   ·exact Az h hwf (mM he hi hwf) λ_ _ _ h1 h2=>ihl h1 h2
   ·split at h
    ·dsimp only at h
     split at h
     ·exact Az h hwf (mM he hi hwf) λ_ _ _ h1 h2=>ihl h1 h2
     ·exact ihl h hwf
     ·cases h
    ·cases h
  ·cases h
theorem WF.setLog{g:G}{l:List Nat}(h:WF g):WF (aP g l):=λid hid=>by simp only[setLog_nx]at hid;simp only[setLog_h];exact h id hid
theorem RX{g:G}:Mon g (pF g g.lg) :=
 ⟨by simp,⟨[],by simp,λid _=>by simp,λ_ h=>absurd h Sk⟩,λh id hid=>by simp only[bumpG_nx]at hid;simp only[bumpG_h];exact h id (by omega)⟩
theorem RY{g g1:G}(h:Mon (aP g []) g1):Mon g (pF g1 (g1.lg++g.lg)):=by
 obtain⟨n,a,b,c⟩:=h.new;have hnx:g.nx<=g1.nx:=by simpa using h.nx
 refine⟨by simp;omega,⟨g1.lg,by simp,λid hid=>?_,λid hid=>?_⟩,λhw id hid=>?_⟩
 ·have e:g1.lg=n:=by simpa using a
  rw[e]at hid;have:=b id hid;simpa using this
 ·have e:g1.lg=n:=by simpa using a
  rw[e]at hid;have:=c id hid;simp only[setLog_h,setLog_nx]at this;exact⟨by simp;omega,this.2⟩
 ·simp only[bumpG_nx]at hid;simp only[bumpG_h];exact h.wf (λk hk=>by simp only[setLog_nx]at hk;simp only[setLog_h];exact hw k hk) id (by omega)
theorem IJ(he:oH C)(hi:IHMon ih){nt:Nat}{pm:List Nat}{all:List Oper}:∀{ops:List Oper} {i d:Nat} {rd:Option Nat} {t:T} {df:List ADf} {g:G} {fs:List Foot} {e:Ex} {t':T} {df':List ADf} {g':G},
  (jx C nt pm all i ops).run ih d rd t df g fs=.ok e t' df' g'->WF g->Mon g g':=by
 intro ops
 induction ops with
 | nil =>
  intro i d rd t df g fs e t' df' g' h _;simp only[jx,aa]at h
  split at h
  ·injection h with _ _ _ h;subst h;exact Mon.refl _
  ·cases h
 | cons o rest ihl =>
  intro i d rd t df g fs e t' df' g' h hwf;simp only[jx]at h
  split at h
  ·dsimp only at h
   split at h
   ·have hm:=mM (op:=o.op) (d:=d) (rd:=rd) (t:=t) he hi (hwf.setLog (l:=[]));generalize (dj C o.op).run ih d rd t (aP g [])=r at h hm;cases r with
    |fail=>cases h
    |val v=>exact RX.trans (ihl h (RX.wf hwf))
    | upd v g1 =>
     have m1:=RY hm;exact m1.trans (ihl h (m1.wf hwf))
    |dfr a=>cases h
   ·exact ihl h hwf
   ·cases h
  ·cases h
theorem Dk(he:oH C)(hi:IHMon ih){nt:Nat}{ops:List Oper}{draw:Bool}{d:Nat}{rd:Option Nat}{t:T}{df:List ADf}{g:G}{e:Ex}{t':T}{df':List ADf}{g':G}
  (h:(gN C nt ops draw).run ih d rd t df g=.ok e t' df' g') (hwf:WF g):Mon g g':=by
 unfold gN at h;rw[aa]at h
 split at h
 ·rw[aa]at h
  split at h
  ·rw[aa]at h
   split at h
   ·dsimp only at h;unfold nG at h
    split at h
    ·split at h
     ·rw[aa]at h
      split at h
      ·injection h with _ _ _ h;subst h;exact Mon.refl _
      ·cases h
     ·cases h
    ·cases h
   ·exact IJ he hi h hwf
  ·cases h
 ·exact yW he hi h hwf
theorem wk(hi:IHMon ih){nt d:Nat}{rd:Option Nat}{id:Nat}{t:T}{df:List ADf}{g:G}{e:Ex}{t':T}{df':List ADf}{g':G}
  (h:eL ih nt d rd id t df g=.ok e t' df' g') (hwf:WF g):Mon g g':=by
 unfold eL at h
 split at h
 ·rename_i hget;have hne:g.h.get id≠.none:=by rw[<-G.get_eq,hget];simp
  have m:∀o,Mon g (g.put id o):=λo=>Mon.put hwf hne
  split at h
  ·cases h
  ·split at h
   ·injection h with _ _ _ h;subst h;exact m _
   ·exact (m _).trans (hi.code _ _ _ _ _ _ _ _ _ _ _ h ((m _).wf hwf))
 ·cases h
theorem pz(hi:IHMon ih){nt d:Nat}{rd:Option Nat}{fv:AV}{ps:List Nat}{assign body:Code}{t:T}{df:List ADf}{dfr:Nat}{g:G}{e:Ex}{t':T}{df':List ADf}{g':G}
  (h:cO C ih nt d rd fv ps assign body t df dfr g=.ok e t' df' g') (hwf:WF g):Mon g g':=by
 unfold cO at h
 split at h
 ·rw[aa]at h
  split at h
  ·cases h
  ·split at h
   ·rename_i v g2 h2;have m1:Mon g (g.new (.loop nt t ps assign body dfr .ready none)):=Mon.mk';have m2:=hi.call _ _ _ _ _ _ h2 (m1.wf hwf);have m3:=m1.trans m2;exact m3.trans (wk hi h (m3.wf hwf))
   ·cases h
 ·cases h
theorem Gt(hi:IHMon ih){nt d:Nat}{rd:Option Nat}{fo:T->AV}{ps:List Nat}{assign body:Code}{t:T}{df:List ADf}{g:G}{e:Ex}{t':T}{df':List ADf}{g':G}
  (h:nH C nt fo ps assign body ih d rd t df g=.ok e t' df' g') (hwf:WF g):Mon g g':=by
 unfold nH at h
 split at h
 ·split at h
  ·exact pz hi h hwf
  ·cases h
 ·have m1:Mon g (g.new (.dfr true)):=Mon.mk';exact m1.trans (pz hi h (m1.wf hwf))
theorem mD(he:oH C)(hi:IHMon ih){nt:Nat}:∀(c:Code) {d:Nat} {rd:Option Nat} {t:T} {df:List ADf} {g:G} {e:Ex} {t':T} {df':List ADf} {g':G},
  (aU C nt c).run ih d rd t df g=.ok e t' df' g'->WF g->Mon g g':=by
 intro c;have now:∀{e e':Ex} {t t':T} {df df':List ADf} {g g':G},CR.ok e' t df g=.ok e t' df' g'->Mon g g':=by intro e e' t t' df df' g g' h;injection h with _ _ _ h;subst h;exact Mon.refl _
 induction c with
 |skip=>intro d rd t df g e t' df' g' h _;exact now h
 |label l=>intro d rd t df g e t' df' g' h _;exact now h
 |region id ops draw=>intro d rd t df g e t' df' g' h hwf;exact Dk he hi h hwf
 | seq a b iha ihb =>
  intro d rd t df g e t' df' g' h hwf;simp only[aU]at h;generalize hr:(aU C nt a).run ih d rd t df g=r at h;cases r with
  |fail=>cases h
  | ok e1 t1 df1 g1 =>
   have m1:=iha hr hwf;cases e1 with
   |norm=>exact m1.trans (ihb h (m1.wf hwf))
   |exit j=>exact m1.trans (now h)
   |ret=>exact m1.trans (now h)
 | cond c a b iha ihb =>
  intro d rd t df g e t' df' g' h hwf;simp only[aU]at h
  split at h
  ·dsimp only at h
   split at h
   ·rw[aa]at h
    split at h
    ·exact iha h hwf
    ·exact ihb h hwf
   ·cases h
  ·cases h
 | block id body ihb =>
  intro d rd t df g e t' df' g' h hwf;simp only[aU]at h;generalize hr:(aU C nt body).run ih d rd t df g=r at h;cases r with
  |fail=>cases h
  | ok e1 t1 df1 g1 =>
   have m1:=ihb hr hwf;cases e1 with
   |norm=>exact m1.trans (now h)
   | exit j =>
    simp only[uu,aa]at h
    split at h
    ·exact m1.trans (now h)
    ·exact m1.trans (now h)
   |ret=>exact m1.trans (now h)
 | loop body ihb =>
  intro d rd t df g e t' df' g' h hwf;simp only[aU]at h;generalize hr:(aU C nt body).run ih d rd t df g=r at h;cases r with
  |fail=>cases h
  | ok e1 t1 df1 g1 =>
   have m1:=ihb hr hwf;cases e1 with
   |norm=>exact m1.trans (hi.code _ _ _ _ _ _ _ _ _ _ _ h (m1.wf hwf))
   |exit j=>exact m1.trans (now h)
   |ret=>exact m1.trans (now h)
 |scope body ihb=>intro d rd t df g e t' df' g' h hwf;exact ihb h hwf
 |exit id=>intro d rd t df g e t' df' g' h _;exact now h
 |ret=>intro d rd t df g e t' df' g' h _;exact now h
 | rangeFunc f ps assign body _ _ =>
  intro d rd t df g e t' df' g' h hwf;simp only[aU]at h
  split at h
  ·exact Gt hi h hwf
  ·cases h
 |_=>intro d rd t df g e t' df' g' h _;cases h
theorem tN(hi:IHMon ih){d:Nat}:∀{df:List ADf} {g g':G},fS ih d df g=some g'->WF g->Mon g g':=by
 intro df
 induction df with
 |nil=>intro g g' h _;simp only[fS]at h;injection h with h;subst h;exact Mon.refl _
 | cons a df ihl =>
  intro g g' h hwf;cases a with
  | mark id =>
   simp only[fS]at h
   split at h
   ·rename_i hget;have m:Mon g (g.put id (.dfr false)):=Mon.put hwf (by rw[<-G.get_eq,hget];simp);exact m.trans (ihl h (m.wf hwf))
   ·cases h
  | call f args =>
   cases f<;>simp only[fS]at h<;>first| (cases h;done)|skip
   split at h
   ·rename_i v g1 h1;have m:=hi.call _ _ _ _ _ _ h1 hwf;exact m.trans (ihl h (m.wf hwf))
   ·cases h
theorem NJ(he:oH C)(hi:IHMon ih){f:Nat}{x:Stg (IH->Nat->List AV->G->FR)}(hx:cFn C f=some x){d:Nat}{args:List AV}{g:G}{v:AV}{g':G}
  (h:x.run ih d args g=.ok v g') (hwf:WF g):Mon g g':=by
 unfold cFn at hx
 split at hx
 ·cases hx
 split at hx
 ·cases hx
 split at hx
 ·rw[aa]at hx
  split at hx
  ·cases hx
  injection hx with hx;subst hx;dsimp only at h;rw[aa]at h
  split at h
  ·split at h
   ·cases h
   ·rename_i hc;have m1:=mD he hi _ hc hwf;unfold iP at h
    split at h
    ·cases h
    ·rename_i g2 h2;have m2:=tN hi h2 (m1.wf hwf)
     split at h
     ·injection h with _ h;subst h;exact m1.trans m2
     ·cases h
   ·cases h
  ·cases h
 ·cases hx
theorem Ih(he:oH C):∀n,IHMon (sem C n):=by
 intro n
 induction n with
 |zero=>exact⟨λnt d rd c t df g e t' df' g' h=>(by cases h),λd f as g v g' h=>(by cases h)⟩
 | succ n ihn =>
  refine⟨λnt d rd c t df g e t' df' g' h hwf=>mD he ihn c h hwf,λd f as g v g' h hwf=>?_⟩;change fe C (sem C n) d f as g=.ok v g' at h;unfold fe at h
  split at h
  ·rename_i x hx;exact NJ he ihn hx h hwf
  ·cases h
end
end Hx
end
section
namespace Hx
open Go
def CLe(a b:CR):Prop:=a=.fail\/a=b
def FLe(a b:FR):Prop:=a=.fail\/a=b
def OLe(a b:OR):Prop:=a=.fail\/a=b
structure IHLe (i j:IH):Prop where
 code:∀nt d rd c t df g,CLe (i.code nt d rd c t df g) (j.code nt d rd c t df g)
 call:∀d f as g,FLe (i.call d f as g) (j.call d f as g)
variable {i j:IH}
theorem uK(h:IHLe i j){d:Nat}{g:G}{f:Nat}{args:List AV}:OLe (ah i d g f args) (ah j d g f args):=by
 unfold ah
 split
 ·exact .inl rfl
 ·rename_i as _;rcases h.call (Nat.succ d) f as G.empty with e|e<;>rw[e]
  ·exact .inl rfl
  ·exact .inr rfl
theorem JO(h:IHLe i j){d id:Nat}{args:List AV}{g:G}:OLe (cp i d id args g) (cp j d id args g):=by
 unfold cp
 split
 ·split
  ·exact .inl rfl
  ·rename_i nt t ps assign body dfr st pend hg o t' ht;rcases h.code nt d (some id) assign t' [] g with e|e<;>rw[e]
   ·exact .inl rfl
   ·split
    ·split
     ·rename_i t1 g1 _ _ nt1 t2 ps2 assign1 body1 dfr1 pend1 _;rcases h.code nt d (some id) body t1 [] (g1.put id (.loop nt1 t2 ps2 assign1 body1 dfr1 .busy pend1)) with e|e<;>rw[e]
      ·exact .inl rfl
      ·exact .inr rfl
     ·exact .inl rfl
    ·exact .inl rfl
 ·exact .inl rfl
theorem Mr{a b:FR}(h:FLe a b):OLe (orF a) (orF b):=by
 rcases h with h|h<;>rw[h]
 ·exact .inl rfl
 ·exact .inr rfl
theorem Kv{C:Cfg}(h:IHLe i j){d:Nat}{fv:AV}{vs:List AV}{g:G}:OLe (fd C i d fv vs g) (fd C j d fv vs g):=by
 unfold fd
 split
 ·split
  ·exact .inr rfl
  ·rw[aa,aa]
   split
   ·exact uK h
   ·exact Mr (h.call _ _ _ _)
 ·exact JO h
 ·exact .inl rfl
theorem BL{out:T->AV->T}{n m:T->List ADf->G->CR}{t:T}{df:List ADf}{g:G}{a b:OR}(h:OLe a b)(hn:∀t df g,CLe (n t df g) (m t df g)) :
  CLe (pC out n t df g a) (pC out m t df g b):=by
 rcases h with h|h<;>rw[h]
 ·exact .inl rfl
 ·cases b with
  |fail=>exact .inl rfl
  |val v=>exact hn _ _ _
  |upd v g'=>exact hn _ _ _
  |dfr a=>exact hn _ _ _
theorem Fh{out:T->AV->T}{n m:T->List ADf->G->List Foot->CR}{t:T}{df:List ADf}{g:G}{fs:List Foot}{lk:Looks}{a b:OR}(h:OLe a b)
  (hn:∀t df g fs,CLe (n t df g fs) (m t df g fs)):CLe (lK out n t df g fs lk a) (lK out m t df g fs lk b):=by
 rcases h with h|h<;>rw[h]
 ·exact .inl rfl
 ·cases b with
  |fail=>exact .inl rfl
  |val v=>exact hn _ _ _ _
  |upd v g'=>exact hn _ _ _ _
  |dfr a=>exact .inl rfl
theorem Ii{n m:T->List ADf->G->CR}{a b:CR}(h:CLe a b)(hn:∀t df g,CLe (n t df g) (m t df g)):CLe (AY n a) (AY m b):=by
 rcases h with h|h<;>rw[h]
 ·exact .inl rfl
 ·unfold AY
  split
  ·exact hn _ _ _
  ·exact .inr rfl
theorem II{id:Nat}{a b:CR}(h:CLe a b):CLe (uu id a) (uu id b):=by
 rcases h with h|h<;>rw[h]
 ·exact .inl rfl
 ·exact .inr rfl
theorem EN{g:G}{a b:CR}(h:CLe a b):CLe (nG g a) (nG g b):=by
 rcases h with h|h<;>rw[h]
 ·exact .inl rfl
 ·exact .inr rfl
theorem P9{C:Cfg}(h:IHLe i j){op:Op}{x:Stg Kg}(hx:cOp C op=some x){d:Nat}{rd:Option Nat}{t:T}{g:G}:OLe (x.run i d rd t g) (x.run j d rd t g):=by
 unfold cOp at hx
 repeat' (first|split at hx|rw[aa]at hx)
 all_goals first
  | (cases hx;done)
  | (injection hx with hx;subst hx;first|exact .inr rfl|exact uK h|exact Mr (h.call _ _ _ _)|exact Kv h)
theorem B1{C:Cfg}(h:IHLe i j){op:Op}{d:Nat}{rd:Option Nat}{t:T}{g:G}:OLe ((dj C op).run i d rd t g) ((dj C op).run j d rd t g):=by
 unfold dj
 split
 ·rename_i x hx;exact P9 h hx
 ·exact .inl rfl
theorem ve{C:Cfg}(h:IHLe i j){nt:Nat}{all:List Oper}:∀(l:List Oper) (d:Nat) (rd:Option Nat) (t:T) (df:List ADf) (g:G),
  CLe ((ku C nt all l).run i d rd t df g) ((ku C nt all l).run j d rd t df g)
 |[],_,_,_,_,_=>.inr rfl
 | o::rest,d,rd,t,df,g=>by
  unfold ku
  split
  ·split
   ·exact BL (B1 h) λt df g=>ve h rest d rd t df g
   ·split
    ·dsimp only
     split
     ·exact BL (B1 h) λt df g=>ve h rest d rd t df g
     ·exact ve h rest d rd _ df g
     ·exact .inl rfl
    ·exact .inl rfl
  ·exact .inl rfl
theorem yV{C:Cfg}(h:IHLe i j){nt:Nat}{pm:List Nat}{all:List Oper}:∀(l:List Oper) (k d:Nat) (rd:Option Nat) (t:T) (df:List ADf) (g:G) (fs:List Foot),
  CLe ((jx C nt pm all k l).run i d rd t df g fs) ((jx C nt pm all k l).run j d rd t df g fs)
 |[],_,_,_,_,_,_,_=>.inr rfl
 | o::rest,k,d,rd,t,df,g,fs=>by
  unfold jx
  split
  ·dsimp only
   split
   ·exact Fh (B1 h) λt df g fs=>yV h rest (k+1) d rd t df g fs
   ·exact yV h rest (k+1) d rd _ df g _
   ·exact .inl rfl
  ·exact .inl rfl
theorem Fy{C:Cfg}(h:IHLe i j){nt:Nat}{ops:List Oper}{draw:Bool}{d:Nat}{rd:Option Nat}{t:T}{df:List ADf}{g:G} :
  CLe ((gN C nt ops draw).run i d rd t df g) ((gN C nt ops draw).run j d rd t df g):=by
 unfold gN;rw[aa,aa,aa]
 split
 ·split
  ·split
   ·exact EN (ve h _ _ _ _ _ _)
   ·exact yV h _ _ _ _ _ _ _ _
  ·exact .inl rfl
 ·exact ve h _ _ _ _ _ _
theorem EP(h:IHLe i j){nt d:Nat}{rd:Option Nat}{id:Nat}{t:T}{df:List ADf}{g:G}:CLe (eL i nt d rd id t df g) (eL j nt d rd id t df g):=by
 unfold eL
 split
 ·split
  ·exact .inl rfl
  ·split
   ·exact .inr rfl
   ·exact h.code _ _ _ _ _ _ _
 ·exact .inl rfl
theorem wj{C:Cfg}(h:IHLe i j){nt d:Nat}{rd:Option Nat}{fv:AV}{ps:List Nat}{assign body:Code}{t:T}{df:List ADf}{dfr:Nat}{g:G} :
  CLe (cO C i nt d rd fv ps assign body t df dfr g) (cO C j nt d rd fv ps assign body t df dfr g):=by
 unfold cO
 split
 ·rename_i f first cap
  rw[aa,aa]
  split
  ·exact .inl rfl
  ·rcases h.call d f (first++(.yld g.nx::cap)) (g.new (.loop nt t ps assign body dfr .ready none)) with e|e<;>rw[e]
   ·exact .inl rfl
   ·split
    ·exact EP h
    ·exact .inl rfl
 ·exact .inl rfl
theorem JJ{C:Cfg}(h:IHLe i j){nt:Nat}{fo:T->AV}{ps:List Nat}{assign body:Code}{d:Nat}{rd:Option Nat}{t:T}{df:List ADf}{g:G} :
  CLe (nH C nt fo ps assign body i d rd t df g) (nH C nt fo ps assign body j d rd t df g):=by
 unfold nH
 split
 ·split
  ·exact wj h
  ·exact .inl rfl
 ·exact wj h
theorem Dh{C:Cfg}(h:IHLe i j){nt:Nat}:∀(c:Code) (d:Nat) (rd:Option Nat) (t:T) (df:List ADf) (g:G),
  CLe ((aU C nt c).run i d rd t df g) ((aU C nt c).run j d rd t df g):=by
 intro c
 induction c with
 |seq a b iha ihb=>intro d rd t df g;unfold aU;exact Ii (iha _ _ _ _ _) λt df g=>ihb _ _ _ _ _
 | cond q a b iha ihb =>
  intro d rd t df g;unfold aU
  split
  ·dsimp only
   split
   ·rw[aa,aa]
    split
    ·exact iha _ _ _ _ _
    ·exact ihb _ _ _ _ _
   ·exact .inl rfl
  ·exact .inl rfl
 |block id body ih=>intro d rd t df g;unfold aU;exact II (ih _ _ _ _ _)
 |loop body ih=>intro d rd t df g;unfold aU;exact Ii (ih _ _ _ _ _) λt df g=>h.code _ _ _ _ _ _ _
 |scope body ih=>intro d rd t df g;unfold aU;exact ih _ _ _ _ _
 |region p ops draw=>intro d rd t df g;unfold aU;exact Fy h
 | rangeFunc f ps assign body _ _ =>
  intro d rd t df g;unfold aU
  split
  ·exact JJ h
  ·exact .inl rfl
 |_=>intro d rd t df g;first|exact .inr rfl|exact .inl rfl
def ULe(a b:Option G):Prop:=a=none\/a=b
theorem MR(h:IHLe i j){d:Nat}:∀(l:List ADf) (g:G),ULe (fS i d l g) (fS j d l g):=by
 intro l
 induction l with
 |nil=>intro g;exact .inr rfl
 | cons a l ih =>
  intro g;cases a with
  | mark id =>
   simp only[fS]
   split
   ·exact ih _
   ·exact .inl rfl
  | call fv args =>
   cases fv with
   | clo f first cap =>
    simp only[fS];rcases h.call d f (first++(args++cap)) g with e|e<;>rw[e]
    ·exact .inl rfl
    ·split
     ·exact ih _
     ·exact .inl rfl
   |_=>exact .inl rfl
theorem FG(h:IHLe i j){d:Nat}{res:T->G->Option (List AV)}{t:T}{df:List ADf}{g:G}:FLe (iP i d res t df g) (iP j d res t df g):=by
 unfold iP;rcases MR h (d:=d) df g with e|e<;>rw[e]
 ·exact .inl rfl
 ·exact .inr rfl
theorem Dl{C:Cfg}(h:IHLe i j){d f:Nat}{args:List AV}{g:G}:FLe (fe C i d f args g) (fe C j d f args g):=by
 unfold fe
 split
 ·rename_i x hx;unfold cFn at hx
  split at hx
  ·cases hx
  rename_i fn hfn
  split at hx
  ·cases hx
  rename_i c hbody
  split at hx
  rotate_left
  ·cases hx
  rename_i r hres;rw[aa]at hx
  split at hx
  ·cases hx
  injection hx with hx;subst hx;dsimp only;rw[aa,aa]
  split
  ·rcases Dh h (C:=C) (nt:=fn.ntmps) c d none (co 0 args .nil) [] g with e|e<;>rw[e]
   ·exact .inl rfl
   ·split
    ·exact .inl rfl
    ·exact FG h
    ·exact .inl rfl
  ·exact .inl rfl
 ·exact .inl rfl
theorem J0{C:Cfg}(h:IHLe i j):IHLe (GK C i) (GK C j) :=
 ⟨λnt d rd c t df g=>Dh h c d rd t df g,λd f as g=>Dl h⟩
theorem xQ(C:Cfg):∀n,IHLe (sem C n) (sem C (n+1))
 |0=>⟨λ_ _ _ _ _ _ _=>.inl rfl,λ_ _ _ _=>.inl rfl⟩
 |n+1=>J0 (xQ C n)
theorem GF(C:Cfg){n m:Nat}(h:n<=m):IHLe (sem C n) (sem C m):=by
 induction h with
 |refl=>exact⟨λ_ _ _ _ _ _ _=>.inr rfl,λ_ _ _ _=>.inr rfl⟩
 | @step k h ih =>
  have s:=xQ C k;refine⟨λnt d rd c t df g=>?_,λd f as g=>?_⟩
  ·rcases ih.code nt d rd c t df g with e|e
   ·exact .inl e
   ·rw[e];exact s.code _ _ _ _ _ _ _
  ·rcases ih.call d f as g with e|e
   ·exact .inl e
   ·rw[e];exact s.call _ _ _ _
end Hx
end
section
namespace Hx
open Go
open Classical in
noncomputable def I(C:Cfg):IH :=
 ⟨λnt d rd c t df g=>if h:∃n,(sem C n).code nt d rd c t df g≠.fail then (sem C (Classical.choose h)).code nt d rd c t df g else .fail,
  λd f as g=>if h:∃n,(sem C n).call d f as g≠.fail then (sem C (Classical.choose h)).call d f as g else .fail⟩
def Ct(C:Cfg){α:Type}(F:IH->α):Prop:=∃n,∀m,n<=m->F (sem C m)=F (I C)
variable {C:Cfg}
theorem Ct.const{α:Type}(a:α):Ct C (λ_=>a):=⟨0,λ_ _=>rfl⟩
theorem Ct.bind{α β:Type}{F:IH->α}{K:IH->α->β}(h:Ct C F)(hk:Ct C λj=>K j (F (I C))):Ct C λj=>K j (F j):=by obtain⟨n,h⟩:=h;obtain⟨m,hk⟩:=hk;refine⟨max n m,λk hm=>?_⟩;have h1:=h k (by omega);have h2:=hk k (by omega);simp only[h1];exact h2
theorem Ct.map{α β:Type}{F:IH->α}(K:α->β)(h:Ct C F):Ct C λj=>K (F j):=Ct.bind (K:=λ_=>K) h (.const _)
theorem Ct.code(nt d:Nat)(rd:Option Nat)(c:Code)(t:T)(df:List ADf)(g:G):Ct C λj=>j.code nt d rd c t df g:=by
 by_cases h:∃n,(sem C n).code nt d rd c t df g≠.fail
 ·refine⟨Classical.choose h,λm hm=>?_⟩;have hs:=Classical.choose_spec h;have e:(I C).code nt d rd c t df g=(sem C (Classical.choose h)).code nt d rd c t df g:=dif_pos h;show _=(I C).code nt d rd c t df g;rw[e];rcases (GF C hm).code nt d rd c t df g with q|q
  ·exact absurd q hs
  ·exact q.symm
 ·refine⟨0,λm _=>?_⟩;have e:(I C).code nt d rd c t df g=.fail:=dif_neg h;show _=(I C).code nt d rd c t df g;rw[e];exact Tn λq=>h ⟨m,q⟩
theorem Ct.call(d f:Nat)(as:List AV)(g:G):Ct C λj=>j.call d f as g:=by
 by_cases h:∃n,(sem C n).call d f as g≠.fail
 ·refine⟨Classical.choose h,λm hm=>?_⟩;have hs:=Classical.choose_spec h;have e:(I C).call d f as g=(sem C (Classical.choose h)).call d f as g:=dif_pos h;show _=(I C).call d f as g;rw[e];rcases (GF C hm).call d f as g with q|q
  ·exact absurd q hs
  ·exact q.symm
 ·refine⟨0,λm _=>?_⟩;have e:(I C).call d f as g=.fail:=dif_neg h;show _=(I C).call d f as g;rw[e];exact Tn λq=>h ⟨m,q⟩
theorem ux{d:Nat}{g:G}{f:Nat}{args:List AV}:Ct C λj=>ah j d g f args:=by
 unfold ah
 split
 ·exact .const _
 ·rename_i as _;obtain⟨n,h⟩:=Ct.call (C:=C) (Nat.succ d) f as G.empty;exact⟨n,λm hm=>by
   have e:(sem C m).call (Nat.succ d) f as G.empty=(I C).call (Nat.succ d) f as G.empty:=h m hm;simp only[e]⟩
theorem IV{d id:Nat}{args:List AV}{g:G}:Ct C λj=>cp j d id args g:=by
 unfold cp
 split
 ·split
  ·exact .const _
  ·rename_i nt t ps assign body dfr st pend hg o t' ht;refine Ct.bind (K:=λj r=>match r with
    | .ok .norm t1 [] g1=>match g1.get id with
     | .loop nt1 t ps assign1 body1 dfr .ready pend =>
      match j.code nt d (some id) body t1 [] (g1.put id (.loop nt1 t ps assign1 body1 dfr .busy pend)) with
      | .ok e _ [] g2=>match g2.get id with
       | .loop nt t ps assign body dfr _ _=>match e with
        |.norm=>OR.upd (.bool true) (g2.put id (.loop nt t ps assign body dfr .ready none))
        |.exit j=>.upd (.bool false) (g2.put id (.loop nt t ps assign body dfr .done (some (.exit j))))
        |.ret=>.upd (.bool false) (g2.put id (.loop nt t ps assign body dfr .done (some .ret)))
       |_=>.fail
      |_=>.fail
     |_=>.fail
    |_=>.fail) (Ct.code nt d (some id) assign t' [] g) ?_
   split
   ·split
    ·rename_i t1 g1 _ _ nt1 t2 ps2 assign1 body1 dfr1 pend1 _;exact Ct.map (λr=>match r with
      | .ok e _ [] g2=>match g2.get id with
       | .loop nt t ps assign body dfr _ _=>match e with
        |.norm=>OR.upd (.bool true) (g2.put id (.loop nt t ps assign body dfr .ready none))
        |.exit j=>.upd (.bool false) (g2.put id (.loop nt t ps assign body dfr .done (some (.exit j))))
        |.ret=>.upd (.bool false) (g2.put id (.loop nt t ps assign body dfr .done (some .ret)))
       |_=>.fail
      |_=>.fail) (Ct.code nt d (some id) body t1 [] (g1.put id (.loop nt1 t2 ps2 assign1 body1 dfr1 .busy pend1)))
    ·exact .const _
   ·exact .const _
 ·exact .const _
theorem KM{d:Nat}{fv:AV}{vs:List AV}{g:G}:Ct C λj=>fd C j d fv vs g:=by
 unfold fd
 split
 ·split
  ·exact .const _
  ·simp only[aa]
   split
   ·exact ux
   ·exact Ct.map orF (Ct.call _ _ _ _)
 ·exact IV
 ·exact .const _
theorem Qb{op:Op}{x:Stg Kg}(hx:cOp C op=some x){d:Nat}{rd:Option Nat}{t:T}{g:G}:Ct C λj=>x.run j d rd t g:=by
 unfold cOp at hx
 repeat' (first|split at hx|rw[aa]at hx)
 all_goals first
  | (cases hx;done)
  | (injection hx with hx;subst hx;first|exact Ct.const _|exact ux|exact Ct.map orF (Ct.call _ _ _ _)|exact KM)
theorem B4{op:Op}{d:Nat}{rd:Option Nat}{t:T}{g:G}:Ct C λj=>(dj C op).run j d rd t g:=by
 unfold dj
 split
 ·rename_i x hx;exact Qb hx
 ·exact .const _
theorem Bh{out:T->AV->T}{n:IH->T->List ADf->G->CR}{t:T}{df:List ADf}{g:G}{a:IH->OR}(h:Ct C a)(hn:∀t df g,Ct C λj=>n j t df g) :
  Ct C λj=>pC out (n j) t df g (a j):=by
 refine Ct.bind (K:=λj r=>pC out (n j) t df g r) h ?_;cases a (I C) with
 |fail=>exact .const _
 |val v=>exact hn _ _ _
 |upd v g'=>exact hn _ _ _
 |dfr a=>exact hn _ _ _
theorem Dw{out:T->AV->T}{n:IH->T->List ADf->G->List Foot->CR}{t:T}{df:List ADf}{g:G}{fs:List Foot}{lk:Looks}{a:IH->OR}(h:Ct C a)
  (hn:∀t df g fs,Ct C λj=>n j t df g fs):Ct C λj=>lK out (n j) t df g fs lk (a j):=by
 refine Ct.bind (K:=λj r=>lK out (n j) t df g fs lk r) h ?_;cases a (I C) with
 |fail=>exact .const _
 |val v=>exact hn _ _ _ _
 |upd v g'=>exact hn _ _ _ _
 |dfr a=>exact .const _
theorem Hl{n:IH->T->List ADf->G->CR}{a:IH->CR}(h:Ct C a)(hn:∀t df g,Ct C λj=>n j t df g):Ct C λj=>AY (n j) (a j):=by
 refine Ct.bind (K:=λj r=>AY (n j) r) h ?_;unfold AY
 split
 ·exact hn _ _ _
 ·exact .const _
theorem vy{nt:Nat}{all:List Oper}:∀(l:List Oper) (d:Nat) (rd:Option Nat) (t:T) (df:List ADf) (g:G),Ct C λj=>(ku C nt all l).run j d rd t df g
 |[],_,_,_,_,_=>.const _
 | o::rest,d,rd,t,df,g=>by
  unfold ku
  split
  ·split
   ·exact Bh B4 λt df g=>vy rest d rd t df g
   ·split
    ·dsimp only
     split
     ·exact Bh B4 λt df g=>vy rest d rd t df g
     ·exact vy rest d rd _ df g
     ·exact .const _
    ·exact .const _
  ·exact .const _
theorem zd{nt:Nat}{pm:List Nat}{all:List Oper}:∀(l:List Oper) (k d:Nat) (rd:Option Nat) (t:T) (df:List ADf) (g:G) (fs:List Foot),
  Ct C λj=>(jx C nt pm all k l).run j d rd t df g fs
 |[],_,_,_,_,_,_,_=>.const _
 | o::rest,k,d,rd,t,df,g,fs=>by
  unfold jx
  split
  ·dsimp only
   split
   ·exact Dw B4 λt df g fs=>zd rest (k+1) d rd t df g fs
   ·exact zd rest (k+1) d rd _ df g _
   ·exact .const _
  ·exact .const _
theorem FD{nt:Nat}{ops:List Oper}{draw:Bool}{d:Nat}{rd:Option Nat}{t:T}{df:List ADf}{g:G}:Ct C λj=>(gN C nt ops draw).run j d rd t df g:=by
 unfold gN;simp only[aa]
 split
 ·split
  ·split
   ·exact Ct.map (nG g) (vy _ _ _ _ _ _)
   ·exact zd _ _ _ _ _ _ _ _
  ·exact .const _
 ·exact vy _ _ _ _ _ _
theorem Dv{nt d:Nat}{rd:Option Nat}{id:Nat}{t:T}{df:List ADf}{g:G}:Ct C λj=>eL j nt d rd id t df g:=by
 unfold eL
 split
 ·split
  ·exact .const _
  ·split
   ·exact .const _
   ·exact Ct.code _ _ _ _ _ _ _
 ·exact .const _
theorem vz{nt d:Nat}{rd:Option Nat}{fv:AV}{ps:List Nat}{assign body:Code}{t:T}{df:List ADf}{dfr:Nat}{g:G} :
  Ct C λj=>cO C j nt d rd fv ps assign body t df dfr g:=by
 unfold cO
 split
 ·rename_i f first cap
  simp only[aa]
  split
  ·exact .const _
  ·refine Ct.bind (K:=λj r=>match r with|.ok _ g2=>eL j nt d rd g.nx t df g2|.fail=>.fail) (Ct.call d f (first++(.yld g.nx::cap)) (g.new (.loop nt t ps assign body dfr .ready none))) ?_
   split
   ·exact Dv
   ·exact .const _
 ·exact .const _
theorem IU{nt:Nat}{fo:T->AV}{ps:List Nat}{assign body:Code}{d:Nat}{rd:Option Nat}{t:T}{df:List ADf}{g:G}:Ct C λj=>nH C nt fo ps assign body j d rd t df g:=by
 unfold nH
 split
 ·split
  ·exact vz
  ·exact .const _
 ·exact vz
theorem Dt{nt:Nat}:∀(c:Code) (d:Nat) (rd:Option Nat) (t:T) (df:List ADf) (g:G),Ct C λj=>(aU C nt c).run j d rd t df g:=by
 intro c
 induction c with
 |seq a b iha ihb=>intro d rd t df g;unfold aU;exact Hl (iha _ _ _ _ _) λt df g=>ihb _ _ _ _ _
 | cond q a b iha ihb =>
  intro d rd t df g;unfold aU
  split
  ·dsimp only
   split
   ·simp only[aa]
    split
    ·exact iha _ _ _ _ _
    ·exact ihb _ _ _ _ _
   ·exact .const _
  ·exact .const _
 |block id body ih=>intro d rd t df g;unfold aU;exact Ct.map (uu id) (ih _ _ _ _ _)
 |loop body ih=>intro d rd t df g;unfold aU;exact Hl (ih _ _ _ _ _) λt df g=>Ct.code _ _ _ _ _ _ _
 |scope body ih=>intro d rd t df g;unfold aU;exact ih _ _ _ _ _
 |region p ops draw=>intro d rd t df g;unfold aU;exact FD
 | rangeFunc f ps assign body _ _ =>
  intro d rd t df g;unfold aU
  split
  ·exact IU
  ·exact .const _
 |_=>intro d rd t df g;exact .const _
theorem KN{d:Nat}:∀(l:List ADf) (g:G),Ct C λj=>fS j d l g:=by
 intro l
 induction l with
 |nil=>intro g;exact .const _
 | cons a l ih =>
  intro g;cases a with
  | mark id =>
   simp only[fS]
   split
   ·exact ih _
   ·exact .const _
  | call fv args =>
   cases fv with
   | clo f first cap =>
    simp only[fS];refine Ct.bind (K:=λj r=>match r with|.ok _ g'=>fS j d l g'|.fail=>none) (Ct.call d f (first++(args++cap)) g) ?_
    split
    ·exact ih _
    ·exact .const _
   |_=>exact .const _
theorem FE{d:Nat}{res:T->G->Option (List AV)}{t:T}{df:List ADf}{g:G}:Ct C λj=>iP j d res t df g:=by unfold iP;exact Ct.map (λr=>match r with|none=>FR.fail|some g'=>match res t g' with|some vs=>.ok (jT vs) g'|none=>.fail) (KN df g)
theorem Du{d f:Nat}{args:List AV}{g:G}:Ct C λj=>fe C j d f args g:=by
 unfold fe
 split
 ·rename_i x hx;unfold cFn at hx
  split at hx
  ·cases hx
  rename_i fn hfn
  split at hx
  ·cases hx
  rename_i c hbody
  split at hx
  rotate_left
  ·cases hx
  rename_i r hres;rw[aa]at hx
  split at hx
  ·cases hx
  injection hx with hx;subst hx;dsimp only;simp only[aa]
  split
  ·refine Ct.bind (K:=λj q=>match q with|.ok (.exit _) _ _ _=>FR.fail|.ok _ t df g'=>iP j d r.run t df g'|.fail=>.fail) (Dt c d none (co 0 args .nil) [] g) ?_
   split
   ·exact .const _
   ·exact FE
   ·exact .const _
  ·exact .const _
 ·exact .const _
theorem Fp(nt d:Nat)(rd:Option Nat)(c:Code)(t:T)(df:List ADf)(g:G):(I C).code nt d rd c t df g=(aU C nt c).run (I C) d rd t df g:=by obtain⟨n,h⟩:=Dt (C:=C) (nt:=nt) c d rd t df g;obtain⟨m,h'⟩:=Ct.code (C:=C) nt d rd c t df g;have h1:=h (max n m) (by omega);have h2:=h' (max n m+1) (by omega);exact h2.symm.trans h1
theorem PU(d f:Nat)(as:List AV)(g:G):(I C).call d f as g=fe C (I C) d f as g:=by obtain⟨n,h⟩:=Du (C:=C) (d:=d) (f:=f) (args:=as) (g:=g);obtain⟨m,h'⟩:=Ct.call (C:=C) d f as g;have h1:=h (max n m) (by omega);have h2:=h' (max n m+1) (by omega);exact h2.symm.trans h1
theorem Kf{d f:Nat}{as:List AV}{g:G}{v:AV}{g':G}(h:(I C).call d f as g=.ok v g'):∃n,(sem C n).call d f as g=.ok v g':=by obtain⟨m,h'⟩:=Ct.call (C:=C) d f as g;exact⟨m,by rw[<-h];exact h' m (R5 m)⟩
end Hx
end
section
namespace Hx
open Go
noncomputable section
def tat(t:T)(n:Nat):AV:=Tr.get AV.undef t n
def fq(t:T)(n:Nat)(v:AV):T:=(sp AV.undef n).run t v
inductive Od where
 |t (n:Nat)
 |k (v:AV)
def Od.get(t:T):Od->AV
 |.t n=>tat t n
 |.k v=>v
def iW(t:T):List Od->List AV
 |[]=>[]
 |o::os=>o.get t::iW t os
def H8(c a b:AV):OR:=match c with|.bool q=>aB q (.val a) (.val b)|_=>.fail
def xW(x:AV)(g:G):OR:=aB x.isTup .fail (.upd (.hptr g.nx 0 0 0) (g.new (VG (bz x.cells) [x.cells])))
def wO(zero:List AV)(pl:List (Nat×Nat))(vs:List AV):OR :=
 match eH zero (pl.zip vs) with|some cs=>.val (.agg cs)|none=>.fail
def Kr(sz len:Nat)(zero:List AV)(is:List Nat)(vs:List AV)(g:G):OR :=
 match iG sz (jt len zero) (is.zip vs) with
 |some rows=>.upd (.hsl g.nx 0 0 len none) (g.new (VG sz rows))
 |none=>.fail
def rF(ag:Bool)(n:Nat)(p:AV)(g:G):OR:=nD ag n (λ_=>p) .nil g
def kW(n:Nat)(p x:AV)(g:G):OR:=pB n (λ_=>p) (λ_=>x) .nil g
def xK(x:AV):OR:=match x with
 |.tptr l sz rows i off=>.val (.tptr l sz rows i off)
 |.hptr id ep i off=>.val (.hptr id ep i off)
 |.clo f a c=>.val (.clo f a c)
 |.yld id=>.val (.yld id)
 |_=>.fail
def bU(op:BinOp)(x y:AV):OR:=match x,y with|.int k a,.int k' b=>orV ((gD op).run k a k' b)|_,_=>.fail
def yc(neg:Bool)(ek:EqKind)(x y:AV):OR:=match eqA ek x y with|some b=>.val (.bool (aB neg (j3 b) b))|none=>.fail
def OE(x:AV):OR:=match x with|.bool b=>.val (.bool (j3 b))|_=>.fail
def unV(op:UnOp)(x:AV):OR:=match x with|.int k n=>orV (qi (Op.unary op (.int k n)))|_=>.fail
def Hk(k:IntKind)(x:AV):OR:=match x with|.int _ n=>.val (.int k (tz k n))|_=>.fail
def Gd(sz bytes:Nat)(zero:List AV)(l c:AV)(g:G):OR:=iX sz bytes zero (λ_=>l) (λ_=>c) .nil g
def yk(sz:Nat)(x:AV)(lo hi:Option AV)(g:G):OR:=orV (nM sz x lo hi none g.h)
def RA(n sz:Nat)(x:AV)(lo hi:Option AV)(g:G):OR:=jr n sz (λ_=>x) (λ_=>lo) (λ_=>hi) .nil g
def K0(fo:Nat)(x:AV):OR:=match x with
 |.tptr l sz rows i off=>.val (.tptr l sz rows i (off+fo))
 |.hptr id ep i off=>.val (.hptr id ep i (off+fo))
 |_=>.fail
def Qi(ag:Bool)(n fo:Nat)(x:AV):OR:=match x with|.agg cs=>orV (bT ag n cs fo)|_=>.fail
def Cp(sz:Nat)(x i:AV)(g:G):OR:=iH sz (λ_=>x) (λ_=>i) .nil g
def FW(n sz:Nat)(x i:AV):OR:=nz n sz (λ_=>x) (λ_=>i) .nil G.empty
def ixV(ag:Bool)(n sz:Nat)(x i:AV):OR:=uJ ag n sz (λ_=>x) (λ_=>i) .nil G.empty
def KV(x:AV)(i:Nat):OR:=match x with|.tup vs=>orV (zY i vs)|_=>.fail
def mxV(x y:AV):OR:=match x with
 |.int k m=>match y with|.int k' n=>aB (cV k k') (.val (.int k (aB (ye m n) n m))) .fail|_=>.fail
 |_=>.fail
def mnV(x y:AV):OR:=match x with
 |.int k m=>match y with|.int k' n=>aB (cV k k') (.val (.int k (aB (ye n m) n m))) .fail|_=>.fail
 |_=>.fail
def am(C:Cfg)(d f:Nat)(as:List AV)(g:G):OR :=
 match C.ext f with
 |some e=>e d as g
 |none=>aB (C.iso f) (ah (I C) d g f as) (orF ((I C).call d f as g))
inductive SO where
 |mv (x:Od)
 |pick (c a b:Od)
 |alloc (cs:List AV)
 |box (x:Od)
 |build (zero:List AV) (pl:List (Nat×Nat)) (vs:List Od)
 |bsl (sz len:Nat) (zero:List AV) (is:List Nat) (vs:List Od)
 |load (ag:Bool) (n:Nat) (a:Od)
 |store (n:Nat) (a x:Od)
 |nilc (x:Od)
 |bin (op:BinOp) (x y:Od)
 |eq (neg:Bool) (ek:EqKind) (x y:Od)
 |not (x:Od)
 |un (op:UnOp) (x:Od)
 |conv (k:IntKind) (x:Od)
 |mkf (f:Nat) (a c:List Od)
 |mks (sz bytes:Nat) (zero:List AV) (l c:Od)
 |slc (sz:Nat) (x:Od) (lo hi:List Od)
 |sla (n sz:Nat) (x:Od) (lo hi:List Od)
 |fad (fo:Nat) (x:Od)
 |fld (ag:Bool) (n fo:Nat) (x:Od)
 |ixs (sz:Nat) (x i:Od)
 |ixa (n sz:Nat) (x i:Od)
 |ix (ag:Bool) (n sz:Nat) (x i:Od)
 |ext (x:Od) (i:Nat)
 |len (lk:LenKind) (x:Od)
 |app (sz bytes:Nat) (x y:Od)
 |cpy (sz:Nat) (x y:Od)
 |mx (x y:Od)
 |mn (x y:Od)
 |call (f:Nat) (as:List Od)
 |dyn (f:Od) (as:List Od)
 |raw (op:Op)
def SO.run(C:Cfg)(d:Nat)(rd:Option Nat)(t:T)(g:G):SO->OR
 |.mv x=>.val (x.get t)
 |.pick c a b=>H8 (c.get t) (a.get t) (b.get t)
 |.alloc cs=>.upd (.hptr g.nx 0 0 0) (g.new (VG (bz cs) [cs]))
 |.box x=>xW (x.get t) g
 |.build zero pl vs=>wO zero pl (iW t vs)
 |.bsl sz n zero is vs=>Kr sz n zero is (iW t vs) g
 |.load ag n a=>rF ag n (a.get t) g
 |.store n a x=>kW n (a.get t) (x.get t) g
 |.nilc x=>xK (x.get t)
 |.bin op x y=>bU op (x.get t) (y.get t)
 |.eq neg ek x y=>yc neg ek (x.get t) (y.get t)
 |.not x=>OE (x.get t)
 |.un op x=>unV op (x.get t)
 |.conv k x=>Hk k (x.get t)
 |.mkf f a c=>.val (.clo f (iW t a) (iW t c))
 |.mks sz bytes zero l c=>Gd sz bytes zero (l.get t) (c.get t) g
 |.slc sz x lo hi=>yk sz (x.get t) (iW t lo).head? (iW t hi).head? g
 |.sla n sz x lo hi=>RA n sz (x.get t) (iW t lo).head? (iW t hi).head? g
 |.fad fo x=>K0 fo (x.get t)
 |.fld ag n fo x=>Qi ag n fo (x.get t)
 |.ixs sz x i=>Cp sz (x.get t) (i.get t) g
 |.ixa n sz x i=>FW n sz (x.get t) (i.get t)
 |.ix ag n sz x i=>ixV ag n sz (x.get t) (i.get t)
 |.ext x i=>KV (x.get t) i
 |.len lk x=>dO lk (x.get t) g
 |.app sz bytes x y=>dC sz bytes (x.get t) (y.get t) g
 |.cpy sz x y=>Bg sz (x.get t) (y.get t) g
 |.mx x y=>mxV (x.get t) (y.get t)
 |.mn x y=>mnV (x.get t) (y.get t)
 |.call f as=>am C d f (iW t as) g
 |.dyn f as=>fd C (I C) d (f.get t) (iW t as) g
 |.raw op=>(dj C op).run (I C) d rd t g
def nOd(C:Cfg):Operand->Option Od
 |.tmp n=>some (.t n)
 |.const v=>match ofV v with|some a=>some (.k a)|none=>none
 |.global g=>match C.glob g with|some (sz,rows)=>some (.k (.tptr 0 sz rows 0 0))|none=>none
 |.func f=>some (.k (.clo f [] []))
def nW(C:Cfg):List Operand->Option (List Od)
 |[]=>some []
 | x::xs=>match nOd C x,nW C xs with
  |some a,some as=>some (a::as)
  |_,_=>none
theorem bi{C:Cfg}{x:Operand}{o:Od}(h:nOd C x=some o):∃s,aT C x=some s/\∀t,s.run t=o.get t:=by
 unfold nOd at h
 split at h
 ·injection h with h;subst h;exact⟨_,rfl,λt=>gp_run _ _ _⟩
 ·split at h
  ·rename_i a ha;injection h with h;subst h;exact⟨⟨λ_=>a⟩,by simp only[aT,ha],λt=>rfl⟩
  ·cases h
 ·split at h
  ·rename_i sz rows ha;injection h with h;subst h;exact⟨⟨λ_=>.tptr 0 sz rows 0 0⟩,by simp only[aT,ha],λt=>rfl⟩
  ·cases h
 ·injection h with h;subst h;exact⟨_,rfl,λt=>rfl⟩
theorem dh{C:Cfg}:∀{xs:List Operand} {os:List Od},nW C xs=some os->∃s,bV C xs=some s/\∀t,s.run t=iW t os
 |[],os,h=>by injection h with h;subst h;exact⟨_,rfl,λt=>rfl⟩
 | x::xs,os,h=>by
  unfold nW at h
  split at h
  ·rename_i a as ha has;injection h with h;subst h;obtain⟨s,h1,h2⟩:=bi ha;obtain⟨ss,h3,h4⟩:=dh has;exact⟨⟨λt=>s.run t::ss.run t⟩,by simp only[bV,h1,h3],λt=>by simp only[h2,h4,iW]⟩
  ·cases h
def Mj(C:Cfg)(op:Op):SO :=
 match op with
 |.move x|.assign x=>match nOd C x with|some a=>.mv a|none=>.raw op
 | .pick c a b=>match nOd C c,nOd C a,nOd C b with
  |some c,some a,some b=>.pick c a b
  |_,_,_=>.raw op
 | .alloc ty=>match gK C.P ty with
  |some cs=>.alloc cs
  |none=>.raw op
 | .box _ x=>match nOd C x with
  |some a=>.box a
  |none=>.raw op
 | .build ty parts=>match gK C.P ty,nW C (parts.toList.map (·.2)) with
  | some zero,some vs =>
   match C.P.underlying ty with
   | some (.struct fs)=>match aJ (λf:Field=>match szT C.P f.type with| some n=>some (f.offset,n)| none=>none) fs.toList with
    | some places=>match aJ (λi=>places[i]?) (parts.toList.map (·.1)) with
     |some pl=>.build zero pl vs
     |none=>.raw op
    |none=>.raw op
   | some (.array _ e)=>match szT C.P e with
    |some n=>.build zero ((parts.toList.map (·.1)).map λi=>(i*n,n)) vs
    |none=>.raw op
   |_=>.raw op
  |_,_=>.raw op
 | .buildSlice ty len parts=>match l6 C.P ty,nW C (parts.toList.map (·.2)) with
  | some e,some vs=>match szT C.P e,gK C.P e with
   | some sz,some zero=>aB (Nat.beq (bz zero) sz&&Nat.blt 0 sz&&Nat.ble (len*sz) 1048576)
    (.bsl sz len zero (parts.toList.map (·.1)) vs) (.raw op)
   |_,_=>.raw op
  |_,_=>.raw op
 | .load ty a=>match nOd C a,rL C.P ty,szT C.P ty with
  |some a,some ag,some n=>.load ag n a
  |_,_,_=>.raw op
 | .store ty a x=>match nOd C a,nOd C x,szT C.P ty with
  |some a,some x,some n=>.store n a x
  |_,_,_=>.raw op
 | .nilCheck x=>match nOd C x with
  |some a=>.nilc a
  |none=>.raw op
 | .binOp b ty x y _=>match nOd C x,nOd C y with
  | some x,some y=>match b with
   | .eql=>match qx C.P ty with
    |.other=>.bin b x y
    |ek=>.eq false ek x y
   | .neq=>match qx C.P ty with
    |.other=>.bin b x y
    |ek=>.eq true ek x y
   |b=>.bin b x y
  |_,_=>.raw op
 | .unOp u _ x=>match nOd C x with
  | some x=>match u with
   |.not=>.not x
   |u=>.un u x
  |none=>.raw op
 | .convert src dst x=>match nOd C x,C.P.underlying src,C.P.underlying dst with
  |some x,some _,some (.int k)=>.conv k x
  |_,_,_=>.raw op
 | .makeFunc (.func f) first captured=>match nW C first.toList,nW C captured.toList with
  |some a,some c=>.mkf f a c
  |_,_=>.raw op
 | .makeSlice ty l c=>match l6 C.P ty,nOd C l,nOd C c with
  | some e,some l,some c=>match szT C.P e,kh C.P e,gK C.P e with
   |some sz,some bytes,some zero=>aB (Nat.beq (bz zero) sz&&Nat.blt 0 sz) (.mks sz bytes zero l c) (.raw op)
   |_,_,_=>.raw op
  |_,_,_=>.raw op
 | .slice ty x lo hi none=>match C.P.underlying ty,nOd C x,nW C lo.toList,nW C hi.toList with
  | some (.slice e),some x,some l,some h=>match szT C.P e with
   |some sz=>.slc sz x l h
   |none=>.raw op
  | some (.array n e),some x,some l,some h=>match szT C.P e with
   |some (sz+1)=>.sla n (sz+1) x l h
   |_=>.raw op
  |_,_,_,_=>.raw op
 | .fieldAddr ty x f=>match nOd C x,s_ C.P ty f with
  | some a,some (fo,ft)=>match szT C.P ft with
   |some (_+1)=>.fad fo a
   |_=>.raw op
  |_,_=>.raw op
 | .field ty x f=>match nOd C x,s_ C.P ty f with
  | some a,some (fo,ft)=>match rL C.P ft,szT C.P ft with
   |some ag,some n=>.fld ag n fo a
   |_,_=>.raw op
  |_,_=>.raw op
 | .indexAddr ty x ix=>match nOd C x,nOd C ix with
  | some a,some i=>match C.P.underlying ty with
   | some (.slice e)=>match szT C.P e with
    |some sz=>.ixs sz a i
    |none=>.raw op
   | some (.array n e)=>match szT C.P e with
    |some sz=>.ixa n sz a i
    |none=>.raw op
   |_=>.raw op
  |_,_=>.raw op
 | .index ty x ix=>match nOd C x,nOd C ix with
  | some a,some i=>match C.P.underlying ty with
   | some (.array n e)=>match rL C.P e,szT C.P e with
    |some ag,some sz=>.ix ag n sz a i
    |_,_=>.raw op
   |_=>.raw op
  |_,_=>.raw op
 | .extract x i=>match nOd C x with
  |some a=>.ext a i
  |none=>.raw op
 |op=>.raw op
def nOp(C:Cfg)(op:Op):SO :=
 match op with
 | .call { callee:=.value (.func f),args,.. }=>match nW C args.toList with
  |some vs=>.call f vs
  |none=>.raw op
 | .call { callee:=.value fo,args,.. }=>match nOd C fo,nW C args.toList with
  |some f,some vs=>.dyn f vs
  |_,_=>.raw op
 | .call { callee:=.builtin b,args,argTypes }=>match b,nW C args.toList with
  | .len,some [x]=>match argTypes[0]? with
   |some t=>.len (mq C.P t) x
   |none=>.raw op
  | .append,some [a,x]=>match argTypes[0]?,argTypes[1]? with
   | some t,some xt=>match l6 C.P t,C.P.underlying xt with
    | some e,some (.slice _)=>match szT C.P e,kh C.P e,gK C.P e with
     |some sz,some bytes,some zero=>aB (Nat.beq (bz zero) sz&&Nat.blt 0 sz&&Nat.blt 0 bytes) (.app sz bytes a x) (.raw op)
     |_,_,_=>.raw op
    |_,_=>.raw op
   |_,_=>.raw op
  | .copy,some [a,x]=>match argTypes[0]? with
   | some t=>match l6 C.P t with
    | some e=>match szT C.P e with
     |some sz=>.cpy sz a x
     |none=>.raw op
    |none=>.raw op
   |none=>.raw op
  |.max,some [x,y]=>.mx x y
  |.min,some [x,y]=>.mn x y
  |_,_=>.raw op
 |op=>Mj C op
theorem bN{C:Cfg}{op:Op}{s:Stg SFn}(h1:cOp C op=match cm C op with|some s=>some ⟨λ_ _ _ t g=>s.run t g⟩|none=>none)(h:cm C op=some s)
  {ih:IH} {d:Nat} {rd:Option Nat} {t:T} {g:G}:(dj C op).run ih d rd t g=s.run t g:=by
 unfold dj;rw[h1,h]
theorem Ox{C:Cfg}{op:Op}(h1:cOp C op=match cm C op with|some s=>some ⟨λ_ _ _ t g=>s.run t g⟩|none=>none){d:Nat}{rd:Option Nat}{t:T}{g:G} :
  (Mj C op).run C d rd t g=(dj C op).run (I C) d rd t g:=by
 unfold Mj
 split
 case h_1 x =>
  split
  ·rename_i a ha;obtain⟨s,hs,he⟩:=bi ha;rw[bN h1 (by simp only[cm,hs];rfl)];simp only[SO.run,he]<;>rfl
  ·rfl
 case h_2 x =>
  split
  ·rename_i a ha;obtain⟨s,hs,he⟩:=bi ha;rw[bN h1 (by simp only[cm,hs];rfl)];simp only[SO.run,he]<;>rfl
  ·rfl
 case h_3 c a b =>
  split
  ·rename_i c a b hc ha hb;obtain⟨s1,q1,e1⟩:=bi hc;obtain⟨s2,q2,e2⟩:=bi ha;obtain⟨s3,q3,e3⟩:=bi hb;rw[bN h1 (by simp only[cm,q1,q2,q3];rfl)];simp only[SO.run,e1,e2,e3,H8]<;>rfl
  ·rfl
 case h_4 ty =>
  split
  ·rename_i cs hz;rw[bN h1 (by simp only[cm,hz];rfl)];rfl
  ·rfl
 case h_5 ty x =>
  split
  ·rename_i a ha;obtain⟨s,hs,he⟩:=bi ha;rw[bN h1 (by simp only[cm,hs];rfl)];simp only[SO.run,xW,Kq,he]<;>rfl
  ·rfl
 case h_6 ty parts =>
  split
  ·rename_i zero vs hz hv;obtain⟨s,hs,he⟩:=dh hv
   split
   ·rename_i fs hu
    split
    ·rename_i places hp
     split
     ·rename_i pl hpl;have hh:cm C (.build ty parts)=some ⟨oP zero pl s.run⟩:=by
       simp only[cm,hz,hs,hu]
       split
       ·rename_i p' h';have:some places=some p':=hp.symm.trans h';injection this with this;subst this;rw[hpl]
       ·rename_i h';have:some places=none:=hp.symm.trans h';cases this
      rw[bN h1 hh];simp only[SO.run,wO,oP,he]<;>rfl
     ·rfl
    ·rfl
   ·rename_i n e hu
    split
    ·rename_i n hn;rw[bN h1 (by simp only[cm,hz,hs,hu,hn];rfl)];simp only[SO.run,wO,oP,he]<;>rfl
    ·rfl
   ·rfl
  ·rfl
 case h_7 ty len parts =>
  split
  ·rename_i e vs hz hv;obtain⟨s,hs,he⟩:=dh hv
   split
   ·rename_i sz zero h2 h3;rw[aa]
    split
    ·rename_i hc;rw[bN h1 (by simp only[cm,hz,hs,h2,h3,hc];rfl)];simp only[SO.run,Kr,i_,he]<;>rfl
    ·rfl
   ·rfl
  ·rfl
 case h_8 ty a =>
  split
  ·rename_i a ag n ha h2 h3;obtain⟨s,hs,he⟩:=bi ha;rw[bN h1 (by simp only[cm,hs,h2,h3];rfl)];simp only[SO.run,rF,nD,he]<;>rfl
  ·rfl
 case h_9 ty a x =>
  split
  ·rename_i a x n ha hx h3;obtain⟨s,hs,he⟩:=bi ha;obtain⟨s2,hs2,he2⟩:=bi hx;rw[bN h1 (by simp only[cm,hs,hs2,h3];rfl)];simp only[SO.run,kW,pB,he,he2]<;>rfl
  ·rfl
 case h_10 x =>
  split
  ·rename_i a ha;obtain⟨s,hs,he⟩:=bi ha;rw[bN h1 (by simp only[cm,hs];rfl)];simp only[SO.run,xK,he]<;>rfl
  ·rfl
 case h_11 b ty x y yt =>
  split
  ·rename_i x y hx hy;obtain⟨s,hs,he⟩:=bi hx;obtain⟨s2,hs2,he2⟩:=bi hy;rw[bN h1 (by simp only[cm,hs,hs2];rfl)];simp only[he,he2]
   split
   ·split
    ·rename_i hk;simp only[yR,hk];rfl
    ·rename_i ek hk;simp only[SO.run,yc,yR]<;>rfl
   ·split
    ·rename_i hk;simp only[yR,hk];rfl
    ·rename_i ek hk;simp only[SO.run,yc,yR]<;>rfl
   ·rename_i hn1 hn2;simp only[SO.run,yR,bU]<;>rfl
  ·rfl
 case h_12 u ty x =>
  split
  ·rename_i a ha;obtain⟨s,hs,he⟩:=bi ha;rw[bN h1 (by simp only[cm,hs];rfl)]
   split
   ·simp only[SO.run,OE,unA,he]<;>rfl
   ·rename_i hn;simp only[SO.run,unV,unA,he]<;>rfl
  ·rfl
 case h_13 src dst x =>
  split
  ·rename_i a ty k ha h2 h3;obtain⟨s,hs,he⟩:=bi ha;rw[bN h1 (by simp only[cm,hs,h2,h3];rfl)];simp only[SO.run,Hk,he]<;>rfl
  ·rfl
 case h_14 f first captured =>
  split
  ·rename_i a c ha hc;obtain⟨s,hs,he⟩:=dh ha;obtain⟨s2,hs2,he2⟩:=dh hc;rw[bN h1 (by simp only[cm,hs,hs2];rfl)];simp only[SO.run,he,he2]<;>rfl
  ·rfl
 case h_15 ty l c =>
  split
  ·rename_i e l c h0 hl hc;obtain⟨s,hs,he⟩:=bi hl;obtain⟨s2,hs2,he2⟩:=bi hc
   split
   ·rename_i sz bytes zero h2 h3 h4;rw[aa]
    split
    ·rename_i hc;rw[bN h1 (by simp only[cm,h0,hs,hs2,h2,h3,h4,hc];rfl)];simp only[SO.run,Gd,iX,he,he2]<;>rfl
    ·rfl
   ·rfl
  ·rfl
 case h_16 ty x lo hi =>
  split
  ·rename_i e x l h h0 hx hl hh;obtain⟨s,hs,he⟩:=bi hx;obtain⟨s2,hs2,he2⟩:=dh hl;obtain⟨s3,hs3,he3⟩:=dh hh
   split
   ·rename_i sz h2;rw[bN h1 (by simp only[cm,h0,hs,hs2,hs3,h2];rfl)];simp only[SO.run,yk,he,he2,he3]<;>rfl
   ·rfl
  ·rename_i n e x l h h0 hx hl hh;obtain⟨s,hs,he⟩:=bi hx;obtain⟨s2,hs2,he2⟩:=dh hl;obtain⟨s3,hs3,he3⟩:=dh hh
   split
   ·rename_i sz h2;rw[bN h1 (by simp only[cm,h0,hs,hs2,hs3,h2];rfl)];simp only[SO.run,RA,jr,he,he2,he3]<;>rfl
   ·rfl
  ·rfl
 case h_17 ty x f =>
  split
  ·rename_i a fo ft ha h0;obtain⟨s,hs,he⟩:=bi ha
   split
   ·rename_i k h2;rw[bN h1 (by simp only[cm,hs,h0,h2];rfl)];simp only[SO.run,K0,kM,he]<;>rfl
   ·rfl
  ·rfl
 case h_18 ty x f =>
  split
  ·rename_i a fo ft ha h0;obtain⟨s,hs,he⟩:=bi ha
   split
   ·rename_i ag n h2 h3;rw[bN h1 (by simp only[cm,hs,h0,h2,h3];rfl)];simp only[SO.run,Qi,he]<;>rfl
   ·rfl
  ·rfl
 case h_19 ty x ix =>
  split
  ·rename_i a i ha hi;obtain⟨s,hs,he⟩:=bi ha;obtain⟨s2,hs2,he2⟩:=bi hi
   split
   ·rename_i e h0
    split
    ·rename_i sz h2;rw[bN h1 (by simp only[cm,hs,hs2,h0,h2];rfl)];simp only[SO.run,Cp,iH,he,he2]<;>rfl
    ·rfl
   ·rename_i n e h0
    split
    ·rename_i sz h2;rw[bN h1 (by simp only[cm,hs,hs2,h0,h2];rfl)];simp only[SO.run,FW,nz,he,he2]<;>rfl
    ·rfl
   ·rfl
  ·rfl
 case h_20 ty x ix =>
  split
  ·rename_i a i ha hi;obtain⟨s,hs,he⟩:=bi ha;obtain⟨s2,hs2,he2⟩:=bi hi
   split
   ·rename_i n e h0
    split
    ·rename_i ag sz h2 h3;rw[bN h1 (by simp only[cm,hs,hs2,h0,h2,h3];rfl)];simp only[SO.run,ixV,uJ,he,he2]<;>rfl
    ·rfl
   ·rfl
  ·rfl
 case h_21 x i =>
  split
  ·rename_i a ha;obtain⟨s,hs,he⟩:=bi ha;rw[bN h1 (by simp only[cm,hs];rfl)];simp only[SO.run,KV,he]<;>rfl
  ·rfl
 case h_22=>rfl
theorem pG{C:Cfg}{xs:List Operand}{os:List Od}(h:nW C xs=some os) :
  (∀o,os=[o]->∃x s,xs=[x]/\aT C x=some s/\∀t,s.run t=o.get t) /\
  (∀o p,os=[o,p]->∃x y s u,xs=[x,y]/\aT C x=some s/\aT C y=some u/\(∀t,s.run t=o.get t)/\∀t,u.run t=p.get t):=by
 refine⟨λo ho=>?_,λo p ho=>?_⟩
 ·subst ho
  match xs,h with
  | [x],h =>
   unfold nW at h
   split at h
   ·rename_i a as ha has;injection h with h;injection h with h1 h2;subst h1;obtain⟨s,q,e⟩:=bi ha;exact⟨x,s,rfl,q,e⟩
   ·cases h
  | x::y::xs,h =>
   unfold nW at h
   split at h
   ·rename_i a as ha has;unfold nW at has
    split at has
    ·injection has with has;subst has;injection h with h;injection h with h1 h2;cases h2
    ·cases has
   ·cases h
 ·subst ho
  match xs,h with
  | [x,y],h =>
   unfold nW at h
   split at h
   ·rename_i a as ha has;unfold nW at has
    split at has
    ·rename_i b bs hb hbs;injection has with has;subst has;injection h with h;injection h with h1 h2;injection h2 with h3 h4;subst h1;subst h3;obtain⟨s,q,e⟩:=bi ha;obtain⟨s',q',e'⟩:=bi hb;exact⟨x,y,s,s',rfl,q,q',e,e'⟩
    ·cases has
   ·cases h
  | [x],h =>
   unfold nW at h
   split at h
   ·rename_i a as ha has;injection has with has;subst has;injection h with h;injection h with h1 h2;cases h2
   ·cases h
  | x::y::z::xs,h =>
   unfold nW at h
   split at h
   ·rename_i a as ha has;unfold nW at has
    split at has
    ·rename_i b bs hb hbs;unfold nW at hbs
     split at hbs
     ·injection hbs with hbs;subst hbs;injection has with has;subst has;injection h with h;injection h with h1 h2;injection h2 with h3 h4;cases h4
     ·cases hbs
    ·cases has
   ·cases h
theorem Cz{C:Cfg}{op:Op}{d:Nat}{rd:Option Nat}{t:T}{g:G}:(nOp C op).run C d rd t g=(dj C op).run (I C) d rd t g:=by
 unfold nOp
 split
 ·rename_i f args ats
  split
  ·rename_i vs hv;obtain⟨s,hs,he⟩:=dh hv;simp only[SO.run,dj,cOp,hs,am];cases hx:C.ext f with
   |some e=>simp only[he]
   |none=>cases hi:C.iso f<;>simp only[he]
  ·rfl
 ·rename_i fo args ats hnf
  split
  ·rename_i f vs hf hv;obtain⟨s,hs,he⟩:=dh hv;obtain⟨s2,hs2,he2⟩:=bi hf;cases fo with
   |func k=>exact absurd rfl (hnf k)
   |tmp k=>simp only[SO.run,dj,cOp,hs,hs2,he,he2]
   |const k=>simp only[SO.run,dj,cOp,hs,hs2,he,he2]
   |global k=>simp only[SO.run,dj,cOp,hs,hs2,he,he2]
  ·rfl
 ·rename_i b args ats;have hc:b≠.recover->cOp C (.call { callee:=.builtin b,args:=args,argTypes:=ats })=match cm C (.call { callee:=.builtin b,args:=args,argTypes:=ats }) with
    |some s=>some ⟨λ_ _ _ t g=>s.run t g⟩|none=>none:=by
   intro hb;cases b<;>first|rfl|exact absurd rfl hb
  split
  ·rename_i x hx;obtain⟨y,s,hxs,hs,he⟩:=(pG hx).1 _ rfl
   split
   ·rename_i ty hty;rw[bN (hc (by simp)) (by simp only[cm,dD,hxs,hty,hs];rfl)];simp only[SO.run,he]<;>rfl
   ·rfl
  ·rename_i a x hx;obtain⟨y,z,s,u,hxs,hs,hu,he,he2⟩:=(pG hx).2 _ _ rfl
   split
   ·rename_i ty xt hty hxt
    split
    ·rename_i e e2 h1 h2
     split
     ·rename_i sz bytes zero h3 h4 h5;rw[aa]
      split
      ·rename_i hcc;rw[bN (hc (by simp)) (by simp only[cm,dD,hxs,hty,hxt,hs,hu,h1,h2,h3,h4,h5,hcc];rfl)];simp only[SO.run,he,he2]<;>rfl
      ·rfl
     ·rfl
    ·rfl
   ·rfl
  ·rename_i a x hx;obtain⟨y,z,s,u,hxs,hs,hu,he,he2⟩:=(pG hx).2 _ _ rfl
   split
   ·rename_i ty hty
    split
    ·rename_i e h1
     split
     ·rename_i sz h3;rw[bN (hc (by simp)) (by simp only[cm,dD,hxs,hty,hs,hu,h1,h3];rfl)];simp only[SO.run,he,he2]<;>rfl
     ·rfl
    ·rfl
   ·rfl
  ·rename_i a x hx;obtain⟨y,z,s,u,hxs,hs,hu,he,he2⟩:=(pG hx).2 _ _ rfl;rw[bN (hc (by simp)) (by simp only[cm,dD,hxs,hs,hu];rfl)];simp only[SO.run,mxV,he,he2]<;>rfl
  ·rename_i a x hx;obtain⟨y,z,s,u,hxs,hs,hu,he,he2⟩:=(pG hx).2 _ _ rfl;rw[bN (hc (by simp)) (by simp only[cm,dD,hxs,hs,hu];rfl)];simp only[SO.run,mnV,he,he2]<;>rfl
  ·rfl
 ·rename_i h1 h2 h3;have key:∀op,(∀c,op≠.call c)->(∀c,op≠.defer c)->cOp C op=match cm C op with|some s=>some ⟨λ_ _ _ t g=>s.run t g⟩|none=>none:=by intro op hc hd;cases op<;>first|rfl|exact absurd rfl (hc _)|exact absurd rfl (hd _)
  cases op with
  |call c=>rfl
  |defer c=>rfl
  |_=>exact Ox (key _ (λc h=>by cases h) (λc h=>by cases h))
structure SI where
 dst:Option Nat
 gd:Option (Nat×Bool)
 op:SO
inductive SC where
 |skip
 |ops (l:List SI)
 |quiet (l:List SI)
 |feet (pm:List Nat) (l:List SI)
 |seq (a b:SC)
 |cond (c:Od) (a b:SC)
 |blk (id:Nat) (b:SC)
 |loop (b:SC)
 |exit (id:Nat)
 |ret
 |rng (nt:Nat) (f:Od) (ps:List Nat) (assign body:SC)
 |raw (nt:Nat) (c:Code)
def OR.sat(r:OR)(K:AV->G->Prop)(g:G)(D:ADf->Prop):Prop :=
 match r with
 |.fail=>False
 |.val v=>K v g
 |.upd v g'=>K v g'
 |.dfr a=>D a
def CR.sat(r:CR)(Q:Ex->T->List ADf->G->Prop):Prop :=
 match r with
 |.fail=>False
 |.ok e t df g=>Q e t df g
def FR.sat(r:FR)(Q:AV->G->Prop):Prop :=
 match r with
 |.fail=>False
 |.ok v g=>Q v g
def EE(dst:Option Nat)(t:T)(v:AV):T:=match dst with|none=>t|some d=>fq t d v
abbrev PT:=T->List ADf->G->Prop
abbrev QT:=Ex->T->List ADf->G->Prop
def wL(q:Bool)(A B:PT)(t:T)(df:List ADf)(g:G):Prop:=(q=true->A t df g)/\(q=false->B t df g)
def gdP(v:AV)(w:Bool)(A B:PT)(t:T)(df:List ADf)(g:G):Prop :=
 match v with
 |.bool q=>aB w (wL q A B t df g) (wL q B A t df g)
 |.tup _=>B t df g
 |_=>False
def kO(W:PT)(dst:Option Nat)(t:T)(df:List ADf)(v:AV)(g:G):Prop:=W (EE dst t v) df g
def kD(W:PT)(dst:Option Nat)(t:T)(df:List ADf)(g:G)(a:ADf):Prop:=W (EE dst t .undef) (a::df) g
def EW(C:Cfg)(d:Nat)(rd:Option Nat)(i:SI)(W:PT)(t:T)(df:List ADf)(g:G):Prop:=(i.op.run C d rd t g).sat (kO W i.dst t df) g (kD W i.dst t df g)
def Ao(i:SI)(W:PT)(t:T)(df:List ADf)(g:G):Prop:=W (EE i.dst t .undef) df g
def wpO(C:Cfg)(d:Nat)(rd:Option Nat):List SI->PT->T->List ADf->G->Prop
 |[],Q,t,df,g=>Q t df g
 | i::r,Q,t,df,g =>
  match i.gd with
  |none=>EW C d rd i (wpO C d rd r Q) t df g
  |some (s,w)=>gdP (tat t s) w (EW C d rd i (wpO C d rd r Q)) (Ao i (wpO C d rd r Q)) t df g
def SO.foot(C:Cfg)(t:T)(g:G):SO->Looks
 |.load _ _ a=>ac (ae (a.get t))
 |.store _ a _=>ac (ae (a.get t))
 |.slc _ a _ _=>ac (ae (a.get t))
 |.sla _ _ a _ _=>ac (ae (a.get t))
 |.ixs _ a _=>ac (ae (a.get t))
 |.app _ _ a x=>ac (ae (a.get t)++ae (x.get t))
 |.cpy _ a x=>ac (ae (a.get t)++ae (x.get t))
 |.mx a x=>ac (ae (a.get t)++ae (x.get t))
 |.mn a x=>ac (ae (a.get t)++ae (x.get t))
 |.len lk a=>match lk with|.map=>ac (wn (a.get t))|_=>ap
 |.call f as=>aB ((C.ext f).isSome || C.iso f) (ac ((iW t as).flatMap (aC g.h aE))) da
 | .dyn f as=>match f.get t with
  |.clo f first cap=>aB ((C.ext f).isSome || C.iso f) (ac ((first++(iW t as++cap)).flatMap (aC g.h aE))) da
  |_=>da
 |.raw op=>(aN C op).run t g
 |_=>ap
abbrev FT:=T->List ADf->G->List Foot->Prop
def kF(W:FT)(dst:Option Nat)(t:T)(df:List ADf)(lg:List Nat)(fs:List Foot)(lk:Looks)(v:AV)(g':G):Prop:=W (EE dst t v) df (pF g' (g'.lg++lg)) (⟨lk,g'.lg⟩::fs)
def JR(C:Cfg)(d:Nat)(rd:Option Nat)(i:SI)(W:FT)(fs:List Foot)(t:T)(df:List ADf)(g:G):Prop :=
 (i.op.run C d rd t (aP g [])).sat (kF W i.dst t df g.lg fs (i.op.foot C t g)) (aP g []) (λ_=>False)
def E7(i:SI)(W:FT)(fs:List Foot)(t:T)(df:List ADf)(g:G):Prop:=W (EE i.dst t .undef) df g (⟨ap,[]⟩::fs)
def wpF(C:Cfg)(d:Nat)(rd:Option Nat)(pm:List Nat):List SI->PT->T->List ADf->G->List Foot->Prop
 |[],Q,t,df,g,fs=>qG pm fs.reverse=true/\Q t df g
 | i::r,Q,t,df,g,fs =>
  match i.gd with
  |none=>JR C d rd i (wpF C d rd pm r Q) fs t df g
  |some (s,w)=>gdP (tat t s) w (JR C d rd i (wpF C d rd pm r Q) fs) (E7 i (wpF C d rd pm r Q) fs) t df g
def kS(W:PT)(Q:QT)(e:Ex)(t:T)(df:List ADf)(g:G):Prop:=match e with|.norm=>W t df g|e=>Q e t df g
def kB(id:Nat)(Q:QT)(e:Ex)(t:T)(df:List ADf)(g:G):Prop:=match e with|.exit j=>aB (Nat.beq j id) (Q .norm t df g) (Q (.exit j) t df g)|e=>Q e t df g
def kL(Inv:Nat->PT)(k:Nat)(Q:QT)(e:Ex)(t:T)(df:List ADf)(g:G):Prop:=match e with|.norm=>∃k',k'<k/\Inv k' t df g|e=>Q e t df g
def kQ(g0:G)(Q:QT)(t:T)(df:List ADf)(g:G):Prop:=g.lg=[]/\g.nx=g0.nx/\Q .norm t df g0
def wpC(v:AV)(A B:PT)(t:T)(df:List ADf)(g:G):Prop:=match v with|.bool q=>wL q A B t df g|_=>False
def wpL(W:QT->PT)(Q:QT)(t:T)(df:List ADf)(g:G):Prop :=
 ∃Inv:Nat->PT,(∃k,Inv k t df g)/\∀k t df g,Inv k t df g->W (kL Inv k Q) t df g
def nGd(all:List Oper):Option (Nat×Bool)->Option (Option (Nat×Bool))
 |none=>some none
 | some (j,w)=>match all[j]? with
  | some o=>match o.dst with
   |some d=>some (some (d,w))
   |none=>none
  |none=>none
def Ro(nt:Nat):Option Nat->Bool
 |none=>true
 |some d=>Nat.blt d nt
def Ju(C:Cfg)(nt:Nat)(all:List Oper):List Oper->Option (List SI)
 |[]=>some []
 | o::rest=>match Ro nt o.dst,nGd all o.guard,Ju C nt all rest with
  |true,some gd,some r=>some (⟨o.dst,gd,nOp C o.op⟩::r)
  |_,_,_=>none
def fk(C:Cfg)(nt:Nat):Code->SC
 |.skip=>.skip
 |.label _=>.skip
 | .region p ops draw=>match Ju C nt ops.toList ops.toList with
  |some l=>aB draw (aB (CJ ops.toList) (aB (ops.toList.all λo=>yD C o.op) (.quiet l) (.feet (br ops.toList []) l)) (.raw nt (.region p ops draw))) (.ops l)
  |none=>.raw nt (.region p ops draw)
 |.seq a b=>.seq (fk C nt a) (fk C nt b)
 | .cond c a b=>match nOd C c with
  |some c=>.cond c (fk C nt a) (fk C nt b)
  |none=>.raw nt (.cond c a b)
 |.block id b=>.blk id (fk C nt b)
 |.loop b=>.loop (fk C nt b)
 |.scope b=>fk C nt b
 |.exit id=>.exit id
 |.ret=>.ret
 | .rangeFunc f ps assign body=>match nOd C f with
  |some f=>.rng nt f ps.toList (fk C nt assign) (fk C nt body)
  |none=>.raw nt (.rangeFunc f ps assign body)
 |c=>.raw nt c
def wp(C:Cfg)(d:Nat)(rd:Option Nat):SC->QT->T->List ADf->G->Prop
 |.skip,Q,t,df,g=>Q .norm t df g
 |.ops l,Q,t,df,g=>wpO C d rd l (Q .norm) t df g
 |.quiet l,Q,t,df,g=>wpO C d rd l (kQ g Q) t df (aP g [])
 |.feet pm l,Q,t,df,g=>wpF C d rd pm l (Q .norm) t df g []
 |.seq a b,Q,t,df,g=>wp C d rd a (kS (wp C d rd b Q) Q) t df g
 |.cond c a b,Q,t,df,g=>wpC (c.get t) (wp C d rd a Q) (wp C d rd b Q) t df g
 |.blk id b,Q,t,df,g=>wp C d rd b (kB id Q) t df g
 |.loop b,Q,t,df,g=>wpL (wp C d rd b) Q t df g
 |.exit id,Q,t,df,g=>Q (.exit id) t df g
 |.ret,Q,t,df,g=>Q .ret t df g
 |.rng nt f ps a b,Q,t,df,g=>∀assign body,fk C nt assign=a->fk C nt body=b->(nH C nt (λt=>f.get t) ps assign body (I C) d rd t df g).sat Q
 |.raw nt c,Q,t,df,g=>((aU C nt c).run (I C) d rd t df g).sat Q
theorem H6{nt:Nat}{dst:Option Nat}(h:Ro nt dst=true):∃o,uN nt dst=some o/\∀t v,o.run t v=EE dst t v:=by
 cases dst with
 |none=>exact⟨_,rfl,λt v=>rfl⟩
 | some d =>
  refine⟨sp AV.undef d,?_,λt v=>rfl⟩;have h:Nat.blt d nt=true:=h;simp only[uN,h]
theorem Ba{all:List Oper}{j:Nat}{w:Bool}{r:Option (Nat×Bool)}(h:nGd all (some (j,w))=some r) :
  ∃s,r=some (s,w)/\ko all (some (j,w))=some ⟨λt=>match (gp AV.undef s).run t with|.bool b=>some (aB w b (j3 b))|.tup _=>some false|_=>none⟩:=by
 unfold nGd at h;dsimp only at h
 split at h
 ·rename_i o ho
  split at h
  ·rename_i d hd;injection h with h;exact⟨d,h.symm,by simp only[ko,ho,hd];rfl⟩
  ·cases h
 ·cases h
theorem Am{out:T->AV->T}{dst:Option Nat}(ho:∀t v,out t v=EE dst t v){next:T->List ADf->G->CR}{Q:QT}{K:PT}(hk:∀t df g,K t df g->(next t df g).sat Q)
  {t:T} {df:List ADf} {g:G} {r:OR} (h:r.sat (kO K dst t df) g (kD K dst t df g)):(pC out next t df g r).sat Q:=by
 cases r with
 |fail=>exact h.elim
 |val v=>exact hk _ _ _ (by rw[ho];exact h)
 |upd v g'=>exact hk _ _ _ (by rw[ho];exact h)
 |dfr a=>exact hk _ _ _ (by rw[ho];exact h)
theorem D6{v:AV}{w:Bool}{A B:PT}{t:T}{df:List ADf}{g:G}(h:gdP v w A B t df g) :
  ∃q,(match v with|.bool b=>some (aB w b (j3 b))|.tup _=>some false|_=>none:Option Bool)=some q/\(q=true->A t df g)/\(q=false->B t df g):=by
 unfold gdP at h
 split at h
 ·rename_i q;rw[aa]at h;refine⟨_,rfl,?_,?_⟩
  ·cases w<;>cases q<;>simp_all [wL]
  ·cases w<;>cases q<;>simp_all [wL]
 ·exact⟨false,rfl,λh=>(by cases h),λ_=>h⟩
 ·exact h.elim
theorem Nr{C:Cfg}{d:Nat}{rd:Option Nat}{nt:Nat}{all:List Oper}{Q:QT}:∀(l:List Oper) (s:List SI),Ju C nt all l=some s->∀t df g,wpO C d rd s (Q .norm) t df g ->
  ((ku C nt all l).run (I C) d rd t df g).sat Q:=by
 intro l
 induction l with
 |nil=>intro s h t df g hq;injection h with h;subst h;exact hq
 | cons o rest ih =>
  intro s h t df g hq;unfold Ju at h
  split at h
  ·rename_i gd r hd hg hr;injection h with h;subst h;obtain⟨ot,e1,e2⟩:=H6 hd;unfold ku;rw[e1];dsimp only;cases hgd:o.guard with
   | none =>
    rw[hgd]at hg;injection hg with hg;subst hg;dsimp only;rw[<-Cz];exact Am e2 (λt df g h=>ih r hr t df g h) hq
   | some jw =>
    obtain⟨j,w⟩:=jw;rw[hgd]at hg;obtain⟨sl,h1,h2⟩:=Ba hg;subst h1;dsimp only;rw[h2];dsimp only;obtain⟨q,h3,h4,h5⟩:=D6 hq;have:(gp AV.undef sl).run t=tat t sl:=gp_run _ _ _;rw[this,h3];cases q with
    | true =>
     dsimp only;rw[<-Cz];exact Am e2 (λt df g h=>ih r hr t df g h) (h4 rfl)
    | false =>
     dsimp only;rw[e2];exact ih r hr _ _ _ (h5 rfl)
  ·cases h
theorem Jv{C:Cfg}{op:Op}(hc:∀c,op≠.call c){t:T}{g:G}:(Mj C op).foot C t g=(aN C op).run t g:=by
 have hod:∀{x:Operand} {o:Od},nOd C x=some o->∃s,aT C x=some s/\∀t,s.run t=o.get t:=bi;unfold Mj
 split
 case h_8 ty a =>
  split
  ·rename_i a ag n ha h2 h3;obtain⟨s,hs,he⟩:=hod ha;simp only[aN,hs,SO.foot,he]
  ·rfl
 case h_9 ty a x =>
  split
  ·rename_i a x n ha hx h3;obtain⟨s,hs,he⟩:=hod ha;simp only[aN,hs,SO.foot,he]
  ·rfl
 case h_16 ty x lo hi =>
  split
  ·rename_i e x l h h0 hx hl hh;obtain⟨s,hs,he⟩:=hod hx
   split
   ·simp only[aN,hs,SO.foot,he]
   ·rfl
  ·rename_i n e x l h h0 hx hl hh;obtain⟨s,hs,he⟩:=hod hx
   split
   ·simp only[aN,hs,SO.foot,he]
   ·rfl
  ·rfl
 case h_19 ty x ix =>
  split
  ·rename_i a i ha hi;obtain⟨s,hs,he⟩:=hod ha
   split
   ·rename_i e h0
    split
    ·simp only[aN,h0,hs,SO.foot,he]
    ·rfl
   ·rename_i n e h0
    split
    ·simp only[aN,h0,SO.foot]
    ·rfl
   ·rfl
  ·rfl
 all_goals (repeat' (first|rfl|split|rw[aa]))
theorem Mi{C:Cfg}{op:Op}{t:T}{g:G}:(nOp C op).foot C t g=(aN C op).run t g:=by
 unfold nOp
 split
 ·rename_i f args ats
  split
  ·rename_i vs hv;obtain⟨s,hs,he⟩:=dh hv;simp only[SO.foot,aN,aT,hs,he,Sf,Su]
  ·rfl
 ·rename_i fo args ats hnf
  split
  ·rename_i f vs hf hv;obtain⟨s,hs,he⟩:=dh hv;obtain⟨s2,hs2,he2⟩:=bi hf;simp only[SO.foot,aN,hs,hs2,he,he2];cases Od.get t f<;>rfl
  ·rfl
 ·rename_i b args ats
  split
  ·rename_i x hx;obtain⟨s,hs,he⟩:=dh hx
   split
   ·rename_i ty hty;simp only[SO.foot,aN,hs,he,iW,Tc,TH,Su,mh,hty];cases mq C.P ty<;>rfl
   ·rfl
  ·rename_i a x hx;obtain⟨s,hs,he⟩:=dh hx;have hfoot:(aN C (.call { callee:=.builtin .append,args:=args,argTypes:=ats })).run t g=ac (ae (a.get t)++ae (x.get t)):=by simp only[aN,hs,he,iW,Tc,TH,Su,mh]
   split
   ·split
    ·split
     ·rw[aa];split
      ·exact hfoot.symm
      ·rfl
     ·rfl
    ·rfl
   ·rfl
  ·rename_i a x hx;obtain⟨s,hs,he⟩:=dh hx;have hfoot:(aN C (.call { callee:=.builtin .copy,args:=args,argTypes:=ats })).run t g=ac (ae (a.get t)++ae (x.get t)):=by simp only[aN,hs,he,iW,Tc,TH,Su,mh]
   split
   ·split
    ·split
     ·exact hfoot.symm
     ·rfl
    ·rfl
   ·rfl
  ·rename_i a x hx;obtain⟨s,hs,he⟩:=dh hx;simp only[SO.foot,aN,hs,he,iW,Tc,TH,Su,mh]
  ·rename_i a x hx;obtain⟨s,hs,he⟩:=dh hx;simp only[SO.foot,aN,hs,he,iW,Tc,TH,Su,mh]
  ·rfl
 ·rename_i h1 h2 h3;cases op with
  |call c=>rfl
  |_=>exact Jv (λc h=>by cases h)
theorem Q2{C:Cfg}{d:Nat}{rd:Option Nat}{nt:Nat}{all:List Oper}{pm:List Nat}{Q:QT}:∀(l:List Oper) (s:List SI) (k:Nat),Ju C nt all l=some s->∀t df g fs,wpF C d rd pm s (Q .norm) t df g fs ->
  ((jx C nt pm all k l).run (I C) d rd t df g fs).sat Q:=by
 intro l
 induction l with
 | nil =>
  intro s k h t df g fs hq;injection h with h;subst h;obtain⟨h1,h2⟩:=hq;unfold jx;dsimp only;rw[h1];exact h2
 | cons o rest ih =>
  intro s k h t df g fs hq;unfold Ju at h
  split at h
  ·rename_i gd r hd hg hr;injection h with h;subst h;obtain⟨ot,e1,e2⟩:=H6 hd;have step:∀{x:OR},x.sat (kF (wpF C d rd pm r (Q .norm)) o.dst t df g.lg fs ((nOp C o.op).foot C t g)) (aP g []) (λ_=>False) ->
     (lK ot.run ((jx C nt pm all (k+1) rest).run (I C) d rd) t df g fs ((aN C o.op).run t g) x).sat Q:=by
    intro x hx;rw[Mi]at hx;cases x with
    |fail=>exact hx.elim
    | val v =>
     simp only[lK,e2];refine ih r _ hr _ _ _ _ ?_;have hx:wpF C d rd pm r (Q .norm) (EE o.dst t v) df (pF (aP g []) ((aP g []).lg++g.lg)) (⟨(aN C o.op).run t g,(aP g []).lg⟩::fs):=hx;obtain⟨h,nx,lg⟩:=g;exact hx
    | upd v g' =>
     simp only[lK,e2];exact ih r _ hr _ _ _ _ hx
    |dfr a=>exact hx.elim
   unfold jx;rw[e1];cases hgd:o.guard with
   | none =>
    rw[hgd]at hg;injection hg with hg;subst hg;simp only[ko];rw[<-Cz];exact step hq
   | some jw =>
    obtain⟨j,w⟩:=jw;rw[hgd]at hg;obtain⟨sl,h1,h2⟩:=Ba hg;subst h1;rw[h2];dsimp only;obtain⟨q,h3,h4,h5⟩:=D6 hq;have:(gp AV.undef sl).run t=tat t sl:=gp_run _ _ _;rw[this,h3];cases q with
    | true =>
     dsimp only;rw[<-Cz];exact step (h4 rfl)
    | false =>
     dsimp only;rw[e2];exact ih r _ hr _ _ _ _ (h5 rfl)
  ·cases h
theorem CR.sat_mono{r:CR}{Q Q':QT}(h:r.sat Q)(hq:∀e t df g,Q e t df g->Q' e t df g):r.sat Q':=by
 cases r with
 |fail=>exact h
 |ok e t df g=>exact hq _ _ _ _ h
theorem PR{C:Cfg}{nt d:Nat}{rd:Option Nat}:∀(c:Code) (Q:QT) (t:T) (df:List ADf) (g:G),wp C d rd (fk C nt c) Q t df g->((aU C nt c).run (I C) d rd t df g).sat Q:=by
 intro c
 induction c with
 | seq a b iha ihb =>
  intro Q t df g h;have h:=iha _ t df g h;show (AY _ ((aU C nt a).run (I C) d rd t df g)).sat Q;cases hr:(aU C nt a).run (I C) d rd t df g with
  |fail=>rw[hr]at h;exact h
  | ok e t1 df1 g1 =>
   rw[hr]at h;cases e with
   |norm=>exact ihb _ _ _ _ h
   |exit j=>exact h
   |ret=>exact h
 | cond q a b iha ihb =>
  intro Q t df g h;unfold fk at h
  split at h
  ·rename_i o ho;obtain⟨s,hs,he⟩:=bi ho;simp only[aU,hs,he];have h:wpC (o.get t) (wp C d rd (fk C nt a) Q) (wp C d rd (fk C nt b) Q) t df g:=h;unfold wpC at h;cases hv:Od.get t o with
   | bool v =>
    rw[hv]at h;cases v with
    |true=>exact iha _ _ _ _ (h.1 rfl)
    |false=>exact ihb _ _ _ _ (h.2 rfl)
   |_=>rw[hv]at h;exact h.elim
  ·exact h
 | block id body ih =>
  intro Q t df g h;have h:=ih _ t df g h;show (uu id ((aU C nt body).run (I C) d rd t df g)).sat Q;cases hr:(aU C nt body).run (I C) d rd t df g with
  |fail=>rw[hr]at h;exact h
  | ok e t1 df1 g1 =>
   rw[hr]at h;cases e with
   |norm=>exact h
   | exit j =>
    have h:aB (Nat.beq j id) (Q .norm t1 df1 g1) (Q (.exit j) t1 df1 g1):=h;show (aB (Nat.beq j id) _ _:CR).sat Q;cases hb:Nat.beq j id
    ·rw[hb]at h;exact h
    ·rw[hb]at h;exact h
   |ret=>exact h
 | loop body ih =>
  intro Q t df g h;obtain⟨Inv,⟨k,hk⟩,hs⟩:=h
  induction k using Nat.strongRecOn generalizing t df g with
  | _ k rec =>
   have h:=ih _ t df g (hs k t df g hk);show (AY (λt df g=>(I C).code nt d rd (.loop body) t df g) ((aU C nt body).run (I C) d rd t df g)).sat Q;cases hr:(aU C nt body).run (I C) d rd t df g with
   |fail=>rw[hr]at h;exact h
   | ok e t1 df1 g1 =>
    rw[hr]at h;cases e with
    | norm =>
     obtain⟨k',hlt,hi⟩:=h;show ((I C).code nt d rd (.loop body) t1 df1 g1).sat Q;rw[Fp];exact rec k' hlt t1 df1 g1 hi
    |exit j=>exact h
    |ret=>exact h
 |scope body ih=>intro Q t df g h;exact ih _ _ _ _ h
 | region p ops draw =>
  intro Q t df g h;show ((gN C nt ops.toList draw).run (I C) d rd t df g).sat Q;unfold fk at h
  split at h
  ·rename_i l hl;rw[aa,aa,aa]at h;unfold gN;rw[aa,aa,aa]
   split
   ·rename_i hd;rw[Sb hd]at h
    split
    ·rename_i ho;rw[Sb ho]at h
     split
     ·rename_i hq;rw[Sb hq]at h;have h:wpO C d rd l (kQ g Q) t df (aP g []):=h;have h:=Nr (C:=C) (d:=d) (rd:=rd) (Q:=λe t df g'=>e=.norm/\g'.lg=[]/\g'.nx=g.nx/\Q .norm t df g) (nt:=nt) (all:=ops.toList) ops.toList l hl t df (aP g [])
       (by
        refine cast ?_ h;congr 1;funext t df g';simp[kQ])
      dsimp only;cases hr:(ku C nt ops.toList ops.toList).run (I C) d rd t df (aP g []) with
      |fail=>rw[hr]at h;exact h
      | ok e t1 df1 g1 =>
       rw[hr]at h;obtain⟨h0,h1,h2,h3⟩:=h;subst h0;simp only[nG,h1,h2,SQ];exact h3
     ·rename_i hq;rw[Sa hq]at h;exact Q2 _ l 0 hl _ _ _ _ h
    ·rename_i ho;rw[Sa ho]at h;unfold wp at h;simp only[aU,gN,aa,Sb hd,Sa ho]at h;exact h
   ·rename_i hd;rw[Sa hd]at h;exact Nr _ l hl _ _ _ h
  ·exact h
 | rangeFunc f ps assign body _ _ =>
  intro Q t df g h;unfold fk at h
  split at h
  ·rename_i o ho;obtain⟨s,hs,he⟩:=bi ho;have he:s.run=λt=>o.get t:=funext he;simp only[aU,hs,he];exact h assign body rfl rfl
  ·exact h
 |skip=>intro Q t df g h;exact h
 |label l=>intro Q t df g h;exact h
 |exit id=>intro Q t df g h;exact h
 |ret=>intro Q t df g h;exact h
 |goto l=>intro Q t df g h;exact h
 |refuse w=>intro Q t df g h;exact h
theorem OR.sat_mono{r:OR}{K K':AV->G->Prop}{g:G}{D D':ADf->Prop}(h:r.sat K g D)(hk:∀v g',K v g'->K' v g')(hd:∀a,D a->D' a):r.sat K' g D':=by
 cases r with
 |fail=>exact h
 |val v=>exact hk _ _ h
 |upd v g'=>exact hk _ _ h
 |dfr a=>exact hd _ h
inductive SR where
 |tm (n:Nat)
 |cell (ag:Bool) (n a:Nat)
structure SF where
 nt:Nat
 res:List SR
 code:SC
def CB(C:Cfg):List ResultVar->Option (List SR)
 |[]=>some []
 | .tmp n::rs=>match CB C rs with
  |some k=>some (.tm n::k)
  |none=>none
 | .cell a ty::rs=>match CB C rs,rL C.P ty,szT C.P ty with
  |some k,some ag,some n=>some (.cell ag n a::k)
  |_,_,_=>none
def nFn(C:Cfg)(f:Nat):Option SF :=
 match C.P.funcs[f]? with
 |none=>none
 | some fn=>match fn.body with
  |none=>none
  | some c=>match CB C fn.results.toList with
   | some r => aB (fn.name == "runtime.NumGoroutine") none (some ⟨fn.ntmps, r, fk C fn.ntmps c⟩)
   |none=>none
def xk:List SR->T->G->(List AV->Prop)->Prop
 |[],_,_,K=>K []
 |.tm n::rs,t,g,K=>xk rs t g λvs=>K (tat t n::vs)
 | .cell ag n a::rs,t,g,K=>match rF ag n (tat t a) g with
  |.val v=>xk rs t g λvs=>K (v::vs)
  |_=>False
theorem OO{C:Cfg}{t:T}{g:G}:∀(l:List ResultVar) (r:List SR) (K:List AV->Prop),CB C l=some r->xk r t g K->∃s vs,vg C l=some s/\s.run t g=some vs/\K vs:=by
 intro l
 induction l with
 |nil=>intro r K h hk;injection h with h;subst h;exact⟨_,[],rfl,rfl,hk⟩
 | cons x l ih =>
  intro r K h hk;cases x with
  | tmp n =>
   unfold CB at h
   split at h
   ·rename_i k hr;injection h with h;subst h;obtain⟨s,vs,h1,h2,h3⟩:=ih k _ hr hk;refine⟨⟨λt g=>match s.run t g with|some vs=>some ((gp AV.undef n).run t::vs)|none=>none⟩,tat t n::vs,by simp only[vg,h1];rfl,?_,h3⟩;simp only[h2,gp_run];rfl
   ·cases h
  | cell a ty =>
   unfold CB at h
   split at h
   ·rename_i k ag n hr ha hn;injection h with h;subst h;unfold xk at hk
    split at hk
    ·rename_i v hv;obtain⟨s,vs,h1,h2,h3⟩:=ih k _ hr hk;have hl:nD ag n (gp AV.undef a).run t g=.val v:=by rw[<-hv];simp only[rF,nD,gp_run];rfl
     refine⟨⟨λt g=>match nD ag n (gp AV.undef a).run t g with|.val v=>(match s.run t g with|some vs=>some (v::vs)|none=>none)|_=>none⟩,v::vs,
      by simp only[vg,h1,cm,aT,ha,hn];rfl,?_,h3⟩
     simp only[hl,h2]
    ·exact hk.elim
   ·cases h
def zg(C:Cfg)(d:Nat)(r:List SR)(t:T)(df:List ADf)(g:G)(K:AV->G->Prop):Prop :=
 match fS (I C) d df g with
 |some g'=>xk r t g' λvs=>K (jT vs) g'
 |none=>False
def fnQ(C:Cfg)(d:Nat)(r:List SR)(K:AV->G->Prop):QT:=λe t df g=>match e with|.exit _=>False|_=>zg C d r t df g K
theorem qt{C:Cfg}{f:Nat}{s:SF}(hf:nFn C f=some s){d:Nat}{as:List AV}{g:G}{K:AV->G->Prop}(hl:as.length<=s.nt)(h:wp C d none s.code (fnQ C d s.res K) (co 0 as .nil) [] g) :
  ((I C).call d f as g).sat K:=by
 rw[PU];unfold nFn at hf
 split at hf
 ·cases hf
 rename_i fn hfn
 split at hf
 ·cases hf
 rename_i c hc
 split at hf
 rotate_left
 ·cases hf
 rename_i r hr;rw[aa]at hf
 split at hf
 ·cases hf
 rename_i hn;injection hf with hf;subst hf;have h:=PR c _ _ _ _ h;have hres:∃s,vg C fn.results.toList=some s:=by
  have:∀(l:List ResultVar) (r:List SR),CB C l=some r->∃s,vg C l=some s:=by
   intro l
   induction l with
   |nil=>intro r _;exact⟨_,rfl⟩
   | cons x l ih =>
    intro r h;cases x with
    | tmp n =>
     unfold CB at h
     split at h
     ·rename_i k hr;obtain⟨s,hs⟩:=ih k hr;exact⟨_,by simp only[vg,hs];rfl⟩
     ·cases h
    | cell a ty =>
     unfold CB at h
     split at h
     ·rename_i k ag n hr ha hn;obtain⟨s,hs⟩:=ih k hr;exact⟨_,by simp only[vg,hs,cm,aT,ha,hn];rfl⟩
     ·cases h
  exact this _ _ hr
 obtain⟨rs,hrs⟩:=hres;unfold fe cFn;simp only[hfn,hc,hrs,aa,Sa hn];rw[Sb (by rw[ay,SS];exact hl)];cases hrun:(aU C fn.ntmps c).run (I C) d none (co 0 as .nil) [] g with
 |fail=>rw[hrun]at h;exact h
 | ok e t df g' =>
  rw[hrun]at h;have key:zg C d r t df g' K->(iP (I C) d rs.run t df g').sat K:=by
   intro h;unfold zg at h;unfold iP
   split at h
   ·rename_i g2 hg2;rw[hg2];obtain⟨s2,vs,h1,h2,h3⟩:=OO _ _ _ hr h;rw[hrs]at h1;injection h1 with h1;subst h1;simp only[h2];exact h3
   ·exact h.elim
  cases e with
  |exit j=>exact h
  |norm=>exact key h
  |ret=>exact key h
end
end Hx
end
section
namespace Hx
open Go
def All2{α β:Type}(R:α->β->Prop):List α->List β->Prop
 |[],[]=>True
 |a::as,b::bs=>R a b/\All2 R as bs
 |_,_=>False
section all2
variable {α β:Type}{R S:α->β->Prop}
theorem All2.len:∀{l:List α} {m:List β},All2 R l m->l.length=m.length
 |[],[],_=>rfl
 |_::_,_::_,h=>by simp only[SJ,All2.len h.2]
theorem All2.mono(hs:∀a b,R a b->S a b):∀{l:List α} {m:List β},All2 R l m->All2 S l m
 |[],[],_=>trivial
 |_::_,_::_,h=>⟨hs _ _ h.1,All2.mono hs h.2⟩
theorem All2.get:∀{l:List α} {m:List β},All2 R l m->∀{i:Nat} {a:α},l[i]?=some a->∃b,m[i]?=some b/\R a b
 |_::_,b::_,h,0,_,e=>by simp at e;subst e;exact⟨b,rfl,h.1⟩
 |_::_,_::_,h,i+1,a,e=>by simpa using All2.get h.2 (i:=i) (by simpa using e)
 |[],[],_,i,a,e=>by simp at e
theorem All2.append:∀{l:List α} {m:List β} {l':List α} {m':List β},All2 R l m->All2 R l' m'->All2 R (l++l') (m++m')
 |[],[],_,_,_,h'=>h'
 |_::_,_::_,_,_,h,h'=>⟨h.1,All2.append h.2 h'⟩
theorem All2.take:∀{l:List α} {m:List β},All2 R l m->∀(i:Nat),All2 R (l.take i) (m.take i)
 |[],[],_,_=>by simp[All2]
 |_::_,_::_,h,0=>by simp[All2]
 |_::_,_::_,h,i+1=>⟨h.1,All2.take h.2 i⟩
theorem RS{f:α->β}(h:∀a,R a (f a)):∀l:List α,All2 R l (l.map f)
 |[]=>trivial
 |a::l=>⟨h a,RS h l⟩
theorem All2.eq_map{f:α->β}(hf:∀a b,R a b->b=f a):∀{l:List α} {m:List β},All2 R l m->m=l.map f
 |[],[],_=>rfl
 |a::l,b::m,h=>by rw[Te,hf _ _ h.1,All2.eq_map hf h.2]
end all2
def NoP:Nat->Prop:=λ_=>False
class Rp (α:Type) where
 sz:Nat
 dp:Nat
 rp:(Nat->Prop)->Nat->H->α->List AV->Prop
 len:∀{P k h x cs},rp P k h x cs->cs.length=sz
 mono:∀{P P':Nat->Prop} {k k':Nat} {h h':H} {x:α} {cs:List AV},rp P k h x cs->(∀i,P i->P' i/\h'.get i=h.get i)->k<=k'->rp P' k' h' x cs
 snap:∀{P k h x cs n} (d:Nat),rp P k h x cs->dp<=n->dp<=aE->∃cs',aJ (Hx.snap h d n) cs=some cs'/\rp NoP (max k d) .nil x cs'
 same:∀{k h x cs n} (d:Nat),rp NoP k h x cs->dp<=n->aJ (Hx.snap h d n) cs=some cs
 ids:∀{P k h x cs n},rp P k h x cs->∀i∈cs.flatMap (aC h n),P i
 tag:∀{k h x cs n},rp NoP k h x cs->dp<=n->∃m,iK (fp n) cs=some m/\m<=k
theorem Rp.tree{α:Type} [Rp α]{P:Nat->Prop}{k k':Nat}{h h':H}{x:α}{cs:List AV}(r:Rp.rp NoP k h x cs)(hk:k<=k'):Rp.rp P k' h' x cs :=
 Rp.mono r (λ_ h=>h.elim) hk
def AV.flat:AV->Bool
 |.bool _|.int _ _|.str _=>true
 |_=>false
theorem BJ{h:H}{d n:Nat}{v:AV}(hv:v.flat=true)(hn:1<=n):Hx.snap h d n v=some v:=by obtain⟨n,rfl⟩:∃m,n=m+1:=⟨n - 1,by omega⟩;cases v<;>first|rfl|cases hv
theorem Ng{n:Nat}{v:AV}(hv:v.flat=true)(hn:1<=n):fp n v=some 0:=by obtain⟨n,rfl⟩:∃m,n=m+1:=⟨n - 1,by omega⟩;cases v<;>first|rfl|cases hv
theorem Lw{h:H}{n:Nat}{v:AV}(hv:v.flat=true):aC h n v=[]:=by
 cases n with
 |zero=>rfl
 |succ n=>cases v<;>first|rfl|cases hv
@[reducible] def Rp.plain {α:Type} (f:α->AV) (ok:α->Prop) (hf:∀x,(f x).flat=true):Rp α where
 sz:=1
 dp:=1
 rp:=λ_ _ _ x cs=>cs=[f x]/\ok x
 len:=by rintro P k h x cs ⟨rfl,-⟩;rfl
 mono:=λr _ _=>r
 snap:=by rintro P k h x cs n d ⟨rfl,ho⟩ hn _;exact⟨[f x],by simp only[aJ,BJ (hf x) hn],rfl,ho⟩
 same:=by rintro k h x cs n d ⟨rfl,ho⟩ hn;simp only[aJ,BJ (hf x) hn]
 ids:=by rintro P k h x cs n ⟨rfl,ho⟩ i hi;simp[Lw (hf x)]at hi
 tag:=by rintro k h x cs n ⟨rfl,ho⟩ hn;exact⟨0,by simp[iK,Ng (hf x) hn],S2 _⟩
def ci(x:Int):List AV:=[.int .i64 x]
def cu(x:Nat):List AV:=[.int .u64 (x:Int)]
instance : Rp Int:=Rp.plain (λx=>.int .i64 x) (λ_=>True) (λ_=>rfl)
instance : Rp Bool:=Rp.plain (λx=>.bool x) (λ_=>True) (λ_=>rfl)
instance : Rp Nat:=Rp.plain (λx=>.int .u64 (x:Int)) (λx=>x<18446744073709551616) (λ_=>rfl)
instance : Rp UInt8:=Rp.plain (λx=>.int .u8 (x.toNat:Int)) (λ_=>True) (λ_=>rfl)
instance : Rp UInt16:=Rp.plain (λx=>.int .u16 (x.toNat:Int)) (λ_=>True) (λ_=>rfl)
theorem tf{α β:Type}{f:α->Option β}:∀{l m:List α} {a b:List β},aJ f l=some a->aJ f m=some b->aJ f (l++m)=some (a++b)
 |[],m,a,b,h1,h2=>by injection h1 with h1;subst h1;exact h2
 | x::l,m,a,b,h1,h2=>by
  unfold aJ at h1
  split at h1
  ·rename_i y hy
   split at h1
   ·rename_i ys hys;injection h1 with h1;subst h1;simp only[Sd,aJ,hy,tf hys h2]
   ·cases h1
  ·cases h1
theorem xJ{α:Type}{f:α->Option Nat}:∀{l m:List α} {a b:Nat},iK f l=some a->iK f m=some b->iK f (l++m)=some (max a b)
 |[],m,a,b,h1,h2=>by injection h1 with h1;subst h1;simpa using h2
 | x::l,m,a,b,h1,h2=>by
  unfold iK at h1
  split at h1
  ·rename_i y hy
   split at h1
   ·rename_i ys hys;injection h1 with h1;subst h1;simp only[Sd,iK,hy,xJ hys h2,S9,Nat.max_def]
    repeat' split
    all_goals omega
   ·cases h1
  ·cases h1
instance {α β:Type} [Rp α] [Rp β]:Rp (α×β) where
 sz:=Rp.sz α+Rp.sz β
 dp:=max (Rp.dp α) (Rp.dp β)
 rp:=λP k h x cs=>∃a b,cs=a++b/\Rp.rp P k h x.1 a/\Rp.rp P k h x.2 b
 len:=by rintro P k h x cs ⟨a,b,rfl,h1,h2⟩;rw[SZ,Rp.len h1,Rp.len h2]
 mono:=by rintro P P' k k' h h' x cs ⟨a,b,rfl,h1,h2⟩ hp hk;exact⟨a,b,rfl,Rp.mono h1 hp hk,Rp.mono h2 hp hk⟩
 snap:=by rintro P k h x cs n d ⟨a,b,rfl,h1,h2⟩ hn hA;obtain⟨a',e1,r1⟩:=Rp.snap (n:=n) d h1 (by omega) (by omega);obtain⟨b',e2,r2⟩:=Rp.snap (n:=n) d h2 (by omega) (by omega);exact⟨a'++b',tf e1 e2,a',b',rfl,r1,r2⟩
 same:=by rintro k h x cs n d ⟨a,b,rfl,h1,h2⟩ hn;exact tf (Rp.same d h1 (by omega)) (Rp.same d h2 (by omega))
 ids:=by
  rintro P k h x cs n ⟨a,b,rfl,h1,h2⟩ i hi;rw[List.flatMap_append,SG]at hi;rcases hi with hi|hi
  ·exact Rp.ids h1 i hi
  ·exact Rp.ids h2 i hi
 tag:=by rintro k h x cs n ⟨a,b,rfl,h1,h2⟩ hn;obtain⟨m1,e1,l1⟩:=Rp.tag (n:=n) h1 (by omega);obtain⟨m2,e2,l2⟩:=Rp.tag (n:=n) h2 (by omega);exact⟨max m1 m2,xJ e1 e2,by omega⟩
@[reducible] def Rp.via {α β:Type} [Rp β] (f:α->β):Rp α where
 sz:=Rp.sz β
 dp:=Rp.dp β
 rp:=λP k h x cs=>Rp.rp P k h (f x) cs
 len:=Rp.len
 mono:=Rp.mono
 snap:=Rp.snap
 same:=Rp.same
 ids:=Rp.ids
 tag:=Rp.tag
def SlV{α:Type} [Rp α](P:Nat->Prop)(k:Nat)(h:H)(l:List α)(v:AV):Prop :=
 match v with
 |.nils|.esl=>l=[]
 |.tsl t s rows=>t<=k/\(s=Rp.sz α\/rows=[])/\All2 (Rp.rp NoP k .nil) l rows
 |.hsl id _ _ _ _=>P id/\∃rows,ak h (Rp.sz α) v=some rows/\All2 (Rp.rp P k h) l rows
 |_=>False
def SlR{α:Type} [Rp α](P:Nat->Prop)(k:Nat)(h:H)(l:List α)(v:AV):Prop:=l.length<9223372036854775808/\SlV P k h l v
theorem SlR.rows{α:Type} [Rp α]{P:Nat->Prop}{k:Nat}{h:H}{l:List α}{v:AV}(r:SlR P k h l v):∃rows,ak h (Rp.sz α) v=some rows/\All2 (Rp.rp P k h) l rows:=by
 have r:=r.2;unfold SlV at r
 split at r
 ·subst r;exact⟨[],rfl,trivial⟩
 ·subst r;exact⟨[],rfl,trivial⟩
 ·obtain⟨h1,h2,h3⟩:=r;refine⟨_,?_,h3.mono λa b r=>Rp.tree r (R5 _)⟩;simp only[ak];rw[aa];rcases h2 with h2|h2
  ·subst h2;simp
  ·subst h2;simp
 ·exact r.2
 ·exact r.elim
theorem By{α β γ:Type}{R:α->β->Prop}{S:α->γ->Prop}{f:β->Option γ}(hf:∀a b,R a b->∃c,f b=some c/\S a c):∀{l:List α} {m:List β},All2 R l m->∃r,aJ f m=some r/\All2 S l r
 |[],[],_=>⟨[],rfl,trivial⟩
 | a::l,b::m,h=>by obtain⟨c,e1,s1⟩:=hf a b h.1;obtain⟨r,e2,s2⟩:=By hf h.2;exact⟨c::r,by simp only[aJ,e1,e2],s1,s2⟩
theorem BA{α β:Type}{R:α->β->Prop}{f:β->Option Nat}{k:Nat}(hf:∀a b,R a b->∃m,f b=some m/\m<=k):∀{l:List α} {m:List β},All2 R l m->∃r,iK f m=some r/\r<=k
 |[],[],_=>⟨0,rfl,S2 _⟩
 | a::l,b::m,h=>by obtain⟨c,e1,s1⟩:=hf a b h.1;obtain⟨r,e2,s2⟩:=BA hf h.2;exact⟨max c r,by simp only[iK,e1,e2],by omega⟩
theorem Ep{α β:Type}{R:α->β->Prop}:∀{l:List α} {m:List β},All2 R l m->∀b∈m,∃a,R a b
 |[],[],_,b,hb=>by simp at hb
 | a::l,c::m,h,b,hb=>by
  rcases Sq.1 hb with rfl|hb
  ·exact⟨a,h.1⟩
  ·exact Ep h.2 b hb
theorem xM{h h':H}{sz:Nat}{v:AV}(he:∀id ep off len lim,v=.hsl id ep off len lim->h'.get id=h.get id):ak h' sz v=ak h sz v:=by
 cases v with
 |hsl id ep off len lim=>simp only[ak,he id ep off len lim rfl]
 |_=>rfl
instance {α:Type} [Rp α]:Rp (List α) where
 sz:=1
 dp:=Rp.dp α+1
 rp:=λP k h l cs=>∃v,cs=[v]/\SlR P k h l v
 len:=by rintro P k h x cs ⟨v,rfl,h1⟩;rfl
 mono:=by
  rintro P P' k k' h h' x cs ⟨v,rfl,h0,h1⟩ hp hk;refine⟨v,rfl,h0,?_⟩;unfold SlV at h1 ⊢
  split at h1
  ·exact h1
  ·exact h1
  ·exact⟨by omega,h1.2.1,h1.2.2.mono λa b r=>Rp.mono r (λi hi=>hi.elim) hk⟩
  ·rename_i id ep off len lim;obtain⟨a,rows,b,c⟩:=h1;refine⟨(hp _ a).1,rows,?_,c.mono λa b r=>Rp.mono r hp hk⟩;rw[<-b];exact xM λ_ _ _ _ _ e=>by injection e with e;subst e;exact (hp _ a).2
  ·exact h1
 snap:=by
  rintro P k h x cs n d ⟨v,rfl,h0,h1⟩ hn hA;obtain⟨n,rfl⟩:∃m,n=m+1:=⟨n - 1,by omega⟩;have hdA:(23:Nat)+1=aE:=rfl;cases v with
  |nils=>exact⟨_,rfl,_,rfl,h0,h1⟩
  |esl=>exact⟨_,rfl,_,rfl,h0,h1⟩
  | tsl t s rows =>
   refine⟨_,rfl,_,rfl,h0,?_⟩;obtain⟨q1,q2,q3⟩:=h1;exact⟨by omega,q2,q3.mono λa b r=>Rp.mono r (λi hi=>hi.elim) (by omega)⟩
  | hsl id ep off len lim =>
   obtain⟨q1,rows,q2,q3⟩:=h1;simp only[ak]at q2
   split at q2
   ·rename_i sz' rows' ep' lo fz hg;rw[aa]at q2
    split at q2
    ·rename_i hc;simp only[R7]at hc;obtain⟨⟨hc1,hc2⟩,hc3⟩:=hc;injection q2 with q2;have e1:=Tp hc2;subst e1;obtain⟨rs,e2,a2⟩:=By (S:=Rp.rp NoP (max k d) .nil) (f:=aJ (Hx.snap h d n)) (λa b r=>Rp.snap (n:=n) d r (by omega) (by omega)) q3;obtain⟨m,e3,l3⟩:=BA (f:=iK (fp aE)) (k:=max k d) (λa b r=>Rp.tag (n:=aE) r (by omega)) a2;refine⟨[.tsl (Nat.max d m) (Rp.sz α) rs],?_,_,rfl,h0,?_⟩
     ·simp only[aJ,Hx.snap,hg,hc1,hc3,UQ,q2,e2,gW,e3]
     ·refine⟨?_,.inl rfl,a2⟩;show max d m<=max k d;omega
    ·cases q2
   ·cases q2
  |_=>exact h1.elim
 same:=by
  rintro k h x cs n d ⟨v,rfl,-,h1⟩ hn;obtain⟨n,rfl⟩:∃m,n=m+1:=⟨n - 1,by omega⟩;cases v with
  |nils=>rfl
  |esl=>rfl
  |tsl t s rows=>rfl
  |hsl id ep off len lim=>exact h1.1.elim
  |_=>exact h1.elim
 ids:=by
  rintro P k h x cs n ⟨v,rfl,-,h1⟩ i hi;cases n with
  |zero=>simp[aC]at hi
  | succ n =>
   simp only[Tc,TH,Su]at hi;cases v with
   | hsl id ep off len lim =>
    obtain⟨q1,rows,q2,q3⟩:=h1;unfold aC at hi;rcases Sq.1 hi with rfl|hi
    ·exact q1
    ·simp only[ak]at q2
     split at q2
     ·rename_i sz' rows' ep' lo fz hg;rw[aa]at q2
      split at q2
      ·injection q2 with q2;rw[hg]at hi;simp only[q2,UH]at hi;obtain⟨row,hr,c,hc,hi⟩:=hi;obtain⟨a,r⟩:=Ep q3 row hr;exact Rp.ids (n:=n) r i (UH.2 ⟨c,hc,hi⟩)
      ·cases q2
     ·cases q2
   |nils=>simp[aC]at hi
   |esl=>simp[aC]at hi
   |tsl t s rows=>simp[aC]at hi
   |_=>exact h1.elim
 tag:=by
  rintro k h x cs n ⟨v,rfl,-,h1⟩ hn;obtain⟨n,rfl⟩:∃m,n=m+1:=⟨n - 1,by omega⟩;cases v with
  |nils=>exact⟨0,rfl,S2 _⟩
  |esl=>exact⟨0,rfl,S2 _⟩
  |tsl t s rows=>exact⟨t,by simp[iK,fp],h1.1⟩
  |hsl id ep off len lim=>exact h1.1.elim
  |_=>exact h1.elim
theorem mA{α:Type} [Rp α]{P:Nat->Prop}{k:Nat}{h:H}{l:List α}{cs:List AV}:Rp.rp P k h l cs↔∃v,cs=[v]/\SlR P k h l v:=Iff.rfl
theorem aI{P:Nat->Prop}{k:Nat}{h:H}{x:Int}{cs:List AV}:Rp.rp P k h x cs↔cs=[.int .i64 x]:=by simp[Rp.rp]
theorem GB{P:Nat->Prop}{k:Nat}{h:H}{x:Nat}{cs:List AV}:Rp.rp P k h x cs↔cs=[.int .u64 (x:Int)]/\x<18446744073709551616:=by simp[Rp.rp]
theorem mz{P:Nat->Prop}{k:Nat}{h:H}{x:Bool}{cs:List AV}:Rp.rp P k h x cs↔cs=[.bool x]:=by simp[Rp.rp]
theorem dR{P:Nat->Prop}{k:Nat}{h:H}{x:UInt8}{cs:List AV}:Rp.rp P k h x cs↔cs=[.int .u8 (x.toNat:Int)]:=by simp[Rp.rp]
theorem wx{α β:Type} [Rp α] [Rp β]{P:Nat->Prop}{k:Nat}{h:H}{x:α×β}{cs:List AV}:Rp.rp P k h x cs↔∃a b,cs=a++b/\Rp.rp P k h x.1 a/\Rp.rp P k h x.2 b:=Iff.rfl
theorem SlR.ints{P:Nat->Prop}{k:Nat}{h:H}{l:List Int}{v:AV}(r:SlR P k h l v):ak h 1 v=some (l.map ci):=by obtain⟨rows,h1,h2⟩:=r.rows;rw[show (1:Nat)=Rp.sz Int from rfl,h1,h2.eq_map (f:=ci) λa b r=>aI.1 r]
theorem SlR.nats{P:Nat->Prop}{k:Nat}{h:H}{l:List Nat}{v:AV}(r:SlR P k h l v):ak h 1 v=some (l.map cu):=by obtain⟨rows,h1,h2⟩:=r.rows;rw[show (1:Nat)=Rp.sz Nat from rfl,h1,h2.eq_map (f:=cu) λa b r=>(GB.1 r).1]
end Hx
end
section
namespace Hx
open Go
noncomputable section
theorem lJ(t:T)(n m:Nat)(v:AV):tat (fq t n v) m=if m=n then v else tat t m:=sp_get _ _ _ _ _
theorem Ez(a:AV)(t:T):co 0 [a] t=fq t 0 a:=rfl
theorem EA(a b:AV)(t:T):co 0 [a,b] t=fq (fq t 0 a) 1 b:=rfl
theorem EB(a b c:AV)(t:T):co 0 [a,b,c] t=fq (fq (fq t 0 a) 1 b) 2 c:=rfl
theorem EC(a b c e:AV)(t:T):co 0 [a,b,c,e] t=fq (fq (fq (fq t 0 a) 1 b) 2 c) 3 e:=rfl
theorem z_(i:Nat)(t:T):co i [] t=t:=rfl
theorem Is(m:Nat):tat Tr.nil m=AV.undef:=R1 _ _
theorem Lt(t:T)(n:Nat):Od.get t (.t n)=tat t n:=rfl
theorem Pv(t:T)(v:AV):Od.get t (.k v)=v:=rfl
theorem D7(t:T):iW t []=[]:=rfl
theorem Bp(t:T)(o:Od)(os:List Od):iW t (o::os)=o.get t::iW t os:=rfl
theorem aS(h:H)(i:Nat)(o:AObj):(h.put i o).get i=o:=by rw[RW,Sb rfl]
theorem af(h:H)(i:Nat)(o:AObj){k:Nat}(hk:k≠i):(h.put i o).get k=h.get k:=by rw[RW,Sa hk]
theorem Ho(k:Nat):G.empty.h.get k=AObj.none:=by simp[G.empty,H.get,R1]
theorem Dy:G.empty.nx=0:=rfl
theorem Ig(v:AV)(K:AV->G->Prop)(g:G)(D:ADf->Prop):(OR.val v).sat K g D=K v g:=rfl
theorem If(v:AV)(g':G)(K:AV->G->Prop)(g:G)(D:ADf->Prop):(OR.upd v g').sat K g D=K v g':=rfl
theorem ED(v:AV):orV (some v)=.val v:=rfl
theorem ax{x:Int}(h:-9223372036854775808<=x)(h':x<9223372036854775808):IntKind.wrap .i64 x=x:=by
 by_cases h0:x<0
 ·exact wG x h h0
 ·obtain⟨n,rfl⟩:=R8 (show 0<=x by omega);exact nO n (by omega)
theorem q7{x:Int}(h:0<=x)(h':x<18446744073709551616):IntKind.wrap .u64 x=x:=by simp only[IntKind.wrap,IntKind.bits,IntKind.signed,Bool.false_and,TC,if_false];exact Vd h h'
theorem Q3{x:Int}(h:0<=x)(h':x<256):IntKind.wrap .u8 x=x:=by simp only[IntKind.wrap,IntKind.bits,IntKind.signed,Bool.false_and,TC,if_false];exact Vd h h'
theorem bO(k:IntKind):cV k k=true:=by cases k<;>rfl
theorem G5(k:IntKind)(a b:Int):bU .add (.int k a) (.int k b)=.val (.int k (k.wrap (a+b))):=by simp only[bU,gD,bO,iN];rfl
theorem Hc(k:IntKind)(a b:Int):bU .sub (.int k a) (.int k b)=.val (.int k (k.wrap (a - b))):=by simp only[bU,gD,bO,iN];rfl
theorem Ha(k:IntKind)(a b:Int):bU .mul (.int k a) (.int k b)=.val (.int k (k.wrap (a*b))):=by simp only[bU,gD,bO,iN];rfl
theorem G6(k:IntKind)(a b:Int):bU .eql (.int k a) (.int k b)=.val (.bool (decide (a=b))):=by simp only[bU,gD,bO,qH];rfl
theorem Hb(k:IntKind)(a b:Int):bU .neq (.int k a) (.int k b)=.val (.bool (!decide (a=b))):=by simp only[bU,gD,bO,qH,notb_eq];rfl
theorem G_(k:IntKind)(a b:Int):bU .lss (.int k a) (.int k b)=.val (.bool (decide (a<b))):=by simp only[bU,gD,bO,mo];rfl
theorem G8(k:IntKind)(a b:Int):bU .gtr (.int k a) (.int k b)=.val (.bool (decide (b<a))):=by simp only[bU,gD,bO,mo];rfl
theorem G9(k:IntKind)(a b:Int):bU .leq (.int k a) (.int k b)=.val (.bool (decide (a<=b))):=by
 simp only[bU,gD,bO,mo,notb_eq]
 by_cases h:b<a
 ·rw[Tx h,S6 (show ¬a<=b by omega)];rfl
 ·rw[S6 h,Tx (show a<=b by omega)];rfl
theorem G7(k:IntKind)(a b:Int):bU .geq (.int k a) (.int k b)=.val (.bool (decide (b<=a))):=by
 simp only[bU,gD,bO,mo,notb_eq]
 by_cases h:a<b
 ·rw[Tx h,S6 (show ¬b<=a by omega)];rfl
 ·rw[S6 h,Tx (show b<=a by omega)];rfl
theorem BY(k:IntKind){a b:Int}(ha:0<=a)(hb:0<b):bU .quo (.int k a) (.int k b)=.val (.int k (k.wrap (a / b))):=by obtain⟨m,rfl⟩:=R8 ha;obtain⟨n,rfl⟩:=R8 (show 0<=b by omega);obtain⟨n,rfl⟩:∃j,n=j+1:=⟨n - 1,by omega⟩;simp only[bU,gD,bO];show orV (OJ k (.ofNat m) (.ofNat (n+1)))=_;simp only[OJ,iN];rfl
theorem eP(k:IntKind){a b:Int}(ha:0<=a)(hb:0<b):bU .rem (.int k a) (.int k b)=.val (.int k (a % b)):=by obtain⟨m,rfl⟩:=R8 ha;obtain⟨n,rfl⟩:=R8 (show 0<=b by omega);obtain⟨n,rfl⟩:∃j,n=j+1:=⟨n - 1,by omega⟩;simp only[bU,gD,bO];show orV (ON k (.ofNat m) (.ofNat (n+1)))=_;simp only[ON];rfl
theorem NE(k':IntKind)(m n:Nat):bU .shl (.int .u64 (m:Int)) (.int k' (n:Int))=.val (.int .u64 ((m*2 ^ n % 18446744073709551616:Nat):Int)):=by
 show orV (MW .u64 (.ofNat m) (.ofNat n))=_;simp only[MW,IntKind.bits];show OR.val (.int .u64 (tz .u64 (.ofNat (m*2 ^ (Nat.min n 64)))))=_;simp only[tz];congr 2;show ((m*2 ^ (min n 64) % 18446744073709551616:Nat):Int)=_
 by_cases h:n<=64
 ·rw[T_ h]
 ·rw[Nat.min_eq_right (by omega)];obtain⟨j,rfl⟩:∃j,n=64+j:=⟨n - 64,by omega⟩;rw[Nat.pow_add,show (18446744073709551616:Nat)=2 ^ 64 from rfl,Nat.mul_mod_left,<-U8,Uj (m*2 ^ 64),<-U8,Nat.mul_mod_left]
theorem tB(k':IntKind)(m n:Nat)(h:m<18446744073709551616):bU .shr (.int .u64 (m:Int)) (.int k' (n:Int))=.val (.int .u64 ((m / 2 ^ n:Nat):Int)):=by
 show orV (MX .u64 (.ofNat m) (.ofNat n))=_;simp only[MX,IntKind.bits];show OR.val (.int .u64 (.ofNat (m / 2 ^ (Nat.min n 64))))=_;congr 2;show ((m / 2 ^ (min n 64):Nat):Int)=_
 by_cases h2:n<=64
 ·rw[T_ h2]
 ·rw[Nat.min_eq_right (by omega)];obtain⟨j,rfl⟩:∃j,n=64+j:=⟨n - 64,by omega⟩;rw[Nat.pow_add,<-Nat.div_div_eq_div_mul,show (2 ^ 64:Nat)=18446744073709551616 from rfl,Ux h,Nat.zero_div]
theorem xw{m n:Nat}(h:m<18446744073709551616)(h':n<18446744073709551616):mB .u64 m n=true:=by simp only[mB,R7,Tg];exact⟨h,h'⟩
theorem qq(m n:Nat)(h:m<18446744073709551616)(h':n<18446744073709551616):bU .or (.int .u64 (m:Int)) (.int .u64 (n:Int))=.val (.int .u64 ((m ||| n:Nat):Int)):=by show orV (aB (mB .u64 m n) _ _)=_;rw[xw h h'];rfl
theorem qp(m n:Nat)(h:m<18446744073709551616)(h':n<18446744073709551616):bU .and (.int .u64 (m:Int)) (.int .u64 (n:Int))=.val (.int .u64 ((m &&& n:Nat):Int)):=by show orV (aB (mB .u64 m n) _ _)=_;rw[xw h h'];rfl
theorem yS(m n:Nat)(h:m<18446744073709551616)(h':n<18446744073709551616):bU .andNot (.int .u64 (m:Int)) (.int .u64 (n:Int))=.val (.int .u64 ((m ^^^ (m &&& n):Nat):Int)):=by show orV (aB (mB .u64 m n) _ _)=_;rw[xw h h'];rfl
theorem Ms{m n:Nat}(h:m<18446744073709551616)(h':n<18446744073709551616):m ||| n<18446744073709551616:=Ut (n:=64) h h'
theorem Ew(b:Bool):OE (.bool b)=.val (.bool (!b)):=by simp only[OE,notb_eq]
theorem Ds(k k':IntKind)(a:Int):Hk k (.int k' a)=.val (.int k (k.wrap a)):=by simp only[Hk,iN]
theorem MA(a b:AV):H8 (.bool true) a b=.val a:=rfl
theorem Mz(a b:AV):H8 (.bool false) a b=.val b:=rfl
theorem Mh(k:IntKind)(a b:Int):mxV (.int k a) (.int k b)=.val (.int k (max a b)):=by
 simp only[mxV,bO,mo]
 by_cases h:a<b
 ·rw[Tx h,Int.max_eq_right (by omega)]
 ·rw[S6 h,Int.max_eq_left (by omega)]
theorem Mg(k:IntKind)(a b:Int):mnV (.int k a) (.int k b)=.val (.int k (min a b)):=by
 simp only[mnV,bO,mo]
 by_cases h:b<a
 ·rw[Tx h,Int.min_eq_right (by omega)]
 ·rw[S6 h,Int.min_eq_left (by omega)]
def jV(sz:Nat)(v:AV)(i off:Nat):AV :=
 match v with
 |.tsl l _ rows=>.tptr l sz rows i off
 |.hsl id ep o _ _=>.hptr id ep (o+i) off
 |_=>.undef
theorem L3{g:G}{sz:Nat}{v:AV}{rows:List (List AV)}(h:ak g.h sz v=some rows):dO .slice v g=.val (.int .i64 (rows.length:Int)):=by
 unfold ak at h
 split at h
 ·injection h with h;subst h;rfl
 ·injection h with h;subst h;rfl
 ·rw[aa]at h
  split at h
  ·injection h with h;subst h;simp only[dO,ay];rfl
  ·cases h
 ·split at h
  ·rw[aa]at h
   split at h
   ·rename_i hc;injection h with h;subst h;simp only[R7,SS,ay]at hc;simp only[dO,bh,bg,SL,UZ];congr 3;rw[T_ (by omega)]
   ·cases h
  ·cases h
 ·cases h
theorem qf{h:H}{sz:Nat}{v:AV}{rows:List (List AV)}(hv:ak h sz v=some rows)(g:G):dO .slice v g=.val (.int .i64 (rows.length:Int)) :=
 (show dO .slice v g=dO .slice v ⟨h,0,[]⟩ from by cases v<;>rfl).trans (L3 (g:=⟨h,0,[]⟩) hv)
theorem LH{g:G}{sz:Nat}{v:AV}{rows:List (List AV)}{k:IntKind}{i:Int}(h:ak g.h sz v=some rows)(h0:0<=i)(hi:i<rows.length) :
  Cp sz v (.int k i) g=.val (jV sz v i.toNat 0):=by
 obtain⟨n,rfl⟩:=R8 h0;have hi:n<rows.length:=by omega
 show Cp sz v (.int k (.ofNat n)) g=.val (jV sz v n 0);unfold ak at h
 split at h
 ·injection h with h;subst h;simp at hi
 ·injection h with h;subst h;simp at hi
 ·rw[aa]at h
  split at h
  ·rename_i hc;injection h with h;subst h;rename_i sz' rows _;have:Nat.beq sz sz'=true:=by
    simp only[SY,List.isEmpty_iff]at hc;rcases hc with hc|hc
    ·exact hc
    ·rw[hc]at hi;simp at hi
   simp only[Cp,iH,this,ay,Td,aa,Tg,Sb hi,jV]
  ·cases h
 ·split at h
  ·rename_i sz' rows' ep' lo fz hg;rw[aa]at h
   split at h
   ·rename_i hc;injection h with h;subst h;simp only[R7]at hc;simp only[bh,bg,SL,UZ]at hi;simp only[Cp,iH,G.get_eq,hg,hc.1.1,hc.1.2,Td,aa,Tg];rw[Sb (by omega)];rfl
   ·cases h
  ·cases h
 ·cases h
theorem Jr{g:G}{sz:Nat}{v:AV}{rows:List (List AV)}{row:List AV}{i off n:Nat}{ag:Bool}(h:ak g.h sz v=some rows)(hr:rows[i]?=some row) :
  rF ag n (jV sz v i off) g=orV (bT ag n row off):=by
 unfold ak at h
 split at h
 ·injection h with h;subst h;simp at hr
 ·injection h with h;subst h;simp at hr
 ·rw[aa]at h
  split at h
  ·injection h with h;subst h;simp only[rF,nD,jV,dV,hr]
  ·cases h
 ·split at h
  ·rename_i sz' rows' ep' lo fz hg;rw[aa]at h
   split at h
   ·rename_i hc;injection h with h;subst h;simp only[R7]at hc;simp only[bh,bg,Uv,ST]at hr
    split at hr
    ·simp only[rF,nD,jV,G.get_eq,hg,hc.1.1,dV,hr]
    ·cases hr
   ·cases h
  ·cases h
 ·cases h
theorem DS(fo id ep i off:Nat):K0 fo (.hptr id ep i off)=.val (.hptr id ep i (off+fo)):=rfl
theorem EI{n:Nat}{row:List AV}{off:Nat}:bT false n row off=row[off]?:=by simp only[bT,dV]
theorem EH{n:Nat}{row:List AV}{off:Nat}(h:off+n<=row.length):bT true n row off=some (.agg ((row.drop off).take n)):=by simp only[bT,bh,bg,ay,SL,UZ,aa];rw[Sb];rw[T_ (by omega)];exact SQ n
theorem qV{g:G}{id ep sz i off n:Nat}{rows:List (List AV)}{lo:Bool}{row cs row':List AV}{x:AV}(hg:g.h.get id=.cells sz rows ep lo false)(hr:rows[i]?=some row)
  (hc:x.cells=cs) (ht:x.isTup=false) (hl:cs.length=n) (hp:bw row off cs=some row') :
  kW n (.hptr id ep i off) x g=.upd .undef (g.put id (.cells sz (rows.set i row') ep lo false)):=by
 subst hc;simp only[kW,pB,G.get_eq,hg,dV,hr,show Nat.beq ep ep=true from SQ ep,ay,hl,show Nat.beq n n=true from SQ n,ht,notb_eq,UV,UQ,hp,gV]
theorem mw{row:List AV}{off:Nat}{c:AV}(h:off<row.length):bw row off [c]=some (row.set off c):=by simp only[bw,ay,T2,aa,SS,gV];rw[Sb (by omega)]
theorem wi{row cs:List AV}(h:cs.length=row.length)(h2:2<=cs.length):bw row 0 cs=some cs:=by
 simp only[bw,ay,aa,SS,gV,bh,bg];rw[Sb (by omega)]
 split
 ·simp at h2
 ·simp[h]
def yw(o:AObj)(ep off len sz:Nat):Option (List (List AV)) :=
 match o with
 |.cells sz' rows ep' _ _=>aB (Nat.beq ep ep'&&Nat.beq sz sz'&&Nat.ble (off+len) (bz rows)) (some (kg len (jz off rows))) none
 |_=>none
theorem xN(h:H)(sz:Nat):ak h sz .nils=some []:=rfl
theorem nI(h:H)(sz t:Nat)(rows:List (List AV)):ak h sz (.tsl t sz rows)=some rows:=by simp only[ak,show Nat.beq sz sz=true from SQ sz,U2]
theorem e_(h:H)(sz id ep off len:Nat)(lim:Option Nat):ak h sz (.hsl id ep off len lim)=yw (h.get id) ep off len sz:=rfl
theorem cM(sz:Nat)(rows:List (List AV))(ep:Nat)(lo fz:Bool)(off len:Nat) :
  yw (.cells sz rows ep lo fz) ep off len sz=if off+len<=rows.length then some ((rows.drop off).take len) else none:=by
 simp only[yw,show Nat.beq sz sz=true from SQ sz,show Nat.beq ep ep=true from SQ ep,Td,aa,SS,ay,bh,bg]
theorem xF(sz:Nat)(rows:List (List AV))(ep:Nat)(lo fz:Bool):yw (.cells sz rows ep lo fz) ep 0 rows.length sz=some rows:=by rw[cM,Sb (by omega)];simp
def bK(o:AObj)(ep i:Nat)(ag:Bool)(n off:Nat):OR :=
 match o with
 |.cells _ rows ep' _ _=>aB (Nat.beq ep ep') (match rows[i]? with|some row=>orV (bT ag n row off)|none=>.fail) .fail
 |_=>.fail
theorem zQ(g:G)(id ep i off n:Nat)(ag:Bool):rF ag n (.hptr id ep i off) g=bK (g.h.get id) ep i ag n off:=by
 simp only[rF,nD,G.get_eq,bK,dV]
 rfl
theorem ny(sz:Nat)(rows:List (List AV))(ep:Nat)(lo fz:Bool)(i n off:Nat)(ag:Bool) :
  bK (.cells sz rows ep lo fz) ep i ag n off=match rows[i]? with|some row=>orV (bT ag n row off)|none=>.fail:=by
 simp only[bK,show Nat.beq ep ep=true from SQ ep]
def cN(o:AObj)(g:G)(id ep i n off:Nat)(x:AV):OR :=
 match o with
 | .cells sz rows ep' lo fz=>aB (Nat.beq ep ep'&&Nat.beq x.cells.length n&&j3 fz&&j3 x.isTup) (match rows[i]? with
   | some row=>match bw row off x.cells with
    |some row'=>.upd .undef (g.put id (.cells sz (rows.set i row') ep lo fz))
    |none=>.fail
   |none=>.fail) .fail
 |_=>.fail
theorem xT(g:G)(id ep i off n:Nat)(x:AV):kW n (.hptr id ep i off) x g=cN (g.h.get id) g id ep i n off x:=by
 simp only[kW,pB,G.get_eq,cN,dV,ay,gV]
 rfl
theorem bL(sz:Nat)(rows:List (List AV))(ep:Nat)(lo:Bool)(g:G)(id i n off:Nat)(x:AV)(hl:x.cells.length=n)(ht:x.isTup=false) :
  cN (.cells sz rows ep lo false) g id ep i n off x=match rows[i]? with
   | some row=>match bw row off x.cells with
    |some row'=>.upd .undef (g.put id (.cells sz (rows.set i row') ep lo false))
    |none=>.fail
   |none=>.fail:=by
 simp only[cN,show Nat.beq ep ep=true from SQ ep,hl,show Nat.beq n n=true from SQ n,ht,notb_eq,UV,UQ]
theorem Bw{g:G}{sz:Nat}{v:AV}{i off n:Nat}{ag:Bool}(h:(ak g.h sz v).isSome=true)(hi:i<((ak g.h sz v).getD []).length) :
  rF ag n (jV sz v i off) g=orV (bT ag n (((ak g.h sz v).getD [])[i]?.getD []) off):=by
 obtain⟨rows,hr⟩:=Option.isSome_iff_exists.1 h;rw[hr]at hi ⊢;simp only[Se]at hi ⊢;rw[Jr hr (R4 hi),R4 hi,Se]
theorem LI{g:G}{sz:Nat}{v:AV}{k:IntKind}{i:Int}(h:(ak g.h sz v).isSome=true)(h0:0<=i)(hi:i<((ak g.h sz v).getD []).length) :
  Cp sz v (.int k i) g=.val (jV sz v i.toNat 0):=by
 obtain⟨rows,hr⟩:=Option.isSome_iff_exists.1 h;rw[hr]at hi;exact LH hr h0 hi
theorem Cq{g:G}{sz:Nat}{v:AV}{k:IntKind}{i:Nat}(h:(ak g.h sz v).isSome=true)(hi:i<((ak g.h sz v).getD []).length) :
  Cp sz v (.int k (i:Int)) g=.val (jV sz v i 0):=LI h (UJ i) (by omega)
def Ak:AV->Bool
 |.tsl ..|.hsl ..=>true
 |_=>false
theorem DT{sz:Nat}{v:AV}{i off fo:Nat}(h:Ak v=true):K0 fo (jV sz v i off)=.val (jV sz v i (off+fo)):=by cases v<;>first|rfl|cases h
theorem OQ{h:H}{sz:Nat}{v:AV}{rows:List (List AV)}{i:Nat}(hv:ak h sz v=some rows)(hi:i<rows.length):Ak v=true:=by
 unfold ak at hv
 split at hv
 ·injection hv with h;subst h;simp at hi
 ·injection hv with h;subst h;simp at hi
 ·rfl
 ·rfl
 ·cases hv
def po(h:H)(v:AV):List Int:=((ak h 1 v).getD []).map λr=>match r with|[.int _ x]=>x|_=>0
def zI(h:H)(v:AV):Prop:=ak h 1 v=some ((po h v).map ci)
theorem LC(l:List Int):(l.map ci).map (λr=>match r with|[.int _ x]=>x|_=>0)=l:=by
 induction l with
 |nil=>rfl
 |cons a l ih=>simp only[Te,ih,ci]
theorem HG{h:H}{v:AV}{l:List Int}(hv:ak h 1 v=some (l.map ci)):po h v=l:=by simp only[po,hv,Se,LC]
theorem Jo{h:H}{v:AV}{l:List Int}(hv:ak h 1 v=some (l.map ci)):zI h v:=by unfold zI;rw[HG hv,hv]
theorem PC{α:Type}(a:α)(l:List α):(a::l)[0]?=some a:=rfl
theorem PD{α:Type}(a b:α)(l:List α):(a::b::l)[1]?=some b:=rfl
theorem PE{α:Type}(a b c:α)(l:List α):(a::b::c::l)[2]?=some c:=rfl
theorem PF{α:Type}(a b c e:α)(l:List α):(a::b::c::e::l)[3]?=some e:=rfl
theorem PG{α:Type}(a b c e p:α)(l:List α):(a::b::c::e::p::l)[4]?=some p:=rfl
theorem PH{α:Type}(a b c e p q:α)(l:List α):(a::b::c::e::p::q::l)[5]?=some q:=rfl
theorem PI{α:Type}(a b c e p q r:α)(l:List α):(a::b::c::e::p::q::r::l)[6]?=some r:=rfl
theorem PJ{α:Type}(a b c e p q r s:α)(l:List α):(a::b::c::e::p::q::r::s::l)[7]?=some s:=rfl
theorem PK{α:Type}(a b c e p q r s u:α)(l:List α):(a::b::c::e::p::q::r::s::u::l)[8]?=some u:=rfl
@[reducible] def o (d:Nat) (op:SO):SI:=⟨some d,none,op⟩
@[reducible] def oz (op:SO):SI:=⟨none,none,op⟩
@[reducible] def og (d s:Nat) (w:Bool) (op:SO):SI:=⟨some d,some (s,w),op⟩
@[reducible] def ozg (s:Nat) (w:Bool) (op:SO):SI:=⟨none,some (s,w),op⟩
section steps
variable {C:Cfg}{d:Nat}{rd:Option Nat}
theorem C7(Q:QT)(t:T)(df:List ADf)(g:G):wp C d rd .skip Q t df g=Q .norm t df g:=rfl
theorem C6(l:List SI)(Q:QT)(t:T)(df:List ADf)(g:G):wp C d rd (.ops l) Q t df g=wpO C d rd l (Q .norm) t df g:=rfl
theorem Fl(l:List SI)(Q:QT)(t:T)(df:List ADf)(g:G):wp C d rd (.quiet l) Q t df g=wpO C d rd l (kQ g Q) t df (aP g []):=rfl
theorem Iz(pm:List Nat)(l:List SI)(Q:QT)(t:T)(df:List ADf)(g:G):wp C d rd (.feet pm l) Q t df g=wpF C d rd pm l (Q .norm) t df g []:=rfl
theorem eM(a b:SC)(Q:QT)(t:T)(df:List ADf)(g:G):wp C d rd (.seq a b) Q t df g=wp C d rd a (kS (wp C d rd b Q) Q) t df g:=rfl
theorem C5(c:Od)(a b:SC)(Q:QT)(t:T)(df:List ADf)(g:G):wp C d rd (.cond c a b) Q t df g=wpC (c.get t) (wp C d rd a Q) (wp C d rd b Q) t df g:=rfl
theorem C4(id:Nat)(b:SC)(Q:QT)(t:T)(df:List ADf)(g:G):wp C d rd (.blk id b) Q t df g=wp C d rd b (kB id Q) t df g:=rfl
theorem IA(b:SC)(Q:QT)(t:T)(df:List ADf)(g:G):wp C d rd (.loop b) Q t df g=wpL (wp C d rd b) Q t df g:=rfl
theorem Iy(id:Nat)(Q:QT)(t:T)(df:List ADf)(g:G):wp C d rd (.exit id) Q t df g=Q (.exit id) t df g:=rfl
theorem Nt(Q:QT)(t:T)(df:List ADf)(g:G):wp C d rd .ret Q t df g=Q .ret t df g:=rfl
theorem Py(g0:G)(Q:QT)(t:T)(df:List ADf)(g:G):kQ g0 Q t df g=(g.lg=[]/\g.nx=g0.nx/\Q .norm t df g0):=rfl
theorem Iw(Q:PT)(t:T)(df:List ADf)(g:G):wpO C d rd [] Q t df g=Q t df g:=rfl
theorem PQ(n:Nat)(op:SO)(r:List SI)(Q:PT)(t:T)(df:List ADf)(g:G) :
  wpO C d rd (o n op::r) Q t df g=(op.run C d rd t g).sat (kO (wpO C d rd r Q) (some n) t df) g (kD (wpO C d rd r Q) (some n) t df g):=rfl
theorem Ns(op:SO)(r:List SI)(Q:PT)(t:T)(df:List ADf)(g:G) :
  wpO C d rd (oz op::r) Q t df g=(op.run C d rd t g).sat (kO (wpO C d rd r Q) none t df) g (kD (wpO C d rd r Q) none t df g):=rfl
theorem Nq(n s:Nat)(w:Bool)(op:SO)(r:List SI)(Q:PT)(t:T)(df:List ADf)(g:G) :
  wpO C d rd (og n s w op::r) Q t df g=gdP (tat t s) w (EW C d rd (o n op) (wpO C d rd r Q)) (Ao (o n op) (wpO C d rd r Q)) t df g:=rfl
theorem Ix(s:Nat)(w:Bool)(op:SO)(r:List SI)(Q:PT)(t:T)(df:List ADf)(g:G) :
  wpO C d rd (ozg s w op::r) Q t df g=gdP (tat t s) w (EW C d rd (oz op) (wpO C d rd r Q)) (Ao (oz op) (wpO C d rd r Q)) t df g:=rfl
theorem MT(n:Nat)(op:SO)(W:PT)(t:T)(df:List ADf)(g:G):EW C d rd (o n op) W t df g=(op.run C d rd t g).sat (kO W (some n) t df) g (kD W (some n) t df g):=rfl
theorem Id(op:SO)(W:PT)(t:T)(df:List ADf)(g:G):EW C d rd (oz op) W t df g=(op.run C d rd t g).sat (kO W none t df) g (kD W none t df g):=rfl
theorem In(n:Nat)(op:SO)(W:PT)(t:T)(df:List ADf)(g:G):Ao (o n op) W t df g=W (fq t n .undef) df g:=rfl
theorem E8(op:SO)(W:PT)(t:T)(df:List ADf)(g:G):Ao (oz op) W t df g=W t df g:=rfl
theorem HR(W:PT)(n:Nat)(t:T)(df:List ADf)(v:AV)(g:G):kO W (some n) t df v g=W (fq t n v) df g:=rfl
theorem HQ(W:PT)(t:T)(df:List ADf)(v:AV)(g:G):kO W none t df v g=W t df g:=rfl
theorem Pu(q:Bool)(A B:PT)(t:T)(df:List ADf)(g:G):gdP (.bool q) true A B t df g=wL q A B t df g:=rfl
theorem Pt(q:Bool)(A B:PT)(t:T)(df:List ADf)(g:G):gdP (.bool q) false A B t df g=wL q B A t df g:=rfl
theorem Bo(w:Bool)(A B:PT)(t:T)(df:List ADf)(g:G):gdP (.tup []) w A B t df g=B t df g:=rfl
theorem wM(A B:PT)(t:T)(df:List ADf)(g:G):wL true A B t df g=A t df g:=by simp[wL]
theorem yQ(A B:PT)(t:T)(df:List ADf)(g:G):wL false A B t df g=B t df g:=by simp[wL]
theorem AB(q:Bool)(A B:PT)(t:T)(df:List ADf)(g:G):wpC (.bool q) A B t df g=wL q A B t df g:=rfl
theorem Cu(W:PT)(Q:QT)(t:T)(df:List ADf)(g:G):kS W Q .norm t df g=W t df g:=rfl
theorem HT(W:PT)(Q:QT)(id:Nat)(t:T)(df:List ADf)(g:G):kS W Q (.exit id) t df g=Q (.exit id) t df g:=rfl
theorem LT(W:PT)(Q:QT)(t:T)(df:List ADf)(g:G):kS W Q .ret t df g=Q .ret t df g:=rfl
theorem HK(id:Nat)(Q:QT)(t:T)(df:List ADf)(g:G):kB id Q .norm t df g=Q .norm t df g:=rfl
theorem LP(id:Nat)(Q:QT)(t:T)(df:List ADf)(g:G):kB id Q .ret t df g=Q .ret t df g:=rfl
theorem Ob(id:Nat)(Q:QT)(t:T)(df:List ADf)(g:G):kB id Q (.exit id) t df g=Q .norm t df g:=by simp[kB]
theorem LO(id j:Nat)(Q:QT)(t:T)(df:List ADf)(g:G)(h:j≠id):kB id Q (.exit j) t df g=Q (.exit j) t df g:=by simp only[kB];rw[aa,Sa (λe=>h (Tp e))]
theorem qK(id j:Nat)(Q:QT)(t:T)(df:List ADf)(g:G):kB id Q (.exit j) t df g=if j=id then Q .norm t df g else Q (.exit j) t df g:=by
 by_cases h:j=id
 ·subst h;rw[Ob,Sb rfl]
 ·rw[LO _ _ _ _ _ _ h,Sa h]
theorem HO(Inv:Nat->PT)(k:Nat)(Q:QT)(t:T)(df:List ADf)(g:G):kL Inv k Q .norm t df g=∃k',k'<k/\Inv k' t df g:=rfl
theorem HN(Inv:Nat->PT)(k:Nat)(Q:QT)(id:Nat)(t:T)(df:List ADf)(g:G):kL Inv k Q (.exit id) t df g=Q (.exit id) t df g:=rfl
theorem LQ(Inv:Nat->PT)(k:Nat)(Q:QT)(t:T)(df:List ADf)(g:G):kL Inv k Q .ret t df g=Q .ret t df g:=rfl
theorem fI{q:Bool}{A B:PT}{t:T}{df:List ADf}{g:G}(h1:q=true->A t df g)(h2:q=false->B t df g):wL q A B t df g:=⟨h1,h2⟩
theorem DW(r:List SR)(K:AV->G->Prop)(t:T)(df:List ADf)(g:G):fnQ C d r K .norm t df g=zg C d r t df g K:=rfl
theorem Hv(r:List SR)(K:AV->G->Prop)(t:T)(df:List ADf)(g:G):fnQ C d r K .ret t df g=zg C d r t df g K:=rfl
theorem Dz(r:List SR)(K:AV->G->Prop)(t:T)(g:G):zg C d r t [] g K=xk r t g λvs=>K (jT vs) g:=rfl
theorem ET(t:T)(g:G)(K:List AV->Prop):xk [] t g K=K []:=rfl
theorem Ia(n:Nat)(r:List SR)(t:T)(g:G)(K:List AV->Prop):xk (.tm n::r) t g K=xk r t g λvs=>K (tat t n::vs):=rfl
theorem v_(v:AV):jT [v]=v:=rfl
theorem jZ{W:QT->PT}{Q:QT}{t:T}{df:List ADf}{g:G}(Inv:Nat->PT)(k:Nat)(h0:Inv k t df g)(h:∀k t df g,Inv k t df g->W (kL Inv k Q) t df g):wpL W Q t df g:=⟨Inv,⟨k,h0⟩,h⟩
end steps
end
end Hx
end
section
namespace Hx
open Go
noncomputable section
theorem sx:type_of% (R3 @Iw <|R3 @PQ <|R3 @Ns <|R3 @Nq <|R3 @Ix <|R3 @MT <|R3 @Id <|R3 @In <|R3 @E8 <|
 R3 @HR <|R3 @HQ <|R3 @Pu <|R3 @Pt <|R3 @Bo <|R3 @wM <|R3 @yQ <|R3 @AB <|R3 @Cu <|R3 @HT <|R3 @LT <|
 R3 @HK <|R3 @LP <|R3 @qK <|R3 @HO <|R3 @HN <|R3 @LQ <|R3 @DW <|R3 @Hv <|R3 @Dz <|R3 @ET <|R3 @Ia <|
 R3 @v_ <|R3 @lJ <|R3 @Ez <|R3 @EA <|R3 @EB <|R3 @EC <|R3 @C7 <|R3 @C6 <|R3 @Fl <|R3 @Iz <|R3 @eM <|R3 @C5 <|R3 @C4 <|R3 @IA <|R3 @Iy <|R3 @Nt <|R3 @z_ <|R3 @Is <|R3 @Lt <|R3 @Pv <|R3 @D7 <|R3 @Bp <|R3 @Ig <|R3 @If <|R3 @ED <|
 R3 @G5 <|R3 @Hc <|R3 @Ha <|R3 @G6 <|R3 @Hb <|R3 @G_ <|R3 @G8 <|R3 @G9 <|R3 @G7 <|R3 @Ew <|R3 @Ds <|R3 @MA <|R3 @Mz <|
 R3 @Mh <|R3 @Mg <|R3 @DS <|R3 @zQ <|R3 @ny <|R3 @xT <|R3 @EI <|R3 @Bw <|R3 @DT <|R3 @Cq <|
 R3 @PC <|R3 @PD <|R3 @PE <|R3 @PF <|R3 @PG <|R3 @PH <|R3 @PI <|R3 @PJ <|R3 @PK <|R3 @G.put_h <|R3 @G.put_nx <|R3 @G.new_h <|R3 @G.new_nx <|R3 @aS <|R3 @Dy <|@Ho) :=
 R3 @Iw <|R3 @PQ <|R3 @Ns <|R3 @Nq <|R3 @Ix <|R3 @MT <|R3 @Id <|R3 @In <|R3 @E8 <|
 R3 @HR <|R3 @HQ <|R3 @Pu <|R3 @Pt <|R3 @Bo <|R3 @wM <|R3 @yQ <|R3 @AB <|R3 @Cu <|R3 @HT <|R3 @LT <|
 R3 @HK <|R3 @LP <|R3 @qK <|R3 @HO <|R3 @HN <|R3 @LQ <|R3 @DW <|R3 @Hv <|R3 @Dz <|R3 @ET <|R3 @Ia <|
 R3 @v_ <|R3 @lJ <|R3 @Ez <|R3 @EA <|R3 @EB <|R3 @EC <|R3 @C7 <|R3 @C6 <|R3 @Fl <|R3 @Iz <|R3 @eM <|R3 @C5 <|R3 @C4 <|R3 @IA <|R3 @Iy <|R3 @Nt <|R3 @z_ <|R3 @Is <|R3 @Lt <|R3 @Pv <|R3 @D7 <|R3 @Bp <|R3 @Ig <|R3 @If <|R3 @ED <|
 R3 @G5 <|R3 @Hc <|R3 @Ha <|R3 @G6 <|R3 @Hb <|R3 @G_ <|R3 @G8 <|R3 @G9 <|R3 @G7 <|R3 @Ew <|R3 @Ds <|R3 @MA <|R3 @Mz <|
 R3 @Mh <|R3 @Mg <|R3 @DS <|R3 @zQ <|R3 @ny <|R3 @xT <|R3 @EI <|R3 @Bw <|R3 @DT <|R3 @Cq <|
 R3 @PC <|R3 @PD <|R3 @PE <|R3 @PF <|R3 @PG <|R3 @PH <|R3 @PI <|R3 @PJ <|R3 @PK <|R3 @G.put_h <|R3 @G.put_nx <|R3 @G.new_h <|R3 @G.new_nx <|R3 @aS <|R3 @Dy <|@Ho
def St(t:T):List (Nat×AV)->Prop
 |[]=>True
 | (n,v)::r=>tat t n=v/\St t r
abbrev VS:=(Nat->Prop)->Nat->H->AV->Prop
def One{α:Type} [Rp α](x:α):VS:=λP k h v=>Rp.rp P k h x [v]
def Agg{α:Type} [Rp α](x:α):VS:=λP k h v=>∃cs,v=.agg cs/\Rp.rp P k h x cs
def wI(S R:VS):VS:=λP k h v=>∃a b,v=.tup [a,b]/\S P k h a/\R P k h b
def Q8(S R U:VS):VS:=λP k h v=>∃a b c,v=.tup [a,b,c]/\S P k h a/\R P k h b/\U P k h c
structure Snb (S:VS) (j:Nat):Prop where
 snap:∀{P k h v n} (d:Nat),S P k h v->20+j<=n->∃v',Hx.snap h d n v=some v'/\S NoP (max k d) .nil v'
 tag:∀{k h v n},S NoP k h v->20+j<=n->∃m,fp n v=some m/\m<=k
theorem bm{α:Type} [Rp α](x:α)(hd:Rp.dp α<=20:=by decide):Snb (One x) 0:=by
 refine⟨λ{P k h v n} d r hn=>?_,λ{k h v n} r hn=>?_⟩
 ·obtain⟨cs',e,r'⟩:=Rp.snap (n:=n) d r (by omega) (by show _<=24;omega);simp only[aJ]at e
  split at e
  ·rename_i w hw;injection e with e;subst e;exact⟨w,hw,r'⟩
  ·cases e
 ·obtain⟨m,e,l⟩:=Rp.tag (n:=n) r (by omega);simp only[iK]at e
  split at e
  ·rename_i w hw;injection e with e;subst e;exact⟨w,hw,by have:Nat.max w 0=w:=Nat.max_eq_left (S2 w);omega⟩
  ·cases e
theorem dF{α:Type} [Rp α](x:α)(hd:Rp.dp α<=20:=by decide):Snb (Agg x) 1:=by
 refine⟨λ{P k h v n} d r hn=>?_,λ{k h v n} r hn=>?_⟩
 ·obtain⟨cs,rfl,r⟩:=r;obtain⟨n,rfl⟩:∃m,n=m+1:=⟨n - 1,by omega⟩;obtain⟨cs',e,r'⟩:=Rp.snap (n:=n) d r (by omega) (by show _<=24;omega);exact⟨.agg cs',by simp only[Hx.snap,e],cs',rfl,r'⟩
 ·obtain⟨cs,rfl,r⟩:=r;obtain⟨n,rfl⟩:∃m,n=m+1:=⟨n - 1,by omega⟩;obtain⟨m,e,l⟩:=Rp.tag (n:=n) r (by omega);exact⟨m,by simp only[fp,e],l⟩
theorem gJ{S R:VS}{i j m:Nat}(hs:Snb S i)(hr:Snb R j)(hi:i+1<=m)(hj:j+1<=m):Snb (wI S R) m:=by
 refine⟨λ{P k h v n} d r hn=>?_,λ{k h v n} r hn=>?_⟩
 ·obtain⟨a,b,rfl,r1,r2⟩:=r;obtain⟨n,rfl⟩:∃m,n=m+1:=⟨n - 1,by omega⟩;obtain⟨a',e1,r1'⟩:=hs.snap (n:=n) d r1 (by omega);obtain⟨b',e2,r2'⟩:=hr.snap (n:=n) d r2 (by omega);exact⟨.tup [a',b'],by simp only[Hx.snap,aJ,e1,e2],a',b',rfl,r1',r2'⟩
 ·obtain⟨a,b,rfl,r1,r2⟩:=r;obtain⟨n,rfl⟩:∃m,n=m+1:=⟨n - 1,by omega⟩;obtain⟨m1,e1,l1⟩:=hs.tag (n:=n) r1 (by omega);obtain⟨m2,e2,l2⟩:=hr.tag (n:=n) r2 (by omega);refine⟨max m1 m2,?_,by omega⟩;simp only[fp,iK,e1,e2];congr 1;show max m1 (max m2 0)=_;omega
theorem M6{S R U:VS}{i j l m:Nat}(hs:Snb S i)(hr:Snb R j)(hu:Snb U l)(hi:i+1<=m)(hj:j+1<=m)(hl:l+1<=m):Snb (Q8 S R U) m:=by
 refine⟨λ{P k h v n} d r hn=>?_,λ{k h v n} r hn=>?_⟩
 ·obtain⟨a,b,c,rfl,r1,r2,r3⟩:=r;obtain⟨n,rfl⟩:∃m,n=m+1:=⟨n - 1,by omega⟩;obtain⟨a',e1,r1'⟩:=hs.snap (n:=n) d r1 (by omega);obtain⟨b',e2,r2'⟩:=hr.snap (n:=n) d r2 (by omega);obtain⟨c',e3,r3'⟩:=hu.snap (n:=n) d r3 (by omega);exact⟨.tup [a',b',c'],by simp only[Hx.snap,aJ,e1,e2,e3],a',b',c',rfl,r1',r2',r3'⟩
 ·obtain⟨a,b,c,rfl,r1,r2,r3⟩:=r;obtain⟨n,rfl⟩:∃m,n=m+1:=⟨n - 1,by omega⟩;obtain⟨m1,e1,l1⟩:=hs.tag (n:=n) r1 (by omega);obtain⟨m2,e2,l2⟩:=hr.tag (n:=n) r2 (by omega);obtain⟨m3,e3,l3⟩:=hu.tag (n:=n) r3 (by omega);refine⟨max m1 (max m2 m3),?_,by omega⟩;simp only[fp,iK,e1,e2,e3];congr 1;show max m1 (max m2 (max m3 0))=_;omega
def Arg(S:VS)(k d:Nat)(h:H)(v v':AV):Prop:=Hx.snap h d aE v=some v'/\S NoP k .nil v'
theorem rP{S:VS}{j:Nat}(hs:Snb S j)(hj:j<=4){P:Nat->Prop}{k:Nat}{h:H}{v:AV}(d:Nat)(r:S P k h v):∃v',Arg S (max k d) d h v v':=by obtain⟨v',e,r'⟩:=hs.snap (n:=aE) d r (by show _<=24;omega);exact⟨v',e,r'⟩
theorem mK{α:Type} [Rp α]{x:α}{k:Nat}{h:H}{v:AV}(d:Nat)(r:Agg x NoP k h v)(hd:Rp.dp α<=20:=by decide):Hx.snap h d aE v=some v:=by obtain⟨cs,rfl,r⟩:=r;show (match aJ (Hx.snap h d 23) cs with|some as=>some (AV.agg as)|none=>none)=_;rw[Rp.same (n:=23) d r (by omega)]
theorem wy{α:Type} [Rp α]{l:List α}{k:Nat}{h:H}{v:AV}(d:Nat)(r:SlR NoP k h l v):Hx.snap h d aE v=some v:=by
 have r:=r.2;unfold SlV at r
 split at r<;>first|rfl|exact r.1.elim|exact r.elim
theorem dS(k d:Nat)(h:H)(q:IntKind)(x:Int):Hx.snap h d aE (.int q x)=some (.int q x):=rfl
theorem Kk{h:H}{v:AV}(hv:zI h v)(hl:(po h v).length<9223372036854775808)(d:Nat) :
  ∃v',Hx.snap h d aE v=some v'/\(∀h',ak h' 1 v'=some ((po h v).map ci))/\∀g,dO .slice v' g=.val (.int .i64 ((po h v).length:Int)):=by
 suffices hs:∃v',Hx.snap h d aE v=some v'/\(∀h',ak h' 1 v'=some ((po h v).map ci)) by obtain⟨v',e,hr⟩:=hs;exact⟨v',e,hr,λg=>by rw[qf (hr .nil),Ss]⟩
 obtain⟨k,r⟩:∃k,SlV (λ_=>True) k h (po h v) v:=by
  have e:=hv;unfold zI at e;have all:∀P k h',All2 (Rp.rp P k h') (po h v) ((po h v).map ci):=λP k h'=>RS (λa=>aI.2 rfl) _;cases v with
  |nils=>exact⟨0,by simp only[ak]at e;injection e with e;exact (List.map_eq_nil_iff.1 e.symm)⟩
  |esl=>exact⟨0,by simp only[ak]at e;injection e with e;exact (List.map_eq_nil_iff.1 e.symm)⟩
  | tsl t s rows =>
   refine⟨t,R5 t,?_,?_⟩
   ·simp only[ak,aa]at e
    split at e
    ·rename_i hc;rw[SY]at hc;rcases hc with hc|hc
     ·exact .inl (Tp hc).symm
     ·exact .inr (List.isEmpty_iff.1 hc)
    ·cases e
   ·simp only[ak,aa]at e
    split at e
    ·injection e with e;exact cast (congrArg _ e.symm) (all NoP t .nil)
    ·cases e
  |hsl id ep off len lim=>exact⟨0,trivial,_,e,all _ _ _⟩
  |_=>simp[ak]at e
 obtain⟨v',e,r'⟩:=(bm (po h v)).snap (n:=aE) d (show One (po h v) _ k h v from ⟨v,rfl,hl,r⟩) (by decide);refine⟨v',e,λh'=>?_⟩;obtain⟨w,hw,r'⟩:=r';injection hw with hw;subst hw;have:SlR (λ_=>True) (max k d) h' (po h v) v':=by have:=(Rp.mono (P':=λ_=>True) (k':=max k d) (h':=h') (show Rp.rp NoP (max k d) .nil (po h v) [v'] from ⟨v',rfl,r'⟩) (λi hi=>hi.elim) (R5 _));obtain⟨w,hw,q⟩:=this;injection hw with hw;subst hw;exact q
 exact this.ints
abbrev IT (k:Nat)(l:List Int)(r:AV):Prop:=One l NoP k .nil r
theorem IT.sl{k:Nat}{l:List Int}{r:AV}(h:IT k l r)(h':H):SlR NoP k h' l r:=by obtain⟨w,hw,q⟩:=Rp.tree (P:=NoP) (k':=k) (h':=h') h (R5 _);injection hw with hw;subst hw;exact q
theorem SlR.cell{α:Type} [Rp α]{P:Nat->Prop}{k:Nat}{h:H}{l:List α}{v:AV}(r:SlR P k h l v):v.cells=[v]/\v.isTup=false:=by
 have r:=r.2;unfold SlV at r
 split at r<;>first|exact⟨rfl,rfl⟩|exact r.elim
section iso
variable {C:Cfg}{f d:Nat}{s:SF}{g:G}{args xs:List AV}
theorem bC(hf:nFn C f=some s)(hs:aJ (snap g.h d aE) args=some xs)(hl:xs.length<=s.nt){R:VS}{j:Nat}(hR:Snb R j)(hj:j<=4){k':Nat}(hk:k'<d)
  (h:wp C (d+1) none s.code (fnQ C (d+1) s.res λv g'=>∃P,R P k' g'.h v) (co 0 xs .nil) [] G.empty):∃r,ah (I C) d g f args=.val r/\R NoP k' .nil r:=by
 have h:=qt hf hl h;unfold ah;rw[hs];dsimp only;cases hc:(I C).call (Nat.succ d) f xs G.empty with
 |fail=>rw[show (I C).call (d+1) f xs G.empty=.fail from hc]at h;exact h.elim
 | ok v g' =>
  rw[show (I C).call (d+1) f xs G.empty=.ok v g' from hc]at h;obtain⟨P,h⟩:=h;obtain⟨r,e,hr⟩:=hR.snap (n:=aE) 0 h (by show _<=24;omega);rw[Nat.max_eq_left (S2 k')]at hr;obtain⟨m,em,lm⟩:=hR.tag (n:=aE) hr (by show _<=24;omega);refine⟨r,?_,hr⟩;simp only[e,em,aa,Tg];rw[Sb (by omega)]
theorem dc(hf:nFn C f=some s)(hl:xs.length<=s.nt){K:AV->G->Prop}{D:ADf->Prop}(h:wp C d none s.code (fnQ C d s.res K) (co 0 xs .nil) [] g):(orF ((I C).call d f xs g)).sat K g D:=by
 have h:=qt hf hl h;cases hc:(I C).call d f xs g with
 |fail=>rw[hc]at h;exact h.elim
 |ok v g'=>rw[hc]at h;exact h
theorem jR(hf:nFn C f=some s)(hs:aJ (snap g.h d aE) args=some xs)(hl:xs.length<=s.nt){q:IntKind}{x:Int}(hk:0<d)
  (h:wp C (d+1) none s.code (fnQ C (d+1) s.res λv _=>v=.int q x) (co 0 xs .nil) [] G.empty):ah (I C) d g f args=.val (.int q x):=by
 have h:=qt hf hl h;unfold ah;rw[hs];dsimp only;cases hc:(I C).call (Nat.succ d) f xs G.empty with
 |fail=>rw[show (I C).call (d+1) f xs G.empty=.fail from hc]at h;exact h.elim
 | ok v g' =>
  rw[show (I C).call (d+1) f xs G.empty=.ok v g' from hc]at h;have h:v=.int q x:=h;subst h;show (match fp aE (.int q x) with|none=>OR.fail|some m=>aB (Nat.blt m d) (.val (.int q x)) _)=_;rw[show fp aE (.int q x)=some 0 from rfl];simp only[aa,Tg];rw[Sb hk]
theorem nA(hf:nFn C f=some s)(hs:aJ (snap g.h d aE) args=some xs)(hl:xs.length<=s.nt){x:Bool}(hk:0<d)
  (h:wp C (d+1) none s.code (fnQ C (d+1) s.res λv _=>v=.bool x) (co 0 xs .nil) [] G.empty):ah (I C) d g f args=.val (.bool x):=by
 have h:=qt hf hl h;unfold ah;rw[hs];dsimp only;cases hc:(I C).call (Nat.succ d) f xs G.empty with
 |fail=>rw[show (I C).call (d+1) f xs G.empty=.fail from hc]at h;exact h.elim
 | ok v g' =>
  rw[show (I C).call (d+1) f xs G.empty=.ok v g' from hc]at h;have h:v=.bool x:=h;subst h;show (match fp aE (.bool x) with|none=>OR.fail|some m=>aB (Nat.blt m d) (.val (.bool x)) _)=_;rw[show fp aE (.bool x)=some 0 from rfl];simp only[aa,Tg];rw[Sb hk]
end iso
end
end Hx
end
section
namespace Hx
open Go
section
variable {C:Cfg}{A:Nat->Nat->Prop}{bd:Nat}{w w':World}{γ γ':Gm}{hg:Nat->AObj}{nx:Nat}
variable {op:Op}{t:T}{g:G}{f:Stg SFn}
theorem xO{h:H}{sz id:Nat}{x:AV}(hid:id∈ae x)(hn:h.get id=.none):ak h sz x=none:=by
 cases x<;>simp[ae]at hid
 ·subst hid;simp[ak,hn]
 ·rfl
 ·rfl
theorem BF{sz id:Nat}{x:AV}{bytes:Nat}{new:List (List AV)}(hid:id∈ae x)(hn:g.h.get id=.none):bf sz bytes x new g=.fail:=by
 cases x<;>simp[ae]at hid
 ·subst hid;simp[bf,hn]
 ·rfl
 ·rfl
theorem Fc(h:cm C op=some f){id:Nat}(hid:id∈bk C op t g)(hn:g.h.get id=.none):f.run t g=.fail:=by
 have one:∀{x:AV},id∈ae x->(∃a b c d,x=.hptr a b c d/\g.h.get a=.none)\/(∃a b c d e,x=.hsl a b c d e/\g.h.get a=.none)\/(∃a,x=.hmap a/\g.h.get a=.none):=by
  intro x hx;cases x<;>simp[ae]at hx
  ·subst hx;exact .inr (.inl ⟨_,_,_,_,_,rfl,hn⟩)
  ·subst hx;exact .inl ⟨_,_,_,_,rfl,hn⟩
  ·subst hx;exact .inr (.inr ⟨_,rfl,hn⟩)
 cases op<;>simp only[cm]at h<;>first| (cases h;done)|skip
 case call c =>
  obtain⟨callee,args,argTypes⟩:=c;cases callee<;>first| (cases h;done)|skip
  rename_i b;dsimp only at h;obtain⟨vs,hvs⟩:=t7 h;have hid:id∈(vs.run t).flatMap (mh C b argTypes):=by simpa only[bk,aN,hvs,ac,TP,Su] using hid
  generalize args.toList=l at h hvs;unfold dD at h
  split at h
  ·
   split at h
   ·rename_i tt s h0 hs;injection h with h;subst h;simp only[bV,hs,S9]at hvs;subst hvs;simp only[Tc,TH,Su,mh,h0]at hid;dsimp only;generalize s.run t=x at *;generalize mq C.P tt=k at *;cases k<;>simp at hid;cases x<;>simp[wn]at hid;subst hid;simp[dO,hn]
   ·cases h
  ·
   split at h
   ·rename_i tt xt sa sx h0 h1 ha hx;simp only[bV,ha,hx,S9]at hvs;subst hvs;simp only[Tc,TH,Su,mh,SG]at hid
    repeat' (first|split at h| (rw[aa]at h;split at h))
    all_goals first| (cases h;done)|skip
    all_goals (injection h with h;subst h)
    ·dsimp only[dC]
     split
     ·rfl
     ·rename_i new hnew;rcases hid with hid|hid
      ·exact BF hid hn
      ·rw[xO hid hn]at hnew;cases hnew
    ·dsimp only[u9]
     split
     ·rfl
     ·rename_i n hnat;rcases hid with hid|hid
      ·rw[aa]
       split
       ·exact BF hid hn
       ·rfl
      ·generalize sx.run t=x at *;cases x<;>simp[ae]at hid<;>simp[dP]at hnat
   ·cases h
  ·
   split at h
   ·rename_i tt sa sx h0 ha hx;simp only[bV,ha,hx,S9]at hvs;subst hvs;simp only[Tc,TH,Su,mh,SG]at hid
    repeat' (first|split at h)
    all_goals first| (cases h;done)|skip
    all_goals (injection h with h;subst h)
    dsimp only[Bg]
    split
    ·rfl
    ·rename_i src hsrc;rcases hid with hid|hid
     ·rcases one hid with⟨a,b,c,d,e,h1⟩|⟨a,b,c,d,e',e,h1⟩|⟨a,e,h1⟩<;>rw[e]<;>simp[h1]
     ·rw[xO hid hn]at hsrc;cases hsrc
   ·cases h
  ·
   split at h
   ·rename_i tt s h0 hs;simp only[bV,hs,S9]at hvs;subst hvs;simp only[Tc,TH,Su,mh]at hid
    repeat' (first|split at h)
    all_goals first| (cases h;done)|skip
    all_goals (injection h with h;subst h)
    dsimp only[Kz];rcases one hid with⟨a,b,c,d,e,h1⟩|⟨a,b,c,d,e',e,h1⟩|⟨a,e,h1⟩<;>rw[e]<;>simp[h1]
   ·cases h
  ·
   split at h
   ·rename_i tt s h0 hs;simp only[bV,hs,S9]at hvs;subst hvs;simp only[Tc,TH,Su,mh]at hid
    repeat' (first|split at h| (rw[aa]at h;split at h))
    all_goals first| (cases h;done)|skip
    all_goals (injection h with h;subst h)
    dsimp only;generalize s.run t=x at *;cases x with
    | hsl i ep off len lim =>
     cases len with
     |zero=>simp[tK]at hid
     | succ len =>
      simp[tK]at hid;subst hid;simp[zb,hn]
    |_=>simp[tK]at hid
   ·cases h
  ·
   split at h
   ·rename_i sa sx ha hx;injection h with h;subst h;simp only[bV,ha,hx,S9]at hvs;subst hvs;simp only[Tc,TH,Su,mh,SG]at hid;dsimp only;rcases hid with hid|hid
    ·rcases one hid with⟨a,b,c,d,e,h1⟩|⟨a,b,c,d,e',e,h1⟩|⟨a,e,h1⟩<;>rw[e]
    ·split
     ·rcases one hid with⟨a,b,c,d,e,h1⟩|⟨a,b,c,d,e',e,h1⟩|⟨a,e,h1⟩<;>rw[e]
     ·rfl
   ·cases h
  ·
   split at h
   ·rename_i sa sx ha hx;injection h with h;subst h;simp only[bV,ha,hx,S9]at hvs;subst hvs;simp only[Tc,TH,Su,mh,SG]at hid;dsimp only;rcases hid with hid|hid
    ·rcases one hid with⟨a,b,c,d,e,h1⟩|⟨a,b,c,d,e',e,h1⟩|⟨a,e,h1⟩<;>rw[e]
    ·split
     ·rcases one hid with⟨a,b,c,d,e,h1⟩|⟨a,b,c,d,e',e,h1⟩|⟨a,e,h1⟩<;>rw[e]
     ·rfl
   ·cases h
  ·cases h
 case load ty a =>
  split at h
  ·rename_i s ag n hs hag hn';injection h with h;subst h;simp only[bk,aN,hs,ac,TP,Su]at hid;dsimp only[nD];rcases one hid with⟨a,b,c,d,e,h1⟩|⟨a,b,c,d,e',e,h1⟩|⟨a,e,h1⟩<;>rw[e]<;>simp[h1]
  ·cases h
 case store ty a x =>
  split at h
  ·rename_i s u n hs hu hn';injection h with h;subst h;simp only[bk,aN,hs,ac,TP,Su]at hid;dsimp only[pB];rcases one hid with⟨a,b,c,d,e,h1⟩|⟨a,b,c,d,e',e,h1⟩|⟨a,e,h1⟩<;>rw[e]<;>simp[h1]
  ·cases h
 case indexAddr ty x ix =>
  split at h
  ·rename_i s i hs hi
   split at h
   ·rename_i e hu
    split at h
    ·injection h with h;subst h;simp only[bk,aN,hs,hu,ac,TP,Su]at hid;dsimp only[iH];rcases one hid with⟨a,b,c,d,e,h1⟩|⟨a,b,c,d,e',e,h1⟩|⟨a,e,h1⟩<;>rw[e];dsimp only
     split
     ·simp[h1]
     ·rfl
    ·cases h
   ·rename_i n e hu;simp[bk,aN,hs,hu,ap]at hid
   ·cases h
  ·cases h
 case lookup ty x k ok =>
  split at h
  ·rename_i sm kk kt et hm hk hu
   split at h
   ·injection h with h;subst h;have hid:id∈ae (sm.run t):=by cases ok<;>simpa [bk,aN,hm,ac] using hid
    dsimp only[cJ];rw[aa]
    split
    ·rcases one hid with⟨a,b,c,d,e,h1⟩|⟨a,b,c,d,e',e,h1⟩|⟨a,e,h1⟩<;>rw[e]<;>simp[h1]
    ·rfl
   ·cases h
  ·cases h
 case mapUpdate ty m k x =>
  split at h
  ·rename_i sm sk sx kt et hm hk hx hu;injection h with h;subst h;simp only[bk,aN,hm,ac,TP,Su]at hid;dsimp only[cW];rw[aa]
   split
   ·rcases one hid with⟨a,b,c,d,e,h1⟩|⟨a,b,c,d,e',e,h1⟩|⟨a,e,h1⟩<;>rw[e]<;>simp[h1]
   ·rfl
  ·cases h
 case insert ty m k x =>
  split at h
  ·rename_i sm sk sx kt et hm hk hx hu;injection h with h;subst h;simp only[bk,aN,hm,ac,TP,Su]at hid;dsimp only[cW];rw[aa]
   split
   ·rcases one hid with⟨a,b,c,d,e,h1⟩|⟨a,b,c,d,e',e,h1⟩|⟨a,e,h1⟩<;>rw[e]<;>simp[h1]
   ·rfl
  ·cases h
 case mapEntry ty m k =>
  split at h
  ·rename_i sm sk kt et hm hk hu
   split at h
   ·injection h with h;subst h;simp only[bk,aN,hm,TP,Su]at hid;dsimp only[gQ];rw[aa]
    split
    ·rcases one hid with⟨a,b,c,d,e,h1⟩|⟨a,b,c,d,e',e,h1⟩|⟨a,e,h1⟩<;>rw[e]<;>simp[h1]
    ·rfl
   ·cases h
  ·cases h
 case entryStore ty m st x =>
  split at h
  ·rename_i sm ss sx hm hs hx;injection h with h;subst h;simp only[bk,aN,hm,ac,TP,Su]at hid;dsimp only[jb];rcases one hid with⟨a,b,c,d,e,h1⟩|⟨a,b,c,d,e',e,h1⟩|⟨a,e,h1⟩<;>rw[e]<;>simp[h1]
  ·cases h
 case slice ty x lo hi mx =>
  have key:∀{sz:Nat} {y:AV} {l h' m:Option AV},id∈ae y->nM sz y l h' m g.h=none:=by intro sz y l h' m hy;rcases one hy with⟨a,b,c,d,e,h1⟩|⟨a,b,c,d,e',e,h1⟩|⟨a,e,h1⟩<;>rw[e]<;>simp[nM,h1]
  cases mx with
  | none =>
   dsimp only at h
   split at h
   ·rename_i e sx sl sh hu hx hl hh
    split at h
    ·injection h with h;subst h;simp only[bk,aN,hx,ac,TP,Su]at hid;dsimp only;rw[key hid];rfl
    ·cases h
   ·rename_i n e sx sl sh hu hx hl hh
    split at h
    ·injection h with h;subst h;simp only[bk,aN,hx,ac,TP,Su]at hid;dsimp only[jr]
     split
     ·rfl
     ·split
      ·rfl
      ·rcases one hid with⟨a,b,c,d,e,h1⟩|⟨a,b,c,d,e',e,h1⟩|⟨a,e,h1⟩<;>rw[e]<;>simp[h1]
    ·cases h
   ·cases h
  | some mx =>
   cases hi with
   |none=>cases h
   | some hi =>
    dsimp only at h
    split at h
    ·rename_i e sx sl sh sm he hx hl hh hm
     split at h
     ·injection h with h;subst h;simp only[bk,aN,hx,ac,TP,Su]at hid;dsimp only;rw[key hid];rfl
     ·cases h
    ·cases h
 all_goals simp[bk,aN,ap]at hid
structure CfgOk (C:Cfg):Prop where
 mixed:C.P.follows .mixedOrders=true
 recov:C.P.follows .rangeFuncRecover=true
 mon:oH C
 noDfr:∀f e,C.ext f=some e->∀d args g y,e d args g≠.dfr y
 ext:∀f e,C.ext f=some e->∀A bd w γ hg nx g as vs,Rel C A bd w γ hg nx->WF g->(∀id∈as.flatMap (aC g.h aE),g.h.get id≠.none->hg id=g.h.get id)->Free γ g (gOf g (e (bd+1) as g)) ->
  RVs w γ A bd as vs->e (bd+1) as g≠.fail->∀cs,
  ∃u w' γ' hg',Fin C A bd w γ hg nx g w' γ' hg' (gOf g (e (bd+1) as g))/\RV w' γ' A bd (vOf (e (bd+1) as g)) u /\
   ((callFunc f vs.toArray).run C.P w=.ok (.value u) w'\/(Enters C.P f/\Outs C.P .normal f vs.toArray cs w u w'))
def DR(w:World)(γ:Gm)(A:Nat->Nat->Prop)(bd:Nat):List ADf->List Deferred->Prop
 |[],[]=>True
 |.mark id::ds,d::es=>((γ id).kind=4/\d={ target:=.collected (γ id).blk,args:=#[] })/\DR w γ A bd ds es
 |.call fv args::ds,d::es=>(∃f ys us,fv=.clo f [] ys/\d.target=.fn (.func f) us/\RVs w γ A bd ys us.toList/\RVs w γ A bd args d.args.toList)/\DR w γ A bd ds es
 |_,_=>False
theorem DR.step{ds:List ADf}:∀{es:List Deferred},DR w γ A bd ds es->Stp w γ w' γ'->DR w' γ' A bd ds es:=by
 induction ds with
 |nil=>intro es h _;cases es<;>simpa [DR] using h
 | cons d ds ih =>
  intro es h s;cases es with
  |nil=>cases d<;>simp[DR]at h
  | cons e es =>
   cases d with
   | mark id =>
    obtain⟨⟨h1,h2⟩,h3⟩:=h;have hk:(γ id).kind≠0:=by rw[h1];decide
    exact⟨⟨by rw[s.kind_eq hk,h1],by rw[h2,s.blk_eq hk (by rw[h1];decide)]⟩,ih h3 s⟩
   | call fv args =>
    obtain⟨⟨f,ys,us,h1,h2,h4,h5⟩,h3⟩:=h;exact⟨⟨f,ys,us,h1,h2,h4.step s,h5.step s⟩,ih h3 s⟩
theorem TR.step{nt:Nat}{tmps:Array Value}(h:TR w γ A bd nt t tmps)(s:Stp w γ w' γ'):TR w' γ' A bd nt t tmps :=
 ⟨h.1,λi=>(h.2 i).step s⟩
def RdOk(γ:Gm)(rd:Option Nat)(b:Frame):Prop :=
 match rd with
 |none=>b.roundOf=none
 |some id=>(γ id).kind=3/\b.roundOf=some (γ id).blk
theorem RdOk.step{rd:Option Nat}{b:Frame}(h:RdOk γ rd b)(s:Stp w γ w' γ'):RdOk γ' rd b:=by
 cases rd with
 |none=>exact h
 | some id =>
  obtain⟨h1,h2⟩:=h;have hk:(γ id).kind≠0:=by rw[h1];decide
  exact⟨by rw[s.kind_eq hk,h1],by rw[h2,s.blk_eq hk (by rw[h1];decide)]⟩
def Arr(P:Program)(m:Machine)(b:Frame)(k:List Item)(cs:List Frame):Ex->Act->World->Prop
 |.norm,a,w=>Steps P m (lone (b.atR a k) cs w)
 |.exit id,a,w=>∃k₁,exitTo id k₁=exitTo id k/\Steps P m (lone (b.atR a (.code (.exit id)::k₁)) cs w)
 |.ret,a,w=>∃k₁,Steps P m (lone (b.atR a (.code .ret::k₁)) cs w)
theorem Arr.of_steps{P:Program}{m m₁:Machine}{b:Frame}{k:List Item}{cs:List Frame}{e:Ex}{a:Act}(h:Steps P m m₁)(h':Arr P m₁ b k cs e a w):Arr P m b k cs e a w:=by
 cases e with
 |norm=>exact Steps.trans h h'
 |exit id=>obtain⟨k₁,h1,h2⟩:=h';exact⟨k₁,h1,Steps.trans h h2⟩
 |ret=>obtain⟨k₁,h2⟩:=h';exact⟨k₁,Steps.trans h h2⟩
def ym(C:Cfg)(bd nt:Nat)(rd:Option Nat)(c:Code)(t:T)(df:List ADf)(g:G)(e:Ex)(t':T)(df':List ADf)(g':G):Prop :=
 ∀A w γ hg nx b a k cs,Rel C A bd w γ hg nx->Ext g.h hg->WF g->Free γ g g'->TR w γ A bd nt t a.tmps->DR w γ A bd df a.defers->RdOk γ rd b->uW b.kind cs ->
  ∃a' w' γ' hg',Fin C A bd w γ hg nx g w' γ' hg' g'/\TR w' γ' A bd nt t' a'.tmps/\DR w' γ' A bd df' a'.defers /\
   Arr C.P (lone (b.atR a (.code c::k)) cs w) b k cs e a' w'
def PS(C:Cfg)(ih:IH):Prop :=
 ∀bd nt rd c t df g e t' df' g',ih.code nt (bd+1) rd c t df g=.ok e t' df' g'->ym C bd nt rd c t df g e t' df' g'
structure IHOk (C:Cfg) (ih:IH):Prop where
 mon:IHMon ih
 call:Kd C ih
 code:PS C ih
theorem RVs.append{xs ys:List AV}{vs us:List Value}(h1:RVs w γ A bd xs vs)(h2:RVs w γ A bd ys us):RVs w γ A bd (xs++ys) (vs++us):=by
 refine⟨by simp[h1.1,h2.1],λi x v hx hv=>?_⟩
 by_cases hi:i<xs.length
 ·rw[So hi]at hx;rw[So (by rw[<-h1.1];exact hi)]at hv;exact h1.2 i x v hx hv
 ·rw[Sj (by omega)]at hx;rw[Sj (by rw[<-h1.1];omega),<-h1.1]at hv;exact h2.2 _ x v hx hv
theorem R0{xs:List AV}{vs:Array Value}(hl:xs.length=vs.size)(h:∀(i:Nat) x v,xs[i]?=some x->vs[i]?=some v->RV w γ A bd x v) :
  RVs w γ A bd xs vs.toList:=⟨by simpa using hl,λi x v hx hv=>h i x v hx (by simpa using hv)⟩
section
variable {P:Program}{b:Frame}{a:Act}{ops:Array Oper}{i:Nat}{rest:List Nat}{k:List Item}{cs:List Frame}{o:Oper}
theorem Aw{v:Value}(ho:ops[i]?=some o)(hw:Region.wanted o (yielded ops a.tmps)=true)(hd:∀c,o.op≠.defer c)
  (hrun:(execOp a.eval o).run P w=.ok (.value v) w') :
  step P (lone (b.atR a (.inRegion ops (i::rest)::k)) cs w)=.next (lone (b.atR (a.put o.dst v) (.inRegion ops rest::k)) cs w'):=by
 have hfin:=Frame.finish_atR b a ops i rest k v;rw[ho]at hfin;simp only[Um]at hfin;refine step_lone_go ?_;rw[stepGR_op ho hw,Oper.semAt_eq _ _ _ hd,<-hfin];simp[stepG.apply,hrun]
theorem J1(ho:ops[i]?=some o)(hw:Region.wanted o (yielded ops a.tmps)=true)(hd:∀c,o.op≠.defer c)
  (hrun:(execOp a.eval o).run P w=.ok .skip w') :
  step P (lone (b.atR a (.inRegion ops (i::rest)::k)) cs w)=.next (lone (b.atR (a.put o.dst undef) (.inRegion ops rest::k)) cs w'):=by
 have hfin:=Frame.finish_atR b a ops i rest k undef;rw[ho]at hfin;simp only[Um]at hfin;refine step_lone_go ?_;rw[stepGR_op ho hw,Oper.semAt_eq _ _ _ hd,<-hfin];simp[stepG.apply,hrun]
theorem uQ{v:Value}(ho:ops[i]?=some o)(hw:Region.wanted o (yielded ops a.tmps)=true)(hd:∀c,o.op≠.defer c)
  (hrun:C8 P o a.eval w v w') :
  Steps P (lone (b.atR a (.inRegion ops (i::rest)::k)) cs w) (lone (b.atR (a.put o.dst v) (.inRegion ops rest::k)) cs w'):=by
 rcases hrun with h|⟨h,rfl⟩
 ·exact .one (Aw ho hw hd h)
 ·exact .one (J1 ho hw hd h)
theorem GN{f:FuncId}{args:Array Value}(ho:ops[i]?=some o)(hw:Region.wanted o (yielded ops a.tmps)=true)(hd:∀c,o.op≠.defer c)
  (hrun:(execOp a.eval o).run P w=.ok (.enter f args) w') :
  step P (lone (b.atR a (.inRegion ops (i::rest)::k)) cs w)=.next (lone (Frame.enter P f args .normal) (b.atR a (.inRegion ops (i::rest)::k)::cs) w'):=by
 refine step_lone_go ?_;rw[stepGR_op ho hw,Oper.semAt_eq _ _ _ hd];simp[stepG.apply,hrun,Frame.atR]
theorem GO{l:Nat}{f:FuncId}{tmps:Array Value}{assign body:Code}(ho:ops[i]?=some o)(hw:Region.wanted o (yielded ops a.tmps)=true)(hd:∀c,o.op≠.defer c)
  (hrun:(execOp a.eval o).run P w=.ok (.round l f tmps assign body) w') :
  step P (lone (b.atR a (.inRegion ops (i::rest)::k)) cs w)=.next (lone (Frame.round l f tmps assign body .normal) (b.atR a (.inRegion ops (i::rest)::k)::cs) w'):=by
 refine step_lone_go ?_;rw[stepGR_op ho hw,Oper.semAt_eq _ _ _ hd];simp[stepG.apply,hrun,Frame.atR]
theorem uR{f:FuncId}{args:Array Value}{u:Value}{w₁:World}(ho:ops[i]?=some o)(hw:Region.wanted o (yielded ops a.tmps)=true)(hd:∀c,o.op≠.defer c)
  (hrun:(execOp a.eval o).run P w=.ok (.enter f args) w)
  (hout:Outs P .normal f args (b.atR a (.inRegion ops (i::rest)::k)::cs) w u w₁) :
  Steps P (lone (b.atR a (.inRegion ops (i::rest)::k)) cs w) (lone (b.atR (a.put o.dst u) (.inRegion ops rest::k)) cs w₁):=by
 obtain⟨fr,hs,h1,h2,h3,h4,fn,h5,h6⟩:=hout;have hfin:=Frame.finish_atR b a ops i rest k u;rw[ho]at hfin;simp only[Um]at hfin;refine .head (GN ho hw hd hrun) (Steps.trans hs (.one ?_));rw[<-hfin];exact step_leave_returned ⟨h1,h2,h3,fn,by rw[h4];exact h5,h6⟩
theorem CX(ho:ops[i]?=some o)(hw:Region.wanted o (yielded ops a.tmps)=true)(hd:∀c,o.op≠.defer c)
  (hrec:P.follows .rangeFuncRecover=true) (hcalm:uW b.kind cs)
  (hrun:(execOp a.eval o).run P w=.ok .recover w) :
  step P (lone (b.atR a (.inRegion ops (i::rest)::k)) cs w)=.next (lone (b.atR (a.put o.dst .nilIface) (.inRegion ops rest::k)) cs w):=by
 have hfin:=Frame.finish_atR b a ops i rest k .nilIface;rw[ho]at hfin;simp only[Um]at hfin;have htry:tryRecover (b.atR a (.inRegion ops (i::rest)::k)) cs=none:=by
  unfold tryRecover;rcases hcalm with h|⟨h,c,cs',rfl,hm|⟨_,_,_,hm⟩⟩
  ·simp[Frame.atR,h]
  ·simp[Frame.atR,h,hm]
  ·simp[Frame.atR,h,hm]
 refine step_lone_go ?_;rw[stepGR_op ho hw,Oper.semAt_eq _ _ _ hd,<-hfin];simp only[stepG.apply,Sem.runT_eq,hrun,hrec,if_true,htry];cases hro:(b.atR a (.inRegion ops (i::rest)::k)).roundOf<;>simp[GStep.bare_after]
end
theorem lH{P:Program}{l:Nat}{L:Loop}(h:w.heap[l]?=some (.loop L)):(Instr.getLoop l).run P w=.ok L w:=by
 unfold Instr.getLoop;simp only[Sn,gz h (by simp),Sc]
 rfl
theorem tp{P:Program}{l:Nat}{L:Loop}{o:Obj}(h:w.heap[l]?=some (.loop L)):(setObj l o).run P w=.ok () (World.setBlk w l o) :=
 iZ h (by simp)
theorem Rel.setLoop(hr:Rel C A bd w γ hg nx){id nt dfr:Nat}{t:T}{ps:List Nat}{assign body:Code}{st st':LoopState}{pend pend':Option Code}{L:Loop}
  (hid:hg id=.loop nt t ps assign body dfr st pend) (hL:w.heap[(γ id).blk]?=some (.loop L)) :
  Rel C A bd (World.setBlk w (γ id).blk (.loop { L with state:=st',pending:=pend' })) γ (upd hg id (.loop nt t ps assign body dfr st' pend')) nx /\
   Stp w γ (World.setBlk w (γ id).blk (.loop { L with state:=st',pending:=pend' })) γ:=by
 have hob:=hr.obj id;rw[hid]at hob;obtain⟨h1,h2,L',h3,h4,h5,h6,h7,h8,h9,h10,h11,h12⟩:=hob;rw[hL]at h3;injection h3 with h3;injection h3 with h3;subst h3;have hk:(γ id).kind≠0:=by rw[h1];decide
 have s:=tQ (w:=w) (o:=.loop { L with state:=st',pending:=pend' }) hk h2;refine hr.setBlk hk h2 ⟨h1,h2,{ L with state:=st',pending:=pend' },?_,rfl,rfl,h6,h7,h8,h9,λi=>(h10 i).step s,h11,h12⟩;rw[aZ];simp[(hr.lt id hk).2]
theorem RU{g:G}{id:Nat}{o:AObj}(hr:Rel C A bd w' γ' (upd hg id o) nx)(s:Stp w γ w' γ') :
  Fin C A bd w γ hg nx g w' γ' (upd hg id o) (g.put id o):=by
 refine⟨hr.up (TJ _ _),s,⟨[id],by simp,λj hj=>?_,λj hj=>?_⟩⟩
 ·simp at hj;subst hj;simp[RW]
 ·exact cE _ _ (by simpa using hj)
theorem RT{g:G}{o:AObj}(hr:Rel C A bd w' γ' (upd hg g.nx o) (Nat.max nx (g.nx+1)))(s:Stp w γ w' γ') :
  Fin C A bd w γ hg nx g w' γ' (upd hg g.nx o) (g.new o):=by
 refine⟨by simpa using hr,s,⟨[g.nx],by simp,λj hj=>?_,λj hj=>?_⟩⟩
 ·simp at hj;subst hj;simp[RW]
 ·exact cE _ _ (by simpa using hj)
end
end Hx
end
section
namespace Hx
open Go
section
variable {C:Cfg}{A:Nat->Nat->Prop}{bd:Nat}{w w':World}{γ γ':Gm}{hg:Nat->AObj}{nx:Nat}
variable {t:T}{g:G}{ih:IH}
def Agr(lk:Looks)(g:G)(hg:Nat->AObj):Prop :=
 if lk.big then Ext g.h hg else ∀id∈lk.rd++lk.sr.map (·.1),g.h.get id≠.none->hg id=g.h.get id
theorem Ext.agr{lk:Looks}(h:Ext g.h hg):Agr lk g hg:=by
 unfold Agr
 split
 ·exact h
 ·exact λid _ hne=>h id hne
theorem AZ{nt:Nat}:∀{ps:List Nat} {xs:List AV} {us:List Value} {t t':T} {tmps:Array Value},cP t nt ps xs=some t'->TR w γ A bd nt t tmps->RVs w γ A bd xs us ->
  ps.length=us.length/\TR w γ A bd nt t' ((ps.zip us).foldl (λtmps (t,a)=>tmps.setIfInBounds t a) tmps):=by
 intro ps
 induction ps with
 | nil =>
  intro xs us t t' tmps h ht hv;cases xs with
  | nil =>
   simp only[cP]at h;injection h with h;subst h;have:us=[]:=UB.1 hv.1.symm;subst this;exact⟨rfl,ht⟩
  |cons x xs=>simp[cP]at h
 | cons p ps ih =>
  intro xs us t t' tmps h ht hv;cases xs with
  |nil=>simp[cP]at h
  | cons x xs =>
   cases us with
   |nil=>have:=hv.1;simp at this
   | cons u us =>
    simp only[cP,aa]at h
    split at h
    ·rename_i hp;rw[Tg]at hp;have h0:RV w γ A bd x u:=hv.2 0 x u rfl rfl;have hrest:RVs w γ A bd xs us:=⟨by have:=hv.1;simpa using this,λi x' u' hx hu=>hv.2 (i+1) x' u' (by simpa using hx) (by simpa using hu)⟩;have ht':TR w γ A bd nt ((sp AV.undef p).run t x) (tmps.setIfInBounds p u):=by
      refine⟨by simp[ht.1],λi=>?_⟩;rw[sp_get]
      by_cases hi:i=p
      ·subst hi;rw[Sb rfl];have:i<tmps.size:=by rw[ht.1];exact hp
       simpa [Array.getD,this] using h0
      ·rw[Sa hi];have:=ht.2 i;simp only[S4]at this ⊢;rw[T3 (To hi)];exact this
     obtain⟨a1,a2⟩:=ih h ht' hrest;exact⟨by simp[a1],by simpa using a2⟩
    ·cases h
theorem JP(hi:IHOk C ih)(hr:Rel C A bd w γ hg nx)(hx:Ext g.h hg)(hwf:WF g){id:Nat}{args:List AV}{vs:List Value}
  (hk:(γ id).kind=3) (hv:RVs w γ A bd args vs) {r:OR} (h:cp ih (bd+1) id args g=r) (hne:r≠.fail) (hf:Free γ g (gOf g r)) (c:Frame) (cs:List Frame) :
  ∃f tmps assign body,(Instr.yield (γ id).blk vs.toArray).run C.P w=.ok (.round (γ id).blk f tmps assign body) w /\
   ∃u w' γ' hg',Fin C A bd w γ hg nx g w' γ' hg' (gOf g r)/\RV w' γ' A bd (vOf r) u /\
    Steps C.P (lone (Frame.round (γ id).blk f tmps assign body .normal) (c::cs) w) (lone (c.finish u) cs w'):=by
 unfold cp at h
 split at h
 rotate_left
 ·exact absurd h.symm hne
 rename_i nt t0 ps assign bodyX dfr0 st0 pend0 hget;have hget:g.h.get id=.loop nt t0 ps assign bodyX dfr0 st0 pend0:=by simpa using hget
 have hid:hg id=.loop nt t0 ps assign bodyX dfr0 st0 pend0:=by rw[hx id (by rw[hget];simp),hget]
 have hob:=hr.obj id;rw[hid]at hob;obtain⟨k1,k2,L,k3,k4,k5,k6,k7,k8,k9,k10,k11,k12⟩:=hob
 split at h
 ·exact absurd h.symm hne
 rename_i t' hset;have ht0:TR w γ A bd nt t0 L.tmps:=⟨k9,k10⟩;obtain⟨hlen,ht'⟩:=AZ hset ht0 hv
 split at h
 rotate_left
 ·exact absurd h.symm hne
 rename_i t1 g1 h1
 split at h
 rotate_left
 ·exact absurd h.symm hne
 rename_i nt1 t2 ps2 assign2 body1 dfr pend hget1;have hget1:g1.h.get id=.loop nt1 t2 ps2 assign2 body1 dfr .ready pend:=by simpa using hget1
 split at h
 rotate_left
 ·exact absurd h.symm hne
 rename_i e t3 g2 h2
 split at h
 rotate_left
 ·exact absurd h.symm hne
 rename_i nt3 t4 ps4 assign4 body4 dfr4 st4 pend4 hget2;have hget2:g2.h.get id=.loop nt3 t4 ps4 assign4 body4 dfr4 st4 pend4:=by simpa using hget2
 have m1:=hi.mon.code _ _ _ _ _ _ _ _ _ _ _ h1 hwf;have w1:WF g1:=m1.wf hwf;have m2:Mon g1 (g1.put id (.loop nt1 t2 ps2 assign2 body1 dfr .busy pend)):=Mon.put w1 (by rw[hget1];simp);have w2:=m2.wf w1;have m3:=hi.mon.code _ _ _ _ _ _ _ _ _ _ _ h2 w2;have w3:=m3.wf w2;have m4:∀o,Mon g2 (g2.put id o):=λo=>Mon.put w3 (by rw[hget2];simp);have hnx:(gOf g r).nx=g2.nx:=by subst h;cases e<;>simp[gOf]
 have hfree2:Free γ g g2:=λi a b=>hf i a (by rw[hnx];exact b)
 let bR:Frame:={ (default:Frame) with fn:=L.fn,kind:=.normal,roundOf:=some (γ id).blk }
 let tmps:=(L.params.zip vs.toArray).foldl (λtmps (t,a)=>tmps.setIfInBounds t a) L.tmps
 have htm:tmps=(ps.zip vs).foldl (λtmps (t,a)=>tmps.setIfInBounds t a) L.tmps:=by simp only[tmps,<-Array.foldl_toList,Array.toList_zip,k6]
 have hyield:(Instr.yield (γ id).blk vs.toArray).run C.P w=.ok (.round (γ id).blk L.fn tmps assign bodyX) w:=by
  unfold Instr.yield;have hs:vs.toArray.size=L.params.size:=by rw[<-k6]at hlen;simpa using hlen.symm
  simp only[Sn,lH k3,Sc,hs,ne_eq,not_true_eq_false,if_false,k7,k8]
  rfl
 have hframe:Frame.round (γ id).blk L.fn tmps assign bodyX .normal=bR.atR { tmps:=tmps,defers:=[] } [.code assign,.beginRound,.code bodyX]:=by simp[Frame.round,Frame.atR,bR]
 obtain⟨a1,wa,γa,hga,f1,tr1,dr1,ar1⟩:=hi.code _ _ _ _ _ _ _ _ _ _ _ h1 A w γ hg nx bR { tmps:=tmps,defers:=[] } [.beginRound,.code bodyX] (c::cs) hr hx hwf
  (hfree2.le (Sz m2.nx m3.nx)) (by rw[htm];exact ht') trivial ⟨hk,rfl⟩ (.inl rfl)
 have hxa:Ext g1.h hga:=f1.ext m1 hx;have hida:hga id=.loop nt1 t2 ps2 assign2 body1 dfr .ready pend:=by rw[hxa id (by rw[hget1];simp),hget1]
 have hka:(γ id).kind≠0:=by rw[hk];decide
 have hblka:(γa id).blk=(γ id).blk:=f1.stp.blk_eq hka (by rw[hk];decide);have hobA:=f1.rel.obj id;rw[hida]at hobA;obtain⟨ka1,ka2,La,ka3,ka4,ka5,ka6,ka7,ka8,ka9,ka10,ka11,ka12⟩:=hobA;have hsetA:=f1.rel.setLoop (st':=.busy) (pend':=pend) hida ka3;rw[hblka]at ka3 hsetA;have hbegin:(Instr.beginRound (γ id).blk).run C.P wa=.ok () (World.setBlk wa (γ id).blk (.loop { La with state:=.busy,pending:=pend })):=by unfold Instr.beginRound;simp only[Sn,lH ka3,Sc,tp ka3,ka4,SV,<-ka5]
 have f2:Fin C A bd wa γa hga (Nat.max nx g1.nx) g1 _ γa _ (g1.put id (.loop nt1 t2 ps2 assign2 body1 dfr .busy pend)):=RU hsetA.1 hsetA.2;have f12:=f1.trans f2 m1 m2;obtain⟨a2,wb,γb,hgb,f3,tr3,dr3,ar3⟩:=hi.code _ _ _ _ _ _ _ _ _ _ _ h2 A _ γa _ (Nat.max nx (g1.put id (.loop nt1 t2 ps2 assign2 body1 dfr .busy pend)).nx) bR a1 [] (c::cs) f12.rel (f12.ext (m1.trans m2) hx) w2
  (f12.freed hr (m1.trans m2) hfree2) (tr1.step hsetA.2) (by
   have:=dr1.step hsetA.2;exact this) ⟨by rw[f1.stp.kind_eq hka];exact hk,by simp[bR,hblka]⟩ (.inl rfl)
 have f123:=f12.trans f3 (m1.trans m2) m3;have hxb:Ext g2.h hgb:=f123.ext ((m1.trans m2).trans m3) hx;have hidb:hgb id=.loop nt3 t4 ps4 assign4 body4 dfr4 st4 pend4:=by rw[hxb id (by rw[hget2];simp),hget2]
 have hblkb:(γb id).blk=(γ id).blk:=f123.stp.blk_eq hka (by rw[hk];decide);have hobB:=f123.rel.obj id;rw[hidb]at hobB;obtain⟨kb1,kb2,Lb,kb3,kb4,kb5,kb6,kb7,kb8,kb9,kb10,kb11,kb12⟩:=hobB;have hsetB:=λst' pend'=>f123.rel.setLoop (st':=st') (pend':=pend') hidb kb3;rw[hblkb]at kb3 hsetB;have hend:∀jump,(Instr.endRound (γ id).blk jump).run C.P wb=.ok (.bool jump.isNone) (World.setBlk wb (γ id).blk (.loop { Lb with state:=if jump.isNone then .ready else .done,pending:=jump })):=by intro jump;unfold Instr.endRound;simp only[Sn,lH kb3,Sc,tp kb3,SV]
 refine⟨L.fn,tmps,assign,bodyX,hyield,?_⟩;rw[hframe];have sbegin:Steps C.P (lone (bR.atR { tmps:=tmps,defers:=[] } [.code assign,.beginRound,.code bodyX]) (c::cs) w) (lone (bR.atR a1 [.code bodyX]) (c::cs) (World.setBlk wa (γ id).blk (.loop { La with state:=.busy,pending:=pend }))) :=
  Steps.trans ar1 (.one (stepR_beginRound rfl hbegin))
 have fin:∀(jump:Option Code) (st':LoopState),st'=(if jump.isNone then .ready else .done) ->
   Fin C A bd w γ hg nx g (World.setBlk wb (γ id).blk (.loop { Lb with state:=st',pending:=jump })) γb (upd hgb id (.loop nt3 t4 ps4 assign4 body4 dfr4 st' jump)) (g2.put id (.loop nt3 t4 ps4 assign4 body4 dfr4 st' jump)):=by
  intro jump st' _;exact f123.trans (RU (hsetB st' jump).1 (hsetB st' jump).2) ((m1.trans m2).trans m3) (m4 _)
 subst h;cases e with
 |norm=>exact⟨.bool true,_,γb,_,fin none .ready rfl,.bool _ _,Steps.trans sbegin (Steps.trans ar3 (.one (stepR_round_end rfl rfl (hend none))))⟩
 | exit j =>
  obtain⟨k₁,hk₁,har⟩:=ar3;exact⟨.bool false,_,γb,_,fin (some (.exit j)) .done rfl,.bool _ _,Steps.trans sbegin (Steps.trans har (.one (stepR_round_exit rfl rfl (by rw[hk₁];rfl) (hend (some (.exit j))))))⟩
 | ret =>
  obtain⟨k₁,har⟩:=ar3;exact⟨.bool false,_,γb,_,fin (some .ret) .done rfl,.bool _ _,Steps.trans sbegin (Steps.trans har (.one (stepR_round_ret rfl rfl (hend (some .ret)))))⟩
noncomputable def Pz(C:Cfg)(fv:AV)(as:List AV)(g:G):Looks :=
 match fv with
 |.clo f first cap=>aB ((C.ext f).isSome || C.iso f) (ac ((first++(as++cap)).flatMap (aC g.h aE))) da
 |_=>da
theorem Ny(h:Agr da g hg):Ext g.h hg:=h
section
variable {b:Frame}{a:Act}{ops:Array Oper}{i:Nat}{rest:List Nat}{k:List Item}{cs:List Frame}{o:Oper}
theorem Bb(hC:CfgOk C)(hi:IHOk C ih)(hr:Rel C A bd w γ hg nx)(hwf:WF g){fv:AV}{v:Value}{as:List AV}{vs:List Value}
  (hfv:RV w γ A bd fv v) (has:RVs w γ A bd as vs) (hag:Agr (Pz C fv as g) g hg)
  {r:OR} (h:fd C ih (bd+1) fv as g=r) (hne:r≠.fail) (hf:Free γ g (gOf g r))
  (ho:ops[i]?=some o) (hw:Region.wanted o (yielded ops a.tmps)=true) (hd:∀c,o.op≠.defer c)
  (hexec:(execOp a.eval o).run C.P w=(do let d <-Deferred.ofValue v vs.toArray;invoke d.target d.args:Sem Next).run C.P w) :
  ∃u w' γ' hg',Fin C A bd w γ hg nx g w' γ' hg' (gOf g r)/\RV w' γ' A bd (vOf r) u /\
   Steps C.P (lone (b.atR a (.inRegion ops (i::rest)::k)) cs w) (lone (b.atR (a.put o.dst u) (.inRegion ops rest::k)) cs w'):=by
 cases hfv with
 | clo _ f xs ys vs1 us1 hl hl2 h1 h2 =>
  have hall:RVs w γ A bd (xs++(as++ys)) (vs1.toList++(vs++us1.toList)):=(R0 hl h1).append (has.append (R0 hl2 h2));have harr:(vs1.toList++(vs++us1.toList)).toArray=(vs1++vs.toArray)++us1:=by apply VF;simp
  have henter:Enters C.P f->(execOp a.eval o).run C.P w=.ok (.enter f ((vs1++vs.toArray)++us1)) w:=by intro he;rw[hexec];simp only[Deferred.ofValue,invoke,Sn,SV,Sc];exact he _ _
  simp only[fd]at h;simp only[Pz]at hag;cases hext:C.ext f with
  | some e =>
   simp only[hext]at h hag;have hx:∀id∈(xs++(as++ys)).flatMap (aC g.h aE),g.h.get id≠.none->hg id=g.h.get id:=by simpa [Agr,ac] using hag
   have hs:=hC.ext f e hext;subst h;obtain⟨u,w',γ',hg',f1,rv,out⟩:=hs A bd w γ hg nx g _ _ hr hwf hx hf hall hne (b.atR a (.inRegion ops (i::rest)::k)::cs);rw[harr]at out;rcases out with out|⟨he,out⟩
   ·refine⟨u,w',γ',hg',f1,rv,.one (Aw ho hw hd ?_)⟩;rw[hexec];simp only[Deferred.ofValue,invoke,Sn,SV,Sc];exact out
   ·exact⟨u,w',γ',hg',f1,rv,uR ho hw hd (henter he) out⟩
  | none =>
   simp only[hext]at h hag;cases hiso:C.iso f with
   | true =>
    simp only[hiso]at h hag;have hx:∀id∈(xs++(as++ys)).flatMap (aC g.h aE),g.h.get id≠.none->hg id=g.h.get id:=by simpa [Agr,ac] using hag
    subst h;obtain⟨he,u,w',γ',hg',f1,rv,out⟩:=xH hi.call hi.mon.call hr hx hall hne (b.atR a (.inRegion ops (i::rest)::k)::cs);rw[harr]at out;exact⟨u,w',γ',hg',f1,rv,uR ho hw hd (henter he) out⟩
   | false =>
    simp only[hiso]at h hag;have hx:Ext g.h hg:=hag;cases hcall:ih.call (bd+1) f (xs++(as++ys)) g with
    | fail =>
     rw[hcall]at h;exact absurd h.symm hne
    | ok rv0 g1 =>
     rw[hcall]at h;have h:OR.upd rv0 g1=r:=h;subst h;obtain⟨he,hs⟩:=hi.call _ _ _ _ _ _ hcall;obtain⟨u,w',γ',hg',f1,rv,out⟩:=hs A w γ hg nx _ hr hx hwf hf hall .normal (b.atR a (.inRegion ops (i::rest)::k)::cs) (.inl rfl);rw[harr]at out;exact⟨u,w',γ',hg',f1,rv,uR ho hw hd (henter he) out⟩
 | yld _ id bl hk hb =>
  subst hb;simp only[fd]at h;have hx:Ext g.h hg:=Ny hag;obtain⟨f,tmps,assign,body,hy,u,w',γ',hg',f1,rv,st⟩:=JP hi hr hx hwf hk has h hne hf (b.atR a (.inRegion ops (i::rest)::k)) cs;have hfin:=Frame.finish_atR b a ops i rest k u;rw[ho]at hfin;simp only[Um]at hfin;rw[hfin]at st;refine⟨u,w',γ',hg',f1,rv,.head (GO ho hw hd ?_) st⟩;rw[hexec];simp only[Deferred.ofValue,invoke,Sn,SV,Sc];simpa using hy
 |_=>exact absurd h.symm hne
theorem Gn(hC:CfgOk C)(hi:IHOk C ih)(hr:Rel C A bd w γ hg nx)(hwf:WF g){nt:Nat}{rd:Option Nat}(ht:TR w γ A bd nt t a.tmps)(hcalm:uW b.kind cs)
  (hag:Agr ((aN C o.op).run t g) g hg) {r:OR} (h:(dj C o.op).run ih (bd+1) rd t g=r) (hne:r≠.fail) (hnd:∀x,r≠.dfr x) (hf:Free γ g (gOf g r))
  (ho:ops[i]?=some o) (hw:Region.wanted o (yielded ops a.tmps)=true) :
  ∃u w' γ' hg',Fin C A bd w γ hg nx g w' γ' hg' (gOf g r)/\RV w' γ' A bd (vOf r) u /\
   Steps C.P (lone (b.atR a (.inRegion ops (i::rest)::k)) cs w) (lone (b.atR (a.put o.dst u) (.inRegion ops rest::k)) cs w'):=by
 have hm:Mon g (gOf g r):=by rw[<-h];exact mM hC.mon hi.mon hwf
 unfold dj at h
 split at h
 rotate_left
 ·exact absurd h.symm hne
 rename_i f hcop;generalize hop:o.op=op at hcop hag;have hargs:∀(args:Array Operand),(args.toList.map a.eval).toArray=args.map a.eval:=λargs=>by apply VF;simp
 unfold cOp at hcop
 split at hcop
 ·
  rename_i fx args at2;have hd:∀c,o.op≠.defer c:=by rw[hop];intro c h;cases h
  split at hcop
  ·rename_i vs hvs;simp only[aN,aT,hvs]at hag;refine Bb (fv:=.clo fx [] []) (v:=.func (.func fx) #[] #[]) (as:=vs.run t) hC hi hr hwf (.clo _ fx [] [] #[] #[] rfl rfl (λi x v h=>by simp at h) (λi x v h=>by simp at h)) (jU ht hr hvs) hag ?_ hne hf ho hw hd ?_
   ·rw[<-h];simp only[fd,Sf,Su]
    split at hcop
    ·rename_i e he;injection hcop with hcop;subst hcop;rfl
    ·rename_i he;rw[aa]at hcop
     split at hcop
     ·rename_i hiso;injection hcop with hcop;subst hcop;simp only[hiso]
     ·rename_i hiso;injection hcop with hcop;subst hcop;have:C.iso fx=false:=by simpa using hiso
      simp only[this]
   ·simp only[execOp,hop,resolve,hargs,Act.eval]
  ·cases hcop
 ·
  rename_i fo args at2 hnf;have hd:∀c,o.op≠.defer c:=by rw[hop];intro c h;cases h
  split at hcop
  ·rename_i fv vs hfv hvs;injection hcop with hcop;subst hcop;simp only[aN,hfv,hvs]at hag;refine Bb (fv:=fv.run t) (v:=a.eval fo) (as:=vs.run t) hC hi hr hwf (aD hfv ht hr) (jU ht hr hvs) hag h hne hf ho hw hd ?_;simp only[execOp,hop,resolve,hargs]
  ·cases hcop
 ·
  have hd:∀c,o.op≠.defer c:=by rw[hop];intro c h;cases h
  injection hcop with hcop;subst hcop;subst h;refine⟨.nilIface,w,γ,hg,Fin.refl hr,.nili _,.one (CX ho hw hd hC.recov hcalm ?_)⟩;simp only[execOp,hop,resolve,invoke,Sn,SV,Sc]
  rfl
 ·
  split at hcop
  ·injection hcop with hcop;subst hcop;exfalso;dsimp only at h
   split at h
   ·exact hne h.symm
   ·split at h
    ·exact hnd _ h.symm
    ·exact hne h.symm
  ·cases hcop
 ·
  split at hcop
  ·rename_i s hs;injection hcop with hcop;subst hcop;have hd:∀c,o.op≠.defer c:=by rw[hop];rintro c rfl;simp[cm]at hs
   have hlook:∀id∈bk C op t g,hg id=g.h.get id:=by
    intro id hid;have hn:g.h.get id≠.none:=λhn=>hne (by rw[<-h];exact Fc hs hid hn);unfold Agr at hag
    split at hag
    ·exact hag id hn
    ·exact hag id hid hn
   have hsim:=O5 hs hop ht hr (hf g.nx (R5 _) hm.nx) hlook;have h:s.run t g=r:=h;rw[h]at hsim;cases r with
   |fail=>exact absurd rfl hne
   | val x =>
    obtain⟨v,h1,h2⟩:=hsim;exact⟨v,w,γ,hg,Fin.refl hr,h2,uQ ho hw hd h1⟩
   | upd x g' =>
    obtain⟨v,w',γ',id,ob,h1,h2,h3,h4⟩:=hsim;rcases h4 with⟨rfl,h4⟩|⟨rfl,rfl,h4⟩
    ·exact⟨v,w',γ',_,RU h4 h3,h2,uQ ho hw hd h1⟩
    ·exact⟨v,w',γ',_,RT h4 h3,h2,uQ ho hw hd h1⟩
   |dfr x=>exact absurd rfl (hnd x)
  ·cases hcop
end
end
end Hx
end
