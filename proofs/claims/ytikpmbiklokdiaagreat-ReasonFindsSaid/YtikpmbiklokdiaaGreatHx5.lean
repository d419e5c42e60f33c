/- A part of the proof. -/
import Derived.Test.YtikpmbiklokdiaaGreatHx4
set_option linter.all false
set_option maxRecDepth 20000
set_option maxHeartbeats 8000000
namespace Hx
open Go
noncomputable section
variable {g:G}{t:T}{df:List ZU}{f d nt n:Nat}{v:AV}{xs:List AV}{op:Op}{dst:Option Nat}{b:SC}
def zD(a b:PR):Prop:=a=.fail\/a=b
def Rn(a b:PF):Prop:=a=.fail\/a=b
structure RR (a b:PH):Prop where
 code:∀nt d c t df g,zD (a.code nt d c t df g) (b.code nt d c t df g)
 call:∀d f xs g,Rn (a.call d f xs g) (b.call d f xs g)
section
variable {C:ZO}{ih:IH}{p q:PH}
theorem Re{out:T->AV->T}{n m:T->List ZU->G->PR}{a b:PF}(h:Rn a b)(hn:∀t df g,zD (n t df g) (m t df g)):zD (GL out n t df a) (GL out m t df b):=by
 rcases h with rfl|rfl
 ·exact .inl rfl
 ·cases a with
  |fail=>exact .inl rfl
  |ok v g=>exact hn _ _ _
  |XJ v g=>exact .inr rfl
theorem II{out:T->AV->T}{n m:T->List ZU->G->PR}{r:OR}(hn:∀t df g,zD (n t df g) (m t df g)):zD (sK out n t df g r) (sK out m t df g r):=by
 cases r with
 |fail=>exact .inl rfl
 |val v=>exact hn _ _ _
 |upd v g'=>exact hn _ _ _
 |ZP a=>exact hn _ _ _
theorem RF(h:RR p q){fv:AV}{vs:List AV}:(sS C p d fv vs g=none/\sS C q d fv vs g=none)\/∃a b,sS C p d fv vs g=some a/\sS C q d fv vs g=some b/\Rn a b:=by
 unfold sS
 split
 ·rw[aa,aa]
  split
  all_goals simp_all[RR.call]
 grind
theorem OX(h:RR p q){out:T->AV->T}{n m:T->List ZU->G->PR}(hn:∀t df g,zD (n t df g) (m t df g)) :
  zD ((xZ C op out).run n ih p d t df g) ((xZ C op out).run m ih q d t df g):=by
 unfold xZ
 split
 ·split
  ·exact .inr rfl
  ·exact .inl rfl
 ·split
  ·dsimp only
   split
   ·rename_i ty v _;cases e:Nat.beq ty _ with
    |true=>grind
    |false=>exact .inl rfl
   ·exact .inl rfl
  ·exact .inl rfl
 ·split
  ·dsimp only;rename_i fv vs _ _;rcases RF (C:=C) h (d:=d) (fv:=fv.run t) (vs:=vs.run t) (g:=g) with⟨h1,h2⟩|⟨a,b,h1,h2,k⟩
   all_goals grind[II,Re]
  ·exact .inl rfl
 grind[II]
theorem OZ(h:RR p q){all:List Oper}:∀(l:List Oper) (d:Nat) (t:T) (df:List ZU) (g:G),zD ((qr C nt all l).run ih p d t df g) ((qr C nt all l).run ih q d t df g):=by
 intro l
 induction l with
 |nil=>intro d t df g;exact .inr rfl
 | cons o rest ihl =>
  intro d t df g;simp only[qr]
  split
  ·split
   ·exact OX h λt df g=>ihl d t df g
   ·split
    ·dsimp only
     split
     ·exact OX h λt df g=>ihl d t df g
     ·exact ihl _ _ _ _
     ·exact .inl rfl
    ·exact .inl rfl
  ·exact .inl rfl
theorem JS{n m:T->List ZU->G->PR}{a b:PR}(h:zD a b)(hn:∀t df g,zD (n t df g) (m t df g)):zD (NE n a) (NE m b):=by
 rcases h with rfl|rfl
 ·exact .inl rfl
 ·unfold NE
  split
  ·grind
  ·exact .inr rfl
theorem HT{id:Nat}{a b:PR}(h:zD a b):zD (uk id a) (uk id b):=by
 rcases h with rfl|rfl
 ·exact .inl rfl
 ·exact .inr rfl
theorem E6(h:RR p q):∀(c:Code) (d:Nat) (t:T) (df:List ZU) (g:G),zD ((cA C nt c).run ih p d t df g) ((cA C nt c).run ih q d t df g):=by
 intro c
 induction c with
 | region ps ops draw =>
  intro d t df g;cases draw with
  |false=>exact OZ h _ _ _ _ _
  |true=>exact .inr rfl
 | seq a b iha ihb =>intro d t df g;exact JS (iha _ _ _ _) (by grind)
 | cond c a b iha ihb =>
  intro d t df g;simp only[cA]
  split
  ·dsimp only
   split
   ·grind[aa]
   ·exact .inl rfl
  ·exact .inl rfl
 |block id b ihb=>intro d t df g;exact HT (ihb _ _ _ _)
 |loop b ihb=>intro d t df g;exact JS (ihb _ _ _ _) λt df g=>h.code _ _ _ _ _ _
 |scope b ihb=>intro d t df g;exact ihb _ _ _ _
 |_=>intro d t df g;exact .inr rfl
theorem V6(h:RR p q):∀(c:Code) (d:Nat) (v:AV) (t:T) (g:G),zD ((oY C nt c).run ih p d v t g) ((oY C nt c).run ih q d v t g):=by
 intro c
 induction c with
 | region ps ops draw =>
  intro d v t g;cases draw with
  | false =>
   simp only[oY]
   split
   ·split
    ·split
     ·grind[OZ]
     ·exact .inl rfl
    ·exact .inl rfl
   ·exact .inl rfl
  |true=>exact .inl rfl
 | seq a b iha ihb =>intro d v t g;exact JS (iha _ _ _ _) λt df g=>E6 h _ _ _ _ _
 |block id b ihb=>intro d v t g;exact HT (ihb _ _ _ _)
 |scope b ihb=>intro d v t g;exact ihb _ _ _ _
 |_=>intro d v t g;exact .inl rfl
theorem V7(h:RR p q):CE C ih p d f v xs g=none\/CE C ih p d f v xs g=CE C ih q d f v xs g:=by
 unfold CE
 split
 ·grind
 ·split
  ·rename_i c r _ _;rw[aa,aa]
   split
   ·grind
   ·rcases V6 (C:=C) (ih:=ih) h c d v (bk 0 xs .nil) g with e|e
    ·rw[e];exact .inl rfl
    ·rw[e];exact .inr rfl
  grind
theorem PX(h:RR p q){res:T->G->Option (List AV)}:∀{df:List ZU} {g:G},Rn (lZ C ih p d res v t df g) (lZ C ih q d res v t df g):=by
 intro df g;unfold lZ
 split
 ·exact .inr rfl
 ·rename_i f cap xs ds;rcases V7 (C:=C) (ih:=ih) h (d:=d) (f:=f) (v:=v) (xs:=xs++cap) (g:=g) with e|e
  ·rw[e];exact .inl rfl
  ·rw[e];exact .inr rfl
 ·exact .inl rfl
theorem I7(h:RR p q):Rn (eg C ih p d f xs g) (eg C ih q d f xs g):=by
 unfold eg
 split
 ·exact .inl rfl
 ·rename_i fn _
  split
  ·rename_i c r _ _;rw[aa,aa]
   split
   ·exact .inl rfl
   ·rcases E6 (C:=C) (ih:=ih) h (nt:=fn.ntmps) c d (bk 0 xs .nil) [] g with e|e
    ·rw[e];exact .inl rfl
    ·rw[e]
     split
     ·exact .inl rfl
     ·exact .inr rfl
     ·exact PX h
     ·exact .inl rfl
  ·exact .inl rfl
theorem Rb(h:RR p q):RR (JW C ih p) (JW C ih q):=⟨λ_ _ c _ _ _=>E6 h c _ _ _ _,λ_ _ _ _=>I7 h⟩
end
def iS(C:ZO)(m:Nat):PH:=@Nat.rec (λ_=>PH) PH.zero (λ_ ph=>JW C (I C) ph) m
theorem BB(C:ZO):∀m,RR (iS C m) (iS C (m+1))
 |0=>⟨λ_ _ _ _ _ _=>.inl rfl,λ_ _ _ _=>.inl rfl⟩
 |m+1=>Rb (BB C m)
theorem RR.trans{a b c:PH}(h:RR a b)(h':RR b c):RR a c :=⟨λnt d x t df g=>(h.code nt d x t df g).elim .inl λe=>by grind[code],λd f xs g=>(h.call d f xs g).elim .inl λe=>by grind[call]⟩
theorem Pj(C:ZO){m:Nat}(h:n<=m):RR (iS C n) (iS C m):=by
 induction h with
 |refl=>exact⟨λ_ _ _ _ _ _=>.inr rfl,λ_ _ _ _=>.inr rfl⟩
 |step _ ih=>grind[RR.trans,BB]
theorem YQ{C:ZO}(hC:ZK C):Vv C (I C):=by
 have k:∀{nt d:Nat} {rd:Option Nat} {c:Code} {t:T} {df:List ZU} {g:G} {r:CR},(I C).code nt d rd c t df g=r->∃n,(Qu C n).code nt d rd c t df g=r:=λ{nt d rd c t df g r} h=>by obtain⟨m,h'⟩:=Ct.code (C:=C) nt d rd c t df g;exact⟨m,by grind⟩
 refine⟨⟨λnt d rd c t df g e t' df' g' h hwf=>?_,λd f xs g v g' h hwf=>?_⟩,λbd f xs g v g' h=>?_,?_⟩
 ·obtain⟨n,h⟩:=k h;exact (nY hC n).ZA.code _ _ _ _ _ _ _ _ _ _ _ h hwf
 ·obtain⟨n,h⟩:=Rl h;exact (nY hC n).ZA.call _ _ _ _ _ _ h hwf
 ·obtain⟨n,h⟩:=Rl h;exact (nY hC n).call _ _ _ _ _ _ h
 ·intro bd nt rd c t df g e t' df' g' h;obtain⟨n,h⟩:=k h;exact (nY hC n).code _ _ _ _ _ _ _ _ _ _ _ h
theorem Pk{C:ZO}(hC:ZK C):∀m,Yq C (iS C m):=by
 intro m
 induction m with
 |zero=>exact⟨⟨λnt d c t df g e t' df' g' h=>(by cases h),λd f xs g v g' h=>(by rcases h with h|h<;>cases h)⟩,λbd nt c t df g e t' df' g' h=>(by cases h),λbd f xs g v g' h=>(by cases h),λbd f xs g v g' h=>(by cases h)⟩
 | succ m ihm =>
  have hi:=YQ hC;exact⟨⟨λnt d c t df g e t' df' g' h hwf=>dK hC.ZA hi.ZA ihm.ZA c h hwf,λd f xs g v g' h hwf=>ze hC.ZA hi.ZA ihm.ZA h hwf⟩,
   λbd nt c t df g e t' df' g' h=>sZ hC hi ihm c h,λbd f xs g v g' h=>(mD hC hi ihm).1 h,λbd f xs g v g' h=>(mD hC hi ihm).2 h⟩
open Classical in
def Qo(C:ZO):IH:=⟨λ_ _ _ _ _ _ _=>.fail,λd f xs g=>if h:∃m,Tp ((iS C m).call d f xs g)≠.fail then Tp ((iS C (Classical.choose h)).call d f xs g) else .fail⟩
theorem K8{C:ZO}{g':G}(h:(Qo C).call d f xs g=.ok v g'):∃m,(iS C m).call d f xs g=.ok v g':=by
 unfold Qo at h;dsimp only at h
 split at h<;>grind[JH]
theorem Vq{C:ZO}{m:Nat}{g':G}(h:(iS C m).call d f xs g=.ok v g'):(Qo C).call d f xs g=.ok v g':=by
 have a:∃m,Tp ((iS C m).call d f xs g)≠.fail:=⟨m,by rw[h];intro e;cases e⟩;unfold Qo;dsimp only;rw[dif_pos a];have hs:=Classical.choose_spec a;generalize Classical.choose a=k at hs;have e:(iS C k).call d f xs g=(iS C m).call d f xs g:=by
  rcases Nat.le_total k m with hk|hk
  ·rcases (Pj C hk).call d f xs g with e|e
   ·rw[e]at hs;exact absurd rfl hs
   omega
  ·rcases (Pj C hk).call d f xs g with e|e<;>grind
 rw[e,h];rfl
def fF(C:ZO)(f:Nat):Nat->List AV->G->OR:=λd xs g=>af (Qo C) d g f xs
theorem FV{C:ZO}(hC:ZK C):Zm C f (fF C f) :=
 Oy (λbd f xs g v g' h=>by obtain⟨m,h⟩:=K8 h<;>grind[Yq.call,Pk])
  (λd f xs g v g' h hwf=>by obtain⟨m,h⟩:=K8 h;exact (Pk hC m).ZA.call _ _ _ _ _ _ (.inl h) hwf)
abbrev QP:=PE->T->List ZU->G->Prop
def Ue(F:Nat->PR)(Q:QP):Prop:=∃m e t df g,(∀m',m<=m'->F m'=.ok e t df g)/\Q e t df g
def Zu(C:ZO)(d f:Nat)(xs:List AV)(g:G)(K KP:AV->G->Prop):Prop :=∃m,(∃v g',(∀m',m<=m'->(iS C m').call d f xs g=.ok v g')/\K v g')\/∃v g',(∀m',m<=m'->(iS C m').call d f xs g=.XJ v g')/\KP v g'
def nZ(C:ZO)(f:Nat):Bool:=(C.ext f).isSome || C.Wd f
def uX:Op->Bool
 |.panic _=>false
 |.typeAssert ..=>false
 |.call { callee:=.value _,.. }=>false
 |_=>true
def qv(C:ZO)(d:Nat)(i:SI)(W:PT)(Q:QP)(t:T)(df:List ZU)(g:G):Prop :=
 match i.op with
 |.call f xs=>if nZ C f=true then sG C d none i W t df g else Zu C d f (eH t xs) g (λv g'=>W (qH i.dst t v) df g') λv g'=>Q (.XJ v) t df g'
 | .dyn fo xs=>match fo.get t with
  |.ZH f first cap=>if nZ C f=true then sG C d none i W t df g else Zu C d f (first++(eH t xs++cap)) g (λv g'=>W (qH i.dst t v) df g') λv g'=>Q (.XJ v) t df g'
  |_=>False
 | .raw (.panic x)=>match YX C x with
  | some o=>match o.get t with
   |.J7 ty v=>Q (.XJ (.J7 ty v)) t df g
   |_=>False
  |none=>False
 | .raw (.typeAssert x _ asserted ok)=>match YX C x,C.P.underlying asserted with
  | some o,some (.int _)=>match o.get t with
   |.J7 ty v=>if ty=asserted then W (qH i.dst t (ap ok (.Zz [v,.bool true]) v)) df g else False
   |_=>False
  |_,_=>False
 |.raw op=>if uX op=true then sG C d none i W t df g else False
 |_=>sG C d none i W t df g
def U5(C:ZO)(d:Nat):List SI->QP->T->List ZU->G->Prop
 |[],Q,t,df,g=>Q (.ex .norm) t df g
 | i::r,Q,t,df,g =>
  match i.gd with
  |none=>qv C d i (U5 C d r Q) Q t df g
  |some (s,w)=>HB (ZY t s) w (qv C d i (U5 C d r Q) Q) (C8 i (U5 C d r Q)) t df g
def P6(W:PT)(Q:QP)(e:PE)(t:T)(df:List ZU)(g:G):Prop:=match e with|.ex .norm=>W t df g|e=>Q e t df g
def kBP(id:Nat)(Q:QP)(e:PE)(t:T)(df:List ZU)(g:G):Prop:=match e with|.ex (.exit j)=>ap (Nat.beq j id) (Q (.ex .norm) t df g) (Q (.ex (.exit j)) t df g)|e=>Q e t df g
def kLP(Inv:Nat->PT)(k:Nat)(Q:QP)(e:PE)(t:T)(df:List ZU)(g:G):Prop:=match e with|.ex .norm=>∃k',k'<k/\Inv k' t df g|e=>Q e t df g
def Yo(W:QP->PT)(Q:QP)(t:T)(df:List ZU)(g:G):Prop :=∃Inv:Nat->PT,(∃k,Inv k t df g)/\∀k t df g,Inv k t df g->W (kLP Inv k Q) t df g
def NU(C:ZO)(d:Nat):SC->QP->T->List ZU->G->Prop
 |.ops l,Q,t,df,g=>U5 C d l Q t df g
 |.seq a b,Q,t,df,g=>NU C d a (P6 (NU C d b Q) Q) t df g
 |.cond c a b,Q,t,df,g=>wpC (c.get t) (NU C d a Q) (NU C d b Q) t df g
 |.blk id b,Q,t,df,g=>NU C d b (kBP id Q) t df g
 |.loop b,Q,t,df,g=>Yo (NU C d b) Q t df g
 |.raw _ _,_,_,_,_=>False
 |c,Q,t,df,g=>wp C d none c (λe t df g=>Q (.ex e) t df g) t df g
section
variable {C:ZO}{d:Nat}
theorem Ue.now{e:PE}{Q:QP}(h:Q e t df g):Ue (λ_=>.ok e t df g) Q:=⟨0,e,t,df,g,λ_ _=>rfl,h⟩
theorem Ue.congr{F F':Nat->PR}{Q:QP}(h:Ue F Q)(e:∀m,F' m=F m):Ue F' Q:=by
 have:F'=F:=funext e
 grind
theorem Y8{out:T->AV->T}(ho:∀t v,out t v=qH dst t v){next:Nat->T->List ZU->G->PR}{W:PT}{Q:QP}(hn:∀t df g,W t df g->Ue (λm=>next m t df g) Q)
     {r:OR} (h:r.sat (kO W dst t df) g (kD W dst t df g)):Ue (λm=>sK out (next m) t df g r) Q:=by
 cases r with
 |fail=>exact h.elim
 |val v=>exact hn _ _ _ (by rw[ho];exact h)
 |upd v g'=>exact hn _ _ _ (by rw[ho];exact h)
 |ZP a=>exact hn _ _ _ (by rw[ho];exact h)
theorem Ue.call{out:T->AV->T}{dst:Option Nat}(ho:∀t v,out t v=qH dst t v){next:Nat->T->List ZU->G->PR}{W:PT}{Q:QP}(hn:∀t df g,W t df g->Ue (λm=>next m t df g) Q)
  {t:T} {df:List ZU} {g:G} {f:Nat} {xs:List AV} (h:Zu C d f xs g (λv g'=>W (qH dst t v) df g') λv g'=>Q (.XJ v) t df g') :
  Ue (λm=>GL out (next m) t df ((iS C m).call d f xs g)) Q:=by
 obtain⟨m,⟨v,g',h1,h2⟩|⟨v,g',h1,h2⟩⟩:=h
 ·obtain⟨a,e,t2,df2,g2,k,h4⟩:=hn _ _ _ (by rw[<-ho]at h2;exact h2);refine⟨max m a,e,t2,df2,g2,λm' hm=>?_,h4⟩;dsimp only;rw[h1 m' (by omega)];exact k m' (by omega)
 ·exact⟨m,.XJ v,t,df,g',λm' hm=>by dsimp only;rw[h1 m' hm];rfl,h2⟩
theorem Ng(hp:uX op=true){out:T->AV->T}{next:T->List ZU->G->PR}{ih:IH}{ph:PH} :
  (xZ C op out).run next ih ph d t df g=sK out next t df g ((bP C op).run ih d none t g):=by
 unfold xZ
 split
 ·cases hp
 ·cases hp
 ·cases hp
 ·rfl
theorem Ip(hp:uX op=true):(∀f xs,Yf C op≠.call f xs)/\(∀f xs,Yf C op≠.dyn f xs)/\∀o,Yf C op=.raw o->o=op:=by
 have hs:(∀f xs,JD C op≠.call f xs)/\(∀f xs,JD C op≠.dyn f xs)/\∀o,JD C op=.raw o->o=op:=by unfold JD;refine⟨λf xs=>?_,λf xs=>?_,λo=>?_⟩<;>(repeat' split)<;>intro h<;>first| (cases h;done)| (cases h;rfl)|grind[aa]
 unfold Yf
 split
 ·cases hp
 ·cases hp
 ·refine⟨λf xs=>?_,λf xs=>?_,λo=>?_⟩<;>(repeat' split)<;>intro h<;>first| (cases h;done)| (cases h;rfl)|grind[aa]
 omega
theorem Nz(hp:uX op=true){gd:Option (Nat×Bool)}{W:PT}{Q:QP}(h:qv C d ⟨dst,gd,Yf C op⟩ W Q t df g):sG C d none ⟨dst,gd,Yf C op⟩ W t df g:=by
 obtain⟨h1,h2,k⟩:=Ip (C:=C) hp;unfold qv at h
 split at h
 ·grind
 ·grind
 ·rename_i x e;have:=k _ e;subst this;cases hp
 ·rename_i e;have:=k _ e;subst this;cases hp
 all_goals grind
theorem OY{out:T->AV->T}{gd:Option (Nat×Bool)}(ho:∀t v,out t v=qH dst t v){next:Nat->T->List ZU->G->PR}{W:PT}{Q:QP}(hn:∀t df g,W t df g->Ue (λm=>next m t df g) Q)
     (h:qv C d ⟨dst,gd,Yf C op⟩ W Q t df g):Ue (λm=>(xZ C op out).run (next m) (I C) (iS C m) d t df g) Q:=by
 by_cases hp:uX op=true
 ·have h:=Nz hp h;refine Ue.congr ?_ λm=>Ng hp;refine Y8 ho hn ?_;rw[<-CA];exact h
 ·cases op with
  | panic x =>
   have e:Yf C (.panic x)=.raw (.panic x):=rfl;rw[e]at h;unfold qv at h;dsimp only at h
   split at h
   ·rename_i o hx;obtain⟨s,hs,he⟩:=aT hx
    split at h
    all_goals simp_all[Ue.now,xZ]
   grind
  | typeAssert x a b c =>
   have e:Yf C (.typeAssert x a b c)=.raw (.typeAssert x a b c):=rfl;rw[e]at h;unfold qv at h;dsimp only at h
   split at h
   ·rename_i o ik hx hu;obtain⟨s,hs,he⟩:=aT hx
    split at h
    all_goals simp_all[xZ]
   grind
  | call c =>
   obtain⟨callee,args,ats⟩:=c;cases callee with
   | value fo =>
    have key:∀{fv:AV} {vs:List AV} {f:Nat} {first cap:List AV},fv=.ZH f first cap->(if nZ C f=true then ((Yf C (.call ⟨.value fo,args,ats⟩)).run C d none t g).sat (kO W dst t df) g (kD W dst t df g) else Zu C d f (first++(vs++cap)) g (λv g'=>W (qH dst t v) df g') λv g'=>Q (.XJ v) t df g') ->
      Ue (λm=>match sS C (iS C m) d fv vs g with
       |some r=>GL out (next m) t df r
       |none=>sK out (next m) t df g ((bP C (.call ⟨.value fo,args,ats⟩)).run (I C) d none t g)) Q:=by
     intro fv vs f first cap i h
     subst i
     by_cases hs:nZ C f=true
     ·rw[ZN hs]at h;refine Ue.congr (Y8 ho hn (by rw[CA]at h;exact h)) λm=>?_;simp_all[sS,nZ,aa]
     ·rw[ZF hs]at h;refine Ue.congr (Ue.call ho hn h) λm=>?_;simp_all[sS,nZ]
    have dynCase:(∀f,fo≠.func f)->qv C d ⟨dst,gd,Yf C (.call ⟨.value fo,args,ats⟩)⟩ W Q t df g->Ue (λm=>(xZ C (.call ⟨.value fo,args,ats⟩) out).run (next m) (I C) (iS C m) d t df g) Q:=by
     intro n h;have e:Yf C (.call ⟨.value fo,args,ats⟩)=match YX C fo,qq C args.toList with
      |some f,some vs=>.dyn f vs
      |_,_=>.raw (.call ⟨.value fo,args,ats⟩):=by
      cases fo<;>first|rfl|grind
     cases hfo:YX C fo with
     | none =>simp_all[qv]
     | some fo2 =>
      cases hv:qq C args.toList with
      | none =>simp_all[qv]
      | some vs =>
       rw[hfo,hv]at e;obtain⟨s,hs,he⟩:=dt hv;obtain⟨p,j,k⟩:=aT hfo;have h':=h;rw[e]at h';unfold qv at h';dsimp only at h'
       split at h'
       ·rename_i f first cap hc
        refine Ue.congr (key (fv:=fo2.get t) (vs:=eH t vs) hc ?_) λm=>by simp only[xZ,hs,he,j,k];try rfl
        rw[e];exact h'
       grind
    cases fo with
    | func f =>
     cases hv:qq C args.toList with
     | some vs =>
      have e:Yf C (.call ⟨.value (.func f),args,ats⟩)=.call f vs:=by simp_all[Yf]
      obtain⟨s,hs,he⟩:=dt hv;have h':=h;rw[e]at h';unfold qv at h';dsimp only at h';have l:aW C (.func f)=some ⟨λ_=>.ZH f [] []⟩:=rfl;refine Ue.congr (key (fv:=.ZH f [] []) (vs:=eH t vs) rfl ?_) λm=>by simp only[xZ,l,hs,he];try rfl
      grind[sG]
     | none =>simp_all[Yf,qv]
    |_=>grind
   |invoke r m=>exact absurd rfl hp
   |builtin b=>exact absurd rfl hp
  |_=>exact absurd rfl hp
theorem O0{all:List Oper}{Q:QP}:∀(l:List Oper) (s:List SI),JC C nt all l=some s->∀t df g,U5 C d s Q t df g->Ue (λm=>(qr C nt all l).run (I C) (iS C m) d t df g) Q:=by
 intro l
 induction l with
 |nil=>intro s h t df g hq;injection h with h;subst h;exact Ue.now hq
 | cons o rest ih =>
  intro s h t df g hq;unfold JC at h
  split at h
  ·rename_i gd r hd hg hr;injection h with h;subst h;obtain⟨ot,e1,k⟩:=Eg hd;have nx:∀t df g,U5 C d r Q t df g->Ue (λm=>(qr C nt all rest).run (I C) (iS C m) d t df g) Q:=ih r hr;cases hgd:o.guard with
   | none =>rw[hgd]at hg;injection hg with hg;subst hg;refine Ue.congr (OY (op:=o.op) (out:=ot.run) (dst:=o.dst) (gd:=none) k nx hq) λm=>?_;simp_all[qr]
   | some jw =>
    obtain⟨j,w⟩:=jw;rw[hgd]at hg;obtain⟨sl,h1,h2⟩:=yy hg;subst h1;obtain⟨q,b,h4,h5⟩:=FF hq;have a:(gp AV.undef sl).run t=ZY t sl:=WA _ _ _;cases q with
    | true =>refine Ue.congr (OY (op:=o.op) (out:=ot.run) (dst:=o.dst) (gd:=some (sl,w)) k nx (h4 rfl)) λm=>?_;simp_all[qr]
    | false =>refine Ue.congr (nx _ _ _ (h5 rfl)) λm=>?_;simp_all[qr]
  grind
theorem yD{c:Code}{Q:QP}(h:wp C d none (cx C nt c) (λe t df g=>Q (.ex e) t df g) t df g):Ue (λ_=>OL ((aR C nt c).run (I C) d none t df g)) Q:=by
 have h:=UG c _ _ _ _ h;cases hr:(aR C nt c).run (I C) d none t df g with
 |fail=>rw[hr]at h;exact h.elim
 |ok e t1 df1 g1=>rw[hr]at h;exact Ue.now h
theorem Ue.seq{F:Nat->PR}{k:Nat->T->List ZU->G->PR}{W:PT}{Q:QP}(h:Ue F (P6 W Q))(hk:∀t df g,W t df g->Ue (λm=>k m t df g) Q):Ue (λm=>NE (k m) (F m)) Q:=by
 obtain⟨m,e,t,df,g,h1,h2⟩:=h;cases e with
 |XJ v=>exact⟨m,.XJ v,t,df,g,λm' hm=>by dsimp only;rw[h1 m' hm];rfl,h2⟩
 | ex e =>
  cases e with
  | norm =>obtain⟨c,a,t2,df2,g2,b,h4⟩:=hk _ _ _ h2;refine⟨max m c,a,t2,df2,g2,λm' hm=>?_,h4⟩;dsimp only;rw[h1 m' (by omega)];exact b m' (by omega)
  |exit j=>exact⟨m,.ex (.exit j),t,df,g,λm' hm=>by dsimp only;rw[h1 m' hm];rfl,h2⟩
  |ret=>exact⟨m,.ex .ret,t,df,g,λm' hm=>by dsimp only;rw[h1 m' hm];rfl,h2⟩
theorem Ue.blk{F:Nat->PR}{id:Nat}{Q:QP}(h:Ue F (kBP id Q)):Ue (λm=>uk id (F m)) Q:=by
 obtain⟨m,e,t,df,g,h1,h2⟩:=h;cases e with
 |XJ v=>exact⟨m,.XJ v,t,df,g,λm' hm=>by dsimp only;rw[h1 m' hm];rfl,h2⟩
 | ex e =>
  cases e with
  |norm=>exact⟨m,.ex .norm,t,df,g,λm' hm=>by dsimp only;rw[h1 m' hm];rfl,h2⟩
  |ret=>exact⟨m,.ex .ret,t,df,g,λm' hm=>by dsimp only;rw[h1 m' hm];rfl,h2⟩
  | exit j =>
   have h2:ap (Nat.beq j id) (Q (.ex .norm) t df g) (Q (.ex (.exit j)) t df g):=h2;cases hb:Nat.beq j id with
   |true=>rw[hb]at h2;exact⟨m,.ex .norm,t,df,g,λm' hm=>by dsimp only;rw[h1 m' hm];show ap (Nat.beq j id) _ _=_;rw[hb],h2⟩
   |false=>rw[hb]at h2;exact⟨m,.ex (.exit j),t,df,g,λm' hm=>by dsimp only;rw[h1 m' hm];show ap (Nat.beq j id) _ _=_;rw[hb],h2⟩
theorem UE:∀(c:Code) (Q:QP) (t:T) (df:List ZU) (g:G),NU C d (cx C nt c) Q t df g->Ue (λm=>(cA C nt c).run (I C) (iS C m) d t df g) Q:=by
 intro c
 induction c with
 | region p ops draw =>
  intro Q t df g h;unfold cx at h;cases draw with
  | false =>
   split at h
   ·rename_i l hl;exact O0 _ _ hl _ _ _ h
   ·exact h.elim
  | true =>
   refine yD ?_;unfold cx
   split at h
   ·rename_i l hl;rw[aa]at h ⊢;rw[ZN rfl]at h ⊢;rw[aa]at h ⊢
    split at h
    ·rw[ZN (by assumption)];rw[aa]at h ⊢
     split at h
     ·rw[ZN (by assumption)];exact h
     ·rw[ZF (by assumption)];exact h
    ·exact h.elim
   ·exact h.elim
 | seq a b iha ihb =>intro Q t df g h;exact Ue.seq (iha _ _ _ _ h) (by grind)
 | cond q a b iha ihb =>
  intro Q t df g h;unfold cx at h
  split at h
  ·rename_i o ho;obtain⟨s,hs,he⟩:=aT ho;have h:wpC (o.get t) (NU C d (cx C nt a) Q) (NU C d (cx C nt b) Q) t df g:=h;unfold wpC at h;cases hv:Od.get t o with
   | bool v =>
    rw[hv]at h;cases v with
    |true=>exact Ue.congr (iha _ _ _ _ (h.1 rfl)) λm=>by simp_all[cA]
    |false=>exact Ue.congr (ihb _ _ _ _ (h.2 rfl)) λm=>by simp_all[cA]
   |_=>grind
  ·exact h.elim
 | block id body ih =>intro Q t df g h;exact Ue.blk (ih _ _ _ _ h)
 | loop body ih =>
  intro Q t df g h;obtain⟨Inv,⟨k,hk⟩,hs⟩:=h
  induction k using Nat.strongRecOn generalizing t df g with
  | _ k rec =>have h:=ih _ t df g (hs k t df g hk);refine Ue.seq (k:=λm t df g=>(iS C m).code nt d (.loop body) t df g) (W:=λt df g=>∃k',k'<k/\Inv k' t df g) h ?_;rintro t df g ⟨k',i,hi⟩;obtain⟨m,e,t2,df2,g2,h1,h2⟩:=rec k' i t df g hi;refine⟨m+1,e,t2,df2,g2,λm' hm=>?_,h2⟩;obtain⟨j,rfl⟩:∃j,m'=j+1:=⟨m' - 1,by omega⟩;exact h1 j (by omega)
 |scope body ih=>intro Q t df g h;exact ih _ _ _ _ h
 |skip=>intro Q t df g h;exact yD h
 |label l=>intro Q t df g h;exact yD h
 |exit id=>intro Q t df g h;exact yD h
 |ret=>intro Q t df g h;exact yD h
 | rangeFunc f ps a b =>
  intro Q t df g h;refine yD ?_;unfold cx at h ⊢
  split at h
  ·exact h
  ·exact h.elim
 |_=>intro Q t df g h;exact h.elim
theorem Fb{l:List ResultVar}{r:List SR}{rs:TM (T->G->Option (List AV))}(hr:DT C l=some r)(hrs:rC C l=some rs){K:AV->G->Prop}(h:yZ C d r t df g K):(cp (I C) d rs.run t df g).sat K:=by
 unfold yZ at h;unfold cp
 split at h
 ·rename_i g2 k;rw[k];obtain⟨b,vs,h1,h2,a⟩:=JR _ _ _ hr h;rw[hrs]at h1;injection h1 with h1;subst h1;simp only[h2];exact a
 grind
theorem yz:∀{l:List ResultVar} {r:List SR},DT C l=some r->∃s,rC C l=some s
 |[],r,_=>⟨_,rfl⟩
 | x::l,r,h=>by
  cases x with
  | tmp n =>
   unfold DT at h
   split at h
   ·rename_i k hr;obtain⟨s,hs⟩:=yz hr;exact⟨_,by simp only[rC,hs];rfl⟩
   ·cases h
  | cell a ty =>
   unfold DT at h
   split at h
   ·rename_i k ag n hr ha b;obtain⟨s,hs⟩:=yz hr;exact⟨_,by simp only[rC,hs,cP,aW,ha,b];rfl⟩
   ·cases h
def UN(C:ZO)(d f:Nat)(v:AV)(xs:List AV)(g:G)(K:G->Prop):Prop:=∃m g',(∀m',m<=m'->CE C (I C) (iS C m') d f v xs g=some g')/\K g'
def XY(C:ZO)(d:Nat)(r:List SR)(v:AV)(t:T)(K KP:AV->G->Prop):List ZU->G->Prop
 |[],g=>KP v g
 |.call (.ZH f [] cap) xs::ds,g=>UN C d f v (xs++cap) g λg'=>yZ C d r t ds g' K
 |_::_,_=>False
def fnP(C:ZO)(d:Nat)(r:List SR)(K KP:AV->G->Prop):QP:=λe t df g=>match e with|.ex e=>Xs C d r K e t df g|.XJ v=>XY C d r v t K KP df g
theorem gq{s:SF}(hf:ZE C f=some s){K KP:AV->G->Prop}(hl:xs.length<=s.nt)(h:NU C d s.code (fnP C d s.res K KP) (bk 0 xs .nil) [] g):Zu C d f xs g K KP:=by
 unfold ZE at hf
 split at hf
 ·cases hf
 rename_i fn l
 split at hf
 ·cases hf
 rename_i c hc
 split at hf
 rotate_left
 ·cases hf
 rename_i r hr;rw[aa]at hf
 split at hf
 ·cases hf
 rename_i q;injection hf with hf;subst hf;obtain⟨m,e,t,df,g',h1,h2⟩:=UE c _ _ _ _ h;have h1:∀m',m<=m'->(cA C fn.ntmps c).run (I C) (iS C m') d (bk 0 xs .nil) [] g=.ok e t df g':=h1;obtain⟨rs,i⟩:=yz hr;have k:∀m',m<=m'->(iS C (m'+1)).call d f xs g=(match (.ok e t df g':PR) with
    |.ok (.ex (.exit _)) _ _ _=>.fail
    |.ok (.ex _) t df g'=>NO (cp (I C) d rs.run t df g')
    |.ok (.XJ v) t df g'=>lZ C (I C) (iS C m') d rs.run v t df g'
    |.fail=>.fail:PF):=λm' hm=>by
  show eg C (I C) (iS C m') d f xs g=_;unfold eg;simp only[l,hc,i];rw[aa,ZF (by
   have h1:Nat.ble (bi xs) fn.ntmps=true:=by grind[ax,R1]
   grind),h1 m' hm]
  try rfl
 have key:yZ C d r t df g' K->∃v g2,NO (cp (I C) d rs.run t df g')=.ok v g2/\K v g2:=λh=>by
  have h:=Fb hr i h;cases he:cp (I C) d rs.run t df g' with
  |fail=>rw[he]at h;exact h.elim
  |ok v g2=>rw[he]at h;exact⟨v,g2,rfl,h⟩
 have up:∀{m':Nat},m+1<=m'->∃a,m'=a+1/\m<=a:=λ{m'} hm=>⟨m' - 1,by omega,by omega⟩;cases e with
 | ex e =>
  cases e with
  |exit j=>exact h2.elim
  | norm =>obtain⟨v,g2,o,k2⟩:=key h2;refine⟨m+1,.inl ⟨v,g2,λm' hm=>?_,k2⟩⟩<;>grind
  | ret =>obtain⟨v,g2,o,k2⟩:=key h2;refine⟨m+1,.inl ⟨v,g2,λm' hm=>?_,k2⟩⟩<;>grind
 | XJ v =>
  have h2:XY C d r v t K KP df g':=h2;unfold XY at h2
  split at h2
  ·refine⟨m+1,.inr ⟨v,g',λm' hm=>?_,h2⟩⟩;obtain⟨a,rfl,b⟩:=up hm;rw[k a b];try rfl
  ·rename_i f2 cap ys ds _ _;obtain⟨p,g3,q1,q2⟩:=h2;have h:=Fb hr i q2;cases he:cp (I C) d rs.run t ds g3 with
   |fail=>rw[he]at h;exact h.elim
   | ok v2 g2 =>
    rw[he]at h;refine⟨max m p+1,.inl ⟨v2,g2,λm' hm=>?_,h⟩⟩;obtain⟨a,rfl,b⟩:=up (m':=m') (by omega);rw[k a b];show lZ C (I C) (iS C a) d rs.run v t (.call (.ZH f2 [] cap) ys::ds) g'=_;have n:lZ C (I C) (iS C a) d rs.run v t (.call (.ZH f2 [] cap) ys::ds) g'=match CE C (I C) (iS C a) d f2 v (ys++cap) g' with
     |some g'=>NO (cp (I C) d rs.run t ds g')
     |none=>.fail:=rfl
    rw[n,q1 a (by omega)];dsimp only;rw[he];try rfl
  grind
def wpR(C:ZO)(d:Nat)(v:AV):SC->QP->T->G->Prop
 |.ops (i::l),Q,t,g=>i.gd=none/\(match i.op with|.raw (.call { callee:=.builtin .recover,.. })=>True|_=>False)/\U5 C d l Q (qH i.dst t v) [] g
 |.seq a b,Q,t,g=>wpR C d v a (P6 (NU C d b Q) Q) t g
 |.blk id a,Q,t,g=>wpR C d v a (kBP id Q) t g
 |_,_,_,_=>False
theorem Lt(h:match Yf C op with|.raw (.call { callee:=.builtin .recover,.. })=>True|_=>False):∃args ats,op=.call ⟨.builtin .recover,args,ats⟩:=by
 by_cases hp:uX op=true
 ·split at h
  ·rename_i args ats e;have:=(Ip (C:=C) hp).2.2 _ e
   grind
  grind
 ·cases op with
  | call c =>
   obtain⟨callee,args,ats⟩:=c;cases callee with
   | value fo =>
    exfalso;cases fo with
    | func f =>
     cases hv:qq C args.toList with
     |some vs=>simp_all[Yf]
     |none=>simp_all[Yf]
    | _ =>
     simp only[Yf]at h
     grind
   |invoke r m=>exact absurd rfl hp
   |builtin b=>exact absurd rfl hp
  |panic x=>exact h.elim
  |typeAssert a b c e=>exact h.elim
  |_=>exact absurd rfl hp
theorem Yr:∀(c:Code) (Q:QP) (t:T) (g:G),wpR C d v (cx C nt c) Q t g->Ue (λm=>(oY C nt c).run (I C) (iS C m) d v t g) Q:=by
 intro c
 induction c with
 | region p ops draw =>
  intro Q t g h;unfold cx at h;cases draw with
  | false =>
   split at h
   ·rename_i l hl;have h:wpR C d v (.ops l) Q t g:=h;cases l with
    |nil=>exact h.elim
    | cons i l =>
     obtain⟨a1,a2,n⟩:=h;cases hops:ops.toList with
     |nil=>rw[hops]at hl;cases hl
     | cons o rest =>
      rw[hops]at hl;unfold JC at hl
      split at hl
      ·rename_i gd r hd hg hr;injection hl with hl;injection hl with e1 s;subst e1;subst s;obtain⟨args,ats,e⟩:=Lt a2;have k:o.guard=none:=by
        cases hgo:o.guard with
        |none=>rfl
        | some jw =>obtain⟨j,w⟩:=jw;rw[hgo]at hg;obtain⟨sl,h1,-⟩:=yy hg;rw[h1]at a1;cases a1
       obtain⟨ot,f1,f2⟩:=Eg hd;refine Ue.congr (O0 (nt:=nt) (all:=o::rest) rest r hr _ _ _ n) λm=>?_;simp only[oY,hops,e,k,f1,f2]
      ·cases hl
   ·exact h.elim
  | true =>
   exfalso
   split at h
   ·rw[aa,ZN rfl,aa]at h
    split at h
    ·rw[aa]at h
     split at h<;>exact h
    ·exact h
   ·exact h
 | seq a b iha ihb =>intro Q t g h;exact Ue.seq (iha _ _ _ h) λt df g h=>UE b _ _ _ _ h
 | block id body ih =>intro Q t g h;exact Ue.blk (ih _ _ _ h)
 |scope body ih=>intro Q t g h;exact ih _ _ _ h
 | cond q a b iha ihb =>
  intro Q t g h;unfold cx at h
  split at h<;>exact h.elim
 | rangeFunc f ps a b =>
  intro Q t g h;unfold cx at h
  split at h<;>exact h.elim
 |_=>intro Q t g h;exact h.elim
def Y4(r:List SR)(K:G->Prop):QP:=λe t df g=>match e with|.ex (.exit _)=>False|.ex _=>df=[]/\At r t g λ_=>K g|.XJ _=>False
theorem O9{s:SF}(hf:ZE C f=some s){K:G->Prop}(hl:xs.length<=s.nt)(h:wpR C d v s.code (Y4 s.res K) (bk 0 xs .nil) g):UN C d f v xs g K:=by
 unfold ZE at hf
 split at hf
 ·cases hf
 rename_i fn a
 split at hf
 ·cases hf
 rename_i c hc
 split at hf
 rotate_left
 ·cases hf
 rename_i r hr;rw[aa]at hf
 split at hf
 ·cases hf
 rename_i n;injection hf with hf;subst hf;obtain⟨m,e,t,df,g',h1,h2⟩:=Yr c _ _ _ h;have h1:∀m',m<=m'->(oY C fn.ntmps c).run (I C) (iS C m') d v (bk 0 xs .nil) g=.ok e t df g':=h1;obtain⟨rs,b⟩:=yz hr;have i:∀m',m<=m'->CE C (I C) (iS C m') d f v xs g=(match (.ok e t df g':PR) with
    |.ok (.ex (.exit _)) _ _ _=>none
    |.ok (.ex _) t [] g'=>(match rs.run t g' with|some _=>some g'|none=>none)
    |_=>none:Option G):=λm' hm=>by
  unfold CE;simp only[a,hc,b];rw[aa,ZF (by
   have h1:Nat.ble (bi xs) fn.ntmps=true:=by grind[ax,R1]
   grind),h1 m' hm]
  try rfl
 have key:(df=[]/\At r t g' λ_=>K g')->e≠.ex .ret\/True->(∃vs,rs.run t g'=some vs)/\df=[]/\K g':=λ⟨e1,e2⟩ _=>by obtain⟨o,vs,l,k2,k⟩:=JR _ _ _ hr e2<;>grind
 cases e with
 |XJ v=>exact h2.elim
 | ex e =>
  cases e with
  |exit j=>exact h2.elim
  | norm =>obtain⟨⟨vs,l⟩,k2,k⟩:=key h2 (.inr trivial);subst k2;exact⟨m,g',λm' hm=>by grind,k⟩
  | ret =>obtain⟨⟨vs,l⟩,k2,k⟩:=key h2 (.inr trivial);subst k2;exact⟨m,g',λm' hm=>by grind,k⟩
theorem Cx{s:SF}{args:List AV}(hf:ZE C f=some s)(hs:aD (ZS g.h d aw) args=some xs)(hl:xs.length<=s.nt){R:VS}{j:Nat}(hR:Qx R j)(hj:j<=4){k':Nat}(hk:k'<d)
  (h:NU C (d+1) s.code (fnP C (d+1) s.res (λv g'=>∃P,R P k' g'.h v) λ_ _=>False) (bk 0 xs .nil) [] G.empty):∃r,fF C f d args g=.val r/\R ZX k' .nil r:=by
 obtain⟨m,⟨v,g',h1,P,h2⟩|⟨v,g',h1,h2⟩⟩:=gq hf hl h
 ·have hc:=Vq (h1 m (ZV m));unfold fF af;rw[hs];dsimp only;rw[show (Qo C).call (Nat.succ d) f xs G.empty=.ok v g' from hc];obtain⟨r,e,hr⟩:=hR.ZS (n:=aw) 0 h2 (by show _<=24;omega);rw[Nat.max_eq_left (Jq k')]at hr;obtain⟨m,em,lm⟩:=hR.tag (n:=aw) hr (by show _<=24;omega);refine⟨r,?_,hr⟩;simp only[e,em,aa,YD]
  grind
 grind
def yJ(C:ZO)(i:SI):Bool :=
 match i.op with
 |.call f _=>nZ C f
 |.dyn _ _=>false
 |.raw op=>uX op
 |_=>true
def Ar(C:ZO):List SI->Bool
 |[]=>true
 |i::r=>yJ C i&&Ar C r
theorem BA{i:SI}(h:yJ C i=true){W:PT}{Q:QP}(hr:sG C d none i W t df g):qv C d i W Q t df g:=by
 unfold yJ at h;unfold qv
 split
 ·grind
 ·grind
 ·rename_i e;rw[e]at h;cases h
 ·rename_i e;rw[e]at h;cases h
 all_goals grind
theorem eo{i:SI}{W W':PT}(hw:∀t df g,W t df g->W' t df g){rd:Option Nat}(h:sG C d rd i W t df g):sG C d rd i W' t df g:=by
 unfold sG at h ⊢;cases hr:i.op.run C d rd t g with
 |fail=>rw[hr]at h;exact h
 |val v=>rw[hr]at h;exact hw _ _ _ h
 |upd v g'=>rw[hr]at h;exact hw _ _ _ h
 |ZP a=>rw[hr]at h;exact hw _ _ _ h
theorem xU{w:Bool}{A B A' B':PT}(ha:∀t df g,A t df g->A' t df g)(hb:∀t df g,B t df g->B' t df g)(h:HB v w A B t df g):HB v w A' B' t df g:=by
 unfold HB at h ⊢
 split at h
 ·rename_i q;rw[aa]at h ⊢
  split at h
  ·rename_i hw;rw[ZN hw];exact⟨λe=>ha _ _ _ (h.1 e),λe=>hb _ _ _ (h.2 e)⟩
  ·rename_i hw;rw[ZF hw];exact⟨λe=>hb _ _ _ (h.1 e),λe=>ha _ _ _ (h.2 e)⟩
 all_goals grind
theorem bg{Q:QP}:∀{l:List SI},Ar C l=true->∀{t:T} {df:List ZU} {g:G},RZ C d none l (Q (.ex .norm)) t df g->U5 C d l Q t df g:=by
 intro l
 induction l with
 |nil=>intro _ t df g h;exact h
 | cons i r ih =>
  intro hp t df g h;have hp:(yJ C i&&Ar C r)=true:=hp;rw[Zk]at hp;have ih:=λt df g h=>ih hp.2 (t:=t) (df:=df) (g:=g) h;unfold RZ at h;unfold U5;cases hg:i.gd with
  | none =>grind[BA,eo]
  | some sw =>rw[hg]at h;exact xU (λt df g h=>BA hp.1 (eo ih h)) (λt df g h=>ih _ _ _ h) h
theorem bp{l:List SI}{Q:QP}(hp:Ar C l=true)(h:RZ C d none l (NU C d b Q) t df g):NU C d (.seq (.ops l) b) Q t df g:=by show U5 C d l _ t df g;exact bg hp h
theorem BH{l:List SI}{Q:QP}(hp:Ar C l=true)(h:RZ C d none l (Q (.ex .norm)) t df g):NU C d (.ops l) Q t df g:=bg hp h
end
section
variable {C:ZO}{d:Nat}
theorem Zu.mono{K K' KP KP':AV->G->Prop}(h:Zu C d f xs g K KP)(hk:∀v g,K v g->K' v g)(hp:∀v g,KP v g->KP' v g):Zu C d f xs g K' KP':=by
 obtain⟨m,⟨v,g',h1,h2⟩|⟨v,g',h1,h2⟩⟩:=h
 ·exact⟨m,(by grind)⟩
 ·exact⟨m,(by grind)⟩
theorem IA{i:SI}{W W':PT}{Q Q':QP}(hw:∀t df g,W t df g->W' t df g)(hq:∀e t df g,Q e t df g->Q' e t df g)(h:qv C d i W Q t df g):qv C d i W' Q' t df g:=by
 unfold qv at h ⊢
 split at h
 ·split at h
  ·rename_i hs;rw[ZN hs];grind[eo]
  ·rename_i hs;rw[ZF hs];grind[Zu.mono]
 ·split at h
  ·split at h
   ·rename_i hs;rw[ZN hs];grind[eo]
   ·rename_i hs;rw[ZF hs];grind[Zu.mono]
  omega
 ·grind
 ·grind
 ·split at h
  ·rename_i hs;rw[ZN hs];grind[eo]
  grind
 grind[eo]
theorem Ml{Q Q':QP}(hq:∀e t df g,Q e t df g->Q' e t df g):∀{l:List SI} {t:T} {df:List ZU} {g:G},U5 C d l Q t df g->U5 C d l Q' t df g:=by
 intro l
 induction l with
 |nil=>intro t df g h;exact hq _ _ _ _ h
 | cons i r ih =>
  intro t df g h;unfold U5 at h ⊢
  split at h
  ·grind[IA]
  ·exact xU (λt df g h=>IA (by grind) hq h) (λt df g h=>ih h) h
theorem UD:∀(s:SC) {Q Q':QP} {t:T} {df:List ZU} {g:G},NU C d s Q t df g->(∀e t df g,Q e t df g->Q' e t df g)->NU C d s Q' t df g:=by
 intro s
 induction s with
 |ops l=>intro Q Q' t df g h hq;exact Ml hq h
 | seq a b iha ihb =>
  intro Q Q' t df g h hq;refine iha h λe t df g h=>?_;cases e with
  |XJ v=>exact hq _ _ _ _ h
  | ex e =>
   cases e with
   |norm=>exact ihb h hq
   |exit x=>exact hq _ _ _ _ h
   |ret=>exact hq _ _ _ _ h
 | cond c a b iha ihb =>
  intro Q Q' t df g h hq;have h:wpC (c.get t) (NU C d a Q) (NU C d b Q) t df g:=h;show wpC (c.get t) (NU C d a Q') (NU C d b Q') t df g;unfold wpC at h ⊢
  split at h
  ·exact⟨λq=>iha (h.1 q) hq,λq=>ihb (h.2 q) hq⟩
  omega
 | blk id b ih =>
  intro Q Q' t df g h hq;refine ih h λe t df g h=>?_;cases e with
  |XJ v=>exact hq _ _ _ _ h
  | ex e =>
   cases e with
   |norm=>exact hq _ _ _ _ h
   | exit x =>
    have h:ap (Nat.beq x id) (Q (.ex .norm) t df g) (Q (.ex (.exit x)) t df g):=h;show ap (Nat.beq x id) (Q' (.ex .norm) t df g) (Q' (.ex (.exit x)) t df g);rw[aa]at h ⊢
    grind
   |ret=>exact hq _ _ _ _ h
 | loop b ih =>
  intro Q Q' t df g h hq;obtain⟨Inv,hk,hs⟩:=h;refine⟨Inv,hk,λk t df g hi=>ih (hs k t df g hi) λe t df g h=>?_⟩;cases e with
  |XJ v=>exact hq _ _ _ _ h
  | ex e =>
   cases e with
   |norm=>exact h
   |exit x=>exact hq _ _ _ _ h
   |ret=>exact hq _ _ _ _ h
 |raw nt c=>intro Q Q' t df g h _;exact h
 |_=>intro Q Q' t df g h hq;exact ch _ h (by grind)
theorem cg{a:SC}{Q:QP}:NU C d (.seq a b) Q t df g=NU C d a (P6 (NU C d b Q) Q) t df g:=rfl
theorem bG{c:Od}{a:SC}{Q:QP}:NU C d (.cond c a b) Q t df g=wpC (c.get t) (NU C d a Q) (NU C d b Q) t df g:=rfl
theorem J9{id:Nat}{Q:QP}:NU C d (.blk id b) Q t df g=NU C d b (kBP id Q) t df g:=rfl
theorem Mk{Q:QP}:NU C d (.loop b) Q t df g=Yo (NU C d b) Q t df g:=rfl
theorem ig{Q:QP}:NU C d .skip Q t df g=Q (.ex .norm) t df g:=rfl
theorem UC{id:Nat}{Q:QP}:NU C d (.exit id) Q t df g=Q (.ex (.exit id)) t df g:=rfl
theorem o8{Q:QP}:NU C d .ret Q t df g=Q (.ex .ret) t df g:=rfl
theorem aV(W:PT)(Q:QP)(t:T)(df:List ZU)(g:G):P6 W Q (.ex .norm) t df g=W t df g:=rfl
theorem S4(W:PT)(Q:QP)(j:Nat)(t:T)(df:List ZU)(g:G):P6 W Q (.ex (.exit j)) t df g=Q (.ex (.exit j)) t df g:=rfl
theorem Bm(id:Nat)(Q:QP)(j:Nat)(t:T)(df:List ZU)(g:G):kBP id Q (.ex (.exit j)) t df g=if j=id then Q (.ex .norm) t df g else Q (.ex (.exit j)) t df g:=by show ap (Nat.beq j id) _ _=_;simp_all[aa]
theorem S1(Inv:Nat->PT)(k:Nat)(Q:QP)(t:T)(df:List ZU)(g:G):kLP Inv k Q (.ex .norm) t df g=∃k',k'<k/\Inv k' t df g:=rfl
theorem S0(Inv:Nat->PT)(k:Nat)(Q:QP)(j:Nat)(t:T)(df:List ZU)(g:G):kLP Inv k Q (.ex (.exit j)) t df g=Q (.ex (.exit j)) t df g:=rfl
def kRP(J:PT)(b:Nat)(Q:QP):QP:=λe t df g=>match e with
 |.ex .norm=>J t df g
 |.ex (.exit x)=>if x=b then J t df g else Q (.ex (.exit x)) t df g
 |e=>Q e t df g
theorem GN{body:SC}{c ti tn k B b:Nat}{Q:QP}{m:Nat}(hm:m<2^63)(J:Nat->PT)
  (h0:J 0 t df g) (hi:ZY t ti=.int .i64 0) (hn:ZY t tn=.int .i64 (m:Int)) (hc:c≠ti/\c≠tn/\k≠tn/\ti≠tn/\b≠B)
  (hJ:∀j t df g v s,s=c\/s=ti\/s=k->J j t df g->J j (f_ t s v) df g)
  (step:∀j t df g,j<m->J j t df g->ZY t ti=.int .i64 (j:Int)->ZY t tn=.int .i64 (m:Int) ->
   NU C d body (kRP (λt df g=>J (j+1) t df g/\ZY t ti=.int .i64 (j:Int)/\ZY t tn=.int .i64 (m:Int)) b Q) t df g)
  (fin:∀t df g,J m t df g->Q (.ex (.exit B)) t df g) :
  Yo (NU C d (.seq (.ops [o c (.bin .lss (.t ti) (.t tn))]) (.seq (.cond (.t c) .skip (.exit B)) (.seq (.blk b body) (.ops [o k (.bin .add (.t ti) (.k (.int .i64 1))),o ti (.mv (.t k))]))))) Q t df g:=by
 obtain⟨c1,i,l,p,q⟩:=hc;refine⟨λn t df g=>∃j:Nat,n=m - j/\j<=m/\J j t df g/\ZY t ti=.int .i64 (j:Int)/\ZY t tn=.int .i64 (m:Int),(by grind),?_⟩;rintro n t df g ⟨j,rfl,r,a,h1,h2⟩;refine bp rfl ?_;simp only[sx,SO.run,↓reduceIte,h1,h2];rw[cg,bG];simp only[sx];refine⟨λhq=>?_,λhq=>?_⟩
 ·have hlt:j<m:=by grind
  rw[ig,aV,cg,J9];refine UD _ (step j _ df g hlt (by grind) (by simp_all[gn,Vw]) (by simp_all[gn,Vw])) λe t df g h=>?_;have key:J (j+1) t df g/\ZY t ti=.int .i64 (j:Int)/\ZY t tn=.int .i64 (m:Int)->NU C d (.ops [o k (.bin .add (.t ti) (.k (.int .i64 1))),o ti (.mv (.t k))])
    (kLP (λn t df g=>∃j:Nat,n=m - j/\j<=m/\J j t df g/\ZY t ti=.int .i64 (j:Int)/\ZY t tn=.int .i64 (m:Int)) (m - j) Q) t df g:=by
   rintro⟨a1,a2,f⟩;refine BH rfl ?_;simp only[sx,SO.run,a2,↓reduceIte];rw[S1];refine⟨_,?_,j+1,rfl,by omega,(by grind),?_,?_⟩
   ·omega
   ·grind[gn,aq]
   simp_all[gn,Vw]
  cases e with
  |XJ v=>exact h
  | ex e =>
   cases e with
   |norm=>exact key h
   |ret=>exact h
   | exit x =>
    have h:if x=b then J (j+1) t df g/\ZY t ti=.int .i64 (j:Int)/\ZY t tn=.int .i64 (m:Int) else Q (.ex (.exit x)) t df g:=h;rw[Bm]
    split at h
    ·rename_i e;rw[ZN e];exact key h
    ·rename_i e;rw[ZF e];exact h
 ·have:j=m:=by grind
  simp_all[UC,S4,S0]
theorem cI{Q:QP}{l2:List SI}:∀{l:List SI},Ar C l=true->∀{t:T} {df:List ZU} {g:G},RZ C d none l (U5 C d l2 Q) t df g->U5 C d (l++l2) Q t df g:=by
 intro l
 induction l with
 |nil=>intro _ t df g h;exact h
 | cons i r ih =>
  intro hp t df g h;have hp:(yJ C i&&Ar C r)=true:=hp;rw[Zk]at hp;have ih:=λt df g h=>ih hp.2 (t:=t) (df:=df) (g:=g) h;unfold RZ at h;rw[ML];unfold U5;cases hg:i.gd with
  | none =>grind[BA,eo]
  | some sw =>rw[hg]at h;exact xU (λt df g h=>BA hp.1 (eo ih h)) (λt df g h=>ih _ _ _ h) h
theorem Px{Q:QP}{ty:Nat}(hv:ZY t n=.J7 ty v)(h:Q (.XJ (.J7 ty v)) t df g):U5 C d [oz (.raw (.panic (.tmp n)))] Q t df g:=by
 show (match (Od.t n).get t with|.J7 ty v=>Q (.XJ (.J7 ty v)) t df g|_=>False)
 grind[K5]
theorem GO{Q:QP}{a ty:Nat}{ok:Bool}{ik:IntKind}{r:List SI}(hv:ZY t n=.J7 ty v)(hu:C.P.underlying ty=some (.int ik))
  (h:U5 C d r Q (qH dst t (ap ok (.Zz [v,.bool true]) v)) df g):U5 C d (⟨dst,none,.raw (.typeAssert (.tmp n) a ty ok)⟩::r) Q t df g:=by
 simp_all[YX,K5,qv,U5]
theorem Pw{Q:QP}{first cap:List AV}{xs:List Od}{r:List SI}(hv:ZY t n=.ZH f first cap)(hs:nZ C f=false)
  (h:Zu C d f (first++(eH t xs++cap)) g (λv g'=>U5 C d r Q (qH dst t v) df g') λv g'=>Q (.XJ v) t df g'):U5 C d (⟨dst,none,.dyn (.t n) xs⟩::r) Q t df g:=by
 simp_all[K5,qv,U5]
end
section
variable {C:ZO}{d:Nat}
theorem qj(r:List SR)(K KP:AV->G->Prop)(e:Ex)(t:T)(df:List ZU)(g:G):fnP C d r K KP (.ex e) t df g=Xs C d r K e t df g:=rfl
end
@[reducible] def oM (d a:Nat):SI:=o d (.mv (.t a))
@[reducible] def oL (d a:Nat):SI:=o d (.load false 1 (.t a))
@[reducible] def oN (d a:Nat):SI:=o d (.len .slice (.t a))
@[reducible] def oF (d n a:Nat):SI:=o d (.fad n (.t a))
@[reducible] def oX (d a b:Nat):SI:=o d (.SG 1 (.t a) (.t b))
@[reducible] def qI (z:Int):Od:=.k (.int .i64 z)
@[reducible] def oK (d:Nat) (z:Int):SI:=o d (.mv (qI z))
@[reducible] def oA (d a:Nat):SI:=o d (.bin .add (.t a) (qI 1))
@[reducible] def sQ (l:List SI) (x:SC):SC:=.seq (.ops l) x
theorem sz:type_of% (Z3 sx <|Z3 sy <|Z3 @adq.{0} <|Z3 @Ns.{0} <|Z3 @decide_true <|Z3 @decide_false <|Z3 @Q_ <|Z3 @SM <|
 Z3 @SO.run.eq_1 <|Z3 @SO.run.eq_2 <|Z3 @SO.run.eq_3 <|Z3 @SO.run.eq_4 <|Z3 @SO.run.eq_5 <|Z3 @SO.run.eq_6 <|Z3 @SO.run.eq_7 <|Z3 @SO.run.eq_8 <|Z3 @SO.run.eq_9 <|Z3 @SO.run.eq_10 <|Z3 @SO.run.eq_11 <|Z3 @SO.run.eq_12 <|Z3 @SO.run.eq_13 <|Z3 @SO.run.eq_14 <|Z3 @SO.run.eq_15 <|Z3 @SO.run.eq_16 <|Z3 @SO.run.eq_17 <|Z3 @SO.run.eq_18 <|Z3 @SO.run.eq_19 <|Z3 @SO.run.eq_20 <|Z3 @SO.run.eq_21 <|Z3 @SO.run.eq_22 <|Z3 @SO.run.eq_23 <|Z3 @SO.run.eq_24 <|Z3 @SO.run.eq_25 <|Z3 @SO.run.eq_26 <|Z3 @SO.run.eq_27 <|Z3 @SO.run.eq_28 <|Z3 @SO.run.eq_29 <|Z3 @SO.run.eq_30 <|Z3 @SO.run.eq_31 <|@SO.run.eq_32) :=
 Z3 sx <|Z3 sy <|Z3 @adq.{0} <|Z3 @Ns.{0} <|Z3 @decide_true <|Z3 @decide_false <|Z3 @Q_ <|Z3 @SM <|
 Z3 @SO.run.eq_1 <|Z3 @SO.run.eq_2 <|Z3 @SO.run.eq_3 <|Z3 @SO.run.eq_4 <|Z3 @SO.run.eq_5 <|Z3 @SO.run.eq_6 <|Z3 @SO.run.eq_7 <|Z3 @SO.run.eq_8 <|Z3 @SO.run.eq_9 <|Z3 @SO.run.eq_10 <|Z3 @SO.run.eq_11 <|Z3 @SO.run.eq_12 <|Z3 @SO.run.eq_13 <|Z3 @SO.run.eq_14 <|Z3 @SO.run.eq_15 <|Z3 @SO.run.eq_16 <|Z3 @SO.run.eq_17 <|Z3 @SO.run.eq_18 <|Z3 @SO.run.eq_19 <|Z3 @SO.run.eq_20 <|Z3 @SO.run.eq_21 <|Z3 @SO.run.eq_22 <|Z3 @SO.run.eq_23 <|Z3 @SO.run.eq_24 <|Z3 @SO.run.eq_25 <|Z3 @SO.run.eq_26 <|Z3 @SO.run.eq_27 <|Z3 @SO.run.eq_28 <|Z3 @SO.run.eq_29 <|Z3 @SO.run.eq_30 <|Z3 @SO.run.eq_31 <|@SO.run.eq_32
end
end Hx
section
namespace Hx
def SC.gA:SC->Nat->SC
 |.seq a b,p=>bif Nat.beq p 1 then .seq a b else bif Nat.testBit p 0 then b.gA (p / 2) else a.gA (p / 2)
 |.cond c a b,p=>bif Nat.beq p 1 then .cond c a b else bif Nat.testBit p 0 then b.gA (p / 2) else a.gA (p / 2)
 |.blk i a,p=>bif Nat.beq p 1 then .blk i a else a.gA (p / 2)
 |.loop a,p=>bif Nat.beq p 1 then .loop a else a.gA (p / 2)
 |.Yv n f l a b,p=>bif Nat.beq p 1 then .Yv n f l a b else bif Nat.testBit p 0 then b.gA (p / 2) else a.gA (p / 2)
 |c,_=>c
def SC.gP:SC->Nat->SC->SC
 |.seq a b,p,x=>bif Nat.beq p 1 then x else bif Nat.testBit p 0 then .seq a (b.gP (p / 2) x) else .seq (a.gP (p / 2) x) b
 |.cond c a b,p,x=>bif Nat.beq p 1 then x else bif Nat.testBit p 0 then .cond c a (b.gP (p / 2) x) else .cond c (a.gP (p / 2) x) b
 |.blk i a,p,x=>bif Nat.beq p 1 then x else .blk i (a.gP (p / 2) x)
 |.loop a,p,x=>bif Nat.beq p 1 then x else .loop (a.gP (p / 2) x)
 |.Yv n f l a b,p,x=>bif Nat.beq p 1 then x else bif Nat.testBit p 0 then .Yv n f l a (b.gP (p / 2) x) else .Yv n f l (a.gP (p / 2) x) b
 |_,_,x=>x
def SC.gL(c:SC):List (Nat×SC)->SC
 |[]=>c
 | (q,x)::r=>(c.gP q x).gL r
def SF.gF(f:SF)(l:List (Nat×SC)):SF:=⟨f.nt,f.res,f.code.gL l⟩
def cG:Option SF->SF
 |some f=>f
 |none=>⟨0,[],.skip⟩
end Hx
end
namespace Hx
open Go
noncomputable section
variable {g:G}{t:T}{df:List ZU}{f d nt n:Nat}{v:AV}{xs:List AV}{op:Op}{dst:Option Nat}{b:SC}
end
end Hx
