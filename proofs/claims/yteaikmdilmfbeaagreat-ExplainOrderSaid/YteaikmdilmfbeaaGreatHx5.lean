/- A part of the proof: what the functions of the chapter compute. -/
import Derived.AtR
import Derived.Test.YteaikmdilmfbeaaGreatHx4
set_option linter.all false
set_option maxRecDepth 20000
set_option maxHeartbeats 8000000
namespace Hx
open Go
noncomputable section
variable {v:AV}{h:H}{k n i off nt j d m:Nat}{g:G}{P:Nat->Prop}{cs row:List AV}{t:T}{C:Cfg}{l:List Int}{df:List ADf}{rd:Option Nat}{x:Int}
structure SI where
 dst:Option Nat
 gd:Option (Nat×Bool)
 op:SO
inductive SC where
 |skip
 |ops (l:List SI)
 |quiet (l:List SI)
 |feet (pm:List Nat) (l:List SI)
 |seq (a b:SC)
 |cond (c:Od) (a b:SC)
 |blk (id:Nat) (b:SC)
 |loop (b:SC)
 |exit (id:Nat)
 |ret
 |rng (nt:Nat) (f:Od) (ps:List Nat) (assign body:SC)
 |raw (nt:Nat) (c:Code)
def OR.sat(r:OR)(K:AV->G->Prop)(g:G)(D:ADf->Prop):Prop :=
 match r with
 |.fail=>False
 |.val v=>K v g
 |.upd v g'=>K v g'
 |.dfr a=>D a
def CR.sat(r:CR)(Q:Ex->T->List ADf->G->Prop):Prop :=
 match r with
 |.fail=>False
 |.ok e t df g=>Q e t df g
def FR.sat(r:FR)(Q:AV->G->Prop):Prop :=
 match r with
 |.fail=>False
 |.ok v g=>Q v g
def Ed(dst:Option Nat)(t:T)(v:AV):T:=match dst with|none=>t|some d=>d6 t d v
abbrev PT:=T->List ADf->G->Prop
abbrev QT:=Ex->T->List ADf->G->Prop
def xu(q:Bool)(A B:PT)(t:T)(df:List ADf)(g:G):Prop:=(q=true->A t df g)/\(q=false->B t df g)
def gdP(v:AV)(w:Bool)(A B:PT)(t:T)(df:List ADf)(g:G):Prop :=
 match v with
 |.bool q=>ay w (xu q A B t df g) (xu q B A t df g)
 |.tup _=>B t df g
 |_=>False
def kO(W:PT)(dst:Option Nat)(t:T)(df:List ADf)(v:AV)(g:G):Prop:=W (Ed dst t v) df g
def kD(W:PT)(dst:Option Nat)(t:T)(df:List ADf)(g:G)(a:ADf):Prop:=W (Ed dst t .undef) (a::df) g
def F9(C:Cfg)(d:Nat)(rd:Option Nat)(i:SI)(W:PT)(t:T)(df:List ADf)(g:G):Prop:=(i.op.run C d rd t g).sat (kO W i.dst t df) g (kD W i.dst t df g)
def Br(i:SI)(W:PT)(t:T)(df:List ADf)(g:G):Prop:=W (Ed i.dst t .undef) df g
def wpO(C:Cfg)(d:Nat)(rd:Option Nat):List SI->PT->T->List ADf->G->Prop
 |[],Q,t,df,g=>Q t df g
 | i::r,Q,t,df,g =>
  match i.gd with
  |none=>F9 C d rd i (wpO C d rd r Q) t df g
  |some (s,w)=>gdP (tat t s) w (F9 C d rd i (wpO C d rd r Q)) (Br i (wpO C d rd r Q)) t df g
def SO.foot(C:Cfg)(t:T)(g:G):SO->Looks
 |.load _ _ a=>am (an (a.get t))
 |.store _ a _=>am (an (a.get t))
 |.slc _ a _ _=>am (an (a.get t))
 |.sla _ _ a _ _=>am (an (a.get t))
 |.ixs _ a _=>am (an (a.get t))
 |.app _ _ a x=>am (an (a.get t)++an (x.get t))
 |.cpy _ a x=>am (an (a.get t)++an (x.get t))
 |.mx a x=>am (an (a.get t)++an (x.get t))
 |.mn a x=>am (an (a.get t)++an (x.get t))
 |.len lk a=>match lk with|.map=>am (w_ (a.get t))|_=>aE
 |.call f as=>ay ((C.ext f).isSome || C.iso f) (am ((fZ t as).flatMap (aw g.h aC))) cd
 | .dyn f as=>match f.get t with
  |.clo f first cap=>ay ((C.ext f).isSome || C.iso f) (am ((first++(fZ t as++cap)).flatMap (aw g.h aC))) cd
  |_=>cd
 |.raw op=>(aO C op).run t g
 |_=>aE
abbrev FT:=T->List ADf->G->List Foot->Prop
def kF(W:FT)(dst:Option Nat)(t:T)(df:List ADf)(lg:List Nat)(fs:List Foot)(lk:Looks)(v:AV)(g':G):Prop:=W (Ed dst t v) df (pp g' (g'.lg++lg)) (⟨lk,g'.lg⟩::fs)
def Km(C:Cfg)(d:Nat)(rd:Option Nat)(i:SI)(W:FT)(fs:List Foot)(t:T)(df:List ADf)(g:G):Prop :=
 (i.op.run C d rd t (aR g [])).sat (kF W i.dst t df g.lg fs (i.op.foot C t g)) (aR g []) (λ_=>False)
def Gb(i:SI)(W:FT)(fs:List Foot)(t:T)(df:List ADf)(g:G):Prop:=W (Ed i.dst t .undef) df g (⟨aE,[]⟩::fs)
def wpF(C:Cfg)(d:Nat)(rd:Option Nat)(pm:List Nat):List SI->PT->T->List ADf->G->List Foot->Prop
 |[],Q,t,df,g,fs=>qH pm fs.reverse=true/\Q t df g
 | i::r,Q,t,df,g,fs =>
  match i.gd with
  |none=>Km C d rd i (wpF C d rd pm r Q) fs t df g
  |some (s,w)=>gdP (tat t s) w (Km C d rd i (wpF C d rd pm r Q) fs) (Gb i (wpF C d rd pm r Q) fs) t df g
def kS(W:PT)(Q:QT)(e:Ex)(t:T)(df:List ADf)(g:G):Prop:=match e with|.norm=>W t df g|e=>Q e t df g
def kB(id:Nat)(Q:QT)(e:Ex)(t:T)(df:List ADf)(g:G):Prop:=match e with|.exit j=>ay (Nat.beq j id) (Q .norm t df g) (Q (.exit j) t df g)|e=>Q e t df g
def kL(Inv:Nat->PT)(k:Nat)(Q:QT)(e:Ex)(t:T)(df:List ADf)(g:G):Prop:=match e with|.norm=>∃k',k'<k/\Inv k' t df g|e=>Q e t df g
def kQ(g0:G)(Q:QT)(t:T)(df:List ADf)(g:G):Prop:=g.lg=[]/\g.nx=g0.nx/\Q .norm t df g0
def wpC(v:AV)(A B:PT)(t:T)(df:List ADf)(g:G):Prop:=match v with|.bool q=>xu q A B t df g|_=>False
def wpL(W:QT->PT)(Q:QT)(t:T)(df:List ADf)(g:G):Prop :=
 ∃Inv:Nat->PT,(∃k,Inv k t df g)/\∀k t df g,Inv k t df g->W (kL Inv k Q) t df g
def nGd(all:List Oper):Option (Nat×Bool)->Option (Option (Nat×Bool))
 |none=>some none
 | some (j,w)=>match all[j]? with
  | some o=>match o.dst with
   |some d=>some (some (d,w))
   |none=>none
  |none=>none
def Rn(nt:Nat):Option Nat->Bool
 |none=>true
 |some d=>Nat.blt d nt
def J5(C:Cfg)(nt:Nat)(all:List Oper):List Oper->Option (List SI)
 |[]=>some []
 | o::rest=>match Rn nt o.dst,nGd all o.guard,J5 C nt all rest with
  |true,some gd,some r=>some (⟨o.dst,gd,nOp C o.op⟩::r)
  |_,_,_=>none
def eL(C:Cfg)(nt:Nat):Code->SC
 |.skip=>.skip
 |.label _=>.skip
 | .region p ops draw=>match J5 C nt ops.toList ops.toList with
  |some l=>ay draw (ay (Ec ops.toList) (ay (ops.toList.all λo=>zo C o.op) (.quiet l) (.feet (bo ops.toList []) l)) (.raw nt (.region p ops draw))) (.ops l)
  |none=>.raw nt (.region p ops draw)
 |.seq a b=>.seq (eL C nt a) (eL C nt b)
 | .cond c a b=>match nOd C c with
  |some c=>.cond c (eL C nt a) (eL C nt b)
  |none=>.raw nt (.cond c a b)
 |.block id b=>.blk id (eL C nt b)
 |.loop b=>.loop (eL C nt b)
 |.scope b=>eL C nt b
 |.exit id=>.exit id
 |.ret=>.ret
 | .rangeFunc f ps assign body=>match nOd C f with
  |some f=>.rng nt f ps.toList (eL C nt assign) (eL C nt body)
  |none=>.raw nt (.rangeFunc f ps assign body)
 |c=>.raw nt c
def wp(C:Cfg)(d:Nat)(rd:Option Nat):SC->QT->T->List ADf->G->Prop
 |.skip,Q,t,df,g=>Q .norm t df g
 |.ops l,Q,t,df,g=>wpO C d rd l (Q .norm) t df g
 |.quiet l,Q,t,df,g=>wpO C d rd l (kQ g Q) t df (aR g [])
 |.feet pm l,Q,t,df,g=>wpF C d rd pm l (Q .norm) t df g []
 |.seq a b,Q,t,df,g=>wp C d rd a (kS (wp C d rd b Q) Q) t df g
 |.cond c a b,Q,t,df,g=>wpC (c.get t) (wp C d rd a Q) (wp C d rd b Q) t df g
 |.blk id b,Q,t,df,g=>wp C d rd b (kB id Q) t df g
 |.loop b,Q,t,df,g=>wpL (wp C d rd b) Q t df g
 |.exit id,Q,t,df,g=>Q (.exit id) t df g
 |.ret,Q,t,df,g=>Q .ret t df g
 |.rng nt f ps a b,Q,t,df,g=>∀assign body,eL C nt assign=a->eL C nt body=b->(nq C nt (λt=>f.get t) ps assign body (I C) d rd t df g).sat Q
 |.raw nt c,Q,t,df,g=>((aS C nt c).run (I C) d rd t df g).sat Q
theorem IN{dst:Option Nat}(h:Rn nt dst=true):∃o,qb nt dst=some o/\∀t v,o.run t v=Ed dst t v:=by
 cases dst with
 |none=>exact⟨_,rfl,λt v=>rfl⟩
 | some d =>
  refine⟨sp AV.undef d,?_,λt v=>rfl⟩;have h:Nat.blt d nt=true:=h;simp only[qb,h]
theorem Cr{all:List Oper}{w:Bool}{r:Option (Nat×Bool)}(h:nGd all (some (j,w))=some r) :
  ∃s,r=some (s,w)/\iV all (some (j,w))=some ⟨λt=>match (gp AV.undef s).run t with|.bool b=>some (ay w b (jz b))|.tup _=>some false|_=>none⟩:=by
 unfold nGd at h;dsimp only at h
 split at h
 ·rename_i o ho
  split at h
  ·rename_i d hd;injection h with h;exact⟨d,h.symm,by simp only[iV,ho,hd];rfl⟩
  ·cases h
 ·cases h
theorem Bn{out:T->AV->T}{dst:Option Nat}(ho:∀t v,out t v=Ed dst t v){next:T->List ADf->G->CR}{Q:QT}{K:PT}(hk:∀t df g,K t df g->(next t df g).sat Q)
     {r:OR} (h:r.sat (kO K dst t df) g (kD K dst t df g)):(pd out next t df g r).sat Q:=by
 cases r with
 |fail=>exact h.elim
 |val v=>exact hk _ _ _ (by rw[ho];exact h)
 |upd v g'=>exact hk _ _ _ (by rw[ho];exact h)
 |dfr a=>exact hk _ _ _ (by rw[ho];exact h)
theorem Fk{w:Bool}{A B:PT}(h:gdP v w A B t df g) :
  ∃q,(match v with|.bool b=>some (ay w b (jz b))|.tup _=>some false|_=>none:Option Bool)=some q/\(q=true->A t df g)/\(q=false->B t df g):=by
 unfold gdP at h
 split at h
 ·rename_i q;rw[aa]at h;refine⟨_,rfl,?_,?_⟩
  ·cases w<;>cases q<;>simp_all [xu]
  ·cases w<;>cases q<;>simp_all [xu]
 ·exact⟨false,rfl,λh=>(by cases h),λ_=>h⟩
 ·exact h.elim
theorem NM{all:List Oper}{Q:QT}:∀(l:List Oper) (s:List SI),J5 C nt all l=some s->∀t df g,wpO C d rd s (Q .norm) t df g ->
  ((jU C nt all l).run (I C) d rd t df g).sat Q:=by
 intro l
 induction l with
 |nil=>intro s h t df g hq;injection h with h;subst h;exact hq
 | cons o rest ih =>
  intro s h t df g hq;unfold J5 at h
  split at h
  ·rename_i gd r hd hg hr;injection h with h;subst h;obtain⟨ot,e1,e2⟩:=IN hd;unfold jU;rw[e1];dsimp only;cases hgd:o.guard with
   | none =>
    rw[hgd]at hg;injection hg with hg;subst hg;dsimp only;rw[<-D7];exact Bn e2 (λt df g h=>ih r hr t df g h) hq
   | some jw =>
    obtain⟨j,w⟩:=jw;rw[hgd]at hg;obtain⟨sl,h1,h2⟩:=Cr hg;subst h1;dsimp only;rw[h2];dsimp only;obtain⟨q,h3,h4,h5⟩:=Fk hq;have:(gp AV.undef sl).run t=tat t sl:=gp_run _ _ _;rw[this,h3];cases q with
    | true =>
     dsimp only;rw[<-D7];exact Bn e2 (λt df g h=>ih r hr t df g h) (h4 rfl)
    | false =>
     dsimp only;rw[e2];exact ih r hr _ _ _ (h5 rfl)
  ·cases h
theorem J6{op:Op}(hc:∀c,op≠.call c):(MB C op).foot C t g=(aO C op).run t g:=by
 have k:∀{x:Operand} {o:Od},nOd C x=some o->∃s,aU C x=some s/\∀t,s.run t=o.get t:=bB;unfold MB
 split
 case h_8 ty a =>
  split
  ·rename_i a ag n ha h2 h3;obtain⟨s,hs,he⟩:=k ha;simp only[aO,hs,SO.foot,he]
  ·rfl
 case h_9 ty a x =>
  split
  ·rename_i a x n ha hx h3;obtain⟨s,hs,he⟩:=k ha;simp only[aO,hs,SO.foot,he]
  ·rfl
 case h_16 ty x lo hi =>
  split
  ·rename_i e x l h h0 hx hl b;obtain⟨s,hs,he⟩:=k hx
   split
   ·simp only[aO,hs,SO.foot,he]
   ·rfl
  ·rename_i n e x l h h0 hx hl b;obtain⟨s,hs,he⟩:=k hx
   split
   ·simp only[aO,hs,SO.foot,he]
   ·rfl
  ·rfl
 case h_19 ty x ix =>
  split
  ·rename_i a i ha hi;obtain⟨s,hs,he⟩:=k ha
   split
   ·rename_i e h0
    split
    ·simp only[aO,h0,hs,SO.foot,he]
    ·rfl
   ·rename_i n e h0
    split
    ·simp only[aO,h0,SO.foot]
    ·rfl
   ·rfl
  ·rfl
 all_goals (repeat' (first|rfl|split|rw[aa]))
theorem MA{op:Op}:(nOp C op).foot C t g=(aO C op).run t g:=by
 unfold nOp
 split
 ·rename_i f args ats
  split
  ·rename_i vs j;obtain⟨s,hs,he⟩:=cU j;simp only[SO.foot,aO,aU,hs,he,Ud,T3]
  ·rfl
 ·rename_i fo args ats l
  split
  ·rename_i f vs hf j;obtain⟨s,hs,he⟩:=cU j;obtain⟨m,e,d⟩:=bB hf;simp only[SO.foot,aO,hs,e,he,d];cases Od.get t f<;>rfl
  ·rfl
 ·rename_i b args ats
  split
  ·rename_i x hx;obtain⟨s,hs,he⟩:=cU hx
   split
   ·rename_i ty i;simp only[SO.foot,aO,hs,he,fZ,Uu,UT,T3,lY,i];cases ma C.P ty<;>rfl
   ·rfl
  ·rename_i a x hx;obtain⟨s,hs,he⟩:=cU hx;have k:(aO C (.call { callee:=.builtin .append,args:=args,argTypes:=ats })).run t g=am (an (a.get t)++an (x.get t)):=by simp only[aO,hs,he,fZ,Uu,UT,T3,lY]
   split
   ·split
    ·split
     ·rw[aa];split
      ·exact k.symm
      ·rfl
     ·rfl
    ·rfl
   ·rfl
  ·rename_i a x hx;obtain⟨s,hs,he⟩:=cU hx;have k:(aO C (.call { callee:=.builtin .copy,args:=args,argTypes:=ats })).run t g=am (an (a.get t)++an (x.get t)):=by simp only[aO,hs,he,fZ,Uu,UT,T3,lY]
   split
   ·split
    ·split
     ·exact k.symm
     ·rfl
    ·rfl
   ·rfl
  ·rename_i a x hx;obtain⟨s,hs,he⟩:=cU hx;simp only[SO.foot,aO,hs,he,fZ,Uu,UT,T3,lY]
  ·rename_i a x hx;obtain⟨s,hs,he⟩:=cU hx;simp only[SO.foot,aO,hs,he,fZ,Uu,UT,T3,lY]
  ·rfl
 ·rename_i h1 h2 h3;cases op with
  |call c=>rfl
  |_=>exact J6 (λc h=>by cases h)
theorem Q_{all:List Oper}{pm:List Nat}{Q:QT}:∀(l:List Oper) (s:List SI) (k:Nat),J5 C nt all l=some s->∀t df g fs,wpF C d rd pm s (Q .norm) t df g fs ->
  ((iU C nt pm all k l).run (I C) d rd t df g fs).sat Q:=by
 intro l
 induction l with
 | nil =>
  intro s k h t df g fs hq;injection h with h;subst h;obtain⟨h1,h2⟩:=hq;unfold iU;dsimp only;rw[h1];exact h2
 | cons o rest ih =>
  intro s k h t df g fs hq;unfold J5 at h
  split at h
  ·rename_i gd r hd hg hr;injection h with h;subst h;obtain⟨ot,e1,e2⟩:=IN hd;have step:∀{x:OR},x.sat (kF (wpF C d rd pm r (Q .norm)) o.dst t df g.lg fs ((nOp C o.op).foot C t g)) (aR g []) (λ_=>False) ->
     (lf ot.run ((iU C nt pm all (k+1) rest).run (I C) d rd) t df g fs ((aO C o.op).run t g) x).sat Q:=by
    intro x hx;rw[MA]at hx;cases x with
    |fail=>exact hx.elim
    | val v =>
     simp only[lf,e2];refine ih r _ hr _ _ _ _ ?_;have hx:wpF C d rd pm r (Q .norm) (Ed o.dst t v) df (pp (aR g []) ((aR g []).lg++g.lg)) (⟨(aO C o.op).run t g,(aR g []).lg⟩::fs):=hx;obtain⟨h,nx,lg⟩:=g;exact hx
    | upd v g' =>
     simp only[lf,e2];exact ih r _ hr _ _ _ _ hx
    |dfr a=>exact hx.elim
   unfold iU;rw[e1];cases hgd:o.guard with
   | none =>
    rw[hgd]at hg;injection hg with hg;subst hg;simp only[iV];rw[<-D7];exact step hq
   | some jw =>
    obtain⟨j,w⟩:=jw;rw[hgd]at hg;obtain⟨sl,h1,h2⟩:=Cr hg;subst h1;rw[h2];dsimp only;obtain⟨q,h3,h4,h5⟩:=Fk hq;have:(gp AV.undef sl).run t=tat t sl:=gp_run _ _ _;rw[this,h3];cases q with
    | true =>
     dsimp only;rw[<-D7];exact step (h4 rfl)
    | false =>
     dsimp only;rw[e2];exact ih r _ hr _ _ _ _ (h5 rfl)
  ·cases h
theorem CR.sat_mono{r:CR}{Q Q':QT}(h:r.sat Q)(hq:∀e t df g,Q e t df g->Q' e t df g):r.sat Q':=by
 cases r with
 |fail=>exact h
 |ok e t df g=>exact hq _ _ _ _ h
theorem Qa:∀(c:Code) (Q:QT) (t:T) (df:List ADf) (g:G),wp C d rd (eL C nt c) Q t df g->((aS C nt c).run (I C) d rd t df g).sat Q:=by
 intro c
 induction c with
 | seq a b iha ihb =>
  intro Q t df g h;have h:=iha _ t df g h;show (Ce _ ((aS C nt a).run (I C) d rd t df g)).sat Q;cases hr:(aS C nt a).run (I C) d rd t df g with
  |fail=>rw[hr]at h;exact h
  | ok e t1 df1 g1 =>
   rw[hr]at h;cases e with
   |norm=>exact ihb _ _ _ _ h
   |exit j=>exact h
   |ret=>exact h
 | cond q a b iha ihb =>
  intro Q t df g h;unfold eL at h
  split at h
  ·rename_i o ho;obtain⟨s,hs,he⟩:=bB ho;simp only[aS,hs,he];have h:wpC (o.get t) (wp C d rd (eL C nt a) Q) (wp C d rd (eL C nt b) Q) t df g:=h;unfold wpC at h;cases hv:Od.get t o with
   | bool v =>
    rw[hv]at h;cases v with
    |true=>exact iha _ _ _ _ (h.1 rfl)
    |false=>exact ihb _ _ _ _ (h.2 rfl)
   |_=>rw[hv]at h;exact h.elim
  ·exact h
 | block id body ih =>
  intro Q t df g h;have h:=ih _ t df g h;show (uR id ((aS C nt body).run (I C) d rd t df g)).sat Q;cases hr:(aS C nt body).run (I C) d rd t df g with
  |fail=>rw[hr]at h;exact h
  | ok e t1 df1 g1 =>
   rw[hr]at h;cases e with
   |norm=>exact h
   | exit j =>
    have h:ay (Nat.beq j id) (Q .norm t1 df1 g1) (Q (.exit j) t1 df1 g1):=h;show (ay (Nat.beq j id) _ _:CR).sat Q;cases hb:Nat.beq j id
    ·rw[hb]at h;exact h
    ·rw[hb]at h;exact h
   |ret=>exact h
 | loop body ih =>
  intro Q t df g h;obtain⟨Inv,⟨k,hk⟩,hs⟩:=h
  induction k using Nat.strongRecOn generalizing t df g with
  | _ k rec =>
   have h:=ih _ t df g (hs k t df g hk);show (Ce (λt df g=>(I C).code nt d rd (.loop body) t df g) ((aS C nt body).run (I C) d rd t df g)).sat Q;cases hr:(aS C nt body).run (I C) d rd t df g with
   |fail=>rw[hr]at h;exact h
   | ok e t1 df1 g1 =>
    rw[hr]at h;cases e with
    | norm =>
     obtain⟨k',hlt,hi⟩:=h;show ((I C).code nt d rd (.loop body) t1 df1 g1).sat Q;rw[Gr];exact rec k' hlt t1 df1 g1 hi
    |exit j=>exact h
    |ret=>exact h
 |scope body ih=>intro Q t df g h;exact ih _ _ _ _ h
 | region p ops draw =>
  intro Q t df g h;show ((fV C nt ops.toList draw).run (I C) d rd t df g).sat Q;unfold eL at h
  split at h
  ·rename_i l hl;rw[aa,aa,aa]at h;unfold fV;rw[aa,aa,aa]
   split
   ·rename_i hd;rw[TO hd]at h
    split
    ·rename_i ho;rw[TO ho]at h
     split
     ·rename_i hq;rw[TO hq]at h;have h:wpO C d rd l (kQ g Q) t df (aR g []):=h;have h:=NM (C:=C) (d:=d) (rd:=rd) (Q:=λe t df g'=>e=.norm/\g'.lg=[]/\g'.nx=g.nx/\Q .norm t df g) (nt:=nt) (all:=ops.toList) ops.toList l hl t df (aR g [])
       (by
        refine cast ?_ h;congr 1;funext t df g';simp[kQ])
      dsimp only;cases hr:(jU C nt ops.toList ops.toList).run (I C) d rd t df (aR g []) with
      |fail=>rw[hr]at h;exact h
      | ok e t1 df1 g1 =>
       rw[hr]at h;obtain⟨h0,h1,h2,h3⟩:=h;subst h0;simp only[np,h1,h2,Uv];exact h3
     ·rename_i hq;rw[TN hq]at h;exact Q_ _ l 0 hl _ _ _ _ h
    ·rename_i ho;rw[TN ho]at h;unfold wp at h;simp only[aS,fV,aa,TO hd,TN ho]at h;exact h
   ·rename_i hd;rw[TN hd]at h;exact NM _ l hl _ _ _ h
  ·exact h
 | rangeFunc f ps assign body _ _ =>
  intro Q t df g h;unfold eL at h
  split at h
  ·rename_i o ho;obtain⟨s,hs,he⟩:=bB ho;have he:s.run=λt=>o.get t:=funext he;simp only[aS,hs,he];exact h assign body rfl rfl
  ·exact h
 |skip=>intro Q t df g h;exact h
 |label l=>intro Q t df g h;exact h
 |exit id=>intro Q t df g h;exact h
 |ret=>intro Q t df g h;exact h
 |goto l=>intro Q t df g h;exact h
 |refuse w=>intro Q t df g h;exact h
theorem OR.sat_mono{r:OR}{K K':AV->G->Prop}{D D':ADf->Prop}(h:r.sat K g D)(hk:∀v g',K v g'->K' v g')(hd:∀a,D a->D' a):r.sat K' g D':=by
 cases r with
 |fail=>exact h
 |val v=>exact hk _ _ h
 |upd v g'=>exact hk _ _ h
 |dfr a=>exact hd _ h
inductive SR where
 |tm (n:Nat)
 |cell (ag:Bool) (n a:Nat)
structure SF where
 nt:Nat
 res:List SR
 code:SC
def D8(C:Cfg):List ResultVar->Option (List SR)
 |[]=>some []
 | .tmp n::rs=>match D8 C rs with
  |some k=>some (.tm n::k)
  |none=>none
 | .cell a ty::rs=>match D8 C rs,sj C.P ty,szT C.P ty with
  |some k,some ag,some n=>some (.cell ag n a::k)
  |_,_,_=>none
def nFn(C:Cfg)(f:Nat):Option SF :=
 match C.P.funcs[f]? with
 |none=>none
 | some fn=>match fn.body with
  |none=>none
  | some c=>match D8 C fn.results.toList with
   | some r => ay (fn.name == "runtime.NumGoroutine") none (some ⟨fn.ntmps, r, eL C fn.ntmps c⟩)
   |none=>none
def xe:List SR->T->G->(List AV->Prop)->Prop
 |[],_,_,K=>K []
 |.tm n::rs,t,g,K=>xe rs t g λvs=>K (tat t n::vs)
 | .cell ag n a::rs,t,g,K=>match rR ag n (tat t a) g with
  |.val v=>xe rs t g λvs=>K (v::vs)
  |_=>False
theorem O1:∀(l:List ResultVar) (r:List SR) (K:List AV->Prop),D8 C l=some r->xe r t g K->∃s vs,rT C l=some s/\s.run t g=some vs/\K vs:=by
 intro l
 induction l with
 |nil=>intro r K h hk;injection h with h;subst h;exact⟨_,[],rfl,rfl,hk⟩
 | cons x l ih =>
  intro r K h hk;cases x with
  | tmp n =>
   unfold D8 at h
   split at h
   ·rename_i k hr;injection h with h;subst h;obtain⟨s,vs,h1,h2,h3⟩:=ih k _ hr hk;refine⟨⟨λt g=>match s.run t g with|some vs=>some ((gp AV.undef n).run t::vs)|none=>none⟩,tat t n::vs,by simp only[rT,h1];rfl,?_,h3⟩;simp only[h2,gp_run];rfl
   ·cases h
  | cell a ty =>
   unfold D8 at h
   split at h
   ·rename_i k ag n hr ha b;injection h with h;subst h;unfold xe at hk
    split at hk
    ·rename_i v c;obtain⟨s,vs,h1,h2,h3⟩:=ih k _ hr hk;have hl:nh ag n (gp AV.undef a).run t g=.val v:=by rw[<-c];simp only[rR,nh,gp_run];rfl
     refine⟨⟨λt g=>match nh ag n (gp AV.undef a).run t g with|.val v=>(match s.run t g with|some vs=>some (v::vs)|none=>none)|_=>none⟩,v::vs,
      by simp only[rT,h1,cw,aU,ha,b];rfl,?_,h3⟩
     simp only[hl,h2]
    ·exact hk.elim
   ·cases h
def u7(C:Cfg)(d:Nat)(r:List SR)(t:T)(df:List ADf)(g:G)(K:AV->G->Prop):Prop :=
 match d8 (I C) d df g with
 |some g'=>xe r t g' λvs=>K (gQ vs) g'
 |none=>False
def fnQ(C:Cfg)(d:Nat)(r:List SR)(K:AV->G->Prop):QT:=λe t df g=>match e with|.exit _=>False|_=>u7 C d r t df g K
theorem qj{f:Nat}{s:SF}(hf:nFn C f=some s){as:List AV}{K:AV->G->Prop}(hl:as.length<=s.nt)(h:wp C d none s.code (fnQ C d s.res K) (bN 0 as .nil) [] g) :
  ((I C).call d f as g).sat K:=by
 rw[Qc];unfold nFn at hf
 split at hf
 ·cases hf
 rename_i fn m
 split at hf
 ·cases hf
 rename_i c hc
 split at hf
 rotate_left
 ·cases hf
 rename_i r hr;rw[aa]at hf
 split at hf
 ·cases hf
 rename_i p;injection hf with hf;subst hf;have h:=Qa c _ _ _ _ h;have b:∃s,rT C fn.results.toList=some s:=by
  have:∀(l:List ResultVar) (r:List SR),D8 C l=some r->∃s,rT C l=some s:=by
   intro l
   induction l with
   |nil=>intro r _;exact⟨_,rfl⟩
   | cons x l ih =>
    intro r h;cases x with
    | tmp n =>
     unfold D8 at h
     split at h
     ·rename_i k hr;obtain⟨s,hs⟩:=ih k hr;exact⟨_,by simp only[rT,hs];rfl⟩
     ·cases h
    | cell a ty =>
     unfold D8 at h
     split at h
     ·rename_i k ag n hr ha p;obtain⟨s,hs⟩:=ih k hr;exact⟨_,by simp only[rT,hs,cw,aU,ha,p];rfl⟩
     ·cases h
  exact this _ _ hr
 obtain⟨rs,i⟩:=b;unfold eE cFn;simp only[m,hc,i,aa,TN p];rw[TO (by rw[aA,Uw];exact hl)];cases hrun:(aS C fn.ntmps c).run (I C) d none (bN 0 as .nil) [] g with
 |fail=>rw[hrun]at h;exact h
 | ok e t df g' =>
  rw[hrun]at h;have key:u7 C d r t df g' K->(cT (I C) d rs.run t df g').sat K:=by
   intro h;unfold u7 at h;unfold cT
   split at h
   ·rename_i g2 o;rw[o];obtain⟨q,vs,h1,h2,h3⟩:=O1 _ _ _ hr h;rw[i]at h1;injection h1 with h1;subst h1;simp only[h2];exact h3
   ·exact h.elim
  cases e with
  |exit j=>exact h
  |norm=>exact key h
  |ret=>exact key h
def All2{α β:Type}(R:α->β->Prop):List α->List β->Prop
 |[],[]=>True
 |a::as,b::bs=>R a b/\All2 R as bs
 |_,_=>False
section all2
variable {α β:Type}{R S:α->β->Prop}
theorem All2.len:∀{l:List α} {m:List β},All2 R l m->l.length=m.length
 |[],[],_=>rfl
 |_::_,_::_,h=>by simp only[Uq,All2.len h.2]
theorem All2.mono(hs:∀a b,R a b->S a b):∀{l:List α} {m:List β},All2 R l m->All2 S l m
 |[],[],_=>trivial
 |_::_,_::_,h=>⟨hs _ _ h.1,All2.mono hs h.2⟩
theorem All2.get:∀{l:List α} {m:List β},All2 R l m->∀{i:Nat} {a:α},l[i]?=some a->∃b,m[i]?=some b/\R a b
 |_::_,b::_,h,0,_,e=>by simp at e;subst e;exact⟨b,rfl,h.1⟩
 |_::_,_::_,h,i+1,a,e=>by simpa using All2.get h.2 (i:=i) (by simpa using e)
 |[],[],_,i,a,e=>by simp at e
theorem All2.append:∀{l:List α} {m:List β} {l':List α} {m':List β},All2 R l m->All2 R l' m'->All2 R (l++l') (m++m')
 |[],[],_,_,_,h'=>h'
 |_::_,_::_,_,_,h,h'=>⟨h.1,All2.append h.2 h'⟩
theorem All2.take:∀{l:List α} {m:List β},All2 R l m->∀(i:Nat),All2 R (l.take i) (m.take i)
 |[],[],_,_=>by simp[All2]
 |_::_,_::_,h,0=>by simp[All2]
 |_::_,_::_,h,i+1=>⟨h.1,All2.take h.2 i⟩
theorem All2.drop:∀{l:List α} {m:List β},All2 R l m->∀(i:Nat),All2 R (l.drop i) (m.drop i)
 |[],[],_,_=>by simp[All2]
 |_::_,_::_,h,0=>h
 |_::_,_::_,h,i+1=>All2.drop h.2 i
theorem RN{f:α->β}(h:∀a,R a (f a)):∀l:List α,All2 R l (l.map f)
 |[]=>trivial
 |a::l=>⟨h a,RN h l⟩
theorem All2.eq_map{f:α->β}(hf:∀a b,R a b->b=f a):∀{l:List α} {m:List β},All2 R l m->m=l.map f
 |[],[],_=>rfl
 |a::l,b::m,h=>by rw[VT,hf _ _ h.1,All2.eq_map hf h.2]
end all2
def NoP:Nat->Prop:=λ_=>False
class Rp (α:Type) where
 sz:Nat
 dp:Nat
 rp:(Nat->Prop)->Nat->H->α->List AV->Prop
 len:∀{P k h x cs},rp P k h x cs->cs.length=sz
 mono:∀{P P':Nat->Prop} {k k':Nat} {h h':H} {x:α} {cs:List AV},rp P k h x cs->(∀i,P i->P' i/\h'.get i=h.get i)->k<=k'->rp P' k' h' x cs
 snap:∀{P k h x cs n} (d:Nat),rp P k h x cs->dp<=n->dp<=aC->∃cs',aF (Hx.snap h d n) cs=some cs'/\rp NoP (max k d) .nil x cs'
 same:∀{k h x cs n} (d:Nat),rp NoP k h x cs->dp<=n->aF (Hx.snap h d n) cs=some cs
 ids:∀{P k h x cs n},rp P k h x cs->∀i∈cs.flatMap (aw h n),P i
 tag:∀{k h x cs n},rp NoP k h x cs->dp<=n->∃m,eV (dZ n) cs=some m/\m<=k
theorem Rp.tree{α:Type} [Rp α]{k':Nat}{h':H}{x:α}(r:Rp.rp NoP k h x cs)(hk:k<=k'):Rp.rp P k' h' x cs :=
 Rp.mono r (λ_ h=>h.elim) hk
def AV.flat:AV->Bool
 |.bool _|.int _ _|.str _=>true
 |_=>false
theorem De(hv:v.flat=true)(hn:1<=n):Hx.snap h d n v=some v:=by obtain⟨n,rfl⟩:∃m,n=m+1:=⟨n - 1,by omega⟩;cases v<;>first|rfl|cases hv
theorem Nz(hv:v.flat=true)(hn:1<=n):dZ n v=some 0:=by obtain⟨n,rfl⟩:∃m,n=m+1:=⟨n - 1,by omega⟩;cases v<;>first|rfl|cases hv
theorem L6{h:H}{n:Nat}{v:AV}(hv:v.flat=true):aw h n v=[]:=by
 cases n with
 |zero=>rfl
 |succ n=>cases v<;>first|rfl|cases hv
@[reducible] def Rp.plain {α:Type} (f:α->AV) (ok:α->Prop) (hf:∀x,(f x).flat=true):Rp α where
 sz:=1
 dp:=1
 rp:=λ_ _ _ x cs=>cs=[f x]/\ok x
 len:=by rintro P k h x cs ⟨rfl,-⟩;rfl
 mono:=λr _ _=>r
 snap:=by rintro P k h x cs n d ⟨rfl,ho⟩ hn _;exact⟨[f x],by simp only[aF,De (hf x) hn],rfl,ho⟩
 same:=by rintro k h x cs n d ⟨rfl,ho⟩ hn;simp only[aF,De (hf x) hn]
 ids:=by rintro P k h x cs n ⟨rfl,ho⟩ i hi;simp[L6 (hf x)]at hi
 tag:=by rintro k h x cs n ⟨rfl,ho⟩ hn;exact⟨0,by simp[eV,Nz (hf x) hn],Uj _⟩
def ci(x:Int):List AV:=[.int .i64 x]
def cu(x:Nat):List AV:=[.int .u64 (x:Int)]
instance : Rp Int:=Rp.plain (λx=>.int .i64 x) (λ_=>True) (λ_=>rfl)
instance : Rp Bool:=Rp.plain (λx=>.bool x) (λ_=>True) (λ_=>rfl)
instance : Rp Nat:=Rp.plain (λx=>.int .u64 (x:Int)) (λx=>x<18446744073709551616) (λ_=>rfl)
instance : Rp UInt8:=Rp.plain (λx=>.int .u8 (x.toNat:Int)) (λ_=>True) (λ_=>rfl)
instance : Rp UInt16:=Rp.plain (λx=>.int .u16 (x.toNat:Int)) (λ_=>True) (λ_=>rfl)
theorem tN{α β:Type}{f:α->Option β}:∀{l m:List α} {a b:List β},aF f l=some a->aF f m=some b->aF f (l++m)=some (a++b)
 |[],m,a,b,h1,h2=>by injection h1 with h1;subst h1;exact h2
 | x::l,m,a,b,h1,h2=>by
  unfold aF at h1
  split at h1
  ·rename_i y k
   split at h1
   ·rename_i ys h;injection h1 with h1;subst h1;simp only[T4,aF,k,tN h h2]
   ·cases h1
  ·cases h1
theorem yA{α:Type}{f:α->Option Nat}:∀{l m:List α} {a b:Nat},eV f l=some a->eV f m=some b->eV f (l++m)=some (max a b)
 |[],m,a,b,h1,h2=>by injection h1 with h1;subst h1;simpa using h2
 | x::l,m,a,b,h1,h2=>by
  unfold eV at h1
  split at h1
  ·rename_i y k
   split at h1
   ·rename_i ys h;injection h1 with h1;subst h1;simp only[T4,eV,k,yA h h2,Vj,Nat.max_def]
    repeat' split
    all_goals omega
   ·cases h1
  ·cases h1
instance {α β:Type} [Rp α] [Rp β]:Rp (α×β) where
 sz:=Rp.sz α+Rp.sz β
 dp:=max (Rp.dp α) (Rp.dp β)
 rp:=λP k h x cs=>∃a b,cs=a++b/\Rp.rp P k h x.1 a/\Rp.rp P k h x.2 b
 len:=by rintro P k h x cs ⟨a,b,rfl,h1,h2⟩;rw[Vl,Rp.len h1,Rp.len h2]
 mono:=by rintro P P' k k' h h' x cs ⟨a,b,rfl,h1,h2⟩ hp hk;exact⟨a,b,rfl,Rp.mono h1 hp hk,Rp.mono h2 hp hk⟩
 snap:=by rintro P k h x cs n d ⟨a,b,rfl,h1,h2⟩ hn hA;obtain⟨a',e1,r1⟩:=Rp.snap (n:=n) d h1 (by omega) (by omega);obtain⟨b',e2,r2⟩:=Rp.snap (n:=n) d h2 (by omega) (by omega);exact⟨a'++b',tN e1 e2,a',b',rfl,r1,r2⟩
 same:=by rintro k h x cs n d ⟨a,b,rfl,h1,h2⟩ hn;exact tN (Rp.same d h1 (by omega)) (Rp.same d h2 (by omega))
 ids:=by
  rintro P k h x cs n ⟨a,b,rfl,h1,h2⟩ i hi;rw[List.flatMap_append,Uk]at hi;rcases hi with hi|hi
  ·exact Rp.ids h1 i hi
  ·exact Rp.ids h2 i hi
 tag:=by rintro k h x cs n ⟨a,b,rfl,h1,h2⟩ hn;obtain⟨m1,e1,l1⟩:=Rp.tag (n:=n) h1 (by omega);obtain⟨m2,e2,l2⟩:=Rp.tag (n:=n) h2 (by omega);exact⟨max m1 m2,yA e1 e2,by omega⟩
@[reducible] def Rp.via {α β:Type} [Rp β] (f:α->β):Rp α where
 sz:=Rp.sz β
 dp:=Rp.dp β
 rp:=λP k h x cs=>Rp.rp P k h (f x) cs
 len:=Rp.len
 mono:=Rp.mono
 snap:=Rp.snap
 same:=Rp.same
 ids:=Rp.ids
 tag:=Rp.tag
def SlV{α:Type} [Rp α](P:Nat->Prop)(k:Nat)(h:H)(l:List α)(v:AV):Prop :=
 match v with
 |.nils|.esl=>l=[]
 |.tsl t s rows=>t<=k/\(s=Rp.sz α\/rows=[])/\All2 (Rp.rp NoP k .nil) l rows
 |.hsl id _ _ _ _=>P id/\∃rows,ak h (Rp.sz α) v=some rows/\All2 (Rp.rp P k h) l rows
 |_=>False
def SlR{α:Type} [Rp α](P:Nat->Prop)(k:Nat)(h:H)(l:List α)(v:AV):Prop:=l.length<9223372036854775808/\SlV P k h l v
theorem SlR.rows{α:Type} [Rp α]{P:Nat->Prop}{k:Nat}{h:H}{l:List α}{v:AV}(r:SlR P k h l v):∃rows,ak h (Rp.sz α) v=some rows/\All2 (Rp.rp P k h) l rows:=by
 have r:=r.2;unfold SlV at r
 split at r
 ·subst r;exact⟨[],rfl,trivial⟩
 ·subst r;exact⟨[],rfl,trivial⟩
 ·obtain⟨h1,h2,h3⟩:=r;refine⟨_,?_,h3.mono λa b r=>Rp.tree r (TG _)⟩;simp only[ak];rw[aa];rcases h2 with h2|h2
  ·subst h2;simp
  ·subst h2;simp
 ·exact r.2
 ·exact r.elim
theorem CX{α β γ:Type}{R:α->β->Prop}{S:α->γ->Prop}{f:β->Option γ}(hf:∀a b,R a b->∃c,f b=some c/\S a c):∀{l:List α} {m:List β},All2 R l m->∃r,aF f m=some r/\All2 S l r
 |[],[],_=>⟨[],rfl,trivial⟩
 | a::l,b::m,h=>by obtain⟨c,e1,k⟩:=hf a b h.1;obtain⟨r,e2,d⟩:=CX hf h.2;exact⟨c::r,by simp only[aF,e1,e2],k,d⟩
theorem CY{α β:Type}{R:α->β->Prop}{f:β->Option Nat}{k:Nat}(hf:∀a b,R a b->∃m,f b=some m/\m<=k):∀{l:List α} {m:List β},All2 R l m->∃r,eV f m=some r/\r<=k
 |[],[],_=>⟨0,rfl,Uj _⟩
 | a::l,b::m,h=>by obtain⟨c,e1,d⟩:=hf a b h.1;obtain⟨r,e2,e⟩:=CY hf h.2;exact⟨max c r,by simp only[eV,e1,e2],by omega⟩
theorem Fy{α β:Type}{R:α->β->Prop}:∀{l:List α} {m:List β},All2 R l m->∀b∈m,∃a,R a b
 |[],[],_,b,hb=>by simp at hb
 | a::l,c::m,h,b,hb=>by
  rcases Us.1 hb with rfl|hb
  ·exact⟨a,h.1⟩
  ·exact Fy h.2 b hb
theorem yC{h h':H}{sz:Nat}{v:AV}(he:∀id ep off len lim,v=.hsl id ep off len lim->h'.get id=h.get id):ak h' sz v=ak h sz v:=by
 cases v with
 |hsl id ep off len lim=>simp only[ak,he id ep off len lim rfl]
 |_=>rfl
instance {α:Type} [Rp α]:Rp (List α) where
 sz:=1
 dp:=Rp.dp α+1
 rp:=λP k h l cs=>∃v,cs=[v]/\SlR P k h l v
 len:=by rintro P k h x cs ⟨v,rfl,h1⟩;rfl
 mono:=by
  rintro P P' k k' h h' x cs ⟨v,rfl,h0,h1⟩ hp hk;refine⟨v,rfl,h0,?_⟩;unfold SlV at h1 ⊢
  split at h1
  ·exact h1
  ·exact h1
  ·exact⟨by omega,h1.2.1,h1.2.2.mono λa b r=>Rp.mono r (λi hi=>hi.elim) hk⟩
  ·rename_i id ep off len lim;obtain⟨a,rows,b,c⟩:=h1;refine⟨(hp _ a).1,rows,?_,c.mono λa b r=>Rp.mono r hp hk⟩;rw[<-b];exact yC λ_ _ _ _ _ e=>by injection e with e;subst e;exact (hp _ a).2
  ·exact h1
 snap:=by
  rintro P k h x cs n d ⟨v,rfl,h0,h1⟩ hn hA;obtain⟨n,rfl⟩:∃m,n=m+1:=⟨n - 1,by omega⟩;have hdA:(23:Nat)+1=aC:=rfl;cases v with
  |nils=>exact⟨_,rfl,_,rfl,h0,h1⟩
  |esl=>exact⟨_,rfl,_,rfl,h0,h1⟩
  | tsl t s rows =>
   refine⟨_,rfl,_,rfl,h0,?_⟩;obtain⟨q1,q2,q3⟩:=h1;exact⟨by omega,q2,q3.mono λa b r=>Rp.mono r (λi hi=>hi.elim) (by omega)⟩
  | hsl id ep off len lim =>
   obtain⟨q1,rows,q2,q3⟩:=h1;simp only[ak]at q2
   split at q2
   ·rename_i sz' rows' ep' lo fz hg;rw[aa]at q2
    split at q2
    ·rename_i hc;simp only[TM]at hc;obtain⟨⟨hc1,hc2⟩,hc3⟩:=hc;injection q2 with q2;have e1:=UV hc2;subst e1;obtain⟨rs,e2,a2⟩:=CX (S:=Rp.rp NoP (max k d) .nil) (f:=aF (Hx.snap h d n)) (λa b r=>Rp.snap (n:=n) d r (by omega) (by omega)) q3;obtain⟨m,e3,l3⟩:=CY (f:=eV (dZ aC)) (k:=max k d) (λa b r=>Rp.tag (n:=aC) r (by omega)) a2;refine⟨[.tsl (Nat.max d m) (Rp.sz α) rs],?_,_,rfl,h0,?_⟩
     ·simp only[aF,Hx.snap,hg,hc1,hc3,Wu,q2,e2,fg,e3]
     ·refine⟨?_,.inl rfl,a2⟩;show max d m<=max k d;omega
    ·cases q2
   ·cases q2
  |_=>exact h1.elim
 same:=by
  rintro k h x cs n d ⟨v,rfl,-,h1⟩ hn;obtain⟨n,rfl⟩:∃m,n=m+1:=⟨n - 1,by omega⟩;cases v with
  |nils=>rfl
  |esl=>rfl
  |tsl t s rows=>rfl
  |hsl id ep off len lim=>exact h1.1.elim
  |_=>exact h1.elim
 ids:=by
  rintro P k h x cs n ⟨v,rfl,-,h1⟩ i hi;cases n with
  |zero=>simp[aw]at hi
  | succ n =>
   simp only[Uu,UT,T3]at hi;cases v with
   | hsl id ep off len lim =>
    obtain⟨q1,rows,q2,q3⟩:=h1;unfold aw at hi;rcases Us.1 hi with rfl|hi
    ·exact q1
    ·simp only[ak]at q2
     split at q2
     ·rename_i sz' rows' ep' lo fz hg;rw[aa]at q2
      split at q2
      ·injection q2 with q2;rw[hg]at hi;simp only[q2,V9]at hi;obtain⟨row,hr,c,hc,hi⟩:=hi;obtain⟨a,r⟩:=Fy q3 row hr;exact Rp.ids (n:=n) r i (V9.2 ⟨c,hc,hi⟩)
      ·cases q2
     ·cases q2
   |nils=>simp[aw]at hi
   |esl=>simp[aw]at hi
   |tsl t s rows=>simp[aw]at hi
   |_=>exact h1.elim
 tag:=by
  rintro k h x cs n ⟨v,rfl,-,h1⟩ hn;obtain⟨n,rfl⟩:∃m,n=m+1:=⟨n - 1,by omega⟩;cases v with
  |nils=>exact⟨0,rfl,Uj _⟩
  |esl=>exact⟨0,rfl,Uj _⟩
  |tsl t s rows=>exact⟨t,by simp[eV,dZ],h1.1⟩
  |hsl id ep off len lim=>exact h1.1.elim
  |_=>exact h1.elim
theorem eC{α:Type} [Rp α]{l:List α}:Rp.rp P k h l cs↔∃v,cs=[v]/\SlR P k h l v:=Iff.rfl
theorem ax:Rp.rp P k h x cs↔cs=[.int .i64 x]:=by simp[Rp.rp]
theorem Hq{x:Nat}:Rp.rp P k h x cs↔cs=[.int .u64 (x:Int)]/\x<18446744073709551616:=by simp[Rp.rp]
theorem eB{x:Bool}:Rp.rp P k h x cs↔cs=[.bool x]:=by simp[Rp.rp]
theorem gT{x:UInt8}:Rp.rp P k h x cs↔cs=[.int .u8 (x.toNat:Int)]:=by simp[Rp.rp]
theorem zt{α β:Type} [Rp α] [Rp β]{x:α×β}:Rp.rp P k h x cs↔∃a b,cs=a++b/\Rp.rp P k h x.1 a/\Rp.rp P k h x.2 b:=Iff.rfl
theorem SlR.ints(r:SlR P k h l v):ak h 1 v=some (l.map ci):=by obtain⟨rows,h1,h2⟩:=r.rows;rw[show (1:Nat)=Rp.sz Int from rfl,h1,h2.eq_map (f:=ci) λa b r=>ax.1 r]
theorem SlR.nats{l:List Nat}(r:SlR P k h l v):ak h 1 v=some (l.map cu):=by obtain⟨rows,h1,h2⟩:=r.rows;rw[show (1:Nat)=Rp.sz Nat from rfl,h1,h2.eq_map (f:=cu) λa b r=>(Hq.1 r).1]
theorem nA(t:T)(n m:Nat)(v:AV):tat (d6 t n v) m=if m=n then v else tat t m:=sp_get _ _ _ _ _
theorem FH(a:AV)(t:T):bN 0 [a] t=d6 t 0 a:=rfl
theorem A_(a b:AV)(t:T):bN 0 [a,b] t=d6 (d6 t 0 a) 1 b:=rfl
theorem FI(a b c:AV)(t:T):bN 0 [a,b,c] t=d6 (d6 (d6 t 0 a) 1 b) 2 c:=rfl
theorem FK(a b c e:AV)(t:T):bN 0 [a,b,c,e] t=d6 (d6 (d6 (d6 t 0 a) 1 b) 2 c) 3 e:=rfl
theorem Ba(i:Nat)(t:T):bN i [] t=t:=rfl
theorem I9(m:Nat):tat Tr.nil m=AV.undef:=RU _ _
theorem PS(t:T)(n:Nat):Od.get t (.t n)=tat t n:=rfl
theorem PQ(t:T)(v:AV):Od.get t (.k v)=v:=rfl
theorem Fl(t:T):fZ t []=[]:=rfl
theorem CN(t:T)(o:Od)(os:List Od):fZ t (o::os)=o.get t::fZ t os:=rfl
theorem aP(h:H)(i:Nat)(o:AObj):(h.put i o).get i=o:=by rw[RQ,TO rfl]
theorem au(h:H)(i:Nat)(o:AObj)(hk:k≠i):(h.put i o).get k=h.get k:=by rw[RQ,TN hk]
theorem Ij(k:Nat):G.empty.h.get k=AObj.none:=by simp[G.empty,H.get,RU]
theorem EZ:G.empty.nx=0:=rfl
theorem IZ(v:AV)(K:AV->G->Prop)(g:G)(D:ADf->Prop):(OR.val v).sat K g D=K v g:=rfl
theorem IY(v:AV)(g':G)(K:AV->G->Prop)(g:G)(D:ADf->Prop):(OR.upd v g').sat K g D=K v g':=rfl
theorem FN(v:AV):orV (some v)=.val v:=rfl
theorem ap(h:-9223372036854775808<=x)(h':x<9223372036854775808):IntKind.wrap .i64 x=x:=by
 by_cases h0:x<0
 ·exact xk x h h0
 ·obtain⟨n,rfl⟩:=TP (show 0<=x by omega);exact nD n (by omega)
theorem ut(h:0<=x)(h':x<18446744073709551616):IntKind.wrap .u64 x=x:=by simp only[IntKind.wrap,IntKind.bits,IntKind.signed,Bool.false_and,VO,if_false];exact WH h h'
theorem bJ(k:IntKind):cP k k=true:=by cases k<;>rfl
theorem HV(k:IntKind)(a b:Int):ct .add (.int k a) (.int k b)=.val (.int k (k.wrap (a+b))):=by simp only[ct,fN,bJ,gY];rfl
theorem H7(k:IntKind)(a b:Int):ct .sub (.int k a) (.int k b)=.val (.int k (k.wrap (a - b))):=by simp only[ct,fN,bJ,gY];rfl
theorem H3(k:IntKind)(a b:Int):ct .mul (.int k a) (.int k b)=.val (.int k (k.wrap (a*b))):=by simp only[ct,fN,bJ,gY];rfl
theorem HW(k:IntKind)(a b:Int):ct .eql (.int k a) (.int k b)=.val (.bool (decide (a=b))):=by simp only[ct,fN,bJ,nS];rfl
theorem H4(k:IntKind)(a b:Int):ct .neq (.int k a) (.int k b)=.val (.bool (!decide (a=b))):=by simp only[ct,fN,bJ,nS,notb_eq];rfl
theorem H0(k:IntKind)(a b:Int):ct .lss (.int k a) (.int k b)=.val (.bool (decide (a<b))):=by simp only[ct,fN,bJ,l_];rfl
theorem HY(k:IntKind)(a b:Int):ct .gtr (.int k a) (.int k b)=.val (.bool (decide (b<a))):=by simp only[ct,fN,bJ,l_];rfl
theorem HZ(k:IntKind)(a b:Int):ct .leq (.int k a) (.int k b)=.val (.bool (decide (a<=b))):=by
 simp only[ct,fN,bJ,l_,notb_eq]
 by_cases h:b<a
 ·rw[Wc h,VN (show ¬a<=b by omega)];rfl
 ·rw[VN h,Wc (show a<=b by omega)];rfl
theorem HX(k:IntKind)(a b:Int):ct .geq (.int k a) (.int k b)=.val (.bool (decide (b<=a))):=by
 simp only[ct,fN,bJ,l_,notb_eq]
 by_cases h:a<b
 ·rw[Wc h,VN (show ¬b<=a by omega)];rfl
 ·rw[VN h,Wc (show b<=a by omega)];rfl
theorem H5(k:IntKind){a b:Int}(ha:0<=a)(hb:0<b):ct .quo (.int k a) (.int k b)=.val (.int k (k.wrap (a / b))):=by obtain⟨m,rfl⟩:=TP ha;obtain⟨n,rfl⟩:=TP (show 0<=b by omega);obtain⟨n,rfl⟩:∃j,n=j+1:=⟨n - 1,by omega⟩;simp only[ct,fN,bJ];show orV (OW k (.ofNat m) (.ofNat (n+1)))=_;simp only[OW,gY];rfl
theorem lZ(k:IntKind){a b:Int}(ha:0<=a)(hb:0<b):ct .rem (.int k a) (.int k b)=.val (.int k (a % b)):=by obtain⟨m,rfl⟩:=TP ha;obtain⟨n,rfl⟩:=TP (show 0<=b by omega);obtain⟨n,rfl⟩:∃j,n=j+1:=⟨n - 1,by omega⟩;simp only[ct,fN,bJ];show orV (O0 k (.ofNat m) (.ofNat (n+1)))=_;simp only[O0];rfl
theorem NZ(k':IntKind)(m n:Nat):ct .shl (.int .u64 (m:Int)) (.int k' (n:Int))=.val (.int .u64 ((m*2 ^ n % 18446744073709551616:Nat):Int)):=by
 show orV (Nm .u64 (.ofNat m) (.ofNat n))=_;simp only[Nm,IntKind.bits];show OR.val (.int .u64 (tY .u64 (.ofNat (m*2 ^ (Nat.min n 64)))))=_;simp only[tY];congr 2;show ((m*2 ^ (min n 64) % 18446744073709551616:Nat):Int)=_
 by_cases h:n<=64
 ·rw[UP h]
 ·rw[Nat.min_eq_right (by omega)];obtain⟨j,rfl⟩:∃j,n=64+j:=⟨n - 64,by omega⟩;rw[Nat.pow_add,show (18446744073709551616:Nat)=2 ^ 64 from rfl,Nat.mul_mod_left,<-Wi,UQ (m*2 ^ 64),<-Wi,Nat.mul_mod_left]
theorem H6(k':IntKind)(m n:Nat)(h:m<18446744073709551616):ct .shr (.int .u64 (m:Int)) (.int k' (n:Int))=.val (.int .u64 ((m / 2 ^ n:Nat):Int)):=by
 show orV (Nn .u64 (.ofNat m) (.ofNat n))=_;simp only[Nn,IntKind.bits];show OR.val (.int .u64 (.ofNat (m / 2 ^ (Nat.min n 64))))=_;congr 2;show ((m / 2 ^ (min n 64):Nat):Int)=_
 by_cases h2:n<=64
 ·rw[UP h2]
 ·rw[Nat.min_eq_right (by omega)];obtain⟨j,rfl⟩:∃j,n=64+j:=⟨n - 64,by omega⟩;rw[Nat.pow_add,<-UL,show (2 ^ 64:Nat)=18446744073709551616 from rfl,UO h,Nat.zero_div]
theorem yc(h:m<18446744073709551616)(h':n<18446744073709551616):mc .u64 m n=true:=by simp only[mc,TM,UH];exact⟨h,h'⟩
theorem KZ(m n:Nat)(h:m<18446744073709551616)(h':n<18446744073709551616):ct .or (.int .u64 (m:Int)) (.int .u64 (n:Int))=.val (.int .u64 ((m ||| n:Nat):Int)):=by show orV (ay (mc .u64 m n) _ _)=_;rw[yc h h'];rfl
theorem NY(m n:Nat)(h:m<18446744073709551616)(h':n<18446744073709551616):ct .and (.int .u64 (m:Int)) (.int .u64 (n:Int))=.val (.int .u64 ((m &&& n:Nat):Int)):=by show orV (ay (mc .u64 m n) _ _)=_;rw[yc h h'];rfl
theorem Gw(m n:Nat)(h:m<18446744073709551616)(h':n<18446744073709551616):ct .andNot (.int .u64 (m:Int)) (.int .u64 (n:Int))=.val (.int .u64 ((m ^^^ (m &&& n):Nat):Int)):=by show orV (ay (mc .u64 m n) _ _)=_;rw[yc h h'];rfl
theorem MJ(h:m<18446744073709551616)(h':n<18446744073709551616):m ||| n<18446744073709551616:=Nat.or_lt_two_pow (n:=64) h h'
theorem FE(b:Bool):OO (.bool b)=.val (.bool (!b)):=by simp only[OO,notb_eq]
theorem ER(k k':IntKind)(a:Int):Ic k (.int k' a)=.val (.int k (k.wrap a)):=by simp only[Ic,gY]
theorem MU(a b:AV):IQ (.bool true) a b=.val a:=rfl
theorem MT(a b:AV):IQ (.bool false) a b=.val b:=rfl
theorem Mz(k:IntKind)(a b:Int):mxV (.int k a) (.int k b)=.val (.int k (max a b)):=by
 simp only[mxV,bJ,l_]
 by_cases h:a<b
 ·rw[Wc h,Int.max_eq_right (by omega)]
 ·rw[VN h,Int.max_eq_left (by omega)]
theorem Mw(k:IntKind)(a b:Int):mnV (.int k a) (.int k b)=.val (.int k (min a b)):=by
 simp only[mnV,bJ,l_]
 by_cases h:b<a
 ·rw[Wc h,Int.min_eq_right (by omega)]
 ·rw[VN h,Int.min_eq_left (by omega)]
def jF(sz:Nat)(v:AV)(i off:Nat):AV :=
 match v with
 |.tsl l _ rows=>.tptr l sz rows i off
 |.hsl id ep o _ _=>.hptr id ep (o+i) off
 |_=>.undef
theorem Mq{sz:Nat}{rows:List (List AV)}(h:ak g.h sz v=some rows):cH .slice v g=.val (.int .i64 (rows.length:Int)):=by
 unfold ak at h
 split at h
 ·injection h with h;subst h;rfl
 ·injection h with h;subst h;rfl
 ·rw[aa]at h
  split at h
  ·injection h with h;subst h;simp only[cH,aA];rfl
  ·cases h
 ·split at h
  ·rw[aa]at h
   split at h
   ·rename_i hc;injection h with h;subst h;simp only[TM,Uw,aA]at hc;simp only[cH,be,ba,T_,V8];congr 3;rw[UP (by omega)]
   ·cases h
  ·cases h
 ·cases h
theorem j9{sz:Nat}{rows:List (List AV)}(hv:ak h sz v=some rows)(g:G):cH .slice v g=.val (.int .i64 (rows.length:Int)) :=
 (show cH .slice v g=cH .slice v ⟨h,0,[]⟩ from by cases v<;>rfl).trans (Mq (g:=⟨h,0,[]⟩) hv)
theorem Mg{sz:Nat}{rows:List (List AV)}{k:IntKind}{i:Int}(h:ak g.h sz v=some rows)(h0:0<=i)(hi:i<rows.length) :
  xX sz v (.int k i) g=.val (jF sz v i.toNat 0):=by
 obtain⟨n,rfl⟩:=TP h0;have hi:n<rows.length:=by omega
 show xX sz v (.int k (.ofNat n)) g=.val (jF sz v n 0);unfold ak at h
 split at h
 ·injection h with h;subst h;simp at hi
 ·injection h with h;subst h;simp at hi
 ·rw[aa]at h
  split at h
  ·rename_i hc;injection h with h;subst h;rename_i sz' rows _;have:Nat.beq sz sz'=true:=by
    simp only[UB,List.isEmpty_iff]at hc;rcases hc with hc|hc
    ·exact hc
    ·rw[hc]at hi;simp at hi
   simp only[xX,gN,this,aA,U7,aa,UH,TO hi,jF]
  ·cases h
 ·split at h
  ·rename_i sz' rows' ep' lo fz hg;rw[aa]at h
   split at h
   ·rename_i hc;injection h with h;subst h;simp only[TM]at hc;simp only[be,ba,T_,V8]at hi;simp only[xX,gN,G.get_eq,hg,hc.1.1,hc.1.2,U7,aa,UH];rw[TO (by omega)];rfl
   ·cases h
  ·cases h
 ·cases h
theorem JZ{sz:Nat}{rows:List (List AV)}{ag:Bool}(h:ak g.h sz v=some rows)(hr:rows[i]?=some row) :
  rR ag n (jF sz v i off) g=orV (bT ag n row off):=by
 unfold ak at h
 split at h
 ·injection h with h;subst h;simp at hr
 ·injection h with h;subst h;simp at hr
 ·rw[aa]at h
  split at h
  ·injection h with h;subst h;simp only[rR,nh,jF,dD,hr]
  ·cases h
 ·split at h
  ·rename_i sz' rows' ep' lo fz hg;rw[aa]at h
   split at h
   ·rename_i hc;injection h with h;subst h;simp only[TM]at hc;simp only[be,ba,V7,Um]at hr
    split at hr
    ·simp only[rR,nh,jF,G.get_eq,hg,hc.1.1,dD,hr]
    ·cases hr
   ·cases h
  ·cases h
 ·cases h
theorem Fd(fo id ep i off:Nat):JN fo (.hptr id ep i off)=.val (.hptr id ep i (off+fo)):=rfl
theorem FQ:bT false n row off=row[off]?:=by simp only[bT,dD]
theorem MR(h:off+n<=row.length):bT true n row off=some (.agg ((row.drop off).take n)):=by simp only[bT,be,ba,aA,T_,V8,aa];rw[TO];rw[UP (by omega)];exact Uv n
theorem Bv{id ep sz:Nat}{rows:List (List AV)}{lo:Bool}{row':List AV}{x:AV}(hg:g.h.get id=.cells sz rows ep lo false)(hr:rows[i]?=some row)
  (hc:x.cells=cs) (ht:x.isTup=false) (hl:cs.length=n) (hp:bX row off cs=some row') :
  nz n (.hptr id ep i off) x g=.upd .undef (g.put id (.cells sz (rows.set i row') ep lo false)):=by
 subst hc;simp only[nz,pc,G.get_eq,hg,dD,hr,show Nat.beq ep ep=true from Uv ep,aA,hl,show Nat.beq n n=true from Uv n,ht,notb_eq,Wk,Wu,hp,g7]
def zh(o:AObj)(ep off len sz:Nat):Option (List (List AV)) :=
 match o with
 |.cells sz' rows ep' _ _=>ay (Nat.beq ep ep'&&Nat.beq sz sz'&&Nat.ble (off+len) (bj rows)) (some (iQ len (gD off rows))) none
 |_=>none
theorem yD(h:H)(sz:Nat):ak h sz .nils=some []:=rfl
theorem qS(h:H)(sz t:Nat)(rows:List (List AV)):ak h sz (.tsl t sz rows)=some rows:=by simp only[ak,show Nat.beq sz sz=true from Uv sz,Bool.true_or]
theorem eA(h:H)(sz id ep off len:Nat)(lim:Option Nat):ak h sz (.hsl id ep off len lim)=zh (h.get id) ep off len sz:=rfl
theorem cK(sz:Nat)(rows:List (List AV))(ep:Nat)(lo fz:Bool)(off len:Nat) :
  zh (.cells sz rows ep lo fz) ep off len sz=if off+len<=rows.length then some ((rows.drop off).take len) else none:=by
 simp only[zh,show Nat.beq sz sz=true from Uv sz,show Nat.beq ep ep=true from Uv ep,U7,aa,Uw,aA,be,ba]
theorem yx(sz:Nat)(rows:List (List AV))(ep:Nat)(lo fz:Bool):zh (.cells sz rows ep lo fz) ep 0 rows.length sz=some rows:=by rw[cK,TO (by omega)];simp
def kU(o:AObj)(ep i:Nat)(ag:Bool)(n off:Nat):OR :=
 match o with
 |.cells _ rows ep' _ _=>ay (Nat.beq ep ep') (match rows[i]? with|some row=>orV (bT ag n row off)|none=>.fail) .fail
 |_=>.fail
theorem AX(g:G)(id ep i off n:Nat)(ag:Bool):rR ag n (.hptr id ep i off) g=kU (g.h.get id) ep i ag n off:=by
 simp only[rR,nh,G.get_eq,kU,dD]
 rfl
theorem tG(sz:Nat)(rows:List (List AV))(ep:Nat)(lo fz:Bool)(i n off:Nat)(ag:Bool) :
  kU (.cells sz rows ep lo fz) ep i ag n off=match rows[i]? with|some row=>orV (bT ag n row off)|none=>.fail:=by
 simp only[kU,show Nat.beq ep ep=true from Uv ep]
def iN(o:AObj)(g:G)(id ep i n off:Nat)(x:AV):OR :=
 match o with
 | .cells sz rows ep' lo fz=>ay (Nat.beq ep ep'&&Nat.beq x.cells.length n&&jz fz&&jz x.isTup) (match rows[i]? with
   | some row=>match bX row off x.cells with
    |some row'=>.upd .undef (g.put id (.cells sz (rows.set i row') ep lo fz))
    |none=>.fail
   |none=>.fail) .fail
 |_=>.fail
theorem yJ(g:G)(id ep i off n:Nat)(x:AV):nz n (.hptr id ep i off) x g=iN (g.h.get id) g id ep i n off x:=by
 simp only[nz,pc,G.get_eq,iN,dD,aA,g7]
 rfl
theorem rQ(sz:Nat)(rows:List (List AV))(ep:Nat)(lo:Bool)(g:G)(id i n off:Nat)(x:AV)(hl:x.cells.length=n)(ht:x.isTup=false) :
  iN (.cells sz rows ep lo false) g id ep i n off x=match rows[i]? with
   | some row=>match bX row off x.cells with
    |some row'=>.upd .undef (g.put id (.cells sz (rows.set i row') ep lo false))
    |none=>.fail
   |none=>.fail:=by
 simp only[iN,show Nat.beq ep ep=true from Uv ep,hl,show Nat.beq n n=true from Uv n,ht,notb_eq,Wk,Wu]
theorem CW{sz:Nat}{ag:Bool}(h:(ak g.h sz v).isSome=true)(hi:i<((ak g.h sz v).getD []).length) :
  rR ag n (jF sz v i off) g=orV (bT ag n (((ak g.h sz v).getD [])[i]?.getD []) off):=by
 obtain⟨rows,hr⟩:=Option.isSome_iff_exists.1 h;rw[hr]at hi ⊢;simp only[TS]at hi ⊢;rw[JZ hr (TH hi),TH hi,TS]
theorem AS{sz:Nat}{k:IntKind}{i:Int}(h:(ak g.h sz v).isSome=true)(h0:0<=i)(hi:i<((ak g.h sz v).getD []).length) :
  xX sz v (.int k i) g=.val (jF sz v i.toNat 0):=by
 obtain⟨rows,hr⟩:=Option.isSome_iff_exists.1 h;rw[hr]at hi;exact Mg hr h0 hi
theorem Iu{sz:Nat}{k:IntKind}(h:(ak g.h sz v).isSome=true)(hi:i<((ak g.h sz v).getD []).length) :
  xX sz v (.int k (i:Int)) g=.val (jF sz v i 0):=AS h (V6 i) (by omega)
def vN:AV->Bool
 |.tsl ..|.hsl ..=>true
 |_=>false
theorem Fe{sz:Nat}{fo:Nat}(h:vN v=true):JN fo (jF sz v i off)=.val (jF sz v i (off+fo)):=by cases v<;>first|rfl|cases h
theorem Ej{sz:Nat}{rows:List (List AV)}(hv:ak h sz v=some rows)(hi:i<rows.length):vN v=true:=by
 unfold ak at hv
 split at hv
 ·injection hv with h;subst h;simp at hi
 ·injection hv with h;subst h;simp at hi
 ·rfl
 ·rfl
 ·cases hv
def oT(h:H)(v:AV):List Int:=((ak h 1 v).getD []).map λr=>match r with|[.int _ x]=>x|_=>0
def AO(h:H)(v:AV):Prop:=ak h 1 v=some ((oT h v).map ci)
theorem Mb(l:List Int):(l.map ci).map (λr=>match r with|[.int _ x]=>x|_=>0)=l:=by
 induction l with
 |nil=>rfl
 |cons a l ih=>simp only[VT,ih,ci]
theorem Is(hv:ak h 1 v=some (l.map ci)):oT h v=l:=by simp only[oT,hv,TS,Mb]
theorem JW(hv:ak h 1 v=some (l.map ci)):AO h v:=by unfold AO;rw[Is hv,hv]
theorem PX{α:Type}(a:α)(l:List α):(a::l)[0]?=some a:=rfl
theorem PY{α:Type}(a b:α)(l:List α):(a::b::l)[1]?=some b:=rfl
theorem PZ{α:Type}(a b c:α)(l:List α):(a::b::c::l)[2]?=some c:=rfl
theorem P3{α:Type}(a b c e:α)(l:List α):(a::b::c::e::l)[3]?=some e:=rfl
theorem P4{α:Type}(a b c e p:α)(l:List α):(a::b::c::e::p::l)[4]?=some p:=rfl
theorem P5{α:Type}(a b c e p q:α)(l:List α):(a::b::c::e::p::q::l)[5]?=some q:=rfl
theorem P6{α:Type}(a b c e p q r:α)(l:List α):(a::b::c::e::p::q::r::l)[6]?=some r:=rfl
theorem P7{α:Type}(a b c e p q r s:α)(l:List α):(a::b::c::e::p::q::r::s::l)[7]?=some s:=rfl
theorem P8{α:Type}(a b c e p q r s u:α)(l:List α):(a::b::c::e::p::q::r::s::u::l)[8]?=some u:=rfl
@[reducible] def o (d:Nat) (op:SO):SI:=⟨some d,none,op⟩
@[reducible] def oz (op:SO):SI:=⟨none,none,op⟩
@[reducible] def og (d s:Nat) (w:Bool) (op:SO):SI:=⟨some d,some (s,w),op⟩
@[reducible] def ozg (s:Nat) (w:Bool) (op:SO):SI:=⟨none,some (s,w),op⟩
section steps
variable {C:Cfg}{d:Nat}{rd:Option Nat}
theorem Ew(Q:QT)(t:T)(df:List ADf)(g:G):wp C d rd .skip Q t df g=Q .norm t df g:=rfl
theorem Ev(l:List SI)(Q:QT)(t:T)(df:List ADf)(g:G):wp C d rd (.ops l) Q t df g=wpO C d rd l (Q .norm) t df g:=rfl
theorem Gn(l:List SI)(Q:QT)(t:T)(df:List ADf)(g:G):wp C d rd (.quiet l) Q t df g=wpO C d rd l (kQ g Q) t df (aR g []):=rfl
theorem Jg(pm:List Nat)(l:List SI)(Q:QT)(t:T)(df:List ADf)(g:G):wp C d rd (.feet pm l) Q t df g=wpF C d rd pm l (Q .norm) t df g []:=rfl
theorem b_(a b:SC)(Q:QT)(t:T)(df:List ADf)(g:G):wp C d rd (.seq a b) Q t df g=wp C d rd a (kS (wp C d rd b Q) Q) t df g:=rfl
theorem Je(c:Od)(a b:SC)(Q:QT)(t:T)(df:List ADf)(g:G):wp C d rd (.cond c a b) Q t df g=wpC (c.get t) (wp C d rd a Q) (wp C d rd b Q) t df g:=rfl
theorem HM(id:Nat)(b:SC)(Q:QT)(t:T)(df:List ADf)(g:G):wp C d rd (.blk id b) Q t df g=wp C d rd b (kB id Q) t df g:=rfl
theorem Jh(b:SC)(Q:QT)(t:T)(df:List ADf)(g:G):wp C d rd (.loop b) Q t df g=wpL (wp C d rd b) Q t df g:=rfl
theorem Jf(id:Nat)(Q:QT)(t:T)(df:List ADf)(g:G):wp C d rd (.exit id) Q t df g=Q (.exit id) t df g:=rfl
theorem NO(Q:QT)(t:T)(df:List ADf)(g:G):wp C d rd .ret Q t df g=Q .ret t df g:=rfl
theorem PV(g0:G)(Q:QT)(t:T)(df:List ADf)(g:G):kQ g0 Q t df g=(g.lg=[]/\g.nx=g0.nx/\Q .norm t df g0):=rfl
theorem Jc(Q:PT)(t:T)(df:List ADf)(g:G):wpO C d rd [] Q t df g=Q t df g:=rfl
theorem P_(n:Nat)(op:SO)(r:List SI)(Q:PT)(t:T)(df:List ADf)(g:G) :
  wpO C d rd (o n op::r) Q t df g=(op.run C d rd t g).sat (kO (wpO C d rd r Q) (some n) t df) g (kD (wpO C d rd r Q) (some n) t df g):=rfl
theorem NN(op:SO)(r:List SI)(Q:PT)(t:T)(df:List ADf)(g:G) :
  wpO C d rd (oz op::r) Q t df g=(op.run C d rd t g).sat (kO (wpO C d rd r Q) none t df) g (kD (wpO C d rd r Q) none t df g):=rfl
theorem NL(n s:Nat)(w:Bool)(op:SO)(r:List SI)(Q:PT)(t:T)(df:List ADf)(g:G) :
  wpO C d rd (og n s w op::r) Q t df g=gdP (tat t s) w (F9 C d rd (o n op) (wpO C d rd r Q)) (Br (o n op) (wpO C d rd r Q)) t df g:=rfl
theorem Jd(s:Nat)(w:Bool)(op:SO)(r:List SI)(Q:PT)(t:T)(df:List ADf)(g:G) :
  wpO C d rd (ozg s w op::r) Q t df g=gdP (tat t s) w (F9 C d rd (oz op) (wpO C d rd r Q)) (Br (oz op) (wpO C d rd r Q)) t df g:=rfl
theorem Nh(n:Nat)(op:SO)(W:PT)(t:T)(df:List ADf)(g:G):F9 C d rd (o n op) W t df g=(op.run C d rd t g).sat (kO W (some n) t df) g (kD W (some n) t df g):=rfl
theorem IW(op:SO)(W:PT)(t:T)(df:List ADf)(g:G):F9 C d rd (oz op) W t df g=(op.run C d rd t g).sat (kO W none t df) g (kD W none t df g):=rfl
theorem I5(n:Nat)(op:SO)(W:PT)(t:T)(df:List ADf)(g:G):Br (o n op) W t df g=W (d6 t n .undef) df g:=rfl
theorem Gc(op:SO)(W:PT)(t:T)(df:List ADf)(g:G):Br (oz op) W t df g=W t df g:=rfl
theorem IC(W:PT)(n:Nat)(t:T)(df:List ADf)(v:AV)(g:G):kO W (some n) t df v g=W (d6 t n v) df g:=rfl
theorem IB(W:PT)(t:T)(df:List ADf)(v:AV)(g:G):kO W none t df v g=W t df g:=rfl
theorem PP(q:Bool)(A B:PT)(t:T)(df:List ADf)(g:G):gdP (.bool q) true A B t df g=xu q A B t df g:=rfl
theorem PO(q:Bool)(A B:PT)(t:T)(df:List ADf)(g:G):gdP (.bool q) false A B t df g=xu q B A t df g:=rfl
theorem CM(w:Bool)(A B:PT)(t:T)(df:List ADf)(g:G):gdP (.tup []) w A B t df g=B t df g:=rfl
theorem Cm(A B:PT)(t:T)(df:List ADf)(g:G):xu true A B t df g=A t df g:=by simp[xu]
theorem zJ(A B:PT)(t:T)(df:List ADf)(g:G):xu false A B t df g=B t df g:=by simp[xu]
theorem Gl(q:Bool)(A B:PT)(t:T)(df:List ADf)(g:G):wpC (.bool q) A B t df g=xu q A B t df g:=rfl
theorem DY(W:PT)(Q:QT)(t:T)(df:List ADf)(g:G):kS W Q .norm t df g=W t df g:=rfl
theorem ID(W:PT)(Q:QT)(id:Nat)(t:T)(df:List ADf)(g:G):kS W Q (.exit id) t df g=Q (.exit id) t df g:=rfl
theorem Mn(W:PT)(Q:QT)(t:T)(df:List ADf)(g:G):kS W Q .ret t df g=Q .ret t df g:=rfl
theorem Iw(id:Nat)(Q:QT)(t:T)(df:List ADf)(g:G):kB id Q .norm t df g=Q .norm t df g:=rfl
theorem Mk(id:Nat)(Q:QT)(t:T)(df:List ADf)(g:G):kB id Q .ret t df g=Q .ret t df g:=rfl
theorem OA(id:Nat)(Q:QT)(t:T)(df:List ADf)(g:G):kB id Q (.exit id) t df g=Q .norm t df g:=by simp[kB]
theorem Mj(id j:Nat)(Q:QT)(t:T)(df:List ADf)(g:G)(h:j≠id):kB id Q (.exit j) t df g=Q (.exit j) t df g:=by simp only[kB];rw[aa,TN (λe=>h (UV e))]
theorem ub(id j:Nat)(Q:QT)(t:T)(df:List ADf)(g:G):kB id Q (.exit j) t df g=if j=id then Q .norm t df g else Q (.exit j) t df g:=by
 by_cases h:j=id
 ·subst h;rw[OA,TO rfl]
 ·rw[Mj _ _ _ _ _ _ h,TN h]
theorem IA(Inv:Nat->PT)(k:Nat)(Q:QT)(t:T)(df:List ADf)(g:G):kL Inv k Q .norm t df g=∃k',k'<k/\Inv k' t df g:=rfl
theorem Iz(Inv:Nat->PT)(k:Nat)(Q:QT)(id:Nat)(t:T)(df:List ADf)(g:G):kL Inv k Q (.exit id) t df g=Q (.exit id) t df g:=rfl
theorem Ml(Inv:Nat->PT)(k:Nat)(Q:QT)(t:T)(df:List ADf)(g:G):kL Inv k Q .ret t df g=Q .ret t df g:=rfl
theorem dz{q:Bool}{A B:PT}(h1:q=true->A t df g)(h2:q=false->B t df g):xu q A B t df g:=⟨h1,h2⟩
theorem Ff(r:List SR)(K:AV->G->Prop)(t:T)(df:List ADf)(g:G):fnQ C d r K .norm t df g=u7 C d r t df g K:=rfl
theorem Im(r:List SR)(K:AV->G->Prop)(t:T)(df:List ADf)(g:G):fnQ C d r K .ret t df g=u7 C d r t df g K:=rfl
theorem E1(r:List SR)(K:AV->G->Prop)(t:T)(g:G):u7 C d r t [] g K=xe r t g λvs=>K (gQ vs) g:=rfl
theorem F7(t:T)(g:G)(K:List AV->Prop):xe [] t g K=K []:=rfl
theorem IS(n:Nat)(r:List SR)(t:T)(g:G)(K:List AV->Prop):xe (.tm n::r) t g K=xe r t g λvs=>K (tat t n::vs):=rfl
theorem wT(v:AV):gQ [v]=v:=rfl
theorem eW{W:QT->PT}{Q:QT}(Inv:Nat->PT)(k:Nat)(h0:Inv k t df g)(h:∀k t df g,Inv k t df g->W (kL Inv k Q) t df g):wpL W Q t df g:=⟨Inv,⟨k,h0⟩,h⟩
end steps
section
variable {r:AV}
theorem sx:type_of% (TF @Jc <|TF @P_ <|TF @NN <|TF @NL <|TF @Jd <|TF @Nh <|TF @IW <|TF @I5 <|TF @Gc <|
 TF @IC <|TF @IB <|TF @PP <|TF @PO <|TF @CM <|TF @Cm <|TF @zJ <|TF @Gl <|TF @DY <|TF @ID <|TF @Mn <|
 TF @Iw <|TF @Mk <|TF @ub <|TF @IA <|TF @Iz <|TF @Ml <|TF @Ff <|TF @Im <|TF @E1 <|TF @F7 <|TF @IS <|
 TF @wT <|TF @nA <|TF @FH <|TF @A_ <|TF @FI <|TF @FK <|TF @Ew <|TF @Ev <|TF @Gn <|TF @Jg <|TF @b_ <|TF @Je <|TF @HM <|TF @Jh <|TF @Jf <|TF @NO <|TF @Ba <|TF @I9 <|TF @PS <|TF @PQ <|TF @Fl <|TF @CN <|TF @IZ <|TF @IY <|TF @FN <|
 TF @HV <|TF @H7 <|TF @H3 <|TF @HW <|TF @H4 <|TF @H0 <|TF @HY <|TF @HZ <|TF @HX <|TF @FE <|TF @ER <|TF @MU <|TF @MT <|
 TF @Mz <|TF @Mw <|TF @Fd <|TF @AX <|TF @tG <|TF @yJ <|TF @FQ <|TF @CW <|TF @Fe <|TF @Iu <|
 TF @PX <|TF @PY <|TF @PZ <|TF @P3 <|TF @P4 <|TF @P5 <|TF @P6 <|TF @P7 <|TF @P8 <|TF @G.put_h <|TF @G.put_nx <|TF @G.new_h <|TF @G.new_nx <|TF @aP <|TF @EZ <|@Ij) :=
 TF @Jc <|TF @P_ <|TF @NN <|TF @NL <|TF @Jd <|TF @Nh <|TF @IW <|TF @I5 <|TF @Gc <|
 TF @IC <|TF @IB <|TF @PP <|TF @PO <|TF @CM <|TF @Cm <|TF @zJ <|TF @Gl <|TF @DY <|TF @ID <|TF @Mn <|
 TF @Iw <|TF @Mk <|TF @ub <|TF @IA <|TF @Iz <|TF @Ml <|TF @Ff <|TF @Im <|TF @E1 <|TF @F7 <|TF @IS <|
 TF @wT <|TF @nA <|TF @FH <|TF @A_ <|TF @FI <|TF @FK <|TF @Ew <|TF @Ev <|TF @Gn <|TF @Jg <|TF @b_ <|TF @Je <|TF @HM <|TF @Jh <|TF @Jf <|TF @NO <|TF @Ba <|TF @I9 <|TF @PS <|TF @PQ <|TF @Fl <|TF @CN <|TF @IZ <|TF @IY <|TF @FN <|
 TF @HV <|TF @H7 <|TF @H3 <|TF @HW <|TF @H4 <|TF @H0 <|TF @HY <|TF @HZ <|TF @HX <|TF @FE <|TF @ER <|TF @MU <|TF @MT <|
 TF @Mz <|TF @Mw <|TF @Fd <|TF @AX <|TF @tG <|TF @yJ <|TF @FQ <|TF @CW <|TF @Fe <|TF @Iu <|
 TF @PX <|TF @PY <|TF @PZ <|TF @P3 <|TF @P4 <|TF @P5 <|TF @P6 <|TF @P7 <|TF @P8 <|TF @G.put_h <|TF @G.put_nx <|TF @G.new_h <|TF @G.new_nx <|TF @aP <|TF @EZ <|@Ij
def St(t:T):List (Nat×AV)->Prop
 |[]=>True
 | (n,v)::r=>tat t n=v/\St t r
abbrev VS:=(Nat->Prop)->Nat->H->AV->Prop
def One{α:Type} [Rp α](x:α):VS:=λP k h v=>Rp.rp P k h x [v]
def Agg{α:Type} [Rp α](x:α):VS:=λP k h v=>∃cs,v=.agg cs/\Rp.rp P k h x cs
def pj(S R:VS):VS:=λP k h v=>∃a b,v=.tup [a,b]/\S P k h a/\R P k h b
def NU(S R U:VS):VS:=λP k h v=>∃a b c,v=.tup [a,b,c]/\S P k h a/\R P k h b/\U P k h c
structure Snb (S:VS) (j:Nat):Prop where
 snap:∀{P k h v n} (d:Nat),S P k h v->20+j<=n->∃v',Hx.snap h d n v=some v'/\S NoP (max k d) .nil v'
 tag:∀{k h v n},S NoP k h v->20+j<=n->∃m,dZ n v=some m/\m<=k
theorem aJ{α:Type} [Rp α](x:α)(hd:Rp.dp α<=20:=by decide):Snb (One x) 0:=by
 refine⟨λ{P k h v n} d r hn=>?_,λ{k h v n} r hn=>?_⟩
 ·obtain⟨cs',e,r'⟩:=Rp.snap (n:=n) d r (by omega) (by show _<=24;omega);simp only[aF]at e
  split at e
  ·rename_i w hw;injection e with e;subst e;exact⟨w,hw,r'⟩
  ·cases e
 ·obtain⟨m,e,l⟩:=Rp.tag (n:=n) r (by omega);simp only[eV]at e
  split at e
  ·rename_i w hw;injection e with e;subst e;exact⟨w,hw,by have:Nat.max w 0=w:=Nat.max_eq_left (Uj w);omega⟩
  ·cases e
theorem cq{α:Type} [Rp α](x:α)(hd:Rp.dp α<=20:=by decide):Snb (Agg x) 1:=by
 refine⟨λ{P k h v n} d r hn=>?_,λ{k h v n} r hn=>?_⟩
 ·obtain⟨cs,rfl,r⟩:=r;obtain⟨n,rfl⟩:∃m,n=m+1:=⟨n - 1,by omega⟩;obtain⟨cs',e,r'⟩:=Rp.snap (n:=n) d r (by omega) (by show _<=24;omega);exact⟨.agg cs',by simp only[Hx.snap,e],cs',rfl,r'⟩
 ·obtain⟨cs,rfl,r⟩:=r;obtain⟨n,rfl⟩:∃m,n=m+1:=⟨n - 1,by omega⟩;obtain⟨m,e,l⟩:=Rp.tag (n:=n) r (by omega);exact⟨m,by simp only[dZ,e],l⟩
theorem bO{S R:VS}(hs:Snb S i)(hr:Snb R j)(hi:i+1<=m)(hj:j+1<=m):Snb (pj S R) m:=by
 refine⟨λ{P k h v n} d r hn=>?_,λ{k h v n} r hn=>?_⟩
 ·obtain⟨a,b,rfl,c,f⟩:=r;obtain⟨n,rfl⟩:∃m,n=m+1:=⟨n - 1,by omega⟩;obtain⟨a',e1,e⟩:=hs.snap (n:=n) d c (by omega);obtain⟨b',e2,l⟩:=hr.snap (n:=n) d f (by omega);exact⟨.tup [a',b'],by simp only[Hx.snap,aF,e1,e2],a',b',rfl,e,l⟩
 ·obtain⟨a,b,rfl,c,f⟩:=r;obtain⟨n,rfl⟩:∃m,n=m+1:=⟨n - 1,by omega⟩;obtain⟨o,e1,l1⟩:=hs.tag (n:=n) c (by omega);obtain⟨p,e2,l2⟩:=hr.tag (n:=n) f (by omega);refine⟨max o p,?_,by omega⟩;simp only[dZ,eV,e1,e2];congr 1;show max o (max p 0)=_;omega
theorem Bt{S R U:VS}{l:Nat}(hs:Snb S i)(hr:Snb R j)(hu:Snb U l)(hi:i+1<=m)(hj:j+1<=m)(hl:l+1<=m):Snb (NU S R U) m:=by
 refine⟨λ{P k h v n} d r hn=>?_,λ{k h v n} r hn=>?_⟩
 ·obtain⟨a,b,c,rfl,e,o,q⟩:=r;obtain⟨n,rfl⟩:∃m,n=m+1:=⟨n - 1,by omega⟩;obtain⟨a',e1,f⟩:=hs.snap (n:=n) d e (by omega);obtain⟨b',e2,p⟩:=hr.snap (n:=n) d o (by omega);obtain⟨c',e3,s⟩:=hu.snap (n:=n) d q (by omega);exact⟨.tup [a',b',c'],by simp only[Hx.snap,aF,e1,e2,e3],a',b',c',rfl,f,p,s⟩
 ·obtain⟨a,b,c,rfl,e,o,q⟩:=r;obtain⟨n,rfl⟩:∃m,n=m+1:=⟨n - 1,by omega⟩;obtain⟨t,e1,l1⟩:=hs.tag (n:=n) e (by omega);obtain⟨u,e2,l2⟩:=hr.tag (n:=n) o (by omega);obtain⟨w,e3,x⟩:=hu.tag (n:=n) q (by omega);refine⟨max t (max u w),?_,by omega⟩;simp only[dZ,eV,e1,e2,e3];congr 1;show max t (max u (max w 0))=_;omega
def Arg(S:VS)(k d:Nat)(h:H)(v v':AV):Prop:=Hx.snap h d aC v=some v'/\S NoP k .nil v'
theorem su{S:VS}(hs:Snb S j)(hj:j<=4)(d:Nat)(r:S P k h v):∃v',Arg S (max k d) d h v v':=by obtain⟨v',e,r'⟩:=hs.snap (n:=aC) d r (by show _<=24;omega);exact⟨v',e,r'⟩
theorem mo{α:Type} [Rp α]{x:α}(d:Nat)(r:Agg x NoP k h v)(hd:Rp.dp α<=20:=by decide):Hx.snap h d aC v=some v:=by obtain⟨cs,rfl,r⟩:=r;show (match aF (Hx.snap h d 23) cs with|some as=>some (AV.agg as)|none=>none)=_;rw[Rp.same (n:=23) d r (by omega)]
theorem jC{α:Type} [Rp α]{l:List α}(d:Nat)(r:SlR NoP k h l v):Hx.snap h d aC v=some v:=by
 have r:=r.2;unfold SlV at r
 split at r<;>first|rfl|exact r.1.elim|exact r.elim
theorem bD(k d:Nat)(h:H)(q:IntKind)(x:Int):Hx.snap h d aC (.int q x)=some (.int q x):=rfl
theorem KT(k d:Nat)(h:H)(x:Bool):Hx.snap h d aC (.bool x)=some (.bool x):=rfl
theorem KU(hv:AO h v)(hl:(oT h v).length<9223372036854775808)(d:Nat) :
  ∃v',Hx.snap h d aC v=some v'/\(∀h',ak h' 1 v'=some ((oT h v).map ci))/\∀g,cH .slice v' g=.val (.int .i64 ((oT h v).length:Int)):=by
 suffices hs:∃v',Hx.snap h d aC v=some v'/\(∀h',ak h' 1 v'=some ((oT h v).map ci)) by obtain⟨v',e,hr⟩:=hs;exact⟨v',e,hr,λg=>by rw[j9 (hr .nil),TT]⟩
 obtain⟨k,r⟩:∃k,SlV (λ_=>True) k h (oT h v) v:=by
  have e:=hv;unfold AO at e;have all:∀P k h',All2 (Rp.rp P k h') (oT h v) ((oT h v).map ci):=λP k h'=>RN (λa=>ax.2 rfl) _;cases v with
  |nils=>exact⟨0,by simp only[ak]at e;injection e with e;exact (List.map_eq_nil_iff.1 e.symm)⟩
  |esl=>exact⟨0,by simp only[ak]at e;injection e with e;exact (List.map_eq_nil_iff.1 e.symm)⟩
  | tsl t s rows =>
   refine⟨t,TG t,?_,?_⟩
   ·simp only[ak,aa]at e
    split at e
    ·rename_i hc;rw[UB]at hc;rcases hc with hc|hc
     ·exact .inl (UV hc).symm
     ·exact .inr (List.isEmpty_iff.1 hc)
    ·cases e
   ·simp only[ak,aa]at e
    split at e
    ·injection e with e;exact cast (congrArg _ e.symm) (all NoP t .nil)
    ·cases e
  |hsl id ep off len lim=>exact⟨0,trivial,_,e,all _ _ _⟩
  |_=>simp[ak]at e
 obtain⟨v',e,r'⟩:=(aJ (oT h v)).snap (n:=aC) d (show One (oT h v) _ k h v from ⟨v,rfl,hl,r⟩) (by decide);refine⟨v',e,λh'=>?_⟩;obtain⟨w,hw,r'⟩:=r';injection hw with hw;subst hw;have:SlR (λ_=>True) (max k d) h' (oT h v) v':=by have:=(Rp.mono (P':=λ_=>True) (k':=max k d) (h':=h') (show Rp.rp NoP (max k d) .nil (oT h v) [v'] from ⟨v',rfl,r'⟩) (λi hi=>hi.elim) (TG _));obtain⟨w,hw,q⟩:=this;injection hw with hw;subst hw;exact q
 exact this.ints
abbrev IT (k:Nat)(l:List Int)(r:AV):Prop:=One l NoP k .nil r
theorem IT.sl(h:IT k l r)(h':H):SlR NoP k h' l r:=by obtain⟨w,hw,q⟩:=Rp.tree (P:=NoP) (k':=k) (h':=h') h (TG _);injection hw with hw;subst hw;exact q
theorem IT.rows(h:IT k l r)(h':H):ak h' 1 r=some (l.map ci):=(h.sl h').ints
theorem IT.len(h:IT k l r)(g:G):cH .slice r g=.val (.int .i64 (l.length:Int)):=by rw[j9 (h.rows .nil),TT]
theorem SlR.cell{α:Type} [Rp α]{l:List α}(r:SlR P k h l v):v.cells=[v]/\v.isTup=false:=by
 have r:=r.2;unfold SlV at r
 split at r<;>first|exact⟨rfl,rfl⟩|exact r.elim
section iso
variable {C:Cfg}{f d:Nat}{s:SF}{g:G}{args xs:List AV}
theorem aL(hf:nFn C f=some s)(hs:aF (snap g.h d aC) args=some xs)(hl:xs.length<=s.nt){R:VS}(hR:Snb R j)(hj:j<=4){k':Nat}(hk:k'<d)
  (h:wp C (d+1) none s.code (fnQ C (d+1) s.res λv g'=>∃P,R P k' g'.h v) (bN 0 xs .nil) [] G.empty):∃r,af (I C) d g f args=.val r/\R NoP k' .nil r:=by
 have h:=qj hf hl h;unfold af;rw[hs];dsimp only;cases hc:(I C).call (Nat.succ d) f xs G.empty with
 |fail=>rw[show (I C).call (d+1) f xs G.empty=.fail from hc]at h;exact h.elim
 | ok v g' =>
  rw[show (I C).call (d+1) f xs G.empty=.ok v g' from hc]at h;obtain⟨P,h⟩:=h;obtain⟨r,e,hr⟩:=hR.snap (n:=aC) 0 h (by show _<=24;omega);rw[Nat.max_eq_left (Uj k')]at hr;obtain⟨m,em,lm⟩:=hR.tag (n:=aC) hr (by show _<=24;omega);refine⟨r,?_,hr⟩;simp only[e,em,aa,UH];rw[TO (by omega)]
theorem wz(hf:nFn C f=some s)(hl:xs.length<=s.nt){K:AV->G->Prop}{D:ADf->Prop}(h:wp C d none s.code (fnQ C d s.res K) (bN 0 xs .nil) [] g):(orF ((I C).call d f xs g)).sat K g D:=by
 have h:=qj hf hl h;cases hc:(I C).call d f xs g with
 |fail=>rw[hc]at h;exact h.elim
 |ok v g'=>rw[hc]at h;exact h
theorem ff(hf:nFn C f=some s)(hs:aF (snap g.h d aC) args=some xs)(hl:xs.length<=s.nt){q:IntKind}(hk:0<d)
  (h:wp C (d+1) none s.code (fnQ C (d+1) s.res λv _=>v=.int q x) (bN 0 xs .nil) [] G.empty):af (I C) d g f args=.val (.int q x):=by
 have h:=qj hf hl h;unfold af;rw[hs];dsimp only;cases hc:(I C).call (Nat.succ d) f xs G.empty with
 |fail=>rw[show (I C).call (d+1) f xs G.empty=.fail from hc]at h;exact h.elim
 | ok v g' =>
  rw[show (I C).call (d+1) f xs G.empty=.ok v g' from hc]at h;have h:v=.int q x:=h;subst h;show (match dZ aC (.int q x) with|none=>OR.fail|some m=>ay (Nat.blt m d) (.val (.int q x)) _)=_;rw[show dZ aC (.int q x)=some 0 from rfl];simp only[aa,UH];rw[TO hk]
theorem kV(hf:nFn C f=some s)(hs:aF (snap g.h d aC) args=some xs)(hl:xs.length<=s.nt){x:Bool}(hk:0<d)
  (h:wp C (d+1) none s.code (fnQ C (d+1) s.res λv _=>v=.bool x) (bN 0 xs .nil) [] G.empty):af (I C) d g f args=.val (.bool x):=by
 have h:=qj hf hl h;unfold af;rw[hs];dsimp only;cases hc:(I C).call (Nat.succ d) f xs G.empty with
 |fail=>rw[show (I C).call (d+1) f xs G.empty=.fail from hc]at h;exact h.elim
 | ok v g' =>
  rw[show (I C).call (d+1) f xs G.empty=.ok v g' from hc]at h;have h:v=.bool x:=h;subst h;show (match dZ aC (.bool x) with|none=>OR.fail|some m=>ay (Nat.blt m d) (.val (.bool x)) _)=_;rw[show dZ aC (.bool x)=some 0 from rfl];simp only[aa,UH];rw[TO hk]
end iso
end
section
variable {C:Cfg}{A:Nat->Nat->Prop}{bd:Nat}{w w':World}{γ γ':Gm}{hg:Nat->AObj}{nx:Nat}
variable {op:Op}{t:T}{g:G}{f:Stg SFn}
theorem yE{sz id:Nat}{x:AV}(hid:id∈an x)(hn:h.get id=.none):ak h sz x=none:=by
 cases x<;>simp[an]at hid
 ·subst hid;simp[ak,hn]
 ·rfl
 ·rfl
theorem C8{sz id:Nat}{x:AV}{bytes:Nat}{new:List (List AV)}(hid:id∈an x)(hn:g.h.get id=.none):bg sz bytes x new g=.fail:=by
 cases x<;>simp[an]at hid
 ·subst hid;simp[bg,hn]
 ·rfl
 ·rfl
theorem Gf(h:cw C op=some f){id:Nat}(hid:id∈bh C op t g)(hn:g.h.get id=.none):f.run t g=.fail:=by
 have one:∀{x:AV},id∈an x->(∃a b c d,x=.hptr a b c d/\g.h.get a=.none)\/(∃a b c d e,x=.hsl a b c d e/\g.h.get a=.none)\/(∃a,x=.hmap a/\g.h.get a=.none):=by
  intro x hx;cases x<;>simp[an]at hx
  ·subst hx;exact .inr (.inl ⟨_,_,_,_,_,rfl,hn⟩)
  ·subst hx;exact .inl ⟨_,_,_,_,rfl,hn⟩
  ·subst hx;exact .inr (.inr ⟨_,rfl,hn⟩)
 cases op<;>simp only[cw]at h<;>first| (cases h;done)|skip
 case call c =>
  obtain⟨callee,args,argTypes⟩:=c;cases callee<;>first| (cases h;done)|skip
  rename_i b;dsimp only at h;obtain⟨vs,j⟩:=uB h;have hid:id∈(vs.run t).flatMap (lY C b argTypes):=by simpa only[bh,aO,j,am,Vg,T3] using hid
  generalize args.toList=l at h j;unfold dj at h
  split at h
  ·
   split at h
   ·rename_i tt s h0 hs;injection h with h;subst h;simp only[bM,hs,Vj]at j;subst j;simp only[Uu,UT,T3,lY,h0]at hid;dsimp only;generalize s.run t=x at *;generalize ma C.P tt=k at *;cases k<;>simp at hid;cases x<;>simp[w_]at hid;subst hid;simp[cH,hn]
   ·cases h
  ·
   split at h
   ·rename_i tt xt sa sx h0 h1 ha hx;simp only[bM,ha,hx,Vj]at j;subst j;simp only[Uu,UT,T3,lY,Uk]at hid
    repeat' (first|split at h| (rw[aa]at h;split at h))
    all_goals first| (cases h;done)|skip
    all_goals (injection h with h;subst h)
    ·dsimp only[di]
     split
     ·rfl
     ·rename_i new o;rcases hid with hid|hid
      ·exact C8 hid hn
      ·rw[yE hid hn]at o;cases o
    ·dsimp only[we]
     split
     ·rfl
     ·rename_i n q;rcases hid with hid|hid
      ·rw[aa]
       split
       ·exact C8 hid hn
       ·rfl
      ·generalize sx.run t=x at *;cases x<;>simp[an]at hid<;>simp[bU]at q
   ·cases h
  ·
   split at h
   ·rename_i tt sa sx h0 ha hx;simp only[bM,ha,hx,Vj]at j;subst j;simp only[Uu,UT,T3,lY,Uk]at hid
    repeat' (first|split at h)
    all_goals first| (cases h;done)|skip
    all_goals (injection h with h;subst h)
    dsimp only[CA]
    split
    ·rfl
    ·rename_i src p;rcases hid with hid|hid
     ·rcases one hid with⟨a,b,c,d,e,h1⟩|⟨a,b,c,d,e',e,h1⟩|⟨a,e,h1⟩<;>rw[e]<;>simp[h1]
     ·rw[yE hid hn]at p;cases p
   ·cases h
  ·
   split at h
   ·rename_i tt s h0 hs;simp only[bM,hs,Vj]at j;subst j;simp only[Uu,UT,T3,lY]at hid
    repeat' (first|split at h)
    all_goals first| (cases h;done)|skip
    all_goals (injection h with h;subst h)
    dsimp only[K8];rcases one hid with⟨a,b,c,d,e,h1⟩|⟨a,b,c,d,e',e,h1⟩|⟨a,e,h1⟩<;>rw[e]<;>simp[h1]
   ·cases h
  ·
   split at h
   ·rename_i tt s h0 hs;simp only[bM,hs,Vj]at j;subst j;simp only[Uu,UT,T3,lY]at hid
    repeat' (first|split at h| (rw[aa]at h;split at h))
    all_goals first| (cases h;done)|skip
    all_goals (injection h with h;subst h)
    dsimp only;generalize s.run t=x at *;cases x with
    | hsl i ep off len lim =>
     cases len with
     |zero=>simp[ug]at hid
     | succ len =>
      simp[ug]at hid;subst hid;simp[Af,hn]
    |_=>simp[ug]at hid
   ·cases h
  ·
   split at h
   ·rename_i sa sx ha hx;injection h with h;subst h;simp only[bM,ha,hx,Vj]at j;subst j;simp only[Uu,UT,T3,lY,Uk]at hid;dsimp only;rcases hid with hid|hid
    ·rcases one hid with⟨a,b,c,d,e,h1⟩|⟨a,b,c,d,e',e,h1⟩|⟨a,e,h1⟩<;>rw[e]
    ·split
     ·rcases one hid with⟨a,b,c,d,e,h1⟩|⟨a,b,c,d,e',e,h1⟩|⟨a,e,h1⟩<;>rw[e]
     ·rfl
   ·cases h
  ·
   split at h
   ·rename_i sa sx ha hx;injection h with h;subst h;simp only[bM,ha,hx,Vj]at j;subst j;simp only[Uu,UT,T3,lY,Uk]at hid;dsimp only;rcases hid with hid|hid
    ·rcases one hid with⟨a,b,c,d,e,h1⟩|⟨a,b,c,d,e',e,h1⟩|⟨a,e,h1⟩<;>rw[e]
    ·split
     ·rcases one hid with⟨a,b,c,d,e,h1⟩|⟨a,b,c,d,e',e,h1⟩|⟨a,e,h1⟩<;>rw[e]
     ·rfl
   ·cases h
  ·cases h
 case load ty a =>
  split at h
  ·rename_i s ag n hs w r;injection h with h;subst h;simp only[bh,aO,hs,am,Vg,T3]at hid;dsimp only[nh];rcases one hid with⟨a,b,c,d,e,h1⟩|⟨a,b,c,d,e',e,h1⟩|⟨a,e,h1⟩<;>rw[e]<;>simp[h1]
  ·cases h
 case store ty a x =>
  split at h
  ·rename_i s u n hs hu r;injection h with h;subst h;simp only[bh,aO,hs,am,Vg,T3]at hid;dsimp only[pc];rcases one hid with⟨a,b,c,d,e,h1⟩|⟨a,b,c,d,e',e,h1⟩|⟨a,e,h1⟩<;>rw[e]<;>simp[h1]
  ·cases h
 case indexAddr ty x ix =>
  split at h
  ·rename_i s i hs hi
   split at h
   ·rename_i e hu
    split at h
    ·injection h with h;subst h;simp only[bh,aO,hs,hu,am,Vg,T3]at hid;dsimp only[gN];rcases one hid with⟨a,b,c,d,e,h1⟩|⟨a,b,c,d,e',e,h1⟩|⟨a,e,h1⟩<;>rw[e];dsimp only
     split
     ·simp[h1]
     ·rfl
    ·cases h
   ·rename_i n e hu;simp[bh,aO,hs,hu,aE]at hid
   ·cases h
  ·cases h
 case lookup ty x k ok =>
  split at h
  ·rename_i sm kk kt et hm hk hu
   split at h
   ·injection h with h;subst h;have hid:id∈an (sm.run t):=by cases ok<;>simpa [bh,aO,hm,am] using hid
    dsimp only[dC];rw[aa]
    split
    ·rcases one hid with⟨a,b,c,d,e,h1⟩|⟨a,b,c,d,e',e,h1⟩|⟨a,e,h1⟩<;>rw[e]<;>simp[h1]
    ·rfl
   ·cases h
  ·cases h
 case mapUpdate ty m k x =>
  split at h
  ·rename_i sm sk sx kt et hm hk hx hu;injection h with h;subst h;simp only[bh,aO,hm,am,Vg,T3]at hid;dsimp only[fO];rw[aa]
   split
   ·rcases one hid with⟨a,b,c,d,e,h1⟩|⟨a,b,c,d,e',e,h1⟩|⟨a,e,h1⟩<;>rw[e]<;>simp[h1]
   ·rfl
  ·cases h
 case insert ty m k x =>
  split at h
  ·rename_i sm sk sx kt et hm hk hx hu;injection h with h;subst h;simp only[bh,aO,hm,am,Vg,T3]at hid;dsimp only[fO];rw[aa]
   split
   ·rcases one hid with⟨a,b,c,d,e,h1⟩|⟨a,b,c,d,e',e,h1⟩|⟨a,e,h1⟩<;>rw[e]<;>simp[h1]
   ·rfl
  ·cases h
 case mapEntry ty m k =>
  split at h
  ·rename_i sm sk kt et hm hk hu
   split at h
   ·injection h with h;subst h;simp only[bh,aO,hm,Vg,T3]at hid;dsimp only[gc];rw[aa]
    split
    ·rcases one hid with⟨a,b,c,d,e,h1⟩|⟨a,b,c,d,e',e,h1⟩|⟨a,e,h1⟩<;>rw[e]<;>simp[h1]
    ·rfl
   ·cases h
  ·cases h
 case entryStore ty m st x =>
  split at h
  ·rename_i sm ss sx hm hs hx;injection h with h;subst h;simp only[bh,aO,hm,am,Vg,T3]at hid;dsimp only[im];rcases one hid with⟨a,b,c,d,e,h1⟩|⟨a,b,c,d,e',e,h1⟩|⟨a,e,h1⟩<;>rw[e]<;>simp[h1]
  ·cases h
 case slice ty x lo hi mx =>
  have key:∀{sz:Nat} {y:AV} {l h' m:Option AV},id∈an y->lK sz y l h' m g.h=none:=by intro sz y l h' m z;rcases one z with⟨a,b,c,d,e,h1⟩|⟨a,b,c,d,e',e,h1⟩|⟨a,e,h1⟩<;>rw[e]<;>simp[lK,h1]
  cases mx with
  | none =>
   dsimp only at h
   split at h
   ·rename_i e sx sl sh hu hx hl v
    split at h
    ·injection h with h;subst h;simp only[bh,aO,hx,am,Vg,T3]at hid;dsimp only;rw[key hid];rfl
    ·cases h
   ·rename_i n e sx sl sh hu hx hl v
    split at h
    ·injection h with h;subst h;simp only[bh,aO,hx,am,Vg,T3]at hid;dsimp only[iP]
     split
     ·rfl
     ·split
      ·rfl
      ·rcases one hid with⟨a,b,c,d,e,h1⟩|⟨a,b,c,d,e',e,h1⟩|⟨a,e,h1⟩<;>rw[e]<;>simp[h1]
    ·cases h
   ·cases h
  | some mx =>
   cases hi with
   |none=>cases h
   | some hi =>
    dsimp only at h
    split at h
    ·rename_i e sx sl sh sm he hx hl v hm
     split at h
     ·injection h with h;subst h;simp only[bh,aO,hx,am,Vg,T3]at hid;dsimp only;rw[key hid];rfl
     ·cases h
    ·cases h
 all_goals simp[bh,aO,aE]at hid
structure CfgOk (C:Cfg):Prop where
 mixed:C.P.follows .mixedOrders=true
 recov:C.P.follows .rangeFuncRecover=true
 mon:d9 C
 noDfr:∀f e,C.ext f=some e->∀d args g y,e d args g≠.dfr y
 ext:∀f e,C.ext f=some e->∀A bd w γ hg nx g as vs,Rel C A bd w γ hg nx->WF g->(∀id∈as.flatMap (aw g.h aC),g.h.get id≠.none->hg id=g.h.get id)->Free γ g (gOf g (e (bd+1) as g)) ->
  RVs w γ A bd as vs->e (bd+1) as g≠.fail->∀cs,
  ∃u w' γ' hg',Fin C A bd w γ hg nx g w' γ' hg' (gOf g (e (bd+1) as g))/\RV w' γ' A bd (vOf (e (bd+1) as g)) u /\
   ((callFunc f vs.toArray).run C.P w=.ok (.value u) w'\/(Enters C.P f/\Outs C.P .normal f vs.toArray cs w u w'))
def DR(w:World)(γ:Gm)(A:Nat->Nat->Prop)(bd:Nat):List ADf->List Deferred->Prop
 |[],[]=>True
 |.mark id::ds,d::es=>((γ id).kind=4/\d={ target:=.collected (γ id).blk,args:=#[] })/\DR w γ A bd ds es
 |.call fv args::ds,d::es=>(∃f ys us,fv=.clo f [] ys/\d.target=.fn (.func f) us/\RVs w γ A bd ys us.toList/\RVs w γ A bd args d.args.toList)/\DR w γ A bd ds es
 |_,_=>False
theorem DR.step{ds:List ADf}:∀{es:List Deferred},DR w γ A bd ds es->Stp w γ w' γ'->DR w' γ' A bd ds es:=by
 induction ds with
 |nil=>intro es h _;cases es<;>simpa [DR] using h
 | cons d ds ih =>
  intro es h s;cases es with
  |nil=>cases d<;>simp[DR]at h
  | cons e es =>
   cases d with
   | mark id =>
    obtain⟨⟨h1,h2⟩,h3⟩:=h;have hk:(γ id).kind≠0:=by rw[h1];decide
    exact⟨⟨by rw[s.kind_eq hk,h1],by rw[h2,s.blk_eq hk (by rw[h1];decide)]⟩,ih h3 s⟩
   | call fv args =>
    obtain⟨⟨f,ys,us,h1,h2,h4,h5⟩,h3⟩:=h;exact⟨⟨f,ys,us,h1,h2,h4.step s,h5.step s⟩,ih h3 s⟩
theorem TR.step{nt:Nat}{tmps:Array Value}(h:TR w γ A bd nt t tmps)(s:Stp w γ w' γ'):TR w' γ' A bd nt t tmps :=
 ⟨h.1,λi=>(h.2 i).step s⟩
def RdOk(γ:Gm)(rd:Option Nat)(b:Frame):Prop :=
 match rd with
 |none=>b.roundOf=none
 |some id=>(γ id).kind=3/\b.roundOf=some (γ id).blk
theorem RdOk.step{b:Frame}(h:RdOk γ rd b)(s:Stp w γ w' γ'):RdOk γ' rd b:=by
 cases rd with
 |none=>exact h
 | some id =>
  obtain⟨h1,h2⟩:=h;have hk:(γ id).kind≠0:=by rw[h1];decide
  exact⟨by rw[s.kind_eq hk,h1],by rw[h2,s.blk_eq hk (by rw[h1];decide)]⟩
def Arr(P:Program)(m:Machine)(b:Frame)(k:List Item)(cs:List Frame):Ex->Act->World->Prop
 |.norm,a,w=>Steps P m (lone (b.atR a k) cs w)
 |.exit id,a,w=>∃k₁,exitTo id k₁=exitTo id k/\Steps P m (lone (b.atR a (.code (.exit id)::k₁)) cs w)
 |.ret,a,w=>∃k₁,Steps P m (lone (b.atR a (.code .ret::k₁)) cs w)
theorem Arr.of_steps{P:Program}{m m₁:Machine}{b:Frame}{k:List Item}{cs:List Frame}{e:Ex}{a:Act}(h:Steps P m m₁)(h':Arr P m₁ b k cs e a w):Arr P m b k cs e a w:=by
 cases e with
 |norm=>exact Steps.trans h h'
 |exit id=>obtain⟨k₁,h1,h2⟩:=h';exact⟨k₁,h1,Steps.trans h h2⟩
 |ret=>obtain⟨k₁,h2⟩:=h';exact⟨k₁,Steps.trans h h2⟩
def zd(C:Cfg)(bd nt:Nat)(rd:Option Nat)(c:Code)(t:T)(df:List ADf)(g:G)(e:Ex)(t':T)(df':List ADf)(g':G):Prop :=
 ∀A w γ hg nx b a k cs,Rel C A bd w γ hg nx->Ext g.h hg->WF g->Free γ g g'->TR w γ A bd nt t a.tmps->DR w γ A bd df a.defers->RdOk γ rd b->pf b.kind cs ->
  ∃a' w' γ' hg',Fin C A bd w γ hg nx g w' γ' hg' g'/\TR w' γ' A bd nt t' a'.tmps/\DR w' γ' A bd df' a'.defers /\
   Arr C.P (lone (b.atR a (.code c::k)) cs w) b k cs e a' w'
def Qb(C:Cfg)(ih:IH):Prop :=
 ∀bd nt rd c t df g e t' df' g',ih.code nt (bd+1) rd c t df g=.ok e t' df' g'->zd C bd nt rd c t df g e t' df' g'
structure IHOk (C:Cfg) (ih:IH):Prop where
 mon:IHMon ih
 call:zD C ih
 code:Qb C ih
theorem RVs.append{xs ys:List AV}{vs us:List Value}(h1:RVs w γ A bd xs vs)(h2:RVs w γ A bd ys us):RVs w γ A bd (xs++ys) (vs++us):=by
 refine⟨by simp[h1.1,h2.1],λi x v hx hv=>?_⟩
 by_cases hi:i<xs.length
 ·rw[T5 hi]at hx;rw[T5 (by rw[<-h1.1];exact hi)]at hv;exact h1.2 i x v hx hv
 ·rw[T0 (by omega)]at hx;rw[T0 (by rw[<-h1.1];omega),<-h1.1]at hv;exact h2.2 _ x v hx hv
theorem RT{xs:List AV}{vs:Array Value}(hl:xs.length=vs.size)(h:∀(i:Nat) x v,xs[i]?=some x->vs[i]?=some v->RV w γ A bd x v) :
  RVs w γ A bd xs vs.toList:=⟨by simpa using hl,λi x v hx hv=>h i x v hx (by simpa using hv)⟩
section
variable {P:Program}{b:Frame}{a:Act}{ops:Array Oper}{i:Nat}{rest:List Nat}{k:List Item}{cs:List Frame}{o:Oper}
theorem vP{v:Value}(ho:ops[i]?=some o)(hw:Region.wanted o (yielded ops a.tmps)=true)(hd:∀c,o.op≠.defer c)
  (hrun:(execOp a.eval o).run P w=.ok (.value v) w') :
  step P (lone (b.atR a (.inRegion ops (i::rest)::k)) cs w)=.next (lone (b.atR (a.put o.dst v) (.inRegion ops rest::k)) cs w'):=by
 have h:=Frame.finish_atR b a ops i rest k v;rw[ho]at h;simp only[VC]at h;refine step_lone_go ?_;rw[stepGR_op ho hw,Oper.semAt_eq _ _ _ hd,<-h];simp[stepG.apply,hrun]
theorem Kz(ho:ops[i]?=some o)(hw:Region.wanted o (yielded ops a.tmps)=true)(hd:∀c,o.op≠.defer c)
  (hrun:(execOp a.eval o).run P w=.ok .skip w') :
  step P (lone (b.atR a (.inRegion ops (i::rest)::k)) cs w)=.next (lone (b.atR (a.put o.dst undef) (.inRegion ops rest::k)) cs w'):=by
 have h:=Frame.finish_atR b a ops i rest k undef;rw[ho]at h;simp only[VC]at h;refine step_lone_go ?_;rw[stepGR_op ho hw,Oper.semAt_eq _ _ _ hd,<-h];simp[stepG.apply,hrun]
theorem vO{v:Value}(ho:ops[i]?=some o)(hw:Region.wanted o (yielded ops a.tmps)=true)(hd:∀c,o.op≠.defer c)
  (hrun:Ey P o a.eval w v w') :
  Steps P (lone (b.atR a (.inRegion ops (i::rest)::k)) cs w) (lone (b.atR (a.put o.dst v) (.inRegion ops rest::k)) cs w'):=by
 rcases hrun with h|⟨h,rfl⟩
 ·exact .one (vP ho hw hd h)
 ·exact .one (Kz ho hw hd h)
theorem Bu{f:FuncId}{args:Array Value}(ho:ops[i]?=some o)(hw:Region.wanted o (yielded ops a.tmps)=true)(hd:∀c,o.op≠.defer c)
  (hrun:(execOp a.eval o).run P w=.ok (.enter f args) w') :
  step P (lone (b.atR a (.inRegion ops (i::rest)::k)) cs w)=.next (lone (Frame.enter P f args .normal) (b.atR a (.inRegion ops (i::rest)::k)::cs) w'):=by
 refine step_lone_go ?_;rw[stepGR_op ho hw,Oper.semAt_eq _ _ _ hd];simp[stepG.apply,hrun,Frame.atR]
theorem HD{l:Nat}{f:FuncId}{tmps:Array Value}{assign body:Code}(ho:ops[i]?=some o)(hw:Region.wanted o (yielded ops a.tmps)=true)(hd:∀c,o.op≠.defer c)
  (hrun:(execOp a.eval o).run P w=.ok (.round l f tmps assign body) w') :
  step P (lone (b.atR a (.inRegion ops (i::rest)::k)) cs w)=.next (lone (Frame.round l f tmps assign body .normal) (b.atR a (.inRegion ops (i::rest)::k)::cs) w'):=by
 refine step_lone_go ?_;rw[stepGR_op ho hw,Oper.semAt_eq _ _ _ hd];simp[stepG.apply,hrun,Frame.atR]
theorem qT{f:FuncId}{args:Array Value}{u:Value}{w₁:World}(ho:ops[i]?=some o)(hw:Region.wanted o (yielded ops a.tmps)=true)(hd:∀c,o.op≠.defer c)
  (hrun:(execOp a.eval o).run P w=.ok (.enter f args) w)
  (hout:Outs P .normal f args (b.atR a (.inRegion ops (i::rest)::k)::cs) w u w₁) :
  Steps P (lone (b.atR a (.inRegion ops (i::rest)::k)) cs w) (lone (b.atR (a.put o.dst u) (.inRegion ops rest::k)) cs w₁):=by
 obtain⟨fr,hs,h1,h2,h3,h4,fn,h5,h6⟩:=hout;have h:=Frame.finish_atR b a ops i rest k u;rw[ho]at h;simp only[VC]at h;refine .head (Bu ho hw hd hrun) (Steps.trans hs (.one ?_));rw[<-h];exact step_leave_returned ⟨h1,h2,h3,fn,by rw[h4];exact h5,h6⟩
theorem Eq(ho:ops[i]?=some o)(hw:Region.wanted o (yielded ops a.tmps)=true)(hd:∀c,o.op≠.defer c)
  (hrec:P.follows .rangeFuncRecover=true) (hcalm:pf b.kind cs)
  (hrun:(execOp a.eval o).run P w=.ok .recover w) :
  step P (lone (b.atR a (.inRegion ops (i::rest)::k)) cs w)=.next (lone (b.atR (a.put o.dst .nilIface) (.inRegion ops rest::k)) cs w):=by
 have d:=Frame.finish_atR b a ops i rest k .nilIface;rw[ho]at d;simp only[VC]at d;have e:tryRecover (b.atR a (.inRegion ops (i::rest)::k)) cs=none:=by
  unfold tryRecover;rcases hcalm with h|⟨h,c,cs',rfl,hm|⟨_,_,_,hm⟩⟩
  ·simp[Frame.atR,h]
  ·simp[Frame.atR,h,hm]
  ·simp[Frame.atR,h,hm]
 refine step_lone_go ?_;rw[stepGR_op ho hw,Oper.semAt_eq _ _ _ hd,<-d];simp only[stepG.apply,Sem.runT_eq,hrun,hrec,if_true,e];cases hro:(b.atR a (.inRegion ops (i::rest)::k)).roundOf<;>simp[GStep.bare_after]
end
theorem kT{P:Program}{l:Nat}{L:Loop}(h:w.heap[l]?=some (.loop L)):(Instr.getLoop l).run P w=.ok L w:=by
 unfold Instr.getLoop;simp only[TV,fM h (by simp),TQ]
 rfl
theorem tT{P:Program}{l:Nat}{L:Loop}{o:Obj}(h:w.heap[l]?=some (.loop L)):(setObj l o).run P w=.ok () (World.setBlk w l o) :=
 ii h (by simp)
theorem Rel.setLoop(hr:Rel C A bd w γ hg nx){id dfr:Nat}{t:T}{ps:List Nat}{assign body:Code}{st st':LoopState}{pend pend':Option Code}{L:Loop}
  (hid:hg id=.loop nt t ps assign body dfr st pend) (hL:w.heap[(γ id).blk]?=some (.loop L)) :
  Rel C A bd (World.setBlk w (γ id).blk (.loop { L with state:=st',pending:=pend' })) γ (upd hg id (.loop nt t ps assign body dfr st' pend')) nx /\
   Stp w γ (World.setBlk w (γ id).blk (.loop { L with state:=st',pending:=pend' })) γ:=by
 have h:=hr.obj id;rw[hid]at h;obtain⟨h1,h2,L',h3,h4,h5,h6,h7,h8,h9,h10,k,a⟩:=h;rw[hL]at h3;injection h3 with h3;injection h3 with h3;subst h3;have hk:(γ id).kind≠0:=by rw[h1];decide
 have s:=um (w:=w) (o:=.loop { L with state:=st',pending:=pend' }) hk h2;refine hr.setBlk hk h2 ⟨h1,h2,{ L with state:=st',pending:=pend' },?_,rfl,rfl,h6,h7,h8,h9,λi=>(h10 i).step s,k,a⟩;rw[a7];simp[(hr.lt id hk).2]
theorem RP{g:G}{id:Nat}{o:AObj}(hr:Rel C A bd w' γ' (upd hg id o) nx)(s:Stp w γ w' γ') :
  Fin C A bd w γ hg nx g w' γ' (upd hg id o) (g.put id o):=by
 refine⟨hr.up (Vb _ _),s,⟨[id],by simp,λj hj=>?_,λj hj=>?_⟩⟩
 ·simp at hj;subst hj;simp[RQ]
 ·exact bZ _ _ (by simpa using hj)
theorem RO{g:G}{o:AObj}(hr:Rel C A bd w' γ' (upd hg g.nx o) (Nat.max nx (g.nx+1)))(s:Stp w γ w' γ') :
  Fin C A bd w γ hg nx g w' γ' (upd hg g.nx o) (g.new o):=by
 refine⟨by simpa using hr,s,⟨[g.nx],by simp,λj hj=>?_,λj hj=>?_⟩⟩
 ·simp at hj;subst hj;simp[RQ]
 ·exact bZ _ _ (by simpa using hj)
end
end
end Hx
