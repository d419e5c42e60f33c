/- A part of the proof: an interpreter over abstract values, shown right against the model, and what the functions of the chapter compute on it. -/
import Derived.AtR
import Derived.Test.YteaikmdilmfbeaaGreatHx4
set_option linter.unusedVariables false
set_option linter.unusedSimpArgs false
set_option linter.unnecessarySimpa false
section
namespace Hx
open Go
noncomputable section
structure SI where
 dst:Option Nat
 gd:Option (Nat×Bool)
 op:SO
inductive SC where
 | skip
 | ops (l:List SI)
 | quiet (l:List SI)
 | feet (pm:List Nat) (l:List SI)
 | seq (a b:SC)
 | cond (c:Od) (a b:SC)
 | blk (id:Nat) (b:SC)
 | loop (b:SC)
 | exit (id:Nat)
 | ret
 | rng (nt:Nat) (f:Od) (ps:List Nat) (assign body:SC)
 | raw (nt:Nat) (c:Code)
def OR.sat (r:OR)(K:AV->G->Prop)(g:G)(D:ADf->Prop):Prop :=
 match r with
 | .fail=>False
 | .val v=>K v g
 | .upd v g'=>K v g'
 | .dfr a=>D a
def CR.sat (r:CR)(Q:Ex->T->List ADf->G->Prop):Prop :=
 match r with
 | .fail=>False
 | .ok e t df g=>Q e t df g
def FR.sat (r:FR)(Q:AV->G->Prop):Prop :=
 match r with
 | .fail=>False
 | .ok v g=>Q v g
def BY (dst:Option Nat)(t:T)(v:AV):T:=match dst with | none=>t | some d=>fO t d v
abbrev PT:=T->List ADf->G->Prop
abbrev QT:=Ex->T->List ADf->G->Prop
def uX (q:Bool)(A B:PT)(t:T)(df:List ADf)(g:G):Prop:=(q=true->A t df g)/\(q=false->B t df g)
def gdP (v:AV)(w:Bool)(A B:PT)(t:T)(df:List ADf)(g:G):Prop :=
 match v with
 | .bool q=>au w (uX q A B t df g) (uX q B A t df g)
 | .tup _=>B t df g
 | _=>False
def kO (W:PT)(dst:Option Nat)(t:T)(df:List ADf)(v:AV)(g:G):Prop:=W (BY dst t v) df g
def kD (W:PT)(dst:Option Nat)(t:T)(df:List ADf)(g:G)(a:ADf):Prop:=W (BY dst t .undef) (a::df) g
def DO (C:Cfg)(d:Nat)(rd:Option Nat)(i:SI)(W:PT)(t:T)(df:List ADf)(g:G):Prop:=(i.op.run C d rd t g).sat (kO W i.dst t df) g (kD W i.dst t df g)
def zm (i:SI)(W:PT)(t:T)(df:List ADf)(g:G):Prop:=W (BY i.dst t .undef) df g
def wpO (C:Cfg)(d:Nat)(rd:Option Nat):List SI->PT->T->List ADf->G->Prop
 | [],Q,t,df,g=>Q t df g
 | i::r,Q,t,df,g =>
  match i.gd with
  | none=>DO C d rd i (wpO C d rd r Q) t df g
  | some (s,w)=>gdP (tat t s) w (DO C d rd i (wpO C d rd r Q)) (zm i (wpO C d rd r Q)) t df g
def SO.foot (C:Cfg)(t:T)(g:G):SO->Looks
 | .load _ _ a=>ap (ak (a.get t))
 | .store _ a _=>ap (ak (a.get t))
 | .slc _ a _ _=>ap (ak (a.get t))
 | .sla _ _ a _ _=>ap (ak (a.get t))
 | .ixs _ a _=>ap (ak (a.get t))
 | .app _ _ a x=>ap (ak (a.get t)++ak (x.get t))
 | .cpy _ a x=>ap (ak (a.get t)++ak (x.get t))
 | .mx a x=>ap (ak (a.get t)++ak (x.get t))
 | .mn a x=>ap (ak (a.get t)++ak (x.get t))
 | .len lk a=>match lk with | .map=>ap (uM (a.get t)) | _=>aF
 | .call f as=>au ((C.ext f).isSome || C.iso f) (ap ((gR t as).flatMap (aA g.h aB))) cC
 | .dyn f as=>match f.get t with
  | .clo f first cap=>au ((C.ext f).isSome || C.iso f) (ap ((first++(gR t as++cap)).flatMap (aA g.h aB))) cC
  | _=>cC
 | .raw op=>(aI C op).run t g
 | _=>aF
abbrev FT:=T->List ADf->G->List Foot->Prop
def kF (W:FT)(dst:Option Nat)(t:T)(df:List ADf)(lg:List Nat)(fs:List Foot)(lk:Looks)(v:AV)(g':G):Prop:=W (BY dst t v) df (iU g' (g'.lg++lg)) (⟨lk,g'.lg⟩::fs)
def HT (C:Cfg)(d:Nat)(rd:Option Nat)(i:SI)(W:FT)(fs:List Foot)(t:T)(df:List ADf)(g:G):Prop :=
 (i.op.run C d rd t (aH g [])).sat (kF W i.dst t df g.lg fs (i.op.foot C t g)) (aH g []) (λ_=>False)
def DT (i:SI)(W:FT)(fs:List Foot)(t:T)(df:List ADf)(g:G):Prop:=W (BY i.dst t .undef) df g (⟨aF,[]⟩::fs)
def wpF (C:Cfg)(d:Nat)(rd:Option Nat)(pm:List Nat):List SI->PT->T->List ADf->G->List Foot->Prop
 | [],Q,t,df,g,fs=>o8 pm fs.reverse=true/\Q t df g
 | i::r,Q,t,df,g,fs =>
  match i.gd with
  | none=>HT C d rd i (wpF C d rd pm r Q) fs t df g
  | some (s,w)=>gdP (tat t s) w (HT C d rd i (wpF C d rd pm r Q) fs) (DT i (wpF C d rd pm r Q) fs) t df g
def kS (W:PT)(Q:QT)(e:Ex)(t:T)(df:List ADf)(g:G):Prop:=match e with | .norm=>W t df g | e=>Q e t df g
def kB (id:Nat)(Q:QT)(e:Ex)(t:T)(df:List ADf)(g:G):Prop:=match e with | .exit j=>au (Nat.beq j id) (Q .norm t df g) (Q (.exit j) t df g) | e=>Q e t df g
def kL (Inv:Nat->PT)(k:Nat)(Q:QT)(e:Ex)(t:T)(df:List ADf)(g:G):Prop:=match e with | .norm=>∃k',k'<k/\Inv k' t df g | e=>Q e t df g
def kQ (g0:G)(Q:QT)(t:T)(df:List ADf)(g:G):Prop:=g.lg=[]/\g.nx=g0.nx/\Q .norm t df g0
def wpC (v:AV)(A B:PT)(t:T)(df:List ADf)(g:G):Prop:=match v with | .bool q=>uX q A B t df g | _=>False
def wpL (W:QT->PT)(Q:QT)(t:T)(df:List ADf)(g:G):Prop :=
 ∃Inv:Nat->PT,(∃k,Inv k t df g)/\∀k t df g,Inv k t df g->W (kL Inv k Q) t df g
def nGd (all:List Oper):Option (Nat×Bool)->Option (Option (Nat×Bool))
 | none=>some none
 | some (j,w)=>match all[j]? with
  | some o=>match o.dst with
   | some d=>some (some (d,w))
   | none=>none
  | none=>none
def Oa (nt:Nat):Option Nat->Bool
 | none=>true
 | some d=>Nat.blt d nt
def HA (C:Cfg)(nt:Nat)(all:List Oper):List Oper->Option (List SI)
 | []=>some []
 | o::rest=>match Oa nt o.dst,nGd all o.guard,HA C nt all rest with
  | true,some gd,some r=>some (⟨o.dst,gd,nOp C o.op⟩::r)
  | _,_,_=>none
def dM (C:Cfg)(nt:Nat):Code->SC
 | .skip=>.skip
 | .label _=>.skip
 | .region p ops draw=>match HA C nt ops.toList ops.toList with
  | some l=>au draw (au (BX ops.toList) (au (ops.toList.all λo=>xz C o.op) (.quiet l) (.feet (bi ops.toList []) l)) (.raw nt (.region p ops draw))) (.ops l)
  | none=>.raw nt (.region p ops draw)
 | .seq a b=>.seq (dM C nt a) (dM C nt b)
 | .cond c a b=>match nOd C c with
  | some c=>.cond c (dM C nt a) (dM C nt b)
  | none=>.raw nt (.cond c a b)
 | .block id b=>.blk id (dM C nt b)
 | .loop b=>.loop (dM C nt b)
 | .scope b=>dM C nt b
 | .exit id=>.exit id
 | .ret=>.ret
 | .rangeFunc f ps assign body=>match nOd C f with
  | some f=>.rng nt f ps.toList (dM C nt assign) (dM C nt body)
  | none=>.raw nt (.rangeFunc f ps assign body)
 | c=>.raw nt c
def wp (C:Cfg)(d:Nat)(rd:Option Nat):SC->QT->T->List ADf->G->Prop
 | .skip,Q,t,df,g=>Q .norm t df g
 | .ops l,Q,t,df,g=>wpO C d rd l (Q .norm) t df g
 | .quiet l,Q,t,df,g=>wpO C d rd l (kQ g Q) t df (aH g [])
 | .feet pm l,Q,t,df,g=>wpF C d rd pm l (Q .norm) t df g []
 | .seq a b,Q,t,df,g=>wp C d rd a (kS (wp C d rd b Q) Q) t df g
 | .cond c a b,Q,t,df,g=>wpC (c.get t) (wp C d rd a Q) (wp C d rd b Q) t df g
 | .blk id b,Q,t,df,g=>wp C d rd b (kB id Q) t df g
 | .loop b,Q,t,df,g=>wpL (wp C d rd b) Q t df g
 | .exit id,Q,t,df,g=>Q (.exit id) t df g
 | .ret,Q,t,df,g=>Q .ret t df g
 | .rng nt f ps a b,Q,t,df,g=>∀assign body,dM C nt assign=a->dM C nt body=b->(lH C nt (λt=>f.get t) ps assign body (I C) d rd t df g).sat Q
 | .raw nt c,Q,t,df,g=>((aJ C nt c).run (I C) d rd t df g).sat Q
theorem Gx {nt:Nat}{dst:Option Nat}(h:Oa nt dst=true):∃o,oq nt dst=some o/\∀t v,o.run t v=BY dst t v:=by
 cases dst with
 | none=>exact ⟨_,rfl,λt v=>rfl⟩
 | some d =>
  refine ⟨sp AV.undef d,?_,λt v=>rfl⟩;have h:Nat.blt d nt=true:=h;simp only[oq,h]
theorem An {all:List Oper}{j:Nat}{w:Bool}{r:Option (Nat×Bool)}(h:nGd all (some (j,w))=some r) :
  ∃s,r=some (s,w)/\gq all (some (j,w))=some ⟨λt=>match (gp AV.undef s).run t with | .bool b=>some (au w b (gZ b)) | .tup _=>some false | _=>none⟩:=by
 unfold nGd at h;dsimp only at h
 split at h
 ·rename_i o ho
  split at h
  ·rename_i d hd;injection h with h;exact ⟨d,h.symm,by simp only[gq,ho,hd];rfl⟩
  ·cases h
 ·cases h
theorem zi {out:T->AV->T}{dst:Option Nat}(ho:∀t v,out t v=BY dst t v){next:T->List ADf->G->CR}{Q:QT}{K:PT}(hk:∀t df g,K t df g->(next t df g).sat Q)
  {t:T} {df:List ADf} {g:G} {r:OR} (h:r.sat (kO K dst t df) g (kD K dst t df g)):(nf out next t df g r).sat Q:=by
 cases r with
 | fail=>exact h.elim
 | val v=>exact hk _ _ _ (by rw[ho];exact h)
 | upd v g'=>exact hk _ _ _ (by rw[ho];exact h)
 | dfr a=>exact hk _ _ _ (by rw[ho];exact h)
theorem CW {v:AV}{w:Bool}{A B:PT}{t:T}{df:List ADf}{g:G}(h:gdP v w A B t df g) :
  ∃q,(match v with | .bool b=>some (au w b (gZ b)) | .tup _=>some false | _=>none:Option Bool)=some q/\(q=true->A t df g)/\(q=false->B t df g):=by
 unfold gdP at h
 split at h
 ·rename_i q;rw[aa] at h;refine ⟨_,rfl,?_,?_⟩
  ·cases w<;>cases q<;>simp_all [uX]
  ·cases w<;>cases q<;>simp_all [uX]
 ·exact ⟨false,rfl,λh=>(by cases h),λ_=>h⟩
 ·exact h.elim
theorem KN {C:Cfg}{d:Nat}{rd:Option Nat}{nt:Nat}{all:List Oper}{Q:QT}:∀(l:List Oper) (s:List SI),HA C nt all l=some s->∀t df g,wpO C d rd s (Q .norm) t df g ->
  ((il C nt all l).run (I C) d rd t df g).sat Q:=by
 intro l
 induction l with
 | nil=>intro s h t df g hq;injection h with h;subst h;exact hq
 | cons o rest ih =>
  intro s h t df g hq;unfold HA at h
  split at h
  ·rename_i gd r hd hg hr;injection h with h;subst h;obtain ⟨ot,e1,e2⟩:=Gx hd;unfold il;rw[e1];dsimp only;cases hgd:o.guard with
   | none =>
    rw[hgd] at hg;injection hg with hg;subst hg;dsimp only;rw[<-BL];exact zi e2 (λt df g h=>ih r hr t df g h) hq
   | some jw =>
    obtain ⟨j,w⟩:=jw;rw[hgd] at hg;obtain ⟨sl,h1,h2⟩:=An hg;subst h1;dsimp only;rw[h2];dsimp only;obtain ⟨q,h3,h4,h5⟩:=CW hq;have:(gp AV.undef sl).run t=tat t sl:=gp_run _ _ _;rw[this,h3];cases q with
    | true =>
     dsimp only;rw[<-BL];exact zi e2 (λt df g h=>ih r hr t df g h) (h4 rfl)
    | false =>
     dsimp only;rw[e2];exact ih r hr _ _ _ (h5 rfl)
  ·cases h
theorem HB {C:Cfg}{op:Op}(hc:∀c,op≠.call c){t:T}{g:G}:(JA C op).foot C t g=(aI C op).run t g:=by
 have hod:∀{x:Operand} {o:Od},nOd C x=some o->∃s,aM C x=some s/\∀t,s.run t=o.get t:=bm;unfold JA
 split
 case h_8 ty a =>
  split
  ·rename_i a ag n ha h2 h3;obtain ⟨s,hs,he⟩:=hod ha;simp only[aI,hs,SO.foot,he]
  ·rfl
 case h_9 ty a x =>
  split
  ·rename_i a x n ha hx h3;obtain ⟨s,hs,he⟩:=hod ha;simp only[aI,hs,SO.foot,he]
  ·rfl
 case h_16 ty x lo hi =>
  split
  ·rename_i e x l h h0 hx hl hh;obtain ⟨s,hs,he⟩:=hod hx
   split
   ·simp only[aI,hs,SO.foot,he]
   ·rfl
  ·rename_i n e x l h h0 hx hl hh;obtain ⟨s,hs,he⟩:=hod hx
   split
   ·simp only[aI,hs,SO.foot,he]
   ·rfl
  ·rfl
 case h_19 ty x ix =>
  split
  ·rename_i a i ha hi;obtain ⟨s,hs,he⟩:=hod ha
   split
   ·rename_i e h0
    split
    ·simp only[aI,h0,hs,SO.foot,he]
    ·rfl
   ·rename_i n e h0
    split
    ·simp only[aI,h0,SO.foot]
    ·rfl
   ·rfl
  ·rfl
 all_goals (repeat' (first | rfl | split | rw[aa]))
theorem Jz {C:Cfg}{op:Op}{t:T}{g:G}:(nOp C op).foot C t g=(aI C op).run t g:=by
 unfold nOp
 split
 ·rename_i f args ats
  split
  ·rename_i vs hv;obtain ⟨s,hs,he⟩:=cE hv;simp only[SO.foot,aI,aM,hs,he,List.nil_append,List.append_nil]
  ·rfl
 ·rename_i fo args ats hnf
  split
  ·rename_i f vs hf hv;obtain ⟨s,hs,he⟩:=cE hv;obtain ⟨s2,hs2,he2⟩:=bm hf;simp only[SO.foot,aI,hs,hs2,he,he2];cases Od.get t f<;>rfl
  ·rfl
 ·rename_i b args ats
  split
  ·rename_i x hx;obtain ⟨s,hs,he⟩:=cE hx
   split
   ·rename_i ty hty;simp only[SO.foot,aI,hs,he,gR,List.flatMap_cons,List.flatMap_nil,List.append_nil,jM,hty];cases jQ C.P ty<;>rfl
   ·rfl
  ·rename_i a x hx;obtain ⟨s,hs,he⟩:=cE hx;have hfoot:(aI C (.call { callee:=.builtin .append,args:=args,argTypes:=ats })).run t g=ap (ak (a.get t)++ak (x.get t)):=by simp only[aI,hs,he,gR,List.flatMap_cons,List.flatMap_nil,List.append_nil,jM]
   split
   ·split
    ·split
     ·rw[aa];split
      ·exact hfoot.symm
      ·rfl
     ·rfl
    ·rfl
   ·rfl
  ·rename_i a x hx;obtain ⟨s,hs,he⟩:=cE hx;have hfoot:(aI C (.call { callee:=.builtin .copy,args:=args,argTypes:=ats })).run t g=ap (ak (a.get t)++ak (x.get t)):=by simp only[aI,hs,he,gR,List.flatMap_cons,List.flatMap_nil,List.append_nil,jM]
   split
   ·split
    ·split
     ·exact hfoot.symm
     ·rfl
    ·rfl
   ·rfl
  ·rename_i a x hx;obtain ⟨s,hs,he⟩:=cE hx;simp only[SO.foot,aI,hs,he,gR,List.flatMap_cons,List.flatMap_nil,List.append_nil,jM]
  ·rename_i a x hx;obtain ⟨s,hs,he⟩:=cE hx;simp only[SO.foot,aI,hs,he,gR,List.flatMap_cons,List.flatMap_nil,List.append_nil,jM]
  ·rfl
 ·rename_i h1 h2 h3;cases op with
  | call c=>rfl
  | _=>exact HB (λc h=>by cases h)
theorem NP {C:Cfg}{d:Nat}{rd:Option Nat}{nt:Nat}{all:List Oper}{pm:List Nat}{Q:QT}:∀(l:List Oper) (s:List SI) (k:Nat),HA C nt all l=some s->∀t df g fs,wpF C d rd pm s (Q .norm) t df g fs ->
  ((gm C nt pm all k l).run (I C) d rd t df g fs).sat Q:=by
 intro l
 induction l with
 | nil =>
  intro s k h t df g fs hq;injection h with h;subst h;obtain ⟨h1,h2⟩:=hq;unfold gm;dsimp only;rw[h1];exact h2
 | cons o rest ih =>
  intro s k h t df g fs hq;unfold HA at h
  split at h
  ·rename_i gd r hd hg hr;injection h with h;subst h;obtain ⟨ot,e1,e2⟩:=Gx hd;have step:∀{x:OR},x.sat (kF (wpF C d rd pm r (Q .norm)) o.dst t df g.lg fs ((nOp C o.op).foot C t g)) (aH g []) (λ_=>False) ->
     (jj ot.run ((gm C nt pm all (k+1) rest).run (I C) d rd) t df g fs ((aI C o.op).run t g) x).sat Q:=by
    intro x hx;rw[Jz] at hx;cases x with
    | fail=>exact hx.elim
    | val v =>
     simp only[jj,e2];refine ih r _ hr _ _ _ _ ?_;have hx:wpF C d rd pm r (Q .norm) (BY o.dst t v) df (iU (aH g []) ((aH g []).lg++g.lg)) (⟨(aI C o.op).run t g,(aH g []).lg⟩::fs):=hx;obtain ⟨h,nx,lg⟩:=g;exact hx
    | upd v g' =>
     simp only[jj,e2];exact ih r _ hr _ _ _ _ hx
    | dfr a=>exact hx.elim
   unfold gm;rw[e1];cases hgd:o.guard with
   | none =>
    rw[hgd] at hg;injection hg with hg;subst hg;simp only[gq];rw[<-BL];exact step hq
   | some jw =>
    obtain ⟨j,w⟩:=jw;rw[hgd] at hg;obtain ⟨sl,h1,h2⟩:=An hg;subst h1;rw[h2];dsimp only;obtain ⟨q,h3,h4,h5⟩:=CW hq;have:(gp AV.undef sl).run t=tat t sl:=gp_run _ _ _;rw[this,h3];cases q with
    | true =>
     dsimp only;rw[<-BL];exact step (h4 rfl)
    | false =>
     dsimp only;rw[e2];exact ih r _ hr _ _ _ _ (h5 rfl)
  ·cases h
theorem CR.sat_mono {r:CR}{Q Q':QT}(h:r.sat Q)(hq:∀e t df g,Q e t df g->Q' e t df g):r.sat Q':=by
 cases r with
 | fail=>exact h
 | ok e t df g=>exact hq _ _ _ _ h
theorem M4 {C:Cfg}{nt d:Nat}{rd:Option Nat}:∀(c:Code) (Q:QT) (t:T) (df:List ADf) (g:G),wp C d rd (dM C nt c) Q t df g->((aJ C nt c).run (I C) d rd t df g).sat Q:=by
 intro c
 induction c with
 | seq a b iha ihb =>
  intro Q t df g h;have h:=iha _ t df g h;show (Ae _ ((aJ C nt a).run (I C) d rd t df g)).sat Q;cases hr:(aJ C nt a).run (I C) d rd t df g with
  | fail=>rw[hr] at h;exact h
  | ok e t1 df1 g1 =>
   rw[hr] at h;cases e with
   | norm=>exact ihb _ _ _ _ h
   | exit j=>exact h
   | ret=>exact h
 | cond q a b iha ihb =>
  intro Q t df g h;unfold dM at h
  split at h
  ·rename_i o ho;obtain ⟨s,hs,he⟩:=bm ho;simp only[aJ,hs,he];have h:wpC (o.get t) (wp C d rd (dM C nt a) Q) (wp C d rd (dM C nt b) Q) t df g:=h;unfold wpC at h;cases hv:Od.get t o with
   | bool v =>
    rw[hv] at h;cases v with
    | true=>exact iha _ _ _ _ (h.1 rfl)
    | false=>exact ihb _ _ _ _ (h.2 rfl)
   | _=>rw[hv] at h;exact h.elim
  ·exact h
 | block id body ih =>
  intro Q t df g h;have h:=ih _ t df g h;show (sV id ((aJ C nt body).run (I C) d rd t df g)).sat Q;cases hr:(aJ C nt body).run (I C) d rd t df g with
  | fail=>rw[hr] at h;exact h
  | ok e t1 df1 g1 =>
   rw[hr] at h;cases e with
   | norm=>exact h
   | exit j =>
    have h:au (Nat.beq j id) (Q .norm t1 df1 g1) (Q (.exit j) t1 df1 g1):=h;show (au (Nat.beq j id) _ _:CR).sat Q;cases hb:Nat.beq j id
    ·rw[hb] at h;exact h
    ·rw[hb] at h;exact h
   | ret=>exact h
 | loop body ih =>
  intro Q t df g h;obtain ⟨Inv,⟨k,hk⟩,hs⟩:=h
  induction k using Nat.strongRecOn generalizing t df g with
  | _ k rec =>
   have h:=ih _ t df g (hs k t df g hk);show (Ae (λt df g=>(I C).code nt d rd (.loop body) t df g) ((aJ C nt body).run (I C) d rd t df g)).sat Q;cases hr:(aJ C nt body).run (I C) d rd t df g with
   | fail=>rw[hr] at h;exact h
   | ok e t1 df1 g1 =>
    rw[hr] at h;cases e with
    | norm =>
     obtain ⟨k',hlt,hi⟩:=h;show ((I C).code nt d rd (.loop body) t1 df1 g1).sat Q;rw[Eb];exact rec k' hlt t1 df1 g1 hi
    | exit j=>exact h
    | ret=>exact h
 | scope body ih=>intro Q t df g h;exact ih _ _ _ _ h
 | region p ops draw =>
  intro Q t df g h;show ((eE C nt ops.toList draw).run (I C) d rd t df g).sat Q;unfold dM at h
  split at h
  ·rename_i l hl;rw[aa,aa,aa] at h;unfold eE;rw[aa,aa,aa]
   split
   ·rename_i hd;rw[if_pos hd] at h
    split
    ·rename_i ho;rw[if_pos ho] at h
     split
     ·rename_i hq;rw[if_pos hq] at h;have h:wpO C d rd l (kQ g Q) t df (aH g []):=h;have h:=KN (C:=C) (d:=d) (rd:=rd) (Q:=λe t df g'=>e=.norm/\g'.lg=[]/\g'.nx=g.nx/\Q .norm t df g) (nt:=nt) (all:=ops.toList) ops.toList l hl t df (aH g [])
       (by
        refine cast ?_ h;congr 1;funext t df g';simp[kQ])
      dsimp only;cases hr:(il C nt ops.toList ops.toList).run (I C) d rd t df (aH g []) with
      | fail=>rw[hr] at h;exact h
      | ok e t1 df1 g1 =>
       rw[hr] at h;obtain ⟨h0,h1,h2,h3⟩:=h;subst h0;simp only[lG,h1,h2,Nat.beq_refl];exact h3
     ·rename_i hq;rw[if_neg hq] at h;exact NP _ l 0 hl _ _ _ _ h
    ·rename_i ho;rw[if_neg ho] at h;unfold wp at h;simp only[aJ,eE,aa,if_pos hd,if_neg ho] at h;exact h
   ·rename_i hd;rw[if_neg hd] at h;exact KN _ l hl _ _ _ h
  ·exact h
 | rangeFunc f ps assign body _ _ =>
  intro Q t df g h;unfold dM at h
  split at h
  ·rename_i o ho;obtain ⟨s,hs,he⟩:=bm ho;have he:s.run=λt=>o.get t:=funext he;simp only[aJ,hs,he];exact h assign body rfl rfl
  ·exact h
 | skip=>intro Q t df g h;exact h
 | label l=>intro Q t df g h;exact h
 | exit id=>intro Q t df g h;exact h
 | ret=>intro Q t df g h;exact h
 | goto l=>intro Q t df g h;exact h
 | refuse w=>intro Q t df g h;exact h
theorem OR.sat_mono {r:OR}{K K':AV->G->Prop}{g:G}{D D':ADf->Prop}(h:r.sat K g D)(hk:∀v g',K v g'->K' v g')(hd:∀a,D a->D' a):r.sat K' g D':=by
 cases r with
 | fail=>exact h
 | val v=>exact hk _ _ h
 | upd v g'=>exact hk _ _ h
 | dfr a=>exact hd _ h
inductive SR where
 | tm (n:Nat)
 | cell (ag:Bool) (n a:Nat)
structure SF where
 nt:Nat
 res:List SR
 code:SC
def BM (C:Cfg):List ResultVar->Option (List SR)
 | []=>some []
 | .tmp n::rs=>match BM C rs with
  | some k=>some (.tm n::k)
  | none=>none
 | .cell a ty::rs=>match BM C rs,p_ C.P ty,szT C.P ty with
  | some k,some ag,some n=>some (.cell ag n a::k)
  | _,_,_=>none
def nFn (C:Cfg)(f:Nat):Option SF :=
 match C.P.funcs[f]? with
 | none=>none
 | some fn=>match fn.body with
  | none=>none
  | some c=>match BM C fn.results.toList with
   | some r => au (fn.name == "runtime.NumGoroutine") none (some ⟨fn.ntmps, r, dM C fn.ntmps c⟩)
   | none=>none
def xn:List SR->T->G->(List AV->Prop)->Prop
 | [],_,_,K=>K []
 | .tm n::rs,t,g,K=>xn rs t g λvs=>K (tat t n::vs)
 | .cell ag n a::rs,t,g,K=>match pN ag n (tat t a) g with
  | .val v=>xn rs t g λvs=>K (v::vs)
  | _=>False
theorem LZ {C:Cfg}{t:T}{g:G}:∀(l:List ResultVar) (r:List SR) (K:List AV->Prop),BM C l=some r->xn r t g K->∃s vs,pP C l=some s/\s.run t g=some vs/\K vs:=by
 intro l
 induction l with
 | nil=>intro r K h hk;injection h with h;subst h;exact ⟨_,[],rfl,rfl,hk⟩
 | cons x l ih =>
  intro r K h hk;cases x with
  | tmp n =>
   unfold BM at h
   split at h
   ·rename_i k hr;injection h with h;subst h;obtain ⟨s,vs,h1,h2,h3⟩:=ih k _ hr hk;refine ⟨⟨λt g=>match s.run t g with | some vs=>some ((gp AV.undef n).run t::vs) | none=>none⟩,tat t n::vs,by simp only[pP,h1];rfl,?_,h3⟩;simp only[h2,gp_run];rfl
   ·cases h
  | cell a ty =>
   unfold BM at h
   split at h
   ·rename_i k ag n hr ha hn;injection h with h;subst h;unfold xn at hk
    split at hk
    ·rename_i v hv;obtain ⟨s,vs,h1,h2,h3⟩:=ih k _ hr hk;have hl:lC ag n (gp AV.undef a).run t g=.val v:=by rw[<-hv];simp only[pN,lC,gp_run];rfl
     refine ⟨⟨λt g=>match lC ag n (gp AV.undef a).run t g with | .val v=>(match s.run t g with | some vs=>some (v::vs) | none=>none) | _=>none⟩,v::vs,
      by simp only[pP,h1,bS,aM,ha,hn];rfl,?_,h3⟩
     simp only[hl,h2]
    ·exact hk.elim
   ·cases h
def Bn (C:Cfg)(d:Nat)(r:List SR)(t:T)(df:List ADf)(g:G)(K:AV->G->Prop):Prop :=
 match eN (I C) d df g with
 | some g'=>xn r t g' λvs=>K (jc vs) g'
 | none=>False
def fnQ (C:Cfg)(d:Nat)(r:List SR)(K:AV->G->Prop):QT:=λe t df g=>match e with | .exit _=>False | _=>Bn C d r t df g K
theorem rL {C:Cfg}{f:Nat}{s:SF}(hf:nFn C f=some s){d:Nat}{as:List AV}{g:G}{K:AV->G->Prop}(hl:as.length<=s.nt)(h:wp C d none s.code (fnQ C d s.res K) (bK 0 as .nil) [] g) :
  ((I C).call d f as g).sat K:=by
 rw[M6];unfold nFn at hf
 split at hf
 ·cases hf
 rename_i fn hfn
 split at hf
 ·cases hf
 rename_i c hc
 split at hf
 rotate_left
 ·cases hf
 rename_i r hr;rw[aa] at hf
 split at hf
 ·cases hf
 rename_i hn;injection hf with hf;subst hf;have h:=M4 c _ _ _ _ h;have hres:∃s,pP C fn.results.toList=some s:=by
  have:∀(l:List ResultVar) (r:List SR),BM C l=some r->∃s,pP C l=some s:=by
   intro l
   induction l with
   | nil=>intro r _;exact ⟨_,rfl⟩
   | cons x l ih =>
    intro r h;cases x with
    | tmp n =>
     unfold BM at h
     split at h
     ·rename_i k hr;obtain ⟨s,hs⟩:=ih k hr;exact ⟨_,by simp only[pP,hs];rfl⟩
     ·cases h
    | cell a ty =>
     unfold BM at h
     split at h
     ·rename_i k ag n hr ha hn;obtain ⟨s,hs⟩:=ih k hr;exact ⟨_,by simp only[pP,hs,bS,aM,ha,hn];rfl⟩
     ·cases h
  exact this _ _ hr
 obtain ⟨rs,hrs⟩:=hres;unfold dJ cFn;simp only[hfn,hc,hrs,aa,if_neg hn];rw[if_pos (by rw[aw,Nat.ble_eq];exact hl)];cases hrun:(aJ C fn.ntmps c).run (I C) d none (bK 0 as .nil) [] g with
 | fail=>rw[hrun] at h;exact h
 | ok e t df g' =>
  rw[hrun] at h;have key:Bn C d r t df g' K->(cD (I C) d rs.run t df g').sat K:=by
   intro h;unfold Bn at h;unfold cD
   split at h
   ·rename_i g2 hg2;rw[hg2];obtain ⟨s2,vs,h1,h2,h3⟩:=LZ _ _ _ hr h;rw[hrs] at h1;injection h1 with h1;subst h1;simp only[h2];exact h3
   ·exact h.elim
  cases e with
  | exit j=>exact h
  | norm=>exact key h
  | ret=>exact key h
end
end Hx
end
section
namespace Hx
open Go
def All2 {α β:Type}(R:α->β->Prop):List α->List β->Prop
 | [],[]=>True
 | a::as,b::bs=>R a b/\All2 R as bs
 | _,_=>False
section all2
variable {α β:Type}{R S:α->β->Prop}
theorem All2.len:∀{l:List α} {m:List β},All2 R l m->l.length=m.length
 | [],[],_=>rfl
 | _::_,_::_,h=>by simp only[List.length_cons,All2.len h.2]
theorem All2.mono (hs:∀a b,R a b->S a b):∀{l:List α} {m:List β},All2 R l m->All2 S l m
 | [],[],_=>trivial
 | _::_,_::_,h=>⟨hs _ _ h.1,All2.mono hs h.2⟩
theorem All2.get:∀{l:List α} {m:List β},All2 R l m->∀{i:Nat} {a:α},l[i]?=some a->∃b,m[i]?=some b/\R a b
 | _::_,b::_,h,0,_,e=>by simp at e;subst e;exact ⟨b,rfl,h.1⟩
 | _::_,_::_,h,i+1,a,e=>by simpa using All2.get h.2 (i:=i) (by simpa using e)
 | [],[],_,i,a,e=>by simp at e
theorem All2.append:∀{l:List α} {m:List β} {l':List α} {m':List β},All2 R l m->All2 R l' m'->All2 R (l++l') (m++m')
 | [],[],_,_,_,h'=>h'
 | _::_,_::_,_,_,h,h'=>⟨h.1,All2.append h.2 h'⟩
theorem All2.take:∀{l:List α} {m:List β},All2 R l m->∀(i:Nat),All2 R (l.take i) (m.take i)
 | [],[],_,_=>by simp[All2]
 | _::_,_::_,h,0=>by simp[All2]
 | _::_,_::_,h,i+1=>⟨h.1,All2.take h.2 i⟩
theorem All2.drop:∀{l:List α} {m:List β},All2 R l m->∀(i:Nat),All2 R (l.drop i) (m.drop i)
 | [],[],_,_=>by simp[All2]
 | _::_,_::_,h,0=>h
 | _::_,_::_,h,i+1=>All2.drop h.2 i
theorem All2.of_map {f:α->β}(h:∀a,R a (f a)):∀l:List α,All2 R l (l.map f)
 | []=>trivial
 | a::l=>⟨h a,All2.of_map h l⟩
theorem All2.eq_map {f:α->β}(hf:∀a b,R a b->b=f a):∀{l:List α} {m:List β},All2 R l m->m=l.map f
 | [],[],_=>rfl
 | a::l,b::m,h=>by rw[List.map_cons,hf _ _ h.1,All2.eq_map hf h.2]
end all2
def NoP:Nat->Prop:=λ_=>False
class Rp (α:Type) where
 sz:Nat
 dp:Nat
 rp:(Nat->Prop)->Nat->H->α->List AV->Prop
 len:∀{P k h x cs},rp P k h x cs->cs.length=sz
 mono:∀{P P':Nat->Prop} {k k':Nat} {h h':H} {x:α} {cs:List AV},rp P k h x cs->(∀i,P i->P' i/\h'.get i=h.get i)->k<=k'->rp P' k' h' x cs
 snap:∀{P k h x cs n} (d:Nat),rp P k h x cs->dp<=n->dp<=aB->∃cs',aE (Hx.snap h d n) cs=some cs'/\rp NoP (max k d) .nil x cs'
 same:∀{k h x cs n} (d:Nat),rp NoP k h x cs->dp<=n->aE (Hx.snap h d n) cs=some cs
 ids:∀{P k h x cs n},rp P k h x cs->∀i∈cs.flatMap (aA h n),P i
 tag:∀{k h x cs n},rp NoP k h x cs->dp<=n->∃m,eT (dH n) cs=some m/\m<=k
theorem Rp.tree {α:Type} [Rp α]{P:Nat->Prop}{k k':Nat}{h h':H}{x:α}{cs:List AV}(r:Rp.rp NoP k h x cs)(hk:k<=k'):Rp.rp P k' h' x cs :=
 Rp.mono r (λ_ h=>h.elim) hk
def AV.flat:AV->Bool
 | .bool _ | .int _ _ | .str _=>true
 | _=>false
theorem A3 {h:H}{d n:Nat}{v:AV}(hv:v.flat=true)(hn:1<=n):Hx.snap h d n v=some v:=by obtain ⟨n,rfl⟩:∃m,n=m+1:=⟨n - 1,by omega⟩;cases v<;>first | rfl | cases hv
theorem KC {n:Nat}{v:AV}(hv:v.flat=true)(hn:1<=n):dH n v=some 0:=by obtain ⟨n,rfl⟩:∃m,n=m+1:=⟨n - 1,by omega⟩;cases v<;>first | rfl | cases hv
theorem I_ {h:H}{n:Nat}{v:AV}(hv:v.flat=true):aA h n v=[]:=by
 cases n with
 | zero=>rfl
 | succ n=>cases v<;>first | rfl | cases hv
@[reducible] def Rp.plain {α:Type} (f:α->AV) (ok:α->Prop) (hf:∀x,(f x).flat=true):Rp α where
 sz:=1
 dp:=1
 rp:=λ_ _ _ x cs=>cs=[f x]/\ok x
 len:=by rintro P k h x cs ⟨rfl,-⟩;rfl
 mono:=λr _ _=>r
 snap:=by rintro P k h x cs n d ⟨rfl,ho⟩ hn _;exact ⟨[f x],by simp only[aE,A3 (hf x) hn],rfl,ho⟩
 same:=by rintro k h x cs n d ⟨rfl,ho⟩ hn;simp only[aE,A3 (hf x) hn]
 ids:=by rintro P k h x cs n ⟨rfl,ho⟩ i hi;simp[I_ (hf x)] at hi
 tag:=by rintro k h x cs n ⟨rfl,ho⟩ hn;exact ⟨0,by simp[eT,KC (hf x) hn],Nat.zero_le _⟩
def ci (x:Int):List AV:=[.int .i64 x]
def cu (x:Nat):List AV:=[.int .u64 (x:Int)]
instance : Rp Int:=Rp.plain (λx=>.int .i64 x) (λ_=>True) (λ_=>rfl)
instance : Rp Bool:=Rp.plain (λx=>.bool x) (λ_=>True) (λ_=>rfl)
instance : Rp Nat:=Rp.plain (λx=>.int .u64 (x:Int)) (λx=>x<18446744073709551616) (λ_=>rfl)
instance : Rp UInt8:=Rp.plain (λx=>.int .u8 (x.toNat:Int)) (λ_=>True) (λ_=>rfl)
instance : Rp UInt16:=Rp.plain (λx=>.int .u16 (x.toNat:Int)) (λ_=>True) (λ_=>rfl)
theorem rm {α β:Type}{f:α->Option β}:∀{l m:List α} {a b:List β},aE f l=some a->aE f m=some b->aE f (l++m)=some (a++b)
 | [],m,a,b,h1,h2=>by injection h1 with h1;subst h1;exact h2
 | x::l,m,a,b,h1,h2=>by
  unfold aE at h1
  split at h1
  ·rename_i y hy
   split at h1
   ·rename_i ys hys;injection h1 with h1;subst h1;simp only[List.cons_append,aE,hy,rm hys h2]
   ·cases h1
  ·cases h1
theorem wB {α:Type}{f:α->Option Nat}:∀{l m:List α} {a b:Nat},eT f l=some a->eT f m=some b->eT f (l++m)=some (max a b)
 | [],m,a,b,h1,h2=>by injection h1 with h1;subst h1;simpa using h2
 | x::l,m,a,b,h1,h2=>by
  unfold eT at h1
  split at h1
  ·rename_i y hy
   split at h1
   ·rename_i ys hys;injection h1 with h1;subst h1;simp only[List.cons_append,eT,hy,wB hys h2,Option.some.injEq,Nat.max_def]
    repeat' split
    all_goals omega
   ·cases h1
  ·cases h1
instance {α β:Type} [Rp α] [Rp β]:Rp (α×β) where
 sz:=Rp.sz α+Rp.sz β
 dp:=max (Rp.dp α) (Rp.dp β)
 rp:=λP k h x cs=>∃a b,cs=a++b/\Rp.rp P k h x.1 a/\Rp.rp P k h x.2 b
 len:=by rintro P k h x cs ⟨a,b,rfl,h1,h2⟩;rw[List.length_append,Rp.len h1,Rp.len h2]
 mono:=by rintro P P' k k' h h' x cs ⟨a,b,rfl,h1,h2⟩ hp hk;exact ⟨a,b,rfl,Rp.mono h1 hp hk,Rp.mono h2 hp hk⟩
 snap:=by rintro P k h x cs n d ⟨a,b,rfl,h1,h2⟩ hn hA;obtain ⟨a',e1,r1⟩:=Rp.snap (n:=n) d h1 (by omega) (by omega);obtain ⟨b',e2,r2⟩:=Rp.snap (n:=n) d h2 (by omega) (by omega);exact ⟨a'++b',rm e1 e2,a',b',rfl,r1,r2⟩
 same:=by rintro k h x cs n d ⟨a,b,rfl,h1,h2⟩ hn;exact rm (Rp.same d h1 (by omega)) (Rp.same d h2 (by omega))
 ids:=by
  rintro P k h x cs n ⟨a,b,rfl,h1,h2⟩ i hi;rw[List.flatMap_append,List.mem_append] at hi;rcases hi with hi | hi
  ·exact Rp.ids h1 i hi
  ·exact Rp.ids h2 i hi
 tag:=by rintro k h x cs n ⟨a,b,rfl,h1,h2⟩ hn;obtain ⟨m1,e1,l1⟩:=Rp.tag (n:=n) h1 (by omega);obtain ⟨m2,e2,l2⟩:=Rp.tag (n:=n) h2 (by omega);exact ⟨max m1 m2,wB e1 e2,by omega⟩
@[reducible] def Rp.via {α β:Type} [Rp β] (f:α->β):Rp α where
 sz:=Rp.sz β
 dp:=Rp.dp β
 rp:=λP k h x cs=>Rp.rp P k h (f x) cs
 len:=Rp.len
 mono:=Rp.mono
 snap:=Rp.snap
 same:=Rp.same
 ids:=Rp.ids
 tag:=Rp.tag
def SlV {α:Type} [Rp α](P:Nat->Prop)(k:Nat)(h:H)(l:List α)(v:AV):Prop :=
 match v with
 | .nils | .esl=>l=[]
 | .tsl t s rows=>t<=k/\(s=Rp.sz α\/rows=[])/\All2 (Rp.rp NoP k .nil) l rows
 | .hsl id _ _ _ _=>P id/\∃rows,ah h (Rp.sz α) v=some rows/\All2 (Rp.rp P k h) l rows
 | _=>False
def SlR {α:Type} [Rp α](P:Nat->Prop)(k:Nat)(h:H)(l:List α)(v:AV):Prop:=l.length<9223372036854775808/\SlV P k h l v
theorem SlR.rows {α:Type} [Rp α]{P:Nat->Prop}{k:Nat}{h:H}{l:List α}{v:AV}(r:SlR P k h l v):∃rows,ah h (Rp.sz α) v=some rows/\All2 (Rp.rp P k h) l rows:=by
 have r:=r.2;unfold SlV at r
 split at r
 ·subst r;exact ⟨[],rfl,trivial⟩
 ·subst r;exact ⟨[],rfl,trivial⟩
 ·obtain ⟨h1,h2,h3⟩:=r;refine ⟨_,?_,h3.mono λa b r=>Rp.tree r (Nat.le_refl _)⟩;simp only[ah];rw[aa];rcases h2 with h2 | h2
  ·subst h2;simp
  ·subst h2;simp
 ·exact r.2
 ·exact r.elim
theorem AP {α β γ:Type}{R:α->β->Prop}{S:α->γ->Prop}{f:β->Option γ}(hf:∀a b,R a b->∃c,f b=some c/\S a c):∀{l:List α} {m:List β},All2 R l m->∃r,aE f m=some r/\All2 S l r
 | [],[],_=>⟨[],rfl,trivial⟩
 | a::l,b::m,h=>by obtain ⟨c,e1,s1⟩:=hf a b h.1;obtain ⟨r,e2,s2⟩:=AP hf h.2;exact ⟨c::r,by simp only[aE,e1,e2],s1,s2⟩
theorem AR {α β:Type}{R:α->β->Prop}{f:β->Option Nat}{k:Nat}(hf:∀a b,R a b->∃m,f b=some m/\m<=k):∀{l:List α} {m:List β},All2 R l m->∃r,eT f m=some r/\r<=k
 | [],[],_=>⟨0,rfl,Nat.zero_le _⟩
 | a::l,b::m,h=>by obtain ⟨c,e1,s1⟩:=hf a b h.1;obtain ⟨r,e2,s2⟩:=AR hf h.2;exact ⟨max c r,by simp only[eT,e1,e2],by omega⟩
theorem C_ {α β:Type}{R:α->β->Prop}:∀{l:List α} {m:List β},All2 R l m->∀b∈m,∃a,R a b
 | [],[],_,b,hb=>by simp at hb
 | a::l,c::m,h,b,hb=>by
  rcases List.mem_cons.1 hb with rfl | hb
  ·exact ⟨a,h.1⟩
  ·exact C_ h.2 b hb
theorem wG {h h':H}{sz:Nat}{v:AV}(he:∀id ep off len lim,v=.hsl id ep off len lim->h'.get id=h.get id):ah h' sz v=ah h sz v:=by
 cases v with
 | hsl id ep off len lim=>simp only[ah,he id ep off len lim rfl]
 | _=>rfl
instance {α:Type} [Rp α]:Rp (List α) where
 sz:=1
 dp:=Rp.dp α+1
 rp:=λP k h l cs=>∃v,cs=[v]/\SlR P k h l v
 len:=by rintro P k h x cs ⟨v,rfl,h1⟩;rfl
 mono:=by
  rintro P P' k k' h h' x cs ⟨v,rfl,h0,h1⟩ hp hk;refine ⟨v,rfl,h0,?_⟩;unfold SlV at h1 ⊢
  split at h1
  ·exact h1
  ·exact h1
  ·exact ⟨by omega,h1.2.1,h1.2.2.mono λa b r=>Rp.mono r (λi hi=>hi.elim) hk⟩
  ·rename_i id ep off len lim;obtain ⟨a,rows,b,c⟩:=h1;refine ⟨(hp _ a).1,rows,?_,c.mono λa b r=>Rp.mono r hp hk⟩;rw[<-b];exact wG λ_ _ _ _ _ e=>by injection e with e;subst e;exact (hp _ a).2
  ·exact h1
 snap:=by
  rintro P k h x cs n d ⟨v,rfl,h0,h1⟩ hn hA;obtain ⟨n,rfl⟩:∃m,n=m+1:=⟨n - 1,by omega⟩;have hdA:(23:Nat)+1=aB:=rfl;cases v with
  | nils=>exact ⟨_,rfl,_,rfl,h0,h1⟩
  | esl=>exact ⟨_,rfl,_,rfl,h0,h1⟩
  | tsl t s rows =>
   refine ⟨_,rfl,_,rfl,h0,?_⟩;obtain ⟨q1,q2,q3⟩:=h1;exact ⟨by omega,q2,q3.mono λa b r=>Rp.mono r (λi hi=>hi.elim) (by omega)⟩
  | hsl id ep off len lim =>
   obtain ⟨q1,rows,q2,q3⟩:=h1;simp only[ah] at q2
   split at q2
   ·rename_i sz' rows' ep' lo fz hg;rw[aa] at q2
    split at q2
    ·rename_i hc;simp only[Bool.and_eq_true] at hc;obtain ⟨⟨hc1,hc2⟩,hc3⟩:=hc;injection q2 with q2;have e1:=Nat.eq_of_beq_eq_true hc2;subst e1;obtain ⟨rs,e2,a2⟩:=AP (S:=Rp.rp NoP (max k d) .nil) (f:=aE (Hx.snap h d n)) (λa b r=>Rp.snap (n:=n) d r (by omega) (by omega)) q3;obtain ⟨m,e3,l3⟩:=AR (f:=eT (dH aB)) (k:=max k d) (λa b r=>Rp.tag (n:=aB) r (by omega)) a2;refine ⟨[.tsl (Nat.max d m) (Rp.sz α) rs],?_,_,rfl,h0,?_⟩
     ·simp only[aE,Hx.snap,hg,hc1,hc3,Bool.and_self,q2,e2,eL,e3]
     ·refine ⟨?_,.inl rfl,a2⟩;show max d m<=max k d;omega
    ·cases q2
   ·cases q2
  | _=>exact h1.elim
 same:=by
  rintro k h x cs n d ⟨v,rfl,-,h1⟩ hn;obtain ⟨n,rfl⟩:∃m,n=m+1:=⟨n - 1,by omega⟩;cases v with
  | nils=>rfl
  | esl=>rfl
  | tsl t s rows=>rfl
  | hsl id ep off len lim=>exact h1.1.elim
  | _=>exact h1.elim
 ids:=by
  rintro P k h x cs n ⟨v,rfl,-,h1⟩ i hi;cases n with
  | zero=>simp[aA] at hi
  | succ n =>
   simp only[List.flatMap_cons,List.flatMap_nil,List.append_nil] at hi;cases v with
   | hsl id ep off len lim =>
    obtain ⟨q1,rows,q2,q3⟩:=h1;unfold aA at hi;rcases List.mem_cons.1 hi with rfl | hi
    ·exact q1
    ·simp only[ah] at q2
     split at q2
     ·rename_i sz' rows' ep' lo fz hg;rw[aa] at q2
      split at q2
      ·injection q2 with q2;rw[hg] at hi;simp only[q2,List.mem_flatMap] at hi;obtain ⟨row,hr,c,hc,hi⟩:=hi;obtain ⟨a,r⟩:=C_ q3 row hr;exact Rp.ids (n:=n) r i (List.mem_flatMap.2 ⟨c,hc,hi⟩)
      ·cases q2
     ·cases q2
   | nils=>simp[aA] at hi
   | esl=>simp[aA] at hi
   | tsl t s rows=>simp[aA] at hi
   | _=>exact h1.elim
 tag:=by
  rintro k h x cs n ⟨v,rfl,-,h1⟩ hn;obtain ⟨n,rfl⟩:∃m,n=m+1:=⟨n - 1,by omega⟩;cases v with
  | nils=>exact ⟨0,rfl,Nat.zero_le _⟩
  | esl=>exact ⟨0,rfl,Nat.zero_le _⟩
  | tsl t s rows=>exact ⟨t,by simp[eT,dH],h1.1⟩
  | hsl id ep off len lim=>exact h1.1.elim
  | _=>exact h1.elim
theorem da {α:Type} [Rp α]{P:Nat->Prop}{k:Nat}{h:H}{l:List α}{cs:List AV}:Rp.rp P k h l cs↔∃v,cs=[v]/\SlR P k h l v:=Iff.rfl
theorem aL {P:Nat->Prop}{k:Nat}{h:H}{x:Int}{cs:List AV}:Rp.rp P k h x cs↔cs=[.int .i64 x]:=by simp[Rp.rp]
theorem B2 {P:Nat->Prop}{k:Nat}{h:H}{x:Nat}{cs:List AV}:Rp.rp P k h x cs↔cs=[.int .u64 (x:Int)]/\x<18446744073709551616:=by simp[Rp.rp]
theorem jT {P:Nat->Prop}{k:Nat}{h:H}{x:Bool}{cs:List AV}:Rp.rp P k h x cs↔cs=[.bool x]:=by simp[Rp.rp]
theorem du {P:Nat->Prop}{k:Nat}{h:H}{x:UInt8}{cs:List AV}:Rp.rp P k h x cs↔cs=[.int .u8 (x.toNat:Int)]:=by simp[Rp.rp]
theorem xC {α β:Type} [Rp α] [Rp β]{P:Nat->Prop}{k:Nat}{h:H}{x:α×β}{cs:List AV}:Rp.rp P k h x cs↔∃a b,cs=a++b/\Rp.rp P k h x.1 a/\Rp.rp P k h x.2 b:=Iff.rfl
theorem SlR.ints {P:Nat->Prop}{k:Nat}{h:H}{l:List Int}{v:AV}(r:SlR P k h l v):ah h 1 v=some (l.map ci):=by obtain ⟨rows,h1,h2⟩:=r.rows;rw[show (1:Nat)=Rp.sz Int from rfl,h1,h2.eq_map (f:=ci) λa b r=>aL.1 r]
theorem SlR.nats {P:Nat->Prop}{k:Nat}{h:H}{l:List Nat}{v:AV}(r:SlR P k h l v):ah h 1 v=some (l.map cu):=by obtain ⟨rows,h1,h2⟩:=r.rows;rw[show (1:Nat)=Rp.sz Nat from rfl,h1,h2.eq_map (f:=cu) λa b r=>(B2.1 r).1]
end Hx
end
section
namespace Hx
open Go
noncomputable section
theorem ji (t:T)(n m:Nat)(v:AV):tat (fO t n v) m=if m=n then v else tat t m:=sp_get _ _ _ _ _
theorem Dh (a:AV)(t:T):bK 0 [a] t=fO t 0 a:=rfl
theorem Di (a b:AV)(t:T):bK 0 [a,b] t=fO (fO t 0 a) 1 b:=rfl
theorem Dj (a b c:AV)(t:T):bK 0 [a,b,c] t=fO (fO (fO t 0 a) 1 b) 2 c:=rfl
theorem Dk (a b c e:AV)(t:T):bK 0 [a,b,c,e] t=fO (fO (fO (fO t 0 a) 1 b) 2 c) 3 e:=rfl
theorem yZ (i:Nat)(t:T):bK i [] t=t:=rfl
theorem GQ (m:Nat):tat Tr.nil m=AV.undef:=Tr.get_nil _ _
theorem ML (t:T)(n:Nat):Od.get t (.t n)=tat t n:=rfl
theorem MK (t:T)(v:AV):Od.get t (.k v)=v:=rfl
theorem CX (t:T):gR t []=[]:=rfl
theorem AH (t:T)(o:Od)(os:List Od):gR t (o::os)=o.get t::gR t os:=rfl
theorem aR (h:H)(i:Nat)(o:AObj):(h.put i o).get i=o:=by rw[H.get_put,if_pos rfl]
theorem aq (h:H)(i:Nat)(o:AObj){k:Nat}(hk:k≠i):(h.put i o).get k=h.get k:=by rw[H.get_put,if_neg hk]
theorem FZ (k:Nat):G.empty.h.get k=AObj.none:=by simp[G.empty,H.get,Tr.get_nil]
theorem CG:G.empty.nx=0:=rfl
theorem GJ (v:AV)(K:AV->G->Prop)(g:G)(D:ADf->Prop):(OR.val v).sat K g D=K v g:=rfl
theorem GI (v:AV)(g':G)(K:AV->G->Prop)(g:G)(D:ADf->Prop):(OR.upd v g').sat K g D=K v g':=rfl
theorem Dn (v:AV):orV (some v)=.val v:=rfl
theorem ay {x:Int}(h:-9223372036854775808<=x)(h':x<9223372036854775808):IntKind.wrap .i64 x=x:=by
 by_cases h0:x<0
 ·exact uT x h h0
 ·obtain ⟨n,rfl⟩:=Int.eq_ofNat_of_zero_le (show 0<=x by omega);exact lL n (by omega)
theorem sn {x:Int}(h:0<=x)(h':x<18446744073709551616):IntKind.wrap .u64 x=x:=by simp only[IntKind.wrap,IntKind.bits,IntKind.signed,Bool.false_and,Bool.false_eq_true,if_false];exact Int.emod_eq_of_lt h h'
theorem bz (k:IntKind):cA k k=true:=by cases k<;>rfl
theorem Fw (k:IntKind)(a b:Int):cq .add (.int k a) (.int k b)=.val (.int k (k.wrap (a+b))):=by simp only[cq,ei,bz,fp];rfl
theorem FI (k:IntKind)(a b:Int):cq .sub (.int k a) (.int k b)=.val (.int k (k.wrap (a - b))):=by simp only[cq,ei,bz,fp];rfl
theorem FE (k:IntKind)(a b:Int):cq .mul (.int k a) (.int k b)=.val (.int k (k.wrap (a*b))):=by simp only[cq,ei,bz,fp];rfl
theorem Fy (k:IntKind)(a b:Int):cq .eql (.int k a) (.int k b)=.val (.bool (decide (a=b))):=by simp only[cq,ei,bz,rO];rfl
theorem FF (k:IntKind)(a b:Int):cq .neq (.int k a) (.int k b)=.val (.bool (!decide (a=b))):=by simp only[cq,ei,bz,rO,notb_eq];rfl
theorem FD (k:IntKind)(a b:Int):cq .lss (.int k a) (.int k b)=.val (.bool (decide (a<b))):=by simp only[cq,ei,bz,jP];rfl
theorem FA (k:IntKind)(a b:Int):cq .gtr (.int k a) (.int k b)=.val (.bool (decide (b<a))):=by simp only[cq,ei,bz,jP];rfl
theorem FC (k:IntKind)(a b:Int):cq .leq (.int k a) (.int k b)=.val (.bool (decide (a<=b))):=by
 simp only[cq,ei,bz,jP,notb_eq]
 by_cases h:b<a
 ·rw[decide_eq_true h,decide_eq_false (show ¬a<=b by omega)];rfl
 ·rw[decide_eq_false h,decide_eq_true (show a<=b by omega)];rfl
theorem Fz (k:IntKind)(a b:Int):cq .geq (.int k a) (.int k b)=.val (.bool (decide (b<=a))):=by
 simp only[cq,ei,bz,jP,notb_eq]
 by_cases h:a<b
 ·rw[decide_eq_true h,decide_eq_false (show ¬b<=a by omega)];rfl
 ·rw[decide_eq_false h,decide_eq_true (show b<=a by omega)];rfl
theorem FG (k:IntKind){a b:Int}(ha:0<=a)(hb:0<b):cq .quo (.int k a) (.int k b)=.val (.int k (k.wrap (a / b))):=by obtain ⟨m,rfl⟩:=Int.eq_ofNat_of_zero_le ha;obtain ⟨n,rfl⟩:=Int.eq_ofNat_of_zero_le (show 0<=b by omega);obtain ⟨n,rfl⟩:∃j,n=j+1:=⟨n - 1,by omega⟩;simp only[cq,ei,bz];show orV (LR k (.ofNat m) (.ofNat (n+1)))=_;simp only[LR,fp];rfl
theorem gk (k:IntKind){a b:Int}(ha:0<=a)(hb:0<b):cq .rem (.int k a) (.int k b)=.val (.int k (a % b)):=by obtain ⟨m,rfl⟩:=Int.eq_ofNat_of_zero_le ha;obtain ⟨n,rfl⟩:=Int.eq_ofNat_of_zero_le (show 0<=b by omega);obtain ⟨n,rfl⟩:∃j,n=j+1:=⟨n - 1,by omega⟩;simp only[cq,ei,bz];show orV (LY k (.ofNat m) (.ofNat (n+1)))=_;simp only[LY];rfl
theorem K2 (k':IntKind)(m n:Nat):cq .shl (.int .u64 (m:Int)) (.int k' (n:Int))=.val (.int .u64 ((m*2 ^ n % 18446744073709551616:Nat):Int)):=by
 show orV (Km .u64 (.ofNat m) (.ofNat n))=_;simp only[Km,IntKind.bits];show OR.val (.int .u64 (rJ .u64 (.ofNat (m*2 ^ (Nat.min n 64)))))=_;simp only[rJ];congr 2;show ((m*2 ^ (min n 64) % 18446744073709551616:Nat):Int)=_
 by_cases h:n<=64
 ·rw[Nat.min_eq_left h]
 ·rw[Nat.min_eq_right (by omega)];obtain ⟨j,rfl⟩:∃j,n=64+j:=⟨n - 64,by omega⟩;rw[Nat.pow_add,show (18446744073709551616:Nat)=2 ^ 64 from rfl,Nat.mul_mod_left,<-Nat.mul_assoc,Nat.mul_comm (m*2 ^ 64),<-Nat.mul_assoc,Nat.mul_mod_left]
theorem FH (k':IntKind)(m n:Nat)(h:m<18446744073709551616):cq .shr (.int .u64 (m:Int)) (.int k' (n:Int))=.val (.int .u64 ((m / 2 ^ n:Nat):Int)):=by
 show orV (Kn .u64 (.ofNat m) (.ofNat n))=_;simp only[Kn,IntKind.bits];show OR.val (.int .u64 (.ofNat (m / 2 ^ (Nat.min n 64))))=_;congr 2;show ((m / 2 ^ (min n 64):Nat):Int)=_
 by_cases h2:n<=64
 ·rw[Nat.min_eq_left h2]
 ·rw[Nat.min_eq_right (by omega)];obtain ⟨j,rfl⟩:∃j,n=64+j:=⟨n - 64,by omega⟩;rw[Nat.pow_add,<-Nat.div_div_eq_div_mul,show (2 ^ 64:Nat)=18446744073709551616 from rfl,Nat.div_eq_of_lt h,Nat.zero_div]
theorem wc {m n:Nat}(h:m<18446744073709551616)(h':n<18446744073709551616):jU .u64 m n=true:=by simp only[jU,Bool.and_eq_true,Nat.blt_eq];exact ⟨h,h'⟩
theorem Bg (m n:Nat)(h:m<18446744073709551616)(h':n<18446744073709551616):cq .or (.int .u64 (m:Int)) (.int .u64 (n:Int))=.val (.int .u64 ((m ||| n:Nat):Int)):=by show orV (au (jU .u64 m n) _ _)=_;rw[wc h h'];rfl
theorem Fx (m n:Nat)(h:m<18446744073709551616)(h':n<18446744073709551616):cq .and (.int .u64 (m:Int)) (.int .u64 (n:Int))=.val (.int .u64 ((m &&& n:Nat):Int)):=by show orV (au (jU .u64 m n) _ _)=_;rw[wc h h'];rfl
theorem Eh (m n:Nat)(h:m<18446744073709551616)(h':n<18446744073709551616):cq .andNot (.int .u64 (m:Int)) (.int .u64 (n:Int))=.val (.int .u64 ((m ^^^ (m &&& n):Nat):Int)):=by show orV (au (jU .u64 m n) _ _)=_;rw[wc h h'];rfl
theorem Gw {m n:Nat}(h:m<18446744073709551616)(h':n<18446744073709551616):m ||| n<18446744073709551616:=Nat.or_lt_two_pow (n:=64) h h'
theorem Df (b:Bool):LJ (.bool b)=.val (.bool (!b)):=by simp only[LJ,notb_eq]
theorem Cy (k k':IntKind)(a:Int):FP k (.int k' a)=.val (.int k (k.wrap a)):=by simp only[FP,fp]
theorem JQ (a b:AV):Gz (.bool true) a b=.val a:=rfl
theorem JP (a b:AV):Gz (.bool false) a b=.val b:=rfl
theorem Jy (k:IntKind)(a b:Int):mxV (.int k a) (.int k b)=.val (.int k (max a b)):=by
 simp only[mxV,bz,jP]
 by_cases h:a<b
 ·rw[decide_eq_true h,Int.max_eq_right (by omega)]
 ·rw[decide_eq_false h,Int.max_eq_left (by omega)]
theorem Jv (k:IntKind)(a b:Int):mnV (.int k a) (.int k b)=.val (.int k (min a b)):=by
 simp only[mnV,bz,jP]
 by_cases h:b<a
 ·rw[decide_eq_true h,Int.min_eq_right (by omega)]
 ·rw[decide_eq_false h,Int.min_eq_left (by omega)]
def iH (sz:Nat)(v:AV)(i off:Nat):AV :=
 match v with
 | .tsl l _ rows=>.tptr l sz rows i off
 | .hsl id ep o _ _=>.hptr id ep (o+i) off
 | _=>.undef
theorem Jr {g:G}{sz:Nat}{v:AV}{rows:List (List AV)}(h:ah g.h sz v=some rows):cV .slice v g=.val (.int .i64 (rows.length:Int)):=by
 unfold ah at h
 split at h
 ·injection h with h;subst h;rfl
 ·injection h with h;subst h;rfl
 ·rw[aa] at h
  split at h
  ·injection h with h;subst h;simp only[cV,aw];rfl
  ·cases h
 ·split at h
  ·rw[aa] at h
   split at h
   ·rename_i hc;injection h with h;subst h;simp only[Bool.and_eq_true,Nat.ble_eq,aw] at hc;simp only[cV,bh,bg,List.length_take,List.length_drop];congr 3;rw[Nat.min_eq_left (by omega)]
   ·cases h
  ·cases h
 ·cases h
theorem cL {h:H}{sz:Nat}{v:AV}{rows:List (List AV)}(hv:ah h sz v=some rows)(g:G):cV .slice v g=.val (.int .i64 (rows.length:Int)) :=
 (show cV .slice v g=cV .slice v ⟨h,0,[]⟩ from by cases v<;>rfl).trans (Jr (g:=⟨h,0,[]⟩) hv)
theorem Jj {g:G}{sz:Nat}{v:AV}{rows:List (List AV)}{k:IntKind}{i:Int}(h:ah g.h sz v=some rows)(h0:0<=i)(hi:i<rows.length) :
  BC sz v (.int k i) g=.val (iH sz v i.toNat 0):=by
 obtain ⟨n,rfl⟩:=Int.eq_ofNat_of_zero_le h0;have hi:n<rows.length:=by omega
 show BC sz v (.int k (.ofNat n)) g=.val (iH sz v n 0);unfold ah at h
 split at h
 ·injection h with h;subst h;simp at hi
 ·injection h with h;subst h;simp at hi
 ·rw[aa] at h
  split at h
  ·rename_i hc;injection h with h;subst h;rename_i sz' rows _;have:Nat.beq sz sz'=true:=by
    simp only[Bool.or_eq_true,List.isEmpty_iff] at hc;rcases hc with hc | hc
    ·exact hc
    ·rw[hc] at hi;simp at hi
   simp only[BC,fe,this,aw,Bool.true_and,aa,Nat.blt_eq,if_pos hi,iH]
  ·cases h
 ·split at h
  ·rename_i sz' rows' ep' lo fz hg;rw[aa] at h
   split at h
   ·rename_i hc;injection h with h;subst h;simp only[Bool.and_eq_true] at hc;simp only[bh,bg,List.length_take,List.length_drop] at hi;simp only[BC,fe,G.get_eq,hg,hc.1.1,hc.1.2,Bool.true_and,aa,Nat.blt_eq];rw[if_pos (by omega)];rfl
   ·cases h
  ·cases h
 ·cases h
theorem Hy {g:G}{sz:Nat}{v:AV}{rows:List (List AV)}{row:List AV}{i off n:Nat}{ag:Bool}(h:ah g.h sz v=some rows)(hr:rows[i]?=some row) :
  pN ag n (iH sz v i off) g=orV (bG ag n row off):=by
 unfold ah at h
 split at h
 ·injection h with h;subst h;simp at hr
 ·injection h with h;subst h;simp at hr
 ·rw[aa] at h
  split at h
  ·injection h with h;subst h;simp only[pN,lC,iH,c_,hr]
  ·cases h
 ·split at h
  ·rename_i sz' rows' ep' lo fz hg;rw[aa] at h
   split at h
   ·rename_i hc;injection h with h;subst h;simp only[Bool.and_eq_true] at hc;simp only[bh,bg,List.getElem?_take,List.getElem?_drop] at hr
    split at hr
    ·simp only[pN,lC,iH,G.get_eq,hg,hc.1.1,c_,hr]
    ·cases hr
   ·cases h
  ·cases h
 ·cases h
theorem CP (fo id ep i off:Nat):IJ fo (.hptr id ep i off)=.val (.hptr id ep i (off+fo)):=rfl
theorem Dr {n:Nat}{row:List AV}{off:Nat}:bG false n row off=row[off]?:=by simp only[bG,c_]
theorem JO {n:Nat}{row:List AV}{off:Nat}(h:off+n<=row.length):bG true n row off=some (.agg ((row.drop off).take n)):=by simp only[bG,bh,bg,aw,List.length_take,List.length_drop,aa];rw[if_pos];rw[Nat.min_eq_left (by omega)];exact Nat.beq_refl n
theorem zp {g:G}{id ep sz i off n:Nat}{rows:List (List AV)}{lo:Bool}{row cs row':List AV}{x:AV}(hg:g.h.get id=.cells sz rows ep lo false)(hr:rows[i]?=some row)
  (hc:x.cells=cs) (ht:x.isTup=false) (hl:cs.length=n) (hp:bL row off cs=some row') :
  lJ n (.hptr id ep i off) x g=.upd .undef (g.put id (.cells sz (rows.set i row') ep lo false)):=by
 subst hc;simp only[lJ,m_,G.get_eq,hg,c_,hr,show Nat.beq ep ep=true from Nat.beq_refl ep,aw,hl,show Nat.beq n n=true from Nat.beq_refl n,ht,notb_eq,Bool.not_false,Bool.and_self,hp,fA]
def xw (o:AObj)(ep off len sz:Nat):Option (List (List AV)) :=
 match o with
 | .cells sz' rows ep' _ _=>au (Nat.beq ep ep'&&Nat.beq sz sz'&&Nat.ble (off+len) (aY rows)) (some (eO len (dZ off rows))) none
 | _=>none
theorem wH (h:H)(sz:Nat):ah h sz .nils=some []:=rfl
theorem pi (h:H)(sz t:Nat)(rows:List (List AV)):ah h sz (.tsl t sz rows)=some rows:=by simp only[ah,show Nat.beq sz sz=true from Nat.beq_refl sz,Bool.true_or]
theorem dG (h:H)(sz id ep off len:Nat)(lim:Option Nat):ah h sz (.hsl id ep off len lim)=xw (h.get id) ep off len sz:=rfl
theorem co (sz:Nat)(rows:List (List AV))(ep:Nat)(lo fz:Bool)(off len:Nat) :
  xw (.cells sz rows ep lo fz) ep off len sz=if off+len<=rows.length then some ((rows.drop off).take len) else none:=by
 simp only[xw,show Nat.beq sz sz=true from Nat.beq_refl sz,show Nat.beq ep ep=true from Nat.beq_refl ep,Bool.true_and,aa,Nat.ble_eq,aw,bh,bg]
theorem wz (sz:Nat)(rows:List (List AV))(ep:Nat)(lo fz:Bool):xw (.cells sz rows ep lo fz) ep 0 rows.length sz=some rows:=by rw[co,if_pos (by omega)];simp
def bY (o:AObj)(ep i:Nat)(ag:Bool)(n off:Nat):OR :=
 match o with
 | .cells _ rows ep' _ _=>au (Nat.beq ep ep') (match rows[i]? with | some row=>orV (bG ag n row off) | none=>.fail) .fail
 | _=>.fail
theorem yR (g:G)(id ep i off n:Nat)(ag:Bool):pN ag n (.hptr id ep i off) g=bY (g.h.get id) ep i ag n off:=by
 simp only[pN,lC,G.get_eq,bY,c_]
 rfl
theorem q_ (sz:Nat)(rows:List (List AV))(ep:Nat)(lo fz:Bool)(i n off:Nat)(ag:Bool) :
  bY (.cells sz rows ep lo fz) ep i ag n off=match rows[i]? with | some row=>orV (bG ag n row off) | none=>.fail:=by
 simp only[bY,show Nat.beq ep ep=true from Nat.beq_refl ep]
def iC (o:AObj)(g:G)(id ep i n off:Nat)(x:AV):OR :=
 match o with
 | .cells sz rows ep' lo fz=>au (Nat.beq ep ep'&&Nat.beq x.cells.length n&&gZ fz&&gZ x.isTup) (match rows[i]? with
   | some row=>match bL row off x.cells with
    | some row'=>.upd .undef (g.put id (.cells sz (rows.set i row') ep lo fz))
    | none=>.fail
   | none=>.fail) .fail
 | _=>.fail
theorem wL (g:G)(id ep i off n:Nat)(x:AV):lJ n (.hptr id ep i off) x g=iC (g.h.get id) g id ep i n off x:=by
 simp only[lJ,m_,G.get_eq,iC,c_,aw,fA]
 rfl
theorem pM (sz:Nat)(rows:List (List AV))(ep:Nat)(lo:Bool)(g:G)(id i n off:Nat)(x:AV)(hl:x.cells.length=n)(ht:x.isTup=false) :
  iC (.cells sz rows ep lo false) g id ep i n off x=match rows[i]? with
   | some row=>match bL row off x.cells with
    | some row'=>.upd .undef (g.put id (.cells sz (rows.set i row') ep lo false))
    | none=>.fail
   | none=>.fail:=by
 simp only[iC,show Nat.beq ep ep=true from Nat.beq_refl ep,hl,show Nat.beq n n=true from Nat.beq_refl n,ht,notb_eq,Bool.not_false,Bool.and_self]
theorem AO {g:G}{sz:Nat}{v:AV}{i off n:Nat}{ag:Bool}(h:(ah g.h sz v).isSome=true)(hi:i<((ah g.h sz v).getD []).length) :
  pN ag n (iH sz v i off) g=orV (bG ag n (((ah g.h sz v).getD [])[i]?.getD []) off):=by
 obtain ⟨rows,hr⟩:=Option.isSome_iff_exists.1 h;rw[hr] at hi ⊢;simp only[Option.getD_some] at hi ⊢;rw[Hy hr (List.getElem?_eq_getElem hi),List.getElem?_eq_getElem hi,Option.getD_some]
theorem C3 {g:G}{sz:Nat}{v:AV}{k:IntKind}{i:Int}(h:(ah g.h sz v).isSome=true)(h0:0<=i)(hi:i<((ah g.h sz v).getD []).length) :
  BC sz v (.int k i) g=.val (iH sz v i.toNat 0):=by
 obtain ⟨rows,hr⟩:=Option.isSome_iff_exists.1 h;rw[hr] at hi;exact Jj hr h0 hi
theorem Gc {g:G}{sz:Nat}{v:AV}{k:IntKind}{i:Nat}(h:(ah g.h sz v).isSome=true)(hi:i<((ah g.h sz v).getD []).length) :
  BC sz v (.int k (i:Int)) g=.val (iH sz v i 0):=C3 h (Int.natCast_nonneg i) (by omega)
def jS:AV->Bool
 | .tsl .. | .hsl ..=>true
 | _=>false
theorem bu {sz:Nat}{v:AV}{i off fo:Nat}(h:jS v=true):IJ fo (iH sz v i off)=.val (iH sz v i (off+fo)):=by cases v<;>first | rfl | cases h
theorem rZ {h:H}{sz:Nat}{v:AV}{rows:List (List AV)}{i:Nat}(hv:ah h sz v=some rows)(hi:i<rows.length):jS v=true:=by
 unfold ah at hv
 split at hv
 ·injection hv with h;subst h;simp at hi
 ·injection hv with h;subst h;simp at hi
 ·rfl
 ·rfl
 ·cases hv
def mV (h:H)(v:AV):List Int:=((ah h 1 v).getD []).map λr=>match r with | [.int _ x]=>x | _=>0
def yK (h:H)(v:AV):Prop:=ah h 1 v=some ((mV h v).map ci)
theorem Jg (l:List Int):(l.map ci).map (λr=>match r with | [.int _ x]=>x | _=>0)=l:=by
 induction l with
 | nil=>rfl
 | cons a l ih=>simp only[List.map_cons,ih,ci]
theorem Ga {h:H}{v:AV}{l:List Int}(hv:ah h 1 v=some (l.map ci)):mV h v=l:=by simp only[mV,hv,Option.getD_some,Jg]
theorem Hw {h:H}{v:AV}{l:List Int}(hv:ah h 1 v=some (l.map ci)):yK h v:=by unfold yK;rw[Ga hv,hv]
theorem MR {α:Type}(a:α)(l:List α):(a::l)[0]?=some a:=rfl
theorem MS {α:Type}(a b:α)(l:List α):(a::b::l)[1]?=some b:=rfl
theorem MT {α:Type}(a b c:α)(l:List α):(a::b::c::l)[2]?=some c:=rfl
theorem MU {α:Type}(a b c e:α)(l:List α):(a::b::c::e::l)[3]?=some e:=rfl
theorem MV {α:Type}(a b c e p:α)(l:List α):(a::b::c::e::p::l)[4]?=some p:=rfl
theorem MW {α:Type}(a b c e p q:α)(l:List α):(a::b::c::e::p::q::l)[5]?=some q:=rfl
theorem MX {α:Type}(a b c e p q r:α)(l:List α):(a::b::c::e::p::q::r::l)[6]?=some r:=rfl
theorem MY {α:Type}(a b c e p q r s:α)(l:List α):(a::b::c::e::p::q::r::s::l)[7]?=some s:=rfl
theorem MZ {α:Type}(a b c e p q r s u:α)(l:List α):(a::b::c::e::p::q::r::s::u::l)[8]?=some u:=rfl
@[reducible] def o (d:Nat) (op:SO):SI:=⟨some d,none,op⟩
@[reducible] def oz (op:SO):SI:=⟨none,none,op⟩
@[reducible] def og (d s:Nat) (w:Bool) (op:SO):SI:=⟨some d,some (s,w),op⟩
@[reducible] def ozg (s:Nat) (w:Bool) (op:SO):SI:=⟨none,some (s,w),op⟩
section steps
variable {C:Cfg}{d:Nat}{rd:Option Nat}
theorem xI (Q:QT)(t:T)(df:List ADf)(g:G):wp C d rd .skip Q t df g=Q .norm t df g:=rfl
theorem Cg (l:List SI)(Q:QT)(t:T)(df:List ADf)(g:G):wp C d rd (.ops l) Q t df g=wpO C d rd l (Q .norm) t df g:=rfl
theorem D9 (l:List SI)(Q:QT)(t:T)(df:List ADf)(g:G):wp C d rd (.quiet l) Q t df g=wpO C d rd l (kQ g Q) t df (aH g []):=rfl
theorem GY (pm:List Nat)(l:List SI)(Q:QT)(t:T)(df:List ADf)(g:G):wp C d rd (.feet pm l) Q t df g=wpF C d rd pm l (Q .norm) t df g []:=rfl
theorem dU (a b:SC)(Q:QT)(t:T)(df:List ADf)(g:G):wp C d rd (.seq a b) Q t df g=wp C d rd a (kS (wp C d rd b Q) Q) t df g:=rfl
theorem GW (c:Od)(a b:SC)(Q:QT)(t:T)(df:List ADf)(g:G):wp C d rd (.cond c a b) Q t df g=wpC (c.get t) (wp C d rd a Q) (wp C d rd b Q) t df g:=rfl
theorem KP (id:Nat)(b:SC)(Q:QT)(t:T)(df:List ADf)(g:G):wp C d rd (.blk id b) Q t df g=wp C d rd b (kB id Q) t df g:=rfl
theorem GZ (b:SC)(Q:QT)(t:T)(df:List ADf)(g:G):wp C d rd (.loop b) Q t df g=wpL (wp C d rd b) Q t df g:=rfl
theorem GX (id:Nat)(Q:QT)(t:T)(df:List ADf)(g:G):wp C d rd (.exit id) Q t df g=Q (.exit id) t df g:=rfl
theorem KQ (Q:QT)(t:T)(df:List ADf)(g:G):wp C d rd .ret Q t df g=Q .ret t df g:=rfl
theorem MO (g0:G)(Q:QT)(t:T)(df:List ADf)(g:G):kQ g0 Q t df g=(g.lg=[]/\g.nx=g0.nx/\Q .norm t df g0):=rfl
theorem GU (Q:PT)(t:T)(df:List ADf)(g:G):wpO C d rd [] Q t df g=Q t df g:=rfl
theorem M3 (n:Nat)(op:SO)(r:List SI)(Q:PT)(t:T)(df:List ADf)(g:G) :
  wpO C d rd (o n op::r) Q t df g=(op.run C d rd t g).sat (kO (wpO C d rd r Q) (some n) t df) g (kD (wpO C d rd r Q) (some n) t df g):=rfl
theorem KO (op:SO)(r:List SI)(Q:PT)(t:T)(df:List ADf)(g:G) :
  wpO C d rd (oz op::r) Q t df g=(op.run C d rd t g).sat (kO (wpO C d rd r Q) none t df) g (kD (wpO C d rd r Q) none t df g):=rfl
theorem KM (n s:Nat)(w:Bool)(op:SO)(r:List SI)(Q:PT)(t:T)(df:List ADf)(g:G) :
  wpO C d rd (og n s w op::r) Q t df g=gdP (tat t s) w (DO C d rd (o n op) (wpO C d rd r Q)) (zm (o n op) (wpO C d rd r Q)) t df g:=rfl
theorem GV (s:Nat)(w:Bool)(op:SO)(r:List SI)(Q:PT)(t:T)(df:List ADf)(g:G) :
  wpO C d rd (ozg s w op::r) Q t df g=gdP (tat t s) w (DO C d rd (oz op) (wpO C d rd r Q)) (zm (oz op) (wpO C d rd r Q)) t df g:=rfl
theorem Kf (n:Nat)(op:SO)(W:PT)(t:T)(df:List ADf)(g:G):DO C d rd (o n op) W t df g=(op.run C d rd t g).sat (kO W (some n) t df) g (kD W (some n) t df g):=rfl
theorem GF (op:SO)(W:PT)(t:T)(df:List ADf)(g:G):DO C d rd (oz op) W t df g=(op.run C d rd t g).sat (kO W none t df) g (kD W none t df g):=rfl
theorem GM (n:Nat)(op:SO)(W:PT)(t:T)(df:List ADf)(g:G):zm (o n op) W t df g=W (fO t n .undef) df g:=rfl
theorem DU (op:SO)(W:PT)(t:T)(df:List ADf)(g:G):zm (oz op) W t df g=W t df g:=rfl
theorem Gj (W:PT)(n:Nat)(t:T)(df:List ADf)(v:AV)(g:G):kO W (some n) t df v g=W (fO t n v) df g:=rfl
theorem Gi (W:PT)(t:T)(df:List ADf)(v:AV)(g:G):kO W none t df v g=W t df g:=rfl
theorem MJ (q:Bool)(A B:PT)(t:T)(df:List ADf)(g:G):gdP (.bool q) true A B t df g=uX q A B t df g:=rfl
theorem MH (q:Bool)(A B:PT)(t:T)(df:List ADf)(g:G):gdP (.bool q) false A B t df g=uX q B A t df g:=rfl
theorem AG (w:Bool)(A B:PT)(t:T)(df:List ADf)(g:G):gdP (.tup []) w A B t df g=B t df g:=rfl
theorem Al (A B:PT)(t:T)(df:List ADf)(g:G):uX true A B t df g=A t df g:=by simp[uX]
theorem xO (A B:PT)(t:T)(df:List ADf)(g:G):uX false A B t df g=B t df g:=by simp[uX]
theorem D8 (q:Bool)(A B:PT)(t:T)(df:List ADf)(g:G):wpC (.bool q) A B t df g=uX q A B t df g:=rfl
theorem rP (W:PT)(Q:QT)(t:T)(df:List ADf)(g:G):kS W Q .norm t df g=W t df g:=rfl
theorem Gk (W:PT)(Q:QT)(id:Nat)(t:T)(df:List ADf)(g:G):kS W Q (.exit id) t df g=Q (.exit id) t df g:=rfl
theorem Jo (W:PT)(Q:QT)(t:T)(df:List ADf)(g:G):kS W Q .ret t df g=Q .ret t df g:=rfl
theorem BF (id:Nat)(Q:QT)(t:T)(df:List ADf)(g:G):kB id Q .norm t df g=Q .norm t df g:=rfl
theorem Jl (id:Nat)(Q:QT)(t:T)(df:List ADf)(g:G):kB id Q .ret t df g=Q .ret t df g:=rfl
theorem Lx (id:Nat)(Q:QT)(t:T)(df:List ADf)(g:G):kB id Q (.exit id) t df g=Q .norm t df g:=by simp[kB]
theorem Jk (id j:Nat)(Q:QT)(t:T)(df:List ADf)(g:G)(h:j≠id):kB id Q (.exit j) t df g=Q (.exit j) t df g:=by simp only[kB];rw[aa,if_neg (λe=>h (Nat.eq_of_beq_eq_true e))]
theorem o9 (id j:Nat)(Q:QT)(t:T)(df:List ADf)(g:G):kB id Q (.exit j) t df g=if j=id then Q .norm t df g else Q (.exit j) t df g:=by
 by_cases h:j=id
 ·subst h;rw[Lx,if_pos rfl]
 ·rw[Jk _ _ _ _ _ _ h,if_neg h]
theorem Gg (Inv:Nat->PT)(k:Nat)(Q:QT)(t:T)(df:List ADf)(g:G):kL Inv k Q .norm t df g=∃k',k'<k/\Inv k' t df g:=rfl
theorem Gf (Inv:Nat->PT)(k:Nat)(Q:QT)(id:Nat)(t:T)(df:List ADf)(g:G):kL Inv k Q (.exit id) t df g=Q (.exit id) t df g:=rfl
theorem Jm (Inv:Nat->PT)(k:Nat)(Q:QT)(t:T)(df:List ADf)(g:G):kL Inv k Q .ret t df g=Q .ret t df g:=rfl
theorem aZ {q:Bool}{A B:PT}{t:T}{df:List ADf}{g:G}(h1:q=true->A t df g)(h2:q=false->B t df g):uX q A B t df g:=⟨h1,h2⟩
theorem CQ (r:List SR)(K:AV->G->Prop)(t:T)(df:List ADf)(g:G):fnQ C d r K .norm t df g=Bn C d r t df g K:=rfl
theorem F6 (r:List SR)(K:AV->G->Prop)(t:T)(df:List ADf)(g:G):fnQ C d r K .ret t df g=Bn C d r t df g K:=rfl
theorem CH (r:List SR)(K:AV->G->Prop)(t:T)(g:G):Bn C d r t [] g K=xn r t g λvs=>K (jc vs) g:=rfl
theorem DI (t:T)(g:G)(K:List AV->Prop):xn [] t g K=K []:=rfl
theorem GC (n:Nat)(r:List SR)(t:T)(g:G)(K:List AV->Prop):xn (.tm n::r) t g K=xn r t g λvs=>K (tat t n::vs):=rfl
theorem uH (v:AV):jc [v]=v:=rfl
theorem eW {W:QT->PT}{Q:QT}{t:T}{df:List ADf}{g:G}(Inv:Nat->PT)(k:Nat)(h0:Inv k t df g)(h:∀k t df g,Inv k t df g->W (kL Inv k Q) t df g):wpL W Q t df g:=⟨Inv,⟨k,h0⟩,h⟩
end steps
end
end Hx
end
section
namespace Hx
open Go
noncomputable section
theorem sx:type_of% (And.intro @GU <| And.intro @M3 <| And.intro @KO <| And.intro @KM <| And.intro @GV <| And.intro @Kf <| And.intro @GF <| And.intro @GM <| And.intro @DU <|
 And.intro @Gj <| And.intro @Gi <| And.intro @MJ <| And.intro @MH <| And.intro @AG <| And.intro @Al <| And.intro @xO <| And.intro @D8 <| And.intro @rP <| And.intro @Gk <| And.intro @Jo <|
 And.intro @BF <| And.intro @Jl <| And.intro @o9 <| And.intro @Gg <| And.intro @Gf <| And.intro @Jm <| And.intro @CQ <| And.intro @F6 <| And.intro @CH <| And.intro @DI <| And.intro @GC <|
 And.intro @uH <| And.intro @ji <| And.intro @Dh <| And.intro @Di <| And.intro @Dj <| And.intro @Dk <| And.intro @xI <| And.intro @Cg <| And.intro @D9 <| And.intro @GY <| And.intro @dU <| And.intro @GW <| And.intro @KP <| And.intro @GZ <| And.intro @GX <| And.intro @KQ <| And.intro @yZ <| And.intro @GQ <| And.intro @ML <| And.intro @MK <| And.intro @CX <| And.intro @AH <| And.intro @GJ <| And.intro @GI <| And.intro @Dn <|
 And.intro @Fw <| And.intro @FI <| And.intro @FE <| And.intro @Fy <| And.intro @FF <| And.intro @FD <| And.intro @FA <| And.intro @FC <| And.intro @Fz <| And.intro @Df <| And.intro @Cy <| And.intro @JQ <| And.intro @JP <|
 And.intro @Jy <| And.intro @Jv <| And.intro @CP <| And.intro @yR <| And.intro @q_ <| And.intro @wL <| And.intro @Dr <| And.intro @AO <| And.intro @bu <| And.intro @Gc <|
 And.intro @MR <| And.intro @MS <| And.intro @MT <| And.intro @MU <| And.intro @MV <| And.intro @MW <| And.intro @MX <| And.intro @MY <| And.intro @MZ <| And.intro @G.put_h <| And.intro @G.put_nx <| And.intro @G.new_h <| And.intro @G.new_nx <| And.intro @aR <| And.intro @CG <| @FZ) :=
 And.intro @GU <| And.intro @M3 <| And.intro @KO <| And.intro @KM <| And.intro @GV <| And.intro @Kf <| And.intro @GF <| And.intro @GM <| And.intro @DU <|
 And.intro @Gj <| And.intro @Gi <| And.intro @MJ <| And.intro @MH <| And.intro @AG <| And.intro @Al <| And.intro @xO <| And.intro @D8 <| And.intro @rP <| And.intro @Gk <| And.intro @Jo <|
 And.intro @BF <| And.intro @Jl <| And.intro @o9 <| And.intro @Gg <| And.intro @Gf <| And.intro @Jm <| And.intro @CQ <| And.intro @F6 <| And.intro @CH <| And.intro @DI <| And.intro @GC <|
 And.intro @uH <| And.intro @ji <| And.intro @Dh <| And.intro @Di <| And.intro @Dj <| And.intro @Dk <| And.intro @xI <| And.intro @Cg <| And.intro @D9 <| And.intro @GY <| And.intro @dU <| And.intro @GW <| And.intro @KP <| And.intro @GZ <| And.intro @GX <| And.intro @KQ <| And.intro @yZ <| And.intro @GQ <| And.intro @ML <| And.intro @MK <| And.intro @CX <| And.intro @AH <| And.intro @GJ <| And.intro @GI <| And.intro @Dn <|
 And.intro @Fw <| And.intro @FI <| And.intro @FE <| And.intro @Fy <| And.intro @FF <| And.intro @FD <| And.intro @FA <| And.intro @FC <| And.intro @Fz <| And.intro @Df <| And.intro @Cy <| And.intro @JQ <| And.intro @JP <|
 And.intro @Jy <| And.intro @Jv <| And.intro @CP <| And.intro @yR <| And.intro @q_ <| And.intro @wL <| And.intro @Dr <| And.intro @AO <| And.intro @bu <| And.intro @Gc <|
 And.intro @MR <| And.intro @MS <| And.intro @MT <| And.intro @MU <| And.intro @MV <| And.intro @MW <| And.intro @MX <| And.intro @MY <| And.intro @MZ <| And.intro @G.put_h <| And.intro @G.put_nx <| And.intro @G.new_h <| And.intro @G.new_nx <| And.intro @aR <| And.intro @CG <| @FZ
def St (t:T):List (Nat×AV)->Prop
 | []=>True
 | (n,v)::r=>tat t n=v/\St t r
abbrev VS:=(Nat->Prop)->Nat->H->AV->Prop
def One {α:Type} [Rp α](x:α):VS:=λP k h v=>Rp.rp P k h x [v]
def Agg {α:Type} [Rp α](x:α):VS:=λP k h v=>∃cs,v=.agg cs/\Rp.rp P k h x cs
def Bc (S R:VS):VS:=λP k h v=>∃a b,v=.tup [a,b]/\S P k h a/\R P k h b
def NZ (S R U:VS):VS:=λP k h v=>∃a b c,v=.tup [a,b,c]/\S P k h a/\R P k h b/\U P k h c
structure Snb (S:VS) (j:Nat):Prop where
 snap:∀{P k h v n} (d:Nat),S P k h v->20+j<=n->∃v',Hx.snap h d n v=some v'/\S NoP (max k d) .nil v'
 tag:∀{k h v n},S NoP k h v->20+j<=n->∃m,dH n v=some m/\m<=k
theorem aS {α:Type} [Rp α](x:α)(hd:Rp.dp α<=20:=by decide):Snb (One x) 0:=by
 refine ⟨λ{P k h v n} d r hn=>?_,λ{k h v n} r hn=>?_⟩
 ·obtain ⟨cs',e,r'⟩:=Rp.snap (n:=n) d r (by omega) (by show _<=24;omega);simp only[aE] at e
  split at e
  ·rename_i w hw;injection e with e;subst e;exact ⟨w,hw,r'⟩
  ·cases e
 ·obtain ⟨m,e,l⟩:=Rp.tag (n:=n) r (by omega);simp only[eT] at e
  split at e
  ·rename_i w hw;injection e with e;subst e;exact ⟨w,hw,by have:Nat.max w 0=w:=Nat.max_eq_left (Nat.zero_le w);omega⟩
  ·cases e
theorem ch {α:Type} [Rp α](x:α)(hd:Rp.dp α<=20:=by decide):Snb (Agg x) 1:=by
 refine ⟨λ{P k h v n} d r hn=>?_,λ{k h v n} r hn=>?_⟩
 ·obtain ⟨cs,rfl,r⟩:=r;obtain ⟨n,rfl⟩:∃m,n=m+1:=⟨n - 1,by omega⟩;obtain ⟨cs',e,r'⟩:=Rp.snap (n:=n) d r (by omega) (by show _<=24;omega);exact ⟨.agg cs',by simp only[Hx.snap,e],cs',rfl,r'⟩
 ·obtain ⟨cs,rfl,r⟩:=r;obtain ⟨n,rfl⟩:∃m,n=m+1:=⟨n - 1,by omega⟩;obtain ⟨m,e,l⟩:=Rp.tag (n:=n) r (by omega);exact ⟨m,by simp only[dH,e],l⟩
theorem jh {S R:VS}{i j m:Nat}(hs:Snb S i)(hr:Snb R j)(hi:i+1<=m)(hj:j+1<=m):Snb (Bc S R) m:=by
 refine ⟨λ{P k h v n} d r hn=>?_,λ{k h v n} r hn=>?_⟩
 ·obtain ⟨a,b,rfl,r1,r2⟩:=r;obtain ⟨n,rfl⟩:∃m,n=m+1:=⟨n - 1,by omega⟩;obtain ⟨a',e1,r1'⟩:=hs.snap (n:=n) d r1 (by omega);obtain ⟨b',e2,r2'⟩:=hr.snap (n:=n) d r2 (by omega);exact ⟨.tup [a',b'],by simp only[Hx.snap,aE,e1,e2],a',b',rfl,r1',r2'⟩
 ·obtain ⟨a,b,rfl,r1,r2⟩:=r;obtain ⟨n,rfl⟩:∃m,n=m+1:=⟨n - 1,by omega⟩;obtain ⟨m1,e1,l1⟩:=hs.tag (n:=n) r1 (by omega);obtain ⟨m2,e2,l2⟩:=hr.tag (n:=n) r2 (by omega);refine ⟨max m1 m2,?_,by omega⟩;simp only[dH,eT,e1,e2];congr 1;show max m1 (max m2 0)=_;omega
theorem Ku {S R U:VS}{i j l m:Nat}(hs:Snb S i)(hr:Snb R j)(hu:Snb U l)(hi:i+1<=m)(hj:j+1<=m)(hl:l+1<=m):Snb (NZ S R U) m:=by
 refine ⟨λ{P k h v n} d r hn=>?_,λ{k h v n} r hn=>?_⟩
 ·obtain ⟨a,b,c,rfl,r1,r2,r3⟩:=r;obtain ⟨n,rfl⟩:∃m,n=m+1:=⟨n - 1,by omega⟩;obtain ⟨a',e1,r1'⟩:=hs.snap (n:=n) d r1 (by omega);obtain ⟨b',e2,r2'⟩:=hr.snap (n:=n) d r2 (by omega);obtain ⟨c',e3,r3'⟩:=hu.snap (n:=n) d r3 (by omega);exact ⟨.tup [a',b',c'],by simp only[Hx.snap,aE,e1,e2,e3],a',b',c',rfl,r1',r2',r3'⟩
 ·obtain ⟨a,b,c,rfl,r1,r2,r3⟩:=r;obtain ⟨n,rfl⟩:∃m,n=m+1:=⟨n - 1,by omega⟩;obtain ⟨m1,e1,l1⟩:=hs.tag (n:=n) r1 (by omega);obtain ⟨m2,e2,l2⟩:=hr.tag (n:=n) r2 (by omega);obtain ⟨m3,e3,l3⟩:=hu.tag (n:=n) r3 (by omega);refine ⟨max m1 (max m2 m3),?_,by omega⟩;simp only[dH,eT,e1,e2,e3];congr 1;show max m1 (max m2 (max m3 0))=_;omega
def Arg (S:VS)(k d:Nat)(h:H)(v v':AV):Prop:=Hx.snap h d aB v=some v'/\S NoP k .nil v'
theorem jl {S:VS}{j:Nat}(hs:Snb S j)(hj:j<=4){P:Nat->Prop}{k:Nat}{h:H}{v:AV}(d:Nat)(r:S P k h v):∃v',Arg S (max k d) d h v v':=by obtain ⟨v',e,r'⟩:=hs.snap (n:=aB) d r (by show _<=24;omega);exact ⟨v',e,r'⟩
theorem iS {α:Type} [Rp α]{x:α}{k:Nat}{h:H}{v:AV}(d:Nat)(r:Agg x NoP k h v)(hd:Rp.dp α<=20:=by decide):Hx.snap h d aB v=some v:=by obtain ⟨cs,rfl,r⟩:=r;show (match aE (Hx.snap h d 23) cs with | some as=>some (AV.agg as) | none=>none)=_;rw[Rp.same (n:=23) d r (by omega)]
theorem iP {α:Type} [Rp α]{l:List α}{k:Nat}{h:H}{v:AV}(d:Nat)(r:SlR NoP k h l v):Hx.snap h d aB v=some v:=by
 have r:=r.2;unfold SlV at r
 split at r<;>first | rfl | exact r.1.elim | exact r.elim
theorem bD (k d:Nat)(h:H)(q:IntKind)(x:Int):Hx.snap h d aB (.int q x)=some (.int q x):=rfl
theorem Ic (k d:Nat)(h:H)(x:Bool):Hx.snap h d aB (.bool x)=some (.bool x):=rfl
theorem Id {h:H}{v:AV}(hv:yK h v)(hl:(mV h v).length<9223372036854775808)(d:Nat) :
  ∃v',Hx.snap h d aB v=some v'/\(∀h',ah h' 1 v'=some ((mV h v).map ci))/\∀g,cV .slice v' g=.val (.int .i64 ((mV h v).length:Int)):=by
 suffices hs:∃v',Hx.snap h d aB v=some v'/\(∀h',ah h' 1 v'=some ((mV h v).map ci)) by obtain ⟨v',e,hr⟩:=hs;exact ⟨v',e,hr,λg=>by rw[cL (hr .nil),List.length_map]⟩
 obtain ⟨k,r⟩:∃k,SlV (λ_=>True) k h (mV h v) v:=by
  have e:=hv;unfold yK at e;have all:∀P k h',All2 (Rp.rp P k h') (mV h v) ((mV h v).map ci):=λP k h'=>All2.of_map (λa=>aL.2 rfl) _;cases v with
  | nils=>exact ⟨0,by simp only[ah] at e;injection e with e;exact (List.map_eq_nil_iff.1 e.symm)⟩
  | esl=>exact ⟨0,by simp only[ah] at e;injection e with e;exact (List.map_eq_nil_iff.1 e.symm)⟩
  | tsl t s rows =>
   refine ⟨t,Nat.le_refl t,?_,?_⟩
   ·simp only[ah,aa] at e
    split at e
    ·rename_i hc;rw[Bool.or_eq_true] at hc;rcases hc with hc | hc
     ·exact .inl (Nat.eq_of_beq_eq_true hc).symm
     ·exact .inr (List.isEmpty_iff.1 hc)
    ·cases e
   ·simp only[ah,aa] at e
    split at e
    ·injection e with e;exact cast (congrArg _ e.symm) (all NoP t .nil)
    ·cases e
  | hsl id ep off len lim=>exact ⟨0,trivial,_,e,all _ _ _⟩
  | _=>simp[ah] at e
 obtain ⟨v',e,r'⟩:=(aS (mV h v)).snap (n:=aB) d (show One (mV h v) _ k h v from ⟨v,rfl,hl,r⟩) (by decide);refine ⟨v',e,λh'=>?_⟩;obtain ⟨w,hw,r'⟩:=r';injection hw with hw;subst hw;have:SlR (λ_=>True) (max k d) h' (mV h v) v':=by have:=(Rp.mono (P':=λ_=>True) (k':=max k d) (h':=h') (show Rp.rp NoP (max k d) .nil (mV h v) [v'] from ⟨v',rfl,r'⟩) (λi hi=>hi.elim) (Nat.le_refl _));obtain ⟨w,hw,q⟩:=this;injection hw with hw;subst hw;exact q
 exact this.ints
abbrev IT (k:Nat)(l:List Int)(r:AV):Prop:=One l NoP k .nil r
theorem IT.sl {k:Nat}{l:List Int}{r:AV}(h:IT k l r)(h':H):SlR NoP k h' l r:=by obtain ⟨w,hw,q⟩:=Rp.tree (P:=NoP) (k':=k) (h':=h') h (Nat.le_refl _);injection hw with hw;subst hw;exact q
theorem IT.rows {k:Nat}{l:List Int}{r:AV}(h:IT k l r)(h':H):ah h' 1 r=some (l.map ci):=(h.sl h').ints
theorem IT.len {k:Nat}{l:List Int}{r:AV}(h:IT k l r)(g:G):cV .slice r g=.val (.int .i64 (l.length:Int)):=by rw[cL (h.rows .nil),List.length_map]
theorem SlR.cell {α:Type} [Rp α]{P:Nat->Prop}{k:Nat}{h:H}{l:List α}{v:AV}(r:SlR P k h l v):v.cells=[v]/\v.isTup=false:=by
 have r:=r.2;unfold SlV at r
 split at r<;>first | exact ⟨rfl,rfl⟩ | exact r.elim
section iso
variable {C:Cfg}{f d:Nat}{s:SF}{g:G}{args xs:List AV}
theorem aX (hf:nFn C f=some s)(hs:aE (snap g.h d aB) args=some xs)(hl:xs.length<=s.nt){R:VS}{j:Nat}(hR:Snb R j)(hj:j<=4){k':Nat}(hk:k'<d)
  (h:wp C (d+1) none s.code (fnQ C (d+1) s.res λv g'=>∃P,R P k' g'.h v) (bK 0 xs .nil) [] G.empty):∃r,af (I C) d g f args=.val r/\R NoP k' .nil r:=by
 have h:=rL hf hl h;unfold af;rw[hs];dsimp only;cases hc:(I C).call (Nat.succ d) f xs G.empty with
 | fail=>rw[show (I C).call (d+1) f xs G.empty=.fail from hc] at h;exact h.elim
 | ok v g' =>
  rw[show (I C).call (d+1) f xs G.empty=.ok v g' from hc] at h;obtain ⟨P,h⟩:=h;obtain ⟨r,e,hr⟩:=hR.snap (n:=aB) 0 h (by show _<=24;omega);rw[Nat.max_eq_left (Nat.zero_le k')] at hr;obtain ⟨m,em,lm⟩:=hR.tag (n:=aB) hr (by show _<=24;omega);refine ⟨r,?_,hr⟩;simp only[e,em,aa,Nat.blt_eq];rw[if_pos (by omega)]
theorem Bm (hf:nFn C f=some s)(hl:xs.length<=s.nt){K:AV->G->Prop}{D:ADf->Prop}(h:wp C d none s.code (fnQ C d s.res K) (bK 0 xs .nil) [] g):(orF ((I C).call d f xs g)).sat K g D:=by
 have h:=rL hf hl h;cases hc:(I C).call d f xs g with
 | fail=>rw[hc] at h;exact h.elim
 | ok v g'=>rw[hc] at h;exact h
theorem dE (hf:nFn C f=some s)(hs:aE (snap g.h d aB) args=some xs)(hl:xs.length<=s.nt){q:IntKind}{x:Int}(hk:0<d)
  (h:wp C (d+1) none s.code (fnQ C (d+1) s.res λv _=>v=.int q x) (bK 0 xs .nil) [] G.empty):af (I C) d g f args=.val (.int q x):=by
 have h:=rL hf hl h;unfold af;rw[hs];dsimp only;cases hc:(I C).call (Nat.succ d) f xs G.empty with
 | fail=>rw[show (I C).call (d+1) f xs G.empty=.fail from hc] at h;exact h.elim
 | ok v g' =>
  rw[show (I C).call (d+1) f xs G.empty=.ok v g' from hc] at h;have h:v=.int q x:=h;subst h;show (match dH aB (.int q x) with | none=>OR.fail | some m=>au (Nat.blt m d) (.val (.int q x)) _)=_;rw[show dH aB (.int q x)=some 0 from rfl];simp only[aa,Nat.blt_eq];rw[if_pos hk]
theorem ej (hf:nFn C f=some s)(hs:aE (snap g.h d aB) args=some xs)(hl:xs.length<=s.nt){x:Bool}(hk:0<d)
  (h:wp C (d+1) none s.code (fnQ C (d+1) s.res λv _=>v=.bool x) (bK 0 xs .nil) [] G.empty):af (I C) d g f args=.val (.bool x):=by
 have h:=rL hf hl h;unfold af;rw[hs];dsimp only;cases hc:(I C).call (Nat.succ d) f xs G.empty with
 | fail=>rw[show (I C).call (d+1) f xs G.empty=.fail from hc] at h;exact h.elim
 | ok v g' =>
  rw[show (I C).call (d+1) f xs G.empty=.ok v g' from hc] at h;have h:v=.bool x:=h;subst h;show (match dH aB (.bool x) with | none=>OR.fail | some m=>au (Nat.blt m d) (.val (.bool x)) _)=_;rw[show dH aB (.bool x)=some 0 from rfl];simp only[aa,Nat.blt_eq];rw[if_pos hk]
end iso
end
end Hx
end
section
namespace Hx
open Go
section
variable {C:Cfg}{A:Nat->Nat->Prop}{bd:Nat}{w w':World}{γ γ':Gm}{hg:Nat->AObj}{nx:Nat}
variable {op:Op}{t:T}{g:G}{f:Stg SFn}
theorem wI {h:H}{sz id:Nat}{x:AV}(hid:id∈ak x)(hn:h.get id=.none):ah h sz x=none:=by
 cases x<;>simp[ak] at hid
 ·subst hid;simp[ah,hn]
 ·rfl
 ·rfl
theorem AX {sz id:Nat}{x:AV}{bytes:Nat}{new:List (List AV)}(hid:id∈ak x)(hn:g.h.get id=.none):bk sz bytes x new g=.fail:=by
 cases x<;>simp[ak] at hid
 ·subst hid;simp[bk,hn]
 ·rfl
 ·rfl
theorem DX (h:bS C op=some f){id:Nat}(hid:id∈bc C op t g)(hn:g.h.get id=.none):f.run t g=.fail:=by
 have one:∀{x:AV},id∈ak x->(∃a b c d,x=.hptr a b c d/\g.h.get a=.none)\/(∃a b c d e,x=.hsl a b c d e/\g.h.get a=.none)\/(∃a,x=.hmap a/\g.h.get a=.none):=by
  intro x hx;cases x<;>simp[ak] at hx
  ·subst hx;exact .inr (.inl ⟨_,_,_,_,_,rfl,hn⟩)
  ·subst hx;exact .inl ⟨_,_,_,_,rfl,hn⟩
  ·subst hx;exact .inr (.inr ⟨_,rfl,hn⟩)
 cases op<;>simp only[bS] at h<;>first | (cases h;done) | skip
 case call c =>
  obtain ⟨callee,args,argTypes⟩:=c;cases callee<;>first | (cases h;done) | skip
  rename_i b;dsimp only at h;obtain ⟨vs,hvs⟩:=sE h;have hid:id∈(vs.run t).flatMap (jM C b argTypes):=by simpa only[bc,aI,hvs,ap,List.map_nil,List.append_nil] using hid
  generalize args.toList=l at h hvs;unfold cO at h
  split at h
  ·
   split at h
   ·rename_i tt s h0 hs;injection h with h;subst h;simp only[bC,hs,Option.some.injEq] at hvs;subst hvs;simp only[List.flatMap_cons,List.flatMap_nil,List.append_nil,jM,h0] at hid;dsimp only;generalize s.run t=x at *;generalize jQ C.P tt=k at *;cases k<;>simp at hid;cases x<;>simp[uM] at hid;subst hid;simp[cV,hn]
   ·cases h
  ·
   split at h
   ·rename_i tt xt sa sx h0 h1 ha hx;simp only[bC,ha,hx,Option.some.injEq] at hvs;subst hvs;simp only[List.flatMap_cons,List.flatMap_nil,List.append_nil,jM,List.mem_append] at hid
    repeat' (first | split at h | (rw[aa] at h;split at h))
    all_goals first | (cases h;done) | skip
    all_goals (injection h with h;subst h)
    ·dsimp only[cW]
     split
     ·rfl
     ·rename_i new hnew;rcases hid with hid | hid
      ·exact AX hid hn
      ·rw[wI hid hn] at hnew;cases hnew
    ·dsimp only[t7]
     split
     ·rfl
     ·rename_i n hnat;rcases hid with hid | hid
      ·rw[aa]
       split
       ·exact AX hid hn
       ·rfl
      ·generalize sx.run t=x at *;cases x<;>simp[ak] at hid<;>simp[bZ] at hnat
   ·cases h
  ·
   split at h
   ·rename_i tt sa sx h0 ha hx;simp only[bC,ha,hx,Option.some.injEq] at hvs;subst hvs;simp only[List.flatMap_cons,List.flatMap_nil,List.append_nil,jM,List.mem_append] at hid
    repeat' (first | split at h)
    all_goals first | (cases h;done) | skip
    all_goals (injection h with h;subst h)
    dsimp only[Au]
    split
    ·rfl
    ·rename_i src hsrc;rcases hid with hid | hid
     ·rcases one hid with ⟨a,b,c,d,e,h1⟩ | ⟨a,b,c,d,e',e,h1⟩ | ⟨a,e,h1⟩<;>rw[e]<;>simp[h1]
     ·rw[wI hid hn] at hsrc;cases hsrc
   ·cases h
  ·
   split at h
   ·rename_i tt s h0 hs;simp only[bC,hs,Option.some.injEq] at hvs;subst hvs;simp only[List.flatMap_cons,List.flatMap_nil,List.append_nil,jM] at hid
    repeat' (first | split at h)
    all_goals first | (cases h;done) | skip
    all_goals (injection h with h;subst h)
    dsimp only[Im];rcases one hid with ⟨a,b,c,d,e,h1⟩ | ⟨a,b,c,d,e',e,h1⟩ | ⟨a,e,h1⟩<;>rw[e]<;>simp[h1]
   ·cases h
  ·
   split at h
   ·rename_i tt s h0 hs;simp only[bC,hs,Option.some.injEq] at hvs;subst hvs;simp only[List.flatMap_cons,List.flatMap_nil,List.append_nil,jM] at hid
    repeat' (first | split at h | (rw[aa] at h;split at h))
    all_goals first | (cases h;done) | skip
    all_goals (injection h with h;subst h)
    dsimp only;generalize s.run t=x at *;cases x with
    | hsl i ep off len lim =>
     cases len with
     | zero=>simp[rW] at hid
     | succ len =>
      simp[rW] at hid;subst hid;simp[yd,hn]
    | _=>simp[rW] at hid
   ·cases h
  ·
   split at h
   ·rename_i sa sx ha hx;injection h with h;subst h;simp only[bC,ha,hx,Option.some.injEq] at hvs;subst hvs;simp only[List.flatMap_cons,List.flatMap_nil,List.append_nil,jM,List.mem_append] at hid;dsimp only;rcases hid with hid | hid
    ·rcases one hid with ⟨a,b,c,d,e,h1⟩ | ⟨a,b,c,d,e',e,h1⟩ | ⟨a,e,h1⟩<;>rw[e]
    ·split
     ·rcases one hid with ⟨a,b,c,d,e,h1⟩ | ⟨a,b,c,d,e',e,h1⟩ | ⟨a,e,h1⟩<;>rw[e]
     ·rfl
   ·cases h
  ·
   split at h
   ·rename_i sa sx ha hx;injection h with h;subst h;simp only[bC,ha,hx,Option.some.injEq] at hvs;subst hvs;simp only[List.flatMap_cons,List.flatMap_nil,List.append_nil,jM,List.mem_append] at hid;dsimp only;rcases hid with hid | hid
    ·rcases one hid with ⟨a,b,c,d,e,h1⟩ | ⟨a,b,c,d,e',e,h1⟩ | ⟨a,e,h1⟩<;>rw[e]
    ·split
     ·rcases one hid with ⟨a,b,c,d,e,h1⟩ | ⟨a,b,c,d,e',e,h1⟩ | ⟨a,e,h1⟩<;>rw[e]
     ·rfl
   ·cases h
  ·cases h
 case load ty a =>
  split at h
  ·rename_i s ag n hs hag hn';injection h with h;subst h;simp only[bc,aI,hs,ap,List.map_nil,List.append_nil] at hid;dsimp only[lC];rcases one hid with ⟨a,b,c,d,e,h1⟩ | ⟨a,b,c,d,e',e,h1⟩ | ⟨a,e,h1⟩<;>rw[e]<;>simp[h1]
  ·cases h
 case store ty a x =>
  split at h
  ·rename_i s u n hs hu hn';injection h with h;subst h;simp only[bc,aI,hs,ap,List.map_nil,List.append_nil] at hid;dsimp only[m_];rcases one hid with ⟨a,b,c,d,e,h1⟩ | ⟨a,b,c,d,e',e,h1⟩ | ⟨a,e,h1⟩<;>rw[e]<;>simp[h1]
  ·cases h
 case indexAddr ty x ix =>
  split at h
  ·rename_i s i hs hi
   split at h
   ·rename_i e hu
    split at h
    ·injection h with h;subst h;simp only[bc,aI,hs,hu,ap,List.map_nil,List.append_nil] at hid;dsimp only[fe];rcases one hid with ⟨a,b,c,d,e,h1⟩ | ⟨a,b,c,d,e',e,h1⟩ | ⟨a,e,h1⟩<;>rw[e];dsimp only
     split
     ·simp[h1]
     ·rfl
    ·cases h
   ·rename_i n e hu;simp[bc,aI,hs,hu,aF] at hid
   ·cases h
  ·cases h
 case lookup ty x k ok =>
  split at h
  ·rename_i sm kk kt et hm hk hu
   split at h
   ·injection h with h;subst h;have hid:id∈ak (sm.run t):=by cases ok<;>simpa [bc,aI,hm,ap] using hid
    dsimp only[cZ];rw[aa]
    split
    ·rcases one hid with ⟨a,b,c,d,e,h1⟩ | ⟨a,b,c,d,e',e,h1⟩ | ⟨a,e,h1⟩<;>rw[e]<;>simp[h1]
    ·rfl
   ·cases h
  ·cases h
 case mapUpdate ty m k x =>
  split at h
  ·rename_i sm sk sx kt et hm hk hx hu;injection h with h;subst h;simp only[bc,aI,hm,ap,List.map_nil,List.append_nil] at hid;dsimp only[el];rw[aa]
   split
   ·rcases one hid with ⟨a,b,c,d,e,h1⟩ | ⟨a,b,c,d,e',e,h1⟩ | ⟨a,e,h1⟩<;>rw[e]<;>simp[h1]
   ·rfl
  ·cases h
 case insert ty m k x =>
  split at h
  ·rename_i sm sk sx kt et hm hk hx hu;injection h with h;subst h;simp only[bc,aI,hm,ap,List.map_nil,List.append_nil] at hid;dsimp only[el];rw[aa]
   split
   ·rcases one hid with ⟨a,b,c,d,e,h1⟩ | ⟨a,b,c,d,e',e,h1⟩ | ⟨a,e,h1⟩<;>rw[e]<;>simp[h1]
   ·rfl
  ·cases h
 case mapEntry ty m k =>
  split at h
  ·rename_i sm sk kt et hm hk hu
   split at h
   ·injection h with h;subst h;simp only[bc,aI,hm,List.map_nil,List.append_nil] at hid;dsimp only[eK];rw[aa]
    split
    ·rcases one hid with ⟨a,b,c,d,e,h1⟩ | ⟨a,b,c,d,e',e,h1⟩ | ⟨a,e,h1⟩<;>rw[e]<;>simp[h1]
    ·rfl
   ·cases h
  ·cases h
 case entryStore ty m st x =>
  split at h
  ·rename_i sm ss sx hm hs hx;injection h with h;subst h;simp only[bc,aI,hm,ap,List.map_nil,List.append_nil] at hid;dsimp only[fR];rcases one hid with ⟨a,b,c,d,e,h1⟩ | ⟨a,b,c,d,e',e,h1⟩ | ⟨a,e,h1⟩<;>rw[e]<;>simp[h1]
  ·cases h
 case slice ty x lo hi mx =>
  have key:∀{sz:Nat} {y:AV} {l h' m:Option AV},id∈ak y->iI sz y l h' m g.h=none:=by intro sz y l h' m hy;rcases one hy with ⟨a,b,c,d,e,h1⟩ | ⟨a,b,c,d,e',e,h1⟩ | ⟨a,e,h1⟩<;>rw[e]<;>simp[iI,h1]
  cases mx with
  | none =>
   dsimp only at h
   split at h
   ·rename_i e sx sl sh hu hx hl hh
    split at h
    ·injection h with h;subst h;simp only[bc,aI,hx,ap,List.map_nil,List.append_nil] at hid;dsimp only;rw[key hid];rfl
    ·cases h
   ·rename_i n e sx sl sh hu hx hl hh
    split at h
    ·injection h with h;subst h;simp only[bc,aI,hx,ap,List.map_nil,List.append_nil] at hid;dsimp only[gf]
     split
     ·rfl
     ·split
      ·rfl
      ·rcases one hid with ⟨a,b,c,d,e,h1⟩ | ⟨a,b,c,d,e',e,h1⟩ | ⟨a,e,h1⟩<;>rw[e]<;>simp[h1]
    ·cases h
   ·cases h
  | some mx =>
   cases hi with
   | none=>cases h
   | some hi =>
    dsimp only at h
    split at h
    ·rename_i e sx sl sh sm he hx hl hh hm
     split at h
     ·injection h with h;subst h;simp only[bc,aI,hx,ap,List.map_nil,List.append_nil] at hid;dsimp only;rw[key hid];rfl
     ·cases h
    ·cases h
 all_goals simp[bc,aI,aF] at hid
structure CfgOk (C:Cfg):Prop where
 mixed:C.P.follows .mixedOrders=true
 recov:C.P.follows .rangeFuncRecover=true
 mon:dx C
 noDfr:∀f e,C.ext f=some e->∀d args g y,e d args g≠.dfr y
 ext:∀f e,C.ext f=some e->∀A bd w γ hg nx g as vs,Rel C A bd w γ hg nx->WF g->(∀id∈as.flatMap (aA g.h aB),g.h.get id≠.none->hg id=g.h.get id)->Free γ g (gOf g (e (bd+1) as g)) ->
  RVs w γ A bd as vs->e (bd+1) as g≠.fail->∀cs,
  ∃u w' γ' hg',Fin C A bd w γ hg nx g w' γ' hg' (gOf g (e (bd+1) as g))/\RV w' γ' A bd (vOf (e (bd+1) as g)) u /\
   ((callFunc f vs.toArray).run C.P w=.ok (.value u) w'\/(Enters C.P f/\Outs C.P .normal f vs.toArray cs w u w'))
def DR (w:World)(γ:Gm)(A:Nat->Nat->Prop)(bd:Nat):List ADf->List Deferred->Prop
 | [],[]=>True
 | .mark id::ds,d::es=>((γ id).kind=4/\d={ target:=.collected (γ id).blk,args:=#[] })/\DR w γ A bd ds es
 | .call fv args::ds,d::es=>(∃f ys us,fv=.clo f [] ys/\d.target=.fn (.func f) us/\RVs w γ A bd ys us.toList/\RVs w γ A bd args d.args.toList)/\DR w γ A bd ds es
 | _,_=>False
theorem DR.step {ds:List ADf}:∀{es:List Deferred},DR w γ A bd ds es->Stp w γ w' γ'->DR w' γ' A bd ds es:=by
 induction ds with
 | nil=>intro es h _;cases es<;>simpa [DR] using h
 | cons d ds ih =>
  intro es h s;cases es with
  | nil=>cases d<;>simp[DR] at h
  | cons e es =>
   cases d with
   | mark id =>
    obtain ⟨⟨h1,h2⟩,h3⟩:=h;have hk:(γ id).kind≠0:=by rw[h1];decide
    exact ⟨⟨by rw[s.kind_eq hk,h1],by rw[h2,s.blk_eq hk (by rw[h1];decide)]⟩,ih h3 s⟩
   | call fv args =>
    obtain ⟨⟨f,ys,us,h1,h2,h4,h5⟩,h3⟩:=h;exact ⟨⟨f,ys,us,h1,h2,h4.step s,h5.step s⟩,ih h3 s⟩
theorem TR.step {nt:Nat}{tmps:Array Value}(h:TR w γ A bd nt t tmps)(s:Stp w γ w' γ'):TR w' γ' A bd nt t tmps :=
 ⟨h.1,λi=>(h.2 i).step s⟩
def RdOk (γ:Gm)(rd:Option Nat)(b:Frame):Prop :=
 match rd with
 | none=>b.roundOf=none
 | some id=>(γ id).kind=3/\b.roundOf=some (γ id).blk
theorem RdOk.step {rd:Option Nat}{b:Frame}(h:RdOk γ rd b)(s:Stp w γ w' γ'):RdOk γ' rd b:=by
 cases rd with
 | none=>exact h
 | some id =>
  obtain ⟨h1,h2⟩:=h;have hk:(γ id).kind≠0:=by rw[h1];decide
  exact ⟨by rw[s.kind_eq hk,h1],by rw[h2,s.blk_eq hk (by rw[h1];decide)]⟩
def Arr (P:Program)(m:Machine)(b:Frame)(k:List Item)(cs:List Frame):Ex->Act->World->Prop
 | .norm,a,w=>Steps P m (lone (b.atR a k) cs w)
 | .exit id,a,w=>∃k₁,exitTo id k₁=exitTo id k/\Steps P m (lone (b.atR a (.code (.exit id)::k₁)) cs w)
 | .ret,a,w=>∃k₁,Steps P m (lone (b.atR a (.code .ret::k₁)) cs w)
theorem Arr.of_steps {P:Program}{m m₁:Machine}{b:Frame}{k:List Item}{cs:List Frame}{e:Ex}{a:Act}(h:Steps P m m₁)(h':Arr P m₁ b k cs e a w):Arr P m b k cs e a w:=by
 cases e with
 | norm=>exact Steps.trans h h'
 | exit id=>obtain ⟨k₁,h1,h2⟩:=h';exact ⟨k₁,h1,Steps.trans h h2⟩
 | ret=>obtain ⟨k₁,h2⟩:=h';exact ⟨k₁,Steps.trans h h2⟩
def xq (C:Cfg)(bd nt:Nat)(rd:Option Nat)(c:Code)(t:T)(df:List ADf)(g:G)(e:Ex)(t':T)(df':List ADf)(g':G):Prop :=
 ∀A w γ hg nx b a k cs,Rel C A bd w γ hg nx->Ext g.h hg->WF g->Free γ g g'->TR w γ A bd nt t a.tmps->DR w γ A bd df a.defers->RdOk γ rd b->ni b.kind cs ->
  ∃a' w' γ' hg',Fin C A bd w γ hg nx g w' γ' hg' g'/\TR w' γ' A bd nt t' a'.tmps/\DR w' γ' A bd df' a'.defers /\
   Arr C.P (lone (b.atR a (.code c::k)) cs w) b k cs e a' w'
def M5 (C:Cfg)(ih:IH):Prop :=
 ∀bd nt rd c t df g e t' df' g',ih.code nt (bd+1) rd c t df g=.ok e t' df' g'->xq C bd nt rd c t df g e t' df' g'
structure IHOk (C:Cfg) (ih:IH):Prop where
 mon:IHMon ih
 call:xJ C ih
 code:M5 C ih
theorem RVs.append {xs ys:List AV}{vs us:List Value}(h1:RVs w γ A bd xs vs)(h2:RVs w γ A bd ys us):RVs w γ A bd (xs++ys) (vs++us):=by
 refine ⟨by simp[h1.1,h2.1],λi x v hx hv=>?_⟩
 by_cases hi:i<xs.length
 ·rw[List.getElem?_append_left hi] at hx;rw[List.getElem?_append_left (by rw[<-h1.1];exact hi)] at hv;exact h1.2 i x v hx hv
 ·rw[List.getElem?_append_right (by omega)] at hx;rw[List.getElem?_append_right (by rw[<-h1.1];omega),<-h1.1] at hv;exact h2.2 _ x v hx hv
theorem RVs.ofArr {xs:List AV}{vs:Array Value}(hl:xs.length=vs.size)(h:∀(i:Nat) x v,xs[i]?=some x->vs[i]?=some v->RV w γ A bd x v) :
  RVs w γ A bd xs vs.toList:=⟨by simpa using hl,λi x v hx hv=>h i x v hx (by simpa using hv)⟩
section
variable {P:Program}{b:Frame}{a:Act}{ops:Array Oper}{i:Nat}{rest:List Nat}{k:List Item}{cs:List Frame}{o:Oper}
theorem tQ {v:Value}(ho:ops[i]?=some o)(hw:Region.wanted o (yielded ops a.tmps)=true)(hd:∀c,o.op≠.defer c)
  (hrun:(execOp a.eval o).run P w=.ok (.value v) w') :
  step P (lone (b.atR a (.inRegion ops (i::rest)::k)) cs w)=.next (lone (b.atR (a.put o.dst v) (.inRegion ops rest::k)) cs w'):=by
 have hfin:=Frame.finish_atR b a ops i rest k v;rw[ho] at hfin;simp only[Option.bind_some] at hfin;refine step_lone_go ?_;rw[stepGR_op ho hw,Oper.semAt_eq _ _ _ hd,<-hfin];simp[stepG.apply,hrun]
theorem H4 (ho:ops[i]?=some o)(hw:Region.wanted o (yielded ops a.tmps)=true)(hd:∀c,o.op≠.defer c)
  (hrun:(execOp a.eval o).run P w=.ok .skip w') :
  step P (lone (b.atR a (.inRegion ops (i::rest)::k)) cs w)=.next (lone (b.atR (a.put o.dst undef) (.inRegion ops rest::k)) cs w'):=by
 have hfin:=Frame.finish_atR b a ops i rest k undef;rw[ho] at hfin;simp only[Option.bind_some] at hfin;refine step_lone_go ?_;rw[stepGR_op ho hw,Oper.semAt_eq _ _ _ hd,<-hfin];simp[stepG.apply,hrun]
theorem tP {v:Value}(ho:ops[i]?=some o)(hw:Region.wanted o (yielded ops a.tmps)=true)(hd:∀c,o.op≠.defer c)
  (hrun:Ch P o a.eval w v w') :
  Steps P (lone (b.atR a (.inRegion ops (i::rest)::k)) cs w) (lone (b.atR (a.put o.dst v) (.inRegion ops rest::k)) cs w'):=by
 rcases hrun with h | ⟨h,rfl⟩
 ·exact .one (tQ ho hw hd h)
 ·exact .one (H4 ho hw hd h)
theorem zo {f:FuncId}{args:Array Value}(ho:ops[i]?=some o)(hw:Region.wanted o (yielded ops a.tmps)=true)(hd:∀c,o.op≠.defer c)
  (hrun:(execOp a.eval o).run P w=.ok (.enter f args) w') :
  step P (lone (b.atR a (.inRegion ops (i::rest)::k)) cs w)=.next (lone (Frame.enter P f args .normal) (b.atR a (.inRegion ops (i::rest)::k)::cs) w'):=by
 refine step_lone_go ?_;rw[stepGR_op ho hw,Oper.semAt_eq _ _ _ hd];simp[stepG.apply,hrun,Frame.atR]
theorem Fg {l:Nat}{f:FuncId}{tmps:Array Value}{assign body:Code}(ho:ops[i]?=some o)(hw:Region.wanted o (yielded ops a.tmps)=true)(hd:∀c,o.op≠.defer c)
  (hrun:(execOp a.eval o).run P w=.ok (.round l f tmps assign body) w') :
  step P (lone (b.atR a (.inRegion ops (i::rest)::k)) cs w)=.next (lone (Frame.round l f tmps assign body .normal) (b.atR a (.inRegion ops (i::rest)::k)::cs) w'):=by
 refine step_lone_go ?_;rw[stepGR_op ho hw,Oper.semAt_eq _ _ _ hd];simp[stepG.apply,hrun,Frame.atR]
theorem pj {f:FuncId}{args:Array Value}{u:Value}{w₁:World}(ho:ops[i]?=some o)(hw:Region.wanted o (yielded ops a.tmps)=true)(hd:∀c,o.op≠.defer c)
  (hrun:(execOp a.eval o).run P w=.ok (.enter f args) w)
  (hout:Outs P .normal f args (b.atR a (.inRegion ops (i::rest)::k)::cs) w u w₁) :
  Steps P (lone (b.atR a (.inRegion ops (i::rest)::k)) cs w) (lone (b.atR (a.put o.dst u) (.inRegion ops rest::k)) cs w₁):=by
 obtain ⟨fr,hs,h1,h2,h3,h4,fn,h5,h6⟩:=hout;have hfin:=Frame.finish_atR b a ops i rest k u;rw[ho] at hfin;simp only[Option.bind_some] at hfin;refine .head (zo ho hw hd hrun) (Steps.trans hs (.one ?_));rw[<-hfin];exact step_leave_returned ⟨h1,h2,h3,fn,by rw[h4];exact h5,h6⟩
theorem B8 (ho:ops[i]?=some o)(hw:Region.wanted o (yielded ops a.tmps)=true)(hd:∀c,o.op≠.defer c)
  (hrec:P.follows .rangeFuncRecover=true) (hcalm:ni b.kind cs)
  (hrun:(execOp a.eval o).run P w=.ok .recover w) :
  step P (lone (b.atR a (.inRegion ops (i::rest)::k)) cs w)=.next (lone (b.atR (a.put o.dst .nilIface) (.inRegion ops rest::k)) cs w):=by
 have hfin:=Frame.finish_atR b a ops i rest k .nilIface;rw[ho] at hfin;simp only[Option.bind_some] at hfin;have htry:tryRecover (b.atR a (.inRegion ops (i::rest)::k)) cs=none:=by
  unfold tryRecover;rcases hcalm with h | ⟨h,c,cs',rfl,hm | ⟨_,_,_,hm⟩⟩
  ·simp[Frame.atR,h]
  ·simp[Frame.atR,h,hm]
  ·simp[Frame.atR,h,hm]
 refine step_lone_go ?_;rw[stepGR_op ho hw,Oper.semAt_eq _ _ _ hd,<-hfin];simp only[stepG.apply,Sem.runT_eq,hrun,hrec,if_true,htry];cases hro:(b.atR a (.inRegion ops (i::rest)::k)).roundOf<;>simp[GStep.bare_after]
end
theorem ja {P:Program}{l:Nat}{L:Loop}(h:w.heap[l]?=some (.loop L)):(Instr.getLoop l).run P w=.ok L w:=by
 unfold Instr.getLoop;simp only[Sem.run_bind,eh h (by simp),Result.andThen_ok]
 rfl
theorem rB {P:Program}{l:Nat}{L:Loop}{o:Obj}(h:w.heap[l]?=some (.loop L)):(setObj l o).run P w=.ok () (World.setBlk w l o) :=
 fN h (by simp)
theorem Rel.setLoop (hr:Rel C A bd w γ hg nx){id nt dfr:Nat}{t:T}{ps:List Nat}{assign body:Code}{st st':LoopState}{pend pend':Option Code}{L:Loop}
  (hid:hg id=.loop nt t ps assign body dfr st pend) (hL:w.heap[(γ id).blk]?=some (.loop L)) :
  Rel C A bd (World.setBlk w (γ id).blk (.loop { L with state:=st',pending:=pend' })) γ (upd hg id (.loop nt t ps assign body dfr st' pend')) nx /\
   Stp w γ (World.setBlk w (γ id).blk (.loop { L with state:=st',pending:=pend' })) γ:=by
 have hob:=hr.obj id;rw[hid] at hob;obtain ⟨h1,h2,L',h3,h4,h5,h6,h7,h8,h9,h10,h11,h12⟩:=hob;rw[hL] at h3;injection h3 with h3;injection h3 with h3;subst h3;have hk:(γ id).kind≠0:=by rw[h1];decide
 have s:=sj (w:=w) (o:=.loop { L with state:=st',pending:=pend' }) hk h2;refine hr.setBlk hk h2 ⟨h1,h2,{ L with state:=st',pending:=pend' },?_,rfl,rfl,h6,h7,h8,h9,λi=>(h10 i).step s,h11,h12⟩;rw[aT];simp[(hr.lt id hk).2]
theorem Fin.ofPut {g:G}{id:Nat}{o:AObj}(hr:Rel C A bd w' γ' (upd hg id o) nx)(s:Stp w γ w' γ') :
  Fin C A bd w γ hg nx g w' γ' (upd hg id o) (g.put id o):=by
 refine ⟨hr.up (Nat.le_max_left _ _),s,⟨[id],by simp,λj hj=>?_,λj hj=>?_⟩⟩
 ·simp at hj;subst hj;simp[H.get_put]
 ·exact bN _ _ (by simpa using hj)
theorem Fin.ofNew {g:G}{o:AObj}(hr:Rel C A bd w' γ' (upd hg g.nx o) (Nat.max nx (g.nx+1)))(s:Stp w γ w' γ') :
  Fin C A bd w γ hg nx g w' γ' (upd hg g.nx o) (g.new o):=by
 refine ⟨by simpa using hr,s,⟨[g.nx],by simp,λj hj=>?_,λj hj=>?_⟩⟩
 ·simp at hj;subst hj;simp[H.get_put]
 ·exact bN _ _ (by simpa using hj)
end
end Hx
end
