/- A part of the proof: an interpreter over abstract values, shown right against the model, and what the functions of the chapter compute on it. -/
import Derived.RangeFuncIn
import Derived.AtR
import Derived.Test.YtkbieohddgjioaaHx4
set_option linter.unusedVariables false
set_option linter.unusedSimpArgs false
set_option linter.unnecessarySimpa false
section
namespace Hx
open Go
noncomputable section
structure SI where
 dst:Option Nat
 gd:Option (Nat×Bool)
 op:SO
inductive SC where
 | skip
 | ops (l:List SI)
 | quiet (l:List SI)
 | feet (pm:List Nat) (l:List SI)
 | seq (a b:SC)
 | cond (c:Od) (a b:SC)
 | blk (id:Nat) (b:SC)
 | loop (b:SC)
 | exit (id:Nat)
 | ret
 | rng (nt:Nat) (f:Od) (ps:List Nat) (assign body:SC)
 | raw (nt:Nat) (c:Code)
def OR.sat (r:OR)(K:AV->G->Prop)(g:G)(D:ADf->Prop):Prop :=
 match r with
 | .fail=>False
 | .val v=>K v g
 | .upd v g'=>K v g'
 | .dfr a=>D a
def CR.sat (r:CR)(Q:Ex->T->List ADf->G->Prop):Prop :=
 match r with
 | .fail=>False
 | .ok e t df g=>Q e t df g
def FR.sat (r:FR)(Q:AV->G->Prop):Prop :=
 match r with
 | .fail=>False
 | .ok v g=>Q v g
def xN (dst:Option Nat)(t:T)(v:AV):T:=match dst with | none=>t | some d=>eG t d v
abbrev PT:=T->List ADf->G->Prop
abbrev QT:=Ex->T->List ADf->G->Prop
def rD (q:Bool)(A B:PT)(t:T)(df:List ADf)(g:G):Prop:=(q=true->A t df g)/\(q=false->B t df g)
def gdP (v:AV)(w:Bool)(A B:PT)(t:T)(df:List ADf)(g:G):Prop :=
 match v with
 | .bool q=>an w (rD q A B t df g) (rD q B A t df g)
 | .tup _=>B t df g
 | _=>False
def kO (W:PT)(dst:Option Nat)(t:T)(df:List ADf)(v:AV)(g:G):Prop:=W (xN dst t v) df g
def kD (W:PT)(dst:Option Nat)(t:T)(df:List ADf)(g:G)(a:ADf):Prop:=W (xN dst t .undef) (a::df) g
def zF (C:Cfg)(d:Nat)(rd:Option Nat)(i:SI)(W:PT)(t:T)(df:List ADf)(g:G):Prop:=(i.op.run C d rd t g).sat (kO W i.dst t df) g (kD W i.dst t df g)
def uK (i:SI)(W:PT)(t:T)(df:List ADf)(g:G):Prop:=W (xN i.dst t .undef) df g
def wpO (C:Cfg)(d:Nat)(rd:Option Nat):List SI->PT->T->List ADf->G->Prop
 | [],Q,t,df,g=>Q t df g
 | i::r,Q,t,df,g =>
  match i.gd with
  | none=>zF C d rd i (wpO C d rd r Q) t df g
  | some (s,w)=>gdP (tat t s) w (zF C d rd i (wpO C d rd r Q)) (uK i (wpO C d rd r Q)) t df g
def SO.foot (C:Cfg)(t:T)(g:G):SO->Looks
 | .load _ _ a=>af (ae (a.get t))
 | .store _ a _=>af (ae (a.get t))
 | .slc _ a _ _=>af (ae (a.get t))
 | .sla _ _ a _ _=>af (ae (a.get t))
 | .ixs _ a _=>af (ae (a.get t))
 | .app _ _ a x=>af (ae (a.get t)++ae (x.get t))
 | .cpy _ a x=>af (ae (a.get t)++ae (x.get t))
 | .mx a x=>af (ae (a.get t)++ae (x.get t))
 | .mn a x=>af (ae (a.get t)++ae (x.get t))
 | .len lk a=>match lk with | .map=>af (q7 (a.get t)) | _=>au
 | .call f as=>an ((C.ext f).isSome || C.iso f) (af ((iA t as).flatMap (aH g.h aF))) cT
 | .dyn f as=>match f.get t with
  | .clo f first cap=>an ((C.ext f).isSome || C.iso f) (af ((first++(iA t as++cap)).flatMap (aH g.h aF))) cT
  | _=>cT
 | .raw op=>(aI C op).run t g
 | _=>au
abbrev FT:=T->List ADf->G->List Foot->Prop
def kF (W:FT)(dst:Option Nat)(t:T)(df:List ADf)(lg:List Nat)(fs:List Foot)(lk:Looks)(v:AV)(g':G):Prop:=W (xN dst t v) df (ij g' (g'.lg++lg)) (⟨lk,g'.lg⟩::fs)
def Dz (C:Cfg)(d:Nat)(rd:Option Nat)(i:SI)(W:FT)(fs:List Foot)(t:T)(df:List ADf)(g:G):Prop :=
 (i.op.run C d rd t (aG g [])).sat (kF W i.dst t df g.lg fs (i.op.foot C t g)) (aG g []) (λ_=>False)
def zI (i:SI)(W:FT)(fs:List Foot)(t:T)(df:List ADf)(g:G):Prop:=W (xN i.dst t .undef) df g (⟨au,[]⟩::fs)
def wpF (C:Cfg)(d:Nat)(rd:Option Nat)(pm:List Nat):List SI->PT->T->List ADf->G->List Foot->Prop
 | [],Q,t,df,g,fs=>mF pm fs.reverse=true/\Q t df g
 | i::r,Q,t,df,g,fs =>
  match i.gd with
  | none=>Dz C d rd i (wpF C d rd pm r Q) fs t df g
  | some (s,w)=>gdP (tat t s) w (Dz C d rd i (wpF C d rd pm r Q) fs) (zI i (wpF C d rd pm r Q) fs) t df g
def kS (W:PT)(Q:QT)(e:Ex)(t:T)(df:List ADf)(g:G):Prop:=match e with | .norm=>W t df g | e=>Q e t df g
def kB (id:Nat)(Q:QT)(e:Ex)(t:T)(df:List ADf)(g:G):Prop:=match e with | .exit j=>an (Nat.beq j id) (Q .norm t df g) (Q (.exit j) t df g) | e=>Q e t df g
def kL (Inv:Nat->PT)(k:Nat)(Q:QT)(e:Ex)(t:T)(df:List ADf)(g:G):Prop:=match e with | .norm=>∃k',k'<k/\Inv k' t df g | e=>Q e t df g
def kQ (g0:G)(Q:QT)(t:T)(df:List ADf)(g:G):Prop:=g.lg=[]/\g.nx=g0.nx/\Q .norm t df g0
def wpC (v:AV)(A B:PT)(t:T)(df:List ADf)(g:G):Prop:=match v with | .bool q=>rD q A B t df g | _=>False
def wpL (W:QT->PT)(Q:QT)(t:T)(df:List ADf)(g:G):Prop :=
 ∃Inv:Nat->PT,(∃k,Inv k t df g)/\∀k t df g,Inv k t df g->W (kL Inv k Q) t df g
def nGd (all:List Oper):Option (Nat×Bool)->Option (Option (Nat×Bool))
 | none=>some none
 | some (j,w)=>match all[j]? with
  | some o=>match o.dst with
   | some d=>some (some (d,w))
   | none=>none
  | none=>none
def Jf (nt:Nat):Option Nat->Bool
 | none=>true
 | some d=>Nat.blt d nt
def Dm (C:Cfg)(nt:Nat)(all:List Oper):List Oper->Option (List SI)
 | []=>some []
 | o::rest=>match Jf nt o.dst,nGd all o.guard,Dm C nt all rest with
  | true,some gd,some r=>some (⟨o.dst,gd,nOp C o.op⟩::r)
  | _,_,_=>none
def ec (C:Cfg)(nt:Nat):Code->SC
 | .skip=>.skip
 | .label _=>.skip
 | .region p ops draw=>match Dm C nt ops.toList ops.toList with
  | some l=>an draw (an (xM ops.toList) (an (ops.toList.all λo=>tp C o.op) (.quiet l) (.feet (aZ ops.toList []) l)) (.raw nt (.region p ops draw))) (.ops l)
  | none=>.raw nt (.region p ops draw)
 | .seq a b=>.seq (ec C nt a) (ec C nt b)
 | .cond c a b=>match nOd C c with
  | some c=>.cond c (ec C nt a) (ec C nt b)
  | none=>.raw nt (.cond c a b)
 | .block id b=>.blk id (ec C nt b)
 | .loop b=>.loop (ec C nt b)
 | .scope b=>ec C nt b
 | .exit id=>.exit id
 | .ret=>.ret
 | .rangeFunc f ps assign body=>match nOd C f with
  | some f=>.rng nt f ps.toList (ec C nt assign) (ec C nt body)
  | none=>.raw nt (.rangeFunc f ps assign body)
 | c=>.raw nt c
def wp (C:Cfg)(d:Nat)(rd:Option Nat):SC->QT->T->List ADf->G->Prop
 | .skip,Q,t,df,g=>Q .norm t df g
 | .ops l,Q,t,df,g=>wpO C d rd l (Q .norm) t df g
 | .quiet l,Q,t,df,g=>wpO C d rd l (kQ g Q) t df (aG g [])
 | .feet pm l,Q,t,df,g=>wpF C d rd pm l (Q .norm) t df g []
 | .seq a b,Q,t,df,g=>wp C d rd a (kS (wp C d rd b Q) Q) t df g
 | .cond c a b,Q,t,df,g=>wpC (c.get t) (wp C d rd a Q) (wp C d rd b Q) t df g
 | .blk id b,Q,t,df,g=>wp C d rd b (kB id Q) t df g
 | .loop b,Q,t,df,g=>wpL (wp C d rd b) Q t df g
 | .exit id,Q,t,df,g=>Q (.exit id) t df g
 | .ret,Q,t,df,g=>Q .ret t df g
 | .rng nt f ps a b,Q,t,df,g=>∀assign body,ec C nt assign=a->ec C nt body=b->(jS C nt (λt=>f.get t) ps assign body (I C) d rd t df g).sat Q
 | .raw nt c,Q,t,df,g=>((aM C nt c).run (I C) d rd t df g).sat Q
theorem Ca {nt:Nat}{dst:Option Nat}(h:Jf nt dst=true):∃o,qi nt dst=some o/\∀t v,o.run t v=xN dst t v:=by
 cases dst with
 | none=>exact ⟨_,rfl,λt v=>rfl⟩
 | some d =>
  refine ⟨sp AV.undef d,?_,λt v=>rfl⟩;have h:Nat.blt d nt=true:=h;simp only[qi,h]
theorem vV {all:List Oper}{j:Nat}{w:Bool}{r:Option (Nat×Bool)}(h:nGd all (some (j,w))=some r) :
  ∃s,r=some (s,w)/\gS all (some (j,w))=some ⟨λt=>match (gp AV.undef s).run t with | .bool b=>some (an w b (iC b)) | .tup _=>some false | _=>none⟩:=by
 unfold nGd at h;dsimp only at h
 split at h
 ·rename_i o ho
  split at h
  ·rename_i d hd;injection h with h;exact ⟨d,h.symm,by simp only[gS,ho,hd];rfl⟩
  ·cases h
 ·cases h
theorem uJ {out:T->AV->T}{dst:Option Nat}(ho:∀t v,out t v=xN dst t v){next:T->List ADf->G->CR}{Q:QT}{K:PT}(hk:∀t df g,K t df g->(next t df g).sat Q)
  {t:T} {df:List ADf} {g:G} {r:OR} (h:r.sat (kO K dst t df) g (kD K dst t df g)):(lH out next t df g r).sat Q:=by
 cases r with
 | fail=>exact h.elim
 | val v=>exact hk _ _ _ (by rw[ho];exact h)
 | upd v g'=>exact hk _ _ _ (by rw[ho];exact h)
 | dfr a=>exact hk _ _ _ (by rw[ho];exact h)
theorem yQ {v:AV}{w:Bool}{A B:PT}{t:T}{df:List ADf}{g:G}(h:gdP v w A B t df g) :
  ∃q,(match v with | .bool b=>some (an w b (iC b)) | .tup _=>some false | _=>none:Option Bool)=some q/\(q=true->A t df g)/\(q=false->B t df g):=by
 unfold gdP at h
 split at h
 ·rename_i q;rw[aa] at h;refine ⟨_,rfl,?_,?_⟩
  ·cases w<;>cases q<;>simp_all [rD]
  ·cases w<;>cases q<;>simp_all [rD]
 ·exact ⟨false,rfl,λh=>(by cases h),λ_=>h⟩
 ·exact h.elim
theorem Gk {C:Cfg}{d:Nat}{rd:Option Nat}{nt:Nat}{all:List Oper}{Q:QT}:∀(l:List Oper) (s:List SI),Dm C nt all l=some s->∀t df g,wpO C d rd s (Q .norm) t df g ->
  ((gT C nt all l).run (I C) d rd t df g).sat Q:=by
 intro l
 induction l with
 | nil=>intro s h t df g hq;injection h with h;subst h;exact hq
 | cons o rest ih =>
  intro s h t df g hq;unfold Dm at h
  split at h
  ·rename_i gd r hd hg hr;injection h with h;subst h;obtain ⟨ot,e1,e2⟩:=Ca hd;unfold gT;rw[e1];dsimp only;cases hgd:o.guard with
   | none =>
    rw[hgd] at hg;injection hg with hg;subst hg;dsimp only;rw[<-xH];exact uJ e2 (λt df g h=>ih r hr t df g h) hq
   | some jw =>
    obtain ⟨j,w⟩:=jw;rw[hgd] at hg;obtain ⟨sl,h1,h2⟩:=vV hg;subst h1;dsimp only;rw[h2];dsimp only;obtain ⟨q,h3,h4,h5⟩:=yQ hq;have:(gp AV.undef sl).run t=tat t sl:=gp_run _ _ _;rw[this,h3];cases q with
    | true =>
     dsimp only;rw[<-xH];exact uJ e2 (λt df g h=>ih r hr t df g h) (h4 rfl)
    | false =>
     dsimp only;rw[e2];exact ih r hr _ _ _ (h5 rfl)
  ·cases h
theorem Dn {C:Cfg}{op:Op}(hc:∀c,op≠.call c){t:T}{g:G}:(Ft C op).foot C t g=(aI C op).run t g:=by
 have hod:∀{x:Operand} {o:Od},nOd C x=some o->∃s,aN C x=some s/\∀t,s.run t=o.get t:=a_;unfold Ft
 split
 case h_8 ty a =>
  split
  ·rename_i a ag n ha h2 h3;obtain ⟨s,hs,he⟩:=hod ha;simp only[aI,hs,SO.foot,he]
  ·rfl
 case h_9 ty a x =>
  split
  ·rename_i a x n ha hx h3;obtain ⟨s,hs,he⟩:=hod ha;simp only[aI,hs,SO.foot,he]
  ·rfl
 case h_16 ty x lo hi =>
  split
  ·rename_i e x l h h0 hx hl hh;obtain ⟨s,hs,he⟩:=hod hx
   split
   ·simp only[aI,hs,SO.foot,he]
   ·rfl
  ·rename_i n e x l h h0 hx hl hh;obtain ⟨s,hs,he⟩:=hod hx
   split
   ·simp only[aI,hs,SO.foot,he]
   ·rfl
  ·rfl
 case h_19 ty x ix =>
  split
  ·rename_i a i ha hi;obtain ⟨s,hs,he⟩:=hod ha
   split
   ·rename_i e h0
    split
    ·simp only[aI,h0,hs,SO.foot,he]
    ·rfl
   ·rename_i n e h0
    split
    ·simp only[aI,h0,SO.foot]
    ·rfl
   ·rfl
  ·rfl
 all_goals (repeat' (first | rfl | split | rw[aa]))
theorem Fs {C:Cfg}{op:Op}{t:T}{g:G}:(nOp C op).foot C t g=(aI C op).run t g:=by
 unfold nOp
 split
 ·rename_i f args ats
  split
  ·rename_i vs hv;obtain ⟨s,hs,he⟩:=cq hv;simp only[SO.foot,aI,aN,hs,he,List.nil_append,List.append_nil]
  ·rfl
 ·rename_i fo args ats hnf
  split
  ·rename_i f vs hf hv;obtain ⟨s,hs,he⟩:=cq hv;obtain ⟨s2,hs2,he2⟩:=a_ hf;simp only[SO.foot,aI,hs,hs2,he,he2];cases Od.get t f<;>rfl
  ·rfl
 ·rename_i b args ats
  split
  ·rename_i x hx;obtain ⟨s,hs,he⟩:=cq hx
   split
   ·rename_i ty hty;simp only[SO.foot,aI,hs,he,iA,List.flatMap_cons,List.flatMap_nil,List.append_nil,je,hty];cases jg C.P ty<;>rfl
   ·rfl
  ·rename_i a x hx;obtain ⟨s,hs,he⟩:=cq hx;have hfoot:(aI C (.call { callee:=.builtin .append,args:=args,argTypes:=ats })).run t g=af (ae (a.get t)++ae (x.get t)):=by simp only[aI,hs,he,iA,List.flatMap_cons,List.flatMap_nil,List.append_nil,je]
   split
   ·split
    ·split
     ·rw[aa];split
      ·exact hfoot.symm
      ·rfl
     ·rfl
    ·rfl
   ·rfl
  ·rename_i a x hx;obtain ⟨s,hs,he⟩:=cq hx;have hfoot:(aI C (.call { callee:=.builtin .copy,args:=args,argTypes:=ats })).run t g=af (ae (a.get t)++ae (x.get t)):=by simp only[aI,hs,he,iA,List.flatMap_cons,List.flatMap_nil,List.append_nil,je]
   split
   ·split
    ·split
     ·exact hfoot.symm
     ·rfl
    ·rfl
   ·rfl
  ·rename_i a x hx;obtain ⟨s,hs,he⟩:=cq hx;simp only[SO.foot,aI,hs,he,iA,List.flatMap_cons,List.flatMap_nil,List.append_nil,je]
  ·rename_i a x hx;obtain ⟨s,hs,he⟩:=cq hx;simp only[SO.foot,aI,hs,he,iA,List.flatMap_cons,List.flatMap_nil,List.append_nil,je]
  ·rfl
 ·rename_i h1 h2 h3;cases op with
  | call c=>rfl
  | _=>exact Dn (λc h=>by cases h)
theorem IN {C:Cfg}{d:Nat}{rd:Option Nat}{nt:Nat}{all:List Oper}{pm:List Nat}{Q:QT}:∀(l:List Oper) (s:List SI) (k:Nat),Dm C nt all l=some s->∀t df g fs,wpF C d rd pm s (Q .norm) t df g fs ->
  ((ge C nt pm all k l).run (I C) d rd t df g fs).sat Q:=by
 intro l
 induction l with
 | nil =>
  intro s k h t df g fs hq;injection h with h;subst h;obtain ⟨h1,h2⟩:=hq;unfold ge;dsimp only;rw[h1];exact h2
 | cons o rest ih =>
  intro s k h t df g fs hq;unfold Dm at h
  split at h
  ·rename_i gd r hd hg hr;injection h with h;subst h;obtain ⟨ot,e1,e2⟩:=Ca hd;have step:∀{x:OR},x.sat (kF (wpF C d rd pm r (Q .norm)) o.dst t df g.lg fs ((nOp C o.op).foot C t g)) (aG g []) (λ_=>False) ->
     (iG ot.run ((ge C nt pm all (k+1) rest).run (I C) d rd) t df g fs ((aI C o.op).run t g) x).sat Q:=by
    intro x hx;rw[Fs] at hx;cases x with
    | fail=>exact hx.elim
    | val v =>
     simp only[iG,e2];refine ih r _ hr _ _ _ _ ?_;have hx:wpF C d rd pm r (Q .norm) (xN o.dst t v) df (ij (aG g []) ((aG g []).lg++g.lg)) (⟨(aI C o.op).run t g,(aG g []).lg⟩::fs):=hx;obtain ⟨h,nx,lg⟩:=g;exact hx
    | upd v g' =>
     simp only[iG,e2];exact ih r _ hr _ _ _ _ hx
    | dfr a=>exact hx.elim
   unfold ge;rw[e1];cases hgd:o.guard with
   | none =>
    rw[hgd] at hg;injection hg with hg;subst hg;simp only[gS];rw[<-xH];exact step hq
   | some jw =>
    obtain ⟨j,w⟩:=jw;rw[hgd] at hg;obtain ⟨sl,h1,h2⟩:=vV hg;subst h1;rw[h2];dsimp only;obtain ⟨q,h3,h4,h5⟩:=yQ hq;have:(gp AV.undef sl).run t=tat t sl:=gp_run _ _ _;rw[this,h3];cases q with
    | true =>
     dsimp only;rw[<-xH];exact step (h4 rfl)
    | false =>
     dsimp only;rw[e2];exact ih r _ hr _ _ _ _ (h5 rfl)
  ·cases h
theorem CR.sat_mono {r:CR}{Q Q':QT}(h:r.sat Q)(hq:∀e t df g,Q e t df g->Q' e t df g):r.sat Q':=by
 cases r with
 | fail=>exact h
 | ok e t df g=>exact hq _ _ _ _ h
theorem Ie {C:Cfg}{nt d:Nat}{rd:Option Nat}:∀(c:Code) (Q:QT) (t:T) (df:List ADf) (g:G),wp C d rd (ec C nt c) Q t df g->((aM C nt c).run (I C) d rd t df g).sat Q:=by
 intro c
 induction c with
 | seq a b iha ihb =>
  intro Q t df g h;have h:=iha _ t df g h;show (vH _ ((aM C nt a).run (I C) d rd t df g)).sat Q;cases hr:(aM C nt a).run (I C) d rd t df g with
  | fail=>rw[hr] at h;exact h
  | ok e t1 df1 g1 =>
   rw[hr] at h;cases e with
   | norm=>exact ihb _ _ _ _ h
   | exit j=>exact h
   | ret=>exact h
 | cond q a b iha ihb =>
  intro Q t df g h;unfold ec at h
  split at h
  ·rename_i o ho;obtain ⟨s,hs,he⟩:=a_ ho;simp only[aM,hs,he];have h:wpC (o.get t) (wp C d rd (ec C nt a) Q) (wp C d rd (ec C nt b) Q) t df g:=h;unfold wpC at h;cases hv:Od.get t o with
   | bool v =>
    rw[hv] at h;cases v with
    | true=>exact iha _ _ _ _ (h.1 rfl)
    | false=>exact ihb _ _ _ _ (h.2 rfl)
   | _=>rw[hv] at h;exact h.elim
  ·exact h
 | block id body ih =>
  intro Q t df g h;have h:=ih _ t df g h;show (pO id ((aM C nt body).run (I C) d rd t df g)).sat Q;cases hr:(aM C nt body).run (I C) d rd t df g with
  | fail=>rw[hr] at h;exact h
  | ok e t1 df1 g1 =>
   rw[hr] at h;cases e with
   | norm=>exact h
   | exit j =>
    have h:an (Nat.beq j id) (Q .norm t1 df1 g1) (Q (.exit j) t1 df1 g1):=h;show (an (Nat.beq j id) _ _:CR).sat Q;cases hb:Nat.beq j id
    ·rw[hb] at h;exact h
    ·rw[hb] at h;exact h
   | ret=>exact h
 | loop body ih =>
  intro Q t df g h;obtain ⟨Inv,⟨k,hk⟩,hs⟩:=h
  induction k using Nat.strongRecOn generalizing t df g with
  | _ k rec =>
   have h:=ih _ t df g (hs k t df g hk);show (vH (λt df g=>(I C).code nt d rd (.loop body) t df g) ((aM C nt body).run (I C) d rd t df g)).sat Q;cases hr:(aM C nt body).run (I C) d rd t df g with
   | fail=>rw[hr] at h;exact h
   | ok e t1 df1 g1 =>
    rw[hr] at h;cases e with
    | norm =>
     obtain ⟨k',hlt,hi⟩:=h;show ((I C).code nt d rd (.loop body) t1 df1 g1).sat Q;rw[zZ];exact rec k' hlt t1 df1 g1 hi
    | exit j=>exact h
    | ret=>exact h
 | scope body ih=>intro Q t df g h;exact ih _ _ _ _ h
 | region p ops draw =>
  intro Q t df g h;show ((ew C nt ops.toList draw).run (I C) d rd t df g).sat Q;unfold ec at h
  split at h
  ·rename_i l hl;rw[aa,aa,aa] at h;unfold ew;rw[aa,aa,aa]
   split
   ·rename_i hd;rw[if_pos hd] at h
    split
    ·rename_i ho;rw[if_pos ho] at h
     split
     ·rename_i hq;rw[if_pos hq] at h;have h:wpO C d rd l (kQ g Q) t df (aG g []):=h;have h:=Gk (C:=C) (d:=d) (rd:=rd) (Q:=λe t df g'=>e=.norm/\g'.lg=[]/\g'.nx=g.nx/\Q .norm t df g) (nt:=nt) (all:=ops.toList) ops.toList l hl t df (aG g [])
       (by
        refine cast ?_ h;congr 1;funext t df g';simp[kQ])
      dsimp only;cases hr:(gT C nt ops.toList ops.toList).run (I C) d rd t df (aG g []) with
      | fail=>rw[hr] at h;exact h
      | ok e t1 df1 g1 =>
       rw[hr] at h;obtain ⟨h0,h1,h2,h3⟩:=h;subst h0;simp only[jR,h1,h2,Nat.beq_refl];exact h3
     ·rename_i hq;rw[if_neg hq] at h;exact IN _ l 0 hl _ _ _ _ h
    ·rename_i ho;rw[if_neg ho] at h;unfold wp at h;simp only[aM,ew,aa,if_pos hd,if_neg ho] at h;exact h
   ·rename_i hd;rw[if_neg hd] at h;exact Gk _ l hl _ _ _ h
  ·exact h
 | rangeFunc f ps assign body _ _ =>
  intro Q t df g h;unfold ec at h
  split at h
  ·rename_i o ho;obtain ⟨s,hs,he⟩:=a_ ho;have he:s.run=λt=>o.get t:=funext he;simp only[aM,hs,he];exact h assign body rfl rfl
  ·exact h
 | skip=>intro Q t df g h;exact h
 | label l=>intro Q t df g h;exact h
 | exit id=>intro Q t df g h;exact h
 | ret=>intro Q t df g h;exact h
 | goto l=>intro Q t df g h;exact h
 | refuse w=>intro Q t df g h;exact h
theorem OR.sat_mono {r:OR}{K K':AV->G->Prop}{g:G}{D D':ADf->Prop}(h:r.sat K g D)(hk:∀v g',K v g'->K' v g')(hd:∀a,D a->D' a):r.sat K' g D':=by
 cases r with
 | fail=>exact h
 | val v=>exact hk _ _ h
 | upd v g'=>exact hk _ _ h
 | dfr a=>exact hd _ h
inductive SR where
 | tm (n:Nat)
 | cell (ag:Bool) (n a:Nat)
structure SF where
 nt:Nat
 res:List SR
 code:SC
def xI (C:Cfg):List ResultVar->Option (List SR)
 | []=>some []
 | .tmp n::rs=>match xI C rs with
  | some k=>some (.tm n::k)
  | none=>none
 | .cell a ty::rs=>match xI C rs,nH C.P ty,szT C.P ty with
  | some k,some ag,some n=>some (.cell ag n a::k)
  | _,_,_=>none
def nFn (C:Cfg)(f:Nat):Option SF :=
 match C.P.funcs[f]? with
 | none=>none
 | some fn=>match fn.body with
  | none=>none
  | some c=>match xI C fn.results.toList with
   | some r => an (fn.name == "runtime.NumGoroutine") none (some ⟨fn.ntmps, r, ec C fn.ntmps c⟩)
   | none=>none
def tc:List SR->T->G->(List AV->Prop)->Prop
 | [],_,_,K=>K []
 | .tm n::rs,t,g,K=>tc rs t g λvs=>K (tat t n::vs)
 | .cell ag n a::rs,t,g,K=>match nA ag n (tat t a) g with
  | .val v=>tc rs t g λvs=>K (v::vs)
  | _=>False
theorem Hn {C:Cfg}{t:T}{g:G}:∀(l:List ResultVar) (r:List SR) (K:List AV->Prop),xI C l=some r->tc r t g K->∃s vs,qx C l=some s/\s.run t g=some vs/\K vs:=by
 intro l
 induction l with
 | nil=>intro r K h hk;injection h with h;subst h;exact ⟨_,[],rfl,rfl,hk⟩
 | cons x l ih =>
  intro r K h hk;cases x with
  | tmp n =>
   unfold xI at h
   split at h
   ·rename_i k hr;injection h with h;subst h;obtain ⟨s,vs,h1,h2,h3⟩:=ih k _ hr hk;refine ⟨⟨λt g=>match s.run t g with | some vs=>some ((gp AV.undef n).run t::vs) | none=>none⟩,tat t n::vs,by simp only[qx,h1];rfl,?_,h3⟩;simp only[h2,gp_run];rfl
   ·cases h
  | cell a ty =>
   unfold xI at h
   split at h
   ·rename_i k ag n hr ha hn;injection h with h;subst h;unfold tc at hk
    split at hk
    ·rename_i v hv;obtain ⟨s,vs,h1,h2,h3⟩:=ih k _ hr hk;have hl:jO ag n (gp AV.undef a).run t g=.val v:=by rw[<-hv];simp only[nA,jO,gp_run];rfl
     refine ⟨⟨λt g=>match jO ag n (gp AV.undef a).run t g with | .val v=>(match s.run t g with | some vs=>some (v::vs) | none=>none) | _=>none⟩,v::vs,
      by simp only[qx,h1,bO,aN,ha,hn];rfl,?_,h3⟩
     simp only[hl,h2]
    ·exact hk.elim
   ·cases h
def yD (C:Cfg)(d:Nat)(r:List SR)(t:T)(df:List ADf)(g:G)(K:AV->G->Prop):Prop :=
 match eN (I C) d df g with
 | some g'=>tc r t g' λvs=>K (iD vs) g'
 | none=>False
def fnQ (C:Cfg)(d:Nat)(r:List SR)(K:AV->G->Prop):QT:=λe t df g=>match e with | .exit _=>False | _=>yD C d r t df g K
theorem oY {C:Cfg}{f:Nat}{s:SF}(hf:nFn C f=some s){d:Nat}{as:List AV}{g:G}{K:AV->G->Prop}(hl:as.length<=s.nt)(h:wp C d none s.code (fnQ C d s.res K) (ch 0 as .nil) [] g) :
  ((I C).call d f as g).sat K:=by
 rw[Ig];unfold nFn at hf
 split at hf
 ·cases hf
 rename_i fn hfn
 split at hf
 ·cases hf
 rename_i c hc
 split at hf
 rotate_left
 ·cases hf
 rename_i r hr;rw[aa] at hf
 split at hf
 ·cases hf
 rename_i hn;injection hf with hf;subst hf;have h:=Ie c _ _ _ _ h;have hres:∃s,qx C fn.results.toList=some s:=by
  have:∀(l:List ResultVar) (r:List SR),xI C l=some r->∃s,qx C l=some s:=by
   intro l
   induction l with
   | nil=>intro r _;exact ⟨_,rfl⟩
   | cons x l ih =>
    intro r h;cases x with
    | tmp n =>
     unfold xI at h
     split at h
     ·rename_i k hr;obtain ⟨s,hs⟩:=ih k hr;exact ⟨_,by simp only[qx,hs];rfl⟩
     ·cases h
    | cell a ty =>
     unfold xI at h
     split at h
     ·rename_i k ag n hr ha hn;obtain ⟨s,hs⟩:=ih k hr;exact ⟨_,by simp only[qx,hs,bO,aN,ha,hn];rfl⟩
     ·cases h
  exact this _ _ hr
 obtain ⟨rs,hrs⟩:=hres;unfold dz cFn;simp only[hfn,hc,hrs,aa,if_neg hn];rw[if_pos (by rw[aw,Nat.ble_eq];exact hl)];cases hrun:(aM C fn.ntmps c).run (I C) d none (ch 0 as .nil) [] g with
 | fail=>rw[hrun] at h;exact h
 | ok e t df g' =>
  rw[hrun] at h;have key:yD C d r t df g' K->(fm (I C) d rs.run t df g').sat K:=by
   intro h;unfold yD at h;unfold fm
   split at h
   ·rename_i g2 hg2;rw[hg2];obtain ⟨s2,vs,h1,h2,h3⟩:=Hn _ _ _ hr h;rw[hrs] at h1;injection h1 with h1;subst h1;simp only[h2];exact h3
   ·exact h.elim
  cases e with
  | exit j=>exact h
  | norm=>exact key h
  | ret=>exact key h
end
end Hx
end
section
namespace Hx
open Go
def All2 {α β:Type}(R:α->β->Prop):List α->List β->Prop
 | [],[]=>True
 | a::as,b::bs=>R a b/\All2 R as bs
 | _,_=>False
section all2
variable {α β:Type}{R S:α->β->Prop}
theorem All2.len:∀{l:List α} {m:List β},All2 R l m->l.length=m.length
 | [],[],_=>rfl
 | _::_,_::_,h=>by simp only[List.length_cons,All2.len h.2]
theorem All2.mono (hs:∀a b,R a b->S a b):∀{l:List α} {m:List β},All2 R l m->All2 S l m
 | [],[],_=>trivial
 | _::_,_::_,h=>⟨hs _ _ h.1,All2.mono hs h.2⟩
theorem All2.get:∀{l:List α} {m:List β},All2 R l m->∀{i:Nat} {a:α},l[i]?=some a->∃b,m[i]?=some b/\R a b
 | _::_,b::_,h,0,_,e=>by simp at e;subst e;exact ⟨b,rfl,h.1⟩
 | _::_,_::_,h,i+1,a,e=>by simpa using All2.get h.2 (i:=i) (by simpa using e)
 | [],[],_,i,a,e=>by simp at e
theorem All2.append:∀{l:List α} {m:List β} {l':List α} {m':List β},All2 R l m->All2 R l' m'->All2 R (l++l') (m++m')
 | [],[],_,_,_,h'=>h'
 | _::_,_::_,_,_,h,h'=>⟨h.1,All2.append h.2 h'⟩
theorem All2.take:∀{l:List α} {m:List β},All2 R l m->∀(i:Nat),All2 R (l.take i) (m.take i)
 | [],[],_,_=>by simp[All2]
 | _::_,_::_,h,0=>by simp[All2]
 | _::_,_::_,h,i+1=>⟨h.1,All2.take h.2 i⟩
theorem All2.of_map {f:α->β}(h:∀a,R a (f a)):∀l:List α,All2 R l (l.map f)
 | []=>trivial
 | a::l=>⟨h a,All2.of_map h l⟩
theorem All2.eq_map {f:α->β}(hf:∀a b,R a b->b=f a):∀{l:List α} {m:List β},All2 R l m->m=l.map f
 | [],[],_=>rfl
 | a::l,b::m,h=>by rw[List.map_cons,hf _ _ h.1,All2.eq_map hf h.2]
end all2
def NoP:Nat->Prop:=λ_=>False
class Rp (α:Type) where
 sz:Nat
 dp:Nat
 rp:(Nat->Prop)->Nat->H->α->List AV->Prop
 len:∀{P k h x cs},rp P k h x cs->cs.length=sz
 mono:∀{P P':Nat->Prop} {k k':Nat} {h h':H} {x:α} {cs:List AV},rp P k h x cs->(∀i,P i->P' i/\h'.get i=h.get i)->k<=k'->rp P' k' h' x cs
 snap:∀{P k h x cs n} (d:Nat),rp P k h x cs->dp<=n->dp<=aF->∃cs',aJ (Hx.snap h d n) cs=some cs'/\rp NoP (max k d) .nil x cs'
 same:∀{k h x cs n} (d:Nat),rp NoP k h x cs->dp<=n->aJ (Hx.snap h d n) cs=some cs
 ids:∀{P k h x cs n},rp P k h x cs->∀i∈cs.flatMap (aH h n),P i
 tag:∀{k h x cs n},rp NoP k h x cs->dp<=n->∃m,gH (eh n) cs=some m/\m<=k
theorem Rp.tree {α:Type} [Rp α]{P:Nat->Prop}{k k':Nat}{h h':H}{x:α}{cs:List AV}(r:Rp.rp NoP k h x cs)(hk:k<=k'):Rp.rp P k' h' x cs :=
 Rp.mono r (λ_ h=>h.elim) hk
def AV.flat:AV->Bool
 | .bool _ | .int _ _ | .str _=>true
 | _=>false
theorem wQ {h:H}{d n:Nat}{v:AV}(hv:v.flat=true)(hn:1<=n):Hx.snap h d n v=some v:=by obtain ⟨n,rfl⟩:∃m,n=m+1:=⟨n - 1,by omega⟩;cases v<;>first | rfl | cases hv
theorem F_ {n:Nat}{v:AV}(hv:v.flat=true)(hn:1<=n):eh n v=some 0:=by obtain ⟨n,rfl⟩:∃m,n=m+1:=⟨n - 1,by omega⟩;cases v<;>first | rfl | cases hv
theorem EP {h:H}{n:Nat}{v:AV}(hv:v.flat=true):aH h n v=[]:=by
 cases n with
 | zero=>rfl
 | succ n=>cases v<;>first | rfl | cases hv
@[reducible] def Rp.plain {α:Type} (f:α->AV) (ok:α->Prop) (hf:∀x,(f x).flat=true):Rp α where
 sz:=1
 dp:=1
 rp:=λ_ _ _ x cs=>cs=[f x]/\ok x
 len:=by rintro P k h x cs ⟨rfl,-⟩;rfl
 mono:=λr _ _=>r
 snap:=by rintro P k h x cs n d ⟨rfl,ho⟩ hn _;exact ⟨[f x],by simp only[aJ,wQ (hf x) hn],rfl,ho⟩
 same:=by rintro k h x cs n d ⟨rfl,ho⟩ hn;simp only[aJ,wQ (hf x) hn]
 ids:=by rintro P k h x cs n ⟨rfl,ho⟩ i hi;simp[EP (hf x)] at hi
 tag:=by rintro k h x cs n ⟨rfl,ho⟩ hn;exact ⟨0,by simp[gH,F_ (hf x) hn],Nat.zero_le _⟩
def ci (x:Int):List AV:=[.int .i64 x]
def cu (x:Nat):List AV:=[.int .u64 (x:Int)]
instance : Rp Int:=Rp.plain (λx=>.int .i64 x) (λ_=>True) (λ_=>rfl)
instance : Rp Bool:=Rp.plain (λx=>.bool x) (λ_=>True) (λ_=>rfl)
instance : Rp Nat:=Rp.plain (λx=>.int .u64 (x:Int)) (λx=>x<18446744073709551616) (λ_=>rfl)
instance : Rp UInt8:=Rp.plain (λx=>.int .u8 (x.toNat:Int)) (λ_=>True) (λ_=>rfl)
instance : Rp UInt16:=Rp.plain (λx=>.int .u16 (x.toNat:Int)) (λ_=>True) (λ_=>rfl)
theorem oC {α β:Type}{f:α->Option β}:∀{l m:List α} {a b:List β},aJ f l=some a->aJ f m=some b->aJ f (l++m)=some (a++b)
 | [],m,a,b,h1,h2=>by injection h1 with h1;subst h1;exact h2
 | x::l,m,a,b,h1,h2=>by
  unfold aJ at h1
  split at h1
  ·rename_i y hy
   split at h1
   ·rename_i ys hys;injection h1 with h1;subst h1;simp only[List.cons_append,aJ,hy,oC hys h2]
   ·cases h1
  ·cases h1
theorem sD {α:Type}{f:α->Option Nat}:∀{l m:List α} {a b:Nat},gH f l=some a->gH f m=some b->gH f (l++m)=some (max a b)
 | [],m,a,b,h1,h2=>by injection h1 with h1;subst h1;simpa using h2
 | x::l,m,a,b,h1,h2=>by
  unfold gH at h1
  split at h1
  ·rename_i y hy
   split at h1
   ·rename_i ys hys;injection h1 with h1;subst h1;simp only[List.cons_append,gH,hy,sD hys h2,Option.some.injEq,Nat.max_def]
    repeat' split
    all_goals omega
   ·cases h1
  ·cases h1
instance {α β:Type} [Rp α] [Rp β]:Rp (α×β) where
 sz:=Rp.sz α+Rp.sz β
 dp:=max (Rp.dp α) (Rp.dp β)
 rp:=λP k h x cs=>∃a b,cs=a++b/\Rp.rp P k h x.1 a/\Rp.rp P k h x.2 b
 len:=by rintro P k h x cs ⟨a,b,rfl,h1,h2⟩;rw[List.length_append,Rp.len h1,Rp.len h2]
 mono:=by rintro P P' k k' h h' x cs ⟨a,b,rfl,h1,h2⟩ hp hk;exact ⟨a,b,rfl,Rp.mono h1 hp hk,Rp.mono h2 hp hk⟩
 snap:=by rintro P k h x cs n d ⟨a,b,rfl,h1,h2⟩ hn hA;obtain ⟨a',e1,r1⟩:=Rp.snap (n:=n) d h1 (by omega) (by omega);obtain ⟨b',e2,r2⟩:=Rp.snap (n:=n) d h2 (by omega) (by omega);exact ⟨a'++b',oC e1 e2,a',b',rfl,r1,r2⟩
 same:=by rintro k h x cs n d ⟨a,b,rfl,h1,h2⟩ hn;exact oC (Rp.same d h1 (by omega)) (Rp.same d h2 (by omega))
 ids:=by
  rintro P k h x cs n ⟨a,b,rfl,h1,h2⟩ i hi;rw[List.flatMap_append,List.mem_append] at hi;rcases hi with hi | hi
  ·exact Rp.ids h1 i hi
  ·exact Rp.ids h2 i hi
 tag:=by rintro k h x cs n ⟨a,b,rfl,h1,h2⟩ hn;obtain ⟨m1,e1,l1⟩:=Rp.tag (n:=n) h1 (by omega);obtain ⟨m2,e2,l2⟩:=Rp.tag (n:=n) h2 (by omega);exact ⟨max m1 m2,sD e1 e2,by omega⟩
@[reducible] def Rp.via {α β:Type} [Rp β] (f:α->β):Rp α where
 sz:=Rp.sz β
 dp:=Rp.dp β
 rp:=λP k h x cs=>Rp.rp P k h (f x) cs
 len:=Rp.len
 mono:=Rp.mono
 snap:=Rp.snap
 same:=Rp.same
 ids:=Rp.ids
 tag:=Rp.tag
def SlV {α:Type} [Rp α](P:Nat->Prop)(k:Nat)(h:H)(l:List α)(v:AV):Prop :=
 match v with
 | .nils | .esl=>l=[]
 | .tsl t s rows=>t<=k/\(s=Rp.sz α\/rows=[])/\All2 (Rp.rp NoP k .nil) l rows
 | .hsl id _ _ _ _=>P id/\∃rows,ak h (Rp.sz α) v=some rows/\All2 (Rp.rp P k h) l rows
 | _=>False
def SlR {α:Type} [Rp α](P:Nat->Prop)(k:Nat)(h:H)(l:List α)(v:AV):Prop:=l.length<9223372036854775808/\SlV P k h l v
theorem SlR.rows {α:Type} [Rp α]{P:Nat->Prop}{k:Nat}{h:H}{l:List α}{v:AV}(r:SlR P k h l v):∃rows,ak h (Rp.sz α) v=some rows/\All2 (Rp.rp P k h) l rows:=by
 have r:=r.2;unfold SlV at r
 split at r
 ·subst r;exact ⟨[],rfl,trivial⟩
 ·subst r;exact ⟨[],rfl,trivial⟩
 ·obtain ⟨h1,h2,h3⟩:=r;refine ⟨_,?_,h3.mono λa b r=>Rp.tree r (Nat.le_refl _)⟩;simp only[ak];rw[aa];rcases h2 with h2 | h2
  ·subst h2;simp
  ·subst h2;simp
 ·exact r.2
 ·exact r.elim
theorem wF {α β γ:Type}{R:α->β->Prop}{S:α->γ->Prop}{f:β->Option γ}(hf:∀a b,R a b->∃c,f b=some c/\S a c):∀{l:List α} {m:List β},All2 R l m->∃r,aJ f m=some r/\All2 S l r
 | [],[],_=>⟨[],rfl,trivial⟩
 | a::l,b::m,h=>by obtain ⟨c,e1,s1⟩:=hf a b h.1;obtain ⟨r,e2,s2⟩:=wF hf h.2;exact ⟨c::r,by simp only[aJ,e1,e2],s1,s2⟩
theorem wG {α β:Type}{R:α->β->Prop}{f:β->Option Nat}{k:Nat}(hf:∀a b,R a b->∃m,f b=some m/\m<=k):∀{l:List α} {m:List β},All2 R l m->∃r,gH f m=some r/\r<=k
 | [],[],_=>⟨0,rfl,Nat.zero_le _⟩
 | a::l,b::m,h=>by obtain ⟨c,e1,s1⟩:=hf a b h.1;obtain ⟨r,e2,s2⟩:=wG hf h.2;exact ⟨max c r,by simp only[gH,e1,e2],by omega⟩
theorem zb {α β:Type}{R:α->β->Prop}:∀{l:List α} {m:List β},All2 R l m->∀b∈m,∃a,R a b
 | [],[],_,b,hb=>by simp at hb
 | a::l,c::m,h,b,hb=>by
  rcases List.mem_cons.1 hb with rfl | hb
  ·exact ⟨a,h.1⟩
  ·exact zb h.2 b hb
theorem sF {h h':H}{sz:Nat}{v:AV}(he:∀id ep off len lim,v=.hsl id ep off len lim->h'.get id=h.get id):ak h' sz v=ak h sz v:=by
 cases v with
 | hsl id ep off len lim=>simp only[ak,he id ep off len lim rfl]
 | _=>rfl
instance {α:Type} [Rp α]:Rp (List α) where
 sz:=1
 dp:=Rp.dp α+1
 rp:=λP k h l cs=>∃v,cs=[v]/\SlR P k h l v
 len:=by rintro P k h x cs ⟨v,rfl,h1⟩;rfl
 mono:=by
  rintro P P' k k' h h' x cs ⟨v,rfl,h0,h1⟩ hp hk;refine ⟨v,rfl,h0,?_⟩;unfold SlV at h1 ⊢
  split at h1
  ·exact h1
  ·exact h1
  ·exact ⟨by omega,h1.2.1,h1.2.2.mono λa b r=>Rp.mono r (λi hi=>hi.elim) hk⟩
  ·rename_i id ep off len lim;obtain ⟨a,rows,b,c⟩:=h1;refine ⟨(hp _ a).1,rows,?_,c.mono λa b r=>Rp.mono r hp hk⟩;rw[<-b];exact sF λ_ _ _ _ _ e=>by injection e with e;subst e;exact (hp _ a).2
  ·exact h1
 snap:=by
  rintro P k h x cs n d ⟨v,rfl,h0,h1⟩ hn hA;obtain ⟨n,rfl⟩:∃m,n=m+1:=⟨n - 1,by omega⟩;have hdA:(23:Nat)+1=aF:=rfl;cases v with
  | nils=>exact ⟨_,rfl,_,rfl,h0,h1⟩
  | esl=>exact ⟨_,rfl,_,rfl,h0,h1⟩
  | tsl t s rows =>
   refine ⟨_,rfl,_,rfl,h0,?_⟩;obtain ⟨q1,q2,q3⟩:=h1;exact ⟨by omega,q2,q3.mono λa b r=>Rp.mono r (λi hi=>hi.elim) (by omega)⟩
  | hsl id ep off len lim =>
   obtain ⟨q1,rows,q2,q3⟩:=h1;simp only[ak] at q2
   split at q2
   ·rename_i sz' rows' ep' lo fz hg;rw[aa] at q2
    split at q2
    ·rename_i hc;simp only[Bool.and_eq_true] at hc;obtain ⟨⟨hc1,hc2⟩,hc3⟩:=hc;injection q2 with q2;have e1:=Nat.eq_of_beq_eq_true hc2;subst e1;obtain ⟨rs,e2,a2⟩:=wF (S:=Rp.rp NoP (max k d) .nil) (f:=aJ (Hx.snap h d n)) (λa b r=>Rp.snap (n:=n) d r (by omega) (by omega)) q3;obtain ⟨m,e3,l3⟩:=wG (f:=gH (eh aF)) (k:=max k d) (λa b r=>Rp.tag (n:=aF) r (by omega)) a2;refine ⟨[.tsl (Nat.max d m) (Rp.sz α) rs],?_,_,rfl,h0,?_⟩
     ·simp only[aJ,Hx.snap,hg,hc1,hc3,Bool.and_self,q2,e2,fq,e3]
     ·refine ⟨?_,.inl rfl,a2⟩;show max d m<=max k d;omega
    ·cases q2
   ·cases q2
  | _=>exact h1.elim
 same:=by
  rintro k h x cs n d ⟨v,rfl,-,h1⟩ hn;obtain ⟨n,rfl⟩:∃m,n=m+1:=⟨n - 1,by omega⟩;cases v with
  | nils=>rfl
  | esl=>rfl
  | tsl t s rows=>rfl
  | hsl id ep off len lim=>exact h1.1.elim
  | _=>exact h1.elim
 ids:=by
  rintro P k h x cs n ⟨v,rfl,-,h1⟩ i hi;cases n with
  | zero=>simp[aH] at hi
  | succ n =>
   simp only[List.flatMap_cons,List.flatMap_nil,List.append_nil] at hi;cases v with
   | hsl id ep off len lim =>
    obtain ⟨q1,rows,q2,q3⟩:=h1;unfold aH at hi;rcases List.mem_cons.1 hi with rfl | hi
    ·exact q1
    ·simp only[ak] at q2
     split at q2
     ·rename_i sz' rows' ep' lo fz hg;rw[aa] at q2
      split at q2
      ·injection q2 with q2;rw[hg] at hi;simp only[q2,List.mem_flatMap] at hi;obtain ⟨row,hr,c,hc,hi⟩:=hi;obtain ⟨a,r⟩:=zb q3 row hr;exact Rp.ids (n:=n) r i (List.mem_flatMap.2 ⟨c,hc,hi⟩)
      ·cases q2
     ·cases q2
   | nils=>simp[aH] at hi
   | esl=>simp[aH] at hi
   | tsl t s rows=>simp[aH] at hi
   | _=>exact h1.elim
 tag:=by
  rintro k h x cs n ⟨v,rfl,-,h1⟩ hn;obtain ⟨n,rfl⟩:∃m,n=m+1:=⟨n - 1,by omega⟩;cases v with
  | nils=>exact ⟨0,rfl,Nat.zero_le _⟩
  | esl=>exact ⟨0,rfl,Nat.zero_le _⟩
  | tsl t s rows=>exact ⟨t,by simp[gH,eh],h1.1⟩
  | hsl id ep off len lim=>exact h1.1.elim
  | _=>exact h1.elim
theorem eE {α:Type} [Rp α]{P:Nat->Prop}{k:Nat}{h:H}{l:List α}{cs:List AV}:Rp.rp P k h l cs↔∃v,cs=[v]/\SlR P k h l v:=Iff.rfl
theorem bj {P:Nat->Prop}{k:Nat}{h:H}{x:Int}{cs:List AV}:Rp.rp P k h x cs↔cs=[.int .i64 x]:=by simp[Rp.rp]
theorem rR {P:Nat->Prop}{k:Nat}{h:H}{x:Nat}{cs:List AV}:Rp.rp P k h x cs↔cs=[.int .u64 (x:Int)]/\x<18446744073709551616:=by simp[Rp.rp]
theorem q_ {P:Nat->Prop}{k:Nat}{h:H}{x:Bool}{cs:List AV}:Rp.rp P k h x cs↔cs=[.bool x]:=by simp[Rp.rp]
theorem dc {P:Nat->Prop}{k:Nat}{h:H}{x:UInt8}{cs:List AV}:Rp.rp P k h x cs↔cs=[.int .u8 (x.toNat:Int)]:=by simp[Rp.rp]
theorem pj {α β:Type} [Rp α] [Rp β]{P:Nat->Prop}{k:Nat}{h:H}{x:α×β}{cs:List AV}:Rp.rp P k h x cs↔∃a b,cs=a++b/\Rp.rp P k h x.1 a/\Rp.rp P k h x.2 b:=Iff.rfl
theorem SlR.ints {P:Nat->Prop}{k:Nat}{h:H}{l:List Int}{v:AV}(r:SlR P k h l v):ak h 1 v=some (l.map ci):=by obtain ⟨rows,h1,h2⟩:=r.rows;rw[show (1:Nat)=Rp.sz Int from rfl,h1,h2.eq_map (f:=ci) λa b r=>bj.1 r]
theorem SlR.nats {P:Nat->Prop}{k:Nat}{h:H}{l:List Nat}{v:AV}(r:SlR P k h l v):ak h 1 v=some (l.map cu):=by obtain ⟨rows,h1,h2⟩:=r.rows;rw[show (1:Nat)=Rp.sz Nat from rfl,h1,h2.eq_map (f:=cu) λa b r=>(rR.1 r).1]
end Hx
end
section
namespace Hx
open Go
noncomputable section
theorem jZ (t:T)(n m:Nat)(v:AV):tat (eG t n v) m=if m=n then v else tat t m:=sp_get _ _ _ _ _
theorem zi (a:AV)(t:T):ch 0 [a] t=eG t 0 a:=rfl
theorem zk (a b:AV)(t:T):ch 0 [a,b] t=eG (eG t 0 a) 1 b:=rfl
theorem zl (a b c:AV)(t:T):ch 0 [a,b,c] t=eG (eG (eG t 0 a) 1 b) 2 c:=rfl
theorem zm (a b c e:AV)(t:T):ch 0 [a,b,c,e] t=eG (eG (eG (eG t 0 a) 1 b) 2 c) 3 e:=rfl
theorem uw (i:Nat)(t:T):ch i [] t=t:=rfl
theorem Cu (m:Nat):tat Tr.nil m=AV.undef:=Tr.get_nil _ _
theorem HX (t:T)(n:Nat):Od.get t (.t n)=tat t n:=rfl
theorem HW (t:T)(v:AV):Od.get t (.k v)=v:=rfl
theorem yR (t:T):iA t []=[]:=rfl
theorem wo (t:T)(o:Od)(os:List Od):iA t (o::os)=o.get t::iA t os:=rfl
theorem bh (h:H)(i:Nat)(o:AObj):(h.put i o).get i=o:=by rw[H.get_put,if_pos rfl]
theorem aD (h:H)(i:Nat)(o:AObj){k:Nat}(hk:k≠i):(h.put i o).get k=h.get k:=by rw[H.get_put,if_neg hk]
theorem Bz (k:Nat):G.empty.h.get k=AObj.none:=by simp[G.empty,H.get,Tr.get_nil]
theorem yC:G.empty.nx=0:=rfl
theorem Ck (v:AV)(K:AV->G->Prop)(g:G)(D:ADf->Prop):(OR.val v).sat K g D=K v g:=rfl
theorem Cj (v:AV)(g':G)(K:AV->G->Prop)(g:G)(D:ADf->Prop):(OR.upd v g').sat K g D=K v g':=rfl
theorem zn (v:AV):orV (some v)=.val v:=rfl
theorem aB {x:Int}(h:-9223372036854775808<=x)(h':x<9223372036854775808):IntKind.wrap .i64 x=x:=by
 by_cases h0:x<0
 ·exact rx x h h0
 ·obtain ⟨n,rfl⟩:=Int.eq_ofNat_of_zero_le (show 0<=x by omega);exact j3 n (by omega)
theorem mU {x:Int}(h:0<=x)(h':x<18446744073709551616):IntKind.wrap .u64 x=x:=by simp only[IntKind.wrap,IntKind.bits,IntKind.signed,Bool.false_and,Bool.false_eq_true,if_false];exact Int.emod_eq_of_lt h h'
theorem IP {x:Int}(h:0<=x)(h':x<256):IntKind.wrap .u8 x=x:=by simp only[IntKind.wrap,IntKind.bits,IntKind.signed,Bool.false_and,Bool.false_eq_true,if_false];exact Int.emod_eq_of_lt h h'
theorem bp (k:IntKind):cg k k=true:=by cases k<;>rfl
theorem Bb (k:IntKind)(a b:Int):bD .add (.int k a) (.int k b)=.val (.int k (k.wrap (a+b))):=by simp only[bD,dY,bp,fd];rfl
theorem Bk (k:IntKind)(a b:Int):bD .sub (.int k a) (.int k b)=.val (.int k (k.wrap (a - b))):=by simp only[bD,dY,bp,fd];rfl
theorem Bh (k:IntKind)(a b:Int):bD .mul (.int k a) (.int k b)=.val (.int k (k.wrap (a*b))):=by simp only[bD,dY,bp,fd];rfl
theorem Bc (k:IntKind)(a b:Int):bD .eql (.int k a) (.int k b)=.val (.bool (decide (a=b))):=by simp only[bD,dY,bp,qM];rfl
theorem Bi (k:IntKind)(a b:Int):bD .neq (.int k a) (.int k b)=.val (.bool (!decide (a=b))):=by simp only[bD,dY,bp,qM,notb_eq];rfl
theorem Bg (k:IntKind)(a b:Int):bD .lss (.int k a) (.int k b)=.val (.bool (decide (a<b))):=by simp only[bD,dY,bp,jf];rfl
theorem Be (k:IntKind)(a b:Int):bD .gtr (.int k a) (.int k b)=.val (.bool (decide (b<a))):=by simp only[bD,dY,bp,jf];rfl
theorem Bf (k:IntKind)(a b:Int):bD .leq (.int k a) (.int k b)=.val (.bool (decide (a<=b))):=by
 simp only[bD,dY,bp,jf,notb_eq]
 by_cases h:b<a
 ·rw[decide_eq_true h,decide_eq_false (show ¬a<=b by omega)];rfl
 ·rw[decide_eq_false h,decide_eq_true (show a<=b by omega)];rfl
theorem Bd (k:IntKind)(a b:Int):bD .geq (.int k a) (.int k b)=.val (.bool (decide (b<=a))):=by
 simp only[bD,dY,bp,jf,notb_eq]
 by_cases h:a<b
 ·rw[decide_eq_true h,decide_eq_false (show ¬b<=a by omega)];rfl
 ·rw[decide_eq_false h,decide_eq_true (show b<=a by omega)];rfl
theorem Bj (k:IntKind){a b:Int}(ha:0<=a)(hb:0<b):bD .quo (.int k a) (.int k b)=.val (.int k (k.wrap (a / b))):=by obtain ⟨m,rfl⟩:=Int.eq_ofNat_of_zero_le ha;obtain ⟨n,rfl⟩:=Int.eq_ofNat_of_zero_le (show 0<=b by omega);obtain ⟨n,rfl⟩:∃j,n=j+1:=⟨n - 1,by omega⟩;simp only[bD,dY,bp];show orV (Hg k (.ofNat m) (.ofNat (n+1)))=_;simp only[Hg,fd];rfl
theorem cH (k:IntKind){a b:Int}(ha:0<=a)(hb:0<b):bD .rem (.int k a) (.int k b)=.val (.int k (a % b)):=by obtain ⟨m,rfl⟩:=Int.eq_ofNat_of_zero_le ha;obtain ⟨n,rfl⟩:=Int.eq_ofNat_of_zero_le (show 0<=b by omega);obtain ⟨n,rfl⟩:∃j,n=j+1:=⟨n - 1,by omega⟩;simp only[bD,dY,bp];show orV (Hl k (.ofNat m) (.ofNat (n+1)))=_;simp only[Hl];rfl
theorem Gx (k':IntKind)(m n:Nat):bD .shl (.int .u64 (m:Int)) (.int k' (n:Int))=.val (.int .u64 ((m*2 ^ n % 18446744073709551616:Nat):Int)):=by
 show orV (F2 .u64 (.ofNat m) (.ofNat n))=_;simp only[F2,IntKind.bits];show OR.val (.int .u64 (oS .u64 (.ofNat (m*2 ^ (Nat.min n 64)))))=_;simp only[oS];congr 2;show ((m*2 ^ (min n 64) % 18446744073709551616:Nat):Int)=_
 by_cases h:n<=64
 ·rw[Nat.min_eq_left h]
 ·rw[Nat.min_eq_right (by omega)];obtain ⟨j,rfl⟩:∃j,n=64+j:=⟨n - 64,by omega⟩;rw[Nat.pow_add,show (18446744073709551616:Nat)=2 ^ 64 from rfl,Nat.mul_mod_left,<-Nat.mul_assoc,Nat.mul_comm (m*2 ^ 64),<-Nat.mul_assoc,Nat.mul_mod_left]
theorem tf (k':IntKind)(m n:Nat)(h:m<18446744073709551616):bD .shr (.int .u64 (m:Int)) (.int k' (n:Int))=.val (.int .u64 ((m / 2 ^ n:Nat):Int)):=by
 show orV (F3 .u64 (.ofNat m) (.ofNat n))=_;simp only[F3,IntKind.bits];show OR.val (.int .u64 (.ofNat (m / 2 ^ (Nat.min n 64))))=_;congr 2;show ((m / 2 ^ (min n 64):Nat):Int)=_
 by_cases h2:n<=64
 ·rw[Nat.min_eq_left h2]
 ·rw[Nat.min_eq_right (by omega)];obtain ⟨j,rfl⟩:∃j,n=64+j:=⟨n - 64,by omega⟩;rw[Nat.pow_add,<-Nat.div_div_eq_div_mul,show (2 ^ 64:Nat)=18446744073709551616 from rfl,Nat.div_eq_of_lt h,Nat.zero_div]
theorem rU {m n:Nat}(h:m<18446744073709551616)(h':n<18446744073709551616):ji .u64 m n=true:=by simp only[ji,Bool.and_eq_true,Nat.blt_eq];exact ⟨h,h'⟩
theorem kW (m n:Nat)(h:m<18446744073709551616)(h':n<18446744073709551616):bD .or (.int .u64 (m:Int)) (.int .u64 (n:Int))=.val (.int .u64 ((m ||| n:Nat):Int)):=by show orV (an (ji .u64 m n) _ _)=_;rw[rU h h'];rfl
theorem te (m n:Nat)(h:m<18446744073709551616)(h':n<18446744073709551616):bD .and (.int .u64 (m:Int)) (.int .u64 (n:Int))=.val (.int .u64 ((m &&& n:Nat):Int)):=by show orV (an (ji .u64 m n) _ _)=_;rw[rU h h'];rfl
theorem z_ (m n:Nat)(h:m<18446744073709551616)(h':n<18446744073709551616):bD .andNot (.int .u64 (m:Int)) (.int .u64 (n:Int))=.val (.int .u64 ((m ^^^ (m &&& n):Nat):Int)):=by show orV (an (ji .u64 m n) _ _)=_;rw[rU h h'];rfl
theorem B_ {m n:Nat}(h:m<18446744073709551616)(h':n<18446744073709551616):m ||| n<18446744073709551616:=Nat.or_lt_two_pow (n:=64) h h'
theorem zh (b:Bool):Hb (.bool b)=.val (.bool (!b)):=by simp only[Hb,notb_eq]
theorem yw (k k':IntKind)(a:Int):Bv k (.int k' a)=.val (.int k (k.wrap a)):=by simp only[Bv,fd]
theorem FH (a b:AV):Cc (.bool true) a b=.val a:=rfl
theorem FG (a b:AV):Cc (.bool false) a b=.val b:=rfl
theorem Fq (k:IntKind)(a b:Int):mxV (.int k a) (.int k b)=.val (.int k (max a b)):=by
 simp only[mxV,bp,jf]
 by_cases h:a<b
 ·rw[decide_eq_true h,Int.max_eq_right (by omega)]
 ·rw[decide_eq_false h,Int.max_eq_left (by omega)]
theorem Fp (k:IntKind)(a b:Int):mnV (.int k a) (.int k b)=.val (.int k (min a b)):=by
 simp only[mnV,bp,jf]
 by_cases h:b<a
 ·rw[decide_eq_true h,Int.min_eq_right (by omega)]
 ·rw[decide_eq_false h,Int.min_eq_left (by omega)]
def eg (sz:Nat)(v:AV)(i off:Nat):AV :=
 match v with
 | .tsl l _ rows=>.tptr l sz rows i off
 | .hsl id ep o _ _=>.hptr id ep (o+i) off
 | _=>.undef
theorem Fd {g:G}{sz:Nat}{v:AV}{rows:List (List AV)}(h:ak g.h sz v=some rows):d8 .slice v g=.val (.int .i64 (rows.length:Int)):=by
 unfold ak at h
 split at h
 ·injection h with h;subst h;rfl
 ·injection h with h;subst h;rfl
 ·rw[aa] at h
  split at h
  ·injection h with h;subst h;simp only[d8,aw];rfl
  ·cases h
 ·split at h
  ·rw[aa] at h
   split at h
   ·rename_i hc;injection h with h;subst h;simp only[Bool.and_eq_true,Nat.ble_eq,aw] at hc;simp only[d8,aX,aW,List.length_take,List.length_drop];congr 3;rw[Nat.min_eq_left (by omega)]
   ·cases h
  ·cases h
 ·cases h
theorem dC {h:H}{sz:Nat}{v:AV}{rows:List (List AV)}(hv:ak h sz v=some rows)(g:G):d8 .slice v g=.val (.int .i64 (rows.length:Int)) :=
 (show d8 .slice v g=d8 .slice v ⟨h,0,[]⟩ from by cases v<;>rfl).trans (Fd (g:=⟨h,0,[]⟩) hv)
theorem EZ {g:G}{sz:Nat}{v:AV}{rows:List (List AV)}{k:IntKind}{i:Int}(h:ak g.h sz v=some rows)(h0:0<=i)(hi:i<rows.length) :
  ug sz v (.int k i) g=.val (eg sz v i.toNat 0):=by
 obtain ⟨n,rfl⟩:=Int.eq_ofNat_of_zero_le h0;have hi:n<rows.length:=by omega
 show ug sz v (.int k (.ofNat n)) g=.val (eg sz v n 0);unfold ak at h
 split at h
 ·injection h with h;subst h;simp at hi
 ·injection h with h;subst h;simp at hi
 ·rw[aa] at h
  split at h
  ·rename_i hc;injection h with h;subst h;rename_i sz' rows _;have:Nat.beq sz sz'=true:=by
    simp only[Bool.or_eq_true,List.isEmpty_iff] at hc;rcases hc with hc | hc
    ·exact hc
    ·rw[hc] at hi;simp at hi
   simp only[ug,eZ,this,aw,Bool.true_and,aa,Nat.blt_eq,if_pos hi,eg]
  ·cases h
 ·split at h
  ·rename_i sz' rows' ep' lo fz hg;rw[aa] at h
   split at h
   ·rename_i hc;injection h with h;subst h;simp only[Bool.and_eq_true] at hc;simp only[aX,aW,List.length_take,List.length_drop] at hi;simp only[ug,eZ,G.get_eq,hg,hc.1.1,hc.1.2,Bool.true_and,aa,Nat.blt_eq];rw[if_pos (by omega)];rfl
   ·cases h
  ·cases h
 ·cases h
theorem Di {g:G}{sz:Nat}{v:AV}{rows:List (List AV)}{row:List AV}{i off n:Nat}{ag:Bool}(h:ak g.h sz v=some rows)(hr:rows[i]?=some row) :
  nA ag n (eg sz v i off) g=orV (bC ag n row off):=by
 unfold ak at h
 split at h
 ·injection h with h;subst h;simp at hr
 ·injection h with h;subst h;simp at hr
 ·rw[aa] at h
  split at h
  ·injection h with h;subst h;simp only[nA,jO,eg,cX,hr]
  ·cases h
 ·split at h
  ·rename_i sz' rows' ep' lo fz hg;rw[aa] at h
   split at h
   ·rename_i hc;injection h with h;subst h;simp only[Bool.and_eq_true] at hc;simp only[aX,aW,List.getElem?_take,List.getElem?_drop] at hr
    split at hr
    ·simp only[nA,jO,eg,G.get_eq,hg,hc.1.1,cX,hr]
    ·cases hr
   ·cases h
  ·cases h
 ·cases h
theorem yK (fo id ep i off:Nat):Al fo (.hptr id ep i off)=.val (.hptr id ep i (off+fo)):=rfl
theorem zo {n:Nat}{row:List AV}{off:Nat}:bC false n row off=row[off]?:=by simp only[bC,cX]
theorem FF {n:Nat}{row:List AV}{off:Nat}(h:off+n<=row.length):bC true n row off=some (.agg ((row.drop off).take n)):=by simp only[bC,aX,aW,aw,List.length_take,List.length_drop,aa];rw[if_pos];rw[Nat.min_eq_left (by omega)];exact Nat.beq_refl n
theorem uP {g:G}{id ep sz i off n:Nat}{rows:List (List AV)}{lo:Bool}{row cs row':List AV}{x:AV}(hg:g.h.get id=.cells sz rows ep lo false)(hr:rows[i]?=some row)
  (hc:x.cells=cs) (ht:x.isTup=false) (hl:cs.length=n) (hp:bB row off cs=some row') :
  jY n (.hptr id ep i off) x g=.upd .undef (g.put id (.cells sz (rows.set i row') ep lo false)):=by
 subst hc;simp only[jY,lG,G.get_eq,hg,cX,hr,show Nat.beq ep ep=true from Nat.beq_refl ep,aw,hl,show Nat.beq n n=true from Nat.beq_refl n,ht,notb_eq,Bool.not_false,Bool.and_self,hp,gE]
def tg (o:AObj)(ep off len sz:Nat):Option (List (List AV)) :=
 match o with
 | .cells sz' rows ep' _ _=>an (Nat.beq ep ep'&&Nat.beq sz sz'&&Nat.ble (off+len) (a7 rows)) (some (fZ len (eV off rows))) none
 | _=>none
theorem sG (h:H)(sz:Nat):ak h sz .nils=some []:=rfl
theorem jT (h:H)(sz t:Nat)(rows:List (List AV)):ak h sz (.tsl t sz rows)=some rows:=by simp only[ak,show Nat.beq sz sz=true from Nat.beq_refl sz,Bool.true_or]
theorem dx (h:H)(sz id ep off len:Nat)(lim:Option Nat):ak h sz (.hsl id ep off len lim)=tg (h.get id) ep off len sz:=rfl
theorem bV (sz:Nat)(rows:List (List AV))(ep:Nat)(lo fz:Bool)(off len:Nat) :
  tg (.cells sz rows ep lo fz) ep off len sz=if off+len<=rows.length then some ((rows.drop off).take len) else none:=by
 simp only[tg,show Nat.beq sz sz=true from Nat.beq_refl sz,show Nat.beq ep ep=true from Nat.beq_refl ep,Bool.true_and,aa,Nat.ble_eq,aw,aX,aW]
theorem sw (sz:Nat)(rows:List (List AV))(ep:Nat)(lo fz:Bool):tg (.cells sz rows ep lo fz) ep 0 rows.length sz=some rows:=by rw[bV,if_pos (by omega)];simp
def bm (o:AObj)(ep i:Nat)(ag:Bool)(n off:Nat):OR :=
 match o with
 | .cells _ rows ep' _ _=>an (Nat.beq ep ep') (match rows[i]? with | some row=>orV (bC ag n row off) | none=>.fail) .fail
 | _=>.fail
theorem uk (g:G)(id ep i off n:Nat)(ag:Bool):nA ag n (.hptr id ep i off) g=bm (g.h.get id) ep i ag n off:=by
 simp only[nA,jO,G.get_eq,bm,cX]
 rfl
theorem oB (sz:Nat)(rows:List (List AV))(ep:Nat)(lo fz:Bool)(i n off:Nat)(ag:Bool) :
  bm (.cells sz rows ep lo fz) ep i ag n off=match rows[i]? with | some row=>orV (bC ag n row off) | none=>.fail:=by
 simp only[bm,show Nat.beq ep ep=true from Nat.beq_refl ep]
def jm (o:AObj)(g:G)(id ep i n off:Nat)(x:AV):OR :=
 match o with
 | .cells sz rows ep' lo fz=>an (Nat.beq ep ep'&&Nat.beq x.cells.length n&&iC fz&&iC x.isTup) (match rows[i]? with
   | some row=>match bB row off x.cells with
    | some row'=>.upd .undef (g.put id (.cells sz (rows.set i row') ep lo fz))
    | none=>.fail
   | none=>.fail) .fail
 | _=>.fail
theorem sM (g:G)(id ep i off n:Nat)(x:AV):jY n (.hptr id ep i off) x g=jm (g.h.get id) g id ep i n off x:=by
 simp only[jY,lG,G.get_eq,jm,cX,aw,gE]
 rfl
theorem nz (sz:Nat)(rows:List (List AV))(ep:Nat)(lo:Bool)(g:G)(id i n off:Nat)(x:AV)(hl:x.cells.length=n)(ht:x.isTup=false) :
  jm (.cells sz rows ep lo false) g id ep i n off x=match rows[i]? with
   | some row=>match bB row off x.cells with
    | some row'=>.upd .undef (g.put id (.cells sz (rows.set i row') ep lo false))
    | none=>.fail
   | none=>.fail:=by
 simp only[jm,show Nat.beq ep ep=true from Nat.beq_refl ep,hl,show Nat.beq n n=true from Nat.beq_refl n,ht,notb_eq,Bool.not_false,Bool.and_self]
theorem wE {g:G}{sz:Nat}{v:AV}{i off n:Nat}{ag:Bool}(h:(ak g.h sz v).isSome=true)(hi:i<((ak g.h sz v).getD []).length) :
  nA ag n (eg sz v i off) g=orV (bC ag n (((ak g.h sz v).getD [])[i]?.getD []) off):=by
 obtain ⟨rows,hr⟩:=Option.isSome_iff_exists.1 h;rw[hr] at hi ⊢;simp only[Option.getD_some] at hi ⊢;rw[Di hr (List.getElem?_eq_getElem hi),List.getElem?_eq_getElem hi,Option.getD_some]
theorem yZ {g:G}{sz:Nat}{v:AV}{k:IntKind}{i:Int}(h:(ak g.h sz v).isSome=true)(h0:0<=i)(hi:i<((ak g.h sz v).getD []).length) :
  ug sz v (.int k i) g=.val (eg sz v i.toNat 0):=by
 obtain ⟨rows,hr⟩:=Option.isSome_iff_exists.1 h;rw[hr] at hi;exact EZ hr h0 hi
theorem th {g:G}{sz:Nat}{v:AV}{k:IntKind}{i:Nat}(h:(ak g.h sz v).isSome=true)(hi:i<((ak g.h sz v).getD []).length) :
  ug sz v (.int k (i:Int)) g=.val (eg sz v i 0):=yZ h (Int.natCast_nonneg i) (by omega)
def jU:AV->Bool
 | .tsl .. | .hsl ..=>true
 | _=>false
theorem bi {sz:Nat}{v:AV}{i off fo:Nat}(h:jU v=true):Al fo (eg sz v i off)=.val (eg sz v i (off+fo)):=by cases v<;>first | rfl | cases h
theorem q9 {h:H}{sz:Nat}{v:AV}{rows:List (List AV)}{i:Nat}(hv:ak h sz v=some rows)(hi:i<rows.length):jU v=true:=by
 unfold ak at hv
 split at hv
 ·injection hv with h;subst h;simp at hi
 ·injection hv with h;subst h;simp at hi
 ·rfl
 ·rfl
 ·cases hv
def lB (h:H)(v:AV):List Int:=((ak h 1 v).getD []).map λr=>match r with | [.int _ x]=>x | _=>0
def ud (h:H)(v:AV):Prop:=ak h 1 v=some ((lB h v).map ci)
theorem ET (l:List Int):(l.map ci).map (λr=>match r with | [.int _ x]=>x | _=>0)=l:=by
 induction l with
 | nil=>rfl
 | cons a l ih=>simp only[List.map_cons,ih,ci]
theorem BK {h:H}{v:AV}{l:List Int}(hv:ak h 1 v=some (l.map ci)):lB h v=l:=by simp only[lB,hv,Option.getD_some,ET]
theorem Dd {h:H}{v:AV}{l:List Int}(hv:ak h 1 v=some (l.map ci)):ud h v:=by unfold ud;rw[BK hv,hv]
theorem H3 {α:Type}(a:α)(l:List α):(a::l)[0]?=some a:=rfl
theorem H4 {α:Type}(a b:α)(l:List α):(a::b::l)[1]?=some b:=rfl
theorem H5 {α:Type}(a b c:α)(l:List α):(a::b::c::l)[2]?=some c:=rfl
theorem H6 {α:Type}(a b c e:α)(l:List α):(a::b::c::e::l)[3]?=some e:=rfl
theorem H7 {α:Type}(a b c e p:α)(l:List α):(a::b::c::e::p::l)[4]?=some p:=rfl
theorem H8 {α:Type}(a b c e p q:α)(l:List α):(a::b::c::e::p::q::l)[5]?=some q:=rfl
theorem H9 {α:Type}(a b c e p q r:α)(l:List α):(a::b::c::e::p::q::r::l)[6]?=some r:=rfl
theorem H_ {α:Type}(a b c e p q r s:α)(l:List α):(a::b::c::e::p::q::r::s::l)[7]?=some s:=rfl
theorem Ia {α:Type}(a b c e p q r s u:α)(l:List α):(a::b::c::e::p::q::r::s::u::l)[8]?=some u:=rfl
@[reducible] def o (d:Nat) (op:SO):SI:=⟨some d,none,op⟩
@[reducible] def oz (op:SO):SI:=⟨none,none,op⟩
@[reducible] def og (d s:Nat) (w:Bool) (op:SO):SI:=⟨some d,some (s,w),op⟩
@[reducible] def ozg (s:Nat) (w:Bool) (op:SO):SI:=⟨none,some (s,w),op⟩
section steps
variable {C:Cfg}{d:Nat}{rd:Option Nat}
theorem ya (Q:QT)(t:T)(df:List ADf)(g:G):wp C d rd .skip Q t df g=Q .norm t df g:=rfl
theorem x_ (l:List SI)(Q:QT)(t:T)(df:List ADf)(g:G):wp C d rd (.ops l) Q t df g=wpO C d rd l (Q .norm) t df g:=rfl
theorem zV (l:List SI)(Q:QT)(t:T)(df:List ADf)(g:G):wp C d rd (.quiet l) Q t df g=wpO C d rd l (kQ g Q) t df (aG g []):=rfl
theorem CA (pm:List Nat)(l:List SI)(Q:QT)(t:T)(df:List ADf)(g:G):wp C d rd (.feet pm l) Q t df g=wpF C d rd pm l (Q .norm) t df g []:=rfl
theorem iY (a b:SC)(Q:QT)(t:T)(df:List ADf)(g:G):wp C d rd (.seq a b) Q t df g=wp C d rd a (kS (wp C d rd b Q) Q) t df g:=rfl
theorem Cy (c:Od)(a b:SC)(Q:QT)(t:T)(df:List ADf)(g:G):wp C d rd (.cond c a b) Q t df g=wpC (c.get t) (wp C d rd a Q) (wp C d rd b Q) t df g:=rfl
theorem Gn (id:Nat)(b:SC)(Q:QT)(t:T)(df:List ADf)(g:G):wp C d rd (.blk id b) Q t df g=wp C d rd b (kB id Q) t df g:=rfl
theorem CB (b:SC)(Q:QT)(t:T)(df:List ADf)(g:G):wp C d rd (.loop b) Q t df g=wpL (wp C d rd b) Q t df g:=rfl
theorem Cz (id:Nat)(Q:QT)(t:T)(df:List ADf)(g:G):wp C d rd (.exit id) Q t df g=Q (.exit id) t df g:=rfl
theorem Gp (Q:QT)(t:T)(df:List ADf)(g:G):wp C d rd .ret Q t df g=Q .ret t df g:=rfl
theorem HZ (g0:G)(Q:QT)(t:T)(df:List ADf)(g:G):kQ g0 Q t df g=(g.lg=[]/\g.nx=g0.nx/\Q .norm t df g0):=rfl
theorem Cw (Q:PT)(t:T)(df:List ADf)(g:G):wpO C d rd [] Q t df g=Q t df g:=rfl
theorem Id (n:Nat)(op:SO)(r:List SI)(Q:PT)(t:T)(df:List ADf)(g:G) :
  wpO C d rd (o n op::r) Q t df g=(op.run C d rd t g).sat (kO (wpO C d rd r Q) (some n) t df) g (kD (wpO C d rd r Q) (some n) t df g):=rfl
theorem Gl (op:SO)(r:List SI)(Q:PT)(t:T)(df:List ADf)(g:G) :
  wpO C d rd (oz op::r) Q t df g=(op.run C d rd t g).sat (kO (wpO C d rd r Q) none t df) g (kD (wpO C d rd r Q) none t df g):=rfl
theorem Gj (n s:Nat)(w:Bool)(op:SO)(r:List SI)(Q:PT)(t:T)(df:List ADf)(g:G) :
  wpO C d rd (og n s w op::r) Q t df g=gdP (tat t s) w (zF C d rd (o n op) (wpO C d rd r Q)) (uK (o n op) (wpO C d rd r Q)) t df g:=rfl
theorem Cx (s:Nat)(w:Bool)(op:SO)(r:List SI)(Q:PT)(t:T)(df:List ADf)(g:G) :
  wpO C d rd (ozg s w op::r) Q t df g=gdP (tat t s) w (zF C d rd (oz op) (wpO C d rd r Q)) (uK (oz op) (wpO C d rd r Q)) t df g:=rfl
theorem F0 (n:Nat)(op:SO)(W:PT)(t:T)(df:List ADf)(g:G):zF C d rd (o n op) W t df g=(op.run C d rd t g).sat (kO W (some n) t df) g (kD W (some n) t df g):=rfl
theorem Ch (op:SO)(W:PT)(t:T)(df:List ADf)(g:G):zF C d rd (oz op) W t df g=(op.run C d rd t g).sat (kO W none t df) g (kD W none t df g):=rfl
theorem Cq (n:Nat)(op:SO)(W:PT)(t:T)(df:List ADf)(g:G):uK (o n op) W t df g=W (eG t n .undef) df g:=rfl
theorem zJ (op:SO)(W:PT)(t:T)(df:List ADf)(g:G):uK (oz op) W t df g=W t df g:=rfl
theorem BY (W:PT)(n:Nat)(t:T)(df:List ADf)(v:AV)(g:G):kO W (some n) t df v g=W (eG t n v) df g:=rfl
theorem BX (W:PT)(t:T)(df:List ADf)(v:AV)(g:G):kO W none t df v g=W t df g:=rfl
theorem HV (q:Bool)(A B:PT)(t:T)(df:List ADf)(g:G):gdP (.bool q) true A B t df g=rD q A B t df g:=rfl
theorem HU (q:Bool)(A B:PT)(t:T)(df:List ADf)(g:G):gdP (.bool q) false A B t df g=rD q B A t df g:=rfl
theorem wm (w:Bool)(A B:PT)(t:T)(df:List ADf)(g:G):gdP (.tup []) w A B t df g=B t df g:=rfl
theorem vR (A B:PT)(t:T)(df:List ADf)(g:G):rD true A B t df g=A t df g:=by simp[rD]
theorem tB (A B:PT)(t:T)(df:List ADf)(g:G):rD false A B t df g=B t df g:=by simp[rD]
theorem zU (q:Bool)(A B:PT)(t:T)(df:List ADf)(g:G):wpC (.bool q) A B t df g=rD q A B t df g:=rfl
theorem qP (W:PT)(Q:QT)(t:T)(df:List ADf)(g:G):kS W Q .norm t df g=W t df g:=rfl
theorem BZ (W:PT)(Q:QT)(id:Nat)(t:T)(df:List ADf)(g:G):kS W Q (.exit id) t df g=Q (.exit id) t df g:=rfl
theorem Fa (W:PT)(Q:QT)(t:T)(df:List ADf)(g:G):kS W Q .ret t df g=Q .ret t df g:=rfl
theorem xB (id:Nat)(Q:QT)(t:T)(df:List ADf)(g:G):kB id Q .norm t df g=Q .norm t df g:=rfl
theorem E8 (id:Nat)(Q:QT)(t:T)(df:List ADf)(g:G):kB id Q .ret t df g=Q .ret t df g:=rfl
theorem GT (id:Nat)(Q:QT)(t:T)(df:List ADf)(g:G):kB id Q (.exit id) t df g=Q .norm t df g:=by simp[kB]
theorem E7 (id j:Nat)(Q:QT)(t:T)(df:List ADf)(g:G)(h:j≠id):kB id Q (.exit j) t df g=Q (.exit j) t df g:=by simp only[kB];rw[aa,if_neg (λe=>h (Nat.eq_of_beq_eq_true e))]
theorem o8 (id j:Nat)(Q:QT)(t:T)(df:List ADf)(g:G):kB id Q (.exit j) t df g=if j=id then Q .norm t df g else Q (.exit j) t df g:=by
 by_cases h:j=id
 ·subst h;rw[GT,if_pos rfl]
 ·rw[E7 _ _ _ _ _ _ h,if_neg h]
theorem BV (Inv:Nat->PT)(k:Nat)(Q:QT)(t:T)(df:List ADf)(g:G):kL Inv k Q .norm t df g=∃k',k'<k/\Inv k' t df g:=rfl
theorem BU (Inv:Nat->PT)(k:Nat)(Q:QT)(id:Nat)(t:T)(df:List ADf)(g:G):kL Inv k Q (.exit id) t df g=Q (.exit id) t df g:=rfl
theorem E9 (Inv:Nat->PT)(k:Nat)(Q:QT)(t:T)(df:List ADf)(g:G):kL Inv k Q .ret t df g=Q .ret t df g:=rfl
theorem a9 {q:Bool}{A B:PT}{t:T}{df:List ADf}{g:G}(h1:q=true->A t df g)(h2:q=false->B t df g):rD q A B t df g:=⟨h1,h2⟩
theorem yM (r:List SR)(K:AV->G->Prop)(t:T)(df:List ADf)(g:G):fnQ C d r K .norm t df g=yD C d r t df g K:=rfl
theorem BC (r:List SR)(K:AV->G->Prop)(t:T)(df:List ADf)(g:G):fnQ C d r K .ret t df g=yD C d r t df g K:=rfl
theorem yE (r:List SR)(K:AV->G->Prop)(t:T)(g:G):yD C d r t [] g K=tc r t g λvs=>K (iD vs) g:=rfl
theorem zC (t:T)(g:G)(K:List AV->Prop):tc [] t g K=K []:=rfl
theorem Ce (n:Nat)(r:List SR)(t:T)(g:G)(K:List AV->Prop):tc (.tm n::r) t g K=tc r t g λvs=>K (tat t n::vs):=rfl
theorem qV (v:AV):iD [v]=v:=rfl
theorem r_ {W:QT->PT}{Q:QT}{t:T}{df:List ADf}{g:G}(Inv:Nat->PT)(k:Nat)(h0:Inv k t df g)(h:∀k t df g,Inv k t df g->W (kL Inv k Q) t df g):wpL W Q t df g:=⟨Inv,⟨k,h0⟩,h⟩
end steps
end
end Hx
end
section
namespace Hx
open Go
noncomputable section
theorem sx:type_of% (And.intro @Cw <| And.intro @Id <| And.intro @Gl <| And.intro @Gj <| And.intro @Cx <| And.intro @F0 <| And.intro @Ch <| And.intro @Cq <| And.intro @zJ <|
 And.intro @BY <| And.intro @BX <| And.intro @HV <| And.intro @HU <| And.intro @wm <| And.intro @vR <| And.intro @tB <| And.intro @zU <| And.intro @qP <| And.intro @BZ <| And.intro @Fa <|
 And.intro @xB <| And.intro @E8 <| And.intro @o8 <| And.intro @BV <| And.intro @BU <| And.intro @E9 <| And.intro @yM <| And.intro @BC <| And.intro @yE <| And.intro @zC <| And.intro @Ce <|
 And.intro @qV <| And.intro @jZ <| And.intro @zi <| And.intro @zk <| And.intro @zl <| And.intro @zm <| And.intro @ya <| And.intro @x_ <| And.intro @zV <| And.intro @CA <| And.intro @iY <| And.intro @Cy <| And.intro @Gn <| And.intro @CB <| And.intro @Cz <| And.intro @Gp <| And.intro @uw <| And.intro @Cu <| And.intro @HX <| And.intro @HW <| And.intro @yR <| And.intro @wo <| And.intro @Ck <| And.intro @Cj <| And.intro @zn <|
 And.intro @Bb <| And.intro @Bk <| And.intro @Bh <| And.intro @Bc <| And.intro @Bi <| And.intro @Bg <| And.intro @Be <| And.intro @Bf <| And.intro @Bd <| And.intro @zh <| And.intro @yw <| And.intro @FH <| And.intro @FG <|
 And.intro @Fq <| And.intro @Fp <| And.intro @yK <| And.intro @uk <| And.intro @oB <| And.intro @sM <| And.intro @zo <| And.intro @wE <| And.intro @bi <| And.intro @th <|
 And.intro @H3 <| And.intro @H4 <| And.intro @H5 <| And.intro @H6 <| And.intro @H7 <| And.intro @H8 <| And.intro @H9 <| And.intro @H_ <| And.intro @Ia <| And.intro @G.put_h <| And.intro @G.put_nx <| And.intro @G.new_h <| And.intro @G.new_nx <| And.intro @bh <| And.intro @yC <| @Bz) :=
 And.intro @Cw <| And.intro @Id <| And.intro @Gl <| And.intro @Gj <| And.intro @Cx <| And.intro @F0 <| And.intro @Ch <| And.intro @Cq <| And.intro @zJ <|
 And.intro @BY <| And.intro @BX <| And.intro @HV <| And.intro @HU <| And.intro @wm <| And.intro @vR <| And.intro @tB <| And.intro @zU <| And.intro @qP <| And.intro @BZ <| And.intro @Fa <|
 And.intro @xB <| And.intro @E8 <| And.intro @o8 <| And.intro @BV <| And.intro @BU <| And.intro @E9 <| And.intro @yM <| And.intro @BC <| And.intro @yE <| And.intro @zC <| And.intro @Ce <|
 And.intro @qV <| And.intro @jZ <| And.intro @zi <| And.intro @zk <| And.intro @zl <| And.intro @zm <| And.intro @ya <| And.intro @x_ <| And.intro @zV <| And.intro @CA <| And.intro @iY <| And.intro @Cy <| And.intro @Gn <| And.intro @CB <| And.intro @Cz <| And.intro @Gp <| And.intro @uw <| And.intro @Cu <| And.intro @HX <| And.intro @HW <| And.intro @yR <| And.intro @wo <| And.intro @Ck <| And.intro @Cj <| And.intro @zn <|
 And.intro @Bb <| And.intro @Bk <| And.intro @Bh <| And.intro @Bc <| And.intro @Bi <| And.intro @Bg <| And.intro @Be <| And.intro @Bf <| And.intro @Bd <| And.intro @zh <| And.intro @yw <| And.intro @FH <| And.intro @FG <|
 And.intro @Fq <| And.intro @Fp <| And.intro @yK <| And.intro @uk <| And.intro @oB <| And.intro @sM <| And.intro @zo <| And.intro @wE <| And.intro @bi <| And.intro @th <|
 And.intro @H3 <| And.intro @H4 <| And.intro @H5 <| And.intro @H6 <| And.intro @H7 <| And.intro @H8 <| And.intro @H9 <| And.intro @H_ <| And.intro @Ia <| And.intro @G.put_h <| And.intro @G.put_nx <| And.intro @G.new_h <| And.intro @G.new_nx <| And.intro @bh <| And.intro @yC <| @Bz
def St (t:T):List (Nat×AV)->Prop
 | []=>True
 | (n,v)::r=>tat t n=v/\St t r
abbrev VS:=(Nat->Prop)->Nat->H->AV->Prop
def One {α:Type} [Rp α](x:α):VS:=λP k h v=>Rp.rp P k h x [v]
def Agg {α:Type} [Rp α](x:α):VS:=λP k h v=>∃cs,v=.agg cs/\Rp.rp P k h x cs
def CF (S R:VS):VS:=λP k h v=>∃a b,v=.tup [a,b]/\S P k h a/\R P k h b
structure Snb (S:VS) (j:Nat):Prop where
 snap:∀{P k h v n} (d:Nat),S P k h v->20+j<=n->∃v',Hx.snap h d n v=some v'/\S NoP (max k d) .nil v'
 tag:∀{k h v n},S NoP k h v->20+j<=n->∃m,eh n v=some m/\m<=k
theorem bL {α:Type} [Rp α](x:α)(hd:Rp.dp α<=20:=by decide):Snb (One x) 0:=by
 refine ⟨λ{P k h v n} d r hn=>?_,λ{k h v n} r hn=>?_⟩
 ·obtain ⟨cs',e,r'⟩:=Rp.snap (n:=n) d r (by omega) (by show _<=24;omega);simp only[aJ] at e
  split at e
  ·rename_i w hw;injection e with e;subst e;exact ⟨w,hw,r'⟩
  ·cases e
 ·obtain ⟨m,e,l⟩:=Rp.tag (n:=n) r (by omega);simp only[gH] at e
  split at e
  ·rename_i w hw;injection e with e;subst e;exact ⟨w,hw,by have:Nat.max w 0=w:=Nat.max_eq_left (Nat.zero_le w);omega⟩
  ·cases e
theorem gF {α:Type} [Rp α](x:α)(hd:Rp.dp α<=20:=by decide):Snb (Agg x) 1:=by
 refine ⟨λ{P k h v n} d r hn=>?_,λ{k h v n} r hn=>?_⟩
 ·obtain ⟨cs,rfl,r⟩:=r;obtain ⟨n,rfl⟩:∃m,n=m+1:=⟨n - 1,by omega⟩;obtain ⟨cs',e,r'⟩:=Rp.snap (n:=n) d r (by omega) (by show _<=24;omega);exact ⟨.agg cs',by simp only[Hx.snap,e],cs',rfl,r'⟩
 ·obtain ⟨cs,rfl,r⟩:=r;obtain ⟨n,rfl⟩:∃m,n=m+1:=⟨n - 1,by omega⟩;obtain ⟨m,e,l⟩:=Rp.tag (n:=n) r (by omega);exact ⟨m,by simp only[eh,e],l⟩
theorem rh {S R:VS}{i j m:Nat}(hs:Snb S i)(hr:Snb R j)(hi:i+1<=m)(hj:j+1<=m):Snb (CF S R) m:=by
 refine ⟨λ{P k h v n} d r hn=>?_,λ{k h v n} r hn=>?_⟩
 ·obtain ⟨a,b,rfl,r1,r2⟩:=r;obtain ⟨n,rfl⟩:∃m,n=m+1:=⟨n - 1,by omega⟩;obtain ⟨a',e1,r1'⟩:=hs.snap (n:=n) d r1 (by omega);obtain ⟨b',e2,r2'⟩:=hr.snap (n:=n) d r2 (by omega);exact ⟨.tup [a',b'],by simp only[Hx.snap,aJ,e1,e2],a',b',rfl,r1',r2'⟩
 ·obtain ⟨a,b,rfl,r1,r2⟩:=r;obtain ⟨n,rfl⟩:∃m,n=m+1:=⟨n - 1,by omega⟩;obtain ⟨m1,e1,l1⟩:=hs.tag (n:=n) r1 (by omega);obtain ⟨m2,e2,l2⟩:=hr.tag (n:=n) r2 (by omega);refine ⟨max m1 m2,?_,by omega⟩;simp only[eh,gH,e1,e2];congr 1;show max m1 (max m2 0)=_;omega
def Arg (S:VS)(k d:Nat)(h:H)(v v':AV):Prop:=Hx.snap h d aF v=some v'/\S NoP k .nil v'
theorem nL {S:VS}{j:Nat}(hs:Snb S j)(hj:j<=4){P:Nat->Prop}{k:Nat}{h:H}{v:AV}(d:Nat)(r:S P k h v):∃v',Arg S (max k d) d h v v':=by obtain ⟨v',e,r'⟩:=hs.snap (n:=aF) d r (by show _<=24;omega);exact ⟨v',e,r'⟩
theorem js {α:Type} [Rp α]{x:α}{k:Nat}{h:H}{v:AV}(d:Nat)(r:Agg x NoP k h v)(hd:Rp.dp α<=20:=by decide):Hx.snap h d aF v=some v:=by obtain ⟨cs,rfl,r⟩:=r;show (match aJ (Hx.snap h d 23) cs with | some as=>some (AV.agg as) | none=>none)=_;rw[Rp.same (n:=23) d r (by omega)]
theorem Hv {α:Type} [Rp α]{l:List α}{k:Nat}{h:H}{v:AV}(d:Nat)(r:SlR NoP k h l v):Hx.snap h d aF v=some v:=by
 have r:=r.2;unfold SlV at r
 split at r<;>first | rfl | exact r.1.elim | exact r.elim
theorem gc (k d:Nat)(h:H)(q:IntKind)(x:Int):Hx.snap h d aF (.int q x)=some (.int q x):=rfl
theorem D1 {h:H}{v:AV}(hv:ud h v)(hl:(lB h v).length<9223372036854775808)(d:Nat) :
  ∃v',Hx.snap h d aF v=some v'/\(∀h',ak h' 1 v'=some ((lB h v).map ci))/\∀g,d8 .slice v' g=.val (.int .i64 ((lB h v).length:Int)):=by
 suffices hs:∃v',Hx.snap h d aF v=some v'/\(∀h',ak h' 1 v'=some ((lB h v).map ci)) by obtain ⟨v',e,hr⟩:=hs;exact ⟨v',e,hr,λg=>by rw[dC (hr .nil),List.length_map]⟩
 obtain ⟨k,r⟩:∃k,SlV (λ_=>True) k h (lB h v) v:=by
  have e:=hv;unfold ud at e;have all:∀P k h',All2 (Rp.rp P k h') (lB h v) ((lB h v).map ci):=λP k h'=>All2.of_map (λa=>bj.2 rfl) _;cases v with
  | nils=>exact ⟨0,by simp only[ak] at e;injection e with e;exact (List.map_eq_nil_iff.1 e.symm)⟩
  | esl=>exact ⟨0,by simp only[ak] at e;injection e with e;exact (List.map_eq_nil_iff.1 e.symm)⟩
  | tsl t s rows =>
   refine ⟨t,Nat.le_refl t,?_,?_⟩
   ·simp only[ak,aa] at e
    split at e
    ·rename_i hc;rw[Bool.or_eq_true] at hc;rcases hc with hc | hc
     ·exact .inl (Nat.eq_of_beq_eq_true hc).symm
     ·exact .inr (List.isEmpty_iff.1 hc)
    ·cases e
   ·simp only[ak,aa] at e
    split at e
    ·injection e with e;exact cast (congrArg _ e.symm) (all NoP t .nil)
    ·cases e
  | hsl id ep off len lim=>exact ⟨0,trivial,_,e,all _ _ _⟩
  | _=>simp[ak] at e
 obtain ⟨v',e,r'⟩:=(bL (lB h v)).snap (n:=aF) d (show One (lB h v) _ k h v from ⟨v,rfl,hl,r⟩) (by decide);refine ⟨v',e,λh'=>?_⟩;obtain ⟨w,hw,r'⟩:=r';injection hw with hw;subst hw;have:SlR (λ_=>True) (max k d) h' (lB h v) v':=by have:=(Rp.mono (P':=λ_=>True) (k':=max k d) (h':=h') (show Rp.rp NoP (max k d) .nil (lB h v) [v'] from ⟨v',rfl,r'⟩) (λi hi=>hi.elim) (Nat.le_refl _));obtain ⟨w,hw,q⟩:=this;injection hw with hw;subst hw;exact q
 exact this.ints
abbrev IT (k:Nat)(l:List Int)(r:AV):Prop:=One l NoP k .nil r
theorem IT.sl {k:Nat}{l:List Int}{r:AV}(h:IT k l r)(h':H):SlR NoP k h' l r:=by obtain ⟨w,hw,q⟩:=Rp.tree (P:=NoP) (k':=k) (h':=h') h (Nat.le_refl _);injection hw with hw;subst hw;exact q
theorem SlR.cell {α:Type} [Rp α]{P:Nat->Prop}{k:Nat}{h:H}{l:List α}{v:AV}(r:SlR P k h l v):v.cells=[v]/\v.isTup=false:=by
 have r:=r.2;unfold SlV at r
 split at r<;>first | exact ⟨rfl,rfl⟩ | exact r.elim
section iso
variable {C:Cfg}{f d:Nat}{s:SF}{g:G}{args xs:List AV}
theorem bK (hf:nFn C f=some s)(hs:aJ (snap g.h d aF) args=some xs)(hl:xs.length<=s.nt){R:VS}{j:Nat}(hR:Snb R j)(hj:j<=4){k':Nat}(hk:k'<d)
  (h:wp C (d+1) none s.code (fnQ C (d+1) s.res λv g'=>∃P,R P k' g'.h v) (ch 0 xs .nil) [] G.empty):∃r,am (I C) d g f args=.val r/\R NoP k' .nil r:=by
 have h:=oY hf hl h;unfold am;rw[hs];dsimp only;cases hc:(I C).call (Nat.succ d) f xs G.empty with
 | fail=>rw[show (I C).call (d+1) f xs G.empty=.fail from hc] at h;exact h.elim
 | ok v g' =>
  rw[show (I C).call (d+1) f xs G.empty=.ok v g' from hc] at h;obtain ⟨P,h⟩:=h;obtain ⟨r,e,hr⟩:=hR.snap (n:=aF) 0 h (by show _<=24;omega);rw[Nat.max_eq_left (Nat.zero_le k')] at hr;obtain ⟨m,em,lm⟩:=hR.tag (n:=aF) hr (by show _<=24;omega);refine ⟨r,?_,hr⟩;simp only[e,em,aa,Nat.blt_eq];rw[if_pos (by omega)]
theorem mw (hf:nFn C f=some s)(hl:xs.length<=s.nt){K:AV->G->Prop}{D:ADf->Prop}(h:wp C d none s.code (fnQ C d s.res K) (ch 0 xs .nil) [] g):(orF ((I C).call d f xs g)).sat K g D:=by
 have h:=oY hf hl h;cases hc:(I C).call d f xs g with
 | fail=>rw[hc] at h;exact h.elim
 | ok v g'=>rw[hc] at h;exact h
theorem o4 (hf:nFn C f=some s)(hs:aJ (snap g.h d aF) args=some xs)(hl:xs.length<=s.nt){q:IntKind}{x:Int}(hk:0<d)
  (h:wp C (d+1) none s.code (fnQ C (d+1) s.res λv _=>v=.int q x) (ch 0 xs .nil) [] G.empty):am (I C) d g f args=.val (.int q x):=by
 have h:=oY hf hl h;unfold am;rw[hs];dsimp only;cases hc:(I C).call (Nat.succ d) f xs G.empty with
 | fail=>rw[show (I C).call (d+1) f xs G.empty=.fail from hc] at h;exact h.elim
 | ok v g' =>
  rw[show (I C).call (d+1) f xs G.empty=.ok v g' from hc] at h;have h:v=.int q x:=h;subst h;show (match eh aF (.int q x) with | none=>OR.fail | some m=>an (Nat.blt m d) (.val (.int q x)) _)=_;rw[show eh aF (.int q x)=some 0 from rfl];simp only[aa,Nat.blt_eq];rw[if_pos hk]
theorem e6 (hf:nFn C f=some s)(hs:aJ (snap g.h d aF) args=some xs)(hl:xs.length<=s.nt){x:Bool}(hk:0<d)
  (h:wp C (d+1) none s.code (fnQ C (d+1) s.res λv _=>v=.bool x) (ch 0 xs .nil) [] G.empty):am (I C) d g f args=.val (.bool x):=by
 have h:=oY hf hl h;unfold am;rw[hs];dsimp only;cases hc:(I C).call (Nat.succ d) f xs G.empty with
 | fail=>rw[show (I C).call (d+1) f xs G.empty=.fail from hc] at h;exact h.elim
 | ok v g' =>
  rw[show (I C).call (d+1) f xs G.empty=.ok v g' from hc] at h;have h:v=.bool x:=h;subst h;show (match eh aF (.bool x) with | none=>OR.fail | some m=>an (Nat.blt m d) (.val (.bool x)) _)=_;rw[show eh aF (.bool x)=some 0 from rfl];simp only[aa,Nat.blt_eq];rw[if_pos hk]
end iso
end
end Hx
end
section
namespace Hx
open Go
section
variable {C:Cfg}{A:Nat->Nat->Prop}{bd:Nat}{w w':World}{γ γ':Gm}{hg:Nat->AObj}{nx:Nat}
variable {op:Op}{t:T}{g:G}{f:Stg SFn}
theorem sH {h:H}{sz id:Nat}{x:AV}(hid:id∈ae x)(hn:h.get id=.none):ak h sz x=none:=by
 cases x<;>simp[ae] at hid
 ·subst hid;simp[ak,hn]
 ·rfl
 ·rfl
theorem wM {sz id:Nat}{x:AV}{bytes:Nat}{new:List (List AV)}(hid:id∈ae x)(hn:g.h.get id=.none):bg sz bytes x new g=.fail:=by
 cases x<;>simp[ae] at hid
 ·subst hid;simp[bg,hn]
 ·rfl
 ·rfl
theorem zN (h:bO C op=some f){id:Nat}(hid:id∈aU C op t g)(hn:g.h.get id=.none):f.run t g=.fail:=by
 have one:∀{x:AV},id∈ae x->(∃a b c d,x=.hptr a b c d/\g.h.get a=.none)\/(∃a b c d e,x=.hsl a b c d e/\g.h.get a=.none)\/(∃a,x=.hmap a/\g.h.get a=.none):=by
  intro x hx;cases x<;>simp[ae] at hx
  ·subst hx;exact .inr (.inl ⟨_,_,_,_,_,rfl,hn⟩)
  ·subst hx;exact .inl ⟨_,_,_,_,rfl,hn⟩
  ·subst hx;exact .inr (.inr ⟨_,rfl,hn⟩)
 cases op<;>simp only[bO] at h<;>first | (cases h;done) | skip
 case call c =>
  obtain ⟨callee,args,argTypes⟩:=c;cases callee<;>first | (cases h;done) | skip
  rename_i b;dsimp only at h;obtain ⟨vs,hvs⟩:=pB h;have hid:id∈(vs.run t).flatMap (je C b argTypes):=by simpa only[aU,aI,hvs,af,List.map_nil,List.append_nil] using hid
  generalize args.toList=l at h hvs;unfold cJ at h
  split at h
  ·
   split at h
   ·rename_i tt s h0 hs;injection h with h;subst h;simp only[bE,hs,Option.some.injEq] at hvs;subst hvs;simp only[List.flatMap_cons,List.flatMap_nil,List.append_nil,je,h0] at hid;dsimp only;generalize s.run t=x at *;generalize jg C.P tt=k at *;cases k<;>simp at hid;cases x<;>simp[q7] at hid;subst hid;simp[d8,hn]
   ·cases h
  ·
   split at h
   ·rename_i tt xt sa sx h0 h1 ha hx;simp only[bE,ha,hx,Option.some.injEq] at hvs;subst hvs;simp only[List.flatMap_cons,List.flatMap_nil,List.append_nil,je,List.mem_append] at hid
    repeat' (first | split at h | (rw[aa] at h;split at h))
    all_goals first | (cases h;done) | skip
    all_goals (injection h with h;subst h)
    ·dsimp only[dJ]
     split
     ·rfl
     ·rename_i new hnew;rcases hid with hid | hid
      ·exact wM hid hn
      ·rw[sH hid hn] at hnew;cases hnew
    ·dsimp only[qu]
     split
     ·rfl
     ·rename_i n hnat;rcases hid with hid | hid
      ·rw[aa]
       split
       ·exact wM hid hn
       ·rfl
      ·generalize sx.run t=x at *;cases x<;>simp[ae] at hid<;>simp[cR] at hnat
   ·cases h
  ·
   split at h
   ·rename_i tt sa sx h0 ha hx;simp only[bE,ha,hx,Option.some.injEq] at hvs;subst hvs;simp only[List.flatMap_cons,List.flatMap_nil,List.append_nil,je,List.mem_append] at hid
    repeat' (first | split at h)
    all_goals first | (cases h;done) | skip
    all_goals (injection h with h;subst h)
    dsimp only[wc]
    split
    ·rfl
    ·rename_i src hsrc;rcases hid with hid | hid
     ·rcases one hid with ⟨a,b,c,d,e,h1⟩ | ⟨a,b,c,d,e',e,h1⟩ | ⟨a,e,h1⟩<;>rw[e]<;>simp[h1]
     ·rw[sH hid hn] at hsrc;cases hsrc
   ·cases h
  ·
   split at h
   ·rename_i tt s h0 hs;simp only[bE,hs,Option.some.injEq] at hvs;subst hvs;simp only[List.flatMap_cons,List.flatMap_nil,List.append_nil,je] at hid
    repeat' (first | split at h)
    all_goals first | (cases h;done) | skip
    all_goals (injection h with h;subst h)
    dsimp only[Ef];rcases one hid with ⟨a,b,c,d,e,h1⟩ | ⟨a,b,c,d,e',e,h1⟩ | ⟨a,e,h1⟩<;>rw[e]<;>simp[h1]
   ·cases h
  ·
   split at h
   ·rename_i tt s h0 hs;simp only[bE,hs,Option.some.injEq] at hvs;subst hvs;simp only[List.flatMap_cons,List.flatMap_nil,List.append_nil,je] at hid
    repeat' (first | split at h | (rw[aa] at h;split at h))
    all_goals first | (cases h;done) | skip
    all_goals (injection h with h;subst h)
    dsimp only;generalize s.run t=x at *;cases x with
    | hsl i ep off len lim =>
     cases len with
     | zero=>simp[pf] at hid
     | succ len =>
      simp[pf] at hid;subst hid;simp[tS,hn]
    | _=>simp[pf] at hid
   ·cases h
  ·
   split at h
   ·rename_i sa sx ha hx;injection h with h;subst h;simp only[bE,ha,hx,Option.some.injEq] at hvs;subst hvs;simp only[List.flatMap_cons,List.flatMap_nil,List.append_nil,je,List.mem_append] at hid;dsimp only;rcases hid with hid | hid
    ·rcases one hid with ⟨a,b,c,d,e,h1⟩ | ⟨a,b,c,d,e',e,h1⟩ | ⟨a,e,h1⟩<;>rw[e]
    ·split
     ·rcases one hid with ⟨a,b,c,d,e,h1⟩ | ⟨a,b,c,d,e',e,h1⟩ | ⟨a,e,h1⟩<;>rw[e]
     ·rfl
   ·cases h
  ·
   split at h
   ·rename_i sa sx ha hx;injection h with h;subst h;simp only[bE,ha,hx,Option.some.injEq] at hvs;subst hvs;simp only[List.flatMap_cons,List.flatMap_nil,List.append_nil,je,List.mem_append] at hid;dsimp only;rcases hid with hid | hid
    ·rcases one hid with ⟨a,b,c,d,e,h1⟩ | ⟨a,b,c,d,e',e,h1⟩ | ⟨a,e,h1⟩<;>rw[e]
    ·split
     ·rcases one hid with ⟨a,b,c,d,e,h1⟩ | ⟨a,b,c,d,e',e,h1⟩ | ⟨a,e,h1⟩<;>rw[e]
     ·rfl
   ·cases h
  ·cases h
 case load ty a =>
  split at h
  ·rename_i s ag n hs hag hn';injection h with h;subst h;simp only[aU,aI,hs,af,List.map_nil,List.append_nil] at hid;dsimp only[jO];rcases one hid with ⟨a,b,c,d,e,h1⟩ | ⟨a,b,c,d,e',e,h1⟩ | ⟨a,e,h1⟩<;>rw[e]<;>simp[h1]
  ·cases h
 case store ty a x =>
  split at h
  ·rename_i s u n hs hu hn';injection h with h;subst h;simp only[aU,aI,hs,af,List.map_nil,List.append_nil] at hid;dsimp only[lG];rcases one hid with ⟨a,b,c,d,e,h1⟩ | ⟨a,b,c,d,e',e,h1⟩ | ⟨a,e,h1⟩<;>rw[e]<;>simp[h1]
  ·cases h
 case indexAddr ty x ix =>
  split at h
  ·rename_i s i hs hi
   split at h
   ·rename_i e hu
    split at h
    ·injection h with h;subst h;simp only[aU,aI,hs,hu,af,List.map_nil,List.append_nil] at hid;dsimp only[eZ];rcases one hid with ⟨a,b,c,d,e,h1⟩ | ⟨a,b,c,d,e',e,h1⟩ | ⟨a,e,h1⟩<;>rw[e];dsimp only
     split
     ·simp[h1]
     ·rfl
    ·cases h
   ·rename_i n e hu;simp[aU,aI,hs,hu,au] at hid
   ·cases h
  ·cases h
 case lookup ty x k ok =>
  split at h
  ·rename_i sm kk kt et hm hk hu
   split at h
   ·injection h with h;subst h;have hid:id∈ae (sm.run t):=by cases ok<;>simpa [aU,aI,hm,af] using hid
    dsimp only[cW];rw[aa]
    split
    ·rcases one hid with ⟨a,b,c,d,e,h1⟩ | ⟨a,b,c,d,e',e,h1⟩ | ⟨a,e,h1⟩<;>rw[e]<;>simp[h1]
    ·rfl
   ·cases h
  ·cases h
 case mapUpdate ty m k x =>
  split at h
  ·rename_i sm sk sx kt et hm hk hx hu;injection h with h;subst h;simp only[aU,aI,hm,af,List.map_nil,List.append_nil] at hid;dsimp only[d_];rw[aa]
   split
   ·rcases one hid with ⟨a,b,c,d,e,h1⟩ | ⟨a,b,c,d,e',e,h1⟩ | ⟨a,e,h1⟩<;>rw[e]<;>simp[h1]
   ·rfl
  ·cases h
 case insert ty m k x =>
  split at h
  ·rename_i sm sk sx kt et hm hk hx hu;injection h with h;subst h;simp only[aU,aI,hm,af,List.map_nil,List.append_nil] at hid;dsimp only[d_];rw[aa]
   split
   ·rcases one hid with ⟨a,b,c,d,e,h1⟩ | ⟨a,b,c,d,e',e,h1⟩ | ⟨a,e,h1⟩<;>rw[e]<;>simp[h1]
   ·rfl
  ·cases h
 case mapEntry ty m k =>
  split at h
  ·rename_i sm sk kt et hm hk hu
   split at h
   ·injection h with h;subst h;simp only[aU,aI,hm,List.map_nil,List.append_nil] at hid;dsimp only[eC];rw[aa]
    split
    ·rcases one hid with ⟨a,b,c,d,e,h1⟩ | ⟨a,b,c,d,e',e,h1⟩ | ⟨a,e,h1⟩<;>rw[e]<;>simp[h1]
    ·rfl
   ·cases h
  ·cases h
 case entryStore ty m st x =>
  split at h
  ·rename_i sm ss sx hm hs hx;injection h with h;subst h;simp only[aU,aI,hm,af,List.map_nil,List.append_nil] at hid;dsimp only[fS];rcases one hid with ⟨a,b,c,d,e,h1⟩ | ⟨a,b,c,d,e',e,h1⟩ | ⟨a,e,h1⟩<;>rw[e]<;>simp[h1]
  ·cases h
 case slice ty x lo hi mx =>
  have key:∀{sz:Nat} {y:AV} {l h' m:Option AV},id∈ae y->jX sz y l h' m g.h=none:=by intro sz y l h' m hy;rcases one hy with ⟨a,b,c,d,e,h1⟩ | ⟨a,b,c,d,e',e,h1⟩ | ⟨a,e,h1⟩<;>rw[e]<;>simp[jX,h1]
  cases mx with
  | none =>
   dsimp only at h
   split at h
   ·rename_i e sx sl sh hu hx hl hh
    split at h
    ·injection h with h;subst h;simp only[aU,aI,hx,af,List.map_nil,List.append_nil] at hid;dsimp only;rw[key hid];rfl
    ·cases h
   ·rename_i n e sx sl sh hu hx hl hh
    split at h
    ·injection h with h;subst h;simp only[aU,aI,hx,af,List.map_nil,List.append_nil] at hid;dsimp only[fY]
     split
     ·rfl
     ·split
      ·rfl
      ·rcases one hid with ⟨a,b,c,d,e,h1⟩ | ⟨a,b,c,d,e',e,h1⟩ | ⟨a,e,h1⟩<;>rw[e]<;>simp[h1]
    ·cases h
   ·cases h
  | some mx =>
   cases hi with
   | none=>cases h
   | some hi =>
    dsimp only at h
    split at h
    ·rename_i e sx sl sh sm he hx hl hh hm
     split at h
     ·injection h with h;subst h;simp only[aU,aI,hx,af,List.map_nil,List.append_nil] at hid;dsimp only;rw[key hid];rfl
     ·cases h
    ·cases h
 all_goals simp[aU,aI,au] at hid
structure CfgOk (C:Cfg):Prop where
 mixed:C.P.follows .mixedOrders=true
 recov:C.P.follows .rangeFuncRecover=true
 mon:kV C
 noDfr:∀f e,C.ext f=some e->∀d args g y,e d args g≠.dfr y
 ext:∀f e,C.ext f=some e->∀A bd w γ hg nx g as vs,Rel C A bd w γ hg nx->WF g->(∀id∈as.flatMap (aH g.h aF),g.h.get id≠.none->hg id=g.h.get id)->Free γ g (gOf g (e (bd+1) as g)) ->
  RVs w γ A bd as vs->e (bd+1) as g≠.fail->∀cs,
  ∃u w' γ' hg',Fin C A bd w γ hg nx g w' γ' hg' (gOf g (e (bd+1) as g))/\RV w' γ' A bd (vOf (e (bd+1) as g)) u /\
   ((callFunc f vs.toArray).run C.P w=.ok (.value u) w'\/(Enters C.P f/\Outs C.P .normal f vs.toArray cs w u w'))
def DR (w:World)(γ:Gm)(A:Nat->Nat->Prop)(bd:Nat):List ADf->List Deferred->Prop
 | [],[]=>True
 | .mark id::ds,d::es=>((γ id).kind=4/\d={ target:=.collected (γ id).blk,args:=#[] })/\DR w γ A bd ds es
 | .call fv args::ds,d::es=>(∃f ys us,fv=.clo f [] ys/\d.target=.fn (.func f) us/\RVs w γ A bd ys us.toList/\RVs w γ A bd args d.args.toList)/\DR w γ A bd ds es
 | _,_=>False
theorem DR.step {ds:List ADf}:∀{es:List Deferred},DR w γ A bd ds es->Stp w γ w' γ'->DR w' γ' A bd ds es:=by
 induction ds with
 | nil=>intro es h _;cases es<;>simpa [DR] using h
 | cons d ds ih =>
  intro es h s;cases es with
  | nil=>cases d<;>simp[DR] at h
  | cons e es =>
   cases d with
   | mark id =>
    obtain ⟨⟨h1,h2⟩,h3⟩:=h;have hk:(γ id).kind≠0:=by rw[h1];decide
    exact ⟨⟨by rw[s.kind_eq hk,h1],by rw[h2,s.blk_eq hk (by rw[h1];decide)]⟩,ih h3 s⟩
   | call fv args =>
    obtain ⟨⟨f,ys,us,h1,h2,h4,h5⟩,h3⟩:=h;exact ⟨⟨f,ys,us,h1,h2,h4.step s,h5.step s⟩,ih h3 s⟩
theorem TR.step {nt:Nat}{tmps:Array Value}(h:TR w γ A bd nt t tmps)(s:Stp w γ w' γ'):TR w' γ' A bd nt t tmps :=
 ⟨h.1,λi=>(h.2 i).step s⟩
def RdOk (γ:Gm)(rd:Option Nat)(b:Frame):Prop :=
 match rd with
 | none=>b.roundOf=none
 | some id=>(γ id).kind=3/\b.roundOf=some (γ id).blk
theorem RdOk.step {rd:Option Nat}{b:Frame}(h:RdOk γ rd b)(s:Stp w γ w' γ'):RdOk γ' rd b:=by
 cases rd with
 | none=>exact h
 | some id =>
  obtain ⟨h1,h2⟩:=h;have hk:(γ id).kind≠0:=by rw[h1];decide
  exact ⟨by rw[s.kind_eq hk,h1],by rw[h2,s.blk_eq hk (by rw[h1];decide)]⟩
def Arr (P:Program)(m:Machine)(b:Frame)(k:List Item)(cs:List Frame):Ex->Act->World->Prop
 | .norm,a,w=>Steps P m (lone (b.atR a k) cs w)
 | .exit id,a,w=>∃k₁,exitTo id k₁=exitTo id k/\Steps P m (lone (b.atR a (.code (.exit id)::k₁)) cs w)
 | .ret,a,w=>∃k₁,Steps P m (lone (b.atR a (.code .ret::k₁)) cs w)
theorem Arr.of_steps {P:Program}{m m₁:Machine}{b:Frame}{k:List Item}{cs:List Frame}{e:Ex}{a:Act}(h:Steps P m m₁)(h':Arr P m₁ b k cs e a w):Arr P m b k cs e a w:=by
 cases e with
 | norm=>exact Steps.trans h h'
 | exit id=>obtain ⟨k₁,h1,h2⟩:=h';exact ⟨k₁,h1,Steps.trans h h2⟩
 | ret=>obtain ⟨k₁,h2⟩:=h';exact ⟨k₁,Steps.trans h h2⟩
def td (C:Cfg)(bd nt:Nat)(rd:Option Nat)(c:Code)(t:T)(df:List ADf)(g:G)(e:Ex)(t':T)(df':List ADf)(g':G):Prop :=
 ∀A w γ hg nx b a k cs,Rel C A bd w γ hg nx->Ext g.h hg->WF g->Free γ g g'->TR w γ A bd nt t a.tmps->DR w γ A bd df a.defers->RdOk γ rd b->qo b.kind cs ->
  ∃a' w' γ' hg',Fin C A bd w γ hg nx g w' γ' hg' g'/\TR w' γ' A bd nt t' a'.tmps/\DR w' γ' A bd df' a'.defers /\
   Arr C.P (lone (b.atR a (.code c::k)) cs w) b k cs e a' w'
def If (C:Cfg)(ih:IH):Prop :=
 ∀bd nt rd c t df g e t' df' g',ih.code nt (bd+1) rd c t df g=.ok e t' df' g'->td C bd nt rd c t df g e t' df' g'
structure IHOk (C:Cfg) (ih:IH):Prop where
 mon:IHMon ih
 call:DV C ih
 code:If C ih
theorem RVs.append {xs ys:List AV}{vs us:List Value}(h1:RVs w γ A bd xs vs)(h2:RVs w γ A bd ys us):RVs w γ A bd (xs++ys) (vs++us):=by
 refine ⟨by simp[h1.1,h2.1],λi x v hx hv=>?_⟩
 by_cases hi:i<xs.length
 ·rw[List.getElem?_append_left hi] at hx;rw[List.getElem?_append_left (by rw[<-h1.1];exact hi)] at hv;exact h1.2 i x v hx hv
 ·rw[List.getElem?_append_right (by omega)] at hx;rw[List.getElem?_append_right (by rw[<-h1.1];omega),<-h1.1] at hv;exact h2.2 _ x v hx hv
theorem RVs.ofArr {xs:List AV}{vs:Array Value}(hl:xs.length=vs.size)(h:∀(i:Nat) x v,xs[i]?=some x->vs[i]?=some v->RV w γ A bd x v) :
  RVs w γ A bd xs vs.toList:=⟨by simpa using hl,λi x v hx hv=>h i x v hx (by simpa using hv)⟩
section
variable {P:Program}{b:Frame}{a:Act}{ops:Array Oper}{i:Nat}{rest:List Nat}{k:List Item}{cs:List Frame}{o:Oper}
theorem uO {v:Value}(ho:ops[i]?=some o)(hw:Region.wanted o (yielded ops a.tmps)=true)(hd:∀c,o.op≠.defer c)
  (hrun:(execOp a.eval o).run P w=.ok (.value v) w') :
  step P (lone (b.atR a (.inRegion ops (i::rest)::k)) cs w)=.next (lone (b.atR (a.put o.dst v) (.inRegion ops rest::k)) cs w'):=by
 have hfin:=Frame.finish_atR b a ops i rest k v;rw[ho] at hfin;simp only[Option.bind_some] at hfin;refine step_lone_go ?_;rw[stepGR_op ho hw,Oper.semAt_eq _ _ _ hd,<-hfin];simp[stepG.apply,hrun]
theorem DM (ho:ops[i]?=some o)(hw:Region.wanted o (yielded ops a.tmps)=true)(hd:∀c,o.op≠.defer c)
  (hrun:(execOp a.eval o).run P w=.ok .skip w') :
  step P (lone (b.atR a (.inRegion ops (i::rest)::k)) cs w)=.next (lone (b.atR (a.put o.dst undef) (.inRegion ops rest::k)) cs w'):=by
 have hfin:=Frame.finish_atR b a ops i rest k undef;rw[ho] at hfin;simp only[Option.bind_some] at hfin;refine step_lone_go ?_;rw[stepGR_op ho hw,Oper.semAt_eq _ _ _ hd,<-hfin];simp[stepG.apply,hrun]
theorem qk {v:Value}(ho:ops[i]?=some o)(hw:Region.wanted o (yielded ops a.tmps)=true)(hd:∀c,o.op≠.defer c)
  (hrun:yb P o a.eval w v w') :
  Steps P (lone (b.atR a (.inRegion ops (i::rest)::k)) cs w) (lone (b.atR (a.put o.dst v) (.inRegion ops rest::k)) cs w'):=by
 rcases hrun with h | ⟨h,rfl⟩
 ·exact .one (uO ho hw hd h)
 ·exact .one (DM ho hw hd h)
theorem AZ {f:FuncId}{args:Array Value}(ho:ops[i]?=some o)(hw:Region.wanted o (yielded ops a.tmps)=true)(hd:∀c,o.op≠.defer c)
  (hrun:(execOp a.eval o).run P w=.ok (.enter f args) w') :
  step P (lone (b.atR a (.inRegion ops (i::rest)::k)) cs w)=.next (lone (Frame.enter P f args .normal) (b.atR a (.inRegion ops (i::rest)::k)::cs) w'):=by
 refine step_lone_go ?_;rw[stepGR_op ho hw,Oper.semAt_eq _ _ _ hd];simp[stepG.apply,hrun,Frame.atR]
theorem A0 {l:Nat}{f:FuncId}{tmps:Array Value}{assign body:Code}(ho:ops[i]?=some o)(hw:Region.wanted o (yielded ops a.tmps)=true)(hd:∀c,o.op≠.defer c)
  (hrun:(execOp a.eval o).run P w=.ok (.round l f tmps assign body) w') :
  step P (lone (b.atR a (.inRegion ops (i::rest)::k)) cs w)=.next (lone (Frame.round l f tmps assign body .normal) (b.atR a (.inRegion ops (i::rest)::k)::cs) w'):=by
 refine step_lone_go ?_;rw[stepGR_op ho hw,Oper.semAt_eq _ _ _ hd];simp[stepG.apply,hrun,Frame.atR]
theorem ql {f:FuncId}{args:Array Value}{u:Value}{w₁:World}(ho:ops[i]?=some o)(hw:Region.wanted o (yielded ops a.tmps)=true)(hd:∀c,o.op≠.defer c)
  (hrun:(execOp a.eval o).run P w=.ok (.enter f args) w)
  (hout:Outs P .normal f args (b.atR a (.inRegion ops (i::rest)::k)::cs) w u w₁) :
  Steps P (lone (b.atR a (.inRegion ops (i::rest)::k)) cs w) (lone (b.atR (a.put o.dst u) (.inRegion ops rest::k)) cs w₁):=by
 obtain ⟨fr,hs,h1,h2,h3,h4,fn,h5,h6⟩:=hout;have hfin:=Frame.finish_atR b a ops i rest k u;rw[ho] at hfin;simp only[Option.bind_some] at hfin;refine .head (AZ ho hw hd hrun) (Steps.trans hs (.one ?_));rw[<-hfin];exact step_leave_returned ⟨h1,h2,h3,fn,by rw[h4];exact h5,h6⟩
theorem xV (ho:ops[i]?=some o)(hw:Region.wanted o (yielded ops a.tmps)=true)(hd:∀c,o.op≠.defer c)
  (hrec:P.follows .rangeFuncRecover=true) (hcalm:qo b.kind cs)
  (hrun:(execOp a.eval o).run P w=.ok .recover w) :
  step P (lone (b.atR a (.inRegion ops (i::rest)::k)) cs w)=.next (lone (b.atR (a.put o.dst .nilIface) (.inRegion ops rest::k)) cs w):=by
 have hfin:=Frame.finish_atR b a ops i rest k .nilIface;rw[ho] at hfin;simp only[Option.bind_some] at hfin;have htry:tryRecover (b.atR a (.inRegion ops (i::rest)::k)) cs=none:=by
  unfold tryRecover;rcases hcalm with h | ⟨h,c,cs',rfl,hm | ⟨_,_,_,hm⟩⟩
  ·simp[Frame.atR,h]
  ·simp[Frame.atR,h,hm]
  ·simp[Frame.atR,h,hm]
 refine step_lone_go ?_;rw[stepGR_op ho hw,Oper.semAt_eq _ _ _ hd,<-hfin];simp only[stepG.apply,Sem.runT_eq,hrun,hrec,if_true,htry];cases hro:(b.atR a (.inRegion ops (i::rest)::k)).roundOf<;>simp[GStep.bare_after]
end
theorem iz {P:Program}{l:Nat}{L:Loop}(h:w.heap[l]?=some (.loop L)):(Instr.getLoop l).run P w=.ok L w:=by
 unfold Instr.getLoop;simp only[Sem.run_bind,dX h (by simp),Result.andThen_ok]
 rfl
theorem oH {P:Program}{l:Nat}{L:Loop}{o:Obj}(h:w.heap[l]?=some (.loop L)):(setObj l o).run P w=.ok () (World.setBlk w l o) :=
 fO h (by simp)
theorem Rel.setLoop (hr:Rel C A bd w γ hg nx){id nt dfr:Nat}{t:T}{ps:List Nat}{assign body:Code}{st st':LoopState}{pend pend':Option Code}{L:Loop}
  (hid:hg id=.loop nt t ps assign body dfr st pend) (hL:w.heap[(γ id).blk]?=some (.loop L)) :
  Rel C A bd (World.setBlk w (γ id).blk (.loop { L with state:=st',pending:=pend' })) γ (upd hg id (.loop nt t ps assign body dfr st' pend')) nx /\
   Stp w γ (World.setBlk w (γ id).blk (.loop { L with state:=st',pending:=pend' })) γ:=by
 have hob:=hr.obj id;rw[hid] at hob;obtain ⟨h1,h2,L',h3,h4,h5,h6,h7,h8,h9,h10,h11,h12⟩:=hob;rw[hL] at h3;injection h3 with h3;injection h3 with h3;subst h3;have hk:(γ id).kind≠0:=by rw[h1];decide
 have s:=pq (w:=w) (o:=.loop { L with state:=st',pending:=pend' }) hk h2;refine hr.setBlk hk h2 ⟨h1,h2,{ L with state:=st',pending:=pend' },?_,rfl,rfl,h6,h7,h8,h9,λi=>(h10 i).step s,h11,h12⟩;rw[cL];simp[(hr.lt id hk).2]
theorem Fin.ofPut {g:G}{id:Nat}{o:AObj}(hr:Rel C A bd w' γ' (upd hg id o) nx)(s:Stp w γ w' γ') :
  Fin C A bd w γ hg nx g w' γ' (upd hg id o) (g.put id o):=by
 refine ⟨hr.up (Nat.le_max_left _ _),s,⟨[id],by simp,λj hj=>?_,λj hj=>?_⟩⟩
 ·simp at hj;subst hj;simp[H.get_put]
 ·exact cp _ _ (by simpa using hj)
theorem Fin.ofNew {g:G}{o:AObj}(hr:Rel C A bd w' γ' (upd hg g.nx o) (Nat.max nx (g.nx+1)))(s:Stp w γ w' γ') :
  Fin C A bd w γ hg nx g w' γ' (upd hg g.nx o) (g.new o):=by
 refine ⟨by simpa using hr,s,⟨[g.nx],by simp,λj hj=>?_,λj hj=>?_⟩⟩
 ·simp at hj;subst hj;simp[H.get_put]
 ·exact cp _ _ (by simpa using hj)
end
end Hx
end
section
namespace Hx
open Go
section
variable {C:Cfg}{A:Nat->Nat->Prop}{bd:Nat}{w w':World}{γ γ':Gm}{hg:Nat->AObj}{nx:Nat}
variable {t:T}{g:G}{ih:IH}
def Agr (lk:Looks)(g:G)(hg:Nat->AObj):Prop :=
 if lk.big then Ext g.h hg else ∀id∈lk.rd++lk.sr.map (·.1),g.h.get id≠.none->hg id=g.h.get id
theorem Ext.agr {lk:Looks}(h:Ext g.h hg):Agr lk g hg:=by
 unfold Agr
 split
 ·exact h
 ·exact λid _ hne=>h id hne
theorem vJ {nt:Nat}:∀{ps:List Nat} {xs:List AV} {us:List Value} {t t':T} {tmps:Array Value},eF t nt ps xs=some t'->TR w γ A bd nt t tmps->RVs w γ A bd xs us ->
  ps.length=us.length/\TR w γ A bd nt t' ((ps.zip us).foldl (λtmps (t,a)=>tmps.setIfInBounds t a) tmps):=by
 intro ps
 induction ps with
 | nil =>
  intro xs us t t' tmps h ht hv;cases xs with
  | nil =>
   simp only[eF] at h;injection h with h;subst h;have:us=[]:=List.length_eq_zero_iff.1 hv.1.symm;subst this;exact ⟨rfl,ht⟩
  | cons x xs=>simp[eF] at h
 | cons p ps ih =>
  intro xs us t t' tmps h ht hv;cases xs with
  | nil=>simp[eF] at h
  | cons x xs =>
   cases us with
   | nil=>have:=hv.1;simp at this
   | cons u us =>
    simp only[eF,aa] at h
    split at h
    ·rename_i hp;rw[Nat.blt_eq] at hp;have h0:RV w γ A bd x u:=hv.2 0 x u rfl rfl;have hrest:RVs w γ A bd xs us:=⟨by have:=hv.1;simpa using this,λi x' u' hx hu=>hv.2 (i+1) x' u' (by simpa using hx) (by simpa using hu)⟩;have ht':TR w γ A bd nt ((sp AV.undef p).run t x) (tmps.setIfInBounds p u):=by
      refine ⟨by simp[ht.1],λi=>?_⟩;rw[sp_get]
      by_cases hi:i=p
      ·subst hi;rw[if_pos rfl];have:i<tmps.size:=by rw[ht.1];exact hp
       simpa [Array.getD,this] using h0
      ·rw[if_neg hi];have:=ht.2 i;simp only[Array.getD_eq_getD_getElem?] at this ⊢;rw[Array.getElem?_setIfInBounds_ne (Ne.symm hi)];exact this
     obtain ⟨a1,a2⟩:=ih h ht' hrest;exact ⟨by simp[a1],by simpa using a2⟩
    ·cases h
theorem Dx (hi:IHOk C ih)(hr:Rel C A bd w γ hg nx)(hx:Ext g.h hg)(hwf:WF g){id:Nat}{args:List AV}{vs:List Value}
  (hk:(γ id).kind=3) (hv:RVs w γ A bd args vs) {r:OR} (h:dI ih (bd+1) id args g=r) (hne:r≠.fail) (hf:Free γ g (gOf g r)) (c:Frame) (cs:List Frame) :
  ∃f tmps assign body,(Instr.yield (γ id).blk vs.toArray).run C.P w=.ok (.round (γ id).blk f tmps assign body) w /\
   ∃u w' γ' hg',Fin C A bd w γ hg nx g w' γ' hg' (gOf g r)/\RV w' γ' A bd (vOf r) u /\
    Steps C.P (lone (Frame.round (γ id).blk f tmps assign body .normal) (c::cs) w) (lone (c.finish u) cs w'):=by
 unfold dI at h
 split at h
 rotate_left
 ·exact absurd h.symm hne
 rename_i nt t0 ps assign bodyX dfr0 st0 pend0 hget;have hget:g.h.get id=.loop nt t0 ps assign bodyX dfr0 st0 pend0:=by simpa using hget
 have hid:hg id=.loop nt t0 ps assign bodyX dfr0 st0 pend0:=by rw[hx id (by rw[hget];simp),hget]
 have hob:=hr.obj id;rw[hid] at hob;obtain ⟨k1,k2,L,k3,k4,k5,k6,k7,k8,k9,k10,k11,k12⟩:=hob
 split at h
 ·exact absurd h.symm hne
 rename_i t' hset;have ht0:TR w γ A bd nt t0 L.tmps:=⟨k9,k10⟩;obtain ⟨hlen,ht'⟩:=vJ hset ht0 hv
 split at h
 rotate_left
 ·exact absurd h.symm hne
 rename_i t1 g1 h1
 split at h
 rotate_left
 ·exact absurd h.symm hne
 rename_i nt1 t2 ps2 assign2 body1 dfr pend hget1;have hget1:g1.h.get id=.loop nt1 t2 ps2 assign2 body1 dfr .ready pend:=by simpa using hget1
 split at h
 rotate_left
 ·exact absurd h.symm hne
 rename_i e t3 g2 h2
 split at h
 rotate_left
 ·exact absurd h.symm hne
 rename_i nt3 t4 ps4 assign4 body4 dfr4 st4 pend4 hget2;have hget2:g2.h.get id=.loop nt3 t4 ps4 assign4 body4 dfr4 st4 pend4:=by simpa using hget2
 have m1:=hi.mon.code _ _ _ _ _ _ _ _ _ _ _ h1 hwf;have w1:WF g1:=m1.wf hwf;have m2:Mon g1 (g1.put id (.loop nt1 t2 ps2 assign2 body1 dfr .busy pend)):=Mon.put w1 (by rw[hget1];simp);have w2:=m2.wf w1;have m3:=hi.mon.code _ _ _ _ _ _ _ _ _ _ _ h2 w2;have w3:=m3.wf w2;have m4:∀o,Mon g2 (g2.put id o):=λo=>Mon.put w3 (by rw[hget2];simp);have hnx:(gOf g r).nx=g2.nx:=by subst h;cases e<;>simp[gOf]
 have hfree2:Free γ g g2:=λi a b=>hf i a (by rw[hnx];exact b)
 let bR:Frame:={ (default:Frame) with fn:=L.fn,kind:=.normal,roundOf:=some (γ id).blk }
 let tmps:=(L.params.zip vs.toArray).foldl (λtmps (t,a)=>tmps.setIfInBounds t a) L.tmps
 have htm:tmps=(ps.zip vs).foldl (λtmps (t,a)=>tmps.setIfInBounds t a) L.tmps:=by simp only[tmps,<-Array.foldl_toList,Array.toList_zip,k6]
 have hyield:(Instr.yield (γ id).blk vs.toArray).run C.P w=.ok (.round (γ id).blk L.fn tmps assign bodyX) w:=by
  unfold Instr.yield;have hs:vs.toArray.size=L.params.size:=by rw[<-k6] at hlen;simpa using hlen.symm
  simp only[Sem.run_bind,iz k3,Result.andThen_ok,hs,ne_eq,not_true_eq_false,if_false,k7,k8]
  rfl
 have hframe:Frame.round (γ id).blk L.fn tmps assign bodyX .normal=bR.atR { tmps:=tmps,defers:=[] } [.code assign,.beginRound,.code bodyX]:=by simp[Frame.round,Frame.atR,bR]
 obtain ⟨a1,wa,γa,hga,f1,tr1,dr1,ar1⟩:=hi.code _ _ _ _ _ _ _ _ _ _ _ h1 A w γ hg nx bR { tmps:=tmps,defers:=[] } [.beginRound,.code bodyX] (c::cs) hr hx hwf
  (hfree2.le (Nat.le_trans m2.nx m3.nx)) (by rw[htm];exact ht') trivial ⟨hk,rfl⟩ (.inl rfl)
 have hxa:Ext g1.h hga:=f1.ext m1 hx;have hida:hga id=.loop nt1 t2 ps2 assign2 body1 dfr .ready pend:=by rw[hxa id (by rw[hget1];simp),hget1]
 have hka:(γ id).kind≠0:=by rw[hk];decide
 have hblka:(γa id).blk=(γ id).blk:=f1.stp.blk_eq hka (by rw[hk];decide);have hobA:=f1.rel.obj id;rw[hida] at hobA;obtain ⟨ka1,ka2,La,ka3,ka4,ka5,ka6,ka7,ka8,ka9,ka10,ka11,ka12⟩:=hobA;have hsetA:=f1.rel.setLoop (st':=.busy) (pend':=pend) hida ka3;rw[hblka] at ka3 hsetA;have hbegin:(Instr.beginRound (γ id).blk).run C.P wa=.ok () (World.setBlk wa (γ id).blk (.loop { La with state:=.busy,pending:=pend })):=by unfold Instr.beginRound;simp only[Sem.run_bind,iz ka3,Result.andThen_ok,oH ka3,ka4,Sem.run_pure,<-ka5]
 have f2:Fin C A bd wa γa hga (Nat.max nx g1.nx) g1 _ γa _ (g1.put id (.loop nt1 t2 ps2 assign2 body1 dfr .busy pend)):=Fin.ofPut hsetA.1 hsetA.2;have f12:=f1.trans f2 m1 m2;obtain ⟨a2,wb,γb,hgb,f3,tr3,dr3,ar3⟩:=hi.code _ _ _ _ _ _ _ _ _ _ _ h2 A _ γa _ (Nat.max nx (g1.put id (.loop nt1 t2 ps2 assign2 body1 dfr .busy pend)).nx) bR a1 [] (c::cs) f12.rel (f12.ext (m1.trans m2) hx) w2
  (f12.freed hr (m1.trans m2) hfree2) (tr1.step hsetA.2) (by
   have:=dr1.step hsetA.2;exact this) ⟨by rw[f1.stp.kind_eq hka];exact hk,by simp[bR,hblka]⟩ (.inl rfl)
 have f123:=f12.trans f3 (m1.trans m2) m3;have hxb:Ext g2.h hgb:=f123.ext ((m1.trans m2).trans m3) hx;have hidb:hgb id=.loop nt3 t4 ps4 assign4 body4 dfr4 st4 pend4:=by rw[hxb id (by rw[hget2];simp),hget2]
 have hblkb:(γb id).blk=(γ id).blk:=f123.stp.blk_eq hka (by rw[hk];decide);have hobB:=f123.rel.obj id;rw[hidb] at hobB;obtain ⟨kb1,kb2,Lb,kb3,kb4,kb5,kb6,kb7,kb8,kb9,kb10,kb11,kb12⟩:=hobB;have hsetB:=λst' pend'=>f123.rel.setLoop (st':=st') (pend':=pend') hidb kb3;rw[hblkb] at kb3 hsetB;have hend:∀jump,(Instr.endRound (γ id).blk jump).run C.P wb=.ok (.bool jump.isNone) (World.setBlk wb (γ id).blk (.loop { Lb with state:=if jump.isNone then .ready else .done,pending:=jump })):=by intro jump;unfold Instr.endRound;simp only[Sem.run_bind,iz kb3,Result.andThen_ok,oH kb3,Sem.run_pure]
 refine ⟨L.fn,tmps,assign,bodyX,hyield,?_⟩;rw[hframe];have sbegin:Steps C.P (lone (bR.atR { tmps:=tmps,defers:=[] } [.code assign,.beginRound,.code bodyX]) (c::cs) w) (lone (bR.atR a1 [.code bodyX]) (c::cs) (World.setBlk wa (γ id).blk (.loop { La with state:=.busy,pending:=pend }))) :=
  Steps.trans ar1 (.one (stepR_beginRound rfl hbegin))
 have fin:∀(jump:Option Code) (st':LoopState),st'=(if jump.isNone then .ready else .done) ->
   Fin C A bd w γ hg nx g (World.setBlk wb (γ id).blk (.loop { Lb with state:=st',pending:=jump })) γb (upd hgb id (.loop nt3 t4 ps4 assign4 body4 dfr4 st' jump)) (g2.put id (.loop nt3 t4 ps4 assign4 body4 dfr4 st' jump)):=by
  intro jump st' _;exact f123.trans (Fin.ofPut (hsetB st' jump).1 (hsetB st' jump).2) ((m1.trans m2).trans m3) (m4 _)
 subst h;cases e with
 | norm=>exact ⟨.bool true,_,γb,_,fin none .ready rfl,.bool _ _,Steps.trans sbegin (Steps.trans ar3 (.one (stepR_round_end rfl rfl (hend none))))⟩
 | exit j =>
  obtain ⟨k₁,hk₁,har⟩:=ar3;exact ⟨.bool false,_,γb,_,fin (some (.exit j)) .done rfl,.bool _ _,Steps.trans sbegin (Steps.trans har (.one (stepR_round_exit rfl rfl (by rw[hk₁];rfl) (hend (some (.exit j))))))⟩
 | ret =>
  obtain ⟨k₁,har⟩:=ar3;exact ⟨.bool false,_,γb,_,fin (some .ret) .done rfl,.bool _ _,Steps.trans sbegin (Steps.trans har (.one (stepR_round_ret rfl rfl (hend (some .ret)))))⟩
noncomputable def H0 (C:Cfg)(fv:AV)(as:List AV)(g:G):Looks :=
 match fv with
 | .clo f first cap=>an ((C.ext f).isSome || C.iso f) (af ((first++(as++cap)).flatMap (aH g.h aF))) cT
 | _=>cT
theorem Gs (h:Agr cT g hg):Ext g.h hg:=h
section
variable {b:Frame}{a:Act}{ops:Array Oper}{i:Nat}{rest:List Nat}{k:List Item}{cs:List Frame}{o:Oper}
theorem vX (hC:CfgOk C)(hi:IHOk C ih)(hr:Rel C A bd w γ hg nx)(hwf:WF g){fv:AV}{v:Value}{as:List AV}{vs:List Value}
  (hfv:RV w γ A bd fv v) (has:RVs w γ A bd as vs) (hag:Agr (H0 C fv as g) g hg)
  {r:OR} (h:fR C ih (bd+1) fv as g=r) (hne:r≠.fail) (hf:Free γ g (gOf g r))
  (ho:ops[i]?=some o) (hw:Region.wanted o (yielded ops a.tmps)=true) (hd:∀c,o.op≠.defer c)
  (hexec:(execOp a.eval o).run C.P w=(do let d <-Deferred.ofValue v vs.toArray;invoke d.target d.args:Sem Next).run C.P w) :
  ∃u w' γ' hg',Fin C A bd w γ hg nx g w' γ' hg' (gOf g r)/\RV w' γ' A bd (vOf r) u /\
   Steps C.P (lone (b.atR a (.inRegion ops (i::rest)::k)) cs w) (lone (b.atR (a.put o.dst u) (.inRegion ops rest::k)) cs w'):=by
 cases hfv with
 | clo _ f xs ys vs1 us1 hl hl2 h1 h2 =>
  have hall:RVs w γ A bd (xs++(as++ys)) (vs1.toList++(vs++us1.toList)):=(RVs.ofArr hl h1).append (has.append (RVs.ofArr hl2 h2));have harr:(vs1.toList++(vs++us1.toList)).toArray=(vs1++vs.toArray)++us1:=by apply Array.ext';simp
  have henter:Enters C.P f->(execOp a.eval o).run C.P w=.ok (.enter f ((vs1++vs.toArray)++us1)) w:=by intro he;rw[hexec];simp only[Deferred.ofValue,invoke,Sem.run_bind,Sem.run_pure,Result.andThen_ok];exact he _ _
  simp only[fR] at h;simp only[H0] at hag;cases hext:C.ext f with
  | some e =>
   simp only[hext] at h hag;have hx:∀id∈(xs++(as++ys)).flatMap (aH g.h aF),g.h.get id≠.none->hg id=g.h.get id:=by simpa [Agr,af] using hag
   have hs:=hC.ext f e hext;subst h;obtain ⟨u,w',γ',hg',f1,rv,out⟩:=hs A bd w γ hg nx g _ _ hr hwf hx hf hall hne (b.atR a (.inRegion ops (i::rest)::k)::cs);rw[harr] at out;rcases out with out | ⟨he,out⟩
   ·refine ⟨u,w',γ',hg',f1,rv,.one (uO ho hw hd ?_)⟩;rw[hexec];simp only[Deferred.ofValue,invoke,Sem.run_bind,Sem.run_pure,Result.andThen_ok];exact out
   ·exact ⟨u,w',γ',hg',f1,rv,ql ho hw hd (henter he) out⟩
  | none =>
   simp only[hext] at h hag;cases hiso:C.iso f with
   | true =>
    simp only[hiso] at h hag;have hx:∀id∈(xs++(as++ys)).flatMap (aH g.h aF),g.h.get id≠.none->hg id=g.h.get id:=by simpa [Agr,af] using hag
    subst h;obtain ⟨he,u,w',γ',hg',f1,rv,out⟩:=sB hi.call hi.mon.call hr hx hall hne (b.atR a (.inRegion ops (i::rest)::k)::cs);rw[harr] at out;exact ⟨u,w',γ',hg',f1,rv,ql ho hw hd (henter he) out⟩
   | false =>
    simp only[hiso] at h hag;have hx:Ext g.h hg:=hag;cases hcall:ih.call (bd+1) f (xs++(as++ys)) g with
    | fail =>
     rw[hcall] at h;exact absurd h.symm hne
    | ok rv0 g1 =>
     rw[hcall] at h;have h:OR.upd rv0 g1=r:=h;subst h;obtain ⟨he,hs⟩:=hi.call _ _ _ _ _ _ hcall;obtain ⟨u,w',γ',hg',f1,rv,out⟩:=hs A w γ hg nx _ hr hx hwf hf hall .normal (b.atR a (.inRegion ops (i::rest)::k)::cs) (.inl rfl);rw[harr] at out;exact ⟨u,w',γ',hg',f1,rv,ql ho hw hd (henter he) out⟩
 | yld _ id bl hk hb =>
  subst hb;simp only[fR] at h;have hx:Ext g.h hg:=Gs hag;obtain ⟨f,tmps,assign,body,hy,u,w',γ',hg',f1,rv,st⟩:=Dx hi hr hx hwf hk has h hne hf (b.atR a (.inRegion ops (i::rest)::k)) cs;have hfin:=Frame.finish_atR b a ops i rest k u;rw[ho] at hfin;simp only[Option.bind_some] at hfin;rw[hfin] at st;refine ⟨u,w',γ',hg',f1,rv,.head (A0 ho hw hd ?_) st⟩;rw[hexec];simp only[Deferred.ofValue,invoke,Sem.run_bind,Sem.run_pure,Result.andThen_ok];simpa using hy
 | _=>exact absurd h.symm hne
theorem AD (hC:CfgOk C)(hi:IHOk C ih)(hr:Rel C A bd w γ hg nx)(hwf:WF g){nt:Nat}{rd:Option Nat}(ht:TR w γ A bd nt t a.tmps)(hcalm:qo b.kind cs)
  (hag:Agr ((aI C o.op).run t g) g hg) {r:OR} (h:(cS C o.op).run ih (bd+1) rd t g=r) (hne:r≠.fail) (hnd:∀x,r≠.dfr x) (hf:Free γ g (gOf g r))
  (ho:ops[i]?=some o) (hw:Region.wanted o (yielded ops a.tmps)=true) :
  ∃u w' γ' hg',Fin C A bd w γ hg nx g w' γ' hg' (gOf g r)/\RV w' γ' A bd (vOf r) u /\
   Steps C.P (lone (b.atR a (.inRegion ops (i::rest)::k)) cs w) (lone (b.atR (a.put o.dst u) (.inRegion ops rest::k)) cs w'):=by
 have hm:Mon g (gOf g r):=by rw[<-h];exact ju hC.mon hi.mon hwf
 unfold cS at h
 split at h
 rotate_left
 ·exact absurd h.symm hne
 rename_i f hcop;generalize hop:o.op=op at hcop hag;have hargs:∀(args:Array Operand),(args.toList.map a.eval).toArray=args.map a.eval:=λargs=>by apply Array.ext';simp
 unfold cOp at hcop
 split at hcop
 ·
  rename_i fx args at2;have hd:∀c,o.op≠.defer c:=by rw[hop];intro c h;cases h
  split at hcop
  ·rename_i vs hvs;simp only[aI,aN,hvs] at hag;refine vX (fv:=.clo fx [] []) (v:=.func (.func fx) #[] #[]) (as:=vs.run t) hC hi hr hwf (.clo _ fx [] [] #[] #[] rfl rfl (λi x v h=>by simp at h) (λi x v h=>by simp at h)) (gz ht hr hvs) hag ?_ hne hf ho hw hd ?_
   ·rw[<-h];simp only[fR,List.nil_append,List.append_nil]
    split at hcop
    ·rename_i e he;injection hcop with hcop;subst hcop;rfl
    ·rename_i he;rw[aa] at hcop
     split at hcop
     ·rename_i hiso;injection hcop with hcop;subst hcop;simp only[hiso]
     ·rename_i hiso;injection hcop with hcop;subst hcop;have:C.iso fx=false:=by simpa using hiso
      simp only[this]
   ·simp only[execOp,hop,resolve,hargs,Act.eval]
  ·cases hcop
 ·
  rename_i fo args at2 hnf;have hd:∀c,o.op≠.defer c:=by rw[hop];intro c h;cases h
  split at hcop
  ·rename_i fv vs hfv hvs;injection hcop with hcop;subst hcop;simp only[aI,hfv,hvs] at hag;refine vX (fv:=fv.run t) (v:=a.eval fo) (as:=vs.run t) hC hi hr hwf (ap hfv ht hr) (gz ht hr hvs) hag h hne hf ho hw hd ?_;simp only[execOp,hop,resolve,hargs]
  ·cases hcop
 ·
  have hd:∀c,o.op≠.defer c:=by rw[hop];intro c h;cases h
  injection hcop with hcop;subst hcop;subst h;refine ⟨.nilIface,w,γ,hg,Fin.refl hr,.nili _,.one (xV ho hw hd hC.recov hcalm ?_)⟩;simp only[execOp,hop,resolve,invoke,Sem.run_bind,Sem.run_pure,Result.andThen_ok]
  rfl
 ·
  split at hcop
  ·injection hcop with hcop;subst hcop;exfalso;dsimp only at h
   split at h
   ·exact hne h.symm
   ·split at h
    ·exact hnd _ h.symm
    ·exact hne h.symm
  ·cases hcop
 ·
  split at hcop
  ·rename_i s hs;injection hcop with hcop;subst hcop;have hd:∀c,o.op≠.defer c:=by rw[hop];rintro c rfl;simp[bO] at hs
   have hlook:∀id∈aU C op t g,hg id=g.h.get id:=by
    intro id hid;have hn:g.h.get id≠.none:=λhn=>hne (by rw[<-h];exact zN hs hid hn);unfold Agr at hag
    split at hag
    ·exact hag id hn
    ·exact hag id hid hn
   have hsim:=HB hs hop ht hr (hf g.nx (Nat.le_refl _) hm.nx) hlook;have h:s.run t g=r:=h;rw[h] at hsim;cases r with
   | fail=>exact absurd rfl hne
   | val x =>
    obtain ⟨v,h1,h2⟩:=hsim;exact ⟨v,w,γ,hg,Fin.refl hr,h2,qk ho hw hd h1⟩
   | upd x g' =>
    obtain ⟨v,w',γ',id,ob,h1,h2,h3,h4⟩:=hsim;rcases h4 with ⟨rfl,h4⟩ | ⟨rfl,rfl,h4⟩
    ·exact ⟨v,w',γ',_,Fin.ofPut h4 h3,h2,qk ho hw hd h1⟩
    ·exact ⟨v,w',γ',_,Fin.ofNew h4 h3,h2,qk ho hw hd h1⟩
   | dfr x=>exact absurd rfl (hnd x)
  ·cases hcop
end
end
end Hx
end
