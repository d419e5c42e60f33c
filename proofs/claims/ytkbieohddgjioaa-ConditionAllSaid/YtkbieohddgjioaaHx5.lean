/- A part of the proof: an interpreter over abstract values, shown right against the model, and what the functions of the chapter compute on it. -/
import Derived.AtR
import Derived.Test.YtkbieohddgjioaaHx4
set_option linter.unusedVariables false
set_option linter.unusedSimpArgs false
set_option linter.unnecessarySimpa false
section
namespace Hx
open Go
noncomputable section
structure SI where
 dst:Option Nat
 gd:Option (Nat×Bool)
 op:SO
inductive SC where
 | skip
 | ops (l:List SI)
 | quiet (l:List SI)
 | feet (pm:List Nat) (l:List SI)
 | seq (a b:SC)
 | cond (c:Od) (a b:SC)
 | blk (id:Nat) (b:SC)
 | loop (b:SC)
 | exit (id:Nat)
 | ret
 | rng (nt:Nat) (f:Od) (ps:List Nat) (assign body:SC)
 | raw (nt:Nat) (c:Code)
def OR.sat (r:OR)(K:AV->G->Prop)(g:G)(D:ADf->Prop):Prop :=
 match r with
 | .fail=>False
 | .val v=>K v g
 | .upd v g'=>K v g'
 | .dfr a=>D a
def CR.sat (r:CR)(Q:Ex->T->List ADf->G->Prop):Prop :=
 match r with
 | .fail=>False
 | .ok e t df g=>Q e t df g
def FR.sat (r:FR)(Q:AV->G->Prop):Prop :=
 match r with
 | .fail=>False
 | .ok v g=>Q v g
def Ci (dst:Option Nat)(t:T)(v:AV):T:=match dst with | none=>t | some d=>eV t d v
abbrev PT:=T->List ADf->G->Prop
abbrev QT:=Ex->T->List ADf->G->Prop
def tM (q:Bool)(A B:PT)(t:T)(df:List ADf)(g:G):Prop:=(q=true->A t df g)/\(q=false->B t df g)
def gdP (v:AV)(w:Bool)(A B:PT)(t:T)(df:List ADf)(g:G):Prop :=
 match v with
 | .bool q=>ap w (tM q A B t df g) (tM q B A t df g)
 | .tup _=>B t df g
 | _=>False
def kO (W:PT)(dst:Option Nat)(t:T)(df:List ADf)(v:AV)(g:G):Prop:=W (Ci dst t v) df g
def kD (W:PT)(dst:Option Nat)(t:T)(df:List ADf)(g:G)(a:ADf):Prop:=W (Ci dst t .undef) (a::df) g
def CE (C:Cfg)(d:Nat)(rd:Option Nat)(i:SI)(W:PT)(t:T)(df:List ADf)(g:G):Prop:=(i.op.run C d rd t g).sat (kO W i.dst t df) g (kD W i.dst t df g)
def xR (i:SI)(W:PT)(t:T)(df:List ADf)(g:G):Prop:=W (Ci i.dst t .undef) df g
def wpO (C:Cfg)(d:Nat)(rd:Option Nat):List SI->PT->T->List ADf->G->Prop
 | [],Q,t,df,g=>Q t df g
 | i::r,Q,t,df,g =>
  match i.gd with
  | none=>CE C d rd i (wpO C d rd r Q) t df g
  | some (s,w)=>gdP (tat t s) w (CE C d rd i (wpO C d rd r Q)) (xR i (wpO C d rd r Q)) t df g
def SO.foot (C:Cfg)(t:T)(g:G):SO->Looks
 | .load _ _ a=>ac (af (a.get t))
 | .store _ a _=>ac (af (a.get t))
 | .slc _ a _ _=>ac (af (a.get t))
 | .sla _ _ a _ _=>ac (af (a.get t))
 | .ixs _ a _=>ac (af (a.get t))
 | .app _ _ a x=>ac (af (a.get t)++af (x.get t))
 | .cpy _ a x=>ac (af (a.get t)++af (x.get t))
 | .mx a x=>ac (af (a.get t)++af (x.get t))
 | .mn a x=>ac (af (a.get t)++af (x.get t))
 | .len lk a=>match lk with | .map=>ac (tp (a.get t)) | _=>ay
 | .call f as=>ap ((C.ext f).isSome || C.iso f) (ac ((fe t as).flatMap (aw g.h aD))) cD
 | .dyn f as=>match f.get t with
  | .clo f first cap=>ap ((C.ext f).isSome || C.iso f) (ac ((first++(fe t as++cap)).flatMap (aw g.h aD))) cD
  | _=>cD
 | .raw op=>(aH C op).run t g
 | _=>ay
abbrev FT:=T->List ADf->G->List Foot->Prop
def kF (W:FT)(dst:Option Nat)(t:T)(df:List ADf)(lg:List Nat)(fs:List Foot)(lk:Looks)(v:AV)(g':G):Prop:=W (Ci dst t v) df (mQ g' (g'.lg++lg)) (⟨lk,g'.lg⟩::fs)
def Ho (C:Cfg)(d:Nat)(rd:Option Nat)(i:SI)(W:FT)(fs:List Foot)(t:T)(df:List ADf)(g:G):Prop :=
 (i.op.run C d rd t (aM g [])).sat (kF W i.dst t df g.lg fs (i.op.foot C t g)) (aM g []) (λ_=>False)
def CI (i:SI)(W:FT)(fs:List Foot)(t:T)(df:List ADf)(g:G):Prop:=W (Ci i.dst t .undef) df g (⟨ay,[]⟩::fs)
def wpF (C:Cfg)(d:Nat)(rd:Option Nat)(pm:List Nat):List SI->PT->T->List ADf->G->List Foot->Prop
 | [],Q,t,df,g,fs=>oe pm fs.reverse=true/\Q t df g
 | i::r,Q,t,df,g,fs =>
  match i.gd with
  | none=>Ho C d rd i (wpF C d rd pm r Q) fs t df g
  | some (s,w)=>gdP (tat t s) w (Ho C d rd i (wpF C d rd pm r Q) fs) (CI i (wpF C d rd pm r Q) fs) t df g
def kS (W:PT)(Q:QT)(e:Ex)(t:T)(df:List ADf)(g:G):Prop:=match e with | .norm=>W t df g | e=>Q e t df g
def kB (id:Nat)(Q:QT)(e:Ex)(t:T)(df:List ADf)(g:G):Prop:=match e with | .exit j=>ap (Nat.beq j id) (Q .norm t df g) (Q (.exit j) t df g) | e=>Q e t df g
def kL (Inv:Nat->PT)(k:Nat)(Q:QT)(e:Ex)(t:T)(df:List ADf)(g:G):Prop:=match e with | .norm=>∃k',k'<k/\Inv k' t df g | e=>Q e t df g
def kQ (g0:G)(Q:QT)(t:T)(df:List ADf)(g:G):Prop:=g.lg=[]/\g.nx=g0.nx/\Q .norm t df g0
def wpC (v:AV)(A B:PT)(t:T)(df:List ADf)(g:G):Prop:=match v with | .bool q=>tM q A B t df g | _=>False
def wpL (W:QT->PT)(Q:QT)(t:T)(df:List ADf)(g:G):Prop :=
 ∃Inv:Nat->PT,(∃k,Inv k t df g)/\∀k t df g,Inv k t df g->W (kL Inv k Q) t df g
def nGd (all:List Oper):Option (Nat×Bool)->Option (Option (Nat×Bool))
 | none=>some none
 | some (j,w)=>match all[j]? with
  | some o=>match o.dst with
   | some d=>some (some (d,w))
   | none=>none
  | none=>none
def Om (nt:Nat):Option Nat->Bool
 | none=>true
 | some d=>Nat.blt d nt
def G3 (C:Cfg)(nt:Nat)(all:List Oper):List Oper->Option (List SI)
 | []=>some []
 | o::rest=>match Om nt o.dst,nGd all o.guard,G3 C nt all rest with
  | true,some gd,some r=>some (⟨o.dst,gd,nOp C o.op⟩::r)
  | _,_,_=>none
def dQ (C:Cfg)(nt:Nat):Code->SC
 | .skip=>.skip
 | .label _=>.skip
 | .region p ops draw=>match G3 C nt ops.toList ops.toList with
  | some l=>ap draw (ap (AC ops.toList) (ap (ops.toList.all λo=>vF C o.op) (.quiet l) (.feet (bf ops.toList []) l)) (.raw nt (.region p ops draw))) (.ops l)
  | none=>.raw nt (.region p ops draw)
 | .seq a b=>.seq (dQ C nt a) (dQ C nt b)
 | .cond c a b=>match nOd C c with
  | some c=>.cond c (dQ C nt a) (dQ C nt b)
  | none=>.raw nt (.cond c a b)
 | .block id b=>.blk id (dQ C nt b)
 | .loop b=>.loop (dQ C nt b)
 | .scope b=>dQ C nt b
 | .exit id=>.exit id
 | .ret=>.ret
 | .rangeFunc f ps assign body=>match nOd C f with
  | some f=>.rng nt f ps.toList (dQ C nt assign) (dQ C nt body)
  | none=>.raw nt (.rangeFunc f ps assign body)
 | c=>.raw nt c
def wp (C:Cfg)(d:Nat)(rd:Option Nat):SC->QT->T->List ADf->G->Prop
 | .skip,Q,t,df,g=>Q .norm t df g
 | .ops l,Q,t,df,g=>wpO C d rd l (Q .norm) t df g
 | .quiet l,Q,t,df,g=>wpO C d rd l (kQ g Q) t df (aM g [])
 | .feet pm l,Q,t,df,g=>wpF C d rd pm l (Q .norm) t df g []
 | .seq a b,Q,t,df,g=>wp C d rd a (kS (wp C d rd b Q) Q) t df g
 | .cond c a b,Q,t,df,g=>wpC (c.get t) (wp C d rd a Q) (wp C d rd b Q) t df g
 | .blk id b,Q,t,df,g=>wp C d rd b (kB id Q) t df g
 | .loop b,Q,t,df,g=>wpL (wp C d rd b) Q t df g
 | .exit id,Q,t,df,g=>Q (.exit id) t df g
 | .ret,Q,t,df,g=>Q .ret t df g
 | .rng nt f ps a b,Q,t,df,g=>∀assign body,dQ C nt assign=a->dQ C nt body=b->(lu C nt (λt=>f.get t) ps assign body (I C) d rd t df g).sat Q
 | .raw nt c,Q,t,df,g=>((aP C nt c).run (I C) d rd t df g).sat Q
theorem FC {nt:Nat}{dst:Option Nat}(h:Om nt dst=true):∃o,rQ nt dst=some o/\∀t v,o.run t v=Ci dst t v:=by
 cases dst with
 | none=>exact ⟨_,rfl,λt v=>rfl⟩
 | some d =>
  refine ⟨sp AV.undef d,?_,λt v=>rfl⟩;have h:Nat.blt d nt=true:=h;simp only[rQ,h]
theorem yP {all:List Oper}{j:Nat}{w:Bool}{r:Option (Nat×Bool)}(h:nGd all (some (j,w))=some r) :
  ∃s,r=some (s,w)/\iA all (some (j,w))=some ⟨λt=>match (gp AV.undef s).run t with | .bool b=>some (ap w b (jj b)) | .tup _=>some false | _=>none⟩:=by
 unfold nGd at h;dsimp only at h
 split at h
 ·rename_i o ho
  split at h
  ·rename_i d hd;injection h with h;exact ⟨d,h.symm,by simp only[iA,ho,hd];rfl⟩
  ·cases h
 ·cases h
theorem xQ {out:T->AV->T}{dst:Option Nat}(ho:∀t v,out t v=Ci dst t v){next:T->List ADf->G->CR}{Q:QT}{K:PT}(hk:∀t df g,K t df g->(next t df g).sat Q)
  {t:T} {df:List ADf} {g:G} {r:OR} (h:r.sat (kO K dst t df) g (kD K dst t df g)):(mN out next t df g r).sat Q:=by
 cases r with
 | fail=>exact h.elim
 | val v=>exact hk _ _ _ (by rw[ho];exact h)
 | upd v g'=>exact hk _ _ _ (by rw[ho];exact h)
 | dfr a=>exact hk _ _ _ (by rw[ho];exact h)
theorem BP {v:AV}{w:Bool}{A B:PT}{t:T}{df:List ADf}{g:G}(h:gdP v w A B t df g) :
  ∃q,(match v with | .bool b=>some (ap w b (jj b)) | .tup _=>some false | _=>none:Option Bool)=some q/\(q=true->A t df g)/\(q=false->B t df g):=by
 unfold gdP at h
 split at h
 ·rename_i q;rw[aa] at h;refine ⟨_,rfl,?_,?_⟩
  ·cases w<;>cases q<;>simp_all [tM]
  ·cases w<;>cases q<;>simp_all [tM]
 ·exact ⟨false,rfl,λh=>(by cases h),λ_=>h⟩
 ·exact h.elim
theorem KM {C:Cfg}{d:Nat}{rd:Option Nat}{nt:Nat}{all:List Oper}{Q:QT}:∀(l:List Oper) (s:List SI),G3 C nt all l=some s->∀t df g,wpO C d rd s (Q .norm) t df g ->
  ((iB C nt all l).run (I C) d rd t df g).sat Q:=by
 intro l
 induction l with
 | nil=>intro s h t df g hq;injection h with h;subst h;exact hq
 | cons o rest ih =>
  intro s h t df g hq;unfold G3 at h
  split at h
  ·rename_i gd r hd hg hr;injection h with h;subst h;obtain ⟨ot,e1,e2⟩:=FC hd;unfold iB;rw[e1];dsimp only;cases hgd:o.guard with
   | none =>
    rw[hgd] at hg;injection hg with hg;subst hg;dsimp only;rw[<-At];exact xQ e2 (λt df g h=>ih r hr t df g h) hq
   | some jw =>
    obtain ⟨j,w⟩:=jw;rw[hgd] at hg;obtain ⟨sl,h1,h2⟩:=yP hg;subst h1;dsimp only;rw[h2];dsimp only;obtain ⟨q,h3,h4,h5⟩:=BP hq;have:(gp AV.undef sl).run t=tat t sl:=gp_run _ _ _;rw[this,h3];cases q with
    | true =>
     dsimp only;rw[<-At];exact xQ e2 (λt df g h=>ih r hr t df g h) (h4 rfl)
    | false =>
     dsimp only;rw[e2];exact ih r hr _ _ _ (h5 rfl)
  ·cases h
theorem G4 {C:Cfg}{op:Op}(hc:∀c,op≠.call c){t:T}{g:G}:(JC C op).foot C t g=(aH C op).run t g:=by
 have hod:∀{x:Operand} {o:Od},nOd C x=some o->∃s,aQ C x=some s/\∀t,s.run t=o.get t:=aV;unfold JC
 split
 case h_8 ty a =>
  split
  ·rename_i a ag n ha h2 h3;obtain ⟨s,hs,he⟩:=hod ha;simp only[aH,hs,SO.foot,he]
  ·rfl
 case h_9 ty a x =>
  split
  ·rename_i a x n ha hx h3;obtain ⟨s,hs,he⟩:=hod ha;simp only[aH,hs,SO.foot,he]
  ·rfl
 case h_16 ty x lo hi =>
  split
  ·rename_i e x l h h0 hx hl hh;obtain ⟨s,hs,he⟩:=hod hx
   split
   ·simp only[aH,hs,SO.foot,he]
   ·rfl
  ·rename_i n e x l h h0 hx hl hh;obtain ⟨s,hs,he⟩:=hod hx
   split
   ·simp only[aH,hs,SO.foot,he]
   ·rfl
  ·rfl
 case h_19 ty x ix =>
  split
  ·rename_i a i ha hi;obtain ⟨s,hs,he⟩:=hod ha
   split
   ·rename_i e h0
    split
    ·simp only[aH,h0,hs,SO.foot,he]
    ·rfl
   ·rename_i n e h0
    split
    ·simp only[aH,h0,SO.foot]
    ·rfl
   ·rfl
  ·rfl
 all_goals (repeat' (first | rfl | split | rw[aa]))
theorem JB {C:Cfg}{op:Op}{t:T}{g:G}:(nOp C op).foot C t g=(aH C op).run t g:=by
 unfold nOp
 split
 ·rename_i f args ats
  split
  ·rename_i vs hv;obtain ⟨s,hs,he⟩:=cF hv;simp only[SO.foot,aH,aQ,hs,he,List.nil_append,List.append_nil]
  ·rfl
 ·rename_i fo args ats hnf
  split
  ·rename_i f vs hf hv;obtain ⟨s,hs,he⟩:=cF hv;obtain ⟨s2,hs2,he2⟩:=aV hf;simp only[SO.foot,aH,hs,hs2,he,he2];cases Od.get t f<;>rfl
  ·rfl
 ·rename_i b args ats
  split
  ·rename_i x hx;obtain ⟨s,hs,he⟩:=cF hx
   split
   ·rename_i ty hty;simp only[SO.foot,aH,hs,he,fe,List.flatMap_cons,List.flatMap_nil,List.append_nil,jK,hty];cases jO C.P ty<;>rfl
   ·rfl
  ·rename_i a x hx;obtain ⟨s,hs,he⟩:=cF hx;have hfoot:(aH C (.call { callee:=.builtin .append,args:=args,argTypes:=ats })).run t g=ac (af (a.get t)++af (x.get t)):=by simp only[aH,hs,he,fe,List.flatMap_cons,List.flatMap_nil,List.append_nil,jK]
   split
   ·split
    ·split
     ·rw[aa];split
      ·exact hfoot.symm
      ·rfl
     ·rfl
    ·rfl
   ·rfl
  ·rename_i a x hx;obtain ⟨s,hs,he⟩:=cF hx;have hfoot:(aH C (.call { callee:=.builtin .copy,args:=args,argTypes:=ats })).run t g=ac (af (a.get t)++af (x.get t)):=by simp only[aH,hs,he,fe,List.flatMap_cons,List.flatMap_nil,List.append_nil,jK]
   split
   ·split
    ·split
     ·exact hfoot.symm
     ·rfl
    ·rfl
   ·rfl
  ·rename_i a x hx;obtain ⟨s,hs,he⟩:=cF hx;simp only[SO.foot,aH,hs,he,fe,List.flatMap_cons,List.flatMap_nil,List.append_nil,jK]
  ·rename_i a x hx;obtain ⟨s,hs,he⟩:=cF hx;simp only[SO.foot,aH,hs,he,fe,List.flatMap_cons,List.flatMap_nil,List.append_nil,jK]
  ·rfl
 ·rename_i h1 h2 h3;cases op with
  | call c=>rfl
  | _=>exact G4 (λc h=>by cases h)
theorem N9 {C:Cfg}{d:Nat}{rd:Option Nat}{nt:Nat}{all:List Oper}{pm:List Nat}{Q:QT}:∀(l:List Oper) (s:List SI) (k:Nat),G3 C nt all l=some s->∀t df g fs,wpF C d rd pm s (Q .norm) t df g fs ->
  ((gJ C nt pm all k l).run (I C) d rd t df g fs).sat Q:=by
 intro l
 induction l with
 | nil =>
  intro s k h t df g fs hq;injection h with h;subst h;obtain ⟨h1,h2⟩:=hq;unfold gJ;dsimp only;rw[h1];exact h2
 | cons o rest ih =>
  intro s k h t df g fs hq;unfold G3 at h
  split at h
  ·rename_i gd r hd hg hr;injection h with h;subst h;obtain ⟨ot,e1,e2⟩:=FC hd;have step:∀{x:OR},x.sat (kF (wpF C d rd pm r (Q .norm)) o.dst t df g.lg fs ((nOp C o.op).foot C t g)) (aM g []) (λ_=>False) ->
     (jp ot.run ((gJ C nt pm all (k+1) rest).run (I C) d rd) t df g fs ((aH C o.op).run t g) x).sat Q:=by
    intro x hx;rw[JB] at hx;cases x with
    | fail=>exact hx.elim
    | val v =>
     simp only[jp,e2];refine ih r _ hr _ _ _ _ ?_;have hx:wpF C d rd pm r (Q .norm) (Ci o.dst t v) df (mQ (aM g []) ((aM g []).lg++g.lg)) (⟨(aH C o.op).run t g,(aM g []).lg⟩::fs):=hx;obtain ⟨h,nx,lg⟩:=g;exact hx
    | upd v g' =>
     simp only[jp,e2];exact ih r _ hr _ _ _ _ hx
    | dfr a=>exact hx.elim
   unfold gJ;rw[e1];cases hgd:o.guard with
   | none =>
    rw[hgd] at hg;injection hg with hg;subst hg;simp only[iA];rw[<-At];exact step hq
   | some jw =>
    obtain ⟨j,w⟩:=jw;rw[hgd] at hg;obtain ⟨sl,h1,h2⟩:=yP hg;subst h1;rw[h2];dsimp only;obtain ⟨q,h3,h4,h5⟩:=BP hq;have:(gp AV.undef sl).run t=tat t sl:=gp_run _ _ _;rw[this,h3];cases q with
    | true =>
     dsimp only;rw[<-At];exact step (h4 rfl)
    | false =>
     dsimp only;rw[e2];exact ih r _ hr _ _ _ _ (h5 rfl)
  ·cases h
theorem CR.sat_mono {r:CR}{Q Q':QT}(h:r.sat Q)(hq:∀e t df g,Q e t df g->Q' e t df g):r.sat Q':=by
 cases r with
 | fail=>exact h
 | ok e t df g=>exact hq _ _ _ _ h
theorem M_ {C:Cfg}{nt d:Nat}{rd:Option Nat}:∀(c:Code) (Q:QT) (t:T) (df:List ADf) (g:G),wp C d rd (dQ C nt c) Q t df g->((aP C nt c).run (I C) d rd t df g).sat Q:=by
 intro c
 induction c with
 | seq a b iha ihb =>
  intro Q t df g h;have h:=iha _ t df g h;show (yB _ ((aP C nt a).run (I C) d rd t df g)).sat Q;cases hr:(aP C nt a).run (I C) d rd t df g with
  | fail=>rw[hr] at h;exact h
  | ok e t1 df1 g1 =>
   rw[hr] at h;cases e with
   | norm=>exact ihb _ _ _ _ h
   | exit j=>exact h
   | ret=>exact h
 | cond q a b iha ihb =>
  intro Q t df g h;unfold dQ at h
  split at h
  ·rename_i o ho;obtain ⟨s,hs,he⟩:=aV ho;simp only[aP,hs,he];have h:wpC (o.get t) (wp C d rd (dQ C nt a) Q) (wp C d rd (dQ C nt b) Q) t df g:=h;unfold wpC at h;cases hv:Od.get t o with
   | bool v =>
    rw[hv] at h;cases v with
    | true=>exact iha _ _ _ _ (h.1 rfl)
    | false=>exact ihb _ _ _ _ (h.2 rfl)
   | _=>rw[hv] at h;exact h.elim
  ·exact h
 | block id body ih =>
  intro Q t df g h;have h:=ih _ t df g h;show (rt id ((aP C nt body).run (I C) d rd t df g)).sat Q;cases hr:(aP C nt body).run (I C) d rd t df g with
  | fail=>rw[hr] at h;exact h
  | ok e t1 df1 g1 =>
   rw[hr] at h;cases e with
   | norm=>exact h
   | exit j =>
    have h:ap (Nat.beq j id) (Q .norm t1 df1 g1) (Q (.exit j) t1 df1 g1):=h;show (ap (Nat.beq j id) _ _:CR).sat Q;cases hb:Nat.beq j id
    ·rw[hb] at h;exact h
    ·rw[hb] at h;exact h
   | ret=>exact h
 | loop body ih =>
  intro Q t df g h;obtain ⟨Inv,⟨k,hk⟩,hs⟩:=h
  induction k using Nat.strongRecOn generalizing t df g with
  | _ k rec =>
   have h:=ih _ t df g (hs k t df g hk);show (yB (λt df g=>(I C).code nt d rd (.loop body) t df g) ((aP C nt body).run (I C) d rd t df g)).sat Q;cases hr:(aP C nt body).run (I C) d rd t df g with
   | fail=>rw[hr] at h;exact h
   | ok e t1 df1 g1 =>
    rw[hr] at h;cases e with
    | norm =>
     obtain ⟨k',hlt,hi⟩:=h;show ((I C).code nt d rd (.loop body) t1 df1 g1).sat Q;rw[CY];exact rec k' hlt t1 df1 g1 hi
    | exit j=>exact h
    | ret=>exact h
 | scope body ih=>intro Q t df g h;exact ih _ _ _ _ h
 | region p ops draw =>
  intro Q t df g h;show ((e8 C nt ops.toList draw).run (I C) d rd t df g).sat Q;unfold dQ at h
  split at h
  ·rename_i l hl;rw[aa,aa,aa] at h;unfold e8;rw[aa,aa,aa]
   split
   ·rename_i hd;rw[if_pos hd] at h
    split
    ·rename_i ho;rw[if_pos ho] at h
     split
     ·rename_i hq;rw[if_pos hq] at h;have h:wpO C d rd l (kQ g Q) t df (aM g []):=h;have h:=KM (C:=C) (d:=d) (rd:=rd) (Q:=λe t df g'=>e=.norm/\g'.lg=[]/\g'.nx=g.nx/\Q .norm t df g) (nt:=nt) (all:=ops.toList) ops.toList l hl t df (aM g [])
       (by
        refine cast ?_ h;congr 1;funext t df g';simp[kQ])
      dsimp only;cases hr:(iB C nt ops.toList ops.toList).run (I C) d rd t df (aM g []) with
      | fail=>rw[hr] at h;exact h
      | ok e t1 df1 g1 =>
       rw[hr] at h;obtain ⟨h0,h1,h2,h3⟩:=h;subst h0;simp only[lq,h1,h2,Nat.beq_refl];exact h3
     ·rename_i hq;rw[if_neg hq] at h;exact N9 _ l 0 hl _ _ _ _ h
    ·rename_i ho;rw[if_neg ho] at h;unfold wp at h;simp only[aP,e8,aa,if_pos hd,if_neg ho] at h;exact h
   ·rename_i hd;rw[if_neg hd] at h;exact KM _ l hl _ _ _ h
  ·exact h
 | rangeFunc f ps assign body _ _ =>
  intro Q t df g h;unfold dQ at h
  split at h
  ·rename_i o ho;obtain ⟨s,hs,he⟩:=aV ho;have he:s.run=λt=>o.get t:=funext he;simp only[aP,hs,he];exact h assign body rfl rfl
  ·exact h
 | skip=>intro Q t df g h;exact h
 | label l=>intro Q t df g h;exact h
 | exit id=>intro Q t df g h;exact h
 | ret=>intro Q t df g h;exact h
 | goto l=>intro Q t df g h;exact h
 | refuse w=>intro Q t df g h;exact h
theorem OR.sat_mono {r:OR}{K K':AV->G->Prop}{g:G}{D D':ADf->Prop}(h:r.sat K g D)(hk:∀v g',K v g'->K' v g')(hd:∀a,D a->D' a):r.sat K' g D':=by
 cases r with
 | fail=>exact h
 | val v=>exact hk _ _ h
 | upd v g'=>exact hk _ _ h
 | dfr a=>exact hd _ h
inductive SR where
 | tm (n:Nat)
 | cell (ag:Bool) (n a:Nat)
structure SF where
 nt:Nat
 res:List SR
 code:SC
def Au (C:Cfg):List ResultVar->Option (List SR)
 | []=>some []
 | .tmp n::rs=>match Au C rs with
  | some k=>some (.tm n::k)
  | none=>none
 | .cell a ty::rs=>match Au C rs,po C.P ty,szT C.P ty with
  | some k,some ag,some n=>some (.cell ag n a::k)
  | _,_,_=>none
def nFn (C:Cfg)(f:Nat):Option SF :=
 match C.P.funcs[f]? with
 | none=>none
 | some fn=>match fn.body with
  | none=>none
  | some c=>match Au C fn.results.toList with
   | some r => ap (fn.name == "runtime.NumGoroutine") none (some ⟨fn.ntmps, r, dQ C fn.ntmps c⟩)
   | none=>none
def u_:List SR->T->G->(List AV->Prop)->Prop
 | [],_,_,K=>K []
 | .tm n::rs,t,g,K=>u_ rs t g λvs=>K (tat t n::vs)
 | .cell ag n a::rs,t,g,K=>match pf ag n (tat t a) g with
  | .val v=>u_ rs t g λvs=>K (v::vs)
  | _=>False
theorem L4 {C:Cfg}{t:T}{g:G}:∀(l:List ResultVar) (r:List SR) (K:List AV->Prop),Au C l=some r->u_ r t g K->∃s vs,sC C l=some s/\s.run t g=some vs/\K vs:=by
 intro l
 induction l with
 | nil=>intro r K h hk;injection h with h;subst h;exact ⟨_,[],rfl,rfl,hk⟩
 | cons x l ih =>
  intro r K h hk;cases x with
  | tmp n =>
   unfold Au at h
   split at h
   ·rename_i k hr;injection h with h;subst h;obtain ⟨s,vs,h1,h2,h3⟩:=ih k _ hr hk;refine ⟨⟨λt g=>match s.run t g with | some vs=>some ((gp AV.undef n).run t::vs) | none=>none⟩,tat t n::vs,by simp only[sC,h1];rfl,?_,h3⟩;simp only[h2,gp_run];rfl
   ·cases h
  | cell a ty =>
   unfold Au at h
   split at h
   ·rename_i k ag n hr ha hn;injection h with h;subst h;unfold u_ at hk
    split at hk
    ·rename_i v hv;obtain ⟨s,vs,h1,h2,h3⟩:=ih k _ hr hk;have hl:kY ag n (gp AV.undef a).run t g=.val v:=by rw[<-hv];simp only[pf,kY,gp_run];rfl
     refine ⟨⟨λt g=>match kY ag n (gp AV.undef a).run t g with | .val v=>(match s.run t g with | some vs=>some (v::vs) | none=>none) | _=>none⟩,v::vs,
      by simp only[sC,h1,bL,aQ,ha,hn];rfl,?_,h3⟩
     simp only[hl,h2]
    ·exact hk.elim
   ·cases h
def zU (C:Cfg)(d:Nat)(r:List SR)(t:T)(df:List ADf)(g:G)(K:AV->G->Prop):Prop :=
 match fC (I C) d df g with
 | some g'=>u_ r t g' λvs=>K (jk vs) g'
 | none=>False
def fnQ (C:Cfg)(d:Nat)(r:List SR)(K:AV->G->Prop):QT:=λe t df g=>match e with | .exit _=>False | _=>zU C d r t df g K
theorem qw {C:Cfg}{f:Nat}{s:SF}(hf:nFn C f=some s){d:Nat}{as:List AV}{g:G}{K:AV->G->Prop}(hl:as.length<=s.nt)(h:wp C d none s.code (fnQ C d s.res K) (bT 0 as .nil) [] g) :
  ((I C).call d f as g).sat K:=by
 rw[Nc];unfold nFn at hf
 split at hf
 ·cases hf
 rename_i fn hfn
 split at hf
 ·cases hf
 rename_i c hc
 split at hf
 rotate_left
 ·cases hf
 rename_i r hr;rw[aa] at hf
 split at hf
 ·cases hf
 rename_i hn;injection hf with hf;subst hf;have h:=M_ c _ _ _ _ h;have hres:∃s,sC C fn.results.toList=some s:=by
  have:∀(l:List ResultVar) (r:List SR),Au C l=some r->∃s,sC C l=some s:=by
   intro l
   induction l with
   | nil=>intro r _;exact ⟨_,rfl⟩
   | cons x l ih =>
    intro r h;cases x with
    | tmp n =>
     unfold Au at h
     split at h
     ·rename_i k hr;obtain ⟨s,hs⟩:=ih k hr;exact ⟨_,by simp only[sC,hs];rfl⟩
     ·cases h
    | cell a ty =>
     unfold Au at h
     split at h
     ·rename_i k ag n hr ha hn;obtain ⟨s,hs⟩:=ih k hr;exact ⟨_,by simp only[sC,hs,bL,aQ,ha,hn];rfl⟩
     ·cases h
  exact this _ _ hr
 obtain ⟨rs,hrs⟩:=hres;unfold dO cFn;simp only[hfn,hc,hrs,aa,if_neg hn];rw[if_pos (by rw[aB,Nat.ble_eq];exact hl)];cases hrun:(aP C fn.ntmps c).run (I C) d none (bT 0 as .nil) [] g with
 | fail=>rw[hrun] at h;exact h
 | ok e t df g' =>
  rw[hrun] at h;have key:zU C d r t df g' K->(fZ (I C) d rs.run t df g').sat K:=by
   intro h;unfold zU at h;unfold fZ
   split at h
   ·rename_i g2 hg2;rw[hg2];obtain ⟨s2,vs,h1,h2,h3⟩:=L4 _ _ _ hr h;rw[hrs] at h1;injection h1 with h1;subst h1;simp only[h2];exact h3
   ·exact h.elim
  cases e with
  | exit j=>exact h
  | norm=>exact key h
  | ret=>exact key h
end
end Hx
end
section
namespace Hx
open Go
def All2 {α β:Type}(R:α->β->Prop):List α->List β->Prop
 | [],[]=>True
 | a::as,b::bs=>R a b/\All2 R as bs
 | _,_=>False
section all2
variable {α β:Type}{R S:α->β->Prop}
theorem All2.len:∀{l:List α} {m:List β},All2 R l m->l.length=m.length
 | [],[],_=>rfl
 | _::_,_::_,h=>by simp only[List.length_cons,All2.len h.2]
theorem All2.mono (hs:∀a b,R a b->S a b):∀{l:List α} {m:List β},All2 R l m->All2 S l m
 | [],[],_=>trivial
 | _::_,_::_,h=>⟨hs _ _ h.1,All2.mono hs h.2⟩
theorem All2.get:∀{l:List α} {m:List β},All2 R l m->∀{i:Nat} {a:α},l[i]?=some a->∃b,m[i]?=some b/\R a b
 | _::_,b::_,h,0,_,e=>by simp at e;subst e;exact ⟨b,rfl,h.1⟩
 | _::_,_::_,h,i+1,a,e=>by simpa using All2.get h.2 (i:=i) (by simpa using e)
 | [],[],_,i,a,e=>by simp at e
theorem All2.take:∀{l:List α} {m:List β},All2 R l m->∀(i:Nat),All2 R (l.take i) (m.take i)
 | [],[],_,_=>by simp[All2]
 | _::_,_::_,h,0=>by simp[All2]
 | _::_,_::_,h,i+1=>⟨h.1,All2.take h.2 i⟩
theorem All2.drop:∀{l:List α} {m:List β},All2 R l m->∀(i:Nat),All2 R (l.drop i) (m.drop i)
 | [],[],_,_=>by simp[All2]
 | _::_,_::_,h,0=>h
 | _::_,_::_,h,i+1=>All2.drop h.2 i
theorem All2.of_map {f:α->β}(h:∀a,R a (f a)):∀l:List α,All2 R l (l.map f)
 | []=>trivial
 | a::l=>⟨h a,All2.of_map h l⟩
theorem All2.eq_map {f:α->β}(hf:∀a b,R a b->b=f a):∀{l:List α} {m:List β},All2 R l m->m=l.map f
 | [],[],_=>rfl
 | a::l,b::m,h=>by rw[List.map_cons,hf _ _ h.1,All2.eq_map hf h.2]
end all2
def NoP:Nat->Prop:=λ_=>False
class Rp (α:Type) where
 sz:Nat
 dp:Nat
 rp:(Nat->Prop)->Nat->H->α->List AV->Prop
 len:∀{P k h x cs},rp P k h x cs->cs.length=sz
 mono:∀{P P':Nat->Prop} {k k':Nat} {h h':H} {x:α} {cs:List AV},rp P k h x cs->(∀i,P i->P' i/\h'.get i=h.get i)->k<=k'->rp P' k' h' x cs
 snap:∀{P k h x cs n} (d:Nat),rp P k h x cs->dp<=n->dp<=aD->∃cs',aI (Hx.snap h d n) cs=some cs'/\rp NoP (max k d) .nil x cs'
 same:∀{k h x cs n} (d:Nat),rp NoP k h x cs->dp<=n->aI (Hx.snap h d n) cs=some cs
 ids:∀{P k h x cs n},rp P k h x cs->∀i∈cs.flatMap (aw h n),P i
 tag:∀{k h x cs n},rp NoP k h x cs->dp<=n->∃m,h_ (eD n) cs=some m/\m<=k
theorem Rp.tree {α:Type} [Rp α]{P:Nat->Prop}{k k':Nat}{h h':H}{x:α}{cs:List AV}(r:Rp.rp NoP k h x cs)(hk:k<=k'):Rp.rp P k' h' x cs :=
 Rp.mono r (λ_ h=>h.elim) hk
def AV.flat:AV->Bool
 | .bool _ | .int _ _ | .str _=>true
 | _=>false
theorem zy {h:H}{d n:Nat}{v:AV}(hv:v.flat=true)(hn:1<=n):Hx.snap h d n v=some v:=by obtain ⟨n,rfl⟩:∃m,n=m+1:=⟨n - 1,by omega⟩;cases v<;>first | rfl | cases hv
theorem KA {n:Nat}{v:AV}(hv:v.flat=true)(hn:1<=n):eD n v=some 0:=by obtain ⟨n,rfl⟩:∃m,n=m+1:=⟨n - 1,by omega⟩;cases v<;>first | rfl | cases hv
theorem IV {h:H}{n:Nat}{v:AV}(hv:v.flat=true):aw h n v=[]:=by
 cases n with
 | zero=>rfl
 | succ n=>cases v<;>first | rfl | cases hv
@[reducible] def Rp.plain {α:Type} (f:α->AV) (ok:α->Prop) (hf:∀x,(f x).flat=true):Rp α where
 sz:=1
 dp:=1
 rp:=λ_ _ _ x cs=>cs=[f x]/\ok x
 len:=by rintro P k h x cs ⟨rfl,-⟩;rfl
 mono:=λr _ _=>r
 snap:=by rintro P k h x cs n d ⟨rfl,ho⟩ hn _;exact ⟨[f x],by simp only[aI,zy (hf x) hn],rfl,ho⟩
 same:=by rintro k h x cs n d ⟨rfl,ho⟩ hn;simp only[aI,zy (hf x) hn]
 ids:=by rintro P k h x cs n ⟨rfl,ho⟩ i hi;simp[IV (hf x)] at hi
 tag:=by rintro k h x cs n ⟨rfl,ho⟩ hn;exact ⟨0,by simp[h_,KA (hf x) hn],Nat.zero_le _⟩
def ci (x:Int):List AV:=[.int .i64 x]
def cu (x:Nat):List AV:=[.int .u64 (x:Int)]
instance : Rp Int:=Rp.plain (λx=>.int .i64 x) (λ_=>True) (λ_=>rfl)
instance : Rp Bool:=Rp.plain (λx=>.bool x) (λ_=>True) (λ_=>rfl)
instance : Rp Nat:=Rp.plain (λx=>.int .u64 (x:Int)) (λx=>x<18446744073709551616) (λ_=>rfl)
instance : Rp UInt8:=Rp.plain (λx=>.int .u8 (x.toNat:Int)) (λ_=>True) (λ_=>rfl)
instance : Rp UInt16:=Rp.plain (λx=>.int .u16 (x.toNat:Int)) (λ_=>True) (λ_=>rfl)
theorem qh {α β:Type}{f:α->Option β}:∀{l m:List α} {a b:List β},aI f l=some a->aI f m=some b->aI f (l++m)=some (a++b)
 | [],m,a,b,h1,h2=>by injection h1 with h1;subst h1;exact h2
 | x::l,m,a,b,h1,h2=>by
  unfold aI at h1
  split at h1
  ·rename_i y hy
   split at h1
   ·rename_i ys hys;injection h1 with h1;subst h1;simp only[List.cons_append,aI,hy,qh hys h2]
   ·cases h1
  ·cases h1
theorem uD {α:Type}{f:α->Option Nat}:∀{l m:List α} {a b:Nat},h_ f l=some a->h_ f m=some b->h_ f (l++m)=some (max a b)
 | [],m,a,b,h1,h2=>by injection h1 with h1;subst h1;simpa using h2
 | x::l,m,a,b,h1,h2=>by
  unfold h_ at h1
  split at h1
  ·rename_i y hy
   split at h1
   ·rename_i ys hys;injection h1 with h1;subst h1;simp only[List.cons_append,h_,hy,uD hys h2,Option.some.injEq,Nat.max_def]
    repeat' split
    all_goals omega
   ·cases h1
  ·cases h1
instance {α β:Type} [Rp α] [Rp β]:Rp (α×β) where
 sz:=Rp.sz α+Rp.sz β
 dp:=max (Rp.dp α) (Rp.dp β)
 rp:=λP k h x cs=>∃a b,cs=a++b/\Rp.rp P k h x.1 a/\Rp.rp P k h x.2 b
 len:=by rintro P k h x cs ⟨a,b,rfl,h1,h2⟩;rw[List.length_append,Rp.len h1,Rp.len h2]
 mono:=by rintro P P' k k' h h' x cs ⟨a,b,rfl,h1,h2⟩ hp hk;exact ⟨a,b,rfl,Rp.mono h1 hp hk,Rp.mono h2 hp hk⟩
 snap:=by rintro P k h x cs n d ⟨a,b,rfl,h1,h2⟩ hn hA;obtain ⟨a',e1,r1⟩:=Rp.snap (n:=n) d h1 (by omega) (by omega);obtain ⟨b',e2,r2⟩:=Rp.snap (n:=n) d h2 (by omega) (by omega);exact ⟨a'++b',qh e1 e2,a',b',rfl,r1,r2⟩
 same:=by rintro k h x cs n d ⟨a,b,rfl,h1,h2⟩ hn;exact qh (Rp.same d h1 (by omega)) (Rp.same d h2 (by omega))
 ids:=by
  rintro P k h x cs n ⟨a,b,rfl,h1,h2⟩ i hi;rw[List.flatMap_append,List.mem_append] at hi;rcases hi with hi | hi
  ·exact Rp.ids h1 i hi
  ·exact Rp.ids h2 i hi
 tag:=by rintro k h x cs n ⟨a,b,rfl,h1,h2⟩ hn;obtain ⟨m1,e1,l1⟩:=Rp.tag (n:=n) h1 (by omega);obtain ⟨m2,e2,l2⟩:=Rp.tag (n:=n) h2 (by omega);exact ⟨max m1 m2,uD e1 e2,by omega⟩
@[reducible] def Rp.via {α β:Type} [Rp β] (f:α->β):Rp α where
 sz:=Rp.sz β
 dp:=Rp.dp β
 rp:=λP k h x cs=>Rp.rp P k h (f x) cs
 len:=Rp.len
 mono:=Rp.mono
 snap:=Rp.snap
 same:=Rp.same
 ids:=Rp.ids
 tag:=Rp.tag
def SlV {α:Type} [Rp α](P:Nat->Prop)(k:Nat)(h:H)(l:List α)(v:AV):Prop :=
 match v with
 | .nils | .esl=>l=[]
 | .tsl t s rows=>t<=k/\(s=Rp.sz α\/rows=[])/\All2 (Rp.rp NoP k .nil) l rows
 | .hsl id _ _ _ _=>P id/\∃rows,ah h (Rp.sz α) v=some rows/\All2 (Rp.rp P k h) l rows
 | _=>False
def SlR {α:Type} [Rp α](P:Nat->Prop)(k:Nat)(h:H)(l:List α)(v:AV):Prop:=l.length<9223372036854775808/\SlV P k h l v
theorem SlR.rows {α:Type} [Rp α]{P:Nat->Prop}{k:Nat}{h:H}{l:List α}{v:AV}(r:SlR P k h l v):∃rows,ah h (Rp.sz α) v=some rows/\All2 (Rp.rp P k h) l rows:=by
 have r:=r.2;unfold SlV at r
 split at r
 ·subst r;exact ⟨[],rfl,trivial⟩
 ·subst r;exact ⟨[],rfl,trivial⟩
 ·obtain ⟨h1,h2,h3⟩:=r;refine ⟨_,?_,h3.mono λa b r=>Rp.tree r (Nat.le_refl _)⟩;simp only[ah];rw[aa];rcases h2 with h2 | h2
  ·subst h2;simp
  ·subst h2;simp
 ·exact r.2
 ·exact r.elim
theorem zi {α β γ:Type}{R:α->β->Prop}{S:α->γ->Prop}{f:β->Option γ}(hf:∀a b,R a b->∃c,f b=some c/\S a c):∀{l:List α} {m:List β},All2 R l m->∃r,aI f m=some r/\All2 S l r
 | [],[],_=>⟨[],rfl,trivial⟩
 | a::l,b::m,h=>by obtain ⟨c,e1,s1⟩:=hf a b h.1;obtain ⟨r,e2,s2⟩:=zi hf h.2;exact ⟨c::r,by simp only[aI,e1,e2],s1,s2⟩
theorem zk {α β:Type}{R:α->β->Prop}{f:β->Option Nat}{k:Nat}(hf:∀a b,R a b->∃m,f b=some m/\m<=k):∀{l:List α} {m:List β},All2 R l m->∃r,h_ f m=some r/\r<=k
 | [],[],_=>⟨0,rfl,Nat.zero_le _⟩
 | a::l,b::m,h=>by obtain ⟨c,e1,s1⟩:=hf a b h.1;obtain ⟨r,e2,s2⟩:=zk hf h.2;exact ⟨max c r,by simp only[h_,e1,e2],by omega⟩
theorem B9 {α β:Type}{R:α->β->Prop}:∀{l:List α} {m:List β},All2 R l m->∀b∈m,∃a,R a b
 | [],[],_,b,hb=>by simp at hb
 | a::l,c::m,h,b,hb=>by
  rcases List.mem_cons.1 hb with rfl | hb
  ·exact ⟨a,h.1⟩
  ·exact B9 h.2 b hb
theorem uH {h h':H}{sz:Nat}{v:AV}(he:∀id ep off len lim,v=.hsl id ep off len lim->h'.get id=h.get id):ah h' sz v=ah h sz v:=by
 cases v with
 | hsl id ep off len lim=>simp only[ah,he id ep off len lim rfl]
 | _=>rfl
instance {α:Type} [Rp α]:Rp (List α) where
 sz:=1
 dp:=Rp.dp α+1
 rp:=λP k h l cs=>∃v,cs=[v]/\SlR P k h l v
 len:=by rintro P k h x cs ⟨v,rfl,h1⟩;rfl
 mono:=by
  rintro P P' k k' h h' x cs ⟨v,rfl,h0,h1⟩ hp hk;refine ⟨v,rfl,h0,?_⟩;unfold SlV at h1 ⊢
  split at h1
  ·exact h1
  ·exact h1
  ·exact ⟨by omega,h1.2.1,h1.2.2.mono λa b r=>Rp.mono r (λi hi=>hi.elim) hk⟩
  ·rename_i id ep off len lim;obtain ⟨a,rows,b,c⟩:=h1;refine ⟨(hp _ a).1,rows,?_,c.mono λa b r=>Rp.mono r hp hk⟩;rw[<-b];exact uH λ_ _ _ _ _ e=>by injection e with e;subst e;exact (hp _ a).2
  ·exact h1
 snap:=by
  rintro P k h x cs n d ⟨v,rfl,h0,h1⟩ hn hA;obtain ⟨n,rfl⟩:∃m,n=m+1:=⟨n - 1,by omega⟩;have hdA:(23:Nat)+1=aD:=rfl;cases v with
  | nils=>exact ⟨_,rfl,_,rfl,h0,h1⟩
  | esl=>exact ⟨_,rfl,_,rfl,h0,h1⟩
  | tsl t s rows =>
   refine ⟨_,rfl,_,rfl,h0,?_⟩;obtain ⟨q1,q2,q3⟩:=h1;exact ⟨by omega,q2,q3.mono λa b r=>Rp.mono r (λi hi=>hi.elim) (by omega)⟩
  | hsl id ep off len lim =>
   obtain ⟨q1,rows,q2,q3⟩:=h1;simp only[ah] at q2
   split at q2
   ·rename_i sz' rows' ep' lo fz hg;rw[aa] at q2
    split at q2
    ·rename_i hc;simp only[Bool.and_eq_true] at hc;obtain ⟨⟨hc1,hc2⟩,hc3⟩:=hc;injection q2 with q2;have e1:=Nat.eq_of_beq_eq_true hc2;subst e1;obtain ⟨rs,e2,a2⟩:=zi (S:=Rp.rp NoP (max k d) .nil) (f:=aI (Hx.snap h d n)) (λa b r=>Rp.snap (n:=n) d r (by omega) (by omega)) q3;obtain ⟨m,e3,l3⟩:=zk (f:=h_ (eD aD)) (k:=max k d) (λa b r=>Rp.tag (n:=aD) r (by omega)) a2;refine ⟨[.tsl (Nat.max d m) (Rp.sz α) rs],?_,_,rfl,h0,?_⟩
     ·simp only[aI,Hx.snap,hg,hc1,hc3,Bool.and_self,q2,e2,f_,e3]
     ·refine ⟨?_,.inl rfl,a2⟩;show max d m<=max k d;omega
    ·cases q2
   ·cases q2
  | _=>exact h1.elim
 same:=by
  rintro k h x cs n d ⟨v,rfl,-,h1⟩ hn;obtain ⟨n,rfl⟩:∃m,n=m+1:=⟨n - 1,by omega⟩;cases v with
  | nils=>rfl
  | esl=>rfl
  | tsl t s rows=>rfl
  | hsl id ep off len lim=>exact h1.1.elim
  | _=>exact h1.elim
 ids:=by
  rintro P k h x cs n ⟨v,rfl,-,h1⟩ i hi;cases n with
  | zero=>simp[aw] at hi
  | succ n =>
   simp only[List.flatMap_cons,List.flatMap_nil,List.append_nil] at hi;cases v with
   | hsl id ep off len lim =>
    obtain ⟨q1,rows,q2,q3⟩:=h1;unfold aw at hi;rcases List.mem_cons.1 hi with rfl | hi
    ·exact q1
    ·simp only[ah] at q2
     split at q2
     ·rename_i sz' rows' ep' lo fz hg;rw[aa] at q2
      split at q2
      ·injection q2 with q2;rw[hg] at hi;simp only[q2,List.mem_flatMap] at hi;obtain ⟨row,hr,c,hc,hi⟩:=hi;obtain ⟨a,r⟩:=B9 q3 row hr;exact Rp.ids (n:=n) r i (List.mem_flatMap.2 ⟨c,hc,hi⟩)
      ·cases q2
     ·cases q2
   | nils=>simp[aw] at hi
   | esl=>simp[aw] at hi
   | tsl t s rows=>simp[aw] at hi
   | _=>exact h1.elim
 tag:=by
  rintro k h x cs n ⟨v,rfl,-,h1⟩ hn;obtain ⟨n,rfl⟩:∃m,n=m+1:=⟨n - 1,by omega⟩;cases v with
  | nils=>exact ⟨0,rfl,Nat.zero_le _⟩
  | esl=>exact ⟨0,rfl,Nat.zero_le _⟩
  | tsl t s rows=>exact ⟨t,by simp[h_,eD],h1.1⟩
  | hsl id ep off len lim=>exact h1.1.elim
  | _=>exact h1.elim
theorem AH {α:Type} [Rp α]{P:Nat->Prop}{k:Nat}{h:H}{l:List α}{cs:List AV}:Rp.rp P k h l cs↔∃v,cs=[v]/\SlR P k h l v:=Iff.rfl
theorem bc {P:Nat->Prop}{k:Nat}{h:H}{x:Int}{cs:List AV}:Rp.rp P k h x cs↔cs=[.int .i64 x]:=by simp[Rp.rp]
theorem DX {P:Nat->Prop}{k:Nat}{h:H}{x:Nat}{cs:List AV}:Rp.rp P k h x cs↔cs=[.int .u64 (x:Int)]/\x<18446744073709551616:=by simp[Rp.rp]
theorem dM {P:Nat->Prop}{k:Nat}{h:H}{x:Bool}{cs:List AV}:Rp.rp P k h x cs↔cs=[.bool x]:=by simp[Rp.rp]
theorem ic {P:Nat->Prop}{k:Nat}{h:H}{x:UInt8}{cs:List AV}:Rp.rp P k h x cs↔cs=[.int .u8 (x.toNat:Int)]:=by simp[Rp.rp]
theorem tw {α β:Type} [Rp α] [Rp β]{P:Nat->Prop}{k:Nat}{h:H}{x:α×β}{cs:List AV}:Rp.rp P k h x cs↔∃a b,cs=a++b/\Rp.rp P k h x.1 a/\Rp.rp P k h x.2 b:=Iff.rfl
theorem SlR.ints {P:Nat->Prop}{k:Nat}{h:H}{l:List Int}{v:AV}(r:SlR P k h l v):ah h 1 v=some (l.map ci):=by obtain ⟨rows,h1,h2⟩:=r.rows;rw[show (1:Nat)=Rp.sz Int from rfl,h1,h2.eq_map (f:=ci) λa b r=>bc.1 r]
theorem SlR.nats {P:Nat->Prop}{k:Nat}{h:H}{l:List Nat}{v:AV}(r:SlR P k h l v):ah h 1 v=some (l.map cu):=by obtain ⟨rows,h1,h2⟩:=r.rows;rw[show (1:Nat)=Rp.sz Nat from rfl,h1,h2.eq_map (f:=cu) λa b r=>(DX.1 r).1]
end Hx
end
section
namespace Hx
open Go
noncomputable section
theorem jo (t:T)(n m:Nat)(v:AV):tat (eV t n v) m=if m=n then v else tat t m:=sp_get _ _ _ _ _
theorem Cc (a:AV)(t:T):bT 0 [a] t=eV t 0 a:=rfl
theorem Cd (a b:AV)(t:T):bT 0 [a,b] t=eV (eV t 0 a) 1 b:=rfl
theorem Ce (a b c:AV)(t:T):bT 0 [a,b,c] t=eV (eV (eV t 0 a) 1 b) 2 c:=rfl
theorem Cf (a b c e:AV)(t:T):bT 0 [a,b,c,e] t=eV (eV (eV (eV t 0 a) 1 b) 2 c) 3 e:=rfl
theorem xD (i:Nat)(t:T):bT i [] t=t:=rfl
theorem F9 (m:Nat):tat Tr.nil m=AV.undef:=Tr.get_nil _ _
theorem IU (t:T)(n:Nat):Od.get t (.t n)=tat t n:=rfl
theorem MN (t:T)(v:AV):Od.get t (.k v)=v:=rfl
theorem BQ (t:T):fe t []=[]:=rfl
theorem za (t:T)(o:Od)(os:List Od):fe t (o::os)=o.get t::fe t os:=rfl
theorem aJ (h:H)(i:Nat)(o:AObj):(h.put i o).get i=o:=by rw[H.get_put,if_pos rfl]
theorem ae (h:H)(i:Nat)(o:AObj){k:Nat}(hk:k≠i):(h.put i o).get k=h.get k:=by rw[H.get_put,if_neg hk]
theorem EV (k:Nat):G.empty.h.get k=AObj.none:=by simp[G.empty,H.get,Tr.get_nil]
theorem By:G.empty.nx=0:=rfl
theorem FP (v:AV)(K:AV->G->Prop)(g:G)(D:ADf->Prop):(OR.val v).sat K g D=K v g:=rfl
theorem FO (v:AV)(g':G)(K:AV->G->Prop)(g:G)(D:ADf->Prop):(OR.upd v g').sat K g D=K v g':=rfl
theorem Ch (v:AV):orV (some v)=.val v:=rfl
theorem an {x:Int}(h:-9223372036854775808<=x)(h':x<9223372036854775808):IntKind.wrap .i64 x=x:=by
 by_cases h0:x<0
 ·exact tH x h h0
 ·obtain ⟨n,rfl⟩:=Int.eq_ofNat_of_zero_le (show 0<=x by omega);exact lD n (by omega)
theorem A5 {x:Int}(h:0<=x)(h':x<18446744073709551616):IntKind.wrap .u64 x=x:=by simp only[IntKind.wrap,IntKind.bits,IntKind.signed,Bool.false_and,Bool.false_eq_true,if_false];exact Int.emod_eq_of_lt h h'
theorem N_ {x:Int}(h:0<=x)(h':x<256):IntKind.wrap .u8 x=x:=by simp only[IntKind.wrap,IntKind.bits,IntKind.signed,Bool.false_and,Bool.false_eq_true,if_false];exact Int.emod_eq_of_lt h h'
theorem bz (k:IntKind):ct k k=true:=by cases k<;>rfl
theorem Ew (k:IntKind)(a b:Int):bA .add (.int k a) (.int k b)=.val (.int k (k.wrap (a+b))):=by simp only[bA,eS,bz,fW];rfl
theorem EG (k:IntKind)(a b:Int):bA .sub (.int k a) (.int k b)=.val (.int k (k.wrap (a - b))):=by simp only[bA,eS,bz,fW];rfl
theorem ED (k:IntKind)(a b:Int):bA .mul (.int k a) (.int k b)=.val (.int k (k.wrap (a*b))):=by simp only[bA,eS,bz,fW];rfl
theorem Ey (k:IntKind)(a b:Int):bA .eql (.int k a) (.int k b)=.val (.bool (decide (a=b))):=by simp only[bA,eS,bz,sW];rfl
theorem EE (k:IntKind)(a b:Int):bA .neq (.int k a) (.int k b)=.val (.bool (!decide (a=b))):=by simp only[bA,eS,bz,sW,notb_eq];rfl
theorem EC (k:IntKind)(a b:Int):bA .lss (.int k a) (.int k b)=.val (.bool (decide (a<b))):=by simp only[bA,eS,bz,jN];rfl
theorem EA (k:IntKind)(a b:Int):bA .gtr (.int k a) (.int k b)=.val (.bool (decide (b<a))):=by simp only[bA,eS,bz,jN];rfl
theorem EB (k:IntKind)(a b:Int):bA .leq (.int k a) (.int k b)=.val (.bool (decide (a<=b))):=by
 simp only[bA,eS,bz,jN,notb_eq]
 by_cases h:b<a
 ·rw[decide_eq_true h,decide_eq_false (show ¬a<=b by omega)];rfl
 ·rw[decide_eq_false h,decide_eq_true (show a<=b by omega)];rfl
theorem Ez (k:IntKind)(a b:Int):bA .geq (.int k a) (.int k b)=.val (.bool (decide (b<=a))):=by
 simp only[bA,eS,bz,jN,notb_eq]
 by_cases h:a<b
 ·rw[decide_eq_true h,decide_eq_false (show ¬b<=a by omega)];rfl
 ·rw[decide_eq_false h,decide_eq_true (show b<=a by omega)];rfl
theorem EF (k:IntKind){a b:Int}(ha:0<=a)(hb:0<b):bA .quo (.int k a) (.int k b)=.val (.int k (k.wrap (a / b))):=by obtain ⟨m,rfl⟩:=Int.eq_ofNat_of_zero_le ha;obtain ⟨n,rfl⟩:=Int.eq_ofNat_of_zero_le (show 0<=b by omega);obtain ⟨n,rfl⟩:∃j,n=j+1:=⟨n - 1,by omega⟩;simp only[bA,eS,bz];show orV (LW k (.ofNat m) (.ofNat (n+1)))=_;simp only[LW,fW];rfl
theorem e6 (k:IntKind){a b:Int}(ha:0<=a)(hb:0<b):bA .rem (.int k a) (.int k b)=.val (.int k (a % b)):=by obtain ⟨m,rfl⟩:=Int.eq_ofNat_of_zero_le ha;obtain ⟨n,rfl⟩:=Int.eq_ofNat_of_zero_le (show 0<=b by omega);obtain ⟨n,rfl⟩:∃j,n=j+1:=⟨n - 1,by omega⟩;simp only[bA,eS,bz];show orV (L3 k (.ofNat m) (.ofNat (n+1)))=_;simp only[L3];rfl
theorem KX (k':IntKind)(m n:Nat):bA .shl (.int .u64 (m:Int)) (.int k' (n:Int))=.val (.int .u64 ((m*2 ^ n % 18446744073709551616:Nat):Int)):=by
 show orV (Ki .u64 (.ofNat m) (.ofNat n))=_;simp only[Ki,IntKind.bits];show OR.val (.int .u64 (qu .u64 (.ofNat (m*2 ^ (Nat.min n 64)))))=_;simp only[qu];congr 2;show ((m*2 ^ (min n 64) % 18446744073709551616:Nat):Int)=_
 by_cases h:n<=64
 ·rw[Nat.min_eq_left h]
 ·rw[Nat.min_eq_right (by omega)];obtain ⟨j,rfl⟩:∃j,n=64+j:=⟨n - 64,by omega⟩;rw[Nat.pow_add,show (18446744073709551616:Nat)=2 ^ 64 from rfl,Nat.mul_mod_left,<-Nat.mul_assoc,Nat.mul_comm (m*2 ^ 64),<-Nat.mul_assoc,Nat.mul_mod_left]
theorem zM (k':IntKind)(m n:Nat)(h:m<18446744073709551616):bA .shr (.int .u64 (m:Int)) (.int k' (n:Int))=.val (.int .u64 ((m / 2 ^ n:Nat):Int)):=by
 show orV (Kj .u64 (.ofNat m) (.ofNat n))=_;simp only[Kj,IntKind.bits];show OR.val (.int .u64 (.ofNat (m / 2 ^ (Nat.min n 64))))=_;congr 2;show ((m / 2 ^ (min n 64):Nat):Int)=_
 by_cases h2:n<=64
 ·rw[Nat.min_eq_left h2]
 ·rw[Nat.min_eq_right (by omega)];obtain ⟨j,rfl⟩:∃j,n=64+j:=⟨n - 64,by omega⟩;rw[Nat.pow_add,<-Nat.div_div_eq_div_mul,show (2 ^ 64:Nat)=18446744073709551616 from rfl,Nat.div_eq_of_lt h,Nat.zero_div]
theorem uj {m n:Nat}(h:m<18446744073709551616)(h':n<18446744073709551616):jT .u64 m n=true:=by simp only[jT,Bool.and_eq_true,Nat.blt_eq];exact ⟨h,h'⟩
theorem tP (m n:Nat)(h:m<18446744073709551616)(h':n<18446744073709551616):bA .or (.int .u64 (m:Int)) (.int .u64 (n:Int))=.val (.int .u64 ((m ||| n:Nat):Int)):=by show orV (ap (jT .u64 m n) _ _)=_;rw[uj h h'];rfl
theorem sw (m n:Nat)(h:m<18446744073709551616)(h':n<18446744073709551616):bA .and (.int .u64 (m:Int)) (.int .u64 (n:Int))=.val (.int .u64 ((m &&& n:Nat):Int)):=by show orV (ap (jT .u64 m n) _ _)=_;rw[uj h h'];rfl
theorem vV (m n:Nat)(h:m<18446744073709551616)(h':n<18446744073709551616):bA .andNot (.int .u64 (m:Int)) (.int .u64 (n:Int))=.val (.int .u64 ((m ^^^ (m &&& n):Nat):Int)):=by show orV (ap (jT .u64 m n) _ _)=_;rw[uj h h'];rfl
theorem JN {m n:Nat}(h:m<18446744073709551616)(h':n<18446744073709551616):m ||| n<18446744073709551616:=Nat.or_lt_two_pow (n:=64) h h'
theorem Cb (b:Bool):LP (.bool b)=.val (.bool (!b)):=by simp only[LP,notb_eq]
theorem Bn (k k':IntKind)(a:Int):EO k (.int k' a)=.val (.int k (k.wrap a)):=by simp only[EO,fW]
theorem JV (a b:AV):FE (.bool true) a b=.val a:=rfl
theorem JU (a b:AV):FE (.bool false) a b=.val b:=rfl
theorem JA (k:IntKind)(a b:Int):mxV (.int k a) (.int k b)=.val (.int k (max a b)):=by
 simp only[mxV,bz,jN]
 by_cases h:a<b
 ·rw[decide_eq_true h,Int.max_eq_right (by omega)]
 ·rw[decide_eq_false h,Int.max_eq_left (by omega)]
theorem Jy (k:IntKind)(a b:Int):mnV (.int k a) (.int k b)=.val (.int k (min a b)):=by
 simp only[mnV,bz,jN]
 by_cases h:b<a
 ·rw[decide_eq_true h,Int.min_eq_right (by omega)]
 ·rw[decide_eq_false h,Int.min_eq_left (by omega)]
def ik (sz:Nat)(v:AV)(i off:Nat):AV :=
 match v with
 | .tsl l _ rows=>.tptr l sz rows i off
 | .hsl id ep o _ _=>.hptr id ep (o+i) off
 | _=>.undef
theorem Jj {g:G}{sz:Nat}{v:AV}{rows:List (List AV)}(h:ah g.h sz v=some rows):eB .slice v g=.val (.int .i64 (rows.length:Int)):=by
 unfold ah at h
 split at h
 ·injection h with h;subst h;rfl
 ·injection h with h;subst h;rfl
 ·rw[aa] at h
  split at h
  ·injection h with h;subst h;simp only[eB,aB];rfl
  ·cases h
 ·split at h
  ·rw[aa] at h
   split at h
   ·rename_i hc;injection h with h;subst h;simp only[Bool.and_eq_true,Nat.ble_eq,aB] at hc;simp only[eB,aY,aX,List.length_take,List.length_drop];congr 3;rw[Nat.min_eq_left (by omega)]
   ·cases h
  ·cases h
 ·cases h
theorem jY {h:H}{sz:Nat}{v:AV}{rows:List (List AV)}(hv:ah h sz v=some rows)(g:G):eB .slice v g=.val (.int .i64 (rows.length:Int)) :=
 (show eB .slice v g=eB .slice v ⟨h,0,[]⟩ from by cases v<;>rfl).trans (Jj (g:=⟨h,0,[]⟩) hv)
theorem I5 {g:G}{sz:Nat}{v:AV}{rows:List (List AV)}{k:IntKind}{i:Int}(h:ah g.h sz v=some rows)(h0:0<=i)(hi:i<rows.length) :
  BZ sz v (.int k i) g=.val (ik sz v i.toNat 0):=by
 obtain ⟨n,rfl⟩:=Int.eq_ofNat_of_zero_le h0;have hi:n<rows.length:=by omega
 show BZ sz v (.int k (.ofNat n)) g=.val (ik sz v n 0);unfold ah at h
 split at h
 ·injection h with h;subst h;simp at hi
 ·injection h with h;subst h;simp at hi
 ·rw[aa] at h
  split at h
  ·rename_i hc;injection h with h;subst h;rename_i sz' rows _;have:Nat.beq sz sz'=true:=by
    simp only[Bool.or_eq_true,List.isEmpty_iff] at hc;rcases hc with hc | hc
    ·exact hc
    ·rw[hc] at hi;simp at hi
   simp only[BZ,fS,this,aB,Bool.true_and,aa,Nat.blt_eq,if_pos hi,ik]
  ·cases h
 ·split at h
  ·rename_i sz' rows' ep' lo fz hg;rw[aa] at h
   split at h
   ·rename_i hc;injection h with h;subst h;simp only[Bool.and_eq_true] at hc;simp only[aY,aX,List.length_take,List.length_drop] at hi;simp only[BZ,fS,G.get_eq,hg,hc.1.1,hc.1.2,Bool.true_and,aa,Nat.blt_eq];rw[if_pos (by omega)];rfl
   ·cases h
  ·cases h
 ·cases h
theorem GY {g:G}{sz:Nat}{v:AV}{rows:List (List AV)}{row:List AV}{i off n:Nat}{ag:Bool}(h:ah g.h sz v=some rows)(hr:rows[i]?=some row) :
  pf ag n (ik sz v i off) g=orV (bC ag n row off):=by
 unfold ah at h
 split at h
 ·injection h with h;subst h;simp at hr
 ·injection h with h;subst h;simp at hr
 ·rw[aa] at h
  split at h
  ·injection h with h;subst h;simp only[pf,kY,ik,dc,hr]
  ·cases h
 ·split at h
  ·rename_i sz' rows' ep' lo fz hg;rw[aa] at h
   split at h
   ·rename_i hc;injection h with h;subst h;simp only[Bool.and_eq_true] at hc;simp only[aY,aX,List.getElem?_take,List.getElem?_drop] at hr
    split at hr
    ·simp only[pf,kY,ik,G.get_eq,hg,hc.1.1,dc,hr]
    ·cases hr
   ·cases h
  ·cases h
 ·cases h
theorem BH (fo id ep i off:Nat):Is fo (.hptr id ep i off)=.val (.hptr id ep i (off+fo)):=rfl
theorem Cq {n:Nat}{row:List AV}{off:Nat}:bC false n row off=row[off]?:=by simp only[bC,dc]
theorem Cp {n:Nat}{row:List AV}{off:Nat}(h:off+n<=row.length):bC true n row off=some (.agg ((row.drop off).take n)):=by simp only[bC,aY,aX,aB,List.length_take,List.length_drop,aa];rw[if_pos];rw[Nat.min_eq_left (by omega)];exact Nat.beq_refl n
theorem oG {g:G}{id ep sz i off n:Nat}{rows:List (List AV)}{lo:Bool}{row cs row':List AV}{x:AV}(hg:g.h.get id=.cells sz rows ep lo false)(hr:rows[i]?=some row)
  (hc:x.cells=cs) (ht:x.isTup=false) (hl:cs.length=n) (hp:bg row off cs=some row') :
  iO n (.hptr id ep i off) x g=.upd .undef (g.put id (.cells sz (rows.set i row') ep lo false)):=by
 subst hc;simp only[iO,mM,G.get_eq,hg,dc,hr,show Nat.beq ep ep=true from Nat.beq_refl ep,aB,hl,show Nat.beq n n=true from Nat.beq_refl n,ht,notb_eq,Bool.not_false,Bool.and_self,hp,fm]
theorem jR {row:List AV}{off:Nat}{c:AV}(h:off<row.length):bg row off [c]=some (row.set off c):=by simp only[bg,aB,List.length_singleton,aa,Nat.ble_eq,fm];rw[if_pos (by omega)]
theorem th {row cs:List AV}(h:cs.length=row.length)(h2:2<=cs.length):bg row 0 cs=some cs:=by
 simp only[bg,aB,aa,Nat.ble_eq,fm,aY,aX];rw[if_pos (by omega)]
 split
 ·simp at h2
 ·simp[h]
def vz (o:AObj)(ep off len sz:Nat):Option (List (List AV)) :=
 match o with
 | .cells sz' rows ep' _ _=>ap (Nat.beq ep ep'&&Nat.beq sz sz'&&Nat.ble (off+len) (bh rows)) (some (gG len (fJ off rows))) none
 | _=>none
theorem uI (h:H)(sz:Nat):ah h sz .nils=some []:=rfl
theorem oD (h:H)(sz t:Nat)(rows:List (List AV)):ah h sz (.tsl t sz rows)=some rows:=by simp only[ah,show Nat.beq sz sz=true from Nat.beq_refl sz,Bool.true_or]
theorem dL (h:H)(sz id ep off len:Nat)(lim:Option Nat):ah h sz (.hsl id ep off len lim)=vz (h.get id) ep off len sz:=rfl
theorem cm (sz:Nat)(rows:List (List AV))(ep:Nat)(lo fz:Bool)(off len:Nat) :
  vz (.cells sz rows ep lo fz) ep off len sz=if off+len<=rows.length then some ((rows.drop off).take len) else none:=by
 simp only[vz,show Nat.beq sz sz=true from Nat.beq_refl sz,show Nat.beq ep ep=true from Nat.beq_refl ep,Bool.true_and,aa,Nat.ble_eq,aB,aY,aX]
theorem uz (sz:Nat)(rows:List (List AV))(ep:Nat)(lo fz:Bool):vz (.cells sz rows ep lo fz) ep 0 rows.length sz=some rows:=by rw[cm,if_pos (by omega)];simp
def bH (o:AObj)(ep i:Nat)(ag:Bool)(n off:Nat):OR :=
 match o with
 | .cells _ rows ep' _ _=>ap (Nat.beq ep ep') (match rows[i]? with | some row=>orV (bC ag n row off) | none=>.fail) .fail
 | _=>.fail
theorem xq (g:G)(id ep i off n:Nat)(ag:Bool):pf ag n (.hptr id ep i off) g=bH (g.h.get id) ep i ag n off:=by
 simp only[pf,kY,G.get_eq,bH,dc]
 rfl
theorem kV (sz:Nat)(rows:List (List AV))(ep:Nat)(lo fz:Bool)(i n off:Nat)(ag:Bool) :
  bH (.cells sz rows ep lo fz) ep i ag n off=match rows[i]? with | some row=>orV (bC ag n row off) | none=>.fail:=by
 simp only[bH,show Nat.beq ep ep=true from Nat.beq_refl ep]
def cM (o:AObj)(g:G)(id ep i n off:Nat)(x:AV):OR :=
 match o with
 | .cells sz rows ep' lo fz=>ap (Nat.beq ep ep'&&Nat.beq x.cells.length n&&jj fz&&jj x.isTup) (match rows[i]? with
   | some row=>match bg row off x.cells with
    | some row'=>.upd .undef (g.put id (.cells sz (rows.set i row') ep lo fz))
    | none=>.fail
   | none=>.fail) .fail
 | _=>.fail
theorem uN (g:G)(id ep i off n:Nat)(x:AV):iO n (.hptr id ep i off) x g=cM (g.h.get id) g id ep i n off x:=by
 simp only[iO,mM,G.get_eq,cM,dc,aB,fm]
 rfl
theorem br (sz:Nat)(rows:List (List AV))(ep:Nat)(lo:Bool)(g:G)(id i n off:Nat)(x:AV)(hl:x.cells.length=n)(ht:x.isTup=false) :
  cM (.cells sz rows ep lo false) g id ep i n off x=match rows[i]? with
   | some row=>match bg row off x.cells with
    | some row'=>.upd .undef (g.put id (.cells sz (rows.set i row') ep lo false))
    | none=>.fail
   | none=>.fail:=by
 simp only[cM,show Nat.beq ep ep=true from Nat.beq_refl ep,hl,show Nat.beq n n=true from Nat.beq_refl n,ht,notb_eq,Bool.not_false,Bool.and_self]
theorem zh {g:G}{sz:Nat}{v:AV}{i off n:Nat}{ag:Bool}(h:(ah g.h sz v).isSome=true)(hi:i<((ah g.h sz v).getD []).length) :
  pf ag n (ik sz v i off) g=orV (bC ag n (((ah g.h sz v).getD [])[i]?.getD []) off):=by
 obtain ⟨rows,hr⟩:=Option.isSome_iff_exists.1 h;rw[hr] at hi ⊢;simp only[Option.getD_some] at hi ⊢;rw[GY hr (List.getElem?_eq_getElem hi),List.getElem?_eq_getElem hi,Option.getD_some]
theorem I6 {g:G}{sz:Nat}{v:AV}{k:IntKind}{i:Int}(h:(ah g.h sz v).isSome=true)(h0:0<=i)(hi:i<((ah g.h sz v).getD []).length) :
  BZ sz v (.int k i) g=.val (ik sz v i.toNat 0):=by
 obtain ⟨rows,hr⟩:=Option.isSome_iff_exists.1 h;rw[hr] at hi;exact I5 hr h0 hi
theorem Fg {g:G}{sz:Nat}{v:AV}{k:IntKind}{i:Nat}(h:(ah g.h sz v).isSome=true)(hi:i<((ah g.h sz v).getD []).length) :
  BZ sz v (.int k (i:Int)) g=.val (ik sz v i 0):=I6 h (Int.natCast_nonneg i) (by omega)
def yz:AV->Bool
 | .tsl .. | .hsl ..=>true
 | _=>false
theorem BI {sz:Nat}{v:AV}{i off fo:Nat}(h:yz v=true):Is fo (ik sz v i off)=.val (ik sz v i (off+fo)):=by cases v<;>first | rfl | cases h
theorem L6 {h:H}{sz:Nat}{v:AV}{rows:List (List AV)}{i:Nat}(hv:ah h sz v=some rows)(hi:i<rows.length):yz v=true:=by
 unfold ah at hv
 split at hv
 ·injection hv with h;subst h;simp at hi
 ·injection hv with h;subst h;simp at hi
 ·rfl
 ·rfl
 ·cases hv
def mG (h:H)(v:AV):List Int:=((ah h 1 v).getD []).map λr=>match r with | [.int _ x]=>x | _=>0
def w_ (h:H)(v:AV):Prop:=ah h 1 v=some ((mG h v).map ci)
theorem I3 (l:List Int):(l.map ci).map (λr=>match r with | [.int _ x]=>x | _=>0)=l:=by
 induction l with
 | nil=>rfl
 | cons a l ih=>simp only[List.map_cons,ih,ci]
theorem Fd {h:H}{v:AV}{l:List Int}(hv:ah h 1 v=some (l.map ci)):mG h v=l:=by simp only[mG,hv,Option.getD_some,I3]
theorem GU {h:H}{v:AV}{l:List Int}(hv:ah h 1 v=some (l.map ci)):w_ h v:=by unfold w_;rw[Fd hv,hv]
theorem MU {α:Type}(a:α)(l:List α):(a::l)[0]?=some a:=rfl
theorem MV {α:Type}(a b:α)(l:List α):(a::b::l)[1]?=some b:=rfl
theorem MW {α:Type}(a b c:α)(l:List α):(a::b::c::l)[2]?=some c:=rfl
theorem MX {α:Type}(a b c e:α)(l:List α):(a::b::c::e::l)[3]?=some e:=rfl
theorem MY {α:Type}(a b c e p:α)(l:List α):(a::b::c::e::p::l)[4]?=some p:=rfl
theorem MZ {α:Type}(a b c e p q:α)(l:List α):(a::b::c::e::p::q::l)[5]?=some q:=rfl
theorem M1 {α:Type}(a b c e p q r:α)(l:List α):(a::b::c::e::p::q::r::l)[6]?=some r:=rfl
theorem M2 {α:Type}(a b c e p q r s:α)(l:List α):(a::b::c::e::p::q::r::s::l)[7]?=some s:=rfl
theorem M3 {α:Type}(a b c e p q r s u:α)(l:List α):(a::b::c::e::p::q::r::s::u::l)[8]?=some u:=rfl
@[reducible] def o (d:Nat) (op:SO):SI:=⟨some d,none,op⟩
@[reducible] def oz (op:SO):SI:=⟨none,none,op⟩
@[reducible] def og (d s:Nat) (w:Bool) (op:SO):SI:=⟨some d,some (s,w),op⟩
@[reducible] def ozg (s:Nat) (w:Bool) (op:SO):SI:=⟨none,some (s,w),op⟩
section steps
variable {C:Cfg}{d:Nat}{rd:Option Nat}
theorem A4 (Q:QT)(t:T)(df:List ADf)(g:G):wp C d rd .skip Q t df g=Q .norm t df g:=rfl
theorem A3 (l:List SI)(Q:QT)(t:T)(df:List ADf)(g:G):wp C d rd (.ops l) Q t df g=wpO C d rd l (Q .norm) t df g:=rfl
theorem CW (l:List SI)(Q:QT)(t:T)(df:List ADf)(g:G):wp C d rd (.quiet l) Q t df g=wpO C d rd l (kQ g Q) t df (aM g []):=rfl
theorem Gf (pm:List Nat)(l:List SI)(Q:QT)(t:T)(df:List ADf)(g:G):wp C d rd (.feet pm l) Q t df g=wpF C d rd pm l (Q .norm) t df g []:=rfl
theorem iP (a b:SC)(Q:QT)(t:T)(df:List ADf)(g:G):wp C d rd (.seq a b) Q t df g=wp C d rd a (kS (wp C d rd b Q) Q) t df g:=rfl
theorem A2 (c:Od)(a b:SC)(Q:QT)(t:T)(df:List ADf)(g:G):wp C d rd (.cond c a b) Q t df g=wpC (c.get t) (wp C d rd a Q) (wp C d rd b Q) t df g:=rfl
theorem A0 (id:Nat)(b:SC)(Q:QT)(t:T)(df:List ADf)(g:G):wp C d rd (.blk id b) Q t df g=wp C d rd b (kB id Q) t df g:=rfl
theorem Gg (b:SC)(Q:QT)(t:T)(df:List ADf)(g:G):wp C d rd (.loop b) Q t df g=wpL (wp C d rd b) Q t df g:=rfl
theorem Ge (id:Nat)(Q:QT)(t:T)(df:List ADf)(g:G):wp C d rd (.exit id) Q t df g=Q (.exit id) t df g:=rfl
theorem KO (Q:QT)(t:T)(df:List ADf)(g:G):wp C d rd .ret Q t df g=Q .ret t df g:=rfl
theorem MQ (g0:G)(Q:QT)(t:T)(df:List ADf)(g:G):kQ g0 Q t df g=(g.lg=[]/\g.nx=g0.nx/\Q .norm t df g0):=rfl
theorem Gc (Q:PT)(t:T)(df:List ADf)(g:G):wpO C d rd [] Q t df g=Q t df g:=rfl
theorem M9 (n:Nat)(op:SO)(r:List SI)(Q:PT)(t:T)(df:List ADf)(g:G) :
  wpO C d rd (o n op::r) Q t df g=(op.run C d rd t g).sat (kO (wpO C d rd r Q) (some n) t df) g (kD (wpO C d rd r Q) (some n) t df g):=rfl
theorem KN (op:SO)(r:List SI)(Q:PT)(t:T)(df:List ADf)(g:G) :
  wpO C d rd (oz op::r) Q t df g=(op.run C d rd t g).sat (kO (wpO C d rd r Q) none t df) g (kD (wpO C d rd r Q) none t df g):=rfl
theorem KL (n s:Nat)(w:Bool)(op:SO)(r:List SI)(Q:PT)(t:T)(df:List ADf)(g:G) :
  wpO C d rd (og n s w op::r) Q t df g=gdP (tat t s) w (CE C d rd (o n op) (wpO C d rd r Q)) (xR (o n op) (wpO C d rd r Q)) t df g:=rfl
theorem Gd (s:Nat)(w:Bool)(op:SO)(r:List SI)(Q:PT)(t:T)(df:List ADf)(g:G) :
  wpO C d rd (ozg s w op::r) Q t df g=gdP (tat t s) w (CE C d rd (oz op) (wpO C d rd r Q)) (xR (oz op) (wpO C d rd r Q)) t df g:=rfl
theorem Ke (n:Nat)(op:SO)(W:PT)(t:T)(df:List ADf)(g:G):CE C d rd (o n op) W t df g=(op.run C d rd t g).sat (kO W (some n) t df) g (kD W (some n) t df g):=rfl
theorem FM (op:SO)(W:PT)(t:T)(df:List ADf)(g:G):CE C d rd (oz op) W t df g=(op.run C d rd t g).sat (kO W none t df) g (kD W none t df g):=rfl
theorem FX (n:Nat)(op:SO)(W:PT)(t:T)(df:List ADf)(g:G):xR (o n op) W t df g=W (eV t n .undef) df g:=rfl
theorem CJ (op:SO)(W:PT)(t:T)(df:List ADf)(g:G):xR (oz op) W t df g=W t df g:=rfl
theorem Fo (W:PT)(n:Nat)(t:T)(df:List ADf)(v:AV)(g:G):kO W (some n) t df v g=W (eV t n v) df g:=rfl
theorem Fn (W:PT)(t:T)(df:List ADf)(v:AV)(g:G):kO W none t df v g=W t df g:=rfl
theorem MM (q:Bool)(A B:PT)(t:T)(df:List ADf)(g:G):gdP (.bool q) true A B t df g=tM q A B t df g:=rfl
theorem ML (q:Bool)(A B:PT)(t:T)(df:List ADf)(g:G):gdP (.bool q) false A B t df g=tM q B A t df g:=rfl
theorem y_ (w:Bool)(A B:PT)(t:T)(df:List ADf)(g:G):gdP (.tup []) w A B t df g=B t df g:=rfl
theorem tN (A B:PT)(t:T)(df:List ADf)(g:G):tM true A B t df g=A t df g:=by simp[tM]
theorem vS (A B:PT)(t:T)(df:List ADf)(g:G):tM false A B t df g=B t df g:=by simp[tM]
theorem xZ (q:Bool)(A B:PT)(t:T)(df:List ADf)(g:G):wpC (.bool q) A B t df g=tM q A B t df g:=rfl
theorem Ak (W:PT)(Q:QT)(t:T)(df:List ADf)(g:G):kS W Q .norm t df g=W t df g:=rfl
theorem Fp (W:PT)(Q:QT)(id:Nat)(t:T)(df:List ADf)(g:G):kS W Q (.exit id) t df g=Q (.exit id) t df g:=rfl
theorem Jb (W:PT)(Q:QT)(t:T)(df:List ADf)(g:G):kS W Q .ret t df g=Q .ret t df g:=rfl
theorem Fh (id:Nat)(Q:QT)(t:T)(df:List ADf)(g:G):kB id Q .norm t df g=Q .norm t df g:=rfl
theorem I9 (id:Nat)(Q:QT)(t:T)(df:List ADf)(g:G):kB id Q .ret t df g=Q .ret t df g:=rfl
theorem Lt (id:Nat)(Q:QT)(t:T)(df:List ADf)(g:G):kB id Q (.exit id) t df g=Q .norm t df g:=by simp[kB]
theorem I8 (id j:Nat)(Q:QT)(t:T)(df:List ADf)(g:G)(h:j≠id):kB id Q (.exit j) t df g=Q (.exit j) t df g:=by simp only[kB];rw[aa,if_neg (λe=>h (Nat.eq_of_beq_eq_true e))]
theorem oh (id j:Nat)(Q:QT)(t:T)(df:List ADf)(g:G):kB id Q (.exit j) t df g=if j=id then Q .norm t df g else Q (.exit j) t df g:=by
 by_cases h:j=id
 ·subst h;rw[Lt,if_pos rfl]
 ·rw[I8 _ _ _ _ _ _ h,if_neg h]
theorem Fl (Inv:Nat->PT)(k:Nat)(Q:QT)(t:T)(df:List ADf)(g:G):kL Inv k Q .norm t df g=∃k',k'<k/\Inv k' t df g:=rfl
theorem Fk (Inv:Nat->PT)(k:Nat)(Q:QT)(id:Nat)(t:T)(df:List ADf)(g:G):kL Inv k Q (.exit id) t df g=Q (.exit id) t df g:=rfl
theorem I_ (Inv:Nat->PT)(k:Nat)(Q:QT)(t:T)(df:List ADf)(g:G):kL Inv k Q .ret t df g=Q .ret t df g:=rfl
theorem eZ {q:Bool}{A B:PT}{t:T}{df:List ADf}{g:G}(h1:q=true->A t df g)(h2:q=false->B t df g):tM q A B t df g:=⟨h1,h2⟩
theorem BK (r:List SR)(K:AV->G->Prop)(t:T)(df:List ADf)(g:G):fnQ C d r K .norm t df g=zU C d r t df g K:=rfl
theorem E1 (r:List SR)(K:AV->G->Prop)(t:T)(df:List ADf)(g:G):fnQ C d r K .ret t df g=zU C d r t df g K:=rfl
theorem Bz (r:List SR)(K:AV->G->Prop)(t:T)(g:G):zU C d r t [] g K=u_ r t g λvs=>K (jk vs) g:=rfl
theorem CC (t:T)(g:G)(K:List AV->Prop):u_ [] t g K=K []:=rfl
theorem FG (n:Nat)(r:List SR)(t:T)(g:G)(K:List AV->Prop):u_ (.tm n::r) t g K=u_ r t g λvs=>K (tat t n::vs):=rfl
theorem td (v:AV):jk [v]=v:=rfl
theorem fI {W:QT->PT}{Q:QT}{t:T}{df:List ADf}{g:G}(Inv:Nat->PT)(k:Nat)(h0:Inv k t df g)(h:∀k t df g,Inv k t df g->W (kL Inv k Q) t df g):wpL W Q t df g:=⟨Inv,⟨k,h0⟩,h⟩
end steps
end
end Hx
end
section
namespace Hx
open Go
noncomputable section
theorem sx:type_of% (And.intro @Gc <| And.intro @M9 <| And.intro @KN <| And.intro @KL <| And.intro @Gd <| And.intro @Ke <| And.intro @FM <| And.intro @FX <| And.intro @CJ <|
 And.intro @Fo <| And.intro @Fn <| And.intro @MM <| And.intro @ML <| And.intro @y_ <| And.intro @tN <| And.intro @vS <| And.intro @xZ <| And.intro @Ak <| And.intro @Fp <| And.intro @Jb <|
 And.intro @Fh <| And.intro @I9 <| And.intro @oh <| And.intro @Fl <| And.intro @Fk <| And.intro @I_ <| And.intro @BK <| And.intro @E1 <| And.intro @Bz <| And.intro @CC <| And.intro @FG <|
 And.intro @td <| And.intro @jo <| And.intro @Cc <| And.intro @Cd <| And.intro @Ce <| And.intro @Cf <| And.intro @A4 <| And.intro @A3 <| And.intro @CW <| And.intro @Gf <| And.intro @iP <| And.intro @A2 <| And.intro @A0 <| And.intro @Gg <| And.intro @Ge <| And.intro @KO <| And.intro @xD <| And.intro @F9 <| And.intro @IU <| And.intro @MN <| And.intro @BQ <| And.intro @za <| And.intro @FP <| And.intro @FO <| And.intro @Ch <|
 And.intro @Ew <| And.intro @EG <| And.intro @ED <| And.intro @Ey <| And.intro @EE <| And.intro @EC <| And.intro @EA <| And.intro @EB <| And.intro @Ez <| And.intro @Cb <| And.intro @Bn <| And.intro @JV <| And.intro @JU <|
 And.intro @JA <| And.intro @Jy <| And.intro @BH <| And.intro @xq <| And.intro @kV <| And.intro @uN <| And.intro @Cq <| And.intro @zh <| And.intro @BI <| And.intro @Fg <|
 And.intro @MU <| And.intro @MV <| And.intro @MW <| And.intro @MX <| And.intro @MY <| And.intro @MZ <| And.intro @M1 <| And.intro @M2 <| And.intro @M3 <| And.intro @G.put_h <| And.intro @G.put_nx <| And.intro @G.new_h <| And.intro @G.new_nx <| And.intro @aJ <| And.intro @By <| @EV) :=
 And.intro @Gc <| And.intro @M9 <| And.intro @KN <| And.intro @KL <| And.intro @Gd <| And.intro @Ke <| And.intro @FM <| And.intro @FX <| And.intro @CJ <|
 And.intro @Fo <| And.intro @Fn <| And.intro @MM <| And.intro @ML <| And.intro @y_ <| And.intro @tN <| And.intro @vS <| And.intro @xZ <| And.intro @Ak <| And.intro @Fp <| And.intro @Jb <|
 And.intro @Fh <| And.intro @I9 <| And.intro @oh <| And.intro @Fl <| And.intro @Fk <| And.intro @I_ <| And.intro @BK <| And.intro @E1 <| And.intro @Bz <| And.intro @CC <| And.intro @FG <|
 And.intro @td <| And.intro @jo <| And.intro @Cc <| And.intro @Cd <| And.intro @Ce <| And.intro @Cf <| And.intro @A4 <| And.intro @A3 <| And.intro @CW <| And.intro @Gf <| And.intro @iP <| And.intro @A2 <| And.intro @A0 <| And.intro @Gg <| And.intro @Ge <| And.intro @KO <| And.intro @xD <| And.intro @F9 <| And.intro @IU <| And.intro @MN <| And.intro @BQ <| And.intro @za <| And.intro @FP <| And.intro @FO <| And.intro @Ch <|
 And.intro @Ew <| And.intro @EG <| And.intro @ED <| And.intro @Ey <| And.intro @EE <| And.intro @EC <| And.intro @EA <| And.intro @EB <| And.intro @Ez <| And.intro @Cb <| And.intro @Bn <| And.intro @JV <| And.intro @JU <|
 And.intro @JA <| And.intro @Jy <| And.intro @BH <| And.intro @xq <| And.intro @kV <| And.intro @uN <| And.intro @Cq <| And.intro @zh <| And.intro @BI <| And.intro @Fg <|
 And.intro @MU <| And.intro @MV <| And.intro @MW <| And.intro @MX <| And.intro @MY <| And.intro @MZ <| And.intro @M1 <| And.intro @M2 <| And.intro @M3 <| And.intro @G.put_h <| And.intro @G.put_nx <| And.intro @G.new_h <| And.intro @G.new_nx <| And.intro @aJ <| And.intro @By <| @EV
def St (t:T):List (Nat×AV)->Prop
 | []=>True
 | (n,v)::r=>tat t n=v/\St t r
abbrev VS:=(Nat->Prop)->Nat->H->AV->Prop
def One {α:Type} [Rp α](x:α):VS:=λP k h v=>Rp.rp P k h x [v]
def Agg {α:Type} [Rp α](x:α):VS:=λP k h v=>∃cs,v=.agg cs/\Rp.rp P k h x cs
def zG (S R:VS):VS:=λP k h v=>∃a b,v=.tup [a,b]/\S P k h a/\R P k h b
def Oe (S R U:VS):VS:=λP k h v=>∃a b c,v=.tup [a,b,c]/\S P k h a/\R P k h b/\U P k h c
structure Snb (S:VS) (j:Nat):Prop where
 snap:∀{P k h v n} (d:Nat),S P k h v->20+j<=n->∃v',Hx.snap h d n v=some v'/\S NoP (max k d) .nil v'
 tag:∀{k h v n},S NoP k h v->20+j<=n->∃m,eD n v=some m/\m<=k
theorem bj {α:Type} [Rp α](x:α)(hd:Rp.dp α<=20:=by decide):Snb (One x) 0:=by
 refine ⟨λ{P k h v n} d r hn=>?_,λ{k h v n} r hn=>?_⟩
 ·obtain ⟨cs',e,r'⟩:=Rp.snap (n:=n) d r (by omega) (by show _<=24;omega);simp only[aI] at e
  split at e
  ·rename_i w hw;injection e with e;subst e;exact ⟨w,hw,r'⟩
  ·cases e
 ·obtain ⟨m,e,l⟩:=Rp.tag (n:=n) r (by omega);simp only[h_] at e
  split at e
  ·rename_i w hw;injection e with e;subst e;exact ⟨w,hw,by have:Nat.max w 0=w:=Nat.max_eq_left (Nat.zero_le w);omega⟩
  ·cases e
theorem dN {α:Type} [Rp α](x:α)(hd:Rp.dp α<=20:=by decide):Snb (Agg x) 1:=by
 refine ⟨λ{P k h v n} d r hn=>?_,λ{k h v n} r hn=>?_⟩
 ·obtain ⟨cs,rfl,r⟩:=r;obtain ⟨n,rfl⟩:∃m,n=m+1:=⟨n - 1,by omega⟩;obtain ⟨cs',e,r'⟩:=Rp.snap (n:=n) d r (by omega) (by show _<=24;omega);exact ⟨.agg cs',by simp only[Hx.snap,e],cs',rfl,r'⟩
 ·obtain ⟨cs,rfl,r⟩:=r;obtain ⟨n,rfl⟩:∃m,n=m+1:=⟨n - 1,by omega⟩;obtain ⟨m,e,l⟩:=Rp.tag (n:=n) r (by omega);exact ⟨m,by simp only[eD,e],l⟩
theorem jm {S R:VS}{i j m:Nat}(hs:Snb S i)(hr:Snb R j)(hi:i+1<=m)(hj:j+1<=m):Snb (zG S R) m:=by
 refine ⟨λ{P k h v n} d r hn=>?_,λ{k h v n} r hn=>?_⟩
 ·obtain ⟨a,b,rfl,r1,r2⟩:=r;obtain ⟨n,rfl⟩:∃m,n=m+1:=⟨n - 1,by omega⟩;obtain ⟨a',e1,r1'⟩:=hs.snap (n:=n) d r1 (by omega);obtain ⟨b',e2,r2'⟩:=hr.snap (n:=n) d r2 (by omega);exact ⟨.tup [a',b'],by simp only[Hx.snap,aI,e1,e2],a',b',rfl,r1',r2'⟩
 ·obtain ⟨a,b,rfl,r1,r2⟩:=r;obtain ⟨n,rfl⟩:∃m,n=m+1:=⟨n - 1,by omega⟩;obtain ⟨m1,e1,l1⟩:=hs.tag (n:=n) r1 (by omega);obtain ⟨m2,e2,l2⟩:=hr.tag (n:=n) r2 (by omega);refine ⟨max m1 m2,?_,by omega⟩;simp only[eD,h_,e1,e2];congr 1;show max m1 (max m2 0)=_;omega
theorem Kp {S R U:VS}{i j l m:Nat}(hs:Snb S i)(hr:Snb R j)(hu:Snb U l)(hi:i+1<=m)(hj:j+1<=m)(hl:l+1<=m):Snb (Oe S R U) m:=by
 refine ⟨λ{P k h v n} d r hn=>?_,λ{k h v n} r hn=>?_⟩
 ·obtain ⟨a,b,c,rfl,r1,r2,r3⟩:=r;obtain ⟨n,rfl⟩:∃m,n=m+1:=⟨n - 1,by omega⟩;obtain ⟨a',e1,r1'⟩:=hs.snap (n:=n) d r1 (by omega);obtain ⟨b',e2,r2'⟩:=hr.snap (n:=n) d r2 (by omega);obtain ⟨c',e3,r3'⟩:=hu.snap (n:=n) d r3 (by omega);exact ⟨.tup [a',b',c'],by simp only[Hx.snap,aI,e1,e2,e3],a',b',c',rfl,r1',r2',r3'⟩
 ·obtain ⟨a,b,c,rfl,r1,r2,r3⟩:=r;obtain ⟨n,rfl⟩:∃m,n=m+1:=⟨n - 1,by omega⟩;obtain ⟨m1,e1,l1⟩:=hs.tag (n:=n) r1 (by omega);obtain ⟨m2,e2,l2⟩:=hr.tag (n:=n) r2 (by omega);obtain ⟨m3,e3,l3⟩:=hu.tag (n:=n) r3 (by omega);refine ⟨max m1 (max m2 m3),?_,by omega⟩;simp only[eD,h_,e1,e2,e3];congr 1;show max m1 (max m2 (max m3 0))=_;omega
def Arg (S:VS)(k d:Nat)(h:H)(v v':AV):Prop:=Hx.snap h d aD v=some v'/\S NoP k .nil v'
theorem rm {S:VS}{j:Nat}(hs:Snb S j)(hj:j<=4){P:Nat->Prop}{k:Nat}{h:H}{v:AV}(d:Nat)(r:S P k h v):∃v',Arg S (max k d) d h v v':=by obtain ⟨v',e,r'⟩:=hs.snap (n:=aD) d r (by show _<=24;omega);exact ⟨v',e,r'⟩
theorem vP {α:Type} [Rp α]{x:α}{k:Nat}{h:H}{v:AV}(d:Nat)(r:Agg x NoP k h v)(hd:Rp.dp α<=20:=by decide):Hx.snap h d aD v=some v:=by obtain ⟨cs,rfl,r⟩:=r;show (match aI (Hx.snap h d 23) cs with | some as=>some (AV.agg as) | none=>none)=_;rw[Rp.same (n:=23) d r (by omega)]
theorem ig {α:Type} [Rp α]{l:List α}{k:Nat}{h:H}{v:AV}(d:Nat)(r:SlR NoP k h l v):Hx.snap h d aD v=some v:=by
 have r:=r.2;unfold SlV at r
 split at r<;>first | rfl | exact r.1.elim | exact r.elim
theorem iQ (k d:Nat)(h:H)(q:IntKind)(x:Int):Hx.snap h d aD (.int q x)=some (.int q x):=rfl
theorem Ba (k d:Nat)(h:H)(x:Bool):Hx.snap h d aD (.bool x)=some (.bool x):=rfl
theorem HJ {h:H}{v:AV}(hv:w_ h v)(hl:(mG h v).length<9223372036854775808)(d:Nat) :
  ∃v',Hx.snap h d aD v=some v'/\(∀h',ah h' 1 v'=some ((mG h v).map ci))/\∀g,eB .slice v' g=.val (.int .i64 ((mG h v).length:Int)):=by
 suffices hs:∃v',Hx.snap h d aD v=some v'/\(∀h',ah h' 1 v'=some ((mG h v).map ci)) by obtain ⟨v',e,hr⟩:=hs;exact ⟨v',e,hr,λg=>by rw[jY (hr .nil),List.length_map]⟩
 obtain ⟨k,r⟩:∃k,SlV (λ_=>True) k h (mG h v) v:=by
  have e:=hv;unfold w_ at e;have all:∀P k h',All2 (Rp.rp P k h') (mG h v) ((mG h v).map ci):=λP k h'=>All2.of_map (λa=>bc.2 rfl) _;cases v with
  | nils=>exact ⟨0,by simp only[ah] at e;injection e with e;exact (List.map_eq_nil_iff.1 e.symm)⟩
  | esl=>exact ⟨0,by simp only[ah] at e;injection e with e;exact (List.map_eq_nil_iff.1 e.symm)⟩
  | tsl t s rows =>
   refine ⟨t,Nat.le_refl t,?_,?_⟩
   ·simp only[ah,aa] at e
    split at e
    ·rename_i hc;rw[Bool.or_eq_true] at hc;rcases hc with hc | hc
     ·exact .inl (Nat.eq_of_beq_eq_true hc).symm
     ·exact .inr (List.isEmpty_iff.1 hc)
    ·cases e
   ·simp only[ah,aa] at e
    split at e
    ·injection e with e;exact cast (congrArg _ e.symm) (all NoP t .nil)
    ·cases e
  | hsl id ep off len lim=>exact ⟨0,trivial,_,e,all _ _ _⟩
  | _=>simp[ah] at e
 obtain ⟨v',e,r'⟩:=(bj (mG h v)).snap (n:=aD) d (show One (mG h v) _ k h v from ⟨v,rfl,hl,r⟩) (by decide);refine ⟨v',e,λh'=>?_⟩;obtain ⟨w,hw,r'⟩:=r';injection hw with hw;subst hw;have:SlR (λ_=>True) (max k d) h' (mG h v) v':=by have:=(Rp.mono (P':=λ_=>True) (k':=max k d) (h':=h') (show Rp.rp NoP (max k d) .nil (mG h v) [v'] from ⟨v',rfl,r'⟩) (λi hi=>hi.elim) (Nat.le_refl _));obtain ⟨w,hw,q⟩:=this;injection hw with hw;subst hw;exact q
 exact this.ints
abbrev IT (k:Nat)(l:List Int)(r:AV):Prop:=One l NoP k .nil r
theorem IT.sl {k:Nat}{l:List Int}{r:AV}(h:IT k l r)(h':H):SlR NoP k h' l r:=by obtain ⟨w,hw,q⟩:=Rp.tree (P:=NoP) (k':=k) (h':=h') h (Nat.le_refl _);injection hw with hw;subst hw;exact q
theorem IT.rows {k:Nat}{l:List Int}{r:AV}(h:IT k l r)(h':H):ah h' 1 r=some (l.map ci):=(h.sl h').ints
theorem IT.len {k:Nat}{l:List Int}{r:AV}(h:IT k l r)(g:G):eB .slice r g=.val (.int .i64 (l.length:Int)):=by rw[jY (h.rows .nil),List.length_map]
theorem SlR.cell {α:Type} [Rp α]{P:Nat->Prop}{k:Nat}{h:H}{l:List α}{v:AV}(r:SlR P k h l v):v.cells=[v]/\v.isTup=false:=by
 have r:=r.2;unfold SlV at r
 split at r<;>first | exact ⟨rfl,rfl⟩ | exact r.elim
section iso
variable {C:Cfg}{f d:Nat}{s:SF}{g:G}{args xs:List AV}
theorem bu (hf:nFn C f=some s)(hs:aI (snap g.h d aD) args=some xs)(hl:xs.length<=s.nt){R:VS}{j:Nat}(hR:Snb R j)(hj:j<=4){k':Nat}(hk:k'<d)
  (h:wp C (d+1) none s.code (fnQ C (d+1) s.res λv g'=>∃P,R P k' g'.h v) (bT 0 xs .nil) [] G.empty):∃r,aA (I C) d g f args=.val r/\R NoP k' .nil r:=by
 have h:=qw hf hl h;unfold aA;rw[hs];dsimp only;cases hc:(I C).call (Nat.succ d) f xs G.empty with
 | fail=>rw[show (I C).call (d+1) f xs G.empty=.fail from hc] at h;exact h.elim
 | ok v g' =>
  rw[show (I C).call (d+1) f xs G.empty=.ok v g' from hc] at h;obtain ⟨P,h⟩:=h;obtain ⟨r,e,hr⟩:=hR.snap (n:=aD) 0 h (by show _<=24;omega);rw[Nat.max_eq_left (Nat.zero_le k')] at hr;obtain ⟨m,em,lm⟩:=hR.tag (n:=aD) hr (by show _<=24;omega);refine ⟨r,?_,hr⟩;simp only[e,em,aa,Nat.blt_eq];rw[if_pos (by omega)]
theorem gK (hf:nFn C f=some s)(hl:xs.length<=s.nt){K:AV->G->Prop}{D:ADf->Prop}(h:wp C d none s.code (fnQ C d s.res K) (bT 0 xs .nil) [] g):(orF ((I C).call d f xs g)).sat K g D:=by
 have h:=qw hf hl h;cases hc:(I C).call d f xs g with
 | fail=>rw[hc] at h;exact h.elim
 | ok v g'=>rw[hc] at h;exact h
theorem l8 (hf:nFn C f=some s)(hs:aI (snap g.h d aD) args=some xs)(hl:xs.length<=s.nt){q:IntKind}{x:Int}(hk:0<d)
  (h:wp C (d+1) none s.code (fnQ C (d+1) s.res λv _=>v=.int q x) (bT 0 xs .nil) [] G.empty):aA (I C) d g f args=.val (.int q x):=by
 have h:=qw hf hl h;unfold aA;rw[hs];dsimp only;cases hc:(I C).call (Nat.succ d) f xs G.empty with
 | fail=>rw[show (I C).call (d+1) f xs G.empty=.fail from hc] at h;exact h.elim
 | ok v g' =>
  rw[show (I C).call (d+1) f xs G.empty=.ok v g' from hc] at h;have h:v=.int q x:=h;subst h;show (match eD aD (.int q x) with | none=>OR.fail | some m=>ap (Nat.blt m d) (.val (.int q x)) _)=_;rw[show eD aD (.int q x)=some 0 from rfl];simp only[aa,Nat.blt_eq];rw[if_pos hk]
theorem xg (hf:nFn C f=some s)(hs:aI (snap g.h d aD) args=some xs)(hl:xs.length<=s.nt){x:Bool}(hk:0<d)
  (h:wp C (d+1) none s.code (fnQ C (d+1) s.res λv _=>v=.bool x) (bT 0 xs .nil) [] G.empty):aA (I C) d g f args=.val (.bool x):=by
 have h:=qw hf hl h;unfold aA;rw[hs];dsimp only;cases hc:(I C).call (Nat.succ d) f xs G.empty with
 | fail=>rw[show (I C).call (d+1) f xs G.empty=.fail from hc] at h;exact h.elim
 | ok v g' =>
  rw[show (I C).call (d+1) f xs G.empty=.ok v g' from hc] at h;have h:v=.bool x:=h;subst h;show (match eD aD (.bool x) with | none=>OR.fail | some m=>ap (Nat.blt m d) (.val (.bool x)) _)=_;rw[show eD aD (.bool x)=some 0 from rfl];simp only[aa,Nat.blt_eq];rw[if_pos hk]
end iso
end
end Hx
end
section
namespace Hx
open Go
section
variable {C:Cfg}{A:Nat->Nat->Prop}{bd:Nat}{w w':World}{γ γ':Gm}{hg:Nat->AObj}{nx:Nat}
variable {op:Op}{t:T}{g:G}{f:Stg SFn}
theorem uJ {h:H}{sz id:Nat}{x:AV}(hid:id∈af x)(hn:h.get id=.none):ah h sz x=none:=by
 cases x<;>simp[af] at hid
 ·subst hid;simp[ah,hn]
 ·rfl
 ·rfl
theorem zp {sz id:Nat}{x:AV}{bytes:Nat}{new:List (List AV)}(hid:id∈af x)(hn:g.h.get id=.none):aU sz bytes x new g=.fail:=by
 cases x<;>simp[af] at hid
 ·subst hid;simp[aU,hn]
 ·rfl
 ·rfl
theorem CM (h:bL C op=some f){id:Nat}(hid:id∈a_ C op t g)(hn:g.h.get id=.none):f.run t g=.fail:=by
 have one:∀{x:AV},id∈af x->(∃a b c d,x=.hptr a b c d/\g.h.get a=.none)\/(∃a b c d e,x=.hsl a b c d e/\g.h.get a=.none)\/(∃a,x=.hmap a/\g.h.get a=.none):=by
  intro x hx;cases x<;>simp[af] at hx
  ·subst hx;exact .inr (.inl ⟨_,_,_,_,_,rfl,hn⟩)
  ·subst hx;exact .inl ⟨_,_,_,_,rfl,hn⟩
  ·subst hx;exact .inr (.inr ⟨_,rfl,hn⟩)
 cases op<;>simp only[bL] at h<;>first | (cases h;done) | skip
 case call c =>
  obtain ⟨callee,args,argTypes⟩:=c;cases callee<;>first | (cases h;done) | skip
  rename_i b;dsimp only at h;obtain ⟨vs,hvs⟩:=qS h;have hid:id∈(vs.run t).flatMap (jK C b argTypes):=by simpa only[a_,aH,hvs,ac,List.map_nil,List.append_nil] using hid
  generalize args.toList=l at h hvs;unfold cQ at h
  split at h
  ·
   split at h
   ·rename_i tt s h0 hs;injection h with h;subst h;simp only[bG,hs,Option.some.injEq] at hvs;subst hvs;simp only[List.flatMap_cons,List.flatMap_nil,List.append_nil,jK,h0] at hid;dsimp only;generalize s.run t=x at *;generalize jO C.P tt=k at *;cases k<;>simp at hid;cases x<;>simp[tp] at hid;subst hid;simp[eB,hn]
   ·cases h
  ·
   split at h
   ·rename_i tt xt sa sx h0 h1 ha hx;simp only[bG,ha,hx,Option.some.injEq] at hvs;subst hvs;simp only[List.flatMap_cons,List.flatMap_nil,List.append_nil,jK,List.mem_append] at hid
    repeat' (first | split at h | (rw[aa] at h;split at h))
    all_goals first | (cases h;done) | skip
    all_goals (injection h with h;subst h)
    ·dsimp only[cP]
     split
     ·rfl
     ·rename_i new hnew;rcases hid with hid | hid
      ·exact zp hid hn
      ·rw[uJ hid hn] at hnew;cases hnew
    ·dsimp only[sn]
     split
     ·rfl
     ·rename_i n hnat;rcases hid with hid | hid
      ·rw[aa]
       split
       ·exact zp hid hn
       ·rfl
      ·generalize sx.run t=x at *;cases x<;>simp[af] at hid<;>simp[c_] at hnat
   ·cases h
  ·
   split at h
   ·rename_i tt sa sx h0 ha hx;simp only[bG,ha,hx,Option.some.injEq] at hvs;subst hvs;simp only[List.flatMap_cons,List.flatMap_nil,List.append_nil,jK,List.mem_append] at hid
    repeat' (first | split at h)
    all_goals first | (cases h;done) | skip
    all_goals (injection h with h;subst h)
    dsimp only[yV]
    split
    ·rfl
    ·rename_i src hsrc;rcases hid with hid | hid
     ·rcases one hid with ⟨a,b,c,d,e,h1⟩ | ⟨a,b,c,d,e',e,h1⟩ | ⟨a,e,h1⟩<;>rw[e]<;>simp[h1]
     ·rw[uJ hid hn] at hsrc;cases hsrc
   ·cases h
  ·
   split at h
   ·rename_i tt s h0 hs;simp only[bG,hs,Option.some.injEq] at hvs;subst hvs;simp only[List.flatMap_cons,List.flatMap_nil,List.append_nil,jK] at hid
    repeat' (first | split at h)
    all_goals first | (cases h;done) | skip
    all_goals (injection h with h;subst h)
    dsimp only[HX];rcases one hid with ⟨a,b,c,d,e,h1⟩ | ⟨a,b,c,d,e',e,h1⟩ | ⟨a,e,h1⟩<;>rw[e]<;>simp[h1]
   ·cases h
  ·
   split at h
   ·rename_i tt s h0 hs;simp only[bG,hs,Option.some.injEq] at hvs;subst hvs;simp only[List.flatMap_cons,List.flatMap_nil,List.append_nil,jK] at hid
    repeat' (first | split at h | (rw[aa] at h;split at h))
    all_goals first | (cases h;done) | skip
    all_goals (injection h with h;subst h)
    dsimp only;generalize s.run t=x at *;cases x with
    | hsl i ep off len lim =>
     cases len with
     | zero=>simp[qE] at hid
     | succ len =>
      simp[qE] at hid;subst hid;simp[wx,hn]
    | _=>simp[qE] at hid
   ·cases h
  ·
   split at h
   ·rename_i sa sx ha hx;injection h with h;subst h;simp only[bG,ha,hx,Option.some.injEq] at hvs;subst hvs;simp only[List.flatMap_cons,List.flatMap_nil,List.append_nil,jK,List.mem_append] at hid;dsimp only;rcases hid with hid | hid
    ·rcases one hid with ⟨a,b,c,d,e,h1⟩ | ⟨a,b,c,d,e',e,h1⟩ | ⟨a,e,h1⟩<;>rw[e]
    ·split
     ·rcases one hid with ⟨a,b,c,d,e,h1⟩ | ⟨a,b,c,d,e',e,h1⟩ | ⟨a,e,h1⟩<;>rw[e]
     ·rfl
   ·cases h
  ·
   split at h
   ·rename_i sa sx ha hx;injection h with h;subst h;simp only[bG,ha,hx,Option.some.injEq] at hvs;subst hvs;simp only[List.flatMap_cons,List.flatMap_nil,List.append_nil,jK,List.mem_append] at hid;dsimp only;rcases hid with hid | hid
    ·rcases one hid with ⟨a,b,c,d,e,h1⟩ | ⟨a,b,c,d,e',e,h1⟩ | ⟨a,e,h1⟩<;>rw[e]
    ·split
     ·rcases one hid with ⟨a,b,c,d,e,h1⟩ | ⟨a,b,c,d,e',e,h1⟩ | ⟨a,e,h1⟩<;>rw[e]
     ·rfl
   ·cases h
  ·cases h
 case load ty a =>
  split at h
  ·rename_i s ag n hs hag hn';injection h with h;subst h;simp only[a_,aH,hs,ac,List.map_nil,List.append_nil] at hid;dsimp only[kY];rcases one hid with ⟨a,b,c,d,e,h1⟩ | ⟨a,b,c,d,e',e,h1⟩ | ⟨a,e,h1⟩<;>rw[e]<;>simp[h1]
  ·cases h
 case store ty a x =>
  split at h
  ·rename_i s u n hs hu hn';injection h with h;subst h;simp only[a_,aH,hs,ac,List.map_nil,List.append_nil] at hid;dsimp only[mM];rcases one hid with ⟨a,b,c,d,e,h1⟩ | ⟨a,b,c,d,e',e,h1⟩ | ⟨a,e,h1⟩<;>rw[e]<;>simp[h1]
  ·cases h
 case indexAddr ty x ix =>
  split at h
  ·rename_i s i hs hi
   split at h
   ·rename_i e hu
    split at h
    ·injection h with h;subst h;simp only[a_,aH,hs,hu,ac,List.map_nil,List.append_nil] at hid;dsimp only[fS];rcases one hid with ⟨a,b,c,d,e,h1⟩ | ⟨a,b,c,d,e',e,h1⟩ | ⟨a,e,h1⟩<;>rw[e];dsimp only
     split
     ·simp[h1]
     ·rfl
    ·cases h
   ·rename_i n e hu;simp[a_,aH,hs,hu,ay] at hid
   ·cases h
  ·cases h
 case lookup ty x k ok =>
  split at h
  ·rename_i sm kk kt et hm hk hu
   split at h
   ·injection h with h;subst h;have hid:id∈af (sm.run t):=by cases ok<;>simpa [a_,aH,hm,ac] using hid
    dsimp only[b_];rw[aa]
    split
    ·rcases one hid with ⟨a,b,c,d,e,h1⟩ | ⟨a,b,c,d,e',e,h1⟩ | ⟨a,e,h1⟩<;>rw[e]<;>simp[h1]
    ·rfl
   ·cases h
  ·cases h
 case mapUpdate ty m k x =>
  split at h
  ·rename_i sm sk sx kt et hm hk hx hu;injection h with h;subst h;simp only[a_,aH,hm,ac,List.map_nil,List.append_nil] at hid;dsimp only[cw];rw[aa]
   split
   ·rcases one hid with ⟨a,b,c,d,e,h1⟩ | ⟨a,b,c,d,e',e,h1⟩ | ⟨a,e,h1⟩<;>rw[e]<;>simp[h1]
   ·rfl
  ·cases h
 case insert ty m k x =>
  split at h
  ·rename_i sm sk sx kt et hm hk hx hu;injection h with h;subst h;simp only[a_,aH,hm,ac,List.map_nil,List.append_nil] at hid;dsimp only[cw];rw[aa]
   split
   ·rcases one hid with ⟨a,b,c,d,e,h1⟩ | ⟨a,b,c,d,e',e,h1⟩ | ⟨a,e,h1⟩<;>rw[e]<;>simp[h1]
   ·rfl
  ·cases h
 case mapEntry ty m k =>
  split at h
  ·rename_i sm sk kt et hm hk hu
   split at h
   ·injection h with h;subst h;simp only[a_,aH,hm,List.map_nil,List.append_nil] at hid;dsimp only[fj];rw[aa]
    split
    ·rcases one hid with ⟨a,b,c,d,e,h1⟩ | ⟨a,b,c,d,e',e,h1⟩ | ⟨a,e,h1⟩<;>rw[e]<;>simp[h1]
    ·rfl
   ·cases h
  ·cases h
 case entryStore ty m st x =>
  split at h
  ·rename_i sm ss sx hm hs hx;injection h with h;subst h;simp only[a_,aH,hm,ac,List.map_nil,List.append_nil] at hid;dsimp only[gk];rcases one hid with ⟨a,b,c,d,e,h1⟩ | ⟨a,b,c,d,e',e,h1⟩ | ⟨a,e,h1⟩<;>rw[e]<;>simp[h1]
  ·cases h
 case slice ty x lo hi mx =>
  have key:∀{sz:Nat} {y:AV} {l h' m:Option AV},id∈af y->lB sz y l h' m g.h=none:=by intro sz y l h' m hy;rcases one hy with ⟨a,b,c,d,e,h1⟩ | ⟨a,b,c,d,e',e,h1⟩ | ⟨a,e,h1⟩<;>rw[e]<;>simp[lB,h1]
  cases mx with
  | none =>
   dsimp only at h
   split at h
   ·rename_i e sx sl sh hu hx hl hh
    split at h
    ·injection h with h;subst h;simp only[a_,aH,hx,ac,List.map_nil,List.append_nil] at hid;dsimp only;rw[key hid];rfl
    ·cases h
   ·rename_i n e sx sl sh hu hx hl hh
    split at h
    ·injection h with h;subst h;simp only[a_,aH,hx,ac,List.map_nil,List.append_nil] at hid;dsimp only[gF]
     split
     ·rfl
     ·split
      ·rfl
      ·rcases one hid with ⟨a,b,c,d,e,h1⟩ | ⟨a,b,c,d,e',e,h1⟩ | ⟨a,e,h1⟩<;>rw[e]<;>simp[h1]
    ·cases h
   ·cases h
  | some mx =>
   cases hi with
   | none=>cases h
   | some hi =>
    dsimp only at h
    split at h
    ·rename_i e sx sl sh sm he hx hl hh hm
     split at h
     ·injection h with h;subst h;simp only[a_,aH,hx,ac,List.map_nil,List.append_nil] at hid;dsimp only;rw[key hid];rfl
     ·cases h
    ·cases h
 all_goals simp[a_,aH,ay] at hid
structure CfgOk (C:Cfg):Prop where
 mixed:C.P.follows .mixedOrders=true
 recov:C.P.follows .rangeFuncRecover=true
 mon:mf C
 noDfr:∀f e,C.ext f=some e->∀d args g y,e d args g≠.dfr y
 ext:∀f e,C.ext f=some e->∀A bd w γ hg nx g as vs,Rel C A bd w γ hg nx->WF g->(∀id∈as.flatMap (aw g.h aD),g.h.get id≠.none->hg id=g.h.get id)->Free γ g (gOf g (e (bd+1) as g)) ->
  RVs w γ A bd as vs->e (bd+1) as g≠.fail->∀cs,
  ∃u w' γ' hg',Fin C A bd w γ hg nx g w' γ' hg' (gOf g (e (bd+1) as g))/\RV w' γ' A bd (vOf (e (bd+1) as g)) u /\
   ((callFunc f vs.toArray).run C.P w=.ok (.value u) w'\/(Enters C.P f/\Outs C.P .normal f vs.toArray cs w u w'))
def DR (w:World)(γ:Gm)(A:Nat->Nat->Prop)(bd:Nat):List ADf->List Deferred->Prop
 | [],[]=>True
 | .mark id::ds,d::es=>((γ id).kind=4/\d={ target:=.collected (γ id).blk,args:=#[] })/\DR w γ A bd ds es
 | .call fv args::ds,d::es=>(∃f ys us,fv=.clo f [] ys/\d.target=.fn (.func f) us/\RVs w γ A bd ys us.toList/\RVs w γ A bd args d.args.toList)/\DR w γ A bd ds es
 | _,_=>False
theorem DR.step {ds:List ADf}:∀{es:List Deferred},DR w γ A bd ds es->Stp w γ w' γ'->DR w' γ' A bd ds es:=by
 induction ds with
 | nil=>intro es h _;cases es<;>simpa [DR] using h
 | cons d ds ih =>
  intro es h s;cases es with
  | nil=>cases d<;>simp[DR] at h
  | cons e es =>
   cases d with
   | mark id =>
    obtain ⟨⟨h1,h2⟩,h3⟩:=h;have hk:(γ id).kind≠0:=by rw[h1];decide
    exact ⟨⟨by rw[s.kind_eq hk,h1],by rw[h2,s.blk_eq hk (by rw[h1];decide)]⟩,ih h3 s⟩
   | call fv args =>
    obtain ⟨⟨f,ys,us,h1,h2,h4,h5⟩,h3⟩:=h;exact ⟨⟨f,ys,us,h1,h2,h4.step s,h5.step s⟩,ih h3 s⟩
theorem TR.step {nt:Nat}{tmps:Array Value}(h:TR w γ A bd nt t tmps)(s:Stp w γ w' γ'):TR w' γ' A bd nt t tmps :=
 ⟨h.1,λi=>(h.2 i).step s⟩
def RdOk (γ:Gm)(rd:Option Nat)(b:Frame):Prop :=
 match rd with
 | none=>b.roundOf=none
 | some id=>(γ id).kind=3/\b.roundOf=some (γ id).blk
theorem RdOk.step {rd:Option Nat}{b:Frame}(h:RdOk γ rd b)(s:Stp w γ w' γ'):RdOk γ' rd b:=by
 cases rd with
 | none=>exact h
 | some id =>
  obtain ⟨h1,h2⟩:=h;have hk:(γ id).kind≠0:=by rw[h1];decide
  exact ⟨by rw[s.kind_eq hk,h1],by rw[h2,s.blk_eq hk (by rw[h1];decide)]⟩
def Arr (P:Program)(m:Machine)(b:Frame)(k:List Item)(cs:List Frame):Ex->Act->World->Prop
 | .norm,a,w=>Steps P m (lone (b.atR a k) cs w)
 | .exit id,a,w=>∃k₁,exitTo id k₁=exitTo id k/\Steps P m (lone (b.atR a (.code (.exit id)::k₁)) cs w)
 | .ret,a,w=>∃k₁,Steps P m (lone (b.atR a (.code .ret::k₁)) cs w)
theorem Arr.of_steps {P:Program}{m m₁:Machine}{b:Frame}{k:List Item}{cs:List Frame}{e:Ex}{a:Act}(h:Steps P m m₁)(h':Arr P m₁ b k cs e a w):Arr P m b k cs e a w:=by
 cases e with
 | norm=>exact Steps.trans h h'
 | exit id=>obtain ⟨k₁,h1,h2⟩:=h';exact ⟨k₁,h1,Steps.trans h h2⟩
 | ret=>obtain ⟨k₁,h2⟩:=h';exact ⟨k₁,Steps.trans h h2⟩
def ve (C:Cfg)(bd nt:Nat)(rd:Option Nat)(c:Code)(t:T)(df:List ADf)(g:G)(e:Ex)(t':T)(df':List ADf)(g':G):Prop :=
 ∀A w γ hg nx b a k cs,Rel C A bd w γ hg nx->Ext g.h hg->WF g->Free γ g g'->TR w γ A bd nt t a.tmps->DR w γ A bd df a.defers->RdOk γ rd b->rZ b.kind cs ->
  ∃a' w' γ' hg',Fin C A bd w γ hg nx g w' γ' hg' g'/\TR w' γ' A bd nt t' a'.tmps/\DR w' γ' A bd df' a'.defers /\
   Arr C.P (lone (b.atR a (.code c::k)) cs w) b k cs e a' w'
def Nb (C:Cfg)(ih:IH):Prop :=
 ∀bd nt rd c t df g e t' df' g',ih.code nt (bd+1) rd c t df g=.ok e t' df' g'->ve C bd nt rd c t df g e t' df' g'
structure IHOk (C:Cfg) (ih:IH):Prop where
 mon:IHMon ih
 call:HD C ih
 code:Nb C ih
theorem RVs.append {xs ys:List AV}{vs us:List Value}(h1:RVs w γ A bd xs vs)(h2:RVs w γ A bd ys us):RVs w γ A bd (xs++ys) (vs++us):=by
 refine ⟨by simp[h1.1,h2.1],λi x v hx hv=>?_⟩
 by_cases hi:i<xs.length
 ·rw[List.getElem?_append_left hi] at hx;rw[List.getElem?_append_left (by rw[<-h1.1];exact hi)] at hv;exact h1.2 i x v hx hv
 ·rw[List.getElem?_append_right (by omega)] at hx;rw[List.getElem?_append_right (by rw[<-h1.1];omega),<-h1.1] at hv;exact h2.2 _ x v hx hv
theorem RVs.ofArr {xs:List AV}{vs:Array Value}(hl:xs.length=vs.size)(h:∀(i:Nat) x v,xs[i]?=some x->vs[i]?=some v->RV w γ A bd x v) :
  RVs w γ A bd xs vs.toList:=⟨by simpa using hl,λi x v hx hv=>h i x v hx (by simpa using hv)⟩
section
variable {P:Program}{b:Frame}{a:Act}{ops:Array Oper}{i:Nat}{rest:List Nat}{k:List Item}{cs:List Frame}{o:Oper}
theorem xT {v:Value}(ho:ops[i]?=some o)(hw:Region.wanted o (yielded ops a.tmps)=true)(hd:∀c,o.op≠.defer c)
  (hrun:(execOp a.eval o).run P w=.ok (.value v) w') :
  step P (lone (b.atR a (.inRegion ops (i::rest)::k)) cs w)=.next (lone (b.atR (a.put o.dst v) (.inRegion ops rest::k)) cs w'):=by
 have hfin:=Frame.finish_atR b a ops i rest k v;rw[ho] at hfin;simp only[Option.bind_some] at hfin;refine step_lone_go ?_;rw[stepGR_op ho hw,Oper.semAt_eq _ _ _ hd,<-hfin];simp[stepG.apply,hrun]
theorem Hv (ho:ops[i]?=some o)(hw:Region.wanted o (yielded ops a.tmps)=true)(hd:∀c,o.op≠.defer c)
  (hrun:(execOp a.eval o).run P w=.ok .skip w') :
  step P (lone (b.atR a (.inRegion ops (i::rest)::k)) cs w)=.next (lone (b.atR (a.put o.dst undef) (.inRegion ops rest::k)) cs w'):=by
 have hfin:=Frame.finish_atR b a ops i rest k undef;rw[ho] at hfin;simp only[Option.bind_some] at hfin;refine step_lone_go ?_;rw[stepGR_op ho hw,Oper.semAt_eq _ _ _ hd,<-hfin];simp[stepG.apply,hrun]
theorem rR {v:Value}(ho:ops[i]?=some o)(hw:Region.wanted o (yielded ops a.tmps)=true)(hd:∀c,o.op≠.defer c)
  (hrun:A6 P o a.eval w v w') :
  Steps P (lone (b.atR a (.inRegion ops (i::rest)::k)) cs w) (lone (b.atR (a.put o.dst v) (.inRegion ops rest::k)) cs w'):=by
 rcases hrun with h | ⟨h,rfl⟩
 ·exact .one (xT ho hw hd h)
 ·exact .one (Hv ho hw hd h)
theorem Ef {f:FuncId}{args:Array Value}(ho:ops[i]?=some o)(hw:Region.wanted o (yielded ops a.tmps)=true)(hd:∀c,o.op≠.defer c)
  (hrun:(execOp a.eval o).run P w=.ok (.enter f args) w') :
  step P (lone (b.atR a (.inRegion ops (i::rest)::k)) cs w)=.next (lone (Frame.enter P f args .normal) (b.atR a (.inRegion ops (i::rest)::k)::cs) w'):=by
 refine step_lone_go ?_;rw[stepGR_op ho hw,Oper.semAt_eq _ _ _ hd];simp[stepG.apply,hrun,Frame.atR]
theorem Eg {l:Nat}{f:FuncId}{tmps:Array Value}{assign body:Code}(ho:ops[i]?=some o)(hw:Region.wanted o (yielded ops a.tmps)=true)(hd:∀c,o.op≠.defer c)
  (hrun:(execOp a.eval o).run P w=.ok (.round l f tmps assign body) w') :
  step P (lone (b.atR a (.inRegion ops (i::rest)::k)) cs w)=.next (lone (Frame.round l f tmps assign body .normal) (b.atR a (.inRegion ops (i::rest)::k)::cs) w'):=by
 refine step_lone_go ?_;rw[stepGR_op ho hw,Oper.semAt_eq _ _ _ hd];simp[stepG.apply,hrun,Frame.atR]
theorem rS {f:FuncId}{args:Array Value}{u:Value}{w₁:World}(ho:ops[i]?=some o)(hw:Region.wanted o (yielded ops a.tmps)=true)(hd:∀c,o.op≠.defer c)
  (hrun:(execOp a.eval o).run P w=.ok (.enter f args) w)
  (hout:Outs P .normal f args (b.atR a (.inRegion ops (i::rest)::k)::cs) w u w₁) :
  Steps P (lone (b.atR a (.inRegion ops (i::rest)::k)) cs w) (lone (b.atR (a.put o.dst u) (.inRegion ops rest::k)) cs w₁):=by
 obtain ⟨fr,hs,h1,h2,h3,h4,fn,h5,h6⟩:=hout;have hfin:=Frame.finish_atR b a ops i rest k u;rw[ho] at hfin;simp only[Option.bind_some] at hfin;refine .head (Ef ho hw hd hrun) (Steps.trans hs (.one ?_));rw[<-hfin];exact step_leave_returned ⟨h1,h2,h3,fn,by rw[h4];exact h5,h6⟩
theorem AQ (ho:ops[i]?=some o)(hw:Region.wanted o (yielded ops a.tmps)=true)(hd:∀c,o.op≠.defer c)
  (hrec:P.follows .rangeFuncRecover=true) (hcalm:rZ b.kind cs)
  (hrun:(execOp a.eval o).run P w=.ok .recover w) :
  step P (lone (b.atR a (.inRegion ops (i::rest)::k)) cs w)=.next (lone (b.atR (a.put o.dst .nilIface) (.inRegion ops rest::k)) cs w):=by
 have hfin:=Frame.finish_atR b a ops i rest k .nilIface;rw[ho] at hfin;simp only[Option.bind_some] at hfin;have htry:tryRecover (b.atR a (.inRegion ops (i::rest)::k)) cs=none:=by
  unfold tryRecover;rcases hcalm with h | ⟨h,c,cs',rfl,hm | ⟨_,_,_,hm⟩⟩
  ·simp[Frame.atR,h]
  ·simp[Frame.atR,h,hm]
  ·simp[Frame.atR,h,hm]
 refine step_lone_go ?_;rw[stepGR_op ho hw,Oper.semAt_eq _ _ _ hd,<-hfin];simp only[stepG.apply,Sem.runT_eq,hrun,hrec,if_true,htry];cases hro:(b.atR a (.inRegion ops (i::rest)::k)).roundOf<;>simp[GStep.bare_after]
end
theorem jh {P:Program}{l:Nat}{L:Loop}(h:w.heap[l]?=some (.loop L)):(Instr.getLoop l).run P w=.ok L w:=by
 unfold Instr.getLoop;simp only[Sem.run_bind,eR h (by simp),Result.andThen_ok]
 rfl
theorem qp {P:Program}{l:Nat}{L:Loop}{o:Obj}(h:w.heap[l]?=some (.loop L)):(setObj l o).run P w=.ok () (World.setBlk w l o) :=
 gg h (by simp)
theorem Rel.setLoop (hr:Rel C A bd w γ hg nx){id nt dfr:Nat}{t:T}{ps:List Nat}{assign body:Code}{st st':LoopState}{pend pend':Option Code}{L:Loop}
  (hid:hg id=.loop nt t ps assign body dfr st pend) (hL:w.heap[(γ id).blk]?=some (.loop L)) :
  Rel C A bd (World.setBlk w (γ id).blk (.loop { L with state:=st',pending:=pend' })) γ (upd hg id (.loop nt t ps assign body dfr st' pend')) nx /\
   Stp w γ (World.setBlk w (γ id).blk (.loop { L with state:=st',pending:=pend' })) γ:=by
 have hob:=hr.obj id;rw[hid] at hob;obtain ⟨h1,h2,L',h3,h4,h5,h6,h7,h8,h9,h10,h11,h12⟩:=hob;rw[hL] at h3;injection h3 with h3;injection h3 with h3;subst h3;have hk:(γ id).kind≠0:=by rw[h1];decide
 have s:=qL (w:=w) (o:=.loop { L with state:=st',pending:=pend' }) hk h2;refine hr.setBlk hk h2 ⟨h1,h2,{ L with state:=st',pending:=pend' },?_,rfl,rfl,h6,h7,h8,h9,λi=>(h10 i).step s,h11,h12⟩;rw[cV];simp[(hr.lt id hk).2]
theorem Fin.ofPut {g:G}{id:Nat}{o:AObj}(hr:Rel C A bd w' γ' (upd hg id o) nx)(s:Stp w γ w' γ') :
  Fin C A bd w γ hg nx g w' γ' (upd hg id o) (g.put id o):=by
 refine ⟨hr.up (Nat.le_max_left _ _),s,⟨[id],by simp,λj hj=>?_,λj hj=>?_⟩⟩
 ·simp at hj;subst hj;simp[H.get_put]
 ·exact cz _ _ (by simpa using hj)
theorem Fin.ofNew {g:G}{o:AObj}(hr:Rel C A bd w' γ' (upd hg g.nx o) (Nat.max nx (g.nx+1)))(s:Stp w γ w' γ') :
  Fin C A bd w γ hg nx g w' γ' (upd hg g.nx o) (g.new o):=by
 refine ⟨by simpa using hr,s,⟨[g.nx],by simp,λj hj=>?_,λj hj=>?_⟩⟩
 ·simp at hj;subst hj;simp[H.get_put]
 ·exact cz _ _ (by simpa using hj)
end
end Hx
end
