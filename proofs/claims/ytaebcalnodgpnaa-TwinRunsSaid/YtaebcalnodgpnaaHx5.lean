/- A part of the proof: an interpreter over abstract values, shown right against the model, and what the functions of the chapter compute on it. -/
import Derived.Test.YtaebcalnodgpnaaHx4
set_option linter.unusedVariables false
set_option linter.unusedSimpArgs false
set_option linter.unnecessarySimpa false
section
namespace Hx
open Go
noncomputable section
structure SI where
 dst:Option Nat
 gd:Option (Nat×Bool)
 op:SO
inductive SC where
 | skip
 | ops (l:List SI)
 | quiet (l:List SI)
 | feet (pm:List Nat) (l:List SI)
 | seq (a b:SC)
 | cond (c:Od) (a b:SC)
 | blk (id:Nat) (b:SC)
 | loop (b:SC)
 | exit (id:Nat)
 | ret
 | rng (nt:Nat) (f:Od) (ps:List Nat) (assign body:SC)
 | raw (nt:Nat) (c:Code)
def OR.sat (r:OR)(K:AV→G→Prop)(g:G)(D:ADf→Prop):Prop :=
 match r with
 | .fail=>False
 | .val v=>K v g
 | .upd v g'=>K v g'
 | .dfr a=>D a
def CR.sat (r:CR)(Q:Ex→T→List ADf→G→Prop):Prop :=
 match r with
 | .fail=>False
 | .ok e t df g=>Q e t df g
def FR.sat (r:FR)(Q:AV→G→Prop):Prop :=
 match r with
 | .fail=>False
 | .ok v g=>Q v g
def outT (dst:Option Nat)(t:T)(v:AV):T:=match dst with | none=>t | some d=>tset t d v
abbrev PT:=T→List ADf→G→Prop
abbrev QT:=Ex→T→List ADf→G→Prop
def bifP (q:Bool)(A B:PT)(t:T)(df:List ADf)(g:G):Prop:=(q=true→A t df g)∧(q=false→B t df g)
def gdP (v:AV)(w:Bool)(A B:PT)(t:T)(df:List ADf)(g:G):Prop :=
 match v with
 | .bool q=>bif' w (bifP q A B t df g) (bifP q B A t df g)
 | .tup _=>B t df g
 | _=>False
def kO (W:PT)(dst:Option Nat)(t:T)(df:List ADf)(v:AV)(g:G):Prop:=W (outT dst t v) df g
def kD (W:PT)(dst:Option Nat)(t:T)(df:List ADf)(g:G)(a:ADf):Prop:=W (outT dst t .undef) (a::df) g
def runP (C:Cfg)(d:Nat)(rd:Option Nat)(i:SI)(W:PT)(t:T)(df:List ADf)(g:G):Prop:=(i.op.run C d rd t g).sat (kO W i.dst t df) g (kD W i.dst t df g)
def skipP (i:SI)(W:PT)(t:T)(df:List ADf)(g:G):Prop:=W (outT i.dst t .undef) df g
def wpO (C:Cfg)(d:Nat)(rd:Option Nat):List SI→PT→T→List ADf→G→Prop
 | [],Q,t,df,g=>Q t df g
 | i::r,Q,t,df,g =>
  match i.gd with
  | none=>runP C d rd i (wpO C d rd r Q) t df g
  | some (s,w)=>gdP (tat t s) w (runP C d rd i (wpO C d rd r Q)) (skipP i (wpO C d rd r Q)) t df g
def SO.foot (C:Cfg)(t:T)(g:G):SO→Looks
 | .load _ _ a=>rdLook (refIds (a.get t))
 | .store _ a _=>rdLook (refIds (a.get t))
 | .slc _ a _ _=>rdLook (refIds (a.get t))
 | .sla _ _ a _ _=>rdLook (refIds (a.get t))
 | .ixs _ a _=>rdLook (refIds (a.get t))
 | .app _ _ a x=>rdLook (refIds (a.get t)++refIds (x.get t))
 | .cpy _ a x=>rdLook (refIds (a.get t)++refIds (x.get t))
 | .mx a x=>rdLook (refIds (a.get t)++refIds (x.get t))
 | .mn a x=>rdLook (refIds (a.get t)++refIds (x.get t))
 | .len lk a=>match lk with | .map=>rdLook (refIdsL (a.get t)) | _=>noLook
 | .call f as=>bif' ((C.ext f).isSome || C.iso f) (rdLook ((gets t as).flatMap (snapIds g.h depthA))) bigLook
 | .dyn f as=>match f.get t with
  | .clo f first cap=>bif' ((C.ext f).isSome || C.iso f) (rdLook ((first++(gets t as++cap)).flatMap (snapIds g.h depthA))) bigLook
  | _=>bigLook
 | .raw op=>(cFoot C op).run t g
 | _=>noLook
abbrev FT:=T→List ADf→G→List Foot→Prop
def kF (W:FT)(dst:Option Nat)(t:T)(df:List ADf)(lg:List Nat)(fs:List Foot)(lk:Looks)(v:AV)(g':G):Prop:=W (outT dst t v) df (bumpG g' (g'.lg++lg)) (⟨lk,g'.lg⟩::fs)
def runF (C:Cfg)(d:Nat)(rd:Option Nat)(i:SI)(W:FT)(fs:List Foot)(t:T)(df:List ADf)(g:G):Prop :=
 (i.op.run C d rd t (setLog g [])).sat (kF W i.dst t df g.lg fs (i.op.foot C t g)) (setLog g []) (fun _=>False)
def skipF (i:SI)(W:FT)(fs:List Foot)(t:T)(df:List ADf)(g:G):Prop:=W (outT i.dst t .undef) df g (⟨noLook,[]⟩::fs)
def wpF (C:Cfg)(d:Nat)(rd:Option Nat)(pm:List Nat):List SI→PT→T→List ADf→G→List Foot→Prop
 | [],Q,t,df,g,fs=>footsOk pm fs.reverse=true∧Q t df g
 | i::r,Q,t,df,g,fs =>
  match i.gd with
  | none=>runF C d rd i (wpF C d rd pm r Q) fs t df g
  | some (s,w)=>gdP (tat t s) w (runF C d rd i (wpF C d rd pm r Q) fs) (skipF i (wpF C d rd pm r Q) fs) t df g
def kS (W:PT)(Q:QT)(e:Ex)(t:T)(df:List ADf)(g:G):Prop:=match e with | .norm=>W t df g | e=>Q e t df g
def kB (id:Nat)(Q:QT)(e:Ex)(t:T)(df:List ADf)(g:G):Prop:=match e with | .exit j=>bif' (Nat.beq j id) (Q .norm t df g) (Q (.exit j) t df g) | e=>Q e t df g
def kL (Inv:Nat→PT)(k:Nat)(Q:QT)(e:Ex)(t:T)(df:List ADf)(g:G):Prop:=match e with | .norm=>∃k',k'<k∧Inv k' t df g | e=>Q e t df g
def kQ (g0:G)(Q:QT)(t:T)(df:List ADf)(g:G):Prop:=g.lg=[]∧g.nx=g0.nx∧Q .norm t df g0
def wpC (v:AV)(A B:PT)(t:T)(df:List ADf)(g:G):Prop:=match v with | .bool q=>bifP q A B t df g | _=>False
def wpL (W:QT→PT)(Q:QT)(t:T)(df:List ADf)(g:G):Prop :=
 ∃Inv:Nat→PT,(∃k,Inv k t df g)∧∀k t df g,Inv k t df g→W (kL Inv k Q) t df g
def nGd (all:List Oper):Option (Nat×Bool)→Option (Option (Nat×Bool))
 | none=>some none
 | some (j,w)=>match all[j]? with
  | some o=>match o.dst with
   | some d=>some (some (d,w))
   | none=>none
  | none=>none
def nDst (nt:Nat):Option Nat→Bool
 | none=>true
 | some d=>Nat.blt d nt
def nOps (C:Cfg)(nt:Nat)(all:List Oper):List Oper→Option (List SI)
 | []=>some []
 | o::rest=>match nDst nt o.dst,nGd all o.guard,nOps C nt all rest with
  | true,some gd,some r=>some (⟨o.dst,gd,nOp C o.op⟩::r)
  | _,_,_=>none
def nCode (C:Cfg)(nt:Nat):Code→SC
 | .skip=>.skip
 | .label _=>.skip
 | .region p ops draw=>match nOps C nt ops.toList ops.toList with
  | some l=>bif' draw (bif' (orderOk ops.toList) (bif' (ops.toList.all fun o=>quietOp C o.op) (.quiet l) (.feet (predMasks ops.toList []) l)) (.raw nt (.region p ops draw))) (.ops l)
  | none=>.raw nt (.region p ops draw)
 | .seq a b=>.seq (nCode C nt a) (nCode C nt b)
 | .cond c a b=>match nOd C c with
  | some c=>.cond c (nCode C nt a) (nCode C nt b)
  | none=>.raw nt (.cond c a b)
 | .block id b=>.blk id (nCode C nt b)
 | .loop b=>.loop (nCode C nt b)
 | .scope b=>nCode C nt b
 | .exit id=>.exit id
 | .ret=>.ret
 | .rangeFunc f ps assign body=>match nOd C f with
  | some f=>.rng nt f ps.toList (nCode C nt assign) (nCode C nt body)
  | none=>.raw nt (.rangeFunc f ps assign body)
 | c=>.raw nt c
def wp (C:Cfg)(d:Nat)(rd:Option Nat):SC→QT→T→List ADf→G→Prop
 | .skip,Q,t,df,g=>Q .norm t df g
 | .ops l,Q,t,df,g=>wpO C d rd l (Q .norm) t df g
 | .quiet l,Q,t,df,g=>wpO C d rd l (kQ g Q) t df (setLog g [])
 | .feet pm l,Q,t,df,g=>wpF C d rd pm l (Q .norm) t df g []
 | .seq a b,Q,t,df,g=>wp C d rd a (kS (wp C d rd b Q) Q) t df g
 | .cond c a b,Q,t,df,g=>wpC (c.get t) (wp C d rd a Q) (wp C d rd b Q) t df g
 | .blk id b,Q,t,df,g=>wp C d rd b (kB id Q) t df g
 | .loop b,Q,t,df,g=>wpL (wp C d rd b) Q t df g
 | .exit id,Q,t,df,g=>Q (.exit id) t df g
 | .ret,Q,t,df,g=>Q .ret t df g
 | .rng nt f ps a b,Q,t,df,g=>∀assign body,nCode C nt assign=a→nCode C nt body=b→(rangeF C nt (fun t=>f.get t) ps assign body (I C) d rd t df g).sat Q
 | .raw nt c,Q,t,df,g=>((cCode C nt c).run (I C) d rd t df g).sat Q
theorem outS_eq {nt:Nat}{dst:Option Nat}(h:nDst nt dst=true):∃o,outS nt dst=some o∧∀t v,o.run t v=outT dst t v:=by
 cases dst with
 | none=>exact ⟨_,rfl,fun t v=>rfl⟩
 | some d =>
  refine ⟨sp AV.undef d,?_,fun t v=>rfl⟩
  have h:Nat.blt d nt=true:=h
  simp only[outS,h,bif'_true]
theorem cGuard_eq {all:List Oper}{j:Nat}{w:Bool}{r:Option (Nat×Bool)}(h:nGd all (some (j,w))=some r) :
  ∃s,r=some (s,w)∧cGuard all (some (j,w))=some ⟨fun t=>match (gp AV.undef s).run t with | .bool b=>some (bif' w b (notb b)) | .tup _=>some false | _=>none⟩:=by
 unfold nGd at h
 dsimp only at h
 split at h
 ·rename_i o ho
  split at h
  ·rename_i d hd
   injection h with h
   exact ⟨d,h.symm,by simp only[cGuard,ho,hd];rfl⟩
  ·cases h
 ·cases h
theorem sat_thenOp {out:T→AV→T}{dst:Option Nat}(ho:∀t v,out t v=outT dst t v){next:T→List ADf→G→CR}{Q:QT}{K:PT}(hk:∀t df g,K t df g→(next t df g).sat Q)
  {t:T} {df:List ADf} {g:G} {r:OR} (h:r.sat (kO K dst t df) g (kD K dst t df g)):(thenOp out next t df g r).sat Q:=by
 cases r with
 | fail=>exact h.elim
 | val v=>exact hk _ _ _ (by rw[ho];exact h)
 | upd v g'=>exact hk _ _ _ (by rw[ho];exact h)
 | dfr a=>exact hk _ _ _ (by rw[ho];exact h)
theorem gd_split {v:AV}{w:Bool}{A B:PT}{t:T}{df:List ADf}{g:G}(h:gdP v w A B t df g) :
  ∃q,(match v with | .bool b=>some (bif' w b (notb b)) | .tup _=>some false | _=>none:Option Bool)=some q∧(q=true→A t df g)∧(q=false→B t df g):=by
 unfold gdP at h
 split at h
 ·rename_i q
  rw[bif'_eq] at h
  refine ⟨_,rfl,?_,?_⟩
  ·cases w<;>cases q<;>simp_all [bifP]
  ·cases w<;>cases q<;>simp_all [bifP]
 ·exact ⟨false,rfl,fun h=>(by cases h),fun _=>h⟩
 ·exact h.elim
theorem wpO_ok {C:Cfg}{d:Nat}{rd:Option Nat}{nt:Nat}{all:List Oper}{Q:QT}:∀(l:List Oper)(s:List SI),nOps C nt all l=some s→∀t df g,wpO C d rd s (Q .norm) t df g →
  ((cOps C nt all l).run (I C) d rd t df g).sat Q:=by
 intro l
 induction l with
 | nil=>intro s h t df g hq;injection h with h;subst h;exact hq
 | cons o rest ih =>
  intro s h t df g hq
  unfold nOps at h
  split at h
  ·rename_i gd r hd hg hr
   injection h with h;subst h
   obtain ⟨ot,e1,e2⟩:=outS_eq hd
   unfold cOps
   rw[e1]
   dsimp only
   cases hgd:o.guard with
   | none =>
    rw[hgd] at hg;injection hg with hg;subst hg
    dsimp only
    rw[←nOp_ok]
    exact sat_thenOp e2 (fun t df g h=>ih r hr t df g h) hq
   | some jw =>
    obtain ⟨j,w⟩:=jw
    rw[hgd] at hg
    obtain ⟨sl,h1,h2⟩:=cGuard_eq hg
    subst h1
    dsimp only
    rw[h2]
    dsimp only
    obtain ⟨q,h3,h4,h5⟩:=gd_split hq
    have:(gp AV.undef sl).run t=tat t sl:=gp_run _ _ _
    rw[this,h3]
    cases q with
    | true =>
     dsimp only
     rw[←nOp_ok]
     exact sat_thenOp e2 (fun t df g h=>ih r hr t df g h) (h4 rfl)
    | false =>
     dsimp only
     rw[e2]
     exact ih r hr _ _ _ (h5 rfl)
  ·cases h
theorem nSop_foot {C:Cfg}{op:Op}(hc:∀c,op≠.call c){t:T}{g:G}:(nSop C op).foot C t g=(cFoot C op).run t g:=by
 have hod:∀{x:Operand} {o:Od},nOd C x=some o→∃s,cRho C x=some s∧∀t,s.run t=o.get t:=nOd_ok
 unfold nSop
 split
 case h_8 ty a =>
  split
  ·rename_i a ag n ha h2 h3;obtain ⟨s,hs,he⟩:=hod ha
   simp only[cFoot,hs,SO.foot,he]
  ·rfl
 case h_9 ty a x =>
  split
  ·rename_i a x n ha hx h3;obtain ⟨s,hs,he⟩:=hod ha
   simp only[cFoot,hs,SO.foot,he]
  ·rfl
 case h_16 ty x lo hi =>
  split
  ·rename_i e x l h h0 hx hl hh;obtain ⟨s,hs,he⟩:=hod hx
   split
   ·simp only[cFoot,hs,SO.foot,he]
   ·rfl
  ·rename_i n e x l h h0 hx hl hh;obtain ⟨s,hs,he⟩:=hod hx
   split
   ·simp only[cFoot,hs,SO.foot,he]
   ·rfl
  ·rfl
 case h_19 ty x ix =>
  split
  ·rename_i a i ha hi;obtain ⟨s,hs,he⟩:=hod ha
   split
   ·rename_i e h0
    split
    ·simp only[cFoot,h0,hs,SO.foot,he]
    ·rfl
   ·rename_i n e h0
    split
    ·simp only[cFoot,h0,SO.foot]
    ·rfl
   ·rfl
  ·rfl
 all_goals (repeat' (first | rfl | split | rw[bif'_eq]))
theorem nOp_foot {C:Cfg}{op:Op}{t:T}{g:G}:(nOp C op).foot C t g=(cFoot C op).run t g:=by
 unfold nOp
 split
 ·rename_i f args ats
  split
  ·rename_i vs hv;obtain ⟨s,hs,he⟩:=nOds_ok hv
   simp only[SO.foot,cFoot,cRho,hs,he,List.nil_append,List.append_nil]
  ·rfl
 ·rename_i fo args ats hnf
  split
  ·rename_i f vs hf hv;obtain ⟨s,hs,he⟩:=nOds_ok hv;obtain ⟨s2,hs2,he2⟩:=nOd_ok hf
   simp only[SO.foot,cFoot,hs,hs2,he,he2]
   cases Od.get t f<;>rfl
  ·rfl
 ·rename_i b args ats
  split
  ·rename_i x hx
   obtain ⟨s,hs,he⟩:=nOds_ok hx
   split
   ·rename_i ty hty
    simp only[SO.foot,cFoot,hs,he,gets,List.flatMap_cons,List.flatMap_nil,List.append_nil,refOf,hty]
    cases lenKind C.P ty<;>rfl
   ·rfl
  ·rename_i a x hx
   obtain ⟨s,hs,he⟩:=nOds_ok hx
   have hfoot:(cFoot C (.call { callee:=.builtin .append,args:=args,argTypes:=ats })).run t g=rdLook (refIds (a.get t)++refIds (x.get t)):=by
    simp only[cFoot,hs,he,gets,List.flatMap_cons,List.flatMap_nil,List.append_nil,refOf]
   split
   ·split
    ·split
     ·rw[bif'_eq];split
      ·exact hfoot.symm
      ·rfl
     ·rfl
    ·rfl
   ·rfl
  ·rename_i a x hx
   obtain ⟨s,hs,he⟩:=nOds_ok hx
   have hfoot:(cFoot C (.call { callee:=.builtin .copy,args:=args,argTypes:=ats })).run t g=rdLook (refIds (a.get t)++refIds (x.get t)):=by
    simp only[cFoot,hs,he,gets,List.flatMap_cons,List.flatMap_nil,List.append_nil,refOf]
   split
   ·split
    ·split
     ·exact hfoot.symm
     ·rfl
    ·rfl
   ·rfl
  ·rename_i a x hx
   obtain ⟨s,hs,he⟩:=nOds_ok hx
   simp only[SO.foot,cFoot,hs,he,gets,List.flatMap_cons,List.flatMap_nil,List.append_nil,refOf]
  ·rename_i a x hx
   obtain ⟨s,hs,he⟩:=nOds_ok hx
   simp only[SO.foot,cFoot,hs,he,gets,List.flatMap_cons,List.flatMap_nil,List.append_nil,refOf]
  ·rfl
 ·rename_i h1 h2 h3
  cases op with
  | call c=>rfl
  | _=>exact nSop_foot (fun c h=>by cases h)
theorem wpF_ok {C:Cfg}{d:Nat}{rd:Option Nat}{nt:Nat}{all:List Oper}{pm:List Nat}{Q:QT}:∀(l:List Oper)(s:List SI)(k:Nat),nOps C nt all l=some s→∀t df g fs,wpF C d rd pm s (Q .norm) t df g fs →
  ((cFeet C nt pm all k l).run (I C) d rd t df g fs).sat Q:=by
 intro l
 induction l with
 | nil =>
  intro s k h t df g fs hq
  injection h with h;subst h
  obtain ⟨h1,h2⟩:=hq
  unfold cFeet
  dsimp only
  rw[h1];exact h2
 | cons o rest ih =>
  intro s k h t df g fs hq
  unfold nOps at h
  split at h
  ·rename_i gd r hd hg hr
   injection h with h;subst h
   obtain ⟨ot,e1,e2⟩:=outS_eq hd
   have step:∀{x:OR},x.sat (kF (wpF C d rd pm r (Q .norm)) o.dst t df g.lg fs ((nOp C o.op).foot C t g)) (setLog g []) (fun _=>False) →
     (thenFoot ot.run ((cFeet C nt pm all (k+1) rest).run (I C) d rd) t df g fs ((cFoot C o.op).run t g) x).sat Q:=by
    intro x hx
    rw[nOp_foot] at hx
    cases x with
    | fail=>exact hx.elim
    | val v =>
     simp only[thenFoot,e2]
     refine ih r _ hr _ _ _ _ ?_
     have hx:wpF C d rd pm r (Q .norm) (outT o.dst t v) df (bumpG (setLog g []) ((setLog g []).lg++g.lg)) (⟨(cFoot C o.op).run t g,(setLog g []).lg⟩::fs):=hx
     obtain ⟨h,nx,lg⟩:=g
     exact hx
    | upd v g' =>
     simp only[thenFoot,e2]
     exact ih r _ hr _ _ _ _ hx
    | dfr a=>exact hx.elim
   unfold cFeet
   rw[e1]
   cases hgd:o.guard with
   | none =>
    rw[hgd] at hg;injection hg with hg;subst hg
    simp only[cGuard]
    rw[←nOp_ok]
    exact step hq
   | some jw =>
    obtain ⟨j,w⟩:=jw
    rw[hgd] at hg
    obtain ⟨sl,h1,h2⟩:=cGuard_eq hg
    subst h1
    rw[h2]
    dsimp only
    obtain ⟨q,h3,h4,h5⟩:=gd_split hq
    have:(gp AV.undef sl).run t=tat t sl:=gp_run _ _ _
    rw[this,h3]
    cases q with
    | true =>
     dsimp only
     rw[←nOp_ok]
     exact step (h4 rfl)
    | false =>
     dsimp only
     rw[e2]
     exact ih r _ hr _ _ _ _ (h5 rfl)
  ·cases h
theorem CR.sat_mono {r:CR}{Q Q':QT}(h:r.sat Q)(hq:∀e t df g,Q e t df g→Q' e t df g):r.sat Q':=by
 cases r with
 | fail=>exact h
 | ok e t df g=>exact hq _ _ _ _ h
theorem wp_ok {C:Cfg}{nt d:Nat}{rd:Option Nat}:∀(c:Code)(Q:QT)(t:T)(df:List ADf)(g:G),wp C d rd (nCode C nt c) Q t df g→((cCode C nt c).run (I C) d rd t df g).sat Q:=by
 intro c
 induction c with
 | seq a b iha ihb =>
  intro Q t df g h
  have h:=iha _ t df g h
  show (seqC _ ((cCode C nt a).run (I C) d rd t df g)).sat Q
  cases hr:(cCode C nt a).run (I C) d rd t df g with
  | fail=>rw[hr] at h;exact h
  | ok e t1 df1 g1 =>
   rw[hr] at h
   cases e with
   | norm=>exact ihb _ _ _ _ h
   | exit j=>exact h
   | ret=>exact h
 | cond q a b iha ihb =>
  intro Q t df g h
  unfold nCode at h
  split at h
  ·rename_i o ho
   obtain ⟨s,hs,he⟩:=nOd_ok ho
   simp only[cCode,hs,he]
   have h:wpC (o.get t) (wp C d rd (nCode C nt a) Q) (wp C d rd (nCode C nt b) Q) t df g:=h
   unfold wpC at h
   cases hv:Od.get t o with
   | bool v =>
    rw[hv] at h
    cases v with
    | true=>exact iha _ _ _ _ (h.1 rfl)
    | false=>exact ihb _ _ _ _ (h.2 rfl)
   | _=>rw[hv] at h;exact h.elim
  ·exact h
 | block id body ih =>
  intro Q t df g h
  have h:=ih _ t df g h
  show (blockC id ((cCode C nt body).run (I C) d rd t df g)).sat Q
  cases hr:(cCode C nt body).run (I C) d rd t df g with
  | fail=>rw[hr] at h;exact h
  | ok e t1 df1 g1 =>
   rw[hr] at h
   cases e with
   | norm=>exact h
   | exit j =>
    have h:bif' (Nat.beq j id) (Q .norm t1 df1 g1) (Q (.exit j) t1 df1 g1):=h
    show (bif' (Nat.beq j id) _ _:CR).sat Q
    cases hb:Nat.beq j id
    ·rw[hb] at h;exact h
    ·rw[hb] at h;exact h
   | ret=>exact h
 | loop body ih =>
  intro Q t df g h
  obtain ⟨Inv,⟨k,hk⟩,hs⟩:=h
  induction k using Nat.strongRecOn generalizing t df g with
  | _ k rec =>
   have h:=ih _ t df g (hs k t df g hk)
   show (seqC (fun t df g=>(I C).code nt d rd (.loop body) t df g) ((cCode C nt body).run (I C) d rd t df g)).sat Q
   cases hr:(cCode C nt body).run (I C) d rd t df g with
   | fail=>rw[hr] at h;exact h
   | ok e t1 df1 g1 =>
    rw[hr] at h
    cases e with
    | norm =>
     obtain ⟨k',hlt,hi⟩:=h
     show ((I C).code nt d rd (.loop body) t1 df1 g1).sat Q
     rw[I_code]
     exact rec k' hlt t1 df1 g1 hi
    | exit j=>exact h
    | ret=>exact h
 | scope body ih=>intro Q t df g h;exact ih _ _ _ _ h
 | region p ops draw =>
  intro Q t df g h
  show ((cRegion C nt ops.toList draw).run (I C) d rd t df g).sat Q
  unfold nCode at h
  split at h
  ·rename_i l hl
   rw[bif'_eq,bif'_eq,bif'_eq] at h
   unfold cRegion
   rw[bif'_eq,bif'_eq,bif'_eq]
   split
   ·rename_i hd
    rw[if_pos hd] at h
    split
    ·rename_i ho
     rw[if_pos ho] at h
     split
     ·rename_i hq
      rw[if_pos hq] at h
      have h:wpO C d rd l (kQ g Q) t df (setLog g []):=h
      have h:=wpO_ok (C:=C) (d:=d) (rd:=rd) (Q:=fun e t df g'=>e=.norm∧g'.lg=[]∧g'.nx=g.nx∧Q .norm t df g) (nt:=nt) (all:=ops.toList) ops.toList l hl t df (setLog g [])
       (by
        refine cast ?_ h
        congr 1
        funext t df g'
        simp[kQ])
      dsimp only
      cases hr:(cOps C nt ops.toList ops.toList).run (I C) d rd t df (setLog g []) with
      | fail=>rw[hr] at h;exact h
      | ok e t1 df1 g1 =>
       rw[hr] at h
       obtain ⟨h0,h1,h2,h3⟩:=h
       subst h0
       simp only[quietEnd,h1,h2,Nat.beq_refl,bif'_true]
       exact h3
     ·rename_i hq
      rw[if_neg hq] at h
      exact wpF_ok _ l 0 hl _ _ _ _ h
    ·rename_i ho
     rw[if_neg ho] at h
     unfold wp at h
     simp only[cCode,cRegion,bif'_eq,if_pos hd,if_neg ho] at h
     exact h
   ·rename_i hd
    rw[if_neg hd] at h
    exact wpO_ok _ l hl _ _ _ h
  ·exact h
 | rangeFunc f ps assign body _ _ =>
  intro Q t df g h
  unfold nCode at h
  split at h
  ·rename_i o ho
   obtain ⟨s,hs,he⟩:=nOd_ok ho
   have he:s.run=fun t=>o.get t:=funext he
   simp only[cCode,hs,he]
   exact h assign body rfl rfl
  ·exact h
 | skip=>intro Q t df g h;exact h
 | label l=>intro Q t df g h;exact h
 | exit id=>intro Q t df g h;exact h
 | ret=>intro Q t df g h;exact h
 | goto l=>intro Q t df g h;exact h
 | refuse w=>intro Q t df g h;exact h
theorem OR.sat_mono {r:OR}{K K':AV→G→Prop}{g:G}{D D':ADf→Prop}(h:r.sat K g D)(hk:∀v g',K v g'→K' v g')(hd:∀a,D a→D' a):r.sat K' g D':=by
 cases r with
 | fail=>exact h
 | val v=>exact hk _ _ h
 | upd v g'=>exact hk _ _ h
 | dfr a=>exact hd _ h
inductive SR where
 | tm (n:Nat)
 | cell (ag:Bool) (n a:Nat)
structure SF where
 nt:Nat
 res:List SR
 code:SC
def nRes (C:Cfg):List ResultVar→Option (List SR)
 | []=>some []
 | .tmp n::rs=>match nRes C rs with
  | some k=>some (.tm n::k)
  | none=>none
 | .cell a ty::rs=>match nRes C rs,aggT C.P ty,szT C.P ty with
  | some k,some ag,some n=>some (.cell ag n a::k)
  | _,_,_=>none
def nFn (C:Cfg)(f:Nat):Option SF :=
 match C.P.funcs[f]? with
 | none=>none
 | some fn=>match fn.body with
  | none=>none
  | some c=>match nRes C fn.results.toList with
   | some r => bif' (fn.name == "runtime.NumGoroutine") none (some ⟨fn.ntmps, r, nCode C fn.ntmps c⟩)
   | none=>none
def resP:List SR→T→G→(List AV→Prop)→Prop
 | [],_,_,K=>K []
 | .tm n::rs,t,g,K=>resP rs t g fun vs=>K (tat t n::vs)
 | .cell ag n a::rs,t,g,K=>match loadV ag n (tat t a) g with
  | .val v=>resP rs t g fun vs=>K (v::vs)
  | _=>False
theorem resP_ok {C:Cfg}{t:T}{g:G}:∀(l:List ResultVar)(r:List SR)(K:List AV→Prop),nRes C l=some r→resP r t g K→∃s vs,cRes C l=some s∧s.run t g=some vs∧K vs:=by
 intro l
 induction l with
 | nil=>intro r K h hk;injection h with h;subst h;exact ⟨_,[],rfl,rfl,hk⟩
 | cons x l ih =>
  intro r K h hk
  cases x with
  | tmp n =>
   unfold nRes at h
   split at h
   ·rename_i k hr
    injection h with h;subst h
    obtain ⟨s,vs,h1,h2,h3⟩:=ih k _ hr hk
    refine ⟨⟨fun t g=>match s.run t g with | some vs=>some ((gp AV.undef n).run t::vs) | none=>none⟩,tat t n::vs,by simp only[cRes,h1];rfl,?_,h3⟩
    simp only[h2,gp_run];rfl
   ·cases h
  | cell a ty =>
   unfold nRes at h
   split at h
   ·rename_i k ag n hr ha hn
    injection h with h;subst h
    unfold resP at hk
    split at hk
    ·rename_i v hv
     obtain ⟨s,vs,h1,h2,h3⟩:=ih k _ hr hk
     have hl:loadF ag n (gp AV.undef a).run t g=.val v:=by
      rw[←hv];simp only[loadV,loadF,gp_run];rfl
     refine ⟨⟨fun t g=>match loadF ag n (gp AV.undef a).run t g with | .val v=>(match s.run t g with | some vs=>some (v::vs) | none=>none) | _=>none⟩,v::vs,
      by simp only[cRes,h1,cSop,cRho,ha,hn];rfl,?_,h3⟩
     simp only[hl,h2]
    ·exact hk.elim
   ·cases h
def endP (C:Cfg)(d:Nat)(r:List SR)(t:T)(df:List ADf)(g:G)(K:AV→G→Prop):Prop :=
 match runDf (I C) d df g with
 | some g'=>resP r t g' fun vs=>K (oneOrTup vs) g'
 | none=>False
def fnQ (C:Cfg)(d:Nat)(r:List SR)(K:AV→G→Prop):QT:=fun e t df g=>match e with | .exit _=>False | _=>endP C d r t df g K
theorem call_ok {C:Cfg}{f:Nat}{s:SF}(hf:nFn C f=some s){d:Nat}{as:List AV}{g:G}{K:AV→G→Prop}(hl:as.length≤s.nt)(h:wp C d none s.code (fnQ C d s.res K) (ofArgs 0 as .nil) [] g) :
  ((I C).call d f as g).sat K:=by
 rw[I_call]
 unfold nFn at hf
 split at hf
 ·cases hf
 rename_i fn hfn
 split at hf
 ·cases hf
 rename_i c hc
 split at hf
 rotate_left
 ·cases hf
 rename_i r hr
 rw[bif'_eq] at hf
 split at hf
 ·cases hf
 rename_i hn
 injection hf with hf;subst hf
 have h:=wp_ok c _ _ _ _ h
 have hres:∃s,cRes C fn.results.toList=some s:=by
  have:∀(l:List ResultVar) (r:List SR),nRes C l=some r→∃s,cRes C l=some s:=by
   intro l
   induction l with
   | nil=>intro r _;exact ⟨_,rfl⟩
   | cons x l ih =>
    intro r h
    cases x with
    | tmp n =>
     unfold nRes at h
     split at h
     ·rename_i k hr
      obtain ⟨s,hs⟩:=ih k hr
      exact ⟨_,by simp only[cRes,hs];rfl⟩
     ·cases h
    | cell a ty =>
     unfold nRes at h
     split at h
     ·rename_i k ag n hr ha hn
      obtain ⟨s,hs⟩:=ih k hr
      exact ⟨_,by simp only[cRes,hs,cSop,cRho,ha,hn];rfl⟩
     ·cases h
  exact this _ _ hr
 obtain ⟨rs,hrs⟩:=hres
 unfold callStep cFn
 simp only[hfn,hc,hrs,bif'_eq,if_neg hn]
 rw[if_pos (by rw[lenR_eq,Nat.ble_eq];exact hl)]
 cases hrun:(cCode C fn.ntmps c).run (I C) d none (ofArgs 0 as .nil) [] g with
 | fail=>rw[hrun] at h;exact h
 | ok e t df g' =>
  rw[hrun] at h
  have key:endP C d r t df g' K→(endCall (I C) d rs.run t df g').sat K:=by
   intro h
   unfold endP at h
   unfold endCall
   split at h
   ·rename_i g2 hg2
    rw[hg2]
    obtain ⟨s2,vs,h1,h2,h3⟩:=resP_ok _ _ _ hr h
    rw[hrs] at h1;injection h1 with h1;subst h1
    simp only[h2]
    exact h3
   ·exact h.elim
  cases e with
  | exit j=>exact h
  | norm=>exact key h
  | ret=>exact key h
end
end Hx
end
section
namespace Hx
open Go
def All2 {α β:Type}(R:α→β→Prop):List α→List β→Prop
 | [],[]=>True
 | a::as,b::bs=>R a b∧All2 R as bs
 | _,_=>False
section all2
variable {α β:Type}{R S:α→β→Prop}
theorem All2.len:∀{l:List α}{m:List β},All2 R l m→l.length=m.length
 | [],[],_=>rfl
 | _::_,_::_,h=>by simp only[List.length_cons,All2.len h.2]
theorem All2.mono (hs:∀a b,R a b→S a b):∀{l:List α}{m:List β},All2 R l m→All2 S l m
 | [],[],_=>trivial
 | _::_,_::_,h=>⟨hs _ _ h.1,All2.mono hs h.2⟩
theorem All2.get:∀{l:List α}{m:List β},All2 R l m→∀{i:Nat}{a:α},l[i]?=some a→∃b,m[i]?=some b∧R a b
 | _::_,b::_,h,0,_,e=>by simp at e;subst e;exact ⟨b,rfl,h.1⟩
 | _::_,_::_,h,i+1,a,e=>by simpa using All2.get h.2 (i:=i) (by simpa using e)
 | [],[],_,i,a,e=>by simp at e
theorem All2.append:∀{l:List α}{m:List β}{l':List α}{m':List β},All2 R l m→All2 R l' m'→All2 R (l++l') (m++m')
 | [],[],_,_,_,h'=>h'
 | _::_,_::_,_,_,h,h'=>⟨h.1,All2.append h.2 h'⟩
theorem All2.set:∀{l:List α}{m:List β},All2 R l m→∀{i:Nat}{a:α}{b:β},R a b→All2 R (l.set i a) (m.set i b)
 | [],[],_,_,_,_,_=>trivial
 | _::_,_::_,h,0,_,_,r=>⟨r,h.2⟩
 | _::_,_::_,h,i+1,_,_,r=>⟨h.1,All2.set h.2 r⟩
theorem All2.take:∀{l:List α}{m:List β},All2 R l m→∀(i:Nat),All2 R (l.take i) (m.take i)
 | [],[],_,_=>by simp[All2]
 | _::_,_::_,h,0=>by simp[All2]
 | _::_,_::_,h,i+1=>⟨h.1,All2.take h.2 i⟩
theorem All2.drop:∀{l:List α}{m:List β},All2 R l m→∀(i:Nat),All2 R (l.drop i) (m.drop i)
 | [],[],_,_=>by simp[All2]
 | _::_,_::_,h,0=>h
 | _::_,_::_,h,i+1=>All2.drop h.2 i
theorem All2.repl {a:α}{b:β}(h:R a b):∀n,All2 R (List.replicate n a) (List.replicate n b)
 | 0=>trivial
 | n+1=>⟨h,All2.repl h n⟩
theorem All2.of_map {f:α→β}(h:∀a,R a (f a)):∀l:List α,All2 R l (l.map f)
 | []=>trivial
 | a::l=>⟨h a,All2.of_map h l⟩
theorem All2.eq_map {f:α→β}(hf:∀a b,R a b→b=f a):∀{l:List α}{m:List β},All2 R l m→m=l.map f
 | [],[],_=>rfl
 | a::l,b::m,h=>by rw[List.map_cons,hf _ _ h.1,All2.eq_map hf h.2]
end all2
def NoP:Nat→Prop:=fun _=>False
class Rp (α:Type) where
 sz:Nat
 dp:Nat
 rp:(Nat→Prop)→Nat→H→α→List AV→Prop
 len:∀{P k h x cs},rp P k h x cs→cs.length=sz
 mono:∀{P P':Nat→Prop} {k k':Nat} {h h':H} {x:α} {cs:List AV},rp P k h x cs→(∀i,P i→P' i∧h'.get i=h.get i)→k≤k'→rp P' k' h' x cs
 snap:∀{P k h x cs n} (d:Nat),rp P k h x cs→dp≤n→dp≤depthA→∃cs',mapO (Hx.snap h d n) cs=some cs'∧rp NoP (max k d) .nil x cs'
 same:∀{k h x cs n} (d:Nat),rp NoP k h x cs→dp≤n→mapO (Hx.snap h d n) cs=some cs
 ids:∀{P k h x cs n},rp P k h x cs→∀i∈cs.flatMap (snapIds h n),P i
 tag:∀{k h x cs n},rp NoP k h x cs→dp≤n→∃m,maxO (tagO n) cs=some m∧m≤k
theorem Rp.tree {α:Type} [Rp α]{P:Nat→Prop}{k k':Nat}{h h':H}{x:α}{cs:List AV}(r:Rp.rp NoP k h x cs)(hk:k≤k'):Rp.rp P k' h' x cs :=
 Rp.mono r (fun _ h=>h.elim) hk
def AV.flat:AV→Bool
 | .bool _ | .int _ _ | .str _=>true
 | _=>false
theorem snap_flat {h:H}{d n:Nat}{v:AV}(hv:v.flat=true)(hn:1≤n):Hx.snap h d n v=some v:=by
 obtain ⟨n,rfl⟩:∃m,n=m+1:=⟨n - 1,by omega⟩
 cases v<;>first | rfl | cases hv
theorem tag_flat {n:Nat}{v:AV}(hv:v.flat=true)(hn:1≤n):tagO n v=some 0:=by
 obtain ⟨n,rfl⟩:∃m,n=m+1:=⟨n - 1,by omega⟩
 cases v<;>first | rfl | cases hv
theorem ids_flat {h:H}{n:Nat}{v:AV}(hv:v.flat=true):snapIds h n v=[]:=by
 cases n with
 | zero=>rfl
 | succ n=>cases v<;>first | rfl | cases hv
@[reducible] def Rp.plain {α:Type} (f:α→AV) (ok:α→Prop) (hf:∀x,(f x).flat=true):Rp α where
 sz:=1
 dp:=1
 rp:=fun _ _ _ x cs=>cs=[f x]∧ok x
 len:=by rintro P k h x cs ⟨rfl,-⟩;rfl
 mono:=fun r _ _=>r
 snap:=by
  rintro P k h x cs n d ⟨rfl,ho⟩ hn _
  exact ⟨[f x],by simp only[mapO,snap_flat (hf x) hn],rfl,ho⟩
 same:=by
  rintro k h x cs n d ⟨rfl,ho⟩ hn
  simp only[mapO,snap_flat (hf x) hn]
 ids:=by
  rintro P k h x cs n ⟨rfl,ho⟩ i hi
  simp[ids_flat (hf x)] at hi
 tag:=by
  rintro k h x cs n ⟨rfl,ho⟩ hn
  exact ⟨0,by simp[maxO,tag_flat (hf x) hn],Nat.zero_le _⟩
def ci (x:Int):List AV:=[.int .i64 x]
def cu (x:Nat):List AV:=[.int .u64 (x:Int)]
instance : Rp Int:=Rp.plain (fun x=>.int .i64 x) (fun _=>True) (fun _=>rfl)
instance : Rp Bool:=Rp.plain (fun x=>.bool x) (fun _=>True) (fun _=>rfl)
instance : Rp Nat:=Rp.plain (fun x=>.int .u64 (x:Int)) (fun x=>x<18446744073709551616) (fun _=>rfl)
instance : Rp UInt8:=Rp.plain (fun x=>.int .u8 (x.toNat:Int)) (fun _=>True) (fun _=>rfl)
instance : Rp UInt16:=Rp.plain (fun x=>.int .u16 (x.toNat:Int)) (fun _=>True) (fun _=>rfl)
theorem mapO_append {α β:Type}{f:α→Option β}:∀{l m:List α}{a b:List β},mapO f l=some a→mapO f m=some b→mapO f (l++m)=some (a++b)
 | [],m,a,b,h1,h2=>by injection h1 with h1;subst h1;exact h2
 | x::l,m,a,b,h1,h2=>by
  unfold mapO at h1
  split at h1
  ·rename_i y hy
   split at h1
   ·rename_i ys hys
    injection h1 with h1;subst h1
    simp only[List.cons_append,mapO,hy,mapO_append hys h2]
   ·cases h1
  ·cases h1
theorem maxO_append {α:Type}{f:α→Option Nat}:∀{l m:List α}{a b:Nat},maxO f l=some a→maxO f m=some b→maxO f (l++m)=some (max a b)
 | [],m,a,b,h1,h2=>by injection h1 with h1;subst h1;simpa using h2
 | x::l,m,a,b,h1,h2=>by
  unfold maxO at h1
  split at h1
  ·rename_i y hy
   split at h1
   ·rename_i ys hys
    injection h1 with h1;subst h1
    simp only[List.cons_append,maxO,hy,maxO_append hys h2,Option.some.injEq,Nat.max_def]
    repeat' split
    all_goals omega
   ·cases h1
  ·cases h1
instance {α β:Type} [Rp α] [Rp β]:Rp (α×β) where
 sz:=Rp.sz α+Rp.sz β
 dp:=max (Rp.dp α) (Rp.dp β)
 rp:=fun P k h x cs=>∃a b,cs=a++b∧Rp.rp P k h x.1 a∧Rp.rp P k h x.2 b
 len:=by rintro P k h x cs ⟨a,b,rfl,h1,h2⟩;rw[List.length_append,Rp.len h1,Rp.len h2]
 mono:=by rintro P P' k k' h h' x cs ⟨a,b,rfl,h1,h2⟩ hp hk;exact ⟨a,b,rfl,Rp.mono h1 hp hk,Rp.mono h2 hp hk⟩
 snap:=by
  rintro P k h x cs n d ⟨a,b,rfl,h1,h2⟩ hn hA
  obtain ⟨a',e1,r1⟩:=Rp.snap (n:=n) d h1 (by omega) (by omega)
  obtain ⟨b',e2,r2⟩:=Rp.snap (n:=n) d h2 (by omega) (by omega)
  exact ⟨a'++b',mapO_append e1 e2,a',b',rfl,r1,r2⟩
 same:=by
  rintro k h x cs n d ⟨a,b,rfl,h1,h2⟩ hn
  exact mapO_append (Rp.same d h1 (by omega)) (Rp.same d h2 (by omega))
 ids:=by
  rintro P k h x cs n ⟨a,b,rfl,h1,h2⟩ i hi
  rw[List.flatMap_append,List.mem_append] at hi
  rcases hi with hi | hi
  ·exact Rp.ids h1 i hi
  ·exact Rp.ids h2 i hi
 tag:=by
  rintro k h x cs n ⟨a,b,rfl,h1,h2⟩ hn
  obtain ⟨m1,e1,l1⟩:=Rp.tag (n:=n) h1 (by omega)
  obtain ⟨m2,e2,l2⟩:=Rp.tag (n:=n) h2 (by omega)
  exact ⟨max m1 m2,maxO_append e1 e2,by omega⟩
@[reducible] def Rp.via {α β:Type} [Rp β] (f:α→β):Rp α where
 sz:=Rp.sz β
 dp:=Rp.dp β
 rp:=fun P k h x cs=>Rp.rp P k h (f x) cs
 len:=Rp.len
 mono:=Rp.mono
 snap:=Rp.snap
 same:=Rp.same
 ids:=Rp.ids
 tag:=Rp.tag
def SlV {α:Type} [Rp α](P:Nat→Prop)(k:Nat)(h:H)(l:List α)(v:AV):Prop :=
 match v with
 | .nils | .esl=>l=[]
 | .tsl t s rows=>t≤k∧(s=Rp.sz α∨rows=[])∧All2 (Rp.rp NoP k .nil) l rows
 | .hsl id _ _ _ _=>P id∧∃rows,rowsOf h (Rp.sz α) v=some rows∧All2 (Rp.rp P k h) l rows
 | _=>False
def SlR {α:Type} [Rp α](P:Nat→Prop)(k:Nat)(h:H)(l:List α)(v:AV):Prop:=l.length<9223372036854775808∧SlV P k h l v
theorem SlR.rows {α:Type} [Rp α]{P:Nat→Prop}{k:Nat}{h:H}{l:List α}{v:AV}(r:SlR P k h l v):∃rows,rowsOf h (Rp.sz α) v=some rows∧All2 (Rp.rp P k h) l rows:=by
 have r:=r.2
 unfold SlV at r
 split at r
 ·subst r;exact ⟨[],rfl,trivial⟩
 ·subst r;exact ⟨[],rfl,trivial⟩
 ·obtain ⟨h1,h2,h3⟩:=r
  refine ⟨_,?_,h3.mono fun a b r=>Rp.tree r (Nat.le_refl _)⟩
  simp only[rowsOf]
  rw[bif'_eq]
  rcases h2 with h2 | h2
  ·subst h2;simp
  ·subst h2;simp
 ·exact r.2
 ·exact r.elim
theorem mapO_all2 {α β γ:Type}{R:α→β→Prop}{S:α→γ→Prop}{f:β→Option γ}(hf:∀a b,R a b→∃c,f b=some c∧S a c):∀{l:List α}{m:List β},All2 R l m→∃r,mapO f m=some r∧All2 S l r
 | [],[],_=>⟨[],rfl,trivial⟩
 | a::l,b::m,h=>by
  obtain ⟨c,e1,s1⟩:=hf a b h.1
  obtain ⟨r,e2,s2⟩:=mapO_all2 hf h.2
  exact ⟨c::r,by simp only[mapO,e1,e2],s1,s2⟩
theorem maxO_all2 {α β:Type}{R:α→β→Prop}{f:β→Option Nat}{k:Nat}(hf:∀a b,R a b→∃m,f b=some m∧m≤k):∀{l:List α}{m:List β},All2 R l m→∃r,maxO f m=some r∧r≤k
 | [],[],_=>⟨0,rfl,Nat.zero_le _⟩
 | a::l,b::m,h=>by
  obtain ⟨c,e1,s1⟩:=hf a b h.1
  obtain ⟨r,e2,s2⟩:=maxO_all2 hf h.2
  exact ⟨max c r,by simp only[maxO,e1,e2],by omega⟩
theorem mem_all2 {α β:Type}{R:α→β→Prop}:∀{l:List α}{m:List β},All2 R l m→∀b∈m,∃a,R a b
 | [],[],_,b,hb=>by simp at hb
 | a::l,c::m,h,b,hb=>by
  rcases List.mem_cons.1 hb with rfl | hb
  ·exact ⟨a,h.1⟩
  ·exact mem_all2 h.2 b hb
theorem rowsOf_heap {h h':H}{sz:Nat}{v:AV}(he:∀id ep off len lim,v=.hsl id ep off len lim→h'.get id=h.get id):rowsOf h' sz v=rowsOf h sz v:=by
 cases v with
 | hsl id ep off len lim=>simp only[rowsOf,he id ep off len lim rfl]
 | _=>rfl
instance {α:Type} [Rp α]:Rp (List α) where
 sz:=1
 dp:=Rp.dp α+1
 rp:=fun P k h l cs=>∃v,cs=[v]∧SlR P k h l v
 len:=by rintro P k h x cs ⟨v,rfl,h1⟩;rfl
 mono:=by
  rintro P P' k k' h h' x cs ⟨v,rfl,h0,h1⟩ hp hk
  refine ⟨v,rfl,h0,?_⟩
  unfold SlV at h1 ⊢
  split at h1
  ·exact h1
  ·exact h1
  ·exact ⟨by omega,h1.2.1,h1.2.2.mono fun a b r=>Rp.mono r (fun i hi=>hi.elim) hk⟩
  ·rename_i id ep off len lim
   obtain ⟨a,rows,b,c⟩:=h1
   refine ⟨(hp _ a).1,rows,?_,c.mono fun a b r=>Rp.mono r hp hk⟩
   rw[←b]
   exact rowsOf_heap fun _ _ _ _ _ e=>by injection e with e;subst e;exact (hp _ a).2
  ·exact h1
 snap:=by
  rintro P k h x cs n d ⟨v,rfl,h0,h1⟩ hn hA
  obtain ⟨n,rfl⟩:∃m,n=m+1:=⟨n - 1,by omega⟩
  have hdA:(23:Nat)+1=depthA:=rfl
  cases v with
  | nils=>exact ⟨_,rfl,_,rfl,h0,h1⟩
  | esl=>exact ⟨_,rfl,_,rfl,h0,h1⟩
  | tsl t s rows =>
   refine ⟨_,rfl,_,rfl,h0,?_⟩
   obtain ⟨q1,q2,q3⟩:=h1
   exact ⟨by omega,q2,q3.mono fun a b r=>Rp.mono r (fun i hi=>hi.elim) (by omega)⟩
  | hsl id ep off len lim =>
   obtain ⟨q1,rows,q2,q3⟩:=h1
   simp only[rowsOf] at q2
   split at q2
   ·rename_i sz' rows' ep' lo fz hg
    rw[bif'_eq] at q2
    split at q2
    ·rename_i hc
     simp only[Bool.and_eq_true] at hc
     obtain ⟨⟨hc1,hc2⟩,hc3⟩:=hc
     injection q2 with q2
     have e1:=Nat.eq_of_beq_eq_true hc2
     subst e1
     obtain ⟨rs,e2,a2⟩:=mapO_all2 (S:=Rp.rp NoP (max k d) .nil) (f:=mapO (Hx.snap h d n)) (fun a b r=>Rp.snap (n:=n) d r (by omega) (by omega)) q3
     obtain ⟨m,e3,l3⟩:=maxO_all2 (f:=maxO (tagO depthA)) (k:=max k d) (fun a b r=>Rp.tag (n:=depthA) r (by omega)) a2
     refine ⟨[.tsl (Nat.max d m) (Rp.sz α) rs],?_,_,rfl,h0,?_⟩
     ·simp only[mapO,Hx.snap,hg,hc1,hc3,Bool.and_self,bif'_true,q2,e2,tagRows,e3]
     ·refine ⟨?_,.inl rfl,a2⟩
      show max d m≤max k d
      omega
    ·cases q2
   ·cases q2
  | _=>exact h1.elim
 same:=by
  rintro k h x cs n d ⟨v,rfl,-,h1⟩ hn
  obtain ⟨n,rfl⟩:∃m,n=m+1:=⟨n - 1,by omega⟩
  cases v with
  | nils=>rfl
  | esl=>rfl
  | tsl t s rows=>rfl
  | hsl id ep off len lim=>exact h1.1.elim
  | _=>exact h1.elim
 ids:=by
  rintro P k h x cs n ⟨v,rfl,-,h1⟩ i hi
  cases n with
  | zero=>simp[snapIds] at hi
  | succ n =>
   simp only[List.flatMap_cons,List.flatMap_nil,List.append_nil] at hi
   cases v with
   | hsl id ep off len lim =>
    obtain ⟨q1,rows,q2,q3⟩:=h1
    unfold snapIds at hi
    rcases List.mem_cons.1 hi with rfl | hi
    ·exact q1
    ·simp only[rowsOf] at q2
     split at q2
     ·rename_i sz' rows' ep' lo fz hg
      rw[bif'_eq] at q2
      split at q2
      ·injection q2 with q2
       rw[hg] at hi
       simp only[q2,List.mem_flatMap] at hi
       obtain ⟨row,hr,c,hc,hi⟩:=hi
       obtain ⟨a,r⟩:=mem_all2 q3 row hr
       exact Rp.ids (n:=n) r i (List.mem_flatMap.2 ⟨c,hc,hi⟩)
      ·cases q2
     ·cases q2
   | nils=>simp[snapIds] at hi
   | esl=>simp[snapIds] at hi
   | tsl t s rows=>simp[snapIds] at hi
   | _=>exact h1.elim
 tag:=by
  rintro k h x cs n ⟨v,rfl,-,h1⟩ hn
  obtain ⟨n,rfl⟩:∃m,n=m+1:=⟨n - 1,by omega⟩
  cases v with
  | nils=>exact ⟨0,rfl,Nat.zero_le _⟩
  | esl=>exact ⟨0,rfl,Nat.zero_le _⟩
  | tsl t s rows=>exact ⟨t,by simp[maxO,tagO],h1.1⟩
  | hsl id ep off len lim=>exact h1.1.elim
  | _=>exact h1.elim
theorem rp_list {α:Type} [Rp α]{P:Nat→Prop}{k:Nat}{h:H}{l:List α}{cs:List AV}:Rp.rp P k h l cs↔∃v,cs=[v]∧SlR P k h l v:=Iff.rfl
theorem rp_int {P:Nat→Prop}{k:Nat}{h:H}{x:Int}{cs:List AV}:Rp.rp P k h x cs↔cs=[.int .i64 x]:=by simp[Rp.rp]
theorem rp_nat {P:Nat→Prop}{k:Nat}{h:H}{x:Nat}{cs:List AV}:Rp.rp P k h x cs↔cs=[.int .u64 (x:Int)]∧x<18446744073709551616:=by simp[Rp.rp]
theorem rp_bool {P:Nat→Prop}{k:Nat}{h:H}{x:Bool}{cs:List AV}:Rp.rp P k h x cs↔cs=[.bool x]:=by simp[Rp.rp]
theorem rp_u8 {P:Nat→Prop}{k:Nat}{h:H}{x:UInt8}{cs:List AV}:Rp.rp P k h x cs↔cs=[.int .u8 (x.toNat:Int)]:=by simp[Rp.rp]
theorem rp_pair {α β:Type} [Rp α] [Rp β]{P:Nat→Prop}{k:Nat}{h:H}{x:α×β}{cs:List AV}:Rp.rp P k h x cs↔∃a b,cs=a++b∧Rp.rp P k h x.1 a∧Rp.rp P k h x.2 b:=Iff.rfl
theorem SlR.ints {P:Nat→Prop}{k:Nat}{h:H}{l:List Int}{v:AV}(r:SlR P k h l v):rowsOf h 1 v=some (l.map ci):=by
 obtain ⟨rows,h1,h2⟩:=r.rows
 rw[show (1:Nat)=Rp.sz Int from rfl,h1,h2.eq_map (f:=ci) fun a b r=>rp_int.1 r]
theorem SlR.nats {P:Nat→Prop}{k:Nat}{h:H}{l:List Nat}{v:AV}(r:SlR P k h l v):rowsOf h 1 v=some (l.map cu):=by
 obtain ⟨rows,h1,h2⟩:=r.rows
 rw[show (1:Nat)=Rp.sz Nat from rfl,h1,h2.eq_map (f:=cu) fun a b r=>(rp_nat.1 r).1]
end Hx
end
section
namespace Hx
open Go
noncomputable section
theorem tat_tset (t:T)(n m:Nat)(v:AV):tat (tset t n v) m=if m=n then v else tat t m:=sp_get _ _ _ _ _
theorem ofArgs_1 (a:AV)(t:T):ofArgs 0 [a] t=tset t 0 a:=rfl
theorem ofArgs_2 (a b:AV)(t:T):ofArgs 0 [a,b] t=tset (tset t 0 a) 1 b:=rfl
theorem ofArgs_3 (a b c:AV)(t:T):ofArgs 0 [a,b,c] t=tset (tset (tset t 0 a) 1 b) 2 c:=rfl
theorem ofArgs_4 (a b c e:AV)(t:T):ofArgs 0 [a,b,c,e] t=tset (tset (tset (tset t 0 a) 1 b) 2 c) 3 e:=rfl
theorem ofArgs_nil (i:Nat)(t:T):ofArgs i [] t=t:=rfl
theorem tat_nil (m:Nat):tat Tr.nil m=AV.undef:=Tr.get_nil _ _
theorem get_t (t:T)(n:Nat):Od.get t (.t n)=tat t n:=rfl
theorem get_k (t:T)(v:AV):Od.get t (.k v)=v:=rfl
theorem gets_nil (t:T):gets t []=[]:=rfl
theorem gets_cons (t:T)(o:Od)(os:List Od):gets t (o::os)=o.get t::gets t os:=rfl
theorem get_put_eq (h:H)(i:Nat)(o:AObj):(h.put i o).get i=o:=by rw[H.get_put,if_pos rfl]
theorem get_put_ne (h:H)(i:Nat)(o:AObj){k:Nat}(hk:k≠i):(h.put i o).get k=h.get k:=by rw[H.get_put,if_neg hk]
theorem empty_h (k:Nat):G.empty.h.get k=AObj.none:=by simp[G.empty,H.get,Tr.get_nil]
theorem empty_nx:G.empty.nx=0:=rfl
theorem sat_val (v:AV)(K:AV→G→Prop)(g:G)(D:ADf→Prop):(OR.val v).sat K g D=K v g:=rfl
theorem sat_upd (v:AV)(g':G)(K:AV→G→Prop)(g:G)(D:ADf→Prop):(OR.upd v g').sat K g D=K v g':=rfl
theorem orV_some (v:AV):orV (some v)=.val v:=rfl
theorem wrap64 {x:Int}(h:-9223372036854775808≤x)(h':x<9223372036854775808):IntKind.wrap .i64 x=x:=by
 by_cases h0:x<0
 ·exact wrap_i64_neg x h h0
 ·obtain ⟨n,rfl⟩:=Int.eq_ofNat_of_zero_le (show 0≤x by omega)
  exact wrap_i64_ofNat n (by omega)
theorem wrapu64 {x:Int}(h:0≤x)(h':x<18446744073709551616):IntKind.wrap .u64 x=x:=by
 simp only[IntKind.wrap,IntKind.bits,IntKind.signed,Bool.false_and,Bool.false_eq_true,if_false]
 exact Int.emod_eq_of_lt h h'
theorem wrapu8 {x:Int}(h:0≤x)(h':x<256):IntKind.wrap .u8 x=x:=by
 simp only[IntKind.wrap,IntKind.bits,IntKind.signed,Bool.false_and,Bool.false_eq_true,if_false]
 exact Int.emod_eq_of_lt h h'
theorem kindEq_self (k:IntKind):kindEq k k=true:=by cases k<;>rfl
theorem bin_add (k:IntKind)(a b:Int):binV .add (.int k a) (.int k b)=.val (.int k (k.wrap (a+b))):=by simp only[binV,intBin,kindEq_self,bif'_true,wrapF_eq];rfl
theorem bin_sub (k:IntKind)(a b:Int):binV .sub (.int k a) (.int k b)=.val (.int k (k.wrap (a - b))):=by simp only[binV,intBin,kindEq_self,bif'_true,wrapF_eq];rfl
theorem bin_mul (k:IntKind)(a b:Int):binV .mul (.int k a) (.int k b)=.val (.int k (k.wrap (a*b))):=by simp only[binV,intBin,kindEq_self,bif'_true,wrapF_eq];rfl
theorem bin_eql (k:IntKind)(a b:Int):binV .eql (.int k a) (.int k b)=.val (.bool (decide (a=b))):=by simp only[binV,intBin,kindEq_self,bif'_true,ieqb_eq];rfl
theorem bin_neq (k:IntKind)(a b:Int):binV .neq (.int k a) (.int k b)=.val (.bool (!decide (a=b))):=by simp only[binV,intBin,kindEq_self,bif'_true,ieqb_eq,notb_eq];rfl
theorem bin_lss (k:IntKind)(a b:Int):binV .lss (.int k a) (.int k b)=.val (.bool (decide (a<b))):=by simp only[binV,intBin,kindEq_self,bif'_true,iltb_eq];rfl
theorem bin_gtr (k:IntKind)(a b:Int):binV .gtr (.int k a) (.int k b)=.val (.bool (decide (b<a))):=by simp only[binV,intBin,kindEq_self,bif'_true,iltb_eq];rfl
theorem bin_leq (k:IntKind)(a b:Int):binV .leq (.int k a) (.int k b)=.val (.bool (decide (a≤b))):=by
 simp only[binV,intBin,kindEq_self,bif'_true,iltb_eq,notb_eq]
 by_cases h:b<a
 ·rw[decide_eq_true h,decide_eq_false (show ¬a≤b by omega)];rfl
 ·rw[decide_eq_false h,decide_eq_true (show a≤b by omega)];rfl
theorem bin_geq (k:IntKind)(a b:Int):binV .geq (.int k a) (.int k b)=.val (.bool (decide (b≤a))):=by
 simp only[binV,intBin,kindEq_self,bif'_true,iltb_eq,notb_eq]
 by_cases h:a<b
 ·rw[decide_eq_true h,decide_eq_false (show ¬b≤a by omega)];rfl
 ·rw[decide_eq_false h,decide_eq_true (show b≤a by omega)];rfl
theorem bin_quo (k:IntKind){a b:Int}(ha:0≤a)(hb:0<b):binV .quo (.int k a) (.int k b)=.val (.int k (k.wrap (a / b))):=by
 obtain ⟨m,rfl⟩:=Int.eq_ofNat_of_zero_le ha
 obtain ⟨n,rfl⟩:=Int.eq_ofNat_of_zero_le (show 0≤b by omega)
 obtain ⟨n,rfl⟩:∃j,n=j+1:=⟨n - 1,by omega⟩
 simp only[binV,intBin,kindEq_self,bif'_true]
 show orV (quoF k (.ofNat m) (.ofNat (n+1)))=_
 simp only[quoF,wrapF_eq];rfl
theorem bin_rem (k:IntKind){a b:Int}(ha:0≤a)(hb:0<b):binV .rem (.int k a) (.int k b)=.val (.int k (a % b)):=by
 obtain ⟨m,rfl⟩:=Int.eq_ofNat_of_zero_le ha
 obtain ⟨n,rfl⟩:=Int.eq_ofNat_of_zero_le (show 0≤b by omega)
 obtain ⟨n,rfl⟩:∃j,n=j+1:=⟨n - 1,by omega⟩
 simp only[binV,intBin,kindEq_self,bif'_true]
 show orV (remF k (.ofNat m) (.ofNat (n+1)))=_
 simp only[remF];rfl
theorem bin_shl (k':IntKind)(m n:Nat):binV .shl (.int .u64 (m:Int)) (.int k' (n:Int))=.val (.int .u64 ((m*2 ^ n % 18446744073709551616:Nat):Int)):=by
 show orV (shlF .u64 (.ofNat m) (.ofNat n))=_
 simp only[shlF,IntKind.bits]
 show OR.val (.int .u64 (wrapF .u64 (.ofNat (m*2 ^ (Nat.min n 64)))))=_
 simp only[wrapF]
 congr 2
 show ((m*2 ^ (min n 64) % 18446744073709551616:Nat):Int)=_
 by_cases h:n≤64
 ·rw[Nat.min_eq_left h]
 ·rw[Nat.min_eq_right (by omega)]
  obtain ⟨j,rfl⟩:∃j,n=64+j:=⟨n - 64,by omega⟩
  rw[Nat.pow_add,show (18446744073709551616:Nat)=2 ^ 64 from rfl,Nat.mul_mod_left,←Nat.mul_assoc,Nat.mul_comm (m*2 ^ 64),←Nat.mul_assoc,Nat.mul_mod_left]
theorem bin_shr (k':IntKind)(m n:Nat)(h:m<18446744073709551616):binV .shr (.int .u64 (m:Int)) (.int k' (n:Int))=.val (.int .u64 ((m / 2 ^ n:Nat):Int)):=by
 show orV (shrF .u64 (.ofNat m) (.ofNat n))=_
 simp only[shrF,IntKind.bits]
 show OR.val (.int .u64 (.ofNat (m / 2 ^ (Nat.min n 64))))=_
 congr 2
 show ((m / 2 ^ (min n 64):Nat):Int)=_
 by_cases h2:n≤64
 ·rw[Nat.min_eq_left h2]
 ·rw[Nat.min_eq_right (by omega)]
  obtain ⟨j,rfl⟩:∃j,n=64+j:=⟨n - 64,by omega⟩
  rw[Nat.pow_add,←Nat.div_div_eq_div_mul,show (2 ^ 64:Nat)=18446744073709551616 from rfl,Nat.div_eq_of_lt h,Nat.zero_div]
theorem small_u64 {m n:Nat}(h:m<18446744073709551616)(h':n<18446744073709551616):small64 .u64 m n=true:=by
 simp only[small64,Bool.and_eq_true,Nat.blt_eq];exact ⟨h,h'⟩
theorem bin_or (m n:Nat)(h:m<18446744073709551616)(h':n<18446744073709551616):binV .or (.int .u64 (m:Int)) (.int .u64 (n:Int))=.val (.int .u64 ((m ||| n:Nat):Int)):=by
 show orV (bif' (small64 .u64 m n) _ _)=_
 rw[small_u64 h h'];rfl
theorem bin_and (m n:Nat)(h:m<18446744073709551616)(h':n<18446744073709551616):binV .and (.int .u64 (m:Int)) (.int .u64 (n:Int))=.val (.int .u64 ((m &&& n:Nat):Int)):=by
 show orV (bif' (small64 .u64 m n) _ _)=_
 rw[small_u64 h h'];rfl
theorem bin_andNot (m n:Nat)(h:m<18446744073709551616)(h':n<18446744073709551616):binV .andNot (.int .u64 (m:Int)) (.int .u64 (n:Int))=.val (.int .u64 ((m ^^^ (m &&& n):Nat):Int)):=by
 show orV (bif' (small64 .u64 m n) _ _)=_
 rw[small_u64 h h'];rfl
theorem or_lt {m n:Nat}(h:m<18446744073709551616)(h':n<18446744073709551616):m ||| n<18446744073709551616:=Nat.or_lt_two_pow (n:=64) h h'
theorem not_bool (b:Bool):notV (.bool b)=.val (.bool (!b)):=by simp only[notV,notb_eq]
theorem conv_int (k k':IntKind)(a:Int):convV k (.int k' a)=.val (.int k (k.wrap a)):=by simp only[convV,wrapF_eq]
theorem pick_t (a b:AV):pickV (.bool true) a b=.val a:=rfl
theorem pick_f (a b:AV):pickV (.bool false) a b=.val b:=rfl
theorem mx_int (k:IntKind)(a b:Int):mxV (.int k a) (.int k b)=.val (.int k (max a b)):=by
 simp only[mxV,kindEq_self,bif'_true,iltb_eq]
 by_cases h:a<b
 ·rw[decide_eq_true h,Int.max_eq_right (by omega)]
 ·rw[decide_eq_false h,Int.max_eq_left (by omega)]
theorem mn_int (k:IntKind)(a b:Int):mnV (.int k a) (.int k b)=.val (.int k (min a b)):=by
 simp only[mnV,kindEq_self,bif'_true,iltb_eq]
 by_cases h:b<a
 ·rw[decide_eq_true h,Int.min_eq_right (by omega)]
 ·rw[decide_eq_false h,Int.min_eq_left (by omega)]
def rptr (sz:Nat)(v:AV)(i off:Nat):AV :=
 match v with
 | .tsl l _ rows=>.tptr l sz rows i off
 | .hsl id ep o _ _=>.hptr id ep (o+i) off
 | _=>.undef
theorem len_rows {g:G}{sz:Nat}{v:AV}{rows:List (List AV)}(h:rowsOf g.h sz v=some rows):lenF .slice v g=.val (.int .i64 (rows.length:Int)):=by
 unfold rowsOf at h
 split at h
 ·injection h with h;subst h;rfl
 ·injection h with h;subst h;rfl
 ·rw[bif'_eq] at h
  split at h
  ·injection h with h;subst h;simp only[lenF,lenR_eq];rfl
  ·cases h
 ·split at h
  ·rw[bif'_eq] at h
   split at h
   ·rename_i hc
    injection h with h;subst h
    simp only[Bool.and_eq_true,Nat.ble_eq,lenR_eq] at hc
    simp only[lenF,takeR_eq,dropR_eq,List.length_take,List.length_drop]
    congr 3
    rw[Nat.min_eq_left (by omega)]
   ·cases h
  ·cases h
 ·cases h
theorem len_rows' {h:H}{sz:Nat}{v:AV}{rows:List (List AV)}(hv:rowsOf h sz v=some rows)(g:G):lenF .slice v g=.val (.int .i64 (rows.length:Int)) :=
 (show lenF .slice v g=lenF .slice v ⟨h,0,[]⟩ from by cases v<;>rfl).trans (len_rows (g:=⟨h,0,[]⟩) hv)
theorem ixs_rows {g:G}{sz:Nat}{v:AV}{rows:List (List AV)}{k:IntKind}{i:Int}(h:rowsOf g.h sz v=some rows)(h0:0≤i)(hi:i<rows.length) :
  ixsV sz v (.int k i) g=.val (rptr sz v i.toNat 0):=by
 obtain ⟨n,rfl⟩:=Int.eq_ofNat_of_zero_le h0
 have hi:n<rows.length:=by omega
 show ixsV sz v (.int k (.ofNat n)) g=.val (rptr sz v n 0)
 unfold rowsOf at h
 split at h
 ·injection h with h;subst h;simp at hi
 ·injection h with h;subst h;simp at hi
 ·rw[bif'_eq] at h
  split at h
  ·rename_i hc
   injection h with h;subst h
   rename_i sz' rows _
   have:Nat.beq sz sz'=true:=by
    simp only[Bool.or_eq_true,List.isEmpty_iff] at hc
    rcases hc with hc | hc
    ·exact hc
    ·rw[hc] at hi;simp at hi
   simp only[ixsV,indexSlF,this,lenR_eq,Bool.true_and,bif'_eq,Nat.blt_eq,if_pos hi,rptr]
  ·cases h
 ·split at h
  ·rename_i sz' rows' ep' lo fz hg
   rw[bif'_eq] at h
   split at h
   ·rename_i hc
    injection h with h;subst h
    simp only[Bool.and_eq_true] at hc
    simp only[takeR_eq,dropR_eq,List.length_take,List.length_drop] at hi
    simp only[ixsV,indexSlF,G.get_eq,hg,hc.1.1,hc.1.2,Bool.true_and,bif'_eq,Nat.blt_eq]
    rw[if_pos (by omega)];rfl
   ·cases h
  ·cases h
 ·cases h
theorem load_rows {g:G}{sz:Nat}{v:AV}{rows:List (List AV)}{row:List AV}{i off n:Nat}{ag:Bool}(h:rowsOf g.h sz v=some rows)(hr:rows[i]?=some row) :
  loadV ag n (rptr sz v i off) g=orV (getPart ag n row off):=by
 unfold rowsOf at h
 split at h
 ·injection h with h;subst h;simp at hr
 ·injection h with h;subst h;simp at hr
 ·rw[bif'_eq] at h
  split at h
  ·injection h with h;subst h
   simp only[loadV,loadF,rptr,nthR_eq,hr]
  ·cases h
 ·split at h
  ·rename_i sz' rows' ep' lo fz hg
   rw[bif'_eq] at h
   split at h
   ·rename_i hc
    injection h with h;subst h
    simp only[Bool.and_eq_true] at hc
    simp only[takeR_eq,dropR_eq,List.getElem?_take,List.getElem?_drop] at hr
    split at hr
    ·simp only[loadV,loadF,rptr,G.get_eq,hg,hc.1.1,bif'_true,nthR_eq,hr]
    ·cases hr
   ·cases h
  ·cases h
 ·cases h
theorem fad_hptr (fo id ep i off:Nat):fadV fo (.hptr id ep i off)=.val (.hptr id ep i (off+fo)):=rfl
theorem part_one {n:Nat}{row:List AV}{off:Nat}:getPart false n row off=row[off]?:=by simp only[getPart,bif'_false,nthR_eq]
theorem part_agg {n:Nat}{row:List AV}{off:Nat}(h:off+n≤row.length):getPart true n row off=some (.agg ((row.drop off).take n)):=by
 simp only[getPart,bif'_true,takeR_eq,dropR_eq,lenR_eq,List.length_take,List.length_drop,bif'_eq]
 rw[if_pos]
 rw[Nat.min_eq_left (by omega)];exact Nat.beq_refl n
theorem store_hptr {g:G}{id ep sz i off n:Nat}{rows:List (List AV)}{lo:Bool}{row cs row':List AV}{x:AV}(hg:g.h.get id=.cells sz rows ep lo false)(hr:rows[i]?=some row)
  (hc:x.cells=cs) (ht:x.isTup=false) (hl:cs.length=n) (hp:putCells row off cs=some row') :
  storeV n (.hptr id ep i off) x g=.upd .undef (g.put id (.cells sz (rows.set i row') ep lo false)):=by
 subst hc
 simp only[storeV,storeF,G.get_eq,hg,nthR_eq,hr,show Nat.beq ep ep=true from Nat.beq_refl ep,lenR_eq,hl,show Nat.beq n n=true from Nat.beq_refl n,ht,notb_eq,Bool.not_false,Bool.and_self,bif'_true,hp,setR_eq]
def hslRows (o:AObj)(ep off len sz:Nat):Option (List (List AV)) :=
 match o with
 | .cells sz' rows ep' _ _=>bif' (Nat.beq ep ep'&&Nat.beq sz sz'&&Nat.ble (off+len) (lenR rows)) (some (takeR len (dropR off rows))) none
 | _=>none
theorem rowsOf_nils (h:H)(sz:Nat):rowsOf h sz .nils=some []:=rfl
theorem rowsOf_tsl (h:H)(sz t:Nat)(rows:List (List AV)):rowsOf h sz (.tsl t sz rows)=some rows:=by
 simp only[rowsOf,show Nat.beq sz sz=true from Nat.beq_refl sz,Bool.true_or,bif'_true]
theorem rowsOf_hsl (h:H)(sz id ep off len:Nat)(lim:Option Nat):rowsOf h sz (.hsl id ep off len lim)=hslRows (h.get id) ep off len sz:=rfl
theorem hslRows_cells (sz:Nat)(rows:List (List AV))(ep:Nat)(lo fz:Bool)(off len:Nat) :
  hslRows (.cells sz rows ep lo fz) ep off len sz=if off+len≤rows.length then some ((rows.drop off).take len) else none:=by
 simp only[hslRows,show Nat.beq sz sz=true from Nat.beq_refl sz,show Nat.beq ep ep=true from Nat.beq_refl ep,Bool.true_and,bif'_eq,Nat.ble_eq,lenR_eq,takeR_eq,dropR_eq]
theorem hslRows_all (sz:Nat)(rows:List (List AV))(ep:Nat)(lo fz:Bool):hslRows (.cells sz rows ep lo fz) ep 0 rows.length sz=some rows:=by
 rw[hslRows_cells,if_pos (by omega)];simp
def hptrLoad (o:AObj)(ep i:Nat)(ag:Bool)(n off:Nat):OR :=
 match o with
 | .cells _ rows ep' _ _=>bif' (Nat.beq ep ep') (match rows[i]? with | some row=>orV (getPart ag n row off) | none=>.fail) .fail
 | _=>.fail
theorem load_hptr' (g:G)(id ep i off n:Nat)(ag:Bool):loadV ag n (.hptr id ep i off) g=hptrLoad (g.h.get id) ep i ag n off:=by
 simp only[loadV,loadF,G.get_eq,hptrLoad,nthR_eq]
 rfl
theorem hptrLoad_cells (sz:Nat)(rows:List (List AV))(ep:Nat)(lo fz:Bool)(i n off:Nat)(ag:Bool) :
  hptrLoad (.cells sz rows ep lo fz) ep i ag n off=match rows[i]? with | some row=>orV (getPart ag n row off) | none=>.fail:=by
 simp only[hptrLoad,show Nat.beq ep ep=true from Nat.beq_refl ep,bif'_true]
def hptrStore (o:AObj)(g:G)(id ep i n off:Nat)(x:AV):OR :=
 match o with
 | .cells sz rows ep' lo fz=>bif' (Nat.beq ep ep'&&Nat.beq x.cells.length n&&notb fz&&notb x.isTup) (match rows[i]? with
   | some row=>match putCells row off x.cells with
    | some row'=>.upd .undef (g.put id (.cells sz (rows.set i row') ep lo fz))
    | none=>.fail
   | none=>.fail) .fail
 | _=>.fail
theorem store_hptr' (g:G)(id ep i off n:Nat)(x:AV):storeV n (.hptr id ep i off) x g=hptrStore (g.h.get id) g id ep i n off x:=by
 simp only[storeV,storeF,G.get_eq,hptrStore,nthR_eq,lenR_eq,setR_eq]
 rfl
theorem hptrStore_cells (sz:Nat)(rows:List (List AV))(ep:Nat)(lo:Bool)(g:G)(id i n off:Nat)(x:AV)(hl:x.cells.length=n)(ht:x.isTup=false) :
  hptrStore (.cells sz rows ep lo false) g id ep i n off x=match rows[i]? with
   | some row=>match putCells row off x.cells with
    | some row'=>.upd .undef (g.put id (.cells sz (rows.set i row') ep lo false))
    | none=>.fail
   | none=>.fail:=by
 simp only[hptrStore,show Nat.beq ep ep=true from Nat.beq_refl ep,hl,show Nat.beq n n=true from Nat.beq_refl n,ht,notb_eq,Bool.not_false,Bool.and_self,bif'_true]
theorem load_rptr {g:G}{sz:Nat}{v:AV}{i off n:Nat}{ag:Bool}(h:(rowsOf g.h sz v).isSome=true)(hi:i<((rowsOf g.h sz v).getD []).length) :
  loadV ag n (rptr sz v i off) g=orV (getPart ag n (((rowsOf g.h sz v).getD [])[i]?.getD []) off):=by
 obtain ⟨rows,hr⟩:=Option.isSome_iff_exists.1 h
 rw[hr] at hi ⊢
 simp only[Option.getD_some] at hi ⊢
 rw[load_rows hr (List.getElem?_eq_getElem hi),List.getElem?_eq_getElem hi,Option.getD_some]
theorem ixs_rptr {g:G}{sz:Nat}{v:AV}{k:IntKind}{i:Int}(h:(rowsOf g.h sz v).isSome=true)(h0:0≤i)(hi:i<((rowsOf g.h sz v).getD []).length) :
  ixsV sz v (.int k i) g=.val (rptr sz v i.toNat 0):=by
 obtain ⟨rows,hr⟩:=Option.isSome_iff_exists.1 h
 rw[hr] at hi
 exact ixs_rows hr h0 hi
theorem ixs_nat {g:G}{sz:Nat}{v:AV}{k:IntKind}{i:Nat}(h:(rowsOf g.h sz v).isSome=true)(hi:i<((rowsOf g.h sz v).getD []).length) :
  ixsV sz v (.int k (i:Int)) g=.val (rptr sz v i 0):=ixs_rptr h (Int.natCast_nonneg i) (by omega)
def rowy:AV→Bool
 | .tsl .. | .hsl ..=>true
 | _=>false
theorem fad_rptr {sz:Nat}{v:AV}{i off fo:Nat}(h:rowy v=true):fadV fo (rptr sz v i off)=.val (rptr sz v i (off+fo)):=by
 cases v<;>first | rfl | cases h
theorem rowy_of {h:H}{sz:Nat}{v:AV}{rows:List (List AV)}{i:Nat}(hv:rowsOf h sz v=some rows)(hi:i<rows.length):rowy v=true:=by
 unfold rowsOf at hv
 split at hv
 ·injection hv with h;subst h;simp at hi
 ·injection hv with h;subst h;simp at hi
 ·rfl
 ·rfl
 ·cases hv
def ints (h:H)(v:AV):List Int:=((rowsOf h 1 v).getD []).map fun r=>match r with | [.int _ x]=>x | _=>0
def isInts (h:H)(v:AV):Prop:=rowsOf h 1 v=some ((ints h v).map ci)
theorem ints_map (l:List Int):(l.map ci).map (fun r=>match r with | [.int _ x]=>x | _=>0)=l:=by
 induction l with
 | nil=>rfl
 | cons a l ih=>simp only[List.map_cons,ih,ci]
theorem ints_of {h:H}{v:AV}{l:List Int}(hv:rowsOf h 1 v=some (l.map ci)):ints h v=l:=by
 simp only[ints,hv,Option.getD_some,ints_map]
theorem isInts_of {h:H}{v:AV}{l:List Int}(hv:rowsOf h 1 v=some (l.map ci)):isInts h v:=by
 unfold isInts
 rw[ints_of hv,hv]
theorem nth_0 {α:Type}(a:α)(l:List α):(a::l)[0]?=some a:=rfl
theorem nth_1 {α:Type}(a b:α)(l:List α):(a::b::l)[1]?=some b:=rfl
theorem nth_2 {α:Type}(a b c:α)(l:List α):(a::b::c::l)[2]?=some c:=rfl
theorem nth_3 {α:Type}(a b c e:α)(l:List α):(a::b::c::e::l)[3]?=some e:=rfl
theorem nth_4 {α:Type}(a b c e p:α)(l:List α):(a::b::c::e::p::l)[4]?=some p:=rfl
theorem nth_5 {α:Type}(a b c e p q:α)(l:List α):(a::b::c::e::p::q::l)[5]?=some q:=rfl
theorem nth_6 {α:Type}(a b c e p q r:α)(l:List α):(a::b::c::e::p::q::r::l)[6]?=some r:=rfl
theorem nth_7 {α:Type}(a b c e p q r s:α)(l:List α):(a::b::c::e::p::q::r::s::l)[7]?=some s:=rfl
theorem nth_8 {α:Type}(a b c e p q r s u:α)(l:List α):(a::b::c::e::p::q::r::s::u::l)[8]?=some u:=rfl
@[reducible] def o (d:Nat) (op:SO):SI:=⟨some d,none,op⟩
@[reducible] def oz (op:SO):SI:=⟨none,none,op⟩
@[reducible] def og (d s:Nat) (w:Bool) (op:SO):SI:=⟨some d,some (s,w),op⟩
@[reducible] def ozg (s:Nat) (w:Bool) (op:SO):SI:=⟨none,some (s,w),op⟩
section steps
variable {C:Cfg}{d:Nat}{rd:Option Nat}
theorem wp_skip (Q:QT)(t:T)(df:List ADf)(g:G):wp C d rd .skip Q t df g=Q .norm t df g:=rfl
theorem wp_ops (l:List SI)(Q:QT)(t:T)(df:List ADf)(g:G):wp C d rd (.ops l) Q t df g=wpO C d rd l (Q .norm) t df g:=rfl
theorem wp_quiet (l:List SI)(Q:QT)(t:T)(df:List ADf)(g:G):wp C d rd (.quiet l) Q t df g=wpO C d rd l (kQ g Q) t df (setLog g []):=rfl
theorem wp_feet (pm:List Nat)(l:List SI)(Q:QT)(t:T)(df:List ADf)(g:G):wp C d rd (.feet pm l) Q t df g=wpF C d rd pm l (Q .norm) t df g []:=rfl
theorem wp_seq (a b:SC)(Q:QT)(t:T)(df:List ADf)(g:G):wp C d rd (.seq a b) Q t df g=wp C d rd a (kS (wp C d rd b Q) Q) t df g:=rfl
theorem wp_cond (c:Od)(a b:SC)(Q:QT)(t:T)(df:List ADf)(g:G):wp C d rd (.cond c a b) Q t df g=wpC (c.get t) (wp C d rd a Q) (wp C d rd b Q) t df g:=rfl
theorem wp_blk (id:Nat)(b:SC)(Q:QT)(t:T)(df:List ADf)(g:G):wp C d rd (.blk id b) Q t df g=wp C d rd b (kB id Q) t df g:=rfl
theorem wp_loop (b:SC)(Q:QT)(t:T)(df:List ADf)(g:G):wp C d rd (.loop b) Q t df g=wpL (wp C d rd b) Q t df g:=rfl
theorem wp_exit (id:Nat)(Q:QT)(t:T)(df:List ADf)(g:G):wp C d rd (.exit id) Q t df g=Q (.exit id) t df g:=rfl
theorem wp_ret (Q:QT)(t:T)(df:List ADf)(g:G):wp C d rd .ret Q t df g=Q .ret t df g:=rfl
theorem kQ_eq (g0:G)(Q:QT)(t:T)(df:List ADf)(g:G):kQ g0 Q t df g=(g.lg=[]∧g.nx=g0.nx∧Q .norm t df g0):=rfl
theorem wpO_nil (Q:PT)(t:T)(df:List ADf)(g:G):wpO C d rd [] Q t df g=Q t df g:=rfl
theorem wpO_o (n:Nat)(op:SO)(r:List SI)(Q:PT)(t:T)(df:List ADf)(g:G) :
  wpO C d rd (o n op::r) Q t df g=(op.run C d rd t g).sat (kO (wpO C d rd r Q) (some n) t df) g (kD (wpO C d rd r Q) (some n) t df g):=rfl
theorem wpO_oz (op:SO)(r:List SI)(Q:PT)(t:T)(df:List ADf)(g:G) :
  wpO C d rd (oz op::r) Q t df g=(op.run C d rd t g).sat (kO (wpO C d rd r Q) none t df) g (kD (wpO C d rd r Q) none t df g):=rfl
theorem wpO_og (n s:Nat)(w:Bool)(op:SO)(r:List SI)(Q:PT)(t:T)(df:List ADf)(g:G) :
  wpO C d rd (og n s w op::r) Q t df g=gdP (tat t s) w (runP C d rd (o n op) (wpO C d rd r Q)) (skipP (o n op) (wpO C d rd r Q)) t df g:=rfl
theorem wpO_ozg (s:Nat)(w:Bool)(op:SO)(r:List SI)(Q:PT)(t:T)(df:List ADf)(g:G) :
  wpO C d rd (ozg s w op::r) Q t df g=gdP (tat t s) w (runP C d rd (oz op) (wpO C d rd r Q)) (skipP (oz op) (wpO C d rd r Q)) t df g:=rfl
theorem runP_o (n:Nat)(op:SO)(W:PT)(t:T)(df:List ADf)(g:G):runP C d rd (o n op) W t df g=(op.run C d rd t g).sat (kO W (some n) t df) g (kD W (some n) t df g):=rfl
theorem runP_oz (op:SO)(W:PT)(t:T)(df:List ADf)(g:G):runP C d rd (oz op) W t df g=(op.run C d rd t g).sat (kO W none t df) g (kD W none t df g):=rfl
theorem skipP_o (n:Nat)(op:SO)(W:PT)(t:T)(df:List ADf)(g:G):skipP (o n op) W t df g=W (tset t n .undef) df g:=rfl
theorem skipP_oz (op:SO)(W:PT)(t:T)(df:List ADf)(g:G):skipP (oz op) W t df g=W t df g:=rfl
theorem kO_some (W:PT)(n:Nat)(t:T)(df:List ADf)(v:AV)(g:G):kO W (some n) t df v g=W (tset t n v) df g:=rfl
theorem kO_none (W:PT)(t:T)(df:List ADf)(v:AV)(g:G):kO W none t df v g=W t df g:=rfl
theorem gdP_t (q:Bool)(A B:PT)(t:T)(df:List ADf)(g:G):gdP (.bool q) true A B t df g=bifP q A B t df g:=rfl
theorem gdP_f (q:Bool)(A B:PT)(t:T)(df:List ADf)(g:G):gdP (.bool q) false A B t df g=bifP q B A t df g:=rfl
theorem gdP_undef (w:Bool)(A B:PT)(t:T)(df:List ADf)(g:G):gdP (.tup []) w A B t df g=B t df g:=rfl
theorem bifP_true (A B:PT)(t:T)(df:List ADf)(g:G):bifP true A B t df g=A t df g:=by simp[bifP]
theorem bifP_false (A B:PT)(t:T)(df:List ADf)(g:G):bifP false A B t df g=B t df g:=by simp[bifP]
theorem wpC_bool (q:Bool)(A B:PT)(t:T)(df:List ADf)(g:G):wpC (.bool q) A B t df g=bifP q A B t df g:=rfl
theorem kS_norm (W:PT)(Q:QT)(t:T)(df:List ADf)(g:G):kS W Q .norm t df g=W t df g:=rfl
theorem kS_exit (W:PT)(Q:QT)(id:Nat)(t:T)(df:List ADf)(g:G):kS W Q (.exit id) t df g=Q (.exit id) t df g:=rfl
theorem kS_ret (W:PT)(Q:QT)(t:T)(df:List ADf)(g:G):kS W Q .ret t df g=Q .ret t df g:=rfl
theorem kB_norm (id:Nat)(Q:QT)(t:T)(df:List ADf)(g:G):kB id Q .norm t df g=Q .norm t df g:=rfl
theorem kB_ret (id:Nat)(Q:QT)(t:T)(df:List ADf)(g:G):kB id Q .ret t df g=Q .ret t df g:=rfl
theorem kB_same (id:Nat)(Q:QT)(t:T)(df:List ADf)(g:G):kB id Q (.exit id) t df g=Q .norm t df g:=by simp[kB]
theorem kB_other (id j:Nat)(Q:QT)(t:T)(df:List ADf)(g:G)(h:j≠id):kB id Q (.exit j) t df g=Q (.exit j) t df g:=by
 simp only[kB];rw[bif'_eq,if_neg (fun e=>h (Nat.eq_of_beq_eq_true e))]
theorem kB_exit (id j:Nat)(Q:QT)(t:T)(df:List ADf)(g:G):kB id Q (.exit j) t df g=if j=id then Q .norm t df g else Q (.exit j) t df g:=by
 by_cases h:j=id
 ·subst h;rw[kB_same,if_pos rfl]
 ·rw[kB_other _ _ _ _ _ _ h,if_neg h]
theorem kL_norm (Inv:Nat→PT)(k:Nat)(Q:QT)(t:T)(df:List ADf)(g:G):kL Inv k Q .norm t df g=∃k',k'<k∧Inv k' t df g:=rfl
theorem kL_exit (Inv:Nat→PT)(k:Nat)(Q:QT)(id:Nat)(t:T)(df:List ADf)(g:G):kL Inv k Q (.exit id) t df g=Q (.exit id) t df g:=rfl
theorem kL_ret (Inv:Nat→PT)(k:Nat)(Q:QT)(t:T)(df:List ADf)(g:G):kL Inv k Q .ret t df g=Q .ret t df g:=rfl
theorem bifP_mk {q:Bool}{A B:PT}{t:T}{df:List ADf}{g:G}(h1:q=true→A t df g)(h2:q=false→B t df g):bifP q A B t df g:=⟨h1,h2⟩
theorem fnQ_norm (r:List SR)(K:AV→G→Prop)(t:T)(df:List ADf)(g:G):fnQ C d r K .norm t df g=endP C d r t df g K:=rfl
theorem fnQ_ret (r:List SR)(K:AV→G→Prop)(t:T)(df:List ADf)(g:G):fnQ C d r K .ret t df g=endP C d r t df g K:=rfl
theorem endP_nil (r:List SR)(K:AV→G→Prop)(t:T)(g:G):endP C d r t [] g K=resP r t g fun vs=>K (oneOrTup vs) g:=rfl
theorem resP_nil (t:T)(g:G)(K:List AV→Prop):resP [] t g K=K []:=rfl
theorem resP_tm (n:Nat)(r:List SR)(t:T)(g:G)(K:List AV→Prop):resP (.tm n::r) t g K=resP r t g fun vs=>K (tat t n::vs):=rfl
theorem oneOrTup_one (v:AV):oneOrTup [v]=v:=rfl
theorem wpL_mk {W:QT→PT}{Q:QT}{t:T}{df:List ADf}{g:G}(Inv:Nat→PT)(k:Nat)(h0:Inv k t df g)(h:∀k t df g,Inv k t df g→W (kL Inv k Q) t df g):wpL W Q t df g:=⟨Inv,⟨k,h0⟩,h⟩
end steps
end
end Hx
end
section
namespace Hx
open Go
noncomputable section
theorem sx:type_of% (And.intro @wpO_nil <| And.intro @wpO_o <| And.intro @wpO_oz <| And.intro @wpO_og <| And.intro @wpO_ozg <| And.intro @runP_o <| And.intro @runP_oz <| And.intro @skipP_o <| And.intro @skipP_oz <|
 And.intro @kO_some <| And.intro @kO_none <| And.intro @gdP_t <| And.intro @gdP_f <| And.intro @gdP_undef <| And.intro @bifP_true <| And.intro @bifP_false <| And.intro @wpC_bool <| And.intro @kS_norm <| And.intro @kS_exit <| And.intro @kS_ret <|
 And.intro @kB_norm <| And.intro @kB_ret <| And.intro @kB_exit <| And.intro @kL_norm <| And.intro @kL_exit <| And.intro @kL_ret <| And.intro @fnQ_norm <| And.intro @fnQ_ret <| And.intro @endP_nil <| And.intro @resP_nil <| And.intro @resP_tm <|
 And.intro @oneOrTup_one <| And.intro @tat_tset <| And.intro @ofArgs_1 <| And.intro @ofArgs_2 <| And.intro @ofArgs_3 <| And.intro @ofArgs_4 <| And.intro @wp_skip <| And.intro @wp_ops <| And.intro @wp_quiet <| And.intro @wp_feet <| And.intro @wp_seq <| And.intro @wp_cond <| And.intro @wp_blk <| And.intro @wp_loop <| And.intro @wp_exit <| And.intro @wp_ret <| And.intro @ofArgs_nil <| And.intro @tat_nil <| And.intro @get_t <| And.intro @get_k <| And.intro @gets_nil <| And.intro @gets_cons <| And.intro @sat_val <| And.intro @sat_upd <| And.intro @orV_some <|
 And.intro @bin_add <| And.intro @bin_sub <| And.intro @bin_mul <| And.intro @bin_eql <| And.intro @bin_neq <| And.intro @bin_lss <| And.intro @bin_gtr <| And.intro @bin_leq <| And.intro @bin_geq <| And.intro @not_bool <| And.intro @conv_int <| And.intro @pick_t <| And.intro @pick_f <|
 And.intro @mx_int <| And.intro @mn_int <| And.intro @fad_hptr <| And.intro @load_hptr' <| And.intro @hptrLoad_cells <| And.intro @store_hptr' <| And.intro @part_one <| And.intro @load_rptr <| And.intro @fad_rptr <| And.intro @ixs_nat <|
 And.intro @nth_0 <| And.intro @nth_1 <| And.intro @nth_2 <| And.intro @nth_3 <| And.intro @nth_4 <| And.intro @nth_5 <| And.intro @nth_6 <| And.intro @nth_7 <| And.intro @nth_8 <| And.intro @G.put_h <| And.intro @G.put_nx <| And.intro @G.new_h <| And.intro @G.new_nx <| And.intro @get_put_eq <| And.intro @empty_nx <| @empty_h) :=
 And.intro @wpO_nil <| And.intro @wpO_o <| And.intro @wpO_oz <| And.intro @wpO_og <| And.intro @wpO_ozg <| And.intro @runP_o <| And.intro @runP_oz <| And.intro @skipP_o <| And.intro @skipP_oz <|
 And.intro @kO_some <| And.intro @kO_none <| And.intro @gdP_t <| And.intro @gdP_f <| And.intro @gdP_undef <| And.intro @bifP_true <| And.intro @bifP_false <| And.intro @wpC_bool <| And.intro @kS_norm <| And.intro @kS_exit <| And.intro @kS_ret <|
 And.intro @kB_norm <| And.intro @kB_ret <| And.intro @kB_exit <| And.intro @kL_norm <| And.intro @kL_exit <| And.intro @kL_ret <| And.intro @fnQ_norm <| And.intro @fnQ_ret <| And.intro @endP_nil <| And.intro @resP_nil <| And.intro @resP_tm <|
 And.intro @oneOrTup_one <| And.intro @tat_tset <| And.intro @ofArgs_1 <| And.intro @ofArgs_2 <| And.intro @ofArgs_3 <| And.intro @ofArgs_4 <| And.intro @wp_skip <| And.intro @wp_ops <| And.intro @wp_quiet <| And.intro @wp_feet <| And.intro @wp_seq <| And.intro @wp_cond <| And.intro @wp_blk <| And.intro @wp_loop <| And.intro @wp_exit <| And.intro @wp_ret <| And.intro @ofArgs_nil <| And.intro @tat_nil <| And.intro @get_t <| And.intro @get_k <| And.intro @gets_nil <| And.intro @gets_cons <| And.intro @sat_val <| And.intro @sat_upd <| And.intro @orV_some <|
 And.intro @bin_add <| And.intro @bin_sub <| And.intro @bin_mul <| And.intro @bin_eql <| And.intro @bin_neq <| And.intro @bin_lss <| And.intro @bin_gtr <| And.intro @bin_leq <| And.intro @bin_geq <| And.intro @not_bool <| And.intro @conv_int <| And.intro @pick_t <| And.intro @pick_f <|
 And.intro @mx_int <| And.intro @mn_int <| And.intro @fad_hptr <| And.intro @load_hptr' <| And.intro @hptrLoad_cells <| And.intro @store_hptr' <| And.intro @part_one <| And.intro @load_rptr <| And.intro @fad_rptr <| And.intro @ixs_nat <|
 And.intro @nth_0 <| And.intro @nth_1 <| And.intro @nth_2 <| And.intro @nth_3 <| And.intro @nth_4 <| And.intro @nth_5 <| And.intro @nth_6 <| And.intro @nth_7 <| And.intro @nth_8 <| And.intro @G.put_h <| And.intro @G.put_nx <| And.intro @G.new_h <| And.intro @G.new_nx <| And.intro @get_put_eq <| And.intro @empty_nx <| @empty_h
def St (t:T):List (Nat×AV)→Prop
 | []=>True
 | (n,v)::r=>tat t n=v∧St t r
abbrev VS:=(Nat→Prop)→Nat→H→AV→Prop
def One {α:Type} [Rp α](x:α):VS:=fun P k h v=>Rp.rp P k h x [v]
def Agg {α:Type} [Rp α](x:α):VS:=fun P k h v=>∃cs,v=.agg cs∧Rp.rp P k h x cs
def Tup2 (S R:VS):VS:=fun P k h v=>∃a b,v=.tup [a,b]∧S P k h a∧R P k h b
structure Snb (S:VS) (j:Nat):Prop where
 snap:∀{P k h v n} (d:Nat),S P k h v→20+j≤n→∃v',Hx.snap h d n v=some v'∧S NoP (max k d) .nil v'
 tag:∀{k h v n},S NoP k h v→20+j≤n→∃m,tagO n v=some m∧m≤k
theorem snb_one {α:Type} [Rp α](x:α)(hd:Rp.dp α≤20:=by decide):Snb (One x) 0:=by
 refine ⟨fun {P k h v n} d r hn=>?_,fun {k h v n} r hn=>?_⟩
 ·obtain ⟨cs',e,r'⟩:=Rp.snap (n:=n) d r (by omega) (by show _≤24;omega)
  simp only[mapO] at e
  split at e
  ·rename_i w hw
   injection e with e;subst e
   exact ⟨w,hw,r'⟩
  ·cases e
 ·obtain ⟨m,e,l⟩:=Rp.tag (n:=n) r (by omega)
  simp only[maxO] at e
  split at e
  ·rename_i w hw
   injection e with e;subst e
   exact ⟨w,hw,by have:Nat.max w 0=w:=Nat.max_eq_left (Nat.zero_le w);omega⟩
  ·cases e
theorem snb_agg {α:Type} [Rp α](x:α)(hd:Rp.dp α≤20:=by decide):Snb (Agg x) 1:=by
 refine ⟨fun {P k h v n} d r hn=>?_,fun {k h v n} r hn=>?_⟩
 ·obtain ⟨cs,rfl,r⟩:=r
  obtain ⟨n,rfl⟩:∃m,n=m+1:=⟨n - 1,by omega⟩
  obtain ⟨cs',e,r'⟩:=Rp.snap (n:=n) d r (by omega) (by show _≤24;omega)
  exact ⟨.agg cs',by simp only[Hx.snap,e],cs',rfl,r'⟩
 ·obtain ⟨cs,rfl,r⟩:=r
  obtain ⟨n,rfl⟩:∃m,n=m+1:=⟨n - 1,by omega⟩
  obtain ⟨m,e,l⟩:=Rp.tag (n:=n) r (by omega)
  exact ⟨m,by simp only[tagO,e],l⟩
theorem snb_tup2 {S R:VS}{i j m:Nat}(hs:Snb S i)(hr:Snb R j)(hi:i+1≤m)(hj:j+1≤m):Snb (Tup2 S R) m:=by
 refine ⟨fun {P k h v n} d r hn=>?_,fun {k h v n} r hn=>?_⟩
 ·obtain ⟨a,b,rfl,r1,r2⟩:=r
  obtain ⟨n,rfl⟩:∃m,n=m+1:=⟨n - 1,by omega⟩
  obtain ⟨a',e1,r1'⟩:=hs.snap (n:=n) d r1 (by omega)
  obtain ⟨b',e2,r2'⟩:=hr.snap (n:=n) d r2 (by omega)
  exact ⟨.tup [a',b'],by simp only[Hx.snap,mapO,e1,e2],a',b',rfl,r1',r2'⟩
 ·obtain ⟨a,b,rfl,r1,r2⟩:=r
  obtain ⟨n,rfl⟩:∃m,n=m+1:=⟨n - 1,by omega⟩
  obtain ⟨m1,e1,l1⟩:=hs.tag (n:=n) r1 (by omega)
  obtain ⟨m2,e2,l2⟩:=hr.tag (n:=n) r2 (by omega)
  refine ⟨max m1 m2,?_,by omega⟩
  simp only[tagO,maxO,e1,e2]
  congr 1
  show max m1 (max m2 0)=_
  omega
def Arg (S:VS)(k d:Nat)(h:H)(v v':AV):Prop:=Hx.snap h d depthA v=some v'∧S NoP k .nil v'
theorem arg_of {S:VS}{j:Nat}(hs:Snb S j)(hj:j≤4){P:Nat→Prop}{k:Nat}{h:H}{v:AV}(d:Nat)(r:S P k h v):∃v',Arg S (max k d) d h v v':=by
 obtain ⟨v',e,r'⟩:=hs.snap (n:=depthA) d r (by show _≤24;omega)
 exact ⟨v',e,r'⟩
theorem agg_same {α:Type} [Rp α]{x:α}{k:Nat}{h:H}{v:AV}(d:Nat)(r:Agg x NoP k h v)(hd:Rp.dp α≤20:=by decide):Hx.snap h d depthA v=some v:=by
 obtain ⟨cs,rfl,r⟩:=r
 show (match mapO (Hx.snap h d 23) cs with | some as=>some (AV.agg as) | none=>none)=_
 rw[Rp.same (n:=23) d r (by omega)]
theorem sl_same {α:Type} [Rp α]{l:List α}{k:Nat}{h:H}{v:AV}(d:Nat)(r:SlR NoP k h l v):Hx.snap h d depthA v=some v:=by
 have r:=r.2
 unfold SlV at r
 split at r<;>first | rfl | exact r.1.elim | exact r.elim
theorem arg_int (k d:Nat)(h:H)(q:IntKind)(x:Int):Hx.snap h d depthA (.int q x)=some (.int q x):=rfl
theorem arg_ints {h:H}{v:AV}(hv:isInts h v)(hl:(ints h v).length<9223372036854775808)(d:Nat) :
  ∃v',Hx.snap h d depthA v=some v'∧(∀h',rowsOf h' 1 v'=some ((ints h v).map ci))∧∀g,lenF .slice v' g=.val (.int .i64 ((ints h v).length:Int)):=by
 suffices hs:∃v',Hx.snap h d depthA v=some v'∧(∀h',rowsOf h' 1 v'=some ((ints h v).map ci)) by
  obtain ⟨v',e,hr⟩:=hs
  exact ⟨v',e,hr,fun g=>by rw[len_rows' (hr .nil),List.length_map]⟩
 obtain ⟨k,r⟩:∃k,SlV (fun _=>True) k h (ints h v) v:=by
  have e:=hv
  unfold isInts at e
  have all:∀P k h',All2 (Rp.rp P k h') (ints h v) ((ints h v).map ci):=fun P k h'=>All2.of_map (fun a=>rp_int.2 rfl) _
  cases v with
  | nils=>exact ⟨0,by simp only[rowsOf] at e;injection e with e;exact (List.map_eq_nil_iff.1 e.symm)⟩
  | esl=>exact ⟨0,by simp only[rowsOf] at e;injection e with e;exact (List.map_eq_nil_iff.1 e.symm)⟩
  | tsl t s rows =>
   refine ⟨t,Nat.le_refl t,?_,?_⟩
   ·simp only[rowsOf,bif'_eq] at e
    split at e
    ·rename_i hc
     rw[Bool.or_eq_true] at hc
     rcases hc with hc | hc
     ·exact .inl (Nat.eq_of_beq_eq_true hc).symm
     ·exact .inr (List.isEmpty_iff.1 hc)
    ·cases e
   ·simp only[rowsOf,bif'_eq] at e
    split at e
    ·injection e with e;exact cast (congrArg _ e.symm) (all NoP t .nil)
    ·cases e
  | hsl id ep off len lim=>exact ⟨0,trivial,_,e,all _ _ _⟩
  | _=>simp[rowsOf] at e
 obtain ⟨v',e,r'⟩:=(snb_one (ints h v)).snap (n:=depthA) d (show One (ints h v) _ k h v from ⟨v,rfl,hl,r⟩) (by decide)
 refine ⟨v',e,fun h'=>?_⟩
 obtain ⟨w,hw,r'⟩:=r'
 injection hw with hw;subst hw
 have:SlR (fun _=>True) (max k d) h' (ints h v) v':=by
  have:=(Rp.mono (P':=fun _=>True) (k':=max k d) (h':=h') (show Rp.rp NoP (max k d) .nil (ints h v) [v'] from ⟨v',rfl,r'⟩) (fun i hi=>hi.elim) (Nat.le_refl _))
  obtain ⟨w,hw,q⟩:=this
  injection hw with hw;subst hw;exact q
 exact this.ints
abbrev IT (k:Nat)(l:List Int)(r:AV):Prop:=One l NoP k .nil r
theorem IT.sl {k:Nat}{l:List Int}{r:AV}(h:IT k l r)(h':H):SlR NoP k h' l r:=by
 obtain ⟨w,hw,q⟩:=Rp.tree (P:=NoP) (k':=k) (h':=h') h (Nat.le_refl _)
 injection hw with hw;subst hw;exact q
theorem IT.rows {k:Nat}{l:List Int}{r:AV}(h:IT k l r)(h':H):rowsOf h' 1 r=some (l.map ci):=(h.sl h').ints
theorem IT.lt {k:Nat}{l:List Int}{r:AV}(h:IT k l r):l.length<9223372036854775808:=(h.sl .nil).1
theorem IT.len {k:Nat}{l:List Int}{r:AV}(h:IT k l r)(g:G):lenF .slice r g=.val (.int .i64 (l.length:Int)):=by rw[len_rows' (h.rows .nil),List.length_map]
theorem SlR.cell {α:Type} [Rp α]{P:Nat→Prop}{k:Nat}{h:H}{l:List α}{v:AV}(r:SlR P k h l v):v.cells=[v]∧v.isTup=false:=by
 have r:=r.2
 unfold SlV at r
 split at r<;>first | exact ⟨rfl,rfl⟩ | exact r.elim
theorem IT.cells {k:Nat}{l:List Int}{r:AV}(h:IT k l r):r.cells=[r]:=(h.sl .nil).cell.1
theorem IT.tup {k:Nat}{l:List Int}{r:AV}(h:IT k l r):r.isTup=false:=(h.sl .nil).cell.2
section iso
variable {C:Cfg}{f d:Nat}{s:SF}{g:G}{args xs:List AV}
theorem iso_run (hf:nFn C f=some s)(hs:mapO (snap g.h d depthA) args=some xs)(hl:xs.length≤s.nt){R:VS}{j:Nat}(hR:Snb R j)(hj:j≤4){k':Nat}(hk:k'<d)
  (h:wp C (d+1) none s.code (fnQ C (d+1) s.res fun v g'=>∃P,R P k' g'.h v) (ofArgs 0 xs .nil) [] G.empty):∃r,isoCall (I C) d g f args=.val r∧R NoP k' .nil r:=by
 have h:=call_ok hf hl h
 unfold isoCall
 rw[hs]
 dsimp only
 cases hc:(I C).call (Nat.succ d) f xs G.empty with
 | fail=>rw[show (I C).call (d+1) f xs G.empty=.fail from hc] at h;exact h.elim
 | ok v g' =>
  rw[show (I C).call (d+1) f xs G.empty=.ok v g' from hc] at h
  obtain ⟨P,h⟩:=h
  obtain ⟨r,e,hr⟩:=hR.snap (n:=depthA) 0 h (by show _≤24;omega)
  rw[Nat.max_eq_left (Nat.zero_le k')] at hr
  obtain ⟨m,em,lm⟩:=hR.tag (n:=depthA) hr (by show _≤24;omega)
  refine ⟨r,?_,hr⟩
  simp only[e,em,bif'_eq,Nat.blt_eq]
  rw[if_pos (by omega)]
theorem dir_run (hf:nFn C f=some s)(hl:xs.length≤s.nt){K:AV→G→Prop}{D:ADf→Prop}(h:wp C d none s.code (fnQ C d s.res K) (ofArgs 0 xs .nil) [] g):(orF ((I C).call d f xs g)).sat K g D:=by
 have h:=call_ok hf hl h
 cases hc:(I C).call d f xs g with
 | fail=>rw[hc] at h;exact h.elim
 | ok v g'=>rw[hc] at h;exact h
theorem iso_int (hf:nFn C f=some s)(hs:mapO (snap g.h d depthA) args=some xs)(hl:xs.length≤s.nt){q:IntKind}{x:Int}(hk:0<d)
  (h:wp C (d+1) none s.code (fnQ C (d+1) s.res fun v _=>v=.int q x) (ofArgs 0 xs .nil) [] G.empty):isoCall (I C) d g f args=.val (.int q x):=by
 have h:=call_ok hf hl h
 unfold isoCall
 rw[hs]
 dsimp only
 cases hc:(I C).call (Nat.succ d) f xs G.empty with
 | fail=>rw[show (I C).call (d+1) f xs G.empty=.fail from hc] at h;exact h.elim
 | ok v g' =>
  rw[show (I C).call (d+1) f xs G.empty=.ok v g' from hc] at h
  have h:v=.int q x:=h
  subst h
  show (match tagO depthA (.int q x) with | none=>OR.fail | some m=>bif' (Nat.blt m d) (.val (.int q x)) _)=_
  rw[show tagO depthA (.int q x)=some 0 from rfl]
  simp only[bif'_eq,Nat.blt_eq]
  rw[if_pos hk]
theorem iso_bool (hf:nFn C f=some s)(hs:mapO (snap g.h d depthA) args=some xs)(hl:xs.length≤s.nt){x:Bool}(hk:0<d)
  (h:wp C (d+1) none s.code (fnQ C (d+1) s.res fun v _=>v=.bool x) (ofArgs 0 xs .nil) [] G.empty):isoCall (I C) d g f args=.val (.bool x):=by
 have h:=call_ok hf hl h
 unfold isoCall
 rw[hs]
 dsimp only
 cases hc:(I C).call (Nat.succ d) f xs G.empty with
 | fail=>rw[show (I C).call (d+1) f xs G.empty=.fail from hc] at h;exact h.elim
 | ok v g' =>
  rw[show (I C).call (d+1) f xs G.empty=.ok v g' from hc] at h
  have h:v=.bool x:=h
  subst h
  show (match tagO depthA (.bool x) with | none=>OR.fail | some m=>bif' (Nat.blt m d) (.val (.bool x)) _)=_
  rw[show tagO depthA (.bool x)=some 0 from rfl]
  simp only[bif'_eq,Nat.blt_eq]
  rw[if_pos hk]
end iso
end
end Hx
end
section
namespace Hx
open Go
noncomputable section
def kR (J:PT)(b:Nat)(Q:QT):QT:=fun e t df g=>match e with
 | .norm=>J t df g
 | .exit x=>if x=b then J t df g else Q (.exit x) t df g
 | .ret=>Q .ret t df g
theorem kR_norm (J:PT)(b:Nat)(Q:QT)(t:T)(df:List ADf)(g:G):kR J b Q .norm t df g=J t df g:=rfl
theorem kR_exit (J:PT)(b x:Nat)(Q:QT)(t:T)(df:List ADf)(g:G):kR J b Q (.exit x) t df g=if x=b then J t df g else Q (.exit x) t df g:=rfl
theorem kR_ret (J:PT)(b:Nat)(Q:QT)(t:T)(df:List ADf)(g:G):kR J b Q .ret t df g=Q .ret t df g:=rfl
variable {C:Cfg}{d:Nat}{rd:Option Nat}
theorem wp_mono:∀(s:SC){Q Q':QT}{t:T}{df:List ADf}{g:G},wp C d rd s Q t df g→(∀e t df g,Q e t df g→Q' e t df g)→wp C d rd s Q' t df g:=by
 have hO:∀(l:List SI) {Q Q':PT} {t:T} {df:List ADf} {g:G},wpO C d rd l Q t df g→(∀t df g,Q t df g→Q' t df g)→wpO C d rd l Q' t df g:=by
  intro l
  induction l with
  | nil=>intro Q Q' t df g h hq;exact hq _ _ _ h
  | cons i r ih =>
   intro Q Q' t df g h hq
   have run:∀t df g,runP C d rd i (wpO C d rd r Q) t df g→runP C d rd i (wpO C d rd r Q') t df g:=fun t df g h =>
    OR.sat_mono h (fun v g' h=>ih h hq) (fun a h=>ih h hq)
   have skp:∀t df g,skipP i (wpO C d rd r Q) t df g→skipP i (wpO C d rd r Q') t df g:=fun t df g h=>ih h hq
   unfold wpO at h ⊢
   split at h
   ·exact run _ _ _ h
   ·rename_i s w hg
    unfold gdP at h ⊢
    split at h
    ·rw[bif'_eq] at h ⊢
     split at h
     ·rename_i hw;rw[if_pos hw];exact ⟨fun q=>run _ _ _ (h.1 q),fun q=>skp _ _ _ (h.2 q)⟩
     ·rename_i hw;rw[if_neg hw];exact ⟨fun q=>skp _ _ _ (h.1 q),fun q=>run _ _ _ (h.2 q)⟩
    ·exact skp _ _ _ h
    ·exact h
 have hF:∀(pm:List Nat) (l:List SI) {Q Q':PT} {t:T} {df:List ADf} {g:G} {fs:List Foot},wpF C d rd pm l Q t df g fs→(∀t df g,Q t df g→Q' t df g)→wpF C d rd pm l Q' t df g fs:=by
  intro pm l
  induction l with
  | nil=>intro Q Q' t df g fs h hq;exact ⟨h.1,hq _ _ _ h.2⟩
  | cons i r ih =>
   intro Q Q' t df g fs h hq
   have run:∀t df g,runF C d rd i (wpF C d rd pm r Q) fs t df g→runF C d rd i (wpF C d rd pm r Q') fs t df g:=fun t df g h =>
    OR.sat_mono h (fun v g' h=>ih h hq) (fun a h=>h)
   have skp:∀t df g,skipF i (wpF C d rd pm r Q) fs t df g→skipF i (wpF C d rd pm r Q') fs t df g:=fun t df g h=>ih h hq
   unfold wpF at h ⊢
   split at h
   ·exact run _ _ _ h
   ·rename_i s w hg
    unfold gdP at h ⊢
    split at h
    ·rw[bif'_eq] at h ⊢
     split at h
     ·rename_i hw;rw[if_pos hw];exact ⟨fun q=>run _ _ _ (h.1 q),fun q=>skp _ _ _ (h.2 q)⟩
     ·rename_i hw;rw[if_neg hw];exact ⟨fun q=>skp _ _ _ (h.1 q),fun q=>run _ _ _ (h.2 q)⟩
    ·exact skp _ _ _ h
    ·exact h
 intro s
 induction s with
 | skip=>intro Q Q' t df g h hq;exact hq _ _ _ _ h
 | ops l=>intro Q Q' t df g h hq;exact hO l h (hq _)
 | quiet l=>intro Q Q' t df g h hq;exact hO l h (fun t df g' h=>⟨h.1,h.2.1,hq _ _ _ _ h.2.2⟩)
 | feet pm l=>intro Q Q' t df g h hq;exact hF pm l h (hq _)
 | seq a b iha ihb =>
  intro Q Q' t df g h hq
  refine iha h fun e t df g h=>?_
  cases e with
  | norm=>exact ihb h hq
  | exit x=>exact hq _ _ _ _ h
  | ret=>exact hq _ _ _ _ h
 | cond c a b iha ihb =>
  intro Q Q' t df g h hq
  have h:wpC (c.get t) (wp C d rd a Q) (wp C d rd b Q) t df g:=h
  show wpC (c.get t) (wp C d rd a Q') (wp C d rd b Q') t df g
  unfold wpC at h ⊢
  split at h
  ·exact ⟨fun q=>iha (h.1 q) hq,fun q=>ihb (h.2 q) hq⟩
  ·exact h
 | blk id b ih =>
  intro Q Q' t df g h hq
  refine ih h fun e t df g h=>?_
  cases e with
  | norm=>exact hq _ _ _ _ h
  | exit x =>
   rw[kB_exit] at h ⊢
   split at h
   ·rename_i e;rw[if_pos e];exact hq _ _ _ _ h
   ·rename_i e;rw[if_neg e];exact hq _ _ _ _ h
  | ret=>exact hq _ _ _ _ h
 | loop b ih =>
  intro Q Q' t df g h hq
  obtain ⟨Inv,hk,hs⟩:=h
  refine ⟨Inv,hk,fun k t df g hi=>ih (hs k t df g hi) fun e t df g h=>?_⟩
  cases e with
  | norm=>exact h
  | exit x=>exact hq _ _ _ _ h
  | ret=>exact hq _ _ _ _ h
 | exit id=>intro Q Q' t df g h hq;exact hq _ _ _ _ h
 | ret=>intro Q Q' t df g h hq;exact hq _ _ _ _ h
 | rng nt f ps a b _ _=>intro Q Q' t df g h hq assign body ha hb;exact CR.sat_mono (h assign body ha hb) hq
 | raw nt c=>intro Q Q' t df g h hq;exact CR.sat_mono h hq
theorem wpL_range {body:SC}{c ti tn k B b:Nat}{Q:QT}{m:Nat}(hm:m<9223372036854775808)(J:Nat→PT){t:T}{df:List ADf}{g:G}
  (h0:J 0 t df g) (hi:tat t ti=.int .i64 0) (hn:tat t tn=.int .i64 (m:Int)) (hc:c≠ti∧c≠tn∧k≠tn∧ti≠tn∧b≠B)
  (hJ:∀j t df g v s,s=c∨s=ti∨s=k→J j t df g→J j (tset t s v) df g)
  (step:∀j t df g,j<m→J j t df g→tat t ti=.int .i64 (j:Int)→tat t tn=.int .i64 (m:Int) →
   wp C d rd body (kR (fun t df g=>J (j+1) t df g∧tat t ti=.int .i64 (j:Int)∧tat t tn=.int .i64 (m:Int)) b Q) t df g)
  (fin:∀t df g,J m t df g→Q (.exit B) t df g) :
  wpL (wp C d rd (.seq (.ops [o c (.bin .lss (.t ti) (.t tn))]) (.seq (.cond (.t c) .skip (.exit B)) (.seq (.blk b body) (.ops [o k (.bin .add (.t ti) (.k (.int .i64 1))),o ti (.mv (.t k))]))))) Q t df g:=by
 obtain ⟨c1,c2,c3,c4,c5⟩:=hc
 refine wpL_mk (fun n t df g=>∃j:Nat,n=m - j∧j≤m∧J j t df g∧tat t ti=.int .i64 (j:Int)∧tat t tn=.int .i64 (m:Int)) m ⟨0,by omega,by omega,h0,hi,hn⟩ ?_
 rintro n t df g ⟨j,rfl,hj,hjj,h1,h2⟩
 simp only[sx,SO.run,↓reduceIte,h1,h2]
 refine ⟨fun hq=>?_,fun hq=>?_⟩
 ·have hlt:j<m:=by simpa using hq
  simp only[sx]
  refine wp_mono _ (step j _ df g hlt (hJ _ _ _ _ _ _ (.inl rfl) hjj) (by simp only[tat_tset];rw[if_neg (Ne.symm c1),h1]) (by simp only[tat_tset];rw[if_neg (Ne.symm c2),h2])) fun e t df g h=>?_
  have key:J (j+1) t df g∧tat t ti=.int .i64 (j:Int)∧tat t tn=.int .i64 (m:Int)→wp C d rd (.ops [o k (.bin .add (.t ti) (.k (.int .i64 1))),o ti (.mv (.t k))])
    (kL (fun n t df g=>∃j:Nat,n=m - j∧j≤m∧J j t df g∧tat t ti=.int .i64 (j:Int)∧tat t tn=.int .i64 (m:Int)) (m - j) Q) t df g:=by
   rintro ⟨a1,a2,a3⟩
   simp only[sx,SO.run,a2,↓reduceIte]
   refine ⟨_,?_,j+1,rfl,by omega,hJ _ _ _ _ _ _ (.inr (.inl rfl)) (hJ _ _ _ _ _ _ (.inr (.inr rfl)) a1),?_,?_⟩
   ·omega
   ·rw[wrap64 (by omega) (by omega)];rfl
   ·rw[if_neg (Ne.symm c4),if_neg (Ne.symm c3),a3]
  cases e with
  | norm=>exact key h
  | ret=>exact h
  | exit x =>
   rw[kR_exit] at h
   rw[kB_exit]
   split at h
   ·rename_i e;rw[if_pos e];exact key h
   ·rename_i e;rw[if_neg e];exact h
 ·have:j=m:=by simp at hq;omega
  subst this
  simp only[sx]
  exact fin _ _ _ (hJ _ _ _ _ _ _ (.inl rfl) hjj)
theorem wpL_for {Hd body inc:SC}{c B b:Nat}{Q:QT}{m:Nat}(J:Nat→PT){t:T}{df:List ADf}{g:G}(h0:J 0 t df g)
  (hd:∀j t df g,j≤m→J j t df g→wp C d rd Hd (fun e t df g=>e=.norm∧tat t c=.bool (decide (j<m))∧J j t df g) t df g)
  (step:∀j t df g,j<m→J j t df g→wp C d rd body (kR (fun t df g=>wp C d rd inc (fun e t df g=>e=.norm∧J (j+1) t df g) t df g) b Q) t df g)
  (fin:∀t df g,J m t df g→Q (.exit B) t df g) :
  wpL (wp C d rd (.seq (.seq Hd (.cond (.t c) .skip (.exit B))) (.seq (.blk b body) inc))) Q t df g:=by
 refine wpL_mk (fun n t df g=>∃j:Nat,n=m - j∧j≤m∧J j t df g) m ⟨0,by omega,by omega,h0⟩ ?_
 rintro n t df g ⟨j,rfl,hj,hjj⟩
 simp only[wp_seq]
 refine wp_mono _ (hd j t df g hj hjj) ?_
 rintro e t df g ⟨rfl,hq,hjj⟩
 simp only[sx,hq]
 refine ⟨fun hq=>?_,fun hq=>?_⟩
 ·have hlt:j<m:=by simpa using hq
  simp only[sx]
  refine wp_mono _ (step j t df g hlt hjj) fun e t df g h=>?_
  have key:wp C d rd inc (fun e t df g=>e=.norm∧J (j+1) t df g) t df g→wp C d rd inc (kL (fun n t df g=>∃j:Nat,n=m - j∧j≤m∧J j t df g) (m - j) Q) t df g:=by
   intro h
   refine wp_mono _ h ?_
   rintro e t df g ⟨rfl,h⟩
   exact ⟨_,by omega,j+1,rfl,by omega,h⟩
  cases e with
  | norm=>exact key h
  | ret=>exact h
  | exit x =>
   rw[kR_exit] at h
   rw[kB_exit]
   split at h
   ·rename_i e;rw[if_pos e];exact key h
   ·rename_i e;rw[if_neg e];exact h
 ·have:j=m:=by simp at hq;omega
  subst this
  simp only[sx]
  exact fin _ _ _ hjj
theorem wpL_len {body:SC}{a b' e c ti sl x y B b:Nat}{Q:QT}{v:AV}{m:Nat}(hm:m<9223372036854775808)(hlen:∀g,lenF .slice v g=.val (.int .i64 (m:Int)))(J:Nat→PT){t:T}{df:List ADf}{g:G}
  (h0:J 0 t df g) (hi:tat t ti=.int .i64 0) (hs:tat t sl=v)
  (hc:(a≠ti∧b'≠ti∧e≠ti∧c≠ti)∧(a≠sl∧b'≠sl∧e≠sl∧c≠sl∧x≠sl∧y≠sl∧ti≠sl)∧a≠b'∧a≠e∧x≠y)
  (hJ:∀j t df g v s,s=a∨s=b'∨s=e∨s=c∨s=ti∨s=x∨s=y→J j t df g→J j (tset t s v) df g)
  (step:∀j t df g,j<m→J j t df g→tat t ti=.int .i64 (j:Int)→tat t sl=v →
   wp C d rd body (kR (fun t df g=>J (j+1) t df g∧tat t ti=.int .i64 (j:Int)∧tat t sl=v) b Q) t df g)
  (fin:∀t df g,J m t df g→tat t sl=v→Q (.exit B) t df g) :
  wpL (wp C d rd (.seq (.seq (.ops [o a (.mv (.t ti)),o b' (.mv (.t sl)),o e (.len .slice (.t b')),o c (.bin .lss (.t a) (.t e))]) (.cond (.t c) .skip (.exit B))) (.seq (.blk b body)
   (.ops [o x (.mv (.t ti)),o y (.bin .add (.t x) (.k (.int .i64 1))),o ti (.mv (.t y))])))) Q t df g:=by
 obtain ⟨⟨q1,q2,q3,q4⟩,⟨r1,r2,r3,r4,r5,r6,r7⟩,p1,p2,p3⟩:=hc
 refine wpL_for (m:=m) (fun j t df g=>J j t df g∧tat t ti=.int .i64 (j:Int)∧tat t sl=v) ⟨h0,hi,hs⟩ ?_ ?_ (fun t df g h=>fin t df g h.1 h.2.2)
 ·rintro j t df g hj ⟨h1,h2,h3⟩
  simp only[sx,SO.run,h2,h3,hlen,p1,p2,Ne.symm r1,Ne.symm p1,↓reduceIte,q1,q2,q3,q4,Ne.symm q1,Ne.symm q2,Ne.symm q3,Ne.symm q4,Ne.symm r2,Ne.symm r3,Ne.symm r4,true_and,and_true]
  refine ⟨by congr 1;simp,hJ _ _ _ _ _ _ (.inr (.inr (.inr (.inl rfl)))) (hJ _ _ _ _ _ _ (.inr (.inr (.inl rfl))) (hJ _ _ _ _ _ _ (.inr (.inl rfl)) (hJ _ _ _ _ _ _ (.inl rfl) h1)))⟩
 ·rintro j t df g hj ⟨h1,h2,h3⟩
  refine wp_mono _ (step j t df g hj h1 h2 h3) fun e t df g h=>?_
  have key:J (j+1) t df g∧tat t ti=.int .i64 (j:Int)∧tat t sl=v→wp C d rd (.ops [o x (.mv (.t ti)),o y (.bin .add (.t x) (.k (.int .i64 1))),o ti (.mv (.t y))])
    (fun e t df g=>e=.norm∧J (j+1) t df g∧tat t ti=.int .i64 ((j+1:Nat):Int)∧tat t sl=v) t df g:=by
   rintro ⟨h1,h2,h3⟩
   simp only[sx,SO.run,h2,↓reduceIte,Ne.symm r5,Ne.symm r6,Ne.symm r7,h3,true_and,and_true]
   refine ⟨hJ _ _ _ _ _ _ (.inr (.inr (.inr (.inr (.inl rfl))))) (hJ _ _ _ _ _ _ (.inr (.inr (.inr (.inr (.inr (.inr rfl)))))) (hJ _ _ _ _ _ _ (.inr (.inr (.inr (.inr (.inr (.inl rfl)))))) h1)),?_⟩
   rw[wrap64 (by omega) (by omega)];rfl
  cases e with
  | norm=>exact key h
  | ret=>exact h
  | exit x =>
   rw[kR_exit] at h ⊢
   split at h
   ·rename_i e;rw[if_pos e];exact key h
   ·rename_i e;rw[if_neg e];exact h
theorem wpL_down {body:SC}{a c ti x y B b:Nat}{Q:QT}{m:Nat}(hm:m<9223372036854775808)(J:Nat→PT){t:T}{df:List ADf}{g:G}
  (h0:J m t df g) (hi:tat t ti=.int .i64 ((m:Int) - 1)) (hc:a≠ti∧c≠ti∧x≠ti)
  (hJ:∀j t df g v s,s=a∨s=c∨s=ti∨s=x∨s=y→J j t df g→J j (tset t s v) df g)
  (step:∀j t df g,j<m→J (j+1) t df g→tat t ti=.int .i64 (j:Int)→wp C d rd body (kR (fun t df g=>J j t df g∧tat t ti=.int .i64 (j:Int)) b Q) t df g)
  (fin:∀t df g,J 0 t df g→Q (.exit B) t df g) :
  wpL (wp C d rd (.seq (.seq (.ops [o a (.mv (.t ti)),o c (.bin .geq (.t a) (.k (.int .i64 0)))]) (.cond (.t c) .skip (.exit B))) (.seq (.blk b body)
   (.ops [o x (.mv (.t ti)),o y (.bin .sub (.t x) (.k (.int .i64 1))),o ti (.mv (.t y))])))) Q t df g:=by
 obtain ⟨c1,c2,c3⟩:=hc
 refine wpL_mk (fun n t df g=>n≤m∧J n t df g∧tat t ti=.int .i64 ((n:Int) - 1)) m ⟨Nat.le_refl _,h0,hi⟩ ?_
 rintro n t df g ⟨hn,hj,h1⟩
 simp only[sx,SO.run,↓reduceIte,h1]
 refine ⟨fun hq=>?_,fun hq=>?_⟩
 ·obtain ⟨j,rfl⟩:∃j,n=j+1:=⟨n - 1,by simp at hq;omega⟩
  simp only[sx]
  refine wp_mono _ (step j _ df g (by omega) (hJ _ _ _ _ _ _ (.inr (.inl rfl)) (hJ _ _ _ _ _ _ (.inl rfl) hj)) (by simp only[tat_tset];rw[if_neg (Ne.symm c2),if_neg (Ne.symm c1),h1];congr 1;omega)) fun e t df g h=>?_
  have key:J j t df g∧tat t ti=.int .i64 (j:Int)→wp C d rd (.ops [o x (.mv (.t ti)),o y (.bin .sub (.t x) (.k (.int .i64 1))),o ti (.mv (.t y))])
    (kL (fun n t df g=>n≤m∧J n t df g∧tat t ti=.int .i64 ((n:Int) - 1)) (j+1) Q) t df g:=by
   rintro ⟨a1,a2⟩
   simp only[sx,SO.run,a2,↓reduceIte]
   refine ⟨j,by omega,by omega,hJ _ _ _ _ _ _ (.inr (.inr (.inl rfl))) (hJ _ _ _ _ _ _ (.inr (.inr (.inr (.inr rfl)))) (hJ _ _ _ _ _ _ (.inr (.inr (.inr (.inl rfl)))) a1)),?_⟩
   rw[wrap64 (by omega) (by omega)]
  cases e with
  | norm=>exact key h
  | ret=>exact h
  | exit x =>
   rw[kR_exit] at h
   rw[kB_exit]
   split at h
   ·rename_i e;rw[if_pos e];exact key h
   ·rename_i e;rw[if_neg e];exact h
 ·have:n=0:=by simp at hq;omega
  subst this
  simp only[sx]
  exact fin _ _ _ (hJ _ _ _ _ _ _ (.inr (.inl rfl)) (hJ _ _ _ _ _ _ (.inl rfl) hj))
theorem wpL_cnt {Hd:List SI}{body:SC}{c ti x y B b:Nat}{Q:QT}(m:Nat)(hm:m<9223372036854775808)(J:Nat→PT){t:T}{df:List ADf}{g:G}
  (h0:J 0 t df g) (hi:tat t ti=.int .i64 0) (hx:x≠ti)
  (hJ:∀j t df g v s,s=ti∨s=x∨s=y→J j t df g→J j (tset t s v) df g)
  (hd:∀j t df g,j≤m→J j t df g→tat t ti=.int .i64 (j:Int)→wpO C d rd Hd (fun t df g=>tat t c=.bool (decide ((j:Int)<(m:Int)))∧J j t df g∧tat t ti=.int .i64 (j:Int)) t df g)
  (step:∀j t df g,j<m→J j t df g→tat t ti=.int .i64 (j:Int)→wp C d rd body (kR (fun t df g=>J (j+1) t df g∧tat t ti=.int .i64 (j:Int)) b Q) t df g)
  (fin:∀t df g,J m t df g→Q (.exit B) t df g) :
  wpL (wp C d rd (.seq (.seq (.ops Hd) (.cond (.t c) .skip (.exit B))) (.seq (.blk b body)
   (.ops [o x (.mv (.t ti)),o y (.bin .add (.t x) (.k (.int .i64 1))),o ti (.mv (.t y))])))) Q t df g:=by
 refine wpL_for (m:=m) (fun j t df g=>J j t df g∧tat t ti=.int .i64 (j:Int)) ⟨h0,hi⟩ ?_ ?_ (fun t df g h=>fin t df g h.1)
 ·rintro j t df g hj ⟨h1,h2⟩
  have:=hd j t df g hj h1 h2
  refine wp_mono (.ops Hd) (Q:=fun e t df g=>e=.norm∧tat t c=.bool (decide ((j:Int)<(m:Int)))∧J j t df g∧tat t ti=.int .i64 (j:Int)) (by rw[wp_ops];simpa using this) ?_
  rintro e t df g ⟨rfl,a1,a2,a3⟩
  refine ⟨rfl,?_,a2,a3⟩
  rw[a1];congr 1;simp
 ·rintro j t df g hj ⟨h1,h2⟩
  refine wp_mono _ (step j t df g hj h1 h2) fun e t df g h=>?_
  have key:J (j+1) t df g∧tat t ti=.int .i64 (j:Int)→wp C d rd (.ops [o x (.mv (.t ti)),o y (.bin .add (.t x) (.k (.int .i64 1))),o ti (.mv (.t y))])
    (fun e t df g=>e=.norm∧J (j+1) t df g∧tat t ti=.int .i64 ((j+1:Nat):Int)) t df g:=by
   rintro ⟨h1,h2⟩
   simp only[sx,SO.run,h2,↓reduceIte,true_and]
   refine ⟨hJ _ _ _ _ _ _ (.inl rfl) (hJ _ _ _ _ _ _ (.inr (.inr rfl)) (hJ _ _ _ _ _ _ (.inr (.inl rfl)) h1)),?_⟩
   rw[wrap64 (by omega) (by omega)];rfl
  cases e with
  | norm=>exact key h
  | ret=>exact h
  | exit x =>
   rw[kR_exit] at h ⊢
   split at h
   ·rename_i e;rw[if_pos e];exact key h
   ·rename_i e;rw[if_neg e];exact h
end
end Hx
end
section
namespace Hx
open Go
noncomputable section
def vid:AV→Option Nat
 | .hsl id _ _ _ _=>some id
 | _=>none
def Own (g:G)(b:Nat)(v:AV)(sz:Nat)(rows:List (List AV)):Prop :=
 (v=.nils∧rows=[])∨∃id ep lo,b≤id∧id<g.nx∧v=.hsl id ep 0 rows.length none∧g.h.get id=.cells sz rows ep lo false
theorem Own.rows {g:G}{b:Nat}{v:AV}{sz:Nat}{rows:List (List AV)}(h:Own g b v sz rows):rowsOf g.h sz v=some rows:=by
 rcases h with ⟨rfl,rfl⟩ | ⟨id,ep,lo,h1,h2,rfl,h3⟩
 ·rfl
 ·rw[rowsOf_hsl,h3,hslRows_all]
theorem Own.fr {g g':G}{b:Nat}{v:AV}{sz:Nat}{rows:List (List AV)}(h:Own g b v sz rows)(hn:g.nx≤g'.nx)(hf:∀i,vid v=some i→g'.h.get i=g.h.get i):Own g' b v sz rows:=by
 rcases h with h | ⟨id,ep,lo,h1,h2,rfl,h3⟩
 ·exact .inl h
 ·exact .inr ⟨id,ep,lo,h1,by omega,rfl,by rw[hf id rfl,h3]⟩
theorem Own.lt {g:G}{b:Nat}{v:AV}{sz:Nat}{rows:List (List AV)}(h:Own g b v sz rows){i:Nat}(hi:vid v=some i):b≤i∧i<g.nx:=by
 rcases h with ⟨rfl,-⟩ | ⟨id,ep,lo,h1,h2,rfl,h3⟩
 ·cases hi
 ·injection hi with hi;subst hi;exact ⟨h1,h2⟩
theorem Own.cell {g:G}{b:Nat}{v:AV}{sz:Nat}{rows:List (List AV)}(h:Own g b v sz rows):v.cells=[v]∧v.isTup=false:=by
 rcases h with ⟨rfl,-⟩ | ⟨id,ep,lo,h1,h2,rfl,h3⟩<;>exact ⟨rfl,rfl⟩
theorem append_own {g:G}{b:Nat}{v x:AV}{sz bytes:Nat}{rows new:List (List AV)}{K:AV→G→Prop}{D:ADf→Prop}(hv:Own g b v sz rows)(hx:rowsOf g.h sz x=some new)(hb:b≤g.nx)
  (hr:(rows.length+new.length)*bytes≤room)
  (k:∀v' g',Own g' b v' sz (rows++new)→g.nx≤g'.nx→(∀i,i<g.nx→vid v≠some i→g'.h.get i=g.h.get i)→(vid v'=vid v∨∃i,vid v'=some i∧g.nx≤i)→(∀i∈g'.lg,i∈g.lg∨b≤i)→K v' g') :
  (appendA sz bytes v x g).sat K g D:=by
 unfold appendA
 rw[hx]
 dsimp only
 rcases hv with ⟨rfl,rfl⟩ | ⟨id,ep,lo,h1,h2,rfl,h3⟩
 ·cases new with
  | nil=>exact k _ _ (.inl ⟨rfl,rfl⟩) (Nat.le_refl _) (fun _ _ _=>rfl) (.inl rfl) (fun i hi=>.inl hi)
  | cons r new =>
   simp only[appendRows,lenR_eq,bif'_eq,Nat.ble_eq]
   rw[if_pos (by simpa using hr)]
   refine k _ _ (.inr ⟨g.nx,0,true,hb,by simp,rfl,by simp[get_put_eq]⟩) (by simp) (fun i hi _=>?_) (.inr ⟨g.nx,rfl,Nat.le_refl _⟩) (fun i hi=>by simp at hi;rcases hi with rfl | hi;exact .inr hb;exact .inl hi)
   rw[G.new_h,get_put_ne _ _ _ (by omega)]
 ·simp only[appendRows,G.get_eq,h3,lenR_eq,bif'_eq,show Nat.beq ep ep=true from Nat.beq_refl ep,show Nat.beq sz sz=true from Nat.beq_refl sz,Bool.true_and,Nat.ble_eq,Bool.and_eq_true,Nat.zero_add,Option.getD_none,Nat.sub_zero]
  rw[if_pos ⟨Nat.le_refl _,hr⟩]
  cases new with
  | nil =>
   rw[if_pos (by simp)]
   refine k _ _ (.inr ⟨id,ep,lo,h1,h2,by simp,by simpa using h3⟩) (Nat.le_refl _) (fun _ _ _=>rfl) (.inl rfl) (fun i hi=>.inl hi)
  | cons r new =>
   rw[if_neg (by simp)]
   have ht:takeR rows.length (dropR 0 rows)=rows:=by rw[takeR_eq,dropR_eq];simp
   cases lo with
   | false =>
    rw[if_pos (by simp)]
    refine k _ _ (.inr ⟨g.nx,0,true,by omega,by simp,by simp,by simp[get_put_eq,ht]⟩) (by simp) (fun i hi _=>?_) (.inr ⟨g.nx,rfl,Nat.le_refl _⟩) (fun i hi=>by simp at hi;rcases hi with rfl | hi;exact .inr hb;exact .inl hi)
    rw[G.new_h,get_put_ne _ _ _ (by omega)]
   | true =>
    rw[if_neg (by simp)]
    refine k _ _ (.inr ⟨id,ep+1,true,h1,by simpa using h2,by simp,by simp[get_put_eq,ht]⟩) (by simp) (fun i hi hne=>?_) (.inl rfl) (fun i hi=>by simp at hi;rcases hi with rfl | hi;exact .inr h1;exact .inl hi)
    rw[G.put_h,get_put_ne _ _ _ (fun e=>hne (by rw[e];rfl))]
def Fr (g g':G):Prop:=g.nx≤g'.nx∧∀i,i<g.nx→g'.h.get i=g.h.get i
theorem Fr.refl (g:G):Fr g g:=⟨Nat.le_refl _,fun _ _=>rfl⟩
theorem Fr.trans {g g' g'':G}(h:Fr g g')(h':Fr g' g''):Fr g g'':=⟨Nat.le_trans h.1 h'.1,fun i hi=>by rw[h'.2 i (Nat.lt_of_lt_of_le hi h.1),h.2 i hi]⟩
theorem Fr.new (g:G)(o:AObj):Fr g (g.new o):=⟨by simp,fun i hi=>by rw[G.new_h,get_put_ne _ _ _ (by omega)]⟩
theorem Own.step {g g':G}{b:Nat}{v:AV}{sz:Nat}{rows:List (List AV)}(h:Own g b v sz rows)(f:Fr g g'):Own g' b v sz rows :=
 h.fr f.1 fun i hi=>f.2 i (h.lt hi).2
theorem store_own {g:G}{b:Nat}{v:AV}{sz n i off:Nat}{rows:List (List AV)}{row row':List AV}{x:AV}{K:AV→G→Prop}{D:ADf→Prop}(hv:Own g b v sz rows)(hr:rows[i]?=some row)
  (hl:x.cells.length=n) (ht:x.isTup=false) (hp:putCells row off x.cells=some row')
  (k:∀g',Own g' b v sz (rows.set i row')→g'.nx=g.nx→(∀i,vid v≠some i→g'.h.get i=g.h.get i)→K .undef g'):(storeV n (rptr sz v i off) x g).sat K g D:=by
 rcases hv with ⟨rfl,rfl⟩ | ⟨id,ep,lo,h1,h2,rfl,h3⟩
 ·simp at hr
 ·simp only[rptr,Nat.zero_add]
  rw[store_hptr h3 hr rfl ht hl hp]
  refine k _ (.inr ⟨id,ep,lo,h1,by simpa using h2,by simp,by simp[get_put_eq]⟩) (by simp) (fun i hne=>?_)
  rw[G.put_h,get_put_ne _ _ _ (fun e=>hne (by rw[e];rfl))]
theorem mks_own {g:G}{b sz bytes:Nat}{zero:List AV}{k1 k2:IntKind}{n:Nat}{K:AV→G→Prop}{D:ADf→Prop}(hn:n≤room)(hb:n*bytes≤room)(hg:b≤g.nx)
  (k:∀v' g',Own g' b v' sz (List.replicate n zero)→g'.nx=g.nx+1→(∀i,i<g.nx→g'.h.get i=g.h.get i)→vid v'=some g.nx→K v' g') :
  (mksV sz bytes zero (.int k1 (n:Int)) (.int k2 (n:Int)) g).sat K g D:=by
 show (match natOf room (.int k2 (.ofNat n)) with
  | some cn=>match natOf cn (.int k1 (.ofNat n)) with
   | some ln=>bif' (Nat.ble (cn*bytes) room) (OR.upd (.hsl g.nx 0 0 ln none) (g.new (.cells sz (repl cn zero) 0 false false))) .fail
   | none=>.fail
  | none=>.fail).sat K g D
 simp only[natOf,bif'_eq,Nat.ble_eq,if_pos hn,Nat.le_refl,if_pos hb,if_true]
 refine k _ _ (.inr ⟨g.nx,0,false,hg,by simp,by simp,by simp[get_put_eq,repl]⟩) (by simp) (fun i hi=>?_) rfl
 rw[G.new_h,get_put_ne _ _ _ (by omega)]
theorem Own.sl {α:Type} [Rp α]{g:G}{b:Nat}{v:AV}{rows:List (List AV)}{l:List α}{P:Nat→Prop}{k:Nat}(h:Own g b v (Rp.sz α) rows)(hl:l.length<9223372036854775808)(hr:All2 (Rp.rp P k g.h) l rows)
  (hp:∀i,vid v=some i→P i):SlR P k g.h l v:=by
 refine ⟨hl,?_⟩
 have hrow:=h.rows
 rcases h with ⟨rfl,rfl⟩ | ⟨id,ep,lo,h1,h2,rfl,h3⟩
 ·exact List.eq_nil_of_length_eq_zero hr.len
 ·exact ⟨hp id rfl,rows,hrow,hr⟩
theorem Own.ints {g:G}{b:Nat}{v:AV}{l:List Int}{k:Nat}(h:Own g b v 1 (l.map ci))(hl:l.length<9223372036854775808):One l (fun _=>True) k g.h v :=
 ⟨v,rfl,Own.sl (α:=Int) h hl (All2.of_map (fun a=>rp_int.2 rfl) l) fun _ _=>trivial⟩
theorem sat_ex {x:OR}{Q:AV→Prop}{K:AV→G→Prop}{g:G}{D:ADf→Prop}(h:∃r,x=.val r∧Q r)(k:∀r,Q r→K r g):x.sat K g D:=by
 obtain ⟨r,rfl,hr⟩:=h
 exact k r hr
section feet
variable {C:Cfg}{d:Nat}{rd:Option Nat}{pm:List Nat}
theorem wpF_nil (Q:PT)(t:T)(df:List ADf)(g:G)(fs:List Foot):wpF C d rd pm [] Q t df g fs=(footsOk pm fs.reverse=true∧Q t df g):=rfl
theorem wpF_o (n:Nat)(op:SO)(r:List SI)(Q:PT)(t:T)(df:List ADf)(g:G)(fs:List Foot):wpF C d rd pm (o n op::r) Q t df g fs =
  (op.run C d rd t (setLog g [])).sat (kF (wpF C d rd pm r Q) (some n) t df g.lg fs (op.foot C t g)) (setLog g []) (fun _=>False):=rfl
theorem wpF_oz (op:SO)(r:List SI)(Q:PT)(t:T)(df:List ADf)(g:G)(fs:List Foot):wpF C d rd pm (oz op::r) Q t df g fs =
  (op.run C d rd t (setLog g [])).sat (kF (wpF C d rd pm r Q) none t df g.lg fs (op.foot C t g)) (setLog g []) (fun _=>False):=rfl
theorem wpF_og (n s:Nat)(w:Bool)(op:SO)(r:List SI)(Q:PT)(t:T)(df:List ADf)(g:G)(fs:List Foot) :
  wpF C d rd pm (og n s w op::r) Q t df g fs=gdP (tat t s) w (runF C d rd (o n op) (wpF C d rd pm r Q) fs) (skipF (o n op) (wpF C d rd pm r Q) fs) t df g:=rfl
theorem runF_o (n:Nat)(op:SO)(W:FT)(fs:List Foot)(t:T)(df:List ADf)(g:G):runF C d rd (o n op) W fs t df g =
  (op.run C d rd t (setLog g [])).sat (kF W (some n) t df g.lg fs (op.foot C t g)) (setLog g []) (fun _=>False):=rfl
theorem skipF_o (n:Nat)(op:SO)(W:FT)(fs:List Foot)(t:T)(df:List ADf)(g:G):skipF (o n op) W fs t df g=W (tset t n .undef) df g (⟨noLook,[]⟩::fs):=rfl
theorem kF_some (W:FT)(n:Nat)(t:T)(df:List ADf)(lg:List Nat)(fs:List Foot)(lk:Looks)(v:AV)(g:G):kF W (some n) t df lg fs lk v g=W (tset t n v) df (bumpG g (g.lg++lg)) (⟨lk,g.lg⟩::fs):=rfl
theorem kF_none (W:FT)(t:T)(df:List ADf)(lg:List Nat)(fs:List Foot)(lk:Looks)(v:AV)(g:G):kF W none t df lg fs lk v g=W t df (bumpG g (g.lg++lg)) (⟨lk,g.lg⟩::fs):=rfl
theorem refIds_rptr {sz:Nat}{v:AV}{i off:Nat}(h:rowy v=true):refIds (rptr sz v i off)=refIds v:=by cases v<;>first | rfl | cases h
theorem refIds_hptr (id ep i off:Nat):refIds (.hptr id ep i off)=[id]:=rfl
theorem SlR.refs {α:Type} [Rp α]{k:Nat}{h:H}{l:List α}{v:AV}(r:SlR NoP k h l v):refIds v=[]:=by
 have r:=r.2
 unfold SlV at r
 split at r<;>first | rfl | exact r.1.elim | exact r.elim
theorem rp_ids {α:Type} [Rp α]{k:Nat}{h:H}{x:α}{cs:List AV}(r:Rp.rp NoP k h x cs)(n:Nat):cs.flatMap (snapIds h n)=[]:=by
 rw[List.eq_nil_iff_forall_not_mem]
 exact fun i hi=>Rp.ids r i hi
theorem agg_ids {α:Type} [Rp α]{k:Nat}{h:H}{x:α}{cs:List AV}(r:Rp.rp NoP k h x cs):snapIds h depthA (.agg cs)=[]:=rp_ids r 23
end feet
section looks
variable {C:Cfg}{t:T}{g:G}
theorem ft_mv (x:Od):SO.foot C t g (.mv x)=noLook:=rfl
theorem ft_pick (c a b:Od):SO.foot C t g (.pick c a b)=noLook:=rfl
theorem ft_alloc (cs:List AV):SO.foot C t g (.alloc cs)=noLook:=rfl
theorem ft_box (x:Od):SO.foot C t g (.box x)=noLook:=rfl
theorem ft_build (z:List AV)(pl:List (Nat×Nat))(vs:List Od):SO.foot C t g (.build z pl vs)=noLook:=rfl
theorem ft_bsl (sz len:Nat)(z:List AV)(is:List Nat)(vs:List Od):SO.foot C t g (.bsl sz len z is vs)=noLook:=rfl
theorem ft_load (ag:Bool)(n:Nat)(a:Od):SO.foot C t g (.load ag n a)=rdLook (refIds (a.get t)):=rfl
theorem ft_store (n:Nat)(a x:Od):SO.foot C t g (.store n a x)=rdLook (refIds (a.get t)):=rfl
theorem ft_nilc (x:Od):SO.foot C t g (.nilc x)=noLook:=rfl
theorem ft_bin (op:BinOp)(x y:Od):SO.foot C t g (.bin op x y)=noLook:=rfl
theorem ft_eq (ng:Bool)(ek:EqKind)(x y:Od):SO.foot C t g (.eq ng ek x y)=noLook:=rfl
theorem ft_not (x:Od):SO.foot C t g (.not x)=noLook:=rfl
theorem ft_conv (k:IntKind)(x:Od):SO.foot C t g (.conv k x)=noLook:=rfl
theorem ft_mkf (f:Nat)(a c:List Od):SO.foot C t g (.mkf f a c)=noLook:=rfl
theorem ft_mks (sz bt:Nat)(z:List AV)(l c:Od):SO.foot C t g (.mks sz bt z l c)=noLook:=rfl
theorem ft_slc (sz:Nat)(x:Od)(lo hi:List Od):SO.foot C t g (.slc sz x lo hi)=rdLook (refIds (x.get t)):=rfl
theorem ft_fad (fo:Nat)(x:Od):SO.foot C t g (.fad fo x)=noLook:=rfl
theorem ft_fld (ag:Bool)(n fo:Nat)(x:Od):SO.foot C t g (.fld ag n fo x)=noLook:=rfl
theorem ft_ixs (sz:Nat)(x i:Od):SO.foot C t g (.ixs sz x i)=rdLook (refIds (x.get t)):=rfl
theorem ft_ixa (n sz:Nat)(x i:Od):SO.foot C t g (.ixa n sz x i)=noLook:=rfl
theorem ft_ix (ag:Bool)(n sz:Nat)(x i:Od):SO.foot C t g (.ix ag n sz x i)=noLook:=rfl
theorem ft_ext (x:Od)(i:Nat):SO.foot C t g (.ext x i)=noLook:=rfl
theorem ft_len (x:Od):SO.foot C t g (.len .slice x)=noLook:=rfl
theorem ft_app (sz bt:Nat)(x y:Od):SO.foot C t g (.app sz bt x y)=rdLook (refIds (x.get t)++refIds (y.get t)):=rfl
theorem ft_cpy (sz:Nat)(x y:Od):SO.foot C t g (.cpy sz x y)=rdLook (refIds (x.get t)++refIds (y.get t)):=rfl
theorem ft_mx (x y:Od):SO.foot C t g (.mx x y)=rdLook (refIds (x.get t)++refIds (y.get t)):=rfl
theorem ft_mn (x y:Od):SO.foot C t g (.mn x y)=rdLook (refIds (x.get t)++refIds (y.get t)):=rfl
end looks
theorem sf:type_of% (And.intro @ft_mv <| And.intro @ft_pick <| And.intro @ft_alloc <| And.intro @ft_box <| And.intro @ft_build <| And.intro @ft_bsl <| And.intro @ft_load <| And.intro @ft_store <| And.intro @ft_nilc <| And.intro @ft_bin <| And.intro @ft_eq <| And.intro @ft_not <| And.intro @ft_conv <| And.intro @ft_mkf <| And.intro @ft_mks <| And.intro @ft_slc <| And.intro @ft_fad <| And.intro @ft_fld <| And.intro @ft_ixs <| And.intro @ft_ixa <| And.intro @ft_ix <| And.intro @ft_ext <| And.intro @ft_len <| And.intro @ft_app <| And.intro @ft_cpy <| And.intro @ft_mx <| @ft_mn) :=
 And.intro @ft_mv <| And.intro @ft_pick <| And.intro @ft_alloc <| And.intro @ft_box <| And.intro @ft_build <| And.intro @ft_bsl <| And.intro @ft_load <| And.intro @ft_store <| And.intro @ft_nilc <| And.intro @ft_bin <| And.intro @ft_eq <| And.intro @ft_not <| And.intro @ft_conv <| And.intro @ft_mkf <| And.intro @ft_mks <| And.intro @ft_slc <| And.intro @ft_fad <| And.intro @ft_fld <| And.intro @ft_ixs <| And.intro @ft_ixa <| And.intro @ft_ix <| And.intro @ft_ext <| And.intro @ft_len <| And.intro @ft_app <| And.intro @ft_cpy <| And.intro @ft_mx <| @ft_mn
theorem cells_int (k:IntKind)(x:Int):(AV.int k x).cells=[.int k x]:=rfl
theorem cells_bool (x:Bool):(AV.bool x).cells=[.bool x]:=rfl
theorem cells_agg (cs:List AV):(AV.agg cs).cells=cs:=rfl
theorem cells_nils:AV.nils.cells=[.nils]:=rfl
theorem isTup_int (k:IntKind)(x:Int):(AV.int k x).isTup=false:=rfl
theorem isTup_bool (x:Bool):(AV.bool x).isTup=false:=rfl
theorem isTup_agg (cs:List AV):(AV.agg cs).isTup=false:=rfl
theorem isTup_nils:AV.nils.isTup=false:=rfl
theorem cells_hsl (id ep off len:Nat)(lim:Option Nat):(AV.hsl id ep off len lim).cells=[.hsl id ep off len lim]:=rfl
theorem isTup_hsl (id ep off len:Nat)(lim:Option Nat):(AV.hsl id ep off len lim).isTup=false:=rfl
theorem cells_tsl (t s:Nat)(rows:List (List AV)):(AV.tsl t s rows).cells=[.tsl t s rows]:=rfl
theorem isTup_tsl (t s:Nat)(rows:List (List AV)):(AV.tsl t s rows).isTup=false:=rfl
theorem box_eq (x:AV)(g:G)(h:x.isTup=false):boxV x g=.upd (.hptr g.nx 0 0 0) (g.new (.cells x.cells.length [x.cells] 0 false false)):=by
 simp only[boxV,h,lenR_eq]
theorem bsl_nil (sz:Nat)(zero:List AV)(g:G):bslV sz 0 zero [] [] g=.upd (.hsl g.nx 0 0 0 none) (g.new (.cells sz [] 0 false false)):=rfl
theorem bsl_one (sz:Nat)(zero:List AV)(v:AV)(g:G)(hl:v.cells.length=sz)(ht:v.isTup=false) :
  bslV sz 1 zero [0] [v] g=.upd (.hsl g.nx 0 0 1 none) (g.new (.cells sz [v.cells] 0 false false)):=by
 subst hl
 have:Nat.beq (lenR v.cells) v.cells.length=true:=by rw[lenR_eq];exact Nat.beq_refl _
 have h2:fillRows v.cells.length [zero] [(0,v)]=some [v.cells]:=by
  simp only[fillRows,this,ht,bif'_eq,lenR_eq,setR_eq,notb_eq]
  rw[show Nat.beq v.cells.length v.cells.length=true from Nat.beq_refl _];rfl
 show (match fillRows v.cells.length [zero] [(0,v)] with | some rows=>OR.upd (.hsl g.nx 0 0 1 none) (g.new (.cells v.cells.length rows 0 false false)) | none=>.fail)=_
 rw[h2]
theorem putCells_eq (row:List AV)(off:Nat)(cs:List AV):putCells row off cs=if off+cs.length≤row.length then some (row.take off++(cs++row.drop (off+cs.length))) else none:=by
 simp only[putCells,lenR_eq,bif'_eq,Nat.ble_eq,setR_eq,takeR_eq,dropR_eq]
 split
 ·rename_i h
  split
  ·rename_i c
   simp only[List.length_singleton] at h
   rw[List.set_eq_take_append_cons_drop,if_pos (by omega)];rfl
  ·rfl
 ·rfl
theorem ext_0 (a:AV)(l:List AV):extV (.tup (a::l)) 0=.val a:=rfl
theorem ext_1 (a b:AV)(l:List AV):extV (.tup (a::b::l)) 1=.val b:=rfl
theorem ext_2 (a b c:AV)(l:List AV):extV (.tup (a::b::c::l)) 2=.val c:=rfl
theorem fld_eq (ag:Bool)(n fo:Nat)(cs:List AV):fldV ag n fo (.agg cs)=orV (getPart ag n cs fo):=rfl
theorem part_agg' {n:Nat}{row:List AV}{off:Nat}:getPart true (n+1) row off=if off+(n+1)≤row.length then some (.agg ((row.drop off).take (n+1))) else none:=by
 split
 ·rename_i h;exact part_agg h
 ·rename_i h
  simp only[getPart,takeR_eq,dropR_eq,lenR_eq,List.length_take,List.length_drop,bif'_eq,if_true]
  rw[if_neg]
  intro e
  have:=Nat.eq_of_beq_eq_true e
  omega
theorem build_eq (zero:List AV)(pl:List (Nat×Nat))(vs:List AV):buildV zero pl vs=match fillA zero (pl.zip vs) with | some cs=>.val (.agg cs) | none=>.fail:=rfl
theorem fillA_nil (cs:List AV):fillA cs []=some cs:=rfl
theorem fillA_cons (cs:List AV)(off size:Nat)(v:AV)(rest:List ((Nat×Nat)×AV))(hl:v.cells.length=size)(ht:v.isTup=false) :
  fillA cs (((off,size),v)::rest)=match putCells cs off v.cells with | some cs=>fillA cs rest | none=>none:=by
 subst hl
 have:Nat.beq (lenR v.cells) v.cells.length=true:=by rw[lenR_eq];exact Nat.beq_refl _
 simp only[fillA,this,ht,notb_eq,Bool.not_false,Bool.and_self]
 rfl
theorem resP_c (ag:Bool)(n a:Nat)(r:List SR)(t:T)(g:G)(K:List AV→Prop):resP (.cell ag n a::r) t g K=match loadV ag n (tat t a) g with | .val v=>resP r t g fun vs=>K (v::vs) | _=>False:=rfl
theorem oneOrTup_two (a b:AV)(l:List AV):oneOrTup (a::b::l)=.tup (a::b::l):=rfl
theorem sy:type_of% (And.intro @build_eq <| And.intro @fillA_nil <| And.intro @fillA_cons <| And.intro @resP_c <| And.intro @List.zip_cons_cons.{0,0} <| And.intro @List.zip_nil_left.{0,0} <| And.intro @wpF_nil <| And.intro @wpF_o <| And.intro @wpF_oz <| And.intro @wpF_og <| And.intro @runF_o <| And.intro @skipF_o <| And.intro @kF_some <| And.intro @kF_none <| And.intro @bumpG_h <| And.intro @bumpG_nx <| And.intro @bumpG_lg <| And.intro @true_and <| And.intro @and_true <| And.intro @kR_norm <| And.intro @kR_exit <| And.intro @kR_ret <| And.intro @setLog_h <| And.intro @setLog_nx <| And.intro @setLog_lg <| And.intro @kQ_eq <| And.intro @cells_int <| And.intro @cells_bool <| And.intro @cells_agg <| And.intro @cells_nils <| And.intro @isTup_int <| And.intro @isTup_bool <| And.intro @isTup_agg <| And.intro @isTup_nils <|
 And.intro @cells_hsl <| And.intro @isTup_hsl <| And.intro @cells_tsl <| And.intro @isTup_tsl <| And.intro @box_eq <| And.intro @bsl_nil <| And.intro @bsl_one <| And.intro @putCells_eq <| And.intro @ext_0 <| And.intro @ext_1 <| And.intro @ext_2 <|
 And.intro @fld_eq <| And.intro @part_agg' <| And.intro @oneOrTup_two <| And.intro @hptrStore_cells <| And.intro @lenR_eq <| And.intro @List.length_cons.{0} <| And.intro @List.length_nil.{0} <| And.intro @List.take_succ_cons.{0} <|
 And.intro @List.take_zero.{0} <| And.intro @List.drop_succ_cons.{0} <| And.intro @List.drop_zero.{0} <| And.intro @List.cons_append.{0} <| And.intro @List.nil_append.{0} <| And.intro @List.append_nil.{0} <| And.intro @List.set_cons_zero.{0} <| And.intro @List.set_cons_succ.{0} <|
 And.intro @Nat.zero_add <| And.intro @H.get_put <| And.intro @rowsOf_hsl <| And.intro @hslRows_cells <| And.intro @rowsOf_nils <| @rowsOf_tsl) :=
 And.intro @build_eq <| And.intro @fillA_nil <| And.intro @fillA_cons <| And.intro @resP_c <| And.intro @List.zip_cons_cons.{0,0} <| And.intro @List.zip_nil_left.{0,0} <| And.intro @wpF_nil <| And.intro @wpF_o <| And.intro @wpF_oz <| And.intro @wpF_og <| And.intro @runF_o <| And.intro @skipF_o <| And.intro @kF_some <| And.intro @kF_none <| And.intro @bumpG_h <| And.intro @bumpG_nx <| And.intro @bumpG_lg <| And.intro @true_and <| And.intro @and_true <| And.intro @kR_norm <| And.intro @kR_exit <| And.intro @kR_ret <| And.intro @setLog_h <| And.intro @setLog_nx <| And.intro @setLog_lg <| And.intro @kQ_eq <| And.intro @cells_int <| And.intro @cells_bool <| And.intro @cells_agg <| And.intro @cells_nils <| And.intro @isTup_int <| And.intro @isTup_bool <| And.intro @isTup_agg <| And.intro @isTup_nils <|
 And.intro @cells_hsl <| And.intro @isTup_hsl <| And.intro @cells_tsl <| And.intro @isTup_tsl <| And.intro @box_eq <| And.intro @bsl_nil <| And.intro @bsl_one <| And.intro @putCells_eq <| And.intro @ext_0 <| And.intro @ext_1 <| And.intro @ext_2 <|
 And.intro @fld_eq <| And.intro @part_agg' <| And.intro @oneOrTup_two <| And.intro @hptrStore_cells <| And.intro @lenR_eq <| And.intro @List.length_cons.{0} <| And.intro @List.length_nil.{0} <| And.intro @List.take_succ_cons.{0} <|
 And.intro @List.take_zero.{0} <| And.intro @List.drop_succ_cons.{0} <| And.intro @List.drop_zero.{0} <| And.intro @List.cons_append.{0} <| And.intro @List.nil_append.{0} <| And.intro @List.append_nil.{0} <| And.intro @List.set_cons_zero.{0} <| And.intro @List.set_cons_succ.{0} <|
 And.intro @Nat.zero_add <| And.intro @H.get_put <| And.intro @rowsOf_hsl <| And.intro @hslRows_cells <| And.intro @rowsOf_nils <| @rowsOf_tsl
end
end Hx
end
