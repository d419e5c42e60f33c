/- A part of the proof: what the functions of the chapter compute. -/
import Derived.Orders
import Derived.Below
import Derived.Laws.Externs
import Derived.Test.YtkbieohddgjioaaGreatHx3
set_option linter.all false
set_option maxRecDepth 20000
set_option maxHeartbeats 8000000
namespace Hx
open Go
noncomputable section
variable {b d nt k i x n c B f ti m:Nat}{g g':G}{v:AV}{t t':T}{df:List ADf}{P:Program}{C:Cfg}{rd:Option Nat}{body:SC}{Q:QT}{K:AV->G->Prop}{D:ADf->Prop}{pm:List Nat}{assign:Code}{tmps:Array Value}
theorem Td{op:Op}(h:((aO C op).run t g).sr≠[]):∃ty x k a,op=.lookup ty x k false/\aV C x=some a /\
  (aO C op).run t g=⟨[],(aw (a.run t)).map (·,ty),[],false⟩:=by
 cases op<;>simp only[aO]at h ⊢<;>try (exact absurd rfl h)
 case lookup ty x k ok =>
  cases ok
  ·dsimp only at h ⊢
   split at h
   ·rename_i a ha;exact⟨ty,x,k,a,rfl,ha,by simp[ha]⟩
   ·exact absurd rfl h
  ·dsimp only at h
   split at h<;>exact absurd rfl h
 case call c =>
  obtain⟨callee,args,at'⟩:=c;cases callee<;>simp only at h
  ·split at h
   ·dsimp only at h
    split at h
    ·rw[aa]at h;split at h<;>exact absurd rfl h
    ·exact absurd rfl h
   ·exact absurd rfl h
  ·exact absurd rfl h
  ·split at h<;>exact absurd rfl h
 all_goals (split at h<;>exact absurd rfl h)
theorem QM{op:Op}{p:Nat×Nat}(h:p∈((aO C op).run t g).soft):∃x k a,op=.mapEntry p.2 x k/\aV C x=some a/\p.1∈aw (a.run t):=by
 cases op<;>simp only[aO]at h<;>try (exact absurd h VG)
 case mapEntry ty x k =>
  split at h
  ·rename_i a ha;dsimp only at h;obtain⟨id,h1,h2⟩:=Wk.1 h;subst h2;exact⟨x,k,a,rfl,ha,h1⟩
  ·exact absurd h VG
 case lookup ty x k ok =>
  cases ok<;>dsimp only at h<;>split at h<;>exact absurd h VG
 case call c =>
  obtain⟨callee,args,at'⟩:=c;cases callee<;>simp only at h
  ·split at h
   ·dsimp only at h
    split at h
    ·rw[aa]at h;split at h<;>exact absurd h VG
    ·exact absurd h VG
   ·exact absurd h VG
  ·exact absurd h VG
  ·split at h<;>exact absurd h VG
 all_goals (split at h<;>exact absurd h VG)
theorem Fn{ih:IH}{ty:TypeId}{x k:Operand}{ok:Bool}{r:OR}(h:(dC C (.lookup ty x k ok)).run ih d rd t g=r)(hne:r≠.fail) :
  ∃a kk kt et z,aV C x=some a/\aV C k=some kk/\C.P.underlying ty=some (.map kt et)/\uP C.P et=some z /\
   (∀t g,(dC C (.lookup ty x k ok)).run ih d rd t g=dL (cJ C.P kt) z ok a.run kk.run t g)/\r=dL (cJ C.P kt) z ok a.run kk.run t g:=by
 unfold dC at h ⊢;simp only[cOp,cq]at h ⊢
 split at h
 ·rename_i f hf
  split at hf
  ·rename_i s hs;injection hf with hf;subst hf
   split at hs
   ·rename_i a kk kt et ha hk hu
    split at hs
    ·rename_i z hz;injection hs with hs;subst hs;refine⟨a,kk,kt,et,z,ha,hk,hu,hz,λt g=>?_,h.symm⟩;simp only[ha]
    ·cases hs
   ·cases hs
  ·cases hf
 ·exact absurd h.symm hne
theorem BM{ih:IH}{ty:TypeId}{x k:Operand}{r:OR}(h:(dC C (.mapEntry ty x k)).run ih d rd t g=r)(hne:r≠.fail) :
  ∃a kk kt et z,aV C x=some a/\aV C k=some kk/\C.P.underlying ty=some (.map kt et)/\uP C.P et=some z/\r=qu (cJ C.P kt) z a.run kk.run t g:=by
 unfold dC at h;simp only[cOp,cq]at h
 split at h
 ·rename_i f hf
  split at hf
  ·rename_i s hs;injection hf with hf;subst hf
   split at hs
   ·rename_i a kk kt et ha hk hu
    split at hs
    ·rename_i z hz;injection hs with hs;subst hs;exact⟨a,kk,kt,et,z,ha,hk,hu,hz,h.symm⟩
    ·cases hs
   ·cases hs
  ·cases hf
 ·exact absurd h.symm hne
theorem EP{x:Foot}:∀{l:List Foot} {j0 j:Nat} {y:Foot},l[j]?=some y->(pm.getD (j0+j) 0).testBit i=false->meets y.wr (fst1 x.lk.sr)=true ->
  1<=eT pm i x j0 l:=by
 intro l
 induction l with
 |nil=>intro j0 j y h;simp at h
 | cons a l ih =>
  intro j0 j y h h1 h2;cases j with
  | zero =>
   simp at h;subst h;simp only[eT,aa];rw[Vz]
   ·omega
   ·simp only[Xv]at h1;rw[h1,h2];simp
  | succ j =>
   have:=ih (j0:=Nat.succ j0) (by simpa using h) (by rw[show Nat.succ j0+j=j0+(j+1) by omega];exact h1) h2;simp only[eT,aa]
   split<;>omega
theorem Cx{x:Foot}:∀{l:List Foot} {j0 j j':Nat} {y y':Foot},j<j'->l[j]?=some y->l[j']?=some y'->(pm.getD (j0+j) 0).testBit i=false->(pm.getD (j0+j') 0).testBit i=false ->
  meets y.wr (fst1 x.lk.sr)=true->meets y'.wr (fst1 x.lk.sr)=true->2<=eT pm i x j0 l:=by
 intro l
 induction l with
 |nil=>intro j0 j j' y y' _ h;simp at h
 | cons a l ih =>
  intro j0 j j' y y' hlt h h' h1 k h2 b;cases j' with
  |zero=>omega
  | succ j' =>
   cases j with
   | zero =>
    simp at h;subst h;have:=EP (pm:=pm) (i:=i) (x:=x) (j0:=Nat.succ j0) (j:=j') (by simpa using h') (by rw[show Nat.succ j0+j'=j0+(j'+1) by omega];exact k) b;simp only[eT,aa];rw[Vz]
    ·omega
    ·simp only[Xv]at h1;rw[h1,h2];simp
   | succ j =>
    have:=ih (j0:=Nat.succ j0) (j:=j) (j':=j') (by omega) (by simpa using h) (by simpa using h') (by rw[show Nat.succ j0+j=j0+(j+1) by omega];exact h1) (by rw[show Nat.succ j0+j'=j0+(j'+1) by omega];exact k) h2 b;simp only[eT,aa]
    split<;>omega
theorem IF{b x:Bool}(h:aB b x false=true):b=true/\x=true:=by
 cases b
 ·cases h
 ·exact⟨rfl,h⟩
theorem EQ:∀{l:List Foot} {i0:Nat},tS pm i0 l=true->∀(i j j':Nat) x y y',i<j->j<j'->l[i]?=some x->l[j]?=some y->l[j']?=some y'->x.lk.sr≠[] ->
  (pm.getD (i0+j) 0).testBit (i0+i)=false->(pm.getD (i0+j') 0).testBit (i0+i)=false->meets y.wr (fst1 x.lk.sr)=true->meets y'.wr (fst1 x.lk.sr)=true->False:=by
 intro l
 induction l with
 |nil=>intro i0 _ i j j' x y y' _ _ h;simp at h
 | cons a l ih =>
  intro i0 h i j j' x y y' m n hx f d c h1 k h2 b;obtain⟨hc,h⟩:=IF h;cases j' with
  |zero=>omega
  | succ j' =>
   cases j with
   |zero=>omega
   | succ j =>
    cases i with
    | zero =>
     simp at hx;subst hx;have e:Nat.ble (eT pm i0 a (Nat.succ i0) l) 1=true:=by
      cases hsr':a.lk.sr with
      |nil=>exact absurd hsr' c
      |cons p r=>rw[hsr']at hc;exact hc
     rw[Wt]at e;have:=Cx (pm:=pm) (i:=i0) (x:=a) (j0:=Nat.succ i0) (j:=j) (j':=j') (by omega) (by simpa using f) (by simpa using d)
      (by rw[show Nat.succ i0+j=i0+(j+1) by omega];exact h1) (by rw[show Nat.succ i0+j'=i0+(j'+1) by omega];exact k) h2 b
     omega
    | succ i =>
     refine ih h i j j' x y y' (by omega) (by omega) (by simpa using hx) (by simpa using f) (by simpa using d) c ?_ ?_ h2 b
     ·rw[show Nat.succ i0+j=i0+(j+1) by omega,show Nat.succ i0+i=i0+(i+1) by omega];exact h1
     ·rw[show Nat.succ i0+j'=i0+(j'+1) by omega,show Nat.succ i0+i=i0+(i+1) by omega];exact k
theorem md{a b:List Nat}(ha:x∈a)(hb:x∈b):meets a b=true:=by unfold meets;exact List.any_eq_true.2 ⟨x,ha,by simpa using hb⟩
theorem FS{l:List (Nat×Nat)}(h:x∈l.map (·.1)):x∈fst1 l:=h
theorem H0{p:Nat×Nat}:∀{l:List (Nat×Nat)},EJ p l=true->p∈l:=by
 intro l
 induction l with
 |nil=>intro h;cases h
 | cons q l ih =>
  intro h;simp only[EJ,aa]at h
  split at h
  ·rename_i hc;simp only[Vx]at hc;have h1:=bc hc.1;have h2:=bc hc.2;exact VP.2 (.inl (Prod.ext h1 h2))
  ·exact WK _ (ih h)
section
variable {j:Nat}
def TraAt(C:Cfg)(ih:IH)(d:Nat)(rd:Option Nat)(nt:Nat)(ops:Array Oper)(q:Bool)(o:Oper)(t t':T)(g g':G)(f:Foot):Prop :=
 ∃out gd,vJ nt o.dst=some out/\jD ops.toList o.guard=some gd /\
  ((gd.run t=some false/\t'=out.run t .undef/\g'=g/\f.wr=[]) \/
   (gd.run t=some true/\∃r,(dC C o.op).run ih d rd t (aN g [])=r/\r≠.fail/\(∀a,r≠.dfr a)/\t'=out.run t (vOf r)/\g'.h=(gOf (aN g []) r).h /\
    f.wr=(gOf (aN g []) r).lg/\(gOf (aN g []) r).nx<=g'.nx/\(q=false->f.lk=(aO C o.op).run t g/\(gOf (aN g []) r).nx<g'.nx)))
def iO(ops:Array Oper)(i:Nat):Option Tmp:=(ops[i]?).bind (·.dst)
structure Reg (C:Cfg) (ih:IH) (bd:Nat) (rd:Option Nat) (nt:Nat) (ops:Array Oper) (q:Bool) (T':Nat->T) (G':Nat->G) (F':Nat->Foot) (hg0:Nat->AObj):Prop where
 hC:CfgOk C
 hi:IHOk C ih
 tra:∀i o,ops[i]?=some o->TraAt C ih (bd+1) rd nt ops q o (T' i) (T' (i+1)) (G' i) (G' (i+1)) (F' i)
 wf0:WF (G' 0)
 ext0:Ext (G' 0).h hg0
 free0:∀id,(G' 0).nx<=id->id<=(G' ops.size).nx->hg0 id=.none
 apart:∀i j,i<j->j<ops.size->((bA ops.toList []).getD j 0).testBit i=true\/bO (F' i) (F' j)=true
 once:∀i j j',i<j->j<j'->j'<ops.size->(F' i).lk.sr≠[]->((bA ops.toList []).getD j 0).testBit i=false->((bA ops.toList []).getD j' 0).testBit i=false ->
  meets (F' j).wr (fst1 (F' i).lk.sr)=true->meets (F' j').wr (fst1 (F' i).lk.sr)=true->False
 slots:∀i j oi oj,i<j->ops[i]?=some oi->ops[j]?=some oj->((bA ops.toList []).getD j 0).testBit i=true\/jU ops.toList oi oj=true
 guards:∀i o j b,ops[i]?=some o->o.guard=some (j,b)->((bA ops.toList []).getD i 0).testBit j=true
 quiet:q=true->∀i,i<ops.size->(F' i).wr=[]
section
variable {C:Cfg}{A:Nat->Nat->Prop}{bd:Nat}{ih:IH}{rd:Option Nat}{nt:Nat}{ops:Array Oper}{q:Bool}{T':Nat->T}{G':Nat->G}{F':Nat->Foot}{hg0:Nat->AObj}
theorem TraAt.facts(hC:CfgOk C)(hi:IHOk C ih){o:Oper}{f:Foot}(h:TraAt C ih d rd nt ops q o t t' g g' f)(hwf:WF g) :
  WF g'/\g.nx<=g'.nx/\(∀id,id ∉ f.wr->g'.h.get id=g.h.get id)/\∀id∈f.wr,id<g'.nx/\(g.h.get id=.none->g.nx<=id):=by
 obtain⟨out,gd,_,_,h⟩:=h;rcases h with⟨_,_,rfl,hw⟩|⟨_,r,hr,l,_,_,j,hw,i,_⟩
 ·rw[hw];exact⟨hwf,Vu _,λ_ _=>rfl,λ_ h=>absurd h VG⟩
 ·have hm:Mon (aN g []) (gOf (aN g []) r):=by rw[<-hr];exact mr hC.mon hi.mon hwf.setLog
  obtain⟨n,a,b,c⟩:=hm.new;have e:(gOf (aN g []) r).lg=n:=by simpa using a
  have k:g.nx<=(gOf (aN g []) r).nx:=by have:=hm.nx;simpa using this
  refine⟨λid hid=>?_,VR k i,λid hid=>?_,λid hid=>?_⟩
  ·rw[j];exact hm.wf hwf.setLog id (by omega)
  ·rw[j,b id (by rw[<-e,<-hw];exact hid)];simp
  ·have:=c id (by rw[<-e,<-hw];exact hid);simp only[setLog_h,setLog_nx]at this;exact⟨by omega,this.2⟩
theorem Reg.facts(R:Reg C ih bd rd nt ops q T' G' F' hg0):∀i,i<=ops.size->WF (G' i):=by
 intro i
 induction i with
 |zero=>intro _;exact R.wf0
 | succ i ih' =>
  intro h;have ho:ops[i]?=some ops[i]:=Wg (by omega);exact (TraAt.facts R.hC R.hi (R.tra i _ ho) (ih' (by omega))).1
theorem Reg.at(R:Reg C ih bd rd nt ops q T' G' F' hg0){i:Nat}(h:i<ops.size) :
  (G' i).nx<=(G' (i+1)).nx/\(∀id,id ∉ (F' i).wr->(G' (i+1)).h.get id=(G' i).h.get id)/\∀id∈(F' i).wr,id<(G' (i+1)).nx/\((G' i).h.get id=.none->(G' i).nx<=id):=by
 have ho:ops[i]?=some ops[i]:=Wg h;exact (TraAt.facts R.hC R.hi (R.tra i _ ho) (R.facts i (by omega))).2
theorem Reg.nx_mono(R:Reg C ih bd rd nt ops q T' G' F' hg0){i:Nat}(h:i<=j)(hj:j<=ops.size):(G' i).nx<=(G' j).nx:=by
 induction j with
 | zero=>have:i=0:=by omega
         subst this;exact Vu _
 | succ j ih' =>
  by_cases hij:i=j+1
  ·subst hij;exact Vu _
  ·exact VR (ih' (by omega) (by omega)) (R.at (by omega)).1
theorem Reg.keepT(R:Reg C ih bd rd nt ops q T' G' F' hg0)(hj:j<ops.size){s:Nat}(h:iO ops j≠some s):(T' (j+1)).get AV.undef s=(T' j).get AV.undef s:=by
 have ho:ops[j]?=some ops[j]:=Wg hj;obtain⟨out,gd,k,_,h'⟩:=R.tra j _ ho;have key:∀x,(out.run (T' j) x).get AV.undef s=(T' j).get AV.undef s:=by
  intro x;simp only[iO,ho,XS]at h;cases hd:ops[j].dst with
  |none=>rw[hd]at k;simp[vJ]at k;subst k;rfl
  | some d =>
   rw[hd]at k h;simp only[vJ,aa]at k
   split at k
   ·injection k with k;subst k;rw[sp_get,Vz];rintro rfl;exact h rfl
   ·cases k
 rcases h' with⟨_,h1,_⟩|⟨_,r,_,_,_,h1,_⟩
 ·rw[h1,key]
 ·rw[h1,key]
def Down(ops:Array Oper)(S:Nat->Prop):Prop:=∀j o,ops[j]?=some o->S j->∀e∈o.after.toList,Region.binds .any e=true->S e.on
theorem Down.mask{S:Nat->Prop}(h:Down ops S){i:Nat}(hb:((bA ops.toList []).getD j 0).testBit i=true)(hj:S j):S i :=
 Bp (S:=S) (all:=ops.toList) (λj o ho=>h j o (by simpa using ho)) ops.toList [] [] rfl rfl (λj i hj=>by simp at hj) j i hb hj
theorem Qo(S:Nat->Prop):∀n,∃t:T,∀s,t.get AV.undef s=ov S (λi s=>iO ops i=some s) (λi s=>(T' i).get AV.undef s) (λs=>(T' 0).get AV.undef s) n s:=by
 intro n
 induction n with
 |zero=>exact⟨T' 0,λs=>rfl⟩
 | succ n ih' =>
  obtain⟨t,ht⟩:=ih'
  by_cases hS:S n
  ·cases hd:iO ops n with
   |none=>exact⟨t,λs=>by simp only[ov];rw[Vz (by rw[hd];simp)];exact ht s⟩
   | some d =>
    refine⟨(sp AV.undef d).run t ((T' (n+1)).get AV.undef d),λs=>?_⟩;rw[sp_get];simp only[ov]
    by_cases hs:s=d
    ·subst hs;rw[VC rfl,VC ⟨hS,hd⟩]
    ·rw[Vz hs,Vz (by rw[hd];rintro⟨_,h⟩;exact hs (by injection h with h;exact h.symm))];exact ht s
  ·exact⟨t,λs=>by simp only[ov];rw[Vz (λh=>hS h.1)];exact ht s⟩
structure Inv (C:Cfg) (A:Nat->Nat->Prop) (bd nt:Nat) (ops:Array Oper) (T':Nat->T) (G':Nat->G) (F':Nat->Foot) (hg0:Nat->AObj) (N:Nat) (w0:World) (γ0:Gm) (df0:List Deferred)
  (S:Nat->Prop) (a:Act) (w:World) (γ:Gm) (hg:Nat->AObj):Prop where
 rel:Rel C A bd w γ hg N
 stp:Stp w0 γ0 w γ
 size:a.tmps.size=nt
 slots:∀s,RV w γ A bd (ov S (λi s=>iO ops i=some s) (λi s=>(T' i).get AV.undef s) (λs=>(T' 0).get AV.undef s) ops.size s) (a.tmps.getD s undef)
 objs:∀id,hg id=ov S (λi id=>id∈(F' i).wr) (λi id=>(G' i).h.get id) hg0 ops.size id
 dfr:a.defers=df0
theorem pg{x y:Foot}(h:je x y=true){id:Nat}(hid:id∈x.wr):y.lk.big=false/\id ∉ y.wr/\id ∉ y.lk.rd/\id ∉ y.lk.sr.map (·.1):=by
 unfold je at h
 split at h
 ·rename_i he;rw[he]at hid;exact absurd hid VG
 ·simp only[Vx,Wl]at h;obtain⟨⟨⟨h1,h2⟩,k⟩,h4⟩:=h;refine⟨h1,λh=>?_,λh=>?_,λh=>?_⟩
  ·rw[md hid h]at h2;cases h2
  ·rw[md hid h]at k;cases k
  ·rw[md hid (FS h)]at h4;cases h4
theorem tJ{x y:Foot}(h:gc x y=true){id:Nat}(hid:id∈x.wr):y.lk.big=false/\id ∉ y.wr/\id ∉ y.lk.rd/\(id∈y.lk.sr.map (·.1)->∀p∈y.lk.sr,p∈x.lk.soft):=by
 unfold gc at h
 split at h
 ·rename_i he;rw[he]at hid;exact absurd hid VG
 ·simp only[Vx,Wl,Wh]at h;obtain⟨⟨⟨h1,h2⟩,k⟩,h4⟩:=h;refine⟨h1,λh=>?_,λh=>?_,λh p hp=>?_⟩
  ·rw[md hid h]at h2;cases h2
  ·rw[md hid h]at k;cases k
  ·rcases h4 with h4|h4
   ·rw[md hid (FS h)]at h4;cases h4
   ·exact H0 (VQ.1 h4 p hp)
theorem eM{x y:Foot}(h:bO x y=true):je x y=true/\gc y x=true:=by unfold bO at h;simpa using h
theorem lG{all:List Oper}{x y:Oper}(h:jU all x y=true) :
  (∀d,x.dst=some d->d ∉ uk all y/\y.dst≠some d)/\(∀d,y.dst=some d->d ∉ uk all x):=by
 unfold jU at h;simp only[Vx]at h;refine⟨λd hd=>?_,λd hd=>?_⟩
 ·have:=h.1;rw[hd]at this;simp only[Vx,Wl,bne_iff_ne,ne_eq]at this;exact⟨λhm=>(by have h1:=this.1;rw[X0.2 hm]at h1;cases h1),this.2⟩
 ·have:=h.2;rw[hd]at this;simp only[Wl]at this;intro hm;rw[X0.2 hm]at this;cases this
variable {N:Nat}{w0:World}{γ0:Gm}{df0:List Deferred}{S:Nat->Prop}{a:Act}{w:World}{γ:Gm}{hg:Nat->AObj}
variable {b:Frame}{i:Nat}{rest:List Nat}{k:List Item}{cs:List Frame}{o:Oper}
theorem Reg.good(R:Reg C ih bd rd nt ops q T' G' F' hg0)(I:Inv C A bd nt ops T' G' F' hg0 N w0 γ0 df0 S a w γ hg)(hin:i<=ops.size){id:Nat}
  (h:∀j,j<ops.size->id∈(F' j).wr->(S j↔j<i)) (hne:(G' i).h.get id≠.none):hg id=(G' i).h.get id:=by
 rw[I.objs id];rcases N8 (S:=S) (wr:=λi id=>id∈(F' i).wr) (val:=λi id=>(G' i).h.get id) (base:=hg0) (k:=id) hin (λj hj hw=>(R.at hj).2.1 id hw) h with⟨_,h2⟩|⟨_,h2,b⟩
 ·exact h2
 ·rw[h2,b];exact R.ext0 id (by rw[<-b];exact hne)
theorem Nn(R:Reg C ih bd rd nt ops q T' G' F' hg0)(I:Inv C A bd nt ops T' G' F' hg0 N w0 γ0 df0 S a w γ hg)(hN:(G' ops.size).nx<=N)
  (ho:ops[i]?=some o) (hS:¬S i) (hdown:Down ops S) (hready:∀e∈o.after.toList,Region.binds .any e=true->S e.on) (hcalm:vV b.kind cs) :
  ∃a' w' γ' hg',Inv C A bd nt ops T' G' F' hg0 N w0 γ0 df0 (λj=>S j\/j=i) a' w' γ' hg' /\
   Steps C.P (lone (b.atR a (.inRegion ops (i::rest)::k)) cs w) (lone (b.atR a' (.inRegion ops rest::k)) cs w'):=by
 have hi:i<ops.size:=(Xo.1 ho).1;have h7:Down ops (λj=>S j\/j=i):=by
  intro j oj t E e he hb;rcases E with E|rfl
  ·exact .inl (hdown j oj t E e he hb)
  ·rw[ho]at t;injection t with t;subst t;exact .inl (hready e he hb)
 have ahead:∀j,j≠i->((bA ops.toList []).getD i 0).testBit j=true->S j:=by
  intro j E hb;rcases h7.mask hb (.inr rfl) with h|h
  ·exact h
  ·exact absurd h E
 have behind:∀j,S j->((bA ops.toList []).getD j 0).testBit i≠true:=λj E hb=>hS (hdown.mask hb E);have O:iO ops i=o.dst:=by simp[iO,ho]
 have k4:∀s∈uk ops.toList o,ov S (λi s=>iO ops i=some s) (λi s=>(T' i).get AV.undef s) (λs=>(T' 0).get AV.undef s) ops.size s=(T' i).get AV.undef s:=by
  intro s hs;have h:∀j,j<ops.size->iO ops j=some s->(S j↔j<i):=by
   intro j E hd;have t:ops[j]?=some ops[j]:=Wg E;have h6:ops[j].dst=some s:=by simpa [iO,t] using hd
   constructor
   ·intro p;rcases Nat.lt_trichotomy j i with h|h|h
    ·exact h
    ·subst h;exact absurd p hS
    ·rcases R.slots i j _ _ h ho t with hb|hb
     ·exact absurd hb (behind j p)
     ·exact absurd hs ((lG hb).2 s h6)
   ·intro hlt;rcases R.slots j i _ _ hlt t ho with hb|hb
    ·exact ahead j (by omega) hb
    ·exact absurd hs ((lG hb).1 s h6).1
  rcases N8 (S:=S) (wr:=λi s=>iO ops i=some s) (val:=λi s=>(T' i).get AV.undef s) (base:=λs=>(T' 0).get AV.undef s) (k:=s) (by omega:i<=ops.size) (λj E hw=>R.keepT E hw) h with⟨_,h2⟩|⟨_,h2,Y⟩
  ·exact h2
  ·rw[h2,<-Y]
 obtain⟨ts,k5⟩:=Qo (ops:=ops) (T':=T') S ops.size;have h8:TR w γ A bd nt ts a.tmps:=⟨I.size,λs=>by rw[k5 s];exact I.slots s⟩;have k8:∀s∈uk ops.toList o,ts.get AV.undef s=(T' i).get AV.undef s:=λs hs=>by rw[k5 s,k4 s hs]
 have J:Cz C ts (T' i) o.op.operands.toList:=by intro x hx s hs;refine Hy hs λn hn=>k8 n ?_;subst hn;exact XP _ (List.mem_filterMap.2 ⟨_,hx,rfl⟩)
 obtain⟨out,gd,c,hy,hk⟩:=R.tra i o ho;have kb:gd.run ts=gd.run (T' i):=by refine DI hy λj b' oj d hg' t hd=>k8 d ?_;refine XD _ ?_;simp only[hg',t,hd];simp
 have ki:∀s,iO ops i=some s->∀j,i<j->j<ops.size->S j->¬iO ops j=some s:=by
  intro s hd j T E p h6;have t:ops[j]?=some ops[j]:=Wg E;rcases R.slots i j _ _ T ho t with hb|hb
  ·exact behind j p hb
  ·exact ((lG hb).1 s (O ▸ hd)).2 (by simpa [iO,t] using h6)
 have slots':∀{w':World} {γ':Gm} {x:AV} {v:Value},Stp w γ w' γ'->RV w' γ' A bd x v->T' (i+1)=out.run (T' i) x ->
   (a.put o.dst v).tmps.size=nt/\∀s,RV w' γ' A bd (ov (λj=>S j\/j=i) (λi s=>iO ops i=some s) (λi s=>(T' i).get AV.undef s) (λs=>(T' 0).get AV.undef s) ops.size s) ((a.put o.dst v).tmps.getD s undef):=by
  intro w' γ' x v a3 hv hT;have h1:=(h8.step a3).put c hv;refine⟨h1.1,λs=>?_⟩;have h2:=h1.2 s
  by_cases hs:iO ops i=some s
  ·rw[N7 (wr:=λi s=>iO ops i=some s) hi hs (ki s hs),hT];rw[O]at hs;rw[hs]at c h2 ⊢;simp only[vJ,aa]at c
   split at c
   ·injection c with c;subst c;simp only[sp_get,if_true]at h2 ⊢;exact h2
   ·cases c
  ·rw[EH (wr:=λi s=>iO ops i=some s) hs,<-k5 s];have:(out.run ts x).get AV.undef s=ts.get AV.undef s:=by
    cases hd:o.dst with
    |none=>rw[hd]at c;simp[vJ]at c;subst c;rfl
    | some d =>
     rw[hd]at c;simp only[vJ,aa]at c
     split at c
     ·injection c with c;subst c;rw[sp_get,Vz];rintro rfl;exact hs (by rw[O,hd])
     ·cases c
   rw[this]at h2;exact h2
 rcases hk with⟨hq,hT,hG,hW⟩|⟨hq,r,hr,k2,ky,hT,hH,hW,kl,k1⟩
 ·
  rw[<-kb]at hq;have hw:=t8 hy h8 hq;obtain⟨s1,s2⟩:=slots' (Stp.refl w γ) nE hT;refine⟨_,w,γ,hg,⟨I.rel,I.stp,s1,s2,λid=>?_,?_⟩,.one (y5 ho hw)⟩
  ·rw[I.objs id];exact (EH (by rw[hW];exact VG)).symm
  ·have:=I.dfr;cases hd:o.dst<;>simpa [Act.put,hd] using this
 ·
  rw[<-kb]at hq;have hw:=t8 hy h8 hq;have a4:WF (aN (G' i) []):=(R.facts i (by omega)).setLog;rw[<-Hv J]at hr;have ht:Free γ (aN (G' i) []) (gOf (aN (G' i) []) r):=by
   intro id h1 h2;simp only[setLog_nx]at h1;rw[I.rel.none_iff,I.objs id,EI (m:=0) (Wp _)]
   ·exact R.free0 id (VR (R.nx_mono (Wp i) (by omega)) h1) (VR h2 (VR kl (R.nx_mono (by omega) (Vu _))))
   ·intro j _ E p hw;cases q with
    |true=>rw[R.quiet rfl j E]at hw;exact VG hw
    | false =>
     have hlt:id<(G' (i+1)).nx:=by have:=(k1 rfl).2;omega
     rcases Nat.lt_trichotomy j i with h|h|h
     ·have:=((R.at E).2.2 id hw).1;have:=R.nx_mono (show j+1<=i by omega) (by omega);omega
     ·subst h;exact hS p
     ·have a5:id∈(F' i).wr:=W6 λhn=>by
       have key:∀m,i<m->m<=j->(G' m).h.get id=.none:=by
        intro m
        induction m with
        |zero=>intro h;omega
        | succ m ihm =>
         intro ab ad
         by_cases hmi:m=i
         ·subst hmi;rw[(R.at (by omega)).2.1 id hn];exact R.facts m (by omega) id h1
         ·have:=ihm (by omega) (by omega)
          by_cases hm:id∈(F' m).wr
          ·have Y:=((R.at (i:=m) (by omega)).2.2 id hm).2 this;have h4:=R.nx_mono (show i+1<=m by omega) (by omega);omega
          ·rw[(R.at (by omega)).2.1 id hm];exact this
       have Y:=((R.at E).2.2 id hw).2 (key j h (Vu _));have h4:=R.nx_mono (show i+1<=j by omega) (by omega);omega
      rcases R.apart i j h E with hb|hb
      ·exact behind j p hb
      ·exact (pg (eM hb).1 a5).2.1 hw
  have fin:∀{gs:G} {u:Value} {w':World} {γ':Gm} {hg':Nat->AObj},Fin C A bd w γ hg N gs w' γ' hg' (gOf (aN (G' i) []) r)->gs.lg=[]->RV w' γ' A bd (vOf r) u ->
    Steps C.P (lone (b.atR a (.inRegion ops (i::rest)::k)) cs w) (lone (b.atR (a.put o.dst u) (.inRegion ops rest::k)) cs w') ->
    ∃a' w' γ' hg',Inv C A bd nt ops T' G' F' hg0 N w0 γ0 df0 (λj=>S j\/j=i) a' w' γ' hg' /\
     Steps C.P (lone (b.atR a (.inRegion ops (i::rest)::k)) cs w) (lone (b.atR a' (.inRegion ops rest::k)) cs w'):=by
   intro gs u w' γ' hg' f kv hv st;obtain⟨s1,s2⟩:=slots' f.stp hv hT;have kw:(gOf (aN (G' i) []) r).nx<=N:=VR kl (VR (R.nx_mono (by omega) (Vu _)) hN);refine⟨_,w',γ',hg',⟨?_,I.stp.trans f.stp,s1,s2,λid=>?_,?_⟩,st⟩
   ·have:=f.rel;rw[show Nat.max N (gOf (aN (G' i) []) r).nx=N from Nat.max_eq_left kw]at this;exact this
   ·obtain⟨n,e1,e2,e3⟩:=f.new;have en:(F' i).wr=n:=by rw[hW,e1,kv,VV]
    by_cases D:id∈(F' i).wr
    ·rw[e2 id (en ▸ D),<-hH];refine (N7 (wr:=λi id=>id∈(F' i).wr) (val:=λi id=>(G' i).h.get id) hi D λj T E p hw=>?_).symm;rcases R.apart i j T E with hb|hb
     ·exact behind j p hb
     ·exact (pg (eM hb).1 D).2.1 hw
    ·rw[e3 id (en ▸ D),I.objs id];exact (EH (wr:=λi id=>id∈(F' i).wr) D).symm
   ·have:=I.dfr;cases hd:o.dst<;>simpa [Act.put,hd] using this
  have K:∀id,(q=false->(F' i).lk.big=true\/id∈(F' i).lk.rd\/(id∈(F' i).lk.sr.map (·.1)/\∀j,i<j->j<ops.size->S j->id ∉ (F' j).wr)) ->
    (G' i).h.get id≠.none->hg id=(G' i).h.get id:=by
   intro id F B;refine R.good I (by omega) (λj E hw=>?_) B;cases q with
   |true=>rw[R.quiet rfl j E]at hw;exact absurd hw VG
   | false =>
    have F:=F rfl;constructor
    ·intro p;rcases Nat.lt_trichotomy j i with h|h|h
     ·exact h
     ·subst h;exact absurd p hS
     ·rcases R.apart i j h E with hb|hb
      ·exact absurd hb (behind j p)
      ·obtain⟨h1,h2,Y,h4⟩:=tJ (eM hb).2 hw;rcases F with hl|hl|⟨_,hl⟩
       ·rw[h1]at hl;cases hl
       ·exact absurd hl Y
       ·exact absurd hw (hl j h E p)
    ·intro hlt;rcases R.apart j i hlt hi with hb|hb
     ·exact ahead j (by omega) hb
     ·obtain⟨h1,h2,Y,h4⟩:=pg (eM hb).1 hw;rcases F with hl|hl|⟨hl,_⟩
      ·rw[h1]at hl;cases hl
      ·exact absurd hl Y
      ·exact absurd hl h4
  have hp:(aO C o.op).run ts (aN (G' i) [])=(aO C o.op).run (T' i) (G' i):=Fm (by simp) J
  by_cases hsoft:q=false/\∃id j,id∈(F' i).lk.sr.map (·.1)/\i<j/\j<ops.size/\S j/\id∈(F' j).wr
  ·
   obtain⟨rfl,id,j,D,T,E,p,X⟩:=hsoft;have U:=(k1 rfl).1;have t:ops[j]?=some ops[j]:=Wg E;have a9:((bA ops.toList []).getD j 0).testBit i=false:=by have:=behind j p;simpa using this
   have ks:bO (F' i) (F' j)=true:=(R.apart i j T E).resolve_left (behind j p);obtain⟨_,_,_,h4⟩:=tJ (eM ks).2 X;have h4:=h4 D;have W:(F' i).lk.sr≠[]:=by intro h;rw[h]at D;simp at D
   rw[U]at W;obtain⟨ty,x,kx,a0,km,k6,ka⟩:=Td W;rw[km]at hr;obtain⟨a1,kk,kt,et,z,Z,al,hu,hz,a6,M⟩:=Fn hr k2;rw[k6]at Z;injection Z with Z;subst Z;have kq:∃v,r=.val v:=by
    rw[M];have:Small (aN (G' i) []) (dL (cJ C.P kt) z false a0.run kk.run ts (aN (G' i) [])):=by
     unfold dL;rw[aa]
     repeat' split
     all_goals trivial
    cases hrr:dL (cJ C.P kt) z false a0.run kk.run ts (aN (G' i) []) with
    |fail=>rw[hrr]at M;exact absurd M k2
    |val v=>exact⟨v,rfl⟩
    | upd v g' =>
     exfalso;unfold dL at hrr;rw[aa]at hrr
     repeat' (split at hrr)
     all_goals cases hrr
    |dfr x=>rw[hrr]at this;exact this.elim
   obtain⟨v,hv⟩:=kq;subst hv;have ea0:a0.run ts=a0.run (T' i):=J x (by rw[km];simp[Op.operands]) a0 k6;have H:id∈aw (a0.run (T' i)):=by rw[U,ka]at D;simpa using D
   have hmap:∃es,a0.run ts=.hmap id/\(G' i).h.get id=.map es:=by
    have l:=M.symm;unfold dL at l;rw[aa]at l
    split at l
    ·rw[<-ea0]at H;generalize a0.run ts=y at H l;cases y<;>simp[aw]at H
     ·cases l
     ·cases l
     ·subst H;simp only[G.get_eq,setLog_h]at l
      split at l
      ·rename_i es Q
       split at Q
       ·rename_i es' k9;injection Q with Q;subst Q;exact⟨_,rfl,k9⟩
       ·cases Q
      ·cases l
    ·cases l
   obtain⟨es,aq,ar⟩:=hmap;have V:(id,ty)∈(F' j).lk.soft:=h4 _ (by rw[U,ka];simpa using H);obtain⟨outj,gdj,a2,a7,h5⟩:=R.tra j _ t;rcases h5 with⟨_,_,_,hh⟩|⟨_,rj,kn,hc,kf,ai,ag,hh,a8,kd⟩
   ·rw[hh]at X;exact absurd X VG
   rw[(kd rfl).1]at V;obtain⟨xj,kj,aj,hf,kr,kc⟩:=QM V;dsimp only at hf kc;rw[hf]at kn;obtain⟨aj',kkj,ktj,etj,zj,L,ao,h9,ha,k3⟩:=BM kn hc;rw[kr]at L;injection L with L;subst L;rw[hu]at h9;injection h9 with h9;injection h9 with ko kp;subst ko;subst kp;rw[hz]at ha;injection ha with ha;subst ha;cases rj with
   |fail=>exact absurd rfl hc
   |val v=>rw[hh]at X;simp[gOf]at X
   |dfr x=>exact absurd rfl (kf x)
   | upd vj gj =>
    exact absurd k3 (λh=>by have h:OR.upd vj gj=.fail:=h;cases h)
  ·have k7:Agr ((aO C o.op).run ts (aN (G' i) [])) (aN (G' i) []) hg:=by
    cases hqq:q with
    | true =>
     refine Ext.agr λid B=>?_;simp only[setLog_h]at B ⊢;refine K id (λh=>?_) B;rw[hqq]at h;cases h
    | false =>
     rw[hp,<-(k1 hqq).1];unfold Agr
     split
     ·rename_i hb;exact λid B=>by simp only[setLog_h]at B ⊢;exact K id (λ_=>.inl hb) B
     ·intro id D B;simp only[setLog_h]at B ⊢;refine K id (λ_=>.inr ?_) B;rcases V7.1 D with h|h
      ·exact .inl h
      ·exact .inr ⟨h,λj h1 h2 Y h4=>hsoft ⟨hqq,id,j,h,h1,h2,Y,h4⟩⟩
   obtain⟨u,w',γ',hg',f,rv,st⟩:=N4 (b:=b) (cs:=cs) (rest:=rest) (k:=k) R.hC R.hi I.rel a4 h8 hcalm k7 hr k2 ky ht ho hw;exact fin f (by simp) rv st
end
end
section
variable {C:Cfg}{A:Nat->Nat->Prop}{bd:Nat}{ih:IH}{rd:Option Nat}{nt:Nat}{ops:Array Oper}{q:Bool}{T':Nat->T}{G':Nat->G}{F':Nat->Foot}{hg0:Nat->AObj}
variable {N:Nat}{w0:World}{γ0:Gm}{df0:List Deferred}{b:Frame}{k:List Item}{cs:List Frame}
theorem Po(R:Reg C ih bd rd nt ops q T' G' F' hg0)(hN:(G' ops.size).nx<=N)(hedge:∀i o,ops[i]?=some o->∀e∈o.after.toList,Region.binds .any e=true->e.on<i)(hcalm:vV b.kind cs) :
  ∀(fuel tq:Nat) (listed:Array Bool) (S:Nat->Prop) {a:Act} {w:World} {γ:Gm} {hg:Nat->AObj},listed.size=ops.size->(∀j,S j↔listed.getD j false=true)->Down ops S ->
   cnt (λj=>!listed.getD j true) ops.size<=fuel->Inv C A bd nt ops T' G' F' hg0 N w0 γ0 df0 S a w γ hg ->
   ∃a' w' γ' hg',Inv C A bd nt ops T' G' F' hg0 N w0 γ0 df0 (λj=>j<ops.size) a' w' γ' hg' /\
    Steps C.P (lone (b.atR a (.inRegion ops (Region.linearise.go .any ops fuel tq listed [])::k)) cs w) (lone (b.atR a' (.inRegion ops []::k)) cs w'):=by
 have done:∀{listed:Array Bool} {S:Nat->Prop} {a:Act} {w:World} {γ:Gm} {hg:Nat->AObj},listed.size=ops.size->(∀j,S j↔listed.getD j false=true) ->
   (∀j,j<ops.size->listed.getD j true=true)->Inv C A bd nt ops T' G' F' hg0 N w0 γ0 df0 S a w γ hg->Inv C A bd nt ops T' G' F' hg0 N w0 γ0 df0 (λj=>j<ops.size) a w γ hg:=by
  intro listed S a w γ hg n hS c I;have e:S=λj=>j<ops.size:=by
   funext j;refine propext ⟨λh=>?_,λh=>?_⟩
   ·rw[hS]at h;rcases XI j ops.size with h'|h'
    ·exact h'
    ·simp[Ws,XT (by omega:listed.size<=j)]at h
   ·rw[hS];have:=c j h;have hlt:j<listed.size:=by omega
    simpa [Array.getD,hlt] using this
  rw[<-e];exact I
 intro fuel
 induction fuel with
 | zero =>
  intro tq listed S a w γ hg n hS f hc I;have hz:=Mq (Nat.le_zero.1 hc);refine⟨a,w,γ,hg,done n hS (λj d=>by simpa using hz j d) I,?_⟩;simp only[Region.linearise.go,VN];exact Steps.refl _ _
 | succ fuel ihf =>
  intro tq listed S a w γ hg n hS f hc I;simp only[Region.linearise.go];change ∃a' w' γ' hg',_/\Steps C.P (lone (b.atR a (.inRegion ops (match (Region.ready .any ops listed)[tq % (Region.ready .any ops listed).length]? with
   |some i=>Region.linearise.go .any ops fuel (tq / (Region.ready .any ops listed).length) (listed.setIfInBounds i true) [i]
   |none=>[].reverse)::k)) cs w) _
  cases hi:(Region.ready .any ops listed)[tq % (Region.ready .any ops listed).length]? with
  | none =>
   have u:Region.ready .any ops listed=[]:=by
    cases hr:Region.ready .any ops listed with
    |nil=>rfl
    | cons x xs =>
     rw[hr]at hi;have hlt:tq % (x::xs).length<(x::xs).length:=WP _ (by simp);rw[Vt hlt]at hi;cases hi
   have c:∀j,j<ops.size->listed.getD j true=true:=by
    intro j
    induction j using Nat.strongRecOn with
    | _ j ihj =>
     intro d;refine W6 λs=>?_;have s:listed.getD j true=false:=by simpa using s
     have:j∈Region.ready .any ops listed:=by
      rw[mem_ready];refine⟨s,ops[j],Wg d,λe he hb=>?_⟩;have hlt:=hedge j _ (Wg d) e (by simpa using he) hb;have h1:=ihj e.on hlt (by omega);have hl:e.on<listed.size:=by omega
      simpa [Array.getD,hl] using h1
     rw[u]at this;exact absurd this VG
   exact⟨a,w,γ,hg,done n hS c I,by simp only[VN];exact Steps.refl _ _⟩
  | some i =>
   have t:=VA hi;obtain⟨r,o,ho,c⟩:=mem_ready.1 t;have z:i<ops.size:=(Xo.1 ho).1;have v:¬S i:=by
    rw[hS];have hl:i<listed.size:=by omega
    simp[Array.getD,hl]at r ⊢;exact r
   have l:∀e∈o.after.toList,Region.binds .any e=true->S e.on:=λe he hb=>by rw[hS];exact c e (by simpa using he) hb
   simp only[];rw[linearise_go_acc,List.reverse_singleton,List.singleton_append];obtain⟨a1,w1,γ1,B,I1,st1⟩:=Nn (b:=b) (k:=k) (cs:=cs) (rest:=Region.linearise.go .any ops fuel (tq / (Region.ready .any ops listed).length) (listed.setIfInBounds i true) []) R I hN ho v f l hcalm;obtain⟨a2,D,γ2,y,I2,st2⟩:=ihf (tq / (Region.ready .any ops listed).length) (listed.setIfInBounds i true) (λj=>S j\/j=i) (by simp[n]) (λj=>by
     rw[hS]
     by_cases d:j=i
     ·subst d;have hl:j<listed.size:=by omega
      simp[Array.getD,hl]
     ·simp only[Ws];rw[Xn (WD d)];simp[d]) (λj oj m d e he hb=>by
     rcases d with d|rfl
     ·exact .inl (f j oj m d e he hb)
     ·rw[ho]at m;injection m with m;subst m;exact .inl (l e he hb)) (by
     have:=RS (p:=λj=>!listed.getD j true) (q:=λj=>!(listed.setIfInBounds i true).getD j true) (λj d=>by
      by_cases hji:j=i
      ·subst hji;simpa using r
      ·simp only[Ws]at d ⊢;rw[Xn (WD hji)]at d;exact d) z (by simpa using r) (by
      have hl:i<listed.size:=by omega
      simp[Array.getD,hl])
     omega) I1
   exact⟨a2,D,γ2,y,I2,Steps.trans st1 st2⟩
theorem G2(h:g.lg=[]):aN g []=g:=by cases g;simp at h;subst h;rfl
theorem MQ:∀(l:List Oper) (i:Nat) {t:T} {df:List ADf} {g:G} {fs:List Foot} {e:Ex} {t':T} {df':List ADf} {g':G},
  (iN C nt pm ops.toList i l).run ih d rd t df g fs=.ok e t' df' g' ->
  e=.norm/\df'=df/\∃(T':Nat->T) (G':Nat->G) (F':Nat->Foot),T' i=t/\G' i=g/\T' (i+l.length)=t'/\G' (i+l.length)=g' /\
   (∀j o,l[j]?=some o->TraAt C ih d rd nt ops false o (T' (i+j)) (T' (i+j+1)) (G' (i+j)) (G' (i+j+1)) (F' (i+j))/\(G' (i+j+1)).lg=(F' (i+j)).wr++(G' (i+j)).lg) /\
   q9 pm (fs.reverse++(List.range l.length).map λj=>F' (i+j))=true:=by
 intro l
 induction l with
 | nil =>
  intro i t df g fs e t' df' g' h;simp only[iN,aa]at h
  split at h
  ·rename_i hf;injection h with h1 h2 w h4;subst h1;subst h2;subst w;subst h4;exact⟨rfl,rfl,λ_=>t,λ_=>g,λ_=>⟨ay,[]⟩,rfl,rfl,rfl,rfl,λj o h=>by simp at h,by simpa using hf⟩
  ·cases h
 | cons o rest ihl =>
  intro i t df g fs e t' df' g' h;have go:∀{t1:T} {g1:G} {f:Foot},(iN C nt pm ops.toList (i+1) rest).run ih d rd t1 df g1 (f::fs)=.ok e t' df' g' ->
    TraAt C ih d rd nt ops false o t t1 g g1 f->g1.lg=f.wr++g.lg ->
    e=.norm/\df'=df/\∃(T':Nat->T) (G':Nat->G) (F':Nat->Foot),T' i=t/\G' i=g/\T' (i+(o::rest).length)=t'/\G' (i+(o::rest).length)=g' /\
     (∀j o',(o::rest)[j]?=some o'->TraAt C ih d rd nt ops false o' (T' (i+j)) (T' (i+j+1)) (G' (i+j)) (G' (i+j+1)) (F' (i+j))/\(G' (i+j+1)).lg=(F' (i+j)).wr++(G' (i+j)).lg) /\
     q9 pm (fs.reverse++(List.range (o::rest).length).map λj=>F' (i+j))=true:=by
   intro t1 g1 f h c p;obtain⟨h1,h2,T1,G1,F1,a1,a2,q,a4,s,u⟩:=ihl (i+1) h;have ne:∀j,i+1+j≠i:=λj=>by omega
   refine⟨h1,h2,λm=>if m=i then t else T1 m,λm=>if m=i then g else G1 m,λm=>if m=i then f else F1 m,by simp,by simp,?_,?_,?_,?_⟩
   ·simp only[Wd];rw[Vz (by omega),show i+(rest.length+1)=i+1+rest.length by omega];exact q
   ·simp only[Wd];rw[Vz (by omega),show i+(rest.length+1)=i+1+rest.length by omega];exact a4
   ·intro j o' n;cases j with
    | zero =>
     simp at n;subst n;simp only[Xv,if_true];rw[Vz (by omega),Vz (by omega),a1,a2];exact⟨c,p⟩
    | succ j =>
     have:=s j o' (by simpa using n);rw[show i+(j+1)=i+1+j by omega];simp only[Vz (ne j),show i+1+j+1=i+1+(j+1) by omega,Vz (ne (j+1))];rw[show i+1+(j+1)=i+1+j+1 by omega];exact this
   ·rw[Wd,List.range_succ_eq_map,W4,List.map_map];simp only[Xv,if_true];rw[<-u];congr 1;simp only[VJ,W5,List.singleton_append];congr 2;refine WI λj _=>?_;simp only[Function.comp];rw[Vz (by omega),show i+(j+1)=i+1+j by omega]
  simp only[iN]at h
  split at h
  ·rename_i out gd k b;dsimp only at h
   split at h
   ·rename_i hq;generalize hr:(dC C o.op).run ih d rd t (aN g [])=r at h;cases r with
    |fail=>cases h
    | val v =>
     refine go (t1:=out.run t v) (g1:=j7 g g.lg) (f:=⟨(aO C o.op).run t g,[]⟩) h ⟨out,gd,k,b,.inr ⟨hq,_,hr,by simp,by simp,rfl,by simp[gOf],by simp[gOf],by simp[gOf],λ_=>⟨rfl,by simp[gOf]⟩⟩⟩ (by simp)
    | upd v g1 =>
     refine go (t1:=out.run t v) (g1:=j7 g1 (g1.lg++g.lg)) (f:=⟨(aO C o.op).run t g,g1.lg⟩) h ⟨out,gd,k,b,.inr ⟨hq,_,hr,by simp,by simp,rfl,by simp[gOf],by simp[gOf],by simp[gOf],λ_=>⟨rfl,by simp[gOf]⟩⟩⟩ (by simp)
    |dfr a=>cases h
   ·rename_i hq;exact go h ⟨out,gd,k,b,.inl ⟨hq,rfl,rfl,rfl⟩⟩ (by simp)
   ·cases h
  ·cases h
theorem Ma(hC:CfgOk C){op:Op}{x:ADf}(h:(dC C op).run ih d rd t g=.dfr x):∃c,op=.defer c:=by
 have iso:∀f args,an ih d g f args≠.dfr x:=by
  intro f args;unfold an
  repeat' (first|split|rw[aa])
  all_goals (intro h;cases h)
 have orf:∀r,orF r≠.dfr x:=by intro r h;cases r<;>cases h
 have rnd:∀id args,cL ih d id args g≠.dfr x:=by
  intro id args;unfold cL
  repeat' split
  all_goals (intro h;cases h)
 unfold dC at h
 split at h
 rotate_left
 ·cases h
 rename_i f k;unfold cOp at k
 split at k
 ·split at k
  ·split at k
   ·rename_i e he;injection k with k;subst k;exact absurd h (hC.noDfr _ _ he _ _ _ _)
   ·rw[aa]at k
    split at k
    ·injection k with k;subst k;exact absurd h (iso _ _)
    ·injection k with k;subst k;exact absurd h (orf _)
  ·cases k
 ·split at k
  ·injection k with k;subst k;dsimp only at h;unfold j8 at h
   split at h
   ·split at h
    ·rename_i e he;exact absurd h (hC.noDfr _ _ he _ _ _ _)
    ·rw[aa]at h
     split at h
     ·exact absurd h (iso _ _)
     ·exact absurd h (orf _)
   ·exact absurd h (rnd _ _)
   ·cases h
  ·cases k
 ·injection k with k;subst k;cases h
 ·exact⟨_,rfl⟩
 ·split at k
  ·rename_i s hs;injection k with k;subst k;have:=yA (t:=t) (g:=g) hs;have h:s.run t g=.dfr x:=h;rw[h]at this;exact this.elim
  ·cases k
theorem Ln(hC:CfgOk C)(hi:IHOk C ih):∀(l:List Oper) (i:Nat) {t:T} {df:List ADf} {g:G} {e:Ex} {t':T} {df':List ADf} {g':G},
  (jE C nt ops.toList l).run ih d rd t df g=.ok e t' df' g'->(∀o∈l,zS C o.op=true)->g.lg=[]->g'.lg=[]->WF g ->
  e=.norm/\df'=df/\∃(T':Nat->T) (G':Nat->G) (F':Nat->Foot),T' i=t/\G' i=g/\T' (i+l.length)=t'/\G' (i+l.length)=g' /\
   (∀j o,l[j]?=some o->TraAt C ih d rd nt ops true o (T' (i+j)) (T' (i+j+1)) (G' (i+j)) (G' (i+j+1)) (F' (i+j)))/\∀j,(F' j).wr=[]:=by
 intro l
 induction l with
 | nil =>
  intro i t df g e t' df' g' h _ _ _ _;simp only[jE]at h;injection h with h1 h2 H h4;subst h1;subst h2;subst H;subst h4;exact⟨rfl,rfl,λ_=>t,λ_=>g,λ_=>⟨ay,[]⟩,rfl,rfl,rfl,rfl,λj o h=>by simp at h,λ_=>rfl⟩
 | cons o rest ihl =>
  intro i t df g e t' df' g' h hq s q p;have go:∀{t1:T} {g1:G},(jE C nt ops.toList rest).run ih d rd t1 df g1=.ok e t' df' g'->g1.lg=[]->WF g1 ->
    TraAt C ih d rd nt ops true o t t1 g g1 ⟨ay,[]⟩ ->
    e=.norm/\df'=df/\∃(T':Nat->T) (G':Nat->G) (F':Nat->Foot),T' i=t/\G' i=g/\T' (i+(o::rest).length)=t'/\G' (i+(o::rest).length)=g' /\
     (∀j o',(o::rest)[j]?=some o'->TraAt C ih d rd nt ops true o' (T' (i+j)) (T' (i+j+1)) (G' (i+j)) (G' (i+j+1)) (F' (i+j)))/\∀j,(F' j).wr=[]:=by
   intro t1 g1 h f B z;obtain⟨h1,h2,T1,G1,F1,a1,a2,D,a4,E,F⟩:=ihl (i+1) h (λo' ho'=>hq o' (WK _ ho')) f q B;have ne:∀j,i+1+j≠i:=λj=>by omega
   refine⟨h1,h2,λm=>if m=i then t else T1 m,λm=>if m=i then g else G1 m,λm=>if m=i then ⟨ay,[]⟩ else F1 m,by simp,by simp,?_,?_,?_,?_⟩
   ·simp only[Wd];rw[Vz (by omega),show i+(rest.length+1)=i+1+rest.length by omega];exact D
   ·simp only[Wd];rw[Vz (by omega),show i+(rest.length+1)=i+1+rest.length by omega];exact a4
   ·intro j o' A;cases j with
    | zero =>
     simp at A;subst A;simp only[Xv,if_true];rw[Vz (by omega),Vz (by omega),a1,a2];exact z
    | succ j =>
     have:=E j o' (by simpa using A);rw[show i+(j+1)=i+1+j by omega];simp only[Vz (ne j),show i+1+j+1=i+1+(j+1) by omega,Vz (ne (j+1))];rw[show i+1+(j+1)=i+1+j+1 by omega];exact this
   ·intro j;dsimp only
    split
    ·rfl
    ·exact F j
  have exec:∀{out:Stg (T->AV->T)} {gd:Stg (T->Option Bool)},vJ nt o.dst=some out->jD ops.toList o.guard=some gd->gd.run t=some true ->
    pt out.run ((jE C nt ops.toList rest).run ih d rd) t df g ((dC C o.op).run ih d rd t g)=.ok e t' df' g' ->
    e=.norm/\df'=df/\∃(T':Nat->T) (G':Nat->G) (F':Nat->Foot),T' i=t/\G' i=g/\T' (i+(o::rest).length)=t'/\G' (i+(o::rest).length)=g' /\
     (∀j o',(o::rest)[j]?=some o'->TraAt C ih d rd nt ops true o' (T' (i+j)) (T' (i+j+1)) (G' (i+j)) (G' (i+j+1)) (F' (i+j)))/\∀j,(F' j).wr=[]:=by
   intro out gd k b x h;have hm:=mr (op:=o.op) (d:=d) (rd:=rd) (t:=t) hC.mon hi.mon p;generalize hr:(dC C o.op).run ih d rd t g=r at h hm;have y:(dC C o.op).run ih d rd t (aN g [])=r:=by rw[G2 s];exact hr
   cases r with
   |fail=>cases h
   | val v =>
    exact go (t1:=out.run t v) (g1:=g) h s p ⟨out,gd,k,b,.inr ⟨x,_,y,by simp,by simp,rfl,by simp[gOf],by simp[gOf],by simp[gOf],λh=>by cases h⟩⟩
   | upd v g1 =>
    have w1:WF g1:=hm.wf p;have I:=Al hC.mon hi.mon h w1;have f:g1.lg=[]:=by obtain⟨n,a,_,_⟩:=I.new;rw[q]at a;exact (List.append_eq_nil_iff.1 a.symm).2
    exact go (t1:=out.run t v) (g1:=g1) h f w1 ⟨out,gd,k,b,.inr ⟨x,_,y,by simp,by simp,rfl,by simp[gOf],by simp[gOf,f],by simp[gOf],λh=>by cases h⟩⟩
   | dfr a =>
    obtain⟨c,hc⟩:=Ma hC hr;have:=hq o WO;rw[hc]at this;simp[zS]at this
  simp only[jE]at h
  split at h
  ·rename_i out k
   split at h
   ·rename_i b;exact exec k (gd:=⟨λ_=>some true⟩) (by rw[b];rfl) rfl h
   ·rename_i gd0 b
    split at h
    ·rename_i gd u;rw[<-b]at u;dsimp only at h
     split at h
     ·rename_i w;exact exec k u w h
     ·rename_i w;exact go h s p ⟨out,gd,k,u,.inl ⟨w,rfl,rfl,rfl⟩⟩
     ·cases h
    ·cases h
  ·cases h
theorem JX{K V:Type}{wr:Nat->K->Prop}{val:Nat->K->V}{base:K->V}{k:K}:ov (λ_=>False) wr val base n k=base k:=by rw[EI (m:=0) (Wp _) (λ_ _ _ h=>h.elim)];rfl
theorem FC(R:Reg C ih bd rd nt ops q T' G' F' hg0)(hmix:C.P.follows .mixedOrders=true)(hedge:∀i o,ops[i]?=some o->∀e∈o.after.toList,Region.binds .any e=true->e.on<i)
  {w:World} {γ:Gm} {nx:Nat} {a:Act} {id:Nat} (hr:Rel C A bd w γ hg0 nx) (ht:TR w γ A bd nt (T' 0) a.tmps) (hcalm:vV b.kind cs) :
  ∃a' w' γ' hg',Rel C A bd w' γ' hg' (Nat.max nx (G' ops.size).nx)/\Stp w γ w' γ'/\TR w' γ' A bd nt (T' ops.size) a'.tmps/\a'.defers=a.defers /\
   (∀id,((∃j,j<ops.size/\id∈(F' j).wr)/\hg' id=(G' ops.size).h.get id)\/((∀j,j<ops.size->id ∉ (F' j).wr)/\hg' id=hg0 id)) /\
   Steps C.P (lone (b.atR a (.code (.region id ops true)::k)) cs w) (lone (b.atR a' k) cs w'):=by
 let w1:World:={ w with drawn:=w.drawn+1 }
 have s1:Stp w γ w1 γ:=Hb (Vu _) rfl rfl rfl λ_ _=>rfl;have l:Rel C A bd w1 γ hg0 nx:=hr.same s1 λ_ _=>rfl;have I0:Inv C A bd nt ops T' G' F' hg0 (Nat.max nx (G' ops.size).nx) w γ a.defers (λ_=>False) a w1 γ hg0:=by refine⟨l.up (Xf _ _),s1,ht.1,λs=>?_,λid=>by rw[JX],rfl⟩;rw[JX];exact (ht.2 s).step s1
 have f:cnt (λj=>!(Array.replicate ops.size false).getD j true) ops.size<=ops.size:=by
  generalize (λj=>!(Array.replicate ops.size false).getD j true)=p;generalize ops.size=n
  induction n with
  |zero=>exact Vu _
  |succ n ih'=>simp only[cnt];split<;>omega
 obtain⟨a',w',γ',hg',I,st⟩:=Po (b:=b) (k:=k) (cs:=cs) R (Xx _ _) hedge hcalm ops.size (w.tape w.drawn (.order b.fn id)) (Array.replicate ops.size false) (λ_=>False) (by simp)
  (λj=>by simp[Ws,Array.getElem?_replicate];split<;>simp) (λj o _ h=>h.elim) f I0
 have d:∀{K V:Type} {wr:Nat->K->Prop} {val:Nat->K->V} {base:K->V} {k:K},(∀j,j<ops.size->¬wr j k->val (j+1) k=val j k) ->
   ((∃j,j<ops.size/\wr j k)/\ov (λj=>j<ops.size) wr val base ops.size k=val ops.size k)\/((∀j,j<ops.size->¬wr j k)/\ov (λj=>j<ops.size) wr val base ops.size k=base k/\val ops.size k=val 0 k) :=
  λkeep=>N8 (Vu _) keep λj _ _=>Iff.rfl
 refine⟨a',w',γ',hg',I.rel,I.stp,⟨I.size,λs=>?_⟩,I.dfr,λid'=>?_,?_⟩
 ·have:=I.slots s;rcases d (wr:=λi s=>iO ops i=some s) (val:=λi s=>(T' i).get AV.undef s) (base:=λs=>(T' 0).get AV.undef s) (k:=s) (λj hj hw=>R.keepT hj hw) with⟨_,h⟩|⟨_,h,h2⟩
  ·rw[h]at this;exact this
  ·rw[h,<-h2]at this;exact this
 ·rw[I.objs id'];rcases d (wr:=λi id=>id∈(F' i).wr) (val:=λi id=>(G' i).h.get id) (base:=hg0) (k:=id') (λj hj hw=>(R.at hj).2.1 id' hw) with⟨h1,h⟩|⟨h1,h,_⟩
  ·exact .inl ⟨h1,h⟩
  ·exact .inr ⟨h1,h⟩
 ·refine .head stepR_region_draw ?_;have c:Region.schedule (C.P.follows .mixedOrders) ops (w.tape w.drawn (.order b.fn id))=Region.linearise.go .any ops ops.size (w.tape w.drawn (.order b.fn id)) (Array.replicate ops.size false) []:=by
   simp only[Region.schedule,hmix,Yl,if_true]
   rfl
  rw[c];exact Steps.trans st (.one stepR_region_end)
end
section
variable {body:Code}{df':List ADf}
section
variable {C:Cfg}{A:Nat->Nat->Prop}{bd:Nat}{w w':World}{γ γ':Gm}{hg:Nat->AObj}{nx:Nat}
variable {t:T}{g:G}{ih:IH}
def Tl(C:Cfg)(A:Nat->Nat->Prop)(bd nt:Nat)(b:Frame)(k:List Item)(cs:List Frame)(m:Machine)(w:World)(γ:Gm)(hg:Nat->AObj)(nx:Nat)(g:G)(e:Ex)(t':T)(df':List ADf)(g':G):Prop :=
 ∃a' w' γ' hg',Fin C A bd w γ hg nx g w' γ' hg' g'/\TR w' γ' A bd nt t' a'.tmps/\DR w' γ' A bd df' a'.defers/\Arr C.P m b k cs e a' w'
theorem Ib(hC:CfgOk C)(hi:IHOk C ih){ops:Array Oper}{draw:Bool}{rid:Nat}{e:Ex}
  (h:(fW C nt ops.toList draw).run ih (bd+1) rd t df g=.ok e t' df' g'):zC C bd nt rd (.region rid ops draw) t df g e t' df' g':=by
 intro A w γ hg nx b a k cs hr hx B hf ht E X l;unfold fW at h;rw[aa]at h
 split at h
 rotate_left
 ·rename_i c;have c:draw=false:=by simpa using c
  subst c;obtain⟨rfl,a',w',γ',hg',f,tr,dr,st⟩:=Mb (b:=b) (cs:=cs) (k:=k) hC hi ops.toList 0 (by simp) h B hr hx hf ht E X l;refine⟨a',w',γ',hg',f,tr,dr,.head stepR_region ?_⟩;rw[List.range_eq_range'];simpa using st
 rename_i c;subst c;rw[aa]at h
 split at h
 rotate_left
 ·cases h
 rename_i d;have d:pF 0 ops.toList=true/\m_ (bA ops.toList []) 0 ops.toList=true /\
   j6 (λi x j y=>((bA ops.toList []).getD j 0).testBit i || jU ops.toList x y) 0 ops.toList=true:=by
  simp only[EF,Vx]at d;exact⟨d.1.1,d.1.2,d.2⟩
 obtain⟨Q,S,U⟩:=d;have r:∀i o,ops[i]?=some o->∀e∈o.after.toList,Region.binds .any e=true->e.on<i:=by intro i o ho e he hb;have:=BY Q i o (by simpa using ho) e he hb;omega
 have m:∀i o j b,ops[i]?=some o->o.guard=some (j,b)->((bA ops.toList []).getD i 0).testBit j=true:=by intro i o j b ho hg';have:=AU S i o (by simpa using ho) j b hg';simpa using this
 have u:∀i j oi oj,i<j->ops[i]?=some oi->ops[j]?=some oj->((bA ops.toList []).getD j 0).testBit i=true\/jU ops.toList oi oj=true:=by intro i j oi oj F V W;have:=we U i j oi oj F (by simpa using V) (by simpa using W);simpa using this
 have N:∀id,(γ id).kind=0->hg id=.none:=λid h=>(hr.none_iff id).1 h;rw[aa]at h
 split at h
 ·
  rename_i hq;dsimp only at h;generalize hc:(jE C nt ops.toList ops.toList).run ih (bd+1) rd t df (aN g [])=cr at h;cases cr with
  |fail=>cases h
  | ok e1 t1 df1 g1 =>
   simp only[ny]at h;cases hlg:g1.lg with
   |cons x xs=>rw[hlg]at h;cases h
   | nil =>
    rw[hlg]at h;dsimp only at h;rw[aa]at h
    split at h
    rotate_left
    ·cases h
    rename_i z;have z:=bc z;injection h with h1 h2 L h4;subst h1;subst h2;subst L;subst h4;obtain⟨rfl,rfl,T',G',F',a1,a2,K,a4,J,D⟩:=Ln hC hi ops.toList 0 hc (λo ho=>VQ.1 hq o ho) (by simp) hlg B.setLog;simp only[WE,Array.length_toList]at K a4 J;have R:Reg C ih bd rd nt ops true T' G' F' hg:=by
     refine⟨hC,hi,λi o ho=>J i o (by simpa using ho),by rw[a2];exact B.setLog,by rw[a2];simpa using hx,λid h1 h2=>?_,λi j _ _=>.inr ?_,λi j j' _ _ _ _ _ _ hm=>?_,u,m,λ_ i _=>D i⟩
     ·rw[a2]at h1;rw[a4,z]at h2;exact N id (hf id (by simpa using h1) h2)
     ·simp[bO,je,gc,D]
     ·rw[D j]at hm;simp[meets]at hm
    obtain⟨a',w',γ',hg',s,v,I,q,p,st⟩:=FC (b:=b) (k:=k) (cs:=cs) (id:=rid) R hC.mixed r hr (by rw[a1];exact ht) l;have H:∀id,hg' id=hg id:=λid=>by
     rcases p id with⟨⟨j,_,h⟩,_⟩|⟨_,h⟩
     ·rw[D j]at h;exact absurd h VG
     ·exact h
    refine⟨a',w',γ',hg',⟨?_,v,⟨[],rfl,λ_ h=>absurd h VG,λid _=>H id⟩⟩,by rw[<-K];exact I,by rw[q];exact E.step v,st⟩;rw[a4,z]at s;exact s
 ·dsimp only at h;obtain⟨rfl,rfl,T',G',F',a1,a2,K,a4,J,D⟩:=MQ ops.toList 0 h;simp only[WE,Array.length_toList,VN,VH]at K a4 J D;obtain⟨b1,b2⟩:=IF D;have M:∀j,j<ops.size->((List.range ops.size).map F')[j]?=some (F' j):=λj hj=>by simp[XA hj]
  have R:Reg C ih bd rd nt ops false T' G' F' hg:=by
   refine⟨hC,hi,λi o ho=>(J i o (by simpa using ho)).1,by rw[a2];exact B,by rw[a2];exact hx,λid h1 h2=>?_,λi j F hj=>?_,λi j j' h1 h2 L h4 h5 h6 h7 h8=>?_,u,m,λh=>by cases h⟩
   ·rw[a2]at h1;rw[a4]at h2;exact N id (hf id h1 h2)
   ·have:=we b1 i j _ _ F (M i (by omega)) (M j hj);simpa using this
   ·exact EQ b2 i j j' _ _ _ h1 h2 (M i (by omega)) (M j (by omega)) (M j' L) h4 (by simpa using h5) (by simpa using h6) h7 h8
  obtain⟨a',w',γ',hg',s,v,I,q,p,st⟩:=FC (b:=b) (k:=k) (cs:=cs) (id:=rid) R hC.mixed r hr (by rw[a1];exact ht) l;have O:∀n,n<=ops.size->∃new,(G' n).lg=new++g.lg/\∀id,id∈new↔∃j,j<n/\id∈(F' j).wr:=by
   intro n
   induction n with
   |zero=>intro _;exact⟨[],by rw[a2];rfl,λid=>⟨λh=>absurd h VG,λ⟨j,h,_⟩=>absurd h (Nat.not_lt_zero j)⟩⟩
   | succ n ihn =>
    intro Y;obtain⟨new,e1,e2⟩:=ihn (by omega);have P:n<ops.size:=by omega
    have:=(J n ops[n] (by rw[Yz];exact Wg P)).2;refine⟨(F' n).wr++new,by rw[this,e1,W5],λid=>?_⟩;rw[V7,e2];constructor
    ·rintro (h|⟨j,h1,h2⟩)
     ·exact⟨n,by omega,h⟩
     ·exact⟨j,by omega,h2⟩
    ·rintro⟨j,h1,h2⟩
     by_cases hj:j=n
     ·subst hj;exact .inl h2
     ·exact .inr ⟨j,by omega,h2⟩
  obtain⟨new,e1,e2⟩:=O ops.size (Vu _);refine⟨a',w',γ',hg',⟨by rw[a4]at s;exact s,v,⟨new,by rw[<-a4];exact e1,λid hid=>?_,λid hid=>?_⟩⟩,by rw[<-K];exact I,by rw[q];exact E.step v,st⟩
  ·rcases p id with⟨_,h⟩|⟨h1,_⟩
   ·rw[h,a4]
   ·obtain⟨j,h2,L⟩:=(e2 id).1 hid;exact absurd L (h1 j h2)
  ·rcases p id with⟨h1,_⟩|⟨_,h⟩
   ·exact absurd ((e2 id).2 h1) hid
   ·exact h
theorem tT{b:Frame}{a:Act}{k:List Item}{cs:List Frame}{c:Code} :
  step P (lone (b.atR a (.code (.scope c)::k)) cs w)=.next (lone (b.atR a (.code c::.inScope c::k)) cs w) :=
 step_lone_go (by simp[stepG,stepG.exec,Frame.atR])
theorem Cy{b:Frame}{a:Act}{k:List Item}{cs:List Frame}{c:Code} :
  step P (lone (b.atR a (.inScope c::k)) cs w)=.next (lone (b.atR a k) cs w) :=
 step_lone_go (by simp[stepG,stepG.exec,Frame.atR])
theorem tU{m m1 X:Machine}(h:Steps P m X)(hne:m≠X)(hs:step P m=.next m1):Steps P m1 X:=by
 obtain⟨n,k⟩:=h;cases n with
 |zero=>simp[runN]at k;exact absurd k hne
 |succ n=>exact⟨n,by simpa [runN,hs] using k⟩
theorem Iu{b b':Frame}{a a':Act}{k k':List Item}{cs cs':List Frame}{w w':World}(h:lone (b.atR a k) cs w=lone (b'.atR a' k') cs' w'):k=k':=by
 have h1:(lone (b.atR a k) cs w).gs=(lone (b'.atR a' k') cs' w').gs:=by rw[h]
 simp only[lone,Array.mk.injEq,List.cons.injEq,and_true]at h1;have h2:=congrArg (λg:Goroutine=>g.frame.todo) h1;simpa [Frame.atR] using h2
theorem uN(hC:CfgOk C)(hi:IHOk C ih){fo:Operand}{s:Stg (T->AV)}{ps:Array Tmp}{dfr:Nat}{e:Ex}
  (hs:aV C fo=some s) (h:cP C ih nt (bd+1) rd (s.run t) ps.toList assign body t df dfr g=.ok e t' df' g')
  (hwf:WF g) {b:Frame} {a:Act} {k:List Item} {cs:List Frame} {mark:List Deferred} {blk:Nat}
  (hr:Rel C A bd w γ hg nx) (hx:Ext g.h hg) (hf:Free γ g g') (ht:TR w γ A bd nt t a.tmps) (hdf:DR w γ A bd df (mark++a.defers)) (hrd:RdOk γ rd b) (hcalm:vV b.kind cs)
  (hdfr:(γ dfr).kind=4/\(γ dfr).blk=blk) {w00:World}
  (henter:(Instr.enterLoop b.fn a.tmps ps assign body b.roundOf).run C.P w00=.ok (w.heap.size,mark) (World.add w (.loop { state:=.ready,pending:=none,fn:=b.fn,tmps:=a.tmps,params:=ps,assign,body,defers:=blk }))) :
  Tl C A bd nt b k cs (lone (b.atR a (.code (.rangeFunc fo ps assign body)::k)) cs w00) w γ hg nx g e t' df' g':=by
 unfold cP at h;have K:=aC hs ht hr;generalize hfo:a.eval fo=vf at K;generalize s.run t=y at h K;cases K with
 | clo _ f xs ys vs1 us1 hl hl2 h1 h2 =>
  dsimp only at h;rw[aa]at h
  split at h
  ·cases h
  split at h
  rotate_left
  ·cases h
  rename_i rv0 g2 q
  let L:Loop:={ state:=.ready,pending:=none,fn:=b.fn,tmps:=a.tmps,params:=ps,assign,body,defers:=blk }
  let w1:=World.add w (.loop L)
  let gh:Gh:=⟨3,0,0,0,w.heap.size,0,0,true⟩
  have B:Mon g (g.new (.loop nt t ps.toList assign body dfr .ready none)):=Mon.mk';have wf1:=B.wf hwf;have H:=hi.mon.call _ _ _ _ _ _ q wf1;have wf2:=H.wf wf1;have m3:=xe hi.mon h wf2;have j:(γ g.nx).kind=0:=hf g.nx (Vu _) (VR B.nx (VR H.nx m3.nx));have F:dfr≠g.nx:=by rintro rfl;rw[hdfr.1]at j;cases j
  obtain⟨r1,s1⟩:=hr.add (id:=g.nx) (gh:=gh) (o:=.loop L) (ao:=.loop nt t ps.toList assign body dfr .ready none) (nx':=Nat.max nx (g.nx+1)) j rfl (Xf _ _) (VL (YK _) (Xx _ _)) (by
   have s0:=ET (w:=w) (o:=.loop L) (gh:=gh) j rfl;refine⟨by simp[gh],by simp[gh],L,by rw[j5];simp[gh],rfl,rfl,rfl,rfl,rfl,ht.1,λi=>(ht.2 i).step s0,?_,?_⟩
   ·rw[cV _ _ F];exact hdfr.1
   ·rw[cV _ _ F];exact hdfr.2.symm)
  have f1:Fin C A bd w γ hg nx g w1 (upd γ g.nx gh) _ (g.new (.loop nt t ps.toList assign body dfr .ready none)):=Ty r1 s1;have h6:=f1.ext B hx;have h3:=f1.freed hr B hf;obtain⟨Q,W⟩:=hi.call _ _ _ _ _ _ q;have h8:RV w1 (upd γ g.nx gh) A bd (.yld g.nx) (.func (.yield w.heap.size) #[] #[]):=.yld _ _ _ (by simp[gh]) (by simp[gh]);have I:RVs w1 (upd γ g.nx gh) A bd (xs++(.yld g.nx::ys)) (vs1.toList++(.func (.yield w.heap.size) #[] #[]::us1.toList)):=by
   refine ((TE hl h1).step s1).append ?_;have hu:=(TE hl2 h2).step s1;refine⟨by simp[hu.1],λi x v hx' hv=>?_⟩;cases i with
   |zero=>simp at hx' hv;subst hx';subst hv;exact h8
   |succ i=>exact hu.2 i x v (by simpa using hx') (by simpa using hv)
  let a1:Act:={ a with defers:=mark++a.defers }
  let fr1:=b.atR a1 (.inRangeFunc w.heap.size::k)
  obtain⟨u,X,γ2,S,f2,_,fr,st,q1,q2,q3,q4,fn,q5,q6⟩:=W A w1 _ _ _ _ f1.rel h6 wf1 (h3.le m3.nx) I .normal (fr1::cs) (.inl rfl);have D:=f1.trans f2 B H;have h7:=D.ext (B.trans H) hx;have N:(vs1.toList++(.func (.yield w.heap.size) #[] #[]::us1.toList)).toArray=(vs1++#[.func (.yield w.heap.size) #[] #[]])++us1:=by apply Y5;simp
  rw[N]at st;have E:step C.P (lone (b.atR a (.code (.rangeFunc fo ps assign body)::k)) cs w00)=.next (lone (Frame.enter C.P f ((vs1++#[.func (.yield w.heap.size) #[] #[]])++us1) .normal) (fr1::cs) w1):=by
   refine stepR_rangeFunc (l:=w.heap.size) (mark:=mark) (w₁:=w1) (w₁':=w1) (d:={ target:=.fn (.func f) us1,args:=vs1++#[.func (.yield w.heap.size) #[] #[]] }) henter ?_ ?_
   ·simp only[resolve];rw[hfo];simp[Deferred.ofValue,Act.eval]
   ·exact Q _ _
  have R:fr1.finish u=b.atR a1 (.endRangeFunc w.heap.size::k):=finish_atR_inRangeFunc _ _;have J:Steps C.P (lone (b.atR a (.code (.rangeFunc fo ps assign body)::k)) cs w00) (lone (b.atR a1 (.endRangeFunc w.heap.size::k)) cs X):=by refine .head E (Steps.trans st (.one ?_));rw[<-R];exact step_leave_returned ⟨q1,q2,q3,fn,by rw[q4];exact q5,q6⟩
  unfold d_ at h
  split at h
  rotate_left
  ·cases h
  rename_i nt3 Z ps3 assign3 body3 dfr3 st3 pend3 n;have n:g2.h.get g.nx=.loop nt3 Z ps3 assign3 body3 dfr3 st3 pend3:=by simpa using n
  have U:S g.nx=.loop nt3 Z ps3 assign3 body3 dfr3 st3 pend3:=by rw[h7 g.nx (by rw[n];simp),n]
  have V:=D.rel.obj g.nx;rw[U]at V;obtain⟨k1,k2,L2,Y,k4,k5,k6,k7,k8,k9,ha,hc,hd⟩:=V;have O:(γ2 g.nx).blk=w.heap.size:=by have:=f2.stp.blk_eq (id:=g.nx) (by simp[gh]) (by simp[gh]);rw[this];simp[gh]
  obtain⟨r3,s3⟩:=D.rel.setLoop (st':=.exhausted) (pend':=pend3) U Y;rw[O]at Y r3 s3;have f3:Fin C A bd X γ2 S (Nat.max nx g2.nx) g2 _ γ2 _ (g2.put g.nx (.loop nt3 Z ps3 assign3 body3 dfr3 .exhausted pend3)):=Tz r3 s3;have M:Mon g2 (g2.put g.nx (.loop nt3 Z ps3 assign3 body3 dfr3 .exhausted pend3)):=Mon.put wf2 (by rw[n];simp);have m:=D.trans f3 (B.trans H) M;have h9:(γ2 g.nx).kind≠0:=by rw[k1];decide
  have r:st3≠.busy->(Instr.endLoop w.heap.size).run C.P X=.ok pend3 (World.setBlk X w.heap.size (.loop { L2 with state:=.exhausted,pending:=pend3 })):=by
   intro h5;unfold Instr.endLoop;have hb:(L2.state == LoopState.busy)=false:=by rw[k4];cases st3<;>first|rfl|exact absurd rfl h5
   simp only[VT,kJ Y,VD,hb,WV,if_false,Wq,tQ Y];subst k5
   rfl
  have z:Stp w γ (World.setBlk X w.heap.size (.loop { L2 with state:=.exhausted,pending:=pend3 })) γ2:=m.stp
  split at h
  ·cases h
  ·rename_i h4;have r:=r (by rintro rfl;exact h4 rfl);have p:=Steps.trans J (.one (stepR_endRangeFunc (P:=C.P) (b:=b) (a:=a1) (k:=k) (cs:=cs) r))
   split at h
   ·injection h with e1 e2 e3 e4;subst e1;subst e2;subst e3;subst e4;exact⟨a1,_,γ2,_,m,ht.step z,hdf.step z,by simpa [Arr] using p⟩
   ·rename_i c;have m5:=hi.mon.code _ _ _ _ _ _ _ _ _ _ _ h (M.wf wf2);obtain⟨a',w',γ',hg',f4,tr,dr,ar⟩:=hi.code _ _ _ _ _ _ _ _ _ _ _ h A _ _ _ _ b a1 k cs m.rel (m.ext ((B.trans H).trans M) hx) (M.wf wf2) (m.freed hr ((B.trans H).trans M) hf)
     (ht.step z) (hdf.step z) (hrd.step z) hcalm
    exact⟨a',w',γ',hg',m.trans f4 ((B.trans H).trans M) m5,tr,dr,ar.of_steps (by simpa using p)⟩
 |_=>cases h
theorem Bf{o:Obj}:(newObj o).run P w=.ok w.heap.size (World.add w o):=by simp[newObj,Sem.run,World.add]
theorem BZ{fn:FuncId}{ps:Array Tmp} :
  (Instr.enterLoop fn tmps ps assign body none).run P w=.ok (w.heap.size+1,[{ target:=.collected w.heap.size,args:=#[] }])
   (World.add (World.add w (.deferred (some []))) (.loop { state:=.ready,pending:=none,fn,tmps,params:=ps,assign,body,defers:=w.heap.size })):=by
 unfold Instr.enterLoop;simp only[VT,Bf,VD,Wq,add_size]
theorem DV{fn:FuncId}{ps:Array Tmp}{l:Nat}{L:Loop}(h:w.heap[l]?=some (.loop L)) :
  (Instr.enterLoop fn tmps ps assign body (some l)).run P w=.ok (w.heap.size,[])
   (World.add w (.loop { state:=.ready,pending:=none,fn,tmps,params:=ps,assign,body,defers:=L.defers })):=by
 unfold Instr.enterLoop;simp only[VT,kJ h,Bf,VD,Wq]
theorem H8(hC:CfgOk C)(hi:IHOk C ih){fo:Operand}{s:Stg (T->AV)}{ps:Array Tmp}{e:Ex}
  (hs:aV C fo=some s) (h:nz C nt s.run ps.toList assign body ih (bd+1) rd t df g=.ok e t' df' g'):zC C bd nt rd (.rangeFunc fo ps assign body) t df g e t' df' g':=by
 intro A w γ hg nx b a k cs hr hx q hf ht m j f;unfold nz at h;cases rd with
 | some l =>
  dsimp only at h
  split at h
  rotate_left
  ·cases h
  rename_i nt0 z ps0 as0 bo0 dfr st0 pe0 d;have d:g.h.get l=.loop nt0 z ps0 as0 bo0 dfr st0 pe0:=by simpa using d
  have u:hg l=.loop nt0 z ps0 as0 bo0 dfr st0 pe0:=by rw[hx l (by rw[d];simp),d]
  have n:=hr.obj l;rw[u]at n;obtain⟨F,k2,L,D,H,I,J,K,M,N,B,v,x⟩:=n;have c:=DV (P:=C.P) (fn:=b.fn) (tmps:=a.tmps) (ps:=ps) (assign:=assign) (body:=body) D;rw[x,<-j.2]at c;exact uN (mark:=[]) hC hi hs h q hr hx hf ht m j f ⟨v,rfl⟩ c
 | none =>
  dsimp only at h
  let gh:Gh:=⟨4,0,0,0,w.heap.size,0,0,true⟩
  have r:Mon g (g.new (.dfr true)):=Mon.mk';have wf1:=r.wf q;have y:=pk hi.mon h wf1;have i:(γ g.nx).kind=0:=hf g.nx (Vu _) (VR r.nx y.nx);obtain⟨E,s1⟩:=hr.add (id:=g.nx) (gh:=gh) (o:=.deferred (some [])) (ao:=.dfr true) (nx':=Nat.max nx (g.nx+1)) i rfl (Xf _ _) (VL (YK _) (Xx _ _)) (by
   refine⟨by simp[gh],by simp[gh],by rw[j5];simp[gh]⟩)
  have f1:Fin C A bd w γ hg nx g _ (upd γ g.nx gh) _ (g.new (.dfr true)):=Ty E s1;have c:=BZ (P:=C.P) (w:=w) (fn:=b.fn) (tmps:=a.tmps) (ps:=ps) (assign:=assign) (body:=body);have p:b.roundOf=none:=j;rw[<-p]at c;obtain⟨a',w',γ',hg',f2,tr,dr,ar⟩:=uN (nt:=nt) (rd:=none) (b:=b) (a:=a) (k:=k) (cs:=cs) (mark:=[{ target:=.collected w.heap.size,args:=#[] }]) (blk:=w.heap.size) (w00:=w) hC hi hs h wf1 f1.rel (f1.ext r hx) (f1.freed hr r hf)
   (ht.step s1) ⟨⟨by simp[gh],by simp[gh]⟩,m.step s1⟩ p f ⟨by simp[gh],by simp[gh]⟩ (by simpa using c)
  exact⟨a',w',γ',hg',f1.trans f2 r y,tr,dr,ar⟩
theorem CH(hC:CfgOk C)(hi:IHOk C ih):∀(c:Code) {t:T} {df:List ADf} {g:G} {e:Ex} {t':T} {df':List ADf} {g':G},
  (aU C nt c).run ih (bd+1) rd t df g=.ok e t' df' g'->zC C bd nt rd c t df g e t' df' g':=by
 intro c
 induction c with
 | skip =>
  intro t df g e t' df' g' h A w γ hg nx b a k cs hr hx n hf ht i o d;simp only[aU]at h;injection h with h1 h2 p h4;subst h1;subst h2;subst p;subst h4;exact⟨a,w,γ,hg,Fin.refl hr,ht,i,.one stepR_skip⟩
 | label l =>
  intro t df g e t' df' g' h A w γ hg nx b a k cs hr hx n hf ht i o d;simp only[aU]at h;injection h with h1 h2 p h4;subst h1;subst h2;subst p;subst h4;exact⟨a,w,γ,hg,Fin.refl hr,ht,i,.one stepR_label⟩
 |region id ops draw=>intro t df g e t' df' g' h;exact Ib hC hi h
 | seq x y ihx ihy =>
  intro t df g e t' df' g' h A w γ hg nx b a k cs hr hx n hf ht i o d;simp only[aU]at h;generalize hc:(aU C nt x).run ih (bd+1) rd t df g=r at h;cases r with
  |fail=>cases h
  | ok e1 t1 df1 g1 =>
   have u:=mb hC.mon hi.mon _ hc n;have wf1:=u.wf n;cases e1 with
   | norm =>
    have h:(aU C nt y).run ih (bd+1) rd t1 df1 g1=.ok e t' df' g':=h;have B:=mb hC.mon hi.mon _ h wf1;obtain⟨a1,w1,γ1,m,f1,tr1,dr1,ar1⟩:=ihx hc A w γ hg nx b a (.code y::k) cs hr hx n (hf.le B.nx) ht i o d;obtain⟨a2,F,γ2,v,f2,tr2,dr2,ar2⟩:=ihy h A w1 γ1 m _ b a1 k cs f1.rel (f1.ext u hx) wf1 (f1.freed hr u hf) tr1 dr1 (o.step f1.stp) d;exact⟨a2,F,γ2,v,f1.trans f2 u B,tr2,dr2,ar2.of_steps (.head stepR_seq ar1)⟩
   | exit j =>
    have h:CR.ok (.exit j) t1 df1 g1=.ok e t' df' g':=h;injection h with h1 h2 p h4;subst h1;subst h2;subst p;subst h4;obtain⟨a1,w1,γ1,m,f1,tr1,dr1,k₁,hk,ar1⟩:=ihx hc A w γ hg nx b a (.code y::k) cs hr hx n hf ht i o d;exact⟨a1,w1,γ1,m,f1,tr1,dr1,k₁,by rw[hk];rfl,.head stepR_seq ar1⟩
   | ret =>
    have h:CR.ok .ret t1 df1 g1=.ok e t' df' g':=h;injection h with h1 h2 p h4;subst h1;subst h2;subst p;subst h4;obtain⟨a1,w1,γ1,m,f1,tr1,dr1,k₁,ar1⟩:=ihx hc A w γ hg nx b a (.code y::k) cs hr hx n hf ht i o d;exact⟨a1,w1,γ1,m,f1,tr1,dr1,k₁,.head stepR_seq ar1⟩
 | cond c x y ihx ihy =>
  intro t df g e t' df' g' h A w γ hg nx b a k cs hr hx n hf ht i o d;simp only[aU]at h
  split at h
  rotate_left
  ·cases h
  rename_i s hs;dsimp only at h;have E:=aC hs ht hr;generalize hcv:a.eval c=vc at E;generalize s.run t=cv at h E;cases E with
  | bool _ bv =>
   dsimp only at h;cases bv with
   | true =>
    obtain⟨a1,w1,γ1,m,f1,tr1,dr1,ar1⟩:=ihx h A w γ hg nx b a k cs hr hx n hf ht i o d;exact⟨a1,w1,γ1,m,f1,tr1,dr1,ar1.of_steps (.one (by simpa using stepR_cond (P:=C.P) (b:=b) (a:=a) (k:=k) (cs:=cs) (w:=w) (x:=x) (y:=y) hcv))⟩
   | false =>
    obtain⟨a1,w1,γ1,m,f1,tr1,dr1,ar1⟩:=ihy h A w γ hg nx b a k cs hr hx n hf ht i o d;exact⟨a1,w1,γ1,m,f1,tr1,dr1,ar1.of_steps (.one (by simpa using stepR_cond (P:=C.P) (b:=b) (a:=a) (k:=k) (cs:=cs) (w:=w) (x:=x) (y:=y) hcv))⟩
  |_=>cases h
 | block id body ihb =>
  intro t df g e t' df' g' h A w γ hg nx b a k cs hr hx n hf ht i o d;simp only[aU]at h;generalize hc:(aU C nt body).run ih (bd+1) rd t df g=r at h;cases r with
  |fail=>cases h
  | ok e1 t1 df1 g1 =>
   cases e1 with
   | norm =>
    have h:CR.ok .norm t1 df1 g1=.ok e t' df' g':=h;injection h with h1 h2 p h4;subst h1;subst h2;subst p;subst h4;obtain⟨a1,w1,γ1,m,f1,tr1,dr1,ar1⟩:=ihb hc A w γ hg nx b a (.inBlock id::k) cs hr hx n hf ht i o d;exact⟨a1,w1,γ1,m,f1,tr1,dr1,.head stepR_block (Steps.trans ar1 (.one stepR_inBlock))⟩
   | exit j =>
    simp only[uR,aa]at h
    split at h
    ·rename_i z;have z:=bc z;subst z;injection h with h1 h2 p h4;subst h1;subst h2;subst p;subst h4;obtain⟨a1,w1,γ1,m,f1,tr1,dr1,k₁,hk,ar1⟩:=ihb hc A w γ hg nx b a (.inBlock j::k) cs hr hx n hf ht i o d;exact⟨a1,w1,γ1,m,f1,tr1,dr1,.head stepR_block (Steps.trans ar1 (.one (stepR_exit (by rw[hk];simp[exitTo]))))⟩
    ·rename_i z;injection h with h1 h2 p h4;subst h1;subst h2;subst p;subst h4;obtain⟨a1,w1,γ1,m,f1,tr1,dr1,k₁,hk,ar1⟩:=ihb hc A w γ hg nx b a (.inBlock id::k) cs hr hx n hf ht i o d;refine⟨a1,w1,γ1,m,f1,tr1,dr1,k₁,?_,.head stepR_block ar1⟩;rw[hk];have D:(id == j)=false:=by simp only[beq_eq_false_iff_ne,ne_eq];rintro rfl;exact z (Wm _)
     simp[exitTo,D]
   | ret =>
    have h:CR.ok .ret t1 df1 g1=.ok e t' df' g':=h;injection h with h1 h2 p h4;subst h1;subst h2;subst p;subst h4;obtain⟨a1,w1,γ1,m,f1,tr1,dr1,k₁,ar1⟩:=ihb hc A w γ hg nx b a (.inBlock id::k) cs hr hx n hf ht i o d;exact⟨a1,w1,γ1,m,f1,tr1,dr1,k₁,.head stepR_block ar1⟩
 | loop body ihb =>
  intro t df g e t' df' g' h A w γ hg nx b a k cs hr hx n hf ht i o d;simp only[aU]at h;generalize hc:(aU C nt body).run ih (bd+1) rd t df g=r at h;cases r with
  |fail=>cases h
  | ok e1 t1 df1 g1 =>
   have u:=mb hC.mon hi.mon _ hc n;have wf1:=u.wf n;cases e1 with
   | norm =>
    have h:ih.code nt (bd+1) rd (.loop body) t1 df1 g1=.ok e t' df' g':=h;have B:=hi.mon.code _ _ _ _ _ _ _ _ _ _ _ h wf1;obtain⟨a1,w1,γ1,m,f1,tr1,dr1,ar1⟩:=ihb hc A w γ hg nx b a (.inLoop body::k) cs hr hx n (hf.le B.nx) ht i o d;obtain⟨a2,F,γ2,v,f2,tr2,dr2,ar2⟩:=hi.code _ _ _ _ _ _ _ _ _ _ _ h A w1 γ1 m _ b a1 k cs f1.rel (f1.ext u hx) wf1 (f1.freed hr u hf) tr1 dr1 (o.step f1.stp) d;refine⟨a2,F,γ2,v,f1.trans f2 u B,tr2,dr2,Arr.of_steps (.head stepR_loop (Steps.trans ar1 (.one stepR_inLoop))) ?_⟩;have q:step C.P (lone (b.atR a1 (.code (.loop body)::k)) cs w1)=.next (lone (b.atR a1 (.code body::.inLoop body::k)) cs w1):=stepR_loop;have ne:∀{a':Act} {k':List Item} {w':World},k'≠.code (.loop body)::k->lone (b.atR a1 (.code (.loop body)::k)) cs w1≠lone (b.atR a' k') cs w':=λh h'=>h (Iu h').symm;cases e with
    |norm=>exact tU ar2 (ne (λh=>by have:=congrArg List.length h;simp at this)) q
    | exit j =>
     obtain⟨k₁,hk,ar2⟩:=ar2;exact⟨k₁,hk,tU ar2 (ne (λh=>by injection h with h _;injection h with h;cases h)) q⟩
    | ret =>
     obtain⟨k₁,ar2⟩:=ar2;exact⟨k₁,tU ar2 (ne (λh=>by injection h with h _;injection h with h;cases h)) q⟩
   | exit j =>
    have h:CR.ok (.exit j) t1 df1 g1=.ok e t' df' g':=h;injection h with h1 h2 p h4;subst h1;subst h2;subst p;subst h4;obtain⟨a1,w1,γ1,m,f1,tr1,dr1,k₁,hk,ar1⟩:=ihb hc A w γ hg nx b a (.inLoop body::k) cs hr hx n hf ht i o d;exact⟨a1,w1,γ1,m,f1,tr1,dr1,k₁,by rw[hk];rfl,.head stepR_loop ar1⟩
   | ret =>
    have h:CR.ok .ret t1 df1 g1=.ok e t' df' g':=h;injection h with h1 h2 p h4;subst h1;subst h2;subst p;subst h4;obtain⟨a1,w1,γ1,m,f1,tr1,dr1,k₁,ar1⟩:=ihb hc A w γ hg nx b a (.inLoop body::k) cs hr hx n hf ht i o d;exact⟨a1,w1,γ1,m,f1,tr1,dr1,k₁,.head stepR_loop ar1⟩
 | scope body ihb =>
  intro t df g e t' df' g' h A w γ hg nx b a k cs hr hx n hf ht i o d;have h:(aU C nt body).run ih (bd+1) rd t df g=.ok e t' df' g':=h;obtain⟨a1,w1,γ1,m,f1,tr1,dr1,ar1⟩:=ihb h A w γ hg nx b a (.inScope body::k) cs hr hx n hf ht i o d;refine⟨a1,w1,γ1,m,f1,tr1,dr1,?_⟩;cases e with
  |norm=>exact .head tT (Steps.trans ar1 (.one Cy))
  |exit j=>obtain⟨k₁,hk,ar1⟩:=ar1;exact⟨k₁,by rw[hk];rfl,.head tT ar1⟩
  |ret=>obtain⟨k₁,ar1⟩:=ar1;exact⟨k₁,.head tT ar1⟩
 | exit id =>
  intro t df g e t' df' g' h A w γ hg nx b a k cs hr hx n hf ht i o d;simp only[aU]at h;injection h with h1 h2 p h4;subst h1;subst h2;subst p;subst h4;exact⟨a,w,γ,hg,Fin.refl hr,ht,i,k,rfl,Steps.refl _ _⟩
 | ret =>
  intro t df g e t' df' g' h A w γ hg nx b a k cs hr hx n hf ht i o d;simp only[aU]at h;injection h with h1 h2 p h4;subst h1;subst h2;subst p;subst h4;exact⟨a,w,γ,hg,Fin.refl hr,ht,i,k,Steps.refl _ _⟩
 | rangeFunc f ps assign body _ _ =>
  intro t df g e t' df' g' h;simp only[aU]at h
  split at h
  ·rename_i s hs;exact H8 hC hi hs h
  ·cases h
 |_=>intro t df g e t' df' g' h;cases h
theorem K0(fr:Frame)(h:fr.mode=.returning):({ fr with mode:=.returning }:Frame)=fr:=by cases fr;simp at h;subst h;rfl
theorem LB(hi:IHOk C ih):∀{df:List ADf} {g g':G},gD ih (bd+1) df g=some g'->WF g ->
  ∀{w γ hg nx} {fr:Frame} {cs:List Frame},Rel C A bd w γ hg nx->Ext g.h hg->Free γ g g'->DR w γ A bd df fr.defers->fr.mode=.returning ->
   ∃w' γ' hg',Fin C A bd w γ hg nx g w' γ' hg' g'/\Steps C.P (lone fr cs w) (lone { fr with defers:=[] } cs w'):=by
 intro df
 induction df with
 | nil =>
  intro g g' h _ w γ hg nx fr cs hr hx hf k hm;simp only[gD]at h;injection h with h;subst h;have hd:fr.defers=[]:=by
   cases hd:fr.defers with
   |nil=>rfl
   |cons d ds=>rw[hd]at k;exact k.elim
  refine⟨w,γ,hg,Fin.refl hr,?_⟩;have:({ fr with defers:=[] }:Frame)=fr:=by cases fr;simp at hd;subst hd;rfl
  rw[this];exact Steps.refl _ _
 | cons x df ihl =>
  intro g g' h b w γ hg nx fr cs hr hx hf k hm;cases hd:fr.defers with
  |nil=>rw[hd]at k;cases x<;>exact k.elim
  | cons d ds =>
   rw[hd]at k;cases x with
   | mark id =>
    obtain⟨⟨hk,rfl⟩,k⟩:=k;simp only[gD]at h
    split at h
    ·rename_i a;have a:g.h.get id=.dfr true:=by simpa using a
     have B:hg id=.dfr true:=by rw[hx id (by rw[a];simp),a]
     have r:=hr.obj id;rw[B]at r;obtain⟨E,k2,F⟩:=r;have q:(γ id).kind≠0:=by rw[E];decide
     have i:Mon g (g.put id (.dfr false)):=Mon.put b (by rw[a];simp);obtain⟨L,s1⟩:=hr.setBlk (id:=id) (o:=.deferred none) (ao:=.dfr false) q k2 ⟨E,k2,by rw[dz];simp[(hr.lt id q).2]⟩;have f1:Fin C A bd w γ hg nx g _ γ _ (g.put id (.dfr false)):=Tz L s1;have t:=ui hi.mon h (i.wf b);obtain⟨w',γ',hg',f2,st⟩:=ihl h (i.wf b) (fr:={ fr with defers:=ds }) (cs:=cs) f1.rel (f1.ext i hx) (f1.freed hr i hf) (k.step s1) hm;refine⟨w',γ',hg',f1.trans f2 i t,.head (step_lone_go ?_) st⟩;have m:(Instr.takeDeferred (γ id).blk).run C.P w=.ok [] (World.setBlk w (γ id).blk (.deferred none)):=by unfold Instr.takeDeferred;simp only[VT,m9 F (by simp),VD,if_true,rG F (by simp),Wq]
     simp[stepG,hm,unwind,hd,Sem.runT_eq,m,GStep.bare_after]
    ·cases h
   | call fv args =>
    obtain⟨⟨f,ys,us,rfl,j,D,l⟩,k⟩:=k;simp only[gD]at h
    split at h
    rotate_left
    ·cases h
    rename_i v g1 e;have i:=hi.mon.call _ _ _ _ _ _ e b;have wf1:=i.wf b;have t:=ui hi.mon h wf1;obtain⟨p,s⟩:=hi.call _ _ _ _ _ _ e
    let fr0:Frame:={ fr with defers:=ds }
    obtain⟨u,w1,γ1,H,f1,_,frX,st,I,q2,q3,J,fn,q5,K⟩:=s A w γ hg nx (d.args.toList++us.toList) hr hx b (hf.le t.nx) (by simpa using l.append D) .deferred (fr0::cs) (.inr ⟨rfl,fr0,cs,rfl,.inl hm⟩);have n:(d.args.toList++us.toList).toArray=d.args++us:=by apply Y5;simp
    rw[n]at st;obtain⟨w',γ',hg',f2,st2⟩:=ihl h wf1 (fr:=fr0) (cs:=cs) f1.rel (f1.ext i hx) (f1.freed hr i hf) (k.step f1.stp) hm;refine⟨w',γ',hg',f1.trans f2 i t,.head (step_defer (by rw[hm];simp) hd j ?_) (Steps.trans st (.head ?_ st2))⟩
    ·rw[j];simp only[invoke];exact p _ _
    ·have z:frX.going C.P w1 (.returned u):=⟨I,q2,fn,by rw[J];exact q5,K⟩;have:=step_going_returned (P:=C.P) (c:=fr0) (cs:=cs) q3 z;have hs:settle fr0.mode=.returning:=by have:fr0.mode=.returning:=hm;rw[this];rfl
     rw[hs]at this;have y:({ fr0 with mode:=.returning }:Frame)=fr0:=by exact K0 fr0 hm
     rw[y]at this;exact this
theorem Gg{ty:TypeId}{x v:Value}{w w':World}(h:(do loadVar ty (<-Instr.sureAddr x):Sem Value).run P w=.ok v w') :
  (do loadVar ty (<-asAddr x):Sem Value).run P w=.ok v w':=by
 cases x with
 |pointer p=>cases p<;>simp[Instr.sureAddr,asAddr]at h ⊢;exact h
 |_=>simp[Instr.sureAddr]at h
theorem Mc(hC:CfgOk C)(ht:TR w γ A bd nt t tmps)(hr:Rel C A bd w γ hg nx)(hx:Ext g.h hg):∀{rs:List ResultVar} {k:Stg (T->G->Option (List AV))} {vs:List AV},wm C rs=some k->k.run t g=some vs ->
  ∃us:List Value,(rs.mapM (fun|.tmp t=>pure (tmps.getD t undef)|.cell a t=>do loadVar t (<-asAddr (tmps.getD a undef))):Sem (List Value)).run C.P w=.ok us w/\RVs w γ A bd vs us:=by
 intro rs
 induction rs with
 |nil=>intro k vs h b;simp[wm]at h;subst h;simp at b;subst b;exact⟨[],by simp,rfl,λi x v h=>by simp at h⟩
 | cons r rs ihr =>
  intro k vs h b;cases r with
  | tmp n =>
   simp only[wm]at h
   split at h
   ·rename_i z e;injection h with h;subst h;dsimp only at b
    split at b
    ·rename_i vs0 c;injection b with b;subst b;obtain⟨us,h1,h2⟩:=ihr e c;refine⟨tmps.getD n undef::us,?_,by simp[h2.1],λi x v hx' hv'=>?_⟩
     ·rw[List.mapM_cons];simp only[VT,Wq,VD,h1]
     ·cases i with
      |zero=>simp at hx' hv';subst hx';subst hv';simpa [Ws] using ht.2 n
      |succ i=>exact h2.2 i x v (by simpa using hx') (by simpa using hv')
    ·cases b
   ·cases h
  | cell ad ty =>
   simp only[wm]at h
   split at h
   ·rename_i z l e hl;injection h with h;subst h;dsimp only at b
    split at b
    ·rename_i y m
     split at b
     ·rename_i vs0 c;injection b with b;subst b;obtain⟨us,h1,h2⟩:=ihr e c
      let o:Oper:={ (default:Oper) with op:=.load ty (.tmp ad) }
      have j:∀id∈bh C (.load ty (.tmp ad)) t g,hg id=g.h.get id:=by intro id d;exact hx id λq=>by rw[Ha hl d q]at m;cases m
      have f:∃v,(do loadVar ty (<-asAddr (tmps.getD ad undef)):Sem Value).run C.P w=.ok v w/\RV w γ A bd y v:=by
       simp only[cq]at hl
       split at hl
       ·rename_i s ag n hs p q;injection hl with hl;subst hl;have:=Gi (g:=g) (ty:=ty) (t:=t) hr (aC (a:={ tmps:=tmps,defers:=[] }) hs ht hr) p q (λid d=>j id (by simp[bh,aO,ah,hs,d]));have m:nj ag n s.run t g=.val y:=m;rw[m]at this;obtain⟨v,h1,h2⟩:=this;refine⟨v,?_,h2⟩;have h1:(Instr.loadAt ty (tmps.getD ad undef)).run C.P w=.ok v w:=h1;unfold Instr.loadAt at h1;exact Gg h1
       ·cases hl
      obtain⟨v,u,h4⟩:=f;refine⟨v::us,?_,by simp[h2.1],λi x v' hx' hv'=>?_⟩
      ·rw[List.mapM_cons];simp only[VT,Wq];simp only[VT]at u;rw[u];simp only[VD,h1]
      ·cases i with
       |zero=>simp at hx' hv';subst hx';subst hv';exact h4
       |succ i=>exact h2.2 i x v' (by simpa using hx') (by simpa using hv')
     ·cases b
    ·cases b
   ·cases h
theorem HY:∀(vs:List AV) (i:Nat) (t:T) (s:Nat),(cD i vs t).get AV.undef s=if i<=s/\s<i+vs.length then vs.getD (s - i) AV.undef else t.get AV.undef s:=by
 intro vs
 induction vs with
 |nil=>intro i t s;simp only[cD,XG];rw[Vz (by omega)]
 | cons v vs ihv =>
  intro i t s;simp only[cD];rw[ihv,sp_get]
  by_cases h1:s=i
  ·subst h1;rw[Vz (by omega),VC rfl,VC (by simp)];simp
  ·rw[Vz h1]
   by_cases h2:i+1<=s/\s<i+1+vs.length
   ·rw[VC h2,VC (by simp;omega),show s - i=(s - (i+1))+1 by omega];simp
   ·rw[Vz h2,Vz (by simp;omega)]
theorem Pp{as:List AV}{vs:List Value}(hv:RVs w γ A bd as vs)(hn:as.length<=nt) :
  TR w γ A bd nt (cD 0 as .nil) (vs.toArray++Array.replicate (nt - vs.toArray.size) undef):=by
 have hl:=hv.1;refine⟨by simp;omega,λs=>?_⟩;rw[HY]
 by_cases hs:s<as.length
 ·rw[VC (by simpa using hs)];have h1:as[s]?=some (as[s]):=Vt hs;have h2:vs[s]?=some (vs[s]'(by omega)):=Vt (by omega);have:=hv.2 s _ _ h1 h2;have e1:as.getD (s - 0) AV.undef=as[s]:=by simp[Xq,h1]
  have e2:(vs.toArray++Array.replicate (nt - vs.toArray.size) undef).getD s undef=vs[s]'(by omega):=by rw[Ws,Array.getElem?_append_left (by simp;omega)];simp[h2]
  rw[e1,e2];exact this
 ·rw[Vz (by simpa using hs),TF];have e2:(vs.toArray++Array.replicate (nt - vs.toArray.size) undef).getD s undef=undef:=by
   rw[Ws,Array.getElem?_append_right (by simp;omega),Array.getElem?_replicate]
   split<;>rfl
  rw[e2];exact nE
theorem GT{fn:Func}{us:List Value}
  (h:(fn.results.toList.mapM (fun|.tmp t=>pure (tmps.getD t undef)|.cell a t=>do loadVar t (<-asAddr (tmps.getD a undef))):Sem (List Value)).run P w=.ok us w) :
  ∃u,(results fn tmps).run P w=.ok u w/\∀{xs:List AV},RVs w γ A bd xs us->RV w γ A bd (kM xs) u:=by
 have hm:(fn.results.mapM (fun|.tmp t=>pure (tmps.getD t undef)|.cell a t=>do loadVar t (<-asAddr (tmps.getD a undef))):Sem (Array Value)).run P w=.ok us.toArray w:=by
  rw[Array.mapM_eq_mapM_toList];simp only[Sem.run_map,h]
  rfl
 refine⟨if hs:us.toArray.size=1 then us.toArray[0] else .tuple us.toArray,?_,?_⟩
 ·unfold results;simp only[VT];have k:=hm;generalize hq:(fn.results.mapM (fun|.tmp t=>pure (tmps.getD t undef)|.cell a t=>do loadVar t (<-asAddr (tmps.getD a undef))):Sem (Array Value))=q at k;rw[k];simp only[VD,Wq]
 ·intro xs b;have hl:=b.1;have tup:RV w γ A bd (.tup xs) (.tuple us.toArray):=.tup _ _ _ (by simpa using hl) λi x v h1 h2=>b.2 i x v h1 (by simpa using h2);cases us with
  | nil =>
   have:xs=[]:=Yt.1 hl;subst this;exact tup
  | cons u us =>
   cases us with
   | nil =>
    cases xs with
    |nil=>simp at hl
    | cons x xs =>
     have:xs=[]:=Yt.1 (by simpa using hl);subst this;exact b.2 0 x u rfl rfl
   | cons u' us =>
    rw[dif_neg (by simp)];cases xs with
    |nil=>simp at hl
    | cons x xs =>
     cases xs with
     |nil=>simp at hl
     |cons x' xs=>exact tup
theorem Px(hC:CfgOk C)(hi:IHOk C ih){x:Stg (IH->Nat->List AV->G->FR)}(hx:cFn C f=some x){as:List AV}
  (h:x.run ih (bd+1) as g=.ok v g'):Enters C.P f/\IB C bd f as g v g':=by
 unfold cFn at hx
 split at hx
 ·cases hx
 rename_i fn hfn
 split at hx
 ·cases hx
 rename_i c hbody
 split at hx
 rotate_left
 ·cases hx
 rename_i r hres;rw[aa]at hx
 split at hx
 ·cases hx
 rename_i hname;injection hx with hx;subst hx;refine⟨λargs w=>?_,?_⟩
 ·unfold callFunc;have hn : fn.name ≠ "runtime.NumGoroutine" := by simpa using hname
  simp[hfn,hn,hbody]
 intro A w γ hg nx vs hr hex hwf hf hv K cs hcalm;dsimp only at h;rw[aa]at h
 split at h
 rotate_left
 ·cases h
 rename_i hle;rw[Wt,aF]at hle
 let b:Frame:={ (default:Frame) with fn:=f,kind:=K,roundOf:=none }
 let a0:Act:={ tmps:=vs.toArray++Array.replicate (fn.ntmps - vs.toArray.size) undef,defers:=[] }
 have henter:Frame.enter C.P f vs.toArray K=b.atR a0 [.code c]:=by simp[Frame.enter,Frame.atR,hfn,hbody,b,a0]
 have key:∀{e:Ex} {t1:T} {df:List ADf} {g1:G},(aU C fn.ntmps c).run ih (bd+1) none (cD 0 as .nil) [] g=.ok e t1 df g1->(∀j,e≠.exit j)->h_ ih (bd+1) r.run t1 df g1=.ok v g' ->
   ∃u w' γ' hg',Fin C A bd w γ hg nx g w' γ' hg' g'/\RV w' γ' A bd v u/\Outs C.P K f vs.toArray cs w u w':=by
  intro e t1 df g1 hc hne hend;have m1:=mb hC.mon hi.mon _ hc hwf;have wf1:=m1.wf hwf;unfold h_ at hend
  split at hend
  ·cases hend
  rename_i g2 h2;have m2:=ui hi.mon h2 wf1
  split at hend
  rotate_left
  ·cases hend
  rename_i xs hxs;injection hend with h1 h2';subst h2';subst h1;obtain⟨a1,w1,γ1,hg1,f1,tr1,dr1,ar1⟩:=CH hC hi c hc A w γ hg nx b a0 [] cs hr hex hwf (hf.le m2.nx) (Pp hv hle) trivial rfl hcalm;have hret:∃fr:Frame,Steps C.P (lone (Frame.enter C.P f vs.toArray K) cs w) (lone fr cs w1)/\fr.mode=.returning/\fr.defers=a1.defers/\fr.kind=K/\fr.fn=f/\fr.tmps=a1.tmps:=by
   rw[henter];cases e with
   |norm=>exact⟨{ b.atR a1 [] with mode:=.returning },Steps.trans ar1 (.one (stepR_end rfl)),rfl,rfl,rfl,rfl,rfl⟩
   | ret =>
    obtain⟨k₁,ar1⟩:=ar1;exact⟨{ b.atR a1 (.code .ret::k₁) with mode:=.returning },Steps.trans ar1 (.one (stepR_ret rfl)),rfl,rfl,rfl,rfl,rfl⟩
   |exit j=>exact absurd rfl (hne j)
  obtain⟨fr,st1,q1,q2,q3,q4,q5⟩:=hret;obtain⟨w2,γ2,hg2,f2,st2⟩:=LB hi h2 wf1 (fr:=fr) (cs:=cs) f1.rel (f1.ext m1 hex) (f1.freed hr m1 hf) (by rw[q2];exact dr1) q1;have f12:=f1.trans f2 m1 m2;obtain⟨us,hus,hrv⟩:=Mc hC (tr1.step f2.stp) f12.rel (f12.ext (m1.trans m2) hex) hres hxs;obtain⟨u,hu,hone⟩:=GT (γ:=γ2) (A:=A) (bd:=bd) hus;exact⟨u,w2,γ2,hg2,f12,hone hrv,{ fr with defers:=[] },Steps.trans st1 st2,q1,rfl,q3,q4,fn,hfn,by
   have:({ fr with defers:=[] }:Frame).tmps=a1.tmps:=q5;rw[this];exact hu⟩
 split at h
 ·cases h
 ·rename_i e t1 df g1 hne hc;exact key hc (by rintro j rfl;exact hne j rfl) h
 ·cases h
theorem yv(hC:CfgOk C):∀n,IHOk C (sem C n):=by
 intro n
 induction n with
 |zero=>exact⟨Kd hC.mon 0,λbd f as g v g' h=>(by cases h),λbd nt rd c t df g e t' df' g' h=>(by cases h)⟩
 | succ n ihn =>
  refine⟨Kd hC.mon (n+1),λbd f as g v g' h=>?_,λbd nt rd c t df g e t' df' g' h=>CH hC ihn c h⟩;change eK C (sem C n) (bd+1) f as g=.ok v g' at h;unfold eK at h
  split at h
  ·rename_i x hx;exact Px hC ihn hx h
  ·cases h
end
end
end
end Hx
section
namespace Hx
open Go Go.RowKit
def gm0:Gm:=λ_=>⟨0,0,0,0,0,0,0,false⟩
def av0:Nat->Nat->Prop:=λ_ _=>False
theorem SX(b:Nat):¬Mut gm0 b:=by rintro⟨id,h,_⟩;exact h rfl
abbrev RV0 (w:World)(x:AV)(v:Value):Prop:=RV w gm0 av0 0 x v
abbrev RVs0 (w:World)(xs:List AV)(vs:List Value):Prop:=RVs w gm0 av0 0 xs vs
theorem CU:G.empty.h.get=λ_=>AObj.none:=by funext id;simp[G.empty,H.get,TF]
theorem DO{C:Cfg}(hC:CfgOk C){n f:Nat}{as:List AV}{v:AV}{g':G}(h:(sem C n).call 1 f as G.empty=.ok v g'){w:World}{vs:List Value}(hargs:RVs0 w as vs)
  (hglob:∀gl sz rows,C.glob gl=some (sz,rows)->RV0 w (.tptr 0 sz rows 0 0) (.pointer (some ⟨gl,0,none⟩))) :
  Calls C.P f vs.toArray w λe w'=>∃u γ' A',e=.returned u/\Below w.heap.size w w'/\RV w' γ' A' 0 v u:=by
 intro cs;have c:=yv hC n;obtain⟨_,a⟩:=c.call 0 f as G.empty v g' h;have hr:Rel C av0 0 w gm0 (λ_=>.none) 0 :=
  ⟨λid=>rfl,λid h=>absurd rfl h,λi j h=>absurd rfl h,λid h=>absurd rfl h,λt b h=>h.elim,hglob⟩
 obtain⟨u,w',γ',hg',fin,rv,fr,st,l,q2,q3,d,fn,q5,m⟩:=a av0 w gm0 _ 0 vs hr (λid h=>by rw[CU]at h;exact absurd rfl h) (λid _=>by rw[CU]) (λ_ _ _=>rfl) hargs .normal cs (.inl rfl);refine⟨.returned u,w',fr,⟨u,γ',av0,rfl,⟨fin.stp.os,fin.stp.tape,fin.stp.output,fin.stp.sz,λk hk=>fin.stp.fr k hk (SX k)⟩,rv⟩,st,d,l,q2,q3,fn,by rw[d];exact q5,m⟩
theorem HN{C:Cfg}(hC:CfgOk C){n f:Nat}{as:List AV}{g':G}(h:(sem C n).call 1 f as G.empty=.ok (.bool true) g'){w:World}{vs:List Value}(hargs:RVs0 w as vs)
  (hglob:∀gl sz rows,C.glob gl=some (sz,rows)->RV0 w (.tptr 0 sz rows 0 0) (.pointer (some ⟨gl,0,none⟩))) :
  Calls C.P f vs.toArray w λe w'=>e=.returned (.bool true)/\Below w.heap.size w w' :=
 (DO hC h hargs hglob).mono λe w' ⟨u,γ',A',he,hb,rv⟩=>by cases rv;exact⟨he,hb⟩
end Hx
end
namespace Hx
open Go
noncomputable section
variable {b d nt k i x n c B f ti m:Nat}{g g':G}{v:AV}{t t':T}{df:List ADf}{P:Program}{C:Cfg}{rd:Option Nat}{body:SC}{Q:QT}{K:AV->G->Prop}{D:ADf->Prop}{pm:List Nat}{assign:Code}{tmps:Array Value}
end
end Hx
section
namespace Hx
open Go Go.RowKit
theorem CfgOk.plain{P:Program}{iso:Nat->Bool}{glob:Nat->Option (Nat×List (List AV))}(hm:P.follows .mixedOrders=true)(hrf:P.follows .rangeFuncRecover=true) :
  CfgOk { P,iso,ext:=λ_=>none,glob } :=
 ⟨hm,hrf,λf e h=>(by cases h),λf e h=>(by cases h),λf e h=>(by cases h)⟩
theorem Rel.cfg{C C':Cfg}(h:C'.glob=C.glob){A:Nat->Nat->Prop}{bd:Nat}{w:World}{γ:Gm}{hg:Nat->AObj}{nx:Nat}(r:Rel C A bd w γ hg nx):Rel C' A bd w γ hg nx :=
 ⟨r.obj,r.lt,r.inj,r.av,r.ab,by rw[h];exact r.glob⟩
theorem Fin.cfg{C C':Cfg}(h:C'.glob=C.glob){A:Nat->Nat->Prop}{bd:Nat}{w w':World}{γ γ':Gm}{hg hg':Nat->AObj}{nx:Nat}{g g':G}(f:Fin C A bd w γ hg nx g w' γ' hg' g') :
  Fin C' A bd w γ hg nx g w' γ' hg' g':=⟨f.rel.cfg h,f.stp,f.new⟩
structure ExtOk (C:Cfg) (f:Nat) (e:Nat->List AV->G->OR):Prop where
 mon:∀d args g,WF g->Mon g (gOf g (e d args g))
 noDfr:∀d args g y,e d args g≠.dfr y
 run:∀A bd w γ hg nx g as vs,Rel C A bd w γ hg nx->WF g->(∀id∈as.flatMap (aD g.h aE),g.h.get id≠.none->hg id=g.h.get id)->Free γ g (gOf g (e (bd+1) as g)) ->
  RVs w γ A bd as vs->e (bd+1) as g≠.fail->∀cs,
  ∃u w' γ' hg',Fin C A bd w γ hg nx g w' γ' hg' (gOf g (e (bd+1) as g))/\RV w' γ' A bd (vOf (e (bd+1) as g)) u /\
   ((callFunc f vs.toArray).run C.P w=.ok (.value u) w'\/(Enters C.P f/\Outs C.P .normal f vs.toArray cs w u w'))
noncomputable def Cfg.add(C:Cfg)(f:Nat)(e:Nat->List AV->G->OR):Cfg:={ C with ext:=λk=>aB (Nat.beq k f) (some e) (C.ext k) }
theorem ExtOk.cfg{C C':Cfg}{f:Nat}{e:Nat->List AV->G->OR}(hp:C'.P=C.P)(hgl:C'.glob=C.glob)(h:ExtOk C f e):ExtOk C' f e:=by refine⟨h.mon,h.noDfr,λA bd w γ hg nx g as vs hr hwf hx hf hv hne cs=>?_⟩;obtain⟨u,w',γ',hg',fin,rv,out⟩:=h.run A bd w γ hg nx g as vs (hr.cfg hgl.symm) hwf hx hf hv hne cs;exact⟨u,w',γ',hg',fin.cfg hgl,rv,by rw[hp];exact out⟩
theorem CfgOk.add{C:Cfg}(h:CfgOk C){f:Nat}{e:Nat->List AV->G->OR}(he:ExtOk C f e):CfgOk (C.add f e):=by
 have which:∀k e',(C.add f e).ext k=some e'->(k=f/\e'=e)\/C.ext k=some e':=by
  intro k e' hk;have hk:aB (Nat.beq k f) (some e) (C.ext k)=some e':=hk;rw[aa]at hk
  split at hk
  ·rename_i hb;injection hk with hk;exact .inl ⟨bc hb,hk.symm⟩
  ·exact .inr hk
 refine⟨h.mixed,h.recov,λk e' hk d args g hwf=>?_,λk e' hk d args g y=>?_,λk e' hk A bd w γ hg nx g as vs hr hwf hx hf hv hne cs=>?_⟩
 ·rcases which k e' hk with⟨_,rfl⟩|hk
  ·exact he.mon d args g hwf
  ·exact h.mon k e' hk d args g hwf
 ·rcases which k e' hk with⟨_,rfl⟩|hk
  ·exact he.noDfr d args g y
  ·exact h.noDfr k e' hk d args g y
 ·rcases which k e' hk with⟨rfl,rfl⟩|hk
  ·obtain⟨u,w',γ',hg',fin,rv,out⟩:=he.run A bd w γ hg nx g as vs (Rel.cfg (C:=C.add k e') (C':=C) rfl hr) hwf hx hf hv hne cs;exact⟨u,w',γ',hg',Fin.cfg (C:=C) (C':=C.add k e') rfl fin,rv,out⟩
  ·obtain⟨u,w',γ',hg',fin,rv,out⟩:=h.ext k e' hk A bd w γ hg nx g as vs (Rel.cfg (C:=C.add f e) (C':=C) rfl hr) hwf hx hf hv hne cs;exact⟨u,w',γ',hg',Fin.cfg (C:=C) (C':=C.add f e) rfl fin,rv,out⟩
noncomputable def Av(v:AV):Nat->List AV->G->OR:=λd as _ =>
 match d with
 | 1=>match as with
  |[]=>.val v
  |_=>.fail
 |_=>.fail
theorem Ga{ih:IH}{d:Nat}{g g0:G}{f:Nat}{v:AV}(h:an ih d g0 f []=.val v):an ih d g f []=.val v:=by
 unfold an at h ⊢;simp only[aG]at h ⊢;cases hc:ih.call (Nat.succ d) f [] G.empty with
 |fail=>rw[hc]at h;cases h
 | ok r g' =>
  rw[hc]at h;dsimp only at h ⊢;cases hs:snap g'.h 0 aE r with
  |none=>rw[hs]at h;cases h
  | some r' =>
   rw[hs]at h;dsimp only at h ⊢;cases hm:hY aE r' with
   |none=>rw[hm]at h;cases h
   | some m =>
    rw[hm]at h;dsimp only at h ⊢;cases hb:Nat.blt m d with
    |true=>rw[hb]at h;exact h
    | false =>
     rw[hb]at h
     split at h
     ·cases h
     ·split at h
      ·cases h
      ·rename_i m' k;cases hb':Nat.blt m' d with
       |true=>rw[hb']at h;cases h
       |false=>rw[hb']at h;cases h
theorem KM{C:Cfg}(hC:CfgOk C){n f:Nat}{v:AV}(h:an (sem C n) 1 G.empty f []=.val v):ExtOk C f (Av v):=by
 have sh:∀d args g,Av v d args g=.fail\/(d=1/\args=[]/\Av v d args g=.val v):=by
  intro d args g;unfold Av
  split
  ·split
   ·exact .inr ⟨rfl,rfl,rfl⟩
   ·exact .inl rfl
  ·exact .inl rfl
 refine⟨λd args g _=>?_,λd args g y hy=>?_,λA bd w γ hg nx g as vs hr hwf hx hf hv hne cs=>?_⟩
 ·rcases sh d args g with h|⟨_,_,h⟩<;>rw[h]<;>exact Mon.refl g
 ·rcases sh d args g with h|⟨_,_,h⟩<;>rw[h]at hy<;>cases hy
 ·rcases sh (bd+1) as g with h0|⟨h1,rfl,h0⟩
  ·exact absurd h0 hne
  ·have a:bd=0:=by omega
   subst a;have hc:=Ga (g:=g) h;rw[h0];have k:=yv hC n;obtain⟨he,u,w',γ',hg',fin,rv,out⟩:=yP (args:=[]) (f:=f) k.call k.mon.call hr hx hv (by rw[hc];simp) cs;rw[hc]at fin rv;exact⟨u,w',γ',hg',fin,rv,.inr ⟨he,out⟩⟩
end Hx
end
namespace Hx
open Go
noncomputable section
variable {b d nt k i x n c B f ti m:Nat}{g g':G}{v:AV}{t t':T}{df:List ADf}{P:Program}{C:Cfg}{rd:Option Nat}{body:SC}{Q:QT}{K:AV->G->Prop}{D:ADf->Prop}{pm:List Nat}{assign:Code}{tmps:Array Value}
section
variable {y:Nat}
def kR(J:PT)(b:Nat)(Q:QT):QT:=λe t df g=>match e with
 |.norm=>J t df g
 |.exit x=>if x=b then J t df g else Q (.exit x) t df g
 |.ret=>Q .ret t df g
theorem Ek(J:PT)(b:Nat)(Q:QT)(t:T)(df:List ADf)(g:G):kR J b Q .norm t df g=J t df g:=rfl
theorem oo(J:PT)(b x:Nat)(Q:QT)(t:T)(df:List ADf)(g:G):kR J b Q (.exit x) t df g=if x=b then J t df g else Q (.exit x) t df g:=rfl
theorem Nt(J:PT)(b:Nat)(Q:QT)(t:T)(df:List ADf)(g:G):kR J b Q .ret t df g=Q .ret t df g:=rfl
variable {C:Cfg}{d:Nat}{rd:Option Nat}
theorem bX:∀(s:SC) {Q Q':QT} {t:T} {df:List ADf} {g:G},wp C d rd s Q t df g->(∀e t df g,Q e t df g->Q' e t df g)->wp C d rd s Q' t df g:=by
 have j:∀(l:List SI) {Q Q':PT} {t:T} {df:List ADf} {g:G},wpO C d rd l Q t df g->(∀t df g,Q t df g->Q' t df g)->wpO C d rd l Q' t df g:=by
  intro l
  induction l with
  |nil=>intro Q Q' t df g h hq;exact hq _ _ _ h
  | cons i r ih =>
   intro Q Q' t df g h hq;have run:∀t df g,GY C d rd i (wpO C d rd r Q) t df g->GY C d rd i (wpO C d rd r Q') t df g:=λt df g h =>
    OR.sat_mono h (λv g' h=>ih h hq) (λa h=>ih h hq)
   have skp:∀t df g,BA i (wpO C d rd r Q) t df g->BA i (wpO C d rd r Q') t df g:=λt df g h=>ih h hq;unfold wpO at h ⊢
   split at h
   ·exact run _ _ _ h
   ·rename_i s w hg;unfold gdP at h ⊢
    split at h
    ·rw[aa]at h ⊢
     split at h
     ·rename_i hw;rw[VC hw];exact⟨λq=>run _ _ _ (h.1 q),λq=>skp _ _ _ (h.2 q)⟩
     ·rename_i hw;rw[Vz hw];exact⟨λq=>skp _ _ _ (h.1 q),λq=>run _ _ _ (h.2 q)⟩
    ·exact skp _ _ _ h
    ·exact h
 have m:∀(pm:List Nat) (l:List SI) {Q Q':PT} {t:T} {df:List ADf} {g:G} {fs:List Foot},wpF C d rd pm l Q t df g fs->(∀t df g,Q t df g->Q' t df g)->wpF C d rd pm l Q' t df g fs:=by
  intro pm l
  induction l with
  |nil=>intro Q Q' t df g fs h hq;exact⟨h.1,hq _ _ _ h.2⟩
  | cons i r ih =>
   intro Q Q' t df g fs h hq;have run:∀t df g,LC C d rd i (wpF C d rd pm r Q) fs t df g->LC C d rd i (wpF C d rd pm r Q') fs t df g:=λt df g h =>
    OR.sat_mono h (λv g' h=>ih h hq) (λa h=>h)
   have skp:∀t df g,G4 i (wpF C d rd pm r Q) fs t df g->G4 i (wpF C d rd pm r Q') fs t df g:=λt df g h=>ih h hq;unfold wpF at h ⊢
   split at h
   ·exact run _ _ _ h
   ·rename_i s w hg;unfold gdP at h ⊢
    split at h
    ·rw[aa]at h ⊢
     split at h
     ·rename_i hw;rw[VC hw];exact⟨λq=>run _ _ _ (h.1 q),λq=>skp _ _ _ (h.2 q)⟩
     ·rename_i hw;rw[Vz hw];exact⟨λq=>skp _ _ _ (h.1 q),λq=>run _ _ _ (h.2 q)⟩
    ·exact skp _ _ _ h
    ·exact h
 intro s
 induction s with
 |skip=>intro Q Q' t df g h hq;exact hq _ _ _ _ h
 |ops l=>intro Q Q' t df g h hq;exact j l h (hq _)
 |quiet l=>intro Q Q' t df g h hq;exact j l h (λt df g' h=>⟨h.1,h.2.1,hq _ _ _ _ h.2.2⟩)
 |feet pm l=>intro Q Q' t df g h hq;exact m pm l h (hq _)
 | seq a b iha ihb =>
  intro Q Q' t df g h hq;refine iha h λe t df g h=>?_;cases e with
  |norm=>exact ihb h hq
  |exit x=>exact hq _ _ _ _ h
  |ret=>exact hq _ _ _ _ h
 | cond c a b iha ihb =>
  intro Q Q' t df g h hq;have h:wpC (c.get t) (wp C d rd a Q) (wp C d rd b Q) t df g:=h;show wpC (c.get t) (wp C d rd a Q') (wp C d rd b Q') t df g;unfold wpC at h ⊢
  split at h
  ·exact⟨λq=>iha (h.1 q) hq,λq=>ihb (h.2 q) hq⟩
  ·exact h
 | blk id b ih =>
  intro Q Q' t df g h hq;refine ih h λe t df g h=>?_;cases e with
  |norm=>exact hq _ _ _ _ h
  | exit x =>
   rw[rh]at h ⊢
   split at h
   ·rename_i e;rw[VC e];exact hq _ _ _ _ h
   ·rename_i e;rw[Vz e];exact hq _ _ _ _ h
  |ret=>exact hq _ _ _ _ h
 | loop b ih =>
  intro Q Q' t df g h hq;obtain⟨Inv,hk,hs⟩:=h;refine⟨Inv,hk,λk t df g hi=>ih (hs k t df g hi) λe t df g h=>?_⟩;cases e with
  |norm=>exact h
  |exit x=>exact hq _ _ _ _ h
  |ret=>exact hq _ _ _ _ h
 |exit id=>intro Q Q' t df g h hq;exact hq _ _ _ _ h
 |ret=>intro Q Q' t df g h hq;exact hq _ _ _ _ h
 |rng nt f ps a b _ _=>intro Q Q' t df g h hq assign body ha hb;exact CR.sat_mono (h assign body ha hb) hq
 |raw nt c=>intro Q Q' t df g h hq;exact CR.sat_mono h hq
theorem bD{tn:Nat}(hm:m<9223372036854775808)(J:Nat->PT)
  (h0:J 0 t df g) (hi:tat t ti=.int .i64 0) (hn:tat t tn=.int .i64 (m:Int)) (hc:c≠ti/\c≠tn/\k≠tn/\ti≠tn/\b≠B)
  (hJ:∀j t df g v s,s=c\/s=ti\/s=k->J j t df g->J j (eQ t s v) df g)
  (step:∀j t df g,j<m->J j t df g->tat t ti=.int .i64 (j:Int)->tat t tn=.int .i64 (m:Int) ->
   wp C d rd body (kR (λt df g=>J (j+1) t df g/\tat t ti=.int .i64 (j:Int)/\tat t tn=.int .i64 (m:Int)) b Q) t df g)
  (fin:∀t df g,J m t df g->Q (.exit B) t df g) :
  wpL (wp C d rd (.seq (.ops [o c (.bin .lss (.t ti) (.t tn))]) (.seq (.cond (.t c) .skip (.exit B)) (.seq (.blk b body) (.ops [o k (.bin .add (.t ti) (.k (.int .i64 1))),o ti (.mv (.t k))]))))) Q t df g:=by
 obtain⟨c1,i,l,p,q⟩:=hc;refine it (λn t df g=>∃j:Nat,n=m - j/\j<=m/\J j t df g/\tat t ti=.int .i64 (j:Int)/\tat t tn=.int .i64 (m:Int)) m ⟨0,by omega,by omega,h0,hi,hn⟩ ?_;rintro n t df g ⟨j,rfl,r,a,h1,h2⟩;simp only[sx,SO.run,↓reduceIte,h1,h2];refine⟨λhq=>?_,λhq=>?_⟩
 ·have hlt:j<m:=by simpa using hq
  simp only[sx];refine bX _ (step j _ df g hlt (hJ _ _ _ _ _ _ (.inl rfl) a) (by simp only[kP];rw[Vz (WD c1),h1]) (by simp only[kP];rw[Vz (WD i),h2])) λe t df g h=>?_;have key:J (j+1) t df g/\tat t ti=.int .i64 (j:Int)/\tat t tn=.int .i64 (m:Int)->wp C d rd (.ops [o k (.bin .add (.t ti) (.k (.int .i64 1))),o ti (.mv (.t k))])
    (kL (λn t df g=>∃j:Nat,n=m - j/\j<=m/\J j t df g/\tat t ti=.int .i64 (j:Int)/\tat t tn=.int .i64 (m:Int)) (m - j) Q) t df g:=by
   rintro⟨a1,a2,f⟩;simp only[sx,SO.run,a2,↓reduceIte];refine⟨_,?_,j+1,rfl,by omega,hJ _ _ _ _ _ _ (.inr (.inl rfl)) (hJ _ _ _ _ _ _ (.inr (.inr rfl)) a1),?_,?_⟩
   ·omega
   ·rw[ap (by omega) (by omega)];rfl
   ·rw[Vz (WD p),Vz (WD l),f]
  cases e with
  |norm=>exact key h
  |ret=>exact h
  | exit x =>
   rw[oo]at h;rw[rh]
   split at h
   ·rename_i e;rw[VC e];exact key h
   ·rename_i e;rw[Vz e];exact h
 ·have:j=m:=by simp at hq;omega
  subst this;simp only[sx];exact fin _ _ _ (hJ _ _ _ _ _ _ (.inl rfl) a)
theorem Kr{Hd inc:SC}(J:Nat->PT)(h0:J 0 t df g)
  (hd:∀j t df g,j<=m->J j t df g->wp C d rd Hd (λe t df g=>e=.norm/\tat t c=.bool (decide (j<m))/\J j t df g) t df g)
  (step:∀j t df g,j<m->J j t df g->wp C d rd body (kR (λt df g=>wp C d rd inc (λe t df g=>e=.norm/\J (j+1) t df g) t df g) b Q) t df g)
  (fin:∀t df g,J m t df g->Q (.exit B) t df g) :
  wpL (wp C d rd (.seq (.seq Hd (.cond (.t c) .skip (.exit B))) (.seq (.blk b body) inc))) Q t df g:=by
 refine it (λn t df g=>∃j:Nat,n=m - j/\j<=m/\J j t df g) m ⟨0,by omega,by omega,h0⟩ ?_;rintro n t df g ⟨j,rfl,a,k⟩;simp only[jl];refine bX _ (hd j t df g a k) ?_;rintro e t df g ⟨rfl,hq,k⟩;simp only[sx,hq];refine⟨λhq=>?_,λhq=>?_⟩
 ·have hlt:j<m:=by simpa using hq
  simp only[sx];refine bX _ (step j t df g hlt k) λe t df g h=>?_;have key:wp C d rd inc (λe t df g=>e=.norm/\J (j+1) t df g) t df g->wp C d rd inc (kL (λn t df g=>∃j:Nat,n=m - j/\j<=m/\J j t df g) (m - j) Q) t df g:=by intro h;refine bX _ h ?_;rintro e t df g ⟨rfl,h⟩;exact⟨_,by omega,j+1,rfl,by omega,h⟩
  cases e with
  |norm=>exact key h
  |ret=>exact h
  | exit x =>
   rw[oo]at h;rw[rh]
   split at h
   ·rename_i e;rw[VC e];exact key h
   ·rename_i e;rw[Vz e];exact h
 ·have:j=m:=by simp at hq;omega
  subst this;simp only[sx];exact fin _ _ _ k
theorem oy{a b' e sl:Nat}(hm:m<9223372036854775808)(hlen:∀g,dH .slice v g=.val (.int .i64 (m:Int)))(J:Nat->PT)
  (h0:J 0 t df g) (hi:tat t ti=.int .i64 0) (hs:tat t sl=v)
  (hc:(a≠ti/\b'≠ti/\e≠ti/\c≠ti)/\(a≠sl/\b'≠sl/\e≠sl/\c≠sl/\x≠sl/\y≠sl/\ti≠sl)/\a≠b'/\a≠e/\x≠y)
  (hJ:∀j t df g v s,s=a\/s=b'\/s=e\/s=c\/s=ti\/s=x\/s=y->J j t df g->J j (eQ t s v) df g)
  (step:∀j t df g,j<m->J j t df g->tat t ti=.int .i64 (j:Int)->tat t sl=v ->
   wp C d rd body (kR (λt df g=>J (j+1) t df g/\tat t ti=.int .i64 (j:Int)/\tat t sl=v) b Q) t df g)
  (fin:∀t df g,J m t df g->tat t sl=v->Q (.exit B) t df g) :
  wpL (wp C d rd (.seq (.seq (.ops [o a (.mv (.t ti)),o b' (.mv (.t sl)),o e (.len .slice (.t b')),o c (.bin .lss (.t a) (.t e))]) (.cond (.t c) .skip (.exit B))) (.seq (.blk b body)
   (.ops [o x (.mv (.t ti)),o y (.bin .add (.t x) (.k (.int .i64 1))),o ti (.mv (.t y))])))) Q t df g:=by
 obtain⟨⟨p,q2,q3,q⟩,⟨r,u,w,z,r5,A,D⟩,l,n,E⟩:=hc;refine Kr (m:=m) (λj t df g=>J j t df g/\tat t ti=.int .i64 (j:Int)/\tat t sl=v) ⟨h0,hi,hs⟩ ?_ ?_ (λt df g h=>fin t df g h.1 h.2.2)
 ·rintro j t df g i ⟨h1,h2,f⟩;simp only[sx,SO.run,h2,f,hlen,l,n,WD r,↓reduceIte,WD p,WD q2,WD q3,WD q,WD u,WD w,WD z,true_and,and_true];refine⟨by congr 1;simp,hJ _ _ _ _ _ _ (.inr (.inr (.inr (.inl rfl)))) (hJ _ _ _ _ _ _ (.inr (.inr (.inl rfl))) (hJ _ _ _ _ _ _ (.inr (.inl rfl)) (hJ _ _ _ _ _ _ (.inl rfl) h1)))⟩
 ·rintro j t df g i ⟨h1,h2,f⟩;refine bX _ (step j t df g i h1 h2 f) λe t df g h=>?_;have key:J (j+1) t df g/\tat t ti=.int .i64 (j:Int)/\tat t sl=v->wp C d rd (.ops [o x (.mv (.t ti)),o y (.bin .add (.t x) (.k (.int .i64 1))),o ti (.mv (.t y))])
    (λe t df g=>e=.norm/\J (j+1) t df g/\tat t ti=.int .i64 ((j+1:Nat):Int)/\tat t sl=v) t df g:=by
   rintro⟨h1,h2,f⟩;simp only[sx,SO.run,h2,↓reduceIte,WD r5,WD A,WD D,f,true_and,and_true];refine⟨hJ _ _ _ _ _ _ (.inr (.inr (.inr (.inr (.inl rfl))))) (hJ _ _ _ _ _ _ (.inr (.inr (.inr (.inr (.inr (.inr rfl)))))) (hJ _ _ _ _ _ _ (.inr (.inr (.inr (.inr (.inr (.inl rfl)))))) h1)),?_⟩;rw[ap (by omega) (by omega)];rfl
  cases e with
  |norm=>exact key h
  |ret=>exact h
  | exit x =>
   rw[oo]at h ⊢
   split at h
   ·rename_i e;rw[VC e];exact key h
   ·rename_i e;rw[Vz e];exact h
theorem qD{a:Nat}(hm:m<9223372036854775808)(J:Nat->PT)
  (h0:J m t df g) (hi:tat t ti=.int .i64 ((m:Int) - 1)) (hc:a≠ti/\c≠ti/\x≠ti)
  (hJ:∀j t df g v s,s=a\/s=c\/s=ti\/s=x\/s=y->J j t df g->J j (eQ t s v) df g)
  (step:∀j t df g,j<m->J (j+1) t df g->tat t ti=.int .i64 (j:Int)->wp C d rd body (kR (λt df g=>J j t df g/\tat t ti=.int .i64 (j:Int)) b Q) t df g)
  (fin:∀t df g,J 0 t df g->Q (.exit B) t df g) :
  wpL (wp C d rd (.seq (.seq (.ops [o a (.mv (.t ti)),o c (.bin .geq (.t a) (.k (.int .i64 0)))]) (.cond (.t c) .skip (.exit B))) (.seq (.blk b body)
   (.ops [o x (.mv (.t ti)),o y (.bin .sub (.t x) (.k (.int .i64 1))),o ti (.mv (.t y))])))) Q t df g:=by
 obtain⟨c1,i,l⟩:=hc;refine it (λn t df g=>n<=m/\J n t df g/\tat t ti=.int .i64 ((n:Int) - 1)) m ⟨Vu _,h0,hi⟩ ?_;rintro n t df g ⟨p,f,h1⟩;simp only[sx,SO.run,↓reduceIte,h1];refine⟨λhq=>?_,λhq=>?_⟩
 ·obtain⟨j,rfl⟩:∃j,n=j+1:=⟨n - 1,by simp at hq;omega⟩;simp only[sx];refine bX _ (step j _ df g (by omega) (hJ _ _ _ _ _ _ (.inr (.inl rfl)) (hJ _ _ _ _ _ _ (.inl rfl) f)) (by simp only[kP];rw[Vz (WD i),Vz (WD c1),h1];congr 1;omega)) λe t df g h=>?_;have key:J j t df g/\tat t ti=.int .i64 (j:Int)->wp C d rd (.ops [o x (.mv (.t ti)),o y (.bin .sub (.t x) (.k (.int .i64 1))),o ti (.mv (.t y))])
    (kL (λn t df g=>n<=m/\J n t df g/\tat t ti=.int .i64 ((n:Int) - 1)) (j+1) Q) t df g:=by
   rintro⟨a1,a2⟩;simp only[sx,SO.run,a2,↓reduceIte];refine⟨j,by omega,by omega,hJ _ _ _ _ _ _ (.inr (.inr (.inl rfl))) (hJ _ _ _ _ _ _ (.inr (.inr (.inr (.inr rfl)))) (hJ _ _ _ _ _ _ (.inr (.inr (.inr (.inl rfl)))) a1)),?_⟩;rw[ap (by omega) (by omega)]
  cases e with
  |norm=>exact key h
  |ret=>exact h
  | exit x =>
   rw[oo]at h;rw[rh]
   split at h
   ·rename_i e;rw[VC e];exact key h
   ·rename_i e;rw[Vz e];exact h
 ·have:n=0:=by simp at hq;omega
  subst this;simp only[sx];exact fin _ _ _ (hJ _ _ _ _ _ _ (.inr (.inl rfl)) (hJ _ _ _ _ _ _ (.inl rfl) f))
theorem aP{Hd:List SI}(m:Nat)(hm:m<9223372036854775808)(J:Nat->PT)
  (h0:J 0 t df g) (hi:tat t ti=.int .i64 0) (hx:x≠ti)
  (hJ:∀j t df g v s,s=ti\/s=x\/s=y->J j t df g->J j (eQ t s v) df g)
  (hd:∀j t df g,j<=m->J j t df g->tat t ti=.int .i64 (j:Int)->wpO C d rd Hd (λt df g=>tat t c=.bool (decide ((j:Int)<(m:Int)))/\J j t df g/\tat t ti=.int .i64 (j:Int)) t df g)
  (step:∀j t df g,j<m->J j t df g->tat t ti=.int .i64 (j:Int)->wp C d rd body (kR (λt df g=>J (j+1) t df g/\tat t ti=.int .i64 (j:Int)) b Q) t df g)
  (fin:∀t df g,J m t df g->Q (.exit B) t df g) :
  wpL (wp C d rd (.seq (.seq (.ops Hd) (.cond (.t c) .skip (.exit B))) (.seq (.blk b body)
   (.ops [o x (.mv (.t ti)),o y (.bin .add (.t x) (.k (.int .i64 1))),o ti (.mv (.t y))])))) Q t df g:=by
 refine Kr (m:=m) (λj t df g=>J j t df g/\tat t ti=.int .i64 (j:Int)) ⟨h0,hi⟩ ?_ ?_ (λt df g h=>fin t df g h.1)
 ·rintro j t df g a ⟨h1,h2⟩;have:=hd j t df g a h1 h2;refine bX (.ops Hd) (Q:=λe t df g=>e=.norm/\tat t c=.bool (decide ((j:Int)<(m:Int)))/\J j t df g/\tat t ti=.int .i64 (j:Int)) (by rw[E8];simpa using this) ?_;rintro e t df g ⟨rfl,a1,a2,f⟩;refine⟨rfl,?_,a2,f⟩;rw[a1];congr 1;simp
 ·rintro j t df g a ⟨h1,h2⟩;refine bX _ (step j t df g a h1 h2) λe t df g h=>?_;have key:J (j+1) t df g/\tat t ti=.int .i64 (j:Int)->wp C d rd (.ops [o x (.mv (.t ti)),o y (.bin .add (.t x) (.k (.int .i64 1))),o ti (.mv (.t y))])
    (λe t df g=>e=.norm/\J (j+1) t df g/\tat t ti=.int .i64 ((j+1:Nat):Int)) t df g:=by
   rintro⟨h1,h2⟩;simp only[sx,SO.run,h2,↓reduceIte,true_and];refine⟨hJ _ _ _ _ _ _ (.inl rfl) (hJ _ _ _ _ _ _ (.inr (.inr rfl)) (hJ _ _ _ _ _ _ (.inr (.inl rfl)) h1)),?_⟩;rw[ap (by omega) (by omega)];rfl
  cases e with
  |norm=>exact key h
  |ret=>exact h
  | exit x =>
   rw[oo]at h ⊢
   split at h
   ·rename_i e;rw[VC e];exact key h
   ·rename_i e;rw[Vz e];exact h
end
section
variable {off:Nat}{h:H}
def vid:AV->Option Nat
 |.hsl id _ _ _ _=>some id
 |_=>none
def Own(g:G)(b:Nat)(v:AV)(sz:Nat)(rows:List (List AV)):Prop :=
 (v=.nils/\rows=[])\/∃id ep lo,b<=id/\id<g.nx/\v=.hsl id ep 0 rows.length none/\g.h.get id=.cells sz rows ep lo false
theorem Own.rows{g:G}{b:Nat}{v:AV}{sz:Nat}{rows:List (List AV)}(h:Own g b v sz rows):ak g.h sz v=some rows:=by
 rcases h with⟨rfl,rfl⟩|⟨id,ep,lo,h1,h2,rfl,k⟩
 ·rfl
 ·rw[eI,k,yN]
theorem Own.fr{g:G}{sz:Nat}{rows:List (List AV)}(h:Own g b v sz rows)(hn:g.nx<=g'.nx)(hf:∀i,vid v=some i->g'.h.get i=g.h.get i):Own g' b v sz rows:=by
 rcases h with h|⟨id,ep,lo,h1,h2,rfl,k⟩
 ·exact .inl h
 ·exact .inr ⟨id,ep,lo,h1,by omega,rfl,by rw[hf id rfl,k]⟩
theorem Own.lt{g:G}{sz:Nat}{rows:List (List AV)}(h:Own g b v sz rows)(hi:vid v=some i):b<=i/\i<g.nx:=by
 rcases h with⟨rfl,-⟩|⟨id,ep,lo,h1,h2,rfl,k⟩
 ·cases hi
 ·injection hi with hi;subst hi;exact⟨h1,h2⟩
theorem Own.cell{g:G}{sz:Nat}{rows:List (List AV)}(h:Own g b v sz rows):v.cells=[v]/\v.isTup=false:=by rcases h with⟨rfl,-⟩|⟨id,ep,lo,h1,h2,rfl,k⟩<;>exact⟨rfl,rfl⟩
theorem aM{g:G}{x:AV}{sz bytes:Nat}{rows new:List (List AV)}(hv:Own g b v sz rows)(hx:ak g.h sz x=some new)(hb:b<=g.nx)
  (hr:(rows.length+new.length)*bytes<=aT)
  (k:∀v' g',Own g' b v' sz (rows++new)->g.nx<=g'.nx->(∀i,i<g.nx->vid v≠some i->g'.h.get i=g.h.get i)->(vid v'=vid v\/∃i,vid v'=some i/\g.nx<=i)->(∀i∈g'.lg,i∈g.lg\/b<=i)->K v' g') :
  (cW sz bytes v x g).sat K g D:=by
 unfold cW;rw[hx];dsimp only;rcases hv with⟨rfl,rfl⟩|⟨id,ep,lo,h1,h2,rfl,a⟩
 ·cases new with
  |nil=>exact k _ _ (.inl ⟨rfl,rfl⟩) (Vu _) (λ_ _ _=>rfl) (.inl rfl) (λi hi=>.inl hi)
  | cons r new =>
   simp only[bk,aF,aa,Wt];rw[VC (by simpa using hr)];refine k _ _ (.inr ⟨g.nx,0,true,hb,by simp,rfl,by simp[aJ]⟩) (by simp) (λi hi _=>?_) (.inr ⟨g.nx,rfl,Vu _⟩) (λi hi=>by simp at hi;rcases hi with rfl|hi;exact .inr hb;exact .inl hi);rw[G.new_h,af _ _ _ (by omega)]
 ·simp only[bk,G.get_eq,a,aF,aa,show Nat.beq ep ep=true from Wm ep,show Nat.beq sz sz=true from Wm sz,WA,Wt,Vx,WE,Xg,XJ];rw[VC ⟨Vu _,hr⟩];cases new with
  | nil =>
   rw[VC (by simp)];refine k _ _ (.inr ⟨id,ep,lo,h1,h2,by simp,by simpa using a⟩) (Vu _) (λ_ _ _=>rfl) (.inl rfl) (λi hi=>.inl hi)
  | cons r new =>
   rw[Vz (by simp)];have ht:iJ rows.length (iz 0 rows)=rows:=by rw[bj,bp];simp
   cases lo with
   | false =>
    rw[VC (by simp)];refine k _ _ (.inr ⟨g.nx,0,true,by omega,by simp,by simp,by simp[aJ,ht]⟩) (by simp) (λi hi _=>?_) (.inr ⟨g.nx,rfl,Vu _⟩) (λi hi=>by simp at hi;rcases hi with rfl|hi;exact .inr hb;exact .inl hi);rw[G.new_h,af _ _ _ (by omega)]
   | true =>
    rw[Vz (by simp)];refine k _ _ (.inr ⟨id,ep+1,true,h1,by simpa using h2,by simp,by simp[aJ,ht]⟩) (by simp) (λi hi hne=>?_) (.inl rfl) (λi hi=>by simp at hi;rcases hi with rfl|hi;exact .inr h1;exact .inl hi);rw[G.put_h,af _ _ _ (λe=>hne (by rw[e];rfl))]
def Fr(g g':G):Prop:=g.nx<=g'.nx/\∀i,i<g.nx->g'.h.get i=g.h.get i
theorem Fr.refl(g:G):Fr g g:=⟨Vu _,λ_ _=>rfl⟩
theorem Fr.trans{g g'':G}(h:Fr g g')(h':Fr g' g''):Fr g g'':=⟨VR h.1 h'.1,λi hi=>by rw[h'.2 i (VL hi h.1),h.2 i hi]⟩
theorem Fr.new(g:G)(o:AObj):Fr g (g.new o):=⟨by simp,λi hi=>by rw[G.new_h,af _ _ _ (by omega)]⟩
theorem Own.step{g:G}{sz:Nat}{rows:List (List AV)}(h:Own g b v sz rows)(f:Fr g g'):Own g' b v sz rows :=
 h.fr f.1 λi hi=>f.2 i (h.lt hi).2
theorem bK{g:G}{sz:Nat}{rows:List (List AV)}{row row':List AV}{x:AV}(hv:Own g b v sz rows)(hr:rows[i]?=some row)
  (hl:x.cells.length=n) (ht:x.isTup=false) (hp:bu row off x.cells=some row')
  (k:∀g',Own g' b v sz (rows.set i row')->g'.nx=g.nx->(∀i,vid v≠some i->g'.h.get i=g.h.get i)->K .undef g'):(jV n (eJ sz v i off) x g).sat K g D:=by
 rcases hv with⟨rfl,rfl⟩|⟨id,ep,lo,h1,h2,rfl,a⟩
 ·simp at hr
 ·simp only[eJ,WE];rw[rI a hr rfl ht hl hp];refine k _ (.inr ⟨id,ep,lo,h1,by simpa using h2,by simp,by simp[aJ]⟩) (by simp) (λi hne=>?_);rw[G.put_h,af _ _ _ (λe=>hne (by rw[e];rfl))]
theorem zP{g:G}{sz bytes:Nat}{zero:List AV}{k1 k2:IntKind}(hn:n<=aT)(hb:n*bytes<=aT)(hg:b<=g.nx)
  (k:∀v' g',Own g' b v' sz (List.replicate n zero)->g'.nx=g.nx+1->(∀i,i<g.nx->g'.h.get i=g.h.get i)->vid v'=some g.nx->K v' g') :
  (HR sz bytes zero (.int k1 (n:Int)) (.int k2 (n:Int)) g).sat K g D:=by
 show (match eO aT (.int k2 (.ofNat n)) with
  | some cn=>match eO cn (.int k1 (.ofNat n)) with
   |some ln=>aB (Nat.ble (cn*bytes) aT) (OR.upd (.hsl g.nx 0 0 ln none) (g.new (Y6 sz (qx cn zero)))) .fail
   |none=>.fail
  |none=>.fail).sat K g D
 simp only[eO,aa,Wt,VC hn,Vu,VC hb,if_true];refine k _ _ (.inr ⟨g.nx,0,false,hg,by simp,by simp,by simp[aJ,qx]⟩) (by simp) (λi hi=>?_) rfl;rw[G.new_h,af _ _ _ (by omega)]
theorem Own.sl{α:Type} [Rp α]{g:G}{rows:List (List AV)}{l:List α}{P:Nat->Prop}(h:Own g b v (Rp.sz α) rows)(hl:l.length<9223372036854775808)(hr:All2 (Rp.rp P k g.h) l rows)
  (hp:∀i,vid v=some i->P i):SlR P k g.h l v:=by
 refine⟨hl,?_⟩;have a:=h.rows;rcases h with⟨rfl,rfl⟩|⟨id,ep,lo,h1,h2,rfl,c⟩
 ·exact Wb hr.len
 ·exact⟨hp id rfl,rows,a,hr⟩
theorem Own.ints{g:G}{l:List Int}(h:Own g b v 1 (l.map ci))(hl:l.length<9223372036854775808):One l (λ_=>True) k g.h v :=
 ⟨v,rfl,Own.sl (α:=Int) h hl (Tx (λa=>aW.2 rfl) l) λ_ _=>trivial⟩
theorem bi{x:OR}{Q:AV->Prop}{g:G}(h:∃r,x=.val r/\Q r)(k:∀r,Q r->K r g):x.sat K g D:=by obtain⟨r,rfl,hr⟩:=h;exact k r hr
section feet
variable {C:Cfg}{d:Nat}{rd:Option Nat}{pm:List Nat}
theorem Kq(Q:PT)(t:T)(df:List ADf)(g:G)(fs:List Foot):wpF C d rd pm [] Q t df g fs=(q9 pm fs.reverse=true/\Q t df g):=rfl
theorem RA(n:Nat)(op:SO)(r:List SI)(Q:PT)(t:T)(df:List ADf)(g:G)(fs:List Foot):wpF C d rd pm (o n op::r) Q t df g fs =
  (op.run C d rd t (aN g [])).sat (kF (wpF C d rd pm r Q) (some n) t df g.lg fs (op.foot C t g)) (aN g []) (λ_=>False):=rfl
theorem Pc(op:SO)(r:List SI)(Q:PT)(t:T)(df:List ADf)(g:G)(fs:List Foot):wpF C d rd pm (oz op::r) Q t df g fs =
  (op.run C d rd t (aN g [])).sat (kF (wpF C d rd pm r Q) none t df g.lg fs (op.foot C t g)) (aN g []) (λ_=>False):=rfl
theorem Pb(n s:Nat)(w:Bool)(op:SO)(r:List SI)(Q:PT)(t:T)(df:List ADf)(g:G)(fs:List Foot) :
  wpF C d rd pm (og n s w op::r) Q t df g fs=gdP (tat t s) w (LC C d rd (o n op) (wpF C d rd pm r Q) fs) (G4 (o n op) (wpF C d rd pm r Q) fs) t df g:=rfl
theorem OF(n:Nat)(op:SO)(W:FT)(fs:List Foot)(t:T)(df:List ADf)(g:G):LC C d rd (o n op) W fs t df g =
  (op.run C d rd t (aN g [])).sat (kF W (some n) t df g.lg fs (op.foot C t g)) (aN g []) (λ_=>False):=rfl
theorem Kh(n:Nat)(op:SO)(W:FT)(fs:List Foot)(t:T)(df:List ADf)(g:G):G4 (o n op) W fs t df g=W (eQ t n .undef) df g (⟨ay,[]⟩::fs):=rfl
theorem JE(W:FT)(n:Nat)(t:T)(df:List ADf)(lg:List Nat)(fs:List Foot)(lk:Looks)(v:AV)(g:G):kF W (some n) t df lg fs lk v g=W (eQ t n v) df (j7 g (g.lg++lg)) (⟨lk,g.lg⟩::fs):=rfl
theorem JD(W:FT)(t:T)(df:List ADf)(lg:List Nat)(fs:List Foot)(lk:Looks)(v:AV)(g:G):kF W none t df lg fs lk v g=W t df (j7 g (g.lg++lg)) (⟨lk,g.lg⟩::fs):=rfl
theorem fT{sz:Nat}(h:nA v=true):aw (eJ sz v i off)=aw v:=by cases v<;>first|rfl|cases h
theorem cO(id ep i off:Nat):aw (.hptr id ep i off)=[id]:=rfl
theorem rE(id ep off len:Nat)(lim:Option Nat):aw (.hsl id ep off len lim)=[id]:=rfl
theorem GP:aw .nils=[]:=rfl
theorem SlR.refs{α:Type} [Rp α]{l:List α}(r:SlR NoP k h l v):aw v=[]:=by
 have r:=r.2;unfold SlV at r
 split at r<;>first|rfl|exact r.1.elim|exact r.elim
theorem Sr{α:Type} [Rp α]{x:α}{cs:List AV}(r:Rp.rp NoP k h x cs)(n:Nat):cs.flatMap (aD h n)=[]:=by rw[List.eq_nil_iff_forall_not_mem];exact λi hi=>Rp.ids r i hi
theorem EN{α:Type} [Rp α]{l:List α}(r:SlR NoP k h l v):aD h aE v=[]:=by have:=Sr (show Rp.rp NoP k h l [v] from ⟨v,rfl,r⟩) aE;simpa using this
end feet
section looks
variable {C:Cfg}{t:T}{g:G}
theorem Rc(x:Od):SO.foot C t g (.mv x)=ay:=rfl
theorem Jv(c a b:Od):SO.foot C t g (.pick c a b)=ay:=rfl
theorem FU(cs:List AV):SO.foot C t g (.alloc cs)=ay:=rfl
theorem M2(x:Od):SO.foot C t g (.box x)=ay:=rfl
theorem FV(z:List AV)(pl:List (Nat×Nat))(vs:List Od):SO.foot C t g (.build z pl vs)=ay:=rfl
theorem M3(sz len:Nat)(z:List AV)(is:List Nat)(vs:List Od):SO.foot C t g (.bsl sz len z is vs)=ay:=rfl
theorem Jt(ag:Bool)(n:Nat)(a:Od):SO.foot C t g (.load ag n a)=ah (aw (a.get t)):=rfl
theorem FW(n:Nat)(a x:Od):SO.foot C t g (.store n a x)=ah (aw (a.get t)):=rfl
theorem Ju(x:Od):SO.foot C t g (.nilc x)=ay:=rfl
theorem M1(op:BinOp)(x y:Od):SO.foot C t g (.bin op x y)=ay:=rfl
theorem Q_(ng:Bool)(ek:EqKind)(x y:Od):SO.foot C t g (.eq ng ek x y)=ay:=rfl
theorem Nc(x:Od):SO.foot C t g (.not x)=ay:=rfl
theorem Js(k:IntKind)(x:Od):SO.foot C t g (.conv k x)=ay:=rfl
theorem Na(f:Nat)(a c:List Od):SO.foot C t g (.mkf f a c)=ay:=rfl
theorem Nb(sz bt:Nat)(z:List AV)(l c:Od):SO.foot C t g (.mks sz bt z l c)=ay:=rfl
theorem Nd(sz:Nat)(x:Od)(lo hi:List Od):SO.foot C t g (.slc sz x lo hi)=ah (aw (x.get t)):=rfl
theorem M6(fo:Nat)(x:Od):SO.foot C t g (.fad fo x)=ay:=rfl
theorem M7(ag:Bool)(n fo:Nat)(x:Od):SO.foot C t g (.fld ag n fo x)=ay:=rfl
theorem M9(sz:Nat)(x i:Od):SO.foot C t g (.ixs sz x i)=ah (aw (x.get t)):=rfl
theorem M8(n sz:Nat)(x i:Od):SO.foot C t g (.ixa n sz x i)=ay:=rfl
theorem Ra(ag:Bool)(n sz:Nat)(x i:Od):SO.foot C t g (.ix ag n sz x i)=ay:=rfl
theorem M5(x:Od)(i:Nat):SO.foot C t g (.ext x i)=ay:=rfl
theorem M_(x:Od):SO.foot C t g (.len .slice x)=ay:=rfl
theorem MZ(sz bt:Nat)(x y:Od):SO.foot C t g (.app sz bt x y)=ah (aw (x.get t)++aw (y.get t)):=rfl
theorem M4(sz:Nat)(x y:Od):SO.foot C t g (.cpy sz x y)=ah (aw (x.get t)++aw (y.get t)):=rfl
theorem Rd(x y:Od):SO.foot C t g (.mx x y)=ah (aw (x.get t)++aw (y.get t)):=rfl
theorem Rb(x y:Od):SO.foot C t g (.mn x y)=ah (aw (x.get t)++aw (y.get t)):=rfl
end looks
theorem sf:type_of% (Vr @Rc <|Vr @Jv <|Vr @FU <|Vr @M2 <|Vr @FV <|Vr @M3 <|Vr @Jt <|Vr @FW <|Vr @Ju <|Vr @M1 <|Vr @Q_ <|Vr @Nc <|Vr @Js <|Vr @Na <|Vr @Nb <|Vr @Nd <|Vr @M6 <|Vr @M7 <|Vr @M9 <|Vr @M8 <|Vr @Ra <|Vr @M5 <|Vr @M_ <|Vr @MZ <|Vr @M4 <|Vr @Rd <|@Rb) :=
 Vr @Rc <|Vr @Jv <|Vr @FU <|Vr @M2 <|Vr @FV <|Vr @M3 <|Vr @Jt <|Vr @FW <|Vr @Ju <|Vr @M1 <|Vr @Q_ <|Vr @Nc <|Vr @Js <|Vr @Na <|Vr @Nb <|Vr @Nd <|Vr @M6 <|Vr @M7 <|Vr @M9 <|Vr @M8 <|Vr @Ra <|Vr @M5 <|Vr @M_ <|Vr @MZ <|Vr @M4 <|Vr @Rd <|@Rb
theorem CL(k:IntKind)(x:Int):(AV.int k x).cells=[.int k x]:=rfl
theorem Ar(x:Bool):(AV.bool x).cells=[.bool x]:=rfl
theorem CK(cs:List AV):(AV.agg cs).cells=cs:=rfl
theorem At:AV.nils.cells=[.nils]:=rfl
theorem C6(k:IntKind)(x:Int):(AV.int k x).isTup=false:=rfl
theorem A2(x:Bool):(AV.bool x).isTup=false:=rfl
theorem C5(cs:List AV):(AV.agg cs).isTup=false:=rfl
theorem A3:AV.nils.isTup=false:=rfl
theorem xP(id ep off len:Nat)(lim:Option Nat):(AV.hsl id ep off len lim).cells=[.hsl id ep off len lim]:=rfl
theorem yh(id ep off len:Nat)(lim:Option Nat):(AV.hsl id ep off len lim).isTup=false:=rfl
theorem CM(t s:Nat)(rows:List (List AV)):(AV.tsl t s rows).cells=[.tsl t s rows]:=rfl
theorem C7(t s:Nat)(rows:List (List AV)):(AV.tsl t s rows).isTup=false:=rfl
theorem Hu(x:AV)(g:G)(h:x.isTup=false):Ah x g=.upd (.hptr g.nx 0 0 0) (g.new (Y6 x.cells.length [x.cells])):=by simp only[Ah,h,aF]
theorem IY(sz:Nat)(zero:List AV)(g:G):L9 sz 0 zero [] [] g=.upd (.hsl g.nx 0 0 0 none) (g.new (Y6 sz [])):=rfl
theorem IZ(sz:Nat)(zero:List AV)(v:AV)(g:G)(hl:v.cells.length=sz)(ht:v.isTup=false) :
  L9 sz 1 zero [0] [v] g=.upd (.hsl g.nx 0 0 1 none) (g.new (Y6 sz [v.cells])):=by
 subst hl;have:Nat.beq (bC v.cells) v.cells.length=true:=by rw[aF];exact Wm _
 have h2:gW v.cells.length [zero] [(0,v)]=some [v.cells]:=by simp only[gW,ht,aa,aF,jj,notb_eq];rw[show Nat.beq v.cells.length v.cells.length=true from Wm _];rfl
 show (match gW v.cells.length [zero] [(0,v)] with|some rows=>OR.upd (.hsl g.nx 0 0 1 none) (g.new (Y6 v.cells.length rows))|none=>.fail)=_;rw[h2]
theorem iI(row:List AV)(off:Nat)(cs:List AV):bu row off cs=if off+cs.length<=row.length then some (row.take off++(cs++row.drop (off+cs.length))) else none:=by
 simp only[bu,aF,aa,Wt,jj,bj,bp]
 split
 ·rename_i h
  split
  ·rename_i c;simp only[XC]at h;rw[List.set_eq_take_append_cons_drop,VC (by omega)];rfl
  ·rfl
 ·rfl
theorem Q5(a:AV)(l:List AV):ML (.tup (a::l)) 0=.val a:=rfl
theorem Q6(a b:AV)(l:List AV):ML (.tup (a::b::l)) 1=.val b:=rfl
theorem Q7(a b c:AV)(l:List AV):ML (.tup (a::b::c::l)) 2=.val c:=rfl
theorem MY(ag:Bool)(n fo:Nat)(cs:List AV):RY ag n fo (.agg cs)=orV (bP ag n cs fo):=rfl
theorem Df{row:List AV}:bP true (n+1) row off=if off+(n+1)<=row.length then some (.agg ((row.drop off).take (n+1))) else none:=by
 split
 ·rename_i h;exact GF h
 ·rename_i h;simp only[bP,bj,bp,aF,Wf,Ye,aa];rw[Vz];intro e;have:=WT e;omega
theorem Fi(zero:List AV)(pl:List (Nat×Nat))(vs:List AV):DH zero pl vs=match c8 zero (pl.zip vs) with|some cs=>.val (.agg cs)|none=>.fail:=rfl
theorem CX(cs:List AV):c8 cs []=some cs:=rfl
theorem AN(cs:List AV)(off size:Nat)(v:AV)(rest:List ((Nat×Nat)×AV))(hl:v.cells.length=size)(ht:v.isTup=false) :
  c8 cs (((off,size),v)::rest)=match bu cs off v.cells with|some cs=>c8 cs rest|none=>none:=by
 subst hl;have:Nat.beq (bC v.cells) v.cells.length=true:=by rw[aF];exact Wm _
 simp only[c8,this,ht,notb_eq,Yg,Yd]
 rfl
theorem Oi(ag:Bool)(n a:Nat)(r:List SR)(t:T)(g:G)(K:List AV->Prop):zB (.cell ag n a::r) t g K=match sB ag n (tat t a) g with|.val v=>zB r t g λvs=>K (v::vs)|_=>False:=rfl
theorem wZ(a b:AV)(l:List AV):kM (a::b::l)=.tup (a::b::l):=rfl
theorem sy:type_of% (Vr @Fi <|Vr @CX <|Vr @AN <|Vr @Oi <|Vr @X5.{0,0} <|Vr @List.zip_nil_left.{0,0} <|Vr @Kq <|Vr @RA <|Vr @Pc <|Vr @Pb <|Vr @OF <|Vr @Kh <|Vr @JE <|Vr @JD <|Vr @bumpG_h <|Vr @bumpG_nx <|Vr @bumpG_lg <|Vr @true_and <|Vr @and_true <|Vr @Ek <|Vr @oo <|Vr @Nt <|Vr @setLog_h <|Vr @setLog_nx <|Vr @setLog_lg <|Vr @Rj <|Vr @CL <|Vr @Ar <|Vr @CK <|Vr @At <|Vr @C6 <|Vr @A2 <|Vr @C5 <|Vr @A3 <|
 Vr @xP <|Vr @yh <|Vr @CM <|Vr @C7 <|Vr @Hu <|Vr @IY <|Vr @IZ <|Vr @iI <|Vr @Q5 <|Vr @Q6 <|Vr @Q7 <|
 Vr @MY <|Vr @Df <|Vr @wZ <|Vr @bf <|Vr @aF <|Vr @Wd.{0} <|Vr @XG.{0} <|Vr @YL.{0} <|
 Vr @Y1.{0} <|Vr @Yr.{0} <|Vr @Xp.{0} <|Vr @VE.{0} <|Vr @VH.{0} <|Vr @VV.{0} <|Vr @XL.{0} <|Vr @Yi.{0} <|
 Vr @WE <|Vr @TA <|Vr @eI <|Vr @cN <|Vr @yX <|@rF) :=
 Vr @Fi <|Vr @CX <|Vr @AN <|Vr @Oi <|Vr @X5.{0,0} <|Vr @List.zip_nil_left.{0,0} <|Vr @Kq <|Vr @RA <|Vr @Pc <|Vr @Pb <|Vr @OF <|Vr @Kh <|Vr @JE <|Vr @JD <|Vr @bumpG_h <|Vr @bumpG_nx <|Vr @bumpG_lg <|Vr @true_and <|Vr @and_true <|Vr @Ek <|Vr @oo <|Vr @Nt <|Vr @setLog_h <|Vr @setLog_nx <|Vr @setLog_lg <|Vr @Rj <|Vr @CL <|Vr @Ar <|Vr @CK <|Vr @At <|Vr @C6 <|Vr @A2 <|Vr @C5 <|Vr @A3 <|
 Vr @xP <|Vr @yh <|Vr @CM <|Vr @C7 <|Vr @Hu <|Vr @IY <|Vr @IZ <|Vr @iI <|Vr @Q5 <|Vr @Q6 <|Vr @Q7 <|
 Vr @MY <|Vr @Df <|Vr @wZ <|Vr @bf <|Vr @aF <|Vr @Wd.{0} <|Vr @XG.{0} <|Vr @YL.{0} <|
 Vr @Y1.{0} <|Vr @Yr.{0} <|Vr @Xp.{0} <|Vr @VE.{0} <|Vr @VH.{0} <|Vr @VV.{0} <|Vr @XL.{0} <|Vr @Yi.{0} <|
 Vr @WE <|Vr @TA <|Vr @eI <|Vr @cN <|Vr @yX <|@rF
end
noncomputable def eP(h:H):List Nat->H
 |[]=>.nil
 |id::l=>(eP h l).put id (h.get id)
noncomputable def fQ(h h':H):List Nat->H
 |[]=>h
 |id::l=>(fQ h h' l).put id (h'.get id)
theorem JS(k:Nat):H.get (Tr.nil:H) k=.none:=by simp[H.get,TF]
theorem gf(h:H)(k:Nat):∀l,(eP h l).get k=if k∈l then h.get k else .none
 |[]=>by simp[eP,JS]
 | id::l=>by
  rw[eP,TA,gf h k l]
  by_cases hk:k=id
  ·subst hk;simp
  ·simp[hk]
theorem eF(h h':H)(k:Nat):∀l,(fQ h h' l).get k=if k∈l then h'.get k else h.get k
 |[]=>by simp[fQ]
 | id::l=>by
  rw[fQ,TA,eF h h' k l]
  by_cases hk:k=id
  ·subst hk;simp
  ·simp[hk]
noncomputable def K3(C:Cfg)(n f:Nat):Nat->List AV->G->OR:=λd as g =>
 match (sem C n).call d f as ⟨eP g.h (as.flatMap (aD g.h aE)),g.nx,[]⟩ with
 |.ok v g'=>.upd v ⟨fQ g.h g'.h g'.lg,g'.nx,g'.lg++g.lg⟩
 |.fail=>.fail
theorem Jy(hC:CfgOk C):ExtOk C f (K3 C n f):=by
 have j:=yv hC n;have wfr:∀(g:G) (ids:List Nat),WF g->WF ⟨eP g.h ids,g.nx,[]⟩:=by
  intro g ids e id k;show (eP g.h ids).get id=.none;rw[gf]
  split
  ·exact e id k
  ·rfl
 have sh:∀d as g,K3 C n f d as g=.fail\/∃v g',(sem C n).call d f as ⟨eP g.h (as.flatMap (aD g.h aE)),g.nx,[]⟩=.ok v g' /\
   K3 C n f d as g=.upd v ⟨fQ g.h g'.h g'.lg,g'.nx,g'.lg++g.lg⟩:=by
  intro d as g;unfold K3
  split
  ·rename_i v g' h;exact .inr ⟨v,g',h,rfl⟩
  ·exact .inl rfl
 refine⟨λd as g e=>?_,λd as g y hy=>?_,λA bd w γ hg nx g as vs hr e hx hf hv hne cs=>?_⟩
 ·rcases sh d as g with h|⟨v,g',h1,h2⟩
  ·rw[h];exact Mon.refl g
  ·rw[h2];have m:=j.mon.call _ _ _ _ _ _ h1 (wfr g _ e);obtain⟨nw,a,b,c⟩:=m.new;have ha:g'.lg=nw:=by simpa using a
   refine⟨m.nx,⟨g'.lg,rfl,λid k=>?_,λid k=>?_⟩,λhw id k=>?_⟩
   ·show (fQ _ _ _).get id=_;rw[eF,Vz k]
   ·obtain⟨c1,l⟩:=c id (by rw[<-ha];exact k);refine⟨c1,λhn=>l ?_⟩;show (eP _ _).get id=_;rw[gf,hn];simp
   ·show (fQ _ _ _).get id=_;have k:g'.nx<=id:=k;have o:g.nx<=g'.nx:=m.nx;rw[eF,Vz]
    ·exact hw id (by omega)
    ·intro hl;have:=(c id (by rw[<-ha];exact hl)).1;omega
 ·rcases sh d as g with h|⟨v,g',h1,h2⟩
  ·rw[h]at hy;cases hy
  ·rw[h2]at hy;cases hy
 ·rcases sh (bd+1) as g with h|⟨v,g',h1,h2⟩
  ·exact absurd h hne
  ·rw[h2]at hf ⊢;obtain⟨he,run⟩:=j.call _ _ _ _ _ _ h1;obtain⟨u,w',γ',hg',fin,rv,out⟩:=run A w γ hg nx vs hr (λid hn=>by
     have i:(eP g.h (as.flatMap (aD g.h aE))).get id≠.none:=hn;show hg id=(eP _ _).get id;rw[gf]at i ⊢
     split at i
     ·rename_i hm;rw[VC hm];exact hx id hm i
     ·exact absurd rfl i) (wfr g _ e) (λid h1 h2=>hf id h1 h2) hv .normal cs (.inl rfl)
   refine⟨u,w',γ',hg',⟨fin.rel,fin.stp,?_⟩,rv,.inr ⟨he,out⟩⟩;obtain⟨nw,a,b,c⟩:=fin.new;have ha:g'.lg=nw:=by simpa using a
   subst ha;refine⟨g'.lg,rfl,λid k=>?_,c⟩;show hg' id=(fQ _ _ _).get id;rw[eF,VC k];exact b id k
noncomputable def Cp(C:Cfg)(f:Nat):Nat->List AV->G->OR:=λd xs g =>
 match (I C).call d f xs ⟨eP g.h (xs.flatMap (aD g.h aE)),g.nx,[]⟩ with
 |.ok v g'=>.upd v ⟨fQ g.h g'.h g'.lg,g'.nx,g'.lg++g.lg⟩
 |.fail=>.fail
theorem PS(hC:CfgOk C):ExtOk C f (Cp C f):=by
 have wfr:∀(g:G) (ids:List Nat),WF g->WF ⟨eP g.h ids,g.nx,[]⟩:=by
  intro g ids e id k;show (eP g.h ids).get id=.none;rw[gf]
  split
  ·exact e id k
  ·rfl
 have sh:∀d xs g,Cp C f d xs g=.fail\/∃n v g',(sem C n).call d f xs ⟨eP g.h (xs.flatMap (aD g.h aE)),g.nx,[]⟩=.ok v g' /\
   Cp C f d xs g=.upd v ⟨fQ g.h g'.h g'.lg,g'.nx,g'.lg++g.lg⟩:=by
  intro d xs g;unfold Cp
  split
  ·rename_i v g' h;obtain⟨n,l⟩:=LV h;exact .inr ⟨n,v,g',l,rfl⟩
  ·exact .inl rfl
 refine⟨λd xs g e=>?_,λd xs g y hy=>?_,λA bd w γ hg nx g xs vs hr e hx hf hv hne cs=>?_⟩
 ·rcases sh d xs g with h|⟨n,v,g',h1,h2⟩
  ·rw[h];exact Mon.refl g
  ·rw[h2];have j:=yv hC n;have m:=j.mon.call _ _ _ _ _ _ h1 (wfr g _ e);obtain⟨nw,a,b,c⟩:=m.new;have ha:g'.lg=nw:=by simpa using a
   refine⟨m.nx,⟨g'.lg,rfl,λid k=>?_,λid k=>?_⟩,λhw id k=>?_⟩
   ·show (fQ _ _ _).get id=_;rw[eF,Vz k]
   ·obtain⟨c1,o⟩:=c id (by rw[<-ha];exact k);refine⟨c1,λl=>o ?_⟩;show (eP _ _).get id=_;rw[gf,l];simp
   ·show (fQ _ _ _).get id=_;have k:g'.nx<=id:=k;have p:g.nx<=g'.nx:=m.nx;rw[eF,Vz]
    ·exact hw id (by omega)
    ·intro hl;have:=(c id (by rw[<-ha];exact hl)).1;omega
 ·rcases sh d xs g with h|⟨n,v,g',h1,h2⟩
  ·rw[h]at hy;cases hy
  ·rw[h2]at hy;cases hy
 ·rcases sh (bd+1) xs g with h|⟨n,v,g',h1,h2⟩
  ·exact absurd h hne
  ·rw[h2]at hf ⊢;have j:=yv hC n;obtain⟨he,run⟩:=j.call _ _ _ _ _ _ h1;obtain⟨u,w',γ',hg',fin,rv,out⟩:=run A w γ hg nx vs hr (λid l=>by
     have i:(eP g.h (xs.flatMap (aD g.h aE))).get id≠.none:=l;show hg id=(eP _ _).get id;rw[gf]at i ⊢
     split at i
     ·rename_i hm;rw[VC hm];exact hx id hm i
     ·exact absurd rfl i) (wfr g _ e) (λid h1 h2=>hf id h1 h2) hv .normal cs (.inl rfl)
   refine⟨u,w',γ',hg',⟨fin.rel,fin.stp,?_⟩,rv,.inr ⟨he,out⟩⟩;obtain⟨nw,a,b,c⟩:=fin.new;have ha:g'.lg=nw:=by simpa using a
   subst ha;refine⟨g'.lg,rfl,λid k=>?_,c⟩;show hg' id=(fQ _ _ _).get id;rw[eF,VC k];exact b id k
theorem PU(hC:CfgOk C){xs:List AV}{K':AV->G->Prop}{D2:ADf->Prop}
  (hi:∀k∈xs.flatMap (aD g.h aE),k<g.nx)
  (hs:(orF ((I C).call d f xs ⟨eP g.h (xs.flatMap (aD g.h aE)),g.nx,[]⟩)).sat K' ⟨eP g.h (xs.flatMap (aD g.h aE)),g.nx,[]⟩ D2)
  (hk:∀v g'',K' v g''->g.nx<=g''.nx->(∀k∈g''.lg,k<g''.nx/\(k<g.nx->k∈xs.flatMap (aD g.h aE)))->(∀k,k ∉ g''.lg->g''.h.get k=(eP g.h (xs.flatMap (aD g.h aE))).get k)->K v ⟨fQ g.h g''.h g''.lg,g''.nx,g''.lg++g.lg⟩) :
  (Cp C f d xs g).sat K g D:=by
 have wf:WF ⟨eP g.h (xs.flatMap (aD g.h aE)),g.nx,[]⟩:=λid hid=>by show (eP g.h (xs.flatMap (aD g.h aE))).get id=.none;rw[gf,Vz];intro h;have h1:=hi id h;have h2:g.nx<=id:=hid;omega
 unfold Cp;cases hc:(I C).call d f xs ⟨eP g.h (xs.flatMap (aD g.h aE)),g.nx,[]⟩ with
 |fail=>rw[hc]at hs;exact hs.elim
 | ok v g' =>
  rw[hc]at hs;obtain⟨n,e⟩:=LV hc;have m:=(yv hC n).mon.call _ _ _ _ _ _ e wf;obtain⟨nw,a,b,c⟩:=m.new;have ha:g'.lg=nw:=by simpa using a
  subst ha;refine hk v g' hs m.nx (λk hk=>⟨(c k hk).1,λhlt=>?_⟩) b
  by_cases hin:k∈xs.flatMap (aD g.h aE)
  ·exact hin
  ·have:g.nx<=k:=(c k hk).2 (by show (eP _ _).get k=_;rw[gf,Vz hin]);omega
@[reducible] def oM (d a:Nat):SI:=o d (.mv (.t a))
@[reducible] def oL (d a:Nat):SI:=o d (.load false 1 (.t a))
@[reducible] def oN (d a:Nat):SI:=o d (.len .slice (.t a))
@[reducible] def oF (d n a:Nat):SI:=o d (.fad n (.t a))
@[reducible] def oX (d a b:Nat):SI:=o d (.ixs 1 (.t a) (.t b))
@[reducible] def qI (z:Int):Od:=.k (.int .i64 z)
@[reducible] def oK (d:Nat) (z:Int):SI:=o d (.mv (qI z))
@[reducible] def oA (d a:Nat):SI:=o d (.bin .add (.t a) (qI 1))
@[reducible] def sQ (l:List SI) (x:SC):SC:=.seq (.ops l) x
theorem sz:type_of% (Vr sx <|Vr sy <|Vr @Yj.{0} <|Vr @VB.{0} <|Vr @decide_true <|Vr @decide_false <|Vr @YN <|Vr @Yg <|
 Vr @SO.run.eq_1 <|Vr @SO.run.eq_2 <|Vr @SO.run.eq_3 <|Vr @SO.run.eq_4 <|Vr @SO.run.eq_5 <|Vr @SO.run.eq_6 <|Vr @SO.run.eq_7 <|Vr @SO.run.eq_8 <|Vr @SO.run.eq_9 <|Vr @SO.run.eq_10 <|Vr @SO.run.eq_11 <|Vr @SO.run.eq_12 <|Vr @SO.run.eq_13 <|Vr @SO.run.eq_14 <|Vr @SO.run.eq_15 <|Vr @SO.run.eq_16 <|Vr @SO.run.eq_17 <|Vr @SO.run.eq_18 <|Vr @SO.run.eq_19 <|Vr @SO.run.eq_20 <|Vr @SO.run.eq_21 <|Vr @SO.run.eq_22 <|Vr @SO.run.eq_23 <|Vr @SO.run.eq_24 <|Vr @SO.run.eq_25 <|Vr @SO.run.eq_26 <|Vr @SO.run.eq_27 <|Vr @SO.run.eq_28 <|Vr @SO.run.eq_29 <|Vr @SO.run.eq_30 <|Vr @SO.run.eq_31 <|@SO.run.eq_32) :=
 Vr sx <|Vr sy <|Vr @Yj.{0} <|Vr @VB.{0} <|Vr @decide_true <|Vr @decide_false <|Vr @YN <|Vr @Yg <|
 Vr @SO.run.eq_1 <|Vr @SO.run.eq_2 <|Vr @SO.run.eq_3 <|Vr @SO.run.eq_4 <|Vr @SO.run.eq_5 <|Vr @SO.run.eq_6 <|Vr @SO.run.eq_7 <|Vr @SO.run.eq_8 <|Vr @SO.run.eq_9 <|Vr @SO.run.eq_10 <|Vr @SO.run.eq_11 <|Vr @SO.run.eq_12 <|Vr @SO.run.eq_13 <|Vr @SO.run.eq_14 <|Vr @SO.run.eq_15 <|Vr @SO.run.eq_16 <|Vr @SO.run.eq_17 <|Vr @SO.run.eq_18 <|Vr @SO.run.eq_19 <|Vr @SO.run.eq_20 <|Vr @SO.run.eq_21 <|Vr @SO.run.eq_22 <|Vr @SO.run.eq_23 <|Vr @SO.run.eq_24 <|Vr @SO.run.eq_25 <|Vr @SO.run.eq_26 <|Vr @SO.run.eq_27 <|Vr @SO.run.eq_28 <|Vr @SO.run.eq_29 <|Vr @SO.run.eq_30 <|Vr @SO.run.eq_31 <|@SO.run.eq_32
end
end Hx
