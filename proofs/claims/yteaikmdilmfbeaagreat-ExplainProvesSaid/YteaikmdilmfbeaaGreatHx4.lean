/- A part of the proof. -/
import Derived.Orders
import Derived.Below
import Derived.Laws.Externs
import Derived.Test.YteaikmdilmfbeaaGreatHx3
set_option linter.all false
set_option maxRecDepth 20000
set_option maxHeartbeats 8000000
namespace Hx
open Go
noncomputable section
variable {b nt d c B n ti m:Nat}{v:AV}{g g':G}{df:List Xo}{P:Program}{t t':T}{body:SC}{Q:QT}{rd:Option Nat}{assign:Code}{tmps:Array Value}{K:AV->G->Prop}{D:Xo->Prop}
section
variable {j:Nat}
def dg(C:Xg)(ih:IH)(d:Nat)(rd:Option Nat)(nt:Nat)(ops:Array Oper)(q:Bool)(o:Oper)(t t':T)(g g':G)(f:W7):Prop :=
 ∃out gd,ta nt o.dst=some out/\jP ops.toList o.guard=some gd /\
  ((gd.run t=some false/\t'=out.run t .undef/\g'=g/\f.wr=[]) \/
   (gd.run t=some true/\∃r,(cI C o.op).run ih d rd t (aQ g [])=r/\r≠.fail/\(∀a,r≠.Xi a)/\t'=out.run t (OM r)/\g'.h=(Wh (aQ g []) r).h /\
    f.wr=(Wh (aQ g []) r).lg/\(Wh (aQ g []) r).nx<=g'.nx/\(q=false->f.lk=(aV C o.op).run t g/\(Wh (aQ g []) r).nx<g'.nx)))
def jS(ops:Array Oper)(i:Nat):Option Tmp:=(ops[i]?).bind (·.dst)
structure VE (C:Xg) (ih:IH) (bd:Nat) (rd:Option Nat) (nt:Nat) (ops:Array Oper) (q:Bool) (T':Nat->T) (G':Nat->G) (F':Nat->W7) (hg0:Nat->Xh):Prop where
 hC:Xa C
 hi:V7 C ih
 tra:∀i o,ops[i]?=some o->dg C ih (bd+1) rd nt ops q o (T' i) (T' (i+1)) (G' i) (G' (i+1)) (F' i)
 wf0:WF (G' 0)
 ext0:PI (G' 0).h hg0
 free0:∀id,(G' 0).nx<=id->id<=(G' ops.size).nx->hg0 id=.none
 apart:∀i j,i<j->j<ops.size->((bN ops.toList []).getD j 0).testBit i=true\/bX (F' i) (F' j)=true
 once:∀i j j',i<j->j<j'->j'<ops.size->(F' i).lk.sr≠[]->((bN ops.toList []).getD j 0).testBit i=false->((bN ops.toList []).getD j' 0).testBit i=false ->
  meets (F' j).wr (Uf (F' i).lk.sr)=true->meets (F' j').wr (Uf (F' i).lk.sr)=true->False
 slots:∀i j oi oj,i<j->ops[i]?=some oi->ops[j]?=some oj->((bN ops.toList []).getD j 0).testBit i=true\/lX ops.toList oi oj=true
 guards:∀i o j b,ops[i]?=some o->o.guard=some (j,b)->((bN ops.toList []).getD i 0).testBit j=true
 quiet:q=true->∀i,i<ops.size->(F' i).wr=[]
section
variable {C:Xg}{A:Nat->Nat->Prop}{bd:Nat}{ih:IH}{rd:Option Nat}{nt:Nat}{ops:Array Oper}{q:Bool}{T':Nat->T}{G':Nat->G}{F':Nat->W7}{hg0:Nat->Xh}
def dg.facts(hC:Xa C)(hi:V7 C ih){o:Oper}{f:W7}(h:dg C ih d rd nt ops q o t t' g g' f)(hwf:WF g) :
  WF g'/\g.nx<=g'.nx/\(∀id,id ∉ f.wr->g'.h.get id=g.h.get id)/\∀id∈f.wr,id<g'.nx/\(g.h.get id=.none->g.nx<=id):=by
 let⟨out,gd,_,_,h⟩:=h;rcases h with⟨_,_,rfl,hw⟩|⟨_,r,hr,l,_,_,j,hw,i,_⟩
 ·rw[hw];exact⟨hwf,XH _,λ_ _=>rfl,λ_ h=>absurd h Yc⟩
 ·have hm:Mon (aQ g []) (Wh (aQ g []) r):=by rw[<-hr];exact jQ hC.WZ hi.WZ hwf.setLog
  let⟨n,a,b,c⟩:=hm.new;have e:(Wh (aQ g []) r).lg=n:=by simpa using a
  have k:g.nx<=(Wh (aQ g []) r).nx:=by have:=hm.nx;simpa using this
  refine⟨λid hid=>?_,Ya k i,λid hid=>?_,λid hid=>?_⟩
  ·rw[j];exact hm.wf hwf.setLog id (by omega)
  ·rw[j,b id (by rw[<-e,<-hw];exact hid)];simp
  ·have:=c id (by rw[<-e,<-hw];exact hid);simp only[Ws,Wo]at this;exact⟨by omega,this.2⟩
def VE.facts(R:VE C ih bd rd nt ops q T' G' F' hg0):∀i,i<=ops.size->WF (G' i):=by
 intro i
 induction i with
 |zero=>intro _;exact R.wf0
 | succ i ih' =>intro h;have ho:ops[i]?=some ops[i]:=Yn (by omega);exact (dg.facts R.hC R.hi (R.tra i _ ho) (ih' (by omega))).1
def VE.at(R:VE C ih bd rd nt ops q T' G' F' hg0){i:Nat}(h:i<ops.size) :
  (G' i).nx<=(G' (i+1)).nx/\(∀id,id ∉ (F' i).wr->(G' (i+1)).h.get id=(G' i).h.get id)/\∀id∈(F' i).wr,id<(G' (i+1)).nx/\((G' i).h.get id=.none->(G' i).nx<=id):=by
 have ho:ops[i]?=some ops[i]:=Yn h;exact (dg.facts R.hC R.hi (R.tra i _ ho) (R.facts i (by omega))).2
def VE.nx_mono(R:VE C ih bd rd nt ops q T' G' F' hg0){i:Nat}(h:i<=j)(hj:j<=ops.size):(G' i).nx<=(G' j).nx:=by
 induction j with
 | zero=>have:i=0:=by omega
         subst this;exact XH _
 | succ j ih' =>
  by_cases hij:i=j+1
  ·subst hij;exact XH _
  ·exact Ya (ih' (by omega) (by omega)) (R.at (by omega)).1
def VE.keepT(R:VE C ih bd rd nt ops q T' G' F' hg0)(hj:j<ops.size){s:Nat}(h:jS ops j≠some s):(T' (j+1)).get AV.undef s=(T' j).get AV.undef s:=by
 have ho:ops[j]?=some ops[j]:=Yn hj;let⟨out,gd,k,_,h'⟩:=R.tra j _ ho;have key:∀x,(out.run (T' j) x).get AV.undef s=(T' j).get AV.undef s:=by
  intro x;simp only[jS,ho,ZG]at h;cases hd:ops[j].dst with
  |none=>rw[hd]at k;simp[ta]at k;subst k;rfl
  | some d =>
   rw[hd]at k h;simp only[ta,aa]at k
   split at k
   ·cases k;rw[Vc,XS];rintro rfl;exact h rfl
   ·cases k
 rcases h' with⟨_,h1,_⟩|⟨_,r,_,_,_,h1,_⟩
 ·rw[h1,key]
 ·rw[h1,key]
def Nb(ops:Array Oper)(S:Nat->Prop):Prop:=∀j o,ops[j]?=some o->S j->∀e∈o.after.toList,Region.binds .any e=true->S e.on
def Nb.mask{S:Nat->Prop}(h:Nb ops S){i:Nat}(hb:((bN ops.toList []).getD j 0).testBit i=true)(hj:S j):S i :=Eg (λj o ho=>h j o (by simpa using ho)) ops.toList [] [] rfl rfl (λj i hj=>by simp at hj) j i hb hj
def SA(S:Nat->Prop):∀n,∃t:T,∀s,t.get AV.undef s=ov S (λi s=>jS ops i=some s) (λi s=>(T' i).get AV.undef s) (λs=>(T' 0).get AV.undef s) n s:=by
 intro n
 induction n with
 |zero=>exact⟨T' 0,λs=>rfl⟩
 | succ n ih' =>
  let⟨t,ht⟩:=ih'
  by_cases hS:S n
  ·cases hd:jS ops n with
   |none=>exact⟨t,λs=>by simp only[ov];rw[XS (by rw[hd];simp)];exact ht s⟩
   | some d =>
    refine⟨(sp AV.undef d).run t ((T' (n+1)).get AV.undef d),λs=>?_⟩;rw[Vc];simp only[ov]
    by_cases hs:s=d
    ·subst hs;rw[XO rfl,XO ⟨hS,hd⟩]
    ·rw[XS hs,XS (by rw[hd];rintro⟨_,h⟩;exact hs (by injection h with h;exact h.symm))];exact ht s
  ·exact⟨t,λs=>by simp only[ov];rw[XS (λh=>hS h.1)];exact ht s⟩
structure Inv (C:Xg) (A:Nat->Nat->Prop) (bd nt:Nat) (ops:Array Oper) (T':Nat->T) (G':Nat->G) (F':Nat->W7) (hg0:Nat->Xh) (N:Nat) (w0:World) (γ0:Gm) (O2:List Deferred)
  (S:Nat->Prop) (a:Act) (w:World) (γ:Gm) (hg:Nat->Xh):Prop where
 rel:W4 C A bd w γ hg N
 pk:Stp w0 γ0 w γ
 size:a.tmps.size=nt
 slots:∀s,RV w γ A bd (ov S (λi s=>jS ops i=some s) (λi s=>(T' i).get AV.undef s) (λs=>(T' 0).get AV.undef s) ops.size s) (a.tmps.getD s undef)
 RL:∀id,hg id=ov S (λi id=>id∈(F' i).wr) (λi id=>(G' i).h.get id) hg0 ops.size id
 Xi:a.defers=O2
def qZ{x y:W7}(h:kH x y=true){id:Nat}(hid:id∈x.wr):y.lk.big=false/\id ∉ y.wr/\id ∉ y.lk.rd/\id ∉ y.lk.sr.map (·.1):=by
 unfold kH at h
 split at h
 ·rename_i he;rw[he]at hid;exact absurd hid Yc
 ·simp only[XM,Zk]at h;let⟨⟨⟨h1,h2⟩,h3⟩,h4⟩:=h;refine⟨h1,λh=>?_,λh=>?_,λh=>?_⟩
  ·rw[nJ hid h]at h2;cases h2
  ·rw[nJ hid h]at h3;cases h3
  ·rw[nJ hid (Ik h)]at h4;cases h4
def wJ{x y:W7}(h:gx x y=true){id:Nat}(hid:id∈x.wr):y.lk.big=false/\id ∉ y.wr/\id ∉ y.lk.rd/\(id∈y.lk.sr.map (·.1)->∀p∈y.lk.sr,p∈x.lk.soft):=by
 unfold gx at h
 split at h
 ·rename_i he;rw[he]at hid;exact absurd hid Yc
 ·simp only[XM,Zk,YE]at h;let⟨⟨⟨h1,h2⟩,h3⟩,h4⟩:=h;refine⟨h1,λh=>?_,λh=>?_,λh p hp=>?_⟩
  ·rw[nJ hid h]at h2;cases h2
  ·rw[nJ hid h]at h3;cases h3
  ·rcases h4 with h4|h4
   ·rw[nJ hid (Ik h)]at h4;cases h4
   ·exact Ku (XQ.1 h4 p hp)
def fc{x y:W7}(h:bX x y=true):kH x y=true/\gx y x=true:=by unfold bX at h;simpa using h
def nf{all:List Oper}{x y:Oper}(h:lX all x y=true) :
  (∀d,x.dst=some d->d ∉ xH all y/\y.dst≠some d)/\(∀d,y.dst=some d->d ∉ xH all x):=by
 unfold lX at h;simp only[XM]at h;refine⟨λd hd=>?_,λd hd=>?_⟩
 ·have:=h.1;rw[hd]at this;simp only[XM,Zk,bne_iff_ne,ne_eq]at this;exact⟨λhm=>(by have h1:=this.1;rw[aad.2 hm]at h1;cases h1),this.2⟩
 ·have:=h.2;rw[hd]at this;simp only[Zk]at this;intro hm;rw[aad.2 hm]at this;cases this
variable {N:Nat}{w0:World}{γ0:Gm}{O2:List Deferred}{S:Nat->Prop}{a:Act}{w:World}{γ:Gm}{hg:Nat->Xh}
variable {b:Frame}{i:Nat}{rest:List Nat}{k:List Item}{cs:List Frame}{o:Oper}
def VE.good(R:VE C ih bd rd nt ops q T' G' F' hg0)(I:Inv C A bd nt ops T' G' F' hg0 N w0 γ0 O2 S a w γ hg)(hin:i<=ops.size){id:Nat}
  (h:∀j,j<ops.size->id∈(F' j).wr->(S j↔j<i)) (hne:(G' i).h.get id≠.none):hg id=(G' i).h.get id:=by
 rw[I.RL id];rcases Qq (S:=S) (wr:=λi id=>id∈(F' i).wr) (val:=λi id=>(G' i).h.get id) (base:=hg0) (k:=id) hin (λj hj hw=>(R.at hj).2.1 id hw) h with⟨_,h2⟩|⟨_,h2,h3⟩
 ·exact h2
 ·rw[h2,h3];exact R.ext0 id (by rw[<-h3];exact hne)
def PQ(R:VE C ih bd rd nt ops q T' G' F' hg0)(I:Inv C A bd nt ops T' G' F' hg0 N w0 γ0 O2 S a w γ hg)(hN:(G' ops.size).nx<=N)
  (ho:ops[i]?=some o) (hS:¬S i) (hdown:Nb ops S) (hready:∀e∈o.after.toList,Region.binds .any e=true->S e.on) (hcalm:rC b.kind cs) :
  ∃a' w' γ' hg',Inv C A bd nt ops T' G' F' hg0 N w0 γ0 O2 (λj=>S j\/j=i) a' w' γ' hg' /\
   Steps C.P (lone (b.atR a (.inRegion ops (i::rest)::k)) cs w) (lone (b.atR a' (.inRegion ops rest::k)) cs w'):=by
 have hi:i<ops.size:=(Z9.1 ho).1;have O:Nb ops (λj=>S j\/j=i):=by
  intro j oj t y e he hb;rcases y with y|rfl
  ·exact .inl (hdown j oj t y e he hb)
  ·rw[ho]at t;injection t with t;subst t;exact .inl (hready e he hb)
 have ahead:∀j,j≠i->((bN ops.toList []).getD i 0).testBit j=true->S j:=by
  intro j y hb;rcases O.mask hb (.inr rfl) with h|h
  ·exact h
  ·exact absurd h y
 have behind:∀j,S j->((bN ops.toList []).getD j 0).testBit i≠true:=λj y hb=>hS (hdown.mask hb y);have H:jS ops i=o.dst:=by simp[jS,ho]
 have Z:∀s∈xH ops.toList o,ov S (λi s=>jS ops i=some s) (λi s=>(T' i).get AV.undef s) (λs=>(T' 0).get AV.undef s) ops.size s=(T' i).get AV.undef s:=by
  intro s hs;have h:∀j,j<ops.size->jS ops j=some s->(S j↔j<i):=by
   intro j y hd;have t:ops[j]?=some ops[j]:=Yn y;have M:ops[j].dst=some s:=by simpa [jS,t] using hd
   constructor
   ·intro l;rcases aaT j i with h|h|h
    ·exact h
    ·subst h;exact absurd l hS
    ·rcases R.slots i j _ _ h ho t with hb|hb
     ·exact absurd hb (behind j l)
     ·exact absurd hs ((nf hb).2 s M)
   ·intro hlt;rcases R.slots j i _ _ hlt t ho with hb|hb
    ·exact ahead j (by omega) hb
    ·exact absurd hs ((nf hb).1 s M).1
  rcases Qq (S:=S) (wr:=λi s=>jS ops i=some s) (val:=λi s=>(T' i).get AV.undef s) (base:=λs=>(T' 0).get AV.undef s) (k:=s) (by omega:i<=ops.size) (λj y hw=>R.keepT y hw) h with⟨_,h2⟩|⟨_,h2,h3⟩
  ·exact h2
  ·rw[h2,<-h3]
 obtain⟨ts,h5⟩:=SA (ops:=ops) (T':=T') S ops.size;have Q:TR w γ A bd nt ts a.tmps:=⟨I.size,λs=>by rw[h5 s];exact I.slots s⟩;have h7:∀s∈xH ops.toList o,ts.get AV.undef s=(T' i).get AV.undef s:=λs hs=>by rw[h5 s,Z s hs]
 have F:Fp C ts (T' i) o.op.operands.toList:=by intro x hx s hs;refine J2 hs λn hn=>h7 n ?_;subst hn;exact ZE _ (List.mem_filterMap.2 ⟨_,hx,rfl⟩)
 let⟨out,gd,c,W,T⟩:=R.tra i o ho;have h8:gd.run ts=gd.run (T' i):=by refine GA W λj b' oj d hg' t hd=>h7 d ?_;refine ZA _ ?_;simp only[hg',t,hd];simp
 have ha:∀s,jS ops i=some s->∀j,i<j->j<ops.size->S j->¬jS ops j=some s:=by
  intro s hd j J y l M;have t:ops[j]?=some ops[j]:=Yn y;rcases R.slots i j _ _ J ho t with hb|hb
  ·exact behind j l hb
  ·exact ((nf hb).1 s (H ▸ hd)).2 (by simpa [jS,t] using M)
 have slots':∀{w':World} {γ':Gm} {x:AV} {v:Value},Stp w γ w' γ'->RV w' γ' A bd x v->T' (i+1)=out.run (T' i) x ->
   (a.put o.dst v).tmps.size=nt/\∀s,RV w' γ' A bd (ov (λj=>S j\/j=i) (λi s=>jS ops i=some s) (λi s=>(T' i).get AV.undef s) (λs=>(T' 0).get AV.undef s) ops.size s) ((a.put o.dst v).tmps.getD s undef):=by
  intro w' γ' x v k2 hv hT;have h1:=(Q.step k2).put c hv;refine⟨h1.1,λs=>?_⟩;have h2:=h1.2 s
  by_cases hs:jS ops i=some s
  ·rw[Qp (wr:=λi s=>jS ops i=some s) hi hs (ha s hs),hT];rw[H]at hs;rw[hs]at c h2 ⊢;simp only[ta,aa]at c
   split at c
   ·cases c;simp only[Vc,if_true]at h2 ⊢;exact h2
   ·cases c
  ·rw[Ha hs,<-h5 s];have:(out.run ts x).get AV.undef s=ts.get AV.undef s:=by
    cases hd:o.dst with
    |none=>rw[hd]at c;simp[ta]at c;subst c;rfl
    | some d =>
     rw[hd]at c;simp only[ta,aa]at c
     split at c
     ·cases c;rw[Vc,XS];rintro rfl;exact hs (by rw[H,hd])
     ·cases c
   rw[this]at h2;exact h2
 rcases T with⟨hq,hT,hG,hW⟩|⟨hq,r,hr,Y,hy,hT,hH,hW,hc,X⟩
 ·
  rw[<-h8]at hq;have hw:=nI W Q hq;let⟨s1,s2⟩:=slots' (Stp.refl w γ) pB hT;refine⟨_,w,γ,hg,⟨I.rel,I.pk,s1,s2,λid=>?_,?_⟩,.one (w_ ho hw)⟩
  ·rw[I.RL id];exact (Ha (by rw[hW];exact Yc)).symm
  ·have:=I.Xi;cases hd:o.dst<;>simpa [Act.put,hd] using this
 ·
  rw[<-h8]at hq;have hw:=nI W Q hq;have k3:WF (aQ (G' i) []):=(R.facts i (by omega)).setLog;rw[<-J0 F]at hr;have V:Wm γ (aQ (G' i) []) (Wh (aQ (G' i) []) r):=by
   intro id h1 h2;simp only[Wo]at h1;rw[I.rel.none_iff,I.RL id,Hb (Yi _)]
   ·exact R.free0 id (Ya (R.nx_mono (Yi i) (by omega)) h1) (Ya h2 (Ya hc (R.nx_mono (by omega) (XH _))))
   ·intro j _ y l hw;cases q with
    |true=>rw[R.quiet rfl j y]at hw;exact Yc hw
    | false =>
     have hlt:id<(G' (i+1)).nx:=by have:=(X rfl).2;omega
     rcases aaT j i with h|h|h
     ·have:=((R.at y).2.2 id hw).1;have:=R.nx_mono (show j+1<=i by omega) (by omega);omega
     ·subst h;exact hS l
     ·have k4:id∈(F' i).wr:=Ze λhn=>by
       have key:∀m,i<m->m<=j->(G' m).h.get id=.none:=by
        intro m
        induction m with
        |zero=>intro h;omega
        | succ m ihm =>
         intro k8 k9
         by_cases hmi:m=i
         ·subst hmi;rw[(R.at (by omega)).2.1 id hn];exact R.facts m (by omega) id h1
         ·have:=ihm (by omega) (by omega)
          by_cases hm:id∈(F' m).wr
          ·have h3:=((R.at (by omega)).2.2 id hm).2 this;have h4:=R.nx_mono (show i+1<=m by omega) (by omega);omega
          ·rw[(R.at (by omega)).2.1 id hm];exact this
       have h3:=((R.at y).2.2 id hw).2 (key j h (XH _));have h4:=R.nx_mono (show i+1<=j by omega) (by omega);omega
      rcases R.apart i j h y with hb|hb
      ·exact behind j l hb
      ·exact (qZ (fc hb).1 k4).2.1 hw
  have fin:∀{gs:G} {u:Value} {w':World} {γ':Gm} {hg':Nat->Xh},Fin C A bd w γ hg N gs w' γ' hg' (Wh (aQ (G' i) []) r)->gs.lg=[]->RV w' γ' A bd (OM r) u ->
    Steps C.P (lone (b.atR a (.inRegion ops (i::rest)::k)) cs w) (lone (b.atR (a.put o.dst u) (.inRegion ops rest::k)) cs w') ->
    ∃a' w' γ' hg',Inv C A bd nt ops T' G' F' hg0 N w0 γ0 O2 (λj=>S j\/j=i) a' w' γ' hg' /\
     Steps C.P (lone (b.atR a (.inRegion ops (i::rest)::k)) cs w) (lone (b.atR a' (.inRegion ops rest::k)) cs w'):=by
   intro gs u w' γ' hg' f hp hv st;let⟨s1,s2⟩:=slots' f.pk hv hT;have ht:(Wh (aQ (G' i) []) r).nx<=N:=Ya hc (Ya (R.nx_mono (by omega) (XH _)) hN);refine⟨_,w',γ',hg',⟨?_,I.pk.trans f.pk,s1,s2,λid=>?_,?_⟩,st⟩
   ·have:=f.rel;rw[show Nat.max N (Wh (aQ (G' i) []) r).nx=N from aa8 ht]at this;exact this
   ·let⟨n,e1,e2,e3⟩:=f.new;have en:(F' i).wr=n:=by rw[hW,e1,hp,X6]
    by_cases B:id∈(F' i).wr
    ·rw[e2 id (en ▸ B),<-hH];refine (Qp (wr:=λi id=>id∈(F' i).wr) (val:=λi id=>(G' i).h.get id) hi B λj J y l hw=>?_).symm;rcases R.apart i j J y with hb|hb
     ·exact behind j l hb
     ·exact (qZ (fc hb).1 B).2.1 hw
    ·rw[e3 id (en ▸ B),I.RL id];exact (Ha (wr:=λi id=>id∈(F' i).wr) B).symm
   ·have:=I.Xi;cases hd:o.dst<;>simpa [Act.put,hd] using this
  have E:∀id,(q=false->(F' i).lk.big=true\/id∈(F' i).lk.rd\/(id∈(F' i).lk.sr.map (·.1)/\∀j,i<j->j<ops.size->S j->id ∉ (F' j).wr)) ->
    (G' i).h.get id≠.none->hg id=(G' i).h.get id:=by
   intro id D p;refine R.good I (by omega) (λj y hw=>?_) p;cases q with
   |true=>rw[R.quiet rfl j y]at hw;exact absurd hw Yc
   | false =>
    have D:=D rfl;constructor
    ·intro l;rcases aaT j i with h|h|h
     ·exact h
     ·subst h;exact absurd l hS
     ·rcases R.apart i j h y with hb|hb
      ·exact absurd hb (behind j l)
      ·let⟨h1,h2,h3,h4⟩:=wJ (fc hb).2 hw;rcases D with hl|hl|⟨_,hl⟩
       ·rw[h1]at hl;cases hl
       ·exact absurd hl h3
       ·exact absurd hw (hl j h y l)
    ·intro hlt;rcases R.apart j i hlt hi with hb|hb
     ·exact ahead j (by omega) hb
     ·obtain⟨h1,h2,h3,h4⟩:=qZ (fc hb).1 hw;rcases D with hl|hl|⟨hl,_⟩
      ·rw[h1]at hl;cases hl
      ·exact absurd hl h3
      ·exact absurd hl h4
  have U:(aV C o.op).run ts (aQ (G' i) [])=(aV C o.op).run (T' i) (G' i):=HT (by simp) F
  by_cases hsoft:q=false/\∃id j,id∈(F' i).lk.sr.map (·.1)/\i<j/\j<ops.size/\S j/\id∈(F' j).wr
  ·
   obtain⟨rfl,id,j,B,J,y,l,k5⟩:=hsoft;have h9:=(X rfl).1;have t:ops[j]?=some ops[j]:=Yn y;have k7:((bN ops.toList []).getD j 0).testBit i=false:=by have:=behind j l;simpa using this
   have hk:bX (F' i) (F' j)=true:=(R.apart i j J y).resolve_left (behind j l);let⟨_,_,_,h4⟩:=wJ (fc hk).2 k5;have h4:=h4 B;have K:(F' i).lk.sr≠[]:=by intro h;rw[h]at B;simp at B
   rw[h9]at K;let⟨ty,x,kx,a0,k1,hh,ka⟩:=Vq K;rw[k1]at hr;let⟨a1,kk,kt,et,z,L,kb,hu,hz,k6,hf⟩:=HU hr Y;rw[hh]at L;injection L with L;subst L;exact absurd hf Y
  ·have h6:UN ((aV C o.op).run ts (aQ (G' i) [])) (aQ (G' i) []) hg:=by
    cases hqq:q with
    | true =>refine PI.agr λid p=>?_;simp only[Ws]at p ⊢;refine E id (λh=>?_) p;rw[hqq]at h;cases h
    | false =>
     rw[U,<-(X hqq).1];unfold UN
     split
     ·rename_i hb;exact λid p=>by simp only[Ws]at p ⊢;exact E id (λ_=>.inl hb) p
     ·intro id B p;simp only[Ws]at p ⊢;refine E id (λ_=>.inr ?_) p;rcases Yf.1 B with h|h
      ·exact .inl h
      ·exact .inr ⟨h,λj h1 h2 h3 h4=>hsoft ⟨hqq,id,j,h,h1,h2,h3,h4⟩⟩
   obtain⟨u,w',γ',hg',f,rv,st⟩:=Ks (b:=b) (cs:=cs) (rest:=rest) (k:=k) R.hC R.hi I.rel k3 Q hcalm h6 hr Y hy V ho hw;exact fin f (by simp) rv st
end
end
section
variable {C:Xg}{A:Nat->Nat->Prop}{bd:Nat}{ih:IH}{rd:Option Nat}{nt:Nat}{ops:Array Oper}{q:Bool}{T':Nat->T}{G':Nat->G}{F':Nat->W7}{hg0:Nat->Xh}
variable {N:Nat}{w0:World}{γ0:Gm}{O2:List Deferred}{b:Frame}{k:List Item}{cs:List Frame}
theorem RG(R:VE C ih bd rd nt ops q T' G' F' hg0)(hN:(G' ops.size).nx<=N)(hedge:∀i o,ops[i]?=some o->∀e∈o.after.toList,Region.binds .any e=true->e.on<i)(hcalm:rC b.kind cs) :
  ∀(fuel tq:Nat) (listed:Array Bool) (S:Nat->Prop) {a:Act} {w:World} {γ:Gm} {hg:Nat->Xh},listed.size=ops.size->(∀j,S j↔listed.getD j false=true)->Nb ops S ->
   cnt (λj=>!listed.getD j true) ops.size<=fuel->Inv C A bd nt ops T' G' F' hg0 N w0 γ0 O2 S a w γ hg ->
   ∃a' w' γ' hg',Inv C A bd nt ops T' G' F' hg0 N w0 γ0 O2 (λj=>j<ops.size) a' w' γ' hg' /\
    Steps C.P (lone (b.atR a (.inRegion ops (Region.linearise.go .any ops fuel tq listed [])::k)) cs w) (lone (b.atR a' (.inRegion ops []::k)) cs w'):=by
 have done:∀{listed:Array Bool} {S:Nat->Prop} {a:Act} {w:World} {γ:Gm} {hg:Nat->Xh},listed.size=ops.size->(∀j,S j↔listed.getD j false=true) ->
   (∀j,j<ops.size->listed.getD j true=true)->Inv C A bd nt ops T' G' F' hg0 N w0 γ0 O2 S a w γ hg->Inv C A bd nt ops T' G' F' hg0 N w0 γ0 O2 (λj=>j<ops.size) a w γ hg:=by
  intro listed S a w γ hg n hS c I;have e:S=λj=>j<ops.size:=by
   funext j;refine propext ⟨λh=>?_,λh=>?_⟩
   ·rw[hS]at h;rcases ZN j ops.size with h'|h'
    ·exact h'
    ·simp[Yx,ZI (by omega:listed.size<=j)]at h
   ·rw[hS];have:=c j h;have hlt:j<listed.size:=by omega
    simpa [Array.getD,hlt] using this
  rw[<-e];exact I
 intro fuel
 induction fuel with
 | zero =>intro tq listed S a w γ hg n hS f hc I;have hz:=O3 (Nat.le_zero.1 hc);refine⟨a,w,γ,hg,done n hS (λj d=>by simpa using hz j d) I,?_⟩;simp only[Region.linearise.go,X8];exact Steps.refl _ _
 | succ fuel ihf =>
  intro tq listed S a w γ hg n hS f hc I;simp only[Region.linearise.go];change ∃a' w' γ' hg',_/\Steps C.P (lone (b.atR a (.inRegion ops (match (Region.ready .any ops listed)[tq % (Region.ready .any ops listed).length]? with
   |some i=>Region.linearise.go .any ops fuel (tq / (Region.ready .any ops listed).length) (listed.setIfInBounds i true) [i]
   |none=>[].reverse)::k)) cs w) _
  cases hi:(Region.ready .any ops listed)[tq % (Region.ready .any ops listed).length]? with
  | none =>
   have u:Region.ready .any ops listed=[]:=by
    cases hr:Region.ready .any ops listed with
    |nil=>rfl
    | cons x xs =>rw[hr]at hi;have hlt:tq % (x::xs).length<(x::xs).length:=YX _ (by simp);rw[XJ hlt]at hi;cases hi
   have c:∀j,j<ops.size->listed.getD j true=true:=by
    intro j
    induction j using Nat.strongRecOn with
    | _ j ihj =>
     intro d;refine Ze λs=>?_;have s:listed.getD j true=false:=by simpa using s
     have:j∈Region.ready .any ops listed:=by
      rw[mem_ready];refine⟨s,ops[j],Yn d,λe he hb=>?_⟩;have hlt:=hedge j _ (Yn d) e (by simpa using he) hb;have h1:=ihj e.on hlt (by omega);have hl:e.on<listed.size:=by omega
      simpa [Array.getD,hl] using h1
     rw[u]at this;exact absurd this Yc
   exact⟨a,w,γ,hg,done n hS c I,by simp only[X8];exact Steps.refl _ _⟩
  | some i =>
   have t:=XL hi;obtain⟨r,o,ho,c⟩:=mem_ready.1 t;have z:i<ops.size:=(Z9.1 ho).1;have v:¬S i:=by
    rw[hS];have hl:i<listed.size:=by omega
    simp[Array.getD,hl]at r ⊢;exact r
   have l:∀e∈o.after.toList,Region.binds .any e=true->S e.on:=λe he hb=>by rw[hS];exact c e (by simpa using he) hb
   simp only[];rw[linearise_go_acc,List.reverse_singleton,aaW];obtain⟨a1,w1,γ1,B,I1,st1⟩:=PQ (b:=b) (k:=k) (cs:=cs) (rest:=Region.linearise.go .any ops fuel (tq / (Region.ready .any ops listed).length) (listed.setIfInBounds i true) []) R I hN ho v f l hcalm;obtain⟨a2,w2,γ2,y,I2,st2⟩:=ihf (tq / (Region.ready .any ops listed).length) (listed.setIfInBounds i true) (λj=>S j\/j=i) (by simp[n]) (λj=>by
     rw[hS]
     by_cases d:j=i
     ·subst d;have hl:j<listed.size:=by omega
      simp[Array.getD,hl]
     ·simp only[Yx];rw[Zr (Y5 d)];simp[d]) (λj oj m d e he hb=>by
     rcases d with d|rfl
     ·exact .inl (f j oj m d e he hb)
     ·rw[ho]at m;injection m with m;subst m;exact .inl (l e he hb)) (by
     have:=Ub (p:=λj=>!listed.getD j true) (q:=λj=>!(listed.setIfInBounds i true).getD j true) (λj d=>by
      by_cases hji:j=i
      ·subst hji;simpa using r
      ·simp only[Yx]at d ⊢;rw[Zr (Y5 hji)]at d;exact d) z (by simpa using r) (by
      have hl:i<listed.size:=by omega
      simp[Array.getD,hl])
     omega) I1
   exact⟨a2,w2,γ2,y,I2,Steps.trans st1 st2⟩
def Js(h:g.lg=[]):aQ g []=g:=by cases g;simp at h;subst h;rfl
def Ph{pm:List Nat}:∀(l:List Oper) (i:Nat) {t:T} {df:List Xo} {g:G} {fs:List W7} {e:Ex} {t':T} {df':List Xo} {g':G},
  (jO C nt pm ops.toList i l).run ih d rd t df g fs=.ok e t' df' g' ->
  e=.norm/\df'=df/\∃(T':Nat->T) (G':Nat->G) (F':Nat->W7),T' i=t/\G' i=g/\T' (i+l.length)=t'/\G' (i+l.length)=g' /\
   (∀j o,l[j]?=some o->dg C ih d rd nt ops false o (T' (i+j)) (T' (i+j+1)) (G' (i+j)) (G' (i+j+1)) (F' (i+j))/\(G' (i+j+1)).lg=(F' (i+j)).wr++(G' (i+j)).lg) /\
   t9 pm (fs.reverse++(List.range l.length).map λj=>F' (i+j))=true:=by
 intro l
 induction l with
 | nil =>
  intro i t df g fs e t' df' g' h;simp only[jO,aa]at h
  split at h
  ·rename_i hf;cases h;exact⟨rfl,rfl,λ_=>t,λ_=>g,λ_=>⟨aC,[]⟩,rfl,rfl,rfl,rfl,λj o h=>by simp at h,by simpa using hf⟩
  ·cases h
 | cons o rest ihl =>
  intro i t df g fs e t' df' g' h;have go:∀{t1:T} {g1:G} {f:W7},(jO C nt pm ops.toList (i+1) rest).run ih d rd t1 df g1 (f::fs)=.ok e t' df' g' ->
    dg C ih d rd nt ops false o t t1 g g1 f->g1.lg=f.wr++g.lg ->
    e=.norm/\df'=df/\∃(T':Nat->T) (G':Nat->G) (F':Nat->W7),T' i=t/\G' i=g/\T' (i+(o::rest).length)=t'/\G' (i+(o::rest).length)=g' /\
     (∀j o',(o::rest)[j]?=some o'->dg C ih d rd nt ops false o' (T' (i+j)) (T' (i+j+1)) (G' (i+j)) (G' (i+j+1)) (F' (i+j))/\(G' (i+j+1)).lg=(F' (i+j)).wr++(G' (i+j)).lg) /\
     t9 pm (fs.reverse++(List.range (o::rest).length).map λj=>F' (i+j))=true:=by
   intro t1 g1 f h c p;let⟨h1,h2,T1,G1,F1,a1,a2,q,a4,s,u⟩:=ihl (i+1) h;have ne:∀j,i+1+j≠i:=λj=>by omega
   refine⟨h1,h2,λm=>if m=i then t else T1 m,λm=>if m=i then g else G1 m,λm=>if m=i then f else F1 m,by simp,by simp,?_,?_,?_,?_⟩
   ·simp only[Yp];rw[aJ,show i+(rest.length+1)=i+1+rest.length by omega];exact q
   ·simp only[Yp];rw[aJ,show i+(rest.length+1)=i+1+rest.length by omega];exact a4
   ·intro j o' n;cases j with
    | zero =>simp at n;subst n;simp only[Zf,if_true];rw[aJ,aJ,a1,a2];exact⟨c,p⟩
    | succ j =>have:=s j o' (by simpa using n);rw[show i+(j+1)=i+1+j by omega];simp only[XS (ne j),show i+1+j+1=i+1+(j+1) by omega,XS (ne (j+1))];rw[show i+1+(j+1)=i+1+j+1 by omega];exact this
   ·rw[Yp,List.range_succ_eq_map,Z7,abV];simp only[Zf,if_true];rw[<-u];congr 1;simp only[X7,YA,aaW];congr 2;refine YZ λj _=>?_;simp only[Function.comp];rw[aJ,show i+(j+1)=i+1+j by omega]
  simp only[jO]at h
  split at h
  ·rename_i out gd k b;dsimp only at h
   split at h
   ·rename_i hq;generalize hr:(cI C o.op).run ih d rd t (aQ g [])=r at h;cases r with
    |fail=>cases h
    | val v =>refine go h ⟨out,gd,k,b,.inr ⟨hq,_,hr,by simp,by simp,rfl,by simp[Wh],by simp[Wh],by simp[Wh],λ_=>⟨rfl,by simp[Wh]⟩⟩⟩ (by simp)
    | upd v g1 =>refine go h ⟨out,gd,k,b,.inr ⟨hq,_,hr,by simp,by simp,rfl,by simp[Wh],by simp[Wh],by simp[Wh],λ_=>⟨rfl,by simp[Wh]⟩⟩⟩ (by simp)
    |Xi a=>cases h
   ·rename_i hq;exact go h ⟨out,gd,k,b,.inl ⟨hq,rfl,rfl,rfl⟩⟩ (by simp)
   ·cases h
  ·cases h
def OV(hC:Xa C){op:Op}{x:Xo}(h:(cI C op).run ih d rd t g=.Xi x):∃c,op=.defer c:=by
 have ON:∀f args,aj ih d g f args≠.Xi x:=by
  intro f args;unfold aj
  repeat' (first|split|rw[aa])
  all_goals (intro h;cases h)
 have orf:∀r,K3 r≠.Xi x:=by intro r h;cases r<;>cases h
 have rnd:∀id args,da ih d id args g≠.Xi x:=by
  intro id args;unfold da
  repeat' split
  all_goals (intro h;cases h)
 unfold cI at h
 split at h
 rotate_left
 ·cases h
 rename_i f k;unfold Jc at k
 split at k
 ·split at k
  ·split at k
   ·rename_i e he;cases k;exact absurd h (hC.UH _ _ he _ _ _ _)
   ·rw[aa]at k
    split at k
    ·cases k;exact absurd h (ON _ _)
    ·cases k;exact absurd h (orf _)
  ·cases k
 ·split at k
  ·cases k;dsimp only at h;unfold kT at h
   split at h
   ·split at h
    ·rename_i e he;exact absurd h (hC.UH _ _ he _ _ _ _)
    ·rw[aa]at h
     split at h
     ·exact absurd h (ON _ _)
     ·exact absurd h (orf _)
   ·exact absurd h (rnd _ _)
   ·cases h
  ·cases k
 ·injection k with k;subst k;cases h
 ·exact⟨_,rfl⟩
 ·split at k
  ·rename_i s hs;injection k with k;subst k;have:=Bf (t:=t) (g:=g) hs;have h:s.run t g=.Xi x:=h;rw[h]at this;exact this.elim
  ·cases k
theorem NM(hC:Xa C)(hi:V7 C ih):∀(l:List Oper) (i:Nat) {t:T} {df:List Xo} {g:G} {e:Ex} {t':T} {df':List Xo} {g':G},
  (lA C nt ops.toList l).run ih d rd t df g=.ok e t' df' g'->(∀o∈l,Cx C o.op=true)->g.lg=[]->g'.lg=[]->WF g ->
  e=.norm/\df'=df/\∃(T':Nat->T) (G':Nat->G) (F':Nat->W7),T' i=t/\G' i=g/\T' (i+l.length)=t'/\G' (i+l.length)=g' /\
   (∀j o,l[j]?=some o->dg C ih d rd nt ops true o (T' (i+j)) (T' (i+j+1)) (G' (i+j)) (G' (i+j+1)) (F' (i+j)))/\∀j,(F' j).wr=[]:=by
 intro l
 induction l with
 | nil =>intro i t df g e t' df' g' h _ _ _ _;simp only[lA]at h;injection h with h1 h2 h3 h4;subst h1;subst h2;subst h3;subst h4;exact⟨rfl,rfl,λ_=>t,λ_=>g,λ_=>⟨aC,[]⟩,rfl,rfl,rfl,rfl,λj o h=>by simp at h,λ_=>rfl⟩
 | cons o rest ihl =>
  intro i t df g e t' df' g' h hq s q p;have go:∀{t1:T} {g1:G},(lA C nt ops.toList rest).run ih d rd t1 df g1=.ok e t' df' g'->g1.lg=[]->WF g1 ->
    dg C ih d rd nt ops true o t t1 g g1 ⟨aC,[]⟩ ->
    e=.norm/\df'=df/\∃(T':Nat->T) (G':Nat->G) (F':Nat->W7),T' i=t/\G' i=g/\T' (i+(o::rest).length)=t'/\G' (i+(o::rest).length)=g' /\
     (∀j o',(o::rest)[j]?=some o'->dg C ih d rd nt ops true o' (T' (i+j)) (T' (i+j+1)) (G' (i+j)) (G' (i+j+1)) (F' (i+j)))/\∀j,(F' j).wr=[]:=by
   intro t1 g1 h f B z;obtain⟨h1,h2,T1,G1,F1,a1,a2,D,a4,E,F⟩:=ihl (i+1) h (λo' ho'=>hq o' (Yw _ ho')) f q B;have ne:∀j,i+1+j≠i:=λj=>by omega
   refine⟨h1,h2,λm=>if m=i then t else T1 m,λm=>if m=i then g else G1 m,λm=>if m=i then ⟨aC,[]⟩ else F1 m,by simp,by simp,?_,?_,?_,?_⟩
   ·simp only[Yp];rw[aJ,show i+(rest.length+1)=i+1+rest.length by omega];exact D
   ·simp only[Yp];rw[aJ,show i+(rest.length+1)=i+1+rest.length by omega];exact a4
   ·intro j o' A;cases j with
    | zero =>simp at A;subst A;simp only[Zf,if_true];rw[aJ,aJ,a1,a2];exact z
    | succ j =>have:=E j o' (by simpa using A);rw[show i+(j+1)=i+1+j by omega];simp only[XS (ne j),show i+1+j+1=i+1+(j+1) by omega,XS (ne (j+1))];rw[show i+1+(j+1)=i+1+j+1 by omega];exact this
   ·intro j;dsimp only
    split
    ·rfl
    ·exact F j
  have exec:∀{out:Wv (T->AV->T)} {gd:Wv (T->Option Bool)},ta nt o.dst=some out->jP ops.toList o.guard=some gd->gd.run t=some true ->
    rx out.run ((lA C nt ops.toList rest).run ih d rd) t df g ((cI C o.op).run ih d rd t g)=.ok e t' df' g' ->
    e=.norm/\df'=df/\∃(T':Nat->T) (G':Nat->G) (F':Nat->W7),T' i=t/\G' i=g/\T' (i+(o::rest).length)=t'/\G' (i+(o::rest).length)=g' /\
     (∀j o',(o::rest)[j]?=some o'->dg C ih d rd nt ops true o' (T' (i+j)) (T' (i+j+1)) (G' (i+j)) (G' (i+j+1)) (F' (i+j)))/\∀j,(F' j).wr=[]:=by
   intro out gd k b x h;have hm:=jQ (op:=o.op) (d:=d) (rd:=rd) (t:=t) hC.WZ hi.WZ p;generalize hr:(cI C o.op).run ih d rd t g=r at h hm;have y:(cI C o.op).run ih d rd t (aQ g [])=r:=by rw[Js s];exact hr
   cases r with
   |fail=>cases h
   | val v =>exact go (t1:=out.run t v) (g1:=g) h s p ⟨out,gd,k,b,.inr ⟨x,_,y,by simp,by simp,rfl,by simp[Wh],by simp[Wh],by simp[Wh],λh=>by cases h⟩⟩
   | upd v g1 =>
    have w1:WF g1:=hm.wf p;have H:=CT hC.WZ hi.WZ h w1;have f:g1.lg=[]:=by obtain⟨n,a,_,_⟩:=H.new;rw[q]at a;exact (List.append_eq_nil_iff.1 a.symm).2
    exact go (t1:=out.run t v) (g1:=g1) h f w1 ⟨out,gd,k,b,.inr ⟨x,_,y,by simp,by simp,rfl,by simp[Wh],by simp[Wh,f],by simp[Wh],λh=>by cases h⟩⟩
   | Xi a =>obtain⟨c,hc⟩:=OV hC hr;have:=hq o YQ;rw[hc]at this;simp[Cx]at this
  simp only[lA]at h
  split at h
  ·rename_i out k
   split at h
   ·rename_i b;exact exec k (gd:=⟨λ_=>some true⟩) (by rw[b];rfl) rfl h
   ·rename_i gd0 b
    split at h
    ·rename_i gd u;rw[<-b]at u;dsimp only at h
     split at h
     ·rename_i w;exact exec k u w h
     ·rename_i w;exact go h s p ⟨out,gd,k,u,.inl ⟨w,rfl,rfl,rfl⟩⟩
     ·cases h
    ·cases h
  ·cases h
def Mf{K V:Type}{wr:Nat->K->Prop}{val:Nat->K->V}{base:K->V}{k:K}:ov (λ_=>False) wr val base n k=base k:=by rw[Hb (m:=0) (Yi _) (λ_ _ _ h=>h.elim)];rfl
def H9(R:VE C ih bd rd nt ops q T' G' F' hg0)(hmix:C.P.follows .mixedOrders=true)(hedge:∀i o,ops[i]?=some o->∀e∈o.after.toList,Region.binds .any e=true->e.on<i)
  {w:World} {γ:Gm} {nx:Nat} {a:Act} {id:Nat} (hr:W4 C A bd w γ hg0 nx) (ht:TR w γ A bd nt (T' 0) a.tmps) (hcalm:rC b.kind cs) :
  ∃a' w' γ' hg',W4 C A bd w' γ' hg' (Nat.max nx (G' ops.size).nx)/\Stp w γ w' γ'/\TR w' γ' A bd nt (T' ops.size) a'.tmps/\a'.defers=a.defers /\
   (∀id,((∃j,j<ops.size/\id∈(F' j).wr)/\hg' id=(G' ops.size).h.get id)\/((∀j,j<ops.size->id ∉ (F' j).wr)/\hg' id=hg0 id)) /\
   Steps C.P (lone (b.atR a (.code (.region id ops true)::k)) cs w) (lone (b.atR a' k) cs w'):=by
 let w1:World:={ w with drawn:=w.drawn+1 }
 have l:Stp w γ w1 γ:=JB (XH _) rfl rfl rfl (abi _) λ_ _=>rfl;have m:W4 C A bd w1 γ hg0 nx:=hr.same l λ_ _=>rfl;have I0:Inv C A bd nt ops T' G' F' hg0 (Nat.max nx (G' ops.size).nx) w γ a.defers (λ_=>False) a w1 γ hg0:=by refine⟨m.up (Y_ _ _),l,ht.1,λs=>?_,λid=>by rw[Mf],rfl⟩;rw[Mf];exact (ht.2 s).step l
 have f:cnt (λj=>!(Array.replicate ops.size false).getD j true) ops.size<=ops.size:=by
  generalize (λj=>!(Array.replicate ops.size false).getD j true)=p;generalize ops.size=n
  induction n with
  |zero=>exact XH _
  |succ n ih'=>simp only[cnt];split<;>omega
 obtain⟨a',w',γ',hg',I,st⟩:=RG (b:=b) (k:=k) (cs:=cs) R (Zx _ _) hedge hcalm ops.size (w.tape w.drawn (.order b.fn id)) (Array.replicate ops.size false) (λ_=>False) (by simp)
  (λj=>by simp[Yx,abk];split<;>simp) (λj o _ h=>h.elim) f I0
 have d:∀{K V:Type} {wr:Nat->K->Prop} {val:Nat->K->V} {base:K->V} {k:K},(∀j,j<ops.size->¬wr j k->val (j+1) k=val j k) ->
   ((∃j,j<ops.size/\wr j k)/\ov (λj=>j<ops.size) wr val base ops.size k=val ops.size k)\/((∀j,j<ops.size->¬wr j k)/\ov (λj=>j<ops.size) wr val base ops.size k=base k/\val ops.size k=val 0 k) :=
  λkeep=>Qq (XH _) keep λj _ _=>Iff.rfl
 refine⟨a',w',γ',hg',I.rel,I.pk,⟨I.size,λs=>?_⟩,I.Xi,λid'=>?_,?_⟩
 ·have:=I.slots s;rcases d (wr:=λi s=>jS ops i=some s) (val:=λi s=>(T' i).get AV.undef s) (base:=λs=>(T' 0).get AV.undef s) (k:=s) (λj hj hw=>R.keepT hj hw) with⟨_,h⟩|⟨_,h,h2⟩
  ·rw[h]at this;exact this
  ·rw[h,<-h2]at this;exact this
 ·rw[I.RL id'];rcases d (wr:=λi id=>id∈(F' i).wr) (val:=λi id=>(G' i).h.get id) (base:=hg0) (k:=id') (λj hj hw=>(R.at hj).2.1 id' hw) with⟨h1,h⟩|⟨h1,h,_⟩
  ·exact .inl ⟨h1,h⟩
  ·exact .inr ⟨h1,h⟩
 ·refine .head stepR_region_draw ?_;have c:Region.schedule (C.P.follows .mixedOrders) ops (w.tape w.drawn (.order b.fn id))=Region.linearise.go .any ops ops.size (w.tape w.drawn (.order b.fn id)) (Array.replicate ops.size false) []:=by
   simp only[Region.schedule,hmix,ZV,if_true]
   rfl
  rw[c];exact Steps.trans st (.one stepR_region_end)
end
section
variable {body:Code}{df':List Xo}
section
variable {C:Xg}{A:Nat->Nat->Prop}{bd:Nat}{w w':World}{γ γ':Gm}{hg:Nat->Xh}{nx:Nat}
variable {t:T}{g:G}{ih:IH}
def VC(C:Xg)(A:Nat->Nat->Prop)(bd nt:Nat)(b:Frame)(k:List Item)(cs:List Frame)(m:Machine)(w:World)(γ:Gm)(hg:Nat->Xh)(nx:Nat)(g:G)(e:Ex)(t':T)(df':List Xo)(g':G):Prop :=∃a' w' γ' hg',Fin C A bd w γ hg nx g w' γ' hg' g'/\TR w' γ' A bd nt t' a'.tmps/\DR w' γ' A bd df' a'.defers/\JS C.P m b k cs e a' w'
def KD(hC:Xa C)(hi:V7 C ih){ops:Array Oper}{draw:Bool}{rid:Nat}{e:Ex}
  (h:(gm C nt ops.toList draw).run ih (bd+1) rd t df g=.ok e t' df' g'):Cd C bd nt rd (.region rid ops draw) t df g e t' df' g':=by
 intro A w γ hg nx b a k cs hr hx B hf ht E W l;unfold gm at h;rw[aa]at h
 split at h
 rotate_left
 ·rename_i c;have c:draw=false:=by simpa using c
  subst c;obtain⟨rfl,a',w',γ',hg',f,tr,dr,st⟩:=OW hC hi ops.toList 0 (by simp) h B hr hx hf ht E W l;refine⟨a',w',γ',hg',f,tr,dr,.head stepR_region ?_⟩;rw[aaw];simpa using st
 rename_i c;subst c;rw[aa]at h
 split at h
 rotate_left
 ·cases h
 rename_i d;have d:rO 0 ops.toList=true/\pf (bN ops.toList []) 0 ops.toList=true /\
   mf (λi x j y=>((bN ops.toList []).getD j 0).testBit i || lX ops.toList x y) 0 ops.toList=true:=by
  simp only[G_,XM]at d;exact⟨d.1.1,d.1.2,d.2⟩
 let⟨P,Q,S⟩:=d;have r:∀i o,ops[i]?=some o->∀e∈o.after.toList,Region.binds .any e=true->e.on<i:=by intro i o ho e he hb;have:=EQ P i o (by simpa using ho) e he hb;omega
 have m:∀i o j b,ops[i]?=some o->o.guard=some (j,b)->((bN ops.toList []).getD i 0).testBit j=true:=by intro i o j b ho hg';have:=DE Q i o (by simpa using ho) j b hg';simpa using this
 have u:∀i j oi oj,i<j->ops[i]?=some oi->ops[j]?=some oj->((bN ops.toList []).getD j 0).testBit i=true\/lX ops.toList oi oj=true:=by intro i j oi oj F U V;have:=zd S i j oi oj F (by simpa using U) (by simpa using V);simpa using this
 have M:∀id,(γ id).kind=0->hg id=.none:=λid h=>(hr.none_iff id).1 h;rw[aa]at h
 split at h
 ·
  rename_i hq;dsimp only at h;generalize hc:(lA C nt ops.toList ops.toList).run ih (bd+1) rd t df (aQ g [])=cr at h;cases cr with
  |fail=>cases h
  | ok e1 t1 df1 g1 =>
   simp only[pt]at h;cases hlg:g1.lg with
   |cons x xs=>rw[hlg]at h;cases h
   | nil =>
    rw[hlg]at h;dsimp only at h;rw[aa]at h
    split at h
    rotate_left
    ·cases h
    rename_i z;have z:=ba z;injection h with h1 h2 h3 h4;subst h1;subst h2;subst h3;subst h4;obtain⟨rfl,rfl,T',G',F',a1,a2,K,a4,J,D⟩:=NM hC hi ops.toList 0 hc (λo ho=>XQ.1 hq o ho) (by simp) hlg B.setLog;simp only[YT,aa9]at K a4 J;have R:VE C ih bd rd nt ops true T' G' F' hg:=by
     refine⟨hC,hi,λi o ho=>J i o (by simpa using ho),by rw[a2];exact B.setLog,by rw[a2];simpa using hx,λid h1 h2=>?_,λi j _ _=>.inr ?_,λi j j' _ _ _ _ _ _ hm=>?_,u,m,λ_ i _=>D i⟩
     ·rw[a2]at h1;rw[a4,z]at h2;exact M id (hf id (by simpa using h1) h2)
     ·simp[bX,kH,gx,D]
     ·rw[D j]at hm;simp[meets]at hm
    obtain⟨a',w',γ',hg',s,v,I,q,p,st⟩:=H9 (b:=b) (k:=k) (cs:=cs) (id:=rid) R hC.mixed r hr (by rw[a1];exact ht) l;have H:∀id,hg' id=hg id:=λid=>by
     rcases p id with⟨⟨j,_,h⟩,_⟩|⟨_,h⟩
     ·rw[D j]at h;exact absurd h Yc
     ·exact h
    refine⟨a',w',γ',hg',⟨?_,v,⟨[],rfl,λ_ h=>absurd h Yc,λid _=>H id⟩⟩,by rw[<-K];exact I,by rw[q];exact E.step v,st⟩;rw[a4,z]at s;exact s
 ·dsimp only at h;obtain⟨rfl,rfl,T',G',F',a1,a2,K,a4,J,D⟩:=Ph ops.toList 0 h;simp only[YT,aa9,X8,X3]at K a4 J D;obtain⟨b1,b2⟩:=Lf D;have L:∀j,j<ops.size->((List.range ops.size).map F')[j]?=some (F' j):=λj hj=>by simp[ZO hj]
  have R:VE C ih bd rd nt ops false T' G' F' hg:=by
   refine⟨hC,hi,λi o ho=>(J i o (by simpa using ho)).1,by rw[a2];exact B,by rw[a2];exact hx,λid h1 h2=>?_,λi j F hj=>?_,λi j j' h1 h2 h3 h4 h5 h6 h7 h8=>?_,u,m,λh=>by cases h⟩
   ·rw[a2]at h1;rw[a4]at h2;exact M id (hf id h1 h2)
   ·have:=zd b1 i j _ _ F (L i (by omega)) (L j hj);simpa using this
   ·exact Hq b2 i j j' _ _ _ h1 h2 (L i (by omega)) (L j (by omega)) (L j' h3) h4 (by simpa using h5) (by simpa using h6) h7 h8
  obtain⟨a',w',γ',hg',s,v,I,q,p,st⟩:=H9 (b:=b) (k:=k) (cs:=cs) (id:=rid) R hC.mixed r hr (by rw[a1];exact ht) l;have N:∀n,n<=ops.size->∃new,(G' n).lg=new++g.lg/\∀id,id∈new↔∃j,j<n/\id∈(F' j).wr:=by
   intro n
   induction n with
   |zero=>intro _;exact⟨[],by rw[a2];rfl,λid=>⟨λh=>absurd h Yc,λ⟨j,h,_⟩=>absurd h (aao j)⟩⟩
   | succ n ihn =>
    intro X;let⟨new,e1,e2⟩:=ihn (by omega);have O:n<ops.size:=by omega
    have:=(J n ops[n] (by rw[aap];exact Yn O)).2;refine⟨(F' n).wr++new,by rw[this,e1,YA],λid=>?_⟩;rw[Yf,e2];constructor
    ·rintro (h|⟨j,h1,h2⟩)
     ·exact⟨n,by omega,h⟩
     ·exact⟨j,by omega,h2⟩
    ·rintro⟨j,h1,h2⟩
     by_cases hj:j=n
     ·subst hj;exact .inl h2
     ·exact .inr ⟨j,by omega,h2⟩
  let⟨new,e1,e2⟩:=N ops.size (XH _);refine⟨a',w',γ',hg',⟨by rw[a4]at s;exact s,v,⟨new,by rw[<-a4];exact e1,λid hid=>?_,λid hid=>?_⟩⟩,by rw[<-K];exact I,by rw[q];exact E.step v,st⟩
  ·rcases p id with⟨_,h⟩|⟨h1,_⟩
   ·rw[h,a4]
   ·let⟨j,h2,h3⟩:=(e2 id).1 hid;exact absurd h3 (h1 j h2)
  ·rcases p id with⟨h1,_⟩|⟨_,h⟩
   ·exact absurd ((e2 id).2 h1) hid
   ·exact h
def cO{b:Frame}{a:Act}{k:List Item}{cs:List Frame}{c:Code} :
  step P (lone (b.atR a (.code (.scope c)::k)) cs w)=.next (lone (b.atR a (.code c::.inScope c::k)) cs w) :=
 step_lone_go (by simp[stepG,stepG.exec,Frame.atR])
def rh{b:Frame}{a:Act}{k:List Item}{cs:List Frame}{c:Code} :
  step P (lone (b.atR a (.inScope c::k)) cs w)=.next (lone (b.atR a k) cs w) :=
 step_lone_go (by simp[stepG,stepG.exec,Frame.atR])
def gf{m m1 X:Machine}(h:Steps P m X)(hne:m≠X)(hs:step P m=.next m1):Steps P m1 X:=by
 let⟨n,k⟩:=h;cases n with
 |zero=>simp[runN]at k;exact absurd k hne
 |succ n=>exact⟨n,by simpa [runN,hs] using k⟩
def EI{b b':Frame}{a a':Act}{k k':List Item}{cs cs':List Frame}{w w':World}(h:lone (b.atR a k) cs w=lone (b'.atR a' k') cs' w'):k=k':=by
 have h1:(lone (b.atR a k) cs w).gs=(lone (b'.atR a' k') cs' w').gs:=by rw[h]
 simp only[lone,Array.mk.injEq,List.cons.injEq,and_true]at h1;have h2:=congrArg (λg:Goroutine=>g.frame.todo) h1;simpa [Frame.atR] using h2
def ya(hC:Xa C)(hi:V7 C ih){fo:Operand}{s:Wv (T->AV)}{ps:Array Tmp}{Xi:Nat}{e:Ex}
  (hs:aW C fo=some s) (h:dw C ih nt (bd+1) rd (s.run t) ps.toList assign body t df Xi g=.ok e t' df' g')
  (hwf:WF g) {b:Frame} {a:Act} {k:List Item} {cs:List Frame} {mark:List Deferred} {blk:Nat}
  (hr:W4 C A bd w γ hg nx) (hx:PI g.h hg) (hf:Wm γ g g') (ht:TR w γ A bd nt t a.tmps) (hdf:DR w γ A bd df (mark++a.defers)) (hrd:VD γ rd b) (hcalm:rC b.kind cs)
  (hdfr:(γ Xi).kind=4/\(γ Xi).blk=blk) {w00:World}
  (henter:(Instr.enterLoop b.fn a.tmps ps assign body b.roundOf).run C.P w00=.ok (w.heap.size,mark) (World.add w (.loop { state:=.ready,pending:=none,fn:=b.fn,tmps:=a.tmps,params:=ps,assign,body,defers:=blk }))) :
  VC C A bd nt b k cs (lone (b.atR a (.code (.rangeFunc fo ps assign body)::k)) cs w00) w γ hg nx g e t' df' g':=by
 unfold dw at h;have K:=aA hs ht hr;generalize hfo:a.eval fo=vf at K;generalize s.run t=y at h K;cases K with
 | W_ _ f xs ys vs1 us1 hl hl2 h1 h2 =>
  dsimp only at h;rw[aa]at h
  split at h
  ·cases h
  split at h
  rotate_left
  ·cases h
  rename_i rv0 g2 q
  let L:Loop:={ state:=.ready,pending:=none,fn:=b.fn,tmps:=a.tmps,params:=ps,assign,body,defers:=blk }
  let w1:=World.add w (.loop L)
  let gh:Gh:=⟨3,0,0,0,w.heap.size,0,0,true⟩
  have B:Mon g (g.new (.loop nt t ps.toList assign body Xi .ready none)):=Mon.mk';have wf1:=B.wf hwf;have H:=hi.WZ.call _ _ _ _ _ _ q wf1;have wf2:=H.wf wf1;have m3:=Ad hi.WZ h wf2;have j:(γ g.nx).kind=0:=hf g.nx (XH _) (Ya B.nx (Ya H.nx m3.nx));have F:Xi≠g.nx:=by rintro rfl;rw[hdfr.1]at j;cases j
  obtain⟨r1,s1⟩:=hr.add (id:=g.nx) (gh:=gh) (o:=.loop L) (ao:=.loop nt t ps.toList assign body Xi .ready none) (nx':=Nat.max nx (g.nx+1)) j rfl (Y_ _ _) (XX (ZU _) (Zx _ _)) (by
   have s0:=Hu (w:=w) (o:=.loop L) (gh:=gh) j rfl;refine⟨by simp[gh],by simp[gh],L,by rw[me];simp[gh],rfl,rfl,rfl,rfl,rfl,ht.1,λi=>(ht.2 i).step s0,?_,?_⟩
   ·rw[dD _ _ F];exact hdfr.1
   ·rw[dD _ _ F];exact hdfr.2.symm)
  have f1:Fin C A bd w γ hg nx g w1 (upd γ g.nx gh) _ (g.new (.loop nt t ps.toList assign body Xi .ready none)):=VM r1 s1;have h5:=f1.ext B hx;have Z:=f1.freed hr B hf;obtain⟨Q,W⟩:=hi.call _ _ _ _ _ _ q;have h7:RV w1 (upd γ g.nx gh) A bd (.VZ g.nx) (.func (.yield w.heap.size) #[] #[]):=.VZ _ _ _ (by simp[gh]) (by simp[gh]);have I:Wa w1 (upd γ g.nx gh) A bd (xs++(.VZ g.nx::ys)) (vs1.toList++(.func (.yield w.heap.size) #[] #[]::us1.toList)):=by
   refine ((VU hl h1).step s1).append ?_;have hu:=(VU hl2 h2).step s1;refine⟨by simp[hu.1],λi x v hx' hv=>?_⟩;cases i with
   |zero=>simp at hx' hv;subst hx';subst hv;exact h7
   |succ i=>exact hu.2 i x v (by simpa using hx') (by simpa using hv)
  let a1:Act:={ a with defers:=mark++a.defers }
  let fr1:=b.atR a1 (.inRangeFunc w.heap.size::k)
  obtain⟨u,w2,γ2,S,f2,_,fr,st,q1,q2,q3,q4,fn,q5,q6⟩:=W A w1 _ _ _ _ f1.rel h5 wf1 (Z.le m3.nx) I .normal (fr1::cs) (.inl rfl);have D:=f1.trans f2 B H;have h6:=D.ext (B.trans H) hx;have N:(vs1.toList++(.func (.yield w.heap.size) #[] #[]::us1.toList)).toArray=(vs1++#[.func (.yield w.heap.size) #[] #[]])++us1:=by apply On;simp
  rw[N]at st;have E:step C.P (lone (b.atR a (.code (.rangeFunc fo ps assign body)::k)) cs w00)=.next (lone (Frame.enter C.P f ((vs1++#[.func (.yield w.heap.size) #[] #[]])++us1) .normal) (fr1::cs) w1):=by
   refine stepR_rangeFunc (l:=w.heap.size) (mark:=mark) (w₁:=w1) (w₁':=w1) (d:={ target:=.fn (.func f) us1,args:=vs1++#[.func (.yield w.heap.size) #[] #[]] }) henter ?_ ?_
   ·simp only[resolve];rw[hfo];simp[Deferred.ofValue,Act.eval]
   ·exact Q _ _
  have R:fr1.finish u=b.atR a1 (.endRangeFunc w.heap.size::k):=finish_atR_inRangeFunc _ _;have J:Steps C.P (lone (b.atR a (.code (.rangeFunc fo ps assign body)::k)) cs w00) (lone (b.atR a1 (.endRangeFunc w.heap.size::k)) cs w2):=by refine .head E (Steps.trans st (.one ?_));rw[<-R];exact step_leave_returned ⟨q1,q2,q3,fn,by rw[q4];exact q5,q6⟩
  unfold eC at h
  split at h
  rotate_left
  ·cases h
  rename_i nt3 Y ps3 assign3 body3 dfr3 st3 pend3 n;have n:g2.h.get g.nx=.loop nt3 Y ps3 assign3 body3 dfr3 st3 pend3:=by simpa using n
  have U:S g.nx=.loop nt3 Y ps3 assign3 body3 dfr3 st3 pend3:=by rw[h6 g.nx (by rw[n];simp),n]
  have V:=D.rel.obj g.nx;rw[U]at V;obtain⟨k1,k2,L2,X,k4,k5,k6,k7,k8,k9,h9,ha,hc⟩:=V;have O:(γ2 g.nx).blk=w.heap.size:=by have:=f2.pk.blk_eq (id:=g.nx) (by simp[gh]) (by simp[gh]);rw[this];simp[gh]
  obtain⟨r3,s3⟩:=D.rel.setLoop (st':=.exhausted) (pend':=pend3) U X;rw[O]at X r3 s3;have f3:Fin C A bd w2 γ2 S (Nat.max nx g2.nx) g2 _ γ2 _ (g2.put g.nx (.loop nt3 Y ps3 assign3 body3 dfr3 .exhausted pend3)):=VN r3 s3;have M:Mon g2 (g2.put g.nx (.loop nt3 Y ps3 assign3 body3 dfr3 .exhausted pend3)):=Mon.put wf2 (by rw[n];simp);have m:=D.trans f3 (B.trans H) M;have h8:(γ2 g.nx).kind≠0:=by rw[k1];decide
  have r:st3≠.busy->(Instr.endLoop w.heap.size).run C.P w2=.ok pend3 (World.setBlk w2 w.heap.size (.loop { L2 with state:=.exhausted,pending:=pend3 })):=by
   intro h4;unfold Instr.endLoop;have hb:(L2.state == LoopState.busy)=false:=by rw[k4];cases st3<;>first|rfl|exact absurd rfl h4
   simp only[Yb,mz X,XT,hb,ZR,if_false,Yu,wY X];subst k5
   rfl
  have z:Stp w γ (World.setBlk w2 w.heap.size (.loop { L2 with state:=.exhausted,pending:=pend3 })) γ2:=m.pk
  split at h
  ·cases h
  ·rename_i h3;have r:=r (by rintro rfl;exact h3 rfl);have p:=Steps.trans J (.one (stepR_endRangeFunc (P:=C.P) (b:=b) (a:=a1) (k:=k) (cs:=cs) r))
   split at h
   ·injection h with e1 e2 e3 e4;subst e1;subst e2;subst e3;subst e4;exact⟨a1,_,γ2,_,m,ht.step z,hdf.step z,by simpa [JS] using p⟩
   ·rename_i c;have m5:=hi.WZ.code _ _ _ _ _ _ _ _ _ _ _ h (M.wf wf2);obtain⟨a',w',γ',hg',f4,tr,dr,ar⟩:=hi.code _ _ _ _ _ _ _ _ _ _ _ h A _ _ _ _ b a1 k cs m.rel (m.ext ((B.trans H).trans M) hx) (M.wf wf2) (m.freed hr ((B.trans H).trans M) hf)
     (ht.step z) (hdf.step z) (hrd.step z) hcalm
    exact⟨a',w',γ',hg',m.trans f4 ((B.trans H).trans M) m5,tr,dr,ar.of_steps (by simpa using p)⟩
 |_=>cases h
def DY{o:Obj}:(newObj o).run P w=.ok w.heap.size (World.add w o):=by simp[newObj,Sem.run,World.add]
def ER{fn:FuncId}{ps:Array Tmp} :
  (Instr.enterLoop fn tmps ps assign body none).run P w=.ok (w.heap.size+1,[{ target:=.collected w.heap.size,args:=#[] }])
   (World.add (World.add w (.deferred (some []))) (.loop { state:=.ready,pending:=none,fn,tmps,params:=ps,assign,body,defers:=w.heap.size })):=by
 unfold Instr.enterLoop;simp only[Yb,DY,XT,Yu,M3]
def GF{fn:FuncId}{ps:Array Tmp}{l:Nat}{L:Loop}(h:w.heap[l]?=some (.loop L)) :
  (Instr.enterLoop fn tmps ps assign body (some l)).run P w=.ok (w.heap.size,[])
   (World.add w (.loop { state:=.ready,pending:=none,fn,tmps,params:=ps,assign,body,defers:=L.defers })):=by
 unfold Instr.enterLoop;simp only[Yb,mz h,DY,XT,Yu]
theorem KC(hC:Xa C)(hi:V7 C ih){fo:Operand}{s:Wv (T->AV)}{ps:Array Tmp}{e:Ex}
  (hs:aW C fo=some s) (h:pu C nt s.run ps.toList assign body ih (bd+1) rd t df g=.ok e t' df' g'):Cd C bd nt rd (.rangeFunc fo ps assign body) t df g e t' df' g':=by
 intro A w γ hg nx b a k cs hr hx q hf ht m j f;unfold pu at h;cases rd with
 | some l =>
  dsimp only at h
  split at h
  rotate_left
  ·cases h
  rename_i nt0 t0 ps0 as0 bo0 Xi st0 pe0 d;have d:g.h.get l=.loop nt0 t0 ps0 as0 bo0 Xi st0 pe0:=by simpa using d
  have u:hg l=.loop nt0 t0 ps0 as0 bo0 Xi st0 pe0:=by rw[hx l (by rw[d];simp),d]
  have n:=hr.obj l;rw[u]at n;obtain⟨F,k2,L,D,H,I,J,K,M,N,B,v,x⟩:=n;have c:=GF (P:=C.P) (fn:=b.fn) (tmps:=a.tmps) (ps:=ps) (assign:=assign) (body:=body) D;rw[x,<-j.2]at c;exact ya (mark:=[]) hC hi hs h q hr hx hf ht m j f ⟨v,rfl⟩ c
 | none =>
  dsimp only at h
  let gh:Gh:=⟨4,0,0,0,w.heap.size,0,0,true⟩
  have r:Mon g (g.new (.Xi true)):=Mon.mk';have wf1:=r.wf q;have z:=rg hi.WZ h wf1;have i:(γ g.nx).kind=0:=hf g.nx (XH _) (Ya r.nx z.nx);obtain⟨E,y⟩:=hr.add (id:=g.nx) (gh:=gh) (o:=.deferred (some [])) (ao:=.Xi true) (nx':=Nat.max nx (g.nx+1)) i rfl (Y_ _ _) (XX (ZU _) (Zx _ _)) (by refine⟨by simp[gh],by simp[gh],by rw[me];simp[gh]⟩)
  have f1:Fin C A bd w γ hg nx g _ (upd γ g.nx gh) _ (g.new (.Xi true)):=VM E y;have c:=ER (P:=C.P) (w:=w) (fn:=b.fn) (tmps:=a.tmps) (ps:=ps) (assign:=assign) (body:=body);have p:b.roundOf=none:=j;rw[<-p]at c;obtain⟨a',w',γ',hg',f2,tr,dr,ar⟩:=ya (nt:=nt) (rd:=none) (b:=b) (a:=a) (k:=k) (cs:=cs) (mark:=[{ target:=.collected w.heap.size,args:=#[] }]) (blk:=w.heap.size) (w00:=w) hC hi hs h wf1 f1.rel (f1.ext r hx) (f1.freed hr r hf)
   (ht.step y) ⟨⟨by simp[gh],by simp[gh]⟩,m.step y⟩ p f ⟨by simp[gh],by simp[gh]⟩ (by simpa using c)
  exact⟨a',w',γ',hg',f1.trans f2 r z,tr,dr,ar⟩
def Az(hC:Xa C)(hi:V7 C ih):∀(c:Code) {t:T} {df:List Xo} {g:G} {e:Ex} {t':T} {df':List Xo} {g':G},
  (aR C nt c).run ih (bd+1) rd t df g=.ok e t' df' g'->Cd C bd nt rd c t df g e t' df' g':=by
 intro c
 induction c with
 | skip =>intro t df g e t' df' g' h A w γ hg nx b a k cs hr hx n hf ht i o d;simp only[aR]at h;cases h;exact⟨a,w,γ,hg,Fin.refl hr,ht,i,.one stepR_skip⟩
 | label l =>intro t df g e t' df' g' h A w γ hg nx b a k cs hr hx n hf ht i o d;simp only[aR]at h;cases h;exact⟨a,w,γ,hg,Fin.refl hr,ht,i,.one stepR_label⟩
 |region id ops draw=>intro t df g e t' df' g' h;exact KD hC hi h
 | seq x y ihx ihy =>
  intro t df g e t' df' g' h A w γ hg nx b a k cs hr hx n hf ht i o d;simp only[aR]at h;generalize hc:(aR C nt x).run ih (bd+1) rd t df g=r at h;cases r with
  |fail=>cases h
  | ok e1 t1 df1 g1 =>
   have q:=lq hC.WZ hi.WZ _ hc n;have wf1:=q.wf n;cases e1 with
   | norm =>have h:(aR C nt y).run ih (bd+1) rd t1 df1 g1=.ok e t' df' g':=h;have z:=lq hC.WZ hi.WZ _ h wf1;let⟨a1,w1,γ1,m,f1,tr1,dr1,ar1⟩:=ihx hc A w γ hg nx b a (.code y::k) cs hr hx n (hf.le z.nx) ht i o d;let⟨a2,w2,γ2,u,f2,tr2,dr2,ar2⟩:=ihy h A w1 γ1 m _ b a1 k cs f1.rel (f1.ext q hx) wf1 (f1.freed hr q hf) tr1 dr1 (o.step f1.pk) d;exact⟨a2,w2,γ2,u,f1.trans f2 q z,tr2,dr2,ar2.of_steps (.head stepR_seq ar1)⟩
   | exit j =>have h:CR.ok (.exit j) t1 df1 g1=.ok e t' df' g':=h;cases h;let⟨a1,w1,γ1,m,f1,tr1,dr1,k₁,hk,ar1⟩:=ihx hc A w γ hg nx b a (.code y::k) cs hr hx n hf ht i o d;exact⟨a1,w1,γ1,m,f1,tr1,dr1,k₁,by rw[hk];rfl,.head stepR_seq ar1⟩
   | ret =>have h:CR.ok .ret t1 df1 g1=.ok e t' df' g':=h;cases h;let⟨a1,w1,γ1,m,f1,tr1,dr1,k₁,ar1⟩:=ihx hc A w γ hg nx b a (.code y::k) cs hr hx n hf ht i o d;exact⟨a1,w1,γ1,m,f1,tr1,dr1,k₁,.head stepR_seq ar1⟩
 | cond c x y ihx ihy =>
  intro t df g e t' df' g' h A w γ hg nx b a k cs hr hx n hf ht i o d;simp only[aR]at h
  split at h
  rotate_left
  ·cases h
  rename_i s hs;dsimp only at h;have hv:=aA hs ht hr;generalize hcv:a.eval c=vc at hv;generalize s.run t=cv at h hv;cases hv with
  | bool _ bv =>
   dsimp only at h;cases bv with
   | true =>let⟨a1,w1,γ1,m,f1,tr1,dr1,ar1⟩:=ihx h A w γ hg nx b a k cs hr hx n hf ht i o d;exact⟨a1,w1,γ1,m,f1,tr1,dr1,ar1.of_steps (.one (by simpa using stepR_cond hcv))⟩
   | false =>let⟨a1,w1,γ1,m,f1,tr1,dr1,ar1⟩:=ihy h A w γ hg nx b a k cs hr hx n hf ht i o d;exact⟨a1,w1,γ1,m,f1,tr1,dr1,ar1.of_steps (.one (by simpa using stepR_cond hcv))⟩
  |_=>cases h
 | block id body ihb =>
  intro t df g e t' df' g' h A w γ hg nx b a k cs hr hx n hf ht i o d;simp only[aR]at h;generalize hc:(aR C nt body).run ih (bd+1) rd t df g=r at h;cases r with
  |fail=>cases h
  | ok e1 t1 df1 g1 =>
   cases e1 with
   | norm =>have h:CR.ok .norm t1 df1 g1=.ok e t' df' g':=h;cases h;let⟨a1,w1,γ1,m,f1,tr1,dr1,ar1⟩:=ihb hc A w γ hg nx b a (.inBlock id::k) cs hr hx n hf ht i o d;exact⟨a1,w1,γ1,m,f1,tr1,dr1,.head stepR_block (Steps.trans ar1 (.one stepR_inBlock))⟩
   | exit j =>
    simp only[yi,aa]at h
    split at h
    ·rename_i v;have v:=ba v;subst v;cases h;let⟨a1,w1,γ1,m,f1,tr1,dr1,k₁,hk,ar1⟩:=ihb hc A w γ hg nx b a (.inBlock j::k) cs hr hx n hf ht i o d;exact⟨a1,w1,γ1,m,f1,tr1,dr1,.head stepR_block (Steps.trans ar1 (.one (stepR_exit (by rw[hk];simp[exitTo]))))⟩
    ·rename_i v;cases h;let⟨a1,w1,γ1,m,f1,tr1,dr1,k₁,hk,ar1⟩:=ihb hc A w γ hg nx b a (.inBlock id::k) cs hr hx n hf ht i o d;refine⟨a1,w1,γ1,m,f1,tr1,dr1,k₁,?_,.head stepR_block ar1⟩;rw[hk];have B:(id == j)=false:=by simp only[beq_eq_false_iff_ne,ne_eq];rintro rfl;exact v (Yl _)
     simp[exitTo,B]
   | ret =>have h:CR.ok .ret t1 df1 g1=.ok e t' df' g':=h;cases h;let⟨a1,w1,γ1,m,f1,tr1,dr1,k₁,ar1⟩:=ihb hc A w γ hg nx b a (.inBlock id::k) cs hr hx n hf ht i o d;exact⟨a1,w1,γ1,m,f1,tr1,dr1,k₁,.head stepR_block ar1⟩
 | loop body ihb =>
  intro t df g e t' df' g' h A w γ hg nx b a k cs hr hx n hf ht i o d;simp only[aR]at h;generalize hc:(aR C nt body).run ih (bd+1) rd t df g=r at h;cases r with
  |fail=>cases h
  | ok e1 t1 df1 g1 =>
   have q:=lq hC.WZ hi.WZ _ hc n;have wf1:=q.wf n;cases e1 with
   | norm =>
    have h:ih.code nt (bd+1) rd (.loop body) t1 df1 g1=.ok e t' df' g':=h;have z:=hi.WZ.code _ _ _ _ _ _ _ _ _ _ _ h wf1;let⟨a1,w1,γ1,m,f1,tr1,dr1,ar1⟩:=ihb hc A w γ hg nx b a (.inLoop body::k) cs hr hx n (hf.le z.nx) ht i o d;let⟨a2,w2,γ2,u,f2,tr2,dr2,ar2⟩:=hi.code _ _ _ _ _ _ _ _ _ _ _ h A w1 γ1 m _ b a1 k cs f1.rel (f1.ext q hx) wf1 (f1.freed hr q hf) tr1 dr1 (o.step f1.pk) d;refine⟨a2,w2,γ2,u,f1.trans f2 q z,tr2,dr2,JS.of_steps (.head stepR_loop (Steps.trans ar1 (.one stepR_inLoop))) ?_⟩;have p:step C.P (lone (b.atR a1 (.code (.loop body)::k)) cs w1)=.next (lone (b.atR a1 (.code body::.inLoop body::k)) cs w1):=stepR_loop;have ne:∀{a':Act} {k':List Item} {w':World},k'≠.code (.loop body)::k->lone (b.atR a1 (.code (.loop body)::k)) cs w1≠lone (b.atR a' k') cs w':=λh h'=>h (EI h').symm;cases e with
    |norm=>exact gf ar2 (ne (λh=>by have:=congrArg List.length h;simp at this)) p
    | exit j =>let⟨k₁,hk,ar2⟩:=ar2;exact⟨k₁,hk,gf ar2 (ne (λh=>by injection h with h _;injection h with h;cases h)) p⟩
    | ret =>let⟨k₁,ar2⟩:=ar2;exact⟨k₁,gf ar2 (ne (λh=>by injection h with h _;injection h with h;cases h)) p⟩
   | exit j =>have h:CR.ok (.exit j) t1 df1 g1=.ok e t' df' g':=h;cases h;let⟨a1,w1,γ1,m,f1,tr1,dr1,k₁,hk,ar1⟩:=ihb hc A w γ hg nx b a (.inLoop body::k) cs hr hx n hf ht i o d;exact⟨a1,w1,γ1,m,f1,tr1,dr1,k₁,by rw[hk];rfl,.head stepR_loop ar1⟩
   | ret =>have h:CR.ok .ret t1 df1 g1=.ok e t' df' g':=h;cases h;let⟨a1,w1,γ1,m,f1,tr1,dr1,k₁,ar1⟩:=ihb hc A w γ hg nx b a (.inLoop body::k) cs hr hx n hf ht i o d;exact⟨a1,w1,γ1,m,f1,tr1,dr1,k₁,.head stepR_loop ar1⟩
 | scope body ihb =>
  intro t df g e t' df' g' h A w γ hg nx b a k cs hr hx n hf ht i o d;have h:(aR C nt body).run ih (bd+1) rd t df g=.ok e t' df' g':=h;let⟨a1,w1,γ1,m,f1,tr1,dr1,ar1⟩:=ihb h A w γ hg nx b a (.inScope body::k) cs hr hx n hf ht i o d;refine⟨a1,w1,γ1,m,f1,tr1,dr1,?_⟩;cases e with
  |norm=>exact .head cO (Steps.trans ar1 (.one rh))
  |exit j=>let⟨k₁,hk,ar1⟩:=ar1;exact⟨k₁,by rw[hk];rfl,.head cO ar1⟩
  |ret=>let⟨k₁,ar1⟩:=ar1;exact⟨k₁,.head cO ar1⟩
 | exit id =>intro t df g e t' df' g' h A w γ hg nx b a k cs hr hx n hf ht i o d;simp only[aR]at h;cases h;exact⟨a,w,γ,hg,Fin.refl hr,ht,i,k,rfl,Steps.refl _ _⟩
 | ret =>intro t df g e t' df' g' h A w γ hg nx b a k cs hr hx n hf ht i o d;simp only[aR]at h;cases h;exact⟨a,w,γ,hg,Fin.refl hr,ht,i,k,Steps.refl _ _⟩
 | rangeFunc f ps assign body _ _ =>
  intro t df g e t' df' g' h;simp only[aR]at h
  split at h
  ·rename_i s hs;exact KC hC hi hs h
  ·cases h
 |_=>intro t df g e t' df' g' h;cases h
def Nv(fr:Frame)(h:fr.mode=.returning):({ fr with mode:=.returning }:Frame)=fr:=by cases fr;simp at h;subst h;rfl
def Ge(hi:V7 C ih):∀{df:List Xo} {g g':G},eE ih (bd+1) df g=some g'->WF g ->
  ∀{w γ hg nx} {fr:Frame} {cs:List Frame},W4 C A bd w γ hg nx->PI g.h hg->Wm γ g g'->DR w γ A bd df fr.defers->fr.mode=.returning ->
   ∃w' γ' hg',Fin C A bd w γ hg nx g w' γ' hg' g'/\Steps C.P (lone fr cs w) (lone { fr with defers:=[] } cs w'):=by
 intro df
 induction df with
 | nil =>
  intro g g' h _ w γ hg nx fr cs hr hx hf k hm;simp only[eE]at h;injection h with h;subst h;have hd:fr.defers=[]:=by
   cases hd:fr.defers with
   |nil=>rfl
   |cons d ds=>rw[hd]at k;exact k.elim
  refine⟨w,γ,hg,Fin.refl hr,?_⟩;have:({ fr with defers:=[] }:Frame)=fr:=by cases fr;simp at hd;subst hd;rfl
  rw[this];exact Steps.refl _ _
 | cons x df ihl =>
  intro g g' h b w γ hg nx fr cs hr hx hf k hm;cases hd:fr.defers with
  |nil=>rw[hd]at k;cases x<;>exact k.elim
  | cons d ds =>
   rw[hd]at k;cases x with
   | mark id =>
    obtain⟨⟨hk,rfl⟩,k⟩:=k;simp only[eE]at h
    split at h
    ·rename_i a;have a:g.h.get id=.Xi true:=by simpa using a
     have B:hg id=.Xi true:=by rw[hx id (by rw[a];simp),a]
     have r:=hr.obj id;rw[B]at r;obtain⟨E,k2,F⟩:=r;have q:(γ id).kind≠0:=by rw[E];decide
     have i:Mon g (g.put id (.Xi false)):=Mon.put b (by rw[a];simp);obtain⟨M,H⟩:=hr.setBlk (id:=id) (o:=.deferred none) (ao:=.Xi false) q k2 ⟨E,k2,by rw[eF];simp[(hr.lt id q).2]⟩;have f1:Fin C A bd w γ hg nx g _ γ _ (g.put id (.Xi false)):=VN M H;have t:=nK hi.WZ h (i.wf b);obtain⟨w',γ',hg',f2,st⟩:=ihl h (i.wf b) (fr:={ fr with defers:=ds }) (cs:=cs) f1.rel (f1.ext i hx) (f1.freed hr i hf) (k.step H) hm;refine⟨w',γ',hg',f1.trans f2 i t,.head (step_lone_go ?_) st⟩;have m:(Instr.takeDeferred (γ id).blk).run C.P w=.ok [] (World.setBlk w (γ id).blk (.deferred none)):=by unfold Instr.takeDeferred;simp only[Yb,yO F (by simp),XT,if_true,Eu F (by simp),Yu]
     simp[stepG,hm,unwind,hd,Sem.runT_eq,m,GStep.bare_after]
    ·cases h
   | call fv args =>
    obtain⟨⟨f,ys,us,rfl,j,D,l⟩,k⟩:=k;simp only[eE]at h
    split at h
    rotate_left
    ·cases h
    rename_i v g1 e;have i:=hi.WZ.call _ _ _ _ _ _ e b;have wf1:=i.wf b;have t:=nK hi.WZ h wf1;obtain⟨p,s⟩:=hi.call _ _ _ _ _ _ e
    let fr0:Frame:={ fr with defers:=ds }
    obtain⟨u,w1,γ1,I,f1,_,frX,st,J,q2,q3,K,fn,q5,L⟩:=s A w γ hg nx (d.args.toList++us.toList) hr hx b (hf.le t.nx) (by simpa using l.append D) .deferred (fr0::cs) (.inr ⟨rfl,fr0,cs,rfl,.inl hm⟩);have n:(d.args.toList++us.toList).toArray=d.args++us:=by apply On;simp
    rw[n]at st;obtain⟨w',γ',hg',f2,st2⟩:=ihl h wf1 (fr:=fr0) (cs:=cs) f1.rel (f1.ext i hx) (f1.freed hr i hf) (k.step f1.pk) hm;refine⟨w',γ',hg',f1.trans f2 i t,.head (step_defer (by rw[hm];simp) hd j ?_) (Steps.trans st (.head ?_ st2))⟩
    ·rw[j];simp only[invoke];exact p _ _
    ·have z:frX.going C.P w1 (.returned u):=⟨J,q2,fn,by rw[K];exact q5,L⟩;have:=step_going_returned (P:=C.P) (c:=fr0) (cs:=cs) q3 z;have hs:settle fr0.mode=.returning:=by have:fr0.mode=.returning:=hm;rw[this];rfl
     rw[hs]at this;have y:({ fr0 with mode:=.returning }:Frame)=fr0:=by exact Nv fr0 hm
     rw[y]at this;exact this
def IJ{ty:TypeId}{x v:Value}{w w':World}(h:(do loadVar ty (<-Instr.sureAddr x):Sem Value).run P w=.ok v w') :
  (do loadVar ty (<-asAddr x):Sem Value).run P w=.ok v w':=by
 cases x with
 |pointer p=>cases p<;>simp[Instr.sureAddr,asAddr]at h ⊢;exact h
 |_=>simp[Instr.sureAddr]at h
def CU(hC:Xa C)(ht:TR w γ A bd nt t tmps)(hr:W4 C A bd w γ hg nx)(hx:PI g.h hg):∀{rs:List ResultVar} {k:Wv (T->G->Option (List AV))} {vs:List AV},pE C rs=some k->k.run t g=some vs ->
  ∃us:List Value,(rs.mapM (fun|.tmp t=>pure (tmps.getD t undef)|.cell a t=>do loadVar t (<-asAddr (tmps.getD a undef))):Sem (List Value)).run C.P w=.ok us w/\Wa w γ A bd vs us:=by
 intro rs
 induction rs with
 |nil=>intro k vs h hv;simp[pE]at h;subst h;simp at hv;subst hv;exact⟨[],by simp,rfl,λi x v h=>by simp at h⟩
 | cons r rs ihr =>
  intro k vs h hv;cases r with
  | tmp n =>
   simp only[pE]at h
   split at h
   ·rename_i q d;cases h;dsimp only at hv
    split at hv
    ·rename_i vs0 b;cases hv;let⟨us,h1,h2⟩:=ihr d b;refine⟨tmps.getD n undef::us,?_,by simp[h2.1],λi x v hx' hv'=>?_⟩
     ·rw[abD];simp only[Yb,Yu,XT,h1]
     ·cases i with
      |zero=>simp at hx' hv';subst hx';subst hv';simpa [Yx] using ht.2 n
      |succ i=>exact h2.2 i x v (by simpa using hx') (by simpa using hv')
    ·cases hv
   ·cases h
  | cell ad ty =>
   simp only[pE]at h
   split at h
   ·rename_i q l d hl;cases h;dsimp only at hv
    split at hv
    ·rename_i y j
     split at hv
     ·rename_i vs0 b;cases hv;let⟨us,h1,h2⟩:=ihr d b
      let o:Oper:={ (default:Oper) with op:=.load ty (.tmp ad) }
      have f:∀id∈bE C (.load ty (.tmp ad)) t g,hg id=g.h.get id:=by intro id c;exact hx id λp=>by rw[Jz hl c p]at j;cases j
      have e:∃v,(do loadVar ty (<-asAddr (tmps.getD ad undef)):Sem Value).run C.P w=.ok v w/\RV w γ A bd y v:=by
       simp only[cT]at hl
       split at hl
       ·rename_i s ag n hs m p;injection hl with hl;subst hl;have:=IK (g:=g) (ty:=ty) (t:=t) hr (aA (a:={ tmps:=tmps,defers:=[] }) hs ht hr) m p (λid c=>f id (by simp[bE,aV,am,hs,c]));have j:pj ag n s.run t g=.val y:=j;rw[j]at this;let⟨v,h1,h2⟩:=this;refine⟨v,?_,h2⟩;have h1:(Instr.loadAt ty (tmps.getD ad undef)).run C.P w=.ok v w:=h1;unfold Instr.loadAt at h1;exact IJ h1
       ·cases hl
      let⟨v,h3,h4⟩:=e;refine⟨v::us,?_,by simp[h2.1],λi x v' hx' hv'=>?_⟩
      ·rw[abD];simp only[Yb,Yu];simp only[Yb]at h3;rw[h3];simp only[XT,h1]
      ·cases i with
       |zero=>simp at hx' hv';subst hx';subst hv';exact h4
       |succ i=>exact h2.2 i x v' (by simpa using hx') (by simpa using hv')
     ·cases hv
    ·cases hv
   ·cases h
def Kq:∀(vs:List AV) (i:Nat) (t:T) (s:Nat),(bJ i vs t).get AV.undef s=if i<=s/\s<i+vs.length then vs.getD (s - i) AV.undef else t.get AV.undef s:=by
 intro vs
 induction vs with
 |nil=>intro i t s;simp only[bJ,Z2];rw[aJ]
 | cons v vs ihv =>
  intro i t s;simp only[bJ];rw[ihv,Vc]
  by_cases h1:s=i
  ·subst h1;rw[aJ,XO rfl,XO (by simp)];simp
  ·rw[XS h1]
   by_cases h2:i+1<=s/\s<i+1+vs.length
   ·rw[XO h2,XO (by simp;omega),show s - i=(s - (i+1))+1 by omega];simp
   ·rw[XS h2,XS (by simp;omega)]
theorem Cf{as:List AV}{vs:List Value}(hv:Wa w γ A bd as vs)(hn:as.length<=nt) :
  TR w γ A bd nt (bJ 0 as .nil) (vs.toArray++Array.replicate (nt - vs.toArray.size) undef):=by
 have hl:=hv.1;refine⟨by simp;omega,λs=>?_⟩;rw[Kq]
 by_cases hs:s<as.length
 ·rw[XO (by simpa using hs)];have h1:as[s]?=some (as[s]):=XJ hs;have h2:vs[s]?=some (vs[s]'(by omega)):=XJ (by omega);have:=hv.2 s _ _ h1 h2;have e1:as.getD (s - 0) AV.undef=as[s]:=by simp[Zs,h1]
  have e2:(vs.toArray++Array.replicate (nt - vs.toArray.size) undef).getD s undef=vs[s]'(by omega):=by rw[Yx,aas (by simp;omega)];simp[h2]
  rw[e1,e2];exact this
 ·rw[XS (by simpa using hs),VV];have e2:(vs.toArray++Array.replicate (nt - vs.toArray.size) undef).getD s undef=undef:=by
   rw[Yx,abb (by simp;omega),abk]
   split<;>rfl
  rw[e2];exact pB
def wU{fn:Func}{us:List Value}
  (h:(fn.results.toList.mapM (fun|.tmp t=>pure (tmps.getD t undef)|.cell a t=>do loadVar t (<-asAddr (tmps.getD a undef))):Sem (List Value)).run P w=.ok us w) :
  ∃u,(results fn tmps).run P w=.ok u w/\∀{xs:List AV},Wa w γ A bd xs us->RV w γ A bd (fg xs) u:=by
 have hm:(fn.results.mapM (fun|.tmp t=>pure (tmps.getD t undef)|.cell a t=>do loadVar t (<-asAddr (tmps.getD a undef))):Sem (Array Value)).run P w=.ok us.toArray w:=by
  rw[abg];simp only[Sem.run_map,h]
  rfl
 refine⟨if hs:us.toArray.size=1 then us.toArray[0] else .tuple us.toArray,?_,?_⟩
 ·unfold results;simp only[Yb];have k:=hm;generalize hq:(fn.results.mapM (fun|.tmp t=>pure (tmps.getD t undef)|.cell a t=>do loadVar t (<-asAddr (tmps.getD a undef))):Sem (Array Value))=q at k;rw[k];simp only[XT,Yu]
 ·intro xs hv;have hl:=hv.1;have WM:RV w γ A bd (.WM xs) (.tuple us.toArray):=.WM _ _ _ (by simpa using hl) λi x v h1 h2=>hv.2 i x v h1 (by simpa using h2);cases us with
  | nil =>have:xs=[]:=Zq.1 hl;subst this;exact WM
  | cons u us =>
   cases us with
   | nil =>
    cases xs with
    |nil=>simp at hl
    | cons x xs =>have:xs=[]:=Zq.1 (by simpa using hl);subst this;exact hv.2 0 x u rfl rfl
   | cons u' us =>
    rw[dif_neg (by simp)];cases xs with
    |nil=>simp at hl
    | cons x xs =>
     cases xs with
     |nil=>simp at hl
     |cons x' xs=>exact WM
def RQ(hC:Xa C)(hi:V7 C ih){f:Nat}{x:Wv (IH->Nat->List AV->G->FR)}(hx:UL C f=some x){as:List AV}
  (h:x.run ih (bd+1) as g=.ok v g'):Wk C.P f/\Cc C bd f as g v g':=by
 unfold UL at hx
 split at hx
 ·cases hx
 rename_i fn hfn
 split at hx
 ·cases hx
 rename_i c hbody
 split at hx
 rotate_left
 ·cases hx
 rename_i r hres;rw[aa]at hx
 split at hx
 ·cases hx
 rename_i hname;cases hx;refine⟨λargs w=>?_,?_⟩
 ·unfold callFunc;have hn : fn.name ≠ "runtime.NumGoroutine" := by simpa using hname
  simp[hfn,hn,hbody]
 intro A w γ hg nx vs hr hex hwf hf hv K cs hcalm;dsimp only at h;rw[aa]at h
 split at h
 rotate_left
 ·cases h
 rename_i hle;rw[Yt,ay]at hle
 let b:Frame:={ (default:Frame) with fn:=f,kind:=K,roundOf:=none }
 let a0:Act:={ tmps:=vs.toArray++Array.replicate (fn.ntmps - vs.toArray.size) undef,defers:=[] }
 have henter:Frame.enter C.P f vs.toArray K=b.atR a0 [.code c]:=by simp[Frame.enter,Frame.atR,hfn,hbody,b,a0]
 have key:∀{e:Ex} {t1:T} {df:List Xo} {g1:G},(aR C fn.ntmps c).run ih (bd+1) none (bJ 0 as .nil) [] g=.ok e t1 df g1->(∀j,e≠.exit j)->bV ih (bd+1) r.run t1 df g1=.ok v g' ->
   ∃u w' γ' hg',Fin C A bd w γ hg nx g w' γ' hg' g'/\RV w' γ' A bd v u/\Jn C.P K f vs.toArray cs w u w':=by
  intro e t1 df g1 hc hne hend;have m1:=lq hC.WZ hi.WZ _ hc hwf;have wf1:=m1.wf hwf;unfold bV at hend
  split at hend
  ·cases hend
  rename_i g2 h2;have m2:=nK hi.WZ h2 wf1
  split at hend
  rotate_left
  ·cases hend
  rename_i xs hxs;injection hend with h1 h2';subst h2';subst h1;let⟨a1,w1,γ1,hg1,f1,tr1,dr1,ar1⟩:=Az hC hi c hc A w γ hg nx b a0 [] cs hr hex hwf (hf.le m2.nx) (Cf hv hle) trivial rfl hcalm;have hret:∃fr:Frame,Steps C.P (lone (Frame.enter C.P f vs.toArray K) cs w) (lone fr cs w1)/\fr.mode=.returning/\fr.defers=a1.defers/\fr.kind=K/\fr.fn=f/\fr.tmps=a1.tmps:=by
   rw[henter];cases e with
   |norm=>exact⟨{ b.atR a1 [] with mode:=.returning },Steps.trans ar1 (.one (stepR_end rfl)),rfl,rfl,rfl,rfl,rfl⟩
   | ret =>let⟨k₁,ar1⟩:=ar1;exact⟨{ b.atR a1 (.code .ret::k₁) with mode:=.returning },Steps.trans ar1 (.one (stepR_ret rfl)),rfl,rfl,rfl,rfl,rfl⟩
   |exit j=>exact absurd rfl (hne j)
  obtain⟨fr,st1,q1,q2,q3,q4,q5⟩:=hret;obtain⟨w2,γ2,hg2,f2,st2⟩:=Ge hi h2 wf1 (fr:=fr) (cs:=cs) f1.rel (f1.ext m1 hex) (f1.freed hr m1 hf) (by rw[q2];exact dr1) q1;have f12:=f1.trans f2 m1 m2;obtain⟨us,hus,hrv⟩:=CU hC (tr1.step f2.pk) f12.rel (f12.ext (m1.trans m2) hex) hres hxs;obtain⟨u,hu,hone⟩:=wU (γ:=γ2) (A:=A) (bd:=bd) hus;exact⟨u,w2,γ2,hg2,f12,hone hrv,{ fr with defers:=[] },Steps.trans st1 st2,q1,rfl,q3,q4,fn,hfn,by have:({ fr with defers:=[] }:Frame).tmps=a1.tmps:=q5;rw[this];exact hu⟩
 split at h
 ·cases h
 ·rename_i e t1 df g1 hne hc;exact key hc (by rintro j rfl;exact hne j rfl) h
 ·cases h
def uj(hC:Xa C):∀n,V7 C (OU C n):=by
 intro n
 induction n with
 |zero=>exact⟨CB hC.WZ 0,λbd f as g v g' h=>(by cases h),λbd nt rd c t df g e t' df' g' h=>(by cases h)⟩
 | succ n ihn =>
  refine⟨CB hC.WZ (n+1),λbd f as g v g' h=>?_,λbd nt rd c t df g e t' df' g' h=>Az hC ihn c h⟩;change eU C (OU C n) (bd+1) f as g=.ok v g' at h;unfold eU at h
  split at h
  ·rename_i x hx;exact RQ hC ihn hx h
  ·cases h
end
end
end
end Hx
section
namespace Hx
open Go Go.RowKit
def gm0:Gm:=λ_=>⟨0,0,0,0,0,0,0,false⟩
def av0:Nat->Nat->Prop:=λ_ _=>False
def Vf(b:Nat):¬Nc gm0 b:=by rintro⟨id,h,_⟩;exact h rfl
abbrev QC (w:World)(x:AV)(v:Value):Prop:=RV w gm0 av0 0 x v
abbrev Uz (w:World)(xs:List AV)(vs:List Value):Prop:=Wa w gm0 av0 0 xs vs
def FH:G.empty.h.get=λ_=>Xh.none:=by funext id;simp[G.empty,H.get,VV]
def GD{C:Xg}(hC:Xa C){n f:Nat}{as:List AV}{v:AV}{g':G}(h:(OU C n).call 1 f as G.empty=.ok v g'){w:World}{vs:List Value}(hargs:Uz w as vs)
  (hglob:∀gl sz rows,C.V_ gl=some (sz,rows)->QC w (.Xn 0 sz rows 0 0) (.pointer (some ⟨gl,0,none⟩))) :
  Calls C.P f vs.toArray w λe w'=>∃u γ' A',e=.returned u/\Below w.heap.size w w'/\RV w' γ' A' 0 v u:=by
 intro cs;have c:=uj hC n;let⟨_,a⟩:=c.call 0 f as G.empty v g' h;have hr:W4 C av0 0 w gm0 (λ_=>.none) 0 :=⟨λid=>rfl,λid h=>absurd rfl h,λi j h=>absurd rfl h,λid h=>absurd rfl h,λt b h=>h.elim,hglob⟩
 let⟨u,w',γ',hg',fin,rv,fr,st,l,q2,q3,d,fn,q5,m⟩:=a av0 w gm0 _ 0 vs hr (λid h=>by rw[FH]at h;exact absurd rfl h) (λid _=>by rw[FH]) (λ_ _ _=>rfl) hargs .normal cs (.inl rfl);refine⟨.returned u,w',fr,⟨u,γ',av0,rfl,⟨fin.pk.os,fin.pk.tape,fin.pk.output,fin.pk.sz,λk hk=>fin.pk.fr k hk (Vf k)⟩,rv⟩,st,d,l,q2,q3,fn,by rw[d];exact q5,m⟩
def Kk{C:Xg}(hC:Xa C){n f:Nat}{as:List AV}{g':G}(h:(OU C n).call 1 f as G.empty=.ok (.bool true) g'){w:World}{vs:List Value}(hargs:Uz w as vs)
  (hglob:∀gl sz rows,C.V_ gl=some (sz,rows)->QC w (.Xn 0 sz rows 0 0) (.pointer (some ⟨gl,0,none⟩))) :
  Calls C.P f vs.toArray w λe w'=>e=.returned (.bool true)/\Below w.heap.size w w' :=
 (GD hC h hargs hglob).mono λe w' ⟨u,γ',A',he,hb,rv⟩=>by cases rv;exact⟨he,hb⟩
end Hx
end
namespace Hx
open Go
noncomputable section
variable {b nt d c B n ti m:Nat}{v:AV}{g g':G}{df:List Xo}{P:Program}{t t':T}{body:SC}{Q:QT}{rd:Option Nat}{assign:Code}{tmps:Array Value}{K:AV->G->Prop}{D:Xo->Prop}
end
end Hx
section
namespace Hx
open Go Go.RowKit
def Xa.plain{P:Program}{ON:Nat->Bool}{V_:Nat->Option (Nat×List (List AV))}(hm:P.follows .mixedOrders=true)(hrf:P.follows .rangeFuncRecover=true) :
  Xa { P,ON,ext:=λ_=>none,V_ } :=
 ⟨hm,hrf,λf e h=>(by cases h),λf e h=>(by cases h),λf e h=>(by cases h)⟩
def W4.Oc{C C':Xg}(h:C'.V_=C.V_){A:Nat->Nat->Prop}{bd:Nat}{w:World}{γ:Gm}{hg:Nat->Xh}{nx:Nat}(r:W4 C A bd w γ hg nx):W4 C' A bd w γ hg nx :=⟨r.obj,r.lt,r.inj,r.av,r.ab,by rw[h];exact r.V_⟩
def Fin.Oc{C C':Xg}(h:C'.V_=C.V_){A:Nat->Nat->Prop}{bd:Nat}{w w':World}{γ γ':Gm}{hg hg':Nat->Xh}{nx:Nat}{g g':G}(f:Fin C A bd w γ hg nx g w' γ' hg' g') :
  Fin C' A bd w γ hg nx g w' γ' hg' g':=⟨f.rel.Oc h,f.pk,f.new⟩
structure T3 (C:Xg) (f:Nat) (e:Nat->List AV->G->OR):Prop where
 WZ:∀d args g,WF g->Mon g (Wh g (e d args g))
 UH:∀d args g y,e d args g≠.Xi y
 run:∀A bd w γ hg nx g as vs,W4 C A bd w γ hg nx->WF g->(∀id∈as.flatMap (aL g.h aF),g.h.get id≠.none->hg id=g.h.get id)->Wm γ g (Wh g (e (bd+1) as g)) ->
  Wa w γ A bd as vs->e (bd+1) as g≠.fail->∀cs,
  ∃u w' γ' hg',Fin C A bd w γ hg nx g w' γ' hg' (Wh g (e (bd+1) as g))/\RV w' γ' A bd (OM (e (bd+1) as g)) u /\
   ((callFunc f vs.toArray).run C.P w=.ok (.value u) w'\/(Wk C.P f/\Jn C.P .normal f vs.toArray cs w u w'))
noncomputable def Xg.add(C:Xg)(f:Nat)(e:Nat->List AV->G->OR):Xg:={ C with ext:=λk=>ax (Nat.beq k f) (some e) (C.ext k) }
def T3.Oc{C C':Xg}{f:Nat}{e:Nat->List AV->G->OR}(hp:C'.P=C.P)(hgl:C'.V_=C.V_)(h:T3 C f e):T3 C' f e:=by refine⟨h.WZ,h.UH,λA bd w γ hg nx g as vs hr hwf hx hf hv hne cs=>?_⟩;let⟨u,w',γ',hg',fin,rv,out⟩:=h.run A bd w γ hg nx g as vs (hr.Oc hgl.symm) hwf hx hf hv hne cs;exact⟨u,w',γ',hg',fin.Oc hgl,rv,by rw[hp];exact out⟩
def Xa.add{C:Xg}(h:Xa C){f:Nat}{e:Nat->List AV->G->OR}(he:T3 C f e):Xa (C.add f e):=by
 have which:∀k e',(C.add f e).ext k=some e'->(k=f/\e'=e)\/C.ext k=some e':=by
  intro k e' hk;have hk:ax (Nat.beq k f) (some e) (C.ext k)=some e':=hk;rw[aa]at hk
  split at hk
  ·rename_i hb;injection hk with hk;exact .inl ⟨ba hb,hk.symm⟩
  ·exact .inr hk
 refine⟨h.mixed,h.Vk,λk e' hk d args g hwf=>?_,λk e' hk d args g y=>?_,λk e' hk A bd w γ hg nx g as vs hr hwf hx hf hv hne cs=>?_⟩
 ·rcases which k e' hk with⟨_,rfl⟩|hk
  ·exact he.WZ d args g hwf
  ·exact h.WZ k e' hk d args g hwf
 ·rcases which k e' hk with⟨_,rfl⟩|hk
  ·exact he.UH d args g y
  ·exact h.UH k e' hk d args g y
 ·rcases which k e' hk with⟨rfl,rfl⟩|hk
  ·obtain⟨u,w',γ',hg',fin,rv,out⟩:=he.run A bd w γ hg nx g as vs (W4.Oc (C:=C.add k e') (C':=C) rfl hr) hwf hx hf hv hne cs;exact⟨u,w',γ',hg',Fin.Oc (C:=C) (C':=C.add k e') rfl fin,rv,out⟩
  ·obtain⟨u,w',γ',hg',fin,rv,out⟩:=h.ext k e' hk A bd w γ hg nx g as vs (W4.Oc (C:=C.add f e) (C':=C) rfl hr) hwf hx hf hv hne cs;exact⟨u,w',γ',hg',Fin.Oc (C:=C) (C':=C.add f e) rfl fin,rv,out⟩
noncomputable def C7(v:AV):Nat->List AV->G->OR:=λd as _ =>
 match d with
 | 1=>match as with
  |[]=>.val v
  |_=>.fail
 |_=>.fail
def Iz{ih:IH}{d:Nat}{g g0:G}{f:Nat}{v:AV}(h:aj ih d g0 f []=.val v):aj ih d g f []=.val v:=by
 unfold aj at h ⊢;simp only[aD]at h ⊢;cases hc:ih.call (Nat.succ d) f [] G.empty with
 |fail=>rw[hc]at h;cases h
 | ok r g' =>
  rw[hc]at h;dsimp only at h ⊢;cases hs:Xm g'.h 0 aF r with
  |none=>rw[hs]at h;cases h
  | some r' =>
   rw[hs]at h;dsimp only at h ⊢;cases hm:gg aF r' with
   |none=>rw[hm]at h;cases h
   | some m =>
    rw[hm]at h;dsimp only at h ⊢;cases hb:Nat.blt m d with
    |true=>rw[hb]at h;exact h
    | false =>
     rw[hb]at h
     split at h
     ·cases h
     ·split at h
      ·cases h
      ·rename_i m' k;cases hb':Nat.blt m' d with
       |true=>rw[hb']at h;cases h
       |false=>rw[hb']at h;cases h
def Nd{C:Xg}(hC:Xa C){n f:Nat}{v:AV}(h:aj (OU C n) 1 G.empty f []=.val v):T3 C f (C7 v):=by
 have sh:∀d args g,C7 v d args g=.fail\/(d=1/\args=[]/\C7 v d args g=.val v):=by
  intro d args g;unfold C7
  split
  ·split
   ·exact .inr ⟨rfl,rfl,rfl⟩
   ·exact .inl rfl
  ·exact .inl rfl
 refine⟨λd args g _=>?_,λd args g y hy=>?_,λA bd w γ hg nx g as vs hr hwf hx hf hv hne cs=>?_⟩
 ·rcases sh d args g with h|⟨_,_,h⟩<;>rw[h]<;>exact Mon.refl g
 ·rcases sh d args g with h|⟨_,_,h⟩<;>rw[h]at hy<;>cases hy
 ·rcases sh (bd+1) as g with h0|⟨h1,rfl,h0⟩
  ·exact absurd h0 hne
  ·have a:bd=0:=by omega
   subst a;have hc:=Iz (g:=g) h;rw[h0];have k:=uj hC n;obtain⟨he,u,w',γ',hg',fin,rv,out⟩:=wO (args:=[]) (f:=f) k.call k.WZ.call hr hx hv (by rw[hc];simp) cs;rw[hc]at fin rv;exact⟨u,w',γ',hg',fin,rv,.inr ⟨he,out⟩⟩
end Hx
end
namespace Hx
open Go
noncomputable section
variable {b nt d c B n ti m:Nat}{v:AV}{g g':G}{df:List Xo}{P:Program}{t t':T}{body:SC}{Q:QT}{rd:Option Nat}{assign:Code}{tmps:Array Value}{K:AV->G->Prop}{D:Xo->Prop}
section
variable {x y:Nat}
def kR(J:PT)(b:Nat)(Q:QT):QT:=λe t df g=>match e with
 |.norm=>J t df g
 |.exit x=>if x=b then J t df g else Q (.exit x) t df g
 |.ret=>Q .ret t df g
def GX(J:PT)(b:Nat)(Q:QT)(t:T)(df:List Xo)(g:G):kR J b Q .norm t df g=J t df g:=rfl
def qo(J:PT)(b x:Nat)(Q:QT)(t:T)(df:List Xo)(g:G):kR J b Q (.exit x) t df g=if x=b then J t df g else Q (.exit x) t df g:=rfl
def PY(J:PT)(b:Nat)(Q:QT)(t:T)(df:List Xo)(g:G):kR J b Q .ret t df g=Q .ret t df g:=rfl
variable {C:Xg}{d:Nat}{rd:Option Nat}
def ch:∀(s:SC) {Q Q':QT} {t:T} {df:List Xo} {g:G},wp C d rd s Q t df g->(∀e t df g,Q e t df g->Q' e t df g)->wp C d rd s Q' t df g:=by
 have j:∀(l:List SI) {Q Q':PT} {t:T} {df:List Xo} {g:G},Qz C d rd l Q t df g->(∀t df g,Q t df g->Q' t df g)->Qz C d rd l Q' t df g:=by
  intro l
  induction l with
  |nil=>intro Q Q' t df g h hq;exact hq _ _ _ h
  | cons i r ih =>
   intro Q Q' t df g h hq;have run:∀t df g,vq C d rd i (Qz C d rd r Q) t df g->vq C d rd i (Qz C d rd r Q') t df g:=λt df g h =>OR.sat_mono h (λv g' h=>ih h hq) (λa h=>ih h hq)
   have skp:∀t df g,BF i (Qz C d rd r Q) t df g->BF i (Qz C d rd r Q') t df g:=λt df g h=>ih h hq;unfold Qz at h ⊢
   split at h
   ·exact run _ _ _ h
   ·rename_i s w hg;unfold RI at h ⊢
    split at h
    ·rw[aa]at h ⊢
     split at h
     ·rename_i hw;rw[XO hw];exact⟨λq=>run _ _ _ (h.1 q),λq=>skp _ _ _ (h.2 q)⟩
     ·rename_i hw;rw[XS hw];exact⟨λq=>skp _ _ _ (h.1 q),λq=>run _ _ _ (h.2 q)⟩
    ·exact skp _ _ _ h
    ·exact h
 have m:∀(pm:List Nat) (l:List SI) {Q Q':PT} {t:T} {df:List Xo} {g:G} {fs:List W7},Q9 C d rd pm l Q t df g fs->(∀t df g,Q t df g->Q' t df g)->Q9 C d rd pm l Q' t df g fs:=by
  intro pm l
  induction l with
  |nil=>intro Q Q' t df g fs h hq;exact⟨h.1,hq _ _ _ h.2⟩
  | cons i r ih =>
   intro Q Q' t df g fs h hq;have run:∀t df g,NY C d rd i (Q9 C d rd pm r Q) fs t df g->NY C d rd i (Q9 C d rd pm r Q') fs t df g:=λt df g h =>OR.sat_mono h (λv g' h=>ih h hq) (λa h=>h)
   have skp:∀t df g,Ju i (Q9 C d rd pm r Q) fs t df g->Ju i (Q9 C d rd pm r Q') fs t df g:=λt df g h=>ih h hq;unfold Q9 at h ⊢
   split at h
   ·exact run _ _ _ h
   ·rename_i s w hg;unfold RI at h ⊢
    split at h
    ·rw[aa]at h ⊢
     split at h
     ·rename_i hw;rw[XO hw];exact⟨λq=>run _ _ _ (h.1 q),λq=>skp _ _ _ (h.2 q)⟩
     ·rename_i hw;rw[XS hw];exact⟨λq=>skp _ _ _ (h.1 q),λq=>run _ _ _ (h.2 q)⟩
    ·exact skp _ _ _ h
    ·exact h
 intro s
 induction s with
 |skip=>intro Q Q' t df g h hq;exact hq _ _ _ _ h
 |ops l=>intro Q Q' t df g h hq;exact j l h (hq _)
 |quiet l=>intro Q Q' t df g h hq;exact j l h (λt df g' h=>⟨h.1,h.2.1,hq _ _ _ _ h.2.2⟩)
 |W6 pm l=>intro Q Q' t df g h hq;exact m pm l h (hq _)
 | seq a b iha ihb =>
  intro Q Q' t df g h hq;refine iha h λe t df g h=>?_;cases e with
  |norm=>exact ihb h hq
  |exit x=>exact hq _ _ _ _ h
  |ret=>exact hq _ _ _ _ h
 | cond c a b iha ihb =>
  intro Q Q' t df g h hq;have h:wpC (c.get t) (wp C d rd a Q) (wp C d rd b Q) t df g:=h;show wpC (c.get t) (wp C d rd a Q') (wp C d rd b Q') t df g;unfold wpC at h ⊢
  split at h
  ·exact⟨λq=>iha (h.1 q) hq,λq=>ihb (h.2 q) hq⟩
  ·exact h
 | blk id b ih =>
  intro Q Q' t df g h hq;refine ih h λe t df g h=>?_;cases e with
  |norm=>exact hq _ _ _ _ h
  | exit x =>
   rw[t_]at h ⊢
   split at h
   ·rename_i e;rw[XO e];exact hq _ _ _ _ h
   ·rename_i e;rw[XS e];exact hq _ _ _ _ h
  |ret=>exact hq _ _ _ _ h
 | loop b ih =>
  intro Q Q' t df g h hq;let⟨Inv,hk,hs⟩:=h;refine⟨Inv,hk,λk t df g hi=>ih (hs k t df g hi) λe t df g h=>?_⟩;cases e with
  |norm=>exact h
  |exit x=>exact hq _ _ _ _ h
  |ret=>exact hq _ _ _ _ h
 |exit id=>intro Q Q' t df g h hq;exact hq _ _ _ _ h
 |ret=>intro Q Q' t df g h hq;exact hq _ _ _ _ h
 |SL nt f ps a b _ _=>intro Q Q' t df g h hq assign body ha hb;exact CR.sat_mono (h assign body ha hb) hq
 |raw nt c=>intro Q Q' t df g h hq;exact CR.sat_mono h hq
def aT{tn k:Nat}(hm:m<2^63)(J:Nat->PT)
  (h0:J 0 t df g) (hi:Xs t ti=.int .i64 0) (hn:Xs t tn=.int .i64 (m:Int)) (hc:c≠ti/\c≠tn/\k≠tn/\ti≠tn/\b≠B)
  (hJ:∀j t df g v s,s=c\/s=ti\/s=k->J j t df g->J j (eT t s v) df g)
  (step:∀j t df g,j<m->J j t df g->Xs t ti=.int .i64 (j:Int)->Xs t tn=.int .i64 (m:Int) ->
   wp C d rd body (kR (λt df g=>J (j+1) t df g/\Xs t ti=.int .i64 (j:Int)/\Xs t tn=.int .i64 (m:Int)) b Q) t df g)
  (fin:∀t df g,J m t df g->Q (.exit B) t df g) :
  VY (wp C d rd (.seq (.ops [o c (.bin .lss (.t ti) (.t tn))]) (.seq (.cond (.t c) .skip (.exit B)) (.seq (.blk b body) (.ops [o k (.bin .add (.t ti) (.k (.int .i64 1))),o ti (.mv (.t k))]))))) Q t df g:=by
 let⟨c1,i,l,p,q⟩:=hc;refine gi (λn t df g=>∃j:Nat,n=m - j/\j<=m/\J j t df g/\Xs t ti=.int .i64 (j:Int)/\Xs t tn=.int .i64 (m:Int)) m ⟨0,by omega,by omega,h0,hi,hn⟩ ?_;rintro n t df g ⟨j,rfl,r,a,h1,h2⟩;simp only[sx,SO.run,↓reduceIte,h1,h2];refine⟨λhq=>?_,λhq=>?_⟩
 ·have hlt:j<m:=by simpa using hq
  simp only[sx];refine ch _ (step j _ df g hlt (hJ _ _ _ _ _ _ (.inl rfl) a) (by simp only[cw];rw[XS (Y5 c1),h1]) (by simp only[cw];rw[XS (Y5 i),h2])) λe t df g h=>?_;have key:J (j+1) t df g/\Xs t ti=.int .i64 (j:Int)/\Xs t tn=.int .i64 (m:Int)->wp C d rd (.ops [o k (.bin .add (.t ti) (.k (.int .i64 1))),o ti (.mv (.t k))])
    (kL (λn t df g=>∃j:Nat,n=m - j/\j<=m/\J j t df g/\Xs t ti=.int .i64 (j:Int)/\Xs t tn=.int .i64 (m:Int)) (m - j) Q) t df g:=by
   rintro⟨a1,a2,f⟩;simp only[sx,SO.run,a2,↓reduceIte];refine⟨_,?_,j+1,rfl,by omega,hJ _ _ _ _ _ _ (.inr (.inl rfl)) (hJ _ _ _ _ _ _ (.inr (.inr rfl)) a1),?_,?_⟩
   ·omega
   ·rw[an];rfl
   ·rw[XS (Y5 p),XS (Y5 l),f]
  cases e with
  |norm=>exact key h
  |ret=>exact h
  | exit x =>
   rw[qo]at h;rw[t_]
   split at h
   ·rename_i e;rw[XO e];exact key h
   ·rename_i e;rw[XS e];exact h
 ·have:j=m:=by simp at hq;omega
  subst this;simp only[sx];exact fin _ _ _ (hJ _ _ _ _ _ _ (.inl rfl) a)
def HA{Hd inc:SC}(J:Nat->PT)(h0:J 0 t df g)
  (hd:∀j t df g,j<=m->J j t df g->wp C d rd Hd (λe t df g=>e=.norm/\Xs t c=.bool (decide (j<m))/\J j t df g) t df g)
  (step:∀j t df g,j<m->J j t df g->wp C d rd body (kR (λt df g=>wp C d rd inc (λe t df g=>e=.norm/\J (j+1) t df g) t df g) b Q) t df g)
  (fin:∀t df g,J m t df g->Q (.exit B) t df g) :
  VY (wp C d rd (.seq (.seq Hd (.cond (.t c) .skip (.exit B))) (.seq (.blk b body) inc))) Q t df g:=by
 refine gi (λn t df g=>∃j:Nat,n=m - j/\j<=m/\J j t df g) m ⟨0,by omega,by omega,h0⟩ ?_;rintro n t df g ⟨j,rfl,a,k⟩;simp only[cX];refine ch _ (hd j t df g a k) ?_;rintro e t df g ⟨rfl,hq,k⟩;simp only[sx,hq];refine⟨λhq=>?_,λhq=>?_⟩
 ·have hlt:j<m:=by simpa using hq
  simp only[sx];refine ch _ (step j t df g hlt k) λe t df g h=>?_;have key:wp C d rd inc (λe t df g=>e=.norm/\J (j+1) t df g) t df g->wp C d rd inc (kL (λn t df g=>∃j:Nat,n=m - j/\j<=m/\J j t df g) (m - j) Q) t df g:=by intro h;refine ch _ h ?_;rintro e t df g ⟨rfl,h⟩;exact⟨_,by omega,j+1,rfl,by omega,h⟩
  cases e with
  |norm=>exact key h
  |ret=>exact h
  | exit x =>
   rw[qo]at h;rw[t_]
   split at h
   ·rename_i e;rw[XO e];exact key h
   ·rename_i e;rw[XS e];exact h
 ·have:j=m:=by simp at hq;omega
  subst this;simp only[sx];exact fin _ _ _ k
def qB{a b' e sl:Nat}(hm:m<2^63)(hlen:∀g,bC .slice v g=.val (.int .i64 (m:Int)))(J:Nat->PT)
  (h0:J 0 t df g) (hi:Xs t ti=.int .i64 0) (hs:Xs t sl=v)
  (hc:(a≠ti/\b'≠ti/\e≠ti/\c≠ti)/\(a≠sl/\b'≠sl/\e≠sl/\c≠sl/\x≠sl/\y≠sl/\ti≠sl)/\a≠b'/\a≠e/\x≠y)
  (hJ:∀j t df g v s,s=a\/s=b'\/s=e\/s=c\/s=ti\/s=x\/s=y->J j t df g->J j (eT t s v) df g)
  (step:∀j t df g,j<m->J j t df g->Xs t ti=.int .i64 (j:Int)->Xs t sl=v ->
   wp C d rd body (kR (λt df g=>J (j+1) t df g/\Xs t ti=.int .i64 (j:Int)/\Xs t sl=v) b Q) t df g)
  (fin:∀t df g,J m t df g->Xs t sl=v->Q (.exit B) t df g) :
  VY (wp C d rd (.seq (.seq (.ops [o a (.mv (.t ti)),o b' (.mv (.t sl)),o e (.len .slice (.t b')),o c (.bin .lss (.t a) (.t e))]) (.cond (.t c) .skip (.exit B))) (.seq (.blk b body)
   (.ops [o x (.mv (.t ti)),o y (.bin .add (.t x) (.k (.int .i64 1))),o ti (.mv (.t y))])))) Q t df g:=by
 let⟨⟨n,q2,q3,p⟩,⟨q,r,u,w,r5,z,A⟩,i,l,D⟩:=hc;refine HA (λj t df g=>J j t df g/\Xs t ti=.int .i64 (j:Int)/\Xs t sl=v) ⟨h0,hi,hs⟩ ?_ ?_ (λt df g h=>fin t df g h.1 h.2.2)
 ·rintro j t df g f ⟨h1,h2,h3⟩;simp only[sx,SO.run,h2,h3,hlen,i,l,Y5 q,↓reduceIte,Y5 n,Y5 q2,Y5 q3,Y5 p,Y5 r,Y5 u,Y5 w,true_and,and_true];refine⟨by congr 1;simp,hJ _ _ _ _ _ _ (.inr (.inr (.inr (.inl rfl)))) (hJ _ _ _ _ _ _ (.inr (.inr (.inl rfl))) (hJ _ _ _ _ _ _ (.inr (.inl rfl)) (hJ _ _ _ _ _ _ (.inl rfl) h1)))⟩
 ·rintro j t df g f ⟨h1,h2,h3⟩;refine ch _ (step j t df g f h1 h2 h3) λe t df g h=>?_;have key:J (j+1) t df g/\Xs t ti=.int .i64 (j:Int)/\Xs t sl=v->wp C d rd (.ops [o x (.mv (.t ti)),o y (.bin .add (.t x) (.k (.int .i64 1))),o ti (.mv (.t y))])
    (λe t df g=>e=.norm/\J (j+1) t df g/\Xs t ti=.int .i64 ((j+1:Nat):Int)/\Xs t sl=v) t df g:=by
   rintro⟨h1,h2,h3⟩;simp only[sx,SO.run,h2,↓reduceIte,Y5 r5,Y5 z,Y5 A,h3,true_and,and_true];refine⟨hJ _ _ _ _ _ _ (.inr (.inr (.inr (.inr (.inl rfl))))) (hJ _ _ _ _ _ _ (.inr (.inr (.inr (.inr (.inr (.inr rfl)))))) (hJ _ _ _ _ _ _ (.inr (.inr (.inr (.inr (.inr (.inl rfl)))))) h1)),?_⟩;rw[an];rfl
  cases e with
  |norm=>exact key h
  |ret=>exact h
  | exit x =>
   rw[qo]at h ⊢
   split at h
   ·rename_i e;rw[XO e];exact key h
   ·rename_i e;rw[XS e];exact h
def tj{a:Nat}(hm:m<2^63)(J:Nat->PT)
  (h0:J m t df g) (hi:Xs t ti=.int .i64 ((m:Int) - 1)) (hc:a≠ti/\c≠ti/\x≠ti)
  (hJ:∀j t df g v s,s=a\/s=c\/s=ti\/s=x\/s=y->J j t df g->J j (eT t s v) df g)
  (step:∀j t df g,j<m->J (j+1) t df g->Xs t ti=.int .i64 (j:Int)->wp C d rd body (kR (λt df g=>J j t df g/\Xs t ti=.int .i64 (j:Int)) b Q) t df g)
  (fin:∀t df g,J 0 t df g->Q (.exit B) t df g) :
  VY (wp C d rd (.seq (.seq (.ops [o a (.mv (.t ti)),o c (.bin .geq (.t a) (.k (.int .i64 0)))]) (.cond (.t c) .skip (.exit B))) (.seq (.blk b body)
   (.ops [o x (.mv (.t ti)),o y (.bin .sub (.t x) (.k (.int .i64 1))),o ti (.mv (.t y))])))) Q t df g:=by
 let⟨c1,i,l⟩:=hc;refine gi (λn t df g=>n<=m/\J n t df g/\Xs t ti=.int .i64 ((n:Int) - 1)) m ⟨XH _,h0,hi⟩ ?_;rintro n t df g ⟨p,f,h1⟩;simp only[sx,SO.run,↓reduceIte,h1];refine⟨λhq=>?_,λhq=>?_⟩
 ·obtain⟨j,rfl⟩:∃j,n=j+1:=⟨n - 1,by simp at hq;omega⟩;simp only[sx];refine ch _ (step j _ df g (by omega) (hJ _ _ _ _ _ _ (.inr (.inl rfl)) (hJ _ _ _ _ _ _ (.inl rfl) f)) (by simp only[cw];rw[XS (Y5 i),XS (Y5 c1),h1];congr 1;omega)) λe t df g h=>?_;have key:J j t df g/\Xs t ti=.int .i64 (j:Int)->wp C d rd (.ops [o x (.mv (.t ti)),o y (.bin .sub (.t x) (.k (.int .i64 1))),o ti (.mv (.t y))])
    (kL (λn t df g=>n<=m/\J n t df g/\Xs t ti=.int .i64 ((n:Int) - 1)) (j+1) Q) t df g:=by
   rintro⟨a1,a2⟩;simp only[sx,SO.run,a2,↓reduceIte];refine⟨j,by omega,by omega,hJ _ _ _ _ _ _ (.inr (.inr (.inl rfl))) (hJ _ _ _ _ _ _ (.inr (.inr (.inr (.inr rfl)))) (hJ _ _ _ _ _ _ (.inr (.inr (.inr (.inl rfl)))) a1)),?_⟩;rw[an]
  cases e with
  |norm=>exact key h
  |ret=>exact h
  | exit x =>
   rw[qo]at h;rw[t_]
   split at h
   ·rename_i e;rw[XO e];exact key h
   ·rename_i e;rw[XS e];exact h
 ·have:n=0:=by simp at hq;omega
  subst this;simp only[sx];exact fin _ _ _ (hJ _ _ _ _ _ _ (.inr (.inl rfl)) (hJ _ _ _ _ _ _ (.inl rfl) f))
def aU{Hd:List SI}(m:Nat)(hm:m<2^63)(J:Nat->PT)
  (h0:J 0 t df g) (hi:Xs t ti=.int .i64 0) (hx:x≠ti)
  (hJ:∀j t df g v s,s=ti\/s=x\/s=y->J j t df g->J j (eT t s v) df g)
  (hd:∀j t df g,j<=m->J j t df g->Xs t ti=.int .i64 (j:Int)->Qz C d rd Hd (λt df g=>Xs t c=.bool (decide ((j:Int)<(m:Int)))/\J j t df g/\Xs t ti=.int .i64 (j:Int)) t df g)
  (step:∀j t df g,j<m->J j t df g->Xs t ti=.int .i64 (j:Int)->wp C d rd body (kR (λt df g=>J (j+1) t df g/\Xs t ti=.int .i64 (j:Int)) b Q) t df g)
  (fin:∀t df g,J m t df g->Q (.exit B) t df g) :
  VY (wp C d rd (.seq (.seq (.ops Hd) (.cond (.t c) .skip (.exit B))) (.seq (.blk b body)
   (.ops [o x (.mv (.t ti)),o y (.bin .add (.t x) (.k (.int .i64 1))),o ti (.mv (.t y))])))) Q t df g:=by
 refine HA (λj t df g=>J j t df g/\Xs t ti=.int .i64 (j:Int)) ⟨h0,hi⟩ ?_ ?_ (λt df g h=>fin t df g h.1)
 ·rintro j t df g a ⟨h1,h2⟩;have:=hd j t df g a h1 h2;refine ch (.ops Hd) (Q:=λe t df g=>e=.norm/\Xs t c=.bool (decide ((j:Int)<(m:Int)))/\J j t df g/\Xs t ti=.int .i64 (j:Int)) (by rw[HE];simpa using this) ?_;rintro e t df g ⟨rfl,a1,a2,f⟩;refine⟨rfl,?_,a2,f⟩;rw[a1];congr 1;simp
 ·rintro j t df g a ⟨h1,h2⟩;refine ch _ (step j t df g a h1 h2) λe t df g h=>?_;have key:J (j+1) t df g/\Xs t ti=.int .i64 (j:Int)->wp C d rd (.ops [o x (.mv (.t ti)),o y (.bin .add (.t x) (.k (.int .i64 1))),o ti (.mv (.t y))])
    (λe t df g=>e=.norm/\J (j+1) t df g/\Xs t ti=.int .i64 ((j+1:Nat):Int)) t df g:=by
   rintro⟨h1,h2⟩;simp only[sx,SO.run,h2,↓reduceIte,true_and];refine⟨hJ _ _ _ _ _ _ (.inl rfl) (hJ _ _ _ _ _ _ (.inr (.inr rfl)) (hJ _ _ _ _ _ _ (.inr (.inl rfl)) h1)),?_⟩;rw[an];rfl
  cases e with
  |norm=>exact key h
  |ret=>exact h
  | exit x =>
   rw[qo]at h ⊢
   split at h
   ·rename_i e;rw[XO e];exact key h
   ·rename_i e;rw[XS e];exact h
end
section
variable {i off:Nat}
def W5:AV->Option Nat
 |.Xj id _ _ _ _=>some id
 |_=>none
def Own(g:G)(b:Nat)(v:AV)(sz:Nat)(rows:List (List AV)):Prop :=(v=.XC/\rows=[])\/∃id ep lo,b<=id/\id<g.nx/\v=.Xj id ep 0 rows.length none/\g.h.get id=.cells sz rows ep lo false
def Own.rows{g:G}{b:Nat}{v:AV}{sz:Nat}{rows:List (List AV)}(h:Own g b v sz rows):ak g.h sz v=some rows:=by
 rcases h with⟨rfl,rfl⟩|⟨id,ep,lo,h1,h2,rfl,h3⟩
 ·rfl
 ·rw[bi,h3,Bt]
def Own.fr{g:G}{sz:Nat}{rows:List (List AV)}(h:Own g b v sz rows)(hn:g.nx<=g'.nx)(hf:∀i,W5 v=some i->g'.h.get i=g.h.get i):Own g' b v sz rows:=by
 rcases h with h|⟨id,ep,lo,h1,h2,rfl,h3⟩
 ·exact .inl h
 ·exact .inr ⟨id,ep,lo,h1,by omega,rfl,by rw[hf id rfl,h3]⟩
def Own.lt{g:G}{sz:Nat}{rows:List (List AV)}(h:Own g b v sz rows)(hi:W5 v=some i):b<=i/\i<g.nx:=by
 rcases h with⟨rfl,-⟩|⟨id,ep,lo,h1,h2,rfl,h3⟩
 ·cases hi
 ·cases hi;exact⟨h1,h2⟩
def Own.cell{g:G}{sz:Nat}{rows:List (List AV)}(h:Own g b v sz rows):v.cells=[v]/\v.isTup=false:=by rcases h with⟨rfl,-⟩|⟨id,ep,lo,h1,h2,rfl,h3⟩<;>exact⟨rfl,rfl⟩
def aM{g:G}{x:AV}{sz bytes:Nat}{rows new:List (List AV)}(hv:Own g b v sz rows)(hx:ak g.h sz x=some new)(hb:b<=g.nx)
  (hr:(rows.length+new.length)*bytes<=aH)
  (k:∀v' g',Own g' b v' sz (rows++new)->g.nx<=g'.nx->(∀i,i<g.nx->W5 v≠some i->g'.h.get i=g.h.get i)->(W5 v'=W5 v\/∃i,W5 v'=some i/\g.nx<=i)->(∀i∈g'.lg,i∈g.lg\/b<=i)->K v' g') :
  (cZ sz bytes v x g).sat K g D:=by
 unfold cZ;rw[hx];dsimp only;rcases hv with⟨rfl,rfl⟩|⟨id,ep,lo,h1,h2,rfl,h3⟩
 ·cases new with
  |nil=>exact k _ _ (.inl ⟨rfl,rfl⟩) (XH _) (λ_ _ _=>rfl) (.inl rfl) (λi hi=>.inl hi)
  | cons r new =>simp only[bB,ay,aa,Yt];rw[XO (by simpa using hr)];refine k _ _ (.inr ⟨g.nx,0,true,hb,by simp,rfl,by simp[aY]⟩) (by simp) (λi hi _=>?_) (.inr ⟨g.nx,rfl,XH _⟩) (λi hi=>by simp at hi;rcases hi with rfl|hi;exact .inr hb;exact .inl hi);rw[G.new_h,aq]
 ·simp only[bB,G.get_eq,h3,ay,aa,show Nat.beq ep ep=true from Yl ep,show Nat.beq sz sz=true from Yl sz,YO,Yt,XM,YT,YU,Zo];rw[XO ⟨XH _,hr⟩];cases new with
  | nil =>rw[XO (by simp)];refine k _ _ (.inr ⟨id,ep,lo,h1,h2,by simp,by simpa using h3⟩) (XH _) (λ_ _ _=>rfl) (.inl rfl) (λi hi=>.inl hi)
  | cons r new =>
   rw[XS (by simp)];have ht:h_ rows.length (gG 0 rows)=rows:=by rw[bI,bK];simp
   cases lo with
   | false =>rw[XO (by simp)];refine k _ _ (.inr ⟨g.nx,0,true,by omega,by simp,by simp,by simp[aY,ht]⟩) (by simp) (λi hi _=>?_) (.inr ⟨g.nx,rfl,XH _⟩) (λi hi=>by simp at hi;rcases hi with rfl|hi;exact .inr hb;exact .inl hi);rw[G.new_h,aq]
   | true =>rw[XS (by simp)];refine k _ _ (.inr ⟨id,ep+1,true,h1,by simpa using h2,by simp,by simp[aY,ht]⟩) (by simp) (λi hi hne=>?_) (.inl rfl) (λi hi=>by simp at hi;rcases hi with rfl|hi;exact .inr h1;exact .inl hi);rw[G.put_h,aq (λe=>hne (by rw[e];rfl))]
def Fr(g g':G):Prop:=g.nx<=g'.nx/\∀i,i<g.nx->g'.h.get i=g.h.get i
def Fr.refl(g:G):Fr g g:=⟨XH _,λ_ _=>rfl⟩
def Fr.trans{g g'':G}(h:Fr g g')(h':Fr g' g''):Fr g g'':=⟨Ya h.1 h'.1,λi hi=>by rw[h'.2 i (XX hi h.1),h.2 i hi]⟩
def Fr.new(g:G)(o:Xh):Fr g (g.new o):=⟨by simp,λi hi=>by rw[G.new_h,aq]⟩
def Own.step{g:G}{sz:Nat}{rows:List (List AV)}(h:Own g b v sz rows)(f:Fr g g'):Own g' b v sz rows :=h.fr f.1 λi hi=>f.2 i (h.lt hi).2
def bF{g:G}{sz:Nat}{rows:List (List AV)}{row row':List AV}{x:AV}(hv:Own g b v sz rows)(hr:rows[i]?=some row)
  (hl:x.cells.length=n) (ht:x.isTup=false) (hp:cN row off x.cells=some row')
  (k:∀g',Own g' b v sz (rows.set i row')->g'.nx=g.nx->(∀i,W5 v≠some i->g'.h.get i=g.h.get i)->K .undef g'):(pA n (jK sz v i off) x g).sat K g D:=by
 rcases hv with⟨rfl,rfl⟩|⟨id,ep,lo,h1,h2,rfl,h3⟩
 ·simp at hr
 ·simp only[jK,YT];rw[ED h3 hr rfl ht hl hp];refine k _ (.inr ⟨id,ep,lo,h1,by simpa using h2,by simp,by simp[aY]⟩) (by simp) (λi hne=>?_);rw[G.put_h,aq (λe=>hne (by rw[e];rfl))]
def l_{g:G}{sz bytes:Nat}{zero:List AV}{k1 k2:IntKind}(hn:n<=aH)(hb:n*bytes<=aH)(hg:b<=g.nx)
  (k:∀v' g',Own g' b v' sz (List.replicate n zero)->g'.nx=g.nx+1->(∀i,i<g.nx->g'.h.get i=g.h.get i)->W5 v'=some g.nx->K v' g') :
  (DX sz bytes zero (.int k1 (n:Int)) (.int k2 (n:Int)) g).sat K g D:=by
 show (match cd aH (.int k2 (.ofNat n)) with
  | some cn=>match cd cn (.int k1 (.ofNat n)) with
   |some ln=>ax (Nat.ble (cn*bytes) aH) (OR.upd (.Xj g.nx 0 0 ln none) (g.new (Xy sz (gz cn zero)))) .fail
   |none=>.fail
  |none=>.fail).sat K g D
 simp only[cd,aa,Yt,XO hn,XH,XO hb,if_true];refine k _ _ (.inr ⟨g.nx,0,false,hg,by simp,by simp,by simp[aY,gz]⟩) (by simp) (λi hi=>?_) rfl;rw[G.new_h,aq]
def Own.sl{α:Type} [Rp α]{g:G}{rows:List (List AV)}{l:List α}{P:Nat->Prop}{k:Nat}(h:Own g b v (Rp.sz α) rows)(hl:l.length<2^63)(hr:Xl (Rp.rp P k g.h) l rows)
  (hp:∀i,W5 v=some i->P i):Xu P k g.h l v:=by
 refine⟨hl,?_⟩;have a:=h.rows;rcases h with⟨rfl,rfl⟩|⟨id,ep,lo,h1,h2,rfl,h3⟩
 ·exact YK hr.len
 ·exact⟨hp id rfl,rows,a,hr⟩
def Own.ints{g:G}{l:List Int}{k:Nat}(h:Own g b v 1 (l.map ci))(hl:l.length<2^63):One l (λ_=>True) k g.h v :=⟨v,rfl,Own.sl h hl (VJ (λa=>aK.2 rfl) l) λ_ _=>trivial⟩
def aG{x:OR}{Q:AV->Prop}{g:G}(h:∃r,x=.val r/\Q r)(k:∀r,Q r->K r g):x.sat K g D:=by obtain⟨r,rfl,hr⟩:=h;exact k r hr
section W6
variable {C:Xg}{d:Nat}{rd:Option Nat}{pm:List Nat}
def ML(Q:PT)(t:T)(df:List Xo)(g:G)(fs:List W7):Q9 C d rd pm [] Q t df g fs=(t9 pm fs.reverse=true/\Q t df g):=rfl
def TU(n:Nat)(op:SO)(r:List SI)(Q:PT)(t:T)(df:List Xo)(g:G)(fs:List W7):Q9 C d rd pm (o n op::r) Q t df g fs =
  (op.run C d rd t (aQ g [])).sat (kF (Q9 C d rd pm r Q) (some n) t df g.lg fs (op.foot C t g)) (aQ g []) (λ_=>False):=rfl
def Ro(op:SO)(r:List SI)(Q:PT)(t:T)(df:List Xo)(g:G)(fs:List W7):Q9 C d rd pm (oz op::r) Q t df g fs =
  (op.run C d rd t (aQ g [])).sat (kF (Q9 C d rd pm r Q) none t df g.lg fs (op.foot C t g)) (aQ g []) (λ_=>False):=rfl
def Rn(n s:Nat)(w:Bool)(op:SO)(r:List SI)(Q:PT)(t:T)(df:List Xo)(g:G)(fs:List W7) :
  Q9 C d rd pm (og n s w op::r) Q t df g fs=RI (Xs t s) w (NY C d rd (o n op) (Q9 C d rd pm r Q) fs) (Ju (o n op) (Q9 C d rd pm r Q) fs) t df g:=rfl
def QZ(n:Nat)(op:SO)(W:FT)(fs:List W7)(t:T)(df:List Xo)(g:G):NY C d rd (o n op) W fs t df g =
  (op.run C d rd t (aQ g [])).sat (kF W (some n) t df g.lg fs (op.foot C t g)) (aQ g []) (λ_=>False):=rfl
def MA(n:Nat)(op:SO)(W:FT)(fs:List W7)(t:T)(df:List Xo)(g:G):Ju (o n op) W fs t df g=W (eT t n .undef) df g (⟨aC,[]⟩::fs):=rfl
def LT(W:FT)(n:Nat)(t:T)(df:List Xo)(lg:List Nat)(fs:List W7)(lk:Looks)(v:AV)(g:G):kF W (some n) t df lg fs lk v g=W (eT t n v) df (mg g (g.lg++lg)) (⟨lk,g.lg⟩::fs):=rfl
def LR(W:FT)(t:T)(df:List Xo)(lg:List Nat)(fs:List W7)(lk:Looks)(v:AV)(g:G):kF W none t df lg fs lk v g=W t df (mg g (g.lg++lg)) (⟨lk,g.lg⟩::fs):=rfl
def jI{sz:Nat}(h:px v=true):aw (jK sz v i off)=aw v:=by cases v<;>first|rfl|cases h
def ge(id ep i off:Nat):aw (.W9 id ep i off)=[id]:=rfl
def El(id ep off len:Nat)(lim:Option Nat):aw (.Xj id ep off len lim)=[id]:=rfl
end W6
section looks
variable {C:Xg}{t:T}{g:G}
def Tz(x:Od):SO.foot C t g (.mv x)=aC:=rfl
def LK(c a b:Od):SO.foot C t g (.pick c a b)=aC:=rfl
def Il(cs:List AV):SO.foot C t g (.alloc cs)=aC:=rfl
def Pp(x:Od):SO.foot C t g (.box x)=aC:=rfl
def Im(z:List AV)(pl:List (Nat×Nat))(vs:List Od):SO.foot C t g (.build z pl vs)=aC:=rfl
def Pq(sz len:Nat)(z:List AV)(is:List Nat)(vs:List Od):SO.foot C t g (.NF sz len z is vs)=aC:=rfl
def LI(ag:Bool)(n:Nat)(a:Od):SO.foot C t g (.load ag n a)=am (aw (a.get t)):=rfl
def In(n:Nat)(a x:Od):SO.foot C t g (.store n a x)=am (aw (a.get t)):=rfl
def LJ(x:Od):SO.foot C t g (.Te x)=aC:=rfl
def Po(op:BinOp)(x y:Od):SO.foot C t g (.bin op x y)=aC:=rfl
def Tw(ng:Bool)(ek:Uu)(x y:Od):SO.foot C t g (.eq ng ek x y)=aC:=rfl
def PA(x:Od):SO.foot C t g (.not x)=aC:=rfl
def LH(k:IntKind)(x:Od):SO.foot C t g (.conv k x)=aC:=rfl
def Py(f:Nat)(a c:List Od):SO.foot C t g (.HN f a c)=aC:=rfl
def Pz(sz bt:Nat)(z:List AV)(l c:Od):SO.foot C t g (.VF sz bt z l c)=aC:=rfl
def PB(sz:Nat)(x:Od)(lo hi:List Od):SO.foot C t g (.OK sz x lo hi)=am (aw (x.get t)):=rfl
def Pt(fo:Nat)(x:Od):SO.foot C t g (.fad fo x)=aC:=rfl
def Pu(ag:Bool)(n fo:Nat)(x:Od):SO.foot C t g (.fld ag n fo x)=aC:=rfl
def Pw(sz:Nat)(x i:Od):SO.foot C t g (.NQ sz x i)=am (aw (x.get t)):=rfl
def Pv(n sz:Nat)(x i:Od):SO.foot C t g (.Ka n sz x i)=aC:=rfl
def Tx(ag:Bool)(n sz:Nat)(x i:Od):SO.foot C t g (.ix ag n sz x i)=aC:=rfl
def Ps(x:Od)(i:Nat):SO.foot C t g (.ext x i)=aC:=rfl
def Px(x:Od):SO.foot C t g (.len .slice x)=aC:=rfl
def Pn(sz bt:Nat)(x y:Od):SO.foot C t g (.app sz bt x y)=am (aw (x.get t)++aw (y.get t)):=rfl
def Pr(sz:Nat)(x y:Od):SO.foot C t g (.cpy sz x y)=am (aw (x.get t)++aw (y.get t)):=rfl
def TA(x y:Od):SO.foot C t g (.mx x y)=am (aw (x.get t)++aw (y.get t)):=rfl
def Ty(x y:Od):SO.foot C t g (.mn x y)=am (aw (x.get t)++aw (y.get t)):=rfl
end looks
theorem sf:type_of% (XG @Tz <|XG @LK <|XG @Il <|XG @Pp <|XG @Im <|XG @Pq <|XG @LI <|XG @In <|XG @LJ <|XG @Po <|XG @Tw <|XG @PA <|XG @LH <|XG @Py <|XG @Pz <|XG @PB <|XG @Pt <|XG @Pu <|XG @Pw <|XG @Pv <|XG @Tx <|XG @Ps <|XG @Px <|XG @Pn <|XG @Pr <|XG @TA <|@Ty) :=XG @Tz <|XG @LK <|XG @Il <|XG @Pp <|XG @Im <|XG @Pq <|XG @LI <|XG @In <|XG @LJ <|XG @Po <|XG @Tw <|XG @PA <|XG @LH <|XG @Py <|XG @Pz <|XG @PB <|XG @Pt <|XG @Pu <|XG @Pw <|XG @Pv <|XG @Tx <|XG @Ps <|XG @Px <|XG @Pn <|XG @Pr <|XG @TA <|@Ty
def Fy(k:IntKind)(x:Int):(AV.int k x).cells=[.int k x]:=rfl
def C3(x:Bool):(AV.bool x).cells=[.bool x]:=rfl
def Fw(cs:List AV):(AV.agg cs).cells=cs:=rfl
def C4:AV.XC.cells=[.XC]:=rfl
def FS(k:IntKind)(x:Int):(AV.int k x).isTup=false:=rfl
def DI(x:Bool):(AV.bool x).isTup=false:=rfl
def FP(cs:List AV):(AV.agg cs).isTup=false:=rfl
def DM:AV.XC.isTup=false:=rfl
def Fx(id ep off len:Nat)(lim:Option Nat):(AV.Xj id ep off len lim).cells=[.Xj id ep off len lim]:=rfl
def FQ(id ep off len:Nat)(lim:Option Nat):(AV.Xj id ep off len lim).isTup=false:=rfl
def Fz(t s:Nat)(rows:List (List AV)):(AV.WO t s rows).cells=[.WO t s rows]:=rfl
def FU(t s:Nat)(rows:List (List AV)):(AV.WO t s rows).isTup=false:=rfl
def JZ(x:AV)(g:G)(h:x.isTup=false):Gy x g=.upd (.W9 g.nx 0 0 0) (g.new (Xy x.cells.length [x.cells])):=by simp only[Gy,h,ay]
def Lu(sz:Nat)(zero:List AV)(g:G):M4 sz 0 zero [] [] g=.upd (.Xj g.nx 0 0 0 none) (g.new (Xy sz [])):=rfl
def nB(sz:Nat)(zero:List AV)(v:AV)(g:G)(hl:v.cells.length=sz)(ht:v.isTup=false) :
  M4 sz 1 zero [0] [v] g=.upd (.Xj g.nx 0 0 1 none) (g.new (Xy sz [v.cells])):=by
 subst hl;have:Nat.beq (bD v.cells) v.cells.length=true:=by rw[ay];exact Yl _
 have h2:cY v.cells.length [zero] [(0,v)]=some [v.cells]:=by simp only[cY,ht,aa,ay,kK,WU];rw[show Nat.beq v.cells.length v.cells.length=true from Yl _];rfl
 show (match cY v.cells.length [zero] [(0,v)] with|some rows=>OR.upd (.Xj g.nx 0 0 1 none) (g.new (Xy v.cells.length rows))|none=>.fail)=_;rw[h2]
def gc(row:List AV)(off:Nat)(cs:List AV):cN row off cs=if off+cs.length<=row.length then some (row.take off++(cs++row.drop (off+cs.length))) else none:=by
 simp only[cN,ay,aa,Yt,kK,bI,bK]
 split
 ·rename_i h
  split
  ·rename_i c;simp only[Zj]at h;rw[aaO,dk];rfl
  ·rfl
 ·rfl
def Ts(a:AV)(l:List AV):Pf (.WM (a::l)) 0=.val a:=rfl
def Tt(a b:AV)(l:List AV):Pf (.WM (a::b::l)) 1=.val b:=rfl
def Tu(a b c:AV)(l:List AV):Pf (.WM (a::b::c::l)) 2=.val c:=rfl
def Pj(ag:Bool)(n fo:Nat)(cs:List AV):Ui ag n fo (.agg cs)=VW (cD ag n cs fo):=rfl
def F4{row:List AV}:cD true (n+1) row off=if off+(n+1)<=row.length then some (.agg ((row.drop off).take (n+1))) else none:=by
 split
 ·rename_i h;exact Qu h
 ·rename_i h;simp only[cD,bI,bK,ay,X5,ZD,aa];rw[XS];intro e;have:=YJ e;omega
def HP(zero:List AV)(pl:List (Nat×Nat))(vs:List AV):Gz zero pl vs=match d_ zero (pl.zip vs) with|some cs=>.val (.agg cs)|none=>.fail:=rfl
def FK(cs:List AV):d_ cs []=some cs:=rfl
def Dt(cs:List AV)(off size:Nat)(v:AV)(rest:List ((Nat×Nat)×AV))(hl:v.cells.length=size)(ht:v.isTup=false) :
  d_ cs (((off,size),v)::rest)=match cN cs off v.cells with|some cs=>d_ cs rest|none=>none:=by
 subst hl;have:Nat.beq (bD v.cells) v.cells.length=true:=by rw[ay];exact Yl _
 simp only[d_,this,ht,WU,ZK,VT]
 rfl
def QK(ag:Bool)(n a:Nat)(r:List SR)(t:T)(g:G)(K:List AV->Prop):vp (.cell ag n a::r) t g K=match uW ag n (Xs t a) g with|.val v=>vp r t g λvs=>K (v::vs)|_=>False:=rfl
def zZ(a b:AV)(l:List AV):fg (a::b::l)=.WM (a::b::l):=rfl
theorem sy:type_of% (XG @HP <|XG @FK <|XG @Dt <|XG @QK <|XG @aab.{0,0} <|XG @abW.{0,0} <|XG @ML <|XG @TU <|XG @Ro <|XG @Rn <|XG @QZ <|XG @MA <|XG @LT <|XG @LR <|XG @WS <|XG @Ue <|XG @Og <|XG @true_and <|XG @and_true <|XG @GX <|XG @qo <|XG @PY <|XG @Ws <|XG @Wo <|XG @Vb <|XG @TG <|XG @Fy <|XG @C3 <|XG @Fw <|XG @C4 <|XG @FS <|XG @DI <|XG @FP <|XG @DM <|
 XG @Fx <|XG @FQ <|XG @Fz <|XG @FU <|XG @JZ <|XG @Lu <|XG @nB <|XG @gc <|XG @Ts <|XG @Tt <|XG @Tu <|
 XG @Pj <|XG @F4 <|XG @zZ <|XG @dL <|XG @ay <|XG @Yp.{0} <|XG @Z2.{0} <|XG @Z4.{0} <|
 XG @aaR.{0} <|XG @aak.{0} <|XG @Zc.{0} <|XG @XY.{0} <|XG @X3.{0} <|XG @X6.{0} <|XG @Zt.{0} <|XG @aaa.{0} <|
 XG @YT <|XG @VO <|XG @bi <|XG @ck <|XG @BB <|@uh) :=
 XG @HP <|XG @FK <|XG @Dt <|XG @QK <|XG @aab.{0,0} <|XG @abW.{0,0} <|XG @ML <|XG @TU <|XG @Ro <|XG @Rn <|XG @QZ <|XG @MA <|XG @LT <|XG @LR <|XG @WS <|XG @Ue <|XG @Og <|XG @true_and <|XG @and_true <|XG @GX <|XG @qo <|XG @PY <|XG @Ws <|XG @Wo <|XG @Vb <|XG @TG <|XG @Fy <|XG @C3 <|XG @Fw <|XG @C4 <|XG @FS <|XG @DI <|XG @FP <|XG @DM <|
 XG @Fx <|XG @FQ <|XG @Fz <|XG @FU <|XG @JZ <|XG @Lu <|XG @nB <|XG @gc <|XG @Ts <|XG @Tt <|XG @Tu <|
 XG @Pj <|XG @F4 <|XG @zZ <|XG @dL <|XG @ay <|XG @Yp.{0} <|XG @Z2.{0} <|XG @Z4.{0} <|
 XG @aaR.{0} <|XG @aak.{0} <|XG @Zc.{0} <|XG @XY.{0} <|XG @X3.{0} <|XG @X6.{0} <|XG @Zt.{0} <|XG @aaa.{0} <|
 XG @YT <|XG @VO <|XG @bi <|XG @ck <|XG @BB <|@uh
end
def Fh{ih:IH}{f:Nat}{args:List AV}{y:Xo}:aj ih d g f args≠.Xi y:=by
 intro k;revert k;unfold aj
 repeat' (first|split|rw[aa])
 all_goals (intro h;cases h)
end
end Hx
