/- A part of the proof. -/
import Derived.Orders
import Derived.Below
import Derived.Laws.Externs
import Derived.Recover
import Derived.Test.YtikpmbiklokdiaaGreatHx3
set_option linter.all false
set_option maxRecDepth 20000
set_option maxHeartbeats 8000000
namespace Hx
open Go
noncomputable section
variable {v:AV}{g' g:G}{df df':List ZU}{nt b d f n m c k ti:Nat}{t' t:T}{C:ZO}{as:List AV}{body:SC}{Q:QT}{rd:Option Nat}{assign:Code}{tmps:Array Value}{K:AV->G->Prop}{D:ZU->Prop}
section
variable {j:Nat}
def XC(C:ZO)(ih:IH)(d:Nat)(rd:Option Nat)(nt:Nat)(ops:Array Oper)(q:Bool)(o:Oper)(t t':T)(g g':G)(f:ZC):Prop :=
 ∃out gd,ua nt o.dst=some out/\jZ ops.toList o.guard=some gd /\
  ((gd.run t=some false/\t'=out.run t .undef/\g'=g/\f.wr=[]) \/
   (gd.run t=some true/\∃r,(bP C o.op).run ih d rd t (aS g [])=r/\r≠.fail/\(∀a,r≠.ZP a)/\t'=out.run t (Q0 r)/\g'.h=(U7 (aS g []) r).h /\
    f.wr=(U7 (aS g []) r).lg/\(U7 (aS g []) r).nx<=g'.nx/\(q=false->f.lk=(aL C o.op).run t g/\(U7 (aS g []) r).nx<g'.nx)))
def j_(ops:Array Oper)(i:Nat):Option Tmp:=(ops[i]?).bind (·.dst)
structure VU (C:ZO) (ih:IH) (bd:Nat) (rd:Option Nat) (nt:Nat) (ops:Array Oper) (q:Bool) (T':Nat->T) (G':Nat->G) (F':Nat->ZC) (hg0:Nat->ZM):Prop where
 hC:ZK C
 hi:Vv C ih
 tra:∀i o,ops[i]?=some o->XC C ih (bd+1) rd nt ops q o (T' i) (T' (i+1)) (G' i) (G' (i+1)) (F' i)
 wf0:WF (G' 0)
 ext0:Wo (G' 0).h hg0
 free0:∀id,(G' 0).nx<=id->id<=(G' ops.size).nx->hg0 id=.none
 apart:∀i j,i<j->j<ops.size->((bO ops.toList []).getD j 0).testBit i=true\/bz (F' i) (F' j)=true
 once:∀i j j',i<j->j<j'->j'<ops.size->(F' i).lk.sr≠[]->((bO ops.toList []).getD j 0).testBit i=false->((bO ops.toList []).getD j' 0).testBit i=false ->
  meets (F' j).wr (FG (F' i).lk.sr)=true->meets (F' j').wr (FG (F' i).lk.sr)=true->False
 slots:∀i j oi oj,i<j->ops[i]?=some oi->ops[j]?=some oj->((bO ops.toList []).getD j 0).testBit i=true\/mB ops.toList oi oj=true
 guards:∀i o j b,ops[i]?=some o->o.guard=some (j,b)->((bO ops.toList []).getD i 0).testBit j=true
 quiet:q=true->∀i,i<ops.size->(F' i).wr=[]
section
variable {C:ZO}{A:Nat->Nat->Prop}{bd:Nat}{ih:IH}{rd:Option Nat}{nt:Nat}{ops:Array Oper}{q:Bool}{T':Nat->T}{G':Nat->G}{F':Nat->ZC}{hg0:Nat->ZM}
theorem XC.facts(hC:ZK C)(hi:Vv C ih){o:Oper}{f:ZC}(h:XC C ih d rd nt ops q o t t' g g' f)(hwf:WF g) :
  WF g'/\g.nx<=g'.nx/\(∀id,id ∉ f.wr->g'.h.get id=g.h.get id)/\∀id∈f.wr,id<g'.nx/\(g.h.get id=.none->g.nx<=id):=by
 obtain⟨out,gd,_,_,h⟩:=h;rcases h with⟨_,_,rfl,hw⟩|⟨_,r,hr,l,_,_,j,hw,i,_⟩
 ·grind
 ·have hm:Mon (aS g []) (U7 (aS g []) r):=by grind[j4,ZK.ZA,Vv.ZA,WF.setLog]
  obtain⟨n,a,b,c⟩:=hm.new;have e:(U7 (aS g []) r).lg=n:=by simp_all
  have k:g.nx<=(U7 (aS g []) r).nx:=by have:=hm.nx;simp_all
  refine⟨λid hid=>?_,Y1 k i,λid hid=>?_,λid hid=>?_⟩
  ·rw[j];exact hm.wf hwf.setLog id (by omega)
  all_goals grind[QM,Q7]
theorem VU.facts(R:VU C ih bd rd nt ops q T' G' F' hg0):∀i,i<=ops.size->WF (G' i):=by
 intro i
 induction i with
 |zero=>grind[wf0]
 | succ i ih' =>intro h;have ho:ops[i]?=some ops[i]:=(by grind);exact (XC.facts R.hC R.hi (R.tra i _ ho) (ih' (by omega))).1
theorem VU.at(R:VU C ih bd rd nt ops q T' G' F' hg0){i:Nat}(h:i<ops.size) :
  (G' i).nx<=(G' (i+1)).nx/\(∀id,id ∉ (F' i).wr->(G' (i+1)).h.get id=(G' i).h.get id)/\∀id∈(F' i).wr,id<(G' (i+1)).nx/\((G' i).h.get id=.none->(G' i).nx<=id):=by
 have ho:ops[i]?=some ops[i]:=Np h;exact (XC.facts R.hC R.hi (R.tra i _ ho) (R.facts i (by omega))).2
theorem VU.nx_mono(R:VU C ih bd rd nt ops q T' G' F' hg0){i:Nat}(h:i<=j)(hj:j<=ops.size):(G' i).nx<=(G' j).nx:=by
 induction j with
 |zero=>grind
 | succ j ih' =>
  by_cases hij:i=j+1
  ·grind
  ·exact Y1 (by grind) (R.at (by omega)).1
theorem VU.keepT(R:VU C ih bd rd nt ops q T' G' F' hg0)(hj:j<ops.size){s:Nat}(h:j_ ops j≠some s):(T' (j+1)).get AV.undef s=(T' j).get AV.undef s:=by
 have ho:ops[j]?=some ops[j]:=Np hj;obtain⟨out,gd,k,_,h'⟩:=R.tra j _ ho;have key:∀x,(out.run (T' j) x).get AV.undef s=(T' j).get AV.undef s:=by
  intro x;simp only[j_,ho,WC]at h;cases hd:ops[j].dst with
  |none=>rw[hd]at k;simp[ua]at k;subst k;rfl
  | some d =>
   rw[hd]at k h;simp only[ua,aa]at k
   split at k
   ·injection k with k;subst k;rw[SH,ZF]
    grind
   grind
 grind
def Tm(ops:Array Oper)(S:Nat->Prop):Prop:=∀j o,ops[j]?=some o->S j->∀e∈o.after.toList,Region.binds .any e=true->S e.on
theorem Tm.mask{S:Nat->Prop}(h:Tm ops S){i:Nat}(hb:((bO ops.toList []).getD j 0).testBit i=true)(hj:S j):S i :=Gl (S:=S) (all:=ops.toList) (λj o ho=>h j o (by grind)) ops.toList [] [] rfl rfl (λj i hj=>by grind) j i hb hj
theorem VP(S:Nat->Prop):∀n,∃t:T,∀s,t.get AV.undef s=ov S (λi s=>j_ ops i=some s) (λi s=>(T' i).get AV.undef s) (λs=>(T' 0).get AV.undef s) n s:=by
 intro n
 induction n with
 |zero=>exact⟨T' 0,λs=>rfl⟩
 | succ n ih' =>
  obtain⟨t,ht⟩:=ih'
  by_cases hS:S n
  ·cases hd:j_ ops n with
   |none=>exact⟨t,λs=>by simp_all[ov]⟩
   | some d =>
    refine⟨(sp AV.undef d).run t ((T' (n+1)).get AV.undef d),λs=>?_⟩;rw[SH];simp only[ov]
    grind
  ·exact⟨t,λs=>by simp_all[ov]⟩
structure Inv (C:ZO) (A:Nat->Nat->Prop) (bd nt:Nat) (ops:Array Oper) (T':Nat->T) (G':Nat->G) (F':Nat->ZC) (hg0:Nat->ZM) (N:Nat) (w0:World) (γ0:Gm) (P_:List Deferred)
  (S:Nat->Prop) (a:Act) (w:World) (γ:Gm) (hg:Nat->ZM):Prop where
 rel:ZB C A bd w γ hg N
 WB:Stp w0 γ0 w γ
 size:a.tmps.size=nt
 slots:∀s,RV w γ A bd (ov S (λi s=>j_ ops i=some s) (λi s=>(T' i).get AV.undef s) (λs=>(T' 0).get AV.undef s) ops.size s) (a.tmps.getD s undef)
 R8:∀id,hg id=ov S (λi id=>id∈(F' i).wr) (λi id=>(G' i).h.get id) hg0 ops.size id
 ZP:a.defers=P_
theorem mJ{x y:ZC}(h:fA x y=true){id:Nat}(hid:id∈x.wr):y.lk.big=false/\id ∉ y.wr/\id ∉ y.lk.rd/\id ∉ y.lk.sr.map (·.1):=by
 unfold fA at h
 split at h
 ·grind
 ·simp only[Zk,Qw]at h;obtain⟨⟨⟨h1,h2⟩,k⟩,h4⟩:=h<;>grind[mu,xT]
theorem xO{x y:ZC}(h:dL x y=true){id:Nat}(hid:id∈x.wr):y.lk.big=false/\id ∉ y.wr/\id ∉ y.lk.rd/\(id∈y.lk.sr.map (·.1)->∀p∈y.lk.sr,p∈x.lk.soft):=by
 unfold dL at h
 split at h
 ·grind
 ·simp only[Zk,Qw,T6]at h;obtain⟨⟨⟨h1,h2⟩,k⟩,h4⟩:=h;refine⟨h1,λh=>?_,λh=>?_,λh p hp=>?_⟩
  ·grind[mu]
  ·grind[mu]
  ·rcases h4 with h4|h4
   ·grind[mu,xT]
   simp_all[Ni]
theorem ej{x y:ZC}(h:bz x y=true):fA x y=true/\dL y x=true:=by grind[bz]
theorem n_{all:List Oper}{x y:Oper}(h:mB all x y=true) :
  (∀d,x.dst=some d->d ∉ yR all y/\y.dst≠some d)/\(∀d,y.dst=some d->d ∉ yR all x):=by
 unfold mB at h
 grind
variable {N:Nat}{w0:World}{γ0:Gm}{P_:List Deferred}{S:Nat->Prop}{a:Act}{w:World}{γ:Gm}{hg:Nat->ZM}
variable {b:Frame}{i:Nat}{rest:List Nat}{k:List Item}{cs:List Frame}{o:Oper}
theorem VU.good(R:VU C ih bd rd nt ops q T' G' F' hg0)(I:Inv C A bd nt ops T' G' F' hg0 N w0 γ0 P_ S a w γ hg)(hin:i<=ops.size){id:Nat}
  (h:∀j,j<ops.size->id∈(F' j).wr->(S j↔j<i)) (hne:(G' i).h.get id≠.none):hg id=(G' i).h.get id:=by
 rw[I.R8 id];rcases Tv (S:=S) (wr:=λi id=>id∈(F' i).wr) (val:=λi id=>(G' i).h.get id) (base:=hg0) (k:=id) hin (λj hj hw=>(R.at hj).2.1 id hw) h with⟨_,h2⟩|⟨_,h2,b⟩
 ·exact h2
 ·rw[h2,b];exact R.ext0 id (by grind)
theorem ST(R:VU C ih bd rd nt ops q T' G' F' hg0)(I:Inv C A bd nt ops T' G' F' hg0 N w0 γ0 P_ S a w γ hg)(hN:(G' ops.size).nx<=N)
  (ho:ops[i]?=some o) (hS:¬S i) (hdown:Tm ops S) (hready:∀e∈o.after.toList,Region.binds .any e=true->S e.on) (hcalm:sN b.kind cs) :
  ∃a' w' γ' hg',Inv C A bd nt ops T' G' F' hg0 N w0 γ0 P_ (λj=>S j\/j=i) a' w' γ' hg' /\
   Steps C.P (lone (b.atR a (.inRegion ops (i::rest)::k)) cs w) (lone (b.atR a' (.inRegion ops rest::k)) cs w'):=by
 have hi:i<ops.size:=(by grind);have Z:Tm ops (λj=>S j\/j=i):=by
  intro j oj B l e he hb;rcases l with l|rfl
  ·exact .inl (hdown j oj B l e he hb)
  grind
 have ahead:∀j,j≠i->((bO ops.toList []).getD i 0).testBit j=true->S j:=by intro j l hb;rcases Z.mask hb (.inr rfl) with h|h<;>grind
 have behind:∀j,S j->((bO ops.toList []).getD j 0).testBit i≠true:=λj l hb=>hS (hdown.mask hb l);have h8:j_ ops i=o.dst:=by grind[j_]
 have a7:∀s∈yR ops.toList o,ov S (λi s=>j_ ops i=some s) (λi s=>(T' i).get AV.undef s) (λs=>(T' 0).get AV.undef s) ops.size s=(T' i).get AV.undef s:=by
  intro s hs;have h:∀j,j<ops.size->j_ ops j=some s->(S j↔j<i):=by
   intro j l hd;have B:ops[j]?=some ops[j]:=Np l;have hf:ops[j].dst=some s:=by grind[j_]
   constructor
   ·intro E;rcases aec j i with h|h|h
    ·exact h
    ·grind
    ·rcases R.slots i j _ _ h ho B with hb|hb
     ·grind
     ·exact absurd hs ((n_ hb).2 s hf)
   ·intro hlt;rcases R.slots j i _ _ hlt B ho with hb|hb
    ·grind
    ·exact absurd hs ((n_ hb).1 s hf).1
  rcases Tv (S:=S) (wr:=λi s=>j_ ops i=some s) (val:=λi s=>(T' i).get AV.undef s) (base:=λs=>(T' 0).get AV.undef s) (k:=s) (by omega:i<=ops.size) (λj l hw=>R.keepT l hw) h with⟨_,h2⟩|⟨_,h2,h3⟩<;>grind
 obtain⟨ts,ab⟩:=VP (ops:=ops) (T':=T') S ops.size;have W:TR w γ A bd nt ts a.tmps:=⟨I.size,λs=>by grind[Inv.slots]⟩;have k2:∀s∈yR ops.toList o,ts.get AV.undef s=(T' i).get AV.undef s:=λs hs=>by grind
 have F:HN C ts (T' i) o.op.operands.toList:=by intro x hx s hs;refine Mw hs λn hn=>k2 n ?_;subst hn;exact aeo _ (List.mem_filterMap.2 ⟨_,hx,rfl⟩)
 obtain⟨out,gd,c,hk,hc⟩:=R.tra i o ho;have k3:gd.run ts=gd.run (T' i):=by refine I5 hk λj b' oj d hg' B hd=>k2 d ?_;refine aeg _ ?_<;>grind
 have ka:∀s,j_ ops i=some s->∀j,i<j->j<ops.size->S j->¬j_ ops j=some s:=by
  intro s hd j L l E hf;have B:ops[j]?=some ops[j]:=Np l;rcases R.slots i j _ _ L ho B with hb|hb
  ·grind
  ·exact ((n_ hb).1 s (h8 ▸ hd)).2 (by grind[j_])
 have slots':∀{w':World} {γ':Gm} {x:AV} {v:Value},Stp w γ w' γ'->RV w' γ' A bd x v->T' (i+1)=out.run (T' i) x ->
   (a.put o.dst v).tmps.size=nt/\∀s,RV w' γ' A bd (ov (λj=>S j\/j=i) (λi s=>j_ ops i=some s) (λi s=>(T' i).get AV.undef s) (λs=>(T' 0).get AV.undef s) ops.size s) ((a.put o.dst v).tmps.getD s undef):=by
  intro w' γ' x v a9 hv hT;have h1:=(W.step a9).put c hv;refine⟨h1.1,λs=>?_⟩;have h2:=h1.2 s
  by_cases hs:j_ ops i=some s
  ·rw[Tu (wr:=λi s=>j_ ops i=some s) hi hs (ka s hs),hT];rw[h8]at hs;rw[hs]at c h2 ⊢;simp only[ua,aa]at c
   split at c
   ·injection c with c;subst c;simp_all
   grind
  ·rw[JK (wr:=λi s=>j_ ops i=some s) hs,<-ab s];have:(out.run ts x).get AV.undef s=ts.get AV.undef s:=by
    cases hd:o.dst with
    |none=>rw[hd]at c;simp[ua]at c;subst c;rfl
    | some d =>
     rw[hd]at c;simp only[ua,aa]at c
     split at c
     ·injection c with c;subst c;rw[SH,ZF]
      grind
     grind
   grind
 rcases hc with⟨hq,hT,hG,hW⟩|⟨hq,r,hr,hl,k8,hT,hH,hW,kb,k5⟩
 ·
  rw[<-k3]at hq;have hw:=pc hk W hq;obtain⟨s1,s2⟩:=slots' (Stp.refl w γ) dC hT;refine⟨_,w,γ,hg,⟨I.rel,I.WB,s1,s2,λid=>?_,?_⟩,.one (yu ho hw)⟩
  ·rw[I.R8 id];simp_all[JK]
  ·have:=I.ZP;cases hd:o.dst<;>simpa [Act.put,hd] using this
 ·
  rw[<-k3]at hq;have hw:=pc hk W hq;have ad:WF (aS (G' i) []):=(R.facts i (by omega)).setLog;rw[<-Mu F]at hr;have O:Wg γ (aS (G' i) []) (U7 (aS (G' i) []) r):=by
   intro id h1 h2;simp only[Q7]at h1;rw[I.rel.none_iff,I.R8 id,Gf (m:=0) (Jq _)]
   ·exact R.free0 id (Y1 (R.nx_mono (Jq i) (by omega)) h1) (Y1 h2 (Y1 kb (R.nx_mono (by omega) (ZV _))))
   ·intro j _ l E hw;cases q with
    |true=>rw[R.quiet rfl j l]at hw;grind
    | false =>
     have hlt:id<(G' (i+1)).nx:=by grind
     rcases aec j i with h|h|h
     ·have:=((R.at l).2.2 id hw).1
      grind[VU.nx_mono]
     ·grind
     ·have kl:id∈(F' i).wr:=Wx λhn=>by
       have key:∀m,i<m->m<=j->(G' m).h.get id=.none:=by
        intro m
        induction m with
        |zero=>omega
        | succ m ihm =>
         intro ar as
         by_cases hmi:m=i
         ·subst hmi;rw[(R.at (by omega)).2.1 id hn];exact R.facts m (by omega) id h1
         ·have:=ihm (by omega) (by omega)
          by_cases hm:id∈(F' m).wr
          ·have h3:=((R.at (i:=m) (by omega)).2.2 id hm).2 this
           grind[VU.nx_mono]
          ·rw[(R.at (by omega)).2.1 id hm];omega
       have h3:=((R.at l).2.2 id hw).2 (by grind)
       grind[VU.nx_mono]
      rcases R.apart i j h l with hb|hb
      ·grind
      ·exact (mJ (ej hb).1 kl).2.1 hw
  have fin:∀{gs:G} {u:Value} {w':World} {γ':Gm} {hg':Nat->ZM},Fin C A bd w γ hg N gs w' γ' hg' (U7 (aS (G' i) []) r)->gs.lg=[]->RV w' γ' A bd (Q0 r) u ->
    Steps C.P (lone (b.atR a (.inRegion ops (i::rest)::k)) cs w) (lone (b.atR (a.put o.dst u) (.inRegion ops rest::k)) cs w') ->
    ∃a' w' γ' hg',Inv C A bd nt ops T' G' F' hg0 N w0 γ0 P_ (λj=>S j\/j=i) a' w' γ' hg' /\
     Steps C.P (lone (b.atR a (.inRegion ops (i::rest)::k)) cs w) (lone (b.atR a' (.inRegion ops rest::k)) cs w'):=by
   intro gs u w' γ' hg' f k4 hv st;obtain⟨s1,s2⟩:=slots' f.WB hv hT;have b4:(U7 (aS (G' i) []) r).nx<=N:=Y1 kb (Y1 (R.nx_mono (by omega) (ZV _)) hN);refine⟨_,w',γ',hg',⟨?_,I.WB.trans f.WB,s1,s2,λid=>?_,?_⟩,st⟩
   ·have:=f.rel
    grind
   ·obtain⟨n,e1,e2,e3⟩:=f.new;have en:(F' i).wr=n:=by grind
    by_cases t:id∈(F' i).wr
    ·rw[e2 id (en ▸ t),<-hH];refine (Tu (wr:=λi id=>id∈(F' i).wr) (val:=λi id=>(G' i).h.get id) hi t λj L l E hw=>?_).symm;rcases R.apart i j L l with hb|hb
     ·grind
     ·exact (mJ (ej hb).1 t).2.1 hw
    ·rw[e3 id (en ▸ t),I.R8 id];simp_all[JK]
   ·have:=I.ZP;cases hd:o.dst<;>simpa [Act.put,hd] using this
  have ks:∀id,(q=false->(F' i).lk.big=true\/id∈(F' i).lk.rd\/(id∈(F' i).lk.sr.map (·.1)/\∀j,i<j->j<ops.size->S j->id ∉ (F' j).wr)) ->
    (G' i).h.get id≠.none->hg id=(G' i).h.get id:=by
   intro id Q D;refine R.good I (by omega) (λj l hw=>?_) D;cases q with
   |true=>rw[R.quiet rfl j l]at hw;grind
   | false =>
    have Q:=Q rfl;constructor
    ·intro E;rcases aec j i with h|h|h
     ·exact h
     ·grind
     ·rcases R.apart i j h l with hb|hb
      ·grind
      ·obtain⟨h1,h2,h3,h4⟩:=xO (ej hb).2 hw<;>grind
    ·intro hlt;rcases R.apart j i hlt hi with hb|hb
     ·grind
     ·obtain⟨h1,h2,h3,h4⟩:=mJ (ej hb).1 hw<;>grind
  have hh:(aL C o.op).run ts (aS (G' i) [])=(aL C o.op).run (T' i) (G' i):=Kp (by simp) F
  by_cases hsoft:q=false/\∃id j,id∈(F' i).lk.sr.map (·.1)/\i<j/\j<ops.size/\S j/\id∈(F' j).wr
  ·
   obtain⟨rfl,id,j,t,L,l,E,h6⟩:=hsoft;have k6:=(k5 rfl).1;have B:ops[j]?=some ops[j]:=Np l;have kf:((bO ops.toList []).getD j 0).testBit i=false:=by grind
   have kq:bz (F' i) (F' j)=true:=(R.apart i j L l).resolve_left (behind j E);obtain⟨_,_,_,h4⟩:=xO (ej kq).2 h6;have h4:=h4 t;have V:(F' i).lk.sr≠[]:=by grind
   rw[k6]at V;obtain⟨ty,x,kx,a0,hp,ha,b1⟩:=YK V;rw[hp]at hr;obtain⟨a1,kk,kt,et,z,X,b2,hu,hz,k1,U⟩:=Kq hr hl;rw[ha]at X;injection X with X;subst X;have kh:∃v,r=.val v:=by
    rw[U];have:XF (aS (G' i) []) (cW (cL C.P kt) z false a0.run kk.run ts (aS (G' i) [])):=by
     unfold cW;rw[aa]
     repeat' split
     all_goals trivial
    cases hrr:cW (cL C.P kt) z false a0.run kk.run ts (aS (G' i) []) with
    |fail=>grind
    |val v=>grind
    | upd v g' =>
     exfalso;unfold cW at hrr
     grind[aa]
    |ZP x=>grind
   obtain⟨v,hv⟩:=kh;subst hv;have ea0:a0.run ts=a0.run (T' i):=F x (by grind[Op.operands]) a0 ha;have K:id∈an (a0.run (T' i)):=by grind
   have hmap:∃es,a0.run ts=.hmap id/\(G' i).h.get id=.map es:=by
    have p:=U.symm;unfold cW at p;rw[aa]at p
    split at p
    ·rw[<-ea0]at K;generalize a0.run ts=y at K p;cases y<;>simp[an]at K
     ·grind
     ·grind
     ·subst K;simp only[G.get_eq,QM]at p
      grind
    grind
   obtain⟨es,kz,a2⟩:=hmap;have T:(id,ty)∈(F' j).lk.soft:=h4 _ (by grind);obtain⟨outj,gdj,a4,ag,Y⟩:=R.tra j _ B;rcases Y with⟨_,_,_,kn⟩|⟨_,rj,kc,k9,ai,az,km,kn,ao,k7⟩
   ·grind
   rw[(k7 rfl).1]at T;obtain⟨xj,kj,aj,h9,kp,J⟩:=Wp T;dsimp only at h9 J;rw[h9]at kc;obtain⟨aj',kkj,ktj,etj,zj,H,b3,h5,h7,ht⟩:=GT kc k9;rw[kp]at H;injection H with H;subst H;rw[hu]at h5;injection h5 with h5;injection h5 with kd ke;subst kd;subst ke;rw[hz]at h7;injection h7 with h7;subst h7;cases rj with
   |fail=>grind
   |val v=>simp_all[U7]
   |ZP x=>grind
   | upd vj gj =>
    obtain⟨idj,esj,q1,q2,q3,q4⟩:=JB ht.symm;rw[q1]at J;simp[an]at J;subst J;have a3:∀m,i<m->m<ops.size->S m->id∈(F' m).wr->m=j:=by
     intro m ky hm av hy;refine Wx λhmj=>?_;have hb:((bO ops.toList []).getD m 0).testBit i=false:=by grind
     have a8:(F' i).lk.sr≠[]:=by grind
     rcases TU m j with h|h
     ·grind[VU.once,mu,xT]
     ·exact R.once i j m L (by omega) hm a8 kf hb (mu h6 (xT t)) (mu hy (xT t))
    have kl:(F' i).wr=[]:=by rw[hW];simp[U7]
    have a6:(G' j).h.get id=(G' i).h.get id:=by
     have key:∀m,i<=m->m<=j->(G' m).h.get id=(G' i).h.get id:=by
      intro m
      induction m with
      |zero=>grind
      | succ m ihm =>
       intro h1 h2
       by_cases ky:i=m+1
       ·grind
       ·rw[(R.at (by omega)).2.1 id ?_]
        ·grind
        ·intro hy
         by_cases hmi:m=i
         ·grind
         ·rcases R.apart m j (by omega) l with hb|hb
          ·grind[Tm.mask]
          ·exact (mJ (ej hb).1 hy).2.1 h6
     grind
    have kr:esj=es:=by
     have h1:(G' j).h.get id=.map esj:=by simpa using q2
     grind
    subst kr;have al:hg id=.map (esj++[(kkj.run (T' j),z)]):=by rw[I.R8 id,Gf (m:=j+1) (by omega) (λm h1 h2 h3 h4=>by grind)];simp only[ov];rw[ZN ⟨E,h6⟩,km,q3];simp[U7,Za]
    let gs:G:=⟨(G' i).h.put id (.map (esj++[(kkj.run (T' j),z)])),(G' i).nx,[]⟩
    have k4:gs.h.get id=.map (esj++[(kkj.run (T' j),z)]):=by grind[Za]
    have a5:(bP C o.op).run ih (bd+1) rd ts gs=.val v:=by rw[hp,k1];exact Ln U.symm kz (by simpa using a2) k4 q4
    have kv:id<(G' i).nx:=aej λh=>by
     have:=R.facts i (by omega) id h
     grind
    have ki:WF gs:=λid' h'=>by have h':(G' i).nx<=id':=h';simp only[gs,Za];rw[bJ];exact R.facts i (by omega) id' h'
    have M:P9 ((aL C o.op).run ts gs) gs hg:=by
     have e:(aL C o.op).run ts gs=⟨[],(an (a0.run ts)).map (·,ty),[],false⟩:=by rw[hp];simp[aL,ha]
     grind[an,P9]
    obtain⟨u,w',γ',hg',f,rv,st⟩:=JI (b:=b) (cs:=cs) (rest:=rest) (k:=k) R.hC R.hi I.rel ki W hcalm M a5 hl k8 (λid' h1 h2=>O id' (by simpa [gs] using h1) (by simpa [gs,U7] using h2)) ho hw;refine fin (gs:=gs) (u:=u) (w':=w') (γ':=γ') (hg':=hg') ⟨?_,f.WB,?_⟩ rfl rv st
    ·have:=f.rel;simpa [U7,gs] using this
    grind[Fin.new,U7]
  ·have M:P9 ((aL C o.op).run ts (aS (G' i) [])) (aS (G' i) []) hg:=by
    cases hqq:q with
    | true =>refine Wo.agr λid D=>?_<;>simp_all
    | false =>
     rw[hh,<-(k5 hqq).1];unfold P9
     split
     ·rename_i hb;exact λid D=>by grind[QM]
     ·intro id t D;simp only[QM]at D ⊢
      grind
   obtain⟨u,w',γ',hg',f,rv,st⟩:=JI (b:=b) (cs:=cs) (rest:=rest) (k:=k) R.hC R.hi I.rel ad W hcalm M hr hl k8 O ho hw;exact fin f (by simp) rv st
end
end
section
variable {C:ZO}{A:Nat->Nat->Prop}{bd:Nat}{ih:IH}{rd:Option Nat}{nt:Nat}{ops:Array Oper}{q:Bool}{T':Nat->T}{G':Nat->G}{F':Nat->ZC}{hg0:Nat->ZM}
variable {N:Nat}{w0:World}{γ0:Gm}{P_:List Deferred}{b:Frame}{k:List Item}{cs:List Frame}
theorem UQ(R:VU C ih bd rd nt ops q T' G' F' hg0)(hN:(G' ops.size).nx<=N)(hedge:∀i o,ops[i]?=some o->∀e∈o.after.toList,Region.binds .any e=true->e.on<i)(hcalm:sN b.kind cs) :
  ∀(fuel tq:Nat) (listed:Array Bool) (S:Nat->Prop) {a:Act} {w:World} {γ:Gm} {hg:Nat->ZM},listed.size=ops.size->(∀j,S j↔listed.getD j false=true)->Tm ops S ->
   cnt (λj=>!listed.getD j true) ops.size<=fuel->Inv C A bd nt ops T' G' F' hg0 N w0 γ0 P_ S a w γ hg ->
   ∃a' w' γ' hg',Inv C A bd nt ops T' G' F' hg0 N w0 γ0 P_ (λj=>j<ops.size) a' w' γ' hg' /\
    Steps C.P (lone (b.atR a (.inRegion ops (Region.linearise.go .any ops fuel tq listed [])::k)) cs w) (lone (b.atR a' (.inRegion ops []::k)) cs w'):=by
 have done:∀{listed:Array Bool} {S:Nat->Prop} {a:Act} {w:World} {γ:Gm} {hg:Nat->ZM},listed.size=ops.size->(∀j,S j↔listed.getD j false=true) ->
   (∀j,j<ops.size->listed.getD j true=true)->Inv C A bd nt ops T' G' F' hg0 N w0 γ0 P_ S a w γ hg->Inv C A bd nt ops T' G' F' hg0 N w0 γ0 P_ (λj=>j<ops.size) a w γ hg:=by
  intro listed S a w γ hg l hS f I;have e:S=λj=>j<ops.size:=by grind
  grind
 intro fuel
 induction fuel with
 | zero =>intro tq listed S a w γ hg l hS h hc I;have hz:=RM (Nat.le_zero.1 hc);refine⟨a,w,γ,hg,done l hS (λj c=>by simpa using hz j c) I,?_⟩<;>grind[Region.linearise.go,Steps.refl]
 | succ fuel ihf =>
  intro tq listed S a w γ hg l hS h hc I;simp only[Region.linearise.go];change ∃a' w' γ' hg',_/\Steps C.P (lone (b.atR a (.inRegion ops (match (Region.ready .any ops listed)[tq % (Region.ready .any ops listed).length]? with
   |some i=>Region.linearise.go .any ops fuel (tq / (Region.ready .any ops listed).length) (listed.setIfInBounds i true) [i]
   |none=>[].reverse)::k)) cs w) _
  cases hi:(Region.ready .any ops listed)[tq % (Region.ready .any ops listed).length]? with
  | none =>
   have t:Region.ready .any ops listed=[]:=by cases hr:Region.ready .any ops listed<;>grind[US]
   have f:∀j,j<ops.size->listed.getD j true=true:=by
    intro j
    induction j using Nat.strongRecOn with
    | _ j ihj =>
     intro c;refine Wx λn=>?_;have n:listed.getD j true=false:=by grind
     have:j∈Region.ready .any ops listed:=by rw[mem_ready];refine⟨n,ops[j],Np c,λe he hb=>?_⟩<;>grind
     grind
   grind[Steps.refl]
  | some i =>
   have m:=YH hi;obtain⟨x,o,ho,f⟩:=mem_ready.1 m;have s:i<ops.size:=(by grind);have r:¬S i:=by grind
   have d:∀e∈o.after.toList,Region.binds .any e=true->S e.on:=λe he hb=>by grind
   simp only[];rw[linearise_go_acc,List.reverse_singleton,adP];obtain⟨a1,w1,γ1,u,I1,st1⟩:=ST (b:=b) (k:=k) (cs:=cs) (rest:=Region.linearise.go .any ops fuel (tq / (Region.ready .any ops listed).length) (listed.setIfInBounds i true) []) R I hN ho r h d hcalm;obtain⟨a2,y,γ2,v,I2,st2⟩:=ihf (tq / (Region.ready .any ops listed).length) (listed.setIfInBounds i true) (λj=>S j\/j=i) (by grind) (λj=>by
     rw[hS]
     by_cases c:j=i
     ·simp_all
     simp_all[Vw]) (λj oj hoj c e he hb=>by
     rcases c with c|rfl
     ·exact .inl (h j oj hoj c e he hb)
     grind) (by
     have:=XA (p:=λj=>!listed.getD j true) (q:=λj=>!(listed.setIfInBounds i true).getD j true) (λj c=>by
      by_cases hji:j=i
      ·grind
      simp_all[Vw]) s (by grind) (by
      simp_all)
     omega) I1
   grind[Steps.trans]
theorem L8(h:g.lg=[]):aS g []=g:=by cases g;simp at h;subst h;rfl
theorem Sf{pm:List Nat}:∀(l:List Oper) (i:Nat) {t:T} {df:List ZU} {g:G} {fs:List ZC} {e:Ex} {t':T} {df':List ZU} {g':G},
  (jY C nt pm ops.toList i l).run ih d rd t df g fs=.ok e t' df' g' ->
  e=.norm/\df'=df/\∃(T':Nat->T) (G':Nat->G) (F':Nat->ZC),T' i=t/\G' i=g/\T' (i+l.length)=t'/\G' (i+l.length)=g' /\
   (∀j o,l[j]?=some o->XC C ih d rd nt ops false o (T' (i+j)) (T' (i+j+1)) (G' (i+j)) (G' (i+j+1)) (F' (i+j))/\(G' (i+j+1)).lg=(F' (i+j)).wr++(G' (i+j)).lg) /\
   lp pm (fs.reverse++(List.range l.length).map λj=>F' (i+j))=true:=by
 intro l
 induction l with
 | nil =>
  intro i t df g fs e t' df' g' h;simp only[jY,aa]at h
  split at h
  ·rename_i hf;injection h with h1 h2 p h4;subst h1;subst h2;subst p;subst h4;exact⟨rfl,rfl,λ_=>t,λ_=>g,λ_=>⟨aA,[]⟩,rfl,rfl,rfl,rfl,(by grind),by grind⟩
  grind
 | cons o rest ihl =>
  intro i t df g fs e t' df' g' h;have go:∀{t1:T} {g1:G} {f:ZC},(jY C nt pm ops.toList (i+1) rest).run ih d rd t1 df g1 (f::fs)=.ok e t' df' g' ->
    XC C ih d rd nt ops false o t t1 g g1 f->g1.lg=f.wr++g.lg ->
    e=.norm/\df'=df/\∃(T':Nat->T) (G':Nat->G) (F':Nat->ZC),T' i=t/\G' i=g/\T' (i+(o::rest).length)=t'/\G' (i+(o::rest).length)=g' /\
     (∀j o',(o::rest)[j]?=some o'->XC C ih d rd nt ops false o' (T' (i+j)) (T' (i+j+1)) (G' (i+j)) (G' (i+j+1)) (F' (i+j))/\(G' (i+j+1)).lg=(F' (i+j)).wr++(G' (i+j)).lg) /\
     lp pm (fs.reverse++(List.range (o::rest).length).map λj=>F' (i+j))=true:=by
   intro t1 g1 f h c q;obtain⟨h1,h2,T1,G1,F1,a1,a2,s,a4,u,n⟩:=ihl (i+1) h;have ne:∀j,i+1+j≠i:=λj=>by omega
   refine⟨h1,h2,λm=>if m=i then t else T1 m,λm=>if m=i then g else G1 m,λm=>if m=i then f else F1 m,by simp,by simp,?_,?_,?_,?_⟩
   ·grind
   ·grind
   ·grind
   ·rw[V8,List.range_succ_eq_map,Qv,Rr];simp only[Yt,if_true];rw[<-n];congr 1;simp only[I9,acq,adP];congr 2;refine Sc λj _=>?_<;>grind
  simp only[jY]at h
  split at h
  ·rename_i out gd k b;dsimp only at h
   split at h
   ·rename_i hq;generalize hr:(bP C o.op).run ih d rd t (aS g [])=r at h;cases r with
    |fail=>cases h
    | val v =>refine go (t1:=out.run t v) (g1:=lC g g.lg) (f:=⟨(aL C o.op).run t g,[]⟩) h ⟨out,gd,k,b,.inr ⟨hq,_,hr,by simp,by simp,rfl,by simp[U7],by simp[U7],by simp[U7],λ_=>⟨rfl,by simp[U7]⟩⟩⟩ (by simp)
    | upd v g1 =>refine go (t1:=out.run t v) (g1:=lC g1 (g1.lg++g.lg)) (f:=⟨(aL C o.op).run t g,g1.lg⟩) h ⟨out,gd,k,b,.inr ⟨hq,_,hr,by simp,by simp,rfl,by simp[U7],by simp[U7],by simp[U7],λ_=>⟨rfl,by simp[U7]⟩⟩⟩ (by simp)
    |ZP a=>cases h
   ·rename_i hq;exact go h ⟨out,gd,k,b,.inl ⟨hq,rfl,rfl,rfl⟩⟩ (by simp)
   grind
  grind
theorem RC(hC:ZK C){op:Op}{x:ZU}(h:(bP C op).run ih d rd t g=.ZP x):∃c,op=.defer c:=by
 have Wd:∀f args,af ih d g f args≠.ZP x:=by
  intro f args;unfold af
  repeat' (first|split|rw[aa])
  all_goals grind
 have orf:∀r,XV r≠.ZP x:=by intro r h;cases r<;>cases h
 have rnd:∀id args,dx ih d id args g≠.ZP x:=by
  intro id args;unfold dx
  repeat' split
  all_goals grind
 unfold bP at h
 split at h
 rotate_left
 ·cases h
 rename_i f k;unfold Uy at k
 split at k
 ·split at k
  ·split at k
   ·rename_i e he;injection k with k;subst k;exact absurd h (hC.Vo _ _ he _ _ _ _)
   ·rw[aa]at k
    split at k
    ·injection k with k;subst k;grind
    ·injection k with k;subst k;grind
  grind
 ·split at k
  ·injection k with k;subst k;dsimp only at h;unfold dQ at h
   split at h
   ·split at h
    ·rename_i e he;exact absurd h (hC.Vo _ _ he _ _ _ _)
    grind[aa]
   all_goals grind
  grind
 ·injection k with k;subst k;cases h
 ·grind
 ·split at k
  ·rename_i s hs;injection k with k;subst k;have:=CJ (t:=t) (g:=g) hs;have h:s.run t g=.ZP x:=h;rw[h]at this;exact this.elim
  grind
theorem QH(hC:ZK C)(hi:Vv C ih):∀(l:List Oper) (i:Nat) {t:T} {df:List ZU} {g:G} {e:Ex} {t':T} {df':List ZU} {g':G},
  (lV C nt ops.toList l).run ih d rd t df g=.ok e t' df' g'->(∀o∈l,Ei C o.op=true)->g.lg=[]->g'.lg=[]->WF g ->
  e=.norm/\df'=df/\∃(T':Nat->T) (G':Nat->G) (F':Nat->ZC),T' i=t/\G' i=g/\T' (i+l.length)=t'/\G' (i+l.length)=g' /\
   (∀j o,l[j]?=some o->XC C ih d rd nt ops true o (T' (i+j)) (T' (i+j+1)) (G' (i+j)) (G' (i+j+1)) (F' (i+j)))/\∀j,(F' j).wr=[]:=by
 intro l
 induction l with
 | nil =>intro i t df g e t' df' g' h _ _ _ _;simp only[lV]at h;injection h with h1 h2 B h4;subst h1;subst h2;subst B;subst h4;exact⟨rfl,rfl,λ_=>t,λ_=>g,λ_=>⟨aA,[]⟩,rfl,rfl,rfl,rfl,(by grind),λ_=>rfl⟩
 | cons o rest ihl =>
  intro i t df g e t' df' g' h hq x p f;have go:∀{t1:T} {g1:G},(lV C nt ops.toList rest).run ih d rd t1 df g1=.ok e t' df' g'->g1.lg=[]->WF g1 ->
    XC C ih d rd nt ops true o t t1 g g1 ⟨aA,[]⟩ ->
    e=.norm/\df'=df/\∃(T':Nat->T) (G':Nat->G) (F':Nat->ZC),T' i=t/\G' i=g/\T' (i+(o::rest).length)=t'/\G' (i+(o::rest).length)=g' /\
     (∀j o',(o::rest)[j]?=some o'->XC C ih d rd nt ops true o' (T' (i+j)) (T' (i+j+1)) (G' (i+j)) (G' (i+j+1)) (F' (i+j)))/\∀j,(F' j).wr=[]:=by
   intro t1 g1 h q z A;obtain⟨h1,h2,T1,G1,F1,a1,a2,E,a4,F,H⟩:=ihl (i+1) h (by grind) q p z;have ne:∀j,i+1+j≠i:=λj=>by omega
   refine⟨h1,h2,λm=>if m=i then t else T1 m,λm=>if m=i then g else G1 m,λm=>if m=i then ⟨aA,[]⟩ else F1 m,by simp,by simp,?_,?_,?_,?_⟩<;>grind
  have exec:∀{out:TM (T->AV->T)} {gd:TM (T->Option Bool)},ua nt o.dst=some out->jZ ops.toList o.guard=some gd->gd.run t=some true ->
    sL out.run ((lV C nt ops.toList rest).run ih d rd) t df g ((bP C o.op).run ih d rd t g)=.ok e t' df' g' ->
    e=.norm/\df'=df/\∃(T':Nat->T) (G':Nat->G) (F':Nat->ZC),T' i=t/\G' i=g/\T' (i+(o::rest).length)=t'/\G' (i+(o::rest).length)=g' /\
     (∀j o',(o::rest)[j]?=some o'->XC C ih d rd nt ops true o' (T' (i+j)) (T' (i+j+1)) (G' (i+j)) (G' (i+j+1)) (F' (i+j)))/\∀j,(F' j).wr=[]:=by
   intro out gd k b w h;have hm:=j4 (op:=o.op) (d:=d) (rd:=rd) (t:=t) hC.ZA hi.ZA f;generalize hr:(bP C o.op).run ih d rd t g=r at h hm;have y:(bP C o.op).run ih d rd t (aS g [])=r:=by grind[L8]
   cases r with
   |fail=>cases h
   | val v =>exact go (t1:=out.run t v) (g1:=g) h x f ⟨out,gd,k,b,.inr ⟨w,_,y,by simp,by simp,rfl,by simp[U7],by simp[U7],by simp[U7],λh=>by cases h⟩⟩
   | upd v g1 =>
    have w1:WF g1:=hm.wf f;have D:=EL hC.ZA hi.ZA h w1;have q:g1.lg=[]:=by obtain⟨n,a,_,_⟩:=D.new;rw[p]at a;exact (List.append_eq_nil_iff.1 a.symm).2
    exact go (t1:=out.run t v) (g1:=g1) h q w1 ⟨out,gd,k,b,.inr ⟨w,_,y,by simp,by simp,rfl,by simp[U7],by grind[U7],by simp[U7],λh=>by cases h⟩⟩
   | ZP a =>obtain⟨c,hc⟩:=RC hC hr<;>grind[Ei]
  simp only[lV]at h
  split at h
  ·rename_i out k
   split at h
   ·rename_i b;exact exec k (gd:=⟨λ_=>some true⟩) (by rw[b];rfl) rfl h
   ·rename_i gd0 b
    split at h
    ·rename_i gd s;rw[<-b]at s;dsimp only at h
     split at h
     ·rename_i u;exact exec k s u h
     ·rename_i u;exact go h x f ⟨out,gd,k,s,.inl ⟨u,rfl,rfl,rfl⟩⟩
     grind
    ·cases h
  ·cases h
theorem O3{K V:Type}{wr:Nat->K->Prop}{val:Nat->K->V}{base:K->V}{k:K}:ov (λ_=>False) wr val base n k=base k:=by rw[Gf (m:=0) (Jq _) (by grind)];rfl
theorem KD(R:VU C ih bd rd nt ops q T' G' F' hg0)(hmix:C.P.follows .mixedOrders=true)(hedge:∀i o,ops[i]?=some o->∀e∈o.after.toList,Region.binds .any e=true->e.on<i)
  {w:World} {γ:Gm} {nx:Nat} {a:Act} {id:Nat} (hr:ZB C A bd w γ hg0 nx) (ht:TR w γ A bd nt (T' 0) a.tmps) (hcalm:sN b.kind cs) :
  ∃a' w' γ' hg',ZB C A bd w' γ' hg' (Nat.max nx (G' ops.size).nx)/\Stp w γ w' γ'/\TR w' γ' A bd nt (T' ops.size) a'.tmps/\a'.defers=a.defers /\
   (∀id,((∃j,j<ops.size/\id∈(F' j).wr)/\hg' id=(G' ops.size).h.get id)\/((∀j,j<ops.size->id ∉ (F' j).wr)/\hg' id=hg0 id)) /\
   Steps C.P (lone (b.atR a (.code (.region id ops true)::k)) cs w) (lone (b.atR a' k) cs w'):=by
 let w1:World:={ w with drawn:=w.drawn+1 }
 have l:Stp w γ w1 γ:=GF (ZV _) rfl rfl rfl (XM _) λ_ _=>rfl;have m:ZB C A bd w1 γ hg0 nx:=hr.same l λ_ _=>rfl;have I0:Inv C A bd nt ops T' G' F' hg0 (Nat.max nx (G' ops.size).nx) w γ a.defers (λ_=>False) a w1 γ hg0:=by refine⟨m.up (KT _ _),l,ht.1,λs=>?_,λid=>by rw[O3],rfl⟩;rw[O3];exact (ht.2 s).step l
 have d:cnt (λj=>!(Array.replicate ops.size false).getD j true) ops.size<=ops.size:=by
  generalize (λj=>!(Array.replicate ops.size false).getD j true)=p;generalize ops.size=n
  induction n with
  |zero=>exact ZV _
  |succ n ih'=>grind[cnt]
 obtain⟨a',w',γ',hg',I,st⟩:=UQ (b:=b) (k:=k) (cs:=cs) R (aeW _ _) hedge hcalm ops.size (w.tape w.drawn (.order b.fn id)) (Array.replicate ops.size false) (λ_=>False) (by simp)
  (λj=>by simp[Un,aeQ];grind) (λj o _ h=>h.elim) d I0
 have c:∀{K V:Type} {wr:Nat->K->Prop} {val:Nat->K->V} {base:K->V} {k:K},(∀j,j<ops.size->¬wr j k->val (j+1) k=val j k) ->
   ((∃j,j<ops.size/\wr j k)/\ov (λj=>j<ops.size) wr val base ops.size k=val ops.size k)\/((∀j,j<ops.size->¬wr j k)/\ov (λj=>j<ops.size) wr val base ops.size k=base k/\val ops.size k=val 0 k) :=
  λkeep=>Tv (ZV _) keep (by grind)
 refine⟨a',w',γ',hg',I.rel,I.WB,⟨I.size,λs=>?_⟩,I.ZP,λid'=>?_,?_⟩
 ·have:=I.slots s;rcases c (wr:=λi s=>j_ ops i=some s) (val:=λi s=>(T' i).get AV.undef s) (base:=λs=>(T' 0).get AV.undef s) (k:=s) (λj hj hw=>R.keepT hj hw) with⟨_,h⟩|⟨_,h,h2⟩<;>grind
 ·rw[I.R8 id'];rcases c (wr:=λi id=>id∈(F' i).wr) (val:=λi id=>(G' i).h.get id) (base:=hg0) (k:=id') (λj hj hw=>(R.at hj).2.1 id' hw) with⟨h1,h⟩|⟨h1,h,_⟩<;>grind
 ·refine .head stepR_region_draw ?_;have f:Region.schedule (C.P.follows .mixedOrders) ops (w.tape w.drawn (.order b.fn id))=Region.linearise.go .any ops ops.size (w.tape w.drawn (.order b.fn id)) (Array.replicate ops.size false) []:=by
   simp only[Region.schedule,hmix,U4,if_true]
   rfl
  grind[Steps.trans,Steps.one,stepR_region_end]
end
section
variable {body:Code}
section
variable {C:ZO}{A:Nat->Nat->Prop}{bd:Nat}{w w':World}{γ γ':Gm}{hg:Nat->ZM}{nx:Nat}
variable {t:T}{g:G}{ih:IH}
def YU(C:ZO)(A:Nat->Nat->Prop)(bd nt:Nat)(b:Frame)(k:List Item)(cs:List Frame)(m:Machine)(w:World)(γ:Gm)(hg:Nat->ZM)(nx:Nat)(g:G)(e:Ex)(t':T)(df':List ZU)(g':G):Prop :=∃a' w' γ' hg',Fin C A bd w γ hg nx g w' γ' hg' g'/\TR w' γ' A bd nt t' a'.tmps/\DR w' γ' A bd df' a'.defers/\XG C.P m b k cs e a' w'
theorem Nr(hC:ZK C)(hi:Vv C ih){ops:Array Oper}{draw:Bool}{rid:Nat}{e:Ex}
  (h:(im C nt ops.toList draw).run ih (bd+1) rd t df g=.ok e t' df' g'):DX C bd nt rd (.region rid ops draw) t df g e t' df' g':=by
 intro A w γ hg nx b a k cs hr hx K hf ht u O d;unfold im at h;rw[aa]at h
 split at h
 rotate_left
 ·rename_i c;have c:draw=false:=by grind
  subst c;obtain⟨rfl,a',w',γ',hg',f,tr,dr,st⟩:=RD (b:=b) (cs:=cs) (k:=k) hC hi ops.toList 0 (by simp) h K hr hx hf ht u O d;refine⟨a',w',γ',hg',f,tr,dr,.head stepR_region ?_⟩<;>grind[adT]
 rename_i c;subst c;rw[aa]at h
 split at h
 rotate_left
 ·cases h
 rename_i s;have s:s7 0 ops.toList=true/\qk (bO ops.toList []) 0 ops.toList=true /\
   mT (λi x j y=>((bO ops.toList []).getD j 0).testBit i || mB ops.toList x y) 0 ops.toList=true:=by
  simp_all[JJ]
 obtain⟨M,N,V⟩:=s;have p:∀i o,ops[i]?=some o->∀e∈o.after.toList,Region.binds .any e=true->e.on<i:=by intro i o ho e he hb;have:=G7 M i o (by grind) e he hb;omega
 have l:∀i o j b,ops[i]?=some o->o.guard=some (j,b)->((bO ops.toList []).getD i 0).testBit j=true:=by
  intro i o j b ho hg';have:=FH N i o (by grind) j b hg'
  grind
 have q:∀i j oi oj,i<j->ops[i]?=some oi->ops[j]?=some oj->((bO ops.toList []).getD j 0).testBit i=true\/mB ops.toList oi oj=true:=by grind[AH]
 have H:∀id,(γ id).kind=0->hg id=.none:=λid h=>(hr.none_iff id).1 h;rw[aa]at h
 split at h
 ·
  rename_i hq;dsimp only at h;generalize hc:(lV C nt ops.toList ops.toList).run ih (bd+1) rd t df (aS g [])=cr at h;cases cr with
  |fail=>cases h
  | ok e1 t1 df1 g1 =>
   simp only[qt]at h;cases hlg:g1.lg with
   |cons x xs=>grind
   | nil =>
    rw[hlg]at h;dsimp only at h;rw[aa]at h
    split at h
    rotate_left
    ·cases h
    rename_i v;have v:=aH v;injection h with h1 h2 P h4;subst h1;subst h2;subst P;subst h4;obtain⟨rfl,rfl,T',G',F',a1,a2,F,a4,E,L⟩:=QH hC hi ops.toList 0 hc (by grind) (by simp) hlg K.setLog;simp only[Ku,aew]at F a4 E;have R:VU C ih bd rd nt ops true T' G' F' hg:=by
     refine⟨hC,hi,λi o ho=>E i o (by grind),by grind[WF.setLog],by simp_all,λid h1 h2=>?_,λi j _ _=>.inr ?_,λi j j' _ _ _ _ _ _ hm=>?_,q,l,λ_ i _=>L i⟩
     ·rw[a2]at h1;rw[a4,v]at h2;exact H id (hf id (by simp_all) h2)
     all_goals grind[bz,fA,dL,meets]
    obtain⟨a',w',γ',hg',z,r,D,m,J,st⟩:=KD (b:=b) (k:=k) (cs:=cs) (id:=rid) R hC.mixed p hr (by rw[a1];exact ht) d;have B:∀id,hg' id=hg id:=λid=>by grind
    refine⟨a',w',γ',hg',⟨?_,r,⟨[],rfl,λ_ h=>absurd h QA,λid _=>B id⟩⟩,by rw[<-F];exact D,by rw[m];exact u.step r,st⟩<;>grind
 ·dsimp only at h;obtain⟨rfl,rfl,T',G',F',a1,a2,F,a4,E,L⟩:=Sf ops.toList 0 h;simp only[Ku,aew,Nq,DI]at F a4 E L;obtain⟨b1,b2⟩:=NZ L;have W:∀j,j<ops.size->((List.range ops.size).map F')[j]?=some (F' j):=λj hj=>by grind
  have R:VU C ih bd rd nt ops false T' G' F' hg:=by
   refine⟨hC,hi,λi o ho=>(E i o (by grind)).1,by grind,by grind,λid h1 h2=>?_,λi j hij hj=>?_,λi j j' h1 h2 P h4 h5 h6 h7 h8=>?_,q,l,λh=>by cases h⟩
   ·rw[a2]at h1;rw[a4]at h2;exact H id (hf id h1 h2)
   all_goals grind[AH,JV]
  obtain⟨a',w',γ',hg',z,r,D,m,J,st⟩:=KD (b:=b) (k:=k) (cs:=cs) (id:=rid) R hC.mixed p hr (by rw[a1];exact ht) d;have I:∀n,n<=ops.size->∃new,(G' n).lg=new++g.lg/\∀id,id∈new↔∃j,j<n/\id∈(F' j).wr:=by
   intro n
   induction n with
   |zero=>simp_all
   | succ n ihn =>
    intro X;obtain⟨new,e1,Q⟩:=ihn (by omega);have U:n<ops.size:=by omega
    have:=(E n ops[n] (by grind)).2
    grind
  obtain⟨new,e1,Q⟩:=I ops.size (ZV _);refine⟨a',w',γ',hg',⟨by rw[a4]at z;exact z,r,⟨new,by rw[<-a4];exact e1,λid hid=>?_,λid hid=>?_⟩⟩,by rw[<-F];exact D,by rw[m];exact u.step r,st⟩<;>grind
theorem di{P:Program}{b:Frame}{a:Act}{k:List Item}{cs:List Frame}{c:Code} :
  step P (lone (b.atR a (.code (.scope c)::k)) cs w)=.next (lone (b.atR a (.code c::.inScope c::k)) cs w) :=
 step_lone_go (by simp[stepG,stepG.exec,Frame.atR])
theorem sI{P:Program}{b:Frame}{a:Act}{k:List Item}{cs:List Frame}{c:Code} :
  step P (lone (b.atR a (.inScope c::k)) cs w)=.next (lone (b.atR a k) cs w) :=
 step_lone_go (by simp[stepG,stepG.exec,Frame.atR])
theorem ie{P:Program}{m m1 X:Machine}(h:Steps P m X)(hne:m≠X)(hs:step P m=.next m1):Steps P m1 X:=by
 obtain⟨n,k⟩:=h;cases n with
 |zero=>grind[runN]
 |succ n=>exact⟨n,by grind[runN]⟩
theorem GM{b b':Frame}{a a':Act}{k k':List Item}{cs cs':List Frame}{w w':World}(h:lone (b.atR a k) cs w=lone (b'.atR a' k') cs' w'):k=k':=by simp_all[lone,Frame.atR]
theorem zB(hC:ZK C)(hi:Vv C ih){fo:Operand}{s:TM (T->AV)}{ps:Array Tmp}{ZP:Nat}{e:Ex}
  (hs:aW C fo=some s) (h:cj C ih nt (bd+1) rd (s.run t) ps.toList assign body t df ZP g=.ok e t' df' g')
  (hwf:WF g) {b:Frame} {a:Act} {k:List Item} {cs:List Frame} {mark:List Deferred} {blk:Nat}
  (hr:ZB C A bd w γ hg nx) (hx:Wo g.h hg) (hf:Wg γ g g') (ht:TR w γ A bd nt t a.tmps) (hdf:DR w γ A bd df (mark++a.defers)) (hrd:Tf γ rd b) (hcalm:sN b.kind cs)
  (hdfr:(γ ZP).kind=4/\(γ ZP).blk=blk) {w00:World}
  (henter:(Instr.enterLoop b.fn a.tmps ps assign body b.roundOf).run C.P w00=.ok (w.heap.size,mark) (World.add w (.loop { state:=.ready,pending:=none,fn:=b.fn,tmps:=a.tmps,params:=ps,assign,body,defers:=blk }))) :
  YU C A bd nt b k cs (lone (b.atR a (.code (.rangeFunc fo ps assign body)::k)) cs w00) w γ hg nx g e t' df' g':=by
 unfold cj at h;have I:=aC hs ht hr;generalize hfo:a.eval fo=vf at I;generalize s.run t=y at h I;cases I with
 | ZH _ f xs ys vs1 us1 hl hl2 h1 h2 =>
  dsimp only at h;rw[aa]at h
  split at h
  ·cases h
  split at h
  rotate_left
  ·cases h
  rename_i rv0 g2 n
  let L:Loop:={ state:=.ready,pending:=none,fn:=b.fn,tmps:=a.tmps,params:=ps,assign,body,defers:=blk }
  let w1:=World.add w (.loop L)
  let gh:Gh:=⟨3,0,0,0,w.heap.size,0,0,true⟩
  have r:Mon g (g.new (.loop nt t ps.toList assign body ZP .ready none)):=Mon.mk';have wf1:=r.wf hwf;have E:=hi.ZA.call _ _ _ _ _ _ n wf1;have wf2:=E.wf wf1;have m3:=Bw hi.ZA h wf2;have m:(γ g.nx).kind=0:=hf g.nx (ZV _) (Y1 r.nx (Y1 E.nx m3.nx));have h5:ZP≠g.nx:=by grind
  obtain⟨r1,s1⟩:=hr.add (id:=g.nx) (gh:=gh) (o:=.loop L) (ao:=.loop nt t ps.toList assign body ZP .ready none) (nx':=Nat.max nx (g.nx+1)) m rfl (KT _ _) (by grind) (by
   have s0:=JZ (w:=w) (o:=.loop L) (gh:=gh) m rfl;refine⟨by simp[gh],by simp[gh],L,by rw[mS];simp[gh],rfl,rfl,rfl,rfl,rfl,ht.1,λi=>(ht.2 i).step s0,?_,?_⟩
   all_goals grind[dz])
  have f1:Fin C A bd w γ hg nx g w1 (upd γ g.nx gh) _ (g.new (.loop nt t ps.toList assign body ZP .ready none)):=Y9 r1 s1;have h3:=f1.ext r hx;have Z:=f1.freed hr r hf;obtain⟨N,V⟩:=hi.call _ _ _ _ _ _ n;have h8:RV w1 (upd γ g.nx gh) A bd (.NH g.nx) (.func (.yield w.heap.size) #[] #[]):=.NH _ _ _ (by simp[gh]) (by simp[gh]);have F:S9 w1 (upd γ g.nx gh) A bd (xs++(.NH g.nx::ys)) (vs1.toList++(.func (.yield w.heap.size) #[] #[]::us1.toList)):=by
   refine ((Zf hl h1).step s1).append ?_;have hu:=(Zf hl2 h2).step s1;refine⟨by grind,λi x v hx' hv=>?_⟩;cases i with
   |zero=>grind
   |succ i=>exact hu.2 i x v (by grind) (by grind)
  let a1:Act:={ a with defers:=mark++a.defers }
  let fr1:=b.atR a1 (.inRangeFunc w.heap.size::k)
  obtain⟨u,W,γ2,Q,f2,_,fr,st,q1,q2,q3,q4,fn,q5,q6⟩:=V A w1 _ _ _ _ f1.rel h3 wf1 (Z.le m3.nx) F .normal (fr1::cs) (.inl rfl);have z:=f1.trans f2 r E;have h4:=z.ext (r.trans E) hx;have K:(vs1.toList++(.func (.yield w.heap.size) #[] #[]::us1.toList)).toArray=(vs1++#[.func (.yield w.heap.size) #[] #[]])++us1:=by grind
  rw[K]at st;have B:step C.P (lone (b.atR a (.code (.rangeFunc fo ps assign body)::k)) cs w00)=.next (lone (Frame.enter C.P f ((vs1++#[.func (.yield w.heap.size) #[] #[]])++us1) .normal) (fr1::cs) w1):=by
   refine stepR_rangeFunc (l:=w.heap.size) (mark:=mark) (w₁:=w1) (w₁':=w1) (d:={ target:=.fn (.func f) us1,args:=vs1++#[.func (.yield w.heap.size) #[] #[]] }) henter ?_ ?_
   ·simp_all[resolve,Deferred.ofValue,Act.eval]
   ·exact N _ _
  have O:fr1.finish u=b.atR a1 (.endRangeFunc w.heap.size::k):=finish_atR_inRangeFunc _ _;have H:Steps C.P (lone (b.atR a (.code (.rangeFunc fo ps assign body)::k)) cs w00) (lone (b.atR a1 (.endRangeFunc w.heap.size::k)) cs W):=by refine .head B (Steps.trans st (.one ?_));rw[<-O];exact step_leave_returned ⟨q1,q2,q3,fn,by grind,q6⟩
  unfold dB at h
  split at h
  rotate_left
  ·cases h
  rename_i nt3 Y ps3 assign3 body3 dfr3 st3 pend3 D;have D:g2.h.get g.nx=.loop nt3 Y ps3 assign3 body3 dfr3 st3 pend3:=by simp_all
  have R:Q g.nx=.loop nt3 Y ps3 assign3 body3 dfr3 st3 pend3:=by rw[h4 g.nx (by grind),D]
  have U:=z.rel.obj g.nx;rw[R]at U;obtain⟨k1,k2,L2,k3,k4,k5,k6,k7,k8,k9,h9,ha,hb⟩:=U;have M:(γ2 g.nx).blk=w.heap.size:=by have:=f2.WB.blk_eq (id:=g.nx) (by simp[gh]) (by simp[gh]);rw[this];simp[gh]
  obtain⟨r3,s3⟩:=z.rel.setLoop (st':=.exhausted) (pend':=pend3) R k3;rw[M]at k3 r3 s3;have f3:Fin C A bd W γ2 Q (Nat.max nx g2.nx) g2 _ γ2 _ (g2.put g.nx (.loop nt3 Y ps3 assign3 body3 dfr3 .exhausted pend3)):=Y_ r3 s3;have J:Mon g2 (g2.put g.nx (.loop nt3 Y ps3 assign3 body3 dfr3 .exhausted pend3)):=Mon.put wf2 (by grind);have j:=z.trans f3 (r.trans E) J;have h6:(γ2 g.nx).kind≠0:=by omega
  have p:st3≠.busy->(Instr.endLoop w.heap.size).run C.P W=.ok pend3 (World.setBlk W w.heap.size (.loop { L2 with state:=.exhausted,pending:=pend3 })):=by simp_all[Instr.endLoop,nf,yp]
  have q:Stp w γ (World.setBlk W w.heap.size (.loop { L2 with state:=.exhausted,pending:=pend3 })) γ2:=j.WB
  split at h
  ·cases h
  ·rename_i h7;have p:=p (by omega);have X:=Steps.trans H (.one (stepR_endRangeFunc (P:=C.P) (b:=b) (a:=a1) (k:=k) (cs:=cs) p))
   split at h
   ·injection h with e1 e2 e3 e4;subst e1;subst e2;subst e3;subst e4;exact⟨a1,_,γ2,_,j,ht.step q,hdf.step q,by grind[XG]⟩
   ·rename_i c;have m5:=hi.ZA.code _ _ _ _ _ _ _ _ _ _ _ h (J.wf wf2);obtain⟨a',w',γ',hg',f4,tr,dr,ar⟩:=hi.code _ _ _ _ _ _ _ _ _ _ _ h A _ _ _ _ b a1 k cs j.rel (j.ext ((r.trans E).trans J) hx) (J.wf wf2) (j.freed hr ((r.trans E).trans J) hf)
     (ht.step q) (hdf.step q) (hrd.step q) hcalm
    exact⟨a',w',γ',hg',j.trans f4 ((r.trans E).trans J) m5,tr,dr,ar.of_steps (by grind)⟩
 |_=>cases h
theorem F9{P:Program}{o:Obj}:(newObj o).run P w=.ok w.heap.size (World.add w o):=by simp_all[World.add]
theorem G8{P:Program}{fn:FuncId}{ps:Array Tmp} :
  (Instr.enterLoop fn tmps ps assign body none).run P w=.ok (w.heap.size+1,[{ target:=.collected w.heap.size,args:=#[] }])
   (World.add (World.add w (.deferred (some []))) (.loop { state:=.ready,pending:=none,fn,tmps,params:=ps,assign,body,defers:=w.heap.size })):=by
 unfold Instr.enterLoop
 grind[Qk,F9,abi,MV,YO]
theorem Jc{P:Program}{fn:FuncId}{ps:Array Tmp}{l:Nat}{L:Loop}(h:w.heap[l]?=some (.loop L)) :
  (Instr.enterLoop fn tmps ps assign body (some l)).run P w=.ok (w.heap.size,[])
   (World.add w (.loop { state:=.ready,pending:=none,fn,tmps,params:=ps,assign,body,defers:=L.defers })):=by
 unfold Instr.enterLoop;simp only[Qk,nf h,F9,abi,MV]
theorem No(hC:ZK C)(hi:Vv C ih){fo:Operand}{s:TM (T->AV)}{ps:Array Tmp}{e:Ex}
  (hs:aW C fo=some s) (h:qu C nt s.run ps.toList assign body ih (bd+1) rd t df g=.ok e t' df' g'):DX C bd nt rd (.rangeFunc fo ps assign body) t df g e t' df' g':=by
 intro A w γ hg nx b a k cs hr hx q hf ht m j d;unfold qu at h;cases rd with
 | some l =>
  dsimp only at h
  split at h
  rotate_left
  ·cases h
  rename_i nt0 B ps0 as0 bo0 ZP st0 pe0 i;have i:g.h.get l=.loop nt0 B ps0 as0 bo0 ZP st0 pe0:=by simp_all
  have u:hg l=.loop nt0 B ps0 as0 bo0 ZP st0 pe0:=by rw[hx l (by grind),i]
  have n:=hr.obj l;rw[u]at n;obtain⟨H,k2,L,E,I,J,K,M,N,O,D,v,x⟩:=n;have c:=Jc (P:=C.P) (fn:=b.fn) (tmps:=a.tmps) (ps:=ps) (assign:=assign) (body:=body) E;rw[x,<-j.2]at c;exact zB (mark:=[]) hC hi hs h q hr hx hf ht m j d ⟨v,rfl⟩ c
 | none =>
  dsimp only at h
  let gh:Gh:=⟨4,0,0,0,w.heap.size,0,0,true⟩
  have r:Mon g (g.new (.ZP true)):=Mon.mk';have wf1:=r.wf q;have z:=sF hi.ZA h wf1;have f:(γ g.nx).kind=0:=hf g.nx (ZV _) (Y1 r.nx z.nx);obtain⟨F,y⟩:=hr.add (id:=g.nx) (gh:=gh) (o:=.deferred (some [])) (ao:=.ZP true) (nx':=Nat.max nx (g.nx+1)) f rfl (KT _ _) (by grind) (by refine⟨by simp[gh],by simp[gh],by rw[mS];simp[gh]⟩)
  have f1:Fin C A bd w γ hg nx g _ (upd γ g.nx gh) _ (g.new (.ZP true)):=Y9 F y;have c:=G8 (P:=C.P) (w:=w) (fn:=b.fn) (tmps:=a.tmps) (ps:=ps) (assign:=assign) (body:=body);have p:b.roundOf=none:=j;rw[<-p]at c;obtain⟨a',w',γ',hg',f2,tr,dr,ar⟩:=zB (nt:=nt) (rd:=none) (b:=b) (a:=a) (k:=k) (cs:=cs) (mark:=[{ target:=.collected w.heap.size,args:=#[] }]) (blk:=w.heap.size) (w00:=w) hC hi hs h wf1 f1.rel (f1.ext r hx) (f1.freed hr r hf)
   (ht.step y) ⟨⟨by simp[gh],by simp[gh]⟩,m.step y⟩ p d ⟨by simp[gh],by simp[gh]⟩ (by simp_all)
  exact⟨a',w',γ',hg',f1.trans f2 r z,tr,dr,ar⟩
theorem BX(hC:ZK C)(hi:Vv C ih):∀(c:Code) {t:T} {df:List ZU} {g:G} {e:Ex} {t':T} {df':List ZU} {g':G},
  (aR C nt c).run ih (bd+1) rd t df g=.ok e t' df' g'->DX C bd nt rd c t df g e t' df' g':=by
 intro c
 induction c with
 | skip =>intro t df g e t' df' g' h A w γ hg nx b a k cs hr hx n hf ht i o d;simp only[aR]at h;injection h with h1 h2 p h4;subst h1;subst h2;subst p;subst h4;exact⟨a,w,γ,hg,Fin.refl hr,ht,i,.one stepR_skip⟩
 | label l =>intro t df g e t' df' g' h A w γ hg nx b a k cs hr hx n hf ht i o d;simp only[aR]at h;injection h with h1 h2 p h4;subst h1;subst h2;subst p;subst h4;exact⟨a,w,γ,hg,Fin.refl hr,ht,i,.one stepR_label⟩
 |region id ops draw=>intro t df g e t' df' g' h;exact Nr hC hi h
 | seq x y ihx ihy =>
  intro t df g e t' df' g' h A w γ hg nx b a k cs hr hx n hf ht i o d;simp only[aR]at h;generalize hc:(aR C nt x).run ih (bd+1) rd t df g=r at h;cases r with
  |fail=>cases h
  | ok e1 t1 df1 g1 =>
   have u:=lT hC.ZA hi.ZA _ hc n;have wf1:=u.wf n;cases e1 with
   | norm =>have h:(aR C nt y).run ih (bd+1) rd t1 df1 g1=.ok e t' df' g':=h;have z:=lT hC.ZA hi.ZA _ h wf1;obtain⟨a1,w1,γ1,m,f1,tr1,dr1,ar1⟩:=ihx hc A w γ hg nx b a (.code y::k) cs hr hx n (hf.le z.nx) ht i o d;obtain⟨a2,E,γ2,v,f2,tr2,dr2,ar2⟩:=ihy h A w1 γ1 m _ b a1 k cs f1.rel (f1.ext u hx) wf1 (f1.freed hr u hf) tr1 dr1 (o.step f1.WB) d;exact⟨a2,E,γ2,v,f1.trans f2 u z,tr2,dr2,ar2.of_steps (.head stepR_seq ar1)⟩
   | exit j =>have h:CR.ok (.exit j) t1 df1 g1=.ok e t' df' g':=h;injection h with h1 h2 p h4;subst h1;subst h2;subst p;subst h4;obtain⟨a1,w1,γ1,m,f1,tr1,dr1,k₁,hk,ar1⟩:=ihx hc A w γ hg nx b a (.code y::k) cs hr hx n hf ht i o d;exact⟨a1,w1,γ1,m,f1,tr1,dr1,k₁,by rw[hk];rfl,.head stepR_seq ar1⟩
   | ret =>have h:CR.ok .ret t1 df1 g1=.ok e t' df' g':=h;injection h with h1 h2 p h4;subst h1;subst h2;subst p;subst h4;obtain⟨a1,w1,γ1,m,f1,tr1,dr1,k₁,ar1⟩:=ihx hc A w γ hg nx b a (.code y::k) cs hr hx n hf ht i o d;exact⟨a1,w1,γ1,m,f1,tr1,dr1,k₁,.head stepR_seq ar1⟩
 | cond c x y ihx ihy =>
  intro t df g e t' df' g' h A w γ hg nx b a k cs hr hx n hf ht i o d;simp only[aR]at h
  split at h
  rotate_left
  ·cases h
  rename_i s hs;dsimp only at h;have D:=aC hs ht hr;generalize hcv:a.eval c=vc at D;generalize s.run t=cv at h D;cases D with
  | bool _ bv =>
   dsimp only at h;cases bv with
   | true =>obtain⟨a1,w1,γ1,m,f1,tr1,dr1,ar1⟩:=ihx h A w γ hg nx b a k cs hr hx n hf ht i o d;exact⟨a1,w1,γ1,m,f1,tr1,dr1,ar1.of_steps (.one (by simp_all[stepR_cond]))⟩
   | false =>obtain⟨a1,w1,γ1,m,f1,tr1,dr1,ar1⟩:=ihy h A w γ hg nx b a k cs hr hx n hf ht i o d;exact⟨a1,w1,γ1,m,f1,tr1,dr1,ar1.of_steps (.one (by simp_all[stepR_cond]))⟩
  |_=>cases h
 | block id body ihb =>
  intro t df g e t' df' g' h A w γ hg nx b a k cs hr hx n hf ht i o d;simp only[aR]at h;generalize hc:(aR C nt body).run ih (bd+1) rd t df g=r at h;cases r with
  |fail=>cases h
  | ok e1 t1 df1 g1 =>
   cases e1 with
   | norm =>have h:CR.ok .norm t1 df1 g1=.ok e t' df' g':=h;injection h with h1 h2 p h4;subst h1;subst h2;subst p;subst h4;obtain⟨a1,w1,γ1,m,f1,tr1,dr1,ar1⟩:=ihb hc A w γ hg nx b a (.inBlock id::k) cs hr hx n hf ht i o d;exact⟨a1,w1,γ1,m,f1,tr1,dr1,.head stepR_block (Steps.trans ar1 (.one stepR_inBlock))⟩
   | exit j =>
    simp only[zE,aa]at h
    split at h
    ·rename_i B;have B:=aH B;subst B;injection h with h1 h2 p h4;subst h1;subst h2;subst p;subst h4;obtain⟨a1,w1,γ1,m,f1,tr1,dr1,k₁,hk,ar1⟩:=ihb hc A w γ hg nx b a (.inBlock j::k) cs hr hx n hf ht i o d;exact⟨a1,w1,γ1,m,f1,tr1,dr1,.head stepR_block (Steps.trans ar1 (.one (stepR_exit (by grind[exitTo]))))⟩
    ·rename_i B;injection h with h1 h2 p h4;subst h1;subst h2;subst p;subst h4;obtain⟨a1,w1,γ1,m,f1,tr1,dr1,k₁,hk,ar1⟩:=ihb hc A w γ hg nx b a (.inBlock id::k) cs hr hx n hf ht i o d;refine⟨a1,w1,γ1,m,f1,tr1,dr1,k₁,?_,.head stepR_block ar1⟩;rw[hk];have F:(id == j)=false:=by simp only[beq_eq_false_iff_ne,ne_eq];rintro rfl<;>simp_all
     grind[exitTo]
   | ret =>have h:CR.ok .ret t1 df1 g1=.ok e t' df' g':=h;injection h with h1 h2 p h4;subst h1;subst h2;subst p;subst h4;obtain⟨a1,w1,γ1,m,f1,tr1,dr1,k₁,ar1⟩:=ihb hc A w γ hg nx b a (.inBlock id::k) cs hr hx n hf ht i o d;exact⟨a1,w1,γ1,m,f1,tr1,dr1,k₁,.head stepR_block ar1⟩
 | loop body ihb =>
  intro t df g e t' df' g' h A w γ hg nx b a k cs hr hx n hf ht i o d;simp only[aR]at h;generalize hc:(aR C nt body).run ih (bd+1) rd t df g=r at h;cases r with
  |fail=>cases h
  | ok e1 t1 df1 g1 =>
   have u:=lT hC.ZA hi.ZA _ hc n;have wf1:=u.wf n;cases e1 with
   | norm =>
    have h:ih.code nt (bd+1) rd (.loop body) t1 df1 g1=.ok e t' df' g':=h;have z:=hi.ZA.code _ _ _ _ _ _ _ _ _ _ _ h wf1;obtain⟨a1,w1,γ1,m,f1,tr1,dr1,ar1⟩:=ihb hc A w γ hg nx b a (.inLoop body::k) cs hr hx n (hf.le z.nx) ht i o d;obtain⟨a2,E,γ2,v,f2,tr2,dr2,ar2⟩:=hi.code _ _ _ _ _ _ _ _ _ _ _ h A w1 γ1 m _ b a1 k cs f1.rel (f1.ext u hx) wf1 (f1.freed hr u hf) tr1 dr1 (o.step f1.WB) d;refine⟨a2,E,γ2,v,f1.trans f2 u z,tr2,dr2,XG.of_steps (.head stepR_loop (Steps.trans ar1 (.one stepR_inLoop))) ?_⟩;have q:step C.P (lone (b.atR a1 (.code (.loop body)::k)) cs w1)=.next (lone (b.atR a1 (.code body::.inLoop body::k)) cs w1):=stepR_loop;have ne:∀{a':Act} {k':List Item} {w':World},k'≠.code (.loop body)::k->lone (b.atR a1 (.code (.loop body)::k)) cs w1≠lone (b.atR a' k') cs w':=λh h'=>h (GM h').symm;cases e with
    |norm=>exact ie ar2 (ne (λh=>by have:=congrArg List.length h;grind)) q
    | exit j =>obtain⟨k₁,hk,ar2⟩:=ar2;exact⟨k₁,hk,ie ar2 (ne (λh=>by grind)) q⟩
    | ret =>obtain⟨k₁,ar2⟩:=ar2;exact⟨k₁,ie ar2 (ne (λh=>by grind)) q⟩
   | exit j =>have h:CR.ok (.exit j) t1 df1 g1=.ok e t' df' g':=h;injection h with h1 h2 p h4;subst h1;subst h2;subst p;subst h4;obtain⟨a1,w1,γ1,m,f1,tr1,dr1,k₁,hk,ar1⟩:=ihb hc A w γ hg nx b a (.inLoop body::k) cs hr hx n hf ht i o d;exact⟨a1,w1,γ1,m,f1,tr1,dr1,k₁,by rw[hk];rfl,.head stepR_loop ar1⟩
   | ret =>have h:CR.ok .ret t1 df1 g1=.ok e t' df' g':=h;injection h with h1 h2 p h4;subst h1;subst h2;subst p;subst h4;obtain⟨a1,w1,γ1,m,f1,tr1,dr1,k₁,ar1⟩:=ihb hc A w γ hg nx b a (.inLoop body::k) cs hr hx n hf ht i o d;exact⟨a1,w1,γ1,m,f1,tr1,dr1,k₁,.head stepR_loop ar1⟩
 | scope body ihb =>
  intro t df g e t' df' g' h A w γ hg nx b a k cs hr hx n hf ht i o d;have h:(aR C nt body).run ih (bd+1) rd t df g=.ok e t' df' g':=h;obtain⟨a1,w1,γ1,m,f1,tr1,dr1,ar1⟩:=ihb h A w γ hg nx b a (.inScope body::k) cs hr hx n hf ht i o d;refine⟨a1,w1,γ1,m,f1,tr1,dr1,?_⟩;cases e with
  |norm=>exact .head di (Steps.trans ar1 (.one sI))
  |exit j=>obtain⟨k₁,hk,ar1⟩:=ar1;exact⟨k₁,by rw[hk];rfl,.head di ar1⟩
  |ret=>obtain⟨k₁,ar1⟩:=ar1;exact⟨k₁,.head di ar1⟩
 | exit id =>intro t df g e t' df' g' h A w γ hg nx b a k cs hr hx n hf ht i o d;simp only[aR]at h;injection h with h1 h2 p h4;subst h1;subst h2;subst p;subst h4;exact⟨a,w,γ,hg,Fin.refl hr,ht,i,k,rfl,Steps.refl _ _⟩
 | ret =>intro t df g e t' df' g' h A w γ hg nx b a k cs hr hx n hf ht i o d;simp only[aR]at h;injection h with h1 h2 p h4;subst h1;subst h2;subst p;subst h4;exact⟨a,w,γ,hg,Fin.refl hr,ht,i,k,Steps.refl _ _⟩
 | rangeFunc f ps assign body _ _ =>
  intro t df g e t' df' g' h;simp only[aR]at h
  split at h
  ·rename_i s hs;exact No hC hi hs h
  ·cases h
 |_=>intro t df g e t' df' g' h;cases h
theorem Iz(hi:Vv C ih):∀{df:List ZU} {g g':G},gM ih (bd+1) df g=some g'->WF g ->
  ∀{w γ hg nx} {fr:Frame} {cs:List Frame},ZB C A bd w γ hg nx->Wo g.h hg->Wg γ g g'->DR w γ A bd df fr.defers->fr.mode=.returning ->
   ∃w' γ' hg',Fin C A bd w γ hg nx g w' γ' hg' g'/\Steps C.P (lone fr cs w) (lone { fr with defers:=[] } cs w'):=by
 intro df
 induction df with
 | nil =>
  intro g g' h _ w γ hg nx fr cs hr hx hf k hm;simp only[gM]at h;injection h with h;subst h;have hd:fr.defers=[]:=by
   cases hd:fr.defers with
   |nil=>rfl
   |cons d ds=>rw[hd]at k;exact k.elim
  refine⟨w,γ,hg,Fin.refl hr,?_⟩;have:({ fr with defers:=[] }:Frame)=fr:=by cases fr<;>grind
  grind[Steps.refl]
 | cons x df ihl =>
  intro g g' h a w γ hg nx fr cs hr hx hf k hm;cases hd:fr.defers with
  |nil=>rw[hd]at k;cases x<;>exact k.elim
  | cons d ds =>
   rw[hd]at k;cases x with
   | mark id =>
    obtain⟨⟨hk,rfl⟩,k⟩:=k;simp only[gM]at h
    split at h
    ·rename_i i;have i:g.h.get id=.ZP true:=by simp_all
     have t:hg id=.ZP true:=by rw[hx id (by grind),i]
     have n:=hr.obj id;rw[t]at n;obtain⟨E,k2,I⟩:=n;have y:(γ id).kind≠0:=by omega
     have e:Mon g (g.put id (.ZP false)):=Mon.put a (by grind);obtain⟨H,z⟩:=hr.setBlk (id:=id) (o:=.deferred none) (ao:=.ZP false) y k2 ⟨E,k2,by grind[bo]⟩;have f1:Fin C A bd w γ hg nx g _ γ _ (g.put id (.ZP false)):=Y_ H z;have q:=pf hi.ZA h (e.wf a);obtain⟨w',γ',hg',f2,st⟩:=ihl h (e.wf a) (fr:={ fr with defers:=ds }) (cs:=cs) f1.rel (f1.ext e hx) (f1.freed hr e hf) (k.step z) hm;refine⟨w',γ',hg',f1.trans f2 e q,.head (step_lone_go ?_) st⟩;simp_all[Instr.takeDeferred,ia,jy,stepG,unwind]
    grind
   | call fv args =>
    obtain⟨⟨f,ys,us,rfl,j,D,r⟩,k⟩:=k;simp only[gM]at h
    split at h
    rotate_left
    ·cases h
    rename_i v g1 b;have e:=hi.ZA.call _ _ _ _ _ _ b a;have wf1:=e.wf a;have q:=pf hi.ZA h wf1;obtain⟨m,p⟩:=hi.call _ _ _ _ _ _ b
    let fr0:Frame:={ fr with defers:=ds }
    obtain⟨u,w1,γ1,B,f1,_,frX,st,q1,q2,q3,J,fn,q5,F⟩:=p A w γ hg nx (d.args.toList++us.toList) hr hx a (hf.le q.nx) (by grind[S9.append]) .deferred (fr0::cs) (.inr ⟨rfl,fr0,cs,rfl,.inl hm⟩);have l:(d.args.toList++us.toList).toArray=d.args++us:=by grind
    rw[l]at st;obtain⟨w',γ',hg',f2,st2⟩:=ihl h wf1 (fr:=fr0) (cs:=cs) f1.rel (f1.ext e hx) (f1.freed hr e hf) (k.step f1.WB) hm;refine⟨w',γ',hg',f1.trans f2 e q,.head (step_defer (by grind) hd j ?_) (Steps.trans st (.head ?_ st2))⟩
    ·rw[j];simp only[invoke];exact m _ _
    ·have s:frX.going C.P w1 (.returned u):=⟨q1,q2,fn,by grind,F⟩;have:=step_going_returned (P:=C.P) (c:=fr0) (cs:=cs) q3 s;have hs:settle fr0.mode=.returning:=by have:fr0.mode=.returning:=hm;rw[this];rfl
     grind
theorem Lk{P:Program}{ty:TypeId}{x v:Value}{w w':World}(h:(do loadVar ty (<-Instr.sureAddr x):Sem Value).run P w=.ok v w') :
  (do loadVar ty (<-asAddr x):Sem Value).run P w=.ok v w':=by
 cases x with
 |pointer p=>cases p<;>simp[Instr.sureAddr,asAddr]at h ⊢;exact h
 |_=>simp[Instr.sureAddr]at h
theorem EM(hC:ZK C)(ht:TR w γ A bd nt t tmps)(hr:ZB C A bd w γ hg nx)(hx:Wo g.h hg):∀{rs:List ResultVar} {k:TM (T->G->Option (List AV))} {vs:List AV},rC C rs=some k->k.run t g=some vs ->
  ∃us:List Value,(rs.mapM (fun|.tmp t=>pure (tmps.getD t undef)|.cell a t=>do loadVar t (<-asAddr (tmps.getD a undef))):Sem (List Value)).run C.P w=.ok us w/\S9 w γ A bd vs us:=by
 intro rs
 induction rs with
 |nil=>intro k vs h b;simp[rC]at h;subst h;simp at b;subst b;exact⟨[],by simp,rfl,(by grind)⟩
 | cons r rs ihr =>
  intro k vs h b;cases r with
  | tmp n =>
   simp only[rC]at h
   split at h
   ·rename_i k0 d;injection h with h;subst h;dsimp only at b
    split at b
    ·rename_i vs0 c;injection b with b;subst b;obtain⟨us,h1,h2⟩:=ihr d c;refine⟨tmps.getD n undef::us,?_,by simp[h2.1],λi x v hx' hv'=>?_⟩
     ·simp_all
     ·cases i with
      |zero=>simp at hx' hv';subst hx';subst hv';simpa [Un] using ht.2 n
      |succ i=>exact h2.2 i x v (by grind) (by grind)
    grind
   grind
  | cell ad ty =>
   simp only[rC]at h
   split at h
   ·rename_i k0 l d hl;injection h with h;subst h;dsimp only at b
    split at b
    ·rename_i y p
     split at b
     ·rename_i vs0 c;injection b with b;subst b;obtain⟨us,h1,h2⟩:=ihr d c
      let o:Oper:={ (default:Oper) with op:=.load ty (.tmp ad) }
      have f:∀id∈bI C (.load ty (.tmp ad)) t g,hg id=g.h.get id:=by intro id m;exact hx id λq=>by grind[Mc]
      have e:∃v,(do loadVar ty (<-asAddr (tmps.getD ad undef)):Sem Value).run C.P w=.ok v w/\RV w γ A bd y v:=by
       simp only[cP]at hl
       split at hl
       ·rename_i s ag n hs j q;injection hl with hl;subst hl;have:=Ll (g:=g) (ty:=ty) (t:=t) hr (aC (a:={ tmps:=tmps,defers:=[] }) hs ht hr) j q (λid m=>f id (by simp_all[bI,aL,am]));have p:qo ag n s.run t g=.val y:=p;rw[p]at this;obtain⟨v,h1,h2⟩:=this;refine⟨v,?_,h2⟩;have h1:(Instr.loadAt ty (tmps.getD ad undef)).run C.P w=.ok v w:=h1
        grind[Instr.loadAt,Lk]
       grind
      obtain⟨v,u,h4⟩:=e;refine⟨v::us,?_,by simp[h2.1],λi x v' hx' hv'=>?_⟩
      ·grind[Qk,MV,abi]
      ·cases i with
       |zero=>grind
       |succ i=>exact h2.2 i x v' (by grind) (by grind)
     grind
    grind
   grind
theorem Nd:∀(vs:List AV) (i:Nat) (t:T) (s:Nat),(bk i vs t).get AV.undef s=if i<=s/\s<i+vs.length then vs.getD (s - i) AV.undef else t.get AV.undef s:=by
 intro vs
 induction vs with
 |nil=>simp_all[bk,ZF]
 | cons v vs ihv =>
  intro i t s;simp only[bk];rw[ihv,SH]
  grind
theorem D6{vs:List Value}(hv:S9 w γ A bd as vs)(hn:as.length<=nt) :
  TR w γ A bd nt (bk 0 as .nil) (vs.toArray++Array.replicate (nt - vs.toArray.size) undef):=by
 have hl:=hv.1;refine⟨by grind,λs=>?_⟩;rw[Nd]
 by_cases hs:s<as.length
 ·rw[i6];have h1:as[s]?=some (as[s]):=Zq hs;have h2:vs[s]?=some (vs[s]'(by omega)):=(by grind);have:=hv.2 s _ _ h1 h2;have e1:as.getD (s - 0) AV.undef=as[s]:=by grind
  have h:(vs.toArray++Array.replicate (nt - vs.toArray.size) undef).getD s undef=vs[s]'(by omega):=by rw[Un,adR (by grind)];simp[h2]
  grind
 ·rw[bJ,Zg];have h:(vs.toArray++Array.replicate (nt - vs.toArray.size) undef).getD s undef=undef:=by
   rw[Un,Array.getElem?_append_right (by grind),aeQ]
   grind
  grind[dC]
theorem yj{P:Program}{fn:Func}{us:List Value}
  (h:(fn.results.toList.mapM (fun|.tmp t=>pure (tmps.getD t undef)|.cell a t=>do loadVar t (<-asAddr (tmps.getD a undef))):Sem (List Value)).run P w=.ok us w) :
  ∃u,(results fn tmps).run P w=.ok u w/\∀{xs:List AV},S9 w γ A bd xs us->RV w γ A bd (lz xs) u:=by
 have hm:(fn.results.mapM (fun|.tmp t=>pure (tmps.getD t undef)|.cell a t=>do loadVar t (<-asAddr (tmps.getD a undef))):Sem (Array Value)).run P w=.ok us.toArray w:=by simp_all[aeJ]
 refine⟨if hs:us.toArray.size=1 then us.toArray[0] else .tuple us.toArray,?_,?_⟩
 ·unfold results;simp only[Qk];have k:=hm;generalize hq:(fn.results.mapM (fun|.tmp t=>pure (tmps.getD t undef)|.cell a t=>do loadVar t (<-asAddr (tmps.getD a undef))):Sem (Array Value))=q at k;simp_all
 ·intro xs b;have hl:=b.1;have Zz:RV w γ A bd (.Zz xs) (.tuple us.toArray):=.Zz _ _ _ (by omega) λi x v h1 h2=>b.2 i x v h1 (by grind);cases us with
  | nil =>have:xs=[]:=ad9.1 hl;subst this;exact Zz
  | cons u us =>
   cases us with
   | nil =>
    cases xs with
    |nil=>grind
    | cons x xs =>have:xs=[]:=ad9.1 (by grind);subst this;exact b.2 0 x u rfl rfl
   | cons u' us =>
    rw[dif_neg (by simp)];cases xs with
    |nil=>grind
    | cons x xs =>
     cases xs with
     |nil=>grind
     |cons x' xs=>exact Zz
theorem UZ(hC:ZK C)(hi:Vv C ih){x:TM (IH->Nat->List AV->G->FR)}(hx:YE C f=some x)
  (h:x.run ih (bd+1) as g=.ok v g'):mI C.P f/\DW C bd f as g v g':=by
 unfold YE at hx
 split at hx
 ·cases hx
 rename_i fn z
 split at hx
 ·cases hx
 rename_i c y
 split at hx
 rotate_left
 ·cases hx
 rename_i r p;rw[aa]at hx
 split at hx
 ·cases hx
 rename_i D;injection hx with hx;subst hx;refine⟨λargs w=>?_,?_⟩
 ·simp_all[callFunc]
 intro A w γ hg nx vs hr l m hf M K cs i;dsimp only at h;rw[aa]at h
 split at h
 rotate_left
 ·cases h
 rename_i n;rw[R1,ax]at n
 let b:Frame:={ (default:Frame) with fn:=f,kind:=K,roundOf:=none }
 let a0:Act:={ tmps:=vs.toArray++Array.replicate (fn.ntmps - vs.toArray.size) undef,defers:=[] }
 have a:Frame.enter C.P f vs.toArray K=b.atR a0 [.code c]:=by grind[Frame.enter,Frame.atR]
 have key:∀{e:Ex} {t1:T} {df:List ZU} {g1:G},(aR C fn.ntmps c).run ih (bd+1) none (bk 0 as .nil) [] g=.ok e t1 df g1->(∀j,e≠.exit j)->cp ih (bd+1) r.run t1 df g1=.ok v g' ->
   ∃u w' γ' hg',Fin C A bd w γ hg nx g w' γ' hg' g'/\RV w' γ' A bd v u/\Vi C.P K f vs.toArray cs w u w':=by
  intro e t1 df g1 hc L k;have s:=lT hC.ZA hi.ZA _ hc m;have wf1:=s.wf m;unfold cp at k
  split at k
  ·grind
  rename_i g2 h2;have I:=pf hi.ZA h2 wf1
  split at k
  rotate_left
  ·grind
  rename_i xs H;injection k with h1 t;subst t;subst h1;obtain⟨a1,w1,γ1,J,f1,tr1,dr1,ar1⟩:=BX hC hi c hc A w γ hg nx b a0 [] cs hr l m (hf.le I.nx) (D6 M n) trivial rfl i;have q:∃fr:Frame,Steps C.P (lone (Frame.enter C.P f vs.toArray K) cs w) (lone fr cs w1)/\fr.mode=.returning/\fr.defers=a1.defers/\fr.kind=K/\fr.fn=f/\fr.tmps=a1.tmps:=by
   rw[a];cases e with
   |norm=>exact⟨{ b.atR a1 [] with mode:=.returning },Steps.trans ar1 (.one (stepR_end rfl)),rfl,rfl,rfl,rfl,rfl⟩
   | ret =>obtain⟨k₁,ar1⟩:=ar1;exact⟨{ b.atR a1 (.code .ret::k₁) with mode:=.returning },Steps.trans ar1 (.one (stepR_ret rfl)),rfl,rfl,rfl,rfl,rfl⟩
   |exit j=>grind
  obtain⟨fr,st1,q1,q2,q3,N,q5⟩:=q;obtain⟨O,γ2,B,f2,st2⟩:=Iz hi h2 wf1 (fr:=fr) (cs:=cs) f1.rel (f1.ext s l) (f1.freed hr s hf) (by grind) q1;have d:=f1.trans f2 s I;obtain⟨us,F,E⟩:=EM hC (tr1.step f2.WB) d.rel (d.ext (s.trans I) l) p H;obtain⟨u,hu,o⟩:=yj (γ:=γ2) (A:=A) (bd:=bd) F;exact⟨u,O,γ2,B,d,o E,{ fr with defers:=[] },Steps.trans st1 st2,q1,rfl,q3,N,fn,z,by grind⟩
 grind
theorem nY(hC:ZK C):∀n,Vv C (Qu C n):=by
 intro n
 induction n with
 |zero=>exact⟨Eo hC.ZA 0,λbd f as g v g' h=>(by cases h),λbd nt rd c t df g e t' df' g' h=>(by cases h)⟩
 | succ n ihn =>
  refine⟨Eo hC.ZA (n+1),λbd f as g v g' h=>?_,λbd nt rd c t df g e t' df' g' h=>BX hC ihn c h⟩;change gc C (Qu C n) (bd+1) f as g=.ok v g' at h
  grind[gc,UZ]
end
end
end
end Hx
section
namespace Hx
open Go Go.RowKit
def U9:Gm:=λ_=>⟨0,0,0,0,0,0,0,false⟩
def Tj:Nat->Nat->Prop:=λ_ _=>False
theorem YB(b:Nat):¬VA U9 b:=by rintro⟨id,h,_⟩;exact h rfl
abbrev rF (w:World)(x:AV)(v:Value):Prop:=RV w U9 Tj 0 x v
abbrev Y3 (w:World)(xs:List AV)(vs:List Value):Prop:=S9 w U9 Tj 0 xs vs
theorem H9:G.empty.h.get=λ_=>ZM.none:=by funext id;simp[G.empty,H.get,Zg]
theorem I8{C:ZO}(hC:ZK C){n f:Nat}{as:List AV}{v:AV}{g':G}(h:(Qu C n).call 1 f as G.empty=.ok v g'){w:World}{vs:List Value}(hargs:Y3 w as vs)
  (hglob:∀gl sz rows,C.Q6 gl=some (sz,rows)->rF w (.ZR 0 sz rows 0 0) (.pointer (some ⟨gl,0,none⟩))) :
  Calls C.P f vs.toArray w λe w'=>∃u γ' A',e=.returned u/\Below w.heap.size w w'/\RV w' γ' A' 0 v u:=by
 intro cs;have c:=nY hC n;obtain⟨_,a⟩:=c.call 0 f as G.empty v g' h;have hr:ZB C Tj 0 w U9 (λ_=>.none) 0 :=⟨λid=>rfl,λid h=>absurd rfl h,λi j h=>absurd rfl h,λid h=>absurd rfl h,λt b h=>h.elim,hglob⟩
 obtain⟨u,w',γ',hg',fin,rv,fr,st,q1,q2,q3,d,fn,q5,l⟩:=a Tj w U9 _ 0 vs hr (λid h=>by simp_all[H9]) (λid _=>by rw[H9]) (λ_ _ _=>rfl) hargs .normal cs (.inl rfl);refine⟨.returned u,w',fr,⟨u,γ',Tj,rfl,⟨fin.WB.os,fin.WB.tape,fin.WB.output,fin.WB.sz,λk hk=>fin.WB.fr k hk (YB k)⟩,rv⟩,st,d,q1,q2,q3,fn,by grind,l⟩
theorem M4{C:ZO}(hC:ZK C){n f:Nat}{as:List AV}{g':G}(h:(Qu C n).call 1 f as G.empty=.ok (.bool true) g'){w:World}{vs:List Value}(hargs:Y3 w as vs)
  (hglob:∀gl sz rows,C.Q6 gl=some (sz,rows)->rF w (.ZR 0 sz rows 0 0) (.pointer (some ⟨gl,0,none⟩))) :
  Calls C.P f vs.toArray w λe w'=>e=.returned (.bool true)/\Below w.heap.size w w' :=
 (I8 hC h hargs hglob).mono λe w' ⟨u,γ',A',he,hb,rv⟩=>by cases rv<;>grind
end Hx
end
namespace Hx
open Go
noncomputable section
variable {v:AV}{g' g:G}{df df':List ZU}{nt b d f n m c k ti:Nat}{t' t:T}{C:ZO}{as:List AV}{body:SC}{Q:QT}{rd:Option Nat}{assign:Code}{tmps:Array Value}{K:AV->G->Prop}{D:ZU->Prop}
end
end Hx
section
namespace Hx
open Go Go.RowKit
theorem ZK.plain{P:Program}{Wd:Nat->Bool}{Q6:Nat->Option (Nat×List (List AV))}(hm:P.follows .mixedOrders=true)(hrf:P.follows .rangeFuncRecover=true) :
  ZK { P,Wd,ext:=λ_=>none,Q6 } :=
 ⟨hm,hrf,λf e h=>(by cases h),(by grind),(by grind)⟩
theorem ZB.XR{C C':ZO}(h:C'.Q6=C.Q6){A:Nat->Nat->Prop}{bd:Nat}{w:World}{γ:Gm}{hg:Nat->ZM}{nx:Nat}(r:ZB C A bd w γ hg nx):ZB C' A bd w γ hg nx :=⟨r.obj,r.lt,r.inj,r.av,r.ab,by grind[Q6]⟩
theorem Fin.XR{C C':ZO}(h:C'.Q6=C.Q6){A:Nat->Nat->Prop}{bd:Nat}{w w':World}{γ γ':Gm}{hg hg':Nat->ZM}{nx:Nat}{g g':G}(f:Fin C A bd w γ hg nx g w' γ' hg' g') :
  Fin C' A bd w γ hg nx g w' γ' hg' g':=⟨f.rel.XR h,f.WB,f.new⟩
structure Zm (C:ZO) (f:Nat) (e:Nat->List AV->G->OR):Prop where
 ZA:∀d args g,WF g->Mon g (U7 g (e d args g))
 Vo:∀d args g y,e d args g≠.ZP y
 run:∀A bd w γ hg nx g as vs,ZB C A bd w γ hg nx->WF g->(∀id∈as.flatMap (aB g.h aw),g.h.get id≠.none->hg id=g.h.get id)->Wg γ g (U7 g (e (bd+1) as g)) ->
  S9 w γ A bd as vs->e (bd+1) as g≠.fail->∀cs,
  ∃u w' γ' hg',Fin C A bd w γ hg nx g w' γ' hg' (U7 g (e (bd+1) as g))/\RV w' γ' A bd (Q0 (e (bd+1) as g)) u /\
   ((callFunc f vs.toArray).run C.P w=.ok (.value u) w'\/(mI C.P f/\Vi C.P .normal f vs.toArray cs w u w'))
noncomputable def ZO.add(C:ZO)(f:Nat)(e:Nat->List AV->G->OR):ZO:={ C with ext:=λk=>ap (Nat.beq k f) (some e) (C.ext k) }
theorem Zm.XR{C C':ZO}{f:Nat}{e:Nat->List AV->G->OR}(hp:C'.P=C.P)(hgl:C'.Q6=C.Q6)(h:Zm C f e):Zm C' f e:=by
 refine⟨h.ZA,h.Vo,λA bd w γ hg nx g as vs hr hwf hx hf hv hne cs=>?_⟩;obtain⟨u,w',γ',hg',fin,rv,out⟩:=h.run A bd w γ hg nx g as vs (hr.XR hgl.symm) hwf hx hf hv hne cs
 grind[Fin.XR]
theorem ZK.add{C:ZO}(h:ZK C){f:Nat}{e:Nat->List AV->G->OR}(he:Zm C f e):ZK (C.add f e):=by
 have which:∀k e',(C.add f e).ext k=some e'->(k=f/\e'=e)\/C.ext k=some e':=by
  intro k e' hk;have hk:ap (Nat.beq k f) (some e) (C.ext k)=some e':=hk;rw[aa]at hk
  split at hk<;>simp_all
 refine⟨h.mixed,h.P8,λk e' hk d args g hwf=>?_,λk e' hk d args g y=>?_,λk e' hk A bd w γ hg nx g as vs hr hwf hx hf hv hne cs=>?_⟩
 ·rcases which k e' hk with⟨_,rfl⟩|hk
  ·exact he.ZA d args g hwf
  ·exact h.ZA k e' hk d args g hwf
 ·rcases which k e' hk with⟨_,rfl⟩|hk
  ·exact he.Vo d args g y
  ·exact h.Vo k e' hk d args g y
 ·rcases which k e' hk with⟨rfl,rfl⟩|hk
  ·obtain⟨u,w',γ',hg',fin,rv,out⟩:=he.run A bd w γ hg nx g as vs (ZB.XR (C:=C.add k e') (C':=C) rfl hr) hwf hx hf hv hne cs;exact⟨u,w',γ',hg',Fin.XR (C:=C) (C':=C.add k e') rfl fin,rv,out⟩
  ·obtain⟨u,w',γ',hg',fin,rv,out⟩:=h.ext k e' hk A bd w γ hg nx g as vs (ZB.XR (C:=C.add f e) (C':=C) rfl hr) hwf hx hf hv hne cs;exact⟨u,w',γ',hg',Fin.XR (C:=C) (C':=C.add f e) rfl fin,rv,out⟩
noncomputable def E7(v:AV):Nat->List AV->G->OR:=λd as _ =>
 match d with
 | 1=>match as with
  |[]=>.val v
  |_=>.fail
 |_=>.fail
theorem Lc{ih:IH}{d:Nat}{g g0:G}{f:Nat}{v:AV}(h:af ih d g0 f []=.val v):af ih d g f []=.val v:=by
 unfold af at h ⊢;simp only[aD]at h ⊢;cases hc:ih.call (Nat.succ d) f [] G.empty with
 |fail=>grind
 | ok r g' =>
  rw[hc]at h;dsimp only at h ⊢;cases hs:ZS g'.h 0 aw r with
  |none=>grind
  | some r' =>
   rw[hs]at h;dsimp only at h ⊢;cases hm:fZ aw r' with
   |none=>grind
   | some m =>
    rw[hm]at h;dsimp only at h ⊢;cases hb:Nat.blt m d with
    |true=>simp_all
    | false =>
     rw[hb]at h
     split at h
     ·cases h
     ·split at h
      ·cases h
      ·rename_i m' k;cases hb':Nat.blt m' d<;>simp_all
theorem PO{C:ZO}(hC:ZK C){n f:Nat}{v:AV}(h:af (Qu C n) 1 G.empty f []=.val v):Zm C f (E7 v):=by
 have sh:∀d args g,E7 v d args g=.fail\/(d=1/\args=[]/\E7 v d args g=.val v):=by
  intro d args g;unfold E7
  grind
 refine⟨λd args g _=>?_,λd args g y hy=>?_,λA bd w γ hg nx g as vs hr hwf hx hf hv hne cs=>?_⟩
 ·rcases sh d args g with h|⟨_,_,h⟩<;>rw[h]<;>exact Mon.refl g
 ·grind
 ·rcases sh (bd+1) as g with h0|⟨h1,rfl,h0⟩
  ·grind
  ·have a:bd=0:=by omega
   subst a;have hc:=Lc (g:=g) h;rw[h0];have k:=nY hC n;obtain⟨he,u,w',γ',hg',fin,rv,out⟩:=q9 (args:=[]) (f:=f) k.call k.ZA.call hr hx hv (by rw[hc];simp) cs<;>grind
noncomputable def wR{α:Type}(f:α->α->Bool):List α->List α->Bool
 |[],[]=>true
 |a::as,b::bs=>ap (f a b) (wR f as bs) false
 |_,_=>false
noncomputable def Jd:Nat->AV->AV->Bool
 |0,_,_=>false
 | n+1,x,y=>match x with
  |.bool a=>match y with|.bool b=>ap a b (lq b)|_=>false
  |.int k a=>match y with|.int k' b=>ap (dG k k') (FL a b) false|_=>false
  |.Zz a=>match y with|.Zz b=>wR (Jd n) a b|_=>false
  |.agg a=>match y with|.agg b=>wR (Jd n) a b|_=>false
  |.Ud=>match y with|.Ud=>true|_=>false
  |.Z6=>match y with|.Z6=>true|_=>false
  |.Mq=>match y with|.Mq=>true|_=>false
  |.Xu=>match y with|.Xu=>true|_=>false
  |.tO=>match y with|.tO=>true|_=>false
  |.TT=>match y with|.TT=>true|_=>false
  |.Zs t s r=>match y with|.Zs t' s' r'=>ap (Nat.beq t t'&&Nat.beq s s') (wR (wR (Jd n)) r r') false|_=>false
  |.ZH f a c=>match y with|.ZH f' a' c'=>ap (Nat.beq f f') (ap (wR (Jd n) a a') (wR (Jd n) c c') false) false|_=>false
  |_=>false
theorem Fe{α:Type}{f:α->α->Bool}(hf:∀a b,f a b=true->a=b):∀{l l':List α},wR f l l'=true->l=l':=by
 intro l
 induction l with
 | nil=>intro l' h;cases l' with
  |nil=>rfl
  |cons b bs=>cases h
 |cons a as ih=>intro l' h;cases l'<;>grind[wR,aa]
theorem Ve:∀(n:Nat) (x y:AV),Jd n x y=true->x=y:=by
 intro n
 induction n with
 |zero=>intro x y h;cases h
 | succ n ih =>
  intro x y h;have l1:=λ{l l':List AV} (h:wR (Jd n) l l'=true)=>Fe ih h;cases x<;>cases y<;>simp only[Jd]at h<;>first| (cases h;done)|rfl|skip
  ·rename_i a b;cases a<;>cases b<;>first|rfl|simp_all
  ·simp_all[aa,tZ,mK]
  ·rw[l1 h]
  ·rw[l1 h]
  ·rw[aa]at h
   split at h
   ·rename_i hk;simp only[Zk]at hk
    grind[aH,Fe]
   grind
  grind[aa,aH]
noncomputable def D8(as:List AV):List (List AV×AV)->Option AV
 |[]=>none
 |e::r=>ap (wR (Jd aw) e.1 as) (some e.2) (D8 as r)
theorem KX{as:List AV}{v:AV}:∀{l:List (List AV×AV)},D8 as l=some v->(as,v)∈l:=by
 intro l
 induction l<;>grind[D8,aa,Fe,Ve]
noncomputable def V9(d:Nat):FR->Option AV
 |.fail=>none
 | .ok r g'=>match ZS g'.h 0 aw r with
  |none=>none
  | some r'=>match fZ aw r' with
   |none=>none
   |some m=>ap (Nat.blt m d) (some r') none
theorem Ld{ih:IH}{d:Nat}{g:G}{f:Nat}{args as:List AV}{v:AV}(hs:aD (ZS g.h d aw) args=some as)(h:V9 d (ih.call (Nat.succ d) f as G.empty)=some v) :
  af ih d g f args=.val v:=by
 unfold af;rw[hs];dsimp only;cases hc:ih.call (Nat.succ d) f as G.empty with
 |fail=>rw[hc]at h;cases h
 | ok r g' =>
  rw[hc]at h;simp only[V9]at h;dsimp only;cases hs':ZS g'.h 0 aw r with
  |none=>grind
  | some r' =>
   rw[hs']at h;dsimp only at h ⊢;cases hm:fZ aw r' with
   |none=>grind
   | some m =>rw[hm]at h;dsimp only at h ⊢;cases hb:Nat.blt m d<;>simp_all
end Hx
end
namespace Hx
open Go
noncomputable section
variable {v:AV}{g' g:G}{df df':List ZU}{nt b d f n m c k ti:Nat}{t' t:T}{C:ZO}{as:List AV}{body:SC}{Q:QT}{rd:Option Nat}{assign:Code}{tmps:Array Value}{K:AV->G->Prop}{D:ZU->Prop}
section
variable {x y:Nat}
def kR(J:PT)(b:Nat)(Q:QT):QT:=λe t df g=>match e with
 |.norm=>J t df g
 |.exit x=>if x=b then J t df g else Q (.exit x) t df g
 |.ret=>Q .ret t df g
theorem Jy(J:PT)(b:Nat)(Q:QT)(t:T)(df:List ZU)(g:G):kR J b Q .norm t df g=J t df g:=rfl
theorem q_(J:PT)(b x:Nat)(Q:QT)(t:T)(df:List ZU)(g:G):kR J b Q (.exit x) t df g=if x=b then J t df g else Q (.exit x) t df g:=rfl
theorem S3(J:PT)(b:Nat)(Q:QT)(t:T)(df:List ZU)(g:G):kR J b Q .ret t df g=Q .ret t df g:=rfl
variable {C:ZO}{d:Nat}{rd:Option Nat}
theorem ch:∀(s:SC) {Q Q':QT} {t:T} {df:List ZU} {g:G},wp C d rd s Q t df g->(∀e t df g,Q e t df g->Q' e t df g)->wp C d rd s Q' t df g:=by
 have j:∀(l:List SI) {Q Q':PT} {t:T} {df:List ZU} {g:G},RZ C d rd l Q t df g->(∀t df g,Q t df g->Q' t df g)->RZ C d rd l Q' t df g:=by
  intro l
  induction l with
  |nil=>intro Q Q' t df g h hq;exact hq _ _ _ h
  | cons i r ih =>
   intro Q Q' t df g h hq;have run:∀t df g,sG C d rd i (RZ C d rd r Q) t df g->sG C d rd i (RZ C d rd r Q') t df g:=λt df g h =>OR.sat_mono h (λv g' h=>ih h hq) (λa h=>ih h hq)
   have skp:∀t df g,C8 i (RZ C d rd r Q) t df g->C8 i (RZ C d rd r Q') t df g:=λt df g h=>ih h hq;unfold RZ at h ⊢
   split at h
   ·grind
   ·rename_i s w hg;unfold HB at h ⊢
    split at h
    ·rw[aa]at h ⊢
     split at h
     ·rename_i hw;rw[ZN hw];exact⟨λq=>run _ _ _ (h.1 q),λq=>skp _ _ _ (h.2 q)⟩
     ·rename_i hw;rw[ZF hw];exact⟨λq=>skp _ _ _ (h.1 q),λq=>run _ _ _ (h.2 q)⟩
    all_goals grind
 have m:∀(pm:List Nat) (l:List SI) {Q Q':PT} {t:T} {df:List ZU} {g:G} {fs:List ZC},XU C d rd pm l Q t df g fs->(∀t df g,Q t df g->Q' t df g)->XU C d rd pm l Q' t df g fs:=by
  intro pm l
  induction l with
  |nil=>intro Q Q' t df g fs h hq;exact⟨h.1,hq _ _ _ h.2⟩
  | cons i r ih =>
   intro Q Q' t df g fs h hq;have run:∀t df g,QY C d rd i (XU C d rd pm r Q) fs t df g->QY C d rd i (XU C d rd pm r Q') fs t df g:=λt df g h =>OR.sat_mono h (λv g' h=>ih h hq) (λa h=>h)
   have skp:∀t df g,L9 i (XU C d rd pm r Q) fs t df g->L9 i (XU C d rd pm r Q') fs t df g:=λt df g h=>ih h hq;unfold XU at h ⊢
   split at h
   ·grind
   ·rename_i s w hg;unfold HB at h ⊢
    split at h
    ·rw[aa]at h ⊢
     split at h
     ·rename_i hw;rw[ZN hw];exact⟨λq=>run _ _ _ (h.1 q),λq=>skp _ _ _ (h.2 q)⟩
     ·rename_i hw;rw[ZF hw];exact⟨λq=>skp _ _ _ (h.1 q),λq=>run _ _ _ (h.2 q)⟩
    all_goals grind
 intro s
 induction s with
 |skip=>intro Q Q' t df g h hq;exact hq _ _ _ _ h
 |ops l=>intro Q Q' t df g h hq;exact j l h (hq _)
 |quiet l=>intro Q Q' t df g h hq;exact j l h (λt df g' h=>⟨h.1,h.2.1,hq _ _ _ _ h.2.2⟩)
 |Q8 pm l=>intro Q Q' t df g h hq;exact m pm l h (hq _)
 | seq a b iha ihb =>
  intro Q Q' t df g h hq;refine iha h λe t df g h=>?_;cases e with
  |norm=>exact ihb h hq
  |exit x=>exact hq _ _ _ _ h
  |ret=>exact hq _ _ _ _ h
 | cond c a b iha ihb =>
  intro Q Q' t df g h hq;have h:wpC (c.get t) (wp C d rd a Q) (wp C d rd b Q) t df g:=h;show wpC (c.get t) (wp C d rd a Q') (wp C d rd b Q') t df g;unfold wpC at h ⊢
  split at h
  ·exact⟨λq=>iha (h.1 q) hq,λq=>ihb (h.2 q) hq⟩
  omega
 | blk id b ih =>
  intro Q Q' t df g h hq;refine ih h λe t df g h=>?_;cases e with
  |norm=>exact hq _ _ _ _ h
  | exit x =>
   rw[mN]at h ⊢
   grind
  |ret=>exact hq _ _ _ _ h
 | loop b ih =>
  intro Q Q' t df g h hq;obtain⟨Inv,hk,hs⟩:=h;refine⟨Inv,hk,λk t df g hi=>ih (hs k t df g hi) λe t df g h=>?_⟩;cases e with
  |norm=>exact h
  |exit x=>exact hq _ _ _ _ h
  |ret=>exact hq _ _ _ _ h
 |exit id=>intro Q Q' t df g h hq;exact hq _ _ _ _ h
 |ret=>intro Q Q' t df g h hq;exact hq _ _ _ _ h
 |Yv nt f ps a b _ _=>intro Q Q' t df g h hq assign body ha hb;exact CR.sat_mono (h assign body ha hb) hq
 |raw nt c=>intro Q Q' t df g h hq;exact CR.sat_mono h hq
theorem b_{tn B:Nat}(hm:m<2^63)(J:Nat->PT)
  (h0:J 0 t df g) (hi:ZY t ti=.int .i64 0) (hn:ZY t tn=.int .i64 (m:Int)) (hc:c≠ti/\c≠tn/\k≠tn/\ti≠tn/\b≠B)
  (hJ:∀j t df g v s,s=c\/s=ti\/s=k->J j t df g->J j (f_ t s v) df g)
  (step:∀j t df g,j<m->J j t df g->ZY t ti=.int .i64 (j:Int)->ZY t tn=.int .i64 (m:Int) ->
   wp C d rd body (kR (λt df g=>J (j+1) t df g/\ZY t ti=.int .i64 (j:Int)/\ZY t tn=.int .i64 (m:Int)) b Q) t df g)
  (fin:∀t df g,J m t df g->Q (.exit B) t df g) :
  Uk (wp C d rd (.seq (.ops [o c (.bin .lss (.t ti) (.t tn))]) (.seq (.cond (.t c) .skip (.exit B)) (.seq (.blk b body) (.ops [o k (.bin .add (.t ti) (.k (.int .i64 1))),o ti (.mv (.t k))]))))) Q t df g:=by
 obtain⟨c1,i,l,p,q⟩:=hc;refine gB (λn t df g=>∃j:Nat,n=m - j/\j<=m/\J j t df g/\ZY t ti=.int .i64 (j:Int)/\ZY t tn=.int .i64 (m:Int)) m (by grind) ?_;rintro n t df g ⟨j,rfl,r,a,h1,h2⟩;simp only[sx,SO.run,↓reduceIte,h1,h2];refine⟨λhq=>?_,λhq=>?_⟩
 ·have hlt:j<m:=by grind
  simp only[sx];refine ch _ (step j _ df g hlt (by grind) (by simp_all[gn,Vw]) (by simp_all[gn,Vw])) λe t df g h=>?_;have key:J (j+1) t df g/\ZY t ti=.int .i64 (j:Int)/\ZY t tn=.int .i64 (m:Int)->wp C d rd (.ops [o k (.bin .add (.t ti) (.k (.int .i64 1))),o ti (.mv (.t k))])
    (kL (λn t df g=>∃j:Nat,n=m - j/\j<=m/\J j t df g/\ZY t ti=.int .i64 (j:Int)/\ZY t tn=.int .i64 (m:Int)) (m - j) Q) t df g:=by
   rintro⟨a1,a2,f⟩;simp only[sx,SO.run,a2,↓reduceIte];refine⟨_,?_,j+1,rfl,by omega,(by grind),?_,?_⟩
   ·omega
   ·grind[aq]
   grind
  cases e with
  |norm=>exact key h
  |ret=>exact h
  | exit x =>
   rw[q_]at h;rw[mN]
   split at h
   ·rename_i e;rw[ZN e];exact key h
   ·rename_i e;rw[ZF e];exact h
 ·have:j=m:=by grind
  simp_all[sx]
theorem J8{Hd inc:SC}{B:Nat}(J:Nat->PT)(h0:J 0 t df g)
  (hd:∀j t df g,j<=m->J j t df g->wp C d rd Hd (λe t df g=>e=.norm/\ZY t c=.bool (decide (j<m))/\J j t df g) t df g)
  (step:∀j t df g,j<m->J j t df g->wp C d rd body (kR (λt df g=>wp C d rd inc (λe t df g=>e=.norm/\J (j+1) t df g) t df g) b Q) t df g)
  (fin:∀t df g,J m t df g->Q (.exit B) t df g) :
  Uk (wp C d rd (.seq (.seq Hd (.cond (.t c) .skip (.exit B))) (.seq (.blk b body) inc))) Q t df g:=by
 refine gB (λn t df g=>∃j:Nat,n=m - j/\j<=m/\J j t df g) m (by grind) ?_;rintro n t df g ⟨j,rfl,a,k⟩;simp only[eO];refine ch _ (hd j t df g a k) ?_;rintro e t df g ⟨rfl,hq,k⟩;simp only[sx,hq];refine⟨λhq=>?_,λhq=>?_⟩
 ·have hlt:j<m:=by grind
  simp only[sx];refine ch _ (step j t df g hlt k) λe t df g h=>?_;have key:wp C d rd inc (λe t df g=>e=.norm/\J (j+1) t df g) t df g->wp C d rd inc (kL (λn t df g=>∃j:Nat,n=m - j/\j<=m/\J j t df g) (m - j) Q) t df g:=by intro h;refine ch _ h ?_;rintro e t df g ⟨rfl,h⟩;exact⟨_,by omega,j+1,rfl,by omega,h⟩
  cases e with
  |norm=>exact key h
  |ret=>exact h
  | exit x =>
   rw[q_]at h;rw[mN]
   split at h
   ·rename_i e;rw[ZN e];exact key h
   ·rename_i e;rw[ZF e];exact h
 ·have:j=m:=by grind
  simp_all[sx]
theorem ro{a b' e sl B:Nat}(hm:m<2^63)(hlen:∀g,gz .slice v g=.val (.int .i64 (m:Int)))(J:Nat->PT)
  (h0:J 0 t df g) (hi:ZY t ti=.int .i64 0) (hs:ZY t sl=v)
  (hc:(a≠ti/\b'≠ti/\e≠ti/\c≠ti)/\(a≠sl/\b'≠sl/\e≠sl/\c≠sl/\x≠sl/\y≠sl/\ti≠sl)/\a≠b'/\a≠e/\x≠y)
  (hJ:∀j t df g v s,s=a\/s=b'\/s=e\/s=c\/s=ti\/s=x\/s=y->J j t df g->J j (f_ t s v) df g)
  (step:∀j t df g,j<m->J j t df g->ZY t ti=.int .i64 (j:Int)->ZY t sl=v ->
   wp C d rd body (kR (λt df g=>J (j+1) t df g/\ZY t ti=.int .i64 (j:Int)/\ZY t sl=v) b Q) t df g)
  (fin:∀t df g,J m t df g->ZY t sl=v->Q (.exit B) t df g) :
  Uk (wp C d rd (.seq (.seq (.ops [o a (.mv (.t ti)),o b' (.mv (.t sl)),o e (.len .slice (.t b')),o c (.bin .lss (.t a) (.t e))]) (.cond (.t c) .skip (.exit B))) (.seq (.blk b body)
   (.ops [o x (.mv (.t ti)),o y (.bin .add (.t x) (.k (.int .i64 1))),o ti (.mv (.t y))])))) Q t df g:=by
 obtain⟨⟨q1,q2,q3,l⟩,⟨n,p,q,r,r5,u,w⟩,p1,p2,p3⟩:=hc;refine J8 (m:=m) (λj t df g=>J j t df g/\ZY t ti=.int .i64 (j:Int)/\ZY t sl=v) ⟨h0,hi,hs⟩ ?_ ?_ (by grind)
 ·rintro j t df g i ⟨h1,h2,f⟩;simp only[sx,SO.run,h2,f,hlen,p1,p2,Vw n,↓reduceIte,Vw q1,Vw q2,Vw q3,Vw l,Vw p,Vw q,Vw r,true_and,and_true]
  grind
 ·rintro j t df g i ⟨h1,h2,f⟩;refine ch _ (step j t df g i h1 h2 f) λe t df g h=>?_;have key:J (j+1) t df g/\ZY t ti=.int .i64 (j:Int)/\ZY t sl=v->wp C d rd (.ops [o x (.mv (.t ti)),o y (.bin .add (.t x) (.k (.int .i64 1))),o ti (.mv (.t y))])
    (λe t df g=>e=.norm/\J (j+1) t df g/\ZY t ti=.int .i64 ((j+1:Nat):Int)/\ZY t sl=v) t df g:=by
   rintro⟨h1,h2,f⟩;simp only[sx,SO.run,h2,↓reduceIte,Vw r5,Vw u,Vw w,f,true_and,and_true];refine⟨(by grind),?_⟩
   grind[aq]
  cases e with
  |norm=>exact key h
  |ret=>exact h
  | exit x =>
   rw[q_]at h ⊢
   grind
theorem uf{a B:Nat}(hm:m<2^63)(J:Nat->PT)
  (h0:J m t df g) (hi:ZY t ti=.int .i64 ((m:Int) - 1)) (hc:a≠ti/\c≠ti/\x≠ti)
  (hJ:∀j t df g v s,s=a\/s=c\/s=ti\/s=x\/s=y->J j t df g->J j (f_ t s v) df g)
  (step:∀j t df g,j<m->J (j+1) t df g->ZY t ti=.int .i64 (j:Int)->wp C d rd body (kR (λt df g=>J j t df g/\ZY t ti=.int .i64 (j:Int)) b Q) t df g)
  (fin:∀t df g,J 0 t df g->Q (.exit B) t df g) :
  Uk (wp C d rd (.seq (.seq (.ops [o a (.mv (.t ti)),o c (.bin .geq (.t a) (.k (.int .i64 0)))]) (.cond (.t c) .skip (.exit B))) (.seq (.blk b body)
   (.ops [o x (.mv (.t ti)),o y (.bin .sub (.t x) (.k (.int .i64 1))),o ti (.mv (.t y))])))) Q t df g:=by
 obtain⟨c1,f,i⟩:=hc;refine gB (λn t df g=>n<=m/\J n t df g/\ZY t ti=.int .i64 ((n:Int) - 1)) m (by grind) ?_;rintro n t df g ⟨p,l,h1⟩;simp only[sx,SO.run,↓reduceIte,h1];refine⟨λhq=>?_,λhq=>?_⟩
 ·obtain⟨j,rfl⟩:∃j,n=j+1:=⟨n - 1,by grind⟩;simp only[sx];refine ch _ (step j _ df g (by omega) (by grind) (by simp_all[gn,Vw])) λe t df g h=>?_;have key:J j t df g/\ZY t ti=.int .i64 (j:Int)->wp C d rd (.ops [o x (.mv (.t ti)),o y (.bin .sub (.t x) (.k (.int .i64 1))),o ti (.mv (.t y))])
    (kL (λn t df g=>n<=m/\J n t df g/\ZY t ti=.int .i64 ((n:Int) - 1)) (j+1) Q) t df g:=by
   rintro⟨a1,a2⟩;simp only[sx,SO.run,a2,↓reduceIte];refine⟨j,by omega,by omega,(by grind),?_⟩
   grind[aq]
  cases e with
  |norm=>exact key h
  |ret=>exact h
  | exit x =>
   rw[q_]at h;rw[mN]
   split at h
   ·rename_i e;rw[ZN e];exact key h
   ·rename_i e;rw[ZF e];exact h
 ·have:n=0:=by grind
  subst this;simp only[sx]
  grind
theorem bh{Hd:List SI}{B:Nat}(m:Nat)(hm:m<2^63)(J:Nat->PT)
  (h0:J 0 t df g) (hi:ZY t ti=.int .i64 0) (hx:x≠ti)
  (hJ:∀j t df g v s,s=ti\/s=x\/s=y->J j t df g->J j (f_ t s v) df g)
  (hd:∀j t df g,j<=m->J j t df g->ZY t ti=.int .i64 (j:Int)->RZ C d rd Hd (λt df g=>ZY t c=.bool (decide ((j:Int)<(m:Int)))/\J j t df g/\ZY t ti=.int .i64 (j:Int)) t df g)
  (step:∀j t df g,j<m->J j t df g->ZY t ti=.int .i64 (j:Int)->wp C d rd body (kR (λt df g=>J (j+1) t df g/\ZY t ti=.int .i64 (j:Int)) b Q) t df g)
  (fin:∀t df g,J m t df g->Q (.exit B) t df g) :
  Uk (wp C d rd (.seq (.seq (.ops Hd) (.cond (.t c) .skip (.exit B))) (.seq (.blk b body)
   (.ops [o x (.mv (.t ti)),o y (.bin .add (.t x) (.k (.int .i64 1))),o ti (.mv (.t y))])))) Q t df g:=by
 refine J8 (m:=m) (λj t df g=>J j t df g/\ZY t ti=.int .i64 (j:Int)) ⟨h0,hi⟩ ?_ ?_ (by grind)
 ·rintro j t df g a ⟨h1,h2⟩;have:=hd j t df g a h1 h2;refine ch (.ops Hd) (Q:=λe t df g=>e=.norm/\ZY t c=.bool (decide ((j:Int)<(m:Int)))/\J j t df g/\ZY t ti=.int .i64 (j:Int)) (by rw[GQ];simpa using this) ?_<;>grind
 ·rintro j t df g a ⟨h1,h2⟩;refine ch _ (step j t df g a h1 h2) λe t df g h=>?_;have key:J (j+1) t df g/\ZY t ti=.int .i64 (j:Int)->wp C d rd (.ops [o x (.mv (.t ti)),o y (.bin .add (.t x) (.k (.int .i64 1))),o ti (.mv (.t y))])
    (λe t df g=>e=.norm/\J (j+1) t df g/\ZY t ti=.int .i64 ((j+1:Nat):Int)) t df g:=by
   rintro⟨h1,h2⟩;simp only[sx,SO.run,h2,↓reduceIte,true_and];refine⟨(by grind),?_⟩
   grind[aq]
  cases e with
  |norm=>exact key h
  |ret=>exact h
  | exit x =>
   rw[q_]at h ⊢
   grind
end
section
variable {i off:Nat}
def Zi:AV->Option Nat
 |.ZG id _ _ _ _=>some id
 |_=>none
def Own(g:G)(b:Nat)(v:AV)(sz:Nat)(rows:List (List AV)):Prop :=(v=.Z6/\rows=[])\/∃id ep lo,b<=id/\id<g.nx/\v=.ZG id ep 0 rows.length none/\g.h.get id=.cells sz rows ep lo false
theorem Own.rows{g:G}{b:Nat}{v:AV}{sz:Nat}{rows:List (List AV)}(h:Own g b v sz rows):ak g.h sz v=some rows:=by
 rcases h with⟨rfl,rfl⟩|⟨id,ep,lo,h1,h2,rfl,k⟩
 ·rfl
 grind[fX,CV]
theorem Own.fr{g:G}{sz:Nat}{rows:List (List AV)}(h:Own g b v sz rows)(hn:g.nx<=g'.nx)(hf:∀i,Zi v=some i->g'.h.get i=g.h.get i):Own g' b v sz rows:=by
 rcases h with h|⟨id,ep,lo,h1,h2,rfl,k⟩
 ·exact .inl h
 ·exact .inr ⟨id,ep,lo,h1,by omega,rfl,by rw[hf id rfl,k]⟩
theorem Own.lt{g:G}{sz:Nat}{rows:List (List AV)}(h:Own g b v sz rows)(hi:Zi v=some i):b<=i/\i<g.nx:=by
 rcases h with⟨rfl,-⟩|⟨id,ep,lo,h1,h2,rfl,k⟩
 ·cases hi
 ·injection hi with hi;omega
theorem Own.cell{g:G}{sz:Nat}{rows:List (List AV)}(h:Own g b v sz rows):v.cells=[v]/\v.isTup=false:=by rcases h with⟨rfl,-⟩|⟨id,ep,lo,h1,h2,rfl,k⟩<;>exact⟨rfl,rfl⟩
theorem aP{g:G}{x:AV}{sz bytes:Nat}{rows new:List (List AV)}(hv:Own g b v sz rows)(hx:ak g.h sz x=some new)(hb:b<=g.nx)
  (hr:(rows.length+new.length)*bytes<=aQ)
  (k:∀v' g',Own g' b v' sz (rows++new)->g.nx<=g'.nx->(∀i,i<g.nx->Zi v≠some i->g'.h.get i=g.h.get i)->(Zi v'=Zi v\/∃i,Zi v'=some i/\g.nx<=i)->(∀i∈g'.lg,i∈g.lg\/b<=i)->K v' g') :
  (eS sz bytes v x g).sat K g D:=by
 unfold eS;rw[hx];dsimp only;rcases hv with⟨rfl,rfl⟩|⟨id,ep,lo,h1,h2,rfl,a⟩
 ·cases new with
  |nil=>exact k _ _ (.inl ⟨rfl,rfl⟩) (ZV _) (λ_ _ _=>rfl) (.inl rfl) (by grind)
  | cons r new =>
   simp only[bK,ax,aa,R1];rw[ZN (by grind)];refine k _ _ (.inr ⟨g.nx,0,true,hb,by simp,rfl,by simp[aY]⟩) (by simp) (λi hi _=>?_) (.inr ⟨g.nx,rfl,ZV _⟩) (λi hi=>by simp at hi;grind)
   grind[G.new_h,aF]
 ·simp only[bK,G.get_eq,a,ax,aa,show Nat.beq ep ep=true from X_ ep,show Nat.beq sz sz=true from X_ sz,U2,R1,Zk,Ku,XH,Fa];rw[ZN ⟨ZV _,hr⟩];cases new with
  | nil =>rw[ZN (by simp)];refine k _ _ (.inr ⟨id,ep,lo,h1,h2,by simp,by grind⟩) (ZV _) (λ_ _ _=>rfl) (.inl rfl) (by grind)
  | cons r new =>
   rw[ZF (by simp)];have ht:iE rows.length (gN 0 rows)=rows:=by grind[bE,bu]
   cases lo with
   | false =>
    rw[ZN (by simp)];refine k _ _ (.inr ⟨g.nx,0,true,by omega,by simp,by simp,by simp_all[aY]⟩) (by simp) (λi hi _=>?_) (.inr ⟨g.nx,rfl,ZV _⟩) (λi hi=>by simp at hi;grind)
    grind[G.new_h,aF]
   | true =>rw[ZF (by simp)];refine k _ _ (.inr ⟨id,ep+1,true,h1,by simp_all,by simp,by simp_all[aY]⟩) (by simp) (λi hi hne=>?_) (.inl rfl) (λi hi=>by simp at hi;grind);rw[G.put_h,aF (λe=>hne (by rw[e];rfl))]
def Fr(g g':G):Prop:=g.nx<=g'.nx/\∀i,i<g.nx->g'.h.get i=g.h.get i
theorem Fr.refl(g:G):Fr g g:=⟨ZV _,λ_ _=>rfl⟩
theorem Fr.trans{g g'':G}(h:Fr g g')(h':Fr g' g''):Fr g g'':=⟨Y1 h.1 h'.1,λi hi=>by rw[h'.2 i (Vd hi h.1),h.2 i hi]⟩
theorem Fr.new(g:G)(o:ZM):Fr g (g.new o):=⟨by simp,λi hi=>by grind[G.new_h,aF]⟩
theorem Own.step{g:G}{sz:Nat}{rows:List (List AV)}(h:Own g b v sz rows)(f:Fr g g'):Own g' b v sz rows :=h.fr f.1 λi hi=>f.2 i (h.lt hi).2
theorem QW{g:G}{sz:Nat}(f:Fr g g')(hv:∀i,Zi v=some i->i<g.nx):ak g'.h sz v=ak g.h sz v :=yk λid ep off len lim e=>by subst e;exact f.2 id (hv id rfl)
theorem bZ{g:G}{sz:Nat}{rows:List (List AV)}{row row':List AV}{x:AV}(hv:Own g b v sz rows)(hr:rows[i]?=some row)
  (hl:x.cells.length=n) (ht:x.isTup=false) (hp:dh row off x.cells=some row')
  (k:∀g',Own g' b v sz (rows.set i row')->g'.nx=g.nx->(∀i,Zi v≠some i->g'.h.get i=g.h.get i)->K .undef g'):(qA n (mA sz v i off) x g).sat K g D:=by
 rcases hv with⟨rfl,rfl⟩|⟨id,ep,lo,h1,h2,rfl,a⟩
 ·grind
 ·simp only[mA,Ku];rw[GD a hr rfl ht hl hp];refine k _ (.inr ⟨id,ep,lo,h1,by simp_all,by simp,by simp[aY]⟩) (by simp) (λi hne=>?_);rw[G.put_h,aF (λe=>hne (by rw[e];rfl))]
theorem rf{g:G}{sz bytes:Nat}{zero:List AV}{k1 k2:IntKind}(hn:n<=aQ)(hb:n*bytes<=aQ)(hg:b<=g.nx)
  (k:∀v' g',Own g' b v' sz (List.replicate n zero)->g'.nx=g.nx+1->(∀i,i<g.nx->g'.h.get i=g.h.get i)->Zi v'=some g.nx->K v' g') :
  (M9 sz bytes zero (.int k1 (n:Int)) (.int k2 (n:Int)) g).sat K g D:=by
 show (match dU aQ (.int k2 (.ofNat n)) with
  | some cn=>match dU cn (.int k1 (.ofNat n)) with
   |some ln=>ap (Nat.ble (cn*bytes) aQ) (OR.upd (.ZG g.nx 0 0 ln none) (g.new (Z4 sz (jb cn zero)))) .fail
   |none=>.fail
  |none=>.fail).sat K g D
 simp only[dU,aa,R1,ZN hn,ZV,ZN hb,if_true];refine k _ _ (.inr ⟨g.nx,0,false,hg,by simp,by simp,by simp[aY,jb]⟩) (by simp) (λi hi=>?_) rfl
 grind[G.new_h,aF]
theorem Own.sl{α:Type} [Rp α]{g:G}{rows:List (List AV)}{l:List α}{P:Nat->Prop}(h:Own g b v (Rp.sz α) rows)(hl:l.length<2^63)(hr:ZL (Rp.rp P k g.h) l rows)
  (hp:∀i,Zi v=some i->P i):ZT P k g.h l v:=by
 refine⟨hl,?_⟩;have a:=h.rows;rcases h with⟨rfl,rfl⟩|⟨id,ep,lo,h1,h2,rfl,c⟩
 ·exact R_ hr.len
 ·exact⟨hp id rfl,rows,a,hr⟩
theorem Own.ints{g:G}{l:List Int}(h:Own g b v 1 (l.map ci))(hl:l.length<2^63):One l (λ_=>True) k g.h v :=⟨v,rfl,Own.sl (α:=Int) h hl (Y7 (λa=>ay.2 rfl) l) λ_ _=>trivial⟩
theorem aM{x:OR}{Q:AV->Prop}{g:G}(h:∃r,x=.val r/\Q r)(k:∀r,Q r->K r g):x.sat K g D:=by obtain⟨r,rfl,hr⟩:=h;exact k r hr
section Q8
variable {C:ZO}{d:Nat}{rd:Option Nat}{pm:List Nat}
theorem Pt(Q:PT)(t:T)(df:List ZU)(g:G)(fs:List ZC):XU C d rd pm [] Q t df g fs=(lp pm fs.reverse=true/\Q t df g):=rfl
theorem Xj(n:Nat)(op:SO)(r:List SI)(Q:PT)(t:T)(df:List ZU)(g:G)(fs:List ZC):XU C d rd pm (o n op::r) Q t df g fs =
  (op.run C d rd t (aS g [])).sat (kF (XU C d rd pm r Q) (some n) t df g.lg fs (op.foot C t g)) (aS g []) (λ_=>False):=rfl
theorem Ux(op:SO)(r:List SI)(Q:PT)(t:T)(df:List ZU)(g:G)(fs:List ZC):XU C d rd pm (oz op::r) Q t df g fs =
  (op.run C d rd t (aS g [])).sat (kF (XU C d rd pm r Q) none t df g.lg fs (op.foot C t g)) (aS g []) (λ_=>False):=rfl
theorem Uw(n s:Nat)(w:Bool)(op:SO)(r:List SI)(Q:PT)(t:T)(df:List ZU)(g:G)(fs:List ZC) :
  XU C d rd pm (og n s w op::r) Q t df g fs=HB (ZY t s) w (QY C d rd (o n op) (XU C d rd pm r Q) fs) (L9 (o n op) (XU C d rd pm r Q) fs) t df g:=rfl
theorem T4(n:Nat)(op:SO)(W:FT)(fs:List ZC)(t:T)(df:List ZU)(g:G):QY C d rd (o n op) W fs t df g =
  (op.run C d rd t (aS g [])).sat (kF W (some n) t df g.lg fs (op.foot C t g)) (aS g []) (λ_=>False):=rfl
theorem Pm(n:Nat)(op:SO)(W:FT)(fs:List ZC)(t:T)(df:List ZU)(g:G):L9 (o n op) W fs t df g=W (f_ t n .undef) df g (⟨aA,[]⟩::fs):=rfl
theorem OC(W:FT)(n:Nat)(t:T)(df:List ZU)(lg:List Nat)(fs:List ZC)(lk:Looks)(v:AV)(g:G):kF W (some n) t df lg fs lk v g=W (f_ t n v) df (lC g (g.lg++lg)) (⟨lk,g.lg⟩::fs):=rfl
theorem OB(W:FT)(t:T)(df:List ZU)(lg:List Nat)(fs:List ZC)(lk:Looks)(v:AV)(g:G):kF W none t df lg fs lk v g=W t df (lC g (g.lg++lg)) (⟨lk,g.lg⟩::fs):=rfl
theorem nk{sz:Nat}(h:nq v=true):an (mA sz v i off)=an v:=by cases v<;>first|rfl|cases h
theorem yi(id ep i off:Nat):an (.ZD id ep i off)=[id]:=rfl
theorem Yb{α:Type} [Rp α]{h:H}{x:α}{cs:List AV}(r:Rp.rp ZX k h x cs)(n:Nat):cs.flatMap (aB h n)=[]:=by rw[List.eq_nil_iff_forall_not_mem];exact λi hi=>Rp.ids r i hi
theorem Yd{α:Type} [Rp α]{h:H}{l:List α}(r:ZT ZX k h l v):aB h aw v=[]:=by
 have:=Yb (show Rp.rp ZX k h l [v] from ⟨v,rfl,r⟩) aw
 grind
end Q8
section looks
variable {C:ZO}{t:T}{g:G}
theorem WT(x:Od):SO.foot C t g (.mv x)=aA:=rfl
theorem Oq(c a b:Od):SO.foot C t g (.pick c a b)=aA:=rfl
theorem K1(cs:List AV):SO.foot C t g (.alloc cs)=aA:=rfl
theorem So(x:Od):SO.foot C t g (.box x)=aA:=rfl
theorem K2(z:List AV)(pl:List (Nat×Nat))(vs:List Od):SO.foot C t g (.build z pl vs)=aA:=rfl
theorem Sp(sz len:Nat)(z:List AV)(is:List Nat)(vs:List Od):SO.foot C t g (.XD sz len z is vs)=aA:=rfl
theorem On(ag:Bool)(n:Nat)(a:Od):SO.foot C t g (.load ag n a)=am (an (a.get t)):=rfl
theorem K4(n:Nat)(a x:Od):SO.foot C t g (.store n a x)=am (an (a.get t)):=rfl
theorem Oo(x:Od):SO.foot C t g (.SX x)=aA:=rfl
theorem Sn(op:BinOp)(x y:Od):SO.foot C t g (.bin op x y)=aA:=rfl
theorem WQ(ng:Bool)(ek:VR)(x y:Od):SO.foot C t g (.eq ng ek x y)=aA:=rfl
theorem SA(x:Od):SO.foot C t g (.not x)=aA:=rfl
theorem Om(k:IntKind)(x:Od):SO.foot C t g (.conv k x)=aA:=rfl
theorem Sy(f:Nat)(a c:List Od):SO.foot C t g (.XZ f a c)=aA:=rfl
theorem Sz(sz bt:Nat)(z:List AV)(l c:Od):SO.foot C t g (.mks sz bt z l c)=aA:=rfl
theorem SB(sz:Nat)(x:Od)(lo hi:List Od):SO.foot C t g (.Vg sz x lo hi)=am (an (x.get t)):=rfl
theorem Ss(fo:Nat)(x:Od):SO.foot C t g (.fad fo x)=aA:=rfl
theorem Su(ag:Bool)(n fo:Nat)(x:Od):SO.foot C t g (.fld ag n fo x)=aA:=rfl
theorem Sw(sz:Nat)(x i:Od):SO.foot C t g (.SG sz x i)=am (an (x.get t)):=rfl
theorem Sv(n sz:Nat)(x i:Od):SO.foot C t g (.ixa n sz x i)=aA:=rfl
theorem WR(ag:Bool)(n sz:Nat)(x i:Od):SO.foot C t g (.ix ag n sz x i)=aA:=rfl
theorem Sr(x:Od)(i:Nat):SO.foot C t g (.ext x i)=aA:=rfl
theorem Sx(x:Od):SO.foot C t g (.len .slice x)=aA:=rfl
theorem Sm(sz bt:Nat)(x y:Od):SO.foot C t g (.app sz bt x y)=am (an (x.get t)++an (y.get t)):=rfl
theorem Sq(sz:Nat)(x y:Od):SO.foot C t g (.cpy sz x y)=am (an (x.get t)++an (y.get t)):=rfl
theorem WU(x y:Od):SO.foot C t g (.mx x y)=am (an (x.get t)++an (y.get t)):=rfl
theorem WS(x y:Od):SO.foot C t g (.mn x y)=am (an (x.get t)++an (y.get t)):=rfl
end looks
theorem sf:type_of% (Z3 @WT <|Z3 @Oq <|Z3 @K1 <|Z3 @So <|Z3 @K2 <|Z3 @Sp <|Z3 @On <|Z3 @K4 <|Z3 @Oo <|Z3 @Sn <|Z3 @WQ <|Z3 @SA <|Z3 @Om <|Z3 @Sy <|Z3 @Sz <|Z3 @SB <|Z3 @Ss <|Z3 @Su <|Z3 @Sw <|Z3 @Sv <|Z3 @WR <|Z3 @Sr <|Z3 @Sx <|Z3 @Sm <|Z3 @Sq <|Z3 @WU <|@WS) :=Z3 @WT <|Z3 @Oq <|Z3 @K1 <|Z3 @So <|Z3 @K2 <|Z3 @Sp <|Z3 @On <|Z3 @K4 <|Z3 @Oo <|Z3 @Sn <|Z3 @WQ <|Z3 @SA <|Z3 @Om <|Z3 @Sy <|Z3 @Sz <|Z3 @SB <|Z3 @Ss <|Z3 @Su <|Z3 @Sw <|Z3 @Sv <|Z3 @WR <|Z3 @Sr <|Z3 @Sx <|Z3 @Sm <|Z3 @Sq <|Z3 @WU <|@WS
theorem HX(k:IntKind)(x:Int):(AV.int k x).cells=[.int k x]:=rfl
theorem EW(x:Bool):(AV.bool x).cells=[.bool x]:=rfl
theorem Cd(cs:List AV):(AV.agg cs).cells=cs:=rfl
theorem EX:AV.Z6.cells=[.Z6]:=rfl
theorem Ii(k:IntKind)(x:Int):(AV.int k x).isTup=false:=rfl
theorem FQ(x:Bool):(AV.bool x).isTup=false:=rfl
theorem Cw(cs:List AV):(AV.agg cs).isTup=false:=rfl
theorem FS:AV.Z6.isTup=false:=rfl
theorem HW(id ep off len:Nat)(lim:Option Nat):(AV.ZG id ep off len lim).cells=[.ZG id ep off len lim]:=rfl
theorem Ih(id ep off len:Nat)(lim:Option Nat):(AV.ZG id ep off len lim).isTup=false:=rfl
theorem HY(t s:Nat)(rows:List (List AV)):(AV.Zs t s rows).cells=[.Zs t s rows]:=rfl
theorem Ij(t s:Nat)(rows:List (List AV)):(AV.Zs t s rows).isTup=false:=rfl
theorem Mt(x:AV)(g:G)(h:x.isTup=false):Kl x g=.upd (.ZD g.nx 0 0 0) (g.new (Z4 x.cells.length [x.cells])):=by simp_all[Kl,ax]
theorem N5(sz:Nat)(zero:List AV)(g:G):UX sz 0 zero [] [] g=.upd (.ZG g.nx 0 0 0 none) (g.new (Z4 sz [])):=rfl
theorem yx(sz:Nat)(zero:List AV)(v:AV)(g:G)(hl:v.cells.length=sz)(ht:v.isTup=false) :
  UX sz 1 zero [0] [v] g=.upd (.ZG g.nx 0 0 1 none) (g.new (Z4 sz [v.cells])):=by
 subst hl;have:Nat.beq (bi v.cells) v.cells.length=true:=by grind[ax,X_]
 have h2:i4 v.cells.length [zero] [(0,v)]=some [v.cells]:=by simp_all[i4,aa,ax,jh]
 show (match i4 v.cells.length [zero] [(0,v)] with|some rows=>OR.upd (.ZG g.nx 0 0 1 none) (g.new (Z4 v.cells.length rows))|none=>.fail)=_;rw[h2]
theorem eJ(row:List AV)(off:Nat)(cs:List AV):dh row off cs=if off+cs.length<=row.length then some (row.take off++(cs++row.drop (off+cs.length))) else none:=by
 simp only[dh,ax,aa,R1,jh,bE,bu]
 split
 ·rename_i h
  split
  ·rename_i c;simp only[ae_]at h;rw[List.set_eq_take_append_cons_drop,i6];rfl
  ·rfl
 ·rfl
theorem WL(a:AV)(l:List AV):R9 (.Zz (a::l)) 0=.val a:=rfl
theorem WM(a b:AV)(l:List AV):R9 (.Zz (a::b::l)) 1=.val b:=rfl
theorem WN(a b c:AV)(l:List AV):R9 (.Zz (a::b::c::l)) 2=.val c:=rfl
theorem Sk(ag:Bool)(n fo:Nat)(cs:List AV):XO ag n fo (.agg cs)=RK (cK ag n cs fo):=rfl
theorem Iq{row:List AV}:cK true (n+1) row off=if off+(n+1)<=row.length then some (.agg ((row.drop off).take (n+1))) else none:=by
 split
 ·grind[Tz]
 ·rename_i h;simp only[cK,bE,bu,ax,Rk,Te,aa];rw[ZF]
  grind[Wj]
theorem Km(zero:List AV)(pl:List (Nat×Nat))(vs:List AV):BV zero pl vs=match dX zero (pl.zip vs) with|some cs=>.val (.agg cs)|none=>.fail:=rfl
theorem Ic(cs:List AV):dX cs []=some cs:=rfl
theorem Fy(cs:List AV)(off size:Nat)(v:AV)(rest:List ((Nat×Nat)×AV))(hl:v.cells.length=size)(ht:v.isTup=false) :
  dX cs (((off,size),v)::rest)=match dh cs off v.cells with|some cs=>dX cs rest|none=>none:=by
 subst hl;have:Nat.beq (bi v.cells) v.cells.length=true:=by grind[ax,X_]
 simp only[dX,this,ht,rq,SM,XE]
 rfl
theorem TN(ag:Bool)(n a:Nat)(r:List SR)(t:T)(g:G)(K:List AV->Prop):At (.cell ag n a::r) t g K=match t7 ag n (ZY t a) g with|.val v=>At r t g λvs=>K (v::vs)|_=>False:=rfl
theorem uW(a b:AV)(l:List AV):lz (a::b::l)=.Zz (a::b::l):=rfl
theorem sy:type_of% (Z3 @Km <|Z3 @Ic <|Z3 @Fy <|Z3 @TN <|Z3 @Ww.{0,0} <|Z3 @afx.{0,0} <|Z3 @Pt <|Z3 @Xj <|Z3 @Ux <|Z3 @Uw <|Z3 @T4 <|Z3 @Pm <|Z3 @OC <|Z3 @OB <|Z3 @Zx <|Z3 @YW <|Z3 @Q5 <|Z3 @true_and <|Z3 @and_true <|Z3 @Jy <|Z3 @q_ <|Z3 @S3 <|Z3 @QM <|Z3 @Q7 <|Z3 @X7 <|Z3 @W0 <|Z3 @HX <|Z3 @EW <|Z3 @Cd <|Z3 @EX <|Z3 @Ii <|Z3 @FQ <|Z3 @Cw <|Z3 @FS <|
 Z3 @HW <|Z3 @Ih <|Z3 @HY <|Z3 @Ij <|Z3 @Mt <|Z3 @N5 <|Z3 @yx <|Z3 @eJ <|Z3 @WL <|Z3 @WM <|Z3 @WN <|
 Z3 @Sk <|Z3 @Iq <|Z3 @uW <|Z3 @wj <|Z3 @ax <|Z3 @V8.{0} <|Z3 @QO.{0} <|Z3 @aez.{0} <|
 Z3 @aeb.{0} <|Z3 @adX.{0} <|Z3 @XI.{0} <|Z3 @ML.{0} <|Z3 @DI.{0} <|Z3 @VM.{0} <|Z3 @Va.{0} <|Z3 @adL.{0} <|
 Z3 @Ku <|Z3 @Za <|Z3 @fX <|Z3 @dJ <|Z3 @C4 <|@uZ) :=
 Z3 @Km <|Z3 @Ic <|Z3 @Fy <|Z3 @TN <|Z3 @Ww.{0,0} <|Z3 @afx.{0,0} <|Z3 @Pt <|Z3 @Xj <|Z3 @Ux <|Z3 @Uw <|Z3 @T4 <|Z3 @Pm <|Z3 @OC <|Z3 @OB <|Z3 @Zx <|Z3 @YW <|Z3 @Q5 <|Z3 @true_and <|Z3 @and_true <|Z3 @Jy <|Z3 @q_ <|Z3 @S3 <|Z3 @QM <|Z3 @Q7 <|Z3 @X7 <|Z3 @W0 <|Z3 @HX <|Z3 @EW <|Z3 @Cd <|Z3 @EX <|Z3 @Ii <|Z3 @FQ <|Z3 @Cw <|Z3 @FS <|
 Z3 @HW <|Z3 @Ih <|Z3 @HY <|Z3 @Ij <|Z3 @Mt <|Z3 @N5 <|Z3 @yx <|Z3 @eJ <|Z3 @WL <|Z3 @WM <|Z3 @WN <|
 Z3 @Sk <|Z3 @Iq <|Z3 @uW <|Z3 @wj <|Z3 @ax <|Z3 @V8.{0} <|Z3 @QO.{0} <|Z3 @aez.{0} <|
 Z3 @aeb.{0} <|Z3 @adX.{0} <|Z3 @XI.{0} <|Z3 @ML.{0} <|Z3 @DI.{0} <|Z3 @VM.{0} <|Z3 @Va.{0} <|Z3 @adL.{0} <|
 Z3 @Ku <|Z3 @Za <|Z3 @fX <|Z3 @dJ <|Z3 @C4 <|@uZ
end
noncomputable def Qr(C:ZO)(n f:Nat):Nat->List AV->G->OR:=λd as g=>af (Qu C n) d g f as
theorem sC{ih:IH}{args:List AV}{y:ZU}:af ih d g f args≠.ZP y:=by
 intro h;revert h;unfold af
 repeat' (first|split|rw[aa])
 all_goals grind
theorem D_(hC:ZK C):Zm C f (Qr C n f):=by refine⟨λd args g hwf=>nh hwf,λd args g y=>sC,λA bd w γ hg nx g as vs hr hwf hx hf hv hne cs=>?_⟩;have h:=nY hC n;obtain⟨he,u,w',γ',hg',fin,rv,out⟩:=q9 h.call h.ZA.call hr hx hv hne cs;exact⟨u,w',γ',hg',fin,rv,.inr ⟨he,out⟩⟩
noncomputable def J3(d0:Nat)(tab:List (List AV×AV))(fb:Nat->List AV->G->OR):Nat->List AV->G->OR:=λd as g =>
 ap (Nat.beq d d0) (match aD (ZS g.h d aw) as with
  | some as'=>match D8 as' tab with
   |some v=>.val v
   |none=>fb d as g
  |none=>.fail) (fb d as g)
theorem Es(hC:ZK C){d0:Nat}{tab:List (List AV×AV)}(h:∀e∈tab,V9 d0 ((Qu C n).call (Nat.succ d0) f e.1 G.empty)=some e.2)
  {fb:Nat->List AV->G->OR} (hfb:Zm C f fb):Zm C f (J3 d0 tab fb):=by
 have sh:∀d args g,J3 d0 tab fb d args g=.fail\/J3 d0 tab fb d args g=fb d args g\/J3 d0 tab fb d args g=af (Qu C n) d g f args:=by
  intro d args g;unfold J3;rw[aa]
  split
  ·rename_i hd;have hd:=aH hd;subst hd
   split
   ·rename_i as' a
    split
    ·rename_i v k;have:=KX k
     grind[Ld]
    grind
   grind
  grind
 refine⟨λd args g hwf=>?_,λd args g y hy=>?_,λA bd w γ hg nx g as vs hr hwf hx hf k hne cs=>?_⟩
 ·rcases sh d args g with h|h|h<;>rw[h]
  ·exact Mon.refl g
  ·exact hfb.ZA d args g hwf
  grind[nh]
 ·rcases sh d args g with h|h|h<;>rw[h]at hy
  ·cases hy
  ·exact hfb.Vo d args g y hy
  grind[sC]
 ·rcases sh (bd+1) as g with h0|h0|h0
  ·grind
  ·rw[h0]at hne hf ⊢;exact hfb.run A bd w γ hg nx g as vs hr hwf hx hf k hne cs
  ·rw[h0]at hne hf ⊢;exact (D_ (n:=n) hC).run A bd w γ hg nx g as vs hr hwf hx hf k hne cs
noncomputable def zC(h:H):List Nat->H
 |[]=>.nil
 |id::l=>(zC h l).put id (h.get id)
noncomputable def uT(h h':H):List Nat->H
 |[]=>h
 |id::l=>(uT h h' l).put id (h'.get id)
theorem VK(k:Nat):H.get (Tr.nil:H) k=.none:=by simp[H.get,Zg]
theorem yM(h:H)(k:Nat):∀l,(zC h l).get k=if k∈l then h.get k else .none
 |[]=>by simp[zC,VK]
 | id::l=>by
  rw[zC,Za,yM h k l]
  by_cases hk:k=id
  ·subst hk;simp
  ·simp[hk]
theorem uU(h h':H)(k:Nat):∀l,(uT h h' l).get k=if k∈l then h'.get k else h.get k
 |[]=>by simp[uT]
 | id::l=>by
  rw[uT,Za,uU h h' k l]
  by_cases hk:k=id
  ·subst hk;simp
  ·simp[hk]
noncomputable def SQ(C:ZO)(n f:Nat):Nat->List AV->G->OR:=λd as g =>
 match (Qu C n).call d f as ⟨zC g.h (as.flatMap (aB g.h aw)),g.nx,[]⟩ with
 |.ok v g'=>.upd v ⟨uT g.h g'.h g'.lg,g'.nx,g'.lg++g.lg⟩
 |.fail=>.fail
theorem Vt(hC:ZK C):Zm C f (SQ C n f):=by
 have i:=nY hC n;have wfr:∀(g:G) (ids:List Nat),WF g->WF ⟨zC g.h ids,g.nx,[]⟩:=by
  intro g ids e id k;show (zC g.h ids).get id=.none;rw[yM]
  split
  ·exact e id k
  ·rfl
 have sh:∀d as g,SQ C n f d as g=.fail\/∃v g',(Qu C n).call d f as ⟨zC g.h (as.flatMap (aB g.h aw)),g.nx,[]⟩=.ok v g' /\
   SQ C n f d as g=.upd v ⟨uT g.h g'.h g'.lg,g'.nx,g'.lg++g.lg⟩:=by
  intro d as g;unfold SQ
  grind
 refine⟨λd as g e=>?_,λd as g y hy=>?_,λA bd w γ hg nx g as vs hr e hx hf hv hne cs=>?_⟩
 ·rcases sh d as g with h|⟨v,g',h1,h2⟩
  ·rw[h];exact Mon.refl g
  ·rw[h2];have m:=i.ZA.call _ _ _ _ _ _ h1 (wfr g _ e);obtain⟨nw,a,b,c⟩:=m.new;have ha:g'.lg=nw:=by grind
   refine⟨m.nx,⟨g'.lg,rfl,λid k=>?_,λid k=>?_⟩,λhw id k=>?_⟩
   ·show (uT _ _ _).get id=_;simp_all[uU]
   ·obtain⟨c1,l⟩:=c id (by grind);refine⟨c1,λhn=>l ?_⟩<;>grind[yM]
   ·show (uT _ _ _).get id=_;have k:g'.nx<=id:=k;have o:g.nx<=g'.nx:=m.nx;rw[uU,ZF]
    all_goals grind
 ·grind
 ·rcases sh (bd+1) as g with h|⟨v,g',h1,h2⟩
  ·grind
  ·rw[h2]at hf ⊢;obtain⟨he,run⟩:=i.call _ _ _ _ _ _ h1;obtain⟨u,w',γ',hg',fin,rv,out⟩:=run A w γ hg nx vs hr (λid hn=>by
     have j:(zC g.h (as.flatMap (aB g.h aw))).get id≠.none:=hn;show hg id=(zC _ _).get id;rw[yM]at j ⊢
     grind) (wfr g _ e) (λid h1 h2=>hf id h1 h2) hv .normal cs (.inl rfl)
   refine⟨u,w',γ',hg',⟨fin.rel,fin.WB,?_⟩,rv,.inr ⟨he,out⟩⟩;obtain⟨nw,a,b,c⟩:=fin.new;have ha:g'.lg=nw:=by grind
   subst ha;refine⟨g'.lg,rfl,λid k=>?_,c⟩;show hg' id=(uT _ _ _).get id;rw[uU,ZN k];grind
section
variable {u:Value}
inductive PE where
 |ex (e:Ex)
 |XJ (v:AV)
inductive PR where
 |fail
 |ok (e:PE) (t:T) (df:List ZU) (g:G)
inductive PF where
 |fail
 |ok (v:AV) (g:G)
 |XJ (v:AV) (g:G)
structure PH where
 code:Nat->Nat->Code->T->List ZU->G->PR
 call:Nat->Nat->List AV->G->PF
def OL:CR->PR
 |.ok e t df g=>.ok (.ex e) t df g
 |.fail=>.fail
abbrev PFn:=IH->PH->Nat->T->List ZU->G->PR
def GL(out:T->AV->T)(next:T->List ZU->G->PR)(t:T)(df:List ZU):PF->PR
 |.ok v g=>next (out t v) df g
 |.XJ v g=>.ok (.XJ v) t df g
 |.fail=>.fail
def sK(out:T->AV->T)(next:T->List ZU->G->PR)(t:T)(df:List ZU)(g:G):OR->PR
 |.fail=>.fail
 |.val v=>next (out t v) df g
 |.upd v g'=>next (out t v) df g'
 |.ZP a=>next (out t .undef) (a::df) g
def sS(C:ZO)(ph:PH)(d:Nat)(fv:AV)(vs:List AV)(g:G):Option PF :=
 match fv with
 |.ZH f first cap=>ap ((C.ext f).isSome || C.Wd f) none (some (ph.call d f (first++(vs++cap)) g))
 |_=>none
def xZ(C:ZO)(op:Op)(out:T->AV->T):TM ((T->List ZU->G->PR)->PFn) :=
 match op with
 | .panic x=>match aW C x with
  | some s=>⟨λ_ _ _ _ t df g=>match s.run t with
   |.J7 ty v=>.ok (.XJ (.J7 ty v)) t df g
   |_=>.fail⟩
  |none=>⟨λ_ _ _ _ _ _ _=>.fail⟩
 | .typeAssert x _ asserted ok=>match aW C x,C.P.underlying asserted with
  | some s,some (.int _)=>⟨λnext _ _ _ t df g=>match s.run t with
   |.J7 ty v=>ap (Nat.beq ty asserted) (next (out t (ap ok (.Zz [v,.bool true]) v)) df g) .fail
   |_=>.fail⟩
  |_,_=>⟨λ_ _ _ _ _ _ _=>.fail⟩
 | .call { callee:=.value fo,args,argTypes }=>match aW C fo,cC C args.toList with
  | some fv,some vs=>⟨λnext ih ph d t df g=>match sS C ph d (fv.run t) (vs.run t) g with
   |some r=>GL out next t df r
   |none=>sK out next t df g ((bP C (.call { callee:=.value fo,args,argTypes })).run ih d none t g)⟩
  |_,_=>⟨λ_ _ _ _ _ _ _=>.fail⟩
 |op=>⟨λnext ih _ d t df g=>sK out next t df g ((bP C op).run ih d none t g)⟩
def qr(C:ZO)(nt:Nat)(all:List Oper):List Oper->TM PFn
 |[]=>⟨λ_ _ _ t df g=>.ok (.ex .norm) t df g⟩
 | o::rest=>match ua nt o.dst with
  | some out=>match o.guard with
   |none=>⟨λih ph d t df g=>(xZ C o.op out.run).run (λt df g=>(qr C nt all rest).run ih ph d t df g) ih ph d t df g⟩
   | some gd=>match jZ all (some gd) with
    | some q=>⟨λih ph d t df g=>match q.run t with
     |some true=>(xZ C o.op out.run).run (λt df g=>(qr C nt all rest).run ih ph d t df g) ih ph d t df g
     |some false=>(qr C nt all rest).run ih ph d (out.run t .undef) df g
     |none=>.fail⟩
    |none=>⟨λ_ _ _ _ _ _=>.fail⟩
  |none=>⟨λ_ _ _ _ _ _=>.fail⟩
def NE(k:T->List ZU->G->PR):PR->PR
 |.ok (.ex .norm) t df g=>k t df g
 |r=>r
def uk(id:Nat):PR->PR
 |.ok (.ex (.exit j)) t df g=>ap (Nat.beq j id) (.ok (.ex .norm) t df g) (.ok (.ex (.exit j)) t df g)
 |r=>r
def cA(C:ZO)(nt:Nat):Code->TM PFn
 |.region _ ops false=>qr C nt ops.toList ops.toList
 |.seq a b=>⟨λih ph d t df g=>NE ((cA C nt b).run ih ph d) ((cA C nt a).run ih ph d t df g)⟩
 | .cond c a b=>match aW C c with
  | some q=>⟨λih ph d t df g=>match q.run t with
   |.bool v=>ap v ((cA C nt a).run ih ph d t df g) ((cA C nt b).run ih ph d t df g)
   |_=>.fail⟩
  |none=>⟨λ_ _ _ _ _ _=>.fail⟩
 |.block id body=>⟨λih ph d t df g=>uk id ((cA C nt body).run ih ph d t df g)⟩
 |.loop body=>⟨λih ph d t df g=>NE (λt df g=>ph.code nt d (.loop body) t df g) ((cA C nt body).run ih ph d t df g)⟩
 |.scope body=>cA C nt body
 |c=>⟨λih _ d t df g=>OL ((aR C nt c).run ih d none t df g)⟩
abbrev YS:=IH->PH->Nat->AV->T->G->PR
def oY(C:ZO)(nt:Nat):Code->TM YS
 | .region _ ops false=>match ops.toList with
  | o::rest=>match o.op,o.guard with
   | .call { callee:=.builtin .recover,.. },none=>match ua nt o.dst with
    |some out=>⟨λih ph d v t g=>(qr C nt ops.toList rest).run ih ph d (out.run t v) [] g⟩
    |none=>⟨λ_ _ _ _ _ _=>.fail⟩
   |_,_=>⟨λ_ _ _ _ _ _=>.fail⟩
  |[]=>⟨λ_ _ _ _ _ _=>.fail⟩
 |.seq a b=>⟨λih ph d v t g=>NE ((cA C nt b).run ih ph d) ((oY C nt a).run ih ph d v t g)⟩
 |.block id a=>⟨λih ph d v t g=>uk id ((oY C nt a).run ih ph d v t g)⟩
 |.scope a=>oY C nt a
 |_=>⟨λ_ _ _ _ _ _=>.fail⟩
def CE(C:ZO)(ih:IH)(ph:PH)(d f:Nat)(v:AV)(args:List AV)(g:G):Option G :=
 match C.P.funcs[f]? with
 |none=>none
 | some fn=>match fn.body,rC C fn.results.toList with
  | some c, some r => ap ((fn.name == "runtime.NumGoroutine") || !Nat.ble (bi args) fn.ntmps) none
   (match (oY C fn.ntmps c).run ih ph d v (bk 0 args .nil) g with
    |.ok (.ex (.exit _)) _ _ _=>none
    |.ok (.ex _) t [] g'=>(match r.run t g' with|some _=>some g'|none=>none)
    |_=>none)
  |_,_=>none
def NO:FR->PF
 |.ok v g=>.ok v g
 |.fail=>.fail
def lZ(C:ZO)(ih:IH)(ph:PH)(d:Nat)(res:T->G->Option (List AV))(v:AV)(t:T):List ZU->G->PF
 |[],g=>.XJ v g
 | .call (.ZH f [] cap) args::ds,g=>match CE C ih ph d f v (args++cap) g with
  |some g'=>NO (cp ih d res t ds g')
  |none=>.fail
 |_::_,_=>.fail
def eg(C:ZO)(ih:IH)(ph:PH)(d f:Nat)(args:List AV)(g:G):PF :=
 match C.P.funcs[f]? with
 |none=>.fail
 | some fn=>match fn.body,rC C fn.results.toList with
  | some c, some r => ap ((fn.name == "runtime.NumGoroutine") || !Nat.ble (bi args) fn.ntmps) .fail
   (match (cA C fn.ntmps c).run ih ph d (bk 0 args .nil) [] g with
    |.ok (.ex (.exit _)) _ _ _=>.fail
    |.ok (.ex _) t df g'=>NO (cp ih d r.run t df g')
    |.ok (.XJ v) t df g'=>lZ C ih ph d r.run v t df g'
    |.fail=>.fail)
  |_,_=>.fail
def PH.zero:PH:=⟨λ_ _ _ _ _ _=>.fail,λ_ _ _ _=>.fail⟩
def JW(C:ZO)(ih:IH)(ph:PH):PH:=⟨λnt d c t df g=>(cA C nt c).run ih ph d t df g,eg C ih ph⟩
def Yc(C:ZO)(n:Nat)(m:Nat):PH:=@Nat.rec (λ_=>PH) PH.zero (λ_ ph=>JW C (Qu C n) ph) m
section
variable {C:ZO}{ih:IH}{ph:PH}
structure YN (ph:PH):Prop where
 code:∀nt d c t df g e t' df' g',ph.code nt d c t df g=.ok e t' df' g'->WF g->Mon g g'
 call:∀d f as g v g',(ph.call d f as g=.ok v g'\/ph.call d f as g=.XJ v g')->WF g->Mon g g'
theorem NN{out:T->AV->T}{next:T->List ZU->G->PR}{t:T}{g:G}{r:OR}{e:PE}
  (h:sK out next t df g r=.ok e t' df' g') (hwf:WF g) (hr:Mon g (U7 g r)) (hn:∀t df g1,next t df g1=.ok e t' df' g'->WF g1->Mon g1 g'):Mon g g':=by
 cases r with
 |fail=>cases h
 |val v=>exact hn _ _ _ h hwf
 |upd v g1=>exact hr.trans (hn _ _ _ h (hr.wf hwf))
 |ZP a=>exact hn _ _ _ h hwf
theorem BY(hp:YN ph){fv:AV}{vs:List AV}{g:G}{r:PF}(h:sS C ph d fv vs g=some r)(hr:r=.ok v g'\/r=.XJ v g')(hwf:WF g):Mon g g':=by
 unfold sS at h
 split at h<;>grind[aa,YN.call]
theorem LB(he:fL C)(hi:dg ih)(hp:YN ph){op:Op}{out:T->AV->T}{next:T->List ZU->G->PR}{t:T}{g:G}{e:PE}
  (h:(xZ C op out).run next ih ph d t df g=.ok e t' df' g') (hwf:WF g) (hn:∀t df g1,next t df g1=.ok e t' df' g'->WF g1->Mon g1 g'):Mon g g':=by
 have plain:∀{op:Op},sK out next t df g ((bP C op).run ih d none t g)=.ok e t' df' g'->Mon g g':=λh=>NN h hwf (j4 he hi hwf) hn
 unfold xZ at h
 split at h
 ·split at h<;>grind[Mon.refl]
 ·split at h<;>grind[aa]
 ·split at h
  ·dsimp only at h
   split at h
   ·rename_i r hr;cases r with
    |fail=>cases h
    | ok v g1 =>have m:=BY hp hr (.inl rfl) hwf;exact m.trans (hn _ _ _ h (m.wf hwf))
    | XJ v g1 =>
     have m:=BY hp hr (.inr rfl) hwf;have h:PR.ok (.XJ v) t df g1=.ok e t' df' g':=h
     grind
   grind
  grind
 grind
theorem x9(he:fL C)(hi:dg ih)(hp:YN ph){all:List Oper}:∀{ops:List Oper} {d:Nat} {t:T} {df:List ZU} {g:G} {e:PE} {t':T} {df':List ZU} {g':G},
  (qr C nt all ops).run ih ph d t df g=.ok e t' df' g'->WF g->Mon g g':=by
 intro ops
 induction ops with
 |nil=>simp_all[qr,Mon.refl]
 | cons o rest ihl =>
  intro d t df g e t' df' g' h k;simp only[qr]at h
  split at h
  ·split at h
   ·exact LB he hi hp h k λ_ _ _ h1 h2=>ihl h1 h2
   ·split at h
    ·dsimp only at h
     split at h
     ·exact LB he hi hp h k λ_ _ _ h1 h2=>ihl h1 h2
     ·exact ihl h k
     ·cases h
    ·cases h
  grind
theorem Li(he:fL C)(hi:dg ih){c:Code}{t:T}{g:G}{e:PE}
  (h:OL ((aR C nt c).run ih d none t df g)=.ok e t' df' g') (hwf:WF g):Mon g g':=by
 generalize hr:(aR C nt c).run ih d none t df g=r at h;cases r with
 |fail=>cases h
 | ok e1 t1 df1 g1 =>
  have h:PR.ok (.ex e1) t1 df1 g1=.ok e t' df' g':=h
  grind[lT]
theorem dK(he:fL C)(hi:dg ih)(hp:YN ph):∀(c:Code) {d:Nat} {t:T} {df:List ZU} {g:G} {e:PE} {t':T} {df':List ZU} {g':G},
  (cA C nt c).run ih ph d t df g=.ok e t' df' g'->WF g->Mon g g':=by
 intro c;have now:∀{e e':PE} {t t':T} {df df':List ZU} {g g':G},PR.ok e' t df g=.ok e t' df' g'->Mon g g':=by grind[Mon.refl]
 induction c with
 | region id ops draw =>
  intro d t df g e t' df' g' h k;cases draw with
  |true=>exact Li (c:=.region id ops true) he hi h k
  |false=>exact x9 he hi hp h k
 | seq a b iha ihb =>
  intro d t df g e t' df' g' h k;simp only[cA]at h;generalize hr:(cA C nt a).run ih ph d t df g=r at h;cases r with
  |fail=>cases h
  | ok e1 t1 df1 g1 =>
   have f:=iha hr k;cases e1 with
   |XJ v=>exact f.trans (now h)
   | ex e1 =>
    cases e1 with
    |norm=>exact f.trans (ihb h (f.wf k))
    |exit j=>exact f.trans (now h)
    |ret=>exact f.trans (now h)
 | cond c a b iha ihb =>
  intro d t df g e t' df' g' h k;simp only[cA]at h
  split at h<;>grind[aa]
 | block id body ihb =>
  intro d t df g e t' df' g' h k;simp only[cA]at h;generalize hr:(cA C nt body).run ih ph d t df g=r at h;cases r with
  |fail=>cases h
  | ok e1 t1 df1 g1 =>
   have f:=ihb hr k;cases e1 with
   |XJ v=>exact f.trans (now h)
   | ex e1 =>cases e1<;>grind[uk,aa]
 | loop body ihb =>
  intro d t df g e t' df' g' h k;simp only[cA]at h;generalize hr:(cA C nt body).run ih ph d t df g=r at h;cases r with
  |fail=>cases h
  | ok e1 t1 df1 g1 =>
   have f:=ihb hr k;cases e1 with
   |XJ v=>exact f.trans (now h)
   | ex e1 =>
    cases e1 with
    |norm=>exact f.trans (hp.code _ _ _ _ _ _ _ _ _ _ h (f.wf k))
    |exit j=>exact f.trans (now h)
    |ret=>exact f.trans (now h)
 |scope body ihb=>intro d t df g e t' df' g' h k;exact ihb h k
 |_=>intro d t df g e t' df' g' h k;simp only[cA]at h;grind[Li]
theorem Gp(he:fL C)(hi:dg ih)(hp:YN ph):∀(c:Code) {d:Nat} {v:AV} {t:T} {g:G} {e:PE} {t':T} {df':List ZU} {g':G},
  (oY C nt c).run ih ph d v t g=.ok e t' df' g'->WF g->Mon g g':=by
 intro c;have now:∀{e e':PE} {t t':T} {df df':List ZU} {g g':G},PR.ok e' t df g=.ok e t' df' g'->Mon g g':=by grind[Mon.refl]
 induction c with
 | region id ops draw =>
  intro d v t g e t' df' g' h k;cases draw with
  |true=>cases h
  | false =>
   simp only[oY]at h
   split at h
   ·split at h
    ·split at h<;>grind[x9]
    grind
   grind
 | seq a b iha _ =>
  intro d v t g e t' df' g' h k;simp only[oY]at h;generalize hr:(oY C nt a).run ih ph d v t g=r at h;cases r with
  |fail=>cases h
  | ok e1 t1 df1 g1 =>
   have f:=iha hr k;cases e1 with
   |XJ v=>exact f.trans (now h)
   | ex e1 =>
    cases e1 with
    |norm=>exact f.trans (dK he hi hp _ h (f.wf k))
    |exit j=>exact f.trans (now h)
    |ret=>exact f.trans (now h)
 | block id body ihb =>
  intro d v t g e t' df' g' h k;simp only[oY]at h;generalize hr:(oY C nt body).run ih ph d v t g=r at h;cases r with
  |fail=>cases h
  | ok e1 t1 df1 g1 =>
   have f:=ihb hr k;cases e1 with
   |XJ v=>exact f.trans (now h)
   | ex e1 =>cases e1<;>grind[uk,aa]
 |scope body ihb=>intro d v t g e t' df' g' h k;exact ihb h k
 |_=>intro d v t g e t' df' g' h k;cases h
theorem LT(he:fL C)(hi:dg ih)(hp:YN ph){args:List AV}{g:G}(h:CE C ih ph d f v args g=some g')(hwf:WF g):Mon g g':=by
 unfold CE at h
 split at h<;>grind[aa,Gp]
theorem qM(hi:dg ih){res:T->G->Option (List AV)}{t:T}{g:G}(h:cp ih d res t df g=.ok v g')(hwf:WF g):Mon g g':=by grind[cp,pf]
theorem Eu{r:FR}{g:G}(h:NO r=.ok v g):r=.ok v g:=by
 cases r with
 |fail=>cases h
 |ok v' g'=>injection h with h1 h2;grind
theorem BG{r:FR}{g:G}(h:NO r=.XJ v g):False:=by
 cases r with
 |fail=>cases h
 |ok v' g'=>cases h
theorem zQ(he:fL C)(hi:dg ih)(hp:YN ph){res:T->G->Option (List AV)}{t:T}{g:G}{x:AV}
  (h:lZ C ih ph d res v t df g=.ok x g'\/lZ C ih ph d res v t df g=.XJ x g') (hwf:WF g):Mon g g':=by
 unfold lZ at h
 split at h
 ·rcases h with h|h
  ·cases h
  ·injection h with _ h;subst h;exact Mon.refl _
 ·split at h
  ·rename_i g1 h1;have k:=LT he hi hp h1 hwf;rcases h with h|h
   ·exact k.trans (qM hi (Eu h) (k.wf hwf))
   ·exact (BG h).elim
  ·rcases h with h|h<;>cases h
 ·rcases h with h|h<;>cases h
theorem ze(he:fL C)(hi:dg ih)(hp:YN ph){g:G}
  (h:eg C ih ph d f as g=.ok v g'\/eg C ih ph d f as g=.XJ v g') (hwf:WF g):Mon g g':=by
 unfold eg at h
 split at h
 ·grind
 split at h
 ·rw[aa]at h
  split at h
  ·grind
  split at h
  ·grind
  ·rename_i hc;have k:=dK he hi hp _ hc hwf;rcases h with h|h
   ·exact k.trans (qM hi (Eu h) (k.wf hwf))
   grind[BG]
  ·rename_i hc;have k:=dK he hi hp _ hc hwf;exact k.trans (zQ he hi hp h (k.wf hwf))
  grind
 grind
theorem Gx(he:fL C)(n:Nat):∀m,YN (Yc C n m):=by
 intro m
 induction m with
 |zero=>exact⟨λnt d c t df g e t' df' g' h=>(by cases h),λd f as g v g' h=>(by rcases h with h|h<;>cases h)⟩
 |succ m ihm=>exact⟨λnt d c t df g e t' df' g' h hwf=>dK he (Eo he n) ihm c h hwf,λd f as g v g' h hwf=>ze he (Eo he n) ihm h hwf⟩
end
section
variable {C:ZO}{ih:IH}{ph:PH}{A:Nat->Nat->Prop}{bd:Nat}{w w':World}{γ γ':Gm}{hg:Nat->ZM}{nx:Nat}{t:T}{g:G}
def Yg(P:Program)(m:Machine)(b:Frame)(k:List Item)(cs:List Frame)(u:Value):PE->Act->World->Prop
 |.ex e,a,w=>XG P m b k cs e a w
 |.XJ _,a,w=>∃k₁,Steps P m (lone ((b.atR a k₁).raise [{ v:=u,recovered:=false }]) cs w)
def YR(w:World)(γ:Gm)(A:Nat->Nat->Prop)(bd:Nat):PE->Value->Prop
 |.ex _,_=>True
 |.XJ v,u=>RV w γ A bd v u
theorem Yg.of_steps{P:Program}{m m₁:Machine}{b:Frame}{k:List Item}{cs:List Frame}{u:Value}{e:PE}{a:Act}(h:Steps P m m₁)(h':Yg P m₁ b k cs u e a w):Yg P m b k cs u e a w:=by
 cases e with
 |ex e=>exact XG.of_steps h h'
 |XJ v=>obtain⟨k₁,h2⟩:=h';exact⟨k₁,Steps.trans h h2⟩
def Ez(C:ZO)(A:Nat->Nat->Prop)(bd nt:Nat)(b:Frame)(k:List Item)(cs:List Frame)(m:Machine)(w:World)(γ:Gm)(hg:Nat->ZM)(nx:Nat)(g:G)(e:PE)(t':T)(df':List ZU)(g':G):Prop :=∃a' w' γ' hg' u,Fin C A bd w γ hg nx g w' γ' hg' g'/\TR w' γ' A bd nt t' a'.tmps/\DR w' γ' A bd df' a'.defers/\YR w' γ' A bd e u/\Yg C.P m b k cs u e a' w'
def Ey(C:ZO)(bd nt:Nat)(c:Code)(t:T)(df:List ZU)(g:G)(e:PE)(t':T)(df':List ZU)(g':G):Prop :=
 ∀A w γ hg nx b a k cs,ZB C A bd w γ hg nx->Wo g.h hg->WF g->Wg γ g g'->TR w γ A bd nt t a.tmps->DR w γ A bd df a.defers->b.roundOf=none->sN b.kind cs ->
  Ez C A bd nt b k cs (lone (b.atR a (.code c::k)) cs w) w γ hg nx g e t' df' g'
def NW(P:Program)(K:CallKind)(f:FuncId)(vs:Array Value)(cs:List Frame)(w:World)(u:Value)(w':World):Prop :=∃fr,Steps P (lone (Frame.enter P f vs K) cs w) (lone fr cs w')/\fr.leaving P w' (.panicked [{ v:=u,recovered:=false }])
def NV(C:ZO)(bd:Nat)(f:FuncId)(as:List AV)(g:G)(v:AV)(g':G):Prop :=
 ∀A w γ hg nx vs,ZB C A bd w γ hg nx->Wo g.h hg->WF g->Wg γ g g'->S9 w γ A bd as vs->∀K cs,sN K cs ->
  ∃u w' γ' hg',Fin C A bd w γ hg nx g w' γ' hg' g'/\RV w' γ' A bd v u/\NW C.P K f vs.toArray cs w u w'
structure Yq (C:ZO) (ph:PH):Prop where
 ZA:YN ph
 code:∀bd nt c t df g e t' df' g',ph.code nt (bd+1) c t df g=.ok e t' df' g'->Ey C bd nt c t df g e t' df' g'
 call:∀bd f as g v g',ph.call (bd+1) f as g=.ok v g'->mI C.P f/\DW C bd f as g v g'
 XJ:∀bd f as g v g',ph.call (bd+1) f as g=.XJ v g'->mI C.P f/\NV C bd f as g v g'
section
variable {b:Frame}{a:Act}{ops:Array Oper}{i:Nat}{rest:List Nat}{k:List Item}{cs:List Frame}{o:Oper}
theorem NK{P:Program}{v:Value}(ho:ops[i]?=some o)(hw:Region.wanted o (yielded ops a.tmps)=true)(hd:∀c,o.op≠.defer c)
  (hrun:(execOp a.eval o).run P w=.halt (.panic v) w) :
  step P (lone (b.atR a (.inRegion ops (i::rest)::k)) cs w)=.next (lone ((b.atR a (.inRegion ops (i::rest)::k)).raise [{ v,recovered:=false }]) cs w):=by
 refine step_lone_go ?_;simp_all[stepGR_op,Oper.semAt_eq,stepG.apply]
theorem HL{P:Program}{f:FuncId}{args:Array Value}{w₁:World}(ho:ops[i]?=some o)(hw:Region.wanted o (yielded ops a.tmps)=true)(hd:∀c,o.op≠.defer c)
  (hrun:(execOp a.eval o).run P w=.ok (.enter f args) w)
  (hout:NW P .normal f args (b.atR a (.inRegion ops (i::rest)::k)::cs) w u w₁) :
  Steps P (lone (b.atR a (.inRegion ops (i::rest)::k)) cs w) (lone ((b.atR a (.inRegion ops (i::rest)::k)).raise [{ v:=u,recovered:=false }]) cs w₁):=by
 obtain⟨fr,hs,hl⟩:=hout<;>grind[Steps.head,GC,Steps.trans,Steps.one,step_leave_panicked]
theorem Md{P:Program}{c0:Frame}{older:List PanicEntry}(ho:ops[i]?=some o)(hw:Region.wanted o (yielded ops a.tmps)=true)(hd:∀c,o.op≠.defer c)
  (hk:b.kind=.deferred) (hro:b.roundOf=none) (hm:c0.mode=.panicking ({ v:=u,recovered:=false }::older)) (hrun:(execOp a.eval o).run P w=.ok .recover w) :
  step P (lone (b.atR a (.inRegion ops (i::rest)::k)) (c0::cs) w)=.next (lone (b.atR (a.put o.dst u) (.inRegion ops rest::k)) ({ c0 with mode:=.panicking ({ v:=u,recovered:=true }::older) }::cs) w):=by
 have h:=Frame.finish_atR b a ops i rest k u;rw[ho]at h;simp only[WC]at h;have d:tryRecover (b.atR a (.inRegion ops (i::rest)::k)) (c0::cs)=some (u,{ c0 with mode:=.panicking ({ v:=u,recovered:=true }::older) }::cs):=by grind[tryRecover,Frame.atR]
 refine step_lone_go ?_;rw[stepGR_op ho hw,Oper.semAt_eq _ _ _ hd,<-h];simp_all[Frame.atR,stepG.apply]
theorem PK(hp:Yq C ph)(hr:ZB C A bd w γ hg nx)(hwf:WF g)(hx:Wo g.h hg){fv:AV}{v:Value}{vs:List Value}
  (hfv:RV w γ A bd fv v) (has:S9 w γ A bd as vs) {r:PF} (h:sS C ph (bd+1) fv as g=some r)
  (ho:ops[i]?=some o) (hw:Region.wanted o (yielded ops a.tmps)=true) (hd:∀c,o.op≠.defer c)
  (hexec:(execOp a.eval o).run C.P w=(do let d <-Deferred.ofValue v vs.toArray;invoke d.target d.args:Sem Next).run C.P w) :
  (∀x g1,r=.ok x g1->Wg γ g g1->∃u w' γ' hg',Fin C A bd w γ hg nx g w' γ' hg' g1/\RV w' γ' A bd x u /\
   Steps C.P (lone (b.atR a (.inRegion ops (i::rest)::k)) cs w) (lone (b.atR (a.put o.dst u) (.inRegion ops rest::k)) cs w')) /\
  (∀x g1,r=.XJ x g1->Wg γ g g1->∃u w' γ' hg',Fin C A bd w γ hg nx g w' γ' hg' g1/\RV w' γ' A bd x u /\
   Steps C.P (lone (b.atR a (.inRegion ops (i::rest)::k)) cs w) (lone ((b.atR a (.inRegion ops (i::rest)::k)).raise [{ v:=u,recovered:=false }]) cs w')):=by
 unfold sS at h;cases hfv with
 | ZH _ f xs ys vs1 us1 hl hl2 h1 h2 =>
  dsimp only at h;rw[aa]at h
  split at h
  ·cases h
  injection h with h;have e:S9 w γ A bd (xs++(as++ys)) (vs1.toList++(vs++us1.toList)):=(Zf hl h1).append (has.append (Zf hl2 h2));have l:(vs1.toList++(vs++us1.toList)).toArray=(vs1++vs.toArray)++us1:=by grind
  have j:mI C.P f->(execOp a.eval o).run C.P w=.ok (.enter f ((vs1++vs.toArray)++us1)) w:=by intro he;rw[hexec];simp only[Deferred.ofValue,invoke,Qk,MV,abi];exact he _ _
  refine⟨λx g1 hr1 hf=>?_,λx g1 hr1 hf=>?_⟩
  ·obtain⟨he,hs⟩:=hp.call _ _ _ _ _ _ (h.trans hr1);obtain⟨u,w',γ',hg',f1,rv,out⟩:=hs A w γ hg nx _ hr hx hwf hf e .normal (b.atR a (.inRegion ops (i::rest)::k)::cs) (.inl rfl)
   grind[vd]
  ·obtain⟨he,hs⟩:=hp.XJ _ _ _ _ _ _ (h.trans hr1);obtain⟨u,w',γ',hg',f1,rv,out⟩:=hs A w γ hg nx _ hr hx hwf hf e .normal (b.atR a (.inRegion ops (i::rest)::k)::cs) (.inl rfl)
   grind[HL]
 |_=>cases h
end
theorem LC(hC:ZK C)(hi:Vv C ih)(hp:Yq C ph){ops:Array Oper}{b:Frame}{k:List Item}{cs:List Frame}:∀(l:List Oper) (i:Nat) {t:T} {df:List ZU} {g:G} {e:PE} {t':T} {df':List ZU} {g':G},
  ops.toList.drop i=l->(qr C nt ops.toList l).run ih ph (bd+1) t df g=.ok e t' df' g'->WF g ->
  ∀{w γ hg nx a},ZB C A bd w γ hg nx->Wo g.h hg->Wg γ g g'->TR w γ A bd nt t a.tmps->DR w γ A bd df a.defers->b.roundOf=none->sN b.kind cs ->
   Ez C A bd nt b k cs (lone (b.atR a (.inRegion ops (List.range' i l.length)::k)) cs w) w γ hg nx g e t' df' g':=by
 intro l
 induction l with
 | nil =>intro i t df g e t' df' g' _ h _ w γ hg nx a hr hx hf ht z F m;simp only[qr]at h;injection h with h1 h2 L h4;subst h1;subst h2;subst L;subst h4;exact⟨a,w,γ,hg,undef,Fin.refl hr,ht,z,trivial,.one stepR_region_end⟩
 | cons o rest ihl =>
  intro i t df g e t' df' g' J h p w γ hg nx a hr hx hf ht z F m;have ho:ops[i]?=some o:=by
   have:(ops.toList.drop i)[0]?=some o:=by grind
   grind
  have n:ops.toList.drop (i+1)=rest:=by rw[<-HE,J];rfl
  have H:List.range' i (o::rest).length=i::List.range' (i+1) rest.length:=by simp[adV]
  rw[H];have Q:∀(args:Array Operand),(args.toList.map a.eval).toArray=args.map a.eval:=λargs=>by grind
  have next:∀{out:TM (T->AV->T)} {x:AV} {u:Value} {g1:G} {w1:World} {γ1:Gm} {B:Nat->ZM},ua nt o.dst=some out->Mon g g1->Fin C A bd w γ hg nx g w1 γ1 B g1->RV w1 γ1 A bd x u ->
    Steps C.P (lone (b.atR a (.inRegion ops (i::List.range' (i+1) rest.length)::k)) cs w) (lone (b.atR (a.put o.dst u) (.inRegion ops (List.range' (i+1) rest.length)::k)) cs w1) ->
    (qr C nt ops.toList rest).run ih ph (bd+1) (out.run t x) df g1=.ok e t' df' g' ->
    Ez C A bd nt b k cs (lone (b.atR a (.inRegion ops (i::List.range' (i+1) rest.length)::k)) cs w) w γ hg nx g e t' df' g':=by
   intro out x u g1 w1 γ1 B j hm f1 rv st h;have wf1:=hm.wf p;have O:=x9 hC.ZA hi.ZA hp.ZA h wf1;obtain⟨a',wb,γb,E,uu,f2,tr,dr,pv,st2⟩:=ihl (i+1) n h wf1 (a:=a.put o.dst u) f1.rel (f1.ext hm hx) (f1.freed hr hm hf) ((ht.step f1.WB).put j rv)
    (by have:=z.step f1.WB;cases hd:o.dst<;>simpa [Act.put,hd] using this) F m
   exact⟨a',wb,γb,E,uu,f1.trans f2 hm O,tr,dr,pv,st2.of_steps st⟩
  have plain:∀{out:TM (T->AV->T)},ua nt o.dst=some out->Region.wanted o (yielded ops a.tmps)=true ->
    sK out.run (λt df g=>(qr C nt ops.toList rest).run ih ph (bd+1) t df g) t df g ((bP C o.op).run ih (bd+1) none t g)=.ok e t' df' g' ->
    Ez C A bd nt b k cs (lone (b.atR a (.inRegion ops (i::List.range' (i+1) rest.length)::k)) cs w) w γ hg nx g e t' df' g':=by
   intro out j hw h;have hm:=j4 (op:=o.op) (d:=bd+1) (rd:=none) (t:=t) hC.ZA hi.ZA p;generalize hres:(bP C o.op).run ih (bd+1) none t g=r at h hm;have go:∀{x:AV} {g1:G},r≠.fail->(∀y,r≠.ZP y)->Q0 r=x->U7 g r=g1->(qr C nt ops.toList rest).run ih ph (bd+1) (out.run t x) df g1=.ok e t' df' g' ->
     Ez C A bd nt b k cs (lone (b.atR a (.inRegion ops (i::List.range' (i+1) rest.length)::k)) cs w) w γ hg nx g e t' df' g':=by
    intro x g1 X W h5 B h;subst h5;subst B;have O:=x9 hC.ZA hi.ZA hp.ZA h (hm.wf p);obtain⟨u,wa,γa,h7,f1,rv,st⟩:=JI (b:=b) (cs:=cs) (rest:=List.range' (i+1) rest.length) (k:=k) hC hi hr p ht m hx.agr hres X W (hf.le O.nx) ho hw<;>grind
   cases r with
   |fail=>cases h
   |val x=>exact go (by simp) (by simp) rfl rfl h
   |upd x g1=>exact go (by simp) (by simp) rfl rfl h
   | ZP x =>
    obtain⟨dd,R,st⟩:=N9 (b:=b) (cs:=cs) (rest:=List.range' (i+1) rest.length) (k:=k) (rd:=none) hr ht F z hres (λf e d args g y he N=>hC.Vo f e he d args g y N) ho hw;obtain⟨a',wb,γb,E,uu,f2,tr,dr,pv,st2⟩:=ihl (i+1) n h p (a:={ a with defers:=dd::a.defers }.put o.dst undef) hr hx hf
     (ht.put (a:={ a with defers:=dd::a.defers }) j dC)
     (by cases hd:o.dst<;>simpa [Act.put,hd] using R) F m
    exact⟨a',wb,γb,E,uu,f2,tr,dr,pv,st2.of_steps (.one st)⟩
  have exec:∀{out:TM (T->AV->T)},ua nt o.dst=some out->Region.wanted o (yielded ops a.tmps)=true ->
    (xZ C o.op out.run).run (λt df g=>(qr C nt ops.toList rest).run ih ph (bd+1) t df g) ih ph (bd+1) t df g=.ok e t' df' g' ->
    Ez C A bd nt b k cs (lone (b.atR a (.inRegion ops (i::List.range' (i+1) rest.length)::k)) cs w) w γ hg nx g e t' df' g':=by
   intro out j hw h;generalize hop:o.op=op at h;unfold xZ at h
   split at h
   ·
    rename_i x;have hd:∀c,o.op≠.defer c:=by grind
    split at h
    rotate_left
    ·cases h
    rename_i s hs;dsimp only at h;have I:=aC hs ht hr;generalize hev:a.eval x=vx at I
    split at h
    rotate_left
    ·cases h
    rename_i ty y N;rw[N]at I;injection h with h1 h2 L h4;subst h1;subst h2;subst L;subst h4;refine⟨a,w,γ,hg,vx,Fin.refl hr,ht,z,I,_,.one (NK ho hw hd ?_)⟩;cases I with
    | J7 _ _ _ u hu =>
     simp only[execOp,hop,hev]
     rfl
   ·
    rename_i x xty asserted ok;have hd:∀c,o.op≠.defer c:=by grind
    split at h
    rotate_left
    ·cases h
    rename_i s _ ik hs h6;dsimp only at h;have I:=aC hs ht hr;generalize hev:a.eval x=vx at I
    split at h
    rotate_left
    ·cases h
    rename_i ty y N;rw[N]at I;rw[aa]at h
    split at h
    rotate_left
    ·cases h
    rename_i K;have K:=aH K;subst K;cases I with
    | J7 _ _ _ u hu =>
     have M:(execOp a.eval o).run C.P w=.ok (.value (if ok then .tuple #[u,.bool true] else u)) w:=by simp_all[execOp,Instr.typeAssert,aG]
     refine next j (Mon.refl g) (Fin.refl hr) ?_ (.one (Aw ho hw hd M)) h
     cases ok with
     | true =>
      refine RV.Zz _ [y,.bool true] #[u,.bool true] rfl λi x v h1 h2=>?_
      match i with
      |0=>grind
      |1=>simp at h1 h2;subst h1;subst h2;exact .bool _ _
      |i+2=>grind
     |false=>exact hu
   ·
    rename_i fo args at2;have hd:∀c,o.op≠.defer c:=by grind
    split at h
    rotate_left
    ·cases h
    rename_i fv vs U Z;dsimp only at h
    split at h
    ·rename_i r D;obtain⟨s1,s2⟩:=PK (b:=b) (cs:=cs) (rest:=List.range' (i+1) rest.length) (k:=k) hp hr p hx (aC U ht hr) (jc ht hr Z) D ho hw hd (by grind[execOp,resolve]);cases r with
     |fail=>cases h
     | ok x g1 =>have hm:=BY hp.ZA D (.inl rfl) p;have O:=x9 hC.ZA hi.ZA hp.ZA h (hm.wf p);obtain⟨u,w1,γ1,B,f1,rv,st⟩:=s1 x g1 rfl (hf.le O.nx);exact next j hm f1 rv st h
     | XJ x g1 =>have h:PR.ok (.XJ x) t df g1=.ok e t' df' g':=h;injection h with h1 h2 L h4;subst h1;subst h2;subst L;subst h4;obtain⟨u,w1,γ1,B,f1,rv,st⟩:=s2 x g1 rfl hf;exact⟨a,w1,γ1,B,u,f1,ht.step f1.WB,z.step f1.WB,rv,_,st⟩
    grind
   grind
  simp only[qr]at h
  split at h
  ·rename_i out j
   split at h
   ·grind[Region.wanted]
   ·rename_i gd V
    split at h
    ·rename_i q hq;rw[<-V]at hq;dsimp only at h
     split at h
     ·grind[pc]
     ·rename_i Y;have hw:=pc hq ht Y;obtain⟨a',wb,γb,E,uu,f2,tr,dr,pv,st2⟩:=ihl (i+1) n h p (a:=a.put o.dst undef) hr hx hf
       (ht.put j dC) (by cases hd:o.dst<;>simpa [Act.put,hd] using z) F m
      exact⟨a',wb,γb,E,uu,f2,tr,dr,pv,st2.of_steps (.one (yu ho hw))⟩
     grind
    grind
  grind
theorem Lj(hC:ZK C)(hi:Vv C ih){c:Code}{t:T}{g:G}{e:PE}
  (h:OL ((aR C nt c).run ih (bd+1) none t df g)=.ok e t' df' g'):Ey C bd nt c t df g e t' df' g':=by
 generalize hr:(aR C nt c).run ih (bd+1) none t df g=r at h;cases r with
 |fail=>cases h
 | ok e1 t1 df1 g1 =>have h:PR.ok (.ex e1) t1 df1 g1=.ok e t' df' g':=h;injection h with h1 h2 n h4;subst h1;subst h2;subst n;subst h4;intro A w γ hg nx b a k cs i hx m hf ht j l d;obtain⟨a',w',γ',hg',f,tr,dr,ar⟩:=BX hC hi c hr A w γ hg nx b a k cs i hx m hf ht j l d;exact⟨a',w',γ',hg',undef,f,tr,dr,trivial,ar⟩
theorem sZ(hC:ZK C)(hi:Vv C ih)(hp:Yq C ph):∀(c:Code) {t:T} {df:List ZU} {g:G} {e:PE} {t':T} {df':List ZU} {g':G},
  (cA C nt c).run ih ph (bd+1) t df g=.ok e t' df' g'->Ey C bd nt c t df g e t' df' g':=by
 intro c
 induction c with
 | region id ops draw =>
  intro t df g e t' df' g' h;cases draw with
  |true=>simp only[cA]at h;grind[Lj]
  | false =>intro A w γ hg nx b a k cs hr hx l hf ht n m d;simp only[cA]at h;obtain⟨a',w',γ',hg',u,f,tr,dr,pv,ar⟩:=LC (b:=b) (cs:=cs) (k:=k) hC hi hp ops.toList 0 (by simp) h l hr hx hf ht n m d;refine⟨a',w',γ',hg',u,f,tr,dr,pv,Yg.of_steps (.one stepR_region) ?_⟩<;>grind[adT]
 | seq x y ihx ihy =>
  intro t df g e t' df' g' h A w γ hg nx b a k cs hr hx l hf ht n m d;simp only[cA]at h;generalize hc:(cA C nt x).run ih ph (bd+1) t df g=r at h;cases r with
  |fail=>cases h
  | ok e1 t1 df1 g1 =>
   have z:=dK hC.ZA hi.ZA hp.ZA _ hc l;have wf1:=z.wf l;cases e1 with
   | XJ v =>have h:PR.ok (.XJ v) t1 df1 g1=.ok e t' df' g':=h;injection h with h1 h2 p h4;subst h1;subst h2;subst p;subst h4;obtain⟨a1,w1,γ1,i,o,f1,tr1,dr1,pv1,k₁,ar1⟩:=ihx hc A w γ hg nx b a (.code y::k) cs hr hx l hf ht n m d;exact⟨a1,w1,γ1,i,o,f1,tr1,dr1,pv1,k₁,.head stepR_seq ar1⟩
   | ex e1 =>
    cases e1 with
    | norm =>have h:(cA C nt y).run ih ph (bd+1) t1 df1 g1=.ok e t' df' g':=h;have D:=dK hC.ZA hi.ZA hp.ZA _ h wf1;obtain⟨a1,w1,γ1,i,o,f1,tr1,dr1,pv1,ar1⟩:=ihx hc A w γ hg nx b a (.code y::k) cs hr hx l (hf.le D.nx) ht n m d;obtain⟨a2,H,γ2,B,F,f2,tr2,dr2,pv2,ar2⟩:=ihy h A w1 γ1 i _ b a1 k cs f1.rel (f1.ext z hx) wf1 (f1.freed hr z hf) tr1 dr1 m d;exact⟨a2,H,γ2,B,F,f1.trans f2 z D,tr2,dr2,pv2,ar2.of_steps (.head stepR_seq ar1)⟩
    | exit j =>have h:PR.ok (.ex (.exit j)) t1 df1 g1=.ok e t' df' g':=h;injection h with h1 h2 p h4;subst h1;subst h2;subst p;subst h4;obtain⟨a1,w1,γ1,i,o,f1,tr1,dr1,pv1,k₁,hk,ar1⟩:=ihx hc A w γ hg nx b a (.code y::k) cs hr hx l hf ht n m d;exact⟨a1,w1,γ1,i,o,f1,tr1,dr1,pv1,k₁,by rw[hk];rfl,.head stepR_seq ar1⟩
    | ret =>have h:PR.ok (.ex .ret) t1 df1 g1=.ok e t' df' g':=h;injection h with h1 h2 p h4;subst h1;subst h2;subst p;subst h4;obtain⟨a1,w1,γ1,i,o,f1,tr1,dr1,pv1,k₁,ar1⟩:=ihx hc A w γ hg nx b a (.code y::k) cs hr hx l hf ht n m d;exact⟨a1,w1,γ1,i,o,f1,tr1,dr1,pv1,k₁,.head stepR_seq ar1⟩
 | cond c x y ihx ihy =>
  intro t df g e t' df' g' h A w γ hg nx b a k cs hr hx l hf ht n m d;simp only[cA]at h
  split at h
  rotate_left
  ·cases h
  rename_i s hs;dsimp only at h;have I:=aC hs ht hr;generalize hcv:a.eval c=vc at I;generalize s.run t=cv at h I;cases I with
  | bool _ bv =>
   dsimp only at h;cases bv with
   | true =>obtain⟨a1,w1,γ1,i,o,f1,tr1,dr1,pv1,ar1⟩:=ihx h A w γ hg nx b a k cs hr hx l hf ht n m d;exact⟨a1,w1,γ1,i,o,f1,tr1,dr1,pv1,ar1.of_steps (.one (by simp_all[stepR_cond]))⟩
   | false =>obtain⟨a1,w1,γ1,i,o,f1,tr1,dr1,pv1,ar1⟩:=ihy h A w γ hg nx b a k cs hr hx l hf ht n m d;exact⟨a1,w1,γ1,i,o,f1,tr1,dr1,pv1,ar1.of_steps (.one (by simp_all[stepR_cond]))⟩
  |_=>cases h
 | block id body ihb =>
  intro t df g e t' df' g' h A w γ hg nx b a k cs hr hx l hf ht n m d;simp only[cA]at h;generalize hc:(cA C nt body).run ih ph (bd+1) t df g=r at h;cases r with
  |fail=>cases h
  | ok e1 t1 df1 g1 =>
   cases e1 with
   | XJ v =>have h:PR.ok (.XJ v) t1 df1 g1=.ok e t' df' g':=h;injection h with h1 h2 p h4;subst h1;subst h2;subst p;subst h4;obtain⟨a1,w1,γ1,i,o,f1,tr1,dr1,pv1,k₁,ar1⟩:=ihb hc A w γ hg nx b a (.inBlock id::k) cs hr hx l hf ht n m d;exact⟨a1,w1,γ1,i,o,f1,tr1,dr1,pv1,k₁,.head stepR_block ar1⟩
   | ex e1 =>
    cases e1 with
    | norm =>have h:PR.ok (.ex .norm) t1 df1 g1=.ok e t' df' g':=h;injection h with h1 h2 p h4;subst h1;subst h2;subst p;subst h4;obtain⟨a1,w1,γ1,i,o,f1,tr1,dr1,pv1,ar1⟩:=ihb hc A w γ hg nx b a (.inBlock id::k) cs hr hx l hf ht n m d;exact⟨a1,w1,γ1,i,o,f1,tr1,dr1,pv1,.head stepR_block (Steps.trans ar1 (.one stepR_inBlock))⟩
    | exit j =>
     simp only[uk,aa]at h
     split at h
     ·rename_i E;have E:=aH E;subst E;injection h with h1 h2 p h4;subst h1;subst h2;subst p;subst h4;obtain⟨a1,w1,γ1,i,o,f1,tr1,dr1,pv1,k₁,hk,ar1⟩:=ihb hc A w γ hg nx b a (.inBlock j::k) cs hr hx l hf ht n m d;exact⟨a1,w1,γ1,i,o,f1,tr1,dr1,trivial,.head stepR_block (Steps.trans ar1 (.one (stepR_exit (by grind[exitTo]))))⟩
     ·rename_i E;injection h with h1 h2 p h4;subst h1;subst h2;subst p;subst h4;obtain⟨a1,w1,γ1,i,o,f1,tr1,dr1,pv1,k₁,hk,ar1⟩:=ihb hc A w γ hg nx b a (.inBlock id::k) cs hr hx l hf ht n m d;refine⟨a1,w1,γ1,i,o,f1,tr1,dr1,pv1,k₁,?_,.head stepR_block ar1⟩;rw[hk];have J:(id == j)=false:=by simp only[beq_eq_false_iff_ne,ne_eq];rintro rfl<;>simp_all
      grind[exitTo]
    | ret =>have h:PR.ok (.ex .ret) t1 df1 g1=.ok e t' df' g':=h;injection h with h1 h2 p h4;subst h1;subst h2;subst p;subst h4;obtain⟨a1,w1,γ1,i,o,f1,tr1,dr1,pv1,k₁,ar1⟩:=ihb hc A w γ hg nx b a (.inBlock id::k) cs hr hx l hf ht n m d;exact⟨a1,w1,γ1,i,o,f1,tr1,dr1,pv1,k₁,.head stepR_block ar1⟩
 | loop body ihb =>
  intro t df g e t' df' g' h A w γ hg nx b a k cs hr hx l hf ht n m d;simp only[cA]at h;generalize hc:(cA C nt body).run ih ph (bd+1) t df g=r at h;cases r with
  |fail=>cases h
  | ok e1 t1 df1 g1 =>
   have z:=dK hC.ZA hi.ZA hp.ZA _ hc l;have wf1:=z.wf l;cases e1 with
   | XJ v =>have h:PR.ok (.XJ v) t1 df1 g1=.ok e t' df' g':=h;injection h with h1 h2 p h4;subst h1;subst h2;subst p;subst h4;obtain⟨a1,w1,γ1,i,o,f1,tr1,dr1,pv1,k₁,ar1⟩:=ihb hc A w γ hg nx b a (.inLoop body::k) cs hr hx l hf ht n m d;exact⟨a1,w1,γ1,i,o,f1,tr1,dr1,pv1,k₁,.head stepR_loop ar1⟩
   | ex e1 =>
    cases e1 with
    | norm =>
     have h:ph.code nt (bd+1) (.loop body) t1 df1 g1=.ok e t' df' g':=h;have D:=hp.ZA.code _ _ _ _ _ _ _ _ _ _ h wf1;obtain⟨a1,w1,γ1,i,o,f1,tr1,dr1,pv1,ar1⟩:=ihb hc A w γ hg nx b a (.inLoop body::k) cs hr hx l (hf.le D.nx) ht n m d;obtain⟨a2,H,γ2,B,F,f2,tr2,dr2,pv2,ar2⟩:=hp.code _ _ _ _ _ _ _ _ _ _ h A w1 γ1 i _ b a1 k cs f1.rel (f1.ext z hx) wf1 (f1.freed hr z hf) tr1 dr1 m d;refine⟨a2,H,γ2,B,F,f1.trans f2 z D,tr2,dr2,pv2,Yg.of_steps (.head stepR_loop (Steps.trans ar1 (.one stepR_inLoop))) ?_⟩;have q:step C.P (lone (b.atR a1 (.code (.loop body)::k)) cs w1)=.next (lone (b.atR a1 (.code body::.inLoop body::k)) cs w1):=stepR_loop;have ne:∀{a':Act} {k':List Item} {w':World},k'≠.code (.loop body)::k->lone (b.atR a1 (.code (.loop body)::k)) cs w1≠lone (b.atR a' k') cs w':=λh h'=>h (GM h').symm;cases e with
     | XJ v =>
      obtain⟨k₁,ar2⟩:=ar2;refine⟨k₁,ie ar2 (λh'=>?_) q⟩;have h1:(lone (b.atR a1 (.code (.loop body)::k)) cs w1).gs=(lone ((b.atR a2 k₁).raise [{ v:=F,recovered:=false }]) cs H).gs:=by rw[h']
      simp only[lone,Array.mk.injEq,List.cons.injEq,and_true]at h1;have h2:=congrArg (λg:Goroutine=>g.frame.mode) h1
      grind[Frame.atR,Frame.raise]
     | ex e =>
      cases e with
      |norm=>exact ie ar2 (ne (λh=>by have:=congrArg List.length h;grind)) q
      | exit j =>obtain⟨k₁,hk,ar2⟩:=ar2;exact⟨k₁,hk,ie ar2 (ne (λh=>by grind)) q⟩
      | ret =>obtain⟨k₁,ar2⟩:=ar2;exact⟨k₁,ie ar2 (ne (λh=>by grind)) q⟩
    | exit j =>have h:PR.ok (.ex (.exit j)) t1 df1 g1=.ok e t' df' g':=h;injection h with h1 h2 p h4;subst h1;subst h2;subst p;subst h4;obtain⟨a1,w1,γ1,i,o,f1,tr1,dr1,pv1,k₁,hk,ar1⟩:=ihb hc A w γ hg nx b a (.inLoop body::k) cs hr hx l hf ht n m d;exact⟨a1,w1,γ1,i,o,f1,tr1,dr1,pv1,k₁,by rw[hk];rfl,.head stepR_loop ar1⟩
    | ret =>have h:PR.ok (.ex .ret) t1 df1 g1=.ok e t' df' g':=h;injection h with h1 h2 p h4;subst h1;subst h2;subst p;subst h4;obtain⟨a1,w1,γ1,i,o,f1,tr1,dr1,pv1,k₁,ar1⟩:=ihb hc A w γ hg nx b a (.inLoop body::k) cs hr hx l hf ht n m d;exact⟨a1,w1,γ1,i,o,f1,tr1,dr1,pv1,k₁,.head stepR_loop ar1⟩
 | scope body ihb =>
  intro t df g e t' df' g' h A w γ hg nx b a k cs hr hx l hf ht n m d;have h:(cA C nt body).run ih ph (bd+1) t df g=.ok e t' df' g':=h;obtain⟨a1,w1,γ1,i,o,f1,tr1,dr1,pv1,ar1⟩:=ihb h A w γ hg nx b a (.inScope body::k) cs hr hx l hf ht n m d;refine⟨a1,w1,γ1,i,o,f1,tr1,dr1,pv1,?_⟩;cases e with
  |XJ v=>obtain⟨k₁,ar1⟩:=ar1;exact⟨k₁,.head di ar1⟩
  | ex e =>
   cases e with
   |norm=>exact .head di (Steps.trans ar1 (.one sI))
   |exit j=>obtain⟨k₁,hk,ar1⟩:=ar1;exact⟨k₁,by rw[hk];rfl,.head di ar1⟩
   |ret=>obtain⟨k₁,ar1⟩:=ar1;exact⟨k₁,.head di ar1⟩
 |_=>intro t df g e t' df' g' h;simp only[cA]at h;grind[Lj]
theorem TK(hC:ZK C)(hi:Vv C ih)(hp:Yq C ph):∀(c:Code) {v:AV} {t:T} {g:G} {e:PE} {t':T} {df':List ZU} {g':G},
  (oY C nt c).run ih ph (bd+1) v t g=.ok e t' df' g'->∀A w γ hg nx (b:Frame) (a:Act) k c0 cs u,ZB C A bd w γ hg nx->Wo g.h hg->WF g->Wg γ g g'->TR w γ A bd nt t a.tmps->a.defers=[]->RV w γ A bd v u ->
  b.roundOf=none->b.kind=.deferred->c0.mode=.panicking [{ v:=u,recovered:=false }] ->
  Ez C A bd nt b k ({ c0 with mode:=.panicking [{ v:=u,recovered:=true }] }::cs) (lone (b.atR a (.code c::k)) (c0::cs) w) w γ hg nx g e t' df' g':=by
 intro c
 induction c with
 | region id ops draw =>
  intro v t g e t' df' g' h A w γ hg nx b a k c0 cs u hr hx l hf ht m q i hk hm;cases draw with
  |true=>cases h
  | false =>
   simp only[oY]at h
   split at h
   rotate_left
   ·cases h
   rename_i o rest H
   split at h
   rotate_left
   ·cases h
   rename_i ca cb F J
   split at h
   rotate_left
   ·cases h
   rename_i out z;have ho:ops[0]?=some o:=by
    have:ops.toList[0]?=some o:=by grind
    grind
   have hd:∀c,o.op≠.defer c:=by grind
   have hw:Region.wanted o (yielded ops a.tmps)=true:=by grind[Region.wanted]
   have st0:=Md (P:=C.P) (b:=b) (a:=a) (k:=k) (cs:=cs) (rest:=List.range' 1 rest.length) (w:=w) ho hw hd hk i hm
    (by simp only[execOp,F,resolve,invoke,Qk,MV,abi];rfl)
   obtain⟨a',w',γ',hg',uu,f,tr,dr,pv,st⟩:=LC (b:=b) (cs:={ c0 with mode:=.panicking [{ v:=u,recovered:=true }] }::cs) (k:=k) (a:=a.put o.dst u) hC hi hp rest 1 (by grind) h l hr hx hf (ht.put z q)
    (by cases hd:o.dst<;>simp[Act.put,m,DR]) i (.inr ⟨hk,_,cs,rfl,.inr ⟨u,false,[],rfl⟩⟩)
   have L:List.range ops.size=0::List.range' 1 rest.length:=by grind[aew,adT,adV]
   refine⟨a',w',γ',hg',uu,f,tr,dr,pv,st.of_steps (.head stepR_region (.one ?_))⟩<;>grind
 | seq x y ihx _ =>
  intro v t g e t' df' g' h A w γ hg nx b a k c0 cs u hr hx l hf ht m q i hk hm;simp only[oY]at h;generalize hc:(oY C nt x).run ih ph (bd+1) v t g=r at h;cases r with
  |fail=>cases h
  | ok e1 t1 df1 g1 =>
   have D:=Gp hC.ZA hi.ZA hp.ZA _ hc l;have wf1:=D.wf l;cases e1 with
   | XJ v1 =>have h:PR.ok (.XJ v1) t1 df1 g1=.ok e t' df' g':=h;injection h with h1 h2 p h4;subst h1;subst h2;subst p;subst h4;obtain⟨a1,w1,γ1,d,n,f1,tr1,dr1,pv1,k₁,ar1⟩:=ihx hc A w γ hg nx b a (.code y::k) c0 cs u hr hx l hf ht m q i hk hm;exact⟨a1,w1,γ1,d,n,f1,tr1,dr1,pv1,k₁,.head stepR_seq ar1⟩
   | ex e1 =>
    cases e1 with
    | norm =>have h:(cA C nt y).run ih ph (bd+1) t1 df1 g1=.ok e t' df' g':=h;have I:=dK hC.ZA hi.ZA hp.ZA _ h wf1;obtain⟨a1,w1,γ1,d,n,f1,tr1,dr1,pv1,ar1⟩:=ihx hc A w γ hg nx b a (.code y::k) c0 cs u hr hx l (hf.le I.nx) ht m q i hk hm;obtain⟨a2,N,γ2,E,M,f2,tr2,dr2,pv2,ar2⟩:=sZ hC hi hp y h A w1 γ1 d _ b a1 k ({ c0 with mode:=.panicking [{ v:=u,recovered:=true }] }::cs) f1.rel (f1.ext D hx) wf1 (f1.freed hr D hf) tr1 dr1 i (.inr ⟨hk,_,cs,rfl,.inr ⟨u,false,[],rfl⟩⟩);exact⟨a2,N,γ2,E,M,f1.trans f2 D I,tr2,dr2,pv2,ar2.of_steps (.head stepR_seq ar1)⟩
    | exit j =>have h:PR.ok (.ex (.exit j)) t1 df1 g1=.ok e t' df' g':=h;injection h with h1 h2 p h4;subst h1;subst h2;subst p;subst h4;obtain⟨a1,w1,γ1,d,n,f1,tr1,dr1,pv1,k₁,s,ar1⟩:=ihx hc A w γ hg nx b a (.code y::k) c0 cs u hr hx l hf ht m q i hk hm;exact⟨a1,w1,γ1,d,n,f1,tr1,dr1,pv1,k₁,by rw[s];rfl,.head stepR_seq ar1⟩
    | ret =>have h:PR.ok (.ex .ret) t1 df1 g1=.ok e t' df' g':=h;injection h with h1 h2 p h4;subst h1;subst h2;subst p;subst h4;obtain⟨a1,w1,γ1,d,n,f1,tr1,dr1,pv1,k₁,ar1⟩:=ihx hc A w γ hg nx b a (.code y::k) c0 cs u hr hx l hf ht m q i hk hm;exact⟨a1,w1,γ1,d,n,f1,tr1,dr1,pv1,k₁,.head stepR_seq ar1⟩
 | block id body ihb =>
  intro v t g e t' df' g' h A w γ hg nx b a k c0 cs u hr hx l hf ht m q i hk hm;simp only[oY]at h;generalize hc:(oY C nt body).run ih ph (bd+1) v t g=r at h;cases r with
  |fail=>cases h
  | ok e1 t1 df1 g1 =>
   cases e1 with
   | XJ v1 =>have h:PR.ok (.XJ v1) t1 df1 g1=.ok e t' df' g':=h;injection h with h1 h2 p h4;subst h1;subst h2;subst p;subst h4;obtain⟨a1,w1,γ1,d,n,f1,tr1,dr1,pv1,k₁,ar1⟩:=ihb hc A w γ hg nx b a (.inBlock id::k) c0 cs u hr hx l hf ht m q i hk hm;exact⟨a1,w1,γ1,d,n,f1,tr1,dr1,pv1,k₁,.head stepR_block ar1⟩
   | ex e1 =>
    cases e1 with
    | norm =>have h:PR.ok (.ex .norm) t1 df1 g1=.ok e t' df' g':=h;injection h with h1 h2 p h4;subst h1;subst h2;subst p;subst h4;obtain⟨a1,w1,γ1,d,n,f1,tr1,dr1,pv1,ar1⟩:=ihb hc A w γ hg nx b a (.inBlock id::k) c0 cs u hr hx l hf ht m q i hk hm;exact⟨a1,w1,γ1,d,n,f1,tr1,dr1,pv1,.head stepR_block (Steps.trans ar1 (.one stepR_inBlock))⟩
    | exit j =>
     simp only[uk,aa]at h
     split at h
     ·rename_i B;have B:=aH B;subst B;injection h with h1 h2 p h4;subst h1;subst h2;subst p;subst h4;obtain⟨a1,w1,γ1,d,n,f1,tr1,dr1,pv1,k₁,s,ar1⟩:=ihb hc A w γ hg nx b a (.inBlock j::k) c0 cs u hr hx l hf ht m q i hk hm;exact⟨a1,w1,γ1,d,n,f1,tr1,dr1,trivial,.head stepR_block (Steps.trans ar1 (.one (stepR_exit (by grind[exitTo]))))⟩
     ·rename_i B;injection h with h1 h2 p h4;subst h1;subst h2;subst p;subst h4;obtain⟨a1,w1,γ1,d,n,f1,tr1,dr1,pv1,k₁,s,ar1⟩:=ihb hc A w γ hg nx b a (.inBlock id::k) c0 cs u hr hx l hf ht m q i hk hm;refine⟨a1,w1,γ1,d,n,f1,tr1,dr1,pv1,k₁,?_,.head stepR_block ar1⟩;rw[s];have K:(id == j)=false:=by simp only[beq_eq_false_iff_ne,ne_eq];rintro rfl<;>simp_all
      grind[exitTo]
    | ret =>have h:PR.ok (.ex .ret) t1 df1 g1=.ok e t' df' g':=h;injection h with h1 h2 p h4;subst h1;subst h2;subst p;subst h4;obtain⟨a1,w1,γ1,d,n,f1,tr1,dr1,pv1,k₁,ar1⟩:=ihb hc A w γ hg nx b a (.inBlock id::k) c0 cs u hr hx l hf ht m q i hk hm;exact⟨a1,w1,γ1,d,n,f1,tr1,dr1,pv1,k₁,.head stepR_block ar1⟩
 | scope body ihb =>
  intro v t g e t' df' g' h A w γ hg nx b a k c0 cs u hr hx l hf ht m q i hk hm;have h:(oY C nt body).run ih ph (bd+1) v t g=.ok e t' df' g':=h;obtain⟨a1,w1,γ1,d,n,f1,tr1,dr1,pv1,ar1⟩:=ihb h A w γ hg nx b a (.inScope body::k) c0 cs u hr hx l hf ht m q i hk hm;refine⟨a1,w1,γ1,d,n,f1,tr1,dr1,pv1,?_⟩;cases e with
  |XJ v=>obtain⟨k₁,ar1⟩:=ar1;exact⟨k₁,.head di ar1⟩
  | ex e =>
   cases e with
   |norm=>exact .head di (Steps.trans ar1 (.one sI))
   |exit j=>obtain⟨k₁,hk,ar1⟩:=ar1;exact⟨k₁,by rw[hk];rfl,.head di ar1⟩
   |ret=>obtain⟨k₁,ar1⟩:=ar1;exact⟨k₁,.head di ar1⟩
 |_=>intro v t g e t' df' g' h;cases h
theorem TL(hC:ZK C)(hi:Vv C ih)(hp:Yq C ph){g:G}(h:CE C ih ph (bd+1) f v as g=some g'):mI C.P f /\
  ∀A w γ hg nx vs,ZB C A bd w γ hg nx->Wo g.h hg->WF g->Wg γ g g'->S9 w γ A bd as vs->∀(c0:Frame) (cs:List Frame) (u:Value),RV w γ A bd v u->c0.mode=.panicking [{ v:=u,recovered:=false }] ->
  ∃w' γ' hg' frX val,Fin C A bd w γ hg nx g w' γ' hg' g' /\
   Steps C.P (lone (Frame.enter C.P f vs.toArray .deferred) (c0::cs) w) (lone frX ({ c0 with mode:=.panicking [{ v:=u,recovered:=true }] }::cs) w')/\frX.kind=.deferred/\frX.going C.P w' (.returned val):=by
 unfold CE at h
 split at h
 ·cases h
 rename_i fn n
 split at h
 rotate_left
 ·cases h
 rename_i c r t q;rw[aa]at h
 split at h
 ·cases h
 rename_i a;simp only[T6,not_or,HF,afn]at a;obtain⟨x,p⟩:=a;rw[R1,ax]at p;refine⟨λargs w=>?_,?_⟩
 ·simp_all[callFunc]
 intro A w γ hg nx vs hr hx s hf F c0 cs u z hm
 let b:Frame:={ (default:Frame) with fn:=f,kind:=.deferred,roundOf:=none }
 let a0:Act:={ tmps:=vs.toArray++Array.replicate (fn.ntmps - vs.toArray.size) undef,defers:=[] }
 have i:Frame.enter C.P f vs.toArray .deferred=b.atR a0 [.code c]:=by grind[Frame.enter,Frame.atR]
 have key:∀{e:Ex} {t1:T} {g1:G},(oY C fn.ntmps c).run ih ph (bd+1) v (bk 0 as .nil) g=.ok (.ex e) t1 [] g1->(∀j,e≠.exit j)->(match r.run t1 g1 with|some _=>some g1|none=>none)=some g' ->
   ∃w' γ' hg' frX val,Fin C A bd w γ hg nx g w' γ' hg' g' /\
   Steps C.P (lone (Frame.enter C.P f vs.toArray .deferred) (c0::cs) w) (lone frX ({ c0 with mode:=.panicking [{ v:=u,recovered:=true }] }::cs) w')/\frX.kind=.deferred/\frX.going C.P w' (.returned val):=by
  intro e t1 g1 hc D k
  split at k
  rotate_left
  ·grind
  rename_i xs B;injection k with k;subst k;have H:=Gp hC.ZA hi.ZA hp.ZA _ hc s;obtain⟨a1,w1,γ1,o,I,f1,tr1,dr1,pv1,ar1⟩:=TK hC hi hp c hc A w γ hg nx b a0 [] c0 cs u hr hx s hf (D6 F p) rfl z rfl rfl hm;have m:a1.defers=[]:=by
   cases hd:a1.defers with
   |nil=>rfl
   |cons d ds=>rw[hd]at dr1;exact dr1.elim
  obtain⟨us,y,E⟩:=EM hC tr1 f1.rel (f1.ext H hx) q B;obtain⟨val,l,_⟩:=yj (γ:=γ1) (A:=A) (bd:=bd) y;rw[i];cases e with
  |norm=>exact⟨w1,γ1,o,{ b.atR a1 [] with mode:=.returning },val,f1,Steps.trans ar1 (.one (stepR_end rfl)),rfl,rfl,m,fn,n,l⟩
  | ret =>obtain⟨k₁,ar1⟩:=ar1;exact⟨w1,γ1,o,{ b.atR a1 (.code .ret::k₁) with mode:=.returning },val,f1,Steps.trans ar1 (.one (stepR_ret rfl)),rfl,rfl,m,fn,n,l⟩
  |exit j=>grind
 grind
theorem CQ(hC:ZK C)(hi:Vv C ih){fn:Func}{r:TM (T->G->Option (List AV))}(hres:rC C fn.results.toList=some r)
  (hend:cp ih (bd+1) r.run t df g=.ok v g') (hwf:WF g) (hr:ZB C A bd w γ hg nx) (hx:Wo g.h hg) (hf:Wg γ g g') {fr:Frame} {cs:List Frame} (ht:TR w γ A bd fn.ntmps t fr.tmps) (hdf:DR w γ A bd df fr.defers) (hm:fr.mode=.returning) :
  ∃u w' γ' hg',Fin C A bd w γ hg nx g w' γ' hg' g'/\RV w' γ' A bd v u/\Steps C.P (lone fr cs w) (lone { fr with defers:=[] } cs w')/\(results fn fr.tmps).run C.P w'=.ok u w':=by
 unfold cp at hend
 split at hend
 ·grind
 rename_i g2 h2;have f:=pf hi.ZA h2 hwf
 split at hend
 rotate_left
 ·grind
 rename_i xs b;injection hend with h1 k;subst k;subst h1;obtain⟨i,γ2,d,f2,st2⟩:=Iz hi h2 hwf (fr:=fr) (cs:=cs) hr hx hf hdf hm;obtain⟨us,a,e⟩:=EM hC (ht.step f2.WB) f2.rel (f2.ext f hx) hres b;obtain⟨u,hu,c⟩:=yj (γ:=γ2) (A:=A) (bd:=bd) a<;>grind
theorem Fc(hC:ZK C)(hi:Vv C ih)(hp:Yq C ph){fn:Func}{r:TM (T->G->Option (List AV))}(hres:rC C fn.results.toList=some r)(hwf:WF g)(hr:ZB C A bd w γ hg nx)(hx:Wo g.h hg)(hf:Wg γ g g')
  {fr:Frame} {cs:List Frame} (ht:TR w γ A bd fn.ntmps t fr.tmps) (hdf:DR w γ A bd df fr.defers)  (hm:fr.mode=.panicking [{ v:=u,recovered:=false }]) (hv:RV w γ A bd v u) (hfn:C.P.funcs[fr.fn]?=some fn) :
  (∀x,lZ C ih ph (bd+1) r.run v t df g=.ok x g'->∃y w' γ' hg',Fin C A bd w γ hg nx g w' γ' hg' g'/\RV w' γ' A bd x y/\Steps C.P (lone fr cs w) (lone { fr with mode:=.returning,defers:=[] } cs w')/\(results fn fr.tmps).run C.P w'=.ok y w') /\
  (∀x,lZ C ih ph (bd+1) r.run v t df g=.XJ x g'->∃y w' γ' hg',Fin C A bd w γ hg nx g w' γ' hg' g'/\RV w' γ' A bd x y/\fr.leaving C.P w' (.panicked [{ v:=y,recovered:=false }])/\w'=w):=by
 unfold lZ
 split
 ·refine⟨(by grind),λx h=>?_⟩;injection h with h1 h2;subst h1;subst h2;have hd:fr.defers=[]:=by
   cases hd:fr.defers with
   |nil=>rfl
   |cons d ds=>rw[hd]at hdf;exact hdf.elim
  exact⟨u,w,γ,hg,Fin.refl hr,hv,⟨hm,hd,fn,hfn⟩,rfl⟩
 ·rename_i f cap args ds
  split
  rotate_left
  ·grind
  rename_i g1 h1;refine⟨λx h=>?_,λx h=>(BG h).elim⟩;have h:=Eu h;have l:=LT hC.ZA hi.ZA hp.ZA h1 hwf;have wf1:=l.wf hwf;have p:=qM hi.ZA h wf1;obtain⟨i,j⟩:=TL (bd:=bd) hC hi hp h1;cases hd:fr.defers with
  |nil=>rw[hd]at hdf;exact hdf.elim
  | cons d es =>
   rw[hd]at hdf;obtain⟨⟨f',ys,us,e,k,s,m⟩,hdf⟩:=hdf;injection e with e1 B q;subst e1;subst q
   let fr0:Frame:={ fr with defers:=es }
   obtain⟨w1,γ1,n,frX,val,f1,st,q1,q2⟩:=j A w γ hg nx (d.args.toList++us.toList) hr hx hwf (hf.le p.nx) (by grind[S9.append]) fr0 cs u hv hm;have b:(d.args.toList++us.toList).toArray=d.args++us:=by grind
   rw[b]at st
   let fr1:Frame:={ fr with defers:=es,mode:=.returning }
   obtain⟨y,z,γ2,o,f2,rv,st2,a⟩:=CQ (w:=w1) (γ:=γ1) (hg:=n) (fr:=fr1) (cs:=cs) hC hi hres h wf1 f1.rel (f1.ext l hx) (f1.freed hr l hf) (ht.step f1.WB) (hdf.step f1.WB) rfl;refine⟨y,z,γ2,o,f1.trans f2 l p,rv,.head (step_defer (by grind) hd k ?_) (Steps.trans st (.head ?_ st2)),a⟩
   ·rw[k];simp only[invoke];exact i _ _
   ·have:=step_going_returned (P:=C.P) (c:={ fr0 with mode:=.panicking [{ v:=u,recovered:=true }] }) (cs:=cs) q1 q2;simpa [settle,fr0,fr1] using this
 grind
theorem mD(hC:ZK C)(hi:Vv C ih)(hp:Yq C ph) :
  (eg C ih ph (bd+1) f as g=.ok v g'->mI C.P f/\DW C bd f as g v g')/\(eg C ih ph (bd+1) f as g=.XJ v g'->mI C.P f/\NV C bd f as g v g'):=by
 unfold eg
 split
 ·grind
 rename_i fn y
 split
 rotate_left
 ·grind
 rename_i c r E p;rw[aa]
 split
 ·grind
 rename_i m;simp only[T6,not_or,HF,afn]at m;obtain⟨F,s⟩:=m;rw[R1,ax]at s;have n:mI C.P f:=λargs w=>by simp_all[callFunc]
 have enter:∀(K:CallKind) (vs:List Value),Frame.enter C.P f vs.toArray K=({ (default:Frame) with fn:=f,kind:=K,roundOf:=none }:Frame).atR { tmps:=vs.toArray++Array.replicate (fn.ntmps - vs.toArray.size) undef,defers:=[] } [.code c]:=λK vs=>by grind[Frame.enter,Frame.atR]
 split
 ·grind
 ·rename_i e t1 df1 g1 H hc;refine⟨λh=>⟨n,?_⟩,λh=>(BG h).elim⟩;have h:=Eu h;intro A w γ hg nx vs hr b k hf t K cs a;have d:=dK hC.ZA hi.ZA hp.ZA _ hc k;have wf1:=d.wf k;have q:=qM hi.ZA h wf1;obtain⟨a1,w1,γ1,i,x,f1,tr1,dr1,pv1,ar1⟩:=sZ hC hi hp c hc A w γ hg nx { (default:Frame) with fn:=f,kind:=K,roundOf:=none } { tmps:=vs.toArray++Array.replicate (fn.ntmps - vs.toArray.size) undef,defers:=[] } [] cs hr b k (hf.le q.nx) (D6 t s) trivial rfl a;have z:∃fr:Frame,Steps C.P (lone (Frame.enter C.P f vs.toArray K) cs w) (lone fr cs w1)/\fr.mode=.returning/\fr.defers=a1.defers/\fr.kind=K/\fr.fn=f/\fr.tmps=a1.tmps:=by
   rw[enter];cases e with
   |norm=>exact⟨_,Steps.trans ar1 (.one (stepR_end rfl)),rfl,rfl,rfl,rfl,rfl⟩
   | ret =>obtain⟨k₁,ar1⟩:=ar1;exact⟨_,Steps.trans ar1 (.one (stepR_ret rfl)),rfl,rfl,rfl,rfl,rfl⟩
   |exit j=>grind
  obtain⟨fr,st1,q1,q2,q3,D,q5⟩:=z;obtain⟨u,B,γ2,o,f2,rv,st2,l⟩:=CQ (w:=w1) (γ:=γ1) (hg:=i) (fr:=fr) (cs:=cs) hC hi p h wf1 f1.rel (f1.ext d b) (f1.freed hr d hf) (by grind) (by grind) q1;exact⟨u,B,γ2,o,f1.trans f2 d q,rv,{ fr with defers:=[] },Steps.trans st1 st2,q1,rfl,q3,D,fn,y,l⟩
 ·rename_i I t1 df1 g1 hc;have key:∀(A:Nat->Nat->Prop) (w:World) (γ:Gm) (hg:Nat->ZM) (nx:Nat) (vs:List Value),ZB C A bd w γ hg nx->Wo g.h hg->WF g->Wg γ g g1->S9 w γ A bd as vs->∀K cs,sN K cs ->
    ∃fr w1 γ1 i x,Mon g g1/\Fin C A bd w γ hg nx g w1 γ1 i g1/\TR w1 γ1 A bd fn.ntmps t1 fr.tmps/\DR w1 γ1 A bd df1 fr.defers/\RV w1 γ1 A bd I x/\fr.mode=.panicking [{ v:=x,recovered:=false }]/\fr.kind=K/\fr.fn=f /\
     Steps C.P (lone (Frame.enter C.P f vs.toArray K) cs w) (lone fr cs w1):=by
   intro A w γ hg nx vs hr b k hf t K cs a;have d:=dK hC.ZA hi.ZA hp.ZA _ hc k;obtain⟨a1,w1,γ1,i,x,f1,tr1,dr1,pv1,k₁,ar1⟩:=sZ hC hi hp c hc A w γ hg nx { (default:Frame) with fn:=f,kind:=K,roundOf:=none } { tmps:=vs.toArray++Array.replicate (fn.ntmps - vs.toArray.size) undef,defers:=[] } [] cs hr b k hf (D6 t s) trivial rfl a;rw[enter];exact⟨_,w1,γ1,i,x,d,f1,tr1,dr1,pv1,rfl,rfl,rfl,ar1⟩
  refine⟨λh=>⟨n,?_⟩,λh=>⟨n,?_⟩⟩
  ·intro A w γ hg nx vs hr b k hf t K cs a;have d:=dK hC.ZA hi.ZA hp.ZA _ hc k;have q:=zQ hC.ZA hi.ZA hp.ZA (.inl h) (d.wf k);obtain⟨fr,w1,γ1,i,x,_,f1,tr1,dr1,rv1,q1,q3,D,st1⟩:=key A w γ hg nx vs hr b k (hf.le q.nx) t K cs a;obtain⟨u,B,γ2,o,f2,rv,st2,l⟩:=(Fc (fr:=fr) (cs:=cs) hC hi hp p (d.wf k) f1.rel (f1.ext d b) (f1.freed hr d hf) tr1 dr1 q1 rv1 (by grind)).1 v h;exact⟨u,B,γ2,o,f1.trans f2 d q,rv,_,Steps.trans st1 st2,rfl,rfl,q3,D,fn,y,l⟩
  ·intro A w γ hg nx vs hr b k hf t K cs a;have d:=dK hC.ZA hi.ZA hp.ZA _ hc k;have q:=zQ hC.ZA hi.ZA hp.ZA (.inr h) (d.wf k);obtain⟨fr,w1,γ1,i,x,_,f1,tr1,dr1,rv1,q1,q3,D,st1⟩:=key A w γ hg nx vs hr b k (hf.le q.nx) t K cs a;obtain⟨u,B,γ2,o,f2,rv,hl,rfl⟩:=(Fc (fr:=fr) (cs:=cs) hC hi hp p (d.wf k) f1.rel (f1.ext d b) (f1.freed hr d hf) tr1 dr1 q1 rv1 (by grind)).2 v h;exact⟨u,B,γ2,o,f1.trans f2 d q,rv,fr,st1,hl⟩
 grind
theorem We(hC:ZK C)(n:Nat):∀m,Yq C (Yc C n m):=by
 intro m
 induction m with
 |zero=>exact⟨Gx hC.ZA n 0,λbd nt c t df g e t' df' g' h=>(by cases h),λbd f as g v g' h=>(by cases h),λbd f as g v g' h=>(by cases h)⟩
 | succ m ihm =>exact⟨Gx hC.ZA n (m+1),λbd nt c t df g e t' df' g' h=>sZ hC (nY hC n) ihm c h,λbd f as g v g' h=>(mD hC (nY hC n) ihm).1 h,λbd f as g v g' h=>(mD hC (nY hC n) ihm).2 h⟩
end
end
def Tp:PF->FR
 |.ok v g=>.ok v g
 |_=>.fail
def ihP(C:ZO)(n m:Nat):IH:=⟨λ_ _ _ _ _ _ _=>.fail,λd f as g=>Tp ((Yc C n m).call d f as g)⟩
theorem JH{r:PF}(h:Tp r=.ok v g):r=.ok v g:=by
 cases r with
 |ok v' g'=>injection h with h1 h2;grind
 |fail=>cases h
 |XJ v' g'=>cases h
theorem SN(hC:ZK C):Ew C (ihP C n m):=λbd f as g v g' h=>(We hC n m).call bd f as g v g' (JH h)
theorem Vr(hC:ZK C):AB (ihP C n m):=λd f as g v g' h hwf=>(Gx hC.ZA n m).call d f as g v g' (.inl (JH h)) hwf
def SU(C:ZO)(n m f:Nat):Nat->List AV->G->OR:=λd as g=>af (ihP C n m) d g f as
theorem Oy{ih:IH}(hc:Ew C ih)(hm:AB ih):Zm C f (λd as g=>af ih d g f as):=by refine⟨λd args g hwf=>nh hwf,λd args g y=>sC,λA bd w γ hg nx g as vs hr hwf hx hf hv hne cs=>?_⟩;obtain⟨he,u,w',γ',hg',fin,rv,out⟩:=q9 hc hm hr hx hv hne cs<;>grind
theorem Ea(hC:ZK C):Zm C f (SU C n m f):=Oy (SN hC) (Vr hC)
end
end Hx
