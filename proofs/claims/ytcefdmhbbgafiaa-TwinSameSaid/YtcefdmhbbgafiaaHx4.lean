/- A part of the proof: what the functions of the chapter compute. -/
import Derived.Orders
import Derived.Below
import Derived.Laws.Externs
import Derived.Test.YtcefdmhbbgafiaaHx3
set_option linter.all false
set_option maxHeartbeats 8000000
section
namespace Hx
open Go
def TraAt(C:Cfg)(ih:IH)(d:Nat)(rd:Option Nat)(nt:Nat)(ops:Array Oper)(q:Bool)(o:Oper)(t t':T)(g g':G)(f:Foot):Prop :=
 ∃out gd,vQ nt o.dst=some out/\jR ops.toList o.guard=some gd /\
  ((gd.run t=some false/\t'=out.run t .undef/\g'=g/\f.wr=[]) \/
   (gd.run t=some true/\∃r,(cB C o.op).run ih d rd t (aO g [])=r/\r≠.fail/\(∀a,r≠.dfr a)/\t'=out.run t (vOf r)/\g'.h=(gOf (aO g []) r).h /\
    f.wr=(gOf (aO g []) r).lg/\(gOf (aO g []) r).nx<=g'.nx/\(q=false->f.lk=(aP C o.op).run t g/\(gOf (aO g []) r).nx<g'.nx)))
def ja(ops:Array Oper)(i:Nat):Option Tmp:=(ops[i]?).bind (·.dst)
structure Reg (C:Cfg) (ih:IH) (bd:Nat) (rd:Option Nat) (nt:Nat) (ops:Array Oper) (q:Bool) (T':Nat->T) (G':Nat->G) (F':Nat->Foot) (hg0:Nat->AObj):Prop where
 hC:CfgOk C
 hi:IHOk C ih
 tra:∀i o,ops[i]?=some o->TraAt C ih (bd+1) rd nt ops q o (T' i) (T' (i+1)) (G' i) (G' (i+1)) (F' i)
 wf0:WF (G' 0)
 ext0:Ext (G' 0).h hg0
 free0:∀id,(G' 0).nx<=id->id<=(G' ops.size).nx->hg0 id=.none
 apart:∀i j,i<j->j<ops.size->((bJ ops.toList []).getD j 0).testBit i=true\/bE (F' i) (F' j)=true
 once:∀i j j',i<j->j<j'->j'<ops.size->(F' i).lk.sr≠[]->((bJ ops.toList []).getD j 0).testBit i=false->((bJ ops.toList []).getD j' 0).testBit i=false ->
  meets (F' j).wr (fst1 (F' i).lk.sr)=true->meets (F' j').wr (fst1 (F' i).lk.sr)=true->False
 slots:∀i j oi oj,i<j->ops[i]?=some oi->ops[j]?=some oj->((bJ ops.toList []).getD j 0).testBit i=true\/kH ops.toList oi oj=true
 guards:∀i o j b,ops[i]?=some o->o.guard=some (j,b)->((bJ ops.toList []).getD i 0).testBit j=true
 quiet:q=true->∀i,i<ops.size->(F' i).wr=[]
section
variable {C:Cfg}{A:Nat->Nat->Prop}{bd:Nat}{ih:IH}{rd:Option Nat}{nt:Nat}{ops:Array Oper}{q:Bool}{T':Nat->T}{G':Nat->G}{F':Nat->Foot}{hg0:Nat->AObj}
theorem TraAt.facts(hC:CfgOk C)(hi:IHOk C ih){d:Nat}{o:Oper}{t t':T}{g g':G}{f:Foot}(h:TraAt C ih d rd nt ops q o t t' g g' f)(hwf:WF g) :
  WF g'/\g.nx<=g'.nx/\(∀id,id ∉ f.wr->g'.h.get id=g.h.get id)/\∀id∈f.wr,id<g'.nx/\(g.h.get id=.none->g.nx<=id):=by
 obtain⟨out,gd,_,_,h⟩:=h;rcases h with⟨_,_,rfl,hw⟩|⟨_,r,hr,hne,_,_,hh,hw,hnx,_⟩
 ·grind
 ·have hm:Mon (aO g []) (gOf (aO g []) r):=by grind[mX,CfgOk.mon,IHOk.mon,WF.setLog]
  obtain⟨n,a,b,c⟩:=hm.new;have e:(gOf (aO g []) r).lg=n:=by simp_all
  have hnx0:g.nx<=(gOf (aO g []) r).nx:=by have:=hm.nx;simp_all
  refine⟨λid hid=>?_,TU hnx0 hnx,λid hid=>?_,λid hid=>?_⟩
  ·rw[hh];exact hm.wf hwf.setLog id (by omega)
  all_goals grind[setLog_h,setLog_nx]
theorem Reg.facts(R:Reg C ih bd rd nt ops q T' G' F' hg0):∀i,i<=ops.size->WF (G' i):=by
 intro i
 induction i with
 |zero=>grind[wf0]
 | succ i ih' =>
  intro h;have ho:ops[i]?=some ops[i]:=(by grind);exact (TraAt.facts R.hC R.hi (R.tra i _ ho) (ih' (by omega))).1
theorem Reg.at(R:Reg C ih bd rd nt ops q T' G' F' hg0){i:Nat}(h:i<ops.size) :
  (G' i).nx<=(G' (i+1)).nx/\(∀id,id ∉ (F' i).wr->(G' (i+1)).h.get id=(G' i).h.get id)/\∀id∈(F' i).wr,id<(G' (i+1)).nx/\((G' i).h.get id=.none->(G' i).nx<=id):=by
 have ho:ops[i]?=some ops[i]:=T7 h;exact (TraAt.facts R.hC R.hi (R.tra i _ ho) (R.facts i (by omega))).2
theorem Reg.nx_mono(R:Reg C ih bd rd nt ops q T' G' F' hg0){i j:Nat}(h:i<=j)(hj:j<=ops.size):(G' i).nx<=(G' j).nx:=by
 induction j with
 |zero=>grind
 | succ j ih' =>
  by_cases hij:i=j+1
  ·grind
  ·exact TU (by grind) (R.at (by omega)).1
theorem Reg.keepT(R:Reg C ih bd rd nt ops q T' G' F' hg0){j:Nat}(hj:j<ops.size){s:Nat}(h:ja ops j≠some s):(T' (j+1)).get AV.undef s=(T' j).get AV.undef s:=by
 have ho:ops[j]?=some ops[j]:=T7 hj;obtain⟨out,gd,hout,_,h'⟩:=R.tra j _ ho;have key:∀x,(out.run (T' j) x).get AV.undef s=(T' j).get AV.undef s:=by
  intro x;simp only[ja,ho,Vc]at h;cases hd:ops[j].dst with
  |none=>rw[hd]at hout;simp[vQ]at hout;subst hout;rfl
  | some d =>
   rw[hd]at hout h;simp only[vQ,aa]at hout
   split at hout
   ·injection hout with hout;subst hout;rw[sp_get,TF]
    grind
   grind
 grind
def Down(ops:Array Oper)(S:Nat->Prop):Prop:=∀j o,ops[j]?=some o->S j->∀e∈o.after.toList,Region.binds .any e=true->S e.on
theorem Down.mask{S:Nat->Prop}(h:Down ops S){j i:Nat}(hb:((bJ ops.toList []).getD j 0).testBit i=true)(hj:S j):S i :=
 A5 (S:=S) (all:=ops.toList) (λj o ho=>h j o (by grind)) ops.toList [] [] rfl rfl (λj i hj=>by grind) j i hb hj
theorem OF(S:Nat->Prop):∀n,∃t:T,∀s,t.get AV.undef s=ov S (λi s=>ja ops i=some s) (λi s=>(T' i).get AV.undef s) (λs=>(T' 0).get AV.undef s) n s:=by
 intro n
 induction n with
 |zero=>exact⟨T' 0,λs=>rfl⟩
 | succ n ih' =>
  obtain⟨t,ht⟩:=ih'
  by_cases hS:S n
  ·cases hd:ja ops n with
   |none=>exact⟨t,λs=>by simp_all[ov]⟩
   | some d =>
    refine⟨(sp AV.undef d).run t ((T' (n+1)).get AV.undef d),λs=>?_⟩;rw[sp_get];simp only[ov]
    grind
  ·exact⟨t,λs=>by simp_all[ov]⟩
structure Inv (C:Cfg) (A:Nat->Nat->Prop) (bd nt:Nat) (ops:Array Oper) (T':Nat->T) (G':Nat->G) (F':Nat->Foot) (hg0:Nat->AObj) (N:Nat) (w0:World) (γ0:Gm) (df0:List Deferred)
  (S:Nat->Prop) (a:Act) (w:World) (γ:Gm) (hg:Nat->AObj):Prop where
 rel:Rel C A bd w γ hg N
 stp:Stp w0 γ0 w γ
 size:a.tmps.size=nt
 slots:∀s,RV w γ A bd (ov S (λi s=>ja ops i=some s) (λi s=>(T' i).get AV.undef s) (λs=>(T' 0).get AV.undef s) ops.size s) (a.tmps.getD s undef)
 objs:∀id,hg id=ov S (λi id=>id∈(F' i).wr) (λi id=>(G' i).h.get id) hg0 ops.size id
 dfr:a.defers=df0
theorem kK{x y:Foot}(h:fI x y=true){id:Nat}(hid:id∈x.wr):y.lk.big=false/\id ∉ y.wr/\id ∉ y.lk.rd/\id ∉ y.lk.sr.map (·.1):=by
 unfold fI at h
 split at h
 ·grind
 ·simp only[Ts,UH]at h;obtain⟨⟨⟨h1,h2⟩,h3⟩,h4⟩:=h<;>grind[ki,tx]
theorem tu{x y:Foot}(h:d_ x y=true){id:Nat}(hid:id∈x.wr):y.lk.big=false/\id ∉ y.wr/\id ∉ y.lk.rd/\(id∈y.lk.sr.map (·.1)->∀p∈y.lk.sr,p∈x.lk.soft):=by
 unfold d_ at h
 split at h
 ·grind
 ·simp only[Ts,UH,Uo]at h;obtain⟨⟨⟨h1,h2⟩,h3⟩,h4⟩:=h;refine⟨h1,λh=>?_,λh=>?_,λh p hp=>?_⟩
  ·grind[ki]
  ·grind[ki]
  ·rcases h4 with h4|h4
   ·grind[ki,tx]
   simp_all[HC]
theorem dq{x y:Foot}(h:bE x y=true):fI x y=true/\d_ y x=true:=by
 grind[bE]
theorem l6{all:List Oper}{x y:Oper}(h:kH all x y=true) :
  (∀d,x.dst=some d->d ∉ ui all y/\y.dst≠some d)/\(∀d,y.dst=some d->d ∉ ui all x):=by
 unfold kH at h
 grind
variable {N:Nat}{w0:World}{γ0:Gm}{df0:List Deferred}{S:Nat->Prop}{a:Act}{w:World}{γ:Gm}{hg:Nat->AObj}
variable {b:Frame}{i:Nat}{rest:List Nat}{k:List Item}{cs:List Frame}{o:Oper}
theorem Reg.good(R:Reg C ih bd rd nt ops q T' G' F' hg0)(I:Inv C A bd nt ops T' G' F' hg0 N w0 γ0 df0 S a w γ hg)(hin:i<=ops.size){id:Nat}
  (h:∀j,j<ops.size->id∈(F' j).wr->(S j↔j<i)) (hne:(G' i).h.get id≠.none):hg id=(G' i).h.get id:=by
 rw[I.objs id];rcases MX (S:=S) (wr:=λi id=>id∈(F' i).wr) (val:=λi id=>(G' i).h.get id) (base:=hg0) (k:=id) hin (λj hj hw=>(R.at hj).2.1 id hw) h with⟨_,h2⟩|⟨_,h2,h3⟩
 ·exact h2
 ·rw[h2,h3];exact R.ext0 id (by grind)
theorem Mn(R:Reg C ih bd rd nt ops q T' G' F' hg0)(I:Inv C A bd nt ops T' G' F' hg0 N w0 γ0 df0 S a w γ hg)(hN:(G' ops.size).nx<=N)
  (ho:ops[i]?=some o) (hS:¬S i) (hdown:Down ops S) (hready:∀e∈o.after.toList,Region.binds .any e=true->S e.on) (hcalm:wc b.kind cs) :
  ∃a' w' γ' hg',Inv C A bd nt ops T' G' F' hg0 N w0 γ0 df0 (λj=>S j\/j=i) a' w' γ' hg' /\
   Steps C.P (lone (b.atR a (.inRegion ops (i::rest)::k)) cs w) (lone (b.atR a' (.inRegion ops rest::k)) cs w'):=by
 have hi:i<ops.size:=(by grind);have hdown1:Down ops (λj=>S j\/j=i):=by
  intro j oj hoj hj e he hb;rcases hj with hj|rfl
  ·exact .inl (hdown j oj hoj hj e he hb)
  grind
 have ahead:∀j,j≠i->((bJ ops.toList []).getD i 0).testBit j=true->S j:=by intro j hj hb;rcases hdown1.mask hb (.inr rfl) with h|h<;>grind
 have behind:∀j,S j->((bJ ops.toList []).getD j 0).testBit i≠true:=λj hj hb=>hS (hdown.mask hb hj);have hdst:ja ops i=o.dst:=by grind[ja]
 have hslot:∀s∈ui ops.toList o,ov S (λi s=>ja ops i=some s) (λi s=>(T' i).get AV.undef s) (λs=>(T' 0).get AV.undef s) ops.size s=(T' i).get AV.undef s:=by
  intro s hs;have h:∀j,j<ops.size->ja ops j=some s->(S j↔j<i):=by
   intro j hj hd;have hoj:ops[j]?=some ops[j]:=T7 hj;have hd':ops[j].dst=some s:=by grind[ja]
   constructor
   ·intro hSj;rcases V2 j i with h|h|h
    ·exact h
    ·grind
    ·rcases R.slots i j _ _ h ho hoj with hb|hb
     ·grind
     ·exact absurd hs ((l6 hb).2 s hd')
   ·intro hlt;rcases R.slots j i _ _ hlt hoj ho with hb|hb
    ·grind
    ·exact absurd hs ((l6 hb).1 s hd').1
  rcases MX (S:=S) (wr:=λi s=>ja ops i=some s) (val:=λi s=>(T' i).get AV.undef s) (base:=λs=>(T' 0).get AV.undef s) (k:=s) (by omega:i<=ops.size) (λj hj hw=>R.keepT hj hw) h with⟨_,h2⟩|⟨_,h2,h3⟩<;>grind
 obtain⟨ts,hts⟩:=OF (ops:=ops) (T':=T') S ops.size;have htr:TR w γ A bd nt ts a.tmps:=⟨I.size,λs=>by grind[Inv.slots]⟩;have heq:∀s∈ui ops.toList o,ts.get AV.undef s=(T' i).get AV.undef s:=λs hs=>by grind
 have hagrO:Cf C ts (T' i) o.op.operands.toList:=by intro x hx s hs;refine G0 hs λn hn=>heq n ?_;subst hn;exact VM _ (List.mem_filterMap.2 ⟨_,hx,rfl⟩)
 obtain⟨out,gd,hout,hgd,hcase⟩:=R.tra i o ho;have hgq:gd.run ts=gd.run (T' i):=by refine Du hgd λj b' oj d hg' hoj hd=>heq d ?_;refine VF _ ?_<;>grind
 have hnoW:∀s,ja ops i=some s->∀j,i<j->j<ops.size->S j->¬ja ops j=some s:=by
  intro s hd j hij hj hSj hd';have hoj:ops[j]?=some ops[j]:=T7 hj;rcases R.slots i j _ _ hij ho hoj with hb|hb
  ·grind
  ·exact ((l6 hb).1 s (hdst ▸ hd)).2 (by grind[ja])
 have slots':∀{w':World} {γ':Gm} {x:AV} {v:Value},Stp w γ w' γ'->RV w' γ' A bd x v->T' (i+1)=out.run (T' i) x ->
   (a.put o.dst v).tmps.size=nt/\∀s,RV w' γ' A bd (ov (λj=>S j\/j=i) (λi s=>ja ops i=some s) (λi s=>(T' i).get AV.undef s) (λs=>(T' 0).get AV.undef s) ops.size s) ((a.put o.dst v).tmps.getD s undef):=by
  intro w' γ' x v hst hv hT;have h1:=(htr.step hst).put hout hv;refine⟨h1.1,λs=>?_⟩;have h2:=h1.2 s
  by_cases hs:ja ops i=some s
  ·rw[MW (wr:=λi s=>ja ops i=some s) hi hs (hnoW s hs),hT];rw[hdst]at hs;rw[hs]at hout h2 ⊢;simp only[vQ,aa]at hout
   split at hout
   ·injection hout with hout;subst hout;simp_all
   grind
  ·rw[Ea (wr:=λi s=>ja ops i=some s) hs,<-hts s];have:(out.run ts x).get AV.undef s=ts.get AV.undef s:=by
    cases hd:o.dst with
    |none=>rw[hd]at hout;simp[vQ]at hout;subst hout;rfl
    | some d =>
     rw[hd]at hout;simp only[vQ,aa]at hout
     split at hout
     ·injection hout with hout;subst hout;rw[sp_get,TF]
      grind
     grind
   grind
 rcases hcase with⟨hq,hT,hG,hW⟩|⟨hq,r,hr,hne,hnd,hT,hH,hW,hnx,hlk⟩
 ·
  rw[<-hgq]at hq;have hw:=t5 hgd htr hq;obtain⟨s1,s2⟩:=slots' (Stp.refl w γ) dH hT;refine⟨_,w,γ,hg,⟨I.rel,I.stp,s1,s2,λid=>?_,?_⟩,.one (yT ho hw)⟩
  ·rw[I.objs id];simp_all[Ea]
  ·have:=I.dfr;cases hd:o.dst<;>simpa [Act.put,hd] using this
 ·
  rw[<-hgq]at hq;have hw:=t5 hgd htr hq;have hwf:WF (aO (G' i) []):=(R.facts i (by omega)).setLog;rw[<-GY hagrO]at hr;have hfree:Free γ (aO (G' i) []) (gOf (aO (G' i) []) r):=by
   intro id h1 h2;simp only[setLog_nx]at h1;rw[I.rel.none_iff,I.objs id,AY (m:=0) (Ue _)]
   ·exact R.free0 id (TU (R.nx_mono (Ue i) (by omega)) h1) (TU h2 (TU hnx (R.nx_mono (by omega) (Tp _))))
   ·intro j _ hj hSj hw;cases q with
    |true=>rw[R.quiet rfl j hj]at hw;grind
    | false =>
     have hlt:id<(G' (i+1)).nx:=by grind
     rcases V2 j i with h|h|h
     ·have:=((R.at hj).2.2 id hw).1
      grind[Reg.nx_mono]
     ·grind
     ·have hwi:id∈(F' i).wr:=UD λhn=>by
       have key:∀m,i<m->m<=j->(G' m).h.get id=.none:=by
        intro m
        induction m with
        |zero=>omega
        | succ m ihm =>
         intro h1' h2'
         by_cases hmi:m=i
         ·subst hmi;rw[(R.at (by omega)).2.1 id hn];exact R.facts m (by omega) id h1
         ·have:=ihm (by omega) (by omega)
          by_cases hm:id∈(F' m).wr
          ·have h3:=((R.at (i:=m) (by omega)).2.2 id hm).2 this
           grind[Reg.nx_mono]
          ·rw[(R.at (by omega)).2.1 id hm];omega
       have h3:=((R.at hj).2.2 id hw).2 (by grind)
       grind[Reg.nx_mono]
      rcases R.apart i j h hj with hb|hb
      ·grind
      ·exact (kK (dq hb).1 hwi).2.1 hw
  have fin:∀{gs:G} {u:Value} {w':World} {γ':Gm} {hg':Nat->AObj},Fin C A bd w γ hg N gs w' γ' hg' (gOf (aO (G' i) []) r)->gs.lg=[]->RV w' γ' A bd (vOf r) u ->
    Steps C.P (lone (b.atR a (.inRegion ops (i::rest)::k)) cs w) (lone (b.atR (a.put o.dst u) (.inRegion ops rest::k)) cs w') ->
    ∃a' w' γ' hg',Inv C A bd nt ops T' G' F' hg0 N w0 γ0 df0 (λj=>S j\/j=i) a' w' γ' hg' /\
     Steps C.P (lone (b.atR a (.inRegion ops (i::rest)::k)) cs w) (lone (b.atR a' (.inRegion ops rest::k)) cs w'):=by
   intro gs u w' γ' hg' f hgs hv st;obtain⟨s1,s2⟩:=slots' f.stp hv hT;have hle:(gOf (aO (G' i) []) r).nx<=N:=TU hnx (TU (R.nx_mono (by omega) (Tp _)) hN);refine⟨_,w',γ',hg',⟨?_,I.stp.trans f.stp,s1,s2,λid=>?_,?_⟩,st⟩
   ·have:=f.rel
    grind
   ·obtain⟨n,e1,e2,e3⟩:=f.new;have en:(F' i).wr=n:=by grind
    by_cases hid:id∈(F' i).wr
    ·rw[e2 id (en ▸ hid),<-hH];refine (MW (wr:=λi id=>id∈(F' i).wr) (val:=λi id=>(G' i).h.get id) hi hid λj hij hj hSj hw=>?_).symm;rcases R.apart i j hij hj with hb|hb
     ·grind
     ·exact (kK (dq hb).1 hid).2.1 hw
    ·rw[e3 id (en ▸ hid),I.objs id];simp_all[Ea]
   ·have:=I.dfr;cases hd:o.dst<;>simpa [Act.put,hd] using this
  have hgood:∀id,(q=false->(F' i).lk.big=true\/id∈(F' i).lk.rd\/(id∈(F' i).lk.sr.map (·.1)/\∀j,i<j->j<ops.size->S j->id ∉ (F' j).wr)) ->
    (G' i).h.get id≠.none->hg id=(G' i).h.get id:=by
   intro id hlook hne';refine R.good I (by omega) (λj hj hw=>?_) hne';cases q with
   |true=>rw[R.quiet rfl j hj]at hw;grind
   | false =>
    have hlook:=hlook rfl;constructor
    ·intro hSj;rcases V2 j i with h|h|h
     ·exact h
     ·grind
     ·rcases R.apart i j h hj with hb|hb
      ·grind
      ·obtain⟨h1,h2,h3,h4⟩:=tu (dq hb).2 hw<;>grind
    ·intro hlt;rcases R.apart j i hlt hi with hb|hb
     ·grind
     ·obtain⟨h1,h2,h3,h4⟩:=kK (dq hb).1 hw<;>grind
  have hfoot:(aP C o.op).run ts (aO (G' i) [])=(aP C o.op).run (T' i) (G' i):=EP (by simp) hagrO
  by_cases hsoft:q=false/\∃id j,id∈(F' i).lk.sr.map (·.1)/\i<j/\j<ops.size/\S j/\id∈(F' j).wr
  ·
   obtain⟨rfl,id,j,hid,hij,hj,hSj,hwj⟩:=hsoft;have hlk':=(hlk rfl).1;have hoj:ops[j]?=some ops[j]:=T7 hj;have hunb:((bJ ops.toList []).getD j 0).testBit i=false:=by
    grind
   have hap:bE (F' i) (F' j)=true:=(R.apart i j hij hj).resolve_left (behind j hSj);obtain⟨_,_,_,h4⟩:=tu (dq hap).2 hwj;have h4:=h4 hid;have hsrne:(F' i).lk.sr≠[]:=by grind
   rw[hlk']at hsrne;obtain⟨ty,x,kx,a0,hop,ha0,hft⟩:=QO hsrne;rw[hop]at hr;obtain⟨a1,kk,kt,et,z,ha1,hk1,hu,hz,hall,hreq⟩:=EQ hr hne;rw[ha0]at ha1;injection ha1 with ha1;subst ha1;have hval:∃v,r=.val v:=by
    rw[hreq];have:Small (aO (G' i) []) (cp (dg C.P kt) z false a0.run kk.run ts (aO (G' i) [])):=by
     unfold cp;rw[aa]
     repeat' split
     all_goals trivial
    cases hrr:cp (dg C.P kt) z false a0.run kk.run ts (aO (G' i) []) with
    |fail=>grind
    |val v=>grind
    | upd v g' =>
     exfalso;unfold cp at hrr
     grind[aa]
    |dfr x=>grind
   obtain⟨v,hv⟩:=hval;subst hv;have ea0:a0.run ts=a0.run (T' i):=hagrO x (by grind[Op.operands]) a0 ha0;have hidr:id∈ak (a0.run (T' i)):=by
    grind
   have hmap:∃es,a0.run ts=.hmap id/\(G' i).h.get id=.map es:=by
    have hreq':=hreq.symm;unfold cp at hreq';rw[aa]at hreq'
    split at hreq'
    ·rw[<-ea0]at hidr;generalize a0.run ts=y at hidr hreq';cases y<;>simp[ak]at hidr
     ·grind
     ·grind
     ·subst hidr;simp only[G.get_eq,setLog_h]at hreq'
      grind
    grind
   obtain⟨es,hm1,hm2⟩:=hmap;have hpair:(id,ty)∈(F' j).lk.soft:=h4 _ (by grind);obtain⟨outj,gdj,houtj,hgdj,hcasej⟩:=R.tra j _ hoj;rcases hcasej with⟨_,_,_,hWj⟩|⟨_,rj,hrj,hnej,hndj,hTj,hHj,hWj,hnxj,hlkj⟩
   ·grind
   rw[(hlkj rfl).1]at hpair;obtain⟨xj,kj,aj,hopj,haj,hidj⟩:=OZ hpair;dsimp only at hopj hidj;rw[hopj]at hrj;obtain⟨aj',kkj,ktj,etj,zj,haj',hkj,huj,hzj,hreqj⟩:=BB hrj hnej;rw[haj]at haj';injection haj' with haj';subst haj';rw[hu]at huj;injection huj with huj;injection huj with huj1 huj2;subst huj1;subst huj2;rw[hz]at hzj;injection hzj with hzj;subst hzj;cases rj with
   |fail=>grind
   |val v=>simp_all[gOf]
   |dfr x=>grind
   | upd vj gj =>
    obtain⟨idj,esj,q1,q2,q3,q4⟩:=D5 hreqj.symm;rw[q1]at hidj;simp[ak]at hidj;subst hidj;have hnone:∀m,i<m->m<ops.size->S m->id∈(F' m).wr->m=j:=by
     intro m him hm hSm hwm;refine UD λhmj=>?_;have hb:((bJ ops.toList []).getD m 0).testBit i=false:=by grind
     have hsr:(F' i).lk.sr≠[]:=by grind
     rcases VN m j with h|h
     ·grind[Reg.once,ki,tx]
     ·exact R.once i j m hij (by omega) hm hsr hunb hb (ki hwj (tx hid)) (ki hwm (tx hid))
    have hwi:(F' i).wr=[]:=by rw[hW];simp[gOf]
    have hsame:(G' j).h.get id=(G' i).h.get id:=by
     have key:∀m,i<=m->m<=j->(G' m).h.get id=(G' i).h.get id:=by
      intro m
      induction m with
      |zero=>grind
      | succ m ihm =>
       intro h1 h2
       by_cases him:i=m+1
       ·grind
       ·rw[(R.at (by omega)).2.1 id ?_]
        ·grind
        ·intro hwm
         by_cases hmi:m=i
         ·grind
         ·rcases R.apart m j (by omega) hj with hb|hb
          ·grind[Down.mask]
          ·exact (kK (dq hb).1 hwm).2.1 hwj
     grind
    have hes:esj=es:=by
     have h1:(G' j).h.get id=.map esj:=by simpa using q2
     grind
    subst hes;have hnow:hg id=.map (esj++[(kkj.run (T' j),z)]):=by rw[I.objs id,AY (m:=j+1) (by omega) (λm h1 h2 h3 h4=>by grind)];simp only[ov];rw[TE ⟨hSj,hwj⟩,hHj,q3];simp[gOf,Q_]
    let gs:G:=⟨(G' i).h.put id (.map (esj++[(kkj.run (T' j),z)])),(G' i).nx,[]⟩
    have hgs:gs.h.get id=.map (esj++[(kkj.run (T' j),z)]):=by grind[Q_]
    have hr':(cB C o.op).run ih (bd+1) rd ts gs=.val v:=by rw[hop,hall];exact FE hreq.symm hm1 (by simpa using hm2) hgs q4
    have hidlt:id<(G' i).nx:=Nat.lt_of_not_le λh=>by
     have:=R.facts i (by omega) id h
     grind
    have hwfs:WF gs:=λid' h'=>by have h':(G' i).nx<=id':=h';simp only[gs,Q_];rw[TF (by omega)];exact R.facts i (by omega) id' h'
    have hagr:Agr ((aP C o.op).run ts gs) gs hg:=by
     have e:(aP C o.op).run ts gs=⟨[],(ak (a0.run ts)).map (·,ty),[],false⟩:=by rw[hop];simp[aP,ha0]
     grind[ak,Agr]
    obtain⟨u,w',γ',hg',f,rv,st⟩:=HB (b:=b) (cs:=cs) (rest:=rest) (k:=k) R.hC R.hi I.rel hwfs htr hcalm hagr hr' hne hnd (λid' h1 h2=>hfree id' (by simpa [gs] using h1) (by simpa [gs,gOf] using h2)) ho hw;refine fin (gs:=gs) (u:=u) (w':=w') (γ':=γ') (hg':=hg') ⟨?_,f.stp,?_⟩ rfl rv st
    ·have:=f.rel;simpa [gOf,gs] using this
    grind[Fin.new,gOf]
  ·have hagr:Agr ((aP C o.op).run ts (aO (G' i) [])) (aO (G' i) []) hg:=by
    cases hqq:q with
    | true =>
     refine Ext.agr λid hne'=>?_<;>simp_all
    | false =>
     rw[hfoot,<-(hlk hqq).1];unfold Agr
     split
     ·rename_i hb;exact λid hne'=>by grind[setLog_h]
     ·intro id hid hne';simp only[setLog_h]at hne' ⊢
      grind
   obtain⟨u,w',γ',hg',f,rv,st⟩:=HB (b:=b) (cs:=cs) (rest:=rest) (k:=k) R.hC R.hi I.rel hwf htr hcalm hagr hr hne hnd hfree ho hw;exact fin f (by simp) rv st
end
end Hx
end
section
namespace Hx
open Go
section
variable {C:Cfg}{A:Nat->Nat->Prop}{bd:Nat}{ih:IH}{rd:Option Nat}{nt:Nat}{ops:Array Oper}{q:Bool}{T':Nat->T}{G':Nat->G}{F':Nat->Foot}{hg0:Nat->AObj}
variable {N:Nat}{w0:World}{γ0:Gm}{df0:List Deferred}{b:Frame}{k:List Item}{cs:List Frame}
theorem N3(R:Reg C ih bd rd nt ops q T' G' F' hg0)(hN:(G' ops.size).nx<=N)(hedge:∀i o,ops[i]?=some o->∀e∈o.after.toList,Region.binds .any e=true->e.on<i)(hcalm:wc b.kind cs) :
  ∀(fuel tq:Nat) (listed:Array Bool) (S:Nat->Prop) {a:Act} {w:World} {γ:Gm} {hg:Nat->AObj},listed.size=ops.size->(∀j,S j↔listed.getD j false=true)->Down ops S ->
   cnt (λj=>!listed.getD j true) ops.size<=fuel->Inv C A bd nt ops T' G' F' hg0 N w0 γ0 df0 S a w γ hg ->
   ∃a' w' γ' hg',Inv C A bd nt ops T' G' F' hg0 N w0 γ0 df0 (λj=>j<ops.size) a' w' γ' hg' /\
    Steps C.P (lone (b.atR a (.inRegion ops (Region.linearise.go .any ops fuel tq listed [])::k)) cs w) (lone (b.atR a' (.inRegion ops []::k)) cs w'):=by
 have done:∀{listed:Array Bool} {S:Nat->Prop} {a:Act} {w:World} {γ:Gm} {hg:Nat->AObj},listed.size=ops.size->(∀j,S j↔listed.getD j false=true) ->
   (∀j,j<ops.size->listed.getD j true=true)->Inv C A bd nt ops T' G' F' hg0 N w0 γ0 df0 S a w γ hg->Inv C A bd nt ops T' G' F' hg0 N w0 γ0 df0 (λj=>j<ops.size) a w γ hg:=by
  intro listed S a w γ hg hsz hS hall I;have e:S=λj=>j<ops.size:=by
   grind
  grind
 intro fuel
 induction fuel with
 | zero =>
  intro tq listed S a w γ hg hsz hS hdown hc I;have hz:=Lx (Nat.le_zero.1 hc);refine⟨a,w,γ,hg,done hsz hS (λj hj=>by simpa using hz j hj) I,?_⟩<;>grind[Region.linearise.go,Steps.refl]
 | succ fuel ihf =>
  intro tq listed S a w γ hg hsz hS hdown hc I;simp only[Region.linearise.go];change ∃a' w' γ' hg',_/\Steps C.P (lone (b.atR a (.inRegion ops (match (Region.ready .any ops listed)[tq % (Region.ready .any ops listed).length]? with
   |some i=>Region.linearise.go .any ops fuel (tq / (Region.ready .any ops listed).length) (listed.setIfInBounds i true) [i]
   |none=>[].reverse)::k)) cs w) _
  cases hi:(Region.ready .any ops listed)[tq % (Region.ready .any ops listed).length]? with
  | none =>
   have hnil:Region.ready .any ops listed=[]:=by cases hr:Region.ready .any ops listed<;>grind[U4]
   have hall:∀j,j<ops.size->listed.getD j true=true:=by
    intro j
    induction j using Nat.strongRecOn with
    | _ j ihj =>
     intro hj;refine UD λhne=>?_;have hne:listed.getD j true=false:=by grind
     have:j∈Region.ready .any ops listed:=by rw[mem_ready];refine⟨hne,ops[j],T7 hj,λe he hb=>?_⟩<;>grind
     grind
   grind[Steps.refl]
  | some i =>
   have hmem:=Tv hi;obtain⟨hun,o,ho,hall⟩:=mem_ready.1 hmem;have hin:i<ops.size:=(by grind);have hSi:¬S i:=by
    grind
   have hready:∀e∈o.after.toList,Region.binds .any e=true->S e.on:=λe he hb=>by grind
   simp only[];rw[linearise_go_acc,List.reverse_singleton,List.singleton_append];obtain⟨a1,w1,γ1,hg1,I1,st1⟩:=Mn (b:=b) (k:=k) (cs:=cs) (rest:=Region.linearise.go .any ops fuel (tq / (Region.ready .any ops listed).length) (listed.setIfInBounds i true) []) R I hN ho hSi hdown hready hcalm;obtain⟨a2,w2,γ2,hg2,I2,st2⟩:=ihf (tq / (Region.ready .any ops listed).length) (listed.setIfInBounds i true) (λj=>S j\/j=i) (by grind) (λj=>by
     rw[hS]
     by_cases hj:j=i
     ·simp_all
     simp_all[UP]) (λj oj hoj hj e he hb=>by
     rcases hj with hj|rfl
     ·exact .inl (hdown j oj hoj hj e he hb)
     grind) (by
     have:=PS (p:=λj=>!listed.getD j true) (q:=λj=>!(listed.setIfInBounds i true).getD j true) (λj hj=>by
      by_cases hji:j=i
      ·grind
      simp_all[UP]) hin (by grind) (by
      simp_all)
     omega) I1
   grind[Steps.trans]
theorem Gl{g:G}(h:g.lg=[]):aO g []=g:=by cases g;simp at h;subst h;rfl
theorem LO{d:Nat}{pm:List Nat}:∀(l:List Oper) (i:Nat) {t:T} {df:List ADf} {g:G} {fs:List Foot} {e:Ex} {t':T} {df':List ADf} {g':G},
  (iX C nt pm ops.toList i l).run ih d rd t df g fs=.ok e t' df' g' ->
  e=.norm/\df'=df/\∃(T':Nat->T) (G':Nat->G) (F':Nat->Foot),T' i=t/\G' i=g/\T' (i+l.length)=t'/\G' (i+l.length)=g' /\
   (∀j o,l[j]?=some o->TraAt C ih d rd nt ops false o (T' (i+j)) (T' (i+j+1)) (G' (i+j)) (G' (i+j+1)) (F' (i+j))/\(G' (i+j+1)).lg=(F' (i+j)).wr++(G' (i+j)).lg) /\
   mE pm (fs.reverse++(List.range l.length).map λj=>F' (i+j))=true:=by
 intro l
 induction l with
 | nil =>
  intro i t df g fs e t' df' g' h;simp only[iX,aa]at h
  split at h
  ·rename_i hf;injection h with h1 h2 h3 h4;subst h1;subst h2;subst h3;subst h4;exact⟨rfl,rfl,λ_=>t,λ_=>g,λ_=>⟨aw,[]⟩,rfl,rfl,rfl,rfl,(by grind),by grind⟩
  grind
 | cons o rest ihl =>
  intro i t df g fs e t' df' g' h;have go:∀{t1:T} {g1:G} {f:Foot},(iX C nt pm ops.toList (i+1) rest).run ih d rd t1 df g1 (f::fs)=.ok e t' df' g' ->
    TraAt C ih d rd nt ops false o t t1 g g1 f->g1.lg=f.wr++g.lg ->
    e=.norm/\df'=df/\∃(T':Nat->T) (G':Nat->G) (F':Nat->Foot),T' i=t/\G' i=g/\T' (i+(o::rest).length)=t'/\G' (i+(o::rest).length)=g' /\
     (∀j o',(o::rest)[j]?=some o'->TraAt C ih d rd nt ops false o' (T' (i+j)) (T' (i+j+1)) (G' (i+j)) (G' (i+j+1)) (F' (i+j))/\(G' (i+j+1)).lg=(F' (i+j)).wr++(G' (i+j)).lg) /\
     mE pm (fs.reverse++(List.range (o::rest).length).map λj=>F' (i+j))=true:=by
   intro t1 g1 f h htra hlg;obtain⟨h1,h2,T1,G1,F1,a1,a2,a3,a4,a5,a6⟩:=ihl (i+1) h;have ne:∀j,i+1+j≠i:=λj=>by omega
   refine⟨h1,h2,λm=>if m=i then t else T1 m,λm=>if m=i then g else G1 m,λm=>if m=i then f else F1 m,by simp,by simp,?_,?_,?_,?_⟩
   ·grind
   ·grind
   ·grind
   ·rw[Ud,List.range_succ_eq_map,UV,List.map_map];simp only[Vv,if_true];rw[<-a6];congr 1;simp only[TM,UO,List.singleton_append];congr 2;refine Ul λj _=>?_<;>grind
  simp only[iX]at h
  split at h
  ·rename_i out gd hout hgd;dsimp only at h
   split at h
   ·rename_i hq;generalize hr:(cB C o.op).run ih d rd t (aO g [])=r at h;cases r with
    |fail=>cases h
    | val v =>
     refine go (t1:=out.run t v) (g1:=im g g.lg) (f:=⟨(aP C o.op).run t g,[]⟩) h ⟨out,gd,hout,hgd,.inr ⟨hq,_,hr,by simp,by simp,rfl,by simp[gOf],by simp[gOf],by simp[gOf],λ_=>⟨rfl,by simp[gOf]⟩⟩⟩ (by simp)
    | upd v g1 =>
     refine go (t1:=out.run t v) (g1:=im g1 (g1.lg++g.lg)) (f:=⟨(aP C o.op).run t g,g1.lg⟩) h ⟨out,gd,hout,hgd,.inr ⟨hq,_,hr,by simp,by simp,rfl,by simp[gOf],by simp[gOf],by simp[gOf],λ_=>⟨rfl,by simp[gOf]⟩⟩⟩ (by simp)
    |dfr a=>cases h
   ·rename_i hq;exact go h ⟨out,gd,hout,hgd,.inl ⟨hq,rfl,rfl,rfl⟩⟩ (by simp)
   grind
  grind
theorem Lq(hC:CfgOk C){op:Op}{d:Nat}{t:T}{g:G}{x:ADf}(h:(cB C op).run ih d rd t g=.dfr x):∃c,op=.defer c:=by
 have iso:∀f args,am ih d g f args≠.dfr x:=by
  intro f args;unfold am
  repeat' (first|split|rw[aa])
  all_goals grind
 have orf:∀r,orF r≠.dfr x:=by intro r h;cases r<;>cases h
 have rnd:∀id args,cz ih d id args g≠.dfr x:=by
  intro id args;unfold cz
  repeat' split
  all_goals grind
 unfold cB at h
 split at h
 rotate_left
 ·cases h
 rename_i f hcop;unfold cOp at hcop
 split at hcop
 ·split at hcop
  ·split at hcop
   ·rename_i e he;injection hcop with hcop;subst hcop;exact absurd h (hC.noDfr _ _ he _ _ _ _)
   ·rw[aa]at hcop
    split at hcop
    ·injection hcop with hcop;subst hcop;grind
    ·injection hcop with hcop;subst hcop;grind
  grind
 ·split at hcop
  ·injection hcop with hcop;subst hcop;dsimp only at h;unfold io at h
   split at h
   ·split at h
    ·rename_i e he;exact absurd h (hC.noDfr _ _ he _ _ _ _)
    grind[aa]
   all_goals grind
  grind
 ·injection hcop with hcop;subst hcop;cases h
 ·grind
 ·split at hcop
  ·rename_i s hs;injection hcop with hcop;subst hcop;have:=yd (t:=t) (g:=g) hs;have h:s.run t g=.dfr x:=h;rw[h]at this;exact this.elim
  grind
theorem KB(hC:CfgOk C)(hi:IHOk C ih){d:Nat}:∀(l:List Oper) (i:Nat) {t:T} {df:List ADf} {g:G} {e:Ex} {t':T} {df':List ADf} {g':G},
  (jS C nt ops.toList l).run ih d rd t df g=.ok e t' df' g'->(∀o∈l,zu C o.op=true)->g.lg=[]->g'.lg=[]->WF g ->
  e=.norm/\df'=df/\∃(T':Nat->T) (G':Nat->G) (F':Nat->Foot),T' i=t/\G' i=g/\T' (i+l.length)=t'/\G' (i+l.length)=g' /\
   (∀j o,l[j]?=some o->TraAt C ih d rd nt ops true o (T' (i+j)) (T' (i+j+1)) (G' (i+j)) (G' (i+j+1)) (F' (i+j)))/\∀j,(F' j).wr=[]:=by
 intro l
 induction l with
 | nil =>
  intro i t df g e t' df' g' h _ _ _ _;simp only[jS]at h;injection h with h1 h2 h3 h4;subst h1;subst h2;subst h3;subst h4;exact⟨rfl,rfl,λ_=>t,λ_=>g,λ_=>⟨aw,[]⟩,rfl,rfl,rfl,rfl,(by grind),λ_=>rfl⟩
 | cons o rest ihl =>
  intro i t df g e t' df' g' h hq hlg hlg' hwf;have go:∀{t1:T} {g1:G},(jS C nt ops.toList rest).run ih d rd t1 df g1=.ok e t' df' g'->g1.lg=[]->WF g1 ->
    TraAt C ih d rd nt ops true o t t1 g g1 ⟨aw,[]⟩ ->
    e=.norm/\df'=df/\∃(T':Nat->T) (G':Nat->G) (F':Nat->Foot),T' i=t/\G' i=g/\T' (i+(o::rest).length)=t'/\G' (i+(o::rest).length)=g' /\
     (∀j o',(o::rest)[j]?=some o'->TraAt C ih d rd nt ops true o' (T' (i+j)) (T' (i+j+1)) (G' (i+j)) (G' (i+j+1)) (F' (i+j)))/\∀j,(F' j).wr=[]:=by
   intro t1 g1 h hl1 hw1 htra;obtain⟨h1,h2,T1,G1,F1,a1,a2,a3,a4,a5,a6⟩:=ihl (i+1) h (by grind) hl1 hlg' hw1;have ne:∀j,i+1+j≠i:=λj=>by omega
   refine⟨h1,h2,λm=>if m=i then t else T1 m,λm=>if m=i then g else G1 m,λm=>if m=i then ⟨aw,[]⟩ else F1 m,by simp,by simp,?_,?_,?_,?_⟩<;>grind
  have exec:∀{out:Stg (T->AV->T)} {gd:Stg (T->Option Bool)},vQ nt o.dst=some out->jR ops.toList o.guard=some gd->gd.run t=some true ->
    px out.run ((jS C nt ops.toList rest).run ih d rd) t df g ((cB C o.op).run ih d rd t g)=.ok e t' df' g' ->
    e=.norm/\df'=df/\∃(T':Nat->T) (G':Nat->G) (F':Nat->Foot),T' i=t/\G' i=g/\T' (i+(o::rest).length)=t'/\G' (i+(o::rest).length)=g' /\
     (∀j o',(o::rest)[j]?=some o'->TraAt C ih d rd nt ops true o' (T' (i+j)) (T' (i+j+1)) (G' (i+j)) (G' (i+j+1)) (F' (i+j)))/\∀j,(F' j).wr=[]:=by
   intro out gd hout hgd hgq h;have hm:=mX (op:=o.op) (d:=d) (rd:=rd) (t:=t) hC.mon hi.mon hwf;generalize hr:(cB C o.op).run ih d rd t g=r at h hm;have hr':(cB C o.op).run ih d rd t (aO g [])=r:=by grind[Gl]
   cases r with
   |fail=>cases h
   | val v =>
    exact go (t1:=out.run t v) (g1:=g) h hlg hwf ⟨out,gd,hout,hgd,.inr ⟨hgq,_,hr',by simp,by simp,rfl,by simp[gOf],by simp[gOf],by simp[gOf],λh=>by cases h⟩⟩
   | upd v g1 =>
    have w1:WF g1:=hm.wf hwf;have m2:=zQ hC.mon hi.mon h w1;have hl1:g1.lg=[]:=by obtain⟨n,a,_,_⟩:=m2.new;rw[hlg']at a;exact (List.append_eq_nil_iff.1 a.symm).2
    exact go (t1:=out.run t v) (g1:=g1) h hl1 w1 ⟨out,gd,hout,hgd,.inr ⟨hgq,_,hr',by simp,by simp,rfl,by simp[gOf],by grind[gOf],by simp[gOf],λh=>by cases h⟩⟩
   | dfr a =>
    obtain⟨c,hc⟩:=Lq hC hr<;>grind[zu]
  simp only[jS]at h
  split at h
  ·rename_i out hout
   split at h
   ·rename_i hgd;exact exec hout (gd:=⟨λ_=>some true⟩) (by rw[hgd];rfl) rfl h
   ·rename_i gd0 hgd
    split at h
    ·rename_i gd hq';rw[<-hgd]at hq';dsimp only at h
     split at h
     ·rename_i hqq;exact exec hout hq' hqq h
     ·rename_i hqq;exact go h hlg hwf ⟨out,gd,hout,hq',.inl ⟨hqq,rfl,rfl,rfl⟩⟩
     grind
    ·cases h
  ·cases h
theorem I3{K V:Type}{wr:Nat->K->Prop}{val:Nat->K->V}{base:K->V}{n:Nat}{k:K}:ov (λ_=>False) wr val base n k=base k:=by rw[AY (m:=0) (Ue _) (by grind)];rfl
theorem E2(R:Reg C ih bd rd nt ops q T' G' F' hg0)(hmix:C.P.follows .mixedOrders=true)(hedge:∀i o,ops[i]?=some o->∀e∈o.after.toList,Region.binds .any e=true->e.on<i)
  {w:World} {γ:Gm} {nx:Nat} {a:Act} {id:Nat} (hr:Rel C A bd w γ hg0 nx) (ht:TR w γ A bd nt (T' 0) a.tmps) (hcalm:wc b.kind cs) :
  ∃a' w' γ' hg',Rel C A bd w' γ' hg' (Nat.max nx (G' ops.size).nx)/\Stp w γ w' γ'/\TR w' γ' A bd nt (T' ops.size) a'.tmps/\a'.defers=a.defers /\
   (∀id,((∃j,j<ops.size/\id∈(F' j).wr)/\hg' id=(G' ops.size).h.get id)\/((∀j,j<ops.size->id ∉ (F' j).wr)/\hg' id=hg0 id)) /\
   Steps C.P (lone (b.atR a (.code (.region id ops true)::k)) cs w) (lone (b.atR a' k) cs w'):=by
 let w1:World:={ w with drawn:=w.drawn+1 }
 have s1:Stp w γ w1 γ:=Gz (Tp _) rfl rfl rfl (VB _) λ_ _=>rfl;have r1:Rel C A bd w1 γ hg0 nx:=hr.same s1 λ_ _=>rfl;have I0:Inv C A bd nt ops T' G' F' hg0 (Nat.max nx (G' ops.size).nx) w γ a.defers (λ_=>False) a w1 γ hg0:=by refine⟨r1.up (UM _ _),s1,ht.1,λs=>?_,λid=>by rw[I3],rfl⟩;rw[I3];exact (ht.2 s).step s1
 have hcnt:cnt (λj=>!(Array.replicate ops.size false).getD j true) ops.size<=ops.size:=by
  generalize (λj=>!(Array.replicate ops.size false).getD j true)=p;generalize ops.size=n
  induction n with
  |zero=>exact Tp _
  |succ n ih'=>grind[cnt]
 obtain⟨a',w',γ',hg',I,st⟩:=N3 (b:=b) (k:=k) (cs:=cs) R (Nat.le_max_right _ _) hedge hcalm ops.size (w.tape w.drawn (.order b.fn id)) (Array.replicate ops.size false) (λ_=>False) (by simp)
  (λj=>by simp[UL,Array.getElem?_replicate];grind) (λj o _ h=>h.elim) hcnt I0
 have hend:∀{K V:Type} {wr:Nat->K->Prop} {val:Nat->K->V} {base:K->V} {k:K},(∀j,j<ops.size->¬wr j k->val (j+1) k=val j k) ->
   ((∃j,j<ops.size/\wr j k)/\ov (λj=>j<ops.size) wr val base ops.size k=val ops.size k)\/((∀j,j<ops.size->¬wr j k)/\ov (λj=>j<ops.size) wr val base ops.size k=base k/\val ops.size k=val 0 k) :=
  λkeep=>MX (Tp _) keep (by grind)
 refine⟨a',w',γ',hg',I.rel,I.stp,⟨I.size,λs=>?_⟩,I.dfr,λid'=>?_,?_⟩
 ·have:=I.slots s;rcases hend (wr:=λi s=>ja ops i=some s) (val:=λi s=>(T' i).get AV.undef s) (base:=λs=>(T' 0).get AV.undef s) (k:=s) (λj hj hw=>R.keepT hj hw) with⟨_,h⟩|⟨_,h,h2⟩<;>grind
 ·rw[I.objs id'];rcases hend (wr:=λi id=>id∈(F' i).wr) (val:=λi id=>(G' i).h.get id) (base:=hg0) (k:=id') (λj hj hw=>(R.at hj).2.1 id' hw) with⟨h1,h⟩|⟨h1,h,_⟩<;>grind
 ·refine .head stepR_region_draw ?_;have hsched:Region.schedule (C.P.follows .mixedOrders) ops (w.tape w.drawn (.order b.fn id))=Region.linearise.go .any ops ops.size (w.tape w.drawn (.order b.fn id)) (Array.replicate ops.size false) []:=by
   simp only[Region.schedule,hmix,Wa,if_true]
   rfl
  grind[Steps.trans,Steps.one,stepR_region_end]
end
end Hx
end
section
namespace Hx
open Go
section
variable {C:Cfg}{A:Nat->Nat->Prop}{bd:Nat}{w w':World}{γ γ':Gm}{hg:Nat->AObj}{nx:Nat}
variable {t:T}{g:G}{ih:IH}
def QU(C:Cfg)(A:Nat->Nat->Prop)(bd nt:Nat)(b:Frame)(k:List Item)(cs:List Frame)(m:Machine)(w:World)(γ:Gm)(hg:Nat->AObj)(nx:Nat)(g:G)(e:Ex)(t':T)(df':List ADf)(g':G):Prop :=
 ∃a' w' γ' hg',Fin C A bd w γ hg nx g w' γ' hg' g'/\TR w' γ' A bd nt t' a'.tmps/\DR w' γ' A bd df' a'.defers/\Arr C.P m b k cs e a' w'
theorem HK(hC:CfgOk C)(hi:IHOk C ih){nt:Nat}{rd:Option Nat}{ops:Array Oper}{draw:Bool}{rid:Nat}{df:List ADf}{e:Ex}{t':T}{df':List ADf}{g':G}
  (h:(fV C nt ops.toList draw).run ih (bd+1) rd t df g=.ok e t' df' g'):zm C bd nt rd (.region rid ops draw) t df g e t' df' g':=by
 intro A w γ hg nx b a k cs hr hx hwf hf ht hdf hrd hcalm;unfold fV at h;rw[aa]at h
 split at h
 rotate_left
 ·rename_i hdraw;have hdraw:draw=false:=by grind
  subst hdraw;obtain⟨rfl,a',w',γ',hg',f,tr,dr,st⟩:=Lr (b:=b) (cs:=cs) (k:=k) hC hi ops.toList 0 (by simp) h hwf hr hx hf ht hdf hrd hcalm;refine⟨a',w',γ',hg',f,tr,dr,.head stepR_region ?_⟩<;>grind[List.range_eq_range']
 rename_i hdraw;subst hdraw;rw[aa]at h
 split at h
 rotate_left
 ·cases h
 rename_i hord;have hord:pH 0 ops.toList=true/\nG (bJ ops.toList []) 0 ops.toList=true /\
   kX (λi x j y=>((bJ ops.toList []).getD j 0).testBit i || kH ops.toList x y) 0 ops.toList=true:=by
  simp_all[D_]
 obtain⟨ho1,ho2,ho3⟩:=hord;have hedge:∀i o,ops[i]?=some o->∀e∈o.after.toList,Region.binds .any e=true->e.on<i:=by intro i o ho e he hb;have:=BI ho1 i o (by grind) e he hb;omega
 have hguard:∀i o j b,ops[i]?=some o->o.guard=some (j,b)->((bJ ops.toList []).getD i 0).testBit j=true:=by
  intro i o j b ho hg';have:=Ay ho2 i o (by grind) j b hg'
  grind
 have hslot:∀i j oi oj,i<j->ops[i]?=some oi->ops[j]?=some oj->((bJ ops.toList []).getD j 0).testBit i=true\/kH ops.toList oi oj=true:=by
  grind[wi]
 have hk0:∀id,(γ id).kind=0->hg id=.none:=λid h=>(hr.none_iff id).1 h;rw[aa]at h
 split at h
 ·
  rename_i hq;dsimp only at h;generalize hc:(jS C nt ops.toList ops.toList).run ih (bd+1) rd t df (aO g [])=cr at h;cases cr with
  |fail=>cases h
  | ok e1 t1 df1 g1 =>
   simp only[nM]at h;cases hlg:g1.lg with
   |cons x xs=>grind
   | nil =>
    rw[hlg]at h;dsimp only at h;rw[aa]at h
    split at h
    rotate_left
    ·cases h
    rename_i hnx;have hnx:=aL hnx;injection h with h1 h2 h3 h4;subst h1;subst h2;subst h3;subst h4;obtain⟨rfl,rfl,T',G',F',a1,a2,a3,a4,a5,a6⟩:=KB hC hi ops.toList 0 hc (by grind) (by simp) hlg hwf.setLog;simp only[T6,Array.length_toList]at a3 a4 a5;have R:Reg C ih bd rd nt ops true T' G' F' hg:=by
     refine⟨hC,hi,λi o ho=>a5 i o (by grind),by grind[WF.setLog],by simp_all,λid h1 h2=>?_,λi j _ _=>.inr ?_,λi j j' _ _ _ _ _ _ hm=>?_,hslot,hguard,λ_ i _=>a6 i⟩
     ·rw[a2]at h1;rw[a4,hnx]at h2;exact hk0 id (hf id (by simp_all) h2)
     all_goals grind[bE,fI,d_,meets]
    obtain⟨a',w',γ',hg',hr',hst,htr,hdef,hobj,st⟩:=E2 (b:=b) (k:=k) (cs:=cs) (id:=rid) R hC.mixed hedge hr (by rw[a1];exact ht) hcalm;have hsame:∀id,hg' id=hg id:=λid=>by
     grind
    refine⟨a',w',γ',hg',⟨?_,hst,⟨[],rfl,λ_ h=>absurd h TV,λid _=>hsame id⟩⟩,by rw[<-a3];exact htr,by rw[hdef];exact hdf.step hst,st⟩<;>grind
 ·dsimp only at h;obtain⟨rfl,rfl,T',G',F',a1,a2,a3,a4,a5,a6⟩:=LO ops.toList 0 h;simp only[T6,Array.length_toList,TS,TL]at a3 a4 a5 a6;obtain⟨b1,b2⟩:=Id a6;have hF:∀j,j<ops.size->((List.range ops.size).map F')[j]?=some (F' j):=λj hj=>by grind
  have R:Reg C ih bd rd nt ops false T' G' F' hg:=by
   refine⟨hC,hi,λi o ho=>(a5 i o (by grind)).1,by grind,by grind,λid h1 h2=>?_,λi j hij hj=>?_,λi j j' h1 h2 h3 h4 h5 h6 h7 h8=>?_,hslot,hguard,λh=>by cases h⟩
   ·rw[a2]at h1;rw[a4]at h2;exact hk0 id (hf id h1 h2)
   all_goals grind[wi,El]
  obtain⟨a',w',γ',hg',hr',hst,htr,hdef,hobj,st⟩:=E2 (b:=b) (k:=k) (cs:=cs) (id:=rid) R hC.mixed hedge hr (by rw[a1];exact ht) hcalm;have hlog:∀n,n<=ops.size->∃new,(G' n).lg=new++g.lg/\∀id,id∈new↔∃j,j<n/\id∈(F' j).wr:=by
   intro n
   induction n with
   |zero=>simp_all
   | succ n ihn =>
    intro hn;obtain⟨new,e1,e2⟩:=ihn (by omega);have hn':n<ops.size:=by omega
    have:=(a5 n ops[n] (by grind)).2
    grind
  obtain⟨new,e1,e2⟩:=hlog ops.size (Tp _);refine⟨a',w',γ',hg',⟨by rw[a4]at hr';exact hr',hst,⟨new,by rw[<-a4];exact e1,λid hid=>?_,λid hid=>?_⟩⟩,by rw[<-a3];exact htr,by rw[hdef];exact hdf.step hst,st⟩<;>grind
theorem tP{P:Program}{b:Frame}{a:Act}{k:List Item}{cs:List Frame}{c:Code} :
  step P (lone (b.atR a (.code (.scope c)::k)) cs w)=.next (lone (b.atR a (.code c::.inScope c::k)) cs w) :=
 step_lone_go (by simp[stepG,stepG.exec,Frame.atR])
theorem Cc{P:Program}{b:Frame}{a:Act}{k:List Item}{cs:List Frame}{c:Code} :
  step P (lone (b.atR a (.inScope c::k)) cs w)=.next (lone (b.atR a k) cs w) :=
 step_lone_go (by simp[stepG,stepG.exec,Frame.atR])
theorem tQ{P:Program}{m m1 X:Machine}(h:Steps P m X)(hne:m≠X)(hs:step P m=.next m1):Steps P m1 X:=by
 obtain⟨n,hn⟩:=h;cases n with
 |zero=>grind[runN]
 |succ n=>exact⟨n,by grind[runN]⟩
theorem H4{b b':Frame}{a a':Act}{k k':List Item}{cs cs':List Frame}{w w':World}(h:lone (b.atR a k) cs w=lone (b'.atR a' k') cs' w'):k=k':=by simp_all[lone,Frame.atR]
theorem uU(hC:CfgOk C)(hi:IHOk C ih){nt:Nat}{rd:Option Nat}{fo:Operand}{s:Stg (T->AV)}{ps:Array Tmp}{assign body:Code}{df:List ADf}{dfr:Nat}{e:Ex}{t':T}{df':List ADf}{g':G}
  (hs:aW C fo=some s) (h:co C ih nt (bd+1) rd (s.run t) ps.toList assign body t df dfr g=.ok e t' df' g')
  (hwf:WF g) {b:Frame} {a:Act} {k:List Item} {cs:List Frame} {mark:List Deferred} {blk:Nat}
  (hr:Rel C A bd w γ hg nx) (hx:Ext g.h hg) (hf:Free γ g g') (ht:TR w γ A bd nt t a.tmps) (hdf:DR w γ A bd df (mark++a.defers)) (hrd:RdOk γ rd b) (hcalm:wc b.kind cs)
  (hdfr:(γ dfr).kind=4/\(γ dfr).blk=blk) {w00:World}
  (henter:(Instr.enterLoop b.fn a.tmps ps assign body b.roundOf).run C.P w00=.ok (w.heap.size,mark) (World.add w (.loop { state:=.ready,pending:=none,fn:=b.fn,tmps:=a.tmps,params:=ps,assign,body,defers:=blk }))) :
  QU C A bd nt b k cs (lone (b.atR a (.code (.rangeFunc fo ps assign body)::k)) cs w00) w γ hg nx g e t' df' g':=by
 unfold co at h;have hfv:=aF hs ht hr;generalize hfo:a.eval fo=vf at hfv;generalize s.run t=y at h hfv;cases hfv with
 | clo _ f xs ys vs1 us1 hl hl2 h1 h2 =>
  dsimp only at h;rw[aa]at h
  split at h
  ·cases h
  split at h
  rotate_left
  ·cases h
  rename_i rv0 g2 hcall
  let L:Loop:={ state:=.ready,pending:=none,fn:=b.fn,tmps:=a.tmps,params:=ps,assign,body,defers:=blk }
  let w1:=World.add w (.loop L)
  let gh:Gh:=⟨3,0,0,0,w.heap.size,0,0,true⟩
  have m1:Mon g (g.new (.loop nt t ps.toList assign body dfr .ready none)):=Mon.mk';have wf1:=m1.wf hwf;have m2:=hi.mon.call _ _ _ _ _ _ hcall wf1;have wf2:=m2.wf wf1;have m3:=xd hi.mon h wf2;have hfree0:(γ g.nx).kind=0:=hf g.nx (Tp _) (TU m1.nx (TU m2.nx m3.nx));have hdne:dfr≠g.nx:=by grind
  obtain⟨r1,s1⟩:=hr.add (id:=g.nx) (gh:=gh) (o:=.loop L) (ao:=.loop nt t ps.toList assign body dfr .ready none) (nx':=Nat.max nx (g.nx+1)) hfree0 rfl (UM _ _) (by grind) (by
   have s0:=Ep (w:=w) (o:=.loop L) (gh:=gh) hfree0 rfl;refine⟨by simp[gh],by simp[gh],L,by rw[kW];simp[gh],rfl,rfl,rfl,rfl,rfl,ht.1,λi=>(ht.2 i).step s0,?_,?_⟩
   all_goals grind[cQ])
  have f1:Fin C A bd w γ hg nx g w1 (upd γ g.nx gh) _ (g.new (.loop nt t ps.toList assign body dfr .ready none)):=Q7 r1 s1;have hx1:=f1.ext m1 hx;have hf1:=f1.freed hr m1 hf;obtain⟨hent,hrun⟩:=hi.call _ _ _ _ _ _ hcall;have hyl:RV w1 (upd γ g.nx gh) A bd (.yld g.nx) (.func (.yield w.heap.size) #[] #[]):=.yld _ _ _ (by simp[gh]) (by simp[gh]);have hargs:RVs w1 (upd γ g.nx gh) A bd (xs++(.yld g.nx::ys)) (vs1.toList++(.func (.yield w.heap.size) #[] #[]::us1.toList)):=by
   refine ((Rc hl h1).step s1).append ?_;have hu:=(Rc hl2 h2).step s1;refine⟨by grind,λi x v hx' hv=>?_⟩;cases i with
   |zero=>grind
   |succ i=>exact hu.2 i x v (by grind) (by grind)
  let a1:Act:={ a with defers:=mark++a.defers }
  let fr1:=b.atR a1 (.inRangeFunc w.heap.size::k)
  obtain⟨u,w2,γ2,hg2,f2,_,fr,st,q1,q2,q3,q4,fn,q5,q6⟩:=hrun A w1 _ _ _ _ f1.rel hx1 wf1 (hf1.le m3.nx) hargs .normal (fr1::cs) (.inl rfl);have f12:=f1.trans f2 m1 m2;have hx2:=f12.ext (m1.trans m2) hx;have harr:(vs1.toList++(.func (.yield w.heap.size) #[] #[]::us1.toList)).toArray=(vs1++#[.func (.yield w.heap.size) #[] #[]])++us1:=by grind
  rw[harr]at st;have hstart:step C.P (lone (b.atR a (.code (.rangeFunc fo ps assign body)::k)) cs w00)=.next (lone (Frame.enter C.P f ((vs1++#[.func (.yield w.heap.size) #[] #[]])++us1) .normal) (fr1::cs) w1):=by
   refine stepR_rangeFunc (l:=w.heap.size) (mark:=mark) (w₁:=w1) (w₁':=w1) (d:={ target:=.fn (.func f) us1,args:=vs1++#[.func (.yield w.heap.size) #[] #[]] }) henter ?_ ?_
   ·simp_all[resolve,Deferred.ofValue,Act.eval]
   ·exact hent _ _
  have hfin:fr1.finish u=b.atR a1 (.endRangeFunc w.heap.size::k):=finish_atR_inRangeFunc _ _;have hback:Steps C.P (lone (b.atR a (.code (.rangeFunc fo ps assign body)::k)) cs w00) (lone (b.atR a1 (.endRangeFunc w.heap.size::k)) cs w2):=by refine .head hstart (Steps.trans st (.one ?_));rw[<-hfin];exact step_leave_returned ⟨q1,q2,q3,fn,by grind,q6⟩
  unfold cM at h
  split at h
  rotate_left
  ·cases h
  rename_i nt3 t3 ps3 assign3 body3 dfr3 st3 pend3 hget;have hget:g2.h.get g.nx=.loop nt3 t3 ps3 assign3 body3 dfr3 st3 pend3:=by simp_all
  have hid:hg2 g.nx=.loop nt3 t3 ps3 assign3 body3 dfr3 st3 pend3:=by rw[hx2 g.nx (by grind),hget]
  have hob:=f12.rel.obj g.nx;rw[hid]at hob;obtain⟨k1,k2,L2,k3,k4,k5,k6,k7,k8,k9,k10,k11,k12⟩:=hob;have hblk:(γ2 g.nx).blk=w.heap.size:=by have:=f2.stp.blk_eq (id:=g.nx) (by simp[gh]) (by simp[gh]);rw[this];simp[gh]
  obtain⟨r3,s3⟩:=f12.rel.setLoop (st':=.exhausted) (pend':=pend3) hid k3;rw[hblk]at k3 r3 s3;have f3:Fin C A bd w2 γ2 hg2 (Nat.max nx g2.nx) g2 _ γ2 _ (g2.put g.nx (.loop nt3 t3 ps3 assign3 body3 dfr3 .exhausted pend3)):=Q8 r3 s3;have m4:Mon g2 (g2.put g.nx (.loop nt3 t3 ps3 assign3 body3 dfr3 .exhausted pend3)):=Mon.put wf2 (by grind);have f123:=f12.trans f3 (m1.trans m2) m4;have hfr1:(γ2 g.nx).kind≠0:=by omega
  have hend:st3≠.busy->(Instr.endLoop w.heap.size).run C.P w2=.ok pend3 (World.setBlk w2 w.heap.size (.loop { L2 with state:=.exhausted,pending:=pend3 })):=by simp_all[Instr.endLoop,lC,tN]
  have hst:Stp w γ (World.setBlk w2 w.heap.size (.loop { L2 with state:=.exhausted,pending:=pend3 })) γ2:=f123.stp
  split at h
  ·cases h
  ·rename_i hnb;have hend:=hend (by omega);have hback2:=Steps.trans hback (.one (stepR_endRangeFunc (P:=C.P) (b:=b) (a:=a1) (k:=k) (cs:=cs) hend))
   split at h
   ·injection h with e1 e2 e3 e4;subst e1;subst e2;subst e3;subst e4;exact⟨a1,_,γ2,_,f123,ht.step hst,hdf.step hst,by grind[Arr]⟩
   ·rename_i c;have m5:=hi.mon.code _ _ _ _ _ _ _ _ _ _ _ h (m4.wf wf2);obtain⟨a',w',γ',hg',f4,tr,dr,ar⟩:=hi.code _ _ _ _ _ _ _ _ _ _ _ h A _ _ _ _ b a1 k cs f123.rel (f123.ext ((m1.trans m2).trans m4) hx) (m4.wf wf2) (f123.freed hr ((m1.trans m2).trans m4) hf)
     (ht.step hst) (hdf.step hst) (hrd.step hst) hcalm
    exact⟨a',w',γ',hg',f123.trans f4 ((m1.trans m2).trans m4) m5,tr,dr,ar.of_steps (by grind)⟩
 |_=>cases h
theorem AP{P:Program}{o:Obj}:(newObj o).run P w=.ok w.heap.size (World.add w o):=by simp_all[World.add]
theorem BK{P:Program}{fn:FuncId}{tmps:Array Value}{ps:Array Tmp}{assign body:Code} :
  (Instr.enterLoop fn tmps ps assign body none).run P w=.ok (w.heap.size+1,[{ target:=.collected w.heap.size,args:=#[] }])
   (World.add (World.add w (.deferred (some []))) (.loop { state:=.ready,pending:=none,fn,tmps,params:=ps,assign,body,defers:=w.heap.size })):=by
 unfold Instr.enterLoop
 grind[T0,AP,TN,UT,add_size]
theorem Dz{P:Program}{fn:FuncId}{tmps:Array Value}{ps:Array Tmp}{assign body:Code}{l:Nat}{L:Loop}(h:w.heap[l]?=some (.loop L)) :
  (Instr.enterLoop fn tmps ps assign body (some l)).run P w=.ok (w.heap.size,[])
   (World.add w (.loop { state:=.ready,pending:=none,fn,tmps,params:=ps,assign,body,defers:=L.defers })):=by
 unfold Instr.enterLoop;simp only[T0,lC h,AP,TN,UT]
theorem HH(hC:CfgOk C)(hi:IHOk C ih){nt:Nat}{rd:Option Nat}{fo:Operand}{s:Stg (T->AV)}{ps:Array Tmp}{assign body:Code}{df:List ADf}{e:Ex}{t':T}{df':List ADf}{g':G}
  (hs:aW C fo=some s) (h:nN C nt s.run ps.toList assign body ih (bd+1) rd t df g=.ok e t' df' g'):zm C bd nt rd (.rangeFunc fo ps assign body) t df g e t' df' g':=by
 intro A w γ hg nx b a k cs hr hx hwf hf ht hdf hrd hcalm;unfold nN at h;cases rd with
 | some l =>
  dsimp only at h
  split at h
  rotate_left
  ·cases h
  rename_i nt0 t0 ps0 as0 bo0 dfr st0 pe0 hget;have hget:g.h.get l=.loop nt0 t0 ps0 as0 bo0 dfr st0 pe0:=by simp_all
  have hid:hg l=.loop nt0 t0 ps0 as0 bo0 dfr st0 pe0:=by rw[hx l (by grind),hget]
  have hob:=hr.obj l;rw[hid]at hob;obtain⟨k1,k2,L,k3,k4,k5,k6,k7,k8,k9,k10,k11,k12⟩:=hob;have henter:=Dz (P:=C.P) (fn:=b.fn) (tmps:=a.tmps) (ps:=ps) (assign:=assign) (body:=body) k3;rw[k12,<-hrd.2]at henter;exact uU (mark:=[]) hC hi hs h hwf hr hx hf ht hdf hrd hcalm ⟨k11,rfl⟩ henter
 | none =>
  dsimp only at h
  let gh:Gh:=⟨4,0,0,0,w.heap.size,0,0,true⟩
  have m1:Mon g (g.new (.dfr true)):=Mon.mk';have wf1:=m1.wf hwf;have m2:=pt hi.mon h wf1;have hfree0:(γ g.nx).kind=0:=hf g.nx (Tp _) (TU m1.nx m2.nx);obtain⟨r1,s1⟩:=hr.add (id:=g.nx) (gh:=gh) (o:=.deferred (some [])) (ao:=.dfr true) (nx':=Nat.max nx (g.nx+1)) hfree0 rfl (UM _ _) (by grind) (by
   refine⟨by simp[gh],by simp[gh],by rw[kW];simp[gh]⟩)
  have f1:Fin C A bd w γ hg nx g _ (upd γ g.nx gh) _ (g.new (.dfr true)):=Q7 r1 s1;have henter:=BK (P:=C.P) (w:=w) (fn:=b.fn) (tmps:=a.tmps) (ps:=ps) (assign:=assign) (body:=body);have hro:b.roundOf=none:=hrd;rw[<-hro]at henter;obtain⟨a',w',γ',hg',f2,tr,dr,ar⟩:=uU (nt:=nt) (rd:=none) (b:=b) (a:=a) (k:=k) (cs:=cs) (mark:=[{ target:=.collected w.heap.size,args:=#[] }]) (blk:=w.heap.size) (w00:=w) hC hi hs h wf1 f1.rel (f1.ext m1 hx) (f1.freed hr m1 hf)
   (ht.step s1) ⟨⟨by simp[gh],by simp[gh]⟩,hdf.step s1⟩ hro hcalm ⟨by simp[gh],by simp[gh]⟩ (by simp_all)
  exact⟨a',w',γ',hg',f1.trans f2 m1 m2,tr,dr,ar⟩
theorem Cm(hC:CfgOk C)(hi:IHOk C ih){nt:Nat}{rd:Option Nat}:∀(c:Code) {t:T} {df:List ADf} {g:G} {e:Ex} {t':T} {df':List ADf} {g':G},
  (aX C nt c).run ih (bd+1) rd t df g=.ok e t' df' g'->zm C bd nt rd c t df g e t' df' g':=by
 intro c
 induction c with
 | skip =>
  intro t df g e t' df' g' h A w γ hg nx b a k cs hr hx hwf hf ht hdf hrd hcalm;simp only[aX]at h;injection h with h1 h2 h3 h4;subst h1;subst h2;subst h3;subst h4;exact⟨a,w,γ,hg,Fin.refl hr,ht,hdf,.one stepR_skip⟩
 | label l =>
  intro t df g e t' df' g' h A w γ hg nx b a k cs hr hx hwf hf ht hdf hrd hcalm;simp only[aX]at h;injection h with h1 h2 h3 h4;subst h1;subst h2;subst h3;subst h4;exact⟨a,w,γ,hg,Fin.refl hr,ht,hdf,.one stepR_label⟩
 |region id ops draw=>intro t df g e t' df' g' h;exact HK hC hi h
 | seq x y ihx ihy =>
  intro t df g e t' df' g' h A w γ hg nx b a k cs hr hx hwf hf ht hdf hrd hcalm;simp only[aX]at h;generalize hc:(aX C nt x).run ih (bd+1) rd t df g=r at h;cases r with
  |fail=>cases h
  | ok e1 t1 df1 g1 =>
   have m1:=mN hC.mon hi.mon _ hc hwf;have wf1:=m1.wf hwf;cases e1 with
   | norm =>
    have h:(aX C nt y).run ih (bd+1) rd t1 df1 g1=.ok e t' df' g':=h;have m2:=mN hC.mon hi.mon _ h wf1;obtain⟨a1,w1,γ1,hg1,f1,tr1,dr1,ar1⟩:=ihx hc A w γ hg nx b a (.code y::k) cs hr hx hwf (hf.le m2.nx) ht hdf hrd hcalm;obtain⟨a2,w2,γ2,hg2,f2,tr2,dr2,ar2⟩:=ihy h A w1 γ1 hg1 _ b a1 k cs f1.rel (f1.ext m1 hx) wf1 (f1.freed hr m1 hf) tr1 dr1 (hrd.step f1.stp) hcalm;exact⟨a2,w2,γ2,hg2,f1.trans f2 m1 m2,tr2,dr2,ar2.of_steps (.head stepR_seq ar1)⟩
   | exit j =>
    have h:CR.ok (.exit j) t1 df1 g1=.ok e t' df' g':=h;injection h with h1 h2 h3 h4;subst h1;subst h2;subst h3;subst h4;obtain⟨a1,w1,γ1,hg1,f1,tr1,dr1,k₁,hk,ar1⟩:=ihx hc A w γ hg nx b a (.code y::k) cs hr hx hwf hf ht hdf hrd hcalm;exact⟨a1,w1,γ1,hg1,f1,tr1,dr1,k₁,by rw[hk];rfl,.head stepR_seq ar1⟩
   | ret =>
    have h:CR.ok .ret t1 df1 g1=.ok e t' df' g':=h;injection h with h1 h2 h3 h4;subst h1;subst h2;subst h3;subst h4;obtain⟨a1,w1,γ1,hg1,f1,tr1,dr1,k₁,ar1⟩:=ihx hc A w γ hg nx b a (.code y::k) cs hr hx hwf hf ht hdf hrd hcalm;exact⟨a1,w1,γ1,hg1,f1,tr1,dr1,k₁,.head stepR_seq ar1⟩
 | cond c x y ihx ihy =>
  intro t df g e t' df' g' h A w γ hg nx b a k cs hr hx hwf hf ht hdf hrd hcalm;simp only[aX]at h
  split at h
  rotate_left
  ·cases h
  rename_i s hs;dsimp only at h;have hv:=aF hs ht hr;generalize hcv:a.eval c=vc at hv;generalize s.run t=cv at h hv;cases hv with
  | bool _ bv =>
   dsimp only at h;cases bv with
   | true =>
    obtain⟨a1,w1,γ1,hg1,f1,tr1,dr1,ar1⟩:=ihx h A w γ hg nx b a k cs hr hx hwf hf ht hdf hrd hcalm;exact⟨a1,w1,γ1,hg1,f1,tr1,dr1,ar1.of_steps (.one (by simp_all[stepR_cond]))⟩
   | false =>
    obtain⟨a1,w1,γ1,hg1,f1,tr1,dr1,ar1⟩:=ihy h A w γ hg nx b a k cs hr hx hwf hf ht hdf hrd hcalm;exact⟨a1,w1,γ1,hg1,f1,tr1,dr1,ar1.of_steps (.one (by simp_all[stepR_cond]))⟩
  |_=>cases h
 | block id body ihb =>
  intro t df g e t' df' g' h A w γ hg nx b a k cs hr hx hwf hf ht hdf hrd hcalm;simp only[aX]at h;generalize hc:(aX C nt body).run ih (bd+1) rd t df g=r at h;cases r with
  |fail=>cases h
  | ok e1 t1 df1 g1 =>
   cases e1 with
   | norm =>
    have h:CR.ok .norm t1 df1 g1=.ok e t' df' g':=h;injection h with h1 h2 h3 h4;subst h1;subst h2;subst h3;subst h4;obtain⟨a1,w1,γ1,hg1,f1,tr1,dr1,ar1⟩:=ihb hc A w γ hg nx b a (.inBlock id::k) cs hr hx hwf hf ht hdf hrd hcalm;exact⟨a1,w1,γ1,hg1,f1,tr1,dr1,.head stepR_block (Steps.trans ar1 (.one stepR_inBlock))⟩
   | exit j =>
    simp only[u7,aa]at h
    split at h
    ·rename_i hj;have hj:=aL hj;subst hj;injection h with h1 h2 h3 h4;subst h1;subst h2;subst h3;subst h4;obtain⟨a1,w1,γ1,hg1,f1,tr1,dr1,k₁,hk,ar1⟩:=ihb hc A w γ hg nx b a (.inBlock j::k) cs hr hx hwf hf ht hdf hrd hcalm;exact⟨a1,w1,γ1,hg1,f1,tr1,dr1,.head stepR_block (Steps.trans ar1 (.one (stepR_exit (by grind[exitTo]))))⟩
    ·rename_i hj;injection h with h1 h2 h3 h4;subst h1;subst h2;subst h3;subst h4;obtain⟨a1,w1,γ1,hg1,f1,tr1,dr1,k₁,hk,ar1⟩:=ihb hc A w γ hg nx b a (.inBlock id::k) cs hr hx hwf hf ht hdf hrd hcalm;refine⟨a1,w1,γ1,hg1,f1,tr1,dr1,k₁,?_,.head stepR_block ar1⟩;rw[hk];have hne:(id == j)=false:=by simp only[beq_eq_false_iff_ne,ne_eq];rintro rfl<;>simp_all
     grind[exitTo]
   | ret =>
    have h:CR.ok .ret t1 df1 g1=.ok e t' df' g':=h;injection h with h1 h2 h3 h4;subst h1;subst h2;subst h3;subst h4;obtain⟨a1,w1,γ1,hg1,f1,tr1,dr1,k₁,ar1⟩:=ihb hc A w γ hg nx b a (.inBlock id::k) cs hr hx hwf hf ht hdf hrd hcalm;exact⟨a1,w1,γ1,hg1,f1,tr1,dr1,k₁,.head stepR_block ar1⟩
 | loop body ihb =>
  intro t df g e t' df' g' h A w γ hg nx b a k cs hr hx hwf hf ht hdf hrd hcalm;simp only[aX]at h;generalize hc:(aX C nt body).run ih (bd+1) rd t df g=r at h;cases r with
  |fail=>cases h
  | ok e1 t1 df1 g1 =>
   have m1:=mN hC.mon hi.mon _ hc hwf;have wf1:=m1.wf hwf;cases e1 with
   | norm =>
    have h:ih.code nt (bd+1) rd (.loop body) t1 df1 g1=.ok e t' df' g':=h;have m2:=hi.mon.code _ _ _ _ _ _ _ _ _ _ _ h wf1;obtain⟨a1,w1,γ1,hg1,f1,tr1,dr1,ar1⟩:=ihb hc A w γ hg nx b a (.inLoop body::k) cs hr hx hwf (hf.le m2.nx) ht hdf hrd hcalm;obtain⟨a2,w2,γ2,hg2,f2,tr2,dr2,ar2⟩:=hi.code _ _ _ _ _ _ _ _ _ _ _ h A w1 γ1 hg1 _ b a1 k cs f1.rel (f1.ext m1 hx) wf1 (f1.freed hr m1 hf) tr1 dr1 (hrd.step f1.stp) hcalm;refine⟨a2,w2,γ2,hg2,f1.trans f2 m1 m2,tr2,dr2,Arr.of_steps (.head stepR_loop (Steps.trans ar1 (.one stepR_inLoop))) ?_⟩;have hloop:step C.P (lone (b.atR a1 (.code (.loop body)::k)) cs w1)=.next (lone (b.atR a1 (.code body::.inLoop body::k)) cs w1):=stepR_loop;have ne:∀{a':Act} {k':List Item} {w':World},k'≠.code (.loop body)::k->lone (b.atR a1 (.code (.loop body)::k)) cs w1≠lone (b.atR a' k') cs w':=λh h'=>h (H4 h').symm;cases e with
    |norm=>exact tQ ar2 (ne (λh=>by have:=congrArg List.length h;grind)) hloop
    | exit j =>
     obtain⟨k₁,hk,ar2⟩:=ar2;exact⟨k₁,hk,tQ ar2 (ne (λh=>by grind)) hloop⟩
    | ret =>
     obtain⟨k₁,ar2⟩:=ar2;exact⟨k₁,tQ ar2 (ne (λh=>by grind)) hloop⟩
   | exit j =>
    have h:CR.ok (.exit j) t1 df1 g1=.ok e t' df' g':=h;injection h with h1 h2 h3 h4;subst h1;subst h2;subst h3;subst h4;obtain⟨a1,w1,γ1,hg1,f1,tr1,dr1,k₁,hk,ar1⟩:=ihb hc A w γ hg nx b a (.inLoop body::k) cs hr hx hwf hf ht hdf hrd hcalm;exact⟨a1,w1,γ1,hg1,f1,tr1,dr1,k₁,by rw[hk];rfl,.head stepR_loop ar1⟩
   | ret =>
    have h:CR.ok .ret t1 df1 g1=.ok e t' df' g':=h;injection h with h1 h2 h3 h4;subst h1;subst h2;subst h3;subst h4;obtain⟨a1,w1,γ1,hg1,f1,tr1,dr1,k₁,ar1⟩:=ihb hc A w γ hg nx b a (.inLoop body::k) cs hr hx hwf hf ht hdf hrd hcalm;exact⟨a1,w1,γ1,hg1,f1,tr1,dr1,k₁,.head stepR_loop ar1⟩
 | scope body ihb =>
  intro t df g e t' df' g' h A w γ hg nx b a k cs hr hx hwf hf ht hdf hrd hcalm;have h:(aX C nt body).run ih (bd+1) rd t df g=.ok e t' df' g':=h;obtain⟨a1,w1,γ1,hg1,f1,tr1,dr1,ar1⟩:=ihb h A w γ hg nx b a (.inScope body::k) cs hr hx hwf hf ht hdf hrd hcalm;refine⟨a1,w1,γ1,hg1,f1,tr1,dr1,?_⟩;cases e with
  |norm=>exact .head tP (Steps.trans ar1 (.one Cc))
  |exit j=>obtain⟨k₁,hk,ar1⟩:=ar1;exact⟨k₁,by rw[hk];rfl,.head tP ar1⟩
  |ret=>obtain⟨k₁,ar1⟩:=ar1;exact⟨k₁,.head tP ar1⟩
 | exit id =>
  intro t df g e t' df' g' h A w γ hg nx b a k cs hr hx hwf hf ht hdf hrd hcalm;simp only[aX]at h;injection h with h1 h2 h3 h4;subst h1;subst h2;subst h3;subst h4;exact⟨a,w,γ,hg,Fin.refl hr,ht,hdf,k,rfl,Steps.refl _ _⟩
 | ret =>
  intro t df g e t' df' g' h A w γ hg nx b a k cs hr hx hwf hf ht hdf hrd hcalm;simp only[aX]at h;injection h with h1 h2 h3 h4;subst h1;subst h2;subst h3;subst h4;exact⟨a,w,γ,hg,Fin.refl hr,ht,hdf,k,Steps.refl _ _⟩
 | rangeFunc f ps assign body _ _ =>
  intro t df g e t' df' g' h;simp only[aX]at h
  split at h
  ·rename_i s hs;exact HH hC hi hs h
  ·cases h
 |_=>intro t df g e t' df' g' h;cases h
theorem KL(hi:IHOk C ih):∀{df:List ADf} {g g':G},fp ih (bd+1) df g=some g'->WF g ->
  ∀{w γ hg nx} {fr:Frame} {cs:List Frame},Rel C A bd w γ hg nx->Ext g.h hg->Free γ g g'->DR w γ A bd df fr.defers->fr.mode=.returning ->
   ∃w' γ' hg',Fin C A bd w γ hg nx g w' γ' hg' g'/\Steps C.P (lone fr cs w) (lone { fr with defers:=[] } cs w'):=by
 intro df
 induction df with
 | nil =>
  intro g g' h _ w γ hg nx fr cs hr hx hf hdf hm;simp only[fp]at h;injection h with h;subst h;have hd:fr.defers=[]:=by
   cases hd:fr.defers with
   |nil=>rfl
   |cons d ds=>rw[hd]at hdf;exact hdf.elim
  refine⟨w,γ,hg,Fin.refl hr,?_⟩;have:({ fr with defers:=[] }:Frame)=fr:=by cases fr<;>grind
  grind[Steps.refl]
 | cons x df ihl =>
  intro g g' h hwf w γ hg nx fr cs hr hx hf hdf hm;cases hd:fr.defers with
  |nil=>rw[hd]at hdf;cases x<;>exact hdf.elim
  | cons d ds =>
   rw[hd]at hdf;cases x with
   | mark id =>
    obtain⟨⟨hk,rfl⟩,hdf⟩:=hdf;simp only[fp]at h
    split at h
    ·rename_i hget;have hget:g.h.get id=.dfr true:=by simp_all
     have hid:hg id=.dfr true:=by rw[hx id (by grind),hget]
     have hob:=hr.obj id;rw[hid]at hob;obtain⟨k1,k2,k3⟩:=hob;have hk0:(γ id).kind≠0:=by omega
     have m1:Mon g (g.put id (.dfr false)):=Mon.put hwf (by grind);obtain⟨r1,s1⟩:=hr.setBlk (id:=id) (o:=.deferred none) (ao:=.dfr false) hk0 k2 ⟨k1,k2,by grind[bm]⟩;have f1:Fin C A bd w γ hg nx g _ γ _ (g.put id (.dfr false)):=Q8 r1 s1;have m2:=uh hi.mon h (m1.wf hwf);obtain⟨w',γ',hg',f2,st⟩:=ihl h (m1.wf hwf) (fr:={ fr with defers:=ds }) (cs:=cs) f1.rel (f1.ext m1 hx) (f1.freed hr m1 hf) (hdf.step s1) hm;refine⟨w',γ',hg',f1.trans f2 m1 m2,.head (step_lone_go ?_) st⟩;simp_all[Instr.takeDeferred,fJ,ii,stepG,unwind]
    grind
   | call fv args =>
    obtain⟨⟨f,ys,us,rfl,htar,hys,hargs⟩,hdf⟩:=hdf;simp only[fp]at h
    split at h
    rotate_left
    ·cases h
    rename_i v g1 hcall;have m1:=hi.mon.call _ _ _ _ _ _ hcall hwf;have wf1:=m1.wf hwf;have m2:=uh hi.mon h wf1;obtain⟨hent,hrun⟩:=hi.call _ _ _ _ _ _ hcall
    let fr0:Frame:={ fr with defers:=ds }
    obtain⟨u,w1,γ1,hg1,f1,_,frX,st,q1,q2,q3,q4,fn,q5,q6⟩:=hrun A w γ hg nx (d.args.toList++us.toList) hr hx hwf (hf.le m2.nx) (by grind[RVs.append]) .deferred (fr0::cs) (.inr ⟨rfl,fr0,cs,rfl,.inl hm⟩);have harr:(d.args.toList++us.toList).toArray=d.args++us:=by grind
    rw[harr]at st;obtain⟨w',γ',hg',f2,st2⟩:=ihl h wf1 (fr:=fr0) (cs:=cs) f1.rel (f1.ext m1 hx) (f1.freed hr m1 hf) (hdf.step f1.stp) hm;refine⟨w',γ',hg',f1.trans f2 m1 m2,.head (step_defer (by grind) hd htar ?_) (Steps.trans st (.head ?_ st2))⟩
    ·rw[htar];simp only[invoke];exact hent _ _
    ·have hgo:frX.going C.P w1 (.returned u):=⟨q1,q2,fn,by grind,q6⟩;have:=step_going_returned (P:=C.P) (c:=fr0) (cs:=cs) q3 hgo;have hs:settle fr0.mode=.returning:=by have:fr0.mode=.returning:=hm;rw[this];rfl
     grind
theorem FC{P:Program}{ty:TypeId}{x v:Value}{w w':World}(h:(do loadVar ty (<-Instr.sureAddr x):Sem Value).run P w=.ok v w') :
  (do loadVar ty (<-asAddr x):Sem Value).run P w=.ok v w':=by
 cases x with
 |pointer p=>cases p<;>simp[Instr.sureAddr,asAddr]at h ⊢;exact h
 |_=>simp[Instr.sureAddr]at h
theorem Ls(hC:CfgOk C){nt:Nat}{tmps:Array Value}(ht:TR w γ A bd nt t tmps)(hr:Rel C A bd w γ hg nx)(hx:Ext g.h hg):∀{rs:List ResultVar} {k:Stg (T->G->Option (List AV))} {vs:List AV},xA C rs=some k->k.run t g=some vs ->
  ∃us:List Value,(rs.mapM (fun|.tmp t=>pure (tmps.getD t undef)|.cell a t=>do loadVar t (<-asAddr (tmps.getD a undef))):Sem (List Value)).run C.P w=.ok us w/\RVs w γ A bd vs us:=by
 intro rs
 induction rs with
 |nil=>intro k vs h hv;simp[xA]at h;subst h;simp at hv;subst hv;exact⟨[],by simp,rfl,(by grind)⟩
 | cons r rs ihr =>
  intro k vs h hv;cases r with
  | tmp n =>
   simp only[xA]at h
   split at h
   ·rename_i k0 hk0;injection h with h;subst h;dsimp only at hv
    split at hv
    ·rename_i vs0 hvs0;injection hv with hv;subst hv;obtain⟨us,h1,h2⟩:=ihr hk0 hvs0;refine⟨tmps.getD n undef::us,?_,by simp[h2.1],λi x v hx' hv'=>?_⟩
     ·simp_all
     ·cases i with
      |zero=>simp at hx' hv';subst hx';subst hv';simpa [UL] using ht.2 n
      |succ i=>exact h2.2 i x v (by grind) (by grind)
    grind
   grind
  | cell ad ty =>
   simp only[xA]at h
   split at h
   ·rename_i k0 l hk0 hl;injection h with h;subst h;dsimp only at hv
    split at hv
    ·rename_i y hy
     split at hv
     ·rename_i vs0 hvs0;injection hv with hv;subst hv;obtain⟨us,h1,h2⟩:=ihr hk0 hvs0
      let o:Oper:={ (default:Oper) with op:=.load ty (.tmp ad) }
      have hlook:∀id∈bC C (.load ty (.tmp ad)) t g,hg id=g.h.get id:=by intro id hid;exact hx id λhn=>by grind[Gx]
      have hload:∃v,(do loadVar ty (<-asAddr (tmps.getD ad undef)):Sem Value).run C.P w=.ok v w/\RV w γ A bd y v:=by
       simp only[cx]at hl
       split at hl
       ·rename_i s ag n hs hag hn;injection hl with hl;subst hl;have:=FD (g:=g) (ty:=ty) (t:=t) hr (aF (a:={ tmps:=tmps,defers:=[] }) hs ht hr) hag hn (λid hid=>hlook id (by simp_all[bC,aP,ae]));have hy:mz ag n s.run t g=.val y:=hy;rw[hy]at this;obtain⟨v,h1,h2⟩:=this;refine⟨v,?_,h2⟩;have h1:(Instr.loadAt ty (tmps.getD ad undef)).run C.P w=.ok v w:=h1
        grind[Instr.loadAt,FC]
       grind
      obtain⟨v,h3,h4⟩:=hload;refine⟨v::us,?_,by simp[h2.1],λi x v' hx' hv'=>?_⟩
      ·grind[T0,UT,TN]
      ·cases i with
       |zero=>grind
       |succ i=>exact h2.2 i x v' (by grind) (by grind)
     grind
    grind
   grind
theorem Hy:∀(vs:List AV) (i:Nat) (t:T) (s:Nat),(cy i vs t).get AV.undef s=if i<=s/\s<i+vs.length then vs.getD (s - i) AV.undef else t.get AV.undef s:=by
 intro vs
 induction vs with
 |nil=>simp_all[cy,TF]
 | cons v vs ihv =>
  intro i t s;simp only[cy];rw[ihv,sp_get]
  grind
theorem N4{nt:Nat}{as:List AV}{vs:List Value}(hv:RVs w γ A bd as vs)(hn:as.length<=nt) :
  TR w γ A bd nt (cy 0 as .nil) (vs.toArray++Array.replicate (nt - vs.toArray.size) undef):=by
 have hl:=hv.1;refine⟨by grind,λs=>?_⟩;rw[Hy]
 by_cases hs:s<as.length
 ·rw[TE (by omega)];have h1:as[s]?=some (as[s]):=Tn hs;have h2:vs[s]?=some (vs[s]'(by omega)):=(by grind);have:=hv.2 s _ _ h1 h2;have e1:as.getD (s - 0) AV.undef=as[s]:=by grind
  have e2:(vs.toArray++Array.replicate (nt - vs.toArray.size) undef).getD s undef=vs[s]'(by omega):=by rw[UL,Array.getElem?_append_left (by grind)];simp[h2]
  grind
 ·rw[TF (by omega),Rd];have e2:(vs.toArray++Array.replicate (nt - vs.toArray.size) undef).getD s undef=undef:=by
   rw[UL,Array.getElem?_append_right (by grind),Array.getElem?_replicate]
   grind
  grind[dH]
theorem Gd{P:Program}{fn:Func}{tmps:Array Value}{us:List Value}
  (h:(fn.results.toList.mapM (fun|.tmp t=>pure (tmps.getD t undef)|.cell a t=>do loadVar t (<-asAddr (tmps.getD a undef))):Sem (List Value)).run P w=.ok us w) :
  ∃u,(results fn tmps).run P w=.ok u w/\∀{xs:List AV},RVs w γ A bd xs us->RV w γ A bd (jB xs) u:=by
 have hm:(fn.results.mapM (fun|.tmp t=>pure (tmps.getD t undef)|.cell a t=>do loadVar t (<-asAddr (tmps.getD a undef))):Sem (Array Value)).run P w=.ok us.toArray w:=by simp_all[Array.mapM_eq_mapM_toList]
 refine⟨if hs:us.toArray.size=1 then us.toArray[0] else .tuple us.toArray,?_,?_⟩
 ·unfold results;simp only[T0];have hm':=hm;generalize hq:(fn.results.mapM (fun|.tmp t=>pure (tmps.getD t undef)|.cell a t=>do loadVar t (<-asAddr (tmps.getD a undef))):Sem (Array Value))=q at hm';simp_all
 ·intro xs hv;have hl:=hv.1;have tup:RV w γ A bd (.tup xs) (.tuple us.toArray):=.tup _ _ _ (by omega) λi x v h1 h2=>hv.2 i x v h1 (by grind);cases us with
  | nil =>
   have:xs=[]:=List.length_eq_zero_iff.1 hl;subst this;exact tup
  | cons u us =>
   cases us with
   | nil =>
    cases xs with
    |nil=>grind
    | cons x xs =>
     have:xs=[]:=List.length_eq_zero_iff.1 (by grind);subst this;exact hv.2 0 x u rfl rfl
   | cons u' us =>
    rw[dif_neg (by simp)];cases xs with
    |nil=>grind
    | cons x xs =>
     cases xs with
     |nil=>grind
     |cons x' xs=>exact tup
theorem N_(hC:CfgOk C)(hi:IHOk C ih){f:Nat}{x:Stg (IH->Nat->List AV->G->FR)}(hx:cFn C f=some x){as:List AV}{v:AV}{g':G}
  (h:x.run ih (bd+1) as g=.ok v g'):Enters C.P f/\Ia C bd f as g v g':=by
 unfold cFn at hx
 split at hx
 ·cases hx
 rename_i fn hfn
 split at hx
 ·cases hx
 rename_i c hbody
 split at hx
 rotate_left
 ·cases hx
 rename_i r hres;rw[aa]at hx
 split at hx
 ·cases hx
 rename_i hname;injection hx with hx;subst hx;refine⟨λargs w=>?_,?_⟩
 ·simp_all[callFunc]
 intro A w γ hg nx vs hr hex hwf hf hv K cs hcalm;dsimp only at h;rw[aa]at h
 split at h
 rotate_left
 ·cases h
 rename_i hle;rw[T8,ax]at hle
 let b:Frame:={ (default:Frame) with fn:=f,kind:=K,roundOf:=none }
 let a0:Act:={ tmps:=vs.toArray++Array.replicate (fn.ntmps - vs.toArray.size) undef,defers:=[] }
 have henter:Frame.enter C.P f vs.toArray K=b.atR a0 [.code c]:=by
  grind[Frame.enter,Frame.atR]
 have key:∀{e:Ex} {t1:T} {df:List ADf} {g1:G},(aX C fn.ntmps c).run ih (bd+1) none (cy 0 as .nil) [] g=.ok e t1 df g1->(∀j,e≠.exit j)->gW ih (bd+1) r.run t1 df g1=.ok v g' ->
   ∃u w' γ' hg',Fin C A bd w γ hg nx g w' γ' hg' g'/\RV w' γ' A bd v u/\Outs C.P K f vs.toArray cs w u w':=by
  intro e t1 df g1 hc hne hend;have m1:=mN hC.mon hi.mon _ hc hwf;have wf1:=m1.wf hwf;unfold gW at hend
  split at hend
  ·grind
  rename_i g2 h2;have m2:=uh hi.mon h2 wf1
  split at hend
  rotate_left
  ·grind
  rename_i xs hxs;injection hend with h1 h2';subst h2';subst h1;obtain⟨a1,w1,γ1,hg1,f1,tr1,dr1,ar1⟩:=Cm hC hi c hc A w γ hg nx b a0 [] cs hr hex hwf (hf.le m2.nx) (N4 hv hle) trivial rfl hcalm;have hret:∃fr:Frame,Steps C.P (lone (Frame.enter C.P f vs.toArray K) cs w) (lone fr cs w1)/\fr.mode=.returning/\fr.defers=a1.defers/\fr.kind=K/\fr.fn=f/\fr.tmps=a1.tmps:=by
   rw[henter];cases e with
   |norm=>exact⟨{ b.atR a1 [] with mode:=.returning },Steps.trans ar1 (.one (stepR_end rfl)),rfl,rfl,rfl,rfl,rfl⟩
   | ret =>
    obtain⟨k₁,ar1⟩:=ar1;exact⟨{ b.atR a1 (.code .ret::k₁) with mode:=.returning },Steps.trans ar1 (.one (stepR_ret rfl)),rfl,rfl,rfl,rfl,rfl⟩
   |exit j=>grind
  obtain⟨fr,st1,q1,q2,q3,q4,q5⟩:=hret;obtain⟨w2,γ2,hg2,f2,st2⟩:=KL hi h2 wf1 (fr:=fr) (cs:=cs) f1.rel (f1.ext m1 hex) (f1.freed hr m1 hf) (by grind) q1;have f12:=f1.trans f2 m1 m2;obtain⟨us,hus,hrv⟩:=Ls hC (tr1.step f2.stp) f12.rel (f12.ext (m1.trans m2) hex) hres hxs;obtain⟨u,hu,hone⟩:=Gd (γ:=γ2) (A:=A) (bd:=bd) hus;exact⟨u,w2,γ2,hg2,f12,hone hrv,{ fr with defers:=[] },Steps.trans st1 st2,q1,rfl,q3,q4,fn,hfn,by
   grind⟩
 grind
theorem Nq(hC:CfgOk C):∀n,IHOk C (sem C n):=by
 intro n
 induction n with
 |zero=>exact⟨Jj hC.mon 0,λbd f as g v g' h=>(by cases h),λbd nt rd c t df g e t' df' g' h=>(by cases h)⟩
 | succ n ihn =>
  refine⟨Jj hC.mon (n+1),λbd f as g v g' h=>?_,λbd nt rd c t df g e t' df' g' h=>Cm hC ihn c h⟩;change eP C (sem C n) (bd+1) f as g=.ok v g' at h
  grind[eP,N_]
end
end Hx
end
section
namespace Hx
open Go Go.RowKit
def gm0:Gm:=λ_=>⟨0,0,0,0,0,0,0,false⟩
def av0:Nat->Nat->Prop:=λ_ _=>False
theorem QH(b:Nat):¬Mut gm0 b:=by rintro⟨id,h,_⟩;exact h rfl
abbrev RV0 (w:World)(x:AV)(v:Value):Prop:=RV w gm0 av0 0 x v
abbrev RVs0 (w:World)(xs:List AV)(vs:List Value):Prop:=RVs w gm0 av0 0 xs vs
theorem CB:G.empty.h.get=λ_=>AObj.none:=by funext id;simp[G.empty,H.get,Rd]
theorem Dw{C:Cfg}(hC:CfgOk C){n f:Nat}{as:List AV}{v:AV}{g':G}(h:(sem C n).call 1 f as G.empty=.ok v g'){w:World}{vs:List Value}(hargs:RVs0 w as vs)
  (hglob:∀gl sz rows,C.glob gl=some (sz,rows)->RV0 w (.tptr 0 sz rows 0 0) (.pointer (some ⟨gl,0,none⟩))) :
  Calls C.P f vs.toArray w λe w'=>∃u γ' A',e=.returned u/\Below w.heap.size w w'/\RV w' γ' A' 0 v u:=by
 intro cs;have hok:=Nq hC n;obtain⟨_,hrun⟩:=hok.call 0 f as G.empty v g' h;have hr:Rel C av0 0 w gm0 (λ_=>.none) 0 :=
  ⟨λid=>rfl,λid h=>absurd rfl h,λi j h=>absurd rfl h,λid h=>absurd rfl h,λt b h=>h.elim,hglob⟩
 obtain⟨u,w',γ',hg',fin,rv,fr,st,q1,q2,q3,q4,fn,q5,q6⟩:=hrun av0 w gm0 _ 0 vs hr (λid h=>by simp_all[CB]) (λid _=>by rw[CB]) (λ_ _ _=>rfl) hargs .normal cs (.inl rfl);refine⟨.returned u,w',fr,⟨u,γ',av0,rfl,⟨fin.stp.os,fin.stp.tape,fin.stp.output,fin.stp.sz,λk hk=>fin.stp.fr k hk (QH k)⟩,rv⟩,st,q4,q1,q2,q3,fn,by grind,q6⟩
theorem Hm{C:Cfg}(hC:CfgOk C){n f:Nat}{as:List AV}{g':G}(h:(sem C n).call 1 f as G.empty=.ok (.bool true) g'){w:World}{vs:List Value}(hargs:RVs0 w as vs)
  (hglob:∀gl sz rows,C.glob gl=some (sz,rows)->RV0 w (.tptr 0 sz rows 0 0) (.pointer (some ⟨gl,0,none⟩))) :
  Calls C.P f vs.toArray w λe w'=>e=.returned (.bool true)/\Below w.heap.size w w' :=
 (Dw hC h hargs hglob).mono λe w' ⟨u,γ',A',he,hb,rv⟩=>by cases rv<;>grind
end Hx
end
section
namespace Hx
open Go Go.RowKit
theorem CfgOk.plain{P:Program}{iso:Nat->Bool}{glob:Nat->Option (Nat×List (List AV))}(hm:P.follows .mixedOrders=true)(hrf:P.follows .rangeFuncRecover=true) :
  CfgOk { P,iso,ext:=λ_=>none,glob } :=
 ⟨hm,hrf,λf e h=>(by cases h),(by grind),(by grind)⟩
theorem Rel.cfg{C C':Cfg}(h:C'.glob=C.glob){A:Nat->Nat->Prop}{bd:Nat}{w:World}{γ:Gm}{hg:Nat->AObj}{nx:Nat}(r:Rel C A bd w γ hg nx):Rel C' A bd w γ hg nx :=
 ⟨r.obj,r.lt,r.inj,r.av,r.ab,by grind[glob]⟩
theorem Fin.cfg{C C':Cfg}(h:C'.glob=C.glob){A:Nat->Nat->Prop}{bd:Nat}{w w':World}{γ γ':Gm}{hg hg':Nat->AObj}{nx:Nat}{g g':G}(f:Fin C A bd w γ hg nx g w' γ' hg' g') :
  Fin C' A bd w γ hg nx g w' γ' hg' g':=⟨f.rel.cfg h,f.stp,f.new⟩
structure ExtOk (C:Cfg) (f:Nat) (e:Nat->List AV->G->OR):Prop where
 mon:∀d args g,WF g->Mon g (gOf g (e d args g))
 noDfr:∀d args g y,e d args g≠.dfr y
 run:∀A bd w γ hg nx g as vs,Rel C A bd w γ hg nx->WF g->(∀id∈as.flatMap (aC g.h aD),g.h.get id≠.none->hg id=g.h.get id)->Free γ g (gOf g (e (bd+1) as g)) ->
  RVs w γ A bd as vs->e (bd+1) as g≠.fail->∀cs,
  ∃u w' γ' hg',Fin C A bd w γ hg nx g w' γ' hg' (gOf g (e (bd+1) as g))/\RV w' γ' A bd (vOf (e (bd+1) as g)) u /\
   ((callFunc f vs.toArray).run C.P w=.ok (.value u) w'\/(Enters C.P f/\Outs C.P .normal f vs.toArray cs w u w'))
noncomputable def Cfg.add(C:Cfg)(f:Nat)(e:Nat->List AV->G->OR):Cfg:={ C with ext:=λk=>aA (Nat.beq k f) (some e) (C.ext k) }
theorem CfgOk.add{C:Cfg}(h:CfgOk C){f:Nat}{e:Nat->List AV->G->OR}(he:ExtOk C f e):CfgOk (C.add f e):=by
 have which:∀k e',(C.add f e).ext k=some e'->(k=f/\e'=e)\/C.ext k=some e':=by
  intro k e' hk;have hk:aA (Nat.beq k f) (some e) (C.ext k)=some e':=hk;rw[aa]at hk
  split at hk<;>simp_all
 refine⟨h.mixed,h.recov,λk e' hk d args g hwf=>?_,λk e' hk d args g y=>?_,λk e' hk A bd w γ hg nx g as vs hr hwf hx hf hv hne cs=>?_⟩
 ·rcases which k e' hk with⟨_,rfl⟩|hk
  ·exact he.mon d args g hwf
  ·exact h.mon k e' hk d args g hwf
 ·rcases which k e' hk with⟨_,rfl⟩|hk
  ·exact he.noDfr d args g y
  ·exact h.noDfr k e' hk d args g y
 ·rcases which k e' hk with⟨rfl,rfl⟩|hk
  ·obtain⟨u,w',γ',hg',fin,rv,out⟩:=he.run A bd w γ hg nx g as vs (Rel.cfg (C:=C.add k e') (C':=C) rfl hr) hwf hx hf hv hne cs;exact⟨u,w',γ',hg',Fin.cfg (C:=C) (C':=C.add k e') rfl fin,rv,out⟩
  ·obtain⟨u,w',γ',hg',fin,rv,out⟩:=h.ext k e' hk A bd w γ hg nx g as vs (Rel.cfg (C:=C.add f e) (C':=C) rfl hr) hwf hx hf hv hne cs;exact⟨u,w',γ',hg',Fin.cfg (C:=C) (C':=C.add f e) rfl fin,rv,out⟩
noncomputable def xL(v:AV):Nat->List AV->G->OR:=λd as _ =>
 match d with
 | 1=>match as with
  |[]=>.val v
  |_=>.fail
 |_=>.fail
theorem Fy{ih:IH}{d:Nat}{g g0:G}{f:Nat}{v:AV}(h:am ih d g0 f []=.val v):am ih d g f []=.val v:=by
 unfold am at h ⊢;simp only[aK]at h ⊢;cases hc:ih.call (Nat.succ d) f [] G.empty with
 |fail=>grind
 | ok r g' =>
  rw[hc]at h;dsimp only at h ⊢;cases hs:snap g'.h 0 aD r with
  |none=>grind
  | some r' =>
   rw[hs]at h;dsimp only at h ⊢;cases hm:eS aD r' with
   |none=>grind
   | some m =>
    rw[hm]at h;dsimp only at h ⊢;cases hb:Nat.blt m d with
    |true=>simp_all
    | false =>
     rw[hb]at h
     split at h
     ·cases h
     ·split at h
      ·cases h
      ·rename_i m' hm';cases hb':Nat.blt m' d<;>simp_all
theorem Cx{C:Cfg}(hC:CfgOk C){n f:Nat}{v:AV}(h:am (sem C n) 1 G.empty f []=.val v):ExtOk C f (xL v):=by
 have sh:∀d args g,xL v d args g=.fail\/(d=1/\args=[]/\xL v d args g=.val v):=by
  intro d args g;unfold xL
  grind
 refine⟨λd args g _=>?_,λd args g y hy=>?_,λA bd w γ hg nx g as vs hr hwf hx hf hv hne cs=>?_⟩
 ·rcases sh d args g with h|⟨_,_,h⟩<;>rw[h]<;>exact Mon.refl g
 ·grind
 ·rcases sh (bd+1) as g with h0|⟨h1,rfl,h0⟩
  ·grind
  ·have hbd:bd=0:=by omega
   subst hbd;have hc:=Fy (g:=g) h;rw[h0];have hok:=Nq hC n;obtain⟨he,u,w',γ',hg',fin,rv,out⟩:=yE (args:=[]) (f:=f) hok.call hok.mon.call hr hx hv (by rw[hc];simp) cs<;>grind
end Hx
end
section
namespace Hx
open Go
noncomputable section
def kR(J:PT)(b:Nat)(Q:QT):QT:=λe t df g=>match e with
 |.norm=>J t df g
 |.exit x=>if x=b then J t df g else Q (.exit x) t df g
 |.ret=>Q .ret t df g
theorem zt(J:PT)(b:Nat)(Q:QT)(t:T)(df:List ADf)(g:G):kR J b Q .norm t df g=J t df g:=rfl
theorem ox(J:PT)(b x:Nat)(Q:QT)(t:T)(df:List ADf)(g:G):kR J b Q (.exit x) t df g=if x=b then J t df g else Q (.exit x) t df g:=rfl
theorem Mv(J:PT)(b:Nat)(Q:QT)(t:T)(df:List ADf)(g:G):kR J b Q .ret t df g=Q .ret t df g:=rfl
variable {C:Cfg}{d:Nat}{rd:Option Nat}
theorem cR:∀(s:SC) {Q Q':QT} {t:T} {df:List ADf} {g:G},wp C d rd s Q t df g->(∀e t df g,Q e t df g->Q' e t df g)->wp C d rd s Q' t df g:=by
 have hO:∀(l:List SI) {Q Q':PT} {t:T} {df:List ADf} {g:G},wpO C d rd l Q t df g->(∀t df g,Q t df g->Q' t df g)->wpO C d rd l Q' t df g:=by
  intro l
  induction l with
  |nil=>intro Q Q' t df g h hq;exact hq _ _ _ h
  | cons i r ih =>
   intro Q Q' t df g h hq;have run:∀t df g,Gi C d rd i (wpO C d rd r Q) t df g->Gi C d rd i (wpO C d rd r Q') t df g:=λt df g h =>
    OR.sat_mono h (λv g' h=>ih h hq) (λa h=>ih h hq)
   have skp:∀t df g,Bg i (wpO C d rd r Q) t df g->Bg i (wpO C d rd r Q') t df g:=λt df g h=>ih h hq;unfold wpO at h ⊢
   split at h
   ·grind
   ·rename_i s w hg;unfold gdP at h ⊢
    split at h
    ·rw[aa]at h ⊢
     split at h
     ·rename_i hw;rw[TE hw];exact⟨λq=>run _ _ _ (h.1 q),λq=>skp _ _ _ (h.2 q)⟩
     ·rename_i hw;rw[TF hw];exact⟨λq=>skp _ _ _ (h.1 q),λq=>run _ _ _ (h.2 q)⟩
    all_goals grind
 have hF:∀(pm:List Nat) (l:List SI) {Q Q':PT} {t:T} {df:List ADf} {g:G} {fs:List Foot},wpF C d rd pm l Q t df g fs->(∀t df g,Q t df g->Q' t df g)->wpF C d rd pm l Q' t df g fs:=by
  intro pm l
  induction l with
  |nil=>intro Q Q' t df g fs h hq;exact⟨h.1,hq _ _ _ h.2⟩
  | cons i r ih =>
   intro Q Q' t df g fs h hq;have run:∀t df g,KM C d rd i (wpF C d rd pm r Q) fs t df g->KM C d rd i (wpF C d rd pm r Q') fs t df g:=λt df g h =>
    OR.sat_mono h (λv g' h=>ih h hq) (λa h=>h)
   have skp:∀t df g,Gq i (wpF C d rd pm r Q) fs t df g->Gq i (wpF C d rd pm r Q') fs t df g:=λt df g h=>ih h hq;unfold wpF at h ⊢
   split at h
   ·grind
   ·rename_i s w hg;unfold gdP at h ⊢
    split at h
    ·rw[aa]at h ⊢
     split at h
     ·rename_i hw;rw[TE hw];exact⟨λq=>run _ _ _ (h.1 q),λq=>skp _ _ _ (h.2 q)⟩
     ·rename_i hw;rw[TF hw];exact⟨λq=>skp _ _ _ (h.1 q),λq=>run _ _ _ (h.2 q)⟩
    all_goals grind
 intro s
 induction s with
 |skip=>intro Q Q' t df g h hq;exact hq _ _ _ _ h
 |ops l=>intro Q Q' t df g h hq;exact hO l h (hq _)
 |quiet l=>intro Q Q' t df g h hq;exact hO l h (λt df g' h=>⟨h.1,h.2.1,hq _ _ _ _ h.2.2⟩)
 |feet pm l=>intro Q Q' t df g h hq;exact hF pm l h (hq _)
 | seq a b iha ihb =>
  intro Q Q' t df g h hq;refine iha h λe t df g h=>?_;cases e with
  |norm=>exact ihb h hq
  |exit x=>exact hq _ _ _ _ h
  |ret=>exact hq _ _ _ _ h
 | cond c a b iha ihb =>
  intro Q Q' t df g h hq;have h:wpC (c.get t) (wp C d rd a Q) (wp C d rd b Q) t df g:=h;show wpC (c.get t) (wp C d rd a Q') (wp C d rd b Q') t df g;unfold wpC at h ⊢
  split at h
  ·exact⟨λq=>iha (h.1 q) hq,λq=>ihb (h.2 q) hq⟩
  omega
 | blk id b ih =>
  intro Q Q' t df g h hq;refine ih h λe t df g h=>?_;cases e with
  |norm=>exact hq _ _ _ _ h
  | exit x =>
   rw[kP]at h ⊢
   grind
  |ret=>exact hq _ _ _ _ h
 | loop b ih =>
  intro Q Q' t df g h hq;obtain⟨Inv,hk,hs⟩:=h;refine⟨Inv,hk,λk t df g hi=>ih (hs k t df g hi) λe t df g h=>?_⟩;cases e with
  |norm=>exact h
  |exit x=>exact hq _ _ _ _ h
  |ret=>exact hq _ _ _ _ h
 |exit id=>intro Q Q' t df g h hq;exact hq _ _ _ _ h
 |ret=>intro Q Q' t df g h hq;exact hq _ _ _ _ h
 |rng nt f ps a b _ _=>intro Q Q' t df g h hq assign body ha hb;exact CR.sat_mono (h assign body ha hb) hq
 |raw nt c=>intro Q Q' t df g h hq;exact CR.sat_mono h hq
theorem aq{body:SC}{c ti tn k B b:Nat}{Q:QT}{m:Nat}(hm:m<9223372036854775808)(J:Nat->PT){t:T}{df:List ADf}{g:G}
  (h0:J 0 t df g) (hi:tat t ti=.int .i64 0) (hn:tat t tn=.int .i64 (m:Int)) (hc:c≠ti/\c≠tn/\k≠tn/\ti≠tn/\b≠B)
  (hJ:∀j t df g v s,s=c\/s=ti\/s=k->J j t df g->J j (fQ t s v) df g)
  (step:∀j t df g,j<m->J j t df g->tat t ti=.int .i64 (j:Int)->tat t tn=.int .i64 (m:Int) ->
   wp C d rd body (kR (λt df g=>J (j+1) t df g/\tat t ti=.int .i64 (j:Int)/\tat t tn=.int .i64 (m:Int)) b Q) t df g)
  (fin:∀t df g,J m t df g->Q (.exit B) t df g) :
  wpL (wp C d rd (.seq (.ops [o c (.bin .lss (.t ti) (.t tn))]) (.seq (.cond (.t c) .skip (.exit B)) (.seq (.blk b body) (.ops [o k (.bin .add (.t ti) (.k (.int .i64 1))),o ti (.mv (.t k))]))))) Q t df g:=by
 obtain⟨c1,c2,c3,c4,c5⟩:=hc;refine qV (λn t df g=>∃j:Nat,n=m - j/\j<=m/\J j t df g/\tat t ti=.int .i64 (j:Int)/\tat t tn=.int .i64 (m:Int)) m (by grind) ?_;rintro n t df g ⟨j,rfl,hj,hjj,h1,h2⟩;simp only[sx,SO.run,↓reduceIte,h1,h2];refine⟨λhq=>?_,λhq=>?_⟩
 ·have hlt:j<m:=by grind
  simp only[sx];refine cR _ (step j _ df g hlt (by grind) (by simp_all[tT,UP]) (by simp_all[tT,UP])) λe t df g h=>?_;have key:J (j+1) t df g/\tat t ti=.int .i64 (j:Int)/\tat t tn=.int .i64 (m:Int)->wp C d rd (.ops [o k (.bin .add (.t ti) (.k (.int .i64 1))),o ti (.mv (.t k))])
    (kL (λn t df g=>∃j:Nat,n=m - j/\j<=m/\J j t df g/\tat t ti=.int .i64 (j:Int)/\tat t tn=.int .i64 (m:Int)) (m - j) Q) t df g:=by
   rintro⟨a1,a2,a3⟩;simp only[sx,SO.run,a2,↓reduceIte];refine⟨_,?_,j+1,rfl,by omega,(by grind),?_,?_⟩
   ·omega
   ·grind[au]
   grind
  cases e with
  |norm=>exact key h
  |ret=>exact h
  | exit x =>
   rw[ox]at h;rw[kP]
   split at h
   ·rename_i e;rw[TE e];exact key h
   ·rename_i e;rw[TF e];exact h
 ·have:j=m:=by grind
  simp_all[sx]
theorem Jw{Hd body inc:SC}{c B b:Nat}{Q:QT}{m:Nat}(J:Nat->PT){t:T}{df:List ADf}{g:G}(h0:J 0 t df g)
  (hd:∀j t df g,j<=m->J j t df g->wp C d rd Hd (λe t df g=>e=.norm/\tat t c=.bool (decide (j<m))/\J j t df g) t df g)
  (step:∀j t df g,j<m->J j t df g->wp C d rd body (kR (λt df g=>wp C d rd inc (λe t df g=>e=.norm/\J (j+1) t df g) t df g) b Q) t df g)
  (fin:∀t df g,J m t df g->Q (.exit B) t df g) :
  wpL (wp C d rd (.seq (.seq Hd (.cond (.t c) .skip (.exit B))) (.seq (.blk b body) inc))) Q t df g:=by
 refine qV (λn t df g=>∃j:Nat,n=m - j/\j<=m/\J j t df g) m (by grind) ?_;rintro n t df g ⟨j,rfl,hj,hjj⟩;simp only[dK];refine cR _ (hd j t df g hj hjj) ?_;rintro e t df g ⟨rfl,hq,hjj⟩;simp only[sx,hq];refine⟨λhq=>?_,λhq=>?_⟩
 ·have hlt:j<m:=by grind
  simp only[sx];refine cR _ (step j t df g hlt hjj) λe t df g h=>?_;have key:wp C d rd inc (λe t df g=>e=.norm/\J (j+1) t df g) t df g->wp C d rd inc (kL (λn t df g=>∃j:Nat,n=m - j/\j<=m/\J j t df g) (m - j) Q) t df g:=by intro h;refine cR _ h ?_;rintro e t df g ⟨rfl,h⟩;exact⟨_,by omega,j+1,rfl,by omega,h⟩
  cases e with
  |norm=>exact key h
  |ret=>exact h
  | exit x =>
   rw[ox]at h;rw[kP]
   split at h
   ·rename_i e;rw[TE e];exact key h
   ·rename_i e;rw[TF e];exact h
 ·have:j=m:=by grind
  simp_all[sx]
theorem O5{body:SC}{a b' e c ti sl x y B b:Nat}{Q:QT}{v:AV}{m:Nat}(hm:m<9223372036854775808)(hlen:∀g,dm .slice v g=.val (.int .i64 (m:Int)))(J:Nat->PT){t:T}{df:List ADf}{g:G}
  (h0:J 0 t df g) (hi:tat t ti=.int .i64 0) (hs:tat t sl=v)
  (hc:(a≠ti/\b'≠ti/\e≠ti/\c≠ti)/\(a≠sl/\b'≠sl/\e≠sl/\c≠sl/\x≠sl/\y≠sl/\ti≠sl)/\a≠b'/\a≠e/\x≠y)
  (hJ:∀j t df g v s,s=a\/s=b'\/s=e\/s=c\/s=ti\/s=x\/s=y->J j t df g->J j (fQ t s v) df g)
  (step:∀j t df g,j<m->J j t df g->tat t ti=.int .i64 (j:Int)->tat t sl=v ->
   wp C d rd body (kR (λt df g=>J (j+1) t df g/\tat t ti=.int .i64 (j:Int)/\tat t sl=v) b Q) t df g)
  (fin:∀t df g,J m t df g->tat t sl=v->Q (.exit B) t df g) :
  wpL (wp C d rd (.seq (.seq (.ops [o a (.mv (.t ti)),o b' (.mv (.t sl)),o e (.len .slice (.t b')),o c (.bin .lss (.t a) (.t e))]) (.cond (.t c) .skip (.exit B))) (.seq (.blk b body)
   (.ops [o x (.mv (.t ti)),o y (.bin .add (.t x) (.k (.int .i64 1))),o ti (.mv (.t y))])))) Q t df g:=by
 obtain⟨⟨q1,q2,q3,q4⟩,⟨r1,r2,r3,r4,r5,r6,r7⟩,p1,p2,p3⟩:=hc;refine Jw (m:=m) (λj t df g=>J j t df g/\tat t ti=.int .i64 (j:Int)/\tat t sl=v) ⟨h0,hi,hs⟩ ?_ ?_ (by grind)
 ·rintro j t df g hj ⟨h1,h2,h3⟩;simp only[sx,SO.run,h2,h3,hlen,p1,p2,UP r1,↓reduceIte,UP q1,UP q2,UP q3,UP q4,UP r2,UP r3,UP r4,true_and,and_true]
  grind
 ·rintro j t df g hj ⟨h1,h2,h3⟩;refine cR _ (step j t df g hj h1 h2 h3) λe t df g h=>?_;have key:J (j+1) t df g/\tat t ti=.int .i64 (j:Int)/\tat t sl=v->wp C d rd (.ops [o x (.mv (.t ti)),o y (.bin .add (.t x) (.k (.int .i64 1))),o ti (.mv (.t y))])
    (λe t df g=>e=.norm/\J (j+1) t df g/\tat t ti=.int .i64 ((j+1:Nat):Int)/\tat t sl=v) t df g:=by
   rintro⟨h1,h2,h3⟩;simp only[sx,SO.run,h2,↓reduceIte,UP r5,UP r6,UP r7,h3,true_and,and_true];refine⟨(by grind),?_⟩
   grind[au]
  cases e with
  |norm=>exact key h
  |ret=>exact h
  | exit x =>
   rw[ox]at h ⊢
   grind
theorem Bu{body:SC}{a c ti x y B b:Nat}{Q:QT}{m:Nat}(hm:m<9223372036854775808)(J:Nat->PT){t:T}{df:List ADf}{g:G}
  (h0:J m t df g) (hi:tat t ti=.int .i64 ((m:Int) - 1)) (hc:a≠ti/\c≠ti/\x≠ti)
  (hJ:∀j t df g v s,s=a\/s=c\/s=ti\/s=x\/s=y->J j t df g->J j (fQ t s v) df g)
  (step:∀j t df g,j<m->J (j+1) t df g->tat t ti=.int .i64 (j:Int)->wp C d rd body (kR (λt df g=>J j t df g/\tat t ti=.int .i64 (j:Int)) b Q) t df g)
  (fin:∀t df g,J 0 t df g->Q (.exit B) t df g) :
  wpL (wp C d rd (.seq (.seq (.ops [o a (.mv (.t ti)),o c (.bin .geq (.t a) (.k (.int .i64 0)))]) (.cond (.t c) .skip (.exit B))) (.seq (.blk b body)
   (.ops [o x (.mv (.t ti)),o y (.bin .sub (.t x) (.k (.int .i64 1))),o ti (.mv (.t y))])))) Q t df g:=by
 obtain⟨c1,c2,c3⟩:=hc;refine qV (λn t df g=>n<=m/\J n t df g/\tat t ti=.int .i64 ((n:Int) - 1)) m (by grind) ?_;rintro n t df g ⟨hn,hj,h1⟩;simp only[sx,SO.run,↓reduceIte,h1];refine⟨λhq=>?_,λhq=>?_⟩
 ·obtain⟨j,rfl⟩:∃j,n=j+1:=⟨n - 1,by grind⟩;simp only[sx];refine cR _ (step j _ df g (by omega) (by grind) (by simp_all[tT,UP])) λe t df g h=>?_;have key:J j t df g/\tat t ti=.int .i64 (j:Int)->wp C d rd (.ops [o x (.mv (.t ti)),o y (.bin .sub (.t x) (.k (.int .i64 1))),o ti (.mv (.t y))])
    (kL (λn t df g=>n<=m/\J n t df g/\tat t ti=.int .i64 ((n:Int) - 1)) (j+1) Q) t df g:=by
   rintro⟨a1,a2⟩;simp only[sx,SO.run,a2,↓reduceIte];refine⟨j,by omega,by omega,(by grind),?_⟩
   grind[au]
  cases e with
  |norm=>exact key h
  |ret=>exact h
  | exit x =>
   rw[ox]at h;rw[kP]
   split at h
   ·rename_i e;rw[TE e];exact key h
   ·rename_i e;rw[TF e];exact h
 ·have:n=0:=by grind
  subst this;simp only[sx]
  grind
theorem f_{Hd:List SI}{body:SC}{c ti x y B b:Nat}{Q:QT}(m:Nat)(hm:m<9223372036854775808)(J:Nat->PT){t:T}{df:List ADf}{g:G}
  (h0:J 0 t df g) (hi:tat t ti=.int .i64 0) (hx:x≠ti)
  (hJ:∀j t df g v s,s=ti\/s=x\/s=y->J j t df g->J j (fQ t s v) df g)
  (hd:∀j t df g,j<=m->J j t df g->tat t ti=.int .i64 (j:Int)->wpO C d rd Hd (λt df g=>tat t c=.bool (decide ((j:Int)<(m:Int)))/\J j t df g/\tat t ti=.int .i64 (j:Int)) t df g)
  (step:∀j t df g,j<m->J j t df g->tat t ti=.int .i64 (j:Int)->wp C d rd body (kR (λt df g=>J (j+1) t df g/\tat t ti=.int .i64 (j:Int)) b Q) t df g)
  (fin:∀t df g,J m t df g->Q (.exit B) t df g) :
  wpL (wp C d rd (.seq (.seq (.ops Hd) (.cond (.t c) .skip (.exit B))) (.seq (.blk b body)
   (.ops [o x (.mv (.t ti)),o y (.bin .add (.t x) (.k (.int .i64 1))),o ti (.mv (.t y))])))) Q t df g:=by
 refine Jw (m:=m) (λj t df g=>J j t df g/\tat t ti=.int .i64 (j:Int)) ⟨h0,hi⟩ ?_ ?_ (by grind)
 ·rintro j t df g hj ⟨h1,h2⟩;have:=hd j t df g hj h1 h2;refine cR (.ops Hd) (Q:=λe t df g=>e=.norm/\tat t c=.bool (decide ((j:Int)<(m:Int)))/\J j t df g/\tat t ti=.int .i64 (j:Int)) (by rw[Ez];simpa using this) ?_<;>grind
 ·rintro j t df g hj ⟨h1,h2⟩;refine cR _ (step j t df g hj h1 h2) λe t df g h=>?_;have key:J (j+1) t df g/\tat t ti=.int .i64 (j:Int)->wp C d rd (.ops [o x (.mv (.t ti)),o y (.bin .add (.t x) (.k (.int .i64 1))),o ti (.mv (.t y))])
    (λe t df g=>e=.norm/\J (j+1) t df g/\tat t ti=.int .i64 ((j+1:Nat):Int)) t df g:=by
   rintro⟨h1,h2⟩;simp only[sx,SO.run,h2,↓reduceIte,true_and];refine⟨(by grind),?_⟩
   grind[au]
  cases e with
  |norm=>exact key h
  |ret=>exact h
  | exit x =>
   rw[ox]at h ⊢
   grind
end
end Hx
end
section
namespace Hx
open Go
noncomputable section
def vid:AV->Option Nat
 |.hsl id _ _ _ _=>some id
 |_=>none
def Own(g:G)(b:Nat)(v:AV)(sz:Nat)(rows:List (List AV)):Prop :=
 (v=.nils/\rows=[])\/∃id ep lo,b<=id/\id<g.nx/\v=.hsl id ep 0 rows.length none/\g.h.get id=.cells sz rows ep lo false
theorem Own.rows{g:G}{b:Nat}{v:AV}{sz:Nat}{rows:List (List AV)}(h:Own g b v sz rows):ac g.h sz v=some rows:=by
 rcases h with⟨rfl,rfl⟩|⟨id,ep,lo,h1,h2,rfl,h3⟩
 ·rfl
 grind[kG,Ft]
theorem Own.fr{g g':G}{b:Nat}{v:AV}{sz:Nat}{rows:List (List AV)}(h:Own g b v sz rows)(hn:g.nx<=g'.nx)(hf:∀i,vid v=some i->g'.h.get i=g.h.get i):Own g' b v sz rows:=by
 rcases h with h|⟨id,ep,lo,h1,h2,rfl,h3⟩
 ·exact .inl h
 ·exact .inr ⟨id,ep,lo,h1,by omega,rfl,by rw[hf id rfl,h3]⟩
theorem Own.lt{g:G}{b:Nat}{v:AV}{sz:Nat}{rows:List (List AV)}(h:Own g b v sz rows){i:Nat}(hi:vid v=some i):b<=i/\i<g.nx:=by
 rcases h with⟨rfl,-⟩|⟨id,ep,lo,h1,h2,rfl,h3⟩
 ·cases hi
 ·injection hi with hi;omega
theorem Own.cell{g:G}{b:Nat}{v:AV}{sz:Nat}{rows:List (List AV)}(h:Own g b v sz rows):v.cells=[v]/\v.isTup=false:=by rcases h with⟨rfl,-⟩|⟨id,ep,lo,h1,h2,rfl,h3⟩<;>exact⟨rfl,rfl⟩
theorem aT{g:G}{b:Nat}{v x:AV}{sz bytes:Nat}{rows new:List (List AV)}{K:AV->G->Prop}{D:ADf->Prop}(hv:Own g b v sz rows)(hx:ac g.h sz x=some new)(hb:b<=g.nx)
  (hr:(rows.length+new.length)*bytes<=aQ)
  (k:∀v' g',Own g' b v' sz (rows++new)->g.nx<=g'.nx->(∀i,i<g.nx->vid v≠some i->g'.h.get i=g.h.get i)->(vid v'=vid v\/∃i,vid v'=some i/\g.nx<=i)->(∀i∈g'.lg,i∈g.lg\/b<=i)->K v' g') :
  (cC sz bytes v x g).sat K g D:=by
 unfold cC;rw[hx];dsimp only;rcases hv with⟨rfl,rfl⟩|⟨id,ep,lo,h1,h2,rfl,h3⟩
 ·cases new with
  |nil=>exact k _ _ (.inl ⟨rfl,rfl⟩) (Tp _) (λ_ _ _=>rfl) (.inl rfl) (by grind)
  | cons r new =>
   simp only[bp,ax,aa,T8];rw[TE (by grind)];refine k _ _ (.inr ⟨g.nx,0,true,hb,by simp,rfl,by simp[aU]⟩) (by simp) (λi hi _=>?_) (.inr ⟨g.nx,rfl,Tp _⟩) (λi hi=>by simp at hi;grind)
   grind[G.new_h,ah]
 ·simp only[bp,G.get_eq,h3,ax,aa,show Nat.beq ep ep=true from Uq ep,show Nat.beq sz sz=true from Uq sz,Up,T8,Ts,T6,Vn,Vw];rw[TE ⟨Tp _,hr⟩];cases new with
  | nil =>
   rw[TE (by simp)];refine k _ _ (.inr ⟨id,ep,lo,h1,h2,by simp,by grind⟩) (Tp _) (λ_ _ _=>rfl) (.inl rfl) (by grind)
  | cons r new =>
   rw[TF (by simp)];have ht:jO rows.length (i_ 0 rows)=rows:=by grind[a_,bj]
   cases lo with
   | false =>
    rw[TE (by simp)];refine k _ _ (.inr ⟨g.nx,0,true,by omega,by simp,by simp,by simp_all[aU]⟩) (by simp) (λi hi _=>?_) (.inr ⟨g.nx,rfl,Tp _⟩) (λi hi=>by simp at hi;grind)
    grind[G.new_h,ah]
   | true =>
    rw[TF (by simp)];refine k _ _ (.inr ⟨id,ep+1,true,h1,by simp_all,by simp,by simp_all[aU]⟩) (by simp) (λi hi hne=>?_) (.inl rfl) (λi hi=>by simp at hi;grind);rw[G.put_h,ah _ _ _ (λe=>hne (by rw[e];rfl))]
def Fr(g g':G):Prop:=g.nx<=g'.nx/\∀i,i<g.nx->g'.h.get i=g.h.get i
theorem Fr.refl(g:G):Fr g g:=⟨Tp _,λ_ _=>rfl⟩
theorem Fr.trans{g g' g'':G}(h:Fr g g')(h':Fr g' g''):Fr g g'':=⟨TU h.1 h'.1,λi hi=>by rw[h'.2 i (TX hi h.1),h.2 i hi]⟩
theorem Fr.new(g:G)(o:AObj):Fr g (g.new o):=⟨by simp,λi hi=>by grind[G.new_h,ah]⟩
theorem Own.step{g g':G}{b:Nat}{v:AV}{sz:Nat}{rows:List (List AV)}(h:Own g b v sz rows)(f:Fr g g'):Own g' b v sz rows :=
 h.fr f.1 λi hi=>f.2 i (h.lt hi).2
theorem bw{g:G}{b:Nat}{v:AV}{sz n i off:Nat}{rows:List (List AV)}{row row':List AV}{x:AV}{K:AV->G->Prop}{D:ADf->Prop}(hv:Own g b v sz rows)(hr:rows[i]?=some row)
  (hl:x.cells.length=n) (ht:x.isTup=false) (hp:cL row off x.cells=some row')
  (k:∀g',Own g' b v sz (rows.set i row')->g'.nx=g.nx->(∀i,vid v≠some i->g'.h.get i=g.h.get i)->K .undef g'):(qQ n (nX sz v i off) x g).sat K g D:=by
 rcases hv with⟨rfl,rfl⟩|⟨id,ep,lo,h1,h2,rfl,h3⟩
 ·grind
 ·simp only[nX,T6];rw[Bj h3 hr rfl ht hl hp];refine k _ (.inr ⟨id,ep,lo,h1,by simp_all,by simp,by simp[aU]⟩) (by simp) (λi hne=>?_);rw[G.put_h,ah _ _ _ (λe=>hne (by rw[e];rfl))]
theorem jA{g:G}{b sz bytes:Nat}{zero:List AV}{k1 k2:IntKind}{n:Nat}{K:AV->G->Prop}{D:ADf->Prop}(hn:n<=aQ)(hb:n*bytes<=aQ)(hg:b<=g.nx)
  (k:∀v' g',Own g' b v' sz (List.replicate n zero)->g'.nx=g.nx+1->(∀i,i<g.nx->g'.h.get i=g.h.get i)->vid v'=some g.nx->K v' g') :
  (Ko sz bytes zero (.int k1 (n:Int)) (.int k2 (n:Int)) g).sat K g D:=by
 show (match dA aQ (.int k2 (.ofNat n)) with
  | some cn=>match dA cn (.int k1 (.ofNat n)) with
   |some ln=>aA (Nat.ble (cn*bytes) aQ) (OR.upd (.hsl g.nx 0 0 ln none) (g.new (We sz (ie cn zero)))) .fail
   |none=>.fail
  |none=>.fail).sat K g D
 simp only[dA,aa,T8,TE hn,Tp,TE hb,if_true];refine k _ _ (.inr ⟨g.nx,0,false,hg,by simp,by simp,by simp[aU,ie]⟩) (by simp) (λi hi=>?_) rfl
 grind[G.new_h,ah]
theorem Own.sl{α:Type} [Rp α]{g:G}{b:Nat}{v:AV}{rows:List (List AV)}{l:List α}{P:Nat->Prop}{k:Nat}(h:Own g b v (Rp.sz α) rows)(hl:l.length<9223372036854775808)(hr:All2 (Rp.rp P k g.h) l rows)
  (hp:∀i,vid v=some i->P i):SlR P k g.h l v:=by
 refine⟨hl,?_⟩;have hrow:=h.rows;rcases h with⟨rfl,rfl⟩|⟨id,ep,lo,h1,h2,rfl,h3⟩
 ·exact T5 hr.len
 ·exact⟨hp id rfl,rows,hrow,hr⟩
theorem Own.ints{g:G}{b:Nat}{v:AV}{l:List Int}{k:Nat}(h:Own g b v 1 (l.map ci))(hl:l.length<9223372036854775808):One l (λ_=>True) k g.h v :=
 ⟨v,rfl,Own.sl (α:=Int) h hl (Q5 (λa=>aB.2 rfl) l) λ_ _=>trivial⟩
theorem bH{x:OR}{Q:AV->Prop}{K:AV->G->Prop}{g:G}{D:ADf->Prop}(h:∃r,x=.val r/\Q r)(k:∀r,Q r->K r g):x.sat K g D:=by obtain⟨r,rfl,hr⟩:=h;exact k r hr
section feet
variable {C:Cfg}{d:Nat}{rd:Option Nat}{pm:List Nat}
theorem Jv(Q:PT)(t:T)(df:List ADf)(g:G)(fs:List Foot):wpF C d rd pm [] Q t df g fs=(mE pm fs.reverse=true/\Q t df g):=rfl
theorem PD(n:Nat)(op:SO)(r:List SI)(Q:PT)(t:T)(df:List ADf)(g:G)(fs:List Foot):wpF C d rd pm (o n op::r) Q t df g fs =
  (op.run C d rd t (aO g [])).sat (kF (wpF C d rd pm r Q) (some n) t df g.lg fs (op.foot C t g)) (aO g []) (λ_=>False):=rfl
theorem NS(op:SO)(r:List SI)(Q:PT)(t:T)(df:List ADf)(g:G)(fs:List Foot):wpF C d rd pm (oz op::r) Q t df g fs =
  (op.run C d rd t (aO g [])).sat (kF (wpF C d rd pm r Q) none t df g.lg fs (op.foot C t g)) (aO g []) (λ_=>False):=rfl
theorem NQ(n s:Nat)(w:Bool)(op:SO)(r:List SI)(Q:PT)(t:T)(df:List ADf)(g:G)(fs:List Foot) :
  wpF C d rd pm (og n s w op::r) Q t df g fs=gdP (tat t s) w (KM C d rd (o n op) (wpF C d rd pm r Q) fs) (Gq (o n op) (wpF C d rd pm r Q) fs) t df g:=rfl
theorem Nm(n:Nat)(op:SO)(W:FT)(fs:List Foot)(t:T)(df:List ADf)(g:G):KM C d rd (o n op) W fs t df g =
  (op.run C d rd t (aO g [])).sat (kF W (some n) t df g.lg fs (op.foot C t g)) (aO g []) (λ_=>False):=rfl
theorem Jl(n:Nat)(op:SO)(W:FT)(fs:List Foot)(t:T)(df:List ADf)(g:G):Gq (o n op) W fs t df g=W (fQ t n .undef) df g (⟨aw,[]⟩::fs):=rfl
theorem IL(W:FT)(n:Nat)(t:T)(df:List ADf)(lg:List Nat)(fs:List Foot)(lk:Looks)(v:AV)(g:G):kF W (some n) t df lg fs lk v g=W (fQ t n v) df (im g (g.lg++lg)) (⟨lk,g.lg⟩::fs):=rfl
theorem IK(W:FT)(t:T)(df:List ADf)(lg:List Nat)(fs:List Foot)(lk:Looks)(v:AV)(g:G):kF W none t df lg fs lk v g=W t df (im g (g.lg++lg)) (⟨lk,g.lg⟩::fs):=rfl
theorem eE{sz:Nat}{v:AV}{i off:Nat}(h:rR v=true):ak (nX sz v i off)=ak v:=by cases v<;>first|rfl|cases h
theorem dD(id ep i off:Nat):ak (.hptr id ep i off)=[id]:=rfl
theorem SlR.refs{α:Type} [Rp α]{k:Nat}{h:H}{l:List α}{v:AV}(r:SlR NoP k h l v):ak v=[]:=by
 have r:=r.2;unfold SlV at r
 split at r<;>first|rfl|exact r.1.elim|grind
theorem Nh{α:Type} [Rp α]{k:Nat}{h:H}{x:α}{cs:List AV}(r:Rp.rp NoP k h x cs)(n:Nat):cs.flatMap (aC h n)=[]:=by rw[List.eq_nil_iff_forall_not_mem];exact λi hi=>Rp.ids r i hi
theorem Do{α:Type} [Rp α]{k:Nat}{h:H}{x:α}{cs:List AV}(r:Rp.rp NoP k h x cs):aC h aD (.agg cs)=[]:=Nh r 23
theorem Nw{α:Type} [Rp α]{k:Nat}{h:H}{l:List α}{v:AV}(r:SlR NoP k h l v):aC h aD v=[]:=by
 have:=Nh (show Rp.rp NoP k h l [v] from ⟨v,rfl,r⟩) aD
 grind
theorem IG(h:H)(k:IntKind)(x:Int):aC h aD (.int k x)=[]:=rfl
end feet
section looks
variable {C:Cfg}{t:T}{g:G}
theorem Pi(x:Od):SO.foot C t g (.mv x)=aw:=rfl
theorem Iz(c a b:Od):SO.foot C t g (.pick c a b)=aw:=rfl
theorem Fm(cs:List AV):SO.foot C t g (.alloc cs)=aw:=rfl
theorem LZ(x:Od):SO.foot C t g (.box x)=aw:=rfl
theorem Fn(z:List AV)(pl:List (Nat×Nat))(vs:List Od):SO.foot C t g (.build z pl vs)=aw:=rfl
theorem L3(sz len:Nat)(z:List AV)(is:List Nat)(vs:List Od):SO.foot C t g (.bsl sz len z is vs)=aw:=rfl
theorem Ix(ag:Bool)(n:Nat)(a:Od):SO.foot C t g (.load ag n a)=ae (ak (a.get t)):=rfl
theorem Fo(n:Nat)(a x:Od):SO.foot C t g (.store n a x)=ae (ak (a.get t)):=rfl
theorem Iy(x:Od):SO.foot C t g (.nilc x)=aw:=rfl
theorem LY(op:BinOp)(x y:Od):SO.foot C t g (.bin op x y)=aw:=rfl
theorem Pf(ng:Bool)(ek:EqKind)(x y:Od):SO.foot C t g (.eq ng ek x y)=aw:=rfl
theorem Mc(x:Od):SO.foot C t g (.not x)=aw:=rfl
theorem Iw(k:IntKind)(x:Od):SO.foot C t g (.conv k x)=aw:=rfl
theorem Ma(f:Nat)(a c:List Od):SO.foot C t g (.mkf f a c)=aw:=rfl
theorem Mb(sz bt:Nat)(z:List AV)(l c:Od):SO.foot C t g (.mks sz bt z l c)=aw:=rfl
theorem Md(sz:Nat)(x:Od)(lo hi:List Od):SO.foot C t g (.slc sz x lo hi)=ae (ak (x.get t)):=rfl
theorem L6(fo:Nat)(x:Od):SO.foot C t g (.fad fo x)=aw:=rfl
theorem L7(ag:Bool)(n fo:Nat)(x:Od):SO.foot C t g (.fld ag n fo x)=aw:=rfl
theorem L9(sz:Nat)(x i:Od):SO.foot C t g (.ixs sz x i)=ae (ak (x.get t)):=rfl
theorem L8(n sz:Nat)(x i:Od):SO.foot C t g (.ixa n sz x i)=aw:=rfl
theorem Pg(ag:Bool)(n sz:Nat)(x i:Od):SO.foot C t g (.ix ag n sz x i)=aw:=rfl
theorem L5(x:Od)(i:Nat):SO.foot C t g (.ext x i)=aw:=rfl
theorem L_(x:Od):SO.foot C t g (.len .slice x)=aw:=rfl
theorem LW(sz bt:Nat)(x y:Od):SO.foot C t g (.app sz bt x y)=ae (ak (x.get t)++ak (y.get t)):=rfl
theorem L4(sz:Nat)(x y:Od):SO.foot C t g (.cpy sz x y)=ae (ak (x.get t)++ak (y.get t)):=rfl
theorem Pj(x y:Od):SO.foot C t g (.mx x y)=ae (ak (x.get t)++ak (y.get t)):=rfl
theorem Ph(x y:Od):SO.foot C t g (.mn x y)=ae (ak (x.get t)++ak (y.get t)):=rfl
end looks
theorem sf:type_of% (To @Pi <|To @Iz <|To @Fm <|To @LZ <|To @Fn <|To @L3 <|To @Ix <|To @Fo <|To @Iy <|To @LY <|To @Pf <|To @Mc <|To @Iw <|To @Ma <|To @Mb <|To @Md <|To @L6 <|To @L7 <|To @L9 <|To @L8 <|To @Pg <|To @L5 <|To @L_ <|To @LW <|To @L4 <|To @Pj <|@Ph) :=
 To @Pi <|To @Iz <|To @Fm <|To @LZ <|To @Fn <|To @L3 <|To @Ix <|To @Fo <|To @Iy <|To @LY <|To @Pf <|To @Mc <|To @Iw <|To @Ma <|To @Mb <|To @Md <|To @L6 <|To @L7 <|To @L9 <|To @L8 <|To @Pg <|To @L5 <|To @L_ <|To @LW <|To @L4 <|To @Pj <|@Ph
theorem Cu(k:IntKind)(x:Int):(AV.int k x).cells=[.int k x]:=rfl
theorem zX(x:Bool):(AV.bool x).cells=[.bool x]:=rfl
theorem Cq(cs:List AV):(AV.agg cs).cells=cs:=rfl
theorem zY:AV.nils.cells=[.nils]:=rfl
theorem CN(k:IntKind)(x:Int):(AV.int k x).isTup=false:=rfl
theorem AD(x:Bool):(AV.bool x).isTup=false:=rfl
theorem CL(cs:List AV):(AV.agg cs).isTup=false:=rfl
theorem AE:AV.nils.isTup=false:=rfl
theorem Cs(id ep off len:Nat)(lim:Option Nat):(AV.hsl id ep off len lim).cells=[.hsl id ep off len lim]:=rfl
theorem CM(id ep off len:Nat)(lim:Option Nat):(AV.hsl id ep off len lim).isTup=false:=rfl
theorem Cv(t s:Nat)(rows:List (List AV)):(AV.tsl t s rows).cells=[.tsl t s rows]:=rfl
theorem CO(t s:Nat)(rows:List (List AV)):(AV.tsl t s rows).isTup=false:=rfl
theorem GX(x:AV)(g:G)(h:x.isTup=false):Lo x g=.upd (.hptr g.nx 0 0 0) (g.new (We x.cells.length [x.cells])):=by simp_all[Lo,ax]
theorem Io(sz:Nat)(zero:List AV)(g:G):BA sz 0 zero [] [] g=.upd (.hsl g.nx 0 0 0 none) (g.new (We sz [])):=rfl
theorem mC(sz:Nat)(zero:List AV)(v:AV)(g:G)(hl:v.cells.length=sz)(ht:v.isTup=false) :
  BA sz 1 zero [0] [v] g=.upd (.hsl g.nx 0 0 1 none) (g.new (We sz [v.cells])):=by
 subst hl;have:Nat.beq (bL v.cells) v.cells.length=true:=by grind[ax,Uq]
 have h2:dy v.cells.length [zero] [(0,v)]=some [v.cells]:=by simp_all[dy,aa,ax,f8]
 show (match dy v.cells.length [zero] [(0,v)] with|some rows=>OR.upd (.hsl g.nx 0 0 1 none) (g.new (We v.cells.length rows))|none=>.fail)=_;rw[h2]
theorem cT(row:List AV)(off:Nat)(cs:List AV):cL row off cs=if off+cs.length<=row.length then some (row.take off++(cs++row.drop (off+cs.length))) else none:=by
 simp only[cL,ax,aa,T8,f8,a_,bj]
 split
 ·rename_i h
  split
  ·rename_i c;simp only[List.length_singleton]at h;rw[List.set_eq_take_append_cons_drop,TE (by omega)];rfl
  ·rfl
 ·rfl
theorem Pc(a:AV)(l:List AV):LI (.tup (a::l)) 0=.val a:=rfl
theorem Pd(a b:AV)(l:List AV):LI (.tup (a::b::l)) 1=.val b:=rfl
theorem Pe(a b c:AV)(l:List AV):LI (.tup (a::b::c::l)) 2=.val c:=rfl
theorem LU(ag:Bool)(n fo:Nat)(cs:List AV):P5 ag n fo (.agg cs)=orV (ch ag n cs fo):=rfl
theorem CU{n:Nat}{row:List AV}{off:Nat}:ch true (n+1) row off=if off+(n+1)<=row.length then some (.agg ((row.drop off).take (n+1))) else none:=by
 split
 ·grind[M1]
 ·rename_i h;simp only[ch,a_,bj,ax,Un,VT,aa];rw[TF]
  grind[UX]
theorem EM(zero:List AV)(pl:List (Nat×Nat))(vs:List AV):u9 zero pl vs=match jN zero (pl.zip vs) with|some cs=>.val (.agg cs)|none=>.fail:=rfl
theorem CD(cs:List AV):jN cs []=some cs:=rfl
theorem At(cs:List AV)(off size:Nat)(v:AV)(rest:List ((Nat×Nat)×AV))(hl:v.cells.length=size)(ht:v.isTup=false) :
  jN cs (((off,size),v)::rest)=match cL cs off v.cells with|some cs=>jN cs rest|none=>none:=by
 subst hl;have:Nat.beq (bL v.cells) v.cells.length=true:=by grind[ax,Uq]
 simp only[jN,this,ht,notb_eq,T9,Vx]
 rfl
theorem Nb(ag:Bool)(n a:Nat)(r:List SR)(t:T)(g:G)(K:List AV->Prop):xZ (.cell ag n a::r) t g K=match oy ag n (tat t a) g with|.val v=>xZ r t g λvs=>K (v::vs)|_=>False:=rfl
theorem w7(a b:AV)(l:List AV):jB (a::b::l)=.tup (a::b::l):=rfl
theorem sy:type_of% (To @EM <|To @CD <|To @At <|To @Nb <|To @Vl.{0,0} <|To @List.zip_nil_left.{0,0} <|To @Jv <|To @PD <|To @NS <|To @NQ <|To @Nm <|To @Jl <|To @IL <|To @IK <|To @bumpG_h <|To @bumpG_nx <|To @bumpG_lg <|To @true_and <|To @and_true <|To @zt <|To @ox <|To @Mv <|To @setLog_h <|To @setLog_nx <|To @setLog_lg <|To @Po <|To @Cu <|To @zX <|To @Cq <|To @zY <|To @CN <|To @AD <|To @CL <|To @AE <|
 To @Cs <|To @CM <|To @Cv <|To @CO <|To @GX <|To @Io <|To @mC <|To @cT <|To @Pc <|To @Pd <|To @Pe <|
 To @LU <|To @CU <|To @w7 <|To @l5 <|To @ax <|To @Ud.{0} <|To @Vi.{0} <|To @List.take_succ_cons.{0} <|
 To @Wc.{0} <|To @VQ.{0} <|To @VD.{0} <|To @TJ.{0} <|To @TL.{0} <|To @TZ.{0} <|To @Va.{0} <|To @VY.{0} <|
 To @T6 <|To @Q_ <|To @kG <|To @eT <|To @yL <|@qN) :=
 To @EM <|To @CD <|To @At <|To @Nb <|To @Vl.{0,0} <|To @List.zip_nil_left.{0,0} <|To @Jv <|To @PD <|To @NS <|To @NQ <|To @Nm <|To @Jl <|To @IL <|To @IK <|To @bumpG_h <|To @bumpG_nx <|To @bumpG_lg <|To @true_and <|To @and_true <|To @zt <|To @ox <|To @Mv <|To @setLog_h <|To @setLog_nx <|To @setLog_lg <|To @Po <|To @Cu <|To @zX <|To @Cq <|To @zY <|To @CN <|To @AD <|To @CL <|To @AE <|
 To @Cs <|To @CM <|To @Cv <|To @CO <|To @GX <|To @Io <|To @mC <|To @cT <|To @Pc <|To @Pd <|To @Pe <|
 To @LU <|To @CU <|To @w7 <|To @l5 <|To @ax <|To @Ud.{0} <|To @Vi.{0} <|To @List.take_succ_cons.{0} <|
 To @Wc.{0} <|To @VQ.{0} <|To @VD.{0} <|To @TJ.{0} <|To @TL.{0} <|To @TZ.{0} <|To @Va.{0} <|To @VY.{0} <|
 To @T6 <|To @Q_ <|To @kG <|To @eT <|To @yL <|@qN
end
end Hx
end
section
namespace Hx
open Go
@[reducible] def oM (d a:Nat):SI:=o d (.mv (.t a))
@[reducible] def oL (d a:Nat):SI:=o d (.load false 1 (.t a))
@[reducible] def oN (d a:Nat):SI:=o d (.len .slice (.t a))
@[reducible] def oF (d n a:Nat):SI:=o d (.fad n (.t a))
@[reducible] def oX (d a b:Nat):SI:=o d (.ixs 1 (.t a) (.t b))
@[reducible] def qI (z:Int):Od:=.k (.int .i64 z)
@[reducible] def oK (d:Nat) (z:Int):SI:=o d (.mv (qI z))
@[reducible] def oA (d a:Nat):SI:=o d (.bin .add (.t a) (qI 1))
@[reducible] def sQ (l:List SI) (x:SC):SC:=.seq (.ops l) x
theorem sz:type_of% (To sx <|To sy <|To @Tx.{0} <|To @Tq.{0} <|To @decide_true <|To @decide_false <|To @Um <|To @T9 <|
 To @SO.run.eq_1 <|To @SO.run.eq_2 <|To @SO.run.eq_3 <|To @SO.run.eq_4 <|To @SO.run.eq_5 <|To @SO.run.eq_6 <|To @SO.run.eq_7 <|To @SO.run.eq_8 <|To @SO.run.eq_9 <|To @SO.run.eq_10 <|To @SO.run.eq_11 <|To @SO.run.eq_12 <|To @SO.run.eq_13 <|To @SO.run.eq_14 <|To @SO.run.eq_15 <|To @SO.run.eq_16 <|To @SO.run.eq_17 <|To @SO.run.eq_18 <|To @SO.run.eq_19 <|To @SO.run.eq_20 <|To @SO.run.eq_21 <|To @SO.run.eq_22 <|To @SO.run.eq_23 <|To @SO.run.eq_24 <|To @SO.run.eq_25 <|To @SO.run.eq_26 <|To @SO.run.eq_27 <|To @SO.run.eq_28 <|To @SO.run.eq_29 <|To @SO.run.eq_30 <|To @SO.run.eq_31 <|@SO.run.eq_32) :=
 To sx <|To sy <|To @Tx.{0} <|To @Tq.{0} <|To @decide_true <|To @decide_false <|To @Um <|To @T9 <|
 To @SO.run.eq_1 <|To @SO.run.eq_2 <|To @SO.run.eq_3 <|To @SO.run.eq_4 <|To @SO.run.eq_5 <|To @SO.run.eq_6 <|To @SO.run.eq_7 <|To @SO.run.eq_8 <|To @SO.run.eq_9 <|To @SO.run.eq_10 <|To @SO.run.eq_11 <|To @SO.run.eq_12 <|To @SO.run.eq_13 <|To @SO.run.eq_14 <|To @SO.run.eq_15 <|To @SO.run.eq_16 <|To @SO.run.eq_17 <|To @SO.run.eq_18 <|To @SO.run.eq_19 <|To @SO.run.eq_20 <|To @SO.run.eq_21 <|To @SO.run.eq_22 <|To @SO.run.eq_23 <|To @SO.run.eq_24 <|To @SO.run.eq_25 <|To @SO.run.eq_26 <|To @SO.run.eq_27 <|To @SO.run.eq_28 <|To @SO.run.eq_29 <|To @SO.run.eq_30 <|To @SO.run.eq_31 <|@SO.run.eq_32
end Hx
end
section
namespace Hx
def SC.gA:SC->Nat->SC
 |.seq a b,p=>bif Nat.beq p 1 then .seq a b else bif Nat.testBit p 0 then b.gA (p / 2) else a.gA (p / 2)
 |.cond c a b,p=>bif Nat.beq p 1 then .cond c a b else bif Nat.testBit p 0 then b.gA (p / 2) else a.gA (p / 2)
 |.blk i a,p=>bif Nat.beq p 1 then .blk i a else a.gA (p / 2)
 |.loop a,p=>bif Nat.beq p 1 then .loop a else a.gA (p / 2)
 |.rng n f l a b,p=>bif Nat.beq p 1 then .rng n f l a b else bif Nat.testBit p 0 then b.gA (p / 2) else a.gA (p / 2)
 |c,_=>c
def SC.gP:SC->Nat->SC->SC
 |.seq a b,p,x=>bif Nat.beq p 1 then x else bif Nat.testBit p 0 then .seq a (b.gP (p / 2) x) else .seq (a.gP (p / 2) x) b
 |.cond c a b,p,x=>bif Nat.beq p 1 then x else bif Nat.testBit p 0 then .cond c a (b.gP (p / 2) x) else .cond c (a.gP (p / 2) x) b
 |.blk i a,p,x=>bif Nat.beq p 1 then x else .blk i (a.gP (p / 2) x)
 |.loop a,p,x=>bif Nat.beq p 1 then x else .loop (a.gP (p / 2) x)
 |.rng n f l a b,p,x=>bif Nat.beq p 1 then x else bif Nat.testBit p 0 then .rng n f l a (b.gP (p / 2) x) else .rng n f l (a.gP (p / 2) x) b
 |_,_,x=>x
def SC.gL(c:SC):List (Nat×SC)->SC
 |[]=>c
 | (q,x)::r=>(c.gP q x).gL r
def SF.gF(f:SF)(l:List (Nat×SC)):SF:=⟨f.nt,f.res,f.code.gL l⟩
def cG:Option SF->SF
 |some f=>f
 |none=>⟨0,[],.skip⟩
end Hx
end
