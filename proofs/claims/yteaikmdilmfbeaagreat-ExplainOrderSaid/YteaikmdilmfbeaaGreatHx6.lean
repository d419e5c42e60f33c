/- A part of the proof: what the functions of the chapter compute. -/
import Derived.RangeFuncIn
import Derived.Orders
import Derived.Test.YteaikmdilmfbeaaGreatHx5
set_option linter.all false
set_option maxRecDepth 20000
set_option maxHeartbeats 8000000
namespace Hx
open Go
noncomputable section
variable {g g':G}{d n i nt:Nat}{t:T}{rd:Option Nat}{r:OR}{pm:List Nat}{C:Cfg}
section
variable {C:Cfg}{A:Nat->Nat->Prop}{bd:Nat}{w w':World}{γ γ':Gm}{hg:Nat->AObj}{nx:Nat}
variable {t:T}{g:G}{ih:IH}
def Agr(lk:Looks)(g:G)(hg:Nat->AObj):Prop :=
 if lk.big then Ext g.h hg else ∀id∈lk.rd++lk.sr.map (·.1),g.h.get id≠.none->hg id=g.h.get id
theorem Ext.agr{lk:Looks}(h:Ext g.h hg):Agr lk g hg:=by
 unfold Agr
 split
 ·exact h
 ·exact λid _ hne=>h id hne
theorem Cf:∀{ps:List Nat} {xs:List AV} {us:List Value} {t t':T} {tmps:Array Value},cp t nt ps xs=some t'->TR w γ A bd nt t tmps->RVs w γ A bd xs us ->
  ps.length=us.length/\TR w γ A bd nt t' ((ps.zip us).foldl (λtmps (t,a)=>tmps.setIfInBounds t a) tmps):=by
 intro ps
 induction ps with
 | nil =>
  intro xs us t t' tmps h ht b;cases xs with
  | nil =>
   simp only[cp]at h;injection h with h;subst h;have:us=[]:=WA.1 b.1.symm;subst this;exact⟨rfl,ht⟩
  |cons x xs=>simp[cp]at h
 | cons p ps ih =>
  intro xs us t t' tmps h ht b;cases xs with
  |nil=>simp[cp]at h
  | cons x xs =>
   cases us with
   |nil=>have:=b.1;simp at this
   | cons u us =>
    simp only[cp,aa]at h
    split at h
    ·rename_i hp;rw[UH]at hp;have h0:RV w γ A bd x u:=b.2 0 x u rfl rfl;have k:RVs w γ A bd xs us:=⟨by have:=b.1;simpa using this,λi x' u' hx hu=>b.2 (i+1) x' u' (by simpa using hx) (by simpa using hu)⟩;have c:TR w γ A bd nt ((sp AV.undef p).run t x) (tmps.setIfInBounds p u):=by
      refine⟨by simp[ht.1],λi=>?_⟩;rw[sp_get]
      by_cases hi:i=p
      ·subst hi;rw[TO rfl];have:i<tmps.size:=by rw[ht.1];exact hp
       simpa [Array.getD,this] using h0
      ·rw[TN hi];have:=ht.2 i;simp only[UA]at this ⊢;rw[Vv (VG hi)];exact this
     obtain⟨a1,a2⟩:=ih h c k;exact⟨by simp[a1],by simpa using a2⟩
    ·cases h
theorem Kl(hi:IHOk C ih)(hr:Rel C A bd w γ hg nx)(hx:Ext g.h hg)(hwf:WF g){id:Nat}{args:List AV}{vs:List Value}
  (hk:(γ id).kind=3) (hv:RVs w γ A bd args vs)  (h:bP ih (bd+1) id args g=r) (hne:r≠.fail) (hf:Free γ g (gOf g r)) (c:Frame) (cs:List Frame) :
  ∃f tmps assign body,(Instr.yield (γ id).blk vs.toArray).run C.P w=.ok (.round (γ id).blk f tmps assign body) w /\
   ∃u w' γ' hg',Fin C A bd w γ hg nx g w' γ' hg' (gOf g r)/\RV w' γ' A bd (vOf r) u /\
    Steps C.P (lone (Frame.round (γ id).blk f tmps assign body .normal) (c::cs) w) (lone (c.finish u) cs w'):=by
 unfold bP at h
 split at h
 rotate_left
 ·exact absurd h.symm hne
 rename_i nt t0 ps assign bodyX dfr0 st0 pend0 q;have q:g.h.get id=.loop nt t0 ps assign bodyX dfr0 st0 pend0:=by simpa using q
 have V:hg id=.loop nt t0 ps assign bodyX dfr0 st0 pend0:=by rw[hx id (by rw[q];simp),q]
 have R:=hr.obj id;rw[V]at R;obtain⟨k1,k2,L,k3,k4,k5,k6,k7,k8,k9,h6,h7,h8⟩:=R
 split at h
 ·exact absurd h.symm hne
 rename_i t' S;have Z:TR w γ A bd nt t0 L.tmps:=⟨k9,h6⟩;obtain⟨F,Y⟩:=Cf S Z hv
 split at h
 rotate_left
 ·exact absurd h.symm hne
 rename_i t1 g1 h1
 split at h
 rotate_left
 ·exact absurd h.symm hne
 rename_i nt1 t2 ps2 assign2 body1 dfr pend k;have k:g1.h.get id=.loop nt1 t2 ps2 assign2 body1 dfr .ready pend:=by simpa using k
 split at h
 rotate_left
 ·exact absurd h.symm hne
 rename_i e t3 g2 h2
 split at h
 rotate_left
 ·exact absurd h.symm hne
 rename_i nt3 U ps4 assign4 body4 dfr4 st4 pend4 d;have d:g2.h.get id=.loop nt3 U ps4 assign4 body4 dfr4 st4 pend4:=by simpa using d
 have I:=hi.mon.code _ _ _ _ _ _ _ _ _ _ _ h1 hwf;have w1:WF g1:=I.wf hwf;have J:Mon g1 (g1.put id (.loop nt1 t2 ps2 assign2 body1 dfr .busy pend)):=Mon.put w1 (by rw[k];simp);have w2:=J.wf w1;have T:=hi.mon.code _ _ _ _ _ _ _ _ _ _ _ h2 w2;have w3:=T.wf w2;have m4:∀o,Mon g2 (g2.put id o):=λo=>Mon.put w3 (by rw[d];simp);have X:(gOf g r).nx=g2.nx:=by subst h;cases e<;>simp[gOf]
 have p:Free γ g g2:=λi a b=>hf i a (by rw[X];exact b)
 let bR:Frame:={ (default:Frame) with fn:=L.fn,kind:=.normal,roundOf:=some (γ id).blk }
 let tmps:=(L.params.zip vs.toArray).foldl (λtmps (t,a)=>tmps.setIfInBounds t a) L.tmps
 have h3:tmps=(ps.zip vs).foldl (λtmps (t,a)=>tmps.setIfInBounds t a) L.tmps:=by simp only[tmps,<-Array.foldl_toList,Array.toList_zip,k6]
 have B:(Instr.yield (γ id).blk vs.toArray).run C.P w=.ok (.round (γ id).blk L.fn tmps assign bodyX) w:=by
  unfold Instr.yield;have hs:vs.toArray.size=L.params.size:=by rw[<-k6]at F;simpa using F.symm
  simp only[TV,kT k3,TQ,hs,ne_eq,not_true_eq_false,if_false,k7,k8]
  rfl
 have z:Frame.round (γ id).blk L.fn tmps assign bodyX .normal=bR.atR { tmps:=tmps,defers:=[] } [.code assign,.beginRound,.code bodyX]:=by simp[Frame.round,Frame.atR,bR]
 obtain⟨a1,wa,γa,N,f1,tr1,dr1,ar1⟩:=hi.code _ _ _ _ _ _ _ _ _ _ _ h1 A w γ hg nx bR { tmps:=tmps,defers:=[] } [.beginRound,.code bodyX] (c::cs) hr hx hwf
  (p.le (T6 J.nx T.nx)) (by rw[h3];exact Y) trivial ⟨hk,rfl⟩ (.inl rfl)
 have h4:Ext g1.h N:=f1.ext I hx;have D:N id=.loop nt1 t2 ps2 assign2 body1 dfr .ready pend:=by rw[h4 id (by rw[k];simp),k]
 have Q:(γ id).kind≠0:=by rw[hk];decide
 have s:(γa id).blk=(γ id).blk:=f1.stp.blk_eq Q (by rw[hk];decide);have G:=f1.rel.obj id;rw[D]at G;obtain⟨ka1,ka2,La,ka3,ka4,ka5,ka6,ka7,ka8,ka9,ka10,ka11,ka12⟩:=G;have l:=f1.rel.setLoop (st':=.busy) (pend':=pend) D ka3;rw[s]at ka3 l;have y:(Instr.beginRound (γ id).blk).run C.P wa=.ok () (World.setBlk wa (γ id).blk (.loop { La with state:=.busy,pending:=pend })):=by unfold Instr.beginRound;simp only[TV,kT ka3,TQ,tT ka3,ka4,Un,<-ka5]
 have f2:Fin C A bd wa γa N (Nat.max nx g1.nx) g1 _ γa _ (g1.put id (.loop nt1 t2 ps2 assign2 body1 dfr .busy pend)):=RP l.1 l.2;have x:=f1.trans f2 I J;obtain⟨a2,wb,γb,O,f3,tr3,dr3,ar3⟩:=hi.code _ _ _ _ _ _ _ _ _ _ _ h2 A _ γa _ (Nat.max nx (g1.put id (.loop nt1 t2 ps2 assign2 body1 dfr .busy pend)).nx) bR a1 [] (c::cs) x.rel (x.ext (I.trans J) hx) w2
  (x.freed hr (I.trans J) p) (tr1.step l.2) (by
   have:=dr1.step l.2;exact this) ⟨by rw[f1.stp.kind_eq Q];exact hk,by simp[bR,s]⟩ (.inl rfl)
 have m:=x.trans f3 (I.trans J) T;have h5:Ext g2.h O:=m.ext ((I.trans J).trans T) hx;have E:O id=.loop nt3 U ps4 assign4 body4 dfr4 st4 pend4:=by rw[h5 id (by rw[d];simp),d]
 have M:(γb id).blk=(γ id).blk:=m.stp.blk_eq Q (by rw[hk];decide);have H:=m.rel.obj id;rw[E]at H;obtain⟨kb1,kb2,Lb,kb3,kb4,kb5,kb6,kb7,kb8,kb9,kb10,kb11,kb12⟩:=H;have n:=λst' pend'=>m.rel.setLoop (st':=st') (pend':=pend') E kb3;rw[M]at kb3 n;have v:∀jump,(Instr.endRound (γ id).blk jump).run C.P wb=.ok (.bool jump.isNone) (World.setBlk wb (γ id).blk (.loop { Lb with state:=if jump.isNone then .ready else .done,pending:=jump })):=by intro jump;unfold Instr.endRound;simp only[TV,kT kb3,TQ,tT kb3,Un]
 refine⟨L.fn,tmps,assign,bodyX,B,?_⟩;rw[z];have sbegin:Steps C.P (lone (bR.atR { tmps:=tmps,defers:=[] } [.code assign,.beginRound,.code bodyX]) (c::cs) w) (lone (bR.atR a1 [.code bodyX]) (c::cs) (World.setBlk wa (γ id).blk (.loop { La with state:=.busy,pending:=pend }))) :=
  Steps.trans ar1 (.one (stepR_beginRound rfl y))
 have fin:∀(jump:Option Code) (st':LoopState),st'=(if jump.isNone then .ready else .done) ->
   Fin C A bd w γ hg nx g (World.setBlk wb (γ id).blk (.loop { Lb with state:=st',pending:=jump })) γb (upd O id (.loop nt3 U ps4 assign4 body4 dfr4 st' jump)) (g2.put id (.loop nt3 U ps4 assign4 body4 dfr4 st' jump)):=by
  intro jump st' _;exact m.trans (RP (n st' jump).1 (n st' jump).2) ((I.trans J).trans T) (m4 _)
 subst h;cases e with
 |norm=>exact⟨.bool true,_,γb,_,fin none .ready rfl,.bool _ _,Steps.trans sbegin (Steps.trans ar3 (.one (stepR_round_end rfl rfl (v none))))⟩
 | exit j =>
  obtain⟨k₁,W,K⟩:=ar3;exact⟨.bool false,_,γb,_,fin (some (.exit j)) .done rfl,.bool _ _,Steps.trans sbegin (Steps.trans K (.one (stepR_round_exit rfl rfl (by rw[W];rfl) (v (some (.exit j))))))⟩
 | ret =>
  obtain⟨k₁,K⟩:=ar3;exact⟨.bool false,_,γb,_,fin (some .ret) .done rfl,.bool _ _,Steps.trans sbegin (Steps.trans K (.one (stepR_round_ret rfl rfl (v (some .ret)))))⟩
noncomputable def PW(C:Cfg)(fv:AV)(as:List AV)(g:G):Looks :=
 match fv with
 |.clo f first cap=>ay ((C.ext f).isSome || C.iso f) (am ((first++(as++cap)).flatMap (aw g.h aC))) cd
 |_=>cd
theorem NV(h:Agr cd g hg):Ext g.h hg:=h
section
variable {b:Frame}{a:Act}{ops:Array Oper}{i:Nat}{rest:List Nat}{k:List Item}{cs:List Frame}{o:Oper}
theorem Cs(hC:CfgOk C)(hi:IHOk C ih)(hr:Rel C A bd w γ hg nx)(hwf:WF g){fv:AV}{v:Value}{as:List AV}{vs:List Value}
  (hfv:RV w γ A bd fv v) (has:RVs w γ A bd as vs) (hag:Agr (PW C fv as g) g hg)
   (h:jG C ih (bd+1) fv as g=r) (hne:r≠.fail) (hf:Free γ g (gOf g r))
  (ho:ops[i]?=some o) (hw:Region.wanted o (yielded ops a.tmps)=true) (hd:∀c,o.op≠.defer c)
  (hexec:(execOp a.eval o).run C.P w=(do let d <-Deferred.ofValue v vs.toArray;invoke d.target d.args:Sem Next).run C.P w) :
  ∃u w' γ' hg',Fin C A bd w γ hg nx g w' γ' hg' (gOf g r)/\RV w' γ' A bd (vOf r) u /\
   Steps C.P (lone (b.atR a (.inRegion ops (i::rest)::k)) cs w) (lone (b.atR (a.put o.dst u) (.inRegion ops rest::k)) cs w'):=by
 cases hfv with
 | clo _ f xs ys vs1 us1 hl hl2 h1 h2 =>
  have l:RVs w γ A bd (xs++(as++ys)) (vs1.toList++(vs++us1.toList)):=(RT hl h1).append (has.append (RT hl2 h2));have m:(vs1.toList++(vs++us1.toList)).toArray=(vs1++vs.toArray)++us1:=by apply WI;simp
  have j:Enters C.P f->(execOp a.eval o).run C.P w=.ok (.enter f ((vs1++vs.toArray)++us1)) w:=by intro he;rw[hexec];simp only[Deferred.ofValue,invoke,TV,Un,TQ];exact he _ _
  simp only[jG]at h;simp only[PW]at hag;cases hext:C.ext f with
  | some e =>
   simp only[hext]at h hag;have hx:∀id∈(xs++(as++ys)).flatMap (aw g.h aC),g.h.get id≠.none->hg id=g.h.get id:=by simpa [Agr,am] using hag
   have hs:=hC.ext f e hext;subst h;obtain⟨u,w',γ',hg',f1,rv,out⟩:=hs A bd w γ hg nx g _ _ hr hwf hx hf l hne (b.atR a (.inRegion ops (i::rest)::k)::cs);rw[m]at out;rcases out with out|⟨he,out⟩
   ·refine⟨u,w',γ',hg',f1,rv,.one (vP ho hw hd ?_)⟩;rw[hexec];simp only[Deferred.ofValue,invoke,TV,Un,TQ];exact out
   ·exact⟨u,w',γ',hg',f1,rv,qT ho hw hd (j he) out⟩
  | none =>
   simp only[hext]at h hag;cases hiso:C.iso f with
   | true =>
    simp only[hiso]at h hag;have hx:∀id∈(xs++(as++ys)).flatMap (aw g.h aC),g.h.get id≠.none->hg id=g.h.get id:=by simpa [Agr,am] using hag
    subst h;obtain⟨he,u,w',γ',hg',f1,rv,out⟩:=tM hi.call hi.mon.call hr hx l hne (b.atR a (.inRegion ops (i::rest)::k)::cs);rw[m]at out;exact⟨u,w',γ',hg',f1,rv,qT ho hw hd (j he) out⟩
   | false =>
    simp only[hiso]at h hag;have hx:Ext g.h hg:=hag;cases hcall:ih.call (bd+1) f (xs++(as++ys)) g with
    | fail =>
     rw[hcall]at h;exact absurd h.symm hne
    | ok rv0 g1 =>
     rw[hcall]at h;have h:OR.upd rv0 g1=r:=h;subst h;obtain⟨he,hs⟩:=hi.call _ _ _ _ _ _ hcall;obtain⟨u,w',γ',hg',f1,rv,out⟩:=hs A w γ hg nx _ hr hx hwf hf l .normal (b.atR a (.inRegion ops (i::rest)::k)::cs) (.inl rfl);rw[m]at out;exact⟨u,w',γ',hg',f1,rv,qT ho hw hd (j he) out⟩
 | yld _ id bl hk hb =>
  subst hb;simp only[jG]at h;have hx:Ext g.h hg:=NV hag;obtain⟨f,tmps,assign,body,p,u,w',γ',hg',f1,rv,st⟩:=Kl hi hr hx hwf hk has h hne hf (b.atR a (.inRegion ops (i::rest)::k)) cs;have n:=Frame.finish_atR b a ops i rest k u;rw[ho]at n;simp only[VC]at n;rw[n]at st;refine⟨u,w',γ',hg',f1,rv,.head (HD ho hw hd ?_) st⟩;rw[hexec];simp only[Deferred.ofValue,invoke,TV,Un,TQ];simpa using p
 |_=>exact absurd h.symm hne
theorem Eb(hC:CfgOk C)(hi:IHOk C ih)(hr:Rel C A bd w γ hg nx)(hwf:WF g)(ht:TR w γ A bd nt t a.tmps)(hcalm:pf b.kind cs)
  (hag:Agr ((aO C o.op).run t g) g hg)  (h:(cE C o.op).run ih (bd+1) rd t g=r) (hne:r≠.fail) (hnd:∀x,r≠.dfr x) (hf:Free γ g (gOf g r))
  (ho:ops[i]?=some o) (hw:Region.wanted o (yielded ops a.tmps)=true) :
  ∃u w' γ' hg',Fin C A bd w γ hg nx g w' γ' hg' (gOf g r)/\RV w' γ' A bd (vOf r) u /\
   Steps C.P (lone (b.atR a (.inRegion ops (i::rest)::k)) cs w) (lone (b.atR (a.put o.dst u) (.inRegion ops rest::k)) cs w'):=by
 have hm:Mon g (gOf g r):=by rw[<-h];exact iW hC.mon hi.mon hwf
 unfold cE at h
 split at h
 rotate_left
 ·exact absurd h.symm hne
 rename_i f d;generalize hop:o.op=op at d hag;have j:∀(args:Array Operand),(args.toList.map a.eval).toArray=args.map a.eval:=λargs=>by apply WI;simp
 unfold cOp at d
 split at d
 ·
  rename_i fx args at2;have hd:∀c,o.op≠.defer c:=by rw[hop];intro c h;cases h
  split at d
  ·rename_i vs n;simp only[aO,aU,n]at hag;refine Cs (fv:=.clo fx [] []) (v:=.func (.func fx) #[] #[]) (as:=vs.run t) hC hi hr hwf (.clo _ fx [] [] #[] #[] rfl rfl (λi x v h=>by simp at h) (λi x v h=>by simp at h)) (gR ht hr n) hag ?_ hne hf ho hw hd ?_
   ·rw[<-h];simp only[jG,Ud,T3]
    split at d
    ·rename_i e he;injection d with d;subst d;rfl
    ·rename_i he;rw[aa]at d
     split at d
     ·rename_i l;injection d with d;subst d;simp only[l]
     ·rename_i l;injection d with d;subst d;have:C.iso fx=false:=by simpa using l
      simp only[this]
   ·simp only[execOp,hop,resolve,j,Act.eval]
  ·cases d
 ·
  rename_i fo args at2 B;have hd:∀c,o.op≠.defer c:=by rw[hop];intro c h;cases h
  split at d
  ·rename_i fv vs q n;injection d with d;subst d;simp only[aO,q,n]at hag;refine Cs (fv:=fv.run t) (v:=a.eval fo) (as:=vs.run t) hC hi hr hwf (aD q ht hr) (gR ht hr n) hag h hne hf ho hw hd ?_;simp only[execOp,hop,resolve,j]
  ·cases d
 ·
  have hd:∀c,o.op≠.defer c:=by rw[hop];intro c h;cases h
  injection d with d;subst d;subst h;refine⟨.nilIface,w,γ,hg,Fin.refl hr,.nili _,.one (Eq ho hw hd hC.recov hcalm ?_)⟩;simp only[execOp,hop,resolve,invoke,TV,Un,TQ]
  rfl
 ·
  split at d
  ·injection d with d;subst d;exfalso;dsimp only at h
   split at h
   ·exact hne h.symm
   ·split at h
    ·exact hnd _ h.symm
    ·exact hne h.symm
  ·cases d
 ·
  split at d
  ·rename_i s hs;injection d with d;subst d;have hd:∀c,o.op≠.defer c:=by rw[hop];rintro c rfl;simp[cw]at hs
   have p:∀id∈bh C op t g,hg id=g.h.get id:=by
    intro id y;have z:g.h.get id≠.none:=λz=>hne (by rw[<-h];exact Gf hs y z);unfold Agr at hag
    split at hag
    ·exact hag id z
    ·exact hag id y z
   have m:=Pk hs hop ht hr (hf g.nx (TG _) hm.nx) p;have h:s.run t g=r:=h;rw[h]at m;cases r with
   |fail=>exact absurd rfl hne
   | val x =>
    obtain⟨v,h1,h2⟩:=m;exact⟨v,w,γ,hg,Fin.refl hr,h2,vO ho hw hd h1⟩
   | upd x g' =>
    obtain⟨v,w',γ',id,ob,h1,h2,h3,h4⟩:=m;rcases h4 with⟨rfl,h4⟩|⟨rfl,rfl,h4⟩
    ·exact⟨v,w',γ',_,RP h4 h3,h2,vO ho hw hd h1⟩
    ·exact⟨v,w',γ',_,RO h4 h3,h2,vO ho hw hd h1⟩
   |dfr x=>exact absurd rfl (hnd x)
  ·cases d
end
end
section
variable {K V:Type}
open Classical in
noncomputable def ov(S:Nat->Prop)(wr:Nat->K->Prop)(val:Nat->K->V)(base:K->V):Nat->K->V
 |0,k=>base k
 |i+1,k=>if S i/\wr i k then val (i+1) k else ov S wr val base i k
variable {S S':Nat->Prop}{wr:Nat->K->Prop}{val:Nat->K->V}{base:K->V}{k:K}
theorem MN(h:∀j,j<n->wr j k->(S j↔S' j)):ov S wr val base n k=ov S' wr val base n k:=by
 induction n with
 |zero=>rfl
 | succ n ih =>
  simp only[ov];rw[ih λj hj=>h j (by omega)]
  by_cases hw:wr n k
  ·have hS:=h n (by omega) hw
   by_cases hs:S n
   ·rw[TO ⟨hs,hw⟩,TO ⟨hS.1 hs,hw⟩]
   ·rw[TN (λhh=>hs hh.1),TN (λhh=>hs (hS.2 hh.1))]
  ·rw[TN (λhh=>hw hh.2),TN (λhh=>hw hh.2)]
theorem Bc{m:Nat}(hm:m<=n)(h:∀j,m<=j->j<n->S j->¬wr j k):ov S wr val base n k=ov S wr val base m k:=by
 induction n with
 | zero=>have:m=0:=by omega
         subst this;rfl
 | succ n ih =>
  by_cases hmn:m=n+1
  ·subst hmn;rfl
  ·simp only[ov];rw[TN (λhh=>h n (by omega) (by omega) hh.1 hh.2)];exact ih (by omega) λj h1 h2=>h j h1 (by omega)
theorem ML(hi:i<n)(hw:wr i k)(h:∀j,i<j->j<n->S j->¬wr j k):ov (λj=>S j\/j=i) wr val base n k=val (i+1) k:=by
 rw[Bc (m:=i+1) (by omega) (λj h1 h2 h3=>by
  rcases h3 with h3|h3
  ·exact h j (by omega) h2 h3
  ·omega)]
 simp[ov,hw]
theorem Ee(hw:¬wr i k):ov (λj=>S j\/j=i) wr val base n k=ov S wr val base n k:=by
 refine MN λj _ hj=>?_;constructor
 ·rintro (h|h)
  ·exact h
  ·subst h;exact absurd hj hw
 ·exact .inl
theorem MM(hi:i<=n)(keep:∀j,j<n->¬wr j k->val (j+1) k=val j k)(h:∀j,j<n->wr j k->(S j↔j<i)) :
  ((∃j,j<i/\wr j k)/\ov S wr val base n k=val i k)\/((∀j,j<i->¬wr j k)/\ov S wr val base n k=base k/\val i k=val 0 k):=by
 rw[Bc hi (λj h1 h2 h3 h4=>by have:=(h j h2 h4).1 h3;omega)];have key:∀m,m<=i->((∃j,j<m/\wr j k)/\ov S wr val base m k=val m k)\/((∀j,j<m->¬wr j k)/\ov S wr val base m k=base k/\val m k=val 0 k):=by
  intro m
  induction m with
  |zero=>intro _;exact .inr ⟨λj hj=>absurd hj (Nat.not_lt_zero j),rfl,rfl⟩
  | succ m ih =>
   intro hm
   by_cases hw:wr m k
   ·left;refine⟨⟨m,by omega,hw⟩,?_⟩;simp only[ov];rw[TO ⟨(h m (by omega) hw).2 (by omega),hw⟩]
   ·simp only[ov];rw[TN (λhh=>hw hh.2)];rcases ih (by omega) with⟨⟨j,h1,h2⟩,h3⟩|⟨h1,h2,h3⟩
    ·left;exact⟨⟨j,by omega,h2⟩,by rw[h3,keep m (by omega) hw]⟩
    ·right;refine⟨λj hj=>?_,h2,by rw[keep m (by omega) hw,h3]⟩
     by_cases hjm:j=m
     ·subst hjm;exact hw
     ·exact h1 j (by omega)
 exact key i (TG _)
end
theorem yh(es:List Edge)(acc:List Nat):∀(m i:Nat),
  (es.foldl (λm e=>ay (Region.binds .any e) (m ||| 2 ^ e.on ||| acc.getD e.on 0) m) m).testBit i=true ->
  m.testBit i=true\/∃e∈es,Region.binds .any e=true/\(e.on=i\/(acc.getD e.on 0).testBit i=true):=by
 induction es with
 |nil=>intro m i h;exact .inl h
 | cons e es ih =>
  intro m i h;simp only[Wp]at h;rcases ih _ i h with h|⟨e',h1,h2,h3⟩
  ·rw[aa]at h
   split at h
   ·rename_i hb;simp only[Nat.testBit_or,UB]at h;rcases h with (h|h)|h
    ·exact .inl h
    ·right;refine⟨e,UK,hb,.inl ?_⟩;rw[Nat.testBit_two_pow]at h;simpa using h
    ·exact .inr ⟨e,UK,hb,.inr h⟩
   ·exact .inl h
  ·exact .inr ⟨e',UC _ h1,h2,h3⟩
theorem Bi{S:Nat->Prop}{all:List Oper}(hS:∀j o,all[j]?=some o->S j->∀e∈o.after.toList,Region.binds .any e=true->S e.on) :
  ∀(ops:List Oper) (acc:List Nat) (pre:List Oper),all=pre++ops->pre.length=acc.length->(∀j i,(acc.getD j 0).testBit i=true->S j->S i) ->
   ∀j i,((bo ops acc).getD j 0).testBit i=true->S j->S i:=by
 intro ops
 induction ops with
 |nil=>intro acc pre _ _ h;exact h
 | cons o rest ih =>
  intro acc pre k a h;simp only[bo];refine ih _ (pre++[o]) (by simp[k]) (by simp[a]) λj i hj hSj=>?_
  by_cases hlt:j<acc.length
  ·refine h j i ?_ hSj;rw[Vw,T5 hlt]at hj;rw[Vw];exact hj
  ·by_cases hje:j=acc.length
   ·subst hje;rw[Vw,T0 (TG _)]at hj;simp only[UD,List.getElem?_cons_zero,TS]at hj;have ho:all[acc.length]?=some o:=by rw[k,<-a];simp
    rcases yh _ acc _ _ hj with h0|⟨e,h1,h2,h3⟩
    ·simp at h0
    ·have b:=hS _ o ho hSj e h1 h2;rcases h3 with h3|h3
     ·rw[<-h3];exact b
     ·exact h _ _ h3 b
   ·rw[Vw,Ut (by simp;omega)]at hj;simp at hj
theorem xr{α:Type}{f:Nat->α->Nat->α->Bool}{x:α}:∀{l:List α} {j0:Nat},fU f i x j0 l=true->∀(j:Nat) y,l[j]?=some y->f i x (j0+j) y=true:=by
 intro l
 induction l with
 |nil=>intro j0 _ j y h;simp at h
 | cons a l ih =>
  intro j0 h j y k;simp only[fU,TM]at h;cases j with
  |zero=>simp at k;subst k;exact h.1
  | succ j =>
   have:=ih h.2 j y (by simpa using k);rw[show j0+(j+1)=j0+1+j by omega];exact this
theorem wc{α:Type}{f:Nat->α->Nat->α->Bool}:∀{l:List α} {i0:Nat},kI f i0 l=true->∀(i j:Nat) x y,i<j->l[i]?=some x->l[j]?=some y->f (i0+i) x (i0+j) y=true:=by
 intro l
 induction l with
 |nil=>intro i0 _ i j x y _ h;simp at h
 | cons a l ih =>
  intro i0 h i j x y b hx k;simp only[kI,TM]at h;cases j with
  |zero=>omega
  | succ j =>
   cases i with
   | zero =>
    simp at hx;subst hx;have:=xr h.1 j y (by simpa using k);rw[show i0+(j+1)=i0+1+j by omega];simpa using this
   | succ i =>
    have:=ih h.2 i j x y (by omega) (by simpa using hx) (by simpa using k);rw[show i0+(i+1)=i0+1+i by omega,show i0+(j+1)=i0+1+j by omega];exact this
theorem BP:∀{l:List Oper} {i0:Nat},pB i0 l=true->∀(i:Nat) o,l[i]?=some o->∀e∈o.after.toList,Region.binds .any e=true->e.on<i0+i:=by
 intro l
 induction l with
 |nil=>intro i0 _ i o h;simp at h
 | cons a l ih =>
  intro i0 h i o ho e he hb;simp only[pB,TM]at h;cases i with
  | zero =>
   simp at ho;subst ho;have:=Ue.1 h.1 e he;simp only[hb,Bool.not_true,Bool.false_or,UH]at this;simpa using this
  | succ i =>
   have:=ih h.2 i o (by simpa using ho) e he hb;omega
theorem AI:∀{l:List Oper} {i0:Nat},na pm i0 l=true->∀(i:Nat) o,l[i]?=some o->∀j b,o.guard=some (j,b)->(pm.getD (i0+i) 0).testBit j=true:=by
 intro l
 induction l with
 |nil=>intro i0 _ i o h;simp at h
 | cons a l ih =>
  intro i0 h i o ho j b hg;simp only[na,TM]at h;cases i with
  | zero =>
   simp at ho;subst ho;have:=h.1;simp only[hg]at this;simpa using this
  | succ i =>
   have:=ih h.2 i o (by simpa using ho) j b hg;rw[show i0+(i+1)=i0+1+i by omega];exact this
def cnt(p:Nat->Bool):Nat->Nat
 |0=>0
 |n+1=>cnt p n+(if p n then 1 else 0)
theorem Ld{p:Nat->Bool}:∀{n:Nat},cnt p n=0->∀i,i<n->p i=false:=by
 intro n
 induction n with
 |zero=>intro _ i hi;omega
 | succ n ih =>
  intro h i hi;simp only[cnt]at h
  by_cases hin:i=n
  ·subst hin;cases hp:p i
   ·rfl
   ·simp[hp]at h
  ·exact ih (by omega) i (by omega)
theorem Qm{p q:Nat->Bool}(h:∀i,q i=true->p i=true):∀{n i:Nat},i<n->p i=true->q i=false->cnt q n<cnt p n:=by
 have k:∀n,cnt q n<=cnt p n:=by
  intro n
  induction n with
  |zero=>exact TG _
  | succ n ih =>
   simp only[cnt];have:=h n;cases hq:q n
   ·cases p n<;>simp<;>omega
   ·simp[this hq];omega
 intro n
 induction n with
 |zero=>intro i hi;omega
 | succ n ih =>
  intro i hi hp hq;simp only[cnt]
  by_cases hin:i=n
  ·subst hin;simp[hp,hq];have:=k i;omega
  ·have:=ih (by omega) hp hq;have h2:=h n;cases hq':q n
   ·cases p n<;>simp<;>omega
   ·simp[h2 hq'];omega
section
variable {C:Cfg}{t t':T}{g:G}{ih:IH}
theorem GB{x:Operand}{s:Stg (T->AV)}(h:aU C x=some s)(hx:∀n,x=.tmp n->t.get AV.undef n=t'.get AV.undef n):s.run t=s.run t':=by
 cases x with
 |tmp n=>simp[aU]at h;subst h;simpa using hx n rfl
 | const v =>
  simp only[aU]at h
  split at h
  ·injection h with h;subst h;rfl
  ·cases h
 | global gl =>
  simp only[aU]at h
  split at h
  ·injection h with h;subst h;rfl
  ·cases h
 |func f=>simp[aU]at h;subst h;rfl
def Cj(C:Cfg)(t t':T)(xs:List Operand):Prop:=∀x∈xs,∀s,aU C x=some s->s.run t=s.run t'
theorem cJ:∀{xs:List Operand} {vs:Stg (T->List AV)},bM C xs=some vs->Cj C t t' xs->vs.run t=vs.run t':=by
 intro xs
 induction xs with
 |nil=>intro vs h _;simp[bM]at h;subst h;rfl
 | cons x xs ih =>
  intro vs h hx;simp only[bM]at h
  split at h
  ·rename_i a as h1 h2;injection h with h;subst h;simp only[hx x UK a h1,ih h2 λy hy=>hx y (UC _ hy)]
  ·cases h
variable {op:Op}{f:Stg SFn}
theorem zR{b:Builtin}{argTypes:Array TypeId}{args:List Operand}(h:dj C b argTypes args=some f)(hx:Cj C t t' args):f.run t g=f.run t' g:=by
 unfold dj at h
 split at h
 ·split at h
  ·rename_i s _ hs;injection h with h;subst h;simp only[hx _ (by simp) _ hs]
  ·cases h
 ·split at h
  ·rename_i sa sx _ _ ha hb;have e1:=hx _ (by simp) _ ha;have e2:=hx _ (by simp) _ hb
   repeat' (first|split at h| (rw[aa]at h;split at h))
   all_goals first| (cases h;done)| (injection h with h;subst h;simp only[e1,e2])
  ·cases h
 ·split at h
  ·rename_i sa sx _ ha hb;have e1:=hx _ (by simp) _ ha;have e2:=hx _ (by simp) _ hb
   repeat' (first|split at h)
   all_goals first| (cases h;done)| (injection h with h;subst h;simp only[e1,e2])
  ·cases h
 ·split at h
  ·rename_i s _ hs;have e1:=hx _ (by simp) _ hs
   repeat' (first|split at h)
   all_goals first| (cases h;done)| (injection h with h;subst h;simp only[e1])
  ·cases h
 ·split at h
  ·rename_i s _ hs;have e1:=hx _ (by simp) _ hs
   repeat' (first|split at h| (rw[aa]at h;split at h))
   all_goals first| (cases h;done)| (injection h with h;subst h;simp only[e1])
  ·cases h
 ·split at h
  ·rename_i sa sx ha hb;injection h with h;subst h;simp only[hx _ (by simp) _ ha,hx _ (by simp) _ hb]
  ·cases h
 ·split at h
  ·rename_i sa sx ha hb;injection h with h;subst h;simp only[hx _ (by simp) _ ha,hx _ (by simp) _ hb]
  ·cases h
 ·cases h
theorem GC(h:cw C op=some f)(hx:Cj C t t' op.operands.toList):f.run t g=f.run t' g:=by
 cases op<;>simp only[cw]at h<;>first| (cases h;done)|skip
 case call c =>
  obtain⟨callee,args,argTypes⟩:=c;cases callee<;>first| (cases h;done)|skip
  dsimp only at h;exact zR h λx hm=>hx x (by simpa [Op.operands,Call.operands] using hm)
 case move x =>
  split at h
  ·rename_i s hs;injection h with h;subst h;simp only[hx _ (by simp[Op.operands]) _ hs]
  ·cases h
 case assign x =>
  split at h
  ·rename_i s hs;injection h with h;subst h;simp only[hx _ (by simp[Op.operands]) _ hs]
  ·cases h
 case pick c x y =>
  split at h
  ·rename_i sc sx sy hc h1 h2;injection h with h;subst h;simp only[hx _ (by simp[Op.operands]) _ hc,hx _ (by simp[Op.operands]) _ h1,hx _ (by simp[Op.operands]) _ h2]
  ·cases h
 case alloc ty =>
  split at h
  ·injection h with h;subst h;rfl
  ·cases h
 case box ty x =>
  split at h
  ·rename_i s hs;injection h with h;subst h;simp only[K0,hx _ (by simp[Op.operands]) _ hs]
  ·cases h
 case load ty x =>
  split at h
  ·rename_i s ag n hs v w;injection h with h;subst h;simp only[nh,hx _ (by simp[Op.operands]) _ hs]
  ·cases h
 case store ty x y =>
  split at h
  ·rename_i s u n hs hu w;injection h with h;subst h;simp only[pc,hx _ (by simp[Op.operands]) _ hs,hx _ (by simp[Op.operands]) _ hu]
  ·cases h
 case binOp op ty x y p =>
  split at h
  ·rename_i s u hs hu;injection h with h;subst h;simp only[hx _ (by simp[Op.operands]) _ hs,hx _ (by simp[Op.operands]) _ hu]
  ·cases h
 case unOp op ty x =>
  split at h
  ·rename_i s hs;injection h with h;subst h;simp only[hx _ (by simp[Op.operands]) _ hs]
  ·cases h
 case convert src dst x =>
  split at h
  ·rename_i s sd k hs o hk;injection h with h;subst h;simp only[hx _ (by simp[Op.operands]) _ hs]
  ·cases h
 case nilCheck x =>
  split at h
  ·rename_i s hs;injection h with h;subst h;simp only[hx _ (by simp[Op.operands]) _ hs]
  ·cases h
 case makeInterface ty x =>
  split at h
  ·cases h
  ·rename_i s d A hs hu;injection h with h;subst h;simp only[hx _ (by simp[Op.operands]) _ hs]
  ·cases h
 case makeSlice ty l c =>
  split at h
  ·rename_i e sl sc he hl hc
   split at h
   ·rw[aa]at h
    split at h
    ·injection h with h;subst h;simp only[ic,hx _ (by simp[Op.operands]) _ hl,hx _ (by simp[Op.operands]) _ hc]
    ·cases h
   ·cases h
  ·cases h
 case fieldAddr ty x fi =>
  split at h
  ·rename_i s fo ft hs j
   split at h
   ·injection h with h;subst h;simp only[j8,hx _ (by simp[Op.operands]) _ hs]
   ·cases h
  ·cases h
 case field ty x fi =>
  split at h
  ·rename_i s fo ft hs j
   split at h
   ·injection h with h;subst h;simp only[hx _ (by simp[Op.operands]) _ hs]
   ·cases h
  ·cases h
 case indexAddr ty x ix =>
  split at h
  ·rename_i s i hs hi
   split at h
   ·split at h
    ·injection h with h;subst h;simp only[gN,hx _ (by simp[Op.operands]) _ hs,hx _ (by simp[Op.operands]) _ hi]
    ·cases h
   ·split at h
    ·injection h with h;subst h;simp only[nf,hx _ (by simp[Op.operands]) _ hs,hx _ (by simp[Op.operands]) _ hi]
    ·cases h
   ·cases h
  ·cases h
 case index ty x ix =>
  split at h
  ·rename_i s i hs hi
   split at h
   ·split at h
    ·injection h with h;subst h;simp only[vE,hx _ (by simp[Op.operands]) _ hs,hx _ (by simp[Op.operands]) _ hi]
    ·cases h
   ·injection h with h;subst h;simp only[pY,hx _ (by simp[Op.operands]) _ hs,hx _ (by simp[Op.operands]) _ hi]
   ·cases h
  ·cases h
 case lookup ty x k ok =>
  split at h
  ·rename_i m kk kt et hm hk hu
   split at h
   ·injection h with h;subst h;simp only[dC,hx _ (by simp[Op.operands]) _ hm,hx _ (by simp[Op.operands]) _ hk]
   ·cases h
  ·cases h
 case mapUpdate ty m k x =>
  split at h
  ·rename_i sm sk sx kt et hm hk a hu;injection h with h;subst h;simp only[fO,hx _ (by simp[Op.operands]) _ hm,hx _ (by simp[Op.operands]) _ hk,hx _ (by simp[Op.operands]) _ a]
  ·cases h
 case insert ty m k x =>
  split at h
  ·rename_i sm sk sx kt et hm hk a hu;injection h with h;subst h;simp only[fO,hx _ (by simp[Op.operands]) _ hm,hx _ (by simp[Op.operands]) _ hk,hx _ (by simp[Op.operands]) _ a]
  ·cases h
 case mapEntry ty m k =>
  split at h
  ·rename_i sm sk kt et hm hk hu
   split at h
   ·injection h with h;subst h;simp only[gc,hx _ (by simp[Op.operands]) _ hm,hx _ (by simp[Op.operands]) _ hk]
   ·cases h
  ·cases h
 case entryStore ty m st x =>
  split at h
  ·rename_i sm ss sx hm hs a;injection h with h;subst h;simp only[im,hx _ (by simp[Op.operands]) _ hm,hx _ (by simp[Op.operands]) _ hs,hx _ (by simp[Op.operands]) _ a]
  ·cases h
 case extract x i =>
  split at h
  ·rename_i s hs;injection h with h;subst h;simp only[hx _ (by simp[Op.operands]) _ hs]
  ·cases h
 case makeMap ty r =>
  cases r with
  |some r=>cases h
  | none =>
   dsimp only at h
   split at h
   ·injection h with h;subst h;rfl
   ·cases h
 case makeFunc fn fi ca =>
  cases fn with
  | func fx =>
   dsimp only at h
   split at h
   ·rename_i sa sc ha hc;injection h with h;subst h;have e1:=cJ (t:=t) (t':=t') ha λx hm=>hx x (by simp[Op.operands]at hm ⊢;exact .inl hm);have e2:=cJ (t:=t) (t':=t') hc λx hm=>hx x (by simp[Op.operands]at hm ⊢;exact .inr hm);simp only[e1,e2]
   ·cases h
  |_=>cases h
 case buildSlice ty len parts =>
  split at h
  ·rename_i e vs he b;have e1:=cJ (t:=t) (t':=t') b λx hm=>hx x (by simpa [Op.operands] using hm)
   split at h
   ·rw[aa]at h
    split at h
    ·injection h with h;subst h;simp only[ij,e1]
    ·cases h
   ·cases h
  ·cases h
 case build ty parts =>
  split at h
  ·rename_i zero vs hz b;have e1:=cJ (t:=t) (t':=t') b λx hm=>hx x (by simpa [Op.operands] using hm)
   split at h
   ·split at h
    ·split at h
     ·injection h with h;subst h;simp only[nZ,e1]
     ·cases h
    ·cases h
   ·split at h
    ·injection h with h;subst h;simp only[nZ,e1]
    ·cases h
   ·cases h
  ·cases h
 case slice ty x lo hi mx =>
  have optR:∀{y:Option Operand} {s:Stg (T->List AV)},(∀z,y=some z->z∈(Op.slice ty x lo hi mx).operands.toList)->bM C y.toList=some s->s.run t=s.run t':=by
   intro y s B hs;refine cJ hs λz hm=>hx z (B z ?_);cases y with
   |none=>simp at hm
   |some q=>simp at hm;rw[hm]
  cases mx with
  | none =>
   dsimp only at h
   split at h
   ·rename_i e sx sl sh hu h1 h2 h3
    split at h
    ·injection h with h;subst h;simp only[hx _ (by simp[Op.operands]) _ h1,optR (by rintro z rfl;simp[Op.operands]) h2,optR (by rintro z rfl;simp[Op.operands]) h3]
    ·cases h
   ·rename_i n e sx sl sh hu h1 h2 h3
    split at h
    ·injection h with h;subst h;simp only[iP,hx _ (by simp[Op.operands]) _ h1,optR (by rintro z rfl;simp[Op.operands]) h2,optR (by rintro z rfl;simp[Op.operands]) h3]
    ·cases h
   ·cases h
  | some mx =>
   cases hi with
   |none=>cases h
   | some hi =>
    dsimp only at h
    split at h
    ·rename_i e sx sl sh sm he h1 h2 h3 h4
     split at h
     ·injection h with h;subst h;simp only[hx _ (by simp[Op.operands]) _ h1,optR (by rintro z rfl;simp[Op.operands]) h2,hx _ (by simp[Op.operands]) _ h3,hx _ (by simp[Op.operands]) _ h4]
     ·cases h
    ·cases h
theorem Gz(hx:Cj C t t' op.operands.toList):(cE C op).run ih d rd t g=(cE C op).run ih d rd t' g:=by
 unfold cE
 split
 rotate_left
 ·rfl
 rename_i f h;unfold cOp at h
 split at h
 ·rename_i fx args at2
  split at h
  ·rename_i vs k;have e1:=cJ (t:=t) (t':=t') k λx hm=>hx x (by simp[Op.operands,Call.operands]at hm ⊢;exact .inr hm)
   repeat' (first|split at h| (rw[aa]at h;split at h))
   all_goals (injection h with h;subst h;simp only[e1])
  ·cases h
 ·rename_i fo args at2 b
  split at h
  ·rename_i fv vs a k;have e1:=cJ (t:=t) (t':=t') k λx hm=>hx x (by simp[Op.operands,Call.operands]at hm ⊢;exact .inr hm);have e2:=hx fo (by simp[Op.operands,Call.operands]) _ a;injection h with h;subst h;simp only[e1,e2]
  ·cases h
 ·injection h with h;subst h;rfl
 ·rename_i fo args at2
  split at h
  ·rename_i fv vs a k;have e1:=cJ (t:=t) (t':=t') k λx hm=>hx x (by simp[Op.operands,Call.operands]at hm ⊢;exact .inr hm);have e2:=hx fo (by simp[Op.operands,Call.operands]) _ a;injection h with h;subst h;simp only[e1,e2]
  ·cases h
 ·split at h
  ·rename_i s hs;injection h with h;subst h;exact GC hs hx
  ·cases h
theorem EL(hh:g.h=g'.h)(hx:Cj C t t' op.operands.toList):(aO C op).run t g=(aO C op).run t' g':=by
 have one:∀{x:Operand} {F:AV->Looks},x∈op.operands.toList ->
   (match aU C x with|some a=>(⟨λt _=>F (a.run t)⟩:Stg (T->G->Looks))|none=>⟨λ_ _=>cd⟩).run t g =
   (match aU C x with|some a=>(⟨λt _=>F (a.run t)⟩:Stg (T->G->Looks))|none=>⟨λ_ _=>cd⟩).run t' g':=by
  intro x F hm;cases hs:aU C x with
  |none=>rfl
  |some s=>simp only[hx x hm s hs]
 cases op<;>first|rfl|skip
 case load ty x=>exact one (F:=λv=>am (an v)) (by simp[Op.operands])
 case store ty x y=>exact one (F:=λv=>am (an v)) (by simp[Op.operands])
 case slice ty x lo hi mx=>exact one (F:=λv=>am (an v)) (by simp[Op.operands])
 case mapUpdate ty x k y=>exact one (F:=λv=>am (an v)) (by simp[Op.operands])
 case insert ty x k y=>exact one (F:=λv=>am (an v)) (by simp[Op.operands])
 case entryStore ty x k y=>exact one (F:=λv=>am (an v)) (by simp[Op.operands])
 case mapEntry ty x k=>exact one (F:=λv=>⟨an v,[],(an v).map (·,ty),false⟩) (by simp[Op.operands])
 case lookup ty x k ok =>
  cases ok
  ·exact one (F:=λv=>⟨[],(an v).map (·,ty),[],false⟩) (by simp[Op.operands])
  ·exact one (F:=λv=>am (an v)) (by simp[Op.operands])
 case indexAddr ty x ix =>
  simp only[aO]
  split
  ·rename_i e s hu hs;simp only[hx x (by simp[Op.operands]) s hs]
  ·rfl
 case call c =>
  obtain⟨callee,args,argTypes⟩:=c;cases callee with
  | builtin b =>
   simp only[aO]
   split
   ·rename_i vs d;simp only[cJ d λx hm=>hx x (by simpa [Op.operands,Call.operands] using hm)]
   ·rfl
  | value fo =>
   simp only[aO]
   split
   ·rename_i fv vs f d;simp only[cJ d λx hm=>hx x (by simp[Op.operands,Call.operands]at hm ⊢;exact .inr hm),hx fo (by simp[Op.operands,Call.operands]) _ f,hh]
   ·rfl
  |invoke r m=>rfl
end
section
variable {C:Cfg}{A:Nat->Nat->Prop}{bd:Nat}{w w':World}{γ γ':Gm}{hg:Nat->AObj}{nx:Nat}
variable {t:T}{g:G}{ih:IH}
theorem TR.put{nt:Nat}{a:Act}{dst:Option Tmp}{out:Stg (T->AV->T)}{x:AV}{v:Value}(ho:qb nt dst=some out)(ht:TR w γ A bd nt t a.tmps)(hv:RV w γ A bd x v) :
  TR w γ A bd nt (out.run t x) (a.put dst v).tmps:=by
 cases dst with
 |none=>simp[qb]at ho;subst ho;exact ht
 | some d =>
  simp only[qb,aa]at ho
  split at ho
  ·rename_i hd;rw[UH]at hd;injection ho with ho;subst ho;refine⟨by simp[Act.put,ht.1],λs=>?_⟩;rw[sp_get]
   by_cases hs:s=d
   ·subst hs;rw[TO rfl];have:s<a.tmps.size:=by rw[ht.1];exact hd
    simpa [Act.put,Array.getD,this] using hv
   ·rw[TN hs];have:=ht.2 s;simp only[Act.put,UA]at this ⊢;rw[Vv (VG hs)];exact this
  ·cases ho
theorem mf{ops:Array Oper}{o:Oper}{q:Stg (T->Option Bool)}{bv:Bool}{tmps:Array Value}(hq:iV ops.toList o.guard=some q)(ht:TR w γ A bd nt t tmps)
  (h:q.run t=some bv):Region.wanted o (yielded ops tmps)=bv:=by
 unfold Region.wanted;cases hg:o.guard with
 | none =>
  rw[hg]at hq;simp[iV]at hq;subst hq;injection h with h
 | some p =>
  obtain⟨j,want⟩:=p;rw[hg]at hq;simp only[iV]at hq
  split at hq
  ·rename_i oj c
   split at hq
   ·rename_i d hd;injection hq with hq;subst hq;have a:ops[j]?=some oj:=by simpa using c
    dsimp only at h;rw[gp_run]at h;have k:=ht.2 d;simp only[yielded,a,VC,hd];generalize t.get AV.undef d=y at h k
    split at h
    ·rename_i b;injection h with h;subst h;have hb:tmps[d]?=some (.bool b):=by
      cases hrv':tmps[d]? with
      |none=>simp[UA,hrv',undef]at k;cases k
      | some v =>
       simp only[UA,hrv',TS]at k;cases k;rfl
     simp only[hb];cases want<;>cases b<;>rfl
    ·injection h with h;subst h;cases hrv':tmps[d]? with
     |none=>rfl
     | some v =>
      simp only[UA,hrv',TS]at k;cases k;rfl
    ·cases h
   ·cases hq
  ·cases hq
theorem Dr{all:List Oper}{gd:Option (Nat×Bool)}{q:Stg (T->Option Bool)}{t t':T}(hq:iV all gd=some q)
  (h:∀j b oj d,gd=some (j,b)->all[j]?=some oj->oj.dst=some d->t.get AV.undef d=t'.get AV.undef d):q.run t=q.run t':=by
 cases gd with
 |none=>simp[iV]at hq;subst hq;rfl
 | some p =>
  obtain⟨j,want⟩:=p;simp only[iV]at hq
  split at hq
  ·rename_i oj k
   split at hq
   ·rename_i d hd;injection hq with hq;subst hq;dsimp only;rw[gp_run,gp_run,h j want oj d rfl k hd]
   ·cases hq
  ·cases hq
variable {b:Frame}{a:Act}{ops:Array Oper}{i:Nat}{rest:List Nat}{k:List Item}{cs:List Frame}{o:Oper}
theorem Ep{P:Program}{d:Deferred}(ho:ops[i]?=some o)(hw:Region.wanted o (yielded ops a.tmps)=true)(hro:b.roundOf=none)
  (hrun:(execOp a.eval o).run P w=.ok (.defer d) w) :
  step P (lone (b.atR a (.inRegion ops (i::rest)::k)) cs w)=.next (lone (b.atR ({ a with defers:=d::a.defers }.put o.dst undef) (.inRegion ops rest::k)) cs w):=by
 have h:=Frame.finish_atR b { a with defers:=d::a.defers } ops i rest k undef;rw[ho]at h;simp only[VC]at h;refine step_lone_go ?_;rw[stepGR_op ho hw,hro,Oper.semAt_none,<-h];simp[stepG.apply,hrun,Frame.atR]
theorem tW{P:Program}(ho:ops[i]?=some o)(hw:Region.wanted o (yielded ops a.tmps)=false) :
  step P (lone (b.atR a (.inRegion ops (i::rest)::k)) cs w)=.next (lone (b.atR (a.put o.dst undef) (.inRegion ops rest::k)) cs w):=by
 have:=stepR_op_skip (P:=P) (b:=b) (a:=a) (k:=k) (cs:=cs) (w:=w) (ops:=ops) (i:=i) (rest:=rest) (by rw[ho];simpa using hw);rw[ho]at this;simpa using this
theorem Ie(hr:Rel C A bd w γ hg nx){df:List ADf}(ht:TR w γ A bd nt t a.tmps)(hrd:RdOk γ rd b)(hdf:DR w γ A bd df a.defers)
  {x:ADf} (h:(cE C o.op).run ih d rd t g=.dfr x) (hE:∀f e d args g y,C.ext f=some e->e d args g≠.dfr y) (ho:ops[i]?=some o) (hw:Region.wanted o (yielded ops a.tmps)=true) :
  ∃dd,DR w γ A bd (x::df) (dd::a.defers) /\
   step C.P (lone (b.atR a (.inRegion ops (i::rest)::k)) cs w)=.next (lone (b.atR ({ a with defers:=dd::a.defers }.put o.dst undef) (.inRegion ops rest::k)) cs w):=by
 have iso:∀f args,af ih d g f args≠.dfr x:=by
  intro f args;unfold af
  repeat' (first|split|rw[aa])
  all_goals (intro h;cases h)
 have orf:∀r,orF r≠.dfr x:=by intro r h;cases r<;>cases h
 have rnd:∀id args,bP ih d id args g≠.dfr x:=by
  intro id args;unfold bP
  repeat' split
  all_goals (intro h;cases h)
 unfold cE at h
 split at h
 rotate_left
 ·cases h
 rename_i f c;generalize hop:o.op=op at c;unfold cOp at c
 split at c
 ·rename_i fx args at2
  split at c
  ·split at c
   ·rename_i e he;injection c with c;subst c;exact absurd h (hE _ _ _ _ _ _ he)
   ·rw[aa]at c
    split at c
    ·injection c with c;subst c;exact absurd h (iso _ _)
    ·injection c with c;subst c;exact absurd h (orf _)
  ·cases c
 ·rename_i fo args at2 m
  split at c
  ·rename_i fv vs j l;injection c with c;subst c;dsimp only at h;unfold jG at h
   split at h
   ·split at h
    ·rename_i e he;exact absurd h (hE _ _ _ _ _ _ he)
    ·rw[aa]at h
     split at h
     ·exact absurd h (iso _ _)
     ·exact absurd h (orf _)
   ·exact absurd h (rnd _ _)
   ·cases h
  ·cases c
 ·injection c with c;subst c;cases h
 ·rename_i fo args at2
  split at c
  ·rename_i fv vs j l;injection c with c;subst c;dsimp only at h;cases rd with
   |some _=>cases h
   | none =>
    dsimp only at h;have hf:=aD j ht hr;have n:=gR ht hr l;generalize hfo:a.eval fo=vfo at hf;generalize fv.run t=y at h hf;cases hf with
    | clo _ fx xs ys vs1 us1 hl hl2 h1 h2 =>
     dsimp only at h;injection h with h;subst h;refine⟨{ target:=.fn (.func fx) us1,args:=vs1++args.map a.eval },⟨⟨fx,ys,us1,rfl,rfl,RT hl2 h2,?_⟩,hdf⟩,Ep ho hw hrd ?_⟩
     ·have:=(RT hl h1).append n;simpa using this
     ·simp only[execOp,hop,resolve,hfo,Deferred.ofValue,TV,Un,TQ]
    |_=>cases h
  ·cases c
 ·split at c
  ·rename_i s hs;injection c with c;subst c;have:=yd (t:=t) (g:=g) hs;have h:s.run t g=.dfr x:=h;rw[h]at this;exact this.elim
  ·cases c
theorem K6(hC:CfgOk C)(hi:IHOk C ih):∀(l:List Oper) (i:Nat) {t:T} {df:List ADf} {g:G} {e:Ex} {t':T} {df':List ADf} {g':G},
  ops.toList.drop i=l->(jU C nt ops.toList l).run ih (bd+1) rd t df g=.ok e t' df' g'->WF g ->
  ∀{w γ hg nx a},Rel C A bd w γ hg nx->Ext g.h hg->Free γ g g'->TR w γ A bd nt t a.tmps->DR w γ A bd df a.defers->RdOk γ rd b->pf b.kind cs ->
   e=.norm/\∃a' w' γ' hg',Fin C A bd w γ hg nx g w' γ' hg' g'/\TR w' γ' A bd nt t' a'.tmps/\DR w' γ' A bd df' a'.defers /\
    Steps C.P (lone (b.atR a (.inRegion ops (List.range' i l.length)::k)) cs w) (lone (b.atR a' k) cs w'):=by
 intro l
 induction l with
 | nil =>
  intro i t df g e t' df' g' _ h _ w γ hg nx a hr hx hf ht n v c;simp only[jU]at h;injection h with h1 h2 h3 h4;subst h1;subst h2;subst h3;subst h4;exact⟨rfl,a,w,γ,hg,Fin.refl hr,ht,n,.one stepR_region_end⟩
 | cons o rest ihl =>
  intro i t df g e t' df' g' p h z w γ hg nx a hr hx hf ht n v c;have ho:ops[i]?=some o:=by
   have:(ops.toList.drop i)[0]?=some o:=by rw[p];rfl
   simpa [Um] using this
  have m:ops.toList.drop (i+1)=rest:=by rw[<-U4,p];rfl
  have B:List.range' i (o::rest).length=i::List.range' (i+1) rest.length:=by simp[WO]
  rw[B];have exec:∀{out:Stg (T->AV->T)},qb nt o.dst=some out->Region.wanted o (yielded ops a.tmps)=true ->
    pd out.run ((jU C nt ops.toList rest).run ih (bd+1) rd) t df g ((cE C o.op).run ih (bd+1) rd t g)=.ok e t' df' g' ->
    e=.norm/\∃a' w' γ' hg',Fin C A bd w γ hg nx g w' γ' hg' g'/\TR w' γ' A bd nt t' a'.tmps/\DR w' γ' A bd df' a'.defers /\
     Steps C.P (lone (b.atR a (.inRegion ops (i::List.range' (i+1) rest.length)::k)) cs w) (lone (b.atR a' k) cs w'):=by
   intro out j hw h;have hm:=iW (op:=o.op) (d:=bd+1) (rd:=rd) (t:=t) hC.mon hi.mon z;generalize hres:(cE C o.op).run ih (bd+1) rd t g=r at h hm;have go:∀{x:AV} {g1:G},r≠.fail->(∀y,r≠.dfr y)->vOf r=x->gOf g r=g1->(jU C nt ops.toList rest).run ih (bd+1) rd (out.run t x) df g1=.ok e t' df' g' ->
     e=.norm/\∃a' w' γ' hg',Fin C A bd w γ hg nx g w' γ' hg' g'/\TR w' γ' A bd nt t' a'.tmps/\DR w' γ' A bd df' a'.defers /\
     Steps C.P (lone (b.atR a (.inRegion ops (i::List.range' (i+1) rest.length)::k)) cs w) (lone (b.atR a' k) cs w'):=by
    intro x g1 J I K H h;subst K;subst H;have w1:=hm.wf z;have L:=zT hC.mon hi.mon h w1;obtain⟨u,wa,γa,M,f1,rv,st⟩:=Eb (b:=b) (cs:=cs) (rest:=List.range' (i+1) rest.length) (k:=k) hC hi hr z ht c hx.agr hres J I (hf.le L.nx) ho hw;obtain⟨he,a',wb,γb,s,f2,tr,dr,st2⟩:=ihl (i+1) m h w1 (a:=a.put o.dst u) f1.rel (f1.ext hm hx) (f1.freed hr hm hf) ((ht.step f1.stp).put j rv)
     (by have:=n.step f1.stp;cases hd:o.dst<;>simpa [Act.put,hd] using this) (v.step f1.stp) c
    exact⟨he,a',wb,γb,s,f1.trans f2 hm L,tr,dr,Steps.trans st st2⟩
   cases r with
   |fail=>cases h
   |val x=>exact go (by simp) (by simp) rfl rfl h
   |upd x g1=>exact go (by simp) (by simp) rfl rfl h
   | dfr x =>
    obtain⟨dd,F,st⟩:=Ie (b:=b) (cs:=cs) (rest:=List.range' (i+1) rest.length) (k:=k) hr ht v n hres (λf e d args g y he hy=>by
     exact extNoDfr hC he hy) ho hw
    obtain⟨he,a',wb,γb,s,f2,tr,dr,st2⟩:=ihl (i+1) m h z (a:={ a with defers:=dd::a.defers }.put o.dst undef) hr hx hf
     (ht.put (a:={ a with defers:=dd::a.defers }) j cD)
     (by cases hd:o.dst<;>simpa [Act.put,hd] using F) v c
    exact⟨he,a',wb,γb,s,f2,tr,dr,.head st st2⟩
  simp only[jU]at h
  split at h
  ·rename_i out j
   split at h
   ·rename_i D;refine exec j ?_ h;simp[Region.wanted,D]
   ·rename_i gd D
    split at h
    ·rename_i q hq;rw[<-D]at hq;dsimp only at h
     split at h
     ·rename_i E;exact exec j (mf hq ht E) h
     ·rename_i E;have hw:=mf hq ht E;obtain⟨he,a',wb,γb,s,f2,tr,dr,st2⟩:=ihl (i+1) m h z (a:=a.put o.dst undef) hr hx hf
       (ht.put j cD) (by cases hd:o.dst<;>simpa [Act.put,hd] using n) v c
      exact⟨he,a',wb,γb,s,f2,tr,dr,.head (tW ho hw) st2⟩
     ·cases h
    ·cases h
  ·cases h where
 extNoDfr {f d:Nat} {e:Nat->List AV->G->OR} {args:List AV} {g:G} {y:ADf} (hC:CfgOk C) (he:C.ext f=some e) (hy:e d args g=.dfr y):False:=by exact (hC.noDfr f e he d args g y) hy
end
section
variable {z:AV}
theorem uD{d:TypeDesc}{x y:AV}(hx:oV d x=true)(hy:oV d y=true):∃b,mE x y=some b:=by
 cases d<;>cases x<;>simp[oV]at hx<;>cases y<;>simp[oV]at hy
 ·exact⟨_,rfl⟩
 ·rename_i k0 h n1 k2 n2;rw[qa]at hx hy;simp only[T9]at hx hy;subst hx;subst hy;exact⟨_,by simp[mE,qa];rfl⟩
 ·exact⟨_,rfl⟩
theorem yX:∀{ds:List TypeDesc} {xs ys:List AV},dt ds xs=true->dt ds ys=true->∃b,dA xs ys=some b:=by
 intro ds
 induction ds with
 |nil=>intro xs ys hx h;cases xs<;>simp[dt]at hx;cases ys<;>simp[dt]at h;exact⟨_,rfl⟩
 | cons d ds ih =>
  intro xs ys hx h;cases xs<;>simp[dt,aa]at hx;cases ys<;>simp[dt,aa]at h;obtain⟨b1,h1⟩:=uD hx.1 h.1;obtain⟨b2,h2⟩:=ih hx.2 h.2;exact⟨_,by simp only[dA,h1,h2];rfl⟩
theorem Mo{kk:KeyKind}{x y:AV}(hx:nT kk x=true)(hy:nT kk y=true):∃b,pZ x y=some b:=by
 cases kk with
 | one d =>
  simp only[nT]at hx hy;obtain⟨b,hb⟩:=uD hx hy;cases x<;>first| (cases d<;>simp[oV]at hx;done)|skip
  all_goals
   cases y<;>first| (cases d<;>simp[oV]at hy;done)| (exact⟨b,by simpa [pZ] using hb⟩)|skip
 | flat ds =>
  cases x<;>simp[nT]at hx;cases y<;>simp[nT]at hy;obtain⟨b,hb⟩:=yX hx hy;exact⟨b,by simpa [pZ] using hb⟩
 |other=>cases x<;>simp[nT]at hx
theorem GQ{k k0:AV}:∀{es:List (AV×AV)} {r:Option AV},nR k es=some r->(∃b,pZ k k0=some b) ->
  nR k (es++[(k0,z)])=some (match r with|some v=>some v|none=>if pZ k k0=some true then some z else none):=by
 intro es
 induction es with
 | nil =>
  intro r h hk;simp only[nR]at h;injection h with h;subst h;obtain⟨b,hb⟩:=hk;cases b<;>simp[nR,hb]
 | cons e es ih =>
  intro r h hk;obtain⟨k',v'⟩:=e;simp only[nR]at h;simp only[T4,nR]
  split at h
  ·injection h with h;subst h;rfl
  ·exact ih h hk
  ·cases h
theorem Fw{kk:KeyKind}{m k:T->AV}{id:Nat}{es:List (AV×AV)}{k0 v:AV}(h:dC kk z false m k t g=.val v)(hm:m t=.hmap id)
  (hg:g.h.get id=.map es) (hg':g'.h.get id=.map (es++[(k0,z)])) (hk0:nT kk k0=true):dC kk z false m k t g'=.val v:=by
 unfold dC at h ⊢;rw[aa]at h ⊢
 split at h
 ·rename_i hk;rw[TO hk];simp only[hm,G.get_eq,hg,hg']at h ⊢;cases hf:nR (k t) es with
  |none=>rw[hf]at h;cases h
  | some r =>
   rw[GQ hf (Mo hk hk0)];rw[hf]at h;cases r with
   |some v'=>exact h
   | none =>
    dsimp only at h ⊢
    by_cases hq:pZ (k t) k0=some true
    ·rw[TO hq];exact h
    ·rw[TN hq];exact h
 ·cases h
theorem RA{op:Op}(h:((aO C op).run t g).sr≠[]):∃ty x k a,op=.lookup ty x k false/\aU C x=some a /\
  (aO C op).run t g=⟨[],(an (a.run t)).map (·,ty),[],false⟩:=by
 cases op<;>simp only[aO]at h ⊢<;>try (exact absurd rfl h)
 case lookup ty x k ok =>
  cases ok
  ·dsimp only at h ⊢
   split at h
   ·rename_i a ha;exact⟨ty,x,k,a,rfl,ha,by simp[ha]⟩
   ·exact absurd rfl h
  ·dsimp only at h
   split at h<;>exact absurd rfl h
 case call c =>
  obtain⟨callee,args,at'⟩:=c;cases callee<;>simp only at h
  ·split at h
   ·dsimp only at h
    split at h
    ·rw[aa]at h;split at h<;>exact absurd rfl h
    ·exact absurd rfl h
   ·exact absurd rfl h
  ·exact absurd rfl h
  ·split at h<;>exact absurd rfl h
 all_goals (split at h<;>exact absurd rfl h)
theorem Pj{op:Op}{p:Nat×Nat}(h:p∈((aO C op).run t g).soft):∃x k a,op=.mapEntry p.2 x k/\aU C x=some a/\p.1∈an (a.run t):=by
 cases op<;>simp only[aO]at h<;>try (exact absurd h TY)
 case mapEntry ty x k =>
  split at h
  ·rename_i a ha;dsimp only at h;obtain⟨id,h1,h2⟩:=UF.1 h;subst h2;exact⟨x,k,a,rfl,ha,h1⟩
  ·exact absurd h TY
 case lookup ty x k ok =>
  cases ok<;>dsimp only at h<;>split at h<;>exact absurd h TY
 case call c =>
  obtain⟨callee,args,at'⟩:=c;cases callee<;>simp only at h
  ·split at h
   ·dsimp only at h
    split at h
    ·rw[aa]at h;split at h<;>exact absurd h TY
    ·exact absurd h TY
   ·exact absurd h TY
  ·exact absurd h TY
  ·split at h<;>exact absurd h TY
 all_goals (split at h<;>exact absurd h TY)
theorem EM{ih:IH}{ty:TypeId}{x k:Operand}{ok:Bool}(h:(cE C (.lookup ty x k ok)).run ih d rd t g=r)(hne:r≠.fail) :
  ∃a kk kt et z,aU C x=some a/\aU C k=some kk/\C.P.underlying ty=some (.map kt et)/\yK C.P et=some z /\
   (∀t g,(cE C (.lookup ty x k ok)).run ih d rd t g=dC (f_ C.P kt) z ok a.run kk.run t g)/\r=dC (f_ C.P kt) z ok a.run kk.run t g:=by
 unfold cE at h ⊢;simp only[cOp,cw]at h ⊢
 split at h
 ·rename_i f hf
  split at hf
  ·rename_i s hs;injection hf with hf;subst hf
   split at hs
   ·rename_i a kk kt et ha hk hu
    split at hs
    ·rename_i z hz;injection hs with hs;subst hs;refine⟨a,kk,kt,et,z,ha,hk,hu,hz,λt g=>?_,h.symm⟩;simp only[ha]
    ·cases hs
   ·cases hs
  ·cases hf
 ·exact absurd h.symm hne
theorem BH{ih:IH}{ty:TypeId}{x k:Operand}(h:(cE C (.mapEntry ty x k)).run ih d rd t g=r)(hne:r≠.fail) :
  ∃a kk kt et z,aU C x=some a/\aU C k=some kk/\C.P.underlying ty=some (.map kt et)/\yK C.P et=some z/\r=gc (f_ C.P kt) z a.run kk.run t g:=by
 unfold cE at h;simp only[cOp,cw]at h
 split at h
 ·rename_i f hf
  split at hf
  ·rename_i s hs;injection hf with hf;subst hf
   split at hs
   ·rename_i a kk kt et ha hk hu
    split at hs
    ·rename_i z hz;injection hs with hs;subst hs;exact⟨a,kk,kt,et,z,ha,hk,hu,hz,h.symm⟩
    ·cases hs
   ·cases hs
  ·cases hf
 ·exact absurd h.symm hne
theorem D6{kk:KeyKind}{m k:T->AV}{v:AV}(h:gc kk z m k t g=.upd v g') :
  ∃id es,m t=.hmap id/\g.h.get id=.map es/\g'=g.put id (.map (es++[(k t,z)]))/\nT kk (k t)=true:=by
 unfold gc at h;rw[aa]at h
 split at h
 ·rename_i hk
  split at h
  ·rename_i id hm
   split at h
   ·rename_i es a
    split at h
    ·cases h
    ·injection h with h1 h2;subst h2;exact⟨id,es,hm,by simpa using a,rfl,hk⟩
    ·cases h
   ·cases h
  ·cases h
 ·cases h
theorem Em{x:Foot}:∀{l:List Foot} {j0 j:Nat} {y:Foot},l[j]?=some y->(pm.getD (j0+j) 0).testBit i=false->meets y.wr (fst1 x.lk.sr)=true ->
  1<=eQ pm i x j0 l:=by
 intro l
 induction l with
 |nil=>intro j0 j y h;simp at h
 | cons a l ih =>
  intro j0 j y h h1 h2;cases j with
  | zero =>
   simp at h;subst h;simp only[eQ,aa];rw[TN]
   ·omega
   ·simp only[Vu]at h1;rw[h1,h2];simp
  | succ j =>
   have:=ih (j0:=Nat.succ j0) (by simpa using h) (by rw[show Nat.succ j0+j=j0+(j+1) by omega];exact h1) h2;simp only[eQ,aa]
   split<;>omega
theorem Cg{x:Foot}:∀{l:List Foot} {j0 j j':Nat} {y y':Foot},j<j'->l[j]?=some y->l[j']?=some y'->(pm.getD (j0+j) 0).testBit i=false->(pm.getD (j0+j') 0).testBit i=false ->
  meets y.wr (fst1 x.lk.sr)=true->meets y'.wr (fst1 x.lk.sr)=true->2<=eQ pm i x j0 l:=by
 intro l
 induction l with
 |nil=>intro j0 j j' y y' _ h;simp at h
 | cons a l ih =>
  intro j0 j j' y y' hlt h h' h1 k h2 b;cases j' with
  |zero=>omega
  | succ j' =>
   cases j with
   | zero =>
    simp at h;subst h;have:=Em (pm:=pm) (i:=i) (x:=x) (j0:=Nat.succ j0) (j:=j') (by simpa using h') (by rw[show Nat.succ j0+j'=j0+(j'+1) by omega];exact k) b;simp only[eQ,aa];rw[TN]
    ·omega
    ·simp only[Vu]at h1;rw[h1,h2];simp
   | succ j =>
    have:=ih (j0:=Nat.succ j0) (j:=j) (j':=j') (by omega) (by simpa using h) (by simpa using h') (by rw[show Nat.succ j0+j=j0+(j+1) by omega];exact h1) (by rw[show Nat.succ j0+j'=j0+(j'+1) by omega];exact k) h2 b;simp only[eQ,aa]
    split<;>omega
theorem HU{b x:Bool}(h:ay b x false=true):b=true/\x=true:=by
 cases b
 ·cases h
 ·exact⟨rfl,h⟩
theorem Eo:∀{l:List Foot} {i0:Nat},tU pm i0 l=true->∀(i j j':Nat) x y y',i<j->j<j'->l[i]?=some x->l[j]?=some y->l[j']?=some y'->x.lk.sr≠[] ->
  (pm.getD (i0+j) 0).testBit (i0+i)=false->(pm.getD (i0+j') 0).testBit (i0+i)=false->meets y.wr (fst1 x.lk.sr)=true->meets y'.wr (fst1 x.lk.sr)=true->False:=by
 intro l
 induction l with
 |nil=>intro i0 _ i j j' x y y' _ _ h;simp at h
 | cons a l ih =>
  intro i0 h i j j' x y y' m n hx f d c h1 k h2 b;obtain⟨hc,h⟩:=HU h;cases j' with
  |zero=>omega
  | succ j' =>
   cases j with
   |zero=>omega
   | succ j =>
    cases i with
    | zero =>
     simp at hx;subst hx;have e:Nat.ble (eQ pm i0 a (Nat.succ i0) l) 1=true:=by
      cases hsr':a.lk.sr with
      |nil=>exact absurd hsr' c
      |cons p r=>rw[hsr']at hc;exact hc
     rw[Uw]at e;have:=Cg (pm:=pm) (i:=i0) (x:=a) (j0:=Nat.succ i0) (j:=j) (j':=j') (by omega) (by simpa using f) (by simpa using d)
      (by rw[show Nat.succ i0+j=i0+(j+1) by omega];exact h1) (by rw[show Nat.succ i0+j'=i0+(j'+1) by omega];exact k) h2 b
     omega
    | succ i =>
     refine ih h i j j' x y y' (by omega) (by omega) (by simpa using hx) (by simpa using f) (by simpa using d) c ?_ ?_ h2 b
     ·rw[show Nat.succ i0+j=i0+(j+1) by omega,show Nat.succ i0+i=i0+(i+1) by omega];exact h1
     ·rw[show Nat.succ i0+j'=i0+(j'+1) by omega,show Nat.succ i0+i=i0+(i+1) by omega];exact k
theorem eO{a b:List Nat}{x:Nat}(ha:x∈a)(hb:x∈b):meets a b=true:=by unfold meets;exact List.any_eq_true.2 ⟨x,ha,by simpa using hb⟩
theorem pW{l:List (Nat×Nat)}{x:Nat}(h:x∈l.map (·.1)):x∈fst1 l:=h
theorem He{p:Nat×Nat}:∀{l:List (Nat×Nat)},Ef p l=true->p∈l:=by
 intro l
 induction l with
 |nil=>intro h;cases h
 | cons q l ih =>
  intro h;simp only[Ef,aa]at h
  split at h
  ·rename_i hc;simp only[TM]at hc;have h1:=aH hc.1;have h2:=aH hc.2;exact Us.2 (.inl (Prod.ext h1 h2))
  ·exact UC _ (ih h)
end
section
variable {j:Nat}
def TraAt(C:Cfg)(ih:IH)(d:Nat)(rd:Option Nat)(nt:Nat)(ops:Array Oper)(q:Bool)(o:Oper)(t t':T)(g g':G)(f:Foot):Prop :=
 ∃out gd,qb nt o.dst=some out/\iV ops.toList o.guard=some gd /\
  ((gd.run t=some false/\t'=out.run t .undef/\g'=g/\f.wr=[]) \/
   (gd.run t=some true/\∃r,(cE C o.op).run ih d rd t (aR g [])=r/\r≠.fail/\(∀a,r≠.dfr a)/\t'=out.run t (vOf r)/\g'.h=(gOf (aR g []) r).h /\
    f.wr=(gOf (aR g []) r).lg/\(gOf (aR g []) r).nx<=g'.nx/\(q=false->f.lk=(aO C o.op).run t g/\(gOf (aR g []) r).nx<g'.nx)))
def iZ(ops:Array Oper)(i:Nat):Option Tmp:=(ops[i]?).bind (·.dst)
structure Reg (C:Cfg) (ih:IH) (bd:Nat) (rd:Option Nat) (nt:Nat) (ops:Array Oper) (q:Bool) (T':Nat->T) (G':Nat->G) (F':Nat->Foot) (hg0:Nat->AObj):Prop where
 hC:CfgOk C
 hi:IHOk C ih
 tra:∀i o,ops[i]?=some o->TraAt C ih (bd+1) rd nt ops q o (T' i) (T' (i+1)) (G' i) (G' (i+1)) (F' i)
 wf0:WF (G' 0)
 ext0:Ext (G' 0).h hg0
 free0:∀id,(G' 0).nx<=id->id<=(G' ops.size).nx->hg0 id=.none
 apart:∀i j,i<j->j<ops.size->((bo ops.toList []).getD j 0).testBit i=true\/bF (F' i) (F' j)=true
 once:∀i j j',i<j->j<j'->j'<ops.size->(F' i).lk.sr≠[]->((bo ops.toList []).getD j 0).testBit i=false->((bo ops.toList []).getD j' 0).testBit i=false ->
  meets (F' j).wr (fst1 (F' i).lk.sr)=true->meets (F' j').wr (fst1 (F' i).lk.sr)=true->False
 slots:∀i j oi oj,i<j->ops[i]?=some oi->ops[j]?=some oj->((bo ops.toList []).getD j 0).testBit i=true\/kg ops.toList oi oj=true
 guards:∀i o j b,ops[i]?=some o->o.guard=some (j,b)->((bo ops.toList []).getD i 0).testBit j=true
 quiet:q=true->∀i,i<ops.size->(F' i).wr=[]
section
variable {C:Cfg}{A:Nat->Nat->Prop}{bd:Nat}{ih:IH}{rd:Option Nat}{nt:Nat}{ops:Array Oper}{q:Bool}{T':Nat->T}{G':Nat->G}{F':Nat->Foot}{hg0:Nat->AObj}
theorem TraAt.facts(hC:CfgOk C)(hi:IHOk C ih){o:Oper}{t':T}{f:Foot}(h:TraAt C ih d rd nt ops q o t t' g g' f)(hwf:WF g) :
  WF g'/\g.nx<=g'.nx/\(∀id,id ∉ f.wr->g'.h.get id=g.h.get id)/\∀id∈f.wr,id<g'.nx/\(g.h.get id=.none->g.nx<=id):=by
 obtain⟨out,gd,_,_,h⟩:=h;rcases h with⟨_,_,rfl,hw⟩|⟨_,r,hr,l,_,_,j,hw,i,_⟩
 ·rw[hw];exact⟨hwf,TG _,λ_ _=>rfl,λ_ h=>absurd h TY⟩
 ·have hm:Mon (aR g []) (gOf (aR g []) r):=by rw[<-hr];exact iW hC.mon hi.mon hwf.setLog
  obtain⟨n,a,b,c⟩:=hm.new;have e:(gOf (aR g []) r).lg=n:=by simpa using a
  have k:g.nx<=(gOf (aR g []) r).nx:=by have:=hm.nx;simpa using this
  refine⟨λid hid=>?_,T6 k i,λid hid=>?_,λid hid=>?_⟩
  ·rw[j];exact hm.wf hwf.setLog id (by omega)
  ·rw[j,b id (by rw[<-e,<-hw];exact hid)];simp
  ·have:=c id (by rw[<-e,<-hw];exact hid);simp only[setLog_h,setLog_nx]at this;exact⟨by omega,this.2⟩
theorem Reg.facts(R:Reg C ih bd rd nt ops q T' G' F' hg0):∀i,i<=ops.size->WF (G' i):=by
 intro i
 induction i with
 |zero=>intro _;exact R.wf0
 | succ i ih' =>
  intro h;have ho:ops[i]?=some ops[i]:=TZ (by omega);exact (TraAt.facts R.hC R.hi (R.tra i _ ho) (ih' (by omega))).1
theorem Reg.at(R:Reg C ih bd rd nt ops q T' G' F' hg0){i:Nat}(h:i<ops.size) :
  (G' i).nx<=(G' (i+1)).nx/\(∀id,id ∉ (F' i).wr->(G' (i+1)).h.get id=(G' i).h.get id)/\∀id∈(F' i).wr,id<(G' (i+1)).nx/\((G' i).h.get id=.none->(G' i).nx<=id):=by
 have ho:ops[i]?=some ops[i]:=TZ h;exact (TraAt.facts R.hC R.hi (R.tra i _ ho) (R.facts i (by omega))).2
theorem Reg.nx_mono(R:Reg C ih bd rd nt ops q T' G' F' hg0){i:Nat}(h:i<=j)(hj:j<=ops.size):(G' i).nx<=(G' j).nx:=by
 induction j with
 | zero=>have:i=0:=by omega
         subst this;exact TG _
 | succ j ih' =>
  by_cases hij:i=j+1
  ·subst hij;exact TG _
  ·exact T6 (ih' (by omega) (by omega)) (R.at (by omega)).1
theorem Reg.keepT(R:Reg C ih bd rd nt ops q T' G' F' hg0)(hj:j<ops.size){s:Nat}(h:iZ ops j≠some s):(T' (j+1)).get AV.undef s=(T' j).get AV.undef s:=by
 have ho:ops[j]?=some ops[j]:=TZ hj;obtain⟨out,gd,k,_,h'⟩:=R.tra j _ ho;have key:∀x,(out.run (T' j) x).get AV.undef s=(T' j).get AV.undef s:=by
  intro x;simp only[iZ,ho,VC]at h;cases hd:ops[j].dst with
  |none=>rw[hd]at k;simp[qb]at k;subst k;rfl
  | some d =>
   rw[hd]at k h;simp only[qb,aa]at k
   split at k
   ·injection k with k;subst k;rw[sp_get,TN];rintro rfl;exact h rfl
   ·cases k
 rcases h' with⟨_,h1,_⟩|⟨_,r,_,_,_,h1,_⟩
 ·rw[h1,key]
 ·rw[h1,key]
def Down(ops:Array Oper)(S:Nat->Prop):Prop:=∀j o,ops[j]?=some o->S j->∀e∈o.after.toList,Region.binds .any e=true->S e.on
theorem Down.mask{S:Nat->Prop}(h:Down ops S){i:Nat}(hb:((bo ops.toList []).getD j 0).testBit i=true)(hj:S j):S i :=
 Bi (S:=S) (all:=ops.toList) (λj o ho=>h j o (by simpa using ho)) ops.toList [] [] rfl rfl (λj i hj=>by simp at hj) j i hb hj
theorem OQ(S:Nat->Prop):∀n,∃t:T,∀s,t.get AV.undef s=ov S (λi s=>iZ ops i=some s) (λi s=>(T' i).get AV.undef s) (λs=>(T' 0).get AV.undef s) n s:=by
 intro n
 induction n with
 |zero=>exact⟨T' 0,λs=>rfl⟩
 | succ n ih' =>
  obtain⟨t,ht⟩:=ih'
  by_cases hS:S n
  ·cases hd:iZ ops n with
   |none=>exact⟨t,λs=>by simp only[ov];rw[TN (by rw[hd];simp)];exact ht s⟩
   | some d =>
    refine⟨(sp AV.undef d).run t ((T' (n+1)).get AV.undef d),λs=>?_⟩;rw[sp_get];simp only[ov]
    by_cases hs:s=d
    ·subst hs;rw[TO rfl,TO ⟨hS,hd⟩]
    ·rw[TN hs,TN (by rw[hd];rintro⟨_,h⟩;exact hs (by injection h with h;exact h.symm))];exact ht s
  ·exact⟨t,λs=>by simp only[ov];rw[TN (λh=>hS h.1)];exact ht s⟩
structure Inv (C:Cfg) (A:Nat->Nat->Prop) (bd nt:Nat) (ops:Array Oper) (T':Nat->T) (G':Nat->G) (F':Nat->Foot) (hg0:Nat->AObj) (N:Nat) (w0:World) (γ0:Gm) (df0:List Deferred)
  (S:Nat->Prop) (a:Act) (w:World) (γ:Gm) (hg:Nat->AObj):Prop where
 rel:Rel C A bd w γ hg N
 stp:Stp w0 γ0 w γ
 size:a.tmps.size=nt
 slots:∀s,RV w γ A bd (ov S (λi s=>iZ ops i=some s) (λi s=>(T' i).get AV.undef s) (λs=>(T' 0).get AV.undef s) ops.size s) (a.tmps.getD s undef)
 objs:∀id,hg id=ov S (λi id=>id∈(F' i).wr) (λi id=>(G' i).h.get id) hg0 ops.size id
 dfr:a.defers=df0
theorem ko{x y:Foot}(h:jx x y=true){id:Nat}(hid:id∈x.wr):y.lk.big=false/\id ∉ y.wr/\id ∉ y.lk.rd/\id ∉ y.lk.sr.map (·.1):=by
 unfold jx at h
 split at h
 ·rename_i he;rw[he]at hid;exact absurd hid TY
 ·simp only[TM,Vd]at h;obtain⟨⟨⟨h1,h2⟩,h3⟩,h4⟩:=h;refine⟨h1,λh=>?_,λh=>?_,λh=>?_⟩
  ·rw[eO hid h]at h2;cases h2
  ·rw[eO hid h]at h3;cases h3
  ·rw[eO hid (pW h)]at h4;cases h4
theorem tE{x y:Foot}(h:fY x y=true){id:Nat}(hid:id∈x.wr):y.lk.big=false/\id ∉ y.wr/\id ∉ y.lk.rd/\(id∈y.lk.sr.map (·.1)->∀p∈y.lk.sr,p∈x.lk.soft):=by
 unfold fY at h
 split at h
 ·rename_i he;rw[he]at hid;exact absurd hid TY
 ·simp only[TM,Vd,UB]at h;obtain⟨⟨⟨h1,h2⟩,h3⟩,h4⟩:=h;refine⟨h1,λh=>?_,λh=>?_,λh p hp=>?_⟩
  ·rw[eO hid h]at h2;cases h2
  ·rw[eO hid h]at h3;cases h3
  ·rcases h4 with h4|h4
   ·rw[eO hid (pW h)]at h4;cases h4
   ·exact He (Ue.1 h4 p hp)
theorem c_{x y:Foot}(h:bF x y=true):jx x y=true/\fY y x=true:=by unfold bF at h;simpa using h
theorem lL{all:List Oper}{x y:Oper}(h:kg all x y=true) :
  (∀d,x.dst=some d->d ∉ uk all y/\y.dst≠some d)/\(∀d,y.dst=some d->d ∉ uk all x):=by
 unfold kg at h;simp only[TM]at h;refine⟨λd hd=>?_,λd hd=>?_⟩
 ·have:=h.1;rw[hd]at this;simp only[TM,Vd,bne_iff_ne,ne_eq]at this;exact⟨λhm=>(by have h1:=this.1;rw[Wm.2 hm]at h1;cases h1),this.2⟩
 ·have:=h.2;rw[hd]at this;simp only[Vd]at this;intro hm;rw[Wm.2 hm]at this;cases this
variable {N:Nat}{w0:World}{γ0:Gm}{df0:List Deferred}{S:Nat->Prop}{a:Act}{w:World}{γ:Gm}{hg:Nat->AObj}
variable {b:Frame}{i:Nat}{rest:List Nat}{k:List Item}{cs:List Frame}{o:Oper}
theorem Reg.good(R:Reg C ih bd rd nt ops q T' G' F' hg0)(I:Inv C A bd nt ops T' G' F' hg0 N w0 γ0 df0 S a w γ hg)(hin:i<=ops.size){id:Nat}
  (h:∀j,j<ops.size->id∈(F' j).wr->(S j↔j<i)) (hne:(G' i).h.get id≠.none):hg id=(G' i).h.get id:=by
 rw[I.objs id];rcases MM (S:=S) (wr:=λi id=>id∈(F' i).wr) (val:=λi id=>(G' i).h.get id) (base:=hg0) (k:=id) hin (λj hj hw=>(R.at hj).2.1 id hw) h with⟨_,h2⟩|⟨_,h2,h3⟩
 ·exact h2
 ·rw[h2,h3];exact R.ext0 id (by rw[<-h3];exact hne)
theorem Mc(R:Reg C ih bd rd nt ops q T' G' F' hg0)(I:Inv C A bd nt ops T' G' F' hg0 N w0 γ0 df0 S a w γ hg)(hN:(G' ops.size).nx<=N)
  (ho:ops[i]?=some o) (hS:¬S i) (hdown:Down ops S) (hready:∀e∈o.after.toList,Region.binds .any e=true->S e.on) (hcalm:pf b.kind cs) :
  ∃a' w' γ' hg',Inv C A bd nt ops T' G' F' hg0 N w0 γ0 df0 (λj=>S j\/j=i) a' w' γ' hg' /\
   Steps C.P (lone (b.atR a (.inRegion ops (i::rest)::k)) cs w) (lone (b.atR a' (.inRegion ops rest::k)) cs w'):=by
 have hi:i<ops.size:=(UR.1 ho).1;have hf:Down ops (λj=>S j\/j=i):=by
  intro j oj B E e he hb;rcases E with E|rfl
  ·exact .inl (hdown j oj B E e he hb)
  ·rw[ho]at B;injection B with B;subst B;exact .inl (hready e he hb)
 have ahead:∀j,j≠i->((bo ops.toList []).getD i 0).testBit j=true->S j:=by
  intro j E hb;rcases hf.mask hb (.inr rfl) with h|h
  ·exact h
  ·exact absurd h E
 have behind:∀j,S j->((bo ops.toList []).getD j 0).testBit i≠true:=λj E hb=>hS (hdown.mask hb E);have Z:iZ ops i=o.dst:=by simp[iZ,ho]
 have ki:∀s∈uk ops.toList o,ov S (λi s=>iZ ops i=some s) (λi s=>(T' i).get AV.undef s) (λs=>(T' 0).get AV.undef s) ops.size s=(T' i).get AV.undef s:=by
  intro s hs;have h:∀j,j<ops.size->iZ ops j=some s->(S j↔j<i):=by
   intro j E hd;have B:ops[j]?=some ops[j]:=TZ E;have hc:ops[j].dst=some s:=by simpa [iZ,B] using hd
   constructor
   ·intro p;rcases Nat.lt_trichotomy j i with h|h|h
    ·exact h
    ·subst h;exact absurd p hS
    ·rcases R.slots i j _ _ h ho B with hb|hb
     ·exact absurd hb (behind j p)
     ·exact absurd hs ((lL hb).2 s hc)
   ·intro hlt;rcases R.slots j i _ _ hlt B ho with hb|hb
    ·exact ahead j (by omega) hb
    ·exact absurd hs ((lL hb).1 s hc).1
  rcases MM (S:=S) (wr:=λi s=>iZ ops i=some s) (val:=λi s=>(T' i).get AV.undef s) (base:=λs=>(T' 0).get AV.undef s) (k:=s) (by omega:i<=ops.size) (λj E hw=>R.keepT E hw) h with⟨_,h2⟩|⟨_,h2,h3⟩
  ·exact h2
  ·rw[h2,<-h3]
 obtain⟨ts,kl⟩:=OQ (ops:=ops) (T':=T') S ops.size;have h8:TR w γ A bd nt ts a.tmps:=⟨I.size,λs=>by rw[kl s];exact I.slots s⟩;have kq:∀s∈uk ops.toList o,ts.get AV.undef s=(T' i).get AV.undef s:=λs hs=>by rw[kl s,ki s hs]
 have L:Cj C ts (T' i) o.op.operands.toList:=by intro x hx s hs;refine GB hs λn hn=>kq n ?_;subst hn;exact Vx _ (List.mem_filterMap.2 ⟨_,hx,rfl⟩)
 obtain⟨out,gd,c,ka,k8⟩:=R.tra i o ho;have kv:gd.run ts=gd.run (T' i):=by refine Dr ka λj b' oj d hg' B hd=>kq d ?_;refine Vt _ ?_;simp only[hg',B,hd];simp
 have a4:∀s,iZ ops i=some s->∀j,i<j->j<ops.size->S j->¬iZ ops j=some s:=by
  intro s hd j X E p hc;have B:ops[j]?=some ops[j]:=TZ E;rcases R.slots i j _ _ X ho B with hb|hb
  ·exact behind j p hb
  ·exact ((lL hb).1 s (Z ▸ hd)).2 (by simpa [iZ,B] using hc)
 have slots':∀{w':World} {γ':Gm} {x:AV} {v:Value},Stp w γ w' γ'->RV w' γ' A bd x v->T' (i+1)=out.run (T' i) x ->
   (a.put o.dst v).tmps.size=nt/\∀s,RV w' γ' A bd (ov (λj=>S j\/j=i) (λi s=>iZ ops i=some s) (λi s=>(T' i).get AV.undef s) (λs=>(T' 0).get AV.undef s) ops.size s) ((a.put o.dst v).tmps.getD s undef):=by
  intro w' γ' x v b2 hv hT;have h1:=(h8.step b2).put c hv;refine⟨h1.1,λs=>?_⟩;have h2:=h1.2 s
  by_cases hs:iZ ops i=some s
  ·rw[ML (wr:=λi s=>iZ ops i=some s) hi hs (a4 s hs),hT];rw[Z]at hs;rw[hs]at c h2 ⊢;simp only[qb,aa]at c
   split at c
   ·injection c with c;subst c;simp only[sp_get,if_true]at h2 ⊢;exact h2
   ·cases c
  ·rw[Ee (wr:=λi s=>iZ ops i=some s) hs,<-kl s];have:(out.run ts x).get AV.undef s=ts.get AV.undef s:=by
    cases hd:o.dst with
    |none=>rw[hd]at c;simp[qb]at c;subst c;rfl
    | some d =>
     rw[hd]at c;simp only[qb,aa]at c
     split at c
     ·injection c with c;subst c;rw[sp_get,TN];rintro rfl;exact hs (by rw[Z,hd])
     ·cases c
   rw[this]at h2;exact h2
 rcases k8 with⟨hq,hT,hG,hW⟩|⟨hq,r,hr,hk,a2,hT,hH,hW,a6,kc⟩
 ·
  rw[<-kv]at hq;have hw:=mf ka h8 hq;obtain⟨s1,s2⟩:=slots' (Stp.refl w γ) cD hT;refine⟨_,w,γ,hg,⟨I.rel,I.stp,s1,s2,λid=>?_,?_⟩,.one (tW ho hw)⟩
  ·rw[I.objs id];exact (Ee (by rw[hW];exact TY)).symm
  ·have:=I.dfr;cases hd:o.dst<;>simpa [Act.put,hd] using this
 ·
  rw[<-kv]at hq;have hw:=mf ka h8 hq;have b3:WF (aR (G' i) []):=(R.facts i (by omega)).setLog;rw[<-Gz L]at hr;have h5:Free γ (aR (G' i) []) (gOf (aR (G' i) []) r):=by
   intro id h1 h2;simp only[setLog_nx]at h1;rw[I.rel.none_iff,I.objs id,Bc (m:=0) (Uj _)]
   ·exact R.free0 id (T6 (R.nx_mono (Uj i) (by omega)) h1) (T6 h2 (T6 a6 (R.nx_mono (by omega) (TG _))))
   ·intro j _ E p hw;cases q with
    |true=>rw[R.quiet rfl j E]at hw;exact TY hw
    | false =>
     have hlt:id<(G' (i+1)).nx:=by have:=(kc rfl).2;omega
     rcases Nat.lt_trichotomy j i with h|h|h
     ·have:=((R.at E).2.2 id hw).1;have:=R.nx_mono (show j+1<=i by omega) (by omega);omega
     ·subst h;exact hS p
     ·have kn:id∈(F' i).wr:=U9 λhn=>by
       have key:∀m,i<m->m<=j->(G' m).h.get id=.none:=by
        intro m
        induction m with
        |zero=>intro h;omega
        | succ m ihm =>
         intro b6 b7
         by_cases hmi:m=i
         ·subst hmi;rw[(R.at (by omega)).2.1 id hn];exact R.facts m (by omega) id h1
         ·have:=ihm (by omega) (by omega)
          by_cases hm:id∈(F' m).wr
          ·have h3:=((R.at (i:=m) (by omega)).2.2 id hm).2 this;have h4:=R.nx_mono (show i+1<=m by omega) (by omega);omega
          ·rw[(R.at (by omega)).2.1 id hm];exact this
       have h3:=((R.at E).2.2 id hw).2 (key j h (TG _));have h4:=R.nx_mono (show i+1<=j by omega) (by omega);omega
      rcases R.apart i j h E with hb|hb
      ·exact behind j p hb
      ·exact (ko (c_ hb).1 kn).2.1 hw
  have fin:∀{gs:G} {u:Value} {w':World} {γ':Gm} {hg':Nat->AObj},Fin C A bd w γ hg N gs w' γ' hg' (gOf (aR (G' i) []) r)->gs.lg=[]->RV w' γ' A bd (vOf r) u ->
    Steps C.P (lone (b.atR a (.inRegion ops (i::rest)::k)) cs w) (lone (b.atR (a.put o.dst u) (.inRegion ops rest::k)) cs w') ->
    ∃a' w' γ' hg',Inv C A bd nt ops T' G' F' hg0 N w0 γ0 df0 (λj=>S j\/j=i) a' w' γ' hg' /\
     Steps C.P (lone (b.atR a (.inRegion ops (i::rest)::k)) cs w) (lone (b.atR a' (.inRegion ops rest::k)) cs w'):=by
   intro gs u w' γ' hg' f hh hv st;obtain⟨s1,s2⟩:=slots' f.stp hv hT;have av:(gOf (aR (G' i) []) r).nx<=N:=T6 a6 (T6 (R.nx_mono (by omega) (TG _)) hN);refine⟨_,w',γ',hg',⟨?_,I.stp.trans f.stp,s1,s2,λid=>?_,?_⟩,st⟩
   ·have:=f.rel;rw[show Nat.max N (gOf (aR (G' i) []) r).nx=N from Nat.max_eq_left av]at this;exact this
   ·obtain⟨n,e1,e2,e3⟩:=f.new;have en:(F' i).wr=n:=by rw[hW,e1,hh,T3]
    by_cases t:id∈(F' i).wr
    ·rw[e2 id (en ▸ t),<-hH];refine (ML (wr:=λi id=>id∈(F' i).wr) (val:=λi id=>(G' i).h.get id) hi t λj X E p hw=>?_).symm;rcases R.apart i j X E with hb|hb
     ·exact behind j p hb
     ·exact (ko (c_ hb).1 t).2.1 hw
    ·rw[e3 id (en ▸ t),I.objs id];exact (Ee (wr:=λi id=>id∈(F' i).wr) t).symm
   ·have:=I.dfr;cases hd:o.dst<;>simpa [Act.put,hd] using this
  have O:∀id,(q=false->(F' i).lk.big=true\/id∈(F' i).lk.rd\/(id∈(F' i).lk.sr.map (·.1)/\∀j,i<j->j<ops.size->S j->id ∉ (F' j).wr)) ->
    (G' i).h.get id≠.none->hg id=(G' i).h.get id:=by
   intro id F D;refine R.good I (by omega) (λj E hw=>?_) D;cases q with
   |true=>rw[R.quiet rfl j E]at hw;exact absurd hw TY
   | false =>
    have F:=F rfl;constructor
    ·intro p;rcases Nat.lt_trichotomy j i with h|h|h
     ·exact h
     ·subst h;exact absurd p hS
     ·rcases R.apart i j h E with hb|hb
      ·exact absurd hb (behind j p)
      ·obtain⟨h1,h2,h3,h4⟩:=tE (c_ hb).2 hw;rcases F with hl|hl|⟨_,hl⟩
       ·rw[h1]at hl;cases hl
       ·exact absurd hl h3
       ·exact absurd hw (hl j h E p)
    ·intro hlt;rcases R.apart j i hlt hi with hb|hb
     ·exact ahead j (by omega) hb
     ·obtain⟨h1,h2,h3,h4⟩:=ko (c_ hb).1 hw;rcases F with hl|hl|⟨hl,_⟩
      ·rw[h1]at hl;cases hl
      ·exact absurd hl h3
      ·exact absurd hl h4
  have k9:(aO C o.op).run ts (aR (G' i) [])=(aO C o.op).run (T' i) (G' i):=EL (by simp) L
  by_cases hsoft:q=false/\∃id j,id∈(F' i).lk.sr.map (·.1)/\i<j/\j<ops.size/\S j/\id∈(F' j).wr
  ·
   obtain⟨rfl,id,j,t,X,E,p,H⟩:=hsoft;have W:=(kc rfl).1;have B:ops[j]?=some ops[j]:=TZ E;have k4:((bo ops.toList []).getD j 0).testBit i=false:=by have:=behind j p;simpa using this
   have ar:bF (F' i) (F' j)=true:=(R.apart i j X E).resolve_left (behind j p);obtain⟨_,_,_,h4⟩:=tE (c_ ar).2 H;have h4:=h4 t;have Q:(F' i).lk.sr≠[]:=by intro h;rw[h]at t;simp at t
   rw[W]at Q;obtain⟨ty,x,kx,a0,hp,k7,ks⟩:=RA Q;rw[hp]at hr;obtain⟨a1,kk,kt,et,z,h9,b9,hu,hz,kp,K⟩:=EM hr hk;rw[k7]at h9;injection h9 with h9;subst h9;have ag:∃v,r=.val v:=by
    rw[K];have:Small (aR (G' i) []) (dC (f_ C.P kt) z false a0.run kk.run ts (aR (G' i) [])):=by
     unfold dC;rw[aa]
     repeat' split
     all_goals trivial
    cases hrr:dC (f_ C.P kt) z false a0.run kk.run ts (aR (G' i) []) with
    |fail=>rw[hrr]at K;exact absurd K hk
    |val v=>exact⟨v,rfl⟩
    | upd v g' =>
     exfalso;unfold dC at hrr;rw[aa]at hrr
     repeat' (split at hrr)
     all_goals cases hrr
    |dfr x=>rw[hrr]at this;exact this.elim
   obtain⟨v,hv⟩:=ag;subst hv;have ea0:a0.run ts=a0.run (T' i):=L x (by rw[hp];simp[Op.operands]) a0 k7;have J:id∈an (a0.run (T' i)):=by rw[W,ks]at t;simpa using t
   have hmap:∃es,a0.run ts=.hmap id/\(G' i).h.get id=.map es:=by
    have l:=K.symm;unfold dC at l;rw[aa]at l
    split at l
    ·rw[<-ea0]at J;generalize a0.run ts=y at J l;cases y<;>simp[an]at J
     ·cases l
     ·cases l
     ·subst J;simp only[G.get_eq,setLog_h]at l
      split at l
      ·rename_i es M
       split at M
       ·rename_i es' kr;injection M with M;subst M;exact⟨_,rfl,kr⟩
       ·cases M
      ·cases l
    ·cases l
   obtain⟨es,kz,kd⟩:=hmap;have h7:(id,ty)∈(F' j).lk.soft:=h4 _ (by rw[W,ks];simpa using J);obtain⟨outj,gdj,az,b4,ha⟩:=R.tra j _ B;rcases ha with⟨_,_,_,k6⟩|⟨_,rj,a9,k2,a3,b8,al,k6,b5,ky⟩
   ·rw[k6]at H;exact absurd H TY
   rw[(ky rfl).1]at h7;obtain⟨xj,kj,aj,k3,ao,V⟩:=Pj h7;dsimp only at k3 V;rw[k3]at a9;obtain⟨aj',kkj,ktj,etj,zj,U,bb,ht,hy,ke⟩:=BH a9 k2;rw[ao]at U;injection U with U;subst U;rw[hu]at ht;injection ht with ht;injection ht with ac ad;subst ac;subst ad;rw[hz]at hy;injection hy with hy;subst hy;cases rj with
   |fail=>exact absurd rfl k2
   |val v=>rw[k6]at H;simp[gOf]at H
   |dfr x=>exact absurd rfl (a3 x)
   | upd vj gj =>
    obtain⟨idj,esj,q1,q2,q3,q4⟩:=D6 ke.symm;rw[q1]at V;simp[an]at V;subst V;have h6:∀m,i<m->m<ops.size->S m->id∈(F' m).wr->m=j:=by
     intro m kb hm k5 T;refine U9 λhmj=>?_;have hb:((bo ops.toList []).getD m 0).testBit i=false:=by simpa using behind m k5
     have ab:(F' i).lk.sr≠[]:=by rw[W];exact Q
     rcases Vn m j with h|h
     ·exact R.once i m j kb h E ab hb k4 (eO T (pW t)) (eO H (pW t))
     ·exact R.once i j m X (by omega) hm ab k4 hb (eO H (pW t)) (eO T (pW t))
    have kn:(F' i).wr=[]:=by rw[hW];simp[gOf]
    have kf:(G' j).h.get id=(G' i).h.get id:=by
     have key:∀m,i<=m->m<=j->(G' m).h.get id=(G' i).h.get id:=by
      intro m
      induction m with
      | zero=>intro h1 _;have:i=0:=by omega
              subst this;rfl
      | succ m ihm =>
       intro h1 h2
       by_cases kb:i=m+1
       ·subst kb;rfl
       ·rw[(R.at (by omega)).2.1 id ?_]
        ·exact ihm (by omega) (by omega)
        ·intro T
         by_cases hmi:m=i
         ·subst hmi;rw[kn]at T;exact TY T
         ·rcases R.apart m j (by omega) E with hb|hb
          ·have k5:=hdown.mask hb p;exact absurd (h6 m (by omega) (by omega) k5 T) (by omega)
          ·exact (ko (c_ hb).1 T).2.1 H
     exact key j (by omega) (TG _)
    have M:esj=es:=by
     have h1:(G' j).h.get id=.map esj:=by simpa using q2
     rw[kf,kd]at h1;injection h1 with h1;exact h1.symm
    subst M;have a5:hg id=.map (esj++[(kkj.run (T' j),z)]):=by rw[I.objs id,Bc (m:=j+1) (by omega) (λm h1 h2 h3 h4=>by have:=h6 m (by omega) h2 h3 h4;omega)];simp only[ov];rw[TO ⟨p,H⟩,al,q3];simp[gOf,RQ]
    let gs:G:=⟨(G' i).h.put id (.map (esj++[(kkj.run (T' j),z)])),(G' i).nx,[]⟩
    have hh:gs.h.get id=.map (esj++[(kkj.run (T' j),z)]):=by simp[gs,RQ]
    have b1:(cE C o.op).run ih (bd+1) rd ts gs=.val v:=by rw[hp,kp];exact Fw K.symm kz (by simpa using kd) hh q4
    have as:id<(G' i).nx:=Nat.lt_of_not_le λh=>by have:=R.facts i (by omega) id h;rw[kd]at this;cases this
    have ai:WF gs:=λid' h'=>by have h':(G' i).nx<=id':=h';simp only[gs,RQ];rw[TN (by omega)];exact R.facts i (by omega) id' h'
    have Y:Agr ((aO C o.op).run ts gs) gs hg:=by
     have e:(aO C o.op).run ts gs=⟨[],(an (a0.run ts)).map (·,ty),[],false⟩:=by rw[hp];simp[aO,k7]
     rw[e];simp only[Agr,kz,an];intro id' k1 _;simp at k1;subst k1;rw[a5,hh]
    obtain⟨u,w',γ',hg',f,rv,st⟩:=Eb (b:=b) (cs:=cs) (rest:=rest) (k:=k) R.hC R.hi I.rel ai h8 hcalm Y b1 hk a2 (λid' h1 h2=>h5 id' (by simpa [gs] using h1) (by simpa [gs,gOf] using h2)) ho hw;refine fin (gs:=gs) (u:=u) (w':=w') (γ':=γ') (hg':=hg') ⟨?_,f.stp,?_⟩ rfl rv st
    ·have:=f.rel;simpa [gOf,gs] using this
    ·obtain⟨n,e1,e2,e3⟩:=f.new;have:n=[]:=by simpa [gOf,gs] using e1
     subst this;exact⟨[],by simp[gOf,gs],λ_ h=>absurd h TY,e3⟩
  ·have Y:Agr ((aO C o.op).run ts (aR (G' i) [])) (aR (G' i) []) hg:=by
    cases hqq:q with
    | true =>
     refine Ext.agr λid D=>?_;simp only[setLog_h]at D ⊢;refine O id (λh=>?_) D;rw[hqq]at h;cases h
    | false =>
     rw[k9,<-(kc hqq).1];unfold Agr
     split
     ·rename_i hb;exact λid D=>by simp only[setLog_h]at D ⊢;exact O id (λ_=>.inl hb) D
     ·intro id t D;simp only[setLog_h]at D ⊢;refine O id (λ_=>.inr ?_) D;rcases Uk.1 t with h|h
      ·exact .inl h
      ·exact .inr ⟨h,λj h1 h2 h3 h4=>hsoft ⟨hqq,id,j,h,h1,h2,h3,h4⟩⟩
   obtain⟨u,w',γ',hg',f,rv,st⟩:=Eb (b:=b) (cs:=cs) (rest:=rest) (k:=k) R.hC R.hi I.rel b3 h8 hcalm Y hr hk a2 h5 ho hw;exact fin f (by simp) rv st
end
end
section
variable {C:Cfg}{A:Nat->Nat->Prop}{bd:Nat}{ih:IH}{rd:Option Nat}{nt:Nat}{ops:Array Oper}{q:Bool}{T':Nat->T}{G':Nat->G}{F':Nat->Foot}{hg0:Nat->AObj}
variable {N:Nat}{w0:World}{γ0:Gm}{df0:List Deferred}{b:Frame}{k:List Item}{cs:List Frame}
theorem NW(R:Reg C ih bd rd nt ops q T' G' F' hg0)(hN:(G' ops.size).nx<=N)(hedge:∀i o,ops[i]?=some o->∀e∈o.after.toList,Region.binds .any e=true->e.on<i)(hcalm:pf b.kind cs) :
  ∀(fuel tq:Nat) (listed:Array Bool) (S:Nat->Prop) {a:Act} {w:World} {γ:Gm} {hg:Nat->AObj},listed.size=ops.size->(∀j,S j↔listed.getD j false=true)->Down ops S ->
   cnt (λj=>!listed.getD j true) ops.size<=fuel->Inv C A bd nt ops T' G' F' hg0 N w0 γ0 df0 S a w γ hg ->
   ∃a' w' γ' hg',Inv C A bd nt ops T' G' F' hg0 N w0 γ0 df0 (λj=>j<ops.size) a' w' γ' hg' /\
    Steps C.P (lone (b.atR a (.inRegion ops (Region.linearise.go .any ops fuel tq listed [])::k)) cs w) (lone (b.atR a' (.inRegion ops []::k)) cs w'):=by
 have done:∀{listed:Array Bool} {S:Nat->Prop} {a:Act} {w:World} {γ:Gm} {hg:Nat->AObj},listed.size=ops.size->(∀j,S j↔listed.getD j false=true) ->
   (∀j,j<ops.size->listed.getD j true=true)->Inv C A bd nt ops T' G' F' hg0 N w0 γ0 df0 S a w γ hg->Inv C A bd nt ops T' G' F' hg0 N w0 γ0 df0 (λj=>j<ops.size) a w γ hg:=by
  intro listed S a w γ hg n hS c I;have e:S=λj=>j<ops.size:=by
   funext j;refine propext ⟨λh=>?_,λh=>?_⟩
   ·rw[hS]at h;rcases Vn j ops.size with h'|h'
    ·exact h'
    ·simp[UA,UZ (by omega:listed.size<=j)]at h
   ·rw[hS];have:=c j h;have hlt:j<listed.size:=by omega
    simpa [Array.getD,hlt] using this
  rw[<-e];exact I
 intro fuel
 induction fuel with
 | zero =>
  intro tq listed S a w γ hg n hS f hc I;have hz:=Ld (Nat.le_zero.1 hc);refine⟨a,w,γ,hg,done n hS (λj d=>by simpa using hz j d) I,?_⟩;simp only[Region.linearise.go,Ug];exact Steps.refl _ _
 | succ fuel ihf =>
  intro tq listed S a w γ hg n hS f hc I;simp only[Region.linearise.go];change ∃a' w' γ' hg',_/\Steps C.P (lone (b.atR a (.inRegion ops (match (Region.ready .any ops listed)[tq % (Region.ready .any ops listed).length]? with
   |some i=>Region.linearise.go .any ops fuel (tq / (Region.ready .any ops listed).length) (listed.setIfInBounds i true) [i]
   |none=>[].reverse)::k)) cs w) _
  cases hi:(Region.ready .any ops listed)[tq % (Region.ready .any ops listed).length]? with
  | none =>
   have u:Region.ready .any ops listed=[]:=by
    cases hr:Region.ready .any ops listed with
    |nil=>rfl
    | cons x xs =>
     rw[hr]at hi;have hlt:tq % (x::xs).length<(x::xs).length:=US _ (by simp);rw[TH hlt]at hi;cases hi
   have c:∀j,j<ops.size->listed.getD j true=true:=by
    intro j
    induction j using Nat.strongRecOn with
    | _ j ihj =>
     intro d;refine U9 λs=>?_;have s:listed.getD j true=false:=by simpa using s
     have:j∈Region.ready .any ops listed:=by
      rw[mem_ready];refine⟨s,ops[j],TZ d,λe he hb=>?_⟩;have hlt:=hedge j _ (TZ d) e (by simpa using he) hb;have h1:=ihj e.on hlt (by omega);have hl:e.on<listed.size:=by omega
      simpa [Array.getD,hl] using h1
     rw[u]at this;exact absurd this TY
   exact⟨a,w,γ,hg,done n hS c I,by simp only[Ug];exact Steps.refl _ _⟩
  | some i =>
   have t:=TL hi;obtain⟨r,o,ho,c⟩:=mem_ready.1 t;have z:i<ops.size:=(UR.1 ho).1;have v:¬S i:=by
    rw[hS];have hl:i<listed.size:=by omega
    simp[Array.getD,hl]at r ⊢;exact r
   have l:∀e∈o.after.toList,Region.binds .any e=true->S e.on:=λe he hb=>by rw[hS];exact c e (by simpa using he) hb
   simp only[];rw[linearise_go_acc,List.reverse_singleton,List.singleton_append];obtain⟨a1,w1,γ1,B,I1,st1⟩:=Mc (b:=b) (k:=k) (cs:=cs) (rest:=Region.linearise.go .any ops fuel (tq / (Region.ready .any ops listed).length) (listed.setIfInBounds i true) []) R I hN ho v f l hcalm;obtain⟨a2,D,γ2,y,I2,st2⟩:=ihf (tq / (Region.ready .any ops listed).length) (listed.setIfInBounds i true) (λj=>S j\/j=i) (by simp[n]) (λj=>by
     rw[hS]
     by_cases d:j=i
     ·subst d;have hl:j<listed.size:=by omega
      simp[Array.getD,hl]
     ·simp only[UA];rw[Vv (VG d)];simp[d]) (λj oj m d e he hb=>by
     rcases d with d|rfl
     ·exact .inl (f j oj m d e he hb)
     ·rw[ho]at m;injection m with m;subst m;exact .inl (l e he hb)) (by
     have:=Qm (p:=λj=>!listed.getD j true) (q:=λj=>!(listed.setIfInBounds i true).getD j true) (λj d=>by
      by_cases hji:j=i
      ·subst hji;simpa using r
      ·simp only[UA]at d ⊢;rw[Vv (VG hji)]at d;exact d) z (by simpa using r) (by
      have hl:i<listed.size:=by omega
      simp[Array.getD,hl])
     omega) I1
   exact⟨a2,D,γ2,y,I2,Steps.trans st1 st2⟩
theorem Ga(h:g.lg=[]):aR g []=g:=by cases g;simp at h;subst h;rfl
theorem Ly:∀(l:List Oper) (i:Nat) {t:T} {df:List ADf} {g:G} {fs:List Foot} {e:Ex} {t':T} {df':List ADf} {g':G},
  (iU C nt pm ops.toList i l).run ih d rd t df g fs=.ok e t' df' g' ->
  e=.norm/\df'=df/\∃(T':Nat->T) (G':Nat->G) (F':Nat->Foot),T' i=t/\G' i=g/\T' (i+l.length)=t'/\G' (i+l.length)=g' /\
   (∀j o,l[j]?=some o->TraAt C ih d rd nt ops false o (T' (i+j)) (T' (i+j+1)) (G' (i+j)) (G' (i+j+1)) (F' (i+j))/\(G' (i+j+1)).lg=(F' (i+j)).wr++(G' (i+j)).lg) /\
   qH pm (fs.reverse++(List.range l.length).map λj=>F' (i+j))=true:=by
 intro l
 induction l with
 | nil =>
  intro i t df g fs e t' df' g' h;simp only[iU,aa]at h
  split at h
  ·rename_i hf;injection h with h1 h2 h3 h4;subst h1;subst h2;subst h3;subst h4;exact⟨rfl,rfl,λ_=>t,λ_=>g,λ_=>⟨aE,[]⟩,rfl,rfl,rfl,rfl,λj o h=>by simp at h,by simpa using hf⟩
  ·cases h
 | cons o rest ihl =>
  intro i t df g fs e t' df' g' h;have go:∀{t1:T} {g1:G} {f:Foot},(iU C nt pm ops.toList (i+1) rest).run ih d rd t1 df g1 (f::fs)=.ok e t' df' g' ->
    TraAt C ih d rd nt ops false o t t1 g g1 f->g1.lg=f.wr++g.lg ->
    e=.norm/\df'=df/\∃(T':Nat->T) (G':Nat->G) (F':Nat->Foot),T' i=t/\G' i=g/\T' (i+(o::rest).length)=t'/\G' (i+(o::rest).length)=g' /\
     (∀j o',(o::rest)[j]?=some o'->TraAt C ih d rd nt ops false o' (T' (i+j)) (T' (i+j+1)) (G' (i+j)) (G' (i+j+1)) (F' (i+j))/\(G' (i+j+1)).lg=(F' (i+j)).wr++(G' (i+j)).lg) /\
     qH pm (fs.reverse++(List.range (o::rest).length).map λj=>F' (i+j))=true:=by
   intro t1 g1 f h c p;obtain⟨h1,h2,T1,G1,F1,a1,a2,q,a4,s,u⟩:=ihl (i+1) h;have ne:∀j,i+1+j≠i:=λj=>by omega
   refine⟨h1,h2,λm=>if m=i then t else T1 m,λm=>if m=i then g else G1 m,λm=>if m=i then f else F1 m,by simp,by simp,?_,?_,?_,?_⟩
   ·simp only[Uq];rw[TN (by omega),show i+(rest.length+1)=i+1+rest.length by omega];exact q
   ·simp only[Uq];rw[TN (by omega),show i+(rest.length+1)=i+1+rest.length by omega];exact a4
   ·intro j o' n;cases j with
    | zero =>
     simp at n;subst n;simp only[Vu,if_true];rw[TN (by omega),TN (by omega),a1,a2];exact⟨c,p⟩
    | succ j =>
     have:=s j o' (by simpa using n);rw[show i+(j+1)=i+1+j by omega];simp only[TN (ne j),show i+1+j+1=i+1+(j+1) by omega,TN (ne (j+1))];rw[show i+1+(j+1)=i+1+j+1 by omega];exact this
   ·rw[Uq,List.range_succ_eq_map,VT,List.map_map];simp only[Vu,if_true];rw[<-u];congr 1;simp only[Uf,UJ,List.singleton_append];congr 2;refine U8 λj _=>?_;simp only[Function.comp];rw[TN (by omega),show i+(j+1)=i+1+j by omega]
  simp only[iU]at h
  split at h
  ·rename_i out gd k b;dsimp only at h
   split at h
   ·rename_i hq;generalize hr:(cE C o.op).run ih d rd t (aR g [])=r at h;cases r with
    |fail=>cases h
    | val v =>
     refine go (t1:=out.run t v) (g1:=pp g g.lg) (f:=⟨(aO C o.op).run t g,[]⟩) h ⟨out,gd,k,b,.inr ⟨hq,_,hr,by simp,by simp,rfl,by simp[gOf],by simp[gOf],by simp[gOf],λ_=>⟨rfl,by simp[gOf]⟩⟩⟩ (by simp)
    | upd v g1 =>
     refine go (t1:=out.run t v) (g1:=pp g1 (g1.lg++g.lg)) (f:=⟨(aO C o.op).run t g,g1.lg⟩) h ⟨out,gd,k,b,.inr ⟨hq,_,hr,by simp,by simp,rfl,by simp[gOf],by simp[gOf],by simp[gOf],λ_=>⟨rfl,by simp[gOf]⟩⟩⟩ (by simp)
    |dfr a=>cases h
   ·rename_i hq;exact go h ⟨out,gd,k,b,.inl ⟨hq,rfl,rfl,rfl⟩⟩ (by simp)
   ·cases h
  ·cases h
theorem K5(hC:CfgOk C){op:Op}{x:ADf}(h:(cE C op).run ih d rd t g=.dfr x):∃c,op=.defer c:=by
 have iso:∀f args,af ih d g f args≠.dfr x:=by
  intro f args;unfold af
  repeat' (first|split|rw[aa])
  all_goals (intro h;cases h)
 have orf:∀r,orF r≠.dfr x:=by intro r h;cases r<;>cases h
 have rnd:∀id args,bP ih d id args g≠.dfr x:=by
  intro id args;unfold bP
  repeat' split
  all_goals (intro h;cases h)
 unfold cE at h
 split at h
 rotate_left
 ·cases h
 rename_i f k;unfold cOp at k
 split at k
 ·split at k
  ·split at k
   ·rename_i e he;injection k with k;subst k;exact absurd h (hC.noDfr _ _ he _ _ _ _)
   ·rw[aa]at k
    split at k
    ·injection k with k;subst k;exact absurd h (iso _ _)
    ·injection k with k;subst k;exact absurd h (orf _)
  ·cases k
 ·split at k
  ·injection k with k;subst k;dsimp only at h;unfold jG at h
   split at h
   ·split at h
    ·rename_i e he;exact absurd h (hC.noDfr _ _ he _ _ _ _)
    ·rw[aa]at h
     split at h
     ·exact absurd h (iso _ _)
     ·exact absurd h (orf _)
   ·exact absurd h (rnd _ _)
   ·cases h
  ·cases k
 ·injection k with k;subst k;cases h
 ·exact⟨_,rfl⟩
 ·split at k
  ·rename_i s hs;injection k with k;subst k;have:=yd (t:=t) (g:=g) hs;have h:s.run t g=.dfr x:=h;rw[h]at this;exact this.elim
  ·cases k
theorem Ke(hC:CfgOk C)(hi:IHOk C ih):∀(l:List Oper) (i:Nat) {t:T} {df:List ADf} {g:G} {e:Ex} {t':T} {df':List ADf} {g':G},
  (jU C nt ops.toList l).run ih d rd t df g=.ok e t' df' g'->(∀o∈l,zo C o.op=true)->g.lg=[]->g'.lg=[]->WF g ->
  e=.norm/\df'=df/\∃(T':Nat->T) (G':Nat->G) (F':Nat->Foot),T' i=t/\G' i=g/\T' (i+l.length)=t'/\G' (i+l.length)=g' /\
   (∀j o,l[j]?=some o->TraAt C ih d rd nt ops true o (T' (i+j)) (T' (i+j+1)) (G' (i+j)) (G' (i+j+1)) (F' (i+j)))/\∀j,(F' j).wr=[]:=by
 intro l
 induction l with
 | nil =>
  intro i t df g e t' df' g' h _ _ _ _;simp only[jU]at h;injection h with h1 h2 h3 h4;subst h1;subst h2;subst h3;subst h4;exact⟨rfl,rfl,λ_=>t,λ_=>g,λ_=>⟨aE,[]⟩,rfl,rfl,rfl,rfl,λj o h=>by simp at h,λ_=>rfl⟩
 | cons o rest ihl =>
  intro i t df g e t' df' g' h hq s q p;have go:∀{t1:T} {g1:G},(jU C nt ops.toList rest).run ih d rd t1 df g1=.ok e t' df' g'->g1.lg=[]->WF g1 ->
    TraAt C ih d rd nt ops true o t t1 g g1 ⟨aE,[]⟩ ->
    e=.norm/\df'=df/\∃(T':Nat->T) (G':Nat->G) (F':Nat->Foot),T' i=t/\G' i=g/\T' (i+(o::rest).length)=t'/\G' (i+(o::rest).length)=g' /\
     (∀j o',(o::rest)[j]?=some o'->TraAt C ih d rd nt ops true o' (T' (i+j)) (T' (i+j+1)) (G' (i+j)) (G' (i+j+1)) (F' (i+j)))/\∀j,(F' j).wr=[]:=by
   intro t1 g1 h f B z;obtain⟨h1,h2,T1,G1,F1,a1,a2,D,a4,E,F⟩:=ihl (i+1) h (λo' ho'=>hq o' (UC _ ho')) f q B;have ne:∀j,i+1+j≠i:=λj=>by omega
   refine⟨h1,h2,λm=>if m=i then t else T1 m,λm=>if m=i then g else G1 m,λm=>if m=i then ⟨aE,[]⟩ else F1 m,by simp,by simp,?_,?_,?_,?_⟩
   ·simp only[Uq];rw[TN (by omega),show i+(rest.length+1)=i+1+rest.length by omega];exact D
   ·simp only[Uq];rw[TN (by omega),show i+(rest.length+1)=i+1+rest.length by omega];exact a4
   ·intro j o' A;cases j with
    | zero =>
     simp at A;subst A;simp only[Vu,if_true];rw[TN (by omega),TN (by omega),a1,a2];exact z
    | succ j =>
     have:=E j o' (by simpa using A);rw[show i+(j+1)=i+1+j by omega];simp only[TN (ne j),show i+1+j+1=i+1+(j+1) by omega,TN (ne (j+1))];rw[show i+1+(j+1)=i+1+j+1 by omega];exact this
   ·intro j;dsimp only
    split
    ·rfl
    ·exact F j
  have exec:∀{out:Stg (T->AV->T)} {gd:Stg (T->Option Bool)},qb nt o.dst=some out->iV ops.toList o.guard=some gd->gd.run t=some true ->
    pd out.run ((jU C nt ops.toList rest).run ih d rd) t df g ((cE C o.op).run ih d rd t g)=.ok e t' df' g' ->
    e=.norm/\df'=df/\∃(T':Nat->T) (G':Nat->G) (F':Nat->Foot),T' i=t/\G' i=g/\T' (i+(o::rest).length)=t'/\G' (i+(o::rest).length)=g' /\
     (∀j o',(o::rest)[j]?=some o'->TraAt C ih d rd nt ops true o' (T' (i+j)) (T' (i+j+1)) (G' (i+j)) (G' (i+j+1)) (F' (i+j)))/\∀j,(F' j).wr=[]:=by
   intro out gd k b x h;have hm:=iW (op:=o.op) (d:=d) (rd:=rd) (t:=t) hC.mon hi.mon p;generalize hr:(cE C o.op).run ih d rd t g=r at h hm;have y:(cE C o.op).run ih d rd t (aR g [])=r:=by rw[Ga s];exact hr
   cases r with
   |fail=>cases h
   | val v =>
    exact go (t1:=out.run t v) (g1:=g) h s p ⟨out,gd,k,b,.inr ⟨x,_,y,by simp,by simp,rfl,by simp[gOf],by simp[gOf],by simp[gOf],λh=>by cases h⟩⟩
   | upd v g1 =>
    have w1:WF g1:=hm.wf p;have H:=zT hC.mon hi.mon h w1;have f:g1.lg=[]:=by obtain⟨n,a,_,_⟩:=H.new;rw[q]at a;exact (List.append_eq_nil_iff.1 a.symm).2
    exact go (t1:=out.run t v) (g1:=g1) h f w1 ⟨out,gd,k,b,.inr ⟨x,_,y,by simp,by simp,rfl,by simp[gOf],by simp[gOf,f],by simp[gOf],λh=>by cases h⟩⟩
   | dfr a =>
    obtain⟨c,hc⟩:=K5 hC hr;have:=hq o UK;rw[hc]at this;simp[zo]at this
  simp only[jU]at h
  split at h
  ·rename_i out k
   split at h
   ·rename_i b;exact exec k (gd:=⟨λ_=>some true⟩) (by rw[b];rfl) rfl h
   ·rename_i gd0 b
    split at h
    ·rename_i gd u;rw[<-b]at u;dsimp only at h
     split at h
     ·rename_i w;exact exec k u w h
     ·rename_i w;exact go h s p ⟨out,gd,k,u,.inl ⟨w,rfl,rfl,rfl⟩⟩
     ·cases h
    ·cases h
  ·cases h
theorem IP{K V:Type}{wr:Nat->K->Prop}{val:Nat->K->V}{base:K->V}{k:K}:ov (λ_=>False) wr val base n k=base k:=by rw[Bc (m:=0) (Uj _) (λ_ _ _ h=>h.elim)];rfl
theorem EX(R:Reg C ih bd rd nt ops q T' G' F' hg0)(hmix:C.P.follows .mixedOrders=true)(hedge:∀i o,ops[i]?=some o->∀e∈o.after.toList,Region.binds .any e=true->e.on<i)
  {w:World} {γ:Gm} {nx:Nat} {a:Act} {id:Nat} (hr:Rel C A bd w γ hg0 nx) (ht:TR w γ A bd nt (T' 0) a.tmps) (hcalm:pf b.kind cs) :
  ∃a' w' γ' hg',Rel C A bd w' γ' hg' (Nat.max nx (G' ops.size).nx)/\Stp w γ w' γ'/\TR w' γ' A bd nt (T' ops.size) a'.tmps/\a'.defers=a.defers /\
   (∀id,((∃j,j<ops.size/\id∈(F' j).wr)/\hg' id=(G' ops.size).h.get id)\/((∀j,j<ops.size->id ∉ (F' j).wr)/\hg' id=hg0 id)) /\
   Steps C.P (lone (b.atR a (.code (.region id ops true)::k)) cs w) (lone (b.atR a' k) cs w'):=by
 let w1:World:={ w with drawn:=w.drawn+1 }
 have l:Stp w γ w1 γ:=Bw (TG _) rfl rfl rfl (VF _) λ_ _=>rfl;have m:Rel C A bd w1 γ hg0 nx:=hr.same l λ_ _=>rfl;have I0:Inv C A bd nt ops T' G' F' hg0 (Nat.max nx (G' ops.size).nx) w γ a.defers (λ_=>False) a w1 γ hg0:=by refine⟨m.up (Vb _ _),l,ht.1,λs=>?_,λid=>by rw[IP],rfl⟩;rw[IP];exact (ht.2 s).step l
 have f:cnt (λj=>!(Array.replicate ops.size false).getD j true) ops.size<=ops.size:=by
  generalize (λj=>!(Array.replicate ops.size false).getD j true)=p;generalize ops.size=n
  induction n with
  |zero=>exact TG _
  |succ n ih'=>simp only[cnt];split<;>omega
 obtain⟨a',w',γ',hg',I,st⟩:=NW (b:=b) (k:=k) (cs:=cs) R (VB _ _) hedge hcalm ops.size (w.tape w.drawn (.order b.fn id)) (Array.replicate ops.size false) (λ_=>False) (by simp)
  (λj=>by simp[UA,Array.getElem?_replicate];split<;>simp) (λj o _ h=>h.elim) f I0
 have d:∀{K V:Type} {wr:Nat->K->Prop} {val:Nat->K->V} {base:K->V} {k:K},(∀j,j<ops.size->¬wr j k->val (j+1) k=val j k) ->
   ((∃j,j<ops.size/\wr j k)/\ov (λj=>j<ops.size) wr val base ops.size k=val ops.size k)\/((∀j,j<ops.size->¬wr j k)/\ov (λj=>j<ops.size) wr val base ops.size k=base k/\val ops.size k=val 0 k) :=
  λkeep=>MM (TG _) keep λj _ _=>Iff.rfl
 refine⟨a',w',γ',hg',I.rel,I.stp,⟨I.size,λs=>?_⟩,I.dfr,λid'=>?_,?_⟩
 ·have:=I.slots s;rcases d (wr:=λi s=>iZ ops i=some s) (val:=λi s=>(T' i).get AV.undef s) (base:=λs=>(T' 0).get AV.undef s) (k:=s) (λj hj hw=>R.keepT hj hw) with⟨_,h⟩|⟨_,h,h2⟩
  ·rw[h]at this;exact this
  ·rw[h,<-h2]at this;exact this
 ·rw[I.objs id'];rcases d (wr:=λi id=>id∈(F' i).wr) (val:=λi id=>(G' i).h.get id) (base:=hg0) (k:=id') (λj hj hw=>(R.at hj).2.1 id' hw) with⟨h1,h⟩|⟨h1,h,_⟩
  ·exact .inl ⟨h1,h⟩
  ·exact .inr ⟨h1,h⟩
 ·refine .head stepR_region_draw ?_;have c:Region.schedule (C.P.follows .mixedOrders) ops (w.tape w.drawn (.order b.fn id))=Region.linearise.go .any ops ops.size (w.tape w.drawn (.order b.fn id)) (Array.replicate ops.size false) []:=by
   simp only[Region.schedule,hmix,Bool.true_or,if_true]
   rfl
  rw[c];exact Steps.trans st (.one stepR_region_end)
end
end
end Hx
