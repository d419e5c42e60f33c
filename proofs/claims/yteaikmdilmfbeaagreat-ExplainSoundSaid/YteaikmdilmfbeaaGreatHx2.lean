/- A part of the proof: what the functions of the chapter compute. -/
import Derived.DeepKeys3
import Derived.Test.YteaikmdilmfbeaaGreatHx1
set_option linter.all false
set_option maxRecDepth 20000
set_option maxHeartbeats 8000000
namespace Hx
open Go
noncomputable section
variable {v u vm:Value}{x k y:AV}{ty t e kt:TypeId}{g:G}{P:Program}{n d m:Nat}{xs:Array Value}
section
variable {y:Value}{zero:List AV}
section
variable {C:Cfg}{A:Nat->Nat->Prop}{bd:Nat}{w w':World}{γ γ':Gm}{hg:Nat->AObj}{nx:Nat}
theorem KE(hr:Rel C A bd w γ hg nx){sz:Nat}{h:H}{rows:List (List AV)}(hx:RV w γ A bd x v)
  (hrow:am h sz x=some rows) (agree:∀id∈af x,hg id=h.get id) (P:Program) :
  ∃base cap,v=.slice base rows.length cap/\∀n,n<=rows.length->∀w1:World,w1=w\/w1=World.drewn w ->
   ∃c,(Builtin.firstCells sz n v).run P w1=.ok c w1/\c.size=n*sz/\RowsRel w γ A bd sz (rows.take n) c:=by
 obtain⟨b,o,cap,hv,e⟩:=EP hr hx hrow agree;have d:RowsRel w γ A bd sz [] #[]:=⟨by simp,λi row h=>by simp at h,λi j row x h=>by simp at h⟩;rcases hv with⟨rfl,rfl⟩|rfl|⟨⟨a,rfl⟩,rfl⟩
 ·exact⟨none,0,rfl,λn hn w1 _=>⟨#[],by simp[Builtin.firstCells],by simp at hn;simp[hn],by simpa using d⟩⟩
 ·refine⟨some (adr b o),cap,rfl,λn hn w1 h1=>?_⟩;have k:=e.sub 0 n;simp only[Sa,To,RY]at k;have hl:(rows.take n).length=n:=by simp[hn]
  rcases h1 with rfl|rfl
  ·have:=yg k P;rw[hl]at this;simpa [Builtin.firstCells] using this
  ·have:=yg (k.same vq rfl) P;rw[hl]at this;obtain⟨c,c1,f,l⟩:=this;exact⟨c,by simpa [Builtin.firstCells] using c1,f,l.back⟩
 ·refine⟨some a,cap,rfl,λn hn w1 _=>?_⟩;simp at hn;subst hn;exact⟨#[],by simp[Builtin.firstCells,loadCells,loadCellsFrom],by simp,by simpa using d⟩
theorem DY{argTypes:Array TypeId}{xt e':TypeId}{sz bytes:Nat}{s:AV}
  (hr:Rel C A bd w γ hg nx) (hf:(γ g.nx).kind=0) (h0:argTypes[0]?=some t) (h1:argTypes[1]?=some xt) (hu:C.P.underlying t=some (.slice e)) (hux:C.P.underlying xt=some (.slice e'))
  (hsz:szT C.P e=some sz) (hby:jy C.P e=some bytes) (hz:fu C.P e=some zero) (hzl:zero.length=sz) (hb0:0<bytes)
  (hs:RV w γ A bd s v) (hx:RV w γ A bd x y) (agree:∀id∈af s,hg id=g.h.get id) (agree':∀id∈af x,hg id=g.h.get id) :
  cR C A bd w γ hg nx (Builtin.append_ argTypes ty #[v,y]) g (cQ sz bytes s x g):=by
 unfold cQ;cases hrow:am g.h sz x with
 |none=>trivial
 | some new =>
  dsimp only;obtain⟨xb,xc,rfl,k⟩:=KE hr hx hrow agree' C.P;rcases qt (e:=e) (new:=new) (zs:=false) (x:=.slice xb new.length xc) (appended:=Builtin.firstCells sz new.length (.slice xb new.length xc)) hr hf hs hby hz hzl hb0
    (λw1 h=>by simpa using k new.length (Qq _) w1 h) agree with h|⟨base,sLen,sCap,rfl,h⟩
  ·rw[h];trivial
  ·have e1:(Builtin.append_ argTypes ty #[.slice base sLen sCap,.slice xb new.length xc]).run C.P w =
     (iJ e sz bytes base sLen sCap new.length false (.slice base sLen sCap) (.slice xb new.length xc) (Builtin.firstCells sz new.length (.slice xb new.length xc))).run C.P w:=by
    unfold Builtin.append_ iJ;have a0:(#[Value.slice base sLen sCap,Value.slice xb new.length xc]:Array Value)[0]?=some (.slice base sLen sCap):=rfl;have a1:(#[Value.slice base sLen sCap,Value.slice xb new.length xc]:Array Value)[1]?=some (.slice xb new.length xc):=rfl;simp only[h0,h1,a0,a1,QC,aA hu,aA hux,aY hsz,Builtin.lenOf,Qy,Q0]
    rfl
   generalize a8 sz bytes s new g=r at h ⊢;cases r<;>simpa only[cR,e1] using h
theorem BL{argTypes:Array TypeId}{xt:TypeId}{k:IntKind}{sz bytes:Nat}{s:AV}
  (hr:Rel C A bd w γ hg nx) (hf:(γ g.nx).kind=0) (h0:argTypes[0]?=some t) (h1:argTypes[1]?=some xt) (hu:C.P.underlying t=some (.slice e)) (hux:C.P.underlying xt=some (.int k))
  (hsz:szT C.P e=some sz) (hby:jy C.P e=some bytes) (hz:fu C.P e=some zero) (hzl:zero.length=sz) (hs0:0<sz) (hb0:0<bytes)
  (hs:RV w γ A bd s v) (hx:RV w γ A bd x y) (agree:∀id∈af s,hg id=g.h.get id) :
  cR C A bd w γ hg nx (Builtin.append_ argTypes ty #[v,y]) g (kT sz bytes zero s x g):=by
 unfold kT;cases hn:bN aS x with
 |none=>trivial
 | some n =>
  dsimp only;rw[aa]
  split
  ·rename_i a;rw[Q6]at a;obtain⟨n1,kk,rfl⟩:=t9 hn hx;have hl:(eH n zero).length=n:=by simp[eH]
   have b:∀w1:World,w1=w\/w1=World.drewn w->∃c,(if n*sz=0 then pure #[] else do pure (Builtin.zeroCells (<-zeroValue e).cells n):Sem (Array Value)).run C.P w1=.ok c w1 /\
     c.size=(eH n zero).length*sz/\RowsRel w γ A bd sz (eH n zero) c:=by
    intro w1 _;obtain⟨z,p,l⟩:=mh (w:=w1) hz;have j:z.cells.size=sz:=by have:=(mP (w:=w) (γ:=γ) (A:=A) (bd:=bd) l).1.1;simp at this;omega
    refine⟨gO z.cells (n*sz),?_,by rw[hl];simp[mq],so (ty:=e) l hzl hs0 (Qq _)⟩
    by_cases h:n*sz=0
    ·rw[Qw h,h];simp[gO]
    ·rw[Qu h];simp[p,Builtin.zeroCells,gO,j]
   rcases qt (e:=e) (new:=eH n zero) (zs:=true) (x:=.int kk (n:Int)) hr hf hs hby hz hzl hb0 b agree with h|⟨base,sLen,sCap,rfl,h⟩
   ·rw[h];trivial
   ·rw[hl]at h;have hi:∃i,C.P.info? e=some i/\i.bytes=bytes:=by
     unfold jy at hby;cases hie:C.P.info? e with
     |none=>rw[hie]at hby;cases hby
     |some i=>rw[hie]at hby;simp at hby;exact⟨i,rfl,hby⟩
    obtain⟨i,m,o⟩:=hi;unfold aS at n1 a;have w1:=pS n (by omega);have f:¬((n:Int)*(bytes:Int) > 2 ^ 48):=by rw[<-SA];omega
    have e1:(Builtin.append_ argTypes ty #[.slice base sLen sCap,.int kk (n:Int)]).run C.P w =
      (iJ e sz bytes base sLen sCap n true (.slice base sLen sCap) (.int kk (n:Int)) (if n*sz=0 then pure #[] else do pure (Builtin.zeroCells (<-zeroValue e).cells n))).run C.P w:=by
     unfold Builtin.append_ iJ;have d:¬((n:Int)<0):=by omega
     have a0:(#[Value.slice base sLen sCap,Value.int kk (n:Int)]:Array Value)[0]?=some (.slice base sLen sCap):=rfl;have a1:(#[Value.slice base sLen sCap,Value.int kk (n:Int)]:Array Value)[1]?=some (.int kk (n:Int)):=rfl;simp only[h0,h1,a0,a1,QC,aA hu,aA hux,aY hsz,Qy,Q0,if_true,asInt,asIntOf,w1,j6 m,o,Qu f,Qu d]
     rfl
    generalize a8 sz bytes s (eH n zero) g=r at h ⊢;cases r<;>simpa only[cR,e1] using h
  ·trivial
theorem IU{argTypes:Array TypeId}{sz:Nat}{d:AV}
  (hr:Rel C A bd w γ hg nx) (h0:argTypes[0]?=some t) (hu:C.P.underlying t=some (.slice e)) (hsz:szT C.P e=some sz)
  (hd:RV w γ A bd d v) (hx:RV w γ A bd x y) (agree:∀id∈af d,hg id=g.h.get id) (agree':∀id∈af x,hg id=g.h.get id) :
  cR C A bd w γ hg nx (Builtin.copy_ argTypes ty #[v,y]) g (zJ sz d x g):=by
 unfold zJ;cases hrow:am g.h sz x with
 |none=>trivial
 | some src =>
  dsimp only;obtain⟨xb,xc,rfl,q⟩:=KE hr hx hrow agree' C.P;have f:∀base dLen dCap,v=.slice base dLen dCap->∃c,c.size=Nat.min src.length dLen*sz/\RowsRel w γ A bd sz (src.take (Nat.min src.length dLen)) c /\
    (Builtin.copy_ argTypes ty #[v,.slice xb src.length xc]).run C.P w =
     (do if let some a:=base then storeCells a c.toList
         pure (goInt (Nat.min src.length dLen)):Sem Value).run C.P w:=by
   intro base dLen dCap hv;subst hv;obtain⟨c,c1,m,j⟩:=q (Nat.min src.length dLen) (Nat.min_le_left _ _) w (.inl rfl);refine⟨c,m,j,?_⟩;have a0:(#[Value.slice base dLen dCap,Value.slice xb src.length xc]:Array Value)[0]?=some (.slice base dLen dCap):=rfl;have a1:(#[Value.slice base dLen dCap,Value.slice xb src.length xc]:Array Value)[1]?=some (.slice xb src.length xc):=rfl;unfold Builtin.copy_;simp only[h0,a0,a1,QC,aA hu,aY hsz,Builtin.lenOf,Qy,Q0,c1]
   rfl
  have i:∀n:Nat,RV w γ A bd (.int .i64 (n:Int)) (goInt n):=λn=>.int _ _ _;cases hd with
  | nils =>
   obtain⟨c,c1,m,j⟩:=f none 0 0 rfl;refine⟨goInt 0,?_,i 0⟩;rw[j];simp
  | esl _ a =>
   obtain⟨c,c1,m,j⟩:=f (some a) 0 0 rfl;have hc:c=#[]:=by simpa using c1
   refine⟨goInt 0,?_,i 0⟩;rw[j,hc];simp[jl]
  | tsl _ tag sz' rows b o cap cell ht hc hb hm ha hrl ho hw h =>
   dsimp only;rw[aa]
   split
   ·rename_i k;obtain⟨c,c1,m,j⟩:=f (some (adr b o)) rows.length cap rfl;have p:Nat.min src.length rows.length=0:=by simp only[Rg,List.isEmpty_iff]at k;rcases k with h|h<;>subst h<;>simp[Nat.min_def]
    rw[p]at c1 j;have hc:c=#[]:=by simpa using c1
    refine⟨goInt 0,?_,i 0⟩;rw[j,hc];simp[jl]
   ·trivial
  | tnil _ tag sz' a cap ht =>
   dsimp only;rw[aa]
   split
   ·obtain⟨c,c1,m,j⟩:=f (some a) 0 cap rfl;have hc:c=#[]:=by simpa using c1
    refine⟨goInt 0,?_,i 0⟩;rw[j,hc];simp[jl]
   ·trivial
  | hsl _ id ep off len lim b0 o0 cap0 hk he hc0 h0' =>
   have l:=agree id (by simp[af]);simp only[G.get_eq,<-l];cases hid:hg id with
   | cells sz' rows ep' loose fz =>
    simp only[aq,aa,be]
    split
    ·rename_i k;simp only[Qt,Q6,notb_eq,RL]at k;obtain⟨⟨⟨h1,h2⟩,h3⟩,h4⟩:=k;have h1:=aI h1;have h2:=aI h2;subst h1;subst h2;subst h4;obtain⟨cap,hv,s,r⟩:=AZ hr (RV.hsl bd id ep off len lim b0 o0 cap0 hk he hc0 h0') hid;obtain⟨c,c1,m,j⟩:=f _ _ _ hv;have hl:(src.take (Nat.min src.length len)).length=Nat.min src.length len:=by simp[Nat.min_le_left]
     have u:Nat.min src.length len<=len:=Nat.min_le_right _ _;obtain⟨w',z,B,D⟩:=hr.storeRows hid (off:=off) m (by rw[hl];exact c1) (by rw[hl];omega) C.P;refine⟨goInt (Nat.min src.length len),w',γ,id,_,?_,.int _ _ _,D,.inl ⟨rfl,B⟩⟩;rw[j];simp[z]
    ·trivial
   |_=>trivial
  |_=>trivial
theorem G4{argTypes:Array TypeId}{sz:Nat}
  (hr:Rel C A bd w γ hg nx) (h0:argTypes[0]?=some t) (hu:C.P.underlying t=some (.slice e)) (hz:fu C.P e=some zero) (hzl:zero.length=sz) (hs0:0<sz)
  (hx:RV w γ A bd x y) (agree:∀id∈r_ x,hg id=g.h.get id) :
  cR C A bd w γ hg nx (Builtin.clear_ argTypes ty #[y]) g (xE sz zero x g):=by
 have a0:(#[y]:Array Value)[0]?=some y:=rfl;have c:∀a cap,y=.slice a 0 cap->(Builtin.clear_ argTypes ty #[y]).run C.P w=.ok undef w:=by intro a cap h;subst h;unfold Builtin.clear_;cases a<;>simp[h0,aA hu,undef]
 unfold xE;cases hx with
 |nils=>exact⟨_,c _ _ rfl,cC⟩
 |esl _ a=>exact⟨_,c _ _ rfl,cC⟩
 | tsl _ tag sz' rows b o cap cell ht hc hb hm ha hrl ho hw h =>
  cases rows with
  |nil=>exact⟨_,c _ _ rfl,cC⟩
  |cons r rs=>trivial
 |tnil _ tag sz' a cap ht=>exact⟨_,c _ _ rfl,cC⟩
 | hsl _ id ep off len lim b0 o0 cap0 hk he hc0 h0' =>
  cases len with
  |zero=>exact⟨_,c _ _ rfl,cC⟩
  | succ len =>
   have d:=agree id (by simp[r_]);simp only[G.get_eq,<-d];cases hid:hg id with
   | cells sz' rows ep' loose fz =>
    simp only[aq,aa]
    split
    ·rename_i k;simp only[Qt,Q6,notb_eq,RL]at k;obtain⟨⟨⟨h1,h2⟩,h3⟩,h4⟩:=k;have h1:=aI h1;have h2:=aI h2;subst h1;subst h2;subst h4;obtain⟨cap,hv,l,j⟩:=AZ hr (RV.hsl bd id ep off (len+1) lim b0 o0 cap0 hk he hc0 h0') hid;have hl:(eH (len+1) zero).length=len+1:=by simp[eH]
     obtain⟨z,s,i⟩:=mh (w:=w) hz;have f:z.cells.size=sz:=by have:=(mP (w:=w) (γ:=γ) (A:=A) (bd:=bd) i).1.1;simp at this;omega
     obtain⟨w',m,p,q⟩:=hr.storeRows hid (off:=off) (so (ty:=e) (n:=len+1) i hzl hs0 (Qq _)) (by rw[hl];simp[mq]) (by rw[hl];omega) C.P;refine⟨undef,w',γ,id,_,?_,cC,q,.inl ⟨rfl,p⟩⟩;have e0:Builtin.zeroCells z.cells (len+1)=gO z.cells ((len+1)*sz):=by simp[Builtin.zeroCells,gO,f]
     rw[hv];unfold Builtin.clear_;simp[h0,aA hu,s,e0,m,undef]
    ·trivial
   |_=>trivial
 |_=>trivial
end
end
section
variable {C:Cfg}{A:Nat->Nat->Prop}{bd:Nat}{w w':World}{γ γ':Gm}{hg:Nat->AObj}{nx:Nat}
def OVR(w:World)(γ:Gm)(A:Nat->Nat->Prop)(bd:Nat):Option AV->Option Value->Prop
 |none,none=>True
 |some x,some v=>RV w γ A bd x v
 |_,_=>False
theorem J7{xs:List AV}{vs:List Value}(h:RVs w γ A bd xs vs):OVR w γ A bd xs.head? vs.head?:=by
 cases xs with
 | nil=>cases vs with
  |nil=>trivial
  |cons v vs=>have:=h.1;simp at this
 | cons x xs=>cases vs with
  |nil=>have:=h.1;simp at this
  |cons v vs=>exact h.2 0 x v rfl rfl
theorem t8{lim:Nat}(h:bN lim x=some n):n<=lim:=by
 unfold bN at h
 split at h
 ·rw[aa]at h
  split at h
  ·rename_i hl;rw[Q6]at hl;injection h with h;omega
  ·cases h
 ·cases h
theorem lr{x:Option AV}(h:aQ 0 0 x=some n):n=0:=by
 cases x with
 |none=>simp[aQ]at h;omega
 |some z=>have:=t8 h;omega
theorem cO{lim y:Nat}{code:BoundsCode}(h:bN lim x=some n)(hv:RV w γ A bd x v)(hy:lim<=y) :
  (Instr.sliceBound v y code).run P w=.ok n w/\n<=lim:=by
 obtain⟨h1,k,rfl⟩:=t9 h hv;refine⟨?_,h1⟩;unfold Instr.sliceBound;simp only[asIntOf,QC,Q0,Qy];rw[Qw (by omega)];simp
theorem cB{isSlice:Bool}{len cap:Nat}{lo hi mx:Option AV}{lv hv mv:Option Value}{l h limM lh:Nat}
  (hlo:OVR w γ A bd lo lv) (hhi:OVR w γ A bd hi hv) (hmx:OVR w γ A bd mx mv) (hm:mx=none->m=cap) (hm':mx≠none->aQ d limM mx=some m/\limM<=cap)
  (hmh:mx≠none->hi≠none) (hh:aQ len lh hi=some h) (hlh:lh<=m) (hl:aQ 0 h lo=some l) :
  (Instr.sliceBounds isSlice len cap lv hv mv).run P w=.ok (l,h,m) w/\l<=h/\(hi=none/\h=len\/h<=lh):=by
 have H:l<=h/\∀code,(match lv with|some v=>Instr.sliceBound v h code|none=>pure 0:Sem Nat).run P w=.ok l w:=by
  cases lo with
  | none =>
   cases lv with
   |none=>simp[aQ]at hl;subst hl;exact⟨Q_ _,λ_=>rfl⟩
   |some v=>cases hlo
  | some x =>
   cases lv with
   |none=>cases hlo
   |some v=>exact⟨(cO (code:=.index) (P:=P) hl hlo (Qq _)).2,λcode=>(cO hl hlo (Qq _)).1⟩
 obtain⟨H1,H2⟩:=H;cases mx with
 | none =>
  cases mv with
  |some v=>cases hmx
  | none =>
   have:=hm rfl;subst this;cases hi with
   | none =>
    cases hv with
    |some v=>cases hhi
    | none =>
     simp[aQ]at hh;subst hh;refine⟨?_,H1,.inl ⟨rfl,rfl⟩⟩;have h2:=H2 .sliceB;unfold Instr.sliceBounds;cases lv<;>simp_all
   | some x =>
    cases hv with
    |none=>cases hhi
    | some v =>
     have h3:=λcode=>(cO (P:=P) (code:=code) hh hhi hlh).1;refine⟨?_,H1,.inr (cO (P:=P) (code:=.index) hh hhi hlh).2⟩;have h2:=H2 .sliceB;unfold Instr.sliceBounds;cases lv<;>simp_all
 | some xm =>
  cases mv with
  |none=>cases hmx
  | some vm =>
   obtain⟨k,a⟩:=hm' (by simp);have h4:=λcode=>(cO (P:=P) (code:=code) k hmx a).1;cases hi with
   |none=>exact absurd rfl (hmh (by simp))
   | some x =>
    cases hv with
    |none=>cases hhi
    | some v =>
     have h3:=λcode=>(cO (P:=P) (code:=code) hh hhi hlh).1;refine⟨?_,H1,.inr (cO (P:=P) (code:=.index) hh hhi hlh).2⟩;have h2:=H2 .slice3C;unfold Instr.sliceBounds;cases lv<;>simp_all
theorem lp{sz len cap l h:Nat}{a:Option Addr}{lv hv mv:Option Value}(hu:C.P.underlying ty=some (.slice e))(hsz:szT C.P e=some sz)
  (hb:(Instr.sliceBounds true len cap lv hv mv).run C.P w=.ok (l,h,m) w) :
  (Instr.sliceAt ty (.slice a len cap) lv hv mv).run C.P w=.ok (.slice (if m=l then a else a.map (·.add (l*sz))) (h - l) (m - l)) w:=by
 unfold Instr.sliceAt Instr.slice;simp[aA hu,hb,aY hsz]
theorem yP{sz:Nat}{lo hi mx:Option AV}{lv hv mv:Option Value}
  (hr:Rel C A bd w γ hg nx) (hu:C.P.underlying ty=some (.slice e)) (hsz:szT C.P e=some sz) (hx:RV w γ A bd x v)
  (hlo:OVR w γ A bd lo lv) (hhi:OVR w γ A bd hi hv) (hmx:OVR w γ A bd mx mv) (hmh:mx≠none->hi≠none) (agree:∀id∈af x,hg id=g.h.get id) :
  ValSim C A bd w γ (Instr.sliceAt ty v lv hv mv) (orV (jj sz x lo hi mx g.h)):=by
 refine mQ λy k=>?_;have zero:∀(a:Option Addr),v=.slice a 0 0->∀p q r,aQ 0 0 lo=some p->aQ 0 0 hi=some q->aQ 0 0 mx=some r ->
   (Instr.sliceAt ty v lv hv mv).run C.P w=.ok (.slice a 0 0) w:=by
  intro a J p q r h1 h2 h3;subst J;have T:=lr h3;have S:=lr h2;have hp0:=lr h1;subst T;subst S;subst hp0;obtain⟨b1,b2,K⟩:=cB (P:=C.P) (isSlice:=true) (len:=0) (cap:=0) (l:=0) (h:=0) (m:=0) hlo hhi hmx (λ_=>rfl) (λ_=>⟨h3,Qq _⟩) hmh h2 (Qq _) h1;rw[lp hu hsz b1];simp
 unfold jj at k;cases hx with
 | nils =>
  dsimp only at k
  split at k
  ·rename_i p q r h1 h2 h3;injection k with k;subst k;exact⟨_,zero none rfl p q r h1 h2 h3,.nils _⟩
  ·cases k
 | esl _ a =>
  dsimp only at k
  split at k
  ·rename_i p q r h1 h2 h3;injection k with k;subst k;exact⟨_,zero (some a) rfl p q r h1 h2 h3,.esl _ a⟩
  ·cases k
 | tnil _ tag sz' a cap ht =>
  cases mx with
  | none =>
   cases mv with
   |some z=>cases hmx
   | none =>
    dsimp only at k
    split at k
    ·cases k
    ·rename_i h L
     split at k
     ·cases k
     ·rename_i l hl;simp only[aa]at k
      split at k
      ·injection k with k;subst k;have M:(a7 ([]:List (List AV)))=0:=rfl;rw[M]at L;obtain⟨b1,b2,K⟩:=cB (P:=C.P) (isSlice:=true) (len:=0) (cap:=cap) (d:=0) (limM:=0) hlo hhi hmx (λ_=>rfl) (λh=>absurd rfl h) hmh L (Q_ _) hl;have e1:h=0:=by omega
       have e2:l=0:=by omega
       subst e1;subst e2;refine⟨_,lp hu hsz b1,?_⟩;have e3:fY (0 - 0) (eR 0 ([]:List (List AV)))=[]:=by simp[be]
       rw[e3]
       by_cases hc:cap=0
       ·rw[Qw hc];exact .tnil _ tag sz a _ ht
       ·rw[Qu hc];exact .tnil _ tag sz _ _ ht
      ·cases k
  | some xm =>
   dsimp only at k;cases mv with
   |none=>cases hmx
   | some vm =>
    split at k
    ·rename_i p q r h1 h2 h3;injection k with k;subst k;have e1:p=0:=by have:=t8 h1;omega
     subst e1;obtain⟨b1,b2,K⟩:=cB (P:=C.P) (isSlice:=true) (len:=0) (cap:=cap) (d:=0) (limM:=0) (m:=0) hlo hhi hmx (λh=>by cases h) (λ_=>⟨h1,Q_ _⟩) hmh h2 (Qq _)
      (by rw[lr h2];exact h3)
     have e1:q=0:=by omega
     have e2:r=0:=by omega
     subst e1;subst e2;refine⟨_,lp hu hsz b1,?_⟩;simpa using RV.esl _ a
    ·cases k
 | tsl _ tag sz' rows b o cap cell ht hc hb hm ha hrl ho hw hcell hcl =>
  cases mx with
  | none =>
   cases mv with
   |some z=>cases hmx
   | none =>
    simp only[aq,be,bc]at k
    split at k
    ·cases k
    ·rename_i h L
     split at k
     ·cases k
     ·rename_i l hl;simp only[aa]at k
      split at k
      ·rename_i E;have E:=aI E;subst E;injection k with k;subst k;obtain⟨b1,b2,K⟩:=cB (P:=C.P) (isSlice:=true) (len:=rows.length) (cap:=cap) (d:=0) (limM:=0) hlo hhi hmx (λ_=>rfl) (λh=>absurd rfl h) hmh L hc hl;have e1:h<=rows.length:=by omega
       refine⟨_,lp hu hsz b1,?_⟩;have t:((rows.drop l).take (h - l)).length=h - l:=by simp;omega
       by_cases hc0:cap=l
       ·rw[Qw hc0];have e2:h - l=0:=by omega
        rw[e2,Tm];exact .tnil _ tag sz _ _ ht
       ·rw[Qu hc0];simp only[RK,gP];have:=RV.tsl (w:=w) (γ:=γ) (A:=A) bd tag sz ((rows.drop l).take (h - l)) b (o+l*sz) (cap - l) (λi j=>cell (l+i) j) ht (by rw[t];omega) hb hm ha
         (λi row hi=>?_) (λi j row x hi hj=>?_) (λi j row x hi hj=>?_) (λi j row x hi hj=>?_) (λrow hrow=>hcl row (Sz (Q8 hrow)))
        ·rwa [t]at this
        all_goals
         have s:=hi;rw[Sr,]at s
         split at s
         ·rw[Ra]at s
          first
          |exact hrl _ _ s
          |exact ho _ _ _ _ s hj
          |exact hcell _ _ _ _ s hj
          | (have:=hw _ _ _ _ s hj
             rwa [show o+l*sz+i*sz+j=o+(l+i)*sz+j from by rw[QX];omega])
         ·cases s
      ·cases k
  | some xm =>
   dsimp only at k;cases mv with
   |none=>cases hmx
   | some vm =>
    split at k
    ·rename_i p q r h1 h2 h3;injection k with k;subst k;have e1:p=0:=by have:=t8 h1;omega
     subst e1;cases hi with
     |none=>exact absurd rfl (hmh (by simp))
     | some z =>
      cases hv with
      |none=>cases hhi
      | some vh =>
       have e0:=lr h2;subst e0;obtain⟨b1,b2,K⟩:=cB (P:=C.P) (isSlice:=true) (len:=rows.length) (cap:=cap) (d:=0) (limM:=0) (m:=0) (lh:=0) (h:=0) hlo hhi hmx (λh=>by cases h) (λ_=>⟨h1,Q_ _⟩) hmh h2 (Qq _) h3;have e2:r=0:=by omega
       subst e2;refine⟨_,lp hu hsz b1,?_⟩;simpa using RV.esl _ _
    ·cases k
 | hsl _ id ep off len lim b0 o0 cap0 hk he hc0 h0 =>
  have F:=agree id (by simp[af]);dsimp only at k;rw[<-F]at k;cases hid:hg id with
  | cells sz' rows ep' loose fz =>
   rw[hid]at k;simp only[aa,aq]at k
   split at k
   ·rename_i f;simp only[Qt,Q6]at f;obtain⟨⟨h1,h2⟩,h3⟩:=f;have h1:=aI h1;have h2:=aI h2;subst h1;subst h2;obtain⟨cap,J,W,n⟩:=AZ hr (RV.hsl bd id ep off len lim b0 o0 cap0 hk he hc0 h0) hid;rw[J];have O:=hr.obj id;rw[hid]at O;obtain⟨X,k2,Y,Z,k5,_⟩:=O
    split at k
    ·cases k
    ·rename_i m hm
     split at k
     ·cases k
     ·rename_i h L
      split at k
      ·cases k
      ·rename_i l hl
       let u:=lim.getD (rows.length - off)
       have N:u<=cap:=by unfold kI at n;cases lim<;>simp only[u,Option.getD]at *<;>omega
       have D:lim≠none\/loose=false->cap=u:=by
        unfold kI at n;intro h;cases lim with
        |none=>simp at h;have:=k5.1 h;simp only[u,Option.getD];dsimp only at n;omega
        |some c=>simp only[u,Option.getD];exact n.1
       have R:mx≠none->m<=u:=by
        intro h;cases mx with
        |none=>exact absurd rfl h
        | some z=>cases mv with
         |none=>cases hmx
         |some zv=>exact t8 hm
       have I:mx=none->m=u:=by intro h;subst h;simp[aQ]at hm;exact hm.symm
       let mR:=if mx=none then cap else m
       have Q:m<=mR:=by
        simp only[mR];split
        ·rename_i h;rw[I h];exact N
        ·exact Qq _
       obtain⟨b1,b2,K⟩:=cB (P:=C.P) (isSlice:=true) (len:=len) (cap:=cap) (d:=u) (limM:=u) (m:=mR) (lh:=m) hlo hhi hmx
        (λh=>by simp[mR,h]) (λh=>⟨by simp only[mR,Qu h];exact hm,N⟩) hmh L Q hl
       refine⟨_,lp hu hsz b1,?_⟩;have t:len<=u:=by
        unfold kI at n;cases lim with
        |none=>simp only[u,Option.getD];omega
        |some c=>simp only[u,Option.getD];omega
       have V:h<=m:=by
        rcases K with⟨e1,e2⟩|e1
        ·have:mx=none:=by
          cases mx with
          |none=>rfl
          |some z=>exact absurd e1 (hmh (by simp))
         rw[I this,e2];exact t
        ·exact e1
       split at k
       ·rename_i B;have B:=aI B;subst B;have e1:h=m:=by omega
        subst e1
        split at k
        ·rename_i f;injection k with k;subst k;have e2:mR=h:=by
          simp only[mR];split
          ·rename_i H;rw[D,I H];subst H;simp at f;cases lim with
           |none=>right;simpa using f
           |some c=>left;simp
          ·rfl
         rw[Qw e2,e2,Rm];exact .esl _ _
        ·injection k with k;subst k;rw[Rm]
         by_cases h9:mR=h
         ·rw[Qw h9];exact .tnil _ 0 sz _ _ (Q_ _)
         ·rw[Qu h9];exact .tnil _ 0 sz _ _ (Q_ _)
       ·rename_i B;injection k with k;subst k;have hlt:l<m:=by
         rcases Se l m with h9|h9
         ·exact h9
         ·exact absurd (by rw[show m=l from by omega];exact Q2 l) B
        rw[Qu (show ¬mR=l by omega)];simp only[RK,gP];refine .hsl _ id ep (off+l) (h - l) _ _ _ _ X (by omega) (by omega) λ_=>⟨rfl,by rw[Y,QX];omega,?_⟩;cases mx with
        | some z =>
         have e3:mR=m:=by simp[mR]
         have U:=R (by simp);simp only[kI];rw[e3,Z];unfold kI at n;cases lim with
         |none=>simp only[u,Option.getD]at U;omega
         |some c=>simp only[u,Option.getD]at U;dsimp only at n;omega
        | none =>
         have e3:mR=cap:=by simp[mR]
         unfold kI at n ⊢;cases lim with
         |none=>dsimp only[Option.map]at n ⊢;omega
         |some c=>dsimp only[Option.map]at n ⊢;omega
   ·cases k
  |_=>rw[hid]at k;cases k
 |_=>cases k
end
section
variable {C:Cfg}{A:Nat->Nat->Prop}{bd:Nat}{w w':World}{γ γ':Gm}{hg:Nat->AObj}{nx:Nat}
theorem pC{α:Type}{f:α->Option Nat}:∀{l:List α} {m:Nat},ge f l=some m->∀x∈l,∃k,f x=some k/\k<=m:=by
 intro l
 induction l with
 |nil=>intro m _ x hx;cases hx
 | cons a l ih =>
  intro m h x hx;simp only[ge]at h
  split at h
  ·rename_i k hk
   split at h
   ·rename_i b hb;injection h with h;subst h;rcases Rh.1 hx with rfl|hx
    ·exact⟨k,hk,RO _ _⟩
    ·obtain⟨k',h1,h2⟩:=ih hb x hx;exact⟨k',h1,QW h2 (R5 _ _)⟩
   ·cases h
  ·cases h
theorem Bw:∀(f:Nat) {x:AV} {v:Value} {m:Nat},eh f x=some m->RV w γ A bd x v->RV w γ A m x v:=by
 intro f
 induction f with
 |zero=>intro x v m h;cases h
 | succ f ih =>
  intro x v m h hx;have hs:∀{cs:List AV} {vs:Array Value} {m':Nat},ge (eh f) cs=some m'->m'<=m ->
    (∀(i:Nat) x v,cs[i]?=some x->vs[i]?=some v->RV w γ A bd x v)->∀(i:Nat) x v,cs[i]?=some x->vs[i]?=some v->RV w γ A m x v:=by
   intro cs vs m' h1 h2 h3 i x v hi hv;obtain⟨k,c,k2⟩:=pC h1 x (Qx hi);exact (ih c (h3 i x v hi hv)).mono (QW k2 h2)
  cases hx with
  | tsl _ tag sz rows b o cap cell ht hc hb hm ha hrl ho hw hcell hcl =>
   simp only[eh]at h;injection h with h;subst h;exact .tsl _ tag sz rows b o cap cell (Qq _) hc hb hm ha hrl ho hw hcell hcl
  | tnil _ tag sz a cap ht =>
   simp only[eh]at h;injection h with h;subst h;exact .tnil _ tag sz a cap (Qq _)
  | tptr _ tag sz rows i0 off0 b o cell ht hb hm ha hrl ho hw hcell hcl =>
   simp only[eh]at h;injection h with h;subst h;exact .tptr _ tag sz rows i0 off0 b o cell (Qq _) hb hm ha hrl ho hw hcell hcl
  |agg _ xs vs hl h1 h2=>exact .agg _ _ _ hl h1 (hs h (Qq _) h2)
  |tup _ xs vs hl h2=>exact .tup _ _ _ hl (hs h (Qq _) h2)
  | clo _ g xs ys vs us hl hl2 h1 h2 =>
   simp only[eh]at h;have ha:=pC h;refine .clo _ g xs ys vs us hl hl2 (λi x v hi hv=>?_) (λi x v hi hv=>?_)
   ·obtain⟨k,c,k2⟩:=ha x (R2 _ (Qx hi));exact (ih c (h1 i x v hi hv)).mono k2
   ·obtain⟨k,c,k2⟩:=ha x (RU _ (Qx hi));exact (ih c (h2 i x v hi hv)).mono k2
  |ifc _ t x v h1=>exact .ifc _ t x v (ih h h1)
  |bool=>exact .bool _ _
  |int=>exact .int _ _ _
  |str=>exact .str _ _
  |nilp=>exact .nilp _
  |nils=>exact .nils _
  |nilf=>exact .nilf _
  |nilm=>exact .nilm _
  |nili=>exact .nili _
  |esl _ a=>exact .esl _ a
  |hsl _ id ep off len lim b o cap hk he hc h'=>cases h
  |hptr _ id ep i off b o hk he h'=>cases h
  |hmap _ id b hk hb=>cases h
  |yld _ id b hk hb=>cases h
theorem dZ{α:Type}{f:α->Option Nat}{b:Nat}:∀{l:List α} {m:Nat},ge f l=some m->(∀x∈l,∀k,f x=some k->k<=b)->m<=b:=by
 intro l
 induction l with
 |nil=>intro m h _;simp[ge]at h;omega
 | cons a l ih =>
  intro m h hb;simp only[ge]at h
  split at h
  ·rename_i k hk
   split at h
   ·rename_i b' c;injection h with h;subst h;exact Tj.2 ⟨hb a Rv k hk,ih c λx hx=>hb x (Q9 _ hx)⟩
   ·cases h
  ·cases h
theorem wY:∀(f:Nat) {x:AV} {v:Value} {m:Nat},eh f x=some m->RV w γ A bd x v->m<=bd:=by
 intro f
 induction f with
 |zero=>intro x v m h;cases h
 | succ f ih =>
  intro x v m h hx;have hs:∀{cs:List AV} {vs:Array Value},cs.length=vs.size ->
    (∀(i:Nat) x v,cs[i]?=some x->vs[i]?=some v->RV w γ A bd x v)->∀x∈cs,∀k,eh f x=some k->k<=bd:=by
   intro cs vs hl h3 x hx k hk;obtain⟨i,hi⟩:=QN hx;have hlt:i<vs.size:=by rw[<-hl];exact (Qs.1 hi).1
   exact ih hk (h3 i x _ hi (QO hlt))
  cases hx with
  |tsl _ tag sz rows b o cap cell ht hc hb hm ha hrl ho hw hcell hcl=>simp only[eh]at h;injection h with h;omega
  |tnil _ tag sz a cap ht=>simp only[eh]at h;injection h with h;omega
  |tptr _ tag sz rows i0 off0 b o cell ht hb hm ha hrl ho hw hcell hcl=>simp only[eh]at h;injection h with h;omega
  |agg _ xs vs hl h1 h2=>exact dZ h (hs hl h2)
  |tup _ xs vs hl h2=>exact dZ h (hs hl h2)
  | clo _ g xs ys vs us hl hl2 h1 h2 =>
   refine dZ h λx hx k hk=>?_;rcases Q7.1 hx with hx|hx
   ·exact hs hl h1 x hx k hk
   ·exact hs hl2 h2 x hx k hk
  |ifc _ t x v h1=>exact ih h h1
  |_=>first| (cases h;done)| (simp only[eh]at h;injection h with h;omega)
theorem DC:∀(f:Nat) {x:AV} {v:Value} {m:Nat},eh f x=some m->RV w γ A bd x v->Closed x:=by
 intro f
 induction f with
 |zero=>intro x v m h;cases h
 | succ f ih =>
  intro x v m h hx;have hs:∀{cs:List AV} {vs:Array Value},cs.length=vs.size->(∀x∈cs,∃k,eh f x=some k) ->
    (∀(i:Nat) x v,cs[i]?=some x->vs[i]?=some v->RV w γ A bd x v)->∀x∈cs,Closed x:=by
   intro cs vs hl h1 h3 x hx;obtain⟨i,hi⟩:=QN hx;have hlt:i<vs.size:=by rw[<-hl];exact (Qs.1 hi).1
   obtain⟨k,hk⟩:=h1 x hx;exact ih hk (h3 i x _ hi (QO hlt))
  have he:∀{cs:List AV} {m':Nat},ge (eh f) cs=some m'->∀x∈cs,∃k,eh f x=some k:=λh x hx=>by obtain⟨k,c,_⟩:=pC h x hx;exact⟨k,c⟩
  cases hx with
  |tsl _ tag sz rows b o cap cell ht hc hb hm ha hrl ho hw hcell hcl=>exact .tsl _ _ _ hcl
  |tnil=>exact .tsl _ _ _ (λrow h=>by cases h)
  |tptr _ tag sz rows i0 off0 b o cell ht hb hm ha hrl ho hw hcell hcl=>exact .tptr _ _ _ _ _ hcl
  |agg _ xs vs hl h1 h2=>exact .agg _ (hs hl (he h) h2)
  |tup _ xs vs hl h2=>exact .tup _ (hs hl (he h) h2)
  | clo _ g xs ys vs us hl hl2 h1 h2 =>
   have a:=he h;exact .clo _ _ _ (hs hl (λx hx=>a x (R2 _ hx)) h1) (hs hl2 (λx hx=>a x (RU _ hx)) h2)
  |ifc _ t x v h1=>exact .ifc _ _ (ih h h1)
  |_=>first| (cases h;done)|constructor
theorem tC{rows:List (List AV)}{i j:Nat}{row:List AV}(h:eM rows=some m)(hi:rows[i]?=some row)(hj:row[j]?=some x)
  (hv:RV w γ A bd x v):RV w γ A m x v:=by
 obtain⟨k,a,k2⟩:=pC h row (Qx hi);obtain⟨k',b,c⟩:=pC a x (Qx hj);exact (Bw _ b hv).mono (QW c k2)
theorem xD{sz:Nat}:∀(n:Nat) (cs:List AV),n*sz<=cs.length ->
  (pf sz n cs).length=n/\∀(i:Nat) row,(pf sz n cs)[i]?=some row->row.length=sz/\∀(j:Nat) x,row[j]?=some x->cs[i*sz+j]?=some x:=by
 intro n
 induction n with
 |zero=>intro cs _;exact⟨rfl,λi row h=>by simp[pf]at h⟩
 | succ n ih =>
  intro cs h;rw[QX,RH]at h;obtain⟨h1,h2⟩:=ih (cs.drop sz) (by simp;omega);simp only[pf,bc,be];refine⟨by simp[h1],λi row hi=>?_⟩;cases i with
  | zero =>
   simp at hi;subst hi;refine⟨by simp;omega,λj x hj=>?_⟩;rw[Sr]at hj
   split at hj
   ·simpa using hj
   ·cases hj
  | succ i =>
   simp at hi;obtain⟨h3,h4⟩:=h2 i row hi;refine⟨h3,λj x hj=>?_⟩;have:=h4 j x hj;rw[Ra]at this;rw[QX,RH];rw[show i*sz+sz+j=sz+(i*sz+j) from by omega];exact this
theorem Rel.freeze(hr:Rel C A bd w γ hg nx){id sz ep:Nat}{rows:List (List AV)}{loose fz:Bool}(hid:hg id=.cells sz rows ep loose fz) :
  ∃γ',Rel C A bd w γ' (upd hg id (.cells sz rows ep loose true)) nx/\Stp w γ w γ'/\γ'=upd γ id { γ id with wr:=false }/\¬Mut γ' (γ id).blk:=by
 have h:=hr.obj id;rw[hid]at h;obtain⟨k,k2,f,l,m,q,c,e,n,o,p,d⟩:=h;have s:Stp w γ w (upd γ id { γ id with wr:=false }):=by
  refine⟨Qq _,rfl,rfl,rfl,λ_ _ _=>rfl,?_,?_,?_,Qq _⟩
  ·rintro b _ ⟨j,h1,h2,h3⟩
   by_cases hj:j=id
   ·subst hj;simp at h2
   ·rw[cP _ _ hj]at h1 h2 h3;exact⟨j,h1,h2,h3⟩
  ·intro j hk
   by_cases hj:j=id
   ·subst hj;left;simp
   ·rw[cP _ _ hj];exact .inl ⟨rfl,rfl⟩
  ·intro j hk
   by_cases hj:j=id
   ·subst hj;simp
   ·rw[cP _ _ hj];exact⟨Qq _,λ_=>⟨rfl,rfl,rfl,rfl,rfl⟩⟩
 refine⟨_,hr.set rfl s (Qq _) ?_ (hr.lt id (by rw[k];decide)) (λj hj hkj e=>hj (hr.inj j id hkj (by rw[k];decide) e)) (hr.av id (by rw[k];decide)) (λ_ _ _ _=>rfl),s,rfl,?_⟩
 ·simp only[ObjRel,upd_same];refine⟨k,k2,f,l,m,rfl,c,e,n,o,p,λi j row x h1 h2=>?_⟩;obtain⟨a,v,b1,b2⟩:=d i j row x h1 h2;exact⟨a,v,b1,b2.step s⟩
 ·rintro⟨j,h1,h2,h3⟩
  by_cases hj:j=id
  ·subst hj;simp at h2
  ·rw[cP _ _ hj]at h1 h2 h3;exact hj (hr.inj j id h1 (by rw[k];decide) h3)
theorem Bn{sz:Nat}{a:T->AV}{lo hi:T->Option AV}{t:T}{lv hv:Option Value}
  (hr:Rel C A bd w γ hg nx) (hu:C.P.underlying ty=some (.array n e)) (hsz:szT C.P e=some sz) (hs0:0<sz) (hx:RV w γ A bd (a t) v)
  (hlo:OVR w γ A bd (lo t) lv) (hhi:OVR w γ A bd (hi t) hv) (agree:∀id∈af (a t),hg id=g.h.get id) :
  cR C A bd w γ hg nx (Instr.sliceAt ty v lv hv none) g (iH n sz a lo hi t g):=by
 unfold iH;generalize a t=x at *;generalize lo t=lo at *;generalize hi t=hi at *
 split
 ·trivial
 ·rename_i h K
  split
  ·trivial
  ·rename_i l hl;obtain⟨b1,b2,O⟩:=cB (P:=C.P) (isSlice:=false) (len:=n) (cap:=n) (d:=0) (limM:=0) (mx:=none) (mv:=none) hlo hhi trivial (λ_=>rfl) (λh=>absurd rfl h)
    (λh=>absurd rfl h) K (Qq _) hl
   have L:h<=n:=by omega
   have q:∀b o,v=.pointer (some (adr b o))->(Instr.sliceAt ty v lv hv none).run C.P w=.ok (.slice (some (if n=l then adr b o else adr b (o+l*sz))) (h - l) (n - l)) w:=by intro b o e;subst e;unfold Instr.sliceAt;simp[aA hu,Instr.sureAddr,b1,aY hsz,gP]
   cases hx with
   | tptr _ tag sz' rows i0 off0 b o cell ht hb hm ha hrl ho hw c hcl =>
    simp only[dy];cases hrow:rows[i0]? with
    |none=>trivial
    | some row =>
     simp only[aa,aq,bc]
     split
     ·rename_i u;rw[Q6]at u;have F:l*sz+(h - l)*sz<=n*sz:=by rw[<-QX];exact QS _ (by omega)
      obtain⟨c1,z⟩:=xD (sz:=sz) (h - l) (row.drop (off0+l*sz)) (by simp;omega);refine⟨_,q _ _ rfl,?_⟩
      by_cases hnl:n=l
      ·have e0:h - l=0:=by omega
       rw[e0,Qw hnl];exact .tnil _ tag sz _ _ ht
      ·rw[Qu hnl];have:=RV.tsl (w:=w) (γ:=γ) (A:=A) bd tag sz (pf sz (h - l) (row.drop (off0+l*sz))) b (o+i0*sz'+off0+l*sz) (n - l) (λi j=>cell i0 (off0+l*sz+(i*sz+j))) ht (by rw[c1];omega) hb hm ha
        (λi r hi=>(z i r hi).1) (λi j r y hi f=>?_) (λi j r y hi f=>?_) (λi j r y hi f=>?_)
        (λr hr' y hy=>by
         obtain⟨i,hi⟩:=QN hr';obtain⟨j,f⟩:=QN hy;have h9:=(z i r hi).2 j y f;rw[Ra]at h9;exact hcl row (Qx hrow) y (Qx h9))
       ·rwa [c1]at this
       all_goals
        have h9:=(z i r hi).2 j y f;rw[Ra]at h9
        first
        |exact ho _ _ _ _ hrow h9
        |exact c _ _ _ _ hrow h9
        | (have:=hw _ _ _ _ hrow h9
           rwa [show o+i0*sz'+off0+l*sz+i*sz+j=o+i0*sz'+(off0+l*sz+(i*sz+j)) from by omega])
     ·trivial
   | hptr _ id ep i off b o hk he h' =>
    have p:=agree id (by simp[af]);simp only[G.get_eq,<-p];cases hid:hg id with
    | cells sz' rows ep' loose fz =>
     simp only[aa,dy]
     split
     ·rename_i s;have s:=aI s;subst s;cases hrow:rows[i]? with
      |none=>trivial
      | some row =>
       simp only[aq,bc]
       split
       ·rename_i u;rw[Q6]at u;have F:l*sz+(h - l)*sz<=n*sz:=by rw[<-QX];exact QS _ (by omega)
        obtain⟨c1,z⟩:=xD (sz:=sz) (h - l) (row.drop (off+l*sz)) (by simp;omega);generalize hch:pf sz (h - l) (row.drop (off+l*sz))=rs at *;cases htag:eM rs with
        |none=>trivial
        | some m =>
         dsimp only;have D:=hr.obj id;rw[hid]at D;obtain⟨E,k2,H,_⟩:=D;obtain⟨I,q2⟩:=h' k2.symm;obtain⟨γ',M,J,Q,N⟩:=hr.freeze hid;refine⟨_,w,γ',id,_,q _ _ (by rw[I,q2]),?_,J,.inl ⟨rfl,M⟩⟩;have c:∀(i' j:Nat) r y,rs[i']?=some r->r[j]?=some y->y.one=true/\∃v,w.cell? (adr (γ id).blk ((γ id).base+i*(γ id).sz+off+l*sz+i'*sz+j))=some v/\RV w γ A bd y v:=by intro i' j r y hi f;have h9:=(z i' r hi).2 j y f;rw[Ra]at h9;have:=se hr hid hrow _ y h9;rwa [<-H,show (γ id).base+i*(γ id).sz+(off+l*sz+(i'*sz+j))=(γ id).base+i*(γ id).sz+off+l*sz+i'*sz+j from by omega]at this
         have B:m<=bd:=by refine dZ htag λr hr' k hk=>dZ hk λy hy k' hk'=>?_;obtain⟨i',hi⟩:=QN hr';obtain⟨j,f⟩:=QN hy;obtain⟨_,v,_,h3⟩:=c i' j r y hi f;exact wY _ hk' h3
         by_cases hnl:n=l
         ·have e0:rs=[]:=by rw[<-Sj];omega
          rw[Qw hnl,show h - l=0 from by omega,e0];exact .tnil _ m sz _ _ B
         ·rw[Qu hnl];subst I;have:=RV.tsl (w:=w) (γ:=γ') (A:=A) bd m sz rs (γ id).blk ((γ id).base+i*(γ id).sz+off+l*sz) (n - l)
           (λi' j=>(w.cell? (adr (γ id).blk ((γ id).base+i*(γ id).sz+off+l*sz+i'*sz+j))).getD undef) B (by rw[c1];omega)
           (hr.lt id (by rw[E];decide)).2 N (hr.av id (by rw[E];decide) m)
           (λi r hi=>(z i r hi).1) (λi j r y hi f=>(c i j r y hi f).1) (λi j r y hi f=>?_) (λi j r y hi f=>?_)
           (λr hr' y hy=>by
            obtain⟨i,hi⟩:=QN hr';obtain⟨j,f⟩:=QN hy;obtain⟨_,v,_,h3⟩:=c i j r y hi f;obtain⟨k,E,k2⟩:=pC htag r hr';obtain⟨k',H,_⟩:=pC E y hy;exact DC _ H h3)
          ·rwa [c1]at this
          ·obtain⟨_,v,h3,_⟩:=c i j r y hi f;rw[h3];rfl
          ·obtain⟨_,v,h3,h4⟩:=c i j r y hi f;rw[h3];exact (tC htag hi f h4).step J
       ·trivial
     ·trivial
    |_=>trivial
   |_=>trivial
end
section
variable {C:Cfg}{A:Nat->Nat->Prop}{bd:Nat}{w w':World}{γ γ':Gm}{hg:Nat->AObj}{nx:Nat}
theorem jJ{s:Sem Value}(h:oP s=some y)(P:Program)(w:World):∃v,s.run P w=.ok v w/\RV w γ A bd y v:=by
 unfold oP at h
 split at h
 ·injection h with h;subst h;exact⟨_,rfl,.int _ _ _⟩
 ·injection h with h;subst h;exact⟨_,rfl,.bool _ _⟩
 ·cases h
theorem D6{op:BinOp}{k:IntKind}{r:Nat}(hs:kY k m n=true)
  (h:(match op with
    |.and=>some (AV.int k (.ofNat (Nat.land m n)))
    |.or=>some (.int k (.ofNat (Nat.lor m n)))
    |.xor=>some (.int k (.ofNat (Nat.xor m n)))
    |.andNot=>some (.int k (.ofNat (Nat.xor m (Nat.land m n))))
    |_=>none)=some (.int k (.ofNat r))):(Op.intBits op k (.ofNat m) (.ofNat n)).run P w=.ok (.int k (.ofNat r)) w:=by
 have b:k.bits=64/\m<2 ^ 64/\n<2 ^ 64/\∀x:Nat,x<2 ^ 64->(k=.i64->x<2 ^ 63)->k.wrap (x:Int)=(x:Int):=by
  unfold kY at hs;cases k<;>simp only[Qt,Rr,Sq]at hs
  ·exact⟨rfl,by omega,by omega,λx _ h=>pS x (by have:=h rfl;omega)⟩
  ·refine⟨rfl,by omega,by omega,λx h _=>?_⟩;rw[<-gN];show (Int.ofNat (x % 18446744073709551616))=_;rw[Tc (by omega)];rfl
 have a:k=.i64->m<2 ^ 63/\n<2 ^ 63:=by intro e;subst e;simp only[kY,Qt,Rr]at hs;omega
 obtain⟨hb,hm,c,hw⟩:=b;have e1:(BitVec.ofInt k.bits (Int.ofNat m)).toNat=m:=by rw[hb];simp only[RM,BitVec.ofInt_natCast,BitVec.toNat_ofNat];exact Tc hm
 have e2:(BitVec.ofInt k.bits (Int.ofNat n)).toNat=n:=by rw[hb];simp only[RM,BitVec.ofInt_natCast,BitVec.toNat_ofNat];exact Tc c
 have fin:∀(z:BitVec k.bits) (q:Nat),z.toNat=q->q<2 ^ 64->(k=.i64->q<2 ^ 63)->q=r ->
   (Sem.pure (Value.int k (k.wrap z.toNat)):Sem Value).run P w=.ok (.int k (.ofNat r)) w:=by
  intro z q h1 h2 h3 h4;rw[h1,hw q h2 h3,h4];rfl
 unfold Op.intBits;cases op<;>first| (cases h;done)|skip
 case and =>
  injection h with h;injection h with _ h;injection h with h;exact fin _ (m &&& n) (by rw[BitVec.toNat_and,e1,e2]) (Ti _ c) (λe=>Ti _ (a e).2) h
 case or =>
  injection h with h;injection h with _ h;injection h with h;exact fin _ (m ||| n) (by rw[BitVec.toNat_or,e1,e2]) (Nat.or_lt_two_pow hm c) (λe=>Nat.or_lt_two_pow (a e).1 (a e).2) h
 case xor =>
  injection h with h;injection h with _ h;injection h with h;exact fin _ (m ^^^ n) (by rw[BitVec.toNat_xor,e1,e2]) (Tk hm c) (λe=>Tk (a e).1 (a e).2) h
 case andNot =>
  injection h with h;injection h with _ h;injection h with h;have hx:∀(x y:BitVec k.bits),x &&& ~~~y=x ^^^ (x &&& y):=by intro x y;ext i hi;simp only[BitVec.getElem_and,BitVec.getElem_not,BitVec.getElem_xor];cases x[i]<;>cases y[i]<;>rfl
  exact fin _ (m ^^^ (m &&& n)) (by rw[hx,BitVec.toNat_xor,BitVec.toNat_and,e1,e2]) (Tk hm (Ti _ c))
   (λe=>Tk (a e).1 (Ti _ (a e).2)) h
theorem Ep{op:BinOp}{k k':IntKind}{a b:Int}(h:(fg op).run k a k' b=some y) :
  ∃v,(binOp op ty (.int k a) (.int k' b)).run P w=.ok v w/\RV w γ A bd y v:=by
 have hk:∀{α:Type} {x:Option α} {y:α},ak (cN k k') x none=some y->k=k'/\x=some y:=by
  intro α x y h;rw[aa,oG]at h
  split at h
  ·rename_i h1;exact⟨by simpa using h1,h⟩
  ·cases h
 cases op
 case add|sub|mul =>
  obtain⟨rfl,h1⟩:=hk h;injection h1 with h1;subst h1;refine⟨_,by simp only[binOp,Op.intArith,ne_eq,not_true,if_false];rfl,?_⟩;rw[gN];exact .int _ _ _
 case quo =>
  obtain⟨rfl,h1⟩:=hk h;clear h;unfold L4 at h1;simp only[binOp,ne_eq,not_true,if_false]
  split at h1
  ·rename_i m n;injection h1 with h1;subst h1;refine⟨_,?_,by rw[gN];exact .int _ _ _⟩;unfold Op.intDiv;rw[Qu (by simp only[RM];omega)]
   rfl
  ·exact jJ h1 P w
 case rem =>
  obtain⟨rfl,h1⟩:=hk h;clear h;unfold Mb at h1;simp only[binOp,ne_eq,not_true,if_false]
  split at h1
  ·rename_i m n;injection h1 with h1;subst h1;refine⟨_,?_,.int _ _ _⟩;unfold Op.intDiv;rw[Qu (by simp only[RM];omega)]
   rfl
  ·exact jJ h1 P w
 case and|or|xor|andNot =>
  obtain⟨rfl,h1⟩:=hk h;clear h;unfold Mz at h1;simp only[binOp,ne_eq,not_true,if_false]
  split at h1
  ·rename_i m n;rw[aa]at h1
   split at h1
   ·rename_i hs;have h0:=h1;injection h1 with h1;subst h1;exact⟨_,D6 hs h0,.int _ _ _⟩
   ·exact jJ h1 P w
  ·exact jJ h1 P w
 case shl =>
  change Kw k a b=some y at h;unfold Kw at h;simp only[binOp]
  split at h
  ·rename_i m n;injection h with h;subst h;refine⟨_,?_,by rw[gN];exact .int _ _ _⟩;unfold Op.shift;rw[Qu (by simp only[RM];omega)];have:(Int.ofNat n).toNat=n:=rfl;simp only[this,Q0];congr 3
  ·exact jJ (s:=Op.shift .shl k a k' b) h P w
 case shr =>
  change Kx k a b=some y at h;unfold Kx at h;simp only[binOp]
  split at h
  ·rename_i m n;injection h with h;subst h;refine⟨_,?_,.int _ _ _⟩;unfold Op.shift;rw[Qu (by simp only[RM];omega)];have:(Int.ofNat n).toNat=n:=rfl;simp only[this,Q0];congr 2;have e:(2:Int) ^ (min n k.bits)=((2 ^ (min n k.bits):Nat):Int):=by simp
   rw[e,Int.fdiv_eq_ediv_of_nonneg _ (SZ _)]
   rfl
  ·exact jJ (s:=Op.shift .shr k a k' b) h P w
 all_goals
  obtain⟨rfl,h1⟩:=hk h;injection h1 with h1;subst h1;refine⟨_,by simp only[binOp,Op.intCmp,ne_eq,not_true,if_false];rfl,?_⟩;simp only[wL,kU,notb_eq]
 case eql=>exact .bool _ _
 case neq =>
  rw[show (a != b) = !decide (a=b) from by simp[bne];rfl];exact .bool _ _
 case lss=>exact .bool _ _
 case leq =>
  rw[show decide (a<=b) = !decide (b<a) from by rw[SM];simp];exact .bool _ _
 case gtr=>exact .bool _ _
 case geq =>
  rw[show decide (a >= b) = !decide (a<b) from by rw[SM];simp];exact .bool _ _
end
section
variable {C:Cfg}{A:Nat->Nat->Prop}{bd:Nat}{w w':World}{γ γ':Gm}{hg:Nat->AObj}{nx:Nat}
theorem fe{b:Nat}{o:Obj}(h:w.heap[b]?=some o)(hc:∀c e f,o≠.cells c e f):(getObj b).run P w=.ok o w:=by cases o<;>first| (exact absurd rfl (hc _ _ _))|simp[getObj,Sem.run,h]
theorem hZ{b:Nat}{o o':Obj}(h:w.heap[b]?=some o)(hc:∀c e f,o≠.cells c e f):(setObj b o').run P w=.ok () (World.setBlk w b o'):=by cases o<;>first| (exact absurd rfl (hc _ _ _))|simp[setObj,Sem.run,h,World.setBlk]
theorem LF{argTypes:Array TypeId}(hr:Rel C A bd w γ hg nx)(h0:argTypes[0]?=some t)
  (hx:RV w γ A bd x v) (agree:kV C.P t=.map->∀id∈uk x,hg id=g.h.get id) :
  ValSim C A bd w γ (Builtin.len_ argTypes ty #[v]) (bY (kV C.P t) x g):=by
 have a0:(#[v]:Array Value)[0]?=some v:=rfl;unfold Builtin.len_ kV;cases hu:C.P.underlying t with
 |none=>trivial
 | some d =>
  cases d<;>try trivial
  case array n e =>
   refine⟨goInt n,?_,.int _ _ _⟩;simp only[h0,a0,QC,aA hu,Qy]
   rfl
  case slice e =>
   simp only[bY];cases hx with
   |nils=>exact⟨goInt 0,by simp[h0,aA hu],.int _ _ _⟩
   |esl _ a=>exact⟨goInt 0,by simp[h0,aA hu],.int _ _ _⟩
   | tsl _ tag sz rows b o cap cell ht hc hb hm ha hrl ho hw h =>
    refine⟨goInt rows.length,by simp[h0,aA hu],?_⟩;rw[aq];exact .int _ _ _
   |tnil _ tag sz a cap ht=>exact⟨goInt 0,by simp[h0,aA hu],.int _ _ _⟩
   |hsl _ id ep off len lim b o cap hk he hc h=>exact⟨goInt len,by simp[h0,aA hu],.int _ _ _⟩
   |_=>trivial
  case string =>
   simp only[bY];cases hx with
   |str _ s=>exact⟨goInt s.size,by simp[h0,aA hu],.int _ _ _⟩
   |_=>trivial
  case map kt et =>
   simp only[bY];cases hx with
   |nilm=>exact⟨goInt 0,by simp[h0,aA hu],.int _ _ _⟩
   | hmap _ id b hk hb =>
    have k:=agree (by simp[kV,hu]) id (by simp[uk]);simp only[G.get_eq,<-k];cases hid:hg id with
    | map es =>
     have c:=hr.obj id;rw[hid]at c;obtain⟨j,k2,esC,f,i,l⟩:=c;subst hb;refine⟨goInt es.length,?_,by rw[aq];exact .int _ _ _⟩;simp[h0,aA hu,fe f (by simp),i]
    |_=>trivial
   |_=>trivial
theorem Lj{argTypes:Array TypeId}(hr:Rel C A bd w γ hg nx)(h0:argTypes[0]?=some t)(hu:C.P.underlying t=some (.slice e))
  (hx:RV w γ A bd x v) (agree:∀id∈af x,hg id=g.h.get id) :
  ValSim C A bd w γ (Builtin.cap_ argTypes ty #[v]) (B5 x g):=by
 have a0:(#[v]:Array Value)[0]?=some v:=rfl;unfold B5;cases hx with
 |nils=>exact⟨goInt 0,by simp[Builtin.cap_,h0,aA hu],.int _ _ _⟩
 |esl _ a=>exact⟨goInt 0,by simp[Builtin.cap_,h0,aA hu],.int _ _ _⟩
 | hsl _ id ep off len lim b0 o0 cap0 hk he hc0 h0' =>
  have b:=agree id (by simp[af]);simp only[G.get_eq,<-b];cases hid:hg id with
  | cells sz rows ep' loose fz =>
   simp only[aa]
   split
   ·rename_i k;simp only[Qt,Rg,notb_eq,RL]at k;obtain⟨h1,h2⟩:=k;have h1:=aI h1;subst h1;have f:=hr.obj id;rw[hid]at f;obtain⟨l,k2,m,n,i,_⟩:=f;obtain⟨c1,j,d⟩:=h0' k2.symm;refine⟨goInt cap0,by simp[Builtin.cap_,h0,aA hu],?_⟩;have e:(lim.getD (a7 rows - off))=cap0:=by
     rw[aq];unfold kI at d;cases lim with
     |none=>simp at h2;have:=i.1 h2;simp only[Option.getD];dsimp only at d;omega
     |some c=>simp only[Option.getD];exact d.1.symm
    rw[e];exact .int _ _ _
   ·trivial
  |_=>trivial
 |_=>trivial
theorem LH{argTypes:Array TypeId}(hx:RV w γ A bd x v)(hy:RV w γ A bd y u) :
  ValSim C A bd w γ (Builtin.max_ argTypes ty #[v,u]) (match x with
   | .int k m=>match y with
    |.int k' n=>ak (cN k k') (.val (.int k (ak (wn m n) n m))) .fail
    |_=>.fail
   |_=>.fail):=by
 cases hx with
 | int _ k m =>
  cases hy with
  | int _ k' n =>
   dsimp only;rw[aa]
   split
   ·refine⟨.int k (if n > m then n else m),by simp[Builtin.max_,Builtin.max2],?_⟩;rw[aa,kU];simp only[QM,gt_iff_lt];exact .int _ _ _
   ·trivial
  |_=>trivial
 |_=>trivial
theorem LI{argTypes:Array TypeId}(hx:RV w γ A bd x v)(hy:RV w γ A bd y u) :
  ValSim C A bd w γ (Builtin.min_ argTypes ty #[v,u]) (match x with
   | .int k m=>match y with
    |.int k' n=>ak (cN k k') (.val (.int k (ak (wn n m) n m))) .fail
    |_=>.fail
   |_=>.fail):=by
 cases hx with
 | int _ k m =>
  cases hy with
  | int _ k' n =>
   dsimp only;rw[aa]
   split
   ·refine⟨.int k (if n<m then n else m),by simp[Builtin.min_,Builtin.min2],?_⟩;rw[aa,kU];simp only[QM];exact .int _ _ _
   ·trivial
  |_=>trivial
 |_=>trivial
end
section
variable {w:World}
def gJ:TypeDesc->Value->Bool
 |.bool,.bool _=>true
 |.int k,.int k' _=>decide (k=k')
 |.string,.string _=>true
 |_,_=>false
def aO:List TypeDesc->List Value->Bool
 |[],[]=>true
 |d::ds,v::vs=>gJ d v&&aO ds vs
 |_,_=>false
def eqV:Value->Value->Bool
 |.int _ a,.int _ b=>a == b
 |.bool a,.bool b=>a == b
 |.string a,.string b=>a == b
 |_,_=>false
def mB:List Value->List Value->Bool
 |[],[]=>true
 |a::as,b::bs=>eqV a b&&mB as bs
 |_,_=>false
def dI(P:Program)(t:TypeId):Bool:=match qr P t with|some b=>b|none=>false
def mkV(P:Program)(t:TypeId)(cs:List Value):Value:=if dI P t then .agg cs.toArray else cs.headD undef
theorem aX:∀{ds:List TypeDesc} {vs:List Value},aO ds vs=true->vs.length=ds.length:=by
 intro ds
 induction ds with
 |nil=>intro vs h;cases vs<;>simp_all [aO]
 | cons d ds ih=>intro vs h;cases vs with
  |nil=>simp[aO]at h
  |cons v vs=>simp only[aO,Qt]at h;simp[ih h.2]
theorem ej{d1 d2:List TypeDesc}:∀{vs:List Value},aO (d1++d2) vs=true->aO d1 (vs.take d1.length)=true/\aO d2 (vs.drop d1.length)=true:=by
 induction d1 with
 |nil=>intro vs h;simpa [aO] using h
 | cons d ds ih =>
  intro vs h;cases vs with
  |nil=>simp[aO]at h
  | cons v vs =>
   simp only[QQ,aO,Qt]at h;obtain⟨h1,h2⟩:=ih h.2;simp only[Rd,R8,Td,aO,Qt];exact⟨⟨h.1,h1⟩,h2⟩
theorem vL:∀{a1 a2 b1 b2:List Value},a1.length=b1.length->mB (a1++a2) (b1++b2)=(mB a1 b1&&mB a2 b2):=by
 intro a1
 induction a1 with
 |nil=>intro a2 b1 b2 h;cases b1<;>simp_all [mB]
 | cons a as ih =>
  intro a2 b1 b2 h;cases b1 with
  |nil=>simp at h
  |cons b bs=>simp only[QQ,mB,ih (Nat.succ.inj h),Bool.and_assoc]
section
variable {P:Program}
def nu:TypeDesc->Bool
 |.struct _|.array _ _=>true
 |_=>false
theorem dJ{d:TypeDesc}(h:P.underlying t=some d) :
  dI P t=nu d/\qr P t=some (dI P t):=by
 unfold dI qr;cases d<;>simp[h,nu]
theorem rZ{d:TypeDesc}{off:Nat}(hu:P.underlying t=some d)(hn:szT P t=some n)(h1:dI P t=false->n=1)
  (hle:dI P t=false->off+n<=xs.size):(part t xs off).run P w=.ok (mkV P t ((xs.toList.drop off).take n)) w:=by
 obtain⟨_,ha⟩:=dJ hu;unfold mkV;cases hg:dI P t with
 | true =>
  rw[hg]at ha;have e:(xs.extract off (off+n))=((xs.toList.drop off).take n).toArray:=by apply S7;simp[Array.toList_extract,List.extract]
  simp[part,li ha,aY hn,e]
 | false =>
  rw[hg]at ha;have h:=h1 hg;subst h;have hl:off<xs.size:=by have:=hle hg;omega
  have e:((xs.toList.drop off).take 1).headD undef=xs[off]:=by rw[List.headD_eq_head?_getD,List.head?_take,Qu (by decide),List.head?_drop];simp[hl]
  simp only[part,QC,li ha,Qy,Sq,if_false,e];simp[hl]
theorem gY{ds:List TypeDesc}(h:lX P d t=some ds):∃k,P.underlying t=some k/\(dI P t=false->ds.length=1):=by
 cases d with
 |zero=>cases h
 | succ d =>
  unfold lX at h;cases hu:P.underlying t with
  |none=>rw[hu]at h;cases h
  | some k =>
   refine⟨k,rfl,λhg=>?_⟩;obtain⟨h1,_⟩:=dJ hu;rw[hg]at h1;rw[hu]at h;cases k<;>simp[nu]at h1<;>simp only[aa]at h<;>split at h<;>first| (cases h;done)| (injection h with h;subst h;rfl)
theorem Eo{dd:Nat}{rec:TypeId->Option (List TypeDesc)}(hinfo:∀t ds,rec t=some ds->∃k,P.underlying t=some k/\(dI P t=false->ds.length=1))
  (ih:∀t ds,rec t=some ds->∀(xs ys:List Value),aO ds xs=true->aO ds ys=true->(Op.equalIn dd t (mkV P t xs) (mkV P t ys)).run P w=.ok (mB xs ys) w)
  {ys:Array Value}:∀(fs:List Field) (k:Nat) (ds:List TypeDesc),tb P rec fs k=some ds->aO ds (xs.toList.drop k)=true->aO ds (ys.toList.drop k)=true ->
   (Op.eqFields dd xs ys fs).run P w=.ok (mB (xs.toList.drop k) (ys.toList.drop k)) w:=by
 intro fs
 induction fs with
 | nil =>
  intro k ds h hx j;simp only[tb]at h;injection h with h;subst h;have h1:=aX hx;have h2:=aX j;rw[QY h1,QY h2]
  rfl
 | cons f fs ihf =>
  intro k ds h hx j;simp only[tb]at h
  split at h
  ·rename_i ds1 h1
   split at h
   ·rename_i r hr;rw[aa]at h
    split at h
    ·rename_i c;simp only[Qt,bne_iff_ne,ne_eq,beq_iff_eq]at c;obtain⟨⟨d,a⟩,i⟩:=c;have a:=aI a;injection h with h;subst h;obtain⟨l,m⟩:=ej hx;obtain⟨n,o⟩:=ej j;rw[RF]at m o;have lx:=aX hx;have ly:=aX j;simp at lx ly;obtain⟨kd,hu,b⟩:=hinfo _ _ h1;have p:(part f.type xs f.offset).run P w=.ok (mkV P f.type ((xs.toList.drop k).take ds1.length)) w:=by rw[a];exact rZ hu i b λhg=>by have:=b hg;omega
     have q:(part f.type ys f.offset).run P w=.ok (mkV P f.type ((ys.toList.drop k).take ds1.length)) w:=by rw[a];exact rZ hu i b λhg=>by have:=b hg;omega
     have s:=ih _ _ h1 _ _ l n;have p4:=ihf _ _ hr m o;simp only[Op.eqFields,ne_eq,d,not_false_eq_true,if_true,QC,p,q,s,Qy];have e:=vL (a1:=(xs.toList.drop k).take ds1.length) (a2:=xs.toList.drop (k+ds1.length)) (b1:=(ys.toList.drop k).take ds1.length) (b2:=ys.toList.drop (k+ds1.length))
      (by rw[aX l,aX n])
     rw[<-RF,<-RF,Rk,Rk]at e;rw[e,RF,RF];cases hq:mB ((xs.toList.drop k).take ds1.length) ((ys.toList.drop k).take ds1.length)
     ·simp
     ·simpa using p4
    ·cases h
   ·cases h
  ·cases h
theorem zf{dd:Nat}{de:List TypeDesc}{kd:TypeDesc}(hu:P.underlying e=some kd)(hone:dI P e=false->de.length=1)(hsz:szT P e=some de.length)
  (ih:∀(xs ys:List Value),aO de xs=true->aO de ys=true->(Op.equalIn dd e (mkV P e xs) (mkV P e ys)).run P w=.ok (mB xs ys) w)
  {ys:Array Value}:∀(n i:Nat),aO (List.replicate n de).flatten (xs.toList.drop (i*de.length))=true->aO (List.replicate n de).flatten (ys.toList.drop (i*de.length))=true ->
   (Op.eqItems dd e de.length xs ys (List.range' i n)).run P w=.ok (mB (xs.toList.drop (i*de.length)) (ys.toList.drop (i*de.length))) w:=by
 intro n
 induction n with
 | zero =>
  intro i hx h;have h1:=aX hx;have h2:=aX h;rw[QY (l:=xs.toList.drop _) (by simpa using h1),QY (l:=ys.toList.drop _) (by simpa using h2)]
  rfl
 | succ n ihn =>
  intro i hx h;rw[RI,R9]at hx h;obtain⟨k,a⟩:=ej hx;obtain⟨b,c⟩:=ej h;have lx:=aX k;have ly:=aX b;simp at lx ly;rw[RF]at a c;have em:i*de.length+de.length=(i+1)*de.length:=by rw[QX,RH]
  rw[em]at a c;have d:(part e xs (i*de.length)).run P w=.ok (mkV P e ((xs.toList.drop (i*de.length)).take de.length)) w:=rZ hu hsz hone λhg=>by have:=hone hg;omega
  have f:(part e ys (i*de.length)).run P w=.ok (mkV P e ((ys.toList.drop (i*de.length)).take de.length)) w:=rZ hu hsz hone λhg=>by have:=hone hg;omega
  have j:=ih _ _ k b;have p4:=ihn (i+1) a c;rw[Tb];simp only[Op.eqItems,QC,d,f,j,Qy];have ee:=vL (a1:=(xs.toList.drop (i*de.length)).take de.length) (a2:=xs.toList.drop ((i+1)*de.length)) (b1:=(ys.toList.drop (i*de.length)).take de.length) (b2:=ys.toList.drop ((i+1)*de.length))
   (by rw[aX k,aX b])
  rw[<-em,<-RF,<-RF,Rk,Rk,RF,RF,em]at ee;rw[ee];cases hq:mB ((xs.toList.drop (i*de.length)).take de.length) ((ys.toList.drop (i*de.length)).take de.length)
  ·simp
  ·simpa using p4
theorem Ed(h:szT P t=some n):P.cellsOf t=n/\∃i,P.info? t=some i:=by
 unfold szT at h;unfold Program.cellsOf;cases hi:P.info? t with
 |none=>rw[hi]at h;cases h
 |some i=>rw[hi]at h;simp at h;simp[h]
theorem AW(D:Nat):∀(d:Nat) (t:TypeId) (ds:List TypeDesc),lX P d t=some ds->∀(w:World) (xs ys:List Value),aO ds xs=true->aO ds ys=true ->
  (Op.equalIn (D+d) t (mkV P t xs) (mkV P t ys)).run P w=.ok (mB xs ys) w:=by
 intro d
 induction d with
 |zero=>intro t ds h;cases h
 | succ d ih =>
  intro t ds h w xs ys hx a;unfold lX at h;have one:∀k,P.underlying t=some k->lW k=true->nu k=false->ds=[k]->(Op.equalIn (D+(d+1)) t (mkV P t xs) (mkV P t ys)).run P w=.ok (mB xs ys) w:=by
   intro k hu hk m o;obtain⟨h1,_⟩:=dJ hu;subst o;have hm:∀zs,mkV P t zs=zs.headD undef:=by intro zs;unfold mkV;rw[h1,m];rfl
   rw[hm,hm];have lx:=aX hx;have ly:=aX a
   match xs,ys,lx,ly with
   | [x],[y],_,_ =>
    simp only[aO,SV]at hx a;simp only[List.headD_cons,mB,SV,<-Sw];cases k<;>simp[lW]at hk<;>cases x<;>simp[gJ]at hx<;>cases y<;>simp[gJ]at a
    ·simp[Op.equalIn,aA hu,eqV]
    ·subst hx;subst a;simp[Op.equalIn,aA hu,eqV]
    ·simp[Op.equalIn,aA hu,eqV]
  cases hu:P.underlying t with
  |none=>rw[hu]at h;cases h
  | some k =>
   rw[hu]at h;cases k
   case struct fs =>
    simp only[aa]at h
    split at h
    ·cases h
    ·rename_i c;have c:P.stoodInHeld t=false:=by simpa using c
     have j:P.fieldsOf t=fs:=by simp[Program.fieldsOf,hu]
     have hm:∀zs,mkV P t zs=.agg zs.toArray:=by intro zs;unfold mkV;rw[(dJ hu).1];rfl
     rw[hm,hm,<-Sw,run_equalIn_struct w (D+d) t _ _ (by rw[j];exact hu) c,j];have:=Eo (P:=P) (w:=w) (dd:=D+d) (rec:=lX P d) (λt ds h=>gY h) (λt ds h xs ys hx a=>ih t ds h w xs ys hx a) (xs:=xs.toArray) (ys:=ys.toArray)
      fs.toList 0 ds h (by simpa using hx) (by simpa using a)
     simpa using this
   case array n e =>
    simp only at h
    split at h
    ·rename_i de f;simp only[aa]at h
     split at h
     ·rename_i b;injection h with h;subst h;have b:szT P e=some de.length:=by simpa using b
      obtain⟨kd,p,l⟩:=gY f;obtain⟨hc,i,hi⟩:=Ed b;have hm:∀zs,mkV P t zs=.agg zs.toArray:=by intro zs;unfold mkV;rw[(dJ hu).1];rfl
      rw[hm,hm,<-Sw,run_equalIn_array w (D+d) _ _ hu hi,hc,S8];have:=zf (P:=P) (w:=w) (dd:=D+d) p l b (λxs ys hx a=>ih e de f w xs ys hx a) (xs:=xs.toArray) (ys:=ys.toArray) n 0 (by simpa using hx) (by simpa using a);simpa using this
     ·cases h
    ·cases h
   all_goals
    simp only[aa]at h
    split at h
    ·rename_i hk;injection h with h;exact one _ hu hk rfl h.symm
    ·cases h
end
end
section
variable {C:Cfg}{A:Nat->Nat->Prop}{bd:Nat}{w w':World}{γ γ':Gm}{hg:Nat->AObj}{nx:Nat}
theorem RVs.tail{xs:List AV}{vs:List Value}(h:RVs w γ A bd (x::xs) (v::vs)):RV w γ A bd x v/\RVs w γ A bd xs vs :=
 ⟨h.2 0 x v rfl rfl,by have:=h.1;simp at this;exact this,λi y u hy hu=>h.2 (i+1) y u (by simpa using hy) (by simpa using hu)⟩
theorem zY{d:TypeDesc}(h:ny d x=true)(hx:RV w γ A bd x v):gJ d v=true:=by cases d<;>cases hx<;>simp_all [ny,gJ,oG]
theorem tf:∀{ds:List TypeDesc} {xs:List AV} {vs:List Value},dY ds xs=true->RVs w γ A bd xs vs->aO ds vs=true:=by
 intro ds
 induction ds with
 | nil =>
  intro xs vs h hx;cases xs with
  | nil=>have:=hx.1;cases vs with
   |nil=>rfl
   |cons v vs=>simp at this
  |cons x xs=>cases h
 | cons d ds ih =>
  intro xs vs h hx;cases xs with
  |nil=>cases h
  | cons x xs =>
   cases vs with
   |nil=>have:=hx.1;simp at this
   | cons v vs =>
    obtain⟨h1,h2⟩:=hx.tail;simp only[dY,aa]at h
    split at h
    ·rename_i hk;simp only[aO,Qt];exact⟨zY hk h1,ih h h2⟩
    ·cases h
theorem uS{b:Bool}(h:pi x y=some b)(hx:RV w γ A bd x v)(hy:RV w γ A bd y u):eqV v u=b:=by
 cases hx<;>cases hy<;>simp only[pi]at h<;>first| (cases h;done)|skip
 ·injection h with h;subst h;rename_i a b;cases a<;>cases b<;>rfl
 ·rw[aa]at h
  split at h
  ·injection h with h;subst h;simp[eqV,wL];rfl
  ·cases h
 ·injection h with h;subst h;simp only[eqV];rename_i k c;obtain⟨⟨x⟩⟩:=k;obtain⟨⟨y⟩⟩:=c;show ((⟨x⟩:Array UInt8) == ⟨y⟩)=_;rw[SM];simp
theorem s7:∀{xs ys:List AV} {vs us:List Value} {b:Bool},eI xs ys=some b->RVs w γ A bd xs vs->RVs w γ A bd ys us->mB vs us=b:=by
 intro xs
 induction xs with
 | nil =>
  intro ys vs us b h hx k;cases ys with
  | nil =>
   simp only[eI]at h;injection h with h;subst h;have h1:=hx.1;have h2:=k.1;cases vs<;>cases us<;>simp_all [mB]
  |cons y ys=>cases h
 | cons x xs ih =>
  intro ys vs us b h hx k;cases ys with
  |nil=>cases h
  | cons y ys =>
   cases vs with
   |nil=>have:=hx.1;simp at this
   | cons v vs =>
    cases us with
    |nil=>have:=k.1;simp at this
    | cons u us =>
     obtain⟨a,c⟩:=hx.tail;obtain⟨d,e⟩:=k.tail;simp only[eI]at h
     split at h
     ·rename_i p q hp hq;injection h with h;subst h;simp only[mB,uS hp a d,ih hq c e,aa];cases p<;>simp
     ·cases h
theorem tG{xs:List AV}(h:RV w γ A bd (.agg xs) v):∃vs,v=.agg vs/\RVs w γ A bd xs vs.toList:=by
 cases h with
 |agg _ _ vs hl h1 h2=>exact⟨vs,rfl,by simpa using hl,λi x u hx hu=>h2 i x u hx (by simpa using hu)⟩
theorem Em{ds:List TypeDesc}{ys:Array Value}(h:jN C.P t=some ds)(hag:dI C.P t=true)(hx:aO ds xs.toList=true)(hy:aO ds ys.toList=true) :
  C.P.eqGuardType C.P.depth t=false/\(Op.equal t (.agg xs) (.agg ys)).run C.P w=.ok (mB xs.toList ys.toList) w:=by
 unfold jN at h;rw[aa]at h
 split at h
 ·cases h
 ·rename_i hg;refine⟨by simpa using hg,?_⟩;have:=AW (P:=C.P) 9992 8 t ds h w xs.toList ys.toList hx hy;unfold mkV at this;rw[hag]at this;simpa [Op.equal,Op.maxDepth] using this
theorem kZ(t:TypeId)(x y:Value):Op.equal t x y=Op.equalIn (9999+1) t x y:=rfl
def EqFin(C:Cfg)(w:World)(ty:TypeId)(xo yo:Operand)(va vb:Value)(r:Bool):Prop :=
 (∀op,(eqGuard op ty xo yo va vb).run C.P w=.ok () w)/\(binOp .eql ty va vb).run C.P w=.ok (.bool r) w/\(binOp .neq ty va vb).run C.P w=.ok (.bool (!r)) w
theorem EqFin.mk'{ty:TypeId}{xo yo:Operand}{va vb:Value}{r:Bool}(h1:∀op,(eqGuard op ty xo yo va vb).run C.P w=.ok () w)(h2:(Op.equal ty va vb).run C.P w=.ok r w)
  (h3:binOp .eql ty va vb=(do pure (.bool (<-Op.equal ty va vb)))) (h4:binOp .neq ty va vb=(do pure (.bool (!(<-Op.equal ty va vb))))):EqFin C w ty xo yo va vb r:=by
 refine⟨h1,?_,?_⟩
 ·rw[h3];simp[h2]
 ·rw[h4];simp[h2]
section kinds
variable {ty:TypeId}{xo yo:Operand}{a b:AV}{va vb:Value}{r:Bool}(ha:RV w γ A bd a va)(hb:RV w γ A bd b vb)
include ha hb
theorem IY{ds:List TypeDesc}(hf:jN C.P ty=some ds)(hag:dI C.P ty=true)(h:eqA (.flat ds) a b=some r):EqFin C w ty xo yo va vb r:=by
 cases a<;>try (cases h;done)
 cases b<;>try (cases h;done)
 rename_i xs ys;change ak (dY ds xs&&dY ds ys) (eI xs ys) none=some r at h;rw[aa]at h
 split at h
 ·rename_i hk;simp only[Qt]at hk;obtain⟨vs,rfl,hv⟩:=tG ha;obtain⟨us,rfl,k⟩:=tG hb;obtain⟨g1,g2⟩:=Em (w:=w) hf hag (tf hk.1 hv) (tf hk.2 k);rw[s7 h hv k]at g2;exact .mk' (λop=>run_eqGuard_agg w op ty xo yo vs us g1) g2 rfl rfl
 ·cases h
theorem Hi(hu:C.P.underlying ty=some (.slice e))(h:eqA .slice a b=some r):EqFin C w ty xo yo va vb r:=by
 cases ha<;>try (cases h;done)
 all_goals cases hb<;>first| (cases h;done)| (injection h with h;subst h;exact .mk' (λop=>by cases op<;>simp[eqGuard]) (by rw[kZ];unfold Op.equalIn;simp[aA hu]) rfl rfl)
theorem IZ{p q:Array TypeId}{v:Bool}(hu:C.P.underlying ty=some (.func p q v))(h:eqA .func a b=some r):EqFin C w ty xo yo va vb r:=by
 cases ha<;>try (cases h;done)
 all_goals cases hb<;>first| (cases h;done)| (injection h with h;subst h;exact .mk' (λop=>by cases op<;>simp[eqGuard]) (by rw[kZ];unfold Op.equalIn;simp[aA hu]) rfl rfl)
theorem IX(hu:C.P.underlying ty=some .bool)(h:eqA .bool a b=some r):EqFin C w ty xo yo va vb r:=by
 cases ha<;>try (cases h;done)
 cases hb<;>try (cases h;done)
 rename_i x y;injection h with h;subst h;refine .mk' (λop=>by cases op<;>simp[eqGuard]) ?_ rfl rfl;rw[kZ];unfold Op.equalIn;simp[aA hu];cases x<;>cases y<;>rfl
theorem Hh{ms:Array (String×TypeId)}(hu:C.P.underlying ty=some (.interface ms))(h:eqA (.iface ms.isEmpty) a b=some r):EqFin C w ty xo yo va vb r:=by
 cases ha<;>try (cases h;done)
 ·cases hb<;>try (cases h;done)
  ·change ak ms.isEmpty (some true) none=some r at h;rw[aa]at h
   split at h
   ·rename_i he;injection h with h;subst h;refine .mk' (λop=>?_) (by rw[kZ];unfold Op.equalIn;simp[aA hu]) rfl rfl;have hg:(Op.eqGuardIn Op.maxDepth ty .nilIface .nilIface).run C.P w=.ok false w:=by show (Op.eqGuardIn (9999+1) ty .nilIface .nilIface).run C.P w=_;unfold Op.eqGuardIn;simp only[QC,aA hu,Qy,he,Q0,Bool.not_true]
    unfold eqGuard;generalize Op.eqGuardIn Op.maxDepth ty .nilIface .nilIface=m at hg ⊢;cases op<;>simp[hg]
   ·cases h
  ·injection h with h;subst h;exact .mk' (λop=>by cases op<;>simp[eqGuard]) (by rw[kZ];unfold Op.equalIn;simp[aA hu]) rfl rfl
 ·cases hb<;>try (cases h;done)
  injection h with h;subst h;exact .mk' (λop=>by cases op<;>simp[eqGuard]) (by rw[kZ];unfold Op.equalIn;simp[aA hu]) rfl rfl
end kinds
theorem FG{ty:TypeId}{xo yo:Operand}{a b:AV}{va vb:Value}{r:Bool}(hne:pj C.P ty≠.other)(h:eqA (pj C.P ty) a b=some r)(ha:RV w γ A bd a va)(hb:RV w γ A bd b vb) :
  EqFin C w ty xo yo va vb r:=by
 unfold pj at h hne;cases hu:C.P.underlying ty with
 |none=>simp only[hu]at hne;exact absurd rfl hne
 | some d =>
  have agg:nu d=true->eqA (match jN C.P ty with|some ds=>EqKind.flat ds|none=>.other) a b=some r->EqFin C w ty xo yo va vb r:=by
   intro hd h;cases hf:jN C.P ty with
   |none=>rw[hf]at h;cases h
   |some ds=>rw[hf]at h;exact IY ha hb hf (by rw[(dJ hu).1];exact hd) h
  simp only[hu]at h hne;cases d
  case struct fs=>exact agg rfl h
  case array n e=>exact agg rfl h
  case slice e=>exact Hi ha hb hu h
  case func p q v=>exact IZ ha hb hu h
  case bool=>exact IX ha hb hu h
  case interface ms=>exact Hh ha hb hu h
  all_goals exact absurd rfl hne
noncomputable def MQ(op:BinOp)(x y:AV):OR:=match x,y with|.int k m,.int k' n=>orV ((fg op).run k m k' n)|_,_=>.fail
theorem Le{op:BinOp}{ty:TypeId}{xo yo:Operand}{a b:AV}{va vb:Value}(ha:RV w γ A bd a va)(hb:RV w γ A bd b vb) :
  ValSim C A bd w γ (do eqGuard op ty xo yo va vb;binOp op ty va vb) ((xl C.P op ty).run a b):=by
 have nq:ValSim C A bd w γ (do eqGuard op ty xo yo va vb;binOp op ty va vb) (MQ op a b):=by
  unfold MQ;cases ha with
  | int _ k m =>
   cases hb with
   | int _ k' n =>
    refine mQ λy hy=>?_;obtain⟨v,h1,h2⟩:=Ep (P:=C.P) (ty:=ty) (w:=w) (γ:=γ) (A:=A) (bd:=bd) hy;refine⟨v,?_,h2⟩;have:(eqGuard op ty xo yo (.int k m) (.int k' n)).run C.P w=.ok () w:=by cases op<;>simp[eqGuard]
    simp[this,h1]
   |_=>trivial
  |_=>trivial
 cases op
 case eql =>
  unfold xl;dsimp only
  split
  ·exact nq
  ·rename_i hk;dsimp only;cases hr:eqA (pj C.P ty) a b with
   |none=>trivial
   | some r =>
    obtain⟨h1,h2,_⟩:=FG (xo:=xo) (yo:=yo) (λe=>hk e) hr ha hb;exact⟨.bool r,by simp[h1,h2],.bool _ _⟩
 case neq =>
  unfold xl;dsimp only
  split
  ·exact nq
  ·rename_i hk;dsimp only;cases hr:eqA (pj C.P ty) a b with
   |none=>trivial
   | some r =>
    obtain⟨h1,_,h2⟩:=FG (xo:=xo) (yo:=yo) (λe=>hk e) hr ha hb;exact⟨.bool (!r),by simp[h1,h2],by rw[notb_eq];exact .bool _ _⟩
 all_goals exact nq
end
section
variable {P:Program}
theorem xT(em:Bool)(D:Nat):∀(d:Nat) (t:TypeId) (ds:List TypeDesc),lX P d t=some ds->∀(w:World) (xs:List Value),aO ds xs=true ->
  (Instr.checkKey em (D+d) t (mkV P t xs)).run P w=.ok () w:=by
 intro d
 induction d with
 |zero=>intro t ds h;cases h
 | succ d ih =>
  intro t ds h w xs hx;unfold lX at h;have one:∀k,P.underlying t=some k->lW k=true->nu k=false->ds=[k]->(Instr.checkKey em (D+(d+1)) t (mkV P t xs)).run P w=.ok () w:=by
   intro k hu hk hag hds;obtain⟨h1,_⟩:=dJ hu;subst hds;have hm:∀zs,mkV P t zs=zs.headD undef:=by intro zs;unfold mkV;rw[h1,hag];rfl
   rw[hm];have lx:=aX hx
   match xs,lx with
   | [x],_ =>
    simp only[aO,SV]at hx;simp only[List.headD_cons,<-Sw];unfold Instr.checkKey;cases k<;>simp[lW]at hk<;>cases x<;>simp[gJ]at hx<;>simp[aA hu]
  cases hu:P.underlying t with
  |none=>rw[hu]at h;cases h
  | some k =>
   rw[hu]at h;cases k
   case struct fs =>
    simp only[aa]at h
    split at h
    ·cases h
    ·have hm:∀zs,mkV P t zs=.agg zs.toArray:=by intro zs;unfold mkV;rw[(dJ hu).1];rfl
     rw[hm,<-Sw,Instr.checkKey];simp only[QC,aA hu,Qy];rw[<-Array.forIn_toList];have go:∀(L:List Field) (k:Nat) (ds:List TypeDesc),tb P (lX P d) L k=some ds->aO ds (xs.drop k)=true ->
       (forIn L PUnit.unit λ(f:Field) (_:PUnit)=>(do
        if f.name ≠ "_" then Instr.checkKey em (D + d) f.type (← part f.type xs.toArray f.offset)
        pure (ForInStep.yield PUnit.unit):Sem (ForInStep PUnit))).run P w=.ok PUnit.unit w:=by
      intro L
      induction L with
      |nil=>intro k ds _ _;simp
      | cons f L ihL =>
       intro k ds h hx;simp only[tb]at h
       split at h
       ·rename_i ds1 h1
        split at h
        ·rename_i r hr;rw[aa]at h
         split at h
         ·rename_i hcond;simp only[Qt,bne_iff_ne,ne_eq,beq_iff_eq]at hcond;obtain⟨⟨hname,hoff⟩,hsz⟩:=hcond;have hoff:=aI hoff;injection h with h;subst h;obtain⟨x1,x2⟩:=ej hx;rw[RF]at x2;have lx:=aX hx;simp at lx;obtain⟨kd,hu',hone⟩:=gY h1;have p1:(part f.type xs.toArray f.offset).run P w=.ok (mkV P f.type ((xs.drop k).take ds1.length)) w:=by
           rw[hoff];have:=rZ (w:=w) (xs:=xs.toArray) (off:=k) hu' hsz hone λhg=>by have:=hone hg;simp;omega
           simpa using this
          have p2:=ih _ _ h1 w _ x1;have p3:=ihL _ _ hr x2;simp only[List.forIn_cons,QC,ne_eq,hname,not_false_eq_true,if_true,Qy,p1,p2,Q0];exact p3
         ·cases h
        ·cases h
       ·cases h
     have:=go fs.toList 0 ds h (by simpa using hx);simp at this ⊢;rw[this];rfl
   case array n e =>
    simp only at h
    split at h
    ·rename_i de hde;simp only[aa]at h
     split at h
     ·rename_i hsz;injection h with h;subst h;have hsz:szT P e=some de.length:=by simpa using hsz
      obtain⟨kd,hue,hone⟩:=gY hde;have hm:∀zs,mkV P t zs=.agg zs.toArray:=by intro zs;unfold mkV;rw[(dJ hu).1];rfl
      rw[hm,<-Sw,Instr.checkKey];simp only[QC,aA hu,Qy];simp only[Std.Legacy.Range.forIn_eq_forIn_range',Std.Legacy.Range.size,R6,Nat.add_one_sub_one,Nat.div_one];have go:∀(n i:Nat),aO (List.replicate n de).flatten (xs.drop (i*de.length))=true ->
        (forIn (List.range' i n) PUnit.unit λ(i:Nat) (_:PUnit)=>(do
         Instr.checkKey em (D+d) e (<-part e xs.toArray (i*(<-Go.sizeOf e)))
         pure (ForInStep.yield PUnit.unit):Sem (ForInStep PUnit))).run P w=.ok PUnit.unit w:=by
       intro n
       induction n with
       |zero=>intro i _;simp
       | succ n ihn =>
        intro i hx;rw[RI,R9]at hx;obtain⟨x1,x2⟩:=ej hx;have lx:=aX x1;simp at lx;rw[RF]at x2;have em':i*de.length+de.length=(i+1)*de.length:=by rw[QX,RH]
        rw[em']at x2;have p1:(part e xs.toArray (i*de.length)).run P w=.ok (mkV P e ((xs.drop (i*de.length)).take de.length)) w:=by
         have:=rZ (w:=w) (xs:=xs.toArray) (off:=i*de.length) hue hsz hone λhg=>by have:=hone hg;simp;omega
         simpa using this
        have p2:=ih e de hde w _ x1;have p3:=ihn (i+1) x2;rw[Tb];simp only[List.forIn_cons,QC,aY hsz,Qy,p1,p2,Q0];exact p3
      have:=go n 0 (by simpa using hx);simp at this ⊢;rw[this];rfl
     ·cases h
    ·cases h
   all_goals
    simp only[aa]at h
    split at h
    ·rename_i hk;injection h with h;exact one _ hu hk rfl h.symm
    ·cases h
end
section
variable {C:Cfg}{A:Nat->Nat->Prop}{bd:Nat}{w w':World}{γ γ':Gm}{hg:Nat->AObj}{nx:Nat}
def yX(P:Program)(kt:TypeId)(k:AV)(v:Value):Prop :=
 ∃d ds,d<=8/\lX P d kt=some ds/\aO ds v.cells.toList=true/\v=mkV P kt v.cells.toList/\(dI P kt=true↔∃xs,k=.agg xs)
theorem Eq(h:mM (fE C.P kt) k=true)(hk:RV w γ A bd k v):yX C.P kt k v:=by
 unfold fE at h;cases hu:C.P.underlying kt with
 |none=>rw[hu]at h;cases h
 | some d =>
  have agg:nu d=true->mM (match jN C.P kt with|some ds=>KeyKind.flat ds|none=>.other) k=true->yX C.P kt k v:=by
   intro hd h;cases hf:jN C.P kt with
   |none=>rw[hf]at h;cases h
   | some ds =>
    rw[hf]at h;obtain⟨xs,rfl⟩:∃xs,k=.agg xs:=by cases k<;>first|exact⟨_,rfl⟩| (cases h;done)
    change dY ds xs=true at h;obtain⟨vs,rfl,hv⟩:=tG hk;have a:dI C.P kt=true:=by rw[(dJ hu).1];exact hd
    unfold jN at hf;rw[aa]at hf
    split at hf
    ·cases hf
    ·refine⟨8,ds,Qq _,hf,tf h hv,?_,?_⟩
     ·unfold mkV;rw[a];simp[Value.cells]
     ·simp[a]
  have one:lW d=true->mM (.one d) k=true->nu d=false->(∀f,lX C.P (f+1) kt=some [d])->yX C.P kt k v:=by
   intro hf c a i;have b:dI C.P kt=false:=by rw[(dJ hu).1];exact a
   have j:=zY c hk;refine⟨1,[d],by decide,i 0,?_,?_,?_⟩
   ·cases v<;>simp_all [Value.cells,aO,gJ]<;>cases d<;>simp_all [gJ]
   ·unfold mkV;rw[b];cases v<;>simp[Value.cells]<;>cases d<;>simp_all [gJ]
   ·rw[b];constructor
    ·intro h;cases h
    ·rintro⟨xs,rfl⟩;cases d<;>cases c
  rw[hu]at h;cases d
  case struct fs=>exact agg rfl h
  case array n e=>exact agg rfl h
  all_goals
   simp only[aa]at h
   split at h
   ·rename_i hf;exact one hf h rfl (λf=>by unfold lX;rw[hu];simp only[aa];rw[Qw hf])
   ·cases h
theorem vK{d:TypeDesc}{b:Bool}(h:pi x y=some b)(hx:RV w γ A bd x v)(hy:RV w γ A bd y u)(hk:gJ d v=true):gJ d u=true:=by
 cases hx<;>try (cases h;done)
 all_goals cases hy<;>try (cases h;done)
 ·cases d<;>simp_all [gJ]
 ·simp only[pi,aa,oG]at h
  split at h
  ·rename_i e;simp at e;subst e;cases d<;>simp_all [gJ]
  ·cases h
 ·cases d<;>simp_all [gJ]
theorem sH:∀{ds:List TypeDesc} {xs ys:List AV} {vs us:List Value} {b:Bool},eI xs ys=some b->RVs w γ A bd xs vs->RVs w γ A bd ys us->aO ds vs=true->aO ds us=true:=by
 intro ds
 induction ds with
 | nil =>
  intro xs ys vs us b h hx k hk;have h0:=aX hk;have h1:=hx.1;have:xs=[]:=QY (by simp at h0;simp[h1,h0]);subst this;cases ys with
  |nil=>have h2:=k.1;have:us=[]:=QY (by simpa using h2.symm);subst this;rfl
  |cons y ys=>cases h
 | cons d ds ih =>
  intro xs ys vs us b h hx k hk;cases vs with
  |nil=>cases hk
  | cons v vs =>
   cases xs with
   |nil=>have:=hx.1;simp at this
   | cons x xs =>
    cases ys with
    |nil=>cases h
    | cons y ys =>
     cases us with
     |nil=>have:=k.1;simp at this
     | cons u us =>
      obtain⟨a,c⟩:=hx.tail;obtain⟨e,f⟩:=k.tail;simp only[aO,Qt]at hk;simp only[eI]at h
      split at h
      ·rename_i p q hp hq;simp only[aO,Qt];exact⟨vK hp a e hk.1,ih hq c f hk.2⟩
      ·cases h
theorem th(h:dI C.P kt=false)(x:Value):mkV C.P kt [x]=x:=by unfold mkV;rw[h];rfl
theorem yc{k':AV}{v':Value}{b:Bool}(hk:yX C.P kt k v)(h:oD k k'=some b)(h1:RV w γ A bd k v)(h2:RV w γ A bd k' v') :
  yX C.P kt k' v'/\(Op.equal kt v v').run C.P w=.ok b w/\(dI C.P kt=false->∀kd,C.P.underlying kt=some kd->Instr.sameNow kd v v'=some b):=by
 obtain⟨d,ds,hd,a,f,s,n⟩:=hk;cases hg:dI C.P kt with
 | true =>
  obtain⟨xs,rfl⟩:=n.1 hg;obtain⟨ys,rfl⟩:∃ys,k'=.agg ys:=by cases k'<;>first|exact⟨_,rfl⟩| (cases h;done)
  change eI xs ys=some b at h;obtain⟨vs,rfl,hv⟩:=tG h1;obtain⟨us,rfl,hu⟩:=tG h2;have c:aO ds us.toList=true:=sH h hv hu f;have he:=AW (P:=C.P) (10000 - d) d kt ds a w vs.toList us.toList f c;have hm:∀zs:Array Value,mkV C.P kt zs.toList=.agg zs:=by intro zs;unfold mkV;rw[hg];simp
  rw[show 10000 - d+d=9999+1 from by omega,hm,hm,s7 h hv hu]at he;refine⟨⟨d,ds,hd,a,c,(hm us).symm,by simp[hg]⟩,he,λh=>by cases h⟩
 | false =>
  have p:∀xs,k≠.agg xs:=λxs e=>by rw[n.2 ⟨xs,e⟩]at hg;cases hg
  have j:∀xs,k'≠.agg xs:=by rintro xs rfl;cases k<;>first| (cases h;done)|exact absurd rfl (p _)
  have h':pi k k'=some b:=by cases k<;>first| (exact absurd rfl (p _))| (cases k'<;>first| (exact absurd rfl (j _))|exact h)
  obtain⟨kd,hu,q⟩:=gY a;have m:=q hg;obtain⟨i,rfl⟩:∃i,ds=[i]:=by
   match ds,m with
   |[i],_=>exact⟨i,rfl⟩
  have r:v.cells.toList=[v]:=by cases h1<;>first|rfl| (cases h';done)
  have l:v'.cells.toList=[v']:=by
   cases h1<;>try (cases h';done)
   all_goals cases h2<;>first|rfl| (cases h';done)
  rw[r]at f;simp only[aO,SV]at f;have c:=vK h' h1 h2 f;have he:=AW (P:=C.P) (10000 - d) d kt [i] a w [v] [v'] (by simp[aO,f]) (by simp[aO,c]);rw[show 10000 - d+d=9999+1 from by omega,th hg,th hg]at he;simp only[mB,SV,uS h' h1 h2]at he;refine⟨⟨d,[i],hd,a,by rw[l];simp[aO,c],by rw[l,th hg],?_⟩,he,λ_ kd' hu'=>?_⟩
  ·rw[hg];constructor
   ·intro h;cases h
   ·rintro⟨xs,e⟩;exact absurd e (j xs)
  ·have e1:=uS h' h1 h2;have:i=kd':=by
    cases d with
    |zero=>cases a
    | succ d =>
     unfold lX at a;rw[hu']at a;have o:=(dJ hu').1;rw[hg]at o;cases kd'<;>simp[nu]at o<;>simp only[aa]at a<;>split at a<;>first| (cases a;done)| (injection a with a;injection a with a;exact a.symm)
   subst this;cases h1<;>try (cases h';done)
   all_goals cases h2<;>try (cases h';done)
   ·cases i<;>simp[gJ]at f;simp[Instr.sameNow];simpa [eqV] using e1
   ·cases i<;>simp[gJ]at f c;subst f;subst c;simp[Instr.sameNow];simpa [eqV] using e1
   ·cases i<;>simp[gJ]at f;simp[Instr.sameNow];simpa [eqV] using e1
end
section
variable {m:T->AV}{t:T}{z:AV}{et:TypeId}{vk:Value}
section
variable {C:Cfg}{A:Nat->Nat->Prop}{bd:Nat}{w w':World}{γ γ':Gm}{hg:Nat->AObj}{nx:Nat}
theorem FA(s1 s2:ByteArray):(s1 == s2)=decide (s1=s2):=by obtain⟨⟨x⟩⟩:=s1;obtain⟨⟨y⟩⟩:=s2;show ((⟨x⟩:Array UInt8) == ⟨y⟩)=_;rw[SM];simp
theorem Hj:∀{ds:List TypeDesc} {xs ys:List Value},aO ds xs=true->aO ds ys=true->mB xs ys=true->xs=ys:=by
 intro ds
 induction ds with
 |nil=>intro xs ys h1 h2 _;rw[QY (aX h1),QY (aX h2)]
 | cons d ds ih =>
  intro xs ys h1 h2 h;cases xs with
  |nil=>cases h1
  | cons x xs=>cases ys with
   |nil=>cases h2
   | cons y ys =>
    simp only[aO,mB,Qt]at h1 h2 h;rw[ih h1.2 h2.2 h.2];congr 1;cases d<;>cases x<;>simp[gJ]at h1<;>cases y<;>simp[gJ]at h2<;>simp[eqV,FA]at h<;>simp_all
theorem zl{ds:List TypeDesc}(hk:aO ds v.cells.toList=true):Instr.sameBits 10000 v v=true:=by
 have one:∀(d:TypeDesc) (x:Value),gJ d x=true->∀n,Instr.sameBits n x x=true:=by intro d x h n;cases d<;>cases x<;>simp[gJ]at h<;>cases n<;>simp[Instr.sameBits,FA]
 have all:∀(ds:List TypeDesc) (xs:List Value),aO ds xs=true->((xs.zip xs).all λ(x,y)=>Instr.sameBits 9999 x y)=true:=by
  intro ds
  induction ds with
  |nil=>intro xs h;rw[QY (aX h)];rfl
  | cons d ds ih =>
   intro xs h;cases xs with
   |nil=>rfl
   | cons x xs =>
    simp only[aO,Qt]at h;simp only[Ss,List.all_cons,Qt];exact⟨one d x h.1 _,ih xs h.2⟩
 by_cases h:∃a,v=.agg a
 ·obtain⟨a,rfl⟩:=h;have:=all ds a.toList hk;show (Instr.sameBits (9999+1) (.agg a) (.agg a))=true;simp only[Instr.sameBits,beq_self_eq_true,Rz];exact this
 ·have hc:v.cells.toList=[v]:=by cases v<;>first|rfl|exact absurd ⟨_,rfl⟩ h
  rw[hc]at hk;cases ds with
  |nil=>cases hk
  |cons d ds=>simp only[aO,Qt]at hk;exact one d v hk.1 _
theorem yd{k':AV}{v':Value}(hk:yX C.P kt k v)(h:oD k k'=some true)(h1:RV w γ A bd k v)(h2:RV w γ A bd k' v'):v'=v:=by
 obtain⟨h3,h4,_⟩:=yc (w:=w) hk h h1 h2;obtain⟨d,ds,e1,e2,e3,c,i⟩:=hk;obtain⟨d',ds',f1,f2,j,e,l⟩:=h3;have hc:eI k.cells k'.cells=some true:=by
  cases k<;>try (cases h;done)
  all_goals cases k'<;>try (cases h;done)
  all_goals first|exact h| (simp only[oD]at h;simp[AV.cells,eI,h])
 have t1:k.isTup=false:=by
  cases k<;>try rfl
  cases k'<;>cases h
 have f:k'.isTup=false:=by
  cases k<;>try (cases h;done)
  all_goals cases k'<;>first|rfl| (cases h;done)
 have a:=(nS h1 t1).1;have b:=(nS h2 f).1;rw[c,e,Hj e3 (sH hc a b e3) (s7 hc a b)]
theorem oE{ds:List TypeDesc}(hk:aO ds v.cells.toList=true):(Instr.keyThatStays v v).run P w=.ok v w:=by unfold Instr.keyThatStays;rw[zl hk];rfl
def EsRel(w:World)(γ:Gm)(A:Nat->Nat->Prop)(bd:Nat)(es:List (AV×AV))(l:List MapEntry):Prop :=
 es.length=l.length/\∀(i:Nat) k x e,es[i]?=some (k,x)->l[i]?=some e->RV w γ A bd k e.key/\RV w γ A bd x e.val
theorem EsRel.tail{p:AV×AV}{es:List (AV×AV)}{e:MapEntry}{l:List MapEntry}(h:EsRel w γ A bd (p::es) (e::l)) :
  RV w γ A bd p.1 e.key/\RV w γ A bd p.2 e.val/\EsRel w γ A bd es l:=by
 obtain⟨h1,h2⟩:=h.2 0 p.1 p.2 e rfl rfl;exact⟨h1,h2,by have:=h.1;simpa using this,λi k x e hi he=>h.2 (i+1) k x e (by simpa using hi) (by simpa using he)⟩
def zw(k:AV)(es:List (AV×AV))(l:List MapEntry)(i0:Nat)(r:Option (Nat×AV))(R:Option (Nat×Value)):Prop :=
 match r with
 |none=>R=none
 |some (i,x)=>∃j k' e,i=i0+j/\es[j]?=some (k',x)/\l[j]?=some e/\oD k k'=some true/\R=some (i,e.val)
theorem I9{kd:TypeDesc}(hu:C.P.underlying kt=some kd)(hk:yX C.P kt k v)(h1:RV w γ A bd k v) :
  ∀(es:List (AV×AV)) (l:List MapEntry) (i:Nat) (r:Option (Nat×AV)),jd k i es=some r->EsRel w γ A bd es l ->
   ∃R,zw k es l i r R/\(Instr.findAsking kt v l i).run C.P w=.ok R w/\(dI C.P kt=false->Instr.findNow kd v l i=some R):=by
 intro es
 induction es with
 | nil =>
  intro l i r h a;have:=a.1;have:l=[]:=QY (by simpa using this.symm);subst this;simp only[jd]at h;injection h with h;subst h;exact⟨none,rfl,rfl,λ_=>rfl⟩
 | cons p es ih =>
  intro l i r h a;cases l with
  |nil=>have:=a.1;simp at this
  | cons e l =>
   obtain⟨k',x⟩:=p;obtain⟨e1,e2,e3⟩:=a.tail;simp only[jd]at h
   split at h
   ·rename_i hq;injection h with h;subst h;obtain⟨_,q2,q3⟩:=yc hk hq h1 e1;refine⟨some (i,e.val),⟨0,k',e,rfl,rfl,rfl,hq,rfl⟩,?_,λhg=>?_⟩
    ·unfold Instr.findAsking;simp[q2]
    ·unfold Instr.findNow;rw[q3 hg kd hu]
   ·rename_i hq;obtain⟨_,q2,q3⟩:=yc hk hq h1 e1;obtain⟨R,b,m,n⟩:=ih l (i+1) r h e3;refine⟨R,?_,?_,λhg=>?_⟩
    ·unfold zw at b ⊢;cases r with
     |none=>exact b
     | some p =>
      obtain⟨j,k'',e',f1,f2,c,d,f⟩:=b;exact⟨j+1,k'',e',by omega,by simpa using f2,by simpa using c,d,f⟩
    ·unfold Instr.findAsking;simp[q2,m]
    ·unfold Instr.findNow;rw[q3 hg kd hu];exact n hg
   ·cases h
theorem q9{kd:TypeDesc}(hu:C.P.underlying kt=some kd)(hk:yX C.P kt k v)(h1:RV w γ A bd k v)
  {es:List (AV×AV)} {l:List MapEntry} {r:Option (Nat×AV)} (h:jd k 0 es=some r) (hes:EsRel w γ A bd es l) :
  ∃R,zw k es l 0 r R/\(Instr.findKey kt v l).run C.P w=.ok R w:=by
 obtain⟨R,b,a,c⟩:=I9 hu hk h1 es l 0 r h hes;refine⟨R,b,?_⟩;unfold Instr.findKey;simp only[QC,aA hu,Qy];cases hg:dI C.P kt with
 |false=>rw[c hg];rfl
 | true =>
  cases l with
  |nil=>simp only[Instr.findNow];exact a
  | cons e l =>
   have:Instr.sameNow kd v e.key=none:=by have:=(dJ hu).1;rw[hg]at this;cases kd<;>simp[nu]at this<;>rfl
   simp only[Instr.findNow,this];exact a
theorem I8(k:AV):∀(es:List (AV×AV)) (i:Nat) (r:Option AV),mL k es=some r->∃q,jd k i es=some q/\r=q.map (·.2):=by
 intro es
 induction es with
 |nil=>intro i r h;simp only[mL]at h;injection h with h;subst h;exact⟨none,rfl,rfl⟩
 | cons p es ih =>
  intro i r h;obtain⟨k',x⟩:=p;simp only[mL]at h;simp only[jd]
  split at h
  ·rename_i hq;injection h with h;subst h;exact⟨some (i,x),rfl,rfl⟩
  ·exact ih _ _ h
  ·cases h
theorem Mi(k x:AV):∀(es es':List (AV×AV)) (i:Nat),HY k x es=some es'->∃q,jd k i es=some q /\
  match q with
  |none=>es'=es++[(k,x)]
  |some (n,_)=>∃j,n=i+j/\es'=es.set j (k,x):=by
 intro es
 induction es with
 |nil=>intro es' i h;simp only[HY]at h;injection h with h;subst h;exact⟨none,rfl,rfl⟩
 | cons p es ih =>
  intro es' i h;obtain⟨k',y⟩:=p;simp only[HY]at h;simp only[jd]
  split at h
  ·rename_i hq;injection h with h;subst h;exact⟨some (i,y),rfl,0,rfl,rfl⟩
  ·rename_i hq
   split at h
   ·rename_i r hr;injection h with h;subst h;obtain⟨q,b,q2⟩:=ih r (i+1) hr;refine⟨q,b,?_⟩;cases q with
    |none=>simp only at q2 ⊢;rw[q2];rfl
    | some p =>
     obtain⟨j,c,a⟩:=q2;exact⟨j+1,by omega,by rw[a];rfl⟩
   ·cases h
  ·cases h
theorem Ax{t:TypeId}(h:we C.P t=some z):∃v,(zeroValue t).run C.P w=.ok v w/\RV w γ A bd z v:=by
 unfold we at h;cases hi:C.P.info? t with
 |none=>rw[hi]at h;cases h
 | some i =>
  rw[hi]at h;cases hz:i.zero with
  |none=>simp[hz]at h
  | some v =>
   simp only[R7,hz]at h;refine⟨v,by simp[zeroValue,j6 hi,hz],?_⟩
   split at h
   ·rename_i cs;cases hq:wu cs.toList with
    |none=>rw[hq]at h;cases h
    | some as =>
     rw[hq]at h;injection h with h;subst h;obtain⟨k,a⟩:=mP (w:=w) (γ:=γ) (A:=A) (bd:=bd) hq;exact .agg _ as cs (by simpa using k.1) a λi x v hx hv=>k.2 i x v hx (by simpa using hv)
   ·exact (Ez h).1
theorem yi(hr:Rel C A bd w γ hg nx){id:Nat}{es:List (AV×AV)}(hid:hg id=.map es) :
  (γ id).kind=2/\(γ id).wr=true/\∃esC:Array MapEntry,w.heap[(γ id).blk]?=some (.map esC esC.size)/\EsRel w γ A bd es esC.toList/\∀(i:Nat) e,esC[i]?=some e->e.born=i:=by
 have h:=hr.obj id;rw[hid]at h;obtain⟨c,k2,esC,d,a,b⟩:=h;refine⟨c,k2,esC,d,⟨by simpa using a,λi k x e hi he=>(b i k x e hi (by simpa using he)).2⟩,λi e he=>?_⟩;have hlt:i<es.length:=by rw[a];exact (RE.1 he).1
 exact (b i (es[i]).1 (es[i]).2 e (by simp[hlt]) he).1
theorem Es{ok:Bool}{k:T->AV}(hr:Rel C A bd w γ hg nx)
  (hu:C.P.underlying ty=some (.map kt et)) (hz:we C.P et=some z) (hm:RV w γ A bd (m t) vm) (hk:RV w γ A bd (k t) vk) (agree:∀id∈af (m t),hg id=g.h.get id) :
  ValSim C A bd w γ (Instr.lookup ty vm vk ok) (dx (fE C.P kt) z ok m k t g):=by
 unfold dx;generalize m t=m at *;generalize k t=k at *;rw[aa]
 split
 ·rename_i F;have s:=Eq F hk;obtain⟨kd,E⟩:∃kd,C.P.underlying kt=some kd:=by obtain⟨d,ds,_,o,_⟩:=s;obtain⟨kd,h,_⟩:=gY o;exact⟨kd,h⟩
  obtain⟨zv,S,U⟩:=Ax (w:=w) (γ:=γ) (A:=A) (bd:=bd) hz;have core:∀(es:List (AV×AV)) (l:Array MapEntry),EsRel w γ A bd es l.toList ->
    (vm=.map none/\l=#[]\/∃r n,vm=.map (some r)/\(getObj r).run C.P w=.ok (.map l n) w) ->
    ValSim C A bd w γ (Instr.lookup ty vm vk ok) (match mL k es with
     |some (some v)=>.val (ak ok (.tup [v,.bool true]) v)
     |some none=>.val (ak ok (.tup [z,.bool false]) z)
     |none=>.fail):=by
   intro es l D c;cases hf:mL k es with
   |none=>trivial
   | some r =>
    obtain⟨q,Q,q2⟩:=I8 k es 0 r hf;obtain⟨R,J,K⟩:=q9 E s hk Q D;have B:∀em,(Instr.checkKey em 10000 kt vk).run C.P w=.ok () w:=by intro em;obtain⟨d,ds,hd,o,H,I,_⟩:=s;have:=xT (P:=C.P) em (10000 - d) d kt ds o w _ H;rw[show 10000 - d+d=10000 from by omega,<-I]at this;exact this
    have tup:∀(x:AV) (u:Value) (b:Bool),RV w γ A bd x u->RV w γ A bd (ak ok (.tup [x,.bool b]) x) (if ok then .tuple #[u,.bool b] else u):=by
     intro x u b hx;cases ok
     ·exact hx
     ·refine .tup _ _ _ rfl λi y v hy hv=>?_
      match i with
      |0=>simp at hy hv;subst hy;subst hv;exact hx
      |1=>simp at hy hv;subst hy;subst hv;exact .bool _ _
      |i+2=>simp at hy
    have a:(Instr.lookup ty vm vk ok).run C.P w =
      ((do let (v,okk) <-match R with
            |some (_,v)=>pure (v,true)
            |none=>pure (<-zeroValue et,false)
           pure (if ok then .tuple #[v,.bool okk] else v):Sem Value)).run C.P w:=by
     unfold Instr.lookup;simp only[QC,aA hu,Qy];rcases c with⟨rfl,rfl⟩|⟨r',n,rfl,c⟩
     ·simp only[QC,Q0,Qy,B,K]
      try (cases R<;>rfl)
     ·simp only[QC,Q0,Qy,c,B,K]
      try (cases R<;>rfl)
    cases q with
    | none =>
     simp only[zw]at J;subst J;simp only[Option.map_none]at q2;subst q2;exact⟨_,by rw[a];simp[S],tup z zv false U⟩
    | some p =>
     obtain⟨i,x⟩:=p;obtain⟨j,k',e,f1,f2,L,V,M⟩:=J;subst M;simp only[RK]at q2;subst q2;exact⟨_,by rw[a];simp,tup x e.val true (D.2 j k' x e f2 L).2⟩
  cases hm with
  |nilm=>exact core [] #[] ⟨rfl,λi k x e h=>by simp at h⟩ (.inl ⟨rfl,rfl⟩)
  | hmap _ id b hkd hb =>
   have f:=agree id (by simp[af]);simp only[G.get_eq,<-f];cases hid:hg id with
   | map es =>
    obtain⟨W,k2,esC,N,O,X⟩:=yi hr hid;subst hb;exact core es esC O (.inr ⟨_,_,rfl,fe N (by simp)⟩)
   |_=>trivial
  |_=>trivial
 ·trivial
theorem qA(h:yX C.P kt k v)(em:Bool):(Instr.checkKey em 10000 kt v).run C.P w=.ok () w:=by obtain⟨d,ds,hd,a,b,c,_⟩:=h;have:=xT (P:=C.P) em (10000 - d) d kt ds a w _ b;rw[show 10000 - d+d=10000 from by omega,<-c]at this;exact this
theorem F4(h:yX C.P kt k v):∃kd,C.P.underlying kt=some kd:=by obtain⟨d,ds,_,a,_⟩:=h;obtain⟨kd,h,_⟩:=gY a;exact⟨kd,h⟩
theorem Rel.setMap(hr:Rel C A bd w γ hg nx){id:Nat}{es es':List (AV×AV)}{esC':Array MapEntry}(hid:hg id=.map es)(hl:es'.length=esC'.size)
  (he:∀(i:Nat) k x e,es'[i]?=some (k,x)->esC'[i]?=some e->e.born=i/\RV w γ A bd k e.key/\RV w γ A bd x e.val) :
  Rel C A bd (World.setBlk w (γ id).blk (.map esC' esC'.size)) γ (upd hg id (.map es')) nx/\Stp w γ (World.setBlk w (γ id).blk (.map esC' esC'.size)) γ:=by
 obtain⟨h,k2,_⟩:=yi hr hid;have hk:(γ id).kind≠0:=by rw[h];decide
 have s:=sn (w:=w) (o:=.map esC' esC'.size) hk k2;refine hr.setBlk hk k2 ⟨h,k2,esC',?_,hl,λi k x e h1 h2=>?_⟩
 ·rw[dj,Qw ⟨rfl,(hr.lt id hk).2⟩]
 ·obtain⟨a,b,c⟩:=he i k x e h1 h2;exact⟨a,b.step s,c.step s⟩
theorem sO{k x:T->AV}{vx:Value}(hr:Rel C A bd w γ hg nx)
  (hu:C.P.underlying ty=some (.map kt et)) (hm:RV w γ A bd (m t) vm) (hk:RV w γ A bd (k t) vk) (hx:RV w γ A bd (x t) vx) (agree:∀id∈af (m t),hg id=g.h.get id) :
  cR C A bd w γ hg nx (do Instr.mapUpdate ty vm vk vx;pure undef) g (fk (fE C.P kt) m k x t g):=by
 unfold fk;generalize m t=m at *;generalize k t=k at *;generalize x t=x at *;rw[aa]
 split
 ·rename_i z;have c:=Eq z hk;obtain⟨kd,u⟩:=F4 c;cases hm with
  | hmap _ id b hkd hb =>
   have l:=agree id (by simp[af]);simp only[G.get_eq,<-l];cases hid:hg id with
   | map es =>
    dsimp only;cases hs:HY k x es with
    |none=>trivial
    | some es' =>
     dsimp only;obtain⟨O,k2,esC,D,v,E⟩:=yi hr hid;obtain⟨q,L,q2⟩:=Mi k x es es' 0 hs;obtain⟨R,F,M⟩:=q9 u c hk L v;subst hb;have o:∀esC',(match R with
       | some (i,_)=>do
        let key <-Instr.keyThatStays (((esC[i]?).map (·.key)).getD vk) vk
        setObj (γ id).blk (.map (esC.modify i λe=>{ e with key,val:=vx }) esC.size)
       |none=>setObj (γ id).blk (.map (esC.push { key:=vk,val:=vx,born:=esC.size }) (esC.size+1)):Sem Unit).run C.P w=.ok () (World.setBlk w (γ id).blk (.map esC' esC'.size)) ->
       (do Instr.mapUpdate ty (.map (some (γ id).blk)) vk vx;pure undef:Sem Value).run C.P w=.ok undef (World.setBlk w (γ id).blk (.map esC' esC'.size)):=by
      intro esC' h;have:(Instr.mapUpdate ty (.map (some (γ id).blk)) vk vx).run C.P w=.ok () (World.setBlk w (γ id).blk (.map esC' esC'.size)):=by unfold Instr.mapUpdate;simp only[QC,aA hu,Qy,fe D (by simp),qA c,M];exact h
      simp[this]
     have f:es.length=esC.size:=by simpa using v.1
     cases q with
     | none =>
      simp only[zw]at F;subst F;simp only at q2;subst q2;have a:=hr.setMap (es':=es++[(k,x)]) (esC':=esC.push { key:=vk,val:=vx,born:=esC.size }) hid (by simp[f]) (λi k' x' e h1 h2=>by
       rw[Array.getElem?_push]at h2;rw[Sy]at h1
       split at h2
       ·rename_i hi;subst hi;rw[Qu (by omega),f,Rm]at h1;simp at h1 h2;obtain⟨rfl,rfl⟩:=h1;subst h2;exact⟨rfl,hk,hx⟩
       ·have hlt:i<esC.size:=(RE.1 h2).1;rw[Qw (by omega)]at h1;exact⟨E i e h2,v.2 i k' x' e h1 (by simpa using h2)⟩)
      refine⟨undef,_,γ,id,_,o _ ?_,cC,a.2,.inl ⟨rfl,a.1⟩⟩;simp only[Array.size_push];exact hZ D (by simp)
     | some p =>
      obtain⟨n,y⟩:=p;obtain⟨j,k',e,f1,f2,H,I,J⟩:=F;obtain⟨j',N,K⟩:=q2;have:j'=j:=by omega
      subst this;subst f1;subst J;subst K;have r:esC[j']?=some e:=by simpa using H
      have s:=yd c I hk (v.2 j' k' y e f2 H).1;have a:=hr.setMap (es':=es.set j' (k,x)) (esC':=esC.modify (0+j') λe=>{ e with key:=vk,val:=vx }) hid (by simp[f]) (λi k' x' e' h1 h2=>by
       rw[Rn]at h2;rw[Rq]at h1;rw[S4]at h2
       split at h1
       ·rename_i hi;subst hi;rw[Qw rfl,r]at h2
        split at h1
        ·simp at h1 h2;obtain⟨rfl,rfl⟩:=h1;subst h2;exact⟨E j' e r,hk,hx⟩
        ·cases h1
       ·rename_i hi;rw[Qu hi]at h2;exact⟨E i e' h2,v.2 i k' x' e' h1 (by simpa using h2)⟩)
      refine⟨undef,_,γ,id,_,o _ ?_,cC,a.2,.inl ⟨rfl,a.1⟩⟩;obtain⟨d,ds,_,_,B,_⟩:=c;simp only[Rn,r,RK,Qz,s,QC,oE B,Qy,Array.size_modify];exact hZ D (by simp)
   |_=>trivial
  |_=>trivial
 ·trivial
theorem A5{k:T->AV}(hr:Rel C A bd w γ hg nx)
  (hu:C.P.underlying ty=some (.map kt et)) (hz:we C.P et=some z) (hm:RV w γ A bd (m t) vm) (hk:RV w γ A bd (k t) vk) (agree:∀id∈af (m t),hg id=g.h.get id) :
  cR C A bd w γ hg nx (Instr.mapEntry ty vm vk) g (fF (fE C.P kt) z m k t g):=by
 unfold fF;generalize m t=m at *;generalize k t=k at *;rw[aa]
 split
 ·rename_i J;have a:=Eq J hk;obtain⟨kd,F⟩:=F4 a;obtain⟨zv,U,O⟩:=Ax (w:=w) (γ:=γ) (A:=A) (bd:=bd) hz;have tup:∀{w:World} {γ:Gm} (x:AV) (u:Value) (n:Nat),RV w γ A bd x u->RV w γ A bd (.tup [x,.int .i64 (.ofNat n)]) (.tuple #[u,goInt (n:Int)]):=by
   intro w γ x u n hx;refine .tup _ _ _ rfl λi y v hy hv=>?_
   match i with
   |0=>simp at hy hv;subst hy;subst hv;exact hx
   |1=>simp at hy hv;subst hy;subst hv;exact .int _ _ _
   |i+2=>simp at hy
  cases hm with
  | hmap _ id b hkd hb =>
   have o:=agree id (by simp[af]);simp only[G.get_eq,<-o];cases hid:hg id with
   | map es =>
    dsimp only;cases q1:jd k 0 es with
    |none=>trivial
    | some q =>
     obtain⟨V,k2,esC,s,H,M⟩:=yi hr hid;obtain⟨R,L,N⟩:=q9 F a hk q1 H;subst hb;have c:es.length=esC.size:=by simpa using H.1
     cases q with
     | none =>
      simp only[zw]at L;subst L;dsimp only;have f:=hr.setMap (es':=es++[(k,z)]) (esC':=esC.push { key:=vk,val:=zv,born:=esC.size }) hid (by simp[c]) (λi k' x' e h1 h2=>by
       rw[Array.getElem?_push]at h2;rw[Sy]at h1
       split at h2
       ·rename_i hi;subst hi;rw[Qu (by omega),c,Rm]at h1;simp at h1 h2;obtain⟨rfl,rfl⟩:=h1;subst h2;exact⟨rfl,hk,O⟩
       ·have hlt:i<esC.size:=(RE.1 h2).1;rw[Qw (by omega)]at h1;exact⟨M i e h2,H.2 i k' x' e h1 (by simpa using h2)⟩)
      refine⟨.tuple #[zv,goInt esC.size],_,γ,id,_,?_,?_,f.2,.inl ⟨rfl,f.1⟩⟩
      ·unfold Instr.mapEntry;simp only[QC,aA hu,Qy,fe s (by simp),qA a,N,U];have:(setObj (γ id).blk (.map (esC.push { key:=vk,val:=zv,born:=esC.size }) (esC.size+1))).run C.P w=.ok () (World.setBlk w (γ id).blk (.map (esC.push { key:=vk,val:=zv,born:=esC.size }) (esC.size+1))):=hZ s (by simp);simp[this]
      ·rw[aq,c];exact tup _ _ _ (O.step f.2)
     | some p =>
      obtain⟨n,y⟩:=p;obtain⟨j,k',e,f1,f2,I,Q,S⟩:=L;subst f1;subst S;dsimp only;have r:esC[j]?=some e:=by simpa using I
      have l:=yd a Q hk (H.2 j k' y e f2 I).1;have D:(esC.modify j λe=>{ e with key:=vk })=esC:=by
       apply Tg;intro i;rw[S4]
       split
       ·rename_i hi;subst hi;rw[r,<-l];rfl
       ·rfl
      have B:=a;obtain⟨d,ds,_,_,K,_⟩:=B;refine⟨.tuple #[e.val,goInt j],?_,?_⟩
      ·unfold Instr.mapEntry;simp only[QC,aA hu,Qy,fe s (by simp),qA a,N,Rn,r,RK,Qz,l,oE K,D,M j e r];have E:(setObj (γ id).blk (.map esC esC.size)).run C.P w=.ok () w:=by
        rw[hZ s (by simp)];congr 1;have hlt:(γ id).blk<w.heap.size:=(RE.1 s).1;unfold World.setBlk;congr 1;apply Tg;intro q;rw[Sc]
        split
        ·rename_i hq;subst hq;rw[s]
        ·rfl
       simp[E]
      ·rw[Rn];exact tup _ _ _ (H.2 j k' y e f2 I).2
   |_=>trivial
  |_=>trivial
 ·trivial
theorem xL{st x:T->AV}{vs vx:Value}(hr:Rel C A bd w γ hg nx)
  (hm:RV w γ A bd (m t) vm) (hs:RV w γ A bd (st t) vs) (hx:RV w γ A bd (x t) vx) (agree:∀id∈af (m t),hg id=g.h.get id) :
  cR C A bd w γ hg nx (do Instr.entryStore ty vm vs vx;pure undef) g (ib m st x t g):=by
 unfold ib;generalize m t=m at *;generalize st t=st at *;generalize x t=x at *;cases hm with
 | hmap _ id b hkd hb =>
  have a:=agree id (by simp[af]);simp only[G.get_eq,<-a];cases hid:hg id with
  | map es =>
   dsimp only;cases hs with
   | int _ kk n =>
    cases n with
    |negSucc n=>trivial
    | ofNat i =>
     simp only[dy];cases hi:es[i]? with
     |none=>trivial
     | some p =>
      obtain⟨k,y⟩:=p;dsimp only;obtain⟨v,k2,esC,u,s,q⟩:=yi hr hid;subst hb;have c:es.length=esC.size:=by simpa using s.1
      have hlt:i<esC.size:=by rw[<-c];exact (Qs.1 hi).1
      have f:esC.findIdx? (λe=>(e.born:Int) == (Int.ofNat i))=some i:=by
       rw[Array.findIdx?_eq_some_iff_getElem];refine⟨hlt,?_,λj hj=>?_⟩
       ·rw[q i esC[i] (QO hlt)];simp
       ·have r:j<esC.size:=by omega
        rw[q j esC[j] (QO r)];simp;omega
      have d:=hr.setMap (es':=Dm i (k,x) es) (esC':=esC.modify i λe=>{ e with val:=vx }) hid (by simp[fG,c]) (λi' k' x' e' h1 h2=>by
       rw[fG,Rq]at h1;rw[S4]at h2
       split at h1
       ·rename_i l;subst l;rw[Qw rfl,QO hlt]at h2
        split at h1
        ·simp at h1 h2;obtain⟨rfl,rfl⟩:=h1;subst h2;exact⟨q i esC[i] (QO hlt),(s.2 i k y esC[i] hi (by simp[hlt])).1,hx⟩
        ·cases h1
       ·rename_i l;rw[Qu l]at h2;exact⟨q i' e' h2,s.2 i' k' x' e' h1 (by simpa using h2)⟩)
      refine⟨undef,_,γ,id,_,?_,cC,d.2,.inl ⟨rfl,d.1⟩⟩;have o:=hZ (P:=C.P) (o':=.map (esC.modify i λe=>{ e with val:=vx }) esC.size) u (by simp);have:(Instr.entryStore ty (.map (some (γ id).blk)) (.int kk (Int.ofNat i)) vx).run C.P w=.ok () (World.setBlk w (γ id).blk (.map (esC.modify i λe=>{ e with val:=vx }) esC.size)):=by unfold Instr.entryStore;simp only[QC,Qy,fe u (by simp),asInt,asIntOf,Q0,f,o]
      simp only[Array.size_modify,QC,this,Qy,Q0]
   |_=>trivial
  |_=>trivial
 |_=>trivial
end
end
section
variable {r:OR}
section
variable {C:Cfg}{A:Nat->Nat->Prop}{bd:Nat}{w w':World}{γ γ':Gm}{hg:Nat->AObj}{nx:Nat}
theorem OpSim.ofUpd{o:Oper}{ev:Operand->Value}{g:G}{m:Sem Value}(he:execOp ev o=(do pure (.value (<-m))))(h:cR C A bd w γ hg nx m g r) :
  OpSim C A bd w γ hg nx o ev g r:=by
 have run:∀{v:Value} {w':World},m.run C.P w=.ok v w'->BG C.P o ev w v w':=by intro v w' h;left;rw[he];simp[h]
 cases r with
 |fail=>trivial
 |val x=>obtain⟨v,h1,h2⟩:=h;exact⟨v,run h1,h2⟩
 |upd x g'=>obtain⟨v,w',γ',id,ob,h1,h2⟩:=h;exact⟨v,w',γ',id,ob,run h1,h2⟩
 |dfr a=>exact h
theorem OpSim.ofUnit{o:Oper}{ev:Operand->Value}{g:G}{s:Sem Unit}(he:execOp ev o=(do s;pure .skip))(h:cR C A bd w γ hg nx (do s;pure undef) g r) :
  OpSim C A bd w γ hg nx o ev g r:=by
 have run:∀{v:Value} {w':World},(do s;pure undef:Sem Value).run C.P w=.ok v w'->BG C.P o ev w v w':=by
  intro v w' h;right;rw[he];simp only[QC,Q0]at h ⊢;cases hs:s.run C.P w with
  |ok u w1=>rw[hs]at h;simp only[Qy]at h ⊢;injection h with h1 h2;subst h1;subst h2;exact⟨rfl,rfl⟩
  |halt x w1=>rw[hs]at h;cases h
 cases r with
 |fail=>trivial
 |val x=>obtain⟨v,h1,h2⟩:=h;exact⟨v,run h1,h2⟩
 |upd x g'=>obtain⟨v,w',γ',id,ob,h1,h2⟩:=h;exact⟨v,w',γ',id,ob,run h1,h2⟩
 |dfr a=>exact h
theorem ValSim.upd{m:Sem Value}{g:G}{r:OR}(h:ValSim C A bd w γ m r):cR C A bd w γ hg nx m g r:=by
 cases r with
 |fail=>trivial
 |val x=>exact h
 |upd x g'=>exact h.elim
 |dfr a=>exact h.elim
theorem OpSim.ofVal{o:Oper}{ev:Operand->Value}{g:G}{m:Sem Value}(he:execOp ev o=(do pure (.value (<-m))))(h:ValSim C A bd w γ m r) :
  OpSim C A bd w γ hg nx o ev g r:=.ofUpd he h.upd
theorem OpSim.now{o:Oper}{ev:Operand->Value}{g:G}(he:(execOp ev o).run C.P w=.ok (.value v) w)(h:RV w γ A bd x v) :
  OpSim C A bd w γ hg nx o ev g (.val x):=⟨v,.inl he,h⟩
noncomputable def a_(C:Cfg)(op:Op)(t:T)(g:G):List Nat:=((aK C op).run t g).rd++((aK C op).run t g).sr.map (·.1)
theorem Mv{op:UnOp}(hx:RV w γ A bd x v):ValSim C A bd w γ (Op.unary op v) ((unA op).run x):=by
 cases op
 case not =>
  cases hx with
  |bool _ b=>exact⟨.bool (!b),by simp[Op.unary],by rw[notb_eq];exact .bool _ _⟩
  |_=>trivial
 all_goals
  cases hx with
  |int _ k n=>exact mQ λy hy=>jJ hy C.P w
  |_=>trivial
theorem Ev{g:G}{P:Program}(hr:Rel C A bd w γ hg nx)(hf:(γ g.nx).kind=0) :
  cR C A bd w γ hg nx (do pure (.map (some (<-newObj (.map #[] 0))))) g (.upd (.hmap g.nx) (g.new (.map []))):=by
 let gh:Gh:=⟨2,0,0,0,w.heap.size,0,0,true⟩
 obtain⟨r,s⟩:=hr.add (id:=g.nx) (gh:=gh) (o:=.map #[] 0) (ao:=.map []) (nx':=Nat.max nx (g.nx+1)) hf rfl (RO _ _) (QR (Su _) (R5 _ _)) (by
  simp only[ObjRel,upd_same];exact⟨rfl,rfl,#[],by rw[jS];simp[gh],rfl,λi k x e h=>by simp at h⟩)
 refine⟨.map (some w.heap.size),World.add w (.map #[] 0),_,g.nx,_,by simp[newObj,Sem.run,World.add],?_,s,.inr ⟨rfl,rfl,r⟩⟩;exact .hmap _ g.nx _ (by simp[gh]) (by simp[gh])
theorem EG:∀{fs:List Field} {places:List (Nat×Nat)},aF (λf:Field=>match szT C.P f.type with|some n=>some (f.offset,n)|none=>none) fs=some places ->
  (fs.mapM λf=>do pure (f.offset,<-Go.sizeOf f.type):Sem (List (Nat×Nat))).run C.P w=.ok places w:=by
 intro fs
 induction fs with
 |nil=>intro places h;simp only[aF]at h;injection h with h;subst h;simp
 | cons f fs ih =>
  intro places h;simp only[aF]at h
  split at h
  ·rename_i p hp
   split at h
   ·rename_i ps k;injection h with h;subst h
    split at hp
    ·rename_i n a;injection hp with hp;subst hp;rw[List.mapM_cons];have:=ih k;simp only[QC,aY a,Qy,Q0,this]
    ·cases hp
   ·cases h
  ·cases h
variable {o:Oper}{op:Op}{a:Act}{nt:Nat}{t:T}{g:G}{f:Stg SFn}
theorem qB(he:kK C.P ty=some e):C.P.underlying ty=some (.slice e):=by unfold kK at he;split at he<;>first| (injection he with he;subst he;assumption)|cases he
theorem BY{b:Builtin}{argTypes:Array TypeId}{args:List Operand}{consts:Array Bool}(h:cZ C b argTypes args=some f)(ht:TR w γ A bd nt t a.tmps)(hr:Rel C A bd w γ hg nx)
  (hf:(γ g.nx).kind=0) (agree:∀x∈args,∀s,aN C x=some s->∀id∈kP C b argTypes (s.run t),hg id=g.h.get id) :
  ∃m:Sem Value,builtin b argTypes ty consts (args.map a.eval).toArray=(do pure (.value (<-m)))/\cR C A bd w γ hg nx m g (f.run t g):=by
 unfold cZ at h
 split at h
 ·
  rename_i x
  split at h
  ·rename_i tt s h0 hs;injection h with h;subst h;exact⟨Builtin.len_ argTypes ty #[a.eval x],rfl,(LF hr h0 (au hs ht hr) λhk id hid=>agree x (by simp) s hs id (by simpa only[kP,h0,hk] using hid)).upd⟩
  ·cases h
 ·
  rename_i p x
  split at h
  ·rename_i tt xt sa sx h0 h1 ha hx
   split at h
   ·rename_i e e' he j
    split at h
    ·rename_i sz bytes zero d i hz;rw[aa]at h
     split at h
     ·rename_i c;simp only[Qt,Rr,aq]at c;injection h with h;subst h;exact⟨Builtin.append_ argTypes ty #[a.eval p,a.eval x],rfl,DY hr hf h0 h1 (qB he) j d i hz (aI c.1.1) c.2 (au ha ht hr) (au hx ht hr)
       (λid hid=>agree p (by simp) sa ha id hid) (λid hid=>agree x (by simp) sx hx id hid)⟩
     ·cases h
    ·cases h
   ·rename_i e k he j
    split at h
    ·rename_i sz bytes zero d i hz;rw[aa]at h
     split at h
     ·rename_i c;simp only[Qt,Rr,aq]at c;injection h with h;subst h;exact⟨Builtin.append_ argTypes ty #[a.eval p,a.eval x],rfl,BL hr hf h0 h1 (qB he) j d i hz (aI c.1.1) c.1.2 c.2 (au ha ht hr) (au hx ht hr)
       (λid hid=>agree p (by simp) sa ha id hid)⟩
     ·cases h
    ·cases h
   ·cases h
  ·cases h
 ·
  rename_i p x
  split at h
  ·rename_i tt sa sx h0 ha hx
   split at h
   ·rename_i e he
    split at h
    ·rename_i sz d;injection h with h;subst h;exact⟨Builtin.copy_ argTypes ty #[a.eval p,a.eval x],rfl,IU hr h0 (qB he) d (au ha ht hr) (au hx ht hr)
      (λid hid=>agree p (by simp) sa ha id hid) (λid hid=>agree x (by simp) sx hx id hid)⟩
    ·cases h
   ·cases h
  ·cases h
 ·
  rename_i x
  split at h
  ·rename_i tt s h0 hs
   split at h
   ·rename_i e he;injection h with h;subst h;exact⟨Builtin.cap_ argTypes ty #[a.eval x],rfl,(Lj hr h0 (qB he) (au hs ht hr) λid hid=>agree x (by simp) s hs id hid).upd⟩
   ·cases h
  ·cases h
 ·
  rename_i x
  split at h
  ·rename_i tt s h0 hs
   split at h
   ·rename_i e he
    split at h
    ·rename_i sz zero d hz;rw[aa]at h
     split at h
     ·rename_i c;simp only[Qt,Rr,aq]at c;injection h with h;subst h;exact⟨Builtin.clear_ argTypes ty #[a.eval x],rfl,G4 hr h0 (qB he) hz (aI c.1) c.2 (au hs ht hr) λid hid=>agree x (by simp) s hs id hid⟩
     ·cases h
    ·cases h
   ·cases h
  ·cases h
 ·
  rename_i x y
  split at h
  ·rename_i sx sy hx o;injection h with h;subst h;refine⟨Builtin.max_ argTypes ty #[a.eval x,a.eval y],rfl,?_⟩;have l:=au hx ht hr;have n:=au o ht hr;dsimp only;generalize sx.run t=u at l ⊢;generalize sy.run t=v at n ⊢;cases u<;>try trivial
   cases v<;>try trivial
   exact (LH l n).upd
  ·cases h
 ·
  rename_i x y
  split at h
  ·rename_i sx sy hx o;injection h with h;subst h;refine⟨Builtin.min_ argTypes ty #[a.eval x,a.eval y],rfl,?_⟩;have l:=au hx ht hr;have n:=au o ht hr;dsimp only;generalize sx.run t=u at l ⊢;generalize sy.run t=v at n ⊢;cases u<;>try trivial
   cases v<;>try trivial
   exact (LI l n).upd
  ·cases h
 ·cases h
theorem GZ:∀{xs:List Operand} {vs:Stg (T->List AV)},bP C xs=some vs->∀x∈xs,∀s,aN C x=some s->s.run t∈vs.run t:=by
 intro xs
 induction xs with
 |nil=>intro vs _ x hx;cases hx
 | cons y ys ih =>
  intro vs h x hx s hs;simp only[bP]at h
  split at h
  ·rename_i p q hp hq;injection h with h;subst h;rcases Rh.1 hx with rfl|hx
   ·rw[hp]at hs;injection hs with hs;subst hs;exact Rv
   ·exact Q9 _ (ih hq x hx s hs)
  ·cases h
theorem sE{b:Builtin}{argTypes:Array TypeId}{args:List Operand}(h:cZ C b argTypes args=some f):∃vs,bP C args=some vs:=by
 have one:∀{x:Operand} {s},aN C x=some s->∃vs,bP C [x]=some vs:=by intro x s hs;simp only[bP,hs];exact⟨_,rfl⟩
 have two:∀{x y:Operand} {s u},aN C x=some s->aN C y=some u->∃vs,bP C [x,y]=some vs:=by intro x y s u hs hu;simp only[bP,hs,hu];exact⟨_,rfl⟩
 unfold cZ at h
 split at h
 ·split at h
  ·exact one (by assumption)
  ·cases h
 ·split at h
  ·exact two (by assumption) (by assumption)
  ·cases h
 ·split at h
  ·exact two (by assumption) (by assumption)
  ·cases h
 ·split at h
  ·exact one (by assumption)
  ·cases h
 ·split at h
  ·exact one (by assumption)
  ·cases h
 ·split at h
  ·exact two (by assumption) (by assumption)
  ·cases h
 ·split at h
  ·exact two (by assumption) (by assumption)
  ·cases h
 ·cases h
theorem Mt(h:cm C op=some f)(ho:o.op=op)(ht:TR w γ A bd nt t a.tmps)(hr:Rel C A bd w γ hg nx)(hf:(γ g.nx).kind=0)
  (agree:∀id∈a_ C op t g,hg id=g.h.get id):OpSim C A bd w γ hg nx o a.eval g (f.run t g):=by
 cases op<;>simp only[cm]at h<;>first| (cases h;done)|skip
 case move x =>
  split at h
  ·rename_i s hs;injection h with h;subst h;exact .now (by simp[execOp,ho]) (au hs ht hr)
  ·cases h
 case assign x =>
  split at h
  ·rename_i s hs;injection h with h;subst h;exact .now (by simp[execOp,ho]) (au hs ht hr)
  ·cases h
 case pick c x y =>
  split at h
  ·rename_i sc sx sy hc hx K;injection h with h;subst h;have B:=au hc ht hr;have L:=au hx ht hr;have Q:=au K ht hr;dsimp only;generalize sc.run t=cv at B ⊢;generalize hcv:a.eval c=vc at B;cases B with
   | bool _ b =>
    cases b
    ·exact .now (by simp[execOp,ho,hcv,asBool]) Q
    ·exact .now (by simp[execOp,ho,hcv,asBool]) L
   |_=>trivial
  ·cases h
 case alloc ty =>
  split at h
  ·rename_i cs hz;injection h with h;subst h;exact .ofUpd (by simp only[execOp,ho]) (GU hr hz hf t)
  ·cases h
 case box ty x =>
  split at h
  ·rename_i s hs;injection h with h;subst h;have B:=au hs ht hr;unfold IG;dsimp only;rw[aa]
   split
   ·trivial
   ·rename_i J;exact .ofUpd (m:=Instr.box ty (a.eval x)) (by simp only[execOp,ho]) (Lf hr B hf (by simpa using J))
  ·cases h
 case load ty x =>
  split at h
  ·rename_i s ag n hs E G;injection h with h;subst h;exact .ofVal (by simp only[execOp,ho]) (CK hr (au hs ht hr) E G λid hid=>agree id (by simp[a_,aK,ah,hs,hid]))
  ·cases h
 case store ty x y =>
  split at h
  ·rename_i s u n hs hu G;injection h with h;subst h;exact .ofUnit (by simp only[execOp,ho]) (H7 hr (au hs ht hr) (au hu ht hr) G λid hid=>agree id (by simp[a_,aK,ah,hs,hid]))
  ·cases h
 case binOp op ty x y p =>
  split at h
  ·rename_i s u hs hu;injection h with h;subst h;exact .ofVal (by simp only[execOp,ho]) (Le (xo:=x) (yo:=y) (au hs ht hr) (au hu ht hr))
  ·cases h
 case unOp op ty x =>
  split at h
  ·rename_i s hs;injection h with h;subst h;exact .ofVal (by simp only[execOp,ho]) (Mv (au hs ht hr))
  ·cases h
 case convert src dst x =>
  split at h
  ·rename_i s sd k hs I hk;injection h with h;subst h;have B:=au hs ht hr;dsimp only;generalize s.run t=cv at B ⊢;generalize hcv:a.eval x=vc at B;cases B with
   | int _ k' n =>
    refine .ofVal (m:=convert src dst (.int k' n)) (by simp only[execOp,ho,hcv]) ⟨.int k (k.wrap n),?_,by rw[gN];exact .int _ _ _⟩;unfold convert;simp only[QC,aA I,aA hk,Qy,Conv.intToInt]
    try rfl
   |_=>trivial
  ·cases h
 case nilCheck x =>
  split at h
  ·rename_i s hs;injection h with h;subst h;have B:=au hs ht hr;dsimp only;generalize s.run t=cv at B ⊢;generalize hcv:a.eval x=vc at B;cases B with
   |tptr _ tag sz rows i0 off0 b o' cell h1 h2 h3 h4 h5 h6 h7 h8 h9=>exact .now (by simp[execOp,ho,hcv]) (.tptr _ tag sz rows i0 off0 b o' cell h1 h2 h3 h4 h5 h6 h7 h8 h9)
   |hptr _ id ep i off b o' h1 h2 h3=>exact .now (by simp[execOp,ho,hcv]) (.hptr _ id ep i off b o' h1 h2 h3)
   |clo _ f' xs ys vs us h1 h2 h3 h4=>exact .now (by simp[execOp,ho,hcv]) (.clo _ f' xs ys vs us h1 h2 h3 h4)
   |yld _ id b h1 h2=>exact .now (by simp[execOp,ho,hcv]) (.yld _ id b h1 h2)
   |_=>trivial
  ·cases h
 case makeInterface ty x =>
  split at h
  ·cases h
  ·rename_i s d O hs hu;injection h with h;subst h;refine .ofVal (m:=Instr.makeInterface ty (a.eval x)) (by simp only[execOp,ho]) ⟨.iface ty (a.eval x),?_,.ifc _ ty _ _ (au hs ht hr)⟩;unfold Instr.makeInterface;simp only[QC,aA hu,Qy]
   try rfl
  ·cases h
 case makeSlice ty l c =>
  split at h
  ·rename_i e sl sc he hl hc
   split at h
   ·rename_i sz bytes zero q M hz;rw[aa]at h
    split at h
    ·rename_i j;simp only[Qt,Rr,aq]at j;injection h with h;subst h;have hu:C.P.underlying ty=some (.slice e):=by unfold kK at he;split at he<;>first| (injection he with he;subst he;assumption)|cases he
     exact .ofUpd (by simp only[execOp,ho]) (zk hr hf hu q M hz (aI j.1) j.2 (au hl ht hr) (au hc ht hr))
    ·cases h
   ·cases h
  ·cases h
 case fieldAddr ty x fi =>
  split at h
  ·rename_i s fo ft hs F
   split at h
   ·rename_i n G;injection h with h;subst h;exact .ofVal (by simp only[execOp,ho]) (ze (g:=g) (au hs ht hr) F G)
   ·cases h
  ·cases h
 case field ty x fi =>
  split at h
  ·rename_i s fo ft hs F
   split at h
   ·rename_i ag n E G;injection h with h;subst h;have B:=au hs ht hr;refine .ofVal (m:=Instr.field ty (a.eval x) fi) (by simp only[execOp,ho]) ?_;dsimp only;generalize s.run t=y at B ⊢;cases y<;>first|trivial|exact Hl B F E G
   ·cases h
  ·cases h
 case indexAddr ty x ix =>
  split at h
  ·rename_i s i hs hi
   split at h
   ·rename_i e hu
    split at h
    ·rename_i sz q;injection h with h;subst h;exact .ofVal (by simp only[execOp,ho]) (CA hr (au hs ht hr) (au hi ht hr) hu q λid hid=>agree id (by simp[a_,aK,ah,hs,hu,hid]))
    ·cases h
   ·rename_i n e hu
    split at h
    ·rename_i sz q;injection h with h;subst h;exact .ofVal (by simp only[execOp,ho]) (Cz (g:=g) (au hs ht hr) (au hi ht hr) hu q)
    ·cases h
   ·cases h
  ·cases h
 case index ty x ix =>
  split at h
  ·rename_i s i hs hi
   split at h
   ·rename_i n e hu
    split at h
    ·rename_i ag sz E q;injection h with h;subst h;exact .ofVal (by simp only[execOp,ho]) (Hu (g:=g) (au hs ht hr) (au hi ht hr) hu E q)
    ·cases h
   ·rename_i hu;injection h with h;subst h;exact .ofVal (by simp only[execOp,ho]) (A1 (g:=g) (au hs ht hr) (au hi ht hr) hu)
   ·cases h
  ·cases h
 case lookup ty x k ok =>
  split at h
  ·rename_i m kk kt et hm hk hu
   split at h
   ·rename_i z hz;injection h with h;subst h;exact .ofVal (by simp only[execOp,ho]) (Es hr hu hz (au hm ht hr) (au hk ht hr) λid hid=>agree id (by cases ok<;>simp[a_,aK,ah,hm,hid]))
   ·cases h
  ·cases h
 case mapUpdate ty m k x =>
  split at h
  ·rename_i sm sk sx kt et hm hk hx hu;injection h with h;subst h;exact .ofUnit (by simp only[execOp,ho]) (sO hr hu (au hm ht hr) (au hk ht hr) (au hx ht hr) λid hid=>agree id (by simp[a_,aK,ah,hm,hid]))
  ·cases h
 case insert ty m k x =>
  split at h
  ·rename_i sm sk sx kt et hm hk hx hu;injection h with h;subst h;exact .ofUnit (by simp only[execOp,ho]) (sO hr hu (au hm ht hr) (au hk ht hr) (au hx ht hr) λid hid=>agree id (by simp[a_,aK,ah,hm,hid]))
  ·cases h
 case mapEntry ty m k =>
  split at h
  ·rename_i sm sk kt et hm hk hu
   split at h
   ·rename_i z hz;injection h with h;subst h;exact .ofUpd (by simp only[execOp,ho]) (A5 hr hu hz (au hm ht hr) (au hk ht hr) λid hid=>agree id (by simp[a_,aK,hm,hid]))
   ·cases h
  ·cases h
 case entryStore ty m st x =>
  split at h
  ·rename_i sm ss sx hm hs hx;injection h with h;subst h;exact .ofUnit (s:=Instr.entryStore ty (a.eval m) (a.eval st) (a.eval x)) (by simp only[execOp,ho]) (xL hr (au hm ht hr) (au hs ht hr) (au hx ht hr) λid hid=>agree id (by simp[a_,aK,ah,hm,hid]))
  ·cases h
 case extract x i =>
  split at h
  ·rename_i s hs;injection h with h;subst h;have B:=au hs ht hr;refine .ofVal (m:=Instr.extract (a.eval x) i) (by simp only[execOp,ho]) ?_;dsimp only;generalize s.run t=cv at B ⊢;generalize a.eval x=vc at B;cases B with
   | tup _ xs vs hl hall =>
    simp only[dy];refine mQ λy K=>?_;have hlt:i<vs.size:=by rw[<-hl];exact (Qs.1 K).1
    exact⟨vs[i],by simp[Instr.extract,hlt],hall i y _ K (by simp[hlt])⟩
   |_=>trivial
  ·cases h
 case makeMap ty r =>
  cases r with
  |some r=>cases h
  | none =>
   dsimp only at h
   split at h
   ·injection h with h;subst h;refine .ofUpd (m:=do pure (.map (some (<-newObj (.map #[] 0))))) ?_ (Ev (P:=C.P) hr hf);simp only[execOp,ho,Instr.makeMap,Option.map_none]
    try rfl
   ·cases h
 case makeFunc fn fi ca =>
  cases fn with
  | func fx =>
   dsimp only at h
   split at h
   ·rename_i sa sc ha hc;injection h with h;subst h;have B:=gL ht hr ha;have L:=gL ht hr hc;refine .now (v:=.func (.func fx) (fi.map a.eval) (ca.map a.eval)) (by simp[execOp,ho,Instr.makeFunc]) (.clo _ fx _ _ _ _ (by simpa using B.1) (by simpa using L.1) (λi x v hx hv=>?_) (λi x v hx hv=>?_))
    ·exact B.2 i x v hx (by simpa using hv)
    ·exact L.2 i x v hx (by simpa using hv)
   ·cases h
  |_=>cases h
 case buildSlice ty len parts =>
  split at h
  ·rename_i e vs he D
   split at h
   ·rename_i sz zero q hz;rw[aa]at h
    split at h
    ·rename_i j;simp only[Qt,Rr,Q6,aq]at j;injection h with h;subst h;have hu:C.P.underlying ty=some (.slice e):=by unfold kK at he;split at he<;>first| (injection he with he;subst he;assumption)|cases he
     exact .ofUpd (by simp only[execOp,ho]) (xq hr hf hu q hz (aI j.1.1) j.1.2 j.2 (gL ht hr D))
    ·cases h
   ·cases h
  ·cases h
 case build ty parts =>
  split at h
  ·rename_i zero vs hz D
   split at h
   ·rename_i fs hu
    split at h
    ·rename_i places N
     split at h
     ·rename_i pl hp;injection h with h;subst h;refine .ofVal (m:=Instr.build ty (parts.map λ(i,x)=>(i,a.eval x))) (by simp only[execOp,ho]) (zC (g:=g) (place:=(places[·]?)) hz (gL ht hr D) hp λz cells hzv hfill=>?_);have h1:(fs.mapM λf=>do pure (f.offset,<-Go.sizeOf f.type):Sem (Array (Nat×Nat))).run C.P w=.ok places.toArray w:=by
       rw[Array.mapM_eq_mapM_toList];have:=EG (w:=w) N;simp only[Sem.run_map,this]
       rfl
      unfold Instr.build;simp only[QC,hzv,aA hu,Qy,h1];have e:(λi:Nat=>places.toArray[i]?)=(λi:Nat=>places[i]?):=by funext i;simp
      rw[e,hfill]
      rfl
     ·cases h
    ·cases h
   ·rename_i n e hu
    split at h
    ·rename_i sz q;injection h with h;subst h;refine .ofVal (m:=Instr.build ty (parts.map λ(i,x)=>(i,a.eval x))) (by simp only[execOp,ho]) (zC (g:=g) (place:=λi=>some (i*sz,sz)) hz (gL ht hr D) ?_ λz cells hzv hfill=>?_)
     ·generalize parts.toList.map (·.1)=is
      induction is with
      |nil=>rfl
      |cons i is ih=>simp only[aF,ih,Sv]
     ·unfold Instr.build;simp only[QC,hzv,aA hu,Qy,aY q];rw[hfill]
      rfl
    ·cases h
   ·cases h
  ·cases h
 case slice ty x lo hi mx =>
  have optR:∀{y:Option Operand} {s:Stg (T->List AV)},bP C y.toList=some s->OVR w γ A bd (s.run t).head? (y.map a.eval):=by intro y s hs;have:=J7 (gL ht hr hs);cases y<;>simpa using this
  cases mx with
  | none =>
   dsimp only at h
   split at h
   ·rename_i e sx sl sh hu hx hl H
    split at h
    ·rename_i sz q;injection h with h;subst h;refine .ofVal (m:=Instr.sliceAt ty (a.eval x) (lo.map a.eval) (hi.map a.eval) none) (by simp only[execOp,ho,Option.map_none]) ?_;exact yP hr hu q (au hx ht hr) (optR hl) (optR H) trivial (λh=>absurd rfl h) λid hid=>agree id (by simp[a_,aK,ah,hx,hid])
    ·cases h
   ·rename_i n e sx sl sh hu hx hl H
    split at h
    ·rename_i sz q;injection h with h;subst h;refine .ofUpd (m:=Instr.sliceAt ty (a.eval x) (lo.map a.eval) (hi.map a.eval) none) (by simp only[execOp,ho,Option.map_none]) ?_;exact Bn (lo:=λt=>(sl.run t).head?) (hi:=λt=>(sh.run t).head?) hr hu q (RA _) (au hx ht hr) (optR hl) (optR H) λid hid=>agree id (by simp[a_,aK,ah,hx,hid])
    ·cases h
   ·cases h
  | some mx =>
   cases hi with
   |none=>cases h
   | some hi =>
    dsimp only at h
    split at h
    ·rename_i e sx sl sh sm he hx hl H hm
     split at h
     ·rename_i sz q;injection h with h;subst h;have hu:C.P.underlying ty=some (.slice e):=by unfold kK at he;split at he<;>first| (injection he with he;subst he;assumption)|cases he
      refine .ofVal (m:=Instr.sliceAt ty (a.eval x) (lo.map a.eval) (some (a.eval hi)) (some (a.eval mx))) (by simp only[execOp,ho,RK]) ?_;exact yP hr hu q (au hx ht hr) (optR hl) (au H ht hr) (au hm ht hr) (λ_ h=>by cases h) λid hid=>agree id (by simp[a_,aK,ah,hx,hid])
     ·cases h
    ·cases h
 case call c =>
  obtain⟨callee,args,argTypes⟩:=c;cases callee<;>first| (cases h;done)|skip
  rename_i b;dsimp only at h;obtain⟨vs,D⟩:=sE h;obtain⟨m,h1,h2⟩:=BY (ty:=o.type) (consts:=args.map fun|.const _=>true|_=>false) h ht hr hf λx hx s hs id hid=>agree id (by
   have:=GZ (t:=t) D x hx s hs;unfold a_ aK;simp only[D,ah,RQ,QJ,Sk];exact⟨_,this,hid⟩)
  refine .ofUpd (m:=m) ?_ h2;rw[<-h1];simp only[execOp,ho,resolve,invoke];have e:args.map a.eval=(args.toList.map a.eval).toArray:=by apply S7;simp
  rw[<-e]
  rfl
end
end
section
variable {g1 g2:G}
theorem fj{α β:Type}{f:α->Option β}:∀{l:List α} {r:List β},aF f l=some r->∀(i:Nat) y,r[i]?=some y->∃x,l[i]?=some x/\f x=some y:=by
 intro l
 induction l with
 |nil=>intro r h i y k;simp only[aF]at h;injection h with h;subst h;simp at k
 | cons a l ih =>
  intro r h i y k;simp only[aF]at h
  split at h
  ·rename_i b hb
   split at h
   ·rename_i bs c;injection h with h;subst h;cases i with
    |zero=>simp at k;subst k;exact⟨a,rfl,hb⟩
    |succ i=>simpa using ih c i y (by simpa using k)
   ·cases h
  ·cases h
theorem ma{α β:Type}{f:α->Option β}:∀{l:List α} {r:List β},aF f l=some r->r.length=l.length:=by
 intro l
 induction l with
 |nil=>intro r h;simp only[aF]at h;injection h with h;subst h;rfl
 | cons a l ih =>
  intro r h;simp only[aF]at h
  split at h
  ·split at h
   ·rename_i bs k;injection h with h;subst h;simp[ih k]
   ·cases h
  ·cases h
theorem Dp{h:H}{tag:Nat}:∀{f:Nat} {x y:AV},snap h tag f x=some y->x.one=true->y.one=true:=by
 intro f x y hs hx;cases f with
 |zero=>cases hs
 | succ f =>
  cases x<;>simp only[snap]at hs<;>first| (cases hx;done)|skip
  all_goals first| (injection hs with hs;subst hs;rfl)|skip
  all_goals
   repeat (split at hs)
   all_goals first| (cases hs;done)| (injection hs with hs;subst hs;rfl)| (rw[aa]at hs;split at hs<;>first| (cases hs;done)| (injection hs with hs;subst hs;rfl))
def Ext(h:H)(hg:Nat->AObj):Prop:=∀id,h.get id≠.none->hg id=h.get id
section
variable {C:Cfg}{A A':Nat->Nat->Prop}{bd:Nat}{w w':World}{γ γ':Gm}{hg:Nat->AObj}{nx:Nat}
theorem mi(h:RV w γ A bd x v):Closed x ->
  (∀t b,t<=bd->b<w.heap.size->¬A t b->¬Mut γ b->¬A' t b/\¬Mut γ' b)->RV w γ' A' bd x v:=by
 induction h with
 |bool=>intro _ _;exact .bool _ _
 |int=>intro _ _;exact .int _ _ _
 |str=>intro _ _;exact .str _ _
 | tup _ xs vs hl _ ih =>
  intro hc hs;cases hc with|tup _ hc=>exact .tup _ _ _ hl λi x v h1 h2=>ih i x v h1 h2 (hc x (Qx h1)) hs
 | agg _ xs vs hl h1 _ ih =>
  intro hc hs;cases hc with|agg _ hc=>exact .agg _ _ _ hl h1 λi x v h1 h2=>ih i x v h1 h2 (hc x (Qx h1)) hs
 |nilp=>intro _ _;exact .nilp _
 |nils=>intro _ _;exact .nils _
 |nilf=>intro _ _;exact .nilf _
 |nilm=>intro _ _;exact .nilm _
 |nili=>intro _ _;exact .nili _
 |esl=>intro _ _;exact .esl _ _
 | tsl _ tag sz rows b o cap cell ht hc hb hm ha hr ho hw h hcl ih =>
  intro _ hs;obtain⟨h1,h2⟩:=hs tag b ht hb ha hm;exact .tsl _ tag sz rows b o cap cell ht hc hb h2 h1 hr ho hw
   (λi j row x a c=>ih i j row x a c (hcl row (Qx a) x (Qx c)) λt b hle=>hs t b (QW hle ht)) hcl
 |tnil _ tag sz a cap ht=>intro _ _;exact .tnil _ tag sz a cap ht
 | tptr _ tag sz rows i0 off0 b o cell ht hb hm ha hr ho hw h hcl ih =>
  intro _ hs;obtain⟨h1,h2⟩:=hs tag b ht hb ha hm;exact .tptr _ tag sz rows i0 off0 b o cell ht hb h2 h1 hr ho hw
   (λi j row x a c=>ih i j row x a c (hcl row (Qx a) x (Qx c)) λt b hle=>hs t b (QW hle ht)) hcl
 |hsl=>intro hc;cases hc
 |hptr=>intro hc;cases hc
 | clo _ f xs ys vs us hl hl2 _ _ ih ih2 =>
  intro hc hs;cases hc with
  |clo _ _ _ hc hc2=>exact .clo _ f xs ys vs us hl hl2 (λi x v h1 h2=>ih i x v h1 h2 (hc x (Qx h1)) hs) (λi x v h1 h2=>ih2 i x v h1 h2 (hc2 x (Qx h1)) hs)
 |hmap=>intro hc;cases hc
 |ifc _ t x v _ ih=>intro hc hs;cases hc with|ifc _ _ hc=>exact .ifc _ t x v (ih hc hs)
 |yld=>intro hc;cases hc
theorem yK(h:RV w γ A bd x v)(hx:(∃l sz rows,x=.tsl l sz rows)\/(∃l sz rows i o,x=.tptr l sz rows i o)):Closed x:=by
 rcases hx with⟨l,sz,rows,rfl⟩|⟨l,sz,rows,i,o,rfl⟩
 ·cases h with
  |tsl _ _ _ _ _ _ _ _ _ _ _ _ _ _ _ _ _ hcl=>exact .tsl _ _ _ hcl
  |tnil=>exact .tsl _ _ _ λrow h=>by cases h
 ·cases h with
  |tptr _ _ _ _ _ _ _ _ _ _ _ _ _ _ _ _ _ hcl=>exact .tptr _ _ _ _ _ hcl
theorem GB{h:H}{tag B:Nat}{L:Nat->Prop}(hr:Rel C A bd w γ hg nx)(hx:∀id,L id->h.get id≠.none->hg id=h.get id)(hB:bd<=B)(htB:tag<=B)
  (hs:∀t b,t<=bd->b<w.heap.size->¬A t b->¬Mut γ b->¬A' t b/\¬Mut γ' b)
  (ho:∀id,L id->(∃sz rows ep lo fz,h.get id=.cells sz rows ep lo fz)->(γ id).kind=1->∀t,tag<=t->t<=B->¬A' t (γ id).blk/\¬Mut γ' (γ id).blk) :
  ∀(f:Nat) {x y:AV} {v:Value},snap h tag f x=some y->RV w γ A bd x v->(∀id∈aE h f x,L id)->RV w γ' A' B y v/\Closed y:=by
 intro f
 induction f with
 |zero=>intro x y v h;cases h
 | succ f ih =>
  intro x y v d hv hL;have q:∀{xs ys:List AV} {vs:Array Value},aF (snap h tag f) xs=some ys->(∀id∈xs.flatMap (aE h f),L id)->xs.length=vs.size ->
    (∀(i:Nat) x v,xs[i]?=some x->vs[i]?=some v->RV w γ A bd x v) ->
    ys.length=vs.size/\(∀(i:Nat) x v,ys[i]?=some x->vs[i]?=some v->RV w γ' A' B x v)/\∀y∈ys,Closed y:=by
   intro xs ys vs h1 h2 h3 h4;have M:∀(i:Nat) y,ys[i]?=some y->∃v,vs[i]?=some v/\RV w γ' A' B y v/\Closed y:=by
    intro i y Q;obtain⟨x,a1,a2⟩:=fj h1 i y Q;have hlt:i<vs.size:=by rw[<-h3];exact (Qs.1 a1).1
    have hv:=QO hlt;obtain⟨b1,b2⟩:=ih a2 (h4 i x _ a1 hv) λid n=>h2 id (Sk.2 ⟨x,Qx a1,n⟩);exact⟨_,hv,b1,b2⟩
   refine⟨by rw[ma h1,h3],λi y v Q hv=>?_,λy Q=>?_⟩
   ·obtain⟨v',b1,b2,_⟩:=M i y Q;rw[hv]at b1;injection b1 with b1;subst b1;exact b2
   ·obtain⟨i,hi⟩:=QN Q;obtain⟨_,_,_,b⟩:=M i y hi;exact b
  have F:∀{id sz:Nat} {rows:List (List AV)} {ep:Nat} {lo fz:Bool} {start len:Nat} {rs:List (List AV)} {m:Nat},
    hg id=.cells sz rows ep lo fz->aF (aF (snap h tag f)) ((rows.drop start).take len)=some rs->eM rs=some m ->
    (∀id'∈((rows.drop start).take len).flatMap (·.flatMap (aE h f)),L id')->start+len<=rows.length ->
    rs.length=len/\m<=B/\(∀(i:Nat) row,rs[i]?=some row->row.length=sz) /\
    (∀(i j:Nat) row x,rs[i]?=some row->row[j]?=some x->x.one=true/\∃c,w.cell? (adr (γ id).blk ((γ id).base+start*sz+i*sz+j))=some c/\RV w γ' A' m x c) /\
    (∀row∈rs,∀x∈row,Closed x):=by
   intro id sz rows ep lo fz start len rs m n hm I U N;have r:=hr.obj id;rw[n]at r;have O:rs.length=len:=by rw[ma hm];simp;omega
   have key:∀(i j:Nat) row x,rs[i]?=some row->row[j]?=some x->x.one=true/\∃c,w.cell? (adr (γ id).blk ((γ id).base+start*sz+i*sz+j))=some c/\RV w γ' A' B x c/\Closed x:=by
    intro i j row x hi p;obtain⟨row0,a1,a2⟩:=fj hm i row hi;obtain⟨T,b1,b2⟩:=fj a2 j x p;have W:rows[start+i]?=some row0:=by
     rw[Sr]at a1
     split at a1
     ·rw[Ra]at a1;exact a1
     ·cases a1
    obtain⟨c1,v,u,J⟩:=se hr n W j T b1;obtain⟨d1,d2⟩:=ih b2 J λid' hid'=>U id' (Sk.2 ⟨row0,Qx a1,Sk.2 ⟨T,Qx b1,hid'⟩⟩);refine⟨Dp b2 c1,v,?_,d1,d2⟩;rw[<-u];congr 2;rw[QX];omega
   refine⟨O,?_,?_,?_,?_⟩
   ·refine dZ I λrow E k hk=>dZ hk λx hx k' hk'=>?_;obtain⟨i,hi⟩:=QN E;obtain⟨j,p⟩:=QN hx;obtain⟨_,c,_,hc,_⟩:=key i j row x hi p;exact wY _ hk' hc
   ·intro i row hi;obtain⟨row0,a1,a2⟩:=fj hm i row hi;rw[ma a2];obtain⟨Z,k2,S,k4,k5,k6,c,e,k7,k8,k9,h5⟩:=r;rw[Sr]at a1
    split at a1
    ·rw[Ra]at a1;exact k9 _ _ a1
    ·cases a1
   ·intro i j row x hi p;obtain⟨c1,c,u,J,_⟩:=key i j row x hi p;exact⟨c1,c,u,tC I hi p J⟩
   ·intro row E x hx;obtain⟨i,hi⟩:=QN E;obtain⟨j,p⟩:=QN hx;obtain⟨_,_,_,_,c⟩:=key i j row x hi p;exact c
  cases hv with
  | agg _ xs vs hl h1 h2 =>
   simp only[snap]at d
   split at d
   ·rename_i as z;injection d with d;subst d;obtain⟨a,b,c⟩:=q z (by simpa only[aE] using hL) hl h2;refine⟨.agg _ _ _ a (λi x hi=>?_) b,.agg _ c⟩;obtain⟨T,a1,a2⟩:=fj z i x hi;exact Dp a2 (h1 i T a1)
   ·cases d
  | tup _ xs vs hl h2 =>
   simp only[snap]at d
   split at d
   ·rename_i as z;injection d with d;subst d;obtain⟨a,b,c⟩:=q z (by simpa only[aE] using hL) hl h2;exact⟨.tup _ _ _ a b,.tup _ c⟩
   ·cases d
  | clo _ g xs ys vs us hl hl2 h1 h2 =>
   simp only[snap]at d;simp only[aE]at hL
   split at d
   ·rename_i as cs z V;injection d with d;subst d;obtain⟨a,b,c⟩:=q z (λid n=>hL id (R2 _ n)) hl h1;obtain⟨a',b',c'⟩:=q V (λid n=>hL id (RU _ n)) hl2 h2;exact⟨.clo _ _ _ _ _ _ a a' b b',.clo _ _ _ c c'⟩
   ·cases d
  | ifc _ t x v h1 =>
   simp only[snap]at d
   split at d
   ·rename_i a ha;injection d with d;subst d;obtain⟨a,b⟩:=ih ha h1 (by simpa only[aE] using hL);exact⟨.ifc _ _ _ _ a,.ifc _ _ b⟩
   ·cases d
  | hsl _ id ep off len lim b o cap hk he hc h' =>
   simp only[snap]at d
   split at d
   ·rename_i sz rows ep' lo fz l;rw[aa]at d
    split at d
    ·rename_i D;simp only[Qt,Q6,aq]at D;obtain⟨s,N⟩:=D;have s:=aI s
     split at d
     ·rename_i rs G
      split at d
      ·rename_i m hm;injection d with d;subst d;have n:hg id=.cells sz rows ep' lo fz:=by rw[hx id (hL id (by simp[aE])) (by rw[l];simp),l]
       have r:=hr.obj id;rw[n]at r;obtain⟨Z,k2,S,k4,_⟩:=r;obtain⟨e1,e2,e3⟩:=h' (s.trans k2.symm);subst e1;subst e2;simp only[aE,l]at hL;simp only[be,bc]at G hL;obtain⟨X,R,Y,K,r5⟩:=F n G hm (λid' hid'=>hL id' (Q9 _ hid')) N;obtain⟨o1,o2⟩:=ho id (hL id Rv) ⟨_,_,_,_,_,l⟩ hk (Nat.max tag m) (RO _ _) (Tj.2 ⟨htB,R⟩);refine⟨?_,.tsl _ _ _ r5⟩;rw[<-X];rw[S];refine .tsl _ (Nat.max tag m) sz rs (γ id).blk ((γ id).base+off*sz) cap (λi j=>(w.cell? (adr (γ id).blk ((γ id).base+off*sz+i*sz+j))).getD undef) (Tj.2 ⟨htB,R⟩) (by rw[X];exact hc)
        (hr.lt id (by rw[hk];decide)).2 o2 o1 Y (λi j row x hi p=>(K i j row x hi p).1) (λi j row x hi p=>?_) (λi j row x hi p=>?_) r5
       ·obtain⟨_,c,u,_⟩:=K i j row x hi p;simp only[u,Qz]
       ·obtain⟨_,c,u,J⟩:=K i j row x hi p;simp only[u,Qz];exact J.mono (R5 _ _)
      ·cases d
     ·cases d
    ·cases d
   ·cases d
  | hptr _ id ep i off b o hk he h' =>
   simp only[snap]at d
   split at d
   ·rename_i sz rows ep' lo fz l;rw[aa]at d
    split at d
    ·rename_i s;have s:=aI s
     split at d
     ·rename_i rs G
      split at d
      ·rename_i m hm;injection d with d;subst d;have n:hg id=.cells sz rows ep' lo fz:=by rw[hx id (hL id (by simp[aE])) (by rw[l];simp),l]
       have r:=hr.obj id;rw[n]at r;obtain⟨Z,k2,S,k4,_⟩:=r;obtain⟨e1,e2⟩:=h' (s.trans k2.symm);subst e1;subst e2;simp only[aE,l]at hL;have P:aF (aF (snap h tag f)) ((rows.drop 0).take rows.length)=some rs:=by simpa using G
       obtain⟨X,R,Y,K,r5⟩:=F n P hm (λid' hid'=>hL id' (Q9 _ (by simpa using hid'))) (by omega);obtain⟨o1,o2⟩:=ho id (hL id Rv) ⟨_,_,_,_,_,l⟩ hk (Nat.max tag m) (RO _ _) (Tj.2 ⟨htB,R⟩);refine⟨?_,.tptr _ _ _ _ _ r5⟩;rw[S];refine .tptr _ (Nat.max tag m) sz rs i off (γ id).blk (γ id).base (λi j=>(w.cell? (adr (γ id).blk ((γ id).base+i*sz+j))).getD undef) (Tj.2 ⟨htB,R⟩)
        (hr.lt id (by rw[hk];decide)).2 o2 o1 Y (λi j row x hi p=>(K i j row x hi p).1) (λi j row x hi p=>?_) (λi j row x hi p=>?_) r5
       ·obtain⟨_,c,u,_⟩:=K i j row x hi p;simp only[To,RY]at u;simp only[u,Qz]
       ·obtain⟨_,c,u,J⟩:=K i j row x hi p;simp only[To,RY]at u;simp only[u,Qz];exact J.mono (R5 _ _)
      ·cases d
     ·cases d
    ·cases d
   ·cases d
  |hmap=>cases d
  |yld=>cases d
  | tsl _ tag' sz rows b o cap cell ht hc hb hm ha hrl ho' hw hcell hcl =>
   simp only[snap]at d;injection d with d;subst d;exact⟨(mi (.tsl _ tag' sz rows b o cap cell ht hc hb hm ha hrl ho' hw hcell hcl) (.tsl _ _ _ hcl) hs).mono hB,.tsl _ _ _ hcl⟩
  |tnil _ tag' sz a cap ht=>simp only[snap]at d;injection d with d;subst d;exact⟨.tnil _ tag' sz a cap (QW ht hB),.tsl _ _ _ λrow h=>by cases h⟩
  | tptr _ tag' sz rows i0 off0 b o cell ht hb hm ha hrl ho' hw hcell hcl =>
   simp only[snap]at d;injection d with d;subst d;exact⟨(mi (.tptr _ tag' sz rows i0 off0 b o cell ht hb hm ha hrl ho' hw hcell hcl) (.tptr _ _ _ _ _ hcl) hs).mono hB,.tptr _ _ _ _ _ hcl⟩
  |bool=>simp only[snap]at d;injection d with d;subst d;exact⟨.bool _ _,.bool _⟩
  |int=>simp only[snap]at d;injection d with d;subst d;exact⟨.int _ _ _,.int _ _⟩
  |str=>simp only[snap]at d;injection d with d;subst d;exact⟨.str _ _,.str _⟩
  |nilp=>simp only[snap]at d;injection d with d;subst d;exact⟨.nilp _,.nilp⟩
  |nils=>simp only[snap]at d;injection d with d;subst d;exact⟨.nils _,.nils⟩
  |nilf=>simp only[snap]at d;injection d with d;subst d;exact⟨.nilf _,.nilf⟩
  |nilm=>simp only[snap]at d;injection d with d;subst d;exact⟨.nilm _,.nilm⟩
  |nili=>simp only[snap]at d;injection d with d;subst d;exact⟨.nili _,.nili⟩
  |esl _ a=>simp only[snap]at d;injection d with d;subst d;exact⟨.esl _ a,.esl⟩
theorem At:∀{f:Nat} {x y:AV},dk d f x=some y->x.one=true->y.one=true:=by
 intro f x y hs hx;cases f with
 |zero=>cases hs
 | succ f =>
  cases x<;>simp only[dk,aa]at hs<;>first| (cases hx;done)|skip
  all_goals first| (injection hs with hs;subst hs;rfl)|skip
  all_goals
   repeat (split at hs)
   all_goals first| (cases hs;done)| (injection hs with hs;subst hs;rfl)
theorem KJ(hA:∀t b,t<d->¬A t b->¬A' t b)(hd:∀b,¬A d b->∀t,¬A' t b) :
  ∀(f:Nat) {x y:AV} {v:Value},dk d f x=some y->RV w γ A d x v->Closed x->RV w γ A' d y v/\Closed y:=by
 intro f
 induction f with
 |zero=>intro x y v h;cases h
 | succ f ih =>
  intro x y v l hv n;have q:∀{xs ys:List AV} {vs:Array Value},aF (dk d f) xs=some ys->xs.length=vs.size->(∀x∈xs,Closed x) ->
    (∀(i:Nat) x v,xs[i]?=some x->vs[i]?=some v->RV w γ A d x v) ->
    ys.length=vs.size/\(∀(i:Nat) x v,ys[i]?=some x->vs[i]?=some v->RV w γ A' d x v)/\∀y∈ys,Closed y:=by
   intro xs ys vs h1 h3 hc h4;have H:∀(i:Nat) y,ys[i]?=some y->∃v,vs[i]?=some v/\RV w γ A' d y v/\Closed y:=by
    intro i y I;obtain⟨x,a1,a2⟩:=fj h1 i y I;have hlt:i<vs.size:=by rw[<-h3];exact (Qs.1 a1).1
    have hv:=QO hlt;obtain⟨b1,b2⟩:=ih a2 (h4 i x _ a1 hv) (hc x (Qx a1));exact⟨_,hv,b1,b2⟩
   refine⟨by rw[ma h1,h3],λi y v I hv=>?_,λy I=>?_⟩
   ·obtain⟨v',b1,b2,_⟩:=H i y I;rw[hv]at b1;injection b1 with b1;subst b1;exact b2
   ·obtain⟨i,hi⟩:=QN I;obtain⟨_,_,_,b⟩:=H i y hi;exact b
  have z:∀{sz:Nat} {rows rs:List (List AV)} {m:Nat} {cell:Nat->Nat->Value},aF (aF (dk d f)) rows=some rs->eM rs=some m ->
    (∀(i:Nat) row,rows[i]?=some row->row.length=sz) ->
    (∀(i j:Nat) row x,rows[i]?=some row->row[j]?=some x->x.one=true) ->
    (∀(i j:Nat) row x,rows[i]?=some row->row[j]?=some x->RV w γ A d x (cell i j)) ->
    (∀row∈rows,∀x∈row,Closed x) ->
    rs.length=rows.length/\m<=d/\(∀(i:Nat) row,rs[i]?=some row->row.length=sz) /\
    (∀(i j:Nat) row x,rs[i]?=some row->row[j]?=some x->x.one=true/\(∃row0 r,rows[i]?=some row0/\row0[j]?=some r)/\RV w γ A' m x (cell i j)) /\
    (∀row∈rs,∀x∈row,Closed x):=by
   intro sz rows rs m cell h1 h2 h3 h4 h5 h6;have key:∀(i j:Nat) row x,rs[i]?=some row->row[j]?=some x->x.one=true/\(∃row0 r,rows[i]?=some row0/\row0[j]?=some r)/\RV w γ A' d x (cell i j)/\Closed x:=by intro i j row x hi B;obtain⟨row0,a1,a2⟩:=fj h1 i row hi;obtain⟨r,b1,b2⟩:=fj a2 j x B;obtain⟨c1,D⟩:=ih b2 (h5 i j row0 r a1 b1) (h6 row0 (Qx a1) r (Qx b1));exact⟨At b2 (h4 i j row0 r a1 b1),⟨row0,r,a1,b1⟩,c1,D⟩
   refine⟨ma h1,?_,?_,?_,?_⟩
   ·refine dZ h2 λrow u k hk=>dZ hk λx hx k' hk'=>?_;obtain⟨i,hi⟩:=QN u;obtain⟨j,B⟩:=QN hx;obtain⟨_,_,hc,_⟩:=key i j row x hi B;exact wY _ hk' hc
   ·intro i row hi;obtain⟨row0,a1,a2⟩:=fj h1 i row hi;rw[ma a2];exact h3 i row0 a1
   ·intro i j row x hi B;obtain⟨c1,D,N,_⟩:=key i j row x hi B;exact⟨c1,D,tC h2 hi B N⟩
   ·intro row u x hx;obtain⟨i,hi⟩:=QN u;obtain⟨j,B⟩:=QN hx;obtain⟨_,_,_,c⟩:=key i j row x hi B;exact c
  have C:∀{t:Nat},t<=d->t≠d->∀t' b,t'<=t->b<w.heap.size->¬A t' b->¬Mut γ b->¬A' t' b/\¬Mut γ b :=
   λh1 h2 t' b h3 _ h4 h5=>⟨hA t' b (by omega) h4,h5⟩
  cases hv with
  | agg _ xs vs hl h1 h2 =>
   simp only[dk]at l
   split at l
   ·rename_i as s;injection l with l;subst l;cases n with
    | agg _ n =>
     obtain⟨a,b,c⟩:=q s hl n h2;refine⟨.agg _ _ _ a (λi x hi=>?_) b,.agg _ c⟩;obtain⟨r,a1,a2⟩:=fj s i x hi;exact At a2 (h1 i r a1)
   ·cases l
  | tup _ xs vs hl h2 =>
   simp only[dk]at l
   split at l
   ·rename_i as s;injection l with l;subst l;cases n with
    | tup _ n =>
     obtain⟨a,b,c⟩:=q s hl n h2;exact⟨.tup _ _ _ a b,.tup _ c⟩
   ·cases l
  | clo _ g xs ys vs us hl hl2 h1 h2 =>
   simp only[dk]at l
   split at l
   ·rename_i as cs s J;injection l with l;subst l;cases n with
    | clo _ _ _ n hcx2 =>
     obtain⟨a,b,c⟩:=q s hl n h1;obtain⟨a',b',c'⟩:=q J hl2 hcx2 h2;exact⟨.clo _ _ _ _ _ _ a a' b b',.clo _ _ _ c c'⟩
   ·cases l
  | ifc _ t x v h1 =>
   simp only[dk]at l
   split at l
   ·rename_i a ha;injection l with l;subst l;cases n with
    | ifc _ _ n =>
     obtain⟨a,b⟩:=ih ha h1 n;exact⟨.ifc _ _ _ _ a,.ifc _ _ b⟩
   ·cases l
  | tsl _ t sz rows b o cap cell ht hc hb hm ha hrl ho' hw hcell hcl =>
   simp only[dk,aa]at l
   split at l
   ·rename_i p;have p:=aI p
    split at l
    ·rename_i rs F
     split at l
     ·rename_i m E;injection l with l;subst l;obtain⟨K,L,M,G,r5⟩:=z (cell:=cell) F E hrl ho' (λi j row x a b=>(hcell i j row x a b).mono ht) hcl;refine⟨?_,.tsl _ _ _ r5⟩;rw[<-K];refine .tsl _ m sz rs b o cap cell L (by rw[K];exact hc) hb hm (hd b (p ▸ ha) m) M (λi j row x a b=>(G i j row x a b).1) (λi j row x a b=>?_) (λi j row x a b=>(G i j row x a b).2.2) r5;obtain⟨_,⟨row0,r,c1,D⟩,_⟩:=G i j row x a b;exact hw i j row0 r c1 D
     ·cases l
    ·cases l
   ·rename_i p;injection l with l;subst l;have p:t≠d:=λe=>p (by rw[e];exact Q2 d);exact⟨.tsl _ t sz rows b o cap cell ht hc hb hm (hA t b (by omega) ha) hrl ho' hw (λi j row x a c=>mi (hcell i j row x a c) (hcl row (Qx a) x (Qx c)) (C ht p)) hcl,.tsl _ _ _ hcl⟩
  | tnil _ t sz a cap ht =>
   simp only[dk,aa]at l
   split at l
   ·simp only[aF,eM,ge]at l;injection l with l;subst l;exact⟨.tnil _ _ sz a cap (Q_ _),.tsl _ _ _ λrow h=>by cases h⟩
   ·injection l with l;subst l;exact⟨.tnil _ t sz a cap ht,.tsl _ _ _ λrow h=>by cases h⟩
  | tptr _ t sz rows i0 off0 b o cell ht hb hm ha hrl ho' hw hcell hcl =>
   simp only[dk,aa]at l
   split at l
   ·rename_i p;have p:=aI p
    split at l
    ·rename_i rs F
     split at l
     ·rename_i m E;injection l with l;subst l;obtain⟨K,L,M,G,r5⟩:=z (cell:=cell) F E hrl ho' (λi j row x a b=>(hcell i j row x a b).mono ht) hcl;refine⟨?_,.tptr _ _ _ _ _ r5⟩;refine .tptr _ m sz rs i0 off0 b o cell L hb hm (hd b (p ▸ ha) m) M (λi j row x a b=>(G i j row x a b).1) (λi j row x a b=>?_) (λi j row x a b=>(G i j row x a b).2.2) r5;obtain⟨_,⟨row0,r,c1,D⟩,_⟩:=G i j row x a b;exact hw i j row0 r c1 D
     ·cases l
    ·cases l
   ·rename_i p;injection l with l;subst l;have p:t≠d:=λe=>p (by rw[e];exact Q2 d);exact⟨.tptr _ t sz rows i0 off0 b o cell ht hb hm (hA t b (by omega) ha) hrl ho' hw (λi j row x a c=>mi (hcell i j row x a c) (hcl row (Qx a) x (Qx c)) (C ht p)) hcl,.tptr _ _ _ _ _ hcl⟩
  |bool=>simp only[dk]at l;injection l with l;subst l;exact⟨.bool _ _,.bool _⟩
  |int=>simp only[dk]at l;injection l with l;subst l;exact⟨.int _ _ _,.int _ _⟩
  |str=>simp only[dk]at l;injection l with l;subst l;exact⟨.str _ _,.str _⟩
  |nilp=>simp only[dk]at l;injection l with l;subst l;exact⟨.nilp _,.nilp⟩
  |nils=>simp only[dk]at l;injection l with l;subst l;exact⟨.nils _,.nils⟩
  |nilf=>simp only[dk]at l;injection l with l;subst l;exact⟨.nilf _,.nilf⟩
  |nilm=>simp only[dk]at l;injection l with l;subst l;exact⟨.nilm _,.nilm⟩
  |nili=>simp only[dk]at l;injection l with l;subst l;exact⟨.nili _,.nili⟩
  |esl _ a=>simp only[dk]at l;injection l with l;subst l;exact⟨.esl _ a,.esl⟩
  |hsl=>cases n
  |hptr=>cases n
  |hmap=>cases n
  |yld=>cases n
theorem Dw(s1:w.heap.size<=w'.heap.size)(s2:w'.os=w.os)(s3:w'.tape=w.tape)(s4:w'.output=w.output)(s5:w.drawn<=w'.drawn)
  (hb:∀b,b<w.heap.size->w'.heap[b]?=w.heap[b]?):Stp w γ w' γ :=
 ⟨s1,s2,s3,s4,λb h _=>hb b h,λ_ _ h=>h,λ_ _=>.inl ⟨rfl,rfl⟩,λ_ _=>⟨Qq _,λ_=>⟨rfl,rfl,rfl,rfl,rfl⟩⟩,s5⟩
theorem Rel.same(hr:Rel C A bd w γ hg nx)(s:Stp w γ w' γ)(hb:∀b,b<w.heap.size->w'.heap[b]?=w.heap[b]?):Rel C A bd w' γ hg nx where
 obj id:=(hr.obj id).step s rfl λhk _=>hb _ (hr.lt id hk).2
 lt id hk:=⟨(hr.lt id hk).1,QR (hr.lt id hk).2 s.sz⟩
 inj:=hr.inj
 av:=hr.av
 ab t b h:=QR (hr.ab t b h) s.sz
 glob g sz rows h:=(hr.glob g sz rows h).step s
structure Fin (C:Cfg) (A:Nat->Nat->Prop) (bd:Nat) (w:World) (γ:Gm) (hg:Nat->AObj) (nx:Nat) (g:G) (w':World) (γ':Gm) (hg':Nat->AObj) (g':G):Prop where
 rel:Rel C A bd w' γ' hg' (Nat.max nx g'.nx)
 stp:Stp w γ w' γ'
 new:∃new,g'.lg=new++g.lg/\(∀id∈new,hg' id=g'.h.get id)/\∀id,id ∉ new->hg' id=hg id
structure Mon (g g':G):Prop where
 nx:g.nx<=g'.nx
 new:∃new,g'.lg=new++g.lg/\(∀id,id ∉ new->g'.h.get id=g.h.get id)/\∀id∈new,id<g'.nx/\(g.h.get id=.none->g.nx<=id)
 wf:(∀id,g.nx<=id->g.h.get id=.none)->∀id,g'.nx<=id->g'.h.get id=.none
def WF(g:G):Prop:=∀id,g.nx<=id->g.h.get id=.none
theorem Mon.refl(g:G):Mon g g:=⟨Qq _,⟨[],rfl,λ_ _=>rfl,λ_ h=>by cases h⟩,λh=>h⟩
theorem Mon.trans(h1:Mon g g1)(h2:Mon g1 g2):Mon g g2:=by
 obtain⟨n1,a1,b1,c1⟩:=h1.new;obtain⟨n2,a2,b2,k⟩:=h2.new;refine⟨QW h1.nx h2.nx,⟨n2++n1,by rw[a2,a1,Rj],λid hid=>?_,λid hid=>?_⟩,λh=>h2.wf (h1.wf h)⟩
 ·rw[b2 id λh=>hid (R2 _ h),b1 id λh=>hid (RU _ h)]
 ·by_cases hin:id∈n1
  ·exact⟨QR (c1 id hin).1 h2.nx,(c1 id hin).2⟩
  ·rcases Q7.1 hid with h|h
   ·exact⟨(k id h).1,λhn=>QW h1.nx ((k id h).2 (by rw[b1 id hin];exact hn))⟩
   ·exact absurd h hin
def Free(γ:Gm)(g g':G):Prop:=∀id,g.nx<=id->id<=g'.nx->(γ id).kind=0
theorem Fin.refl{g:G}(hr:Rel C A bd w γ hg nx):Fin C A bd w γ hg nx g w γ hg g :=
 ⟨hr.up (RO _ _),Stp.refl _ _,⟨[],rfl,λ_ h=>absurd h QH,λ_ _=>rfl⟩⟩
theorem Rel.none_iff(hr:Rel C A bd w γ hg nx)(id:Nat):(γ id).kind=0↔hg id=.none:=by
 have h:=hr.obj id;constructor
 ·intro hk;cases ho:hg id with
  |none=>rfl
  |_=>rw[ho]at h;have:=h.1;omega
 ·intro k;rw[k]at h;exact h
theorem Fin.freed{w1:World}{γ1:Gm}{hg1:Nat->AObj}(h1:Fin C A bd w γ hg nx g w1 γ1 hg1 g1)(hr:Rel C A bd w γ hg nx)(m1:Mon g g1)(hf:Free γ g g2):Free γ1 g1 g2:=by
 obtain⟨n,a,b,c⟩:=h1.new;obtain⟨n',a',b',c'⟩:=m1.new;have e:n'=n:=SW (a'.symm.trans a);subst e;intro id h2 h3;have k:id ∉ n':=λh=>by have:=(c' id h).1;omega
 rw[h1.rel.none_iff,c id k,<-hr.none_iff];exact hf id (QW m1.nx h2) h3
theorem Free.le{γ:Gm}(h:Free γ g g2)(hle:g1.nx<=g2.nx):Free γ g g1:=λid h1 h2=>h id h1 (QW h2 hle)
theorem Fin.ext{g':G}{hg':Nat->AObj}(h:Fin C A bd w γ hg nx g w' γ' hg' g')(m:Mon g g')(hx:Ext g.h hg):Ext g'.h hg':=by
 obtain⟨n,a,b,c⟩:=h.new;obtain⟨n',a',b',_⟩:=m.new;have e:n'=n:=SW (a'.symm.trans a);subst e;intro id k
 by_cases hin:id∈n'
 ·exact b id hin
 ·rw[c id hin,b' id hin];exact hx id (by rw[<-b' id hin];exact k)
theorem Fin.trans{g g1 g2:G}{w1 w2:World}{γ1 γ2:Gm}{hg1 hg2:Nat->AObj}(h1:Fin C A bd w γ hg nx g w1 γ1 hg1 g1)
  (h2:Fin C A bd w1 γ1 hg1 (Nat.max nx g1.nx) g1 w2 γ2 hg2 g2) (m1:Mon g g1) (m2:Mon g1 g2):Fin C A bd w γ hg nx g w2 γ2 hg2 g2:=by
 obtain⟨n1,a1,b1,c1⟩:=h1.new;obtain⟨n2,a2,b2,k⟩:=h2.new;obtain⟨n',a',b',_⟩:=m2.new;have e:n'=n2:=SW (a'.symm.trans a2);subst e;refine⟨?_,h1.stp.trans h2.stp,⟨n'++n1,by rw[a2,a1,Rj],λid hid=>?_,λid hid=>?_⟩⟩
 ·refine h2.rel.up (Tj.2 ⟨Tj.2 ⟨RO _ _,QW m2.nx (R5 _ _)⟩,R5 _ _⟩)
 ·by_cases hin:id∈n'
  ·exact b2 id hin
  ·rw[k id hin,b' id hin];rcases Q7.1 hid with h|h
   ·exact absurd h hin
   ·exact b1 id h
 ·rw[k id λh=>hid (R2 _ h),c1 id λh=>hid (RU _ h)]
def nH(K:CallKind)(cs:List Frame):Prop:=K=.normal\/(K=.deferred/\∃c cs',cs=c::cs'/\(c.mode=.returning\/∃v x older,c.mode=.panicking ({ v,recovered:=true,goexit:=x }::older)))
def Outs(P:Program)(K:CallKind)(f:FuncId)(vs:Array Value)(cs:List Frame)(w:World)(u:Value)(w':World):Prop :=
 ∃fr,Steps P (lone (Frame.enter P f vs K) cs w) (lone fr cs w')/\fr.mode=.returning/\fr.defers=[]/\fr.kind=K/\fr.fn=f /\
  ∃fn,P.funcs[f]?=some fn/\(results fn fr.tmps).run P w'=.ok u w'
def Enters(P:Program)(f:FuncId):Prop:=∀args w,(callFunc f args).run P w=.ok (.enter f args) w
def wz(C:Cfg)(bd:Nat)(f:FuncId)(as:List AV)(g:G)(v:AV)(g':G):Prop :=
 ∀A w γ hg nx vs,Rel C A bd w γ hg nx->Ext g.h hg->WF g->Free γ g g'->RVs w γ A bd as vs->∀K cs,nH K cs ->
  ∃u w' γ' hg',Fin C A bd w γ hg nx g w' γ' hg' g'/\RV w' γ' A bd v u/\Outs C.P K f vs.toArray cs w u w'
def Ay(C:Cfg)(ih:IH):Prop :=
 ∀bd f as g v g',ih.call (bd+1) f as g=.ok v g'->Enters C.P f/\wz C bd f as g v g'
def wy(ih:IH):Prop:=∀d f as g v g',ih.call d f as g=.ok v g'->WF g->Mon g g'
theorem zg:∀(ids:List Nat) (g:G),WF g->Mon g (cp g ids):=by
 intro ids
 induction ids with
 |nil=>intro g _;exact Mon.refl g
 | cons i is ih =>
  intro g a;simp only[cp]
  split
  ·rename_i sz rows ep lo fz k;have hi:i<g.nx:=Nat.lt_of_not_le λh=>by have:=a i h;rw[<-G.get_eq,k]at this;cases this
   refine Mon.trans ⟨by simp,⟨[i],by simp,λid hid=>?_,λid hid=>?_⟩,λh id hid=>?_⟩ (ih _ λid hid=>?_)
   ·simp only[G.put_h,OE];rw[Qu];simpa using hid
   ·simp at hid;subst hid;exact⟨by simpa using hi,λhn=>by rw[<-G.get_eq,k]at hn;cases hn⟩
   ·simp only[G.put_nx]at hid;simp only[G.put_h,OE];rw[Qu (by omega)];exact h id hid
   ·simp only[G.put_nx]at hid;simp only[G.put_h,OE];rw[Qu (by omega)];exact a id hid
  ·exact ih g a
theorem zh:∀(ids:List Nat) (g:G) (γ:Gm) (hg:Nat->AObj),Rel C A bd w γ hg nx->(∀id∈ids,g.h.get id≠.none->hg id=g.h.get id) ->
  ∃γ₁ hg₁,Rel C A bd w γ₁ hg₁ nx/\Stp w γ w γ₁/\(cp g ids).nx=g.nx /\
   (∃new,(cp g ids).lg=new++g.lg/\(∀id∈new,hg₁ id=(cp g ids).h.get id)/\(∀id,id ∉ new->hg₁ id=hg id)) /\
   (∀id,(γ₁ id).kind=(γ id).kind/\(γ₁ id).blk=(γ id).blk/\((γ₁ id).wr=true->(γ id).wr=true)) /\
   (∀id∈ids,(∃sz rows ep lo fz,g.h.get id=.cells sz rows ep lo fz)->(γ₁ id).wr=false):=by
 intro ids
 induction ids with
 | nil =>
  intro g γ hg hr hx;exact⟨γ,hg,hr,Stp.refl _ _,rfl,⟨[],rfl,λ_ h=>absurd h QH,λ_ _=>rfl⟩,λ_=>⟨rfl,rfl,λh=>h⟩,λ_ h=>by cases h⟩
 | cons i is ih =>
  intro g γ hg hr hx;simp only[cp]
  split
  ·rename_i sz rows ep lo fz j;have d:g.h.get i=.cells sz rows ep lo fz:=by simpa using j
   have m:hg i=.cells sz rows ep lo fz:=by rw[hx i Rv (by rw[d];simp),d]
   obtain⟨γ₀,r0,s,e0,t⟩:=hr.freeze m;have n:∀id∈is,(g.put i (.cells sz rows ep lo true)).h.get id≠.none->upd hg i (.cells sz rows ep lo true) id=(g.put i (.cells sz rows ep lo true)).h.get id:=by
    intro id hin f;simp only[G.put_h,OE]at f ⊢;unfold upd
    by_cases hi:id=i
    ·simp[hi]
    ·simp only[hi,if_false]at f ⊢;exact hx id (Q9 _ hin) f
   obtain⟨γ₁,hg₁,o,p,n1,⟨new,l1,l2,q⟩,f1,f2⟩:=ih _ γ₀ _ r0 n;refine⟨γ₁,hg₁,o,s.trans p,by rw[n1];simp,⟨new++[i],by rw[l1];simp,λid hid'=>?_,λid hid'=>?_⟩,λid=>?_,λid hid' hc=>?_⟩
   ·by_cases hin:id∈new
    ·exact l2 id hin
    ·have hi:id=i:=by
      rcases Q7.1 hid' with h|h
      ·exact absurd h hin
      ·simpa using h
     subst hi;rw[q id hin];simp only[upd_same]
     by_cases hwf:∃new',(cp (g.put id (.cells sz rows ep lo true)) is).lg=new'++(g.put id (.cells sz rows ep lo true)).lg/\∀k,k ∉ new'->(cp (g.put id (.cells sz rows ep lo true)) is).h.get k=(g.put id (.cells sz rows ep lo true)).h.get k
     ·obtain⟨new',r,q2⟩:=hwf;have e:new'=new:=SW (r.symm.trans l1);rw[q2 id (e ▸ hin)];simp[OE]
     ·exact absurd (freezeIds_log is _) hwf
   ·rw[q id λh=>hid' (R2 _ h)];exact cP _ _ (by rintro rfl;exact hid' (RU _ Rv))
   ·obtain⟨a,b,c⟩:=f1 id;rw[e0]at a b c;unfold upd at a b c
    by_cases hi:id=i
    ·subst hi;simp at a b c;exact⟨a,b,λh=>by rw[c]at h;cases h⟩
    ·simp only[hi,if_false]at a b c;exact⟨a,b,c⟩
   ·rcases Rh.1 hid' with rfl|hin
    ·have:=(f1 id).2.2;rw[e0]at this;simp at this;simpa using this
    ·by_cases hi:id=i
     ·subst hi;have:=(f1 id).2.2;rw[e0]at this;simp at this;simpa using this
     ·refine f2 id hin ?_;simp only[G.put_h,OE,hi,if_false];exact hc
  ·rename_i f;obtain⟨γ₁,hg₁,o,p,n1,l,f1,f2⟩:=ih g γ hg hr λid hin=>hx id (Q9 _ hin);refine⟨γ₁,hg₁,o,p,n1,l,f1,λid hid' hc=>?_⟩;rcases Rh.1 hid' with rfl|hin
   ·obtain⟨sz,rows,ep,lo,fz,hc⟩:=hc;exact absurd (by simpa using hc) (f sz rows ep lo fz)
   ·exact f2 id hin hc where
 freezeIds_log:∀(ids:List Nat) (g:G),∃new',(cp g ids).lg=new'++g.lg/\∀k,k ∉ new'->(cp g ids).h.get k=g.h.get k:=by
  intro ids
  induction ids with
  |nil=>intro g;exact⟨[],rfl,λ_ _=>rfl⟩
  | cons i is ih =>
   intro g;simp only[cp]
   split
   ·rename_i sz rows ep lo fz j;obtain⟨new,a,b⟩:=ih (g.put i (.cells sz rows ep lo true));refine⟨new++[i],by rw[a];simp,λk hk=>?_⟩;rw[b k λh=>hk (R2 _ h)];simp only[G.put_h,OE];rw[Qu];rintro rfl;exact hk (RU _ Rv)
   ·exact ih g
def gOf(g:G):OR->G
 |.upd _ g'=>g'
 |_=>g
def vOf:OR->AV
 |.upd v _=>v
 |.val v=>v
 |_=>.undef
theorem rx{ih:IH}{f:Nat}{args:List AV}(hwf:WF g):Mon g (gOf g (ap ih d g f args)):=by
 unfold ap
 split
 ·exact Mon.refl g
 split
 ·exact Mon.refl g
 split
 ·exact Mon.refl g
 split
 ·exact Mon.refl g
 rw[aa]
 split
 ·exact Mon.refl g
 split
 ·exact Mon.refl g
 split
 ·exact Mon.refl g
 rw[aa]
 split
 ·exact zg _ _ hwf
 ·exact Mon.refl g
theorem rA{ih:IH}{f:Nat}{args:List AV}{vs:List Value}(hc:Ay C ih)(hm:wy ih)(hr:Rel C A bd w γ hg nx)
  (hx:∀id∈args.flatMap (aE g.h aD),g.h.get id≠.none->hg id=g.h.get id)
  (hv:RVs w γ A bd args vs) (hne:ap ih (bd+1) g f args≠.fail) (cs:List Frame) :
  Enters C.P f/\∃u w' γ' hg',Fin C A bd w γ hg nx g w' γ' hg' (gOf g (ap ih (bd+1) g f args))/\RV w' γ' A bd (vOf (ap ih (bd+1) g f args)) u /\
   Outs C.P .normal f vs.toArray cs w u w':=by
 let γc:Gm:=λ_=>⟨0,0,0,0,0,0,0,false⟩
 let L:Nat->Prop:=λid=>id∈args.flatMap (aE g.h aD)
 let isC:Nat->Prop:=λid=>∃sz rows ep lo fz,g.h.get id=.cells sz rows ep lo fz
 let Ac:Nat->Nat->Prop:=λt b=>(t<=bd/\(A t b\/Mut γ b))\/(t=bd+1/\b<w.heap.size/\¬∃id,L id/\isC id/\(γ id).kind=1/\(γ id).blk=b)
 have e:∀b,¬Mut γc b:=by rintro b ⟨id,h,_⟩;exact h rfl
 generalize hres:ap ih (bd+1) g f args=res at *;unfold ap at hres
 split at hres
 ·exact absurd hres.symm hne
 rename_i as F;have l:∀t b,t<=bd->b<w.heap.size->¬A t b->¬Mut γ b->¬Ac t b/\¬Mut γc b:=by
  intro t b h1 _ h2 h3;refine⟨?_,e b⟩;rintro (⟨_,h|h⟩|⟨h,_⟩)
  ·exact h2 h
  ·exact h3 h
  ·omega
 have z:RVs w γc Ac (bd+1) as vs:=by
  refine⟨by rw[ma F];exact hv.1,λi y v hy hvi=>?_⟩;obtain⟨x,h1,h2⟩:=fj F i y hy;refine (GB (L:=L) hr hx (Nat.le_succ _) (Qq _) l ?_ aD h2 (hv.2 i x v h1 hvi) λid hid=>Sk.2 ⟨x,Qx h1,hid⟩).1;intro id hL B hk t h3 h4;have ht:t=bd+1:=Nat.le_antisymm h4 h3;refine⟨?_,e _⟩;rintro (⟨h,_⟩|⟨_,_,h⟩)
  ·omega
  ·exact h ⟨id,hL,B,hk,rfl⟩
 have T:Rel C Ac (bd+1) w γc (λ_=>.none) 0:=by
  refine⟨λid=>rfl,λid h=>absurd rfl h,λi j h=>absurd rfl h,λid h=>absurd rfl h,?_,λgl sz rows h=>?_⟩
  ·rintro t b (⟨_,h|⟨id,h1,h2,h3⟩⟩|⟨_,h,_⟩)
   ·exact hr.ab t b h
   ·rw[<-h3];exact (hr.lt id h1).2
   ·exact h
  ·have:=hr.glob gl sz rows h;exact (mi this (yK this (.inr ⟨_,_,_,_,_,rfl⟩)) l).mono (Nat.le_succ _)
 split at hres
 ·exact absurd hres.symm hne
 rename_i r g' n;have a:G.empty.h.get=λ_=>AObj.none:=by funext id;simp[G.empty,H.get,OI]
 obtain⟨I,N⟩:=hc (bd+1) f as G.empty r g' n;refine⟨I,?_⟩;obtain⟨u,w',γ',hg',k,U,s⟩:=N Ac w γc (λ_=>.none) 0 vs T (λid h=>by rw[a]at h;exact absurd rfl h) (λid _=>by rw[a])
  (λ_ _ _=>rfl) z .normal cs (.inl rfl)
 have D:Ext g'.h hg':=k.ext (hm _ _ _ _ _ _ n (λid _=>by rw[a])) (λid h=>by rw[a]at h;exact absurd rfl h);have o:∀b,b<w.heap.size->w'.heap[b]?=w.heap[b]?:=λb hb=>k.stp.fr b hb (e b);have p:Stp w γ w' γ:=Dw k.stp.sz k.stp.os k.stp.tape k.stp.output k.stp.dr o;have O:Rel C A bd w' γ hg nx:=hr.same p o
 split at hres
 ·exact absurd hres.symm hne
 rename_i r' E;obtain⟨K,hcl⟩:=GB (A':=Ac) (γ':=γc) (L:=λ_=>True) k.rel (λid _=>D id) (Qq _) (Q_ _) (λt b _ _ h _=>⟨h,e b⟩)
  (λid _ _ hk t _ _=>⟨k.rel.av id (by rw[hk];decide) t,e _⟩) aD E U λ_ _=>trivial
 split at hres
 ·exact absurd hres.symm hne
 rename_i m hm;have M:=Bw _ hm K;rw[aa]at hres
 split at hres
 ·rename_i hlt;rw[Rr]at hlt;subst hres;refine⟨u,w',γ,hg,⟨O.up (RO _ _),p,⟨[],rfl,λ_ h=>absurd h QH,λ_ _=>rfl⟩⟩,?_,s⟩;refine (mi M hcl λt b h1 h2 h3 h4=>⟨λh=>h3 (.inl ⟨by omega,.inl h⟩),λh=>h3 (.inl ⟨by omega,.inr h⟩)⟩).mono (by omega)
 ·split at hres
  ·exact absurd hres.symm hne
  rename_i r'' W
  split at hres
  ·exact absurd hres.symm hne
  rename_i m' S;rw[aa]at hres
  split at hres
  rotate_left
  ·exact absurd hres.symm hne
  rename_i hlt;rw[Rr]at hlt;subst hres;obtain⟨γ₁,R,r1,s1,n1,⟨new,l1,l2,l3⟩,f1,f2⟩:=zh (args.flatMap (aE g.h aD)) g γ hg O hx;have q:∀b,Mut γ₁ b->Mut γ b:=by rintro b ⟨id,h1,h2,h3⟩;obtain⟨e1,e2,e3⟩:=f1 id;exact⟨id,by rw[<-e1];exact h1,e3 h2,by rw[<-e2];exact h3⟩
  refine⟨u,w',γ₁,R,⟨r1.up (RO _ _),p.trans s1,⟨new,l1,l2,l3⟩⟩,?_,s⟩
  let A₁:Nat->Nat->Prop:=λt b=>if t=bd+1 then ∃t',A t' b else A t b
  have J:m<=bd+1:=wY _ hm K;have V:RV w' γ₁ A₁ m r' u:=by
   refine mi M hcl λt b h1 h2 h3 _=>?_
   by_cases ht:t=bd+1
   ·have hb:w.heap.size<=b\/∃id,L id/\isC id/\(γ id).kind=1/\(γ id).blk=b:=by
     by_cases hs:w.heap.size<=b
     ·exact .inl hs
     ·exact .inr (RJ λhn=>h3 (.inr ⟨ht,by omega,hn⟩))
    rcases hb with hb|⟨id,q1,q2,q3,q4⟩
    ·refine⟨?_,λhmu=>?_⟩
     ·simp only[A₁,ht,if_true];rintro⟨t',h⟩;have:=hr.ab t' b h;omega
     ·obtain⟨id,X,Y,Z⟩:=q b hmu;have:=(hr.lt id X).2;omega
    ·refine⟨?_,?_⟩
     ·simp only[A₁,ht,if_true];rintro⟨t',h⟩;rw[<-q4]at h;exact hr.av id (by rw[q3];decide) t' h
     ·rintro⟨j,X,Y,Z⟩;obtain⟨e1,e2,e3⟩:=f1 j;have hj:j=id:=hr.inj j id (by rw[<-e1];exact X) (by rw[q3];decide) (by rw[<-e2,Z,q4]);subst hj;rw[f2 j q1 q2]at Y;cases Y
   ·refine⟨?_,λh=>h3 (.inl ⟨by omega,.inr (q b h)⟩)⟩;simp only[A₁,ht,if_false];exact λh=>h3 (.inl ⟨by omega,.inl h⟩)
  obtain⟨Q,_⟩:=KJ (A':=A) (d:=bd+1) (λt b h1 h2=>by simp only[A₁,show t≠bd+1 by omega,if_false]at h2;exact h2)
   (λb h2 t ht=>h2 (by simp only[A₁,if_true];exact⟨t,ht⟩)) aD W (V.mono J) hcl
  exact (Bw _ S Q).mono (by omega)
end
end
end
end Hx
