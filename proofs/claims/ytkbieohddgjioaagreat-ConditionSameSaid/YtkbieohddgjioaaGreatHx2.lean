/- A part of the proof: what the functions of the chapter compute. -/
import Derived.DeepKeys3
import Derived.Test.YtkbieohddgjioaaGreatHx1
set_option linter.all false
section
namespace Hx
open Go
section
variable {C:Cfg}{A:Nat->Nat->Prop}{bd:Nat}{w w':World}{γ γ':Gm}{hg:Nat->AObj}{nx:Nat}
theorem M_(hr:Rel C A bd w γ hg nx){sz:Nat}{x:AV}{v:Value}{h:H}{rows:List (List AV)}(hx:RV w γ A bd x v)
  (hrow:ak h sz x=some rows) (agree:∀id∈ae x,hg id=h.get id) (P:Program) :
  ∃base cap,v=.slice base rows.length cap/\∀n,n<=rows.length->∀w1:World,w1=w\/w1=World.drewn w ->
   ∃c,(Builtin.firstCells sz n v).run P w1=.ok c w1/\c.size=n*sz/\RowsRel w γ A bd sz (rows.take n) c:=by
 obtain⟨b,o,cap,hv,hat⟩:=GA hr hx hrow agree;have hnil:RowsRel w γ A bd sz [] #[]:=⟨by simp,λi row h=>by simp at h,λi j row x h=>by simp at h⟩;rcases hv with⟨rfl,rfl⟩|rfl|⟨⟨a,rfl⟩,rfl⟩
 ·exact⟨none,0,rfl,λn hn w1 _=>⟨#[],by simp[Builtin.firstCells],by simp at hn;simp[hn],by simpa using hnil⟩⟩
 ·refine⟨some (adr b o),cap,rfl,λn hn w1 h1=>?_⟩;have hsub:=hat.sub 0 n;simp only[Uz,Vm,TV]at hsub;have hl:(rows.take n).length=n:=by simp[hn]
  rcases h1 with rfl|rfl
  ·have:=zP hsub P;rw[hl]at this;simpa [Builtin.firstCells] using this
  ·have:=zP (hsub.same xy rfl) P;rw[hl]at this;obtain⟨c,c1,c2,c3⟩:=this;exact⟨c,by simpa [Builtin.firstCells] using c1,c2,c3.back⟩
 ·refine⟨some a,cap,rfl,λn hn w1 _=>?_⟩;simp at hn;subst hn;exact⟨#[],by simp[Builtin.firstCells,loadCells,loadCellsFrom],by simp,by simpa using hnil⟩
theorem Fq{argTypes:Array TypeId}{ty t xt e e':TypeId}{sz bytes:Nat}{zero:List AV}{s x:AV}{v y:Value}{g:G}
  (hr:Rel C A bd w γ hg nx) (hf:(γ g.nx).kind=0) (h0:argTypes[0]?=some t) (h1:argTypes[1]?=some xt) (hu:C.P.underlying t=some (.slice e)) (hux:C.P.underlying xt=some (.slice e'))
  (hsz:szT C.P e=some sz) (hby:kh C.P e=some bytes) (hz:gK C.P e=some zero) (hzl:zero.length=sz) (hb0:0<bytes)
  (hs:RV w γ A bd s v) (hx:RV w γ A bd x y) (agree:∀id∈ae s,hg id=g.h.get id) (agree':∀id∈ae x,hg id=g.h.get id) :
  dk C A bd w γ hg nx (Builtin.append_ argTypes ty #[v,y]) g (dC sz bytes s x g):=by
 unfold dC;cases hrow:ak g.h sz x with
 |none=>trivial
 | some new =>
  dsimp only;obtain⟨xb,xc,rfl,hsrc⟩:=M_ hr hx hrow agree' C.P;rcases rO (e:=e) (new:=new) (zs:=false) (x:=.slice xb new.length xc) (appended:=Builtin.firstCells sz new.length (.slice xb new.length xc)) hr hf hs hby hz hzl hb0
    (λw1 h=>by simpa using hsrc new.length (R5 _) w1 h) agree with h|⟨base,sLen,sCap,rfl,h⟩
  ·rw[h];trivial
  ·have e1:(Builtin.append_ argTypes ty #[.slice base sLen sCap,.slice xb new.length xc]).run C.P w =
     (jv e sz bytes base sLen sCap new.length false (.slice base sLen sCap) (.slice xb new.length xc) (Builtin.firstCells sz new.length (.slice xb new.length xc))).run C.P w:=by
    unfold Builtin.append_ jv;have a0:(#[Value.slice base sLen sCap,Value.slice xb new.length xc]:Array Value)[0]?=some (.slice base sLen sCap):=rfl;have a1:(#[Value.slice base sLen sCap,Value.slice xb new.length xc]:Array Value)[1]?=some (.slice xb new.length xc):=rfl;simp only[h0,h1,a0,a1,Sn,aF hu,aF hux,ba hsz,Builtin.lenOf,Sc,SV]
    rfl
   generalize bf sz bytes s new g=r at h ⊢;cases r<;>simpa only[dk,e1] using h
theorem Db{argTypes:Array TypeId}{ty t xt e:TypeId}{k:IntKind}{sz bytes:Nat}{zero:List AV}{s x:AV}{v y:Value}{g:G}
  (hr:Rel C A bd w γ hg nx) (hf:(γ g.nx).kind=0) (h0:argTypes[0]?=some t) (h1:argTypes[1]?=some xt) (hu:C.P.underlying t=some (.slice e)) (hux:C.P.underlying xt=some (.int k))
  (hsz:szT C.P e=some sz) (hby:kh C.P e=some bytes) (hz:gK C.P e=some zero) (hzl:zero.length=sz) (hs0:0<sz) (hb0:0<bytes)
  (hs:RV w γ A bd s v) (hx:RV w γ A bd x y) (agree:∀id∈ae s,hg id=g.h.get id) :
  dk C A bd w γ hg nx (Builtin.append_ argTypes ty #[v,y]) g (u9 sz bytes zero s x g):=by
 unfold u9;cases hn:dP aY x with
 |none=>trivial
 | some n =>
  dsimp only;rw[aa]
  split
  ·rename_i hroom;rw[SS]at hroom;obtain⟨n1,kk,rfl⟩:=vZ hn hx;have hl:(jt n zero).length=n:=by simp[jt]
   have happ:∀w1:World,w1=w\/w1=World.drewn w->∃c,(if n*sz=0 then pure #[] else do pure (Builtin.zeroCells (<-zeroValue e).cells n):Sem (Array Value)).run C.P w1=.ok c w1 /\
     c.size=(jt n zero).length*sz/\RowsRel w γ A bd sz (jt n zero) c:=by
    intro w1 _;obtain⟨z,z1,z2⟩:=nK (w:=w1) hz;have hzs:z.cells.size=sz:=by have:=(oB (w:=w) (γ:=γ) (A:=A) (bd:=bd) z2).1.1;simp at this;omega
    refine⟨iO z.cells (n*sz),?_,by rw[hl];simp[nP],tR (ty:=e) z2 hzl hs0 (R5 _)⟩
    by_cases h:n*sz=0
    ·rw[Sb h,h];simp[iO]
    ·rw[Sa h];simp[z1,Builtin.zeroCells,iO,hzs]
   rcases rO (e:=e) (new:=jt n zero) (zs:=true) (x:=.int kk (n:Int)) hr hf hs hby hz hzl hb0 happ agree with h|⟨base,sLen,sCap,rfl,h⟩
   ·rw[h];trivial
   ·rw[hl]at h;have hi:∃i,C.P.info? e=some i/\i.bytes=bytes:=by
     unfold kh at hby;cases hie:C.P.info? e with
     |none=>rw[hie]at hby;cases hby
     |some i=>rw[hie]at hby;simp at hby;exact⟨i,rfl,hby⟩
    obtain⟨i,i1,i2⟩:=hi;unfold aY at n1 hroom;have w1:=qZ n (by omega);have hb1:¬((n:Int)*(bytes:Int) > 2 ^ 48):=by rw[<-Tt];omega
    have e1:(Builtin.append_ argTypes ty #[.slice base sLen sCap,.int kk (n:Int)]).run C.P w =
      (jv e sz bytes base sLen sCap n true (.slice base sLen sCap) (.int kk (n:Int)) (if n*sz=0 then pure #[] else do pure (Builtin.zeroCells (<-zeroValue e).cells n))).run C.P w:=by
     unfold Builtin.append_ jv;have hneg:¬((n:Int)<0):=by omega
     have a0:(#[Value.slice base sLen sCap,Value.int kk (n:Int)]:Array Value)[0]?=some (.slice base sLen sCap):=rfl;have a1:(#[Value.slice base sLen sCap,Value.int kk (n:Int)]:Array Value)[1]?=some (.int kk (n:Int)):=rfl;simp only[h0,h1,a0,a1,Sn,aF hu,aF hux,ba hsz,Sc,SV,if_true,asInt,asIntOf,w1,lI i1,i2,Sa hb1,Sa hneg]
     rfl
    generalize bf sz bytes s (jt n zero) g=r at h ⊢;cases r<;>simpa only[dk,e1] using h
  ·trivial
theorem KJ{argTypes:Array TypeId}{ty t e:TypeId}{sz:Nat}{d x:AV}{v y:Value}{g:G}
  (hr:Rel C A bd w γ hg nx) (h0:argTypes[0]?=some t) (hu:C.P.underlying t=some (.slice e)) (hsz:szT C.P e=some sz)
  (hd:RV w γ A bd d v) (hx:RV w γ A bd x y) (agree:∀id∈ae d,hg id=g.h.get id) (agree':∀id∈ae x,hg id=g.h.get id) :
  dk C A bd w γ hg nx (Builtin.copy_ argTypes ty #[v,y]) g (Bg sz d x g):=by
 unfold Bg;cases hrow:ak g.h sz x with
 |none=>trivial
 | some src =>
  dsimp only;obtain⟨xb,xc,rfl,hsrc⟩:=M_ hr hx hrow agree' C.P;have hrun:∀base dLen dCap,v=.slice base dLen dCap->∃c,c.size=Nat.min src.length dLen*sz/\RowsRel w γ A bd sz (src.take (Nat.min src.length dLen)) c /\
    (Builtin.copy_ argTypes ty #[v,.slice xb src.length xc]).run C.P w =
     (do if let some a:=base then storeCells a c.toList
         pure (goInt (Nat.min src.length dLen)):Sem Value).run C.P w:=by
   intro base dLen dCap hv;subst hv;obtain⟨c,c1,c2,c3⟩:=hsrc (Nat.min src.length dLen) (Nat.min_le_left _ _) w (.inl rfl);refine⟨c,c2,c3,?_⟩;have a0:(#[Value.slice base dLen dCap,Value.slice xb src.length xc]:Array Value)[0]?=some (.slice base dLen dCap):=rfl;have a1:(#[Value.slice base dLen dCap,Value.slice xb src.length xc]:Array Value)[1]?=some (.slice xb src.length xc):=rfl;unfold Builtin.copy_;simp only[h0,a0,a1,Sn,aF hu,ba hsz,Builtin.lenOf,Sc,SV,c1]
   rfl
  have hint:∀n:Nat,RV w γ A bd (.int .i64 (n:Int)) (goInt n):=λn=>.int _ _ _;cases hd with
  | nils =>
   obtain⟨c,c1,c2,c3⟩:=hrun none 0 0 rfl;refine⟨goInt 0,?_,hint 0⟩;rw[c3];simp
  | esl _ a =>
   obtain⟨c,c1,c2,c3⟩:=hrun (some a) 0 0 rfl;have hc:c=#[]:=by simpa using c1
   refine⟨goInt 0,?_,hint 0⟩;rw[c3,hc];simp[jX]
  | tsl _ tag sz' rows b o cap cell ht hc hb hm ha hrl ho hw h =>
   dsimp only;rw[aa]
   split
   ·rename_i hcond;obtain⟨c,c1,c2,c3⟩:=hrun (some (adr b o)) rows.length cap rfl;have hmin:Nat.min src.length rows.length=0:=by simp only[SY,List.isEmpty_iff]at hcond;rcases hcond with h|h<;>subst h<;>simp[Nat.min_def]
    rw[hmin]at c1 c3;have hc:c=#[]:=by simpa using c1
    refine⟨goInt 0,?_,hint 0⟩;rw[c3,hc];simp[jX]
   ·trivial
  | tnil _ tag sz' a cap ht =>
   dsimp only;rw[aa]
   split
   ·obtain⟨c,c1,c2,c3⟩:=hrun (some a) 0 cap rfl;have hc:c=#[]:=by simpa using c1
    refine⟨goInt 0,?_,hint 0⟩;rw[c3,hc];simp[jX]
   ·trivial
  | hsl _ id ep off len lim b0 o0 cap0 hk he hc0 h0' =>
   have hagree:=agree id (by simp[ae]);simp only[G.get_eq,<-hagree];cases hid:hg id with
   | cells sz' rows ep' loose fz =>
    simp only[ay,aa,bh]
    split
    ·rename_i hcond;simp only[R7,SS,notb_eq,SP]at hcond;obtain⟨⟨⟨h1,h2⟩,h3⟩,h4⟩:=hcond;have h1:=aG h1;have h2:=aG h2;subst h1;subst h2;subst h4;obtain⟨cap,hv,hlc,hco⟩:=uI hr (RV.hsl bd id ep off len lim b0 o0 cap0 hk he hc0 h0') hid;obtain⟨c,c1,c2,c3⟩:=hrun _ _ _ hv;have hl:(src.take (Nat.min src.length len)).length=Nat.min src.length len:=by simp[Nat.min_le_left]
     have hle:Nat.min src.length len<=len:=Nat.min_le_right _ _;obtain⟨w',r1,r2,r3⟩:=hr.storeRows hid (off:=off) c2 (by rw[hl];exact c1) (by rw[hl];omega) C.P;refine⟨goInt (Nat.min src.length len),w',γ,id,_,?_,.int _ _ _,r3,.inl ⟨rfl,r2⟩⟩;rw[c3];simp[r1]
    ·trivial
   |_=>trivial
  |_=>trivial
theorem IN{argTypes:Array TypeId}{ty t e:TypeId}{sz:Nat}{zero:List AV}{x:AV}{y:Value}{g:G}
  (hr:Rel C A bd w γ hg nx) (h0:argTypes[0]?=some t) (hu:C.P.underlying t=some (.slice e)) (hz:gK C.P e=some zero) (hzl:zero.length=sz) (hs0:0<sz)
  (hx:RV w γ A bd x y) (agree:∀id∈tK x,hg id=g.h.get id) :
  dk C A bd w γ hg nx (Builtin.clear_ argTypes ty #[y]) g (zb sz zero x g):=by
 have a0:(#[y]:Array Value)[0]?=some y:=rfl;have hz0:∀a cap,y=.slice a 0 cap->(Builtin.clear_ argTypes ty #[y]).run C.P w=.ok undef w:=by intro a cap h;subst h;unfold Builtin.clear_;cases a<;>simp[h0,aF hu,undef]
 unfold zb;cases hx with
 |nils=>exact⟨_,hz0 _ _ rfl,dG⟩
 |esl _ a=>exact⟨_,hz0 _ _ rfl,dG⟩
 | tsl _ tag sz' rows b o cap cell ht hc hb hm ha hrl ho hw h =>
  cases rows with
  |nil=>exact⟨_,hz0 _ _ rfl,dG⟩
  |cons r rs=>trivial
 |tnil _ tag sz' a cap ht=>exact⟨_,hz0 _ _ rfl,dG⟩
 | hsl _ id ep off len lim b0 o0 cap0 hk he hc0 h0' =>
  cases len with
  |zero=>exact⟨_,hz0 _ _ rfl,dG⟩
  | succ len =>
   have hagree:=agree id (by simp[tK]);simp only[G.get_eq,<-hagree];cases hid:hg id with
   | cells sz' rows ep' loose fz =>
    simp only[ay,aa]
    split
    ·rename_i hcond;simp only[R7,SS,notb_eq,SP]at hcond;obtain⟨⟨⟨h1,h2⟩,h3⟩,h4⟩:=hcond;have h1:=aG h1;have h2:=aG h2;subst h1;subst h2;subst h4;obtain⟨cap,hv,hlc,hco⟩:=uI hr (RV.hsl bd id ep off (len+1) lim b0 o0 cap0 hk he hc0 h0') hid;have hl:(jt (len+1) zero).length=len+1:=by simp[jt]
     obtain⟨z,z1,z2⟩:=nK (w:=w) hz;have hzs:z.cells.size=sz:=by have:=(oB (w:=w) (γ:=γ) (A:=A) (bd:=bd) z2).1.1;simp at this;omega
     obtain⟨w',r1,r2,r3⟩:=hr.storeRows hid (off:=off) (tR (ty:=e) (n:=len+1) z2 hzl hs0 (R5 _)) (by rw[hl];simp[nP]) (by rw[hl];omega) C.P;refine⟨undef,w',γ,id,_,?_,dG,r3,.inl ⟨rfl,r2⟩⟩;have e0:Builtin.zeroCells z.cells (len+1)=iO z.cells ((len+1)*sz):=by simp[Builtin.zeroCells,iO,hzs]
     rw[hv];unfold Builtin.clear_;simp[h0,aF hu,z1,e0,r1,undef]
    ·trivial
   |_=>trivial
 |_=>trivial
end
end Hx
end
section
namespace Hx
open Go
section
variable {C:Cfg}{A:Nat->Nat->Prop}{bd:Nat}{w w':World}{γ γ':Gm}{hg:Nat->AObj}{nx:Nat}
def OVR(w:World)(γ:Gm)(A:Nat->Nat->Prop)(bd:Nat):Option AV->Option Value->Prop
 |none,none=>True
 |some x,some v=>RV w γ A bd x v
 |_,_=>False
theorem Mx{xs:List AV}{vs:List Value}(h:RVs w γ A bd xs vs):OVR w γ A bd xs.head? vs.head?:=by
 cases xs with
 | nil=>cases vs with
  |nil=>trivial
  |cons v vs=>have:=h.1;simp at this
 | cons x xs=>cases vs with
  |nil=>have:=h.1;simp at this
  |cons v vs=>exact h.2 0 x v rfl rfl
theorem vY{lim n:Nat}{x:AV}(h:dP lim x=some n):n<=lim:=by
 unfold dP at h
 split at h
 ·rw[aa]at h
  split at h
  ·rename_i hl;rw[SS]at hl;injection h with h;omega
  ·cases h
 ·cases h
theorem mL{n:Nat}{x:Option AV}(h:bo 0 0 x=some n):n=0:=by
 cases x with
 |none=>simp[bo]at h;omega
 |some z=>have:=vY h;omega
theorem cZ{P:Program}{lim y n:Nat}{x:AV}{v:Value}{code:BoundsCode}(h:dP lim x=some n)(hv:RV w γ A bd x v)(hy:lim<=y) :
  (Instr.sliceBound v y code).run P w=.ok n w/\n<=lim:=by
 obtain⟨h1,k,rfl⟩:=vZ h hv;refine⟨?_,h1⟩;unfold Instr.sliceBound;simp only[asIntOf,Sn,SV,Sc];rw[Sb (by omega)];simp
theorem cD{P:Program}{isSlice:Bool}{len cap:Nat}{lo hi mx:Option AV}{lv hv mv:Option Value}{l h m d limM lh:Nat}
  (hlo:OVR w γ A bd lo lv) (hhi:OVR w γ A bd hi hv) (hmx:OVR w γ A bd mx mv) (hm:mx=none->m=cap) (hm':mx≠none->bo d limM mx=some m/\limM<=cap)
  (hmh:mx≠none->hi≠none) (hh:bo len lh hi=some h) (hlh:lh<=m) (hl:bo 0 h lo=some l) :
  (Instr.sliceBounds isSlice len cap lv hv mv).run P w=.ok (l,h,m) w/\l<=h/\(hi=none/\h=len\/h<=lh):=by
 have H:l<=h/\∀code,(match lv with|some v=>Instr.sliceBound v h code|none=>pure 0:Sem Nat).run P w=.ok l w:=by
  cases lo with
  | none =>
   cases lv with
   |none=>simp[bo]at hl;subst hl;exact⟨S2 _,λ_=>rfl⟩
   |some v=>cases hlo
  | some x =>
   cases lv with
   |none=>cases hlo
   |some v=>exact⟨(cZ (code:=.index) (P:=P) hl hlo (R5 _)).2,λcode=>(cZ hl hlo (R5 _)).1⟩
 obtain⟨H1,H2⟩:=H;cases mx with
 | none =>
  cases mv with
  |some v=>cases hmx
  | none =>
   have:=hm rfl;subst this;cases hi with
   | none =>
    cases hv with
    |some v=>cases hhi
    | none =>
     simp[bo]at hh;subst hh;refine⟨?_,H1,.inl ⟨rfl,rfl⟩⟩;have h2:=H2 .sliceB;unfold Instr.sliceBounds;cases lv<;>simp_all
   | some x =>
    cases hv with
    |none=>cases hhi
    | some v =>
     have h3:=λcode=>(cZ (P:=P) (code:=code) hh hhi hlh).1;refine⟨?_,H1,.inr (cZ (P:=P) (code:=.index) hh hhi hlh).2⟩;have h2:=H2 .sliceB;unfold Instr.sliceBounds;cases lv<;>simp_all
 | some xm =>
  cases mv with
  |none=>cases hmx
  | some vm =>
   obtain⟨hm1,hm2⟩:=hm' (by simp);have h4:=λcode=>(cZ (P:=P) (code:=code) hm1 hmx hm2).1;cases hi with
   |none=>exact absurd rfl (hmh (by simp))
   | some x =>
    cases hv with
    |none=>cases hhi
    | some v =>
     have h3:=λcode=>(cZ (P:=P) (code:=code) hh hhi hlh).1;refine⟨?_,H1,.inr (cZ (P:=P) (code:=.index) hh hhi hlh).2⟩;have h2:=H2 .slice3C;unfold Instr.sliceBounds;cases lv<;>simp_all
theorem mH{ty e:TypeId}{sz len cap l h m:Nat}{a:Option Addr}{lv hv mv:Option Value}(hu:C.P.underlying ty=some (.slice e))(hsz:szT C.P e=some sz)
  (hb:(Instr.sliceBounds true len cap lv hv mv).run C.P w=.ok (l,h,m) w) :
  (Instr.sliceAt ty (.slice a len cap) lv hv mv).run C.P w=.ok (.slice (if m=l then a else a.map (·.add (l*sz))) (h - l) (m - l)) w:=by
 unfold Instr.sliceAt Instr.slice;simp[aF hu,hb,ba hsz]
theorem At{ty e:TypeId}{sz:Nat}{x:AV}{lo hi mx:Option AV}{v:Value}{lv hv mv:Option Value}{g:G}
  (hr:Rel C A bd w γ hg nx) (hu:C.P.underlying ty=some (.slice e)) (hsz:szT C.P e=some sz) (hx:RV w γ A bd x v)
  (hlo:OVR w γ A bd lo lv) (hhi:OVR w γ A bd hi hv) (hmx:OVR w γ A bd mx mv) (hmh:mx≠none->hi≠none) (agree:∀id∈ae x,hg id=g.h.get id) :
  ValSim C A bd w γ (Instr.sliceAt ty v lv hv mv) (orV (nM sz x lo hi mx g.h)):=by
 refine oD λy hy=>?_;have zero:∀(a:Option Addr),v=.slice a 0 0->∀p q r,bo 0 0 lo=some p->bo 0 0 hi=some q->bo 0 0 mx=some r ->
   (Instr.sliceAt ty v lv hv mv).run C.P w=.ok (.slice a 0 0) w:=by
  intro a hv' p q r h1 h2 h3;subst hv';have hr0:=mL h3;have hq0:=mL h2;have hp0:=mL h1;subst hr0;subst hq0;subst hp0;obtain⟨b1,b2,b3⟩:=cD (P:=C.P) (isSlice:=true) (len:=0) (cap:=0) (l:=0) (h:=0) (m:=0) hlo hhi hmx (λ_=>rfl) (λ_=>⟨h3,R5 _⟩) hmh h2 (R5 _) h1;rw[mH hu hsz b1];simp
 unfold nM at hy;cases hx with
 | nils =>
  dsimp only at hy
  split at hy
  ·rename_i p q r h1 h2 h3;injection hy with hy;subst hy;exact⟨_,zero none rfl p q r h1 h2 h3,.nils _⟩
  ·cases hy
 | esl _ a =>
  dsimp only at hy
  split at hy
  ·rename_i p q r h1 h2 h3;injection hy with hy;subst hy;exact⟨_,zero (some a) rfl p q r h1 h2 h3,.esl _ a⟩
  ·cases hy
 | tnil _ tag sz' a cap ht =>
  cases mx with
  | none =>
   cases mv with
   |some z=>cases hmx
   | none =>
    dsimp only at hy
    split at hy
    ·cases hy
    ·rename_i h hh
     split at hy
     ·cases hy
     ·rename_i l hl;simp only[aa]at hy
      split at hy
      ·injection hy with hy;subst hy;have hcap:(bz ([]:List (List AV)))=0:=rfl;rw[hcap]at hh;obtain⟨b1,b2,b3⟩:=cD (P:=C.P) (isSlice:=true) (len:=0) (cap:=cap) (d:=0) (limM:=0) hlo hhi hmx (λ_=>rfl) (λh=>absurd rfl h) hmh hh (S2 _) hl;have e1:h=0:=by omega
       have e2:l=0:=by omega
       subst e1;subst e2;refine⟨_,mH hu hsz b1,?_⟩;have e3:kg (0 - 0) (jz 0 ([]:List (List AV)))=[]:=by simp[bh]
       rw[e3]
       by_cases hc:cap=0
       ·rw[Sb hc];exact .tnil _ tag sz a _ ht
       ·rw[Sa hc];exact .tnil _ tag sz _ _ ht
      ·cases hy
  | some xm =>
   dsimp only at hy;cases mv with
   |none=>cases hmx
   | some vm =>
    split at hy
    ·rename_i p q r h1 h2 h3;injection hy with hy;subst hy;have e1:p=0:=by have:=vY h1;omega
     subst e1;obtain⟨b1,b2,b3⟩:=cD (P:=C.P) (isSlice:=true) (len:=0) (cap:=cap) (d:=0) (limM:=0) (m:=0) hlo hhi hmx (λh=>by cases h) (λ_=>⟨h1,S2 _⟩) hmh h2 (R5 _)
      (by rw[mL h2];exact h3)
     have e1:q=0:=by omega
     have e2:r=0:=by omega
     subst e1;subst e2;refine⟨_,mH hu hsz b1,?_⟩;simpa using RV.esl _ a
    ·cases hy
 | tsl _ tag sz' rows b o cap cell ht hc hb hm ha hrl ho hw hcell hcl =>
  cases mx with
  | none =>
   cases mv with
   |some z=>cases hmx
   | none =>
    simp only[ay,bh,bg]at hy
    split at hy
    ·cases hy
    ·rename_i h hh
     split at hy
     ·cases hy
     ·rename_i l hl;simp only[aa]at hy
      split at hy
      ·rename_i hsz';have hsz':=aG hsz';subst hsz';injection hy with hy;subst hy;obtain⟨b1,b2,b3⟩:=cD (P:=C.P) (isSlice:=true) (len:=rows.length) (cap:=cap) (d:=0) (limM:=0) hlo hhi hmx (λ_=>rfl) (λh=>absurd rfl h) hmh hh hc hl;have e1:h<=rows.length:=by omega
       refine⟨_,mH hu hsz b1,?_⟩;have hlen:((rows.drop l).take (h - l)).length=h - l:=by simp;omega
       by_cases hc0:cap=l
       ·rw[Sb hc0];have e2:h - l=0:=by omega
        rw[e2,Vz];exact .tnil _ tag sz _ _ ht
       ·rw[Sa hc0];simp only[TY,gL];have:=RV.tsl (w:=w) (γ:=γ) (A:=A) bd tag sz ((rows.drop l).take (h - l)) b (o+l*sz) (cap - l) (λi j=>cell (l+i) j) ht (by rw[hlen];omega) hb hm ha
         (λi row hi=>?_) (λi j row x hi hj=>?_) (λi j row x hi hj=>?_) (λi j row x hi hj=>?_) (λrow hrow=>hcl row (Tv (SM hrow)))
        ·rwa [hlen]at this
        all_goals
         have hi':=hi;rw[Uv,]at hi'
         split at hi'
         ·rw[ST]at hi'
          first
          |exact hrl _ _ hi'
          |exact ho _ _ _ _ hi' hj
          |exact hcell _ _ _ _ hi' hj
          | (have:=hw _ _ _ _ hi' hj
             rwa [show o+l*sz+i*sz+j=o+(l+i)*sz+j from by rw[SA];omega])
         ·cases hi'
      ·cases hy
  | some xm =>
   dsimp only at hy;cases mv with
   |none=>cases hmx
   | some vm =>
    split at hy
    ·rename_i p q r h1 h2 h3;injection hy with hy;subst hy;have e1:p=0:=by have:=vY h1;omega
     subst e1;cases hi with
     |none=>exact absurd rfl (hmh (by simp))
     | some z =>
      cases hv with
      |none=>cases hhi
      | some vh =>
       have e0:=mL h2;subst e0;obtain⟨b1,b2,b3⟩:=cD (P:=C.P) (isSlice:=true) (len:=rows.length) (cap:=cap) (d:=0) (limM:=0) (m:=0) (lh:=0) (h:=0) hlo hhi hmx (λh=>by cases h) (λ_=>⟨h1,S2 _⟩) hmh h2 (R5 _) h3;have e2:r=0:=by omega
       subst e2;refine⟨_,mH hu hsz b1,?_⟩;simpa using RV.esl _ _
    ·cases hy
 | hsl _ id ep off len lim b0 o0 cap0 hk he hc0 h0 =>
  have hagree:=agree id (by simp[ae]);dsimp only at hy;rw[<-hagree]at hy;cases hid:hg id with
  | cells sz' rows ep' loose fz =>
   rw[hid]at hy;simp only[aa,ay]at hy
   split at hy
   ·rename_i hcond;simp only[R7,SS]at hcond;obtain⟨⟨h1,h2⟩,h3⟩:=hcond;have h1:=aG h1;have h2:=aG h2;subst h1;subst h2;obtain⟨cap,hv',hlc,hco⟩:=uI hr (RV.hsl bd id ep off len lim b0 o0 cap0 hk he hc0 h0) hid;rw[hv'];have hob:=hr.obj id;rw[hid]at hob;obtain⟨k1,k2,k3,k4,k5,_⟩:=hob
    split at hy
    ·cases hy
    ·rename_i m hm
     split at hy
     ·cases hy
     ·rename_i h hh
      split at hy
      ·cases hy
      ·rename_i l hl
       let m0:=lim.getD (rows.length - off)
       have hm0:m0<=cap:=by unfold ju at hco;cases lim<;>simp only[m0,Option.getD]at *<;>omega
       have hstrict:lim≠none\/loose=false->cap=m0:=by
        unfold ju at hco;intro h;cases lim with
        |none=>simp at h;have:=k5.1 h;simp only[m0,Option.getD];dsimp only at hco;omega
        |some c=>simp only[m0,Option.getD];exact hco.1
       have hmm:mx≠none->m<=m0:=by
        intro h;cases mx with
        |none=>exact absurd rfl h
        | some z=>cases mv with
         |none=>cases hmx
         |some zv=>exact vY hm
       have hmn:mx=none->m=m0:=by intro h;subst h;simp[bo]at hm;exact hm.symm
       let mR:=if mx=none then cap else m
       have hmR:m<=mR:=by
        simp only[mR];split
        ·rename_i h;rw[hmn h];exact hm0
        ·exact R5 _
       obtain⟨b1,b2,b3⟩:=cD (P:=C.P) (isSlice:=true) (len:=len) (cap:=cap) (d:=m0) (limM:=m0) (m:=mR) (lh:=m) hlo hhi hmx
        (λh=>by simp[mR,h]) (λh=>⟨by simp only[mR,Sa h];exact hm,hm0⟩) hmh hh hmR hl
       refine⟨_,mH hu hsz b1,?_⟩;have hlen:len<=m0:=by
        unfold ju at hco;cases lim with
        |none=>simp only[m0,Option.getD];omega
        |some c=>simp only[m0,Option.getD];omega
       have hhm:h<=m:=by
        rcases b3 with⟨e1,e2⟩|e1
        ·have:mx=none:=by
          cases mx with
          |none=>rfl
          |some z=>exact absurd e1 (hmh (by simp))
         rw[hmn this,e2];exact hlen
        ·exact e1
       split at hy
       ·rename_i hml;have hml:=aG hml;subst hml;have e1:h=m:=by omega
        subst e1
        split at hy
        ·rename_i hcond;injection hy with hy;subst hy;have e2:mR=h:=by
          simp only[mR];split
          ·rename_i hmx0;rw[hstrict,hmn hmx0];subst hmx0;simp at hcond;cases lim with
           |none=>right;simpa using hcond
           |some c=>left;simp
          ·rfl
         rw[Sb e2,e2,Th];exact .esl _ _
        ·injection hy with hy;subst hy;rw[Th]
         by_cases h9:mR=h
         ·rw[Sb h9];exact .tnil _ 0 sz _ _ (S2 _)
         ·rw[Sa h9];exact .tnil _ 0 sz _ _ (S2 _)
       ·rename_i hml;injection hy with hy;subst hy;have hlt:l<m:=by
         rcases TW l m with h9|h9
         ·exact h9
         ·exact absurd (by rw[show m=l from by omega];exact SQ l) hml
        rw[Sa (show ¬mR=l by omega)];simp only[TY,gL];refine .hsl _ id ep (off+l) (h - l) _ _ _ _ k1 (by omega) (by omega) λ_=>⟨rfl,by rw[k3,SA];omega,?_⟩;cases mx with
        | some z =>
         have e3:mR=m:=by simp[mR]
         have e4:=hmm (by simp);simp only[ju];rw[e3,k4];unfold ju at hco;cases lim with
         |none=>simp only[m0,Option.getD]at e4;omega
         |some c=>simp only[m0,Option.getD]at e4;dsimp only at hco;omega
        | none =>
         have e3:mR=cap:=by simp[mR]
         unfold ju at hco ⊢;cases lim with
         |none=>dsimp only[Option.map]at hco ⊢;omega
         |some c=>dsimp only[Option.map]at hco ⊢;omega
   ·cases hy
  |_=>rw[hid]at hy;cases hy
 |_=>cases hy
end
end Hx
end
section
namespace Hx
open Go
section
variable {C:Cfg}{A:Nat->Nat->Prop}{bd:Nat}{w w':World}{γ γ':Gm}{hg:Nat->AObj}{nx:Nat}
theorem qO{α:Type}{f:α->Option Nat}:∀{l:List α} {m:Nat},iK f l=some m->∀x∈l,∃k,f x=some k/\k<=m:=by
 intro l
 induction l with
 |nil=>intro m _ x hx;cases hx
 | cons a l ih =>
  intro m h x hx;simp only[iK]at h
  split at h
  ·rename_i k hk
   split at h
   ·rename_i b hb;injection h with h;subst h;rcases Sq.1 hx with rfl|hx
    ·exact⟨k,hk,TJ _ _⟩
    ·obtain⟨k',h1,h2⟩:=ih hb x hx;exact⟨k',h1,Sz h2 (Ud _ _)⟩
   ·cases h
  ·cases h
theorem C1:∀(f:Nat) {x:AV} {v:Value} {m:Nat},fp f x=some m->RV w γ A bd x v->RV w γ A m x v:=by
 intro f
 induction f with
 |zero=>intro x v m h;cases h
 | succ f ih =>
  intro x v m h hx;have hs:∀{cs:List AV} {vs:Array Value} {m':Nat},iK (fp f) cs=some m'->m'<=m ->
    (∀(i:Nat) x v,cs[i]?=some x->vs[i]?=some v->RV w γ A bd x v)->∀(i:Nat) x v,cs[i]?=some x->vs[i]?=some v->RV w γ A m x v:=by
   intro cs vs m' h1 h2 h3 i x v hi hv;obtain⟨k,k1,k2⟩:=qO h1 x (R9 hi);exact (ih k1 (h3 i x v hi hv)).mono (Sz k2 h2)
  cases hx with
  | tsl _ tag sz rows b o cap cell ht hc hb hm ha hrl ho hw hcell hcl =>
   simp only[fp]at h;injection h with h;subst h;exact .tsl _ tag sz rows b o cap cell (R5 _) hc hb hm ha hrl ho hw hcell hcl
  | tnil _ tag sz a cap ht =>
   simp only[fp]at h;injection h with h;subst h;exact .tnil _ tag sz a cap (R5 _)
  | tptr _ tag sz rows i0 off0 b o cell ht hb hm ha hrl ho hw hcell hcl =>
   simp only[fp]at h;injection h with h;subst h;exact .tptr _ tag sz rows i0 off0 b o cell (R5 _) hb hm ha hrl ho hw hcell hcl
  |agg _ xs vs hl h1 h2=>exact .agg _ _ _ hl h1 (hs h (R5 _) h2)
  |tup _ xs vs hl h2=>exact .tup _ _ _ hl (hs h (R5 _) h2)
  | clo _ g xs ys vs us hl hl2 h1 h2 =>
   simp only[fp]at h;have ha:=qO h;refine .clo _ g xs ys vs us hl hl2 (λi x v hi hv=>?_) (λi x v hi hv=>?_)
   ·obtain⟨k,k1,k2⟩:=ha x (TS _ (R9 hi));exact (ih k1 (h1 i x v hi hv)).mono k2
   ·obtain⟨k,k1,k2⟩:=ha x (TU _ (R9 hi));exact (ih k1 (h2 i x v hi hv)).mono k2
  |ifc _ t x v h1=>exact .ifc _ t x v (ih h h1)
  |bool=>exact .bool _ _
  |int=>exact .int _ _ _
  |str=>exact .str _ _
  |nilp=>exact .nilp _
  |nils=>exact .nils _
  |nilf=>exact .nilf _
  |nilm=>exact .nilm _
  |nili=>exact .nili _
  |esl _ a=>exact .esl _ a
  |hsl _ id ep off len lim b o cap hk he hc h'=>cases h
  |hptr _ id ep i off b o hk he h'=>cases h
  |hmap _ id b hk hb=>cases h
  |yld _ id b hk hb=>cases h
theorem eW{α:Type}{f:α->Option Nat}{b:Nat}:∀{l:List α} {m:Nat},iK f l=some m->(∀x∈l,∀k,f x=some k->k<=b)->m<=b:=by
 intro l
 induction l with
 |nil=>intro m h _;simp[iK]at h;omega
 | cons a l ih =>
  intro m h hb;simp only[iK]at h
  split at h
  ·rename_i k hk
   split at h
   ·rename_i b' hb';injection h with h;subst h;exact VB.2 ⟨hb a Ts k hk,ih hb' λx hx=>hb x (Tj _ hx)⟩
   ·cases h
  ·cases h
theorem yI:∀(f:Nat) {x:AV} {v:Value} {m:Nat},fp f x=some m->RV w γ A bd x v->m<=bd:=by
 intro f
 induction f with
 |zero=>intro x v m h;cases h
 | succ f ih =>
  intro x v m h hx;have hs:∀{cs:List AV} {vs:Array Value},cs.length=vs.size ->
    (∀(i:Nat) x v,cs[i]?=some x->vs[i]?=some v->RV w γ A bd x v)->∀x∈cs,∀k,fp f x=some k->k<=bd:=by
   intro cs vs hl h3 x hx k hk;obtain⟨i,hi⟩:=SE hx;have hlt:i<vs.size:=by rw[<-hl];exact (R6.1 hi).1
   exact ih hk (h3 i x _ hi (Sv hlt))
  cases hx with
  |tsl _ tag sz rows b o cap cell ht hc hb hm ha hrl ho hw hcell hcl=>simp only[fp]at h;injection h with h;omega
  |tnil _ tag sz a cap ht=>simp only[fp]at h;injection h with h;omega
  |tptr _ tag sz rows i0 off0 b o cell ht hb hm ha hrl ho hw hcell hcl=>simp only[fp]at h;injection h with h;omega
  |agg _ xs vs hl h1 h2=>exact eW h (hs hl h2)
  |tup _ xs vs hl h2=>exact eW h (hs hl h2)
  | clo _ g xs ys vs us hl hl2 h1 h2 =>
   refine eW h λx hx k hk=>?_;rcases SG.1 hx with hx|hx
   ·exact hs hl h1 x hx k hk
   ·exact hs hl2 h2 x hx k hk
  |ifc _ t x v h1=>exact ih h h1
  |_=>first| (cases h;done)| (simp only[fp]at h;injection h with h;omega)
theorem Ff:∀(f:Nat) {x:AV} {v:Value} {m:Nat},fp f x=some m->RV w γ A bd x v->Closed x:=by
 intro f
 induction f with
 |zero=>intro x v m h;cases h
 | succ f ih =>
  intro x v m h hx;have hs:∀{cs:List AV} {vs:Array Value},cs.length=vs.size->(∀x∈cs,∃k,fp f x=some k) ->
    (∀(i:Nat) x v,cs[i]?=some x->vs[i]?=some v->RV w γ A bd x v)->∀x∈cs,Closed x:=by
   intro cs vs hl h1 h3 x hx;obtain⟨i,hi⟩:=SE hx;have hlt:i<vs.size:=by rw[<-hl];exact (R6.1 hi).1
   obtain⟨k,hk⟩:=h1 x hx;exact ih hk (h3 i x _ hi (Sv hlt))
  have he:∀{cs:List AV} {m':Nat},iK (fp f) cs=some m'->∀x∈cs,∃k,fp f x=some k:=λh x hx=>by obtain⟨k,k1,_⟩:=qO h x hx;exact⟨k,k1⟩
  cases hx with
  |tsl _ tag sz rows b o cap cell ht hc hb hm ha hrl ho hw hcell hcl=>exact .tsl _ _ _ hcl
  |tnil=>exact .tsl _ _ _ (λrow h=>by cases h)
  |tptr _ tag sz rows i0 off0 b o cell ht hb hm ha hrl ho hw hcell hcl=>exact .tptr _ _ _ _ _ hcl
  |agg _ xs vs hl h1 h2=>exact .agg _ (hs hl (he h) h2)
  |tup _ xs vs hl h2=>exact .tup _ (hs hl (he h) h2)
  | clo _ g xs ys vs us hl hl2 h1 h2 =>
   have hh:=he h;exact .clo _ _ _ (hs hl (λx hx=>hh x (TS _ hx)) h1) (hs hl2 (λx hx=>hh x (TU _ hx)) h2)
  |ifc _ t x v h1=>exact .ifc _ _ (ih h h1)
  |_=>first| (cases h;done)|constructor
theorem uT{rows:List (List AV)}{m i j:Nat}{row:List AV}{x:AV}{v:Value}(h:gW rows=some m)(hi:rows[i]?=some row)(hj:row[j]?=some x)
  (hv:RV w γ A bd x v):RV w γ A m x v:=by
 obtain⟨k,k1,k2⟩:=qO h row (R9 hi);obtain⟨k',k3,k4⟩:=qO k1 x (R9 hj);exact (C1 _ k3 hv).mono (Sz k4 k2)
theorem za{sz:Nat}:∀(n:Nat) (cs:List AV),n*sz<=cs.length ->
  (qw sz n cs).length=n/\∀(i:Nat) row,(qw sz n cs)[i]?=some row->row.length=sz/\∀(j:Nat) x,row[j]?=some x->cs[i*sz+j]?=some x:=by
 intro n
 induction n with
 |zero=>intro cs _;exact⟨rfl,λi row h=>by simp[qw]at h⟩
 | succ n ih =>
  intro cs h;rw[SA,Tq]at h;obtain⟨h1,h2⟩:=ih (cs.drop sz) (by simp;omega);simp only[qw,bg,bh];refine⟨by simp[h1],λi row hi=>?_⟩;cases i with
  | zero =>
   simp at hi;subst hi;refine⟨by simp;omega,λj x hj=>?_⟩;rw[Uv]at hj
   split at hj
   ·simpa using hj
   ·cases hj
  | succ i =>
   simp at hi;obtain⟨h3,h4⟩:=h2 i row hi;refine⟨h3,λj x hj=>?_⟩;have:=h4 j x hj;rw[ST]at this;rw[SA,Tq];rw[show i*sz+sz+j=sz+(i*sz+j) from by omega];exact this
theorem Rel.freeze(hr:Rel C A bd w γ hg nx){id sz ep:Nat}{rows:List (List AV)}{loose fz:Bool}(hid:hg id=.cells sz rows ep loose fz) :
  ∃γ',Rel C A bd w γ' (upd hg id (.cells sz rows ep loose true)) nx/\Stp w γ w γ'/\γ'=upd γ id { γ id with wr:=false }/\¬Mut γ' (γ id).blk:=by
 have hob:=hr.obj id;rw[hid]at hob;obtain⟨k1,k2,k3,k4,k5,k6,c,e,k7,k8,k9,k10⟩:=hob;have s:Stp w γ w (upd γ id { γ id with wr:=false }):=by
  refine⟨R5 _,rfl,rfl,rfl,λ_ _ _=>rfl,?_,?_,?_⟩
  ·rintro b _ ⟨j,h1,h2,h3⟩
   by_cases hj:j=id
   ·subst hj;simp at h2
   ·rw[cE _ _ hj]at h1 h2 h3;exact⟨j,h1,h2,h3⟩
  ·intro j hk
   by_cases hj:j=id
   ·subst hj;left;simp
   ·rw[cE _ _ hj];exact .inl ⟨rfl,rfl⟩
  ·intro j hk
   by_cases hj:j=id
   ·subst hj;simp
   ·rw[cE _ _ hj];exact⟨R5 _,λ_=>⟨rfl,rfl,rfl,rfl,rfl⟩⟩
 refine⟨_,hr.set rfl s (R5 _) ?_ (hr.lt id (by rw[k1];decide)) (λj hj hkj e=>hj (hr.inj j id hkj (by rw[k1];decide) e)) (hr.av id (by rw[k1];decide)) (λ_ _ _ _=>rfl),s,rfl,?_⟩
 ·simp only[ObjRel,upd_same];refine⟨k1,k2,k3,k4,k5,rfl,c,e,k7,k8,k9,λi j row x h1 h2=>?_⟩;obtain⟨a,v,b1,b2⟩:=k10 i j row x h1 h2;exact⟨a,v,b1,b2.step s⟩
 ·rintro⟨j,h1,h2,h3⟩
  by_cases hj:j=id
  ·subst hj;simp at h2
  ·rw[cE _ _ hj]at h1 h2 h3;exact hj (hr.inj j id h1 (by rw[k1];decide) h3)
theorem CS{ty e:TypeId}{n sz:Nat}{a:T->AV}{lo hi:T->Option AV}{t:T}{v:Value}{lv hv:Option Value}{g:G}
  (hr:Rel C A bd w γ hg nx) (hu:C.P.underlying ty=some (.array n e)) (hsz:szT C.P e=some sz) (hs0:0<sz) (hx:RV w γ A bd (a t) v)
  (hlo:OVR w γ A bd (lo t) lv) (hhi:OVR w γ A bd (hi t) hv) (agree:∀id∈ae (a t),hg id=g.h.get id) :
  dk C A bd w γ hg nx (Instr.sliceAt ty v lv hv none) g (jr n sz a lo hi t g):=by
 unfold jr;generalize a t=x at *;generalize lo t=lo at *;generalize hi t=hi at *
 split
 ·trivial
 ·rename_i h hh
  split
  ·trivial
  ·rename_i l hl;obtain⟨b1,b2,b3⟩:=cD (P:=C.P) (isSlice:=false) (len:=n) (cap:=n) (d:=0) (limM:=0) (mx:=none) (mv:=none) hlo hhi trivial (λ_=>rfl) (λh=>absurd rfl h)
    (λh=>absurd rfl h) hh (R5 _) hl
   have hhn:h<=n:=by omega
   have hrun:∀b o,v=.pointer (some (adr b o))->(Instr.sliceAt ty v lv hv none).run C.P w=.ok (.slice (some (if n=l then adr b o else adr b (o+l*sz))) (h - l) (n - l)) w:=by intro b o e;subst e;unfold Instr.sliceAt;simp[aF hu,Instr.sureAddr,b1,ba hsz,gL]
   cases hx with
   | tptr _ tag sz' rows i0 off0 b o cell ht hb hm ha hrl ho hw hcell hcl =>
    simp only[dV];cases hrow:rows[i0]? with
    |none=>trivial
    | some row =>
     simp only[aa,ay,bg]
     split
     ·rename_i hle;rw[SS]at hle;have hm1:l*sz+(h - l)*sz<=n*sz:=by rw[<-SA];exact Sw _ (by omega)
      obtain⟨c1,c2⟩:=za (sz:=sz) (h - l) (row.drop (off0+l*sz)) (by simp;omega);refine⟨_,hrun _ _ rfl,?_⟩
      by_cases hnl:n=l
      ·have e0:h - l=0:=by omega
       rw[e0,Sb hnl];exact .tnil _ tag sz _ _ ht
      ·rw[Sa hnl];have:=RV.tsl (w:=w) (γ:=γ) (A:=A) bd tag sz (qw sz (h - l) (row.drop (off0+l*sz))) b (o+i0*sz'+off0+l*sz) (n - l) (λi j=>cell i0 (off0+l*sz+(i*sz+j))) ht (by rw[c1];omega) hb hm ha
        (λi r hi=>(c2 i r hi).1) (λi j r y hi hj=>?_) (λi j r y hi hj=>?_) (λi j r y hi hj=>?_)
        (λr hr' y hy=>by
         obtain⟨i,hi⟩:=SE hr';obtain⟨j,hj⟩:=SE hy;have h9:=(c2 i r hi).2 j y hj;rw[ST]at h9;exact hcl row (R9 hrow) y (R9 h9))
       ·rwa [c1]at this
       all_goals
        have h9:=(c2 i r hi).2 j y hj;rw[ST]at h9
        first
        |exact ho _ _ _ _ hrow h9
        |exact hcell _ _ _ _ hrow h9
        | (have:=hw _ _ _ _ hrow h9
           rwa [show o+i0*sz'+off0+l*sz+i*sz+j=o+i0*sz'+(off0+l*sz+(i*sz+j)) from by omega])
     ·trivial
   | hptr _ id ep i off b o hk he h' =>
    have hagree:=agree id (by simp[ae]);simp only[G.get_eq,<-hagree];cases hid:hg id with
    | cells sz' rows ep' loose fz =>
     simp only[aa,dV]
     split
     ·rename_i hep;have hep:=aG hep;subst hep;cases hrow:rows[i]? with
      |none=>trivial
      | some row =>
       simp only[ay,bg]
       split
       ·rename_i hle;rw[SS]at hle;have hm1:l*sz+(h - l)*sz<=n*sz:=by rw[<-SA];exact Sw _ (by omega)
        obtain⟨c1,c2⟩:=za (sz:=sz) (h - l) (row.drop (off+l*sz)) (by simp;omega);generalize hch:qw sz (h - l) (row.drop (off+l*sz))=rs at *;cases htag:gW rs with
        |none=>trivial
        | some m =>
         dsimp only;have hob:=hr.obj id;rw[hid]at hob;obtain⟨k1,k2,k3,_⟩:=hob;obtain⟨q1,q2⟩:=h' k2.symm;obtain⟨γ',r1,r2,r3,r4⟩:=hr.freeze hid;refine⟨_,w,γ',id,_,hrun _ _ (by rw[q1,q2]),?_,r2,.inl ⟨rfl,r1⟩⟩;have hcell:∀(i' j:Nat) r y,rs[i']?=some r->r[j]?=some y->y.one=true/\∃v,w.cell? (adr (γ id).blk ((γ id).base+i*(γ id).sz+off+l*sz+i'*sz+j))=some v/\RV w γ A bd y v:=by intro i' j r y hi hj;have h9:=(c2 i' r hi).2 j y hj;rw[ST]at h9;have:=tL hr hid hrow _ y h9;rwa [<-k3,show (γ id).base+i*(γ id).sz+(off+l*sz+(i'*sz+j))=(γ id).base+i*(γ id).sz+off+l*sz+i'*sz+j from by omega]at this
         have hmb:m<=bd:=by refine eW htag λr hr' k hk=>eW hk λy hy k' hk'=>?_;obtain⟨i',hi⟩:=SE hr';obtain⟨j,hj⟩:=SE hy;obtain⟨_,v,_,h3⟩:=hcell i' j r y hi hj;exact yI _ hk' h3
         by_cases hnl:n=l
         ·have e0:rs=[]:=by rw[<-UB];omega
          rw[Sb hnl,show h - l=0 from by omega,e0];exact .tnil _ m sz _ _ hmb
         ·rw[Sa hnl];subst q1;have:=RV.tsl (w:=w) (γ:=γ') (A:=A) bd m sz rs (γ id).blk ((γ id).base+i*(γ id).sz+off+l*sz) (n - l)
           (λi' j=>(w.cell? (adr (γ id).blk ((γ id).base+i*(γ id).sz+off+l*sz+i'*sz+j))).getD undef) hmb (by rw[c1];omega)
           (hr.lt id (by rw[k1];decide)).2 r4 (hr.av id (by rw[k1];decide) m)
           (λi r hi=>(c2 i r hi).1) (λi j r y hi hj=>(hcell i j r y hi hj).1) (λi j r y hi hj=>?_) (λi j r y hi hj=>?_)
           (λr hr' y hy=>by
            obtain⟨i,hi⟩:=SE hr';obtain⟨j,hj⟩:=SE hy;obtain⟨_,v,_,h3⟩:=hcell i j r y hi hj;obtain⟨k,k1,k2⟩:=qO htag r hr';obtain⟨k',k3,_⟩:=qO k1 y hy;exact Ff _ k3 h3)
          ·rwa [c1]at this
          ·obtain⟨_,v,h3,_⟩:=hcell i j r y hi hj;rw[h3];rfl
          ·obtain⟨_,v,h3,h4⟩:=hcell i j r y hi hj;rw[h3];exact (uT htag hi hj h4).step r2
       ·trivial
     ·trivial
    |_=>trivial
   |_=>trivial
end
end Hx
end
section
namespace Hx
open Go
section
variable {C:Cfg}{A:Nat->Nat->Prop}{bd:Nat}{w w':World}{γ γ':Gm}{hg:Nat->AObj}{nx:Nat}
theorem kT{s:Sem Value}{y:AV}(h:qi s=some y)(P:Program)(w:World):∃v,s.run P w=.ok v w/\RV w γ A bd y v:=by
 unfold qi at h
 split at h
 ·injection h with h;subst h;exact⟨_,rfl,.int _ _ _⟩
 ·injection h with h;subst h;exact⟨_,rfl,.bool _ _⟩
 ·cases h
theorem Fv{P:Program}{op:BinOp}{k:IntKind}{m n r:Nat}(hs:mB k m n=true)
  (h:(match op with
    |.and=>some (AV.int k (.ofNat (Nat.land m n)))
    |.or=>some (.int k (.ofNat (Nat.lor m n)))
    |.xor=>some (.int k (.ofNat (Nat.xor m n)))
    |.andNot=>some (.int k (.ofNat (Nat.xor m (Nat.land m n))))
    |_=>none)=some (.int k (.ofNat r))):(Op.intBits op k (.ofNat m) (.ofNat n)).run P w=.ok (.int k (.ofNat r)) w:=by
 have hbits:k.bits=64/\m<2 ^ 64/\n<2 ^ 64/\∀x:Nat,x<2 ^ 64->(k=.i64->x<2 ^ 63)->k.wrap (x:Int)=(x:Int):=by
  unfold mB at hs;cases k<;>simp only[R7,Tg,TC]at hs
  ·exact⟨rfl,by omega,by omega,λx _ h=>qZ x (by have:=h rfl;omega)⟩
  ·refine⟨rfl,by omega,by omega,λx h _=>?_⟩;rw[<-iN];show (Int.ofNat (x % 18446744073709551616))=_;rw[TK (by omega)];rfl
 have hb63:k=.i64->m<2 ^ 63/\n<2 ^ 63:=by intro e;subst e;simp only[mB,R7,Tg]at hs;omega
 obtain⟨hb,hm,hn,hw⟩:=hbits;have e1:(BitVec.ofInt k.bits (Int.ofNat m)).toNat=m:=by rw[hb];simp only[TN,BitVec.ofInt_natCast,BitVec.toNat_ofNat];exact TK hm
 have e2:(BitVec.ofInt k.bits (Int.ofNat n)).toNat=n:=by rw[hb];simp only[TN,BitVec.ofInt_natCast,BitVec.toNat_ofNat];exact TK hn
 have fin:∀(z:BitVec k.bits) (q:Nat),z.toNat=q->q<2 ^ 64->(k=.i64->q<2 ^ 63)->q=r ->
   (Sem.pure (Value.int k (k.wrap z.toNat)):Sem Value).run P w=.ok (.int k (.ofNat r)) w:=by
  intro z q h1 h2 h3 h4;rw[h1,hw q h2 h3,h4];rfl
 unfold Op.intBits;cases op<;>first| (cases h;done)|skip
 case and =>
  injection h with h;injection h with _ h;injection h with h;exact fin _ (m &&& n) (by rw[BitVec.toNat_and,e1,e2]) (Vv _ hn) (λe=>Vv _ (hb63 e).2) h
 case or =>
  injection h with h;injection h with _ h;injection h with h;exact fin _ (m ||| n) (by rw[BitVec.toNat_or,e1,e2]) (Ut hm hn) (λe=>Ut (hb63 e).1 (hb63 e).2) h
 case xor =>
  injection h with h;injection h with _ h;injection h with h;exact fin _ (m ^^^ n) (by rw[BitVec.toNat_xor,e1,e2]) (Vw hm hn) (λe=>Vw (hb63 e).1 (hb63 e).2) h
 case andNot =>
  injection h with h;injection h with _ h;injection h with h;have hx:∀(x y:BitVec k.bits),x &&& ~~~y=x ^^^ (x &&& y):=by intro x y;ext i hi;simp only[BitVec.getElem_and,BitVec.getElem_not,BitVec.getElem_xor];cases x[i]<;>cases y[i]<;>rfl
  exact fin _ (m ^^^ (m &&& n)) (by rw[hx,BitVec.toNat_xor,BitVec.toNat_and,e1,e2]) (Vw hm (Vv _ hn))
   (λe=>Vw (hb63 e).1 (Vv _ (hb63 e).2)) h
theorem FU{P:Program}{op:BinOp}{ty:TypeId}{k k':IntKind}{a b:Int}{y:AV}(h:(gD op).run k a k' b=some y) :
  ∃v,(binOp op ty (.int k a) (.int k' b)).run P w=.ok v w/\RV w γ A bd y v:=by
 have hk:∀{α:Type} {x:Option α} {y:α},aB (cV k k') x none=some y->k=k'/\x=some y:=by
  intro α x y h;rw[aa,qe]at h
  split at h
  ·rename_i h1;exact⟨by simpa using h1,h⟩
  ·cases h
 cases op
 case add|sub|mul =>
  obtain⟨rfl,h1⟩:=hk h;injection h1 with h1;subst h1;refine⟨_,by simp only[binOp,Op.intArith,ne_eq,not_true,if_false];rfl,?_⟩;rw[iN];exact .int _ _ _
 case quo =>
  obtain⟨rfl,h1⟩:=hk h;clear h;unfold OJ at h1;simp only[binOp,ne_eq,not_true,if_false]
  split at h1
  ·rename_i m n;injection h1 with h1;subst h1;refine⟨_,?_,by rw[iN];exact .int _ _ _⟩;unfold Op.intDiv;rw[Sa (by simp only[TN];omega)]
   rfl
  ·exact kT h1 P w
 case rem =>
  obtain⟨rfl,h1⟩:=hk h;clear h;unfold ON at h1;simp only[binOp,ne_eq,not_true,if_false]
  split at h1
  ·rename_i m n;injection h1 with h1;subst h1;refine⟨_,?_,.int _ _ _⟩;unfold Op.intDiv;rw[Sa (by simp only[TN];omega)]
   rfl
  ·exact kT h1 P w
 case and|or|xor|andNot =>
  obtain⟨rfl,h1⟩:=hk h;clear h;unfold Ph at h1;simp only[binOp,ne_eq,not_true,if_false]
  split at h1
  ·rename_i m n;rw[aa]at h1
   split at h1
   ·rename_i hs;have h0:=h1;injection h1 with h1;subst h1;exact⟨_,Fv hs h0,.int _ _ _⟩
   ·exact kT h1 P w
  ·exact kT h1 P w
 case shl =>
  change MW k a b=some y at h;unfold MW at h;simp only[binOp]
  split at h
  ·rename_i m n;injection h with h;subst h;refine⟨_,?_,by rw[iN];exact .int _ _ _⟩;unfold Op.shift;rw[Sa (by simp only[TN];omega)];have:(Int.ofNat n).toNat=n:=rfl;simp only[this,SV];congr 3
  ·exact kT (s:=Op.shift .shl k a k' b) h P w
 case shr =>
  change MX k a b=some y at h;unfold MX at h;simp only[binOp]
  split at h
  ·rename_i m n;injection h with h;subst h;refine⟨_,?_,.int _ _ _⟩;unfold Op.shift;rw[Sa (by simp only[TN];omega)];have:(Int.ofNat n).toNat=n:=rfl;simp only[this,SV];congr 2;have e:(2:Int) ^ (min n k.bits)=((2 ^ (min n k.bits):Nat):Int):=by simp
   rw[e,Int.fdiv_eq_ediv_of_nonneg _ (UJ _)]
   rfl
  ·exact kT (s:=Op.shift .shr k a k' b) h P w
 all_goals
  obtain⟨rfl,h1⟩:=hk h;injection h1 with h1;subst h1;refine⟨_,by simp only[binOp,Op.intCmp,ne_eq,not_true,if_false];rfl,?_⟩;simp only[qH,mo,notb_eq]
 case eql=>exact .bool _ _
 case neq =>
  rw[show (a != b) = !decide (a=b) from by simp[bne];rfl];exact .bool _ _
 case lss=>exact .bool _ _
 case leq =>
  rw[show decide (a<=b) = !decide (b<a) from by rw[Tz];simp];exact .bool _ _
 case gtr=>exact .bool _ _
 case geq =>
  rw[show decide (a >= b) = !decide (a<b) from by rw[Tz];simp];exact .bool _ _
end
end Hx
end
section
namespace Hx
open Go
section
variable {C:Cfg}{A:Nat->Nat->Prop}{bd:Nat}{w w':World}{γ γ':Gm}{hg:Nat->AObj}{nx:Nat}
theorem gz{P:Program}{b:Nat}{o:Obj}(h:w.heap[b]?=some o)(hc:∀c e f,o≠.cells c e f):(getObj b).run P w=.ok o w:=by cases o<;>first| (exact absurd rfl (hc _ _ _))|simp[getObj,Sem.run,h]
theorem iZ{P:Program}{b:Nat}{o o':Obj}(h:w.heap[b]?=some o)(hc:∀c e f,o≠.cells c e f):(setObj b o').run P w=.ok () (World.setBlk w b o'):=by cases o<;>first| (exact absurd rfl (hc _ _ _))|simp[setObj,Sem.run,h,World.setBlk]
theorem Oi{argTypes:Array TypeId}{ty t:TypeId}{x:AV}{v:Value}{g:G}(hr:Rel C A bd w γ hg nx)(h0:argTypes[0]?=some t)
  (hx:RV w γ A bd x v) (agree:mq C.P t=.map->∀id∈wn x,hg id=g.h.get id) :
  ValSim C A bd w γ (Builtin.len_ argTypes ty #[v]) (dO (mq C.P t) x g):=by
 have a0:(#[v]:Array Value)[0]?=some v:=rfl;unfold Builtin.len_ mq;cases hu:C.P.underlying t with
 |none=>trivial
 | some d =>
  cases d<;>try trivial
  case array n e =>
   refine⟨goInt n,?_,.int _ _ _⟩;simp only[h0,a0,Sn,aF hu,Sc]
   rfl
  case slice e =>
   simp only[dO];cases hx with
   |nils=>exact⟨goInt 0,by simp[h0,aF hu],.int _ _ _⟩
   |esl _ a=>exact⟨goInt 0,by simp[h0,aF hu],.int _ _ _⟩
   | tsl _ tag sz rows b o cap cell ht hc hb hm ha hrl ho hw h =>
    refine⟨goInt rows.length,by simp[h0,aF hu],?_⟩;rw[ay];exact .int _ _ _
   |tnil _ tag sz a cap ht=>exact⟨goInt 0,by simp[h0,aF hu],.int _ _ _⟩
   |hsl _ id ep off len lim b o cap hk he hc h=>exact⟨goInt len,by simp[h0,aF hu],.int _ _ _⟩
   |_=>trivial
  case string =>
   simp only[dO];cases hx with
   |str _ s=>exact⟨goInt s.size,by simp[h0,aF hu],.int _ _ _⟩
   |_=>trivial
  case map kt et =>
   simp only[dO];cases hx with
   |nilm=>exact⟨goInt 0,by simp[h0,aF hu],.int _ _ _⟩
   | hmap _ id b hk hb =>
    have hagree:=agree (by simp[mq,hu]) id (by simp[wn]);simp only[G.get_eq,<-hagree];cases hid:hg id with
    | map es =>
     have hob:=hr.obj id;rw[hid]at hob;obtain⟨k1,k2,esC,k3,k4,k5⟩:=hob;subst hb;refine⟨goInt es.length,?_,by rw[ay];exact .int _ _ _⟩;simp[h0,aF hu,gz k3 (by simp),k4]
    |_=>trivial
   |_=>trivial
theorem NM{argTypes:Array TypeId}{ty t e:TypeId}{x:AV}{v:Value}{g:G}(hr:Rel C A bd w γ hg nx)(h0:argTypes[0]?=some t)(hu:C.P.underlying t=some (.slice e))
  (hx:RV w γ A bd x v) (agree:∀id∈ae x,hg id=g.h.get id) :
  ValSim C A bd w γ (Builtin.cap_ argTypes ty #[v]) (Kz x g):=by
 have a0:(#[v]:Array Value)[0]?=some v:=rfl;unfold Kz;cases hx with
 |nils=>exact⟨goInt 0,by simp[Builtin.cap_,h0,aF hu],.int _ _ _⟩
 |esl _ a=>exact⟨goInt 0,by simp[Builtin.cap_,h0,aF hu],.int _ _ _⟩
 | hsl _ id ep off len lim b0 o0 cap0 hk he hc0 h0' =>
  have hagree:=agree id (by simp[ae]);simp only[G.get_eq,<-hagree];cases hid:hg id with
  | cells sz rows ep' loose fz =>
   simp only[aa]
   split
   ·rename_i hcond;simp only[R7,SY,notb_eq,SP]at hcond;obtain⟨h1,h2⟩:=hcond;have h1:=aG h1;subst h1;have hob:=hr.obj id;rw[hid]at hob;obtain⟨k1,k2,k3,k4,k5,_⟩:=hob;obtain⟨c1,c2,hco⟩:=h0' k2.symm;refine⟨goInt cap0,by simp[Builtin.cap_,h0,aF hu],?_⟩;have e:(lim.getD (bz rows - off))=cap0:=by
     rw[ay];unfold ju at hco;cases lim with
     |none=>simp at h2;have:=k5.1 h2;simp only[Option.getD];dsimp only at hco;omega
     |some c=>simp only[Option.getD];exact hco.1.symm
    rw[e];exact .int _ _ _
   ·trivial
  |_=>trivial
 |_=>trivial
theorem Ou{argTypes:Array TypeId}{ty:TypeId}{x y:AV}{v u:Value}(hx:RV w γ A bd x v)(hy:RV w γ A bd y u) :
  ValSim C A bd w γ (Builtin.max_ argTypes ty #[v,u]) (match x with
   | .int k m=>match y with
    |.int k' n=>aB (cV k k') (.val (.int k (aB (ye m n) n m))) .fail
    |_=>.fail
   |_=>.fail):=by
 cases hx with
 | int _ k m =>
  cases hy with
  | int _ k' n =>
   dsimp only;rw[aa]
   split
   ·refine⟨.int k (if n > m then n else m),by simp[Builtin.max_,Builtin.max2],?_⟩;rw[aa,mo];simp only[Sg,gt_iff_lt];exact .int _ _ _
   ·trivial
  |_=>trivial
 |_=>trivial
theorem Ov{argTypes:Array TypeId}{ty:TypeId}{x y:AV}{v u:Value}(hx:RV w γ A bd x v)(hy:RV w γ A bd y u) :
  ValSim C A bd w γ (Builtin.min_ argTypes ty #[v,u]) (match x with
   | .int k m=>match y with
    |.int k' n=>aB (cV k k') (.val (.int k (aB (ye n m) n m))) .fail
    |_=>.fail
   |_=>.fail):=by
 cases hx with
 | int _ k m =>
  cases hy with
  | int _ k' n =>
   dsimp only;rw[aa]
   split
   ·refine⟨.int k (if n<m then n else m),by simp[Builtin.min_,Builtin.min2],?_⟩;rw[aa,mo];simp only[Sg];exact .int _ _ _
   ·trivial
  |_=>trivial
 |_=>trivial
end
end Hx
end
section
namespace Hx
open Go
def iI:TypeDesc->Value->Bool
 |.bool,.bool _=>true
 |.int k,.int k' _=>decide (k=k')
 |.string,.string _=>true
 |_,_=>false
def aO:List TypeDesc->List Value->Bool
 |[],[]=>true
 |d::ds,v::vs=>iI d v&&aO ds vs
 |_,_=>false
def eqV:Value->Value->Bool
 |.int _ a,.int _ b=>a == b
 |.bool a,.bool b=>a == b
 |.string a,.string b=>a == b
 |_,_=>false
def nT:List Value->List Value->Bool
 |[],[]=>true
 |a::as,b::bs=>eqV a b&&nT as bs
 |_,_=>false
def eJ(P:Program)(t:TypeId):Bool:=match rL P t with|some b=>b|none=>false
def mkV(P:Program)(t:TypeId)(cs:List Value):Value:=if eJ P t then .agg cs.toArray else cs.headD undef
theorem a_:∀{ds:List TypeDesc} {vs:List Value},aO ds vs=true->vs.length=ds.length:=by
 intro ds
 induction ds with
 |nil=>intro vs h;cases vs<;>simp_all [aO]
 | cons d ds ih=>intro vs h;cases vs with
  |nil=>simp[aO]at h
  |cons v vs=>simp only[aO,R7]at h;simp[ih h.2]
theorem fu{d1 d2:List TypeDesc}:∀{vs:List Value},aO (d1++d2) vs=true->aO d1 (vs.take d1.length)=true/\aO d2 (vs.drop d1.length)=true:=by
 induction d1 with
 |nil=>intro vs h;simpa [aO] using h
 | cons d ds ih =>
  intro vs h;cases vs with
  |nil=>simp[aO]at h
  | cons v vs =>
   simp only[Sd,aO,R7]at h;obtain⟨h1,h2⟩:=ih h.2;simp only[SJ,Vp,Vo,aO,R7];exact⟨⟨h.1,h1⟩,h2⟩
theorem xD:∀{a1 a2 b1 b2:List Value},a1.length=b1.length->nT (a1++a2) (b1++b2)=(nT a1 b1&&nT a2 b2):=by
 intro a1
 induction a1 with
 |nil=>intro a2 b1 b2 h;cases b1<;>simp_all [nT]
 | cons a as ih =>
  intro a2 b1 b2 h;cases b1 with
  |nil=>simp at h
  |cons b bs=>simp only[Sd,nT,ih (Nat.succ.inj h),Bool.and_assoc]
section
variable {P:Program}
def pt:TypeDesc->Bool
 |.struct _|.array _ _=>true
 |_=>false
theorem eK{t:TypeId}{d:TypeDesc}(h:P.underlying t=some d) :
  eJ P t=pt d/\rL P t=some (eJ P t):=by
 unfold eJ rL;cases d<;>simp[h,pt]
theorem tJ{w:World}{t:TypeId}{d:TypeDesc}{n off:Nat}{xs:Array Value}(hu:P.underlying t=some d)(hn:szT P t=some n)(h1:eJ P t=false->n=1)
  (hle:eJ P t=false->off+n<=xs.size):(part t xs off).run P w=.ok (mkV P t ((xs.toList.drop off).take n)) w:=by
 obtain⟨_,ha⟩:=eK hu;unfold mkV;cases hg:eJ P t with
 | true =>
  rw[hg]at ha;have e:(xs.extract off (off+n))=((xs.toList.drop off).take n).toArray:=by apply VF;simp[Array.toList_extract,List.extract]
  simp[part,mG ha,ba hn,e]
 | false =>
  rw[hg]at ha;have hn1:=h1 hg;subst hn1;have hl:off<xs.size:=by have:=hle hg;omega
  have e:((xs.toList.drop off).take 1).headD undef=xs[off]:=by rw[List.headD_eq_head?_getD,List.head?_take,Sa (by decide),List.head?_drop];simp[hl]
  simp only[part,Sn,mG ha,Sc,TC,if_false,e];simp[hl]
theorem iV{d:Nat}{t:TypeId}{ds:List TypeDesc}(h:nk P d t=some ds):∃k,P.underlying t=some k/\(eJ P t=false->ds.length=1):=by
 cases d with
 |zero=>cases h
 | succ d =>
  unfold nk at h;cases hu:P.underlying t with
  |none=>rw[hu]at h;cases h
  | some k =>
   refine⟨k,rfl,λhg=>?_⟩;obtain⟨h1,_⟩:=eK hu;rw[hg]at h1;rw[hu]at h;cases k<;>simp[pt]at h1<;>simp only[aa]at h<;>split at h<;>first| (cases h;done)| (injection h with h;subst h;rfl)
theorem FM{w:World}{dd:Nat}{rec:TypeId->Option (List TypeDesc)}(hinfo:∀t ds,rec t=some ds->∃k,P.underlying t=some k/\(eJ P t=false->ds.length=1))
  (ih:∀t ds,rec t=some ds->∀(xs ys:List Value),aO ds xs=true->aO ds ys=true->(Op.equalIn dd t (mkV P t xs) (mkV P t ys)).run P w=.ok (nT xs ys) w)
  {xs ys:Array Value}:∀(fs:List Field) (k:Nat) (ds:List TypeDesc),uG P rec fs k=some ds->aO ds (xs.toList.drop k)=true->aO ds (ys.toList.drop k)=true ->
   (Op.eqFields dd xs ys fs).run P w=.ok (nT (xs.toList.drop k) (ys.toList.drop k)) w:=by
 intro fs
 induction fs with
 | nil =>
  intro k ds h hx hy;simp only[uG]at h;injection h with h;subst h;have h1:=a_ hx;have h2:=a_ hy;rw[SD h1,SD h2]
  rfl
 | cons f fs ihf =>
  intro k ds h hx hy;simp only[uG]at h
  split at h
  ·rename_i ds1 h1
   split at h
   ·rename_i r hr;rw[aa]at h
    split at h
    ·rename_i hcond;simp only[R7,bne_iff_ne,ne_eq,beq_iff_eq]at hcond;obtain⟨⟨hname,hoff⟩,hsz⟩:=hcond;have hoff:=aG hoff;injection h with h;subst h;obtain⟨x1,x2⟩:=fu hx;obtain⟨y1,y2⟩:=fu hy;rw[TO]at x2 y2;have lx:=a_ hx;have ly:=a_ hy;simp at lx ly;obtain⟨kd,hu,hone⟩:=hinfo _ _ h1;have p1:(part f.type xs f.offset).run P w=.ok (mkV P f.type ((xs.toList.drop k).take ds1.length)) w:=by rw[hoff];exact tJ hu hsz hone λhg=>by have:=hone hg;omega
     have p2:(part f.type ys f.offset).run P w=.ok (mkV P f.type ((ys.toList.drop k).take ds1.length)) w:=by rw[hoff];exact tJ hu hsz hone λhg=>by have:=hone hg;omega
     have p3:=ih _ _ h1 _ _ x1 y1;have p4:=ihf _ _ hr x2 y2;simp only[Op.eqFields,ne_eq,hname,not_false_eq_true,if_true,Sn,p1,p2,p3,Sc];have e:=xD (a1:=(xs.toList.drop k).take ds1.length) (a2:=xs.toList.drop (k+ds1.length)) (b1:=(ys.toList.drop k).take ds1.length) (b2:=ys.toList.drop (k+ds1.length))
      (by rw[a_ x1,a_ y1])
     rw[<-TO,<-TO,SW,SW]at e;rw[e,TO,TO];cases hq:nT ((xs.toList.drop k).take ds1.length) ((ys.toList.drop k).take ds1.length)
     ·simp
     ·simpa using p4
    ·cases h
   ·cases h
  ·cases h
theorem AQ{w:World}{dd:Nat}{e:TypeId}{de:List TypeDesc}{kd:TypeDesc}(hu:P.underlying e=some kd)(hone:eJ P e=false->de.length=1)(hsz:szT P e=some de.length)
  (ih:∀(xs ys:List Value),aO de xs=true->aO de ys=true->(Op.equalIn dd e (mkV P e xs) (mkV P e ys)).run P w=.ok (nT xs ys) w)
  {xs ys:Array Value}:∀(n i:Nat),aO (List.replicate n de).flatten (xs.toList.drop (i*de.length))=true->aO (List.replicate n de).flatten (ys.toList.drop (i*de.length))=true ->
   (Op.eqItems dd e de.length xs ys (List.range' i n)).run P w=.ok (nT (xs.toList.drop (i*de.length)) (ys.toList.drop (i*de.length))) w:=by
 intro n
 induction n with
 | zero =>
  intro i hx hy;have h1:=a_ hx;have h2:=a_ hy;rw[SD (l:=xs.toList.drop _) (by simpa using h1),SD (l:=ys.toList.drop _) (by simpa using h2)]
  rfl
 | succ n ihn =>
  intro i hx hy;rw[Ue,Ug]at hx hy;obtain⟨x1,x2⟩:=fu hx;obtain⟨y1,y2⟩:=fu hy;have lx:=a_ x1;have ly:=a_ y1;simp at lx ly;rw[TO]at x2 y2;have em:i*de.length+de.length=(i+1)*de.length:=by rw[SA,Tq]
  rw[em]at x2 y2;have p1:(part e xs (i*de.length)).run P w=.ok (mkV P e ((xs.toList.drop (i*de.length)).take de.length)) w:=tJ hu hsz hone λhg=>by have:=hone hg;omega
  have p2:(part e ys (i*de.length)).run P w=.ok (mkV P e ((ys.toList.drop (i*de.length)).take de.length)) w:=tJ hu hsz hone λhg=>by have:=hone hg;omega
  have p3:=ih _ _ x1 y1;have p4:=ihn (i+1) x2 y2;rw[List.range'_succ];simp only[Op.eqItems,Sn,p1,p2,p3,Sc];have ee:=xD (a1:=(xs.toList.drop (i*de.length)).take de.length) (a2:=xs.toList.drop ((i+1)*de.length)) (b1:=(ys.toList.drop (i*de.length)).take de.length) (b2:=ys.toList.drop ((i+1)*de.length))
   (by rw[a_ x1,a_ y1])
  rw[<-em,<-TO,<-TO,SW,SW,TO,TO,em]at ee;rw[ee];cases hq:nT ((xs.toList.drop (i*de.length)).take de.length) ((ys.toList.drop (i*de.length)).take de.length)
  ·simp
  ·simpa using p4
theorem FB{t:TypeId}{n:Nat}(h:szT P t=some n):P.cellsOf t=n/\∃i,P.info? t=some i:=by
 unfold szT at h;unfold Program.cellsOf;cases hi:P.info? t with
 |none=>rw[hi]at h;cases h
 |some i=>rw[hi]at h;simp at h;simp[h]
theorem Cg(D:Nat):∀(d:Nat) (t:TypeId) (ds:List TypeDesc),nk P d t=some ds->∀(w:World) (xs ys:List Value),aO ds xs=true->aO ds ys=true ->
  (Op.equalIn (D+d) t (mkV P t xs) (mkV P t ys)).run P w=.ok (nT xs ys) w:=by
 intro d
 induction d with
 |zero=>intro t ds h;cases h
 | succ d ih =>
  intro t ds h w xs ys hx hy;unfold nk at h;have one:∀k,P.underlying t=some k->nj k=true->pt k=false->ds=[k]->(Op.equalIn (D+(d+1)) t (mkV P t xs) (mkV P t ys)).run P w=.ok (nT xs ys) w:=by
   intro k hu hk hag hds;obtain⟨h1,_⟩:=eK hu;subst hds;have hm:∀zs,mkV P t zs=zs.headD undef:=by intro zs;unfold mkV;rw[h1,hag];rfl
   rw[hm,hm];have lx:=a_ hx;have ly:=a_ hy
   match xs,ys,lx,ly with
   | [x],[y],_,_ =>
    simp only[aO,VC]at hx hy;simp only[List.headD_cons,nT,VC,<-TZ];cases k<;>simp[nj]at hk<;>cases x<;>simp[iI]at hx<;>cases y<;>simp[iI]at hy
    ·simp[Op.equalIn,aF hu,eqV]
    ·subst hx;subst hy;simp[Op.equalIn,aF hu,eqV]
    ·simp[Op.equalIn,aF hu,eqV]
  cases hu:P.underlying t with
  |none=>rw[hu]at h;cases h
  | some k =>
   rw[hu]at h;cases k
   case struct fs =>
    simp only[aa]at h
    split at h
    ·cases h
    ·rename_i hst;have hst:P.stoodInHeld t=false:=by simpa using hst
     have hfs:P.fieldsOf t=fs:=by simp[Program.fieldsOf,hu]
     have hm:∀zs,mkV P t zs=.agg zs.toArray:=by intro zs;unfold mkV;rw[(eK hu).1];rfl
     rw[hm,hm,<-TZ,run_equalIn_struct w (D+d) t _ _ (by rw[hfs];exact hu) hst,hfs];have:=FM (P:=P) (w:=w) (dd:=D+d) (rec:=nk P d) (λt ds h=>iV h) (λt ds h xs ys hx hy=>ih t ds h w xs ys hx hy) (xs:=xs.toArray) (ys:=ys.toArray)
      fs.toList 0 ds h (by simpa using hx) (by simpa using hy)
     simpa using this
   case array n e =>
    simp only at h
    split at h
    ·rename_i de hde;simp only[aa]at h
     split at h
     ·rename_i hsz;injection h with h;subst h;have hsz:szT P e=some de.length:=by simpa using hsz
      obtain⟨kd,hue,hone⟩:=iV hde;obtain⟨hc,i,hi⟩:=FB hsz;have hm:∀zs,mkV P t zs=.agg zs.toArray:=by intro zs;unfold mkV;rw[(eK hu).1];rfl
      rw[hm,hm,<-TZ,run_equalIn_array w (D+d) _ _ hu hi,hc,List.range_eq_range'];have:=AQ (P:=P) (w:=w) (dd:=D+d) hue hone hsz (λxs ys hx hy=>ih e de hde w xs ys hx hy) (xs:=xs.toArray) (ys:=ys.toArray) n 0 (by simpa using hx) (by simpa using hy);simpa using this
     ·cases h
    ·cases h
   all_goals
    simp only[aa]at h
    split at h
    ·rename_i hk;injection h with h;exact one _ hu hk rfl h.symm
    ·cases h
end
end Hx
end
section
namespace Hx
open Go
section
variable {C:Cfg}{A:Nat->Nat->Prop}{bd:Nat}{w w':World}{γ γ':Gm}{hg:Nat->AObj}{nx:Nat}
theorem RVs.tail{x:AV}{xs:List AV}{v:Value}{vs:List Value}(h:RVs w γ A bd (x::xs) (v::vs)):RV w γ A bd x v/\RVs w γ A bd xs vs :=
 ⟨h.2 0 x v rfl rfl,by have:=h.1;simp at this;exact this,λi y u hy hu=>h.2 (i+1) y u (by simpa using hy) (by simpa using hu)⟩
theorem Bv{d:TypeDesc}{x:AV}{v:Value}(h:pu d x=true)(hx:RV w γ A bd x v):iI d v=true:=by cases d<;>cases hx<;>simp_all [pu,iI,qe]
theorem uL:∀{ds:List TypeDesc} {xs:List AV} {vs:List Value},dU ds xs=true->RVs w γ A bd xs vs->aO ds vs=true:=by
 intro ds
 induction ds with
 | nil =>
  intro xs vs h hx;cases xs with
  | nil=>have:=hx.1;cases vs with
   |nil=>rfl
   |cons v vs=>simp at this
  |cons x xs=>cases h
 | cons d ds ih =>
  intro xs vs h hx;cases xs with
  |nil=>cases h
  | cons x xs =>
   cases vs with
   |nil=>have:=hx.1;simp at this
   | cons v vs =>
    obtain⟨h1,h2⟩:=hx.tail;simp only[dU,aa]at h
    split at h
    ·rename_i hk;simp only[aO,R7];exact⟨Bv hk h1,ih h h2⟩
    ·cases h
theorem wZ{x y:AV}{v u:Value}{b:Bool}(h:mP x y=some b)(hx:RV w γ A bd x v)(hy:RV w γ A bd y u):eqV v u=b:=by
 cases hx<;>cases hy<;>simp only[mP]at h<;>first| (cases h;done)|skip
 ·injection h with h;subst h;rename_i a b;cases a<;>cases b<;>rfl
 ·rw[aa]at h
  split at h
  ·injection h with h;subst h;simp[eqV,qH];rfl
  ·cases h
 ·injection h with h;subst h;simp only[eqV];rename_i s1 s2;obtain⟨⟨x⟩⟩:=s1;obtain⟨⟨y⟩⟩:=s2;show ((⟨x⟩:Array UInt8) == ⟨y⟩)=_;rw[Tz];simp
theorem uy:∀{xs ys:List AV} {vs us:List Value} {b:Bool},dg xs ys=some b->RVs w γ A bd xs vs->RVs w γ A bd ys us->nT vs us=b:=by
 intro xs
 induction xs with
 | nil =>
  intro ys vs us b h hx hy;cases ys with
  | nil =>
   simp only[dg]at h;injection h with h;subst h;have h1:=hx.1;have h2:=hy.1;cases vs<;>cases us<;>simp_all [nT]
  |cons y ys=>cases h
 | cons x xs ih =>
  intro ys vs us b h hx hy;cases ys with
  |nil=>cases h
  | cons y ys =>
   cases vs with
   |nil=>have:=hx.1;simp at this
   | cons v vs =>
    cases us with
    |nil=>have:=hy.1;simp at this
    | cons u us =>
     obtain⟨x1,x2⟩:=hx.tail;obtain⟨y1,y2⟩:=hy.tail;simp only[dg]at h
     split at h
     ·rename_i p q hp hq;injection h with h;subst h;simp only[nT,wZ hp x1 y1,ih hq x2 y2,aa];cases p<;>simp
     ·cases h
theorem uZ{xs:List AV}{v:Value}(h:RV w γ A bd (.agg xs) v):∃vs,v=.agg vs/\RVs w γ A bd xs vs.toList:=by
 cases h with
 |agg _ _ vs hl h1 h2=>exact⟨vs,rfl,by simpa using hl,λi x u hx hu=>h2 i x u hx (by simpa using hu)⟩
theorem FL{t:TypeId}{ds:List TypeDesc}{xs ys:Array Value}(h:kZ C.P t=some ds)(hag:eJ C.P t=true)(hx:aO ds xs.toList=true)(hy:aO ds ys.toList=true) :
  C.P.eqGuardType C.P.depth t=false/\(Op.equal t (.agg xs) (.agg ys)).run C.P w=.ok (nT xs.toList ys.toList) w:=by
 unfold kZ at h;rw[aa]at h
 split at h
 ·cases h
 ·rename_i hg;refine⟨by simpa using hg,?_⟩;have:=Cg (P:=C.P) 9992 8 t ds h w xs.toList ys.toList hx hy;unfold mkV at this;rw[hag]at this;simpa [Op.equal,Op.maxDepth] using this
theorem mE(t:TypeId)(x y:Value):Op.equal t x y=Op.equalIn (9999+1) t x y:=rfl
def EqFin(C:Cfg)(w:World)(ty:TypeId)(xo yo:Operand)(va vb:Value)(r:Bool):Prop :=
 (∀op,(eqGuard op ty xo yo va vb).run C.P w=.ok () w)/\(binOp .eql ty va vb).run C.P w=.ok (.bool r) w/\(binOp .neq ty va vb).run C.P w=.ok (.bool (!r)) w
theorem EqFin.mk'{ty:TypeId}{xo yo:Operand}{va vb:Value}{r:Bool}(h1:∀op,(eqGuard op ty xo yo va vb).run C.P w=.ok () w)(h2:(Op.equal ty va vb).run C.P w=.ok r w)
  (h3:binOp .eql ty va vb=(do pure (.bool (<-Op.equal ty va vb)))) (h4:binOp .neq ty va vb=(do pure (.bool (!(<-Op.equal ty va vb))))):EqFin C w ty xo yo va vb r:=by
 refine⟨h1,?_,?_⟩
 ·rw[h3];simp[h2]
 ·rw[h4];simp[h2]
section kinds
variable {ty:TypeId}{xo yo:Operand}{a b:AV}{va vb:Value}{r:Bool}(ha:RV w γ A bd a va)(hb:RV w γ A bd b vb)
include ha hb
theorem KR{ds:List TypeDesc}(hf:kZ C.P ty=some ds)(hag:eJ C.P ty=true)(h:eqA (.flat ds) a b=some r):EqFin C w ty xo yo va vb r:=by
 cases a<;>try (cases h;done)
 cases b<;>try (cases h;done)
 rename_i xs ys;change aB (dU ds xs&&dU ds ys) (dg xs ys) none=some r at h;rw[aa]at h
 split at h
 ·rename_i hk;simp only[R7]at hk;obtain⟨vs,rfl,hv⟩:=uZ ha;obtain⟨us,rfl,hv'⟩:=uZ hb;obtain⟨g1,g2⟩:=FL (w:=w) hf hag (uL hk.1 hv) (uL hk.2 hv');rw[uy h hv hv']at g2;exact .mk' (λop=>run_eqGuard_agg w op ty xo yo vs us g1) g2 rfl rfl
 ·cases h
theorem I6{e:TypeId}(hu:C.P.underlying ty=some (.slice e))(h:eqA .slice a b=some r):EqFin C w ty xo yo va vb r:=by
 cases ha<;>try (cases h;done)
 all_goals cases hb<;>first| (cases h;done)| (injection h with h;subst h;exact .mk' (λop=>by cases op<;>simp[eqGuard]) (by rw[mE];unfold Op.equalIn;simp[aF hu]) rfl rfl)
theorem KS{p q:Array TypeId}{v:Bool}(hu:C.P.underlying ty=some (.func p q v))(h:eqA .func a b=some r):EqFin C w ty xo yo va vb r:=by
 cases ha<;>try (cases h;done)
 all_goals cases hb<;>first| (cases h;done)| (injection h with h;subst h;exact .mk' (λop=>by cases op<;>simp[eqGuard]) (by rw[mE];unfold Op.equalIn;simp[aF hu]) rfl rfl)
theorem KQ(hu:C.P.underlying ty=some .bool)(h:eqA .bool a b=some r):EqFin C w ty xo yo va vb r:=by
 cases ha<;>try (cases h;done)
 cases hb<;>try (cases h;done)
 rename_i x y;injection h with h;subst h;refine .mk' (λop=>by cases op<;>simp[eqGuard]) ?_ rfl rfl;rw[mE];unfold Op.equalIn;simp[aF hu];cases x<;>cases y<;>rfl
theorem I5{ms:Array (String×TypeId)}(hu:C.P.underlying ty=some (.interface ms))(h:eqA (.iface ms.isEmpty) a b=some r):EqFin C w ty xo yo va vb r:=by
 cases ha<;>try (cases h;done)
 ·cases hb<;>try (cases h;done)
  ·change aB ms.isEmpty (some true) none=some r at h;rw[aa]at h
   split at h
   ·rename_i he;injection h with h;subst h;refine .mk' (λop=>?_) (by rw[mE];unfold Op.equalIn;simp[aF hu]) rfl rfl;have hg:(Op.eqGuardIn Op.maxDepth ty .nilIface .nilIface).run C.P w=.ok false w:=by show (Op.eqGuardIn (9999+1) ty .nilIface .nilIface).run C.P w=_;unfold Op.eqGuardIn;simp only[Sn,aF hu,Sc,he,SV,Bool.not_true]
    unfold eqGuard;generalize Op.eqGuardIn Op.maxDepth ty .nilIface .nilIface=m at hg ⊢;cases op<;>simp[hg]
   ·cases h
  ·injection h with h;subst h;exact .mk' (λop=>by cases op<;>simp[eqGuard]) (by rw[mE];unfold Op.equalIn;simp[aF hu]) rfl rfl
 ·cases hb<;>try (cases h;done)
  injection h with h;subst h;exact .mk' (λop=>by cases op<;>simp[eqGuard]) (by rw[mE];unfold Op.equalIn;simp[aF hu]) rfl rfl
end kinds
theorem Hq{ty:TypeId}{xo yo:Operand}{a b:AV}{va vb:Value}{r:Bool}(hne:qx C.P ty≠.other)(h:eqA (qx C.P ty) a b=some r)(ha:RV w γ A bd a va)(hb:RV w γ A bd b vb) :
  EqFin C w ty xo yo va vb r:=by
 unfold qx at h hne;cases hu:C.P.underlying ty with
 |none=>simp only[hu]at hne;exact absurd rfl hne
 | some d =>
  have agg:pt d=true->eqA (match kZ C.P ty with|some ds=>EqKind.flat ds|none=>.other) a b=some r->EqFin C w ty xo yo va vb r:=by
   intro hd h;cases hf:kZ C.P ty with
   |none=>rw[hf]at h;cases h
   |some ds=>rw[hf]at h;exact KR ha hb hf (by rw[(eK hu).1];exact hd) h
  simp only[hu]at h hne;cases d
  case struct fs=>exact agg rfl h
  case array n e=>exact agg rfl h
  case slice e=>exact I6 ha hb hu h
  case func p q v=>exact KS ha hb hu h
  case bool=>exact KQ ha hb hu h
  case interface ms=>exact I5 ha hb hu h
  all_goals exact absurd rfl hne
noncomputable def Pw(op:BinOp)(x y:AV):OR:=match x,y with|.int k m,.int k' n=>orV ((gD op).run k m k' n)|_,_=>.fail
theorem NF{op:BinOp}{ty:TypeId}{xo yo:Operand}{a b:AV}{va vb:Value}(ha:RV w γ A bd a va)(hb:RV w γ A bd b vb) :
  ValSim C A bd w γ (do eqGuard op ty xo yo va vb;binOp op ty va vb) ((yR C.P op ty).run a b):=by
 have po:ValSim C A bd w γ (do eqGuard op ty xo yo va vb;binOp op ty va vb) (Pw op a b):=by
  unfold Pw;cases ha with
  | int _ k m =>
   cases hb with
   | int _ k' n =>
    refine oD λy hy=>?_;obtain⟨v,h1,h2⟩:=FU (P:=C.P) (ty:=ty) (w:=w) (γ:=γ) (A:=A) (bd:=bd) hy;refine⟨v,?_,h2⟩;have:(eqGuard op ty xo yo (.int k m) (.int k' n)).run C.P w=.ok () w:=by cases op<;>simp[eqGuard]
    simp[this,h1]
   |_=>trivial
  |_=>trivial
 cases op
 case eql =>
  unfold yR;dsimp only
  split
  ·exact po
  ·rename_i hk;dsimp only;cases hr:eqA (qx C.P ty) a b with
   |none=>trivial
   | some r =>
    obtain⟨h1,h2,_⟩:=Hq (xo:=xo) (yo:=yo) (λe=>hk e) hr ha hb;exact⟨.bool r,by simp[h1,h2],.bool _ _⟩
 case neq =>
  unfold yR;dsimp only
  split
  ·exact po
  ·rename_i hk;dsimp only;cases hr:eqA (qx C.P ty) a b with
   |none=>trivial
   | some r =>
    obtain⟨h1,_,h2⟩:=Hq (xo:=xo) (yo:=yo) (λe=>hk e) hr ha hb;exact⟨.bool (!r),by simp[h1,h2],by rw[notb_eq];exact .bool _ _⟩
 all_goals exact po
end
end Hx
end
section
namespace Hx
open Go
section
variable {P:Program}
theorem zu(em:Bool)(D:Nat):∀(d:Nat) (t:TypeId) (ds:List TypeDesc),nk P d t=some ds->∀(w:World) (xs:List Value),aO ds xs=true ->
  (Instr.checkKey em (D+d) t (mkV P t xs)).run P w=.ok () w:=by
 intro d
 induction d with
 |zero=>intro t ds h;cases h
 | succ d ih =>
  intro t ds h w xs hx;unfold nk at h;have one:∀k,P.underlying t=some k->nj k=true->pt k=false->ds=[k]->(Instr.checkKey em (D+(d+1)) t (mkV P t xs)).run P w=.ok () w:=by
   intro k hu hk hag hds;obtain⟨h1,_⟩:=eK hu;subst hds;have hm:∀zs,mkV P t zs=zs.headD undef:=by intro zs;unfold mkV;rw[h1,hag];rfl
   rw[hm];have lx:=a_ hx
   match xs,lx with
   | [x],_ =>
    simp only[aO,VC]at hx;simp only[List.headD_cons,<-TZ];unfold Instr.checkKey;cases k<;>simp[nj]at hk<;>cases x<;>simp[iI]at hx<;>simp[aF hu]
  cases hu:P.underlying t with
  |none=>rw[hu]at h;cases h
  | some k =>
   rw[hu]at h;cases k
   case struct fs =>
    simp only[aa]at h
    split at h
    ·cases h
    ·have hm:∀zs,mkV P t zs=.agg zs.toArray:=by intro zs;unfold mkV;rw[(eK hu).1];rfl
     rw[hm,<-TZ,Instr.checkKey];simp only[Sn,aF hu,Sc];rw[<-Array.forIn_toList];have go:∀(L:List Field) (k:Nat) (ds:List TypeDesc),uG P (nk P d) L k=some ds->aO ds (xs.drop k)=true ->
       (forIn L PUnit.unit λ(f:Field) (_:PUnit)=>(do
        if f.name ≠ "_" then Instr.checkKey em (D + d) f.type (← part f.type xs.toArray f.offset)
        pure (ForInStep.yield PUnit.unit):Sem (ForInStep PUnit))).run P w=.ok PUnit.unit w:=by
      intro L
      induction L with
      |nil=>intro k ds _ _;simp
      | cons f L ihL =>
       intro k ds h hx;simp only[uG]at h
       split at h
       ·rename_i ds1 h1
        split at h
        ·rename_i r hr;rw[aa]at h
         split at h
         ·rename_i hcond;simp only[R7,bne_iff_ne,ne_eq,beq_iff_eq]at hcond;obtain⟨⟨hname,hoff⟩,hsz⟩:=hcond;have hoff:=aG hoff;injection h with h;subst h;obtain⟨x1,x2⟩:=fu hx;rw[TO]at x2;have lx:=a_ hx;simp at lx;obtain⟨kd,hu',hone⟩:=iV h1;have p1:(part f.type xs.toArray f.offset).run P w=.ok (mkV P f.type ((xs.drop k).take ds1.length)) w:=by
           rw[hoff];have:=tJ (w:=w) (xs:=xs.toArray) (off:=k) hu' hsz hone λhg=>by have:=hone hg;simp;omega
           simpa using this
          have p2:=ih _ _ h1 w _ x1;have p3:=ihL _ _ hr x2;simp only[List.forIn_cons,Sn,ne_eq,hname,not_false_eq_true,if_true,Sc,p1,p2,SV];exact p3
         ·cases h
        ·cases h
       ·cases h
     have:=go fs.toList 0 ds h (by simpa using hx);simp at this ⊢;rw[this];rfl
   case array n e =>
    simp only at h
    split at h
    ·rename_i de hde;simp only[aa]at h
     split at h
     ·rename_i hsz;injection h with h;subst h;have hsz:szT P e=some de.length:=by simpa using hsz
      obtain⟨kd,hue,hone⟩:=iV hde;have hm:∀zs,mkV P t zs=.agg zs.toArray:=by intro zs;unfold mkV;rw[(eK hu).1];rfl
      rw[hm,<-TZ,Instr.checkKey];simp only[Sn,aF hu,Sc];simp only[Std.Legacy.Range.forIn_eq_forIn_range',Std.Legacy.Range.size,Uu,Nat.add_one_sub_one,Nat.div_one];have go:∀(n i:Nat),aO (List.replicate n de).flatten (xs.drop (i*de.length))=true ->
        (forIn (List.range' i n) PUnit.unit λ(i:Nat) (_:PUnit)=>(do
         Instr.checkKey em (D+d) e (<-part e xs.toArray (i*(<-Go.sizeOf e)))
         pure (ForInStep.yield PUnit.unit):Sem (ForInStep PUnit))).run P w=.ok PUnit.unit w:=by
       intro n
       induction n with
       |zero=>intro i _;simp
       | succ n ihn =>
        intro i hx;rw[Ue,Ug]at hx;obtain⟨x1,x2⟩:=fu hx;have lx:=a_ x1;simp at lx;rw[TO]at x2;have em':i*de.length+de.length=(i+1)*de.length:=by rw[SA,Tq]
        rw[em']at x2;have p1:(part e xs.toArray (i*de.length)).run P w=.ok (mkV P e ((xs.drop (i*de.length)).take de.length)) w:=by
         have:=tJ (w:=w) (xs:=xs.toArray) (off:=i*de.length) hue hsz hone λhg=>by have:=hone hg;simp;omega
         simpa using this
        have p2:=ih e de hde w _ x1;have p3:=ihn (i+1) x2;rw[List.range'_succ];simp only[List.forIn_cons,Sn,ba hsz,Sc,p1,p2,SV];exact p3
      have:=go n 0 (by simpa using hx);simp at this ⊢;rw[this];rfl
     ·cases h
    ·cases h
   all_goals
    simp only[aa]at h
    split at h
    ·rename_i hk;injection h with h;exact one _ hu hk rfl h.symm
    ·cases h
end
section
variable {C:Cfg}{A:Nat->Nat->Prop}{bd:Nat}{w w':World}{γ γ':Gm}{hg:Nat->AObj}{nx:Nat}
def AC(P:Program)(kt:TypeId)(k:AV)(v:Value):Prop :=
 ∃d ds,d<=8/\nk P d kt=some ds/\aO ds v.cells.toList=true/\v=mkV P kt v.cells.toList/\(eJ P kt=true↔∃xs,k=.agg xs)
theorem F7{kt:TypeId}{k:AV}{v:Value}(h:nC (cI C.P kt) k=true)(hk:RV w γ A bd k v):AC C.P kt k v:=by
 unfold cI at h;cases hu:C.P.underlying kt with
 |none=>rw[hu]at h;cases h
 | some d =>
  have agg:pt d=true->nC (match kZ C.P kt with|some ds=>KeyKind.flat ds|none=>.other) k=true->AC C.P kt k v:=by
   intro hd h;cases hf:kZ C.P kt with
   |none=>rw[hf]at h;cases h
   | some ds =>
    rw[hf]at h;obtain⟨xs,rfl⟩:∃xs,k=.agg xs:=by cases k<;>first|exact⟨_,rfl⟩| (cases h;done)
    change dU ds xs=true at h;obtain⟨vs,rfl,hv⟩:=uZ hk;have hag:eJ C.P kt=true:=by rw[(eK hu).1];exact hd
    unfold kZ at hf;rw[aa]at hf
    split at hf
    ·cases hf
    ·refine⟨8,ds,R5 _,hf,uL h hv,?_,?_⟩
     ·unfold mkV;rw[hag];simp[Value.cells]
     ·simp[hag]
  have one:nj d=true->nC (.one d) k=true->pt d=false->(∀f,nk C.P (f+1) kt=some [d])->AC C.P kt k v:=by
   intro hf hk' hag hfl;have hag':eJ C.P kt=false:=by rw[(eK hu).1];exact hag
   have hkv:=Bv hk' hk;refine⟨1,[d],by decide,hfl 0,?_,?_,?_⟩
   ·cases v<;>simp_all [Value.cells,aO,iI]<;>cases d<;>simp_all [iI]
   ·unfold mkV;rw[hag'];cases v<;>simp[Value.cells]<;>cases d<;>simp_all [iI]
   ·rw[hag'];constructor
    ·intro h;cases h
    ·rintro⟨xs,rfl⟩;cases d<;>cases hk'
  rw[hu]at h;cases d
  case struct fs=>exact agg rfl h
  case array n e=>exact agg rfl h
  all_goals
   simp only[aa]at h
   split at h
   ·rename_i hf;exact one hf h rfl (λf=>by unfold nk;rw[hu];simp only[aa];rw[Sb hf])
   ·cases h
theorem xC{d:TypeDesc}{x y:AV}{v u:Value}{b:Bool}(h:mP x y=some b)(hx:RV w γ A bd x v)(hy:RV w γ A bd y u)(hk:iI d v=true):iI d u=true:=by
 cases hx<;>try (cases h;done)
 all_goals cases hy<;>try (cases h;done)
 ·cases d<;>simp_all [iI]
 ·simp only[mP,aa,qe]at h
  split at h
  ·rename_i e;simp at e;subst e;cases d<;>simp_all [iI]
  ·cases h
 ·cases d<;>simp_all [iI]
theorem t9:∀{ds:List TypeDesc} {xs ys:List AV} {vs us:List Value} {b:Bool},dg xs ys=some b->RVs w γ A bd xs vs->RVs w γ A bd ys us->aO ds vs=true->aO ds us=true:=by
 intro ds
 induction ds with
 | nil =>
  intro xs ys vs us b h hx hy hk;have h0:=a_ hk;have h1:=hx.1;have:xs=[]:=SD (by simp at h0;simp[h1,h0]);subst this;cases ys with
  |nil=>have h2:=hy.1;have:us=[]:=SD (by simpa using h2.symm);subst this;rfl
  |cons y ys=>cases h
 | cons d ds ih =>
  intro xs ys vs us b h hx hy hk;cases vs with
  |nil=>cases hk
  | cons v vs =>
   cases xs with
   |nil=>have:=hx.1;simp at this
   | cons x xs =>
    cases ys with
    |nil=>cases h
    | cons y ys =>
     cases us with
     |nil=>have:=hy.1;simp at this
     | cons u us =>
      obtain⟨x1,x2⟩:=hx.tail;obtain⟨y1,y2⟩:=hy.tail;simp only[aO,R7]at hk;simp only[dg]at h
      split at h
      ·rename_i p q hp hq;simp only[aO,R7];exact⟨xC hp x1 y1 hk.1,ih hq x2 y2 hk.2⟩
      ·cases h
theorem uM{kt:TypeId}(h:eJ C.P kt=false)(x:Value):mkV C.P kt [x]=x:=by unfold mkV;rw[h];rfl
theorem zN{kt:TypeId}{k k':AV}{v v':Value}{b:Bool}(hk:AC C.P kt k v)(h:oy k k'=some b)(h1:RV w γ A bd k v)(h2:RV w γ A bd k' v') :
  AC C.P kt k' v'/\(Op.equal kt v v').run C.P w=.ok b w/\(eJ C.P kt=false->∀kd,C.P.underlying kt=some kd->Instr.sameNow kd v v'=some b):=by
 obtain⟨d,ds,hd,hfl,hkv,hmk,hag⟩:=hk;cases hg:eJ C.P kt with
 | true =>
  obtain⟨xs,rfl⟩:=hag.1 hg;obtain⟨ys,rfl⟩:∃ys,k'=.agg ys:=by cases k'<;>first|exact⟨_,rfl⟩| (cases h;done)
  change dg xs ys=some b at h;obtain⟨vs,rfl,hv⟩:=uZ h1;obtain⟨us,rfl,hu⟩:=uZ h2;have hkv':aO ds us.toList=true:=t9 h hv hu hkv;have he:=Cg (P:=C.P) (10000 - d) d kt ds hfl w vs.toList us.toList hkv hkv';have hm:∀zs:Array Value,mkV C.P kt zs.toList=.agg zs:=by intro zs;unfold mkV;rw[hg];simp
  rw[show 10000 - d+d=9999+1 from by omega,hm,hm,uy h hv hu]at he;refine⟨⟨d,ds,hd,hfl,hkv',(hm us).symm,by simp[hg]⟩,he,λh=>by cases h⟩
 | false =>
  have hna:∀xs,k≠.agg xs:=λxs e=>by rw[hag.2 ⟨xs,e⟩]at hg;cases hg
  have hna':∀xs,k'≠.agg xs:=by rintro xs rfl;cases k<;>first| (cases h;done)|exact absurd rfl (hna _)
  have h':mP k k'=some b:=by cases k<;>first| (exact absurd rfl (hna _))| (cases k'<;>first| (exact absurd rfl (hna' _))|exact h)
  obtain⟨kd,hu,hone⟩:=iV hfl;have h1len:=hone hg;obtain⟨d0,rfl⟩:∃d0,ds=[d0]:=by
   match ds,h1len with
   |[d0],_=>exact⟨d0,rfl⟩
  have hv1:v.cells.toList=[v]:=by cases h1<;>first|rfl| (cases h';done)
  have hv1':v'.cells.toList=[v']:=by
   cases h1<;>try (cases h';done)
   all_goals cases h2<;>first|rfl| (cases h';done)
  rw[hv1]at hkv;simp only[aO,VC]at hkv;have hkv':=xC h' h1 h2 hkv;have he:=Cg (P:=C.P) (10000 - d) d kt [d0] hfl w [v] [v'] (by simp[aO,hkv]) (by simp[aO,hkv']);rw[show 10000 - d+d=9999+1 from by omega,uM hg,uM hg]at he;simp only[nT,VC,wZ h' h1 h2]at he;refine⟨⟨d,[d0],hd,hfl,by rw[hv1'];simp[aO,hkv'],by rw[hv1',uM hg],?_⟩,he,λ_ kd' hu'=>?_⟩
  ·rw[hg];constructor
   ·intro h;cases h
   ·rintro⟨xs,e⟩;exact absurd e (hna' xs)
  ·have e1:=wZ h' h1 h2;have:d0=kd':=by
    cases d with
    |zero=>cases hfl
    | succ d =>
     unfold nk at hfl;rw[hu']at hfl;have hgd:=(eK hu').1;rw[hg]at hgd;cases kd'<;>simp[pt]at hgd<;>simp only[aa]at hfl<;>split at hfl<;>first| (cases hfl;done)| (injection hfl with hfl;injection hfl with hfl;exact hfl.symm)
   subst this;cases h1<;>try (cases h';done)
   all_goals cases h2<;>try (cases h';done)
   ·cases d0<;>simp[iI]at hkv;simp[Instr.sameNow];simpa [eqV] using e1
   ·cases d0<;>simp[iI]at hkv hkv';subst hkv;subst hkv';simp[Instr.sameNow];simpa [eqV] using e1
   ·cases d0<;>simp[iI]at hkv;simp[Instr.sameNow];simpa [eqV] using e1
end
end Hx
end
section
namespace Hx
open Go
section
variable {C:Cfg}{A:Nat->Nat->Prop}{bd:Nat}{w w':World}{γ γ':Gm}{hg:Nat->AObj}{nx:Nat}
theorem Hg(s1 s2:ByteArray):(s1 == s2)=decide (s1=s2):=by obtain⟨⟨x⟩⟩:=s1;obtain⟨⟨y⟩⟩:=s2;show ((⟨x⟩:Array UInt8) == ⟨y⟩)=_;rw[Tz];simp
theorem I7:∀{ds:List TypeDesc} {xs ys:List Value},aO ds xs=true->aO ds ys=true->nT xs ys=true->xs=ys:=by
 intro ds
 induction ds with
 |nil=>intro xs ys h1 h2 _;rw[SD (a_ h1),SD (a_ h2)]
 | cons d ds ih =>
  intro xs ys h1 h2 h;cases xs with
  |nil=>cases h1
  | cons x xs=>cases ys with
   |nil=>cases h2
   | cons y ys =>
    simp only[aO,nT,R7]at h1 h2 h;rw[ih h1.2 h2.2 h.2];congr 1;cases d<;>cases x<;>simp[iI]at h1<;>cases y<;>simp[iI]at h2<;>simp[eqV,Hg]at h<;>simp_all
theorem AX{ds:List TypeDesc}{v:Value}(hk:aO ds v.cells.toList=true):Instr.sameBits 10000 v v=true:=by
 have one:∀(d:TypeDesc) (x:Value),iI d x=true->∀n,Instr.sameBits n x x=true:=by intro d x h n;cases d<;>cases x<;>simp[iI]at h<;>cases n<;>simp[Instr.sameBits,Hg]
 have all:∀(ds:List TypeDesc) (xs:List Value),aO ds xs=true->((xs.zip xs).all λ(x,y)=>Instr.sameBits 9999 x y)=true:=by
  intro ds
  induction ds with
  |nil=>intro xs h;rw[SD (a_ h)];rfl
  | cons d ds ih =>
   intro xs h;cases xs with
   |nil=>rfl
   | cons x xs =>
    simp only[aO,R7]at h;simp only[Uw,List.all_cons,R7];exact⟨one d x h.1 _,ih xs h.2⟩
 by_cases h:∃a,v=.agg a
 ·obtain⟨a,rfl⟩:=h;have:=all ds a.toList hk;show (Instr.sameBits (9999+1) (.agg a) (.agg a))=true;simp only[Instr.sameBits,beq_self_eq_true,Td];exact this
 ·have hc:v.cells.toList=[v]:=by cases v<;>first|rfl|exact absurd ⟨_,rfl⟩ h
  rw[hc]at hk;cases ds with
  |nil=>cases hk
  |cons d ds=>simp only[aO,R7]at hk;exact one d v hk.1 _
theorem zO{kt:TypeId}{k k':AV}{v v':Value}(hk:AC C.P kt k v)(h:oy k k'=some true)(h1:RV w γ A bd k v)(h2:RV w γ A bd k' v'):v'=v:=by
 obtain⟨h3,h4,_⟩:=zN (w:=w) hk h h1 h2;obtain⟨d,ds,e1,e2,e3,e4,e5⟩:=hk;obtain⟨d',ds',f1,f2,f3,f4,f5⟩:=h3;have hc:dg k.cells k'.cells=some true:=by
  cases k<;>try (cases h;done)
  all_goals cases k'<;>try (cases h;done)
  all_goals first|exact h| (simp only[oy]at h;simp[AV.cells,dg,h])
 have t1:k.isTup=false:=by
  cases k<;>try rfl
  cases k'<;>cases h
 have t2:k'.isTup=false:=by
  cases k<;>try (cases h;done)
  all_goals cases k'<;>first|rfl| (cases h;done)
 have r1:=(pL h1 t1).1;have r2:=(pL h2 t2).1;rw[e4,f4,I7 e3 (t9 hc r1 r2 e3) (uy hc r1 r2)]
theorem qd{P:Program}{ds:List TypeDesc}{v:Value}(hk:aO ds v.cells.toList=true):(Instr.keyThatStays v v).run P w=.ok v w:=by unfold Instr.keyThatStays;rw[AX hk];rfl
def EsRel(w:World)(γ:Gm)(A:Nat->Nat->Prop)(bd:Nat)(es:List (AV×AV))(l:List MapEntry):Prop :=
 es.length=l.length/\∀(i:Nat) k x e,es[i]?=some (k,x)->l[i]?=some e->RV w γ A bd k e.key/\RV w γ A bd x e.val
theorem EsRel.tail{p:AV×AV}{es:List (AV×AV)}{e:MapEntry}{l:List MapEntry}(h:EsRel w γ A bd (p::es) (e::l)) :
  RV w γ A bd p.1 e.key/\RV w γ A bd p.2 e.val/\EsRel w γ A bd es l:=by
 obtain⟨h1,h2⟩:=h.2 0 p.1 p.2 e rfl rfl;exact⟨h1,h2,by have:=h.1;simpa using this,λi k x e hi he=>h.2 (i+1) k x e (by simpa using hi) (by simpa using he)⟩
def A3(k:AV)(es:List (AV×AV))(l:List MapEntry)(i0:Nat)(r:Option (Nat×AV))(R:Option (Nat×Value)):Prop :=
 match r with
 |none=>R=none
 |some (i,x)=>∃j k' e,i=i0+j/\es[j]?=some (k',x)/\l[j]?=some e/\oy k k'=some true/\R=some (i,e.val)
theorem K5{kt:TypeId}{kd:TypeDesc}{k:AV}{v:Value}(hu:C.P.underlying kt=some kd)(hk:AC C.P kt k v)(h1:RV w γ A bd k v) :
  ∀(es:List (AV×AV)) (l:List MapEntry) (i:Nat) (r:Option (Nat×AV)),jQ k i es=some r->EsRel w γ A bd es l ->
   ∃R,A3 k es l i r R/\(Instr.findAsking kt v l i).run C.P w=.ok R w/\(eJ C.P kt=false->Instr.findNow kd v l i=some R):=by
 intro es
 induction es with
 | nil =>
  intro l i r h hes;have:=hes.1;have:l=[]:=SD (by simpa using this.symm);subst this;simp only[jQ]at h;injection h with h;subst h;exact⟨none,rfl,rfl,λ_=>rfl⟩
 | cons p es ih =>
  intro l i r h hes;cases l with
  |nil=>have:=hes.1;simp at this
  | cons e l =>
   obtain⟨k',x⟩:=p;obtain⟨e1,e2,e3⟩:=hes.tail;simp only[jQ]at h
   split at h
   ·rename_i hq;injection h with h;subst h;obtain⟨_,q2,q3⟩:=zN hk hq h1 e1;refine⟨some (i,e.val),⟨0,k',e,rfl,rfl,rfl,hq,rfl⟩,?_,λhg=>?_⟩
    ·unfold Instr.findAsking;simp[q2]
    ·unfold Instr.findNow;rw[q3 hg kd hu]
   ·rename_i hq;obtain⟨_,q2,q3⟩:=zN hk hq h1 e1;obtain⟨R,r1,r2,r3⟩:=ih l (i+1) r h e3;refine⟨R,?_,?_,λhg=>?_⟩
    ·unfold A3 at r1 ⊢;cases r with
     |none=>exact r1
     | some p =>
      obtain⟨j,k'',e',f1,f2,f3,f4,f5⟩:=r1;exact⟨j+1,k'',e',by omega,by simpa using f2,by simpa using f3,f4,f5⟩
    ·unfold Instr.findAsking;simp[q2,r2]
    ·unfold Instr.findNow;rw[q3 hg kd hu];exact r3 hg
   ·cases h
theorem ta{kt:TypeId}{kd:TypeDesc}{k:AV}{v:Value}(hu:C.P.underlying kt=some kd)(hk:AC C.P kt k v)(h1:RV w γ A bd k v)
  {es:List (AV×AV)} {l:List MapEntry} {r:Option (Nat×AV)} (h:jQ k 0 es=some r) (hes:EsRel w γ A bd es l) :
  ∃R,A3 k es l 0 r R/\(Instr.findKey kt v l).run C.P w=.ok R w:=by
 obtain⟨R,r1,r2,r3⟩:=K5 hu hk h1 es l 0 r h hes;refine⟨R,r1,?_⟩;unfold Instr.findKey;simp only[Sn,aF hu,Sc];cases hg:eJ C.P kt with
 |false=>rw[r3 hg];rfl
 | true =>
  cases l with
  |nil=>simp only[Instr.findNow];exact r2
  | cons e l =>
   have:Instr.sameNow kd v e.key=none:=by have:=(eK hu).1;rw[hg]at this;cases kd<;>simp[pt]at this<;>rfl
   simp only[Instr.findNow,this];exact r2
theorem K4(k:AV):∀(es:List (AV×AV)) (i:Nat) (r:Option AV),mg k es=some r->∃q,jQ k i es=some q/\r=q.map (·.2):=by
 intro es
 induction es with
 |nil=>intro i r h;simp only[mg]at h;injection h with h;subst h;exact⟨none,rfl,rfl⟩
 | cons p es ih =>
  intro i r h;obtain⟨k',x⟩:=p;simp only[mg]at h;simp only[jQ]
  split at h
  ·rename_i hq;injection h with h;subst h;exact⟨some (i,x),rfl,rfl⟩
  ·exact ih _ _ h
  ·cases h
theorem OW(k x:AV):∀(es es':List (AV×AV)) (i:Nat),EY k x es=some es'->∃q,jQ k i es=some q /\
  match q with
  |none=>es'=es++[(k,x)]
  |some (n,_)=>∃j,n=i+j/\es'=es.set j (k,x):=by
 intro es
 induction es with
 |nil=>intro es' i h;simp only[EY]at h;injection h with h;subst h;exact⟨none,rfl,rfl⟩
 | cons p es ih =>
  intro es' i h;obtain⟨k',y⟩:=p;simp only[EY]at h;simp only[jQ]
  split at h
  ·rename_i hq;injection h with h;subst h;exact⟨some (i,y),rfl,0,rfl,rfl⟩
  ·rename_i hq
   split at h
   ·rename_i r hr;injection h with h;subst h;obtain⟨q,q1,q2⟩:=ih r (i+1) hr;refine⟨q,q1,?_⟩;cases q with
    |none=>simp only at q2 ⊢;rw[q2];rfl
    | some p =>
     obtain⟨j,j1,j2⟩:=q2;exact⟨j+1,by omega,by rw[j2];rfl⟩
   ·cases h
  ·cases h
theorem BQ{t:TypeId}{z:AV}(h:ur C.P t=some z):∃v,(zeroValue t).run C.P w=.ok v w/\RV w γ A bd z v:=by
 unfold ur at h;cases hi:C.P.info? t with
 |none=>rw[hi]at h;cases h
 | some i =>
  rw[hi]at h;cases hz:i.zero with
  |none=>simp[hz]at h
  | some v =>
   simp only[Um,hz]at h;refine⟨v,by simp[zeroValue,lI hi,hz],?_⟩
   split at h
   ·rename_i cs;cases hq:yj cs.toList with
    |none=>rw[hq]at h;cases h
    | some as =>
     rw[hq]at h;injection h with h;subst h;obtain⟨r1,r2⟩:=oB (w:=w) (γ:=γ) (A:=A) (bd:=bd) hq;exact .agg _ as cs (by simpa using r1.1) r2 λi x v hx hv=>r1.2 i x v hx (by simpa using hv)
   ·exact (Gk h).1
theorem zR(hr:Rel C A bd w γ hg nx){id:Nat}{es:List (AV×AV)}(hid:hg id=.map es) :
  (γ id).kind=2/\(γ id).wr=true/\∃esC:Array MapEntry,w.heap[(γ id).blk]?=some (.map esC esC.size)/\EsRel w γ A bd es esC.toList/\∀(i:Nat) e,esC[i]?=some e->e.born=i:=by
 have hob:=hr.obj id;rw[hid]at hob;obtain⟨k1,k2,esC,k3,k4,k5⟩:=hob;refine⟨k1,k2,esC,k3,⟨by simpa using k4,λi k x e hi he=>(k5 i k x e hi (by simpa using he)).2⟩,λi e he=>?_⟩;have hlt:i<es.length:=by rw[k4];exact (TB.1 he).1
 exact (k5 i (es[i]).1 (es[i]).2 e (by simp[hlt]) he).1
theorem F9{ty kt et:TypeId}{z:AV}{ok:Bool}{m k:T->AV}{t:T}{g:G}{vm vk:Value}(hr:Rel C A bd w γ hg nx)
  (hu:C.P.underlying ty=some (.map kt et)) (hz:ur C.P et=some z) (hm:RV w γ A bd (m t) vm) (hk:RV w γ A bd (k t) vk) (agree:∀id∈ae (m t),hg id=g.h.get id) :
  ValSim C A bd w γ (Instr.lookup ty vm vk ok) (cJ (cI C.P kt) z ok m k t g):=by
 unfold cJ;generalize m t=m at *;generalize k t=k at *;rw[aa]
 split
 ·rename_i hko;have hkv:=F7 hko hk;obtain⟨kd,hukt⟩:∃kd,C.P.underlying kt=some kd:=by obtain⟨d,ds,_,hfl,_⟩:=hkv;obtain⟨kd,h,_⟩:=iV hfl;exact⟨kd,h⟩
  obtain⟨zv,z1,z2⟩:=BQ (w:=w) (γ:=γ) (A:=A) (bd:=bd) hz;have core:∀(es:List (AV×AV)) (l:Array MapEntry),EsRel w γ A bd es l.toList ->
    (vm=.map none/\l=#[]\/∃r n,vm=.map (some r)/\(getObj r).run C.P w=.ok (.map l n) w) ->
    ValSim C A bd w γ (Instr.lookup ty vm vk ok) (match mg k es with
     |some (some v)=>.val (aB ok (.tup [v,.bool true]) v)
     |some none=>.val (aB ok (.tup [z,.bool false]) z)
     |none=>.fail):=by
   intro es l hes hrun;cases hf:mg k es with
   |none=>trivial
   | some r =>
    obtain⟨q,q1,q2⟩:=K4 k es 0 r hf;obtain⟨R,r1,r2⟩:=ta hukt hkv hk q1 hes;have hck:∀em,(Instr.checkKey em 10000 kt vk).run C.P w=.ok () w:=by intro em;obtain⟨d,ds,hd,hfl,hks,hmk,_⟩:=hkv;have:=zu (P:=C.P) em (10000 - d) d kt ds hfl w _ hks;rw[show 10000 - d+d=10000 from by omega,<-hmk]at this;exact this
    have tup:∀(x:AV) (u:Value) (b:Bool),RV w γ A bd x u->RV w γ A bd (aB ok (.tup [x,.bool b]) x) (if ok then .tuple #[u,.bool b] else u):=by
     intro x u b hx;cases ok
     ·exact hx
     ·refine .tup _ _ _ rfl λi y v hy hv=>?_
      match i with
      |0=>simp at hy hv;subst hy;subst hv;exact hx
      |1=>simp at hy hv;subst hy;subst hv;exact .bool _ _
      |i+2=>simp at hy
    have hmain:(Instr.lookup ty vm vk ok).run C.P w =
      ((do let (v,okk) <-match R with
            |some (_,v)=>pure (v,true)
            |none=>pure (<-zeroValue et,false)
           pure (if ok then .tuple #[v,.bool okk] else v):Sem Value)).run C.P w:=by
     unfold Instr.lookup;simp only[Sn,aF hu,Sc];rcases hrun with⟨rfl,rfl⟩|⟨r',n,rfl,hrun⟩
     ·simp only[Sn,SV,Sc,hck,r2]
      try (cases R<;>rfl)
     ·simp only[Sn,SV,Sc,hrun,hck,r2]
      try (cases R<;>rfl)
    cases q with
    | none =>
     simp only[A3]at r1;subst r1;simp only[Option.map_none]at q2;subst q2;exact⟨_,by rw[hmain];simp[z1],tup z zv false z2⟩
    | some p =>
     obtain⟨i,x⟩:=p;obtain⟨j,k',e,f1,f2,f3,f4,f5⟩:=r1;subst f5;simp only[TY]at q2;subst q2;exact⟨_,by rw[hmain];simp,tup x e.val true (hes.2 j k' x e f2 f3).2⟩
  cases hm with
  |nilm=>exact core [] #[] ⟨rfl,λi k x e h=>by simp at h⟩ (.inl ⟨rfl,rfl⟩)
  | hmap _ id b hkd hb =>
   have hagree:=agree id (by simp[ae]);simp only[G.get_eq,<-hagree];cases hid:hg id with
   | map es =>
    obtain⟨k1,k2,esC,k3,k4,k5⟩:=zR hr hid;subst hb;exact core es esC k4 (.inr ⟨_,_,rfl,gz k3 (by simp)⟩)
   |_=>trivial
  |_=>trivial
 ·trivial
theorem rV{kt:TypeId}{k:AV}{v:Value}(h:AC C.P kt k v)(em:Bool):(Instr.checkKey em 10000 kt v).run C.P w=.ok () w:=by obtain⟨d,ds,hd,hfl,hks,hmk,_⟩:=h;have:=zu (P:=C.P) em (10000 - d) d kt ds hfl w _ hks;rw[show 10000 - d+d=10000 from by omega,<-hmk]at this;exact this
theorem HU{kt:TypeId}{k:AV}{v:Value}(h:AC C.P kt k v):∃kd,C.P.underlying kt=some kd:=by obtain⟨d,ds,_,hfl,_⟩:=h;obtain⟨kd,h,_⟩:=iV hfl;exact⟨kd,h⟩
theorem Rel.setMap(hr:Rel C A bd w γ hg nx){id:Nat}{es es':List (AV×AV)}{esC':Array MapEntry}(hid:hg id=.map es)(hl:es'.length=esC'.size)
  (he:∀(i:Nat) k x e,es'[i]?=some (k,x)->esC'[i]?=some e->e.born=i/\RV w γ A bd k e.key/\RV w γ A bd x e.val) :
  Rel C A bd (World.setBlk w (γ id).blk (.map esC' esC'.size)) γ (upd hg id (.map es')) nx/\Stp w γ (World.setBlk w (γ id).blk (.map esC' esC'.size)) γ:=by
 obtain⟨k1,k2,_⟩:=zR hr hid;have hk:(γ id).kind≠0:=by rw[k1];decide
 have s:=tQ (w:=w) (o:=.map esC' esC'.size) hk k2;refine hr.setBlk hk k2 ⟨k1,k2,esC',?_,hl,λi k x e h1 h2=>?_⟩
 ·rw[aZ,Sb ⟨rfl,(hr.lt id hk).2⟩]
 ·obtain⟨a,b,c⟩:=he i k x e h1 h2;exact⟨a,b.step s,c.step s⟩
theorem uj{ty kt et:TypeId}{m k x:T->AV}{t:T}{g:G}{vm vk vx:Value}(hr:Rel C A bd w γ hg nx)
  (hu:C.P.underlying ty=some (.map kt et)) (hm:RV w γ A bd (m t) vm) (hk:RV w γ A bd (k t) vk) (hx:RV w γ A bd (x t) vx) (agree:∀id∈ae (m t),hg id=g.h.get id) :
  dk C A bd w γ hg nx (do Instr.mapUpdate ty vm vk vx;pure undef) g (cW (cI C.P kt) m k x t g):=by
 unfold cW;generalize m t=m at *;generalize k t=k at *;generalize x t=x at *;rw[aa]
 split
 ·rename_i hko;have hkv:=F7 hko hk;obtain⟨kd,hukt⟩:=HU hkv;cases hm with
  | hmap _ id b hkd hb =>
   have hagree:=agree id (by simp[ae]);simp only[G.get_eq,<-hagree];cases hid:hg id with
   | map es =>
    dsimp only;cases hs:EY k x es with
    |none=>trivial
    | some es' =>
     dsimp only;obtain⟨k1,k2,esC,k3,k4,k5⟩:=zR hr hid;obtain⟨q,q1,q2⟩:=OW k x es es' 0 hs;obtain⟨R,r1,r2⟩:=ta hukt hkv hk q1 k4;subst hb;have hrun:∀esC',(match R with
       | some (i,_)=>do
        let key <-Instr.keyThatStays (((esC[i]?).map (·.key)).getD vk) vk
        setObj (γ id).blk (.map (esC.modify i λe=>{ e with key,val:=vx }) esC.size)
       |none=>setObj (γ id).blk (.map (esC.push { key:=vk,val:=vx,born:=esC.size }) (esC.size+1)):Sem Unit).run C.P w=.ok () (World.setBlk w (γ id).blk (.map esC' esC'.size)) ->
       (do Instr.mapUpdate ty (.map (some (γ id).blk)) vk vx;pure undef:Sem Value).run C.P w=.ok undef (World.setBlk w (γ id).blk (.map esC' esC'.size)):=by
      intro esC' h;have:(Instr.mapUpdate ty (.map (some (γ id).blk)) vk vx).run C.P w=.ok () (World.setBlk w (γ id).blk (.map esC' esC'.size)):=by unfold Instr.mapUpdate;simp only[Sn,aF hu,Sc,gz k3 (by simp),rV hkv,r2];exact h
      simp[this]
     have hlen:es.length=esC.size:=by simpa using k4.1
     cases q with
     | none =>
      simp only[A3]at r1;subst r1;simp only at q2;subst q2;have hnew:=hr.setMap (es':=es++[(k,x)]) (esC':=esC.push { key:=vk,val:=vx,born:=esC.size }) hid (by simp[hlen]) (λi k' x' e h1 h2=>by
       rw[US]at h2;rw[UA]at h1
       split at h2
       ·rename_i hi;subst hi;rw[Sa (by omega),hlen,Th]at h1;simp at h1 h2;obtain⟨rfl,rfl⟩:=h1;subst h2;exact⟨rfl,hk,hx⟩
       ·have hlt:i<esC.size:=(TB.1 h2).1;rw[Sb (by omega)]at h1;exact⟨k5 i e h2,k4.2 i k' x' e h1 (by simpa using h2)⟩)
      refine⟨undef,_,γ,id,_,hrun _ ?_,dG,hnew.2,.inl ⟨rfl,hnew.1⟩⟩;simp only[Array.size_push];exact iZ k3 (by simp)
     | some p =>
      obtain⟨n,y⟩:=p;obtain⟨j,k',e,f1,f2,f3,f4,f5⟩:=r1;obtain⟨j',j1,j2⟩:=q2;have:j'=j:=by omega
      subst this;subst f1;subst f5;subst j2;have f3':esC[j']?=some e:=by simpa using f3
      have hsame:=zO hkv f4 hk (k4.2 j' k' y e f2 f3).1;have hnew:=hr.setMap (es':=es.set j' (k,x)) (esC':=esC.modify (0+j') λe=>{ e with key:=vk,val:=vx }) hid (by simp[hlen]) (λi k' x' e' h1 h2=>by
       rw[SU]at h2;rw[S8]at h1;rw[U9]at h2
       split at h1
       ·rename_i hi;subst hi;rw[Sb rfl,f3']at h2
        split at h1
        ·simp at h1 h2;obtain⟨rfl,rfl⟩:=h1;subst h2;exact⟨k5 j' e f3',hk,hx⟩
        ·cases h1
       ·rename_i hi;rw[Sa hi]at h2;exact⟨k5 i e' h2,k4.2 i k' x' e' h1 (by simpa using h2)⟩)
      refine⟨undef,_,γ,id,_,hrun _ ?_,dG,hnew.2,.inl ⟨rfl,hnew.1⟩⟩;obtain⟨d,ds,_,_,hks,_⟩:=hkv;simp only[SU,f3',TY,Se,hsame,Sn,qd hks,Sc,Array.size_modify];exact iZ k3 (by simp)
   |_=>trivial
  |_=>trivial
 ·trivial
theorem Cx{ty kt et:TypeId}{z:AV}{m k:T->AV}{t:T}{g:G}{vm vk:Value}(hr:Rel C A bd w γ hg nx)
  (hu:C.P.underlying ty=some (.map kt et)) (hz:ur C.P et=some z) (hm:RV w γ A bd (m t) vm) (hk:RV w γ A bd (k t) vk) (agree:∀id∈ae (m t),hg id=g.h.get id) :
  dk C A bd w γ hg nx (Instr.mapEntry ty vm vk) g (gQ (cI C.P kt) z m k t g):=by
 unfold gQ;generalize m t=m at *;generalize k t=k at *;rw[aa]
 split
 ·rename_i hko;have hkv:=F7 hko hk;obtain⟨kd,hukt⟩:=HU hkv;obtain⟨zv,z1,z2⟩:=BQ (w:=w) (γ:=γ) (A:=A) (bd:=bd) hz;have tup:∀{w:World} {γ:Gm} (x:AV) (u:Value) (n:Nat),RV w γ A bd x u->RV w γ A bd (.tup [x,.int .i64 (.ofNat n)]) (.tuple #[u,goInt (n:Int)]):=by
   intro w γ x u n hx;refine .tup _ _ _ rfl λi y v hy hv=>?_
   match i with
   |0=>simp at hy hv;subst hy;subst hv;exact hx
   |1=>simp at hy hv;subst hy;subst hv;exact .int _ _ _
   |i+2=>simp at hy
  cases hm with
  | hmap _ id b hkd hb =>
   have hagree:=agree id (by simp[ae]);simp only[G.get_eq,<-hagree];cases hid:hg id with
   | map es =>
    dsimp only;cases q1:jQ k 0 es with
    |none=>trivial
    | some q =>
     obtain⟨k1,k2,esC,k3,k4,k5⟩:=zR hr hid;obtain⟨R,r1,r2⟩:=ta hukt hkv hk q1 k4;subst hb;have hlen:es.length=esC.size:=by simpa using k4.1
     cases q with
     | none =>
      simp only[A3]at r1;subst r1;dsimp only;have hnew:=hr.setMap (es':=es++[(k,z)]) (esC':=esC.push { key:=vk,val:=zv,born:=esC.size }) hid (by simp[hlen]) (λi k' x' e h1 h2=>by
       rw[US]at h2;rw[UA]at h1
       split at h2
       ·rename_i hi;subst hi;rw[Sa (by omega),hlen,Th]at h1;simp at h1 h2;obtain⟨rfl,rfl⟩:=h1;subst h2;exact⟨rfl,hk,z2⟩
       ·have hlt:i<esC.size:=(TB.1 h2).1;rw[Sb (by omega)]at h1;exact⟨k5 i e h2,k4.2 i k' x' e h1 (by simpa using h2)⟩)
      refine⟨.tuple #[zv,goInt esC.size],_,γ,id,_,?_,?_,hnew.2,.inl ⟨rfl,hnew.1⟩⟩
      ·unfold Instr.mapEntry;simp only[Sn,aF hu,Sc,gz k3 (by simp),rV hkv,r2,z1];have:(setObj (γ id).blk (.map (esC.push { key:=vk,val:=zv,born:=esC.size }) (esC.size+1))).run C.P w=.ok () (World.setBlk w (γ id).blk (.map (esC.push { key:=vk,val:=zv,born:=esC.size }) (esC.size+1))):=iZ k3 (by simp);simp[this]
      ·rw[ay,hlen];exact tup _ _ _ (z2.step hnew.2)
     | some p =>
      obtain⟨n,y⟩:=p;obtain⟨j,k',e,f1,f2,f3,f4,f5⟩:=r1;subst f1;subst f5;dsimp only;have f3':esC[j]?=some e:=by simpa using f3
      have hsame:=zO hkv f4 hk (k4.2 j k' y e f2 f3).1;have hmod:(esC.modify j λe=>{ e with key:=vk })=esC:=by
       apply U1;intro i;rw[U9]
       split
       ·rename_i hi;subst hi;rw[f3',<-hsame];rfl
       ·rfl
      have hkv2:=hkv;obtain⟨d,ds,_,_,hks,_⟩:=hkv2;refine⟨.tuple #[e.val,goInt j],?_,?_⟩
      ·unfold Instr.mapEntry;simp only[Sn,aF hu,Sc,gz k3 (by simp),rV hkv,r2,SU,f3',TY,Se,hsame,qd hks,hmod,k5 j e f3'];have hset:(setObj (γ id).blk (.map esC esC.size)).run C.P w=.ok () w:=by
        rw[iZ k3 (by simp)];congr 1;have hlt:(γ id).blk<w.heap.size:=(TB.1 k3).1;unfold World.setBlk;congr 1;apply U1;intro q;rw[TX]
        split
        ·rename_i hq;subst hq;rw[k3]
        ·rfl
       simp[hset]
      ·rw[SU];exact tup _ _ _ (k4.2 j k' y e f2 f3).2
   |_=>trivial
  |_=>trivial
 ·trivial
theorem zh{ty:TypeId}{m st x:T->AV}{t:T}{g:G}{vm vs vx:Value}(hr:Rel C A bd w γ hg nx)
  (hm:RV w γ A bd (m t) vm) (hs:RV w γ A bd (st t) vs) (hx:RV w γ A bd (x t) vx) (agree:∀id∈ae (m t),hg id=g.h.get id) :
  dk C A bd w γ hg nx (do Instr.entryStore ty vm vs vx;pure undef) g (jb m st x t g):=by
 unfold jb;generalize m t=m at *;generalize st t=st at *;generalize x t=x at *;cases hm with
 | hmap _ id b hkd hb =>
  have hagree:=agree id (by simp[ae]);simp only[G.get_eq,<-hagree];cases hid:hg id with
  | map es =>
   dsimp only;cases hs with
   | int _ kk n =>
    cases n with
    |negSucc n=>trivial
    | ofNat i =>
     simp only[dV];cases hi:es[i]? with
     |none=>trivial
     | some p =>
      obtain⟨k,y⟩:=p;dsimp only;obtain⟨k1,k2,esC,k3,k4,k5⟩:=zR hr hid;subst hb;have hlen:es.length=esC.size:=by simpa using k4.1
      have hlt:i<esC.size:=by rw[<-hlen];exact (R6.1 hi).1
      have hfind:esC.findIdx? (λe=>(e.born:Int) == (Int.ofNat i))=some i:=by
       rw[Array.findIdx?_eq_some_iff_getElem];refine⟨hlt,?_,λj hj=>?_⟩
       ·rw[k5 i esC[i] (Sv hlt)];simp
       ·have hj':j<esC.size:=by omega
        rw[k5 j esC[j] (Sv hj')];simp;omega
      have hnew:=hr.setMap (es':=GG i (k,x) es) (esC':=esC.modify i λe=>{ e with val:=vx }) hid (by simp[gV,hlen]) (λi' k' x' e' h1 h2=>by
       rw[gV,S8]at h1;rw[U9]at h2
       split at h1
       ·rename_i hi';subst hi';rw[Sb rfl,Sv hlt]at h2
        split at h1
        ·simp at h1 h2;obtain⟨rfl,rfl⟩:=h1;subst h2;exact⟨k5 i esC[i] (Sv hlt),(k4.2 i k y esC[i] hi (by simp[hlt])).1,hx⟩
        ·cases h1
       ·rename_i hi';rw[Sa hi']at h2;exact⟨k5 i' e' h2,k4.2 i' k' x' e' h1 (by simpa using h2)⟩)
      refine⟨undef,_,γ,id,_,?_,dG,hnew.2,.inl ⟨rfl,hnew.1⟩⟩;have hset:=iZ (P:=C.P) (o':=.map (esC.modify i λe=>{ e with val:=vx }) esC.size) k3 (by simp);have:(Instr.entryStore ty (.map (some (γ id).blk)) (.int kk (Int.ofNat i)) vx).run C.P w=.ok () (World.setBlk w (γ id).blk (.map (esC.modify i λe=>{ e with val:=vx }) esC.size)):=by unfold Instr.entryStore;simp only[Sn,Sc,gz k3 (by simp),asInt,asIntOf,SV,hfind,hset]
      simp only[Array.size_modify,Sn,this,Sc,SV]
   |_=>trivial
  |_=>trivial
 |_=>trivial
end
end Hx
end
section
namespace Hx
open Go
section
variable {C:Cfg}{A:Nat->Nat->Prop}{bd:Nat}{w w':World}{γ γ':Gm}{hg:Nat->AObj}{nx:Nat}
theorem OpSim.ofUpd{o:Oper}{ev:Operand->Value}{g:G}{m:Sem Value}{r:OR}(he:execOp ev o=(do pure (.value (<-m))))(h:dk C A bd w γ hg nx m g r) :
  OpSim C A bd w γ hg nx o ev g r:=by
 have run:∀{v:Value} {w':World},m.run C.P w=.ok v w'->C8 C.P o ev w v w':=by intro v w' h;left;rw[he];simp[h]
 cases r with
 |fail=>trivial
 |val x=>obtain⟨v,h1,h2⟩:=h;exact⟨v,run h1,h2⟩
 |upd x g'=>obtain⟨v,w',γ',id,ob,h1,h2⟩:=h;exact⟨v,w',γ',id,ob,run h1,h2⟩
 |dfr a=>exact h
theorem OpSim.ofUnit{o:Oper}{ev:Operand->Value}{g:G}{s:Sem Unit}{r:OR}(he:execOp ev o=(do s;pure .skip))(h:dk C A bd w γ hg nx (do s;pure undef) g r) :
  OpSim C A bd w γ hg nx o ev g r:=by
 have run:∀{v:Value} {w':World},(do s;pure undef:Sem Value).run C.P w=.ok v w'->C8 C.P o ev w v w':=by
  intro v w' h;right;rw[he];simp only[Sn,SV]at h ⊢;cases hs:s.run C.P w with
  |ok u w1=>rw[hs]at h;simp only[Sc]at h ⊢;injection h with h1 h2;subst h1;subst h2;exact⟨rfl,rfl⟩
  |halt x w1=>rw[hs]at h;cases h
 cases r with
 |fail=>trivial
 |val x=>obtain⟨v,h1,h2⟩:=h;exact⟨v,run h1,h2⟩
 |upd x g'=>obtain⟨v,w',γ',id,ob,h1,h2⟩:=h;exact⟨v,w',γ',id,ob,run h1,h2⟩
 |dfr a=>exact h
theorem ValSim.upd{m:Sem Value}{g:G}{r:OR}(h:ValSim C A bd w γ m r):dk C A bd w γ hg nx m g r:=by
 cases r with
 |fail=>trivial
 |val x=>exact h
 |upd x g'=>exact h.elim
 |dfr a=>exact h.elim
theorem OpSim.ofVal{o:Oper}{ev:Operand->Value}{g:G}{m:Sem Value}{r:OR}(he:execOp ev o=(do pure (.value (<-m))))(h:ValSim C A bd w γ m r) :
  OpSim C A bd w γ hg nx o ev g r:=.ofUpd he h.upd
theorem OpSim.now{o:Oper}{ev:Operand->Value}{g:G}{x:AV}{v:Value}(he:(execOp ev o).run C.P w=.ok (.value v) w)(h:RV w γ A bd x v) :
  OpSim C A bd w γ hg nx o ev g (.val x):=⟨v,.inl he,h⟩
noncomputable def bk(C:Cfg)(op:Op)(t:T)(g:G):List Nat:=((aN C op).run t g).rd++((aN C op).run t g).sr.map (·.1)
theorem Pa{op:UnOp}{x:AV}{v:Value}(hx:RV w γ A bd x v):ValSim C A bd w γ (Op.unary op v) ((unA op).run x):=by
 cases op
 case not =>
  cases hx with
  |bool _ b=>exact⟨.bool (!b),by simp[Op.unary],by rw[notb_eq];exact .bool _ _⟩
  |_=>trivial
 all_goals
  cases hx with
  |int _ k n=>exact oD λy hy=>kT hy C.P w
  |_=>trivial
theorem Ge{g:G}{P:Program}(hr:Rel C A bd w γ hg nx)(hf:(γ g.nx).kind=0) :
  dk C A bd w γ hg nx (do pure (.map (some (<-newObj (.map #[] 0))))) g (.upd (.hmap g.nx) (g.new (.map []))):=by
 let gh:Gh:=⟨2,0,0,0,w.heap.size,0,0,true⟩
 obtain⟨r,s⟩:=hr.add (id:=g.nx) (gh:=gh) (o:=.map #[] 0) (ao:=.map []) (nx':=Nat.max nx (g.nx+1)) hf rfl (TJ _ _) (SB (Vl _) (Ud _ _)) (by
  simp only[ObjRel,upd_same];exact⟨rfl,rfl,#[],by rw[lp];simp[gh],rfl,λi k x e h=>by simp at h⟩)
 refine⟨.map (some w.heap.size),World.add w (.map #[] 0),_,g.nx,_,by simp[newObj,Sem.run,World.add],?_,s,.inr ⟨rfl,rfl,r⟩⟩;exact .hmap _ g.nx _ (by simp[gh]) (by simp[gh])
theorem Gs:∀{fs:List Field} {places:List (Nat×Nat)},aJ (λf:Field=>match szT C.P f.type with|some n=>some (f.offset,n)|none=>none) fs=some places ->
  (fs.mapM λf=>do pure (f.offset,<-Go.sizeOf f.type):Sem (List (Nat×Nat))).run C.P w=.ok places w:=by
 intro fs
 induction fs with
 |nil=>intro places h;simp only[aJ]at h;injection h with h;subst h;simp
 | cons f fs ih =>
  intro places h;simp only[aJ]at h
  split at h
  ·rename_i p hp
   split at h
   ·rename_i ps hps;injection h with h;subst h
    split at hp
    ·rename_i n hn;injection hp with hp;subst hp;rw[List.mapM_cons];have:=ih hps;simp only[Sn,ba hn,Sc,SV,this]
    ·cases hp
   ·cases h
  ·cases h
variable {o:Oper}{op:Op}{a:Act}{nt:Nat}{t:T}{g:G}{f:Stg SFn}
theorem rY{ty e:TypeId}(he:l6 C.P ty=some e):C.P.underlying ty=some (.slice e):=by unfold l6 at he;split at he<;>first| (injection he with he;subst he;assumption)|cases he
theorem Dg{b:Builtin}{argTypes:Array TypeId}{args:List Operand}{ty:TypeId}{consts:Array Bool}(h:dD C b argTypes args=some f)(ht:TR w γ A bd nt t a.tmps)(hr:Rel C A bd w γ hg nx)
  (hf:(γ g.nx).kind=0) (agree:∀x∈args,∀s,aT C x=some s->∀id∈mh C b argTypes (s.run t),hg id=g.h.get id) :
  ∃m:Sem Value,builtin b argTypes ty consts (args.map a.eval).toArray=(do pure (.value (<-m)))/\dk C A bd w γ hg nx m g (f.run t g):=by
 unfold dD at h
 split at h
 ·
  rename_i x
  split at h
  ·rename_i tt s h0 hs;injection h with h;subst h;exact⟨Builtin.len_ argTypes ty #[a.eval x],rfl,(Oi hr h0 (aD hs ht hr) λhk id hid=>agree x (by simp) s hs id (by simpa only[mh,h0,hk] using hid)).upd⟩
  ·cases h
 ·
  rename_i p x
  split at h
  ·rename_i tt xt sa sx h0 h1 ha hx
   split at h
   ·rename_i e e' he hux
    split at h
    ·rename_i sz bytes zero hsz hby hz;rw[aa]at h
     split at h
     ·rename_i hcond;simp only[R7,Tg,ay]at hcond;injection h with h;subst h;exact⟨Builtin.append_ argTypes ty #[a.eval p,a.eval x],rfl,Fq hr hf h0 h1 (rY he) hux hsz hby hz (aG hcond.1.1) hcond.2 (aD ha ht hr) (aD hx ht hr)
       (λid hid=>agree p (by simp) sa ha id hid) (λid hid=>agree x (by simp) sx hx id hid)⟩
     ·cases h
    ·cases h
   ·rename_i e k he hux
    split at h
    ·rename_i sz bytes zero hsz hby hz;rw[aa]at h
     split at h
     ·rename_i hcond;simp only[R7,Tg,ay]at hcond;injection h with h;subst h;exact⟨Builtin.append_ argTypes ty #[a.eval p,a.eval x],rfl,Db hr hf h0 h1 (rY he) hux hsz hby hz (aG hcond.1.1) hcond.1.2 hcond.2 (aD ha ht hr) (aD hx ht hr)
       (λid hid=>agree p (by simp) sa ha id hid)⟩
     ·cases h
    ·cases h
   ·cases h
  ·cases h
 ·
  rename_i p x
  split at h
  ·rename_i tt sa sx h0 ha hx
   split at h
   ·rename_i e he
    split at h
    ·rename_i sz hsz;injection h with h;subst h;exact⟨Builtin.copy_ argTypes ty #[a.eval p,a.eval x],rfl,KJ hr h0 (rY he) hsz (aD ha ht hr) (aD hx ht hr)
      (λid hid=>agree p (by simp) sa ha id hid) (λid hid=>agree x (by simp) sx hx id hid)⟩
    ·cases h
   ·cases h
  ·cases h
 ·
  rename_i x
  split at h
  ·rename_i tt s h0 hs
   split at h
   ·rename_i e he;injection h with h;subst h;exact⟨Builtin.cap_ argTypes ty #[a.eval x],rfl,(NM hr h0 (rY he) (aD hs ht hr) λid hid=>agree x (by simp) s hs id hid).upd⟩
   ·cases h
  ·cases h
 ·
  rename_i x
  split at h
  ·rename_i tt s h0 hs
   split at h
   ·rename_i e he
    split at h
    ·rename_i sz zero hsz hz;rw[aa]at h
     split at h
     ·rename_i hcond;simp only[R7,Tg,ay]at hcond;injection h with h;subst h;exact⟨Builtin.clear_ argTypes ty #[a.eval x],rfl,IN hr h0 (rY he) hz (aG hcond.1) hcond.2 (aD hs ht hr) λid hid=>agree x (by simp) s hs id hid⟩
     ·cases h
    ·cases h
   ·cases h
  ·cases h
 ·
  rename_i x y
  split at h
  ·rename_i sx sy hx hy;injection h with h;subst h;refine⟨Builtin.max_ argTypes ty #[a.eval x,a.eval y],rfl,?_⟩;have r1:=aD hx ht hr;have r2:=aD hy ht hr;dsimp only;generalize sx.run t=u at r1 ⊢;generalize sy.run t=v at r2 ⊢;cases u<;>try trivial
   cases v<;>try trivial
   exact (Ou r1 r2).upd
  ·cases h
 ·
  rename_i x y
  split at h
  ·rename_i sx sy hx hy;injection h with h;subst h;refine⟨Builtin.min_ argTypes ty #[a.eval x,a.eval y],rfl,?_⟩;have r1:=aD hx ht hr;have r2:=aD hy ht hr;dsimp only;generalize sx.run t=u at r1 ⊢;generalize sy.run t=v at r2 ⊢;cases u<;>try trivial
   cases v<;>try trivial
   exact (Ov r1 r2).upd
  ·cases h
 ·cases h
theorem IK:∀{xs:List Operand} {vs:Stg (T->List AV)},bV C xs=some vs->∀x∈xs,∀s,aT C x=some s->s.run t∈vs.run t:=by
 intro xs
 induction xs with
 |nil=>intro vs _ x hx;cases hx
 | cons y ys ih =>
  intro vs h x hx s hs;simp only[bV]at h
  split at h
  ·rename_i p q hp hq;injection h with h;subst h;rcases Sq.1 hx with rfl|hx
   ·rw[hp]at hs;injection hs with hs;subst hs;exact Ts
   ·exact Tj _ (ih hq x hx s hs)
  ·cases h
theorem t7{b:Builtin}{argTypes:Array TypeId}{args:List Operand}(h:dD C b argTypes args=some f):∃vs,bV C args=some vs:=by
 have one:∀{x:Operand} {s},aT C x=some s->∃vs,bV C [x]=some vs:=by intro x s hs;simp only[bV,hs];exact⟨_,rfl⟩
 have two:∀{x y:Operand} {s u},aT C x=some s->aT C y=some u->∃vs,bV C [x,y]=some vs:=by intro x y s u hs hu;simp only[bV,hs,hu];exact⟨_,rfl⟩
 unfold dD at h
 split at h
 ·split at h
  ·exact one (by assumption)
  ·cases h
 ·split at h
  ·exact two (by assumption) (by assumption)
  ·cases h
 ·split at h
  ·exact two (by assumption) (by assumption)
  ·cases h
 ·split at h
  ·exact one (by assumption)
  ·cases h
 ·split at h
  ·exact one (by assumption)
  ·cases h
 ·split at h
  ·exact two (by assumption) (by assumption)
  ·cases h
 ·split at h
  ·exact two (by assumption) (by assumption)
  ·cases h
 ·cases h
theorem O5(h:cm C op=some f)(ho:o.op=op)(ht:TR w γ A bd nt t a.tmps)(hr:Rel C A bd w γ hg nx)(hf:(γ g.nx).kind=0)
  (agree:∀id∈bk C op t g,hg id=g.h.get id):OpSim C A bd w γ hg nx o a.eval g (f.run t g):=by
 cases op<;>simp only[cm]at h<;>first| (cases h;done)|skip
 case move x =>
  split at h
  ·rename_i s hs;injection h with h;subst h;exact .now (by simp[execOp,ho]) (aD hs ht hr)
  ·cases h
 case assign x =>
  split at h
  ·rename_i s hs;injection h with h;subst h;exact .now (by simp[execOp,ho]) (aD hs ht hr)
  ·cases h
 case pick c x y =>
  split at h
  ·rename_i sc sx sy hc hx hy;injection h with h;subst h;have r1:=aD hc ht hr;have r2:=aD hx ht hr;have r3:=aD hy ht hr;dsimp only;generalize sc.run t=cv at r1 ⊢;generalize hcv:a.eval c=vc at r1;cases r1 with
   | bool _ b =>
    cases b
    ·exact .now (by simp[execOp,ho,hcv,asBool]) r3
    ·exact .now (by simp[execOp,ho,hcv,asBool]) r2
   |_=>trivial
  ·cases h
 case alloc ty =>
  split at h
  ·rename_i cs hz;injection h with h;subst h;exact .ofUpd (by simp only[execOp,ho]) (IE hr hz hf t)
  ·cases h
 case box ty x =>
  split at h
  ·rename_i s hs;injection h with h;subst h;have r1:=aD hs ht hr;unfold Kq;dsimp only;rw[aa]
   split
   ·trivial
   ·rename_i htup;exact .ofUpd (m:=Instr.box ty (a.eval x)) (by simp only[execOp,ho]) (NI hr r1 hf (by simpa using htup))
  ·cases h
 case load ty x =>
  split at h
  ·rename_i s ag n hs hag hn;injection h with h;subst h;exact .ofVal (by simp only[execOp,ho]) (El hr (aD hs ht hr) hag hn λid hid=>agree id (by simp[bk,aN,ac,hs,hid]))
  ·cases h
 case store ty x y =>
  split at h
  ·rename_i s u n hs hu hn;injection h with h;subst h;exact .ofUnit (by simp only[execOp,ho]) (J3 hr (aD hs ht hr) (aD hu ht hr) hn λid hid=>agree id (by simp[bk,aN,ac,hs,hid]))
  ·cases h
 case binOp op ty x y p =>
  split at h
  ·rename_i s u hs hu;injection h with h;subst h;exact .ofVal (by simp only[execOp,ho]) (NF (xo:=x) (yo:=y) (aD hs ht hr) (aD hu ht hr))
  ·cases h
 case unOp op ty x =>
  split at h
  ·rename_i s hs;injection h with h;subst h;exact .ofVal (by simp only[execOp,ho]) (Pa (aD hs ht hr))
  ·cases h
 case convert src dst x =>
  split at h
  ·rename_i s sd k hs hsrc hk;injection h with h;subst h;have r1:=aD hs ht hr;dsimp only;generalize s.run t=cv at r1 ⊢;generalize hcv:a.eval x=vc at r1;cases r1 with
   | int _ k' n =>
    refine .ofVal (m:=convert src dst (.int k' n)) (by simp only[execOp,ho,hcv]) ⟨.int k (k.wrap n),?_,by rw[iN];exact .int _ _ _⟩;unfold convert;simp only[Sn,aF hsrc,aF hk,Sc,Conv.intToInt]
    try rfl
   |_=>trivial
  ·cases h
 case nilCheck x =>
  split at h
  ·rename_i s hs;injection h with h;subst h;have r1:=aD hs ht hr;dsimp only;generalize s.run t=cv at r1 ⊢;generalize hcv:a.eval x=vc at r1;cases r1 with
   |tptr _ tag sz rows i0 off0 b o' cell h1 h2 h3 h4 h5 h6 h7 h8 h9=>exact .now (by simp[execOp,ho,hcv]) (.tptr _ tag sz rows i0 off0 b o' cell h1 h2 h3 h4 h5 h6 h7 h8 h9)
   |hptr _ id ep i off b o' h1 h2 h3=>exact .now (by simp[execOp,ho,hcv]) (.hptr _ id ep i off b o' h1 h2 h3)
   |clo _ f' xs ys vs us h1 h2 h3 h4=>exact .now (by simp[execOp,ho,hcv]) (.clo _ f' xs ys vs us h1 h2 h3 h4)
   |yld _ id b h1 h2=>exact .now (by simp[execOp,ho,hcv]) (.yld _ id b h1 h2)
   |_=>trivial
  ·cases h
 case makeInterface ty x =>
  split at h
  ·cases h
  ·rename_i s d hne hs hu;injection h with h;subst h;refine .ofVal (m:=Instr.makeInterface ty (a.eval x)) (by simp only[execOp,ho]) ⟨.iface ty (a.eval x),?_,.ifc _ ty _ _ (aD hs ht hr)⟩;unfold Instr.makeInterface;simp only[Sn,aF hu,Sc]
   try rfl
  ·cases h
 case makeSlice ty l c =>
  split at h
  ·rename_i e sl sc he hl hc
   split at h
   ·rename_i sz bytes zero hsz hby hz;rw[aa]at h
    split at h
    ·rename_i hcond;simp only[R7,Tg,ay]at hcond;injection h with h;subst h;have hu:C.P.underlying ty=some (.slice e):=by unfold l6 at he;split at he<;>first| (injection he with he;subst he;assumption)|cases he
     exact .ofUpd (by simp only[execOp,ho]) (AU hr hf hu hsz hby hz (aG hcond.1) hcond.2 (aD hl ht hr) (aD hc ht hr))
    ·cases h
   ·cases h
  ·cases h
 case fieldAddr ty x fi =>
  split at h
  ·rename_i s fo ft hs hfi
   split at h
   ·rename_i n hn;injection h with h;subst h;exact .ofVal (by simp only[execOp,ho]) (AP (g:=g) (aD hs ht hr) hfi hn)
   ·cases h
  ·cases h
 case field ty x fi =>
  split at h
  ·rename_i s fo ft hs hfi
   split at h
   ·rename_i ag n hag hn;injection h with h;subst h;have r1:=aD hs ht hr;refine .ofVal (m:=Instr.field ty (a.eval x) fi) (by simp only[execOp,ho]) ?_;dsimp only;generalize s.run t=y at r1 ⊢;cases y<;>first|trivial|exact Jc r1 hfi hag hn
   ·cases h
  ·cases h
 case indexAddr ty x ix =>
  split at h
  ·rename_i s i hs hi
   split at h
   ·rename_i e hu
    split at h
    ·rename_i sz hsz;injection h with h;subst h;exact .ofVal (by simp only[execOp,ho]) (Ed hr (aD hs ht hr) (aD hi ht hr) hu hsz λid hid=>agree id (by simp[bk,aN,ac,hs,hu,hid]))
    ·cases h
   ·rename_i n e hu
    split at h
    ·rename_i sz hsz;injection h with h;subst h;exact .ofVal (by simp only[execOp,ho]) (Ec (g:=g) (aD hs ht hr) (aD hi ht hr) hu hsz)
    ·cases h
   ·cases h
  ·cases h
 case index ty x ix =>
  split at h
  ·rename_i s i hs hi
   split at h
   ·rename_i n e hu
    split at h
    ·rename_i ag sz hag hsz;injection h with h;subst h;exact .ofVal (by simp only[execOp,ho]) (Jl (g:=g) (aD hs ht hr) (aD hi ht hr) hu hag hsz)
    ·cases h
   ·rename_i hu;injection h with h;subst h;exact .ofVal (by simp only[execOp,ho]) (Co (g:=g) (aD hs ht hr) (aD hi ht hr) hu)
   ·cases h
  ·cases h
 case lookup ty x k ok =>
  split at h
  ·rename_i m kk kt et hm hk hu
   split at h
   ·rename_i z hz;injection h with h;subst h;exact .ofVal (by simp only[execOp,ho]) (F9 hr hu hz (aD hm ht hr) (aD hk ht hr) λid hid=>agree id (by cases ok<;>simp[bk,aN,ac,hm,hid]))
   ·cases h
  ·cases h
 case mapUpdate ty m k x =>
  split at h
  ·rename_i sm sk sx kt et hm hk hx hu;injection h with h;subst h;exact .ofUnit (by simp only[execOp,ho]) (uj hr hu (aD hm ht hr) (aD hk ht hr) (aD hx ht hr) λid hid=>agree id (by simp[bk,aN,ac,hm,hid]))
  ·cases h
 case insert ty m k x =>
  split at h
  ·rename_i sm sk sx kt et hm hk hx hu;injection h with h;subst h;exact .ofUnit (by simp only[execOp,ho]) (uj hr hu (aD hm ht hr) (aD hk ht hr) (aD hx ht hr) λid hid=>agree id (by simp[bk,aN,ac,hm,hid]))
  ·cases h
 case mapEntry ty m k =>
  split at h
  ·rename_i sm sk kt et hm hk hu
   split at h
   ·rename_i z hz;injection h with h;subst h;exact .ofUpd (by simp only[execOp,ho]) (Cx hr hu hz (aD hm ht hr) (aD hk ht hr) λid hid=>agree id (by simp[bk,aN,hm,hid]))
   ·cases h
  ·cases h
 case entryStore ty m st x =>
  split at h
  ·rename_i sm ss sx hm hs hx;injection h with h;subst h;exact .ofUnit (s:=Instr.entryStore ty (a.eval m) (a.eval st) (a.eval x)) (by simp only[execOp,ho]) (zh hr (aD hm ht hr) (aD hs ht hr) (aD hx ht hr) λid hid=>agree id (by simp[bk,aN,ac,hm,hid]))
  ·cases h
 case extract x i =>
  split at h
  ·rename_i s hs;injection h with h;subst h;have r1:=aD hs ht hr;refine .ofVal (m:=Instr.extract (a.eval x) i) (by simp only[execOp,ho]) ?_;dsimp only;generalize s.run t=cv at r1 ⊢;generalize a.eval x=vc at r1;cases r1 with
   | tup _ xs vs hl hall =>
    simp only[dV];refine oD λy hy=>?_;have hlt:i<vs.size:=by rw[<-hl];exact (R6.1 hy).1
    exact⟨vs[i],by simp[Instr.extract,hlt],hall i y _ hy (by simp[hlt])⟩
   |_=>trivial
  ·cases h
 case makeMap ty r =>
  cases r with
  |some r=>cases h
  | none =>
   dsimp only at h
   split at h
   ·injection h with h;subst h;refine .ofUpd (m:=do pure (.map (some (<-newObj (.map #[] 0))))) ?_ (Ge (P:=C.P) hr hf);simp only[execOp,ho,Instr.makeMap,Option.map_none]
    try rfl
   ·cases h
 case makeFunc fn fi ca =>
  cases fn with
  | func fx =>
   dsimp only at h
   split at h
   ·rename_i sa sc ha hc;injection h with h;subst h;have r1:=jU ht hr ha;have r2:=jU ht hr hc;refine .now (v:=.func (.func fx) (fi.map a.eval) (ca.map a.eval)) (by simp[execOp,ho,Instr.makeFunc]) (.clo _ fx _ _ _ _ (by simpa using r1.1) (by simpa using r2.1) (λi x v hx hv=>?_) (λi x v hx hv=>?_))
    ·exact r1.2 i x v hx (by simpa using hv)
    ·exact r2.2 i x v hx (by simpa using hv)
   ·cases h
  |_=>cases h
 case buildSlice ty len parts =>
  split at h
  ·rename_i e vs he hvs
   split at h
   ·rename_i sz zero hsz hz;rw[aa]at h
    split at h
    ·rename_i hcond;simp only[R7,Tg,SS,ay]at hcond;injection h with h;subst h;have hu:C.P.underlying ty=some (.slice e):=by unfold l6 at he;split at he<;>first| (injection he with he;subst he;assumption)|cases he
     exact .ofUpd (by simp only[execOp,ho]) (yT hr hf hu hsz hz (aG hcond.1.1) hcond.1.2 hcond.2 (jU ht hr hvs))
    ·cases h
   ·cases h
  ·cases h
 case build ty parts =>
  split at h
  ·rename_i zero vs hz hvs
   split at h
   ·rename_i fs hu
    split at h
    ·rename_i places hpl
     split at h
     ·rename_i pl hp;injection h with h;subst h;refine .ofVal (m:=Instr.build ty (parts.map λ(i,x)=>(i,a.eval x))) (by simp only[execOp,ho]) (A9 (g:=g) (place:=(places[·]?)) hz (jU ht hr hvs) hp λz cells hzv hfill=>?_);have h1:(fs.mapM λf=>do pure (f.offset,<-Go.sizeOf f.type):Sem (Array (Nat×Nat))).run C.P w=.ok places.toArray w:=by
       rw[Array.mapM_eq_mapM_toList];have:=Gs (w:=w) hpl;simp only[Sem.run_map,this]
       rfl
      unfold Instr.build;simp only[Sn,hzv,aF hu,Sc,h1];have e:(λi:Nat=>places.toArray[i]?)=(λi:Nat=>places[i]?):=by funext i;simp
      rw[e,hfill]
      rfl
     ·cases h
    ·cases h
   ·rename_i n e hu
    split at h
    ·rename_i sz hsz;injection h with h;subst h;refine .ofVal (m:=Instr.build ty (parts.map λ(i,x)=>(i,a.eval x))) (by simp only[execOp,ho]) (A9 (g:=g) (place:=λi=>some (i*sz,sz)) hz (jU ht hr hvs) ?_ λz cells hzv hfill=>?_)
     ·generalize parts.toList.map (·.1)=is
      induction is with
      |nil=>rfl
      |cons i is ih=>simp only[aJ,ih,Te]
     ·unfold Instr.build;simp only[Sn,hzv,aF hu,Sc,ba hsz];rw[hfill]
      rfl
    ·cases h
   ·cases h
  ·cases h
 case slice ty x lo hi mx =>
  have optR:∀{y:Option Operand} {s:Stg (T->List AV)},bV C y.toList=some s->OVR w γ A bd (s.run t).head? (y.map a.eval):=by intro y s hs;have:=Mx (jU ht hr hs);cases y<;>simpa using this
  cases mx with
  | none =>
   dsimp only at h
   split at h
   ·rename_i e sx sl sh hu hx hl hh
    split at h
    ·rename_i sz hsz;injection h with h;subst h;refine .ofVal (m:=Instr.sliceAt ty (a.eval x) (lo.map a.eval) (hi.map a.eval) none) (by simp only[execOp,ho,Option.map_none]) ?_;exact At hr hu hsz (aD hx ht hr) (optR hl) (optR hh) trivial (λh=>absurd rfl h) λid hid=>agree id (by simp[bk,aN,ac,hx,hid])
    ·cases h
   ·rename_i n e sx sl sh hu hx hl hh
    split at h
    ·rename_i sz hsz;injection h with h;subst h;refine .ofUpd (m:=Instr.sliceAt ty (a.eval x) (lo.map a.eval) (hi.map a.eval) none) (by simp only[execOp,ho,Option.map_none]) ?_;exact CS (lo:=λt=>(sl.run t).head?) (hi:=λt=>(sh.run t).head?) hr hu hsz (SH _) (aD hx ht hr) (optR hl) (optR hh) λid hid=>agree id (by simp[bk,aN,ac,hx,hid])
    ·cases h
   ·cases h
  | some mx =>
   cases hi with
   |none=>cases h
   | some hi =>
    dsimp only at h
    split at h
    ·rename_i e sx sl sh sm he hx hl hh hm
     split at h
     ·rename_i sz hsz;injection h with h;subst h;have hu:C.P.underlying ty=some (.slice e):=by unfold l6 at he;split at he<;>first| (injection he with he;subst he;assumption)|cases he
      refine .ofVal (m:=Instr.sliceAt ty (a.eval x) (lo.map a.eval) (some (a.eval hi)) (some (a.eval mx))) (by simp only[execOp,ho,TY]) ?_;exact At hr hu hsz (aD hx ht hr) (optR hl) (aD hh ht hr) (aD hm ht hr) (λ_ h=>by cases h) λid hid=>agree id (by simp[bk,aN,ac,hx,hid])
     ·cases h
    ·cases h
 case call c =>
  obtain⟨callee,args,argTypes⟩:=c;cases callee<;>first| (cases h;done)|skip
  rename_i b;dsimp only at h;obtain⟨vs,hvs⟩:=t7 h;obtain⟨m,h1,h2⟩:=Dg (ty:=o.type) (consts:=args.map fun|.const _=>true|_=>false) h ht hr hf λx hx s hs id hid=>agree id (by
   have:=IK (t:=t) hvs x hx s hs;unfold bk aN;simp only[hvs,ac,TP,Su,UH];exact⟨_,this,hid⟩)
  refine .ofUpd (m:=m) ?_ h2;rw[<-h1];simp only[execOp,ho,resolve,invoke];have e:args.map a.eval=(args.toList.map a.eval).toArray:=by apply VF;simp
  rw[<-e]
  rfl
end
end Hx
end
section
namespace Hx
open Go
theorem gF{α β:Type}{f:α->Option β}:∀{l:List α} {r:List β},aJ f l=some r->∀(i:Nat) y,r[i]?=some y->∃x,l[i]?=some x/\f x=some y:=by
 intro l
 induction l with
 |nil=>intro r h i y hy;simp only[aJ]at h;injection h with h;subst h;simp at hy
 | cons a l ih =>
  intro r h i y hy;simp only[aJ]at h
  split at h
  ·rename_i b hb
   split at h
   ·rename_i bs hbs;injection h with h;subst h;cases i with
    |zero=>simp at hy;subst hy;exact⟨a,rfl,hb⟩
    |succ i=>simpa using ih hbs i y (by simpa using hy)
   ·cases h
  ·cases h
theorem nE{α β:Type}{f:α->Option β}:∀{l:List α} {r:List β},aJ f l=some r->r.length=l.length:=by
 intro l
 induction l with
 |nil=>intro r h;simp only[aJ]at h;injection h with h;subst h;rfl
 | cons a l ih =>
  intro r h;simp only[aJ]at h
  split at h
  ·split at h
   ·rename_i bs hbs;injection h with h;subst h;simp[ih hbs]
   ·cases h
  ·cases h
theorem Fa{h:H}{tag:Nat}:∀{f:Nat} {x y:AV},snap h tag f x=some y->x.one=true->y.one=true:=by
 intro f x y hs hx;cases f with
 |zero=>cases hs
 | succ f =>
  cases x<;>simp only[snap]at hs<;>first| (cases hx;done)|skip
  all_goals first| (injection hs with hs;subst hs;rfl)|skip
  all_goals
   repeat (split at hs)
   all_goals first| (cases hs;done)| (injection hs with hs;subst hs;rfl)| (rw[aa]at hs;split at hs<;>first| (cases hs;done)| (injection hs with hs;subst hs;rfl))
def Ext(h:H)(hg:Nat->AObj):Prop:=∀id,h.get id≠.none->hg id=h.get id
section
variable {C:Cfg}{A A':Nat->Nat->Prop}{bd:Nat}{w w':World}{γ γ':Gm}{hg:Nat->AObj}{nx:Nat}
theorem nL{x:AV}{v:Value}(h:RV w γ A bd x v):Closed x ->
  (∀t b,t<=bd->b<w.heap.size->¬A t b->¬Mut γ b->¬A' t b/\¬Mut γ' b)->RV w γ' A' bd x v:=by
 induction h with
 |bool=>intro _ _;exact .bool _ _
 |int=>intro _ _;exact .int _ _ _
 |str=>intro _ _;exact .str _ _
 | tup _ xs vs hl _ ih =>
  intro hc hs;cases hc with|tup _ hc=>exact .tup _ _ _ hl λi x v h1 h2=>ih i x v h1 h2 (hc x (R9 h1)) hs
 | agg _ xs vs hl h1 _ ih =>
  intro hc hs;cases hc with|agg _ hc=>exact .agg _ _ _ hl h1 λi x v h1 h2=>ih i x v h1 h2 (hc x (R9 h1)) hs
 |nilp=>intro _ _;exact .nilp _
 |nils=>intro _ _;exact .nils _
 |nilf=>intro _ _;exact .nilf _
 |nilm=>intro _ _;exact .nilm _
 |nili=>intro _ _;exact .nili _
 |esl=>intro _ _;exact .esl _ _
 | tsl _ tag sz rows b o cap cell ht hc hb hm ha hr ho hw h hcl ih =>
  intro _ hs;obtain⟨h1,h2⟩:=hs tag b ht hb ha hm;exact .tsl _ tag sz rows b o cap cell ht hc hb h2 h1 hr ho hw
   (λi j row x a c=>ih i j row x a c (hcl row (R9 a) x (R9 c)) λt b hle=>hs t b (Sz hle ht)) hcl
 |tnil _ tag sz a cap ht=>intro _ _;exact .tnil _ tag sz a cap ht
 | tptr _ tag sz rows i0 off0 b o cell ht hb hm ha hr ho hw h hcl ih =>
  intro _ hs;obtain⟨h1,h2⟩:=hs tag b ht hb ha hm;exact .tptr _ tag sz rows i0 off0 b o cell ht hb h2 h1 hr ho hw
   (λi j row x a c=>ih i j row x a c (hcl row (R9 a) x (R9 c)) λt b hle=>hs t b (Sz hle ht)) hcl
 |hsl=>intro hc;cases hc
 |hptr=>intro hc;cases hc
 | clo _ f xs ys vs us hl hl2 _ _ ih ih2 =>
  intro hc hs;cases hc with
  |clo _ _ _ hc hc2=>exact .clo _ f xs ys vs us hl hl2 (λi x v h1 h2=>ih i x v h1 h2 (hc x (R9 h1)) hs) (λi x v h1 h2=>ih2 i x v h1 h2 (hc2 x (R9 h1)) hs)
 |hmap=>intro hc;cases hc
 |ifc _ t x v _ ih=>intro hc hs;cases hc with|ifc _ _ hc=>exact .ifc _ t x v (ih hc hs)
 |yld=>intro hc;cases hc
theorem Al{x:AV}{v:Value}(h:RV w γ A bd x v)(hx:(∃l sz rows,x=.tsl l sz rows)\/(∃l sz rows i o,x=.tptr l sz rows i o)):Closed x:=by
 rcases hx with⟨l,sz,rows,rfl⟩|⟨l,sz,rows,i,o,rfl⟩
 ·cases h with
  |tsl _ _ _ _ _ _ _ _ _ _ _ _ _ _ _ _ _ hcl=>exact .tsl _ _ _ hcl
  |tnil=>exact .tsl _ _ _ λrow h=>by cases h
 ·cases h with
  |tptr _ _ _ _ _ _ _ _ _ _ _ _ _ _ _ _ _ hcl=>exact .tptr _ _ _ _ _ hcl
theorem Ip{h:H}{tag B:Nat}{L:Nat->Prop}(hr:Rel C A bd w γ hg nx)(hx:∀id,L id->h.get id≠.none->hg id=h.get id)(hB:bd<=B)(htB:tag<=B)
  (hs:∀t b,t<=bd->b<w.heap.size->¬A t b->¬Mut γ b->¬A' t b/\¬Mut γ' b)
  (ho:∀id,L id->(∃sz rows ep lo fz,h.get id=.cells sz rows ep lo fz)->(γ id).kind=1->∀t,tag<=t->t<=B->¬A' t (γ id).blk/\¬Mut γ' (γ id).blk) :
  ∀(f:Nat) {x y:AV} {v:Value},snap h tag f x=some y->RV w γ A bd x v->(∀id∈aC h f x,L id)->RV w γ' A' B y v/\Closed y:=by
 intro f
 induction f with
 |zero=>intro x y v h;cases h
 | succ f ih =>
  intro x y v hsn hv hL;have hlist:∀{xs ys:List AV} {vs:Array Value},aJ (snap h tag f) xs=some ys->(∀id∈xs.flatMap (aC h f),L id)->xs.length=vs.size ->
    (∀(i:Nat) x v,xs[i]?=some x->vs[i]?=some v->RV w γ A bd x v) ->
    ys.length=vs.size/\(∀(i:Nat) x v,ys[i]?=some x->vs[i]?=some v->RV w γ' A' B x v)/\∀y∈ys,Closed y:=by
   intro xs ys vs h1 h2 h3 h4;have hex:∀(i:Nat) y,ys[i]?=some y->∃v,vs[i]?=some v/\RV w γ' A' B y v/\Closed y:=by
    intro i y hy;obtain⟨x,a1,a2⟩:=gF h1 i y hy;have hlt:i<vs.size:=by rw[<-h3];exact (R6.1 a1).1
    have hv:=Sv hlt;obtain⟨b1,b2⟩:=ih a2 (h4 i x _ a1 hv) λid hid=>h2 id (UH.2 ⟨x,R9 a1,hid⟩);exact⟨_,hv,b1,b2⟩
   refine⟨by rw[nE h1,h3],λi y v hy hv=>?_,λy hy=>?_⟩
   ·obtain⟨v',b1,b2,_⟩:=hex i y hy;rw[hv]at b1;injection b1 with b1;subst b1;exact b2
   ·obtain⟨i,hi⟩:=SE hy;obtain⟨_,_,_,b⟩:=hex i y hi;exact b
  have hrows:∀{id sz:Nat} {rows:List (List AV)} {ep:Nat} {lo fz:Bool} {start len:Nat} {rs:List (List AV)} {m:Nat},
    hg id=.cells sz rows ep lo fz->aJ (aJ (snap h tag f)) ((rows.drop start).take len)=some rs->gW rs=some m ->
    (∀id'∈((rows.drop start).take len).flatMap (·.flatMap (aC h f)),L id')->start+len<=rows.length ->
    rs.length=len/\m<=B/\(∀(i:Nat) row,rs[i]?=some row->row.length=sz) /\
    (∀(i j:Nat) row x,rs[i]?=some row->row[j]?=some x->x.one=true/\∃c,w.cell? (adr (γ id).blk ((γ id).base+start*sz+i*sz+j))=some c/\RV w γ' A' m x c) /\
    (∀row∈rs,∀x∈row,Closed x):=by
   intro id sz rows ep lo fz start len rs m hid hm htag hL' hle;have hob:=hr.obj id;rw[hid]at hob;have hlen:rs.length=len:=by rw[nE hm];simp;omega
   have key:∀(i j:Nat) row x,rs[i]?=some row->row[j]?=some x->x.one=true/\∃c,w.cell? (adr (γ id).blk ((γ id).base+start*sz+i*sz+j))=some c/\RV w γ' A' B x c/\Closed x:=by
    intro i j row x hi hj;obtain⟨row0,a1,a2⟩:=gF hm i row hi;obtain⟨x0,b1,b2⟩:=gF a2 j x hj;have hri:rows[start+i]?=some row0:=by
     rw[Uv]at a1
     split at a1
     ·rw[ST]at a1;exact a1
     ·cases a1
    obtain⟨c1,v,c2,c3⟩:=tL hr hid hri j x0 b1;obtain⟨d1,d2⟩:=ih b2 c3 λid' hid'=>hL' id' (UH.2 ⟨row0,R9 a1,UH.2 ⟨x0,R9 b1,hid'⟩⟩);refine⟨Fa b2 c1,v,?_,d1,d2⟩;rw[<-c2];congr 2;rw[SA];omega
   refine⟨hlen,?_,?_,?_,?_⟩
   ·refine eW htag λrow hrow k hk=>eW hk λx hx k' hk'=>?_;obtain⟨i,hi⟩:=SE hrow;obtain⟨j,hj⟩:=SE hx;obtain⟨_,c,_,hc,_⟩:=key i j row x hi hj;exact yI _ hk' hc
   ·intro i row hi;obtain⟨row0,a1,a2⟩:=gF hm i row hi;rw[nE a2];obtain⟨k1,k2,k3,k4,k5,k6,c,e,k7,k8,k9,k10⟩:=hob;rw[Uv]at a1
    split at a1
    ·rw[ST]at a1;exact k9 _ _ a1
    ·cases a1
   ·intro i j row x hi hj;obtain⟨c1,c,c2,c3,_⟩:=key i j row x hi hj;exact⟨c1,c,c2,uT htag hi hj c3⟩
   ·intro row hrow x hx;obtain⟨i,hi⟩:=SE hrow;obtain⟨j,hj⟩:=SE hx;obtain⟨_,_,_,_,c⟩:=key i j row x hi hj;exact c
  cases hv with
  | agg _ xs vs hl h1 h2 =>
   simp only[snap]at hsn
   split at hsn
   ·rename_i as has;injection hsn with hsn;subst hsn;obtain⟨a,b,c⟩:=hlist has (by simpa only[aC] using hL) hl h2;refine⟨.agg _ _ _ a (λi x hi=>?_) b,.agg _ c⟩;obtain⟨x0,a1,a2⟩:=gF has i x hi;exact Fa a2 (h1 i x0 a1)
   ·cases hsn
  | tup _ xs vs hl h2 =>
   simp only[snap]at hsn
   split at hsn
   ·rename_i as has;injection hsn with hsn;subst hsn;obtain⟨a,b,c⟩:=hlist has (by simpa only[aC] using hL) hl h2;exact⟨.tup _ _ _ a b,.tup _ c⟩
   ·cases hsn
  | clo _ g xs ys vs us hl hl2 h1 h2 =>
   simp only[snap]at hsn;simp only[aC]at hL
   split at hsn
   ·rename_i as cs has hcs;injection hsn with hsn;subst hsn;obtain⟨a,b,c⟩:=hlist has (λid hid=>hL id (TS _ hid)) hl h1;obtain⟨a',b',c'⟩:=hlist hcs (λid hid=>hL id (TU _ hid)) hl2 h2;exact⟨.clo _ _ _ _ _ _ a a' b b',.clo _ _ _ c c'⟩
   ·cases hsn
  | ifc _ t x v h1 =>
   simp only[snap]at hsn
   split at hsn
   ·rename_i a ha;injection hsn with hsn;subst hsn;obtain⟨a,b⟩:=ih ha h1 (by simpa only[aC] using hL);exact⟨.ifc _ _ _ _ a,.ifc _ _ b⟩
   ·cases hsn
  | hsl _ id ep off len lim b o cap hk he hc h' =>
   simp only[snap]at hsn
   split at hsn
   ·rename_i sz rows ep' lo fz hget;rw[aa]at hsn
    split at hsn
    ·rename_i hcond;simp only[R7,SS,ay]at hcond;obtain⟨hep,hle⟩:=hcond;have hep:=aG hep
     split at hsn
     ·rename_i rs hrs
      split at hsn
      ·rename_i m hm;injection hsn with hsn;subst hsn;have hid:hg id=.cells sz rows ep' lo fz:=by rw[hx id (hL id (by simp[aC])) (by rw[hget];simp),hget]
       have hob:=hr.obj id;rw[hid]at hob;obtain⟨k1,k2,k3,k4,_⟩:=hob;obtain⟨e1,e2,e3⟩:=h' (hep.trans k2.symm);subst e1;subst e2;simp only[aC,hget]at hL;simp only[bh,bg]at hrs hL;obtain⟨r1,r2,r3,r4,r5⟩:=hrows hid hrs hm (λid' hid'=>hL id' (Tj _ hid')) hle;obtain⟨o1,o2⟩:=ho id (hL id Ts) ⟨_,_,_,_,_,hget⟩ hk (Nat.max tag m) (TJ _ _) (VB.2 ⟨htB,r2⟩);refine⟨?_,.tsl _ _ _ r5⟩;rw[<-r1];rw[k3];refine .tsl _ (Nat.max tag m) sz rs (γ id).blk ((γ id).base+off*sz) cap (λi j=>(w.cell? (adr (γ id).blk ((γ id).base+off*sz+i*sz+j))).getD undef) (VB.2 ⟨htB,r2⟩) (by rw[r1];exact hc)
        (hr.lt id (by rw[hk];decide)).2 o2 o1 r3 (λi j row x hi hj=>(r4 i j row x hi hj).1) (λi j row x hi hj=>?_) (λi j row x hi hj=>?_) r5
       ·obtain⟨_,c,c2,_⟩:=r4 i j row x hi hj;simp only[c2,Se]
       ·obtain⟨_,c,c2,c3⟩:=r4 i j row x hi hj;simp only[c2,Se];exact c3.mono (Ud _ _)
      ·cases hsn
     ·cases hsn
    ·cases hsn
   ·cases hsn
  | hptr _ id ep i off b o hk he h' =>
   simp only[snap]at hsn
   split at hsn
   ·rename_i sz rows ep' lo fz hget;rw[aa]at hsn
    split at hsn
    ·rename_i hep;have hep:=aG hep
     split at hsn
     ·rename_i rs hrs
      split at hsn
      ·rename_i m hm;injection hsn with hsn;subst hsn;have hid:hg id=.cells sz rows ep' lo fz:=by rw[hx id (hL id (by simp[aC])) (by rw[hget];simp),hget]
       have hob:=hr.obj id;rw[hid]at hob;obtain⟨k1,k2,k3,k4,_⟩:=hob;obtain⟨e1,e2⟩:=h' (hep.trans k2.symm);subst e1;subst e2;simp only[aC,hget]at hL;have hrs':aJ (aJ (snap h tag f)) ((rows.drop 0).take rows.length)=some rs:=by simpa using hrs
       obtain⟨r1,r2,r3,r4,r5⟩:=hrows hid hrs' hm (λid' hid'=>hL id' (Tj _ (by simpa using hid'))) (by omega);obtain⟨o1,o2⟩:=ho id (hL id Ts) ⟨_,_,_,_,_,hget⟩ hk (Nat.max tag m) (TJ _ _) (VB.2 ⟨htB,r2⟩);refine⟨?_,.tptr _ _ _ _ _ r5⟩;rw[k3];refine .tptr _ (Nat.max tag m) sz rs i off (γ id).blk (γ id).base (λi j=>(w.cell? (adr (γ id).blk ((γ id).base+i*sz+j))).getD undef) (VB.2 ⟨htB,r2⟩)
        (hr.lt id (by rw[hk];decide)).2 o2 o1 r3 (λi j row x hi hj=>(r4 i j row x hi hj).1) (λi j row x hi hj=>?_) (λi j row x hi hj=>?_) r5
       ·obtain⟨_,c,c2,_⟩:=r4 i j row x hi hj;simp only[Vm,TV]at c2;simp only[c2,Se]
       ·obtain⟨_,c,c2,c3⟩:=r4 i j row x hi hj;simp only[Vm,TV]at c2;simp only[c2,Se];exact c3.mono (Ud _ _)
      ·cases hsn
     ·cases hsn
    ·cases hsn
   ·cases hsn
  |hmap=>cases hsn
  |yld=>cases hsn
  | tsl _ tag' sz rows b o cap cell ht hc hb hm ha hrl ho' hw hcell hcl =>
   simp only[snap]at hsn;injection hsn with hsn;subst hsn;exact⟨(nL (.tsl _ tag' sz rows b o cap cell ht hc hb hm ha hrl ho' hw hcell hcl) (.tsl _ _ _ hcl) hs).mono hB,.tsl _ _ _ hcl⟩
  |tnil _ tag' sz a cap ht=>simp only[snap]at hsn;injection hsn with hsn;subst hsn;exact⟨.tnil _ tag' sz a cap (Sz ht hB),.tsl _ _ _ λrow h=>by cases h⟩
  | tptr _ tag' sz rows i0 off0 b o cell ht hb hm ha hrl ho' hw hcell hcl =>
   simp only[snap]at hsn;injection hsn with hsn;subst hsn;exact⟨(nL (.tptr _ tag' sz rows i0 off0 b o cell ht hb hm ha hrl ho' hw hcell hcl) (.tptr _ _ _ _ _ hcl) hs).mono hB,.tptr _ _ _ _ _ hcl⟩
  |bool=>simp only[snap]at hsn;injection hsn with hsn;subst hsn;exact⟨.bool _ _,.bool _⟩
  |int=>simp only[snap]at hsn;injection hsn with hsn;subst hsn;exact⟨.int _ _ _,.int _ _⟩
  |str=>simp only[snap]at hsn;injection hsn with hsn;subst hsn;exact⟨.str _ _,.str _⟩
  |nilp=>simp only[snap]at hsn;injection hsn with hsn;subst hsn;exact⟨.nilp _,.nilp⟩
  |nils=>simp only[snap]at hsn;injection hsn with hsn;subst hsn;exact⟨.nils _,.nils⟩
  |nilf=>simp only[snap]at hsn;injection hsn with hsn;subst hsn;exact⟨.nilf _,.nilf⟩
  |nilm=>simp only[snap]at hsn;injection hsn with hsn;subst hsn;exact⟨.nilm _,.nilm⟩
  |nili=>simp only[snap]at hsn;injection hsn with hsn;subst hsn;exact⟨.nili _,.nili⟩
  |esl _ a=>simp only[snap]at hsn;injection hsn with hsn;subst hsn;exact⟨.esl _ a,.esl⟩
theorem BM{d:Nat}:∀{f:Nat} {x y:AV},dH d f x=some y->x.one=true->y.one=true:=by
 intro f x y hs hx;cases f with
 |zero=>cases hs
 | succ f =>
  cases x<;>simp only[dH,aa]at hs<;>first| (cases hx;done)|skip
  all_goals first| (injection hs with hs;subst hs;rfl)|skip
  all_goals
   repeat (split at hs)
   all_goals first| (cases hs;done)| (injection hs with hs;subst hs;rfl)
theorem Nh{d:Nat}(hA:∀t b,t<d->¬A t b->¬A' t b)(hd:∀b,¬A d b->∀t,¬A' t b) :
  ∀(f:Nat) {x y:AV} {v:Value},dH d f x=some y->RV w γ A d x v->Closed x->RV w γ A' d y v/\Closed y:=by
 intro f
 induction f with
 |zero=>intro x y v h;cases h
 | succ f ih =>
  intro x y v hsn hv hcx;have hlist:∀{xs ys:List AV} {vs:Array Value},aJ (dH d f) xs=some ys->xs.length=vs.size->(∀x∈xs,Closed x) ->
    (∀(i:Nat) x v,xs[i]?=some x->vs[i]?=some v->RV w γ A d x v) ->
    ys.length=vs.size/\(∀(i:Nat) x v,ys[i]?=some x->vs[i]?=some v->RV w γ A' d x v)/\∀y∈ys,Closed y:=by
   intro xs ys vs h1 h3 hc h4;have hex:∀(i:Nat) y,ys[i]?=some y->∃v,vs[i]?=some v/\RV w γ A' d y v/\Closed y:=by
    intro i y hy;obtain⟨x,a1,a2⟩:=gF h1 i y hy;have hlt:i<vs.size:=by rw[<-h3];exact (R6.1 a1).1
    have hv:=Sv hlt;obtain⟨b1,b2⟩:=ih a2 (h4 i x _ a1 hv) (hc x (R9 a1));exact⟨_,hv,b1,b2⟩
   refine⟨by rw[nE h1,h3],λi y v hy hv=>?_,λy hy=>?_⟩
   ·obtain⟨v',b1,b2,_⟩:=hex i y hy;rw[hv]at b1;injection b1 with b1;subst b1;exact b2
   ·obtain⟨i,hi⟩:=SE hy;obtain⟨_,_,_,b⟩:=hex i y hi;exact b
  have hrows:∀{sz:Nat} {rows rs:List (List AV)} {m:Nat} {cell:Nat->Nat->Value},aJ (aJ (dH d f)) rows=some rs->gW rs=some m ->
    (∀(i:Nat) row,rows[i]?=some row->row.length=sz) ->
    (∀(i j:Nat) row x,rows[i]?=some row->row[j]?=some x->x.one=true) ->
    (∀(i j:Nat) row x,rows[i]?=some row->row[j]?=some x->RV w γ A d x (cell i j)) ->
    (∀row∈rows,∀x∈row,Closed x) ->
    rs.length=rows.length/\m<=d/\(∀(i:Nat) row,rs[i]?=some row->row.length=sz) /\
    (∀(i j:Nat) row x,rs[i]?=some row->row[j]?=some x->x.one=true/\(∃row0 x0,rows[i]?=some row0/\row0[j]?=some x0)/\RV w γ A' m x (cell i j)) /\
    (∀row∈rs,∀x∈row,Closed x):=by
   intro sz rows rs m cell h1 h2 h3 h4 h5 h6;have key:∀(i j:Nat) row x,rs[i]?=some row->row[j]?=some x->x.one=true/\(∃row0 x0,rows[i]?=some row0/\row0[j]?=some x0)/\RV w γ A' d x (cell i j)/\Closed x:=by intro i j row x hi hj;obtain⟨row0,a1,a2⟩:=gF h1 i row hi;obtain⟨x0,b1,b2⟩:=gF a2 j x hj;obtain⟨c1,c2⟩:=ih b2 (h5 i j row0 x0 a1 b1) (h6 row0 (R9 a1) x0 (R9 b1));exact⟨BM b2 (h4 i j row0 x0 a1 b1),⟨row0,x0,a1,b1⟩,c1,c2⟩
   refine⟨nE h1,?_,?_,?_,?_⟩
   ·refine eW h2 λrow hrow k hk=>eW hk λx hx k' hk'=>?_;obtain⟨i,hi⟩:=SE hrow;obtain⟨j,hj⟩:=SE hx;obtain⟨_,_,hc,_⟩:=key i j row x hi hj;exact yI _ hk' hc
   ·intro i row hi;obtain⟨row0,a1,a2⟩:=gF h1 i row hi;rw[nE a2];exact h3 i row0 a1
   ·intro i j row x hi hj;obtain⟨c1,c2,c3,_⟩:=key i j row x hi hj;exact⟨c1,c2,uT h2 hi hj c3⟩
   ·intro row hrow x hx;obtain⟨i,hi⟩:=SE hrow;obtain⟨j,hj⟩:=SE hx;obtain⟨_,_,_,c⟩:=key i j row x hi hj;exact c
  have hlow:∀{t:Nat},t<=d->t≠d->∀t' b,t'<=t->b<w.heap.size->¬A t' b->¬Mut γ b->¬A' t' b/\¬Mut γ b :=
   λh1 h2 t' b h3 _ h4 h5=>⟨hA t' b (by omega) h4,h5⟩
  cases hv with
  | agg _ xs vs hl h1 h2 =>
   simp only[dH]at hsn
   split at hsn
   ·rename_i as has;injection hsn with hsn;subst hsn;cases hcx with
    | agg _ hcx =>
     obtain⟨a,b,c⟩:=hlist has hl hcx h2;refine⟨.agg _ _ _ a (λi x hi=>?_) b,.agg _ c⟩;obtain⟨x0,a1,a2⟩:=gF has i x hi;exact BM a2 (h1 i x0 a1)
   ·cases hsn
  | tup _ xs vs hl h2 =>
   simp only[dH]at hsn
   split at hsn
   ·rename_i as has;injection hsn with hsn;subst hsn;cases hcx with
    | tup _ hcx =>
     obtain⟨a,b,c⟩:=hlist has hl hcx h2;exact⟨.tup _ _ _ a b,.tup _ c⟩
   ·cases hsn
  | clo _ g xs ys vs us hl hl2 h1 h2 =>
   simp only[dH]at hsn
   split at hsn
   ·rename_i as cs has hcs;injection hsn with hsn;subst hsn;cases hcx with
    | clo _ _ _ hcx hcx2 =>
     obtain⟨a,b,c⟩:=hlist has hl hcx h1;obtain⟨a',b',c'⟩:=hlist hcs hl2 hcx2 h2;exact⟨.clo _ _ _ _ _ _ a a' b b',.clo _ _ _ c c'⟩
   ·cases hsn
  | ifc _ t x v h1 =>
   simp only[dH]at hsn
   split at hsn
   ·rename_i a ha;injection hsn with hsn;subst hsn;cases hcx with
    | ifc _ _ hcx =>
     obtain⟨a,b⟩:=ih ha h1 hcx;exact⟨.ifc _ _ _ _ a,.ifc _ _ b⟩
   ·cases hsn
  | tsl _ t sz rows b o cap cell ht hc hb hm ha hrl ho' hw hcell hcl =>
   simp only[dH,aa]at hsn
   split at hsn
   ·rename_i htd;have htd:=aG htd
    split at hsn
    ·rename_i rs hrs
     split at hsn
     ·rename_i m hm';injection hsn with hsn;subst hsn;obtain⟨r1,r2,r3,r4,r5⟩:=hrows (cell:=cell) hrs hm' hrl ho' (λi j row x a b=>(hcell i j row x a b).mono ht) hcl;refine⟨?_,.tsl _ _ _ r5⟩;rw[<-r1];refine .tsl _ m sz rs b o cap cell r2 (by rw[r1];exact hc) hb hm (hd b (htd ▸ ha) m) r3 (λi j row x a b=>(r4 i j row x a b).1) (λi j row x a b=>?_) (λi j row x a b=>(r4 i j row x a b).2.2) r5;obtain⟨_,⟨row0,x0,c1,c2⟩,_⟩:=r4 i j row x a b;exact hw i j row0 x0 c1 c2
     ·cases hsn
    ·cases hsn
   ·rename_i htd;injection hsn with hsn;subst hsn;have htd:t≠d:=λe=>htd (by rw[e];exact SQ d);exact⟨.tsl _ t sz rows b o cap cell ht hc hb hm (hA t b (by omega) ha) hrl ho' hw (λi j row x a c=>nL (hcell i j row x a c) (hcl row (R9 a) x (R9 c)) (hlow ht htd)) hcl,.tsl _ _ _ hcl⟩
  | tnil _ t sz a cap ht =>
   simp only[dH,aa]at hsn
   split at hsn
   ·simp only[aJ,gW,iK]at hsn;injection hsn with hsn;subst hsn;exact⟨.tnil _ _ sz a cap (S2 _),.tsl _ _ _ λrow h=>by cases h⟩
   ·injection hsn with hsn;subst hsn;exact⟨.tnil _ t sz a cap ht,.tsl _ _ _ λrow h=>by cases h⟩
  | tptr _ t sz rows i0 off0 b o cell ht hb hm ha hrl ho' hw hcell hcl =>
   simp only[dH,aa]at hsn
   split at hsn
   ·rename_i htd;have htd:=aG htd
    split at hsn
    ·rename_i rs hrs
     split at hsn
     ·rename_i m hm';injection hsn with hsn;subst hsn;obtain⟨r1,r2,r3,r4,r5⟩:=hrows (cell:=cell) hrs hm' hrl ho' (λi j row x a b=>(hcell i j row x a b).mono ht) hcl;refine⟨?_,.tptr _ _ _ _ _ r5⟩;refine .tptr _ m sz rs i0 off0 b o cell r2 hb hm (hd b (htd ▸ ha) m) r3 (λi j row x a b=>(r4 i j row x a b).1) (λi j row x a b=>?_) (λi j row x a b=>(r4 i j row x a b).2.2) r5;obtain⟨_,⟨row0,x0,c1,c2⟩,_⟩:=r4 i j row x a b;exact hw i j row0 x0 c1 c2
     ·cases hsn
    ·cases hsn
   ·rename_i htd;injection hsn with hsn;subst hsn;have htd:t≠d:=λe=>htd (by rw[e];exact SQ d);exact⟨.tptr _ t sz rows i0 off0 b o cell ht hb hm (hA t b (by omega) ha) hrl ho' hw (λi j row x a c=>nL (hcell i j row x a c) (hcl row (R9 a) x (R9 c)) (hlow ht htd)) hcl,.tptr _ _ _ _ _ hcl⟩
  |bool=>simp only[dH]at hsn;injection hsn with hsn;subst hsn;exact⟨.bool _ _,.bool _⟩
  |int=>simp only[dH]at hsn;injection hsn with hsn;subst hsn;exact⟨.int _ _ _,.int _ _⟩
  |str=>simp only[dH]at hsn;injection hsn with hsn;subst hsn;exact⟨.str _ _,.str _⟩
  |nilp=>simp only[dH]at hsn;injection hsn with hsn;subst hsn;exact⟨.nilp _,.nilp⟩
  |nils=>simp only[dH]at hsn;injection hsn with hsn;subst hsn;exact⟨.nils _,.nils⟩
  |nilf=>simp only[dH]at hsn;injection hsn with hsn;subst hsn;exact⟨.nilf _,.nilf⟩
  |nilm=>simp only[dH]at hsn;injection hsn with hsn;subst hsn;exact⟨.nilm _,.nilm⟩
  |nili=>simp only[dH]at hsn;injection hsn with hsn;subst hsn;exact⟨.nili _,.nili⟩
  |esl _ a=>simp only[dH]at hsn;injection hsn with hsn;subst hsn;exact⟨.esl _ a,.esl⟩
  |hsl=>cases hcx
  |hptr=>cases hcx
  |hmap=>cases hcx
  |yld=>cases hcx
theorem Fd(s1:w.heap.size<=w'.heap.size)(s2:w'.os=w.os)(s3:w'.tape=w.tape)(s4:w'.output=w.output)
  (hb:∀b,b<w.heap.size->w'.heap[b]?=w.heap[b]?):Stp w γ w' γ :=
 ⟨s1,s2,s3,s4,λb h _=>hb b h,λ_ _ h=>h,λ_ _=>.inl ⟨rfl,rfl⟩,λ_ _=>⟨R5 _,λ_=>⟨rfl,rfl,rfl,rfl,rfl⟩⟩⟩
theorem Rel.same(hr:Rel C A bd w γ hg nx)(s:Stp w γ w' γ)(hb:∀b,b<w.heap.size->w'.heap[b]?=w.heap[b]?):Rel C A bd w' γ hg nx where
 obj id:=(hr.obj id).step s rfl λhk _=>hb _ (hr.lt id hk).2
 lt id hk:=⟨(hr.lt id hk).1,SB (hr.lt id hk).2 s.sz⟩
 inj:=hr.inj
 av:=hr.av
 ab t b h:=SB (hr.ab t b h) s.sz
 glob g sz rows h:=(hr.glob g sz rows h).step s
structure Fin (C:Cfg) (A:Nat->Nat->Prop) (bd:Nat) (w:World) (γ:Gm) (hg:Nat->AObj) (nx:Nat) (g:G) (w':World) (γ':Gm) (hg':Nat->AObj) (g':G):Prop where
 rel:Rel C A bd w' γ' hg' (Nat.max nx g'.nx)
 stp:Stp w γ w' γ'
 new:∃new,g'.lg=new++g.lg/\(∀id∈new,hg' id=g'.h.get id)/\∀id,id ∉ new->hg' id=hg id
structure Mon (g g':G):Prop where
 nx:g.nx<=g'.nx
 new:∃new,g'.lg=new++g.lg/\(∀id,id ∉ new->g'.h.get id=g.h.get id)/\∀id∈new,id<g'.nx/\(g.h.get id=.none->g.nx<=id)
 wf:(∀id,g.nx<=id->g.h.get id=.none)->∀id,g'.nx<=id->g'.h.get id=.none
def WF(g:G):Prop:=∀id,g.nx<=id->g.h.get id=.none
theorem Mon.refl(g:G):Mon g g:=⟨R5 _,⟨[],rfl,λ_ _=>rfl,λ_ h=>by cases h⟩,λh=>h⟩
theorem Mon.trans{g g1 g2:G}(h1:Mon g g1)(h2:Mon g1 g2):Mon g g2:=by
 obtain⟨n1,a1,b1,c1⟩:=h1.new;obtain⟨n2,a2,b2,c2⟩:=h2.new;refine⟨Sz h1.nx h2.nx,⟨n2++n1,by rw[a2,a1,S7],λid hid=>?_,λid hid=>?_⟩,λh=>h2.wf (h1.wf h)⟩
 ·rw[b2 id λh=>hid (TS _ h),b1 id λh=>hid (TU _ h)]
 ·by_cases hin:id∈n1
  ·exact⟨SB (c1 id hin).1 h2.nx,(c1 id hin).2⟩
  ·rcases SG.1 hid with h|h
   ·exact⟨(c2 id h).1,λhn=>Sz h1.nx ((c2 id h).2 (by rw[b1 id hin];exact hn))⟩
   ·exact absurd h hin
def Free(γ:Gm)(g g':G):Prop:=∀id,g.nx<=id->id<=g'.nx->(γ id).kind=0
theorem Fin.refl{g:G}(hr:Rel C A bd w γ hg nx):Fin C A bd w γ hg nx g w γ hg g :=
 ⟨hr.up (TJ _ _),Stp.refl _ _,⟨[],rfl,λ_ h=>absurd h Sk,λ_ _=>rfl⟩⟩
theorem Rel.none_iff(hr:Rel C A bd w γ hg nx)(id:Nat):(γ id).kind=0↔hg id=.none:=by
 have h:=hr.obj id;constructor
 ·intro hk;cases ho:hg id with
  |none=>rfl
  |_=>rw[ho]at h;have:=h.1;omega
 ·intro hn;rw[hn]at h;exact h
theorem Fin.freed{g g1 g2:G}{w1:World}{γ1:Gm}{hg1:Nat->AObj}(h1:Fin C A bd w γ hg nx g w1 γ1 hg1 g1)(hr:Rel C A bd w γ hg nx)(m1:Mon g g1)(hf:Free γ g g2):Free γ1 g1 g2:=by
 obtain⟨n,a,b,c⟩:=h1.new;obtain⟨n',a',b',c'⟩:=m1.new;have e:n'=n:=UR (a'.symm.trans a);subst e;intro id h2 h3;have hn:id ∉ n':=λh=>by have:=(c' id h).1;omega
 rw[h1.rel.none_iff,c id hn,<-hr.none_iff];exact hf id (Sz m1.nx h2) h3
theorem Free.le{γ:Gm}{g g1 g2:G}(h:Free γ g g2)(hle:g1.nx<=g2.nx):Free γ g g1:=λid h1 h2=>h id h1 (Sz h2 hle)
theorem Fin.ext{g g':G}{hg':Nat->AObj}(h:Fin C A bd w γ hg nx g w' γ' hg' g')(m:Mon g g')(hx:Ext g.h hg):Ext g'.h hg':=by
 obtain⟨n,a,b,c⟩:=h.new;obtain⟨n',a',b',_⟩:=m.new;have e:n'=n:=UR (a'.symm.trans a);subst e;intro id hid
 by_cases hin:id∈n'
 ·exact b id hin
 ·rw[c id hin,b' id hin];exact hx id (by rw[<-b' id hin];exact hid)
theorem Fin.trans{g g1 g2:G}{w1 w2:World}{γ1 γ2:Gm}{hg1 hg2:Nat->AObj}(h1:Fin C A bd w γ hg nx g w1 γ1 hg1 g1)
  (h2:Fin C A bd w1 γ1 hg1 (Nat.max nx g1.nx) g1 w2 γ2 hg2 g2) (m1:Mon g g1) (m2:Mon g1 g2):Fin C A bd w γ hg nx g w2 γ2 hg2 g2:=by
 obtain⟨n1,a1,b1,c1⟩:=h1.new;obtain⟨n2,a2,b2,c2⟩:=h2.new;obtain⟨n',a',b',_⟩:=m2.new;have e:n'=n2:=UR (a'.symm.trans a2);subst e;refine⟨?_,h1.stp.trans h2.stp,⟨n'++n1,by rw[a2,a1,S7],λid hid=>?_,λid hid=>?_⟩⟩
 ·refine h2.rel.up (VB.2 ⟨VB.2 ⟨TJ _ _,Sz m2.nx (Ud _ _)⟩,Ud _ _⟩)
 ·by_cases hin:id∈n'
  ·exact b2 id hin
  ·rw[c2 id hin,b' id hin];rcases SG.1 hid with h|h
   ·exact absurd h hin
   ·exact b1 id h
 ·rw[c2 id λh=>hid (TS _ h),c1 id λh=>hid (TU _ h)]
def uW(K:CallKind)(cs:List Frame):Prop:=K=.normal\/(K=.deferred/\∃c cs',cs=c::cs'/\(c.mode=.returning\/∃v x older,c.mode=.panicking ({ v,recovered:=true,goexit:=x }::older)))
def Outs(P:Program)(K:CallKind)(f:FuncId)(vs:Array Value)(cs:List Frame)(w:World)(u:Value)(w':World):Prop :=
 ∃fr,Steps P (lone (Frame.enter P f vs K) cs w) (lone fr cs w')/\fr.mode=.returning/\fr.defers=[]/\fr.kind=K/\fr.fn=f /\
  ∃fn,P.funcs[f]?=some fn/\(results fn fr.tmps).run P w'=.ok u w'
def Enters(P:Program)(f:FuncId):Prop:=∀args w,(callFunc f args).run P w=.ok (.enter f args) w
def GY(C:Cfg)(bd:Nat)(f:FuncId)(as:List AV)(g:G)(v:AV)(g':G):Prop :=
 ∀A w γ hg nx vs,Rel C A bd w γ hg nx->Ext g.h hg->WF g->Free γ g g'->RVs w γ A bd as vs->∀K cs,uW K cs ->
  ∃u w' γ' hg',Fin C A bd w γ hg nx g w' γ' hg' g'/\RV w' γ' A bd v u/\Outs C.P K f vs.toArray cs w u w'
def Kd(C:Cfg)(ih:IH):Prop :=
 ∀bd f as g v g',ih.call (bd+1) f as g=.ok v g'->Enters C.P f/\GY C bd f as g v g'
def GX(ih:IH):Prop:=∀d f as g v g',ih.call d f as g=.ok v g'->WF g->Mon g g'
theorem AS:∀(ids:List Nat) (g:G),WF g->Mon g (ct g ids):=by
 intro ids
 induction ids with
 |nil=>intro g _;exact Mon.refl g
 | cons i is ih =>
  intro g hwf;simp only[ct]
  split
  ·rename_i sz rows ep lo fz hget;have hi:i<g.nx:=Nat.lt_of_not_le λh=>by have:=hwf i h;rw[<-G.get_eq,hget]at this;cases this
   refine Mon.trans ⟨by simp,⟨[i],by simp,λid hid=>?_,λid hid=>?_⟩,λh id hid=>?_⟩ (ih _ λid hid=>?_)
   ·simp only[G.put_h,RW];rw[Sa];simpa using hid
   ·simp at hid;subst hid;exact⟨by simpa using hi,λhn=>by rw[<-G.get_eq,hget]at hn;cases hn⟩
   ·simp only[G.put_nx]at hid;simp only[G.put_h,RW];rw[Sa (by omega)];exact h id hid
   ·simp only[G.put_nx]at hid;simp only[G.put_h,RW];rw[Sa (by omega)];exact hwf id hid
  ·exact ih g hwf
theorem AT:∀(ids:List Nat) (g:G) (γ:Gm) (hg:Nat->AObj),Rel C A bd w γ hg nx->(∀id∈ids,g.h.get id≠.none->hg id=g.h.get id) ->
  ∃γ₁ hg₁,Rel C A bd w γ₁ hg₁ nx/\Stp w γ w γ₁/\(ct g ids).nx=g.nx /\
   (∃new,(ct g ids).lg=new++g.lg/\(∀id∈new,hg₁ id=(ct g ids).h.get id)/\(∀id,id ∉ new->hg₁ id=hg id)) /\
   (∀id,(γ₁ id).kind=(γ id).kind/\(γ₁ id).blk=(γ id).blk/\((γ₁ id).wr=true->(γ id).wr=true)) /\
   (∀id∈ids,(∃sz rows ep lo fz,g.h.get id=.cells sz rows ep lo fz)->(γ₁ id).wr=false):=by
 intro ids
 induction ids with
 | nil =>
  intro g γ hg hr hx;exact⟨γ,hg,hr,Stp.refl _ _,rfl,⟨[],rfl,λ_ h=>absurd h Sk,λ_ _=>rfl⟩,λ_=>⟨rfl,rfl,λh=>h⟩,λ_ h=>by cases h⟩
 | cons i is ih =>
  intro g γ hg hr hx;simp only[ct]
  split
  ·rename_i sz rows ep lo fz hget;have hget':g.h.get i=.cells sz rows ep lo fz:=by simpa using hget
   have hid:hg i=.cells sz rows ep lo fz:=by rw[hx i Ts (by rw[hget'];simp),hget']
   obtain⟨γ₀,r0,s0,e0,m0⟩:=hr.freeze hid;have hx0:∀id∈is,(g.put i (.cells sz rows ep lo true)).h.get id≠.none->upd hg i (.cells sz rows ep lo true) id=(g.put i (.cells sz rows ep lo true)).h.get id:=by
    intro id hin hne;simp only[G.put_h,RW]at hne ⊢;unfold upd
    by_cases hi:id=i
    ·simp[hi]
    ·simp only[hi,if_false]at hne ⊢;exact hx id (Tj _ hin) hne
   obtain⟨γ₁,hg₁,r1,s1,n1,⟨new,l1,l2,l3⟩,f1,f2⟩:=ih _ γ₀ _ r0 hx0;refine⟨γ₁,hg₁,r1,s0.trans s1,by rw[n1];simp,⟨new++[i],by rw[l1];simp,λid hid'=>?_,λid hid'=>?_⟩,λid=>?_,λid hid' hc=>?_⟩
   ·by_cases hin:id∈new
    ·exact l2 id hin
    ·have hi:id=i:=by
      rcases SG.1 hid' with h|h
      ·exact absurd h hin
      ·simpa using h
     subst hi;rw[l3 id hin];simp only[upd_same]
     by_cases hwf:∃new',(ct (g.put id (.cells sz rows ep lo true)) is).lg=new'++(g.put id (.cells sz rows ep lo true)).lg/\∀k,k ∉ new'->(ct (g.put id (.cells sz rows ep lo true)) is).h.get k=(g.put id (.cells sz rows ep lo true)).h.get k
     ·obtain⟨new',q1,q2⟩:=hwf;have e:new'=new:=UR (q1.symm.trans l1);rw[q2 id (e ▸ hin)];simp[RW]
     ·exact absurd (freezeIds_log is _) hwf
   ·rw[l3 id λh=>hid' (TS _ h)];exact cE _ _ (by rintro rfl;exact hid' (TU _ Ts))
   ·obtain⟨a,b,c⟩:=f1 id;rw[e0]at a b c;unfold upd at a b c
    by_cases hi:id=i
    ·subst hi;simp at a b c;exact⟨a,b,λh=>by rw[c]at h;cases h⟩
    ·simp only[hi,if_false]at a b c;exact⟨a,b,c⟩
   ·rcases Sq.1 hid' with rfl|hin
    ·have:=(f1 id).2.2;rw[e0]at this;simp at this;simpa using this
    ·by_cases hi:id=i
     ·subst hi;have:=(f1 id).2.2;rw[e0]at this;simp at this;simpa using this
     ·refine f2 id hin ?_;simp only[G.put_h,RW,hi,if_false];exact hc
  ·rename_i hne;obtain⟨γ₁,hg₁,r1,s1,n1,l,f1,f2⟩:=ih g γ hg hr λid hin=>hx id (Tj _ hin);refine⟨γ₁,hg₁,r1,s1,n1,l,f1,λid hid' hc=>?_⟩;rcases Sq.1 hid' with rfl|hin
   ·obtain⟨sz,rows,ep,lo,fz,hc⟩:=hc;exact absurd (by simpa using hc) (hne sz rows ep lo fz)
   ·exact f2 id hin hc where
 freezeIds_log:∀(ids:List Nat) (g:G),∃new',(ct g ids).lg=new'++g.lg/\∀k,k ∉ new'->(ct g ids).h.get k=g.h.get k:=by
  intro ids
  induction ids with
  |nil=>intro g;exact⟨[],rfl,λ_ _=>rfl⟩
  | cons i is ih =>
   intro g;simp only[ct]
   split
   ·rename_i sz rows ep lo fz hget;obtain⟨new,a,b⟩:=ih (g.put i (.cells sz rows ep lo true));refine⟨new++[i],by rw[a];simp,λk hk=>?_⟩;rw[b k λh=>hk (TS _ h)];simp only[G.put_h,RW];rw[Sa];rintro rfl;exact hk (TU _ Ts)
   ·exact ih g
def gOf(g:G):OR->G
 |.upd _ g'=>g'
 |_=>g
def vOf:OR->AV
 |.upd v _=>v
 |.val v=>v
 |_=>.undef
theorem xG{ih:IH}{d:Nat}{g:G}{f:Nat}{args:List AV}(hwf:WF g):Mon g (gOf g (ah ih d g f args)):=by
 unfold ah
 split
 ·exact Mon.refl g
 split
 ·exact Mon.refl g
 split
 ·exact Mon.refl g
 split
 ·exact Mon.refl g
 rw[aa]
 split
 ·exact Mon.refl g
 split
 ·exact Mon.refl g
 split
 ·exact Mon.refl g
 rw[aa]
 split
 ·exact AS _ _ hwf
 ·exact Mon.refl g
theorem xH{ih:IH}{g:G}{f:Nat}{args:List AV}{vs:List Value}(hc:Kd C ih)(hm:GX ih)(hr:Rel C A bd w γ hg nx)
  (hx:∀id∈args.flatMap (aC g.h aE),g.h.get id≠.none->hg id=g.h.get id)
  (hv:RVs w γ A bd args vs) (hne:ah ih (bd+1) g f args≠.fail) (cs:List Frame) :
  Enters C.P f/\∃u w' γ' hg',Fin C A bd w γ hg nx g w' γ' hg' (gOf g (ah ih (bd+1) g f args))/\RV w' γ' A bd (vOf (ah ih (bd+1) g f args)) u /\
   Outs C.P .normal f vs.toArray cs w u w':=by
 let γc:Gm:=λ_=>⟨0,0,0,0,0,0,0,false⟩
 let L:Nat->Prop:=λid=>id∈args.flatMap (aC g.h aE)
 let isC:Nat->Prop:=λid=>∃sz rows ep lo fz,g.h.get id=.cells sz rows ep lo fz
 let Ac:Nat->Nat->Prop:=λt b=>(t<=bd/\(A t b\/Mut γ b))\/(t=bd+1/\b<w.heap.size/\¬∃id,L id/\isC id/\(γ id).kind=1/\(γ id).blk=b)
 have hmutc:∀b,¬Mut γc b:=by rintro b ⟨id,h,_⟩;exact h rfl
 generalize hres:ah ih (bd+1) g f args=res at *;unfold ah at hres
 split at hres
 ·exact absurd hres.symm hne
 rename_i as has;have hshift:∀t b,t<=bd->b<w.heap.size->¬A t b->¬Mut γ b->¬Ac t b/\¬Mut γc b:=by
  intro t b h1 _ h2 h3;refine⟨?_,hmutc b⟩;rintro (⟨_,h|h⟩|⟨h,_⟩)
  ·exact h2 h
  ·exact h3 h
  ·omega
 have hargs:RVs w γc Ac (bd+1) as vs:=by
  refine⟨by rw[nE has];exact hv.1,λi y v hy hvi=>?_⟩;obtain⟨x,h1,h2⟩:=gF has i y hy;refine (Ip (L:=L) hr hx (Nat.le_succ _) (R5 _) hshift ?_ aE h2 (hv.2 i x v h1 hvi) λid hid=>UH.2 ⟨x,R9 h1,hid⟩).1;intro id hL hcell hk t h3 h4;have ht:t=bd+1:=Nat.le_antisymm h4 h3;refine⟨?_,hmutc _⟩;rintro (⟨h,_⟩|⟨_,_,h⟩)
  ·omega
  ·exact h ⟨id,hL,hcell,hk,rfl⟩
 have hrc:Rel C Ac (bd+1) w γc (λ_=>.none) 0:=by
  refine⟨λid=>rfl,λid h=>absurd rfl h,λi j h=>absurd rfl h,λid h=>absurd rfl h,?_,λgl sz rows h=>?_⟩
  ·rintro t b (⟨_,h|⟨id,h1,h2,h3⟩⟩|⟨_,h,_⟩)
   ·exact hr.ab t b h
   ·rw[<-h3];exact (hr.lt id h1).2
   ·exact h
  ·have:=hr.glob gl sz rows h;exact (nL this (Al this (.inr ⟨_,_,_,_,_,rfl⟩)) hshift).mono (Nat.le_succ _)
 split at hres
 ·exact absurd hres.symm hne
 rename_i r g' hcall;have hempty:G.empty.h.get=λ_=>AObj.none:=by funext id;simp[G.empty,H.get,R1]
 obtain⟨hent,hrun⟩:=hc (bd+1) f as G.empty r g' hcall;refine⟨hent,?_⟩;obtain⟨u,w',γ',hg',hfin,hru,hout⟩:=hrun Ac w γc (λ_=>.none) 0 vs hrc (λid h=>by rw[hempty]at h;exact absurd rfl h) (λid _=>by rw[hempty])
  (λ_ _ _=>rfl) hargs .normal cs (.inl rfl)
 have hextc:Ext g'.h hg':=hfin.ext (hm _ _ _ _ _ _ hcall (λid _=>by rw[hempty])) (λid h=>by rw[hempty]at h;exact absurd rfl h);have hsame:∀b,b<w.heap.size->w'.heap[b]?=w.heap[b]?:=λb hb=>hfin.stp.fr b hb (hmutc b);have hstp:Stp w γ w' γ:=Fd hfin.stp.sz hfin.stp.os hfin.stp.tape hfin.stp.output hsame;have hrw:Rel C A bd w' γ hg nx:=hr.same hstp hsame
 split at hres
 ·exact absurd hres.symm hne
 rename_i r' hsnap;obtain⟨hr',hcl⟩:=Ip (A':=Ac) (γ':=γc) (L:=λ_=>True) hfin.rel (λid _=>hextc id) (R5 _) (S2 _) (λt b _ _ h _=>⟨h,hmutc b⟩)
  (λid _ _ hk t _ _=>⟨hfin.rel.av id (by rw[hk];decide) t,hmutc _⟩) aE hsnap hru λ_ _=>trivial
 split at hres
 ·exact absurd hres.symm hne
 rename_i m hm;have hrm:=C1 _ hm hr';rw[aa]at hres
 split at hres
 ·rename_i hlt;rw[Tg]at hlt;subst hres;refine⟨u,w',γ,hg,⟨hrw.up (TJ _ _),hstp,⟨[],rfl,λ_ h=>absurd h Sk,λ_ _=>rfl⟩⟩,?_,hout⟩;refine (nL hrm hcl λt b h1 h2 h3 h4=>⟨λh=>h3 (.inl ⟨by omega,.inl h⟩),λh=>h3 (.inl ⟨by omega,.inr h⟩)⟩).mono (by omega)
 ·split at hres
  ·exact absurd hres.symm hne
  rename_i r'' hun
  split at hres
  ·exact absurd hres.symm hne
  rename_i m' hm';rw[aa]at hres
  split at hres
  rotate_left
  ·exact absurd hres.symm hne
  rename_i hlt;rw[Tg]at hlt;subst hres;obtain⟨γ₁,hg₁,r1,s1,n1,⟨new,l1,l2,l3⟩,f1,f2⟩:=AT (args.flatMap (aC g.h aE)) g γ hg hrw hx;have hmut:∀b,Mut γ₁ b->Mut γ b:=by rintro b ⟨id,h1,h2,h3⟩;obtain⟨e1,e2,e3⟩:=f1 id;exact⟨id,by rw[<-e1];exact h1,e3 h2,by rw[<-e2];exact h3⟩
  refine⟨u,w',γ₁,hg₁,⟨r1.up (TJ _ _),hstp.trans s1,⟨new,l1,l2,l3⟩⟩,?_,hout⟩
  let A₁:Nat->Nat->Prop:=λt b=>if t=bd+1 then ∃t',A t' b else A t b
  have hmle:m<=bd+1:=yI _ hm hr';have hsh:RV w' γ₁ A₁ m r' u:=by
   refine nL hrm hcl λt b h1 h2 h3 _=>?_
   by_cases ht:t=bd+1
   ·have hb:w.heap.size<=b\/∃id,L id/\isC id/\(γ id).kind=1/\(γ id).blk=b:=by
     by_cases hs:w.heap.size<=b
     ·exact .inl hs
     ·exact .inr (Tn λhn=>h3 (.inr ⟨ht,by omega,hn⟩))
    rcases hb with hb|⟨id,q1,q2,q3,q4⟩
    ·refine⟨?_,λhmu=>?_⟩
     ·simp only[A₁,ht,if_true];rintro⟨t',h⟩;have:=hr.ab t' b h;omega
     ·obtain⟨id,p1,p2,p3⟩:=hmut b hmu;have:=(hr.lt id p1).2;omega
    ·refine⟨?_,?_⟩
     ·simp only[A₁,ht,if_true];rintro⟨t',h⟩;rw[<-q4]at h;exact hr.av id (by rw[q3];decide) t' h
     ·rintro⟨j,p1,p2,p3⟩;obtain⟨e1,e2,e3⟩:=f1 j;have hj:j=id:=hr.inj j id (by rw[<-e1];exact p1) (by rw[q3];decide) (by rw[<-e2,p3,q4]);subst hj;rw[f2 j q1 q2]at p2;cases p2
   ·refine⟨?_,λh=>h3 (.inl ⟨by omega,.inr (hmut b h)⟩)⟩;simp only[A₁,ht,if_false];exact λh=>h3 (.inl ⟨by omega,.inl h⟩)
  obtain⟨hf1,_⟩:=Nh (A':=A) (d:=bd+1) (λt b h1 h2=>by simp only[A₁,show t≠bd+1 by omega,if_false]at h2;exact h2)
   (λb h2 t ht=>h2 (by simp only[A₁,if_true];exact⟨t,ht⟩)) aE hun (hsh.mono hmle) hcl
  exact (C1 _ hm' hf1).mono (by omega)
end
end Hx
end
