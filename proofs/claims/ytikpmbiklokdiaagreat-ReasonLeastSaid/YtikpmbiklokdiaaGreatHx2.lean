/- A part of the proof: what the functions of the chapter compute. -/
import Derived.DeepKeys3
import Derived.Test.YtikpmbiklokdiaaGreatHx1
set_option linter.all false
set_option maxRecDepth 20000
set_option maxHeartbeats 8000000
namespace Hx
open Go
noncomputable section
variable {v u vm:Value}{x k y:AV}{ty t e kt:TypeId}{g:G}{P:Program}{n d m:Nat}{xs:Array Value}
section
variable {y:Value}{zero:List AV}
section
variable {C:Cfg}{A:Nat->Nat->Prop}{bd:Nat}{w w':World}{γ γ':Gm}{hg:Nat->AObj}{nx:Nat}
theorem Oe(hr:Rel C A bd w γ hg nx){sz:Nat}{h:H}{rows:List (List AV)}(hx:RV w γ A bd x v)
  (hrow:ah h sz x=some rows) (agree:∀id∈af x,hg id=h.get id) (P:Program) :
  ∃base cap,v=.slice base rows.length cap/\∀n,n<=rows.length->∀w1:World,w1=w\/w1=World.drewn w ->
   ∃c,(Builtin.firstCells sz n v).run P w1=.ok c w1/\c.size=n*sz/\RowsRel w γ A bd sz (rows.take n) c:=by
 obtain⟨b,o,cap,m,e⟩:=HZ hr hx hrow agree;have d:RowsRel w γ A bd sz [] #[]:=⟨by simp,λi row h=>by simp at h,λi j row x h=>by simp at h⟩;rcases m with⟨rfl,rfl⟩|rfl|⟨⟨a,rfl⟩,rfl⟩
 ·exact⟨none,0,rfl,λn hn w1 _=>⟨#[],by simp[Builtin.firstCells],by simp at hn;simp[hn],by simpa using d⟩⟩
 ·refine⟨some (adr b o),cap,rfl,λn hn w1 h1=>?_⟩;have k:=e.sub 0 n;simp only[WA,W9,VH]at k;have hl:(rows.take n).length=n:=by simp[hn]
  rcases h1 with rfl|rfl
  ·have:=AT k P;rw[hl]at this;simpa [Builtin.firstCells] using this
  ·have:=AT (k.same yh rfl) P;rw[hl]at this;obtain⟨c,c1,f,l⟩:=this;exact⟨c,by simpa [Builtin.firstCells] using c1,f,l.back⟩
 ·refine⟨some a,cap,rfl,λn hn w1 _=>?_⟩;simp at hn;subst hn;exact⟨#[],by simp[Builtin.firstCells,loadCells,loadCellsFrom],by simp,by simpa using d⟩
theorem GU{argTypes:Array TypeId}{xt e':TypeId}{sz bytes:Nat}{s:AV}
  (hr:Rel C A bd w γ hg nx) (hf:(γ g.nx).kind=0) (h0:argTypes[0]?=some t) (h1:argTypes[1]?=some xt) (hu:C.P.underlying t=some (.slice e)) (hux:C.P.underlying xt=some (.slice e'))
  (hsz:szT C.P e=some sz) (hby:jS C.P e=some bytes) (hz:gm C.P e=some zero) (hzl:zero.length=sz) (hb0:0<bytes)
  (hs:RV w γ A bd s v) (hx:RV w γ A bd x y) (agree:∀id∈af s,hg id=g.h.get id) (agree':∀id∈af x,hg id=g.h.get id) :
  dx C A bd w γ hg nx (Builtin.append_ argTypes ty #[v,y]) g (eS sz bytes s x g):=by
 unfold eS;cases hrow:ah g.h sz x with
 |none=>trivial
 | some new =>
  dsimp only;obtain⟨xb,xc,rfl,k⟩:=Oe hr hx hrow agree' C.P;rcases sg (e:=e) (new:=new) (zs:=false) (x:=.slice xb new.length xc) (appended:=Builtin.firstCells sz new.length (.slice xb new.length xc)) hr hf hs hby hz hzl hb0
    (λw1 h=>by simpa using k new.length (Ui _) w1 h) agree with h|⟨base,sLen,sCap,rfl,h⟩
  ·rw[h];trivial
  ·have e1:(Builtin.append_ argTypes ty #[.slice base sLen sCap,.slice xb new.length xc]).run C.P w =
     (iW e sz bytes base sLen sCap new.length false (.slice base sLen sCap) (.slice xb new.length xc) (Builtin.firstCells sz new.length (.slice xb new.length xc))).run C.P w:=by
    unfold Builtin.append_ iW;have a0:(#[Value.slice base sLen sCap,Value.slice xb new.length xc]:Array Value)[0]?=some (.slice base sLen sCap):=rfl;have a1:(#[Value.slice base sLen sCap,Value.slice xb new.length xc]:Array Value)[1]?=some (.slice xb new.length xc):=rfl;simp only[h0,h1,a0,a1,Ut,aC hu,aC hux,aZ hsz,Builtin.lenOf,Uq,UN]
    rfl
   generalize bA sz bytes s new g=r at h ⊢;cases r<;>simpa only[dx,e1] using h
theorem ET{argTypes:Array TypeId}{xt:TypeId}{k:IntKind}{sz bytes:Nat}{s:AV}
  (hr:Rel C A bd w γ hg nx) (hf:(γ g.nx).kind=0) (h0:argTypes[0]?=some t) (h1:argTypes[1]?=some xt) (hu:C.P.underlying t=some (.slice e)) (hux:C.P.underlying xt=some (.int k))
  (hsz:szT C.P e=some sz) (hby:jS C.P e=some bytes) (hz:gm C.P e=some zero) (hzl:zero.length=sz) (hs0:0<sz) (hb0:0<bytes)
  (hs:RV w γ A bd s v) (hx:RV w γ A bd x y) (agree:∀id∈af s,hg id=g.h.get id) :
  dx C A bd w γ hg nx (Builtin.append_ argTypes ty #[v,y]) g (wm sz bytes zero s x g):=by
 unfold wm;cases hn:dN bz x with
 |none=>trivial
 | some n =>
  dsimp only;rw[aa]
  split
  ·rename_i a;rw[UR]at a;obtain⟨n1,kk,rfl⟩:=wW hn hx;have hl:(ib n zero).length=n:=by simp[ib]
   have b:∀w1:World,w1=w\/w1=World.drewn w->∃c,(if n*sz=0 then pure #[] else do pure (Builtin.zeroCells (<-zeroValue e).cells n):Sem (Array Value)).run C.P w1=.ok c w1 /\
     c.size=(ib n zero).length*sz/\RowsRel w γ A bd sz (ib n zero) c:=by
    intro w1 _;obtain⟨z,z1,z2⟩:=nN (w:=w1) hz;have j:z.cells.size=sz:=by have:=(ox (w:=w) (γ:=γ) (A:=A) (bd:=bd) z2).1.1;simp at this;omega
    refine⟨ii z.cells (n*sz),?_,by rw[hl];simp[nS],ux (ty:=e) z2 hzl hs0 (Ui _)⟩
    by_cases h:n*sz=0
    ·rw[Un h,h];simp[ii]
    ·rw[Um h];simp[z1,Builtin.zeroCells,ii,j]
   rcases sg (e:=e) (new:=ib n zero) (zs:=true) (x:=.int kk (n:Int)) hr hf hs hby hz hzl hb0 b agree with h|⟨base,sLen,sCap,rfl,h⟩
   ·rw[h];trivial
   ·rw[hl]at h;have hi:∃i,C.P.info? e=some i/\i.bytes=bytes:=by
     unfold jS at hby;cases hie:C.P.info? e with
     |none=>rw[hie]at hby;cases hby
     |some i=>rw[hie]at hby;simp at hby;exact⟨i,rfl,hby⟩
    obtain⟨i,l,m⟩:=hi;unfold bz at n1 a;have w1:=rt n (by omega);have f:¬((n:Int)*(bytes:Int) > 2 ^ 48):=by rw[<-Vn];omega
    have e1:(Builtin.append_ argTypes ty #[.slice base sLen sCap,.int kk (n:Int)]).run C.P w =
      (iW e sz bytes base sLen sCap n true (.slice base sLen sCap) (.int kk (n:Int)) (if n*sz=0 then pure #[] else do pure (Builtin.zeroCells (<-zeroValue e).cells n))).run C.P w:=by
     unfold Builtin.append_ iW;have d:¬((n:Int)<0):=by omega
     have a0:(#[Value.slice base sLen sCap,Value.int kk (n:Int)]:Array Value)[0]?=some (.slice base sLen sCap):=rfl;have a1:(#[Value.slice base sLen sCap,Value.int kk (n:Int)]:Array Value)[1]?=some (.int kk (n:Int)):=rfl;simp only[h0,h1,a0,a1,Ut,aC hu,aC hux,aZ hsz,Uq,UN,if_true,asInt,asIntOf,w1,lI l,m,Um f,Um d]
     rfl
    generalize bA sz bytes s (ib n zero) g=r at h ⊢;cases r<;>simpa only[dx,e1] using h
  ·trivial
theorem L3{argTypes:Array TypeId}{sz:Nat}{d:AV}
  (hr:Rel C A bd w γ hg nx) (h0:argTypes[0]?=some t) (hu:C.P.underlying t=some (.slice e)) (hsz:szT C.P e=some sz)
  (hd:RV w γ A bd d v) (hx:RV w γ A bd x y) (agree:∀id∈af d,hg id=g.h.get id) (agree':∀id∈af x,hg id=g.h.get id) :
  dx C A bd w γ hg nx (Builtin.copy_ argTypes ty #[v,y]) g (Cw sz d x g):=by
 unfold Cw;cases hrow:ah g.h sz x with
 |none=>trivial
 | some src =>
  dsimp only;obtain⟨xb,xc,rfl,q⟩:=Oe hr hx hrow agree' C.P;have f:∀base dLen dCap,v=.slice base dLen dCap->∃c,c.size=Nat.min src.length dLen*sz/\RowsRel w γ A bd sz (src.take (Nat.min src.length dLen)) c /\
    (Builtin.copy_ argTypes ty #[v,.slice xb src.length xc]).run C.P w =
     (do if let some a:=base then storeCells a c.toList
         pure (goInt (Nat.min src.length dLen)):Sem Value).run C.P w:=by
   intro base dLen dCap r;subst r;obtain⟨c,c1,m,j⟩:=q (Nat.min src.length dLen) (Nat.min_le_left _ _) w (.inl rfl);refine⟨c,m,j,?_⟩;have a0:(#[Value.slice base dLen dCap,Value.slice xb src.length xc]:Array Value)[0]?=some (.slice base dLen dCap):=rfl;have a1:(#[Value.slice base dLen dCap,Value.slice xb src.length xc]:Array Value)[1]?=some (.slice xb src.length xc):=rfl;unfold Builtin.copy_;simp only[h0,a0,a1,Ut,aC hu,aZ hsz,Builtin.lenOf,Uq,UN,c1]
   rfl
  have i:∀n:Nat,RV w γ A bd (.int .i64 (n:Int)) (goInt n):=λn=>.int _ _ _;cases hd with
  | nils =>
   obtain⟨c,c1,m,j⟩:=f none 0 0 rfl;refine⟨goInt 0,?_,i 0⟩;rw[j];simp
  | esl _ a =>
   obtain⟨c,c1,m,j⟩:=f (some a) 0 0 rfl;have hc:c=#[]:=by simpa using c1
   refine⟨goInt 0,?_,i 0⟩;rw[j,hc];simp[jA]
  | tsl _ tag sz' rows b o cap cell ht hc hb hm ha hrl ho hw h =>
   dsimp only;rw[aa]
   split
   ·rename_i k;obtain⟨c,c1,m,j⟩:=f (some (adr b o)) rows.length cap rfl;have p:Nat.min src.length rows.length=0:=by simp only[UZ,List.isEmpty_iff]at k;rcases k with h|h<;>subst h<;>simp[Nat.min_def]
    rw[p]at c1 j;have hc:c=#[]:=by simpa using c1
    refine⟨goInt 0,?_,i 0⟩;rw[j,hc];simp[jA]
   ·trivial
  | tnil _ tag sz' a cap ht =>
   dsimp only;rw[aa]
   split
   ·obtain⟨c,c1,m,j⟩:=f (some a) 0 cap rfl;have hc:c=#[]:=by simpa using c1
    refine⟨goInt 0,?_,i 0⟩;rw[j,hc];simp[jA]
   ·trivial
  | hsl _ id ep off len lim b0 o0 cap0 hk he hc0 h0' =>
   have l:=agree id (by simp[af]);simp only[G.get_eq,<-l];cases hid:hg id with
   | cells sz' rows ep' loose fz =>
    simp only[aq,aa,bk]
    split
    ·rename_i k;simp only[Uk,UR,notb_eq,Vb]at k;obtain⟨⟨⟨h1,h2⟩,F⟩,h4⟩:=k;have h1:=aB h1;have h2:=aB h2;subst h1;subst h2;subst h4;obtain⟨cap,r,u,s⟩:=tH hr (RV.hsl bd id ep off len lim b0 o0 cap0 hk he hc0 h0') hid;obtain⟨c,c1,m,j⟩:=f _ _ _ r;have hl:(src.take (Nat.min src.length len)).length=Nat.min src.length len:=by simp[Nat.min_le_left]
     have z:Nat.min src.length len<=len:=Nat.min_le_right _ _;obtain⟨w',B,D,E⟩:=hr.storeRows hid (off:=off) m (by rw[hl];exact c1) (by rw[hl];omega) C.P;refine⟨goInt (Nat.min src.length len),w',γ,id,_,?_,.int _ _ _,E,.inl ⟨rfl,D⟩⟩;rw[j];simp[B]
    ·trivial
   |_=>trivial
  |_=>trivial
theorem J_{argTypes:Array TypeId}{sz:Nat}
  (hr:Rel C A bd w γ hg nx) (h0:argTypes[0]?=some t) (hu:C.P.underlying t=some (.slice e)) (hz:gm C.P e=some zero) (hzl:zero.length=sz) (hs0:0<sz)
  (hx:RV w γ A bd x y) (agree:∀id∈uo x,hg id=g.h.get id) :
  dx C A bd w γ hg nx (Builtin.clear_ argTypes ty #[y]) g (zZ sz zero x g):=by
 have a0:(#[y]:Array Value)[0]?=some y:=rfl;have c:∀a cap,y=.slice a 0 cap->(Builtin.clear_ argTypes ty #[y]).run C.P w=.ok undef w:=by intro a cap h;subst h;unfold Builtin.clear_;cases a<;>simp[h0,aC hu,undef]
 unfold zZ;cases hx with
 |nils=>exact⟨_,c _ _ rfl,cU⟩
 |esl _ a=>exact⟨_,c _ _ rfl,cU⟩
 | tsl _ tag sz' rows b o cap cell ht hc hb hm ha hrl ho hw h =>
  cases rows with
  |nil=>exact⟨_,c _ _ rfl,cU⟩
  |cons r rs=>trivial
 |tnil _ tag sz' a cap ht=>exact⟨_,c _ _ rfl,cU⟩
 | hsl _ id ep off len lim b0 o0 cap0 hk he hc0 h0' =>
  cases len with
  |zero=>exact⟨_,c _ _ rfl,cU⟩
  | succ len =>
   have d:=agree id (by simp[uo]);simp only[G.get_eq,<-d];cases hid:hg id with
   | cells sz' rows ep' loose fz =>
    simp only[aq,aa]
    split
    ·rename_i k;simp only[Uk,UR,notb_eq,Vb]at k;obtain⟨⟨⟨h1,h2⟩,s⟩,h4⟩:=k;have h1:=aB h1;have h2:=aB h2;subst h1;subst h2;subst h4;obtain⟨cap,l,j,i⟩:=tH hr (RV.hsl bd id ep off (len+1) lim b0 o0 cap0 hk he hc0 h0') hid;have hl:(ib (len+1) zero).length=len+1:=by simp[ib]
     obtain⟨z,z1,z2⟩:=nN (w:=w) hz;have f:z.cells.size=sz:=by have:=(ox (w:=w) (γ:=γ) (A:=A) (bd:=bd) z2).1.1;simp at this;omega
     obtain⟨w',m,p,q⟩:=hr.storeRows hid (off:=off) (ux (ty:=e) (n:=len+1) z2 hzl hs0 (Ui _)) (by rw[hl];simp[nS]) (by rw[hl];omega) C.P;refine⟨undef,w',γ,id,_,?_,cU,q,.inl ⟨rfl,p⟩⟩;have e0:Builtin.zeroCells z.cells (len+1)=ii z.cells ((len+1)*sz):=by simp[Builtin.zeroCells,ii,f]
     rw[l];unfold Builtin.clear_;simp[h0,aC hu,z1,e0,m,undef]
    ·trivial
   |_=>trivial
 |_=>trivial
end
end
section
variable {C:Cfg}{A:Nat->Nat->Prop}{bd:Nat}{w w':World}{γ γ':Gm}{hg:Nat->AObj}{nx:Nat}
def OVR(w:World)(γ:Gm)(A:Nat->Nat->Prop)(bd:Nat):Option AV->Option Value->Prop
 |none,none=>True
 |some x,some v=>RV w γ A bd x v
 |_,_=>False
theorem NE{xs:List AV}{vs:List Value}(h:RVs w γ A bd xs vs):OVR w γ A bd xs.head? vs.head?:=by
 cases xs with
 | nil=>cases vs with
  |nil=>trivial
  |cons v vs=>have:=h.1;simp at this
 | cons x xs=>cases vs with
  |nil=>have:=h.1;simp at this
  |cons v vs=>exact h.2 0 x v rfl rfl
theorem wV{lim:Nat}(h:dN lim x=some n):n<=lim:=by
 unfold dN at h
 split at h
 ·rw[aa]at h
  split at h
  ·rename_i hl;rw[UR]at hl;injection h with h;omega
  ·cases h
 ·cases h
theorem mX{x:Option AV}(h:br 0 0 x=some n):n=0:=by
 cases x with
 |none=>simp[br]at h;omega
 |some z=>have:=wV h;omega
theorem dv{lim y:Nat}{code:BoundsCode}(h:dN lim x=some n)(hv:RV w γ A bd x v)(hy:lim<=y) :
  (Instr.sliceBound v y code).run P w=.ok n w/\n<=lim:=by
 obtain⟨h1,k,rfl⟩:=wW h hv;refine⟨?_,h1⟩;unfold Instr.sliceBound;simp only[asIntOf,Ut,UN,Uq];rw[Un (by omega)];simp
theorem cS{isSlice:Bool}{len cap:Nat}{lo hi mx:Option AV}{lv hv mv:Option Value}{l h limM lh:Nat}
  (hlo:OVR w γ A bd lo lv) (hhi:OVR w γ A bd hi hv) (hmx:OVR w γ A bd mx mv) (hm:mx=none->m=cap) (hm':mx≠none->br d limM mx=some m/\limM<=cap)
  (hmh:mx≠none->hi≠none) (hh:br len lh hi=some h) (hlh:lh<=m) (hl:br 0 h lo=some l) :
  (Instr.sliceBounds isSlice len cap lv hv mv).run P w=.ok (l,h,m) w/\l<=h/\(hi=none/\h=len\/h<=lh):=by
 have H:l<=h/\∀code,(match lv with|some v=>Instr.sliceBound v h code|none=>pure 0:Sem Nat).run P w=.ok l w:=by
  cases lo with
  | none =>
   cases lv with
   |none=>simp[br]at hl;subst hl;exact⟨US _,λ_=>rfl⟩
   |some v=>cases hlo
  | some x =>
   cases lv with
   |none=>cases hlo
   |some v=>exact⟨(dv (code:=.index) (P:=P) hl hlo (Ui _)).2,λcode=>(dv hl hlo (Ui _)).1⟩
 obtain⟨H1,H2⟩:=H;cases mx with
 | none =>
  cases mv with
  |some v=>cases hmx
  | none =>
   have:=hm rfl;subst this;cases hi with
   | none =>
    cases hv with
    |some v=>cases hhi
    | none =>
     simp[br]at hh;subst hh;refine⟨?_,H1,.inl ⟨rfl,rfl⟩⟩;have h2:=H2 .sliceB;unfold Instr.sliceBounds;cases lv<;>simp_all
   | some x =>
    cases hv with
    |none=>cases hhi
    | some v =>
     have b:=λcode=>(dv (P:=P) (code:=code) hh hhi hlh).1;refine⟨?_,H1,.inr (dv (P:=P) (code:=.index) hh hhi hlh).2⟩;have h2:=H2 .sliceB;unfold Instr.sliceBounds;cases lv<;>simp_all
 | some xm =>
  cases mv with
  |none=>cases hmx
  | some vm =>
   obtain⟨k,a⟩:=hm' (by simp);have h4:=λcode=>(dv (P:=P) (code:=code) k hmx a).1;cases hi with
   |none=>exact absurd rfl (hmh (by simp))
   | some x =>
    cases hv with
    |none=>cases hhi
    | some v =>
     have b:=λcode=>(dv (P:=P) (code:=code) hh hhi hlh).1;refine⟨?_,H1,.inr (dv (P:=P) (code:=.index) hh hhi hlh).2⟩;have h2:=H2 .slice3C;unfold Instr.sliceBounds;cases lv<;>simp_all
theorem mV{sz len cap l h:Nat}{a:Option Addr}{lv hv mv:Option Value}(hu:C.P.underlying ty=some (.slice e))(hsz:szT C.P e=some sz)
  (hb:(Instr.sliceBounds true len cap lv hv mv).run C.P w=.ok (l,h,m) w) :
  (Instr.sliceAt ty (.slice a len cap) lv hv mv).run C.P w=.ok (.slice (if m=l then a else a.map (·.add (l*sz))) (h - l) (m - l)) w:=by
 unfold Instr.sliceAt Instr.slice;simp[aC hu,hb,aZ hsz]
theorem Bl{sz:Nat}{lo hi mx:Option AV}{lv hv mv:Option Value}
  (hr:Rel C A bd w γ hg nx) (hu:C.P.underlying ty=some (.slice e)) (hsz:szT C.P e=some sz) (hx:RV w γ A bd x v)
  (hlo:OVR w γ A bd lo lv) (hhi:OVR w γ A bd hi hv) (hmx:OVR w γ A bd mx mv) (hmh:mx≠none->hi≠none) (agree:∀id∈af x,hg id=g.h.get id) :
  ValSim C A bd w γ (Instr.sliceAt ty v lv hv mv) (orV (rh sz x lo hi mx g.h)):=by
 refine oy λy k=>?_;have zero:∀(a:Option Addr),v=.slice a 0 0->∀p q r,br 0 0 lo=some p->br 0 0 hi=some q->br 0 0 mx=some r ->
   (Instr.sliceAt ty v lv hv mv).run C.P w=.ok (.slice a 0 0) w:=by
  intro a L p q r h1 h2 D;subst L;have W:=mX D;have V:=mX h2;have hp0:=mX h1;subst W;subst V;subst hp0;obtain⟨b1,b2,M⟩:=cS (P:=C.P) (isSlice:=true) (len:=0) (cap:=0) (l:=0) (h:=0) (m:=0) hlo hhi hmx (λ_=>rfl) (λ_=>⟨D,Ui _⟩) hmh h2 (Ui _) h1;rw[mV hu hsz b1];simp
 unfold rh at k;cases hx with
 | nils =>
  dsimp only at k
  split at k
  ·rename_i p q r h1 h2 D;injection k with k;subst k;exact⟨_,zero none rfl p q r h1 h2 D,.nils _⟩
  ·cases k
 | esl _ a =>
  dsimp only at k
  split at k
  ·rename_i p q r h1 h2 D;injection k with k;subst k;exact⟨_,zero (some a) rfl p q r h1 h2 D,.esl _ a⟩
  ·cases k
 | tnil _ tag sz' a cap ht =>
  cases mx with
  | none =>
   cases mv with
   |some z=>cases hmx
   | none =>
    dsimp only at k
    split at k
    ·cases k
    ·rename_i h N
     split at k
     ·cases k
     ·rename_i l hl;simp only[aa]at k
      split at k
      ·injection k with k;subst k;have O:(bi ([]:List (List AV)))=0:=rfl;rw[O]at N;obtain⟨b1,b2,M⟩:=cS (P:=C.P) (isSlice:=true) (len:=0) (cap:=cap) (d:=0) (limM:=0) hlo hhi hmx (λ_=>rfl) (λh=>absurd rfl h) hmh N (US _) hl;have e1:h=0:=by omega
       have B:l=0:=by omega
       subst e1;subst B;refine⟨_,mV hu hsz b1,?_⟩;have S:jB (0 - 0) (iA 0 ([]:List (List AV)))=[]:=by simp[bk]
       rw[S]
       by_cases hc:cap=0
       ·rw[Un hc];exact .tnil _ tag sz a _ ht
       ·rw[Um hc];exact .tnil _ tag sz _ _ ht
      ·cases k
  | some xm =>
   dsimp only at k;cases mv with
   |none=>cases hmx
   | some vm =>
    split at k
    ·rename_i p q r h1 h2 D;injection k with k;subst k;have e1:p=0:=by have:=wV h1;omega
     subst e1;obtain⟨b1,b2,M⟩:=cS (P:=C.P) (isSlice:=true) (len:=0) (cap:=cap) (d:=0) (limM:=0) (m:=0) hlo hhi hmx (λh=>by cases h) (λ_=>⟨h1,US _⟩) hmh h2 (Ui _)
      (by rw[mX h2];exact D)
     have e1:q=0:=by omega
     have B:r=0:=by omega
     subst e1;subst B;refine⟨_,mV hu hsz b1,?_⟩;simpa using RV.esl _ a
    ·cases k
 | tsl _ tag sz' rows b o cap cell ht hc hb hm ha hrl ho hw hcell hcl =>
  cases mx with
  | none =>
   cases mv with
   |some z=>cases hmx
   | none =>
    simp only[aq,bk,bh]at k
    split at k
    ·cases k
    ·rename_i h N
     split at k
     ·cases k
     ·rename_i l hl;simp only[aa]at k
      split at k
      ·rename_i H;have H:=aB H;subst H;injection k with k;subst k;obtain⟨b1,b2,M⟩:=cS (P:=C.P) (isSlice:=true) (len:=rows.length) (cap:=cap) (d:=0) (limM:=0) hlo hhi hmx (λ_=>rfl) (λh=>absurd rfl h) hmh N hc hl;have e1:h<=rows.length:=by omega
       refine⟨_,mV hu hsz b1,?_⟩;have t:((rows.drop l).take (h - l)).length=h - l:=by simp;omega
       by_cases hc0:cap=l
       ·rw[Un hc0];have B:h - l=0:=by omega
        rw[B,Xn];exact .tnil _ tag sz _ _ ht
       ·rw[Um hc0];simp only[VK,gn];have:=RV.tsl (w:=w) (γ:=γ) (A:=A) bd tag sz ((rows.drop l).take (h - l)) b (o+l*sz) (cap - l) (λi j=>cell (l+i) j) ht (by rw[t];omega) hb hm ha
         (λi row hi=>?_) (λi j row x hi hj=>?_) (λi j row x hi hj=>?_) (λi j row x hi hj=>?_) (λrow hrow=>hcl row (Vg (Vh hrow)))
        ·rwa [t]at this
        all_goals
         have s:=hi;rw[V_,]at s
         split at s
         ·rw[UO]at s
          first
          |exact hrl _ _ s
          |exact ho _ _ _ _ s hj
          |exact hcell _ _ _ _ s hj
          | (have:=hw _ _ _ _ s hj
             rwa [show o+l*sz+i*sz+j=o+(l+i)*sz+j from by rw[UH];omega])
         ·cases s
      ·cases k
  | some xm =>
   dsimp only at k;cases mv with
   |none=>cases hmx
   | some vm =>
    split at k
    ·rename_i p q r h1 h2 D;injection k with k;subst k;have e1:p=0:=by have:=wV h1;omega
     subst e1;cases hi with
     |none=>exact absurd rfl (hmh (by simp))
     | some z =>
      cases hv with
      |none=>cases hhi
      | some vh =>
       have e0:=mX h2;subst e0;obtain⟨b1,b2,M⟩:=cS (P:=C.P) (isSlice:=true) (len:=rows.length) (cap:=cap) (d:=0) (limM:=0) (m:=0) (lh:=0) (h:=0) hlo hhi hmx (λh=>by cases h) (λ_=>⟨h1,US _⟩) hmh h2 (Ui _) D;have B:r=0:=by omega
       subst B;refine⟨_,mV hu hsz b1,?_⟩;simpa using RV.esl _ _
    ·cases k
 | hsl _ id ep off len lim b0 o0 cap0 hk he hc0 h0 =>
  have I:=agree id (by simp[af]);dsimp only at k;rw[<-I]at k;cases hid:hg id with
  | cells sz' rows ep' loose fz =>
   rw[hid]at k;simp only[aa,aq]at k
   split at k
   ·rename_i f;simp only[Uk,UR]at f;obtain⟨⟨h1,h2⟩,D⟩:=f;have h1:=aB h1;have h2:=aB h2;subst h1;subst h2;obtain⟨cap,L,Z,n⟩:=tH hr (RV.hsl bd id ep off len lim b0 o0 cap0 hk he hc0 h0) hid;rw[L];have R:=hr.obj id;rw[hid]at R;obtain⟨k1,k2,k3,k4,k5,_⟩:=R
    split at k
    ·cases k
    ·rename_i m hm
     split at k
     ·cases k
     ·rename_i h N
      split at k
      ·cases k
      ·rename_i l hl
       let u:=lim.getD (rows.length - off)
       have Q:u<=cap:=by unfold iV at n;cases lim<;>simp only[u,Option.getD]at *<;>omega
       have F:lim≠none\/loose=false->cap=u:=by
        unfold iV at n;intro h;cases lim with
        |none=>simp at h;have:=k5.1 h;simp only[u,Option.getD];dsimp only at n;omega
        |some c=>simp only[u,Option.getD];exact n.1
       have U:mx≠none->m<=u:=by
        intro h;cases mx with
        |none=>exact absurd rfl h
        | some z=>cases mv with
         |none=>cases hmx
         |some zv=>exact wV hm
       have K:mx=none->m=u:=by intro h;subst h;simp[br]at hm;exact hm.symm
       let mR:=if mx=none then cap else m
       have T:m<=mR:=by
        simp only[mR];split
        ·rename_i h;rw[K h];exact Q
        ·exact Ui _
       obtain⟨b1,b2,M⟩:=cS (P:=C.P) (isSlice:=true) (len:=len) (cap:=cap) (d:=u) (limM:=u) (m:=mR) (lh:=m) hlo hhi hmx
        (λh=>by simp[mR,h]) (λh=>⟨by simp only[mR,Um h];exact hm,Q⟩) hmh N T hl
       refine⟨_,mV hu hsz b1,?_⟩;have t:len<=u:=by
        unfold iV at n;cases lim with
        |none=>simp only[u,Option.getD];omega
        |some c=>simp only[u,Option.getD];omega
       have Y:h<=m:=by
        rcases M with⟨e1,B⟩|e1
        ·have:mx=none:=by
          cases mx with
          |none=>rfl
          |some z=>exact absurd e1 (hmh (by simp))
         rw[K this,B];exact t
        ·exact e1
       split at k
       ·rename_i E;have E:=aB E;subst E;have e1:h=m:=by omega
        subst e1
        split at k
        ·rename_i f;injection k with k;subst k;have B:mR=h:=by
          simp only[mR];split
          ·rename_i J;rw[F,K J];subst J;simp at f;cases lim with
           |none=>right;simpa using f
           |some c=>left;simp
          ·rfl
         rw[Un B,B,Ve];exact .esl _ _
        ·injection k with k;subst k;rw[Ve]
         by_cases h9:mR=h
         ·rw[Un h9];exact .tnil _ 0 sz _ _ (US _)
         ·rw[Um h9];exact .tnil _ 0 sz _ _ (US _)
       ·rename_i E;injection k with k;subst k;have hlt:l<m:=by
         rcases VI l m with h9|h9
         ·exact h9
         ·exact absurd (by rw[show m=l from by omega];exact UT l) E
        rw[Um (show ¬mR=l by omega)];simp only[VK,gn];refine .hsl _ id ep (off+l) (h - l) _ _ _ _ k1 (by omega) (by omega) λ_=>⟨rfl,by rw[k3,UH];omega,?_⟩;cases mx with
        | some z =>
         have S:mR=m:=by simp[mR]
         have X:=U (by simp);simp only[iV];rw[S,k4];unfold iV at n;cases lim with
         |none=>simp only[u,Option.getD]at X;omega
         |some c=>simp only[u,Option.getD]at X;dsimp only at n;omega
        | none =>
         have S:mR=cap:=by simp[mR]
         unfold iV at n ⊢;cases lim with
         |none=>dsimp only[Option.map]at n ⊢;omega
         |some c=>dsimp only[Option.map]at n ⊢;omega
   ·cases k
  |_=>rw[hid]at k;cases k
 |_=>cases k
end
section
variable {C:Cfg}{A:Nat->Nat->Prop}{bd:Nat}{w w':World}{γ γ':Gm}{hg:Nat->AObj}{nx:Nat}
theorem qR{α:Type}{f:α->Option Nat}:∀{l:List α} {m:Nat},h_ f l=some m->∀x∈l,∃k,f x=some k/\k<=m:=by
 intro l
 induction l with
 |nil=>intro m _ x hx;cases hx
 | cons a l ih =>
  intro m h x hx;simp only[h_]at h
  split at h
  ·rename_i k hk
   split at h
   ·rename_i b hb;injection h with h;subst h;rcases UW.1 hx with rfl|hx
    ·exact⟨k,hk,Vv _ _⟩
    ·obtain⟨k',h1,h2⟩:=ih hb x hx;exact⟨k',h1,Uy h2 (VW _ _)⟩
   ·cases h
  ·cases h
theorem EI:∀(f:Nat) {x:AV} {v:Value} {m:Nat},eN f x=some m->RV w γ A bd x v->RV w γ A m x v:=by
 intro f
 induction f with
 |zero=>intro x v m h;cases h
 | succ f ih =>
  intro x v m h hx;have hs:∀{cs:List AV} {vs:Array Value} {m':Nat},h_ (eN f) cs=some m'->m'<=m ->
    (∀(i:Nat) x v,cs[i]?=some x->vs[i]?=some v->RV w γ A bd x v)->∀(i:Nat) x v,cs[i]?=some x->vs[i]?=some v->RV w γ A m x v:=by
   intro cs vs m' h1 h2 e i x v hi c;obtain⟨k,d,k2⟩:=qR h1 x (Ul hi);exact (ih d (e i x v hi c)).mono (Uy k2 h2)
  cases hx with
  | tsl _ tag sz rows b o cap cell ht hc hb hm ha hrl ho hw hcell hcl =>
   simp only[eN]at h;injection h with h;subst h;exact .tsl _ tag sz rows b o cap cell (Ui _) hc hb hm ha hrl ho hw hcell hcl
  | tnil _ tag sz a cap ht =>
   simp only[eN]at h;injection h with h;subst h;exact .tnil _ tag sz a cap (Ui _)
  | tptr _ tag sz rows i0 off0 b o cell ht hb hm ha hrl ho hw hcell hcl =>
   simp only[eN]at h;injection h with h;subst h;exact .tptr _ tag sz rows i0 off0 b o cell (Ui _) hb hm ha hrl ho hw hcell hcl
  |agg _ xs vs hl h1 h2=>exact .agg _ _ _ hl h1 (hs h (Ui _) h2)
  |tup _ xs vs hl h2=>exact .tup _ _ _ hl (hs h (Ui _) h2)
  | clo _ g xs ys vs us hl hl2 h1 h2 =>
   simp only[eN]at h;have ha:=qR h;refine .clo _ g xs ys vs us hl hl2 (λi x v hi c=>?_) (λi x v hi c=>?_)
   ·obtain⟨k,d,k2⟩:=ha x (VV _ (Ul hi));exact (ih d (h1 i x v hi c)).mono k2
   ·obtain⟨k,d,k2⟩:=ha x (VQ _ (Ul hi));exact (ih d (h2 i x v hi c)).mono k2
  |ifc _ t x v h1=>exact .ifc _ t x v (ih h h1)
  |bool=>exact .bool _ _
  |int=>exact .int _ _ _
  |str=>exact .str _ _
  |nilp=>exact .nilp _
  |nils=>exact .nils _
  |nilf=>exact .nilf _
  |nilm=>exact .nilm _
  |nili=>exact .nili _
  |esl _ a=>exact .esl _ a
  |hsl _ id ep off len lim b o cap hk he hc h'=>cases h
  |hptr _ id ep i off b o hk he h'=>cases h
  |hmap _ id b hk hb=>cases h
  |yld _ id b hk hb=>cases h
theorem eZ{α:Type}{f:α->Option Nat}{b:Nat}:∀{l:List α} {m:Nat},h_ f l=some m->(∀x∈l,∀k,f x=some k->k<=b)->m<=b:=by
 intro l
 induction l with
 |nil=>intro m h _;simp[h_]at h;omega
 | cons a l ih =>
  intro m h hb;simp only[h_]at h
  split at h
  ·rename_i k hk
   split at h
   ·rename_i b' c;injection h with h;subst h;exact Xp.2 ⟨hb a U9 k hk,ih c λx hx=>hb x (U6 _ hx)⟩
   ·cases h
  ·cases h
theorem zy:∀(f:Nat) {x:AV} {v:Value} {m:Nat},eN f x=some m->RV w γ A bd x v->m<=bd:=by
 intro f
 induction f with
 |zero=>intro x v m h;cases h
 | succ f ih =>
  intro x v m h hx;have hs:∀{cs:List AV} {vs:Array Value},cs.length=vs.size ->
    (∀(i:Nat) x v,cs[i]?=some x->vs[i]?=some v->RV w γ A bd x v)->∀x∈cs,∀k,eN f x=some k->k<=bd:=by
   intro cs vs hl c x hx k hk;obtain⟨i,hi⟩:=UG hx;have hlt:i<vs.size:=by rw[<-hl];exact (Uh.1 hi).1
   exact ih hk (c i x _ hi (Uv hlt))
  cases hx with
  |tsl _ tag sz rows b o cap cell ht hc hb hm ha hrl ho hw hcell hcl=>simp only[eN]at h;injection h with h;omega
  |tnil _ tag sz a cap ht=>simp only[eN]at h;injection h with h;omega
  |tptr _ tag sz rows i0 off0 b o cell ht hb hm ha hrl ho hw hcell hcl=>simp only[eN]at h;injection h with h;omega
  |agg _ xs vs hl h1 h2=>exact eZ h (hs hl h2)
  |tup _ xs vs hl h2=>exact eZ h (hs hl h2)
  | clo _ g xs ys vs us hl hl2 h1 h2 =>
   refine eZ h λx hx k hk=>?_;rcases UL.1 hx with hx|hx
   ·exact hs hl h1 x hx k hk
   ·exact hs hl2 h2 x hx k hk
  |ifc _ t x v h1=>exact ih h h1
  |_=>first| (cases h;done)| (simp only[eN]at h;injection h with h;omega)
theorem GM:∀(f:Nat) {x:AV} {v:Value} {m:Nat},eN f x=some m->RV w γ A bd x v->Closed x:=by
 intro f
 induction f with
 |zero=>intro x v m h;cases h
 | succ f ih =>
  intro x v m h hx;have hs:∀{cs:List AV} {vs:Array Value},cs.length=vs.size->(∀x∈cs,∃k,eN f x=some k) ->
    (∀(i:Nat) x v,cs[i]?=some x->vs[i]?=some v->RV w γ A bd x v)->∀x∈cs,Closed x:=by
   intro cs vs hl h1 c x hx;obtain⟨i,hi⟩:=UG hx;have hlt:i<vs.size:=by rw[<-hl];exact (Uh.1 hi).1
   obtain⟨k,hk⟩:=h1 x hx;exact ih hk (c i x _ hi (Uv hlt))
  have he:∀{cs:List AV} {m':Nat},h_ (eN f) cs=some m'->∀x∈cs,∃k,eN f x=some k:=λh x hx=>by obtain⟨k,d,_⟩:=qR h x hx;exact⟨k,d⟩
  cases hx with
  |tsl _ tag sz rows b o cap cell ht hc hb hm ha hrl ho hw hcell hcl=>exact .tsl _ _ _ hcl
  |tnil=>exact .tsl _ _ _ (λrow h=>by cases h)
  |tptr _ tag sz rows i0 off0 b o cell ht hb hm ha hrl ho hw hcell hcl=>exact .tptr _ _ _ _ _ hcl
  |agg _ xs vs hl h1 h2=>exact .agg _ (hs hl (he h) h2)
  |tup _ xs vs hl h2=>exact .tup _ (hs hl (he h) h2)
  | clo _ g xs ys vs us hl hl2 h1 h2 =>
   have a:=he h;exact .clo _ _ _ (hs hl (λx hx=>a x (VV _ hx)) h1) (hs hl2 (λx hx=>a x (VQ _ hx)) h2)
  |ifc _ t x v h1=>exact .ifc _ _ (ih h h1)
  |_=>first| (cases h;done)|constructor
theorem we{rows:List (List AV)}{i j:Nat}{row:List AV}(h:gz rows=some m)(hi:rows[i]?=some row)(hj:row[j]?=some x)
  (hv:RV w γ A bd x v):RV w γ A m x v:=by
 obtain⟨k,a,k2⟩:=qR h row (Ul hi);obtain⟨k',b,c⟩:=qR a x (Ul hj);exact (EI _ b hv).mono (Uy c k2)
theorem zY{sz:Nat}:∀(n:Nat) (cs:List AV),n*sz<=cs.length ->
  (qy sz n cs).length=n/\∀(i:Nat) row,(qy sz n cs)[i]?=some row->row.length=sz/\∀(j:Nat) x,row[j]?=some x->cs[i*sz+j]?=some x:=by
 intro n
 induction n with
 |zero=>intro cs _;exact⟨rfl,λi row h=>by simp[qy]at h⟩
 | succ n ih =>
  intro cs h;rw[UH,Vk]at h;obtain⟨h1,h2⟩:=ih (cs.drop sz) (by simp;omega);simp only[qy,bh,bk];refine⟨by simp[h1],λi row hi=>?_⟩;cases i with
  | zero =>
   simp at hi;subst hi;refine⟨by simp;omega,λj x hj=>?_⟩;rw[V_]at hj
   split at hj
   ·simpa using hj
   ·cases hj
  | succ i =>
   simp at hi;obtain⟨k,h4⟩:=h2 i row hi;refine⟨k,λj x hj=>?_⟩;have:=h4 j x hj;rw[UO]at this;rw[UH,Vk];rw[show i*sz+sz+j=sz+(i*sz+j) from by omega];exact this
theorem Rel.freeze(hr:Rel C A bd w γ hg nx){id sz ep:Nat}{rows:List (List AV)}{loose fz:Bool}(hid:hg id=.cells sz rows ep loose fz) :
  ∃γ',Rel C A bd w γ' (upd hg id (.cells sz rows ep loose true)) nx/\Stp w γ w γ'/\γ'=upd γ id { γ id with wr:=false }/\¬Mut γ' (γ id).blk:=by
 have k:=hr.obj id;rw[hid]at k;obtain⟨d,k2,l,m,n,r,c,e,o,p,q,f⟩:=k;have s:Stp w γ w (upd γ id { γ id with wr:=false }):=by
  refine⟨Ui _,rfl,rfl,rfl,λ_ _ _=>rfl,?_,?_,?_,Ui _⟩
  ·rintro b _ ⟨j,h1,h2,h⟩
   by_cases hj:j=id
   ·subst hj;simp at h2
   ·rw[cJ _ _ hj]at h1 h2 h;exact⟨j,h1,h2,h⟩
  ·intro j hk
   by_cases hj:j=id
   ·subst hj;left;simp
   ·rw[cJ _ _ hj];exact .inl ⟨rfl,rfl⟩
  ·intro j hk
   by_cases hj:j=id
   ·subst hj;simp
   ·rw[cJ _ _ hj];exact⟨Ui _,λ_=>⟨rfl,rfl,rfl,rfl,rfl⟩⟩
 refine⟨_,hr.set rfl s (Ui _) ?_ (hr.lt id (by rw[d];decide)) (λj hj hkj e=>hj (hr.inj j id hkj (by rw[d];decide) e)) (hr.av id (by rw[d];decide)) (λ_ _ _ _=>rfl),s,rfl,?_⟩
 ·simp only[ObjRel,upd_same];refine⟨d,k2,l,m,n,rfl,c,e,o,p,q,λi j row x h1 h2=>?_⟩;obtain⟨a,v,b1,b2⟩:=f i j row x h1 h2;exact⟨a,v,b1,b2.step s⟩
 ·rintro⟨j,h1,h2,h⟩
  by_cases hj:j=id
  ·subst hj;simp at h2
  ·rw[cJ _ _ hj]at h1 h2 h;exact hj (hr.inj j id h1 (by rw[d];decide) h)
theorem Ez{sz:Nat}{a:T->AV}{lo hi:T->Option AV}{t:T}{lv hv:Option Value}
  (hr:Rel C A bd w γ hg nx) (hu:C.P.underlying ty=some (.array n e)) (hsz:szT C.P e=some sz) (hs0:0<sz) (hx:RV w γ A bd (a t) v)
  (hlo:OVR w γ A bd (lo t) lv) (hhi:OVR w γ A bd (hi t) hv) (agree:∀id∈af (a t),hg id=g.h.get id) :
  dx C A bd w γ hg nx (Instr.sliceAt ty v lv hv none) g (iU n sz a lo hi t g):=by
 unfold iU;generalize a t=x at *;generalize lo t=lo at *;generalize hi t=hi at *
 split
 ·trivial
 ·rename_i h K
  split
  ·trivial
  ·rename_i l hl;obtain⟨b1,b2,O⟩:=cS (P:=C.P) (isSlice:=false) (len:=n) (cap:=n) (d:=0) (limM:=0) (mx:=none) (mv:=none) hlo hhi trivial (λ_=>rfl) (λh=>absurd rfl h)
    (λh=>absurd rfl h) K (Ui _) hl
   have L:h<=n:=by omega
   have q:∀b o,v=.pointer (some (adr b o))->(Instr.sliceAt ty v lv hv none).run C.P w=.ok (.slice (some (if n=l then adr b o else adr b (o+l*sz))) (h - l) (n - l)) w:=by intro b o e;subst e;unfold Instr.sliceAt;simp[aC hu,Instr.sureAddr,b1,aZ hsz,gn]
   cases hx with
   | tptr _ tag sz' rows i0 off0 b o cell ht hb hm ha hrl ho hw c hcl =>
    simp only[dO];cases hrow:rows[i0]? with
    |none=>trivial
    | some row =>
     simp only[aa,aq,bh]
     split
     ·rename_i z;rw[UR]at z;have H:l*sz+(h - l)*sz<=n*sz:=by rw[<-UH];exact UB _ (by omega)
      obtain⟨c1,B⟩:=zY (sz:=sz) (h - l) (row.drop (off0+l*sz)) (by simp;omega);refine⟨_,q _ _ rfl,?_⟩
      by_cases hnl:n=l
      ·have e0:h - l=0:=by omega
       rw[e0,Un hnl];exact .tnil _ tag sz _ _ ht
      ·rw[Um hnl];have:=RV.tsl (w:=w) (γ:=γ) (A:=A) bd tag sz (qy sz (h - l) (row.drop (off0+l*sz))) b (o+i0*sz'+off0+l*sz) (n - l) (λi j=>cell i0 (off0+l*sz+(i*sz+j))) ht (by rw[c1];omega) hb hm ha
        (λi r hi=>(B i r hi).1) (λi j r y hi f=>?_) (λi j r y hi f=>?_) (λi j r y hi f=>?_)
        (λr hr' y hy=>by
         obtain⟨i,hi⟩:=UG hr';obtain⟨j,f⟩:=UG hy;have h9:=(B i r hi).2 j y f;rw[UO]at h9;exact hcl row (Ul hrow) y (Ul h9))
       ·rwa [c1]at this
       all_goals
        have h9:=(B i r hi).2 j y f;rw[UO]at h9
        first
        |exact ho _ _ _ _ hrow h9
        |exact c _ _ _ _ hrow h9
        | (have:=hw _ _ _ _ hrow h9
           rwa [show o+i0*sz'+off0+l*sz+i*sz+j=o+i0*sz'+(off0+l*sz+(i*sz+j)) from by omega])
     ·trivial
   | hptr _ id ep i off b o hk he h' =>
    have p:=agree id (by simp[af]);simp only[G.get_eq,<-p];cases hid:hg id with
    | cells sz' rows ep' loose fz =>
     simp only[aa,dO]
     split
     ·rename_i u;have u:=aB u;subst u;cases hrow:rows[i]? with
      |none=>trivial
      | some row =>
       simp only[aq,bh]
       split
       ·rename_i z;rw[UR]at z;have H:l*sz+(h - l)*sz<=n*sz:=by rw[<-UH];exact UB _ (by omega)
        obtain⟨c1,B⟩:=zY (sz:=sz) (h - l) (row.drop (off+l*sz)) (by simp;omega);generalize hch:qy sz (h - l) (row.drop (off+l*sz))=rs at *;cases htag:gz rs with
        |none=>trivial
        | some m =>
         dsimp only;have E:=hr.obj id;rw[hid]at E;obtain⟨F,k2,I,_⟩:=E;obtain⟨q1,q2⟩:=h' k2.symm;obtain⟨γ',M,J,Q,N⟩:=hr.freeze hid;refine⟨_,w,γ',id,_,q _ _ (by rw[q1,q2]),?_,J,.inl ⟨rfl,M⟩⟩;have c:∀(i' j:Nat) r y,rs[i']?=some r->r[j]?=some y->y.one=true/\∃v,w.cell? (adr (γ id).blk ((γ id).base+i*(γ id).sz+off+l*sz+i'*sz+j))=some v/\RV w γ A bd y v:=by intro i' j r y hi f;have h9:=(B i' r hi).2 j y f;rw[UO]at h9;have:=ur hr hid hrow _ y h9;rwa [<-I,show (γ id).base+i*(γ id).sz+(off+l*sz+(i'*sz+j))=(γ id).base+i*(γ id).sz+off+l*sz+i'*sz+j from by omega]at this
         have D:m<=bd:=by refine eZ htag λr hr' k hk=>eZ hk λy hy k' hk'=>?_;obtain⟨i',hi⟩:=UG hr';obtain⟨j,f⟩:=UG hy;obtain⟨_,v,_,s⟩:=c i' j r y hi f;exact zy _ hk' s
         by_cases hnl:n=l
         ·have e0:rs=[]:=by rw[<-WR];omega
          rw[Un hnl,show h - l=0 from by omega,e0];exact .tnil _ m sz _ _ D
         ·rw[Um hnl];subst q1;have:=RV.tsl (w:=w) (γ:=γ') (A:=A) bd m sz rs (γ id).blk ((γ id).base+i*(γ id).sz+off+l*sz) (n - l)
           (λi' j=>(w.cell? (adr (γ id).blk ((γ id).base+i*(γ id).sz+off+l*sz+i'*sz+j))).getD undef) D (by rw[c1];omega)
           (hr.lt id (by rw[F];decide)).2 N (hr.av id (by rw[F];decide) m)
           (λi r hi=>(B i r hi).1) (λi j r y hi f=>(c i j r y hi f).1) (λi j r y hi f=>?_) (λi j r y hi f=>?_)
           (λr hr' y hy=>by
            obtain⟨i,hi⟩:=UG hr';obtain⟨j,f⟩:=UG hy;obtain⟨_,v,_,s⟩:=c i j r y hi f;obtain⟨k,F,k2⟩:=qR htag r hr';obtain⟨k',I,_⟩:=qR F y hy;exact GM _ I s)
          ·rwa [c1]at this
          ·obtain⟨_,v,s,_⟩:=c i j r y hi f;rw[s];rfl
          ·obtain⟨_,v,s,h4⟩:=c i j r y hi f;rw[s];exact (we htag hi f h4).step J
       ·trivial
     ·trivial
    |_=>trivial
   |_=>trivial
end
section
variable {C:Cfg}{A:Nat->Nat->Prop}{bd:Nat}{w w':World}{γ γ':Gm}{hg:Nat->AObj}{nx:Nat}
theorem kA{s:Sem Value}(h:tS s=some y)(P:Program)(w:World):∃v,s.run P w=.ok v w/\RV w γ A bd y v:=by
 unfold tS at h
 split at h
 ·injection h with h;subst h;exact⟨_,rfl,.int _ _ _⟩
 ·injection h with h;subst h;exact⟨_,rfl,.bool _ _⟩
 ·cases h
theorem GY{op:BinOp}{k:IntKind}{r:Nat}(hs:mJ k m n=true)
  (h:(match op with
    |.and=>some (AV.int k (.ofNat (Nat.land m n)))
    |.or=>some (.int k (.ofNat (Nat.lor m n)))
    |.xor=>some (.int k (.ofNat (Nat.xor m n)))
    |.andNot=>some (.int k (.ofNat (Nat.xor m (Nat.land m n))))
    |_=>none)=some (.int k (.ofNat r))):(Op.intBits op k (.ofNat m) (.ofNat n)).run P w=.ok (.int k (.ofNat r)) w:=by
 have b:k.bits=64/\m<2 ^ 64/\n<2 ^ 64/\∀x:Nat,x<2 ^ 64->(k=.i64->x<2 ^ 63)->k.wrap (x:Int)=(x:Int):=by
  unfold mJ at hs;cases k<;>simp only[Uk,U_,VF]at hs
  ·exact⟨rfl,by omega,by omega,λx _ h=>rt x (by have:=h rfl;omega)⟩
  ·refine⟨rfl,by omega,by omega,λx h _=>?_⟩;rw[<-ig];show (Int.ofNat (x % 18446744073709551616))=_;rw[Ww (by omega)];rfl
 have a:k=.i64->m<2 ^ 63/\n<2 ^ 63:=by intro e;subst e;simp only[mJ,Uk,U_]at hs;omega
 obtain⟨hb,hm,c,hw⟩:=b;have e1:(BitVec.ofInt k.bits (Int.ofNat m)).toNat=m:=by rw[hb];simp only[Vw,BitVec.ofInt_natCast,BitVec.toNat_ofNat];exact Ww hm
 have d:(BitVec.ofInt k.bits (Int.ofNat n)).toNat=n:=by rw[hb];simp only[Vw,BitVec.ofInt_natCast,BitVec.toNat_ofNat];exact Ww c
 have fin:∀(z:BitVec k.bits) (q:Nat),z.toNat=q->q<2 ^ 64->(k=.i64->q<2 ^ 63)->q=r ->
   (Sem.pure (Value.int k (k.wrap z.toNat)):Sem Value).run P w=.ok (.int k (.ofNat r)) w:=by
  intro z q h1 h2 f h4;rw[h1,hw q h2 f,h4];rfl
 unfold Op.intBits;cases op<;>first| (cases h;done)|skip
 case and =>
  injection h with h;injection h with _ h;injection h with h;exact fin _ (m &&& n) (by rw[BitVec.toNat_and,e1,d]) (Xj _ c) (λe=>Xj _ (a e).2) h
 case or =>
  injection h with h;injection h with _ h;injection h with h;exact fin _ (m ||| n) (by rw[BitVec.toNat_or,e1,d]) (WZ hm c) (λe=>WZ (a e).1 (a e).2) h
 case xor =>
  injection h with h;injection h with _ h;injection h with h;exact fin _ (m ^^^ n) (by rw[BitVec.toNat_xor,e1,d]) (Xk hm c) (λe=>Xk (a e).1 (a e).2) h
 case andNot =>
  injection h with h;injection h with _ h;injection h with h;have hx:∀(x y:BitVec k.bits),x &&& ~~~y=x ^^^ (x &&& y):=by intro x y;ext i hi;simp only[BitVec.getElem_and,BitVec.getElem_not,BitVec.getElem_xor];cases x[i]<;>cases y[i]<;>rfl
  exact fin _ (m ^^^ (m &&& n)) (by rw[hx,BitVec.toNat_xor,BitVec.toNat_and,e1,d]) (Xk hm (Xj _ c))
   (λe=>Xk (a e).1 (Xj _ (a e).2)) h
theorem Hw{op:BinOp}{k k':IntKind}{a b:Int}(h:(gf op).run k a k' b=some y) :
  ∃v,(binOp op ty (.int k a) (.int k' b)).run P w=.ok v w/\RV w γ A bd y v:=by
 have hk:∀{α:Type} {x:Option α} {y:α},ak (cZ k k') x none=some y->k=k'/\x=some y:=by
  intro α x y h;rw[aa,mQ]at h
  split at h
  ·rename_i h1;exact⟨by simpa using h1,h⟩
  ·cases h
 cases op
 case add|sub|mul =>
  obtain⟨rfl,h1⟩:=hk h;injection h1 with h1;subst h1;refine⟨_,by simp only[binOp,Op.intArith,ne_eq,not_true,if_false];rfl,?_⟩;rw[ig];exact .int _ _ _
 case quo =>
  obtain⟨rfl,h1⟩:=hk h;clear h;unfold PB at h1;simp only[binOp,ne_eq,not_true,if_false]
  split at h1
  ·rename_i m n;injection h1 with h1;subst h1;refine⟨_,?_,by rw[ig];exact .int _ _ _⟩;unfold Op.intDiv;rw[Um (by simp only[Vw];omega)]
   rfl
  ·exact kA h1 P w
 case rem =>
  obtain⟨rfl,h1⟩:=hk h;clear h;unfold PK at h1;simp only[binOp,ne_eq,not_true,if_false]
  split at h1
  ·rename_i m n;injection h1 with h1;subst h1;refine⟨_,?_,.int _ _ _⟩;unfold Op.intDiv;rw[Um (by simp only[Vw];omega)]
   rfl
  ·exact kA h1 P w
 case and|or|xor|andNot =>
  obtain⟨rfl,h1⟩:=hk h;clear h;unfold Qa at h1;simp only[binOp,ne_eq,not_true,if_false]
  split at h1
  ·rename_i m n;rw[aa]at h1
   split at h1
   ·rename_i hs;have h0:=h1;injection h1 with h1;subst h1;exact⟨_,GY hs h0,.int _ _ _⟩
   ·exact kA h1 P w
  ·exact kA h1 P w
 case shl =>
  change N5 k a b=some y at h;unfold N5 at h;simp only[binOp]
  split at h
  ·rename_i m n;injection h with h;subst h;refine⟨_,?_,by rw[ig];exact .int _ _ _⟩;unfold Op.shift;rw[Um (by simp only[Vw];omega)];have:(Int.ofNat n).toNat=n:=rfl;simp only[this,UN];congr 3
  ·exact kA (s:=Op.shift .shl k a k' b) h P w
 case shr =>
  change N6 k a b=some y at h;unfold N6 at h;simp only[binOp]
  split at h
  ·rename_i m n;injection h with h;subst h;refine⟨_,?_,.int _ _ _⟩;unfold Op.shift;rw[Um (by simp only[Vw];omega)];have:(Int.ofNat n).toNat=n:=rfl;simp only[this,UN];congr 2;have e:(2:Int) ^ (min n k.bits)=((2 ^ (min n k.bits):Nat):Int):=by simp
   rw[e,Int.fdiv_eq_ediv_of_nonneg _ (Wz _)]
   rfl
  ·exact kA (s:=Op.shift .shr k a k' b) h P w
 all_goals
  obtain⟨rfl,h1⟩:=hk h;injection h1 with h1;subst h1;refine⟨_,by simp only[binOp,Op.intCmp,ne_eq,not_true,if_false];rfl,?_⟩;simp only[kV,mE,notb_eq]
 case eql=>exact .bool _ _
 case neq =>
  rw[show (a != b) = !decide (a=b) from by simp[bne];rfl];exact .bool _ _
 case lss=>exact .bool _ _
 case leq =>
  rw[show decide (a<=b) = !decide (b<a) from by rw[U7];simp];exact .bool _ _
 case gtr=>exact .bool _ _
 case geq =>
  rw[show decide (a >= b) = !decide (a<b) from by rw[U7];simp];exact .bool _ _
end
section
variable {C:Cfg}{A:Nat->Nat->Prop}{bd:Nat}{w w':World}{γ γ':Gm}{hg:Nat->AObj}{nx:Nat}
theorem ge{b:Nat}{o:Obj}(h:w.heap[b]?=some o)(hc:∀c e f,o≠.cells c e f):(getObj b).run P w=.ok o w:=by cases o<;>first| (exact absurd rfl (hc _ _ _))|simp[getObj,Sem.run,h]
theorem iy{b:Nat}{o o':Obj}(h:w.heap[b]?=some o)(hc:∀c e f,o≠.cells c e f):(setObj b o').run P w=.ok () (World.setBlk w b o'):=by cases o<;>first| (exact absurd rfl (hc _ _ _))|simp[setObj,Sem.run,h,World.setBlk]
theorem Pg{argTypes:Array TypeId}(hr:Rel C A bd w γ hg nx)(h0:argTypes[0]?=some t)
  (hx:RV w γ A bd x v) (agree:mF C.P t=.map->∀id∈xe x,hg id=g.h.get id) :
  ValSim C A bd w γ (Builtin.len_ argTypes ty #[v]) (jC (mF C.P t) x g):=by
 have a0:(#[v]:Array Value)[0]?=some v:=rfl;unfold Builtin.len_ mF;cases hu:C.P.underlying t with
 |none=>trivial
 | some d =>
  cases d<;>try trivial
  case array n e =>
   refine⟨goInt n,?_,.int _ _ _⟩;simp only[h0,a0,Ut,aC hu,Uq]
   rfl
  case slice e =>
   simp only[jC];cases hx with
   |nils=>exact⟨goInt 0,by simp[h0,aC hu],.int _ _ _⟩
   |esl _ a=>exact⟨goInt 0,by simp[h0,aC hu],.int _ _ _⟩
   | tsl _ tag sz rows b o cap cell ht hc hb hm ha hrl ho hw h =>
    refine⟨goInt rows.length,by simp[h0,aC hu],?_⟩;rw[aq];exact .int _ _ _
   |tnil _ tag sz a cap ht=>exact⟨goInt 0,by simp[h0,aC hu],.int _ _ _⟩
   |hsl _ id ep off len lim b o cap hk he hc h=>exact⟨goInt len,by simp[h0,aC hu],.int _ _ _⟩
   |_=>trivial
  case string =>
   simp only[jC];cases hx with
   |str _ s=>exact⟨goInt s.size,by simp[h0,aC hu],.int _ _ _⟩
   |_=>trivial
  case map kt et =>
   simp only[jC];cases hx with
   |nilm=>exact⟨goInt 0,by simp[h0,aC hu],.int _ _ _⟩
   | hmap _ id b hk hb =>
    have k:=agree (by simp[mF,hu]) id (by simp[xe]);simp only[G.get_eq,<-k];cases hid:hg id with
    | map es =>
     have c:=hr.obj id;rw[hid]at c;obtain⟨j,k2,esC,f,i,l⟩:=c;subst hb;refine⟨goInt es.length,?_,by rw[aq];exact .int _ _ _⟩;simp[h0,aC hu,ge f (by simp),i]
    |_=>trivial
   |_=>trivial
theorem OS{argTypes:Array TypeId}(hr:Rel C A bd w γ hg nx)(h0:argTypes[0]?=some t)(hu:C.P.underlying t=some (.slice e))
  (hx:RV w γ A bd x v) (agree:∀id∈af x,hg id=g.h.get id) :
  ValSim C A bd w γ (Builtin.cap_ argTypes ty #[v]) (LU x g):=by
 have a0:(#[v]:Array Value)[0]?=some v:=rfl;unfold LU;cases hx with
 |nils=>exact⟨goInt 0,by simp[Builtin.cap_,h0,aC hu],.int _ _ _⟩
 |esl _ a=>exact⟨goInt 0,by simp[Builtin.cap_,h0,aC hu],.int _ _ _⟩
 | hsl _ id ep off len lim b0 o0 cap0 hk he hc0 h0' =>
  have b:=agree id (by simp[af]);simp only[G.get_eq,<-b];cases hid:hg id with
  | cells sz rows ep' loose fz =>
   simp only[aa]
   split
   ·rename_i k;simp only[Uk,UZ,notb_eq,Vb]at k;obtain⟨h1,h2⟩:=k;have h1:=aB h1;subst h1;have f:=hr.obj id;rw[hid]at f;obtain⟨l,k2,m,n,i,_⟩:=f;obtain⟨c1,j,d⟩:=h0' k2.symm;refine⟨goInt cap0,by simp[Builtin.cap_,h0,aC hu],?_⟩;have e:(lim.getD (bi rows - off))=cap0:=by
     rw[aq];unfold iV at d;cases lim with
     |none=>simp at h2;have:=i.1 h2;simp only[Option.getD];dsimp only at d;omega
     |some c=>simp only[Option.getD];exact d.1.symm
    rw[e];exact .int _ _ _
   ·trivial
  |_=>trivial
 |_=>trivial
theorem Pm{argTypes:Array TypeId}(hx:RV w γ A bd x v)(hy:RV w γ A bd y u) :
  ValSim C A bd w γ (Builtin.max_ argTypes ty #[v,u]) (match x with
   | .int k m=>match y with
    |.int k' n=>ak (cZ k k') (.val (.int k (ak (yZ m n) n m))) .fail
    |_=>.fail
   |_=>.fail):=by
 cases hx with
 | int _ k m =>
  cases hy with
  | int _ k' n =>
   dsimp only;rw[aa]
   split
   ·refine⟨.int k (if n > m then n else m),by simp[Builtin.max_,Builtin.max2],?_⟩;rw[aa,mE];simp only[UD,gt_iff_lt];exact .int _ _ _
   ·trivial
  |_=>trivial
 |_=>trivial
theorem Pn{argTypes:Array TypeId}(hx:RV w γ A bd x v)(hy:RV w γ A bd y u) :
  ValSim C A bd w γ (Builtin.min_ argTypes ty #[v,u]) (match x with
   | .int k m=>match y with
    |.int k' n=>ak (cZ k k') (.val (.int k (ak (yZ n m) n m))) .fail
    |_=>.fail
   |_=>.fail):=by
 cases hx with
 | int _ k m =>
  cases hy with
  | int _ k' n =>
   dsimp only;rw[aa]
   split
   ·refine⟨.int k (if n<m then n else m),by simp[Builtin.min_,Builtin.min2],?_⟩;rw[aa,mE];simp only[UD];exact .int _ _ _
   ·trivial
  |_=>trivial
 |_=>trivial
end
section
variable {w:World}
def g_:TypeDesc->Value->Bool
 |.bool,.bool _=>true
 |.int k,.int k' _=>decide (k=k')
 |.string,.string _=>true
 |_,_=>false
def aQ:List TypeDesc->List Value->Bool
 |[],[]=>true
 |d::ds,v::vs=>g_ d v&&aQ ds vs
 |_,_=>false
def eqV:Value->Value->Bool
 |.int _ a,.int _ b=>a == b
 |.bool a,.bool b=>a == b
 |.string a,.string b=>a == b
 |_,_=>false
def nV:List Value->List Value->Bool
 |[],[]=>true
 |a::as,b::bs=>eqV a b&&nV as bs
 |_,_=>false
def eJ(P:Program)(t:TypeId):Bool:=match rY P t with|some b=>b|none=>false
def mkV(P:Program)(t:TypeId)(cs:List Value):Value:=if eJ P t then .agg cs.toArray else cs.headD undef
theorem aY:∀{ds:List TypeDesc} {vs:List Value},aQ ds vs=true->vs.length=ds.length:=by
 intro ds
 induction ds with
 |nil=>intro vs h;cases vs<;>simp_all [aQ]
 | cons d ds ih=>intro vs h;cases vs with
  |nil=>simp[aQ]at h
  |cons v vs=>simp only[aQ,Uk]at h;simp[ih h.2]
theorem fC{d1 d2:List TypeDesc}:∀{vs:List Value},aQ (d1++d2) vs=true->aQ d1 (vs.take d1.length)=true/\aQ d2 (vs.drop d1.length)=true:=by
 induction d1 with
 |nil=>intro vs h;simpa [aQ] using h
 | cons d ds ih =>
  intro vs h;cases vs with
  |nil=>simp[aQ]at h
  | cons v vs =>
   simp only[UE,aQ,Uk]at h;obtain⟨h1,h2⟩:=ih h.2;simp only[UX,Xb,W_,aQ,Uk];exact⟨⟨h.1,h1⟩,h2⟩
theorem yu:∀{a1 a2 b1 b2:List Value},a1.length=b1.length->nV (a1++a2) (b1++b2)=(nV a1 b1&&nV a2 b2):=by
 intro a1
 induction a1 with
 |nil=>intro a2 b1 b2 h;cases b1<;>simp_all [nV]
 | cons a as ih =>
  intro a2 b1 b2 h;cases b1 with
  |nil=>simp at h
  |cons b bs=>simp only[UE,nV,ih (Nat.succ.inj h),Bool.and_assoc]
section
variable {P:Program}
def pg:TypeDesc->Bool
 |.struct _|.array _ _=>true
 |_=>false
theorem eK{d:TypeDesc}(h:P.underlying t=some d) :
  eJ P t=pg d/\rY P t=some (eJ P t):=by
 unfold eJ rY;cases d<;>simp[h,pg]
theorem uk{d:TypeDesc}{off:Nat}(hu:P.underlying t=some d)(hn:szT P t=some n)(h1:eJ P t=false->n=1)
  (hle:eJ P t=false->off+n<=xs.size):(part t xs off).run P w=.ok (mkV P t ((xs.toList.drop off).take n)) w:=by
 obtain⟨_,ha⟩:=eK hu;unfold mkV;cases hg:eJ P t with
 | true =>
  rw[hg]at ha;have e:(xs.extract off (off+n))=((xs.toList.drop off).take n).toArray:=by apply W0;simp[Array.toList_extract,List.extract]
  simp[part,mU ha,aZ hn,e]
 | false =>
  rw[hg]at ha;have h:=h1 hg;subst h;have hl:off<xs.size:=by have:=hle hg;omega
  have e:((xs.toList.drop off).take 1).headD undef=xs[off]:=by rw[List.headD_eq_head?_getD,List.head?_take,Um (by decide),List.head?_drop];simp[hl]
  simp only[part,Ut,mU ha,Uq,VF,if_false,e];simp[hl]
theorem ir{ds:List TypeDesc}(h:nD P d t=some ds):∃k,P.underlying t=some k/\(eJ P t=false->ds.length=1):=by
 cases d with
 |zero=>cases h
 | succ d =>
  unfold nD at h;cases hu:P.underlying t with
  |none=>rw[hu]at h;cases h
  | some k =>
   refine⟨k,rfl,λhg=>?_⟩;obtain⟨h1,_⟩:=eK hu;rw[hg]at h1;rw[hu]at h;cases k<;>simp[pg]at h1<;>simp only[aa]at h<;>split at h<;>first| (cases h;done)| (injection h with h;subst h;rfl)
theorem Hn{dd:Nat}{rec:TypeId->Option (List TypeDesc)}(hinfo:∀t ds,rec t=some ds->∃k,P.underlying t=some k/\(eJ P t=false->ds.length=1))
  (ih:∀t ds,rec t=some ds->∀(xs ys:List Value),aQ ds xs=true->aQ ds ys=true->(Op.equalIn dd t (mkV P t xs) (mkV P t ys)).run P w=.ok (nV xs ys) w)
  {ys:Array Value}:∀(fs:List Field) (k:Nat) (ds:List TypeDesc),vQ P rec fs k=some ds->aQ ds (xs.toList.drop k)=true->aQ ds (ys.toList.drop k)=true ->
   (Op.eqFields dd xs ys fs).run P w=.ok (nV (xs.toList.drop k) (ys.toList.drop k)) w:=by
 intro fs
 induction fs with
 | nil =>
  intro k ds h hx j;simp only[vQ]at h;injection h with h;subst h;have h1:=aY hx;have h2:=aY j;rw[UJ h1,UJ h2]
  rfl
 | cons f fs ihf =>
  intro k ds h hx j;simp only[vQ]at h
  split at h
  ·rename_i ds1 h1
   split at h
   ·rename_i r hr;rw[aa]at h
    split at h
    ·rename_i c;simp only[Uk,bne_iff_ne,ne_eq,beq_iff_eq]at c;obtain⟨⟨d,a⟩,i⟩:=c;have a:=aB a;injection h with h;subst h;obtain⟨l,m⟩:=fC hx;obtain⟨n,o⟩:=fC j;rw[Vq]at m o;have lx:=aY hx;have ly:=aY j;simp at lx ly;obtain⟨kd,hu,b⟩:=hinfo _ _ h1;have p1:(part f.type xs f.offset).run P w=.ok (mkV P f.type ((xs.toList.drop k).take ds1.length)) w:=by rw[a];exact uk hu i b λhg=>by have:=b hg;omega
     have p2:(part f.type ys f.offset).run P w=.ok (mkV P f.type ((ys.toList.drop k).take ds1.length)) w:=by rw[a];exact uk hu i b λhg=>by have:=b hg;omega
     have p3:=ih _ _ h1 _ _ l n;have p4:=ihf _ _ hr m o;simp only[Op.eqFields,ne_eq,d,not_false_eq_true,if_true,Ut,p1,p2,p3,Uq];have e:=yu (a1:=(xs.toList.drop k).take ds1.length) (a2:=xs.toList.drop (k+ds1.length)) (b1:=(ys.toList.drop k).take ds1.length) (b2:=ys.toList.drop (k+ds1.length))
      (by rw[aY l,aY n])
     rw[<-Vq,<-Vq,Vi,Vi]at e;rw[e,Vq,Vq];cases hq:nV ((xs.toList.drop k).take ds1.length) ((ys.toList.drop k).take ds1.length)
     ·simp
     ·simpa using p4
    ·cases h
   ·cases h
  ·cases h
theorem B5{dd:Nat}{de:List TypeDesc}{kd:TypeDesc}(hu:P.underlying e=some kd)(hone:eJ P e=false->de.length=1)(hsz:szT P e=some de.length)
  (ih:∀(xs ys:List Value),aQ de xs=true->aQ de ys=true->(Op.equalIn dd e (mkV P e xs) (mkV P e ys)).run P w=.ok (nV xs ys) w)
  {ys:Array Value}:∀(n i:Nat),aQ (List.replicate n de).flatten (xs.toList.drop (i*de.length))=true->aQ (List.replicate n de).flatten (ys.toList.drop (i*de.length))=true ->
   (Op.eqItems dd e de.length xs ys (List.range' i n)).run P w=.ok (nV (xs.toList.drop (i*de.length)) (ys.toList.drop (i*de.length))) w:=by
 intro n
 induction n with
 | zero =>
  intro i hx h;have h1:=aY hx;have h2:=aY h;rw[UJ (l:=xs.toList.drop _) (by simpa using h1),UJ (l:=ys.toList.drop _) (by simpa using h2)]
  rfl
 | succ n ihn =>
  intro i hx h;rw[VO,VZ]at hx h;obtain⟨k,a⟩:=fC hx;obtain⟨b,c⟩:=fC h;have lx:=aY k;have ly:=aY b;simp at lx ly;rw[Vq]at a c;have em:i*de.length+de.length=(i+1)*de.length:=by rw[UH,Vk]
  rw[em]at a c;have p1:(part e xs (i*de.length)).run P w=.ok (mkV P e ((xs.toList.drop (i*de.length)).take de.length)) w:=uk hu hsz hone λhg=>by have:=hone hg;omega
  have p2:(part e ys (i*de.length)).run P w=.ok (mkV P e ((ys.toList.drop (i*de.length)).take de.length)) w:=uk hu hsz hone λhg=>by have:=hone hg;omega
  have p3:=ih _ _ k b;have p4:=ihn (i+1) a c;rw[W7];simp only[Op.eqItems,Ut,p1,p2,p3,Uq];have ee:=yu (a1:=(xs.toList.drop (i*de.length)).take de.length) (a2:=xs.toList.drop ((i+1)*de.length)) (b1:=(ys.toList.drop (i*de.length)).take de.length) (b2:=ys.toList.drop ((i+1)*de.length))
   (by rw[aY k,aY b])
  rw[<-em,<-Vq,<-Vq,Vi,Vi,Vq,Vq,em]at ee;rw[ee];cases hq:nV ((xs.toList.drop (i*de.length)).take de.length) ((ys.toList.drop (i*de.length)).take de.length)
  ·simp
  ·simpa using p4
theorem G8(h:szT P t=some n):P.cellsOf t=n/\∃i,P.info? t=some i:=by
 unfold szT at h;unfold Program.cellsOf;cases hi:P.info? t with
 |none=>rw[hi]at h;cases h
 |some i=>rw[hi]at h;simp at h;simp[h]
theorem DY(D:Nat):∀(d:Nat) (t:TypeId) (ds:List TypeDesc),nD P d t=some ds->∀(w:World) (xs ys:List Value),aQ ds xs=true->aQ ds ys=true ->
  (Op.equalIn (D+d) t (mkV P t xs) (mkV P t ys)).run P w=.ok (nV xs ys) w:=by
 intro d
 induction d with
 |zero=>intro t ds h;cases h
 | succ d ih =>
  intro t ds h w xs ys hx a;unfold nD at h;have one:∀k,P.underlying t=some k->nC k=true->pg k=false->ds=[k]->(Op.equalIn (D+(d+1)) t (mkV P t xs) (mkV P t ys)).run P w=.ok (nV xs ys) w:=by
   intro k hu hk m o;obtain⟨h1,_⟩:=eK hu;subst o;have hm:∀zs,mkV P t zs=zs.headD undef:=by intro zs;unfold mkV;rw[h1,m];rfl
   rw[hm,hm];have lx:=aY hx;have ly:=aY a
   match xs,ys,lx,ly with
   | [x],[y],_,_ =>
    simp only[aQ,Xq]at hx a;simp only[List.headD_cons,nV,Xq,<-Wc];cases k<;>simp[nC]at hk<;>cases x<;>simp[g_]at hx<;>cases y<;>simp[g_]at a
    ·simp[Op.equalIn,aC hu,eqV]
    ·subst hx;subst a;simp[Op.equalIn,aC hu,eqV]
    ·simp[Op.equalIn,aC hu,eqV]
  cases hu:P.underlying t with
  |none=>rw[hu]at h;cases h
  | some k =>
   rw[hu]at h;cases k
   case struct fs =>
    simp only[aa]at h
    split at h
    ·cases h
    ·rename_i c;have c:P.stoodInHeld t=false:=by simpa using c
     have j:P.fieldsOf t=fs:=by simp[Program.fieldsOf,hu]
     have hm:∀zs,mkV P t zs=.agg zs.toArray:=by intro zs;unfold mkV;rw[(eK hu).1];rfl
     rw[hm,hm,<-Wc,run_equalIn_struct w (D+d) t _ _ (by rw[j];exact hu) c,j];have:=Hn (P:=P) (w:=w) (dd:=D+d) (rec:=nD P d) (λt ds h=>ir h) (λt ds h xs ys hx a=>ih t ds h w xs ys hx a) (xs:=xs.toArray) (ys:=ys.toArray)
      fs.toList 0 ds h (by simpa using hx) (by simpa using a)
     simpa using this
   case array n e =>
    simp only at h
    split at h
    ·rename_i de f;simp only[aa]at h
     split at h
     ·rename_i b;injection h with h;subst h;have b:szT P e=some de.length:=by simpa using b
      obtain⟨kd,p,l⟩:=ir f;obtain⟨hc,i,hi⟩:=G8 b;have hm:∀zs,mkV P t zs=.agg zs.toArray:=by intro zs;unfold mkV;rw[(eK hu).1];rfl
      rw[hm,hm,<-Wc,run_equalIn_array w (D+d) _ _ hu hi,hc,W5];have:=B5 (P:=P) (w:=w) (dd:=D+d) p l b (λxs ys hx a=>ih e de f w xs ys hx a) (xs:=xs.toArray) (ys:=ys.toArray) n 0 (by simpa using hx) (by simpa using a);simpa using this
     ·cases h
    ·cases h
   all_goals
    simp only[aa]at h
    split at h
    ·rename_i hk;injection h with h;exact one _ hu hk rfl h.symm
    ·cases h
end
end
section
variable {C:Cfg}{A:Nat->Nat->Prop}{bd:Nat}{w w':World}{γ γ':Gm}{hg:Nat->AObj}{nx:Nat}
theorem RVs.tail{xs:List AV}{vs:List Value}(h:RVs w γ A bd (x::xs) (v::vs)):RV w γ A bd x v/\RVs w γ A bd xs vs :=
 ⟨h.2 0 x v rfl rfl,by have:=h.1;simp at this;exact this,λi y u hy hu=>h.2 (i+1) y u (by simpa using hy) (by simpa using hu)⟩
theorem CW{d:TypeDesc}(h:pj d x=true)(hx:RV w γ A bd x v):g_ d v=true:=by cases d<;>cases hx<;>simp_all [pj,g_,mQ]
theorem vX:∀{ds:List TypeDesc} {xs:List AV} {vs:List Value},dZ ds xs=true->RVs w γ A bd xs vs->aQ ds vs=true:=by
 intro ds
 induction ds with
 | nil =>
  intro xs vs h hx;cases xs with
  | nil=>have:=hx.1;cases vs with
   |nil=>rfl
   |cons v vs=>simp at this
  |cons x xs=>cases h
 | cons d ds ih =>
  intro xs vs h hx;cases xs with
  |nil=>cases h
  | cons x xs =>
   cases vs with
   |nil=>have:=hx.1;simp at this
   | cons v vs =>
    obtain⟨h1,h2⟩:=hx.tail;simp only[dZ,aa]at h
    split at h
    ·rename_i hk;simp only[aQ,Uk];exact⟨CW hk h1,ih h h2⟩
    ·cases h
theorem xL{b:Bool}(h:m6 x y=some b)(hx:RV w γ A bd x v)(hy:RV w γ A bd y u):eqV v u=b:=by
 cases hx<;>cases hy<;>simp only[m6]at h<;>first| (cases h;done)|skip
 ·injection h with h;subst h;rename_i a b;cases a<;>cases b<;>rfl
 ·rw[aa]at h
  split at h
  ·injection h with h;subst h;simp[eqV,kV];rfl
  ·cases h
 ·injection h with h;subst h;simp only[eqV];rename_i k c;obtain⟨⟨x⟩⟩:=k;obtain⟨⟨y⟩⟩:=c;show ((⟨x⟩:Array UInt8) == ⟨y⟩)=_;rw[U7];simp
theorem vE:∀{xs ys:List AV} {vs us:List Value} {b:Bool},dY xs ys=some b->RVs w γ A bd xs vs->RVs w γ A bd ys us->nV vs us=b:=by
 intro xs
 induction xs with
 | nil =>
  intro ys vs us b h hx k;cases ys with
  | nil =>
   simp only[dY]at h;injection h with h;subst h;have h1:=hx.1;have h2:=k.1;cases vs<;>cases us<;>simp_all [nV]
  |cons y ys=>cases h
 | cons x xs ih =>
  intro ys vs us b h hx k;cases ys with
  |nil=>cases h
  | cons y ys =>
   cases vs with
   |nil=>have:=hx.1;simp at this
   | cons v vs =>
    cases us with
    |nil=>have:=k.1;simp at this
    | cons u us =>
     obtain⟨a,c⟩:=hx.tail;obtain⟨d,e⟩:=k.tail;simp only[dY]at h
     split at h
     ·rename_i p q hp hq;injection h with h;subst h;simp only[nV,xL hp a d,ih hq c e,aa];cases p<;>simp
     ·cases h
theorem wj{xs:List AV}(h:RV w γ A bd (.agg xs) v):∃vs,v=.agg vs/\RVs w γ A bd xs vs.toList:=by
 cases h with
 |agg _ _ vs hl h1 h2=>exact⟨vs,rfl,by simpa using hl,λi x u hx hu=>h2 i x u hx (by simpa using hu)⟩
theorem Hm{ds:List TypeDesc}{ys:Array Value}(h:kN C.P t=some ds)(hag:eJ C.P t=true)(hx:aQ ds xs.toList=true)(hy:aQ ds ys.toList=true) :
  C.P.eqGuardType C.P.depth t=false/\(Op.equal t (.agg xs) (.agg ys)).run C.P w=.ok (nV xs.toList ys.toList) w:=by
 unfold kN at h;rw[aa]at h
 split at h
 ·cases h
 ·rename_i hg;refine⟨by simpa using hg,?_⟩;have:=DY (P:=C.P) 9992 8 t ds h w xs.toList ys.toList hx hy;unfold mkV at this;rw[hag]at this;simpa [Op.equal,Op.maxDepth] using this
theorem mO(t:TypeId)(x y:Value):Op.equal t x y=Op.equalIn (9999+1) t x y:=rfl
def EqFin(C:Cfg)(w:World)(ty:TypeId)(xo yo:Operand)(va vb:Value)(r:Bool):Prop :=
 (∀op,(eqGuard op ty xo yo va vb).run C.P w=.ok () w)/\(binOp .eql ty va vb).run C.P w=.ok (.bool r) w/\(binOp .neq ty va vb).run C.P w=.ok (.bool (!r)) w
theorem EqFin.mk'{ty:TypeId}{xo yo:Operand}{va vb:Value}{r:Bool}(h1:∀op,(eqGuard op ty xo yo va vb).run C.P w=.ok () w)(h2:(Op.equal ty va vb).run C.P w=.ok r w)
  (h3:binOp .eql ty va vb=(do pure (.bool (<-Op.equal ty va vb)))) (h4:binOp .neq ty va vb=(do pure (.bool (!(<-Op.equal ty va vb))))):EqFin C w ty xo yo va vb r:=by
 refine⟨h1,?_,?_⟩
 ·rw[h3];simp[h2]
 ·rw[h4];simp[h2]
section kinds
variable {ty:TypeId}{xo yo:Operand}{a b:AV}{va vb:Value}{r:Bool}(ha:RV w γ A bd a va)(hb:RV w γ A bd b vb)
include ha hb
theorem Mc{ds:List TypeDesc}(hf:kN C.P ty=some ds)(hag:eJ C.P ty=true)(h:eqA (.flat ds) a b=some r):EqFin C w ty xo yo va vb r:=by
 cases a<;>try (cases h;done)
 cases b<;>try (cases h;done)
 rename_i xs ys;change ak (dZ ds xs&&dZ ds ys) (dY xs ys) none=some r at h;rw[aa]at h
 split at h
 ·rename_i hk;simp only[Uk]at hk;obtain⟨vs,rfl,c⟩:=wj ha;obtain⟨us,rfl,k⟩:=wj hb;obtain⟨g1,g2⟩:=Hm (w:=w) hf hag (vX hk.1 c) (vX hk.2 k);rw[vE h c k]at g2;exact .mk' (λop=>run_eqGuard_agg w op ty xo yo vs us g1) g2 rfl rfl
 ·cases h
theorem Kk(hu:C.P.underlying ty=some (.slice e))(h:eqA .slice a b=some r):EqFin C w ty xo yo va vb r:=by
 cases ha<;>try (cases h;done)
 all_goals cases hb<;>first| (cases h;done)| (injection h with h;subst h;exact .mk' (λop=>by cases op<;>simp[eqGuard]) (by rw[mO];unfold Op.equalIn;simp[aC hu]) rfl rfl)
theorem Md{p q:Array TypeId}{v:Bool}(hu:C.P.underlying ty=some (.func p q v))(h:eqA .func a b=some r):EqFin C w ty xo yo va vb r:=by
 cases ha<;>try (cases h;done)
 all_goals cases hb<;>first| (cases h;done)| (injection h with h;subst h;exact .mk' (λop=>by cases op<;>simp[eqGuard]) (by rw[mO];unfold Op.equalIn;simp[aC hu]) rfl rfl)
theorem Mb(hu:C.P.underlying ty=some .bool)(h:eqA .bool a b=some r):EqFin C w ty xo yo va vb r:=by
 cases ha<;>try (cases h;done)
 cases hb<;>try (cases h;done)
 rename_i x y;injection h with h;subst h;refine .mk' (λop=>by cases op<;>simp[eqGuard]) ?_ rfl rfl;rw[mO];unfold Op.equalIn;simp[aC hu];cases x<;>cases y<;>rfl
theorem Kj{ms:Array (String×TypeId)}(hu:C.P.underlying ty=some (.interface ms))(h:eqA (.iface ms.isEmpty) a b=some r):EqFin C w ty xo yo va vb r:=by
 cases ha<;>try (cases h;done)
 ·cases hb<;>try (cases h;done)
  ·change ak ms.isEmpty (some true) none=some r at h;rw[aa]at h
   split at h
   ·rename_i he;injection h with h;subst h;refine .mk' (λop=>?_) (by rw[mO];unfold Op.equalIn;simp[aC hu]) rfl rfl;have hg:(Op.eqGuardIn Op.maxDepth ty .nilIface .nilIface).run C.P w=.ok false w:=by show (Op.eqGuardIn (9999+1) ty .nilIface .nilIface).run C.P w=_;unfold Op.eqGuardIn;simp only[Ut,aC hu,Uq,he,UN,WV]
    unfold eqGuard;generalize Op.eqGuardIn Op.maxDepth ty .nilIface .nilIface=m at hg ⊢;cases op<;>simp[hg]
   ·cases h
  ·injection h with h;subst h;exact .mk' (λop=>by cases op<;>simp[eqGuard]) (by rw[mO];unfold Op.equalIn;simp[aC hu]) rfl rfl
 ·cases hb<;>try (cases h;done)
  injection h with h;subst h;exact .mk' (λop=>by cases op<;>simp[eqGuard]) (by rw[mO];unfold Op.equalIn;simp[aC hu]) rfl rfl
end kinds
theorem IG{ty:TypeId}{xo yo:Operand}{a b:AV}{va vb:Value}{r:Bool}(hne:qA C.P ty≠.other)(h:eqA (qA C.P ty) a b=some r)(ha:RV w γ A bd a va)(hb:RV w γ A bd b vb) :
  EqFin C w ty xo yo va vb r:=by
 unfold qA at h hne;cases hu:C.P.underlying ty with
 |none=>simp only[hu]at hne;exact absurd rfl hne
 | some d =>
  have agg:pg d=true->eqA (match kN C.P ty with|some ds=>EqKind.flat ds|none=>.other) a b=some r->EqFin C w ty xo yo va vb r:=by
   intro hd h;cases hf:kN C.P ty with
   |none=>rw[hf]at h;cases h
   |some ds=>rw[hf]at h;exact Mc ha hb hf (by rw[(eK hu).1];exact hd) h
  simp only[hu]at h hne;cases d
  case struct fs=>exact agg rfl h
  case array n e=>exact agg rfl h
  case slice e=>exact Kk ha hb hu h
  case func p q v=>exact Md ha hb hu h
  case bool=>exact Mb ha hb hu h
  case interface ms=>exact Kj ha hb hu h
  all_goals exact absurd rfl hne
noncomputable def Qs(op:BinOp)(x y:AV):OR:=match x,y with|.int k m,.int k' n=>orV ((gf op).run k m k' n)|_,_=>.fail
theorem OL{op:BinOp}{ty:TypeId}{xo yo:Operand}{a b:AV}{va vb:Value}(ha:RV w γ A bd a va)(hb:RV w γ A bd b vb) :
  ValSim C A bd w γ (do eqGuard op ty xo yo va vb;binOp op ty va vb) ((zH C.P op ty).run a b):=by
 have pf:ValSim C A bd w γ (do eqGuard op ty xo yo va vb;binOp op ty va vb) (Qs op a b):=by
  unfold Qs;cases ha with
  | int _ k m =>
   cases hb with
   | int _ k' n =>
    refine oy λy hy=>?_;obtain⟨v,h1,h2⟩:=Hw (P:=C.P) (ty:=ty) (w:=w) (γ:=γ) (A:=A) (bd:=bd) hy;refine⟨v,?_,h2⟩;have:(eqGuard op ty xo yo (.int k m) (.int k' n)).run C.P w=.ok () w:=by cases op<;>simp[eqGuard]
    simp[this,h1]
   |_=>trivial
  |_=>trivial
 cases op
 case eql =>
  unfold zH;dsimp only
  split
  ·exact pf
  ·rename_i hk;dsimp only;cases hr:eqA (qA C.P ty) a b with
   |none=>trivial
   | some r =>
    obtain⟨h1,h2,_⟩:=IG (xo:=xo) (yo:=yo) (λe=>hk e) hr ha hb;exact⟨.bool r,by simp[h1,h2],.bool _ _⟩
 case neq =>
  unfold zH;dsimp only
  split
  ·exact pf
  ·rename_i hk;dsimp only;cases hr:eqA (qA C.P ty) a b with
   |none=>trivial
   | some r =>
    obtain⟨h1,_,h2⟩:=IG (xo:=xo) (yo:=yo) (λe=>hk e) hr ha hb;exact⟨.bool (!r),by simp[h1,h2],by rw[notb_eq];exact .bool _ _⟩
 all_goals exact pf
end
section
variable {P:Program}
theorem Aw(em:Bool)(D:Nat):∀(d:Nat) (t:TypeId) (ds:List TypeDesc),nD P d t=some ds->∀(w:World) (xs:List Value),aQ ds xs=true ->
  (Instr.checkKey em (D+d) t (mkV P t xs)).run P w=.ok () w:=by
 intro d
 induction d with
 |zero=>intro t ds h;cases h
 | succ d ih =>
  intro t ds h w xs hx;unfold nD at h;have one:∀k,P.underlying t=some k->nC k=true->pg k=false->ds=[k]->(Instr.checkKey em (D+(d+1)) t (mkV P t xs)).run P w=.ok () w:=by
   intro k hu hk hag hds;obtain⟨h1,_⟩:=eK hu;subst hds;have hm:∀zs,mkV P t zs=zs.headD undef:=by intro zs;unfold mkV;rw[h1,hag];rfl
   rw[hm];have lx:=aY hx
   match xs,lx with
   | [x],_ =>
    simp only[aQ,Xq]at hx;simp only[List.headD_cons,<-Wc];unfold Instr.checkKey;cases k<;>simp[nC]at hk<;>cases x<;>simp[g_]at hx<;>simp[aC hu]
  cases hu:P.underlying t with
  |none=>rw[hu]at h;cases h
  | some k =>
   rw[hu]at h;cases k
   case struct fs =>
    simp only[aa]at h
    split at h
    ·cases h
    ·have hm:∀zs,mkV P t zs=.agg zs.toArray:=by intro zs;unfold mkV;rw[(eK hu).1];rfl
     rw[hm,<-Wc,Instr.checkKey];simp only[Ut,aC hu,Uq];rw[<-Array.forIn_toList];have go:∀(L:List Field) (k:Nat) (ds:List TypeDesc),vQ P (nD P d) L k=some ds->aQ ds (xs.drop k)=true ->
       (forIn L PUnit.unit λ(f:Field) (_:PUnit)=>(do
        if f.name ≠ "_" then Instr.checkKey em (D + d) f.type (← part f.type xs.toArray f.offset)
        pure (ForInStep.yield PUnit.unit):Sem (ForInStep PUnit))).run P w=.ok PUnit.unit w:=by
      intro L
      induction L with
      |nil=>intro k ds _ _;simp
      | cons f L ihL =>
       intro k ds h hx;simp only[vQ]at h
       split at h
       ·rename_i ds1 h1
        split at h
        ·rename_i r hr;rw[aa]at h
         split at h
         ·rename_i hcond;simp only[Uk,bne_iff_ne,ne_eq,beq_iff_eq]at hcond;obtain⟨⟨hname,hoff⟩,hsz⟩:=hcond;have hoff:=aB hoff;injection h with h;subst h;obtain⟨x1,x2⟩:=fC hx;rw[Vq]at x2;have lx:=aY hx;simp at lx;obtain⟨kd,hu',hone⟩:=ir h1;have p1:(part f.type xs.toArray f.offset).run P w=.ok (mkV P f.type ((xs.drop k).take ds1.length)) w:=by
           rw[hoff];have:=uk (w:=w) (xs:=xs.toArray) (off:=k) hu' hsz hone λhg=>by have:=hone hg;simp;omega
           simpa using this
          have p2:=ih _ _ h1 w _ x1;have p3:=ihL _ _ hr x2;simp only[List.forIn_cons,Ut,ne_eq,hname,not_false_eq_true,if_true,Uq,p1,p2,UN];exact p3
         ·cases h
        ·cases h
       ·cases h
     have:=go fs.toList 0 ds h (by simpa using hx);simp at this ⊢;rw[this];rfl
   case array n e =>
    simp only at h
    split at h
    ·rename_i de hde;simp only[aa]at h
     split at h
     ·rename_i hsz;injection h with h;subst h;have hsz:szT P e=some de.length:=by simpa using hsz
      obtain⟨kd,hue,hone⟩:=ir hde;have hm:∀zs,mkV P t zs=.agg zs.toArray:=by intro zs;unfold mkV;rw[(eK hu).1];rfl
      rw[hm,<-Wc,Instr.checkKey];simp only[Ut,aC hu,Uq];simp only[Std.Legacy.Range.forIn_eq_forIn_range',Std.Legacy.Range.size,WJ,Nat.add_one_sub_one,Nat.div_one];have go:∀(n i:Nat),aQ (List.replicate n de).flatten (xs.drop (i*de.length))=true ->
        (forIn (List.range' i n) PUnit.unit λ(i:Nat) (_:PUnit)=>(do
         Instr.checkKey em (D+d) e (<-part e xs.toArray (i*(<-Go.sizeOf e)))
         pure (ForInStep.yield PUnit.unit):Sem (ForInStep PUnit))).run P w=.ok PUnit.unit w:=by
       intro n
       induction n with
       |zero=>intro i _;simp
       | succ n ihn =>
        intro i hx;rw[VO,VZ]at hx;obtain⟨x1,x2⟩:=fC hx;have lx:=aY x1;simp at lx;rw[Vq]at x2;have em':i*de.length+de.length=(i+1)*de.length:=by rw[UH,Vk]
        rw[em']at x2;have p1:(part e xs.toArray (i*de.length)).run P w=.ok (mkV P e ((xs.drop (i*de.length)).take de.length)) w:=by
         have:=uk (w:=w) (xs:=xs.toArray) (off:=i*de.length) hue hsz hone λhg=>by have:=hone hg;simp;omega
         simpa using this
        have p2:=ih e de hde w _ x1;have p3:=ihn (i+1) x2;rw[W7];simp only[List.forIn_cons,Ut,aZ hsz,Uq,p1,p2,UN];exact p3
      have:=go n 0 (by simpa using hx);simp at this ⊢;rw[this];rfl
     ·cases h
    ·cases h
   all_goals
    simp only[aa]at h
    split at h
    ·rename_i hk;injection h with h;exact one _ hu hk rfl h.symm
    ·cases h
end
section
variable {C:Cfg}{A:Nat->Nat->Prop}{bd:Nat}{w w':World}{γ γ':Gm}{hg:Nat->AObj}{nx:Nat}
def BE(P:Program)(kt:TypeId)(k:AV)(v:Value):Prop :=
 ∃d ds,d<=8/\nD P d kt=some ds/\aQ ds v.cells.toList=true/\v=mkV P kt v.cells.toList/\(eJ P kt=true↔∃xs,k=.agg xs)
theorem Hy(h:jQ (ck C.P kt) k=true)(hk:RV w γ A bd k v):BE C.P kt k v:=by
 unfold ck at h;cases hu:C.P.underlying kt with
 |none=>rw[hu]at h;cases h
 | some d =>
  have agg:pg d=true->jQ (match kN C.P kt with|some ds=>KeyKind.flat ds|none=>.other) k=true->BE C.P kt k v:=by
   intro hd h;cases hf:kN C.P kt with
   |none=>rw[hf]at h;cases h
   | some ds =>
    rw[hf]at h;obtain⟨xs,rfl⟩:∃xs,k=.agg xs:=by cases k<;>first|exact⟨_,rfl⟩| (cases h;done)
    change dZ ds xs=true at h;obtain⟨vs,rfl,l⟩:=wj hk;have a:eJ C.P kt=true:=by rw[(eK hu).1];exact hd
    unfold kN at hf;rw[aa]at hf
    split at hf
    ·cases hf
    ·refine⟨8,ds,Ui _,hf,vX h l,?_,?_⟩
     ·unfold mkV;rw[a];simp[Value.cells]
     ·simp[a]
  have one:nC d=true->jQ (.one d) k=true->pg d=false->(∀f,nD C.P (f+1) kt=some [d])->BE C.P kt k v:=by
   intro hf c a i;have b:eJ C.P kt=false:=by rw[(eK hu).1];exact a
   have j:=CW c hk;refine⟨1,[d],by decide,i 0,?_,?_,?_⟩
   ·cases v<;>simp_all [Value.cells,aQ,g_]<;>cases d<;>simp_all [g_]
   ·unfold mkV;rw[b];cases v<;>simp[Value.cells]<;>cases d<;>simp_all [g_]
   ·rw[b];constructor
    ·intro h;cases h
    ·rintro⟨xs,rfl⟩;cases d<;>cases c
  rw[hu]at h;cases d
  case struct fs=>exact agg rfl h
  case array n e=>exact agg rfl h
  all_goals
   simp only[aa]at h
   split at h
   ·rename_i hf;exact one hf h rfl (λf=>by unfold nD;rw[hu];simp only[aa];rw[Un hf])
   ·cases h
theorem yq{d:TypeDesc}{b:Bool}(h:m6 x y=some b)(hx:RV w γ A bd x v)(hy:RV w γ A bd y u)(hk:g_ d v=true):g_ d u=true:=by
 cases hx<;>try (cases h;done)
 all_goals cases hy<;>try (cases h;done)
 ·cases d<;>simp_all [g_]
 ·simp only[m6,aa,mQ]at h
  split at h
  ·rename_i e;simp at e;subst e;cases d<;>simp_all [g_]
  ·cases h
 ·cases d<;>simp_all [g_]
theorem uN:∀{ds:List TypeDesc} {xs ys:List AV} {vs us:List Value} {b:Bool},dY xs ys=some b->RVs w γ A bd xs vs->RVs w γ A bd ys us->aQ ds vs=true->aQ ds us=true:=by
 intro ds
 induction ds with
 | nil =>
  intro xs ys vs us b h hx k hk;have h0:=aY hk;have h1:=hx.1;have:xs=[]:=UJ (by simp at h0;simp[h1,h0]);subst this;cases ys with
  |nil=>have h2:=k.1;have:us=[]:=UJ (by simpa using h2.symm);subst this;rfl
  |cons y ys=>cases h
 | cons d ds ih =>
  intro xs ys vs us b h hx k hk;cases vs with
  |nil=>cases hk
  | cons v vs =>
   cases xs with
   |nil=>have:=hx.1;simp at this
   | cons x xs =>
    cases ys with
    |nil=>cases h
    | cons y ys =>
     cases us with
     |nil=>have:=k.1;simp at this
     | cons u us =>
      obtain⟨a,c⟩:=hx.tail;obtain⟨e,f⟩:=k.tail;simp only[aQ,Uk]at hk;simp only[dY]at h
      split at h
      ·rename_i p q hp hq;simp only[aQ,Uk];exact⟨yq hp a e hk.1,ih hq c f hk.2⟩
      ·cases h
theorem vY(h:eJ C.P kt=false)(x:Value):mkV C.P kt [x]=x:=by unfold mkV;rw[h];rfl
theorem AP{k':AV}{v':Value}{b:Bool}(hk:BE C.P kt k v)(h:jP k k'=some b)(h1:RV w γ A bd k v)(h2:RV w γ A bd k' v') :
  BE C.P kt k' v'/\(Op.equal kt v v').run C.P w=.ok b w/\(eJ C.P kt=false->∀kd,C.P.underlying kt=some kd->Instr.sameNow kd v v'=some b):=by
 obtain⟨d,ds,hd,a,f,t,n⟩:=hk;cases hg:eJ C.P kt with
 | true =>
  obtain⟨xs,rfl⟩:=n.1 hg;obtain⟨ys,rfl⟩:∃ys,k'=.agg ys:=by cases k'<;>first|exact⟨_,rfl⟩| (cases h;done)
  change dY xs ys=some b at h;obtain⟨vs,rfl,s⟩:=wj h1;obtain⟨us,rfl,hu⟩:=wj h2;have c:aQ ds us.toList=true:=uN h s hu f;have he:=DY (P:=C.P) (10000 - d) d kt ds a w vs.toList us.toList f c;have hm:∀zs:Array Value,mkV C.P kt zs.toList=.agg zs:=by intro zs;unfold mkV;rw[hg];simp
  rw[show 10000 - d+d=9999+1 from by omega,hm,hm,vE h s hu]at he;refine⟨⟨d,ds,hd,a,c,(hm us).symm,by simp[hg]⟩,he,λh=>by cases h⟩
 | false =>
  have p:∀xs,k≠.agg xs:=λxs e=>by rw[n.2 ⟨xs,e⟩]at hg;cases hg
  have j:∀xs,k'≠.agg xs:=by rintro xs rfl;cases k<;>first| (cases h;done)|exact absurd rfl (p _)
  have h':m6 k k'=some b:=by cases k<;>first| (exact absurd rfl (p _))| (cases k'<;>first| (exact absurd rfl (j _))|exact h)
  obtain⟨kd,hu,q⟩:=ir a;have m:=q hg;obtain⟨i,rfl⟩:∃i,ds=[i]:=by
   match ds,m with
   |[i],_=>exact⟨i,rfl⟩
  have r:v.cells.toList=[v]:=by cases h1<;>first|rfl| (cases h';done)
  have l:v'.cells.toList=[v']:=by
   cases h1<;>try (cases h';done)
   all_goals cases h2<;>first|rfl| (cases h';done)
  rw[r]at f;simp only[aQ,Xq]at f;have c:=yq h' h1 h2 f;have he:=DY (P:=C.P) (10000 - d) d kt [i] a w [v] [v'] (by simp[aQ,f]) (by simp[aQ,c]);rw[show 10000 - d+d=9999+1 from by omega,vY hg,vY hg]at he;simp only[nV,Xq,xL h' h1 h2]at he;refine⟨⟨d,[i],hd,a,by rw[l];simp[aQ,c],by rw[l,vY hg],?_⟩,he,λ_ kd' hu'=>?_⟩
  ·rw[hg];constructor
   ·intro h;cases h
   ·rintro⟨xs,e⟩;exact absurd e (j xs)
  ·have e1:=xL h' h1 h2;have:i=kd':=by
    cases d with
    |zero=>cases a
    | succ d =>
     unfold nD at a;rw[hu']at a;have o:=(eK hu').1;rw[hg]at o;cases kd'<;>simp[pg]at o<;>simp only[aa]at a<;>split at a<;>first| (cases a;done)| (injection a with a;injection a with a;exact a.symm)
   subst this;cases h1<;>try (cases h';done)
   all_goals cases h2<;>try (cases h';done)
   ·cases i<;>simp[g_]at f;simp[Instr.sameNow];simpa [eqV] using e1
   ·cases i<;>simp[g_]at f c;subst f;subst c;simp[Instr.sameNow];simpa [eqV] using e1
   ·cases i<;>simp[g_]at f;simp[Instr.sameNow];simpa [eqV] using e1
end
section
variable {m:T->AV}{t:T}{z:AV}{et:TypeId}{vk:Value}
section
variable {C:Cfg}{A:Nat->Nat->Prop}{bd:Nat}{w w':World}{γ γ':Gm}{hg:Nat->AObj}{nx:Nat}
theorem IA(s1 s2:ByteArray):(s1 == s2)=decide (s1=s2):=by obtain⟨⟨x⟩⟩:=s1;obtain⟨⟨y⟩⟩:=s2;show ((⟨x⟩:Array UInt8) == ⟨y⟩)=_;rw[U7];simp
theorem Kl:∀{ds:List TypeDesc} {xs ys:List Value},aQ ds xs=true->aQ ds ys=true->nV xs ys=true->xs=ys:=by
 intro ds
 induction ds with
 |nil=>intro xs ys h1 h2 _;rw[UJ (aY h1),UJ (aY h2)]
 | cons d ds ih =>
  intro xs ys h1 h2 h;cases xs with
  |nil=>cases h1
  | cons x xs=>cases ys with
   |nil=>cases h2
   | cons y ys =>
    simp only[aQ,nV,Uk]at h1 h2 h;rw[ih h1.2 h2.2 h.2];congr 1;cases d<;>cases x<;>simp[g_]at h1<;>cases y<;>simp[g_]at h2<;>simp[eqV,IA]at h<;>simp_all
theorem Cb{ds:List TypeDesc}(hk:aQ ds v.cells.toList=true):Instr.sameBits 10000 v v=true:=by
 have one:∀(d:TypeDesc) (x:Value),g_ d x=true->∀n,Instr.sameBits n x x=true:=by intro d x h n;cases d<;>cases x<;>simp[g_]at h<;>cases n<;>simp[Instr.sameBits,IA]
 have all:∀(ds:List TypeDesc) (xs:List Value),aQ ds xs=true->((xs.zip xs).all λ(x,y)=>Instr.sameBits 9999 x y)=true:=by
  intro ds
  induction ds with
  |nil=>intro xs h;rw[UJ (aY h)];rfl
  | cons d ds ih =>
   intro xs h;cases xs with
   |nil=>rfl
   | cons x xs =>
    simp only[aQ,Uk]at h;simp only[Wk,List.all_cons,Uk];exact⟨one d x h.1 _,ih xs h.2⟩
 by_cases h:∃a,v=.agg a
 ·obtain⟨a,rfl⟩:=h;have:=all ds a.toList hk;show (Instr.sameBits (9999+1) (.agg a) (.agg a))=true;simp only[Instr.sameBits,beq_self_eq_true,Vd];exact this
 ·have hc:v.cells.toList=[v]:=by cases v<;>first|rfl|exact absurd ⟨_,rfl⟩ h
  rw[hc]at hk;cases ds with
  |nil=>cases hk
  |cons d ds=>simp only[aQ,Uk]at hk;exact one d v hk.1 _
theorem AQ{k':AV}{v':Value}(hk:BE C.P kt k v)(h:jP k k'=some true)(h1:RV w γ A bd k v)(h2:RV w γ A bd k' v'):v'=v:=by
 obtain⟨i,h4,_⟩:=AP (w:=w) hk h h1 h2;obtain⟨d,ds,e1,j,a,e,l⟩:=hk;obtain⟨d',ds',f1,f2,m,f,n⟩:=i;have hc:dY k.cells k'.cells=some true:=by
  cases k<;>try (cases h;done)
  all_goals cases k'<;>try (cases h;done)
  all_goals first|exact h| (simp only[jP]at h;simp[AV.cells,dY,h])
 have t1:k.isTup=false:=by
  cases k<;>try rfl
  cases k'<;>cases h
 have t2:k'.isTup=false:=by
  cases k<;>try (cases h;done)
  all_goals cases k'<;>first|rfl| (cases h;done)
 have b:=(pN h1 t1).1;have c:=(pN h2 t2).1;rw[e,f,Kl a (uN hc b c a) (vE hc b c)]
theorem qg{ds:List TypeDesc}(hk:aQ ds v.cells.toList=true):(Instr.keyThatStays v v).run P w=.ok v w:=by unfold Instr.keyThatStays;rw[Cb hk];rfl
def EsRel(w:World)(γ:Gm)(A:Nat->Nat->Prop)(bd:Nat)(es:List (AV×AV))(l:List MapEntry):Prop :=
 es.length=l.length/\∀(i:Nat) k x e,es[i]?=some (k,x)->l[i]?=some e->RV w γ A bd k e.key/\RV w γ A bd x e.val
theorem EsRel.tail{p:AV×AV}{es:List (AV×AV)}{e:MapEntry}{l:List MapEntry}(h:EsRel w γ A bd (p::es) (e::l)) :
  RV w γ A bd p.1 e.key/\RV w γ A bd p.2 e.val/\EsRel w γ A bd es l:=by
 obtain⟨h1,h2⟩:=h.2 0 p.1 p.2 e rfl rfl;exact⟨h1,h2,by have:=h.1;simpa using this,λi k x e hi he=>h.2 (i+1) k x e (by simpa using hi) (by simpa using he)⟩
def Ch(k:AV)(es:List (AV×AV))(l:List MapEntry)(i0:Nat)(r:Option (Nat×AV))(R:Option (Nat×Value)):Prop :=
 match r with
 |none=>R=none
 |some (i,x)=>∃j k' e,i=i0+j/\es[j]?=some (k',x)/\l[j]?=some e/\jP k k'=some true/\R=some (i,e.val)
theorem Mp{kd:TypeDesc}(hu:C.P.underlying kt=some kd)(hk:BE C.P kt k v)(h1:RV w γ A bd k v) :
  ∀(es:List (AV×AV)) (l:List MapEntry) (i:Nat) (r:Option (Nat×AV)),gv k i es=some r->EsRel w γ A bd es l ->
   ∃R,Ch k es l i r R/\(Instr.findAsking kt v l i).run C.P w=.ok R w/\(eJ C.P kt=false->Instr.findNow kd v l i=some R):=by
 intro es
 induction es with
 | nil =>
  intro l i r h a;have:=a.1;have:l=[]:=UJ (by simpa using this.symm);subst this;simp only[gv]at h;injection h with h;subst h;exact⟨none,rfl,rfl,λ_=>rfl⟩
 | cons p es ih =>
  intro l i r h a;cases l with
  |nil=>have:=a.1;simp at this
  | cons e l =>
   obtain⟨k',x⟩:=p;obtain⟨e1,q,c⟩:=a.tail;simp only[gv]at h
   split at h
   ·rename_i hq;injection h with h;subst h;obtain⟨_,q2,q3⟩:=AP hk hq h1 e1;refine⟨some (i,e.val),⟨0,k',e,rfl,rfl,rfl,hq,rfl⟩,?_,λhg=>?_⟩
    ·unfold Instr.findAsking;simp[q2]
    ·unfold Instr.findNow;rw[q3 hg kd hu]
   ·rename_i hq;obtain⟨_,q2,q3⟩:=AP hk hq h1 e1;obtain⟨R,b,n,o⟩:=ih l (i+1) r h c;refine⟨R,?_,?_,λhg=>?_⟩
    ·unfold Ch at b ⊢;cases r with
     |none=>exact b
     | some p =>
      obtain⟨j,k'',e',f1,f2,d,f,m⟩:=b;exact⟨j+1,k'',e',by omega,by simpa using f2,by simpa using d,f,m⟩
    ·unfold Instr.findAsking;simp[q2,n]
    ·unfold Instr.findNow;rw[q3 hg kd hu];exact o hg
   ·cases h
theorem tx{kd:TypeDesc}(hu:C.P.underlying kt=some kd)(hk:BE C.P kt k v)(h1:RV w γ A bd k v)
  {es:List (AV×AV)} {l:List MapEntry} {r:Option (Nat×AV)} (h:gv k 0 es=some r) (hes:EsRel w γ A bd es l) :
  ∃R,Ch k es l 0 r R/\(Instr.findKey kt v l).run C.P w=.ok R w:=by
 obtain⟨R,b,a,c⟩:=Mp hu hk h1 es l 0 r h hes;refine⟨R,b,?_⟩;unfold Instr.findKey;simp only[Ut,aC hu,Uq];cases hg:eJ C.P kt with
 |false=>rw[c hg];rfl
 | true =>
  cases l with
  |nil=>simp only[Instr.findNow];exact a
  | cons e l =>
   have:Instr.sameNow kd v e.key=none:=by have:=(eK hu).1;rw[hg]at this;cases kd<;>simp[pg]at this<;>rfl
   simp only[Instr.findNow,this];exact a
theorem Mo(k:AV):∀(es:List (AV×AV)) (i:Nat) (r:Option AV),jO k es=some r->∃q,gv k i es=some q/\r=q.map (·.2):=by
 intro es
 induction es with
 |nil=>intro i r h;simp only[jO]at h;injection h with h;subst h;exact⟨none,rfl,rfl⟩
 | cons p es ih =>
  intro i r h;obtain⟨k',x⟩:=p;simp only[jO]at h;simp only[gv]
  split at h
  ·rename_i hq;injection h with h;subst h;exact⟨some (i,x),rfl,rfl⟩
  ·exact ih _ _ h
  ·cases h
theorem PP(k x:AV):∀(es es':List (AV×AV)) (i:Nat),Gz k x es=some es'->∃q,gv k i es=some q /\
  match q with
  |none=>es'=es++[(k,x)]
  |some (n,_)=>∃j,n=i+j/\es'=es.set j (k,x):=by
 intro es
 induction es with
 |nil=>intro es' i h;simp only[Gz]at h;injection h with h;subst h;exact⟨none,rfl,rfl⟩
 | cons p es ih =>
  intro es' i h;obtain⟨k',y⟩:=p;simp only[Gz]at h;simp only[gv]
  split at h
  ·rename_i hq;injection h with h;subst h;exact⟨some (i,y),rfl,0,rfl,rfl⟩
  ·rename_i hq
   split at h
   ·rename_i r hr;injection h with h;subst h;obtain⟨q,q1,q2⟩:=ih r (i+1) hr;refine⟨q,q1,?_⟩;cases q with
    |none=>simp only at q2 ⊢;rw[q2];rfl
    | some p =>
     obtain⟨j,b,a⟩:=q2;exact⟨j+1,by omega,by rw[a];rfl⟩
   ·cases h
  ·cases h
theorem Dl{t:TypeId}(h:rR C.P t=some z):∃v,(zeroValue t).run C.P w=.ok v w/\RV w γ A bd z v:=by
 unfold rR at h;cases hi:C.P.info? t with
 |none=>rw[hi]at h;cases h
 | some i =>
  rw[hi]at h;cases hz:i.zero with
  |none=>simp[hz]at h
  | some v =>
   simp only[VX,hz]at h;refine⟨v,by simp[zeroValue,lI hi,hz],?_⟩
   split at h
   ·rename_i cs;cases hq:y7 cs.toList with
    |none=>rw[hq]at h;cases h
    | some as =>
     rw[hq]at h;injection h with h;subst h;obtain⟨k,a⟩:=ox (w:=w) (γ:=γ) (A:=A) (bd:=bd) hq;exact .agg _ as cs (by simpa using k.1) a λi x v hx hv=>k.2 i x v hx (by simpa using hv)
   ·exact (HL h).1
theorem AZ(hr:Rel C A bd w γ hg nx){id:Nat}{es:List (AV×AV)}(hid:hg id=.map es) :
  (γ id).kind=2/\(γ id).wr=true/\∃esC:Array MapEntry,w.heap[(γ id).blk]?=some (.map esC esC.size)/\EsRel w γ A bd es esC.toList/\∀(i:Nat) e,esC[i]?=some e->e.born=i:=by
 have h:=hr.obj id;rw[hid]at h;obtain⟨c,k2,esC,d,a,b⟩:=h;refine⟨c,k2,esC,d,⟨by simpa using a,λi k x e hi he=>(b i k x e hi (by simpa using he)).2⟩,λi e he=>?_⟩;have hlt:i<es.length:=by rw[a];exact (Vf.1 he).1
 exact (b i (es[i]).1 (es[i]).2 e (by simp[hlt]) he).1
theorem HA{ok:Bool}{k:T->AV}(hr:Rel C A bd w γ hg nx)
  (hu:C.P.underlying ty=some (.map kt et)) (hz:rR C.P et=some z) (hm:RV w γ A bd (m t) vm) (hk:RV w γ A bd (k t) vk) (agree:∀id∈af (m t),hg id=g.h.get id) :
  ValSim C A bd w γ (Instr.lookup ty vm vk ok) (cz (ck C.P kt) z ok m k t g):=by
 unfold cz;generalize m t=m at *;generalize k t=k at *;rw[aa]
 split
 ·rename_i F;have s:=Hy F hk;obtain⟨kd,E⟩:∃kd,C.P.underlying kt=some kd:=by obtain⟨d,ds,_,o,_⟩:=s;obtain⟨kd,h,_⟩:=ir o;exact⟨kd,h⟩
  obtain⟨zv,z1,z2⟩:=Dl (w:=w) (γ:=γ) (A:=A) (bd:=bd) hz;have core:∀(es:List (AV×AV)) (l:Array MapEntry),EsRel w γ A bd es l.toList ->
    (vm=.map none/\l=#[]\/∃r n,vm=.map (some r)/\(getObj r).run C.P w=.ok (.map l n) w) ->
    ValSim C A bd w γ (Instr.lookup ty vm vk ok) (match jO k es with
     |some (some v)=>.val (ak ok (.tup [v,.bool true]) v)
     |some none=>.val (ak ok (.tup [z,.bool false]) z)
     |none=>.fail):=by
   intro es l D c;cases hf:jO k es with
   |none=>trivial
   | some r =>
    obtain⟨q,q1,q2⟩:=Mo k es 0 r hf;obtain⟨R,J,K⟩:=tx E s hk q1 D;have B:∀em,(Instr.checkKey em 10000 kt vk).run C.P w=.ok () w:=by intro em;obtain⟨d,ds,hd,o,H,I,_⟩:=s;have:=Aw (P:=C.P) em (10000 - d) d kt ds o w _ H;rw[show 10000 - d+d=10000 from by omega,<-I]at this;exact this
    have tup:∀(x:AV) (u:Value) (b:Bool),RV w γ A bd x u->RV w γ A bd (ak ok (.tup [x,.bool b]) x) (if ok then .tuple #[u,.bool b] else u):=by
     intro x u b hx;cases ok
     ·exact hx
     ·refine .tup _ _ _ rfl λi y v hy hv=>?_
      match i with
      |0=>simp at hy hv;subst hy;subst hv;exact hx
      |1=>simp at hy hv;subst hy;subst hv;exact .bool _ _
      |i+2=>simp at hy
    have a:(Instr.lookup ty vm vk ok).run C.P w =
      ((do let (v,okk) <-match R with
            |some (_,v)=>pure (v,true)
            |none=>pure (<-zeroValue et,false)
           pure (if ok then .tuple #[v,.bool okk] else v):Sem Value)).run C.P w:=by
     unfold Instr.lookup;simp only[Ut,aC hu,Uq];rcases c with⟨rfl,rfl⟩|⟨r',n,rfl,c⟩
     ·simp only[Ut,UN,Uq,B,K]
      try (cases R<;>rfl)
     ·simp only[Ut,UN,Uq,c,B,K]
      try (cases R<;>rfl)
    cases q with
    | none =>
     simp only[Ch]at J;subst J;simp only[Option.map_none]at q2;subst q2;exact⟨_,by rw[a];simp[z1],tup z zv false z2⟩
    | some p =>
     obtain⟨i,x⟩:=p;obtain⟨j,k',e,f1,f2,L,Q,M⟩:=J;subst M;simp only[VK]at q2;subst q2;exact⟨_,by rw[a];simp,tup x e.val true (D.2 j k' x e f2 L).2⟩
  cases hm with
  |nilm=>exact core [] #[] ⟨rfl,λi k x e h=>by simp at h⟩ (.inl ⟨rfl,rfl⟩)
  | hmap _ id b hkd hb =>
   have f:=agree id (by simp[af]);simp only[G.get_eq,<-f];cases hid:hg id with
   | map es =>
    obtain⟨S,k2,esC,N,O,U⟩:=AZ hr hid;subst hb;exact core es esC O (.inr ⟨_,_,rfl,ge N (by simp)⟩)
   |_=>trivial
  |_=>trivial
 ·trivial
theorem sD(h:BE C.P kt k v)(em:Bool):(Instr.checkKey em 10000 kt v).run C.P w=.ok () w:=by obtain⟨d,ds,hd,a,b,c,_⟩:=h;have:=Aw (P:=C.P) em (10000 - d) d kt ds a w _ b;rw[show 10000 - d+d=10000 from by omega,<-c]at this;exact this
theorem I_(h:BE C.P kt k v):∃kd,C.P.underlying kt=some kd:=by obtain⟨d,ds,_,a,_⟩:=h;obtain⟨kd,h,_⟩:=ir a;exact⟨kd,h⟩
theorem Rel.setMap(hr:Rel C A bd w γ hg nx){id:Nat}{es es':List (AV×AV)}{esC':Array MapEntry}(hid:hg id=.map es)(hl:es'.length=esC'.size)
  (he:∀(i:Nat) k x e,es'[i]?=some (k,x)->esC'[i]?=some e->e.born=i/\RV w γ A bd k e.key/\RV w γ A bd x e.val) :
  Rel C A bd (World.setBlk w (γ id).blk (.map esC' esC'.size)) γ (upd hg id (.map es')) nx/\Stp w γ (World.setBlk w (γ id).blk (.map esC' esC'.size)) γ:=by
 obtain⟨h,k2,_⟩:=AZ hr hid;have hk:(γ id).kind≠0:=by rw[h];decide
 have s:=uw (w:=w) (o:=.map esC' esC'.size) hk k2;refine hr.setBlk hk k2 ⟨h,k2,esC',?_,hl,λi k x e h1 h2=>?_⟩
 ·rw[aX,Un ⟨rfl,(hr.lt id hk).2⟩]
 ·obtain⟨a,b,c⟩:=he i k x e h1 h2;exact⟨a,b.step s,c.step s⟩
theorem u0{k x:T->AV}{vx:Value}(hr:Rel C A bd w γ hg nx)
  (hu:C.P.underlying ty=some (.map kt et)) (hm:RV w γ A bd (m t) vm) (hk:RV w γ A bd (k t) vk) (hx:RV w γ A bd (x t) vx) (agree:∀id∈af (m t),hg id=g.h.get id) :
  dx C A bd w γ hg nx (do Instr.mapUpdate ty vm vk vx;pure undef) g (dq (ck C.P kt) m k x t g):=by
 unfold dq;generalize m t=m at *;generalize k t=k at *;generalize x t=x at *;rw[aa]
 split
 ·rename_i z;have c:=Hy z hk;obtain⟨kd,u⟩:=I_ c;cases hm with
  | hmap _ id b hkd hb =>
   have l:=agree id (by simp[af]);simp only[G.get_eq,<-l];cases hid:hg id with
   | map es =>
    dsimp only;cases hs:Gz k x es with
    |none=>trivial
    | some es' =>
     dsimp only;obtain⟨N,k2,esC,D,v,E⟩:=AZ hr hid;obtain⟨q,q1,q2⟩:=PP k x es es' 0 hs;obtain⟨R,F,L⟩:=tx u c hk q1 v;subst hb;have o:∀esC',(match R with
       | some (i,_)=>do
        let key <-Instr.keyThatStays (((esC[i]?).map (·.key)).getD vk) vk
        setObj (γ id).blk (.map (esC.modify i λe=>{ e with key,val:=vx }) esC.size)
       |none=>setObj (γ id).blk (.map (esC.push { key:=vk,val:=vx,born:=esC.size }) (esC.size+1)):Sem Unit).run C.P w=.ok () (World.setBlk w (γ id).blk (.map esC' esC'.size)) ->
       (do Instr.mapUpdate ty (.map (some (γ id).blk)) vk vx;pure undef:Sem Value).run C.P w=.ok undef (World.setBlk w (γ id).blk (.map esC' esC'.size)):=by
      intro esC' h;have:(Instr.mapUpdate ty (.map (some (γ id).blk)) vk vx).run C.P w=.ok () (World.setBlk w (γ id).blk (.map esC' esC'.size)):=by unfold Instr.mapUpdate;simp only[Ut,aC hu,Uq,ge D (by simp),sD c,L];exact h
      simp[this]
     have f:es.length=esC.size:=by simpa using v.1
     cases q with
     | none =>
      simp only[Ch]at F;subst F;simp only at q2;subst q2;have a:=hr.setMap (es':=es++[(k,x)]) (esC':=esC.push { key:=vk,val:=vx,born:=esC.size }) hid (by simp[f]) (λi k' x' e h1 h2=>by
       rw[WM]at h2;rw[Wo]at h1
       split at h2
       ·rename_i hi;subst hi;rw[Um (by omega),f,Ve]at h1;simp at h1 h2;obtain⟨rfl,rfl⟩:=h1;subst h2;exact⟨rfl,hk,hx⟩
       ·have hlt:i<esC.size:=(Vf.1 h2).1;rw[Un (by omega)]at h1;exact⟨E i e h2,v.2 i k' x' e h1 (by simpa using h2)⟩)
      refine⟨undef,_,γ,id,_,o _ ?_,cU,a.2,.inl ⟨rfl,a.1⟩⟩;simp only[Array.size_push];exact iy D (by simp)
     | some p =>
      obtain⟨n,y⟩:=p;obtain⟨j,k',e,f1,f2,H,I,J⟩:=F;obtain⟨j',M,K⟩:=q2;have:j'=j:=by omega
      subst this;subst f1;subst J;subst K;have r:esC[j']?=some e:=by simpa using H
      have s:=AQ c I hk (v.2 j' k' y e f2 H).1;have a:=hr.setMap (es':=es.set j' (k,x)) (esC':=esC.modify (0+j') λe=>{ e with key:=vk,val:=vx }) hid (by simp[f]) (λi k' x' e' h1 h2=>by
       rw[UU]at h2;rw[V1]at h1;rw[Wj]at h2
       split at h1
       ·rename_i hi;subst hi;rw[Un rfl,r]at h2
        split at h1
        ·simp at h1 h2;obtain⟨rfl,rfl⟩:=h1;subst h2;exact⟨E j' e r,hk,hx⟩
        ·cases h1
       ·rename_i hi;rw[Um hi]at h2;exact⟨E i e' h2,v.2 i k' x' e' h1 (by simpa using h2)⟩)
      refine⟨undef,_,γ,id,_,o _ ?_,cU,a.2,.inl ⟨rfl,a.1⟩⟩;obtain⟨d,ds,_,_,B,_⟩:=c;simp only[UU,r,VK,Us,s,Ut,qg B,Uq,Array.size_modify];exact iy D (by simp)
   |_=>trivial
  |_=>trivial
 ·trivial
theorem Ed{k:T->AV}(hr:Rel C A bd w γ hg nx)
  (hu:C.P.underlying ty=some (.map kt et)) (hz:rR C.P et=some z) (hm:RV w γ A bd (m t) vm) (hk:RV w γ A bd (k t) vk) (agree:∀id∈af (m t),hg id=g.h.get id) :
  dx C A bd w γ hg nx (Instr.mapEntry ty vm vk) g (dh (ck C.P kt) z m k t g):=by
 unfold dh;generalize m t=m at *;generalize k t=k at *;rw[aa]
 split
 ·rename_i J;have a:=Hy J hk;obtain⟨kd,F⟩:=I_ a;obtain⟨zv,z1,z2⟩:=Dl (w:=w) (γ:=γ) (A:=A) (bd:=bd) hz;have tup:∀{w:World} {γ:Gm} (x:AV) (u:Value) (n:Nat),RV w γ A bd x u->RV w γ A bd (.tup [x,.int .i64 (.ofNat n)]) (.tuple #[u,goInt (n:Int)]):=by
   intro w γ x u n hx;refine .tup _ _ _ rfl λi y v hy hv=>?_
   match i with
   |0=>simp at hy hv;subst hy;subst hv;exact hx
   |1=>simp at hy hv;subst hy;subst hv;exact .int _ _ _
   |i+2=>simp at hy
  cases hm with
  | hmap _ id b hkd hb =>
   have o:=agree id (by simp[af]);simp only[G.get_eq,<-o];cases hid:hg id with
   | map es =>
    dsimp only;cases q1:gv k 0 es with
    |none=>trivial
    | some q =>
     obtain⟨S,k2,esC,s,H,M⟩:=AZ hr hid;obtain⟨R,L,N⟩:=tx F a hk q1 H;subst hb;have c:es.length=esC.size:=by simpa using H.1
     cases q with
     | none =>
      simp only[Ch]at L;subst L;dsimp only;have f:=hr.setMap (es':=es++[(k,z)]) (esC':=esC.push { key:=vk,val:=zv,born:=esC.size }) hid (by simp[c]) (λi k' x' e h1 h2=>by
       rw[WM]at h2;rw[Wo]at h1
       split at h2
       ·rename_i hi;subst hi;rw[Um (by omega),c,Ve]at h1;simp at h1 h2;obtain⟨rfl,rfl⟩:=h1;subst h2;exact⟨rfl,hk,z2⟩
       ·have hlt:i<esC.size:=(Vf.1 h2).1;rw[Un (by omega)]at h1;exact⟨M i e h2,H.2 i k' x' e h1 (by simpa using h2)⟩)
      refine⟨.tuple #[zv,goInt esC.size],_,γ,id,_,?_,?_,f.2,.inl ⟨rfl,f.1⟩⟩
      ·unfold Instr.mapEntry;simp only[Ut,aC hu,Uq,ge s (by simp),sD a,N,z1];have:(setObj (γ id).blk (.map (esC.push { key:=vk,val:=zv,born:=esC.size }) (esC.size+1))).run C.P w=.ok () (World.setBlk w (γ id).blk (.map (esC.push { key:=vk,val:=zv,born:=esC.size }) (esC.size+1))):=iy s (by simp);simp[this]
      ·rw[aq,c];exact tup _ _ _ (z2.step f.2)
     | some p =>
      obtain⟨n,y⟩:=p;obtain⟨j,k',e,f1,f2,I,O,Q⟩:=L;subst f1;subst Q;dsimp only;have r:esC[j]?=some e:=by simpa using I
      have l:=AQ a O hk (H.2 j k' y e f2 I).1;have D:(esC.modify j λe=>{ e with key:=vk })=esC:=by
       apply Wx;intro i;rw[Wj]
       split
       ·rename_i hi;subst hi;rw[r,<-l];rfl
       ·rfl
      have B:=a;obtain⟨d,ds,_,_,K,_⟩:=B;refine⟨.tuple #[e.val,goInt j],?_,?_⟩
      ·unfold Instr.mapEntry;simp only[Ut,aC hu,Uq,ge s (by simp),sD a,N,UU,r,VK,Us,l,qg K,D,M j e r];have E:(setObj (γ id).blk (.map esC esC.size)).run C.P w=.ok () w:=by
        rw[iy s (by simp)];congr 1;have hlt:(γ id).blk<w.heap.size:=(Vf.1 s).1;unfold World.setBlk;congr 1;apply Wx;intro q;rw[VJ]
        split
        ·rename_i hq;subst hq;rw[s]
        ·rfl
       simp[E]
      ·rw[UU];exact tup _ _ _ (H.2 j k' y e f2 I).2
   |_=>trivial
  |_=>trivial
 ·trivial
theorem Ai{st x:T->AV}{vs vx:Value}(hr:Rel C A bd w γ hg nx)
  (hm:RV w γ A bd (m t) vm) (hs:RV w γ A bd (st t) vs) (hx:RV w γ A bd (x t) vx) (agree:∀id∈af (m t),hg id=g.h.get id) :
  dx C A bd w γ hg nx (do Instr.entryStore ty vm vs vx;pure undef) g (da m st x t g):=by
 unfold da;generalize m t=m at *;generalize st t=st at *;generalize x t=x at *;cases hm with
 | hmap _ id b hkd hb =>
  have a:=agree id (by simp[af]);simp only[G.get_eq,<-a];cases hid:hg id with
  | map es =>
   dsimp only;cases hs with
   | int _ kk n =>
    cases n with
    |negSucc n=>trivial
    | ofNat i =>
     simp only[dO];cases hi:es[i]? with
     |none=>trivial
     | some p =>
      obtain⟨k,y⟩:=p;dsimp only;obtain⟨v,k2,esC,u,s,q⟩:=AZ hr hid;subst hb;have c:es.length=esC.size:=by simpa using s.1
      have hlt:i<esC.size:=by rw[<-c];exact (Uh.1 hi).1
      have f:esC.findIdx? (λe=>(e.born:Int) == (Int.ofNat i))=some i:=by
       rw[Array.findIdx?_eq_some_iff_getElem];refine⟨hlt,?_,λj hj=>?_⟩
       ·rw[q i esC[i] (Uv hlt)];simp
       ·have r:j<esC.size:=by omega
        rw[q j esC[j] (Uv r)];simp;omega
      have d:=hr.setMap (es':=Ce i (k,x) es) (esC':=esC.modify i λe=>{ e with val:=vx }) hid (by simp[il,c]) (λi' k' x' e' h1 h2=>by
       rw[il,V1]at h1;rw[Wj]at h2
       split at h1
       ·rename_i l;subst l;rw[Un rfl,Uv hlt]at h2
        split at h1
        ·simp at h1 h2;obtain⟨rfl,rfl⟩:=h1;subst h2;exact⟨q i esC[i] (Uv hlt),(s.2 i k y esC[i] hi (by simp[hlt])).1,hx⟩
        ·cases h1
       ·rename_i l;rw[Um l]at h2;exact⟨q i' e' h2,s.2 i' k' x' e' h1 (by simpa using h2)⟩)
      refine⟨undef,_,γ,id,_,?_,cU,d.2,.inl ⟨rfl,d.1⟩⟩;have o:=iy (P:=C.P) (o':=.map (esC.modify i λe=>{ e with val:=vx }) esC.size) u (by simp);have:(Instr.entryStore ty (.map (some (γ id).blk)) (.int kk (Int.ofNat i)) vx).run C.P w=.ok () (World.setBlk w (γ id).blk (.map (esC.modify i λe=>{ e with val:=vx }) esC.size)):=by unfold Instr.entryStore;simp only[Ut,Uq,ge u (by simp),asInt,asIntOf,UN,f,o]
      simp only[Array.size_modify,Ut,this,Uq,UN]
   |_=>trivial
  |_=>trivial
 |_=>trivial
end
end
section
variable {r:OR}
section
variable {C:Cfg}{A:Nat->Nat->Prop}{bd:Nat}{w w':World}{γ γ':Gm}{hg:Nat->AObj}{nx:Nat}
theorem OpSim.ofUpd{o:Oper}{ev:Operand->Value}{g:G}{m:Sem Value}(he:execOp ev o=(do pure (.value (<-m))))(h:dx C A bd w γ hg nx m g r) :
  OpSim C A bd w γ hg nx o ev g r:=by
 have run:∀{v:Value} {w':World},m.run C.P w=.ok v w'->EP C.P o ev w v w':=by intro v w' h;left;rw[he];simp[h]
 cases r with
 |fail=>trivial
 |val x=>obtain⟨v,h1,h2⟩:=h;exact⟨v,run h1,h2⟩
 |upd x g'=>obtain⟨v,w',γ',id,ob,h1,h2⟩:=h;exact⟨v,w',γ',id,ob,run h1,h2⟩
 |dfr a=>exact h
theorem OpSim.ofUnit{o:Oper}{ev:Operand->Value}{g:G}{s:Sem Unit}(he:execOp ev o=(do s;pure .skip))(h:dx C A bd w γ hg nx (do s;pure undef) g r) :
  OpSim C A bd w γ hg nx o ev g r:=by
 have run:∀{v:Value} {w':World},(do s;pure undef:Sem Value).run C.P w=.ok v w'->EP C.P o ev w v w':=by
  intro v w' h;right;rw[he];simp only[Ut,UN]at h ⊢;cases hs:s.run C.P w with
  |ok u w1=>rw[hs]at h;simp only[Uq]at h ⊢;injection h with h1 h2;subst h1;subst h2;exact⟨rfl,rfl⟩
  |halt x w1=>rw[hs]at h;cases h
 cases r with
 |fail=>trivial
 |val x=>obtain⟨v,h1,h2⟩:=h;exact⟨v,run h1,h2⟩
 |upd x g'=>obtain⟨v,w',γ',id,ob,h1,h2⟩:=h;exact⟨v,w',γ',id,ob,run h1,h2⟩
 |dfr a=>exact h
theorem ValSim.upd{m:Sem Value}{g:G}{r:OR}(h:ValSim C A bd w γ m r):dx C A bd w γ hg nx m g r:=by
 cases r with
 |fail=>trivial
 |val x=>exact h
 |upd x g'=>exact h.elim
 |dfr a=>exact h.elim
theorem OpSim.ofVal{o:Oper}{ev:Operand->Value}{g:G}{m:Sem Value}(he:execOp ev o=(do pure (.value (<-m))))(h:ValSim C A bd w γ m r) :
  OpSim C A bd w γ hg nx o ev g r:=.ofUpd he h.upd
theorem OpSim.now{o:Oper}{ev:Operand->Value}{g:G}(he:(execOp ev o).run C.P w=.ok (.value v) w)(h:RV w γ A bd x v) :
  OpSim C A bd w γ hg nx o ev g (.val x):=⟨v,.inl he,h⟩
noncomputable def bu(C:Cfg)(op:Op)(t:T)(g:G):List Nat:=((aH C op).run t g).rd++((aH C op).run t g).sr.map (·.1)
theorem P5{op:UnOp}(hx:RV w γ A bd x v):ValSim C A bd w γ (Op.unary op v) ((unA op).run x):=by
 cases op
 case not =>
  cases hx with
  |bool _ b=>exact⟨.bool (!b),by simp[Op.unary],by rw[notb_eq];exact .bool _ _⟩
  |_=>trivial
 all_goals
  cases hx with
  |int _ k n=>exact oy λy hy=>kA hy C.P w
  |_=>trivial
theorem HG{g:G}{P:Program}(hr:Rel C A bd w γ hg nx)(hf:(γ g.nx).kind=0) :
  dx C A bd w γ hg nx (do pure (.map (some (<-newObj (.map #[] 0))))) g (.upd (.hmap g.nx) (g.new (.map []))):=by
 let gh:Gh:=⟨2,0,0,0,w.heap.size,0,0,true⟩
 obtain⟨r,s⟩:=hr.add (id:=g.nx) (gh:=gh) (o:=.map #[] 0) (ao:=.map []) (nx':=Nat.max nx (g.nx+1)) hf rfl (Vv _ _) (UI (W8 _) (VW _ _)) (by
  simp only[ObjRel,upd_same];exact⟨rfl,rfl,#[],by rw[k_];simp[gh],rfl,λi k x e h=>by simp at h⟩)
 refine⟨.map (some w.heap.size),World.add w (.map #[] 0),_,g.nx,_,by simp[newObj,Sem.run,World.add],?_,s,.inr ⟨rfl,rfl,r⟩⟩;exact .hmap _ g.nx _ (by simp[gh]) (by simp[gh])
theorem HR:∀{fs:List Field} {places:List (Nat×Nat)},aD (λf:Field=>match szT C.P f.type with|some n=>some (f.offset,n)|none=>none) fs=some places ->
  (fs.mapM λf=>do pure (f.offset,<-Go.sizeOf f.type):Sem (List (Nat×Nat))).run C.P w=.ok places w:=by
 intro fs
 induction fs with
 |nil=>intro places h;simp only[aD]at h;injection h with h;subst h;simp
 | cons f fs ih =>
  intro places h;simp only[aD]at h
  split at h
  ·rename_i p hp
   split at h
   ·rename_i ps k;injection h with h;subst h
    split at hp
    ·rename_i n a;injection hp with hp;subst hp;rw[List.mapM_cons];have:=ih k;simp only[Ut,aZ a,Uq,UN,this]
    ·cases hp
   ·cases h
  ·cases h
variable {o:Oper}{op:Op}{a:Act}{nt:Nat}{t:T}{g:G}{f:Stg SFn}
theorem sF(he:me C.P ty=some e):C.P.underlying ty=some (.slice e):=by unfold me at he;split at he<;>first| (injection he with he;subst he;assumption)|cases he
theorem EZ{b:Builtin}{argTypes:Array TypeId}{args:List Operand}{consts:Array Bool}(h:dJ C b argTypes args=some f)(ht:TR w γ A bd nt t a.tmps)(hr:Rel C A bd w γ hg nx)
  (hf:(γ g.nx).kind=0) (agree:∀x∈args,∀s,aP C x=some s->∀id∈mA C b argTypes (s.run t),hg id=g.h.get id) :
  ∃m:Sem Value,builtin b argTypes ty consts (args.map a.eval).toArray=(do pure (.value (<-m)))/\dx C A bd w γ hg nx m g (f.run t g):=by
 unfold dJ at h
 split at h
 ·
  rename_i x
  split at h
  ·rename_i tt s h0 hs;injection h with h;subst h;exact⟨Builtin.len_ argTypes ty #[a.eval x],rfl,(Pg hr h0 (au hs ht hr) λhk id hid=>agree x (by simp) s hs id (by simpa only[mA,h0,hk] using hid)).upd⟩
  ·cases h
 ·
  rename_i p x
  split at h
  ·rename_i tt xt sa sx h0 h1 ha hx
   split at h
   ·rename_i e e' he j
    split at h
    ·rename_i sz bytes zero d i hz;rw[aa]at h
     split at h
     ·rename_i c;simp only[Uk,U_,aq]at c;injection h with h;subst h;exact⟨Builtin.append_ argTypes ty #[a.eval p,a.eval x],rfl,GU hr hf h0 h1 (sF he) j d i hz (aB c.1.1) c.2 (au ha ht hr) (au hx ht hr)
       (λid hid=>agree p (by simp) sa ha id hid) (λid hid=>agree x (by simp) sx hx id hid)⟩
     ·cases h
    ·cases h
   ·rename_i e k he j
    split at h
    ·rename_i sz bytes zero d i hz;rw[aa]at h
     split at h
     ·rename_i c;simp only[Uk,U_,aq]at c;injection h with h;subst h;exact⟨Builtin.append_ argTypes ty #[a.eval p,a.eval x],rfl,ET hr hf h0 h1 (sF he) j d i hz (aB c.1.1) c.1.2 c.2 (au ha ht hr) (au hx ht hr)
       (λid hid=>agree p (by simp) sa ha id hid)⟩
     ·cases h
    ·cases h
   ·cases h
  ·cases h
 ·
  rename_i p x
  split at h
  ·rename_i tt sa sx h0 ha hx
   split at h
   ·rename_i e he
    split at h
    ·rename_i sz d;injection h with h;subst h;exact⟨Builtin.copy_ argTypes ty #[a.eval p,a.eval x],rfl,L3 hr h0 (sF he) d (au ha ht hr) (au hx ht hr)
      (λid hid=>agree p (by simp) sa ha id hid) (λid hid=>agree x (by simp) sx hx id hid)⟩
    ·cases h
   ·cases h
  ·cases h
 ·
  rename_i x
  split at h
  ·rename_i tt s h0 hs
   split at h
   ·rename_i e he;injection h with h;subst h;exact⟨Builtin.cap_ argTypes ty #[a.eval x],rfl,(OS hr h0 (sF he) (au hs ht hr) λid hid=>agree x (by simp) s hs id hid).upd⟩
   ·cases h
  ·cases h
 ·
  rename_i x
  split at h
  ·rename_i tt s h0 hs
   split at h
   ·rename_i e he
    split at h
    ·rename_i sz zero d hz;rw[aa]at h
     split at h
     ·rename_i c;simp only[Uk,U_,aq]at c;injection h with h;subst h;exact⟨Builtin.clear_ argTypes ty #[a.eval x],rfl,J_ hr h0 (sF he) hz (aB c.1) c.2 (au hs ht hr) λid hid=>agree x (by simp) s hs id hid⟩
     ·cases h
    ·cases h
   ·cases h
  ·cases h
 ·
  rename_i x y
  split at h
  ·rename_i sx sy hx o;injection h with h;subst h;refine⟨Builtin.max_ argTypes ty #[a.eval x,a.eval y],rfl,?_⟩;have l:=au hx ht hr;have n:=au o ht hr;dsimp only;generalize sx.run t=u at l ⊢;generalize sy.run t=v at n ⊢;cases u<;>try trivial
   cases v<;>try trivial
   exact (Pm l n).upd
  ·cases h
 ·
  rename_i x y
  split at h
  ·rename_i sx sy hx o;injection h with h;subst h;refine⟨Builtin.min_ argTypes ty #[a.eval x,a.eval y],rfl,?_⟩;have l:=au hx ht hr;have n:=au o ht hr;dsimp only;generalize sx.run t=u at l ⊢;generalize sy.run t=v at n ⊢;cases u<;>try trivial
   cases v<;>try trivial
   exact (Pn l n).upd
  ·cases h
 ·cases h
theorem J7:∀{xs:List Operand} {vs:Stg (T->List AV)},bV C xs=some vs->∀x∈xs,∀s,aP C x=some s->s.run t∈vs.run t:=by
 intro xs
 induction xs with
 |nil=>intro vs _ x hx;cases hx
 | cons y ys ih =>
  intro vs h x hx s hs;simp only[bV]at h
  split at h
  ·rename_i p q hp hq;injection h with h;subst h;rcases UW.1 hx with rfl|hx
   ·rw[hp]at hs;injection hs with hs;subst hs;exact U9
   ·exact U6 _ (ih hq x hx s hs)
  ·cases h
theorem uK{b:Builtin}{argTypes:Array TypeId}{args:List Operand}(h:dJ C b argTypes args=some f):∃vs,bV C args=some vs:=by
 have one:∀{x:Operand} {s},aP C x=some s->∃vs,bV C [x]=some vs:=by intro x s hs;simp only[bV,hs];exact⟨_,rfl⟩
 have two:∀{x y:Operand} {s u},aP C x=some s->aP C y=some u->∃vs,bV C [x,y]=some vs:=by intro x y s u hs hu;simp only[bV,hs,hu];exact⟨_,rfl⟩
 unfold dJ at h
 split at h
 ·split at h
  ·exact one (by assumption)
  ·cases h
 ·split at h
  ·exact two (by assumption) (by assumption)
  ·cases h
 ·split at h
  ·exact two (by assumption) (by assumption)
  ·cases h
 ·split at h
  ·exact one (by assumption)
  ·cases h
 ·split at h
  ·exact one (by assumption)
  ·cases h
 ·split at h
  ·exact two (by assumption) (by assumption)
  ·cases h
 ·split at h
  ·exact two (by assumption) (by assumption)
  ·cases h
 ·cases h
theorem PZ(h:cm C op=some f)(ho:o.op=op)(ht:TR w γ A bd nt t a.tmps)(hr:Rel C A bd w γ hg nx)(hf:(γ g.nx).kind=0)
  (agree:∀id∈bu C op t g,hg id=g.h.get id):OpSim C A bd w γ hg nx o a.eval g (f.run t g):=by
 cases op<;>simp only[cm]at h<;>first| (cases h;done)|skip
 case move x =>
  split at h
  ·rename_i s hs;injection h with h;subst h;exact .now (by simp[execOp,ho]) (au hs ht hr)
  ·cases h
 case assign x =>
  split at h
  ·rename_i s hs;injection h with h;subst h;exact .now (by simp[execOp,ho]) (au hs ht hr)
  ·cases h
 case pick c x y =>
  split at h
  ·rename_i sc sx sy hc hx K;injection h with h;subst h;have B:=au hc ht hr;have L:=au hx ht hr;have Q:=au K ht hr;dsimp only;generalize sc.run t=cv at B ⊢;generalize hcv:a.eval c=vc at B;cases B with
   | bool _ b =>
    cases b
    ·exact .now (by simp[execOp,ho,hcv,asBool]) Q
    ·exact .now (by simp[execOp,ho,hcv,asBool]) L
   |_=>trivial
  ·cases h
 case alloc ty =>
  split at h
  ·rename_i cs hz;injection h with h;subst h;exact .ofUpd (by simp only[execOp,ho]) (J4 hr hz hf t)
  ·cases h
 case box ty x =>
  split at h
  ·rename_i s hs;injection h with h;subst h;have B:=au hs ht hr;unfold LJ;dsimp only;rw[aa]
   split
   ·trivial
   ·rename_i J;exact .ofUpd (m:=Instr.box ty (a.eval x)) (by simp only[execOp,ho]) (OM hr B hf (by simpa using J))
  ·cases h
 case load ty x =>
  split at h
  ·rename_i s ag n hs E G;injection h with h;subst h;exact .ofVal (by simp only[execOp,ho]) (F2 hr (au hs ht hr) E G λid hid=>agree id (by simp[bu,aH,am,hs,hid]))
  ·cases h
 case store ty x y =>
  split at h
  ·rename_i s u n hs hu G;injection h with h;subst h;exact .ofUnit (by simp only[execOp,ho]) (Ls hr (au hs ht hr) (au hu ht hr) G λid hid=>agree id (by simp[bu,aH,am,hs,hid]))
  ·cases h
 case binOp op ty x y p =>
  split at h
  ·rename_i s u hs hu;injection h with h;subst h;exact .ofVal (by simp only[execOp,ho]) (OL (xo:=x) (yo:=y) (au hs ht hr) (au hu ht hr))
  ·cases h
 case unOp op ty x =>
  split at h
  ·rename_i s hs;injection h with h;subst h;exact .ofVal (by simp only[execOp,ho]) (P5 (au hs ht hr))
  ·cases h
 case convert src dst x =>
  split at h
  ·rename_i s sd k hs I hk;injection h with h;subst h;have B:=au hs ht hr;dsimp only;generalize s.run t=cv at B ⊢;generalize hcv:a.eval x=vc at B;cases B with
   | int _ k' n =>
    refine .ofVal (m:=convert src dst (.int k' n)) (by simp only[execOp,ho,hcv]) ⟨.int k (k.wrap n),?_,by rw[ig];exact .int _ _ _⟩;unfold convert;simp only[Ut,aC I,aC hk,Uq,Conv.intToInt]
    try rfl
   |_=>trivial
  ·cases h
 case nilCheck x =>
  split at h
  ·rename_i s hs;injection h with h;subst h;have B:=au hs ht hr;dsimp only;generalize s.run t=cv at B ⊢;generalize hcv:a.eval x=vc at B;cases B with
   |tptr _ tag sz rows i0 off0 b o' cell h1 h2 h3 h4 h5 h6 h7 h8 h9=>exact .now (by simp[execOp,ho,hcv]) (.tptr _ tag sz rows i0 off0 b o' cell h1 h2 h3 h4 h5 h6 h7 h8 h9)
   |hptr _ id ep i off b o' h1 h2 h3=>exact .now (by simp[execOp,ho,hcv]) (.hptr _ id ep i off b o' h1 h2 h3)
   |clo _ f' xs ys vs us h1 h2 h3 h4=>exact .now (by simp[execOp,ho,hcv]) (.clo _ f' xs ys vs us h1 h2 h3 h4)
   |yld _ id b h1 h2=>exact .now (by simp[execOp,ho,hcv]) (.yld _ id b h1 h2)
   |_=>trivial
  ·cases h
 case makeInterface ty x =>
  split at h
  ·cases h
  ·rename_i s d O hs hu;injection h with h;subst h;refine .ofVal (m:=Instr.makeInterface ty (a.eval x)) (by simp only[execOp,ho]) ⟨.iface ty (a.eval x),?_,.ifc _ ty _ _ (au hs ht hr)⟩;unfold Instr.makeInterface;simp only[Ut,aC hu,Uq]
   try rfl
  ·cases h
 case makeSlice ty l c =>
  split at h
  ·rename_i e sl sc he hl hc
   split at h
   ·rename_i sz bytes zero q M hz;rw[aa]at h
    split at h
    ·rename_i j;simp only[Uk,U_,aq]at j;injection h with h;subst h;have hu:C.P.underlying ty=some (.slice e):=by unfold me at he;split at he<;>first| (injection he with he;subst he;assumption)|cases he
     exact .ofUpd (by simp only[execOp,ho]) (B9 hr hf hu q M hz (aB j.1) j.2 (au hl ht hr) (au hc ht hr))
    ·cases h
   ·cases h
  ·cases h
 case fieldAddr ty x fi =>
  split at h
  ·rename_i s fo ft hs F
   split at h
   ·rename_i n G;injection h with h;subst h;exact .ofVal (by simp only[execOp,ho]) (B4 (g:=g) (au hs ht hr) F G)
   ·cases h
  ·cases h
 case field ty x fi =>
  split at h
  ·rename_i s fo ft hs F
   split at h
   ·rename_i ag n E G;injection h with h;subst h;have B:=au hs ht hr;refine .ofVal (m:=Instr.field ty (a.eval x) fi) (by simp only[execOp,ho]) ?_;dsimp only;generalize s.run t=y at B ⊢;cases y<;>first|trivial|exact Ks B F E G
   ·cases h
  ·cases h
 case indexAddr ty x ix =>
  split at h
  ·rename_i s i hs hi
   split at h
   ·rename_i e hu
    split at h
    ·rename_i sz q;injection h with h;subst h;exact .ofVal (by simp only[execOp,ho]) (FP hr (au hs ht hr) (au hi ht hr) hu q λid hid=>agree id (by simp[bu,aH,am,hs,hu,hid]))
    ·cases h
   ·rename_i n e hu
    split at h
    ·rename_i sz q;injection h with h;subst h;exact .ofVal (by simp only[execOp,ho]) (FO (g:=g) (au hs ht hr) (au hi ht hr) hu q)
    ·cases h
   ·cases h
  ·cases h
 case index ty x ix =>
  split at h
  ·rename_i s i hs hi
   split at h
   ·rename_i n e hu
    split at h
    ·rename_i ag sz E q;injection h with h;subst h;exact .ofVal (by simp only[execOp,ho]) (KF (g:=g) (au hs ht hr) (au hi ht hr) hu E q)
    ·cases h
   ·rename_i hu;injection h with h;subst h;exact .ofVal (by simp only[execOp,ho]) (D8 (g:=g) (au hs ht hr) (au hi ht hr) hu)
   ·cases h
  ·cases h
 case lookup ty x k ok =>
  split at h
  ·rename_i m kk kt et hm hk hu
   split at h
   ·rename_i z hz;injection h with h;subst h;exact .ofVal (by simp only[execOp,ho]) (HA hr hu hz (au hm ht hr) (au hk ht hr) λid hid=>agree id (by cases ok<;>simp[bu,aH,am,hm,hid]))
   ·cases h
  ·cases h
 case mapUpdate ty m k x =>
  split at h
  ·rename_i sm sk sx kt et hm hk hx hu;injection h with h;subst h;exact .ofUnit (by simp only[execOp,ho]) (u0 hr hu (au hm ht hr) (au hk ht hr) (au hx ht hr) λid hid=>agree id (by simp[bu,aH,am,hm,hid]))
  ·cases h
 case insert ty m k x =>
  split at h
  ·rename_i sm sk sx kt et hm hk hx hu;injection h with h;subst h;exact .ofUnit (by simp only[execOp,ho]) (u0 hr hu (au hm ht hr) (au hk ht hr) (au hx ht hr) λid hid=>agree id (by simp[bu,aH,am,hm,hid]))
  ·cases h
 case mapEntry ty m k =>
  split at h
  ·rename_i sm sk kt et hm hk hu
   split at h
   ·rename_i z hz;injection h with h;subst h;exact .ofUpd (by simp only[execOp,ho]) (Ed hr hu hz (au hm ht hr) (au hk ht hr) λid hid=>agree id (by simp[bu,aH,hm,hid]))
   ·cases h
  ·cases h
 case entryStore ty m st x =>
  split at h
  ·rename_i sm ss sx hm hs hx;injection h with h;subst h;exact .ofUnit (s:=Instr.entryStore ty (a.eval m) (a.eval st) (a.eval x)) (by simp only[execOp,ho]) (Ai hr (au hm ht hr) (au hs ht hr) (au hx ht hr) λid hid=>agree id (by simp[bu,aH,am,hm,hid]))
  ·cases h
 case extract x i =>
  split at h
  ·rename_i s hs;injection h with h;subst h;have B:=au hs ht hr;refine .ofVal (m:=Instr.extract (a.eval x) i) (by simp only[execOp,ho]) ?_;dsimp only;generalize s.run t=cv at B ⊢;generalize a.eval x=vc at B;cases B with
   | tup _ xs vs hl hall =>
    simp only[dO];refine oy λy K=>?_;have hlt:i<vs.size:=by rw[<-hl];exact (Uh.1 K).1
    exact⟨vs[i],by simp[Instr.extract,hlt],hall i y _ K (by simp[hlt])⟩
   |_=>trivial
  ·cases h
 case makeMap ty r =>
  cases r with
  |some r=>cases h
  | none =>
   dsimp only at h
   split at h
   ·injection h with h;subst h;refine .ofUpd (m:=do pure (.map (some (<-newObj (.map #[] 0))))) ?_ (HG (P:=C.P) hr hf);simp only[execOp,ho,Instr.makeMap,Option.map_none]
    try rfl
   ·cases h
 case makeFunc fn fi ca =>
  cases fn with
  | func fx =>
   dsimp only at h
   split at h
   ·rename_i sa sc ha hc;injection h with h;subst h;have B:=ic ht hr ha;have L:=ic ht hr hc;refine .now (v:=.func (.func fx) (fi.map a.eval) (ca.map a.eval)) (by simp[execOp,ho,Instr.makeFunc]) (.clo _ fx _ _ _ _ (by simpa using B.1) (by simpa using L.1) (λi x v hx hv=>?_) (λi x v hx hv=>?_))
    ·exact B.2 i x v hx (by simpa using hv)
    ·exact L.2 i x v hx (by simpa using hv)
   ·cases h
  |_=>cases h
 case buildSlice ty len parts =>
  split at h
  ·rename_i e vs he D
   split at h
   ·rename_i sz zero q hz;rw[aa]at h
    split at h
    ·rename_i j;simp only[Uk,U_,UR,aq]at j;injection h with h;subst h;have hu:C.P.underlying ty=some (.slice e):=by unfold me at he;split at he<;>first| (injection he with he;subst he;assumption)|cases he
     exact .ofUpd (by simp only[execOp,ho]) (zL hr hf hu q hz (aB j.1.1) j.1.2 j.2 (ic ht hr D))
    ·cases h
   ·cases h
  ·cases h
 case build ty parts =>
  split at h
  ·rename_i zero vs hz D
   split at h
   ·rename_i fs hu
    split at h
    ·rename_i places N
     split at h
     ·rename_i pl hp;injection h with h;subst h;refine .ofVal (m:=Instr.build ty (parts.map λ(i,x)=>(i,a.eval x))) (by simp only[execOp,ho]) (Cp (g:=g) (place:=(places[·]?)) hz (ic ht hr D) hp λz cells hzv hfill=>?_);have h1:(fs.mapM λf=>do pure (f.offset,<-Go.sizeOf f.type):Sem (Array (Nat×Nat))).run C.P w=.ok places.toArray w:=by
       rw[Array.mapM_eq_mapM_toList];have:=HR (w:=w) N;simp only[Sem.run_map,this]
       rfl
      unfold Instr.build;simp only[Ut,hzv,aC hu,Uq,h1];have e:(λi:Nat=>places.toArray[i]?)=(λi:Nat=>places[i]?):=by funext i;simp
      rw[e,hfill]
      rfl
     ·cases h
    ·cases h
   ·rename_i n e hu
    split at h
    ·rename_i sz q;injection h with h;subst h;refine .ofVal (m:=Instr.build ty (parts.map λ(i,x)=>(i,a.eval x))) (by simp only[execOp,ho]) (Cp (g:=g) (place:=λi=>some (i*sz,sz)) hz (ic ht hr D) ?_ λz cells hzv hfill=>?_)
     ·generalize parts.toList.map (·.1)=is
      induction is with
      |nil=>rfl
      |cons i is ih=>simp only[aD,ih,VM]
     ·unfold Instr.build;simp only[Ut,hzv,aC hu,Uq,aZ q];rw[hfill]
      rfl
    ·cases h
   ·cases h
  ·cases h
 case slice ty x lo hi mx =>
  have optR:∀{y:Option Operand} {s:Stg (T->List AV)},bV C y.toList=some s->OVR w γ A bd (s.run t).head? (y.map a.eval):=by intro y s hs;have:=NE (ic ht hr hs);cases y<;>simpa using this
  cases mx with
  | none =>
   dsimp only at h
   split at h
   ·rename_i e sx sl sh hu hx hl H
    split at h
    ·rename_i sz q;injection h with h;subst h;refine .ofVal (m:=Instr.sliceAt ty (a.eval x) (lo.map a.eval) (hi.map a.eval) none) (by simp only[execOp,ho,Option.map_none]) ?_;exact Bl hr hu q (au hx ht hr) (optR hl) (optR H) trivial (λh=>absurd rfl h) λid hid=>agree id (by simp[bu,aH,am,hx,hid])
    ·cases h
   ·rename_i n e sx sl sh hu hx hl H
    split at h
    ·rename_i sz q;injection h with h;subst h;refine .ofUpd (m:=Instr.sliceAt ty (a.eval x) (lo.map a.eval) (hi.map a.eval) none) (by simp only[execOp,ho,Option.map_none]) ?_;exact Ez (lo:=λt=>(sl.run t).head?) (hi:=λt=>(sh.run t).head?) hr hu q (UC _) (au hx ht hr) (optR hl) (optR H) λid hid=>agree id (by simp[bu,aH,am,hx,hid])
    ·cases h
   ·cases h
  | some mx =>
   cases hi with
   |none=>cases h
   | some hi =>
    dsimp only at h
    split at h
    ·rename_i e sx sl sh sm he hx hl H hm
     split at h
     ·rename_i sz q;injection h with h;subst h;have hu:C.P.underlying ty=some (.slice e):=by unfold me at he;split at he<;>first| (injection he with he;subst he;assumption)|cases he
      refine .ofVal (m:=Instr.sliceAt ty (a.eval x) (lo.map a.eval) (some (a.eval hi)) (some (a.eval mx))) (by simp only[execOp,ho,VK]) ?_;exact Bl hr hu q (au hx ht hr) (optR hl) (au H ht hr) (au hm ht hr) (λ_ h=>by cases h) λid hid=>agree id (by simp[bu,aH,am,hx,hid])
     ·cases h
    ·cases h
 case call c =>
  obtain⟨callee,args,argTypes⟩:=c;cases callee<;>first| (cases h;done)|skip
  rename_i b;dsimp only at h;obtain⟨vs,D⟩:=uK h;obtain⟨m,h1,h2⟩:=EZ (ty:=o.type) (consts:=args.map fun|.const _=>true|_=>false) h ht hr hf λx hx s hs id hid=>agree id (by
   have:=J7 (t:=t) D x hx s hs;unfold bu aH;simp only[D,am,Vz,Ux,Wb];exact⟨_,this,hid⟩)
  refine .ofUpd (m:=m) ?_ h2;rw[<-h1];simp only[execOp,ho,resolve,invoke];have e:args.map a.eval=(args.toList.map a.eval).toArray:=by apply W0;simp
  rw[<-e]
  rfl
end
end
section
variable {g1 g2:G}
theorem fu{α β:Type}{f:α->Option β}:∀{l:List α} {r:List β},aD f l=some r->∀(i:Nat) y,r[i]?=some y->∃x,l[i]?=some x/\f x=some y:=by
 intro l
 induction l with
 |nil=>intro r h i y k;simp only[aD]at h;injection h with h;subst h;simp at k
 | cons a l ih =>
  intro r h i y k;simp only[aD]at h
  split at h
  ·rename_i b hb
   split at h
   ·rename_i bs c;injection h with h;subst h;cases i with
    |zero=>simp at k;subst k;exact⟨a,rfl,hb⟩
    |succ i=>simpa using ih c i y (by simpa using k)
   ·cases h
  ·cases h
theorem lG{α β:Type}{f:α->Option β}:∀{l:List α} {r:List β},aD f l=some r->r.length=l.length:=by
 intro l
 induction l with
 |nil=>intro r h;simp only[aD]at h;injection h with h;subst h;rfl
 | cons a l ih =>
  intro r h;simp only[aD]at h
  split at h
  ·split at h
   ·rename_i bs k;injection h with h;subst h;simp[ih k]
   ·cases h
  ·cases h
theorem GG{h:H}{tag:Nat}:∀{f:Nat} {x y:AV},snap h tag f x=some y->x.one=true->y.one=true:=by
 intro f x y hs hx;cases f with
 |zero=>cases hs
 | succ f =>
  cases x<;>simp only[snap]at hs<;>first| (cases hx;done)|skip
  all_goals first| (injection hs with hs;subst hs;rfl)|skip
  all_goals
   repeat (split at hs)
   all_goals first| (cases hs;done)| (injection hs with hs;subst hs;rfl)| (rw[aa]at hs;split at hs<;>first| (cases hs;done)| (injection hs with hs;subst hs;rfl))
def Ext(h:H)(hg:Nat->AObj):Prop:=∀id,h.get id≠.none->hg id=h.get id
section
variable {C:Cfg}{A A':Nat->Nat->Prop}{bd:Nat}{w w':World}{γ γ':Gm}{hg:Nat->AObj}{nx:Nat}
theorem lJ(h:RV w γ A bd x v):Closed x ->
  (∀t b,t<=bd->b<w.heap.size->¬A t b->¬Mut γ b->¬A' t b/\¬Mut γ' b)->RV w γ' A' bd x v:=by
 induction h with
 |bool=>intro _ _;exact .bool _ _
 |int=>intro _ _;exact .int _ _ _
 |str=>intro _ _;exact .str _ _
 | tup _ xs vs hl _ ih =>
  intro hc hs;cases hc with|tup _ hc=>exact .tup _ _ _ hl λi x v h1 h2=>ih i x v h1 h2 (hc x (Ul h1)) hs
 | agg _ xs vs hl h1 _ ih =>
  intro hc hs;cases hc with|agg _ hc=>exact .agg _ _ _ hl h1 λi x v h1 h2=>ih i x v h1 h2 (hc x (Ul h1)) hs
 |nilp=>intro _ _;exact .nilp _
 |nils=>intro _ _;exact .nils _
 |nilf=>intro _ _;exact .nilf _
 |nilm=>intro _ _;exact .nilm _
 |nili=>intro _ _;exact .nili _
 |esl=>intro _ _;exact .esl _ _
 | tsl _ tag sz rows b o cap cell ht hc hb hm ha hr ho hw h hcl ih =>
  intro _ hs;obtain⟨h1,h2⟩:=hs tag b ht hb ha hm;exact .tsl _ tag sz rows b o cap cell ht hc hb h2 h1 hr ho hw
   (λi j row x a c=>ih i j row x a c (hcl row (Ul a) x (Ul c)) λt b hle=>hs t b (Uy hle ht)) hcl
 |tnil _ tag sz a cap ht=>intro _ _;exact .tnil _ tag sz a cap ht
 | tptr _ tag sz rows i0 off0 b o cell ht hb hm ha hr ho hw h hcl ih =>
  intro _ hs;obtain⟨h1,h2⟩:=hs tag b ht hb ha hm;exact .tptr _ tag sz rows i0 off0 b o cell ht hb h2 h1 hr ho hw
   (λi j row x a c=>ih i j row x a c (hcl row (Ul a) x (Ul c)) λt b hle=>hs t b (Uy hle ht)) hcl
 |hsl=>intro hc;cases hc
 |hptr=>intro hc;cases hc
 | clo _ f xs ys vs us hl hl2 _ _ ih ih2 =>
  intro hc hs;cases hc with
  |clo _ _ _ hc hc2=>exact .clo _ f xs ys vs us hl hl2 (λi x v h1 h2=>ih i x v h1 h2 (hc x (Ul h1)) hs) (λi x v h1 h2=>ih2 i x v h1 h2 (hc2 x (Ul h1)) hs)
 |hmap=>intro hc;cases hc
 |ifc _ t x v _ ih=>intro hc hs;cases hc with|ifc _ _ hc=>exact .ifc _ t x v (ih hc hs)
 |yld=>intro hc;cases hc
theorem tY(h:RV w γ A bd x v)(hx:(∃l sz rows,x=.tsl l sz rows)\/(∃l sz rows i o,x=.tptr l sz rows i o)):Closed x:=by
 rcases hx with⟨l,sz,rows,rfl⟩|⟨l,sz,rows,i,o,rfl⟩
 ·cases h with
  |tsl _ _ _ _ _ _ _ _ _ _ _ _ _ _ _ _ _ hcl=>exact .tsl _ _ _ hcl
  |tnil=>exact .tsl _ _ _ λrow h=>by cases h
 ·cases h with
  |tptr _ _ _ _ _ _ _ _ _ _ _ _ _ _ _ _ _ hcl=>exact .tptr _ _ _ _ _ hcl
theorem zu{h:H}{tag B:Nat}{L:Nat->Prop}(hr:Rel C A bd w γ hg nx)(hx:∀id,L id->h.get id≠.none->hg id=h.get id)(hB:bd<=B)(htB:tag<=B)
  (hs:∀t b,t<=bd->b<w.heap.size->¬A t b->¬Mut γ b->¬A' t b/\¬Mut γ' b)
  (ho:∀id,L id->(∃sz rows ep lo fz,h.get id=.cells sz rows ep lo fz)->(γ id).kind=1->∀t,tag<=t->t<=B->¬A' t (γ id).blk/\¬Mut γ' (γ id).blk) :
  ∀(f:Nat) {x y:AV} {v:Value},snap h tag f x=some y->RV w γ A bd x v->(∀id∈aw h f x,L id)->RV w γ' A' B y v/\Closed y:=by
 intro f
 induction f with
 |zero=>intro x y v h;cases h
 | succ f ih =>
  intro x y v d N s;have q:∀{xs ys:List AV} {vs:Array Value},aD (snap h tag f) xs=some ys->(∀id∈xs.flatMap (aw h f),L id)->xs.length=vs.size ->
    (∀(i:Nat) x v,xs[i]?=some x->vs[i]?=some v->RV w γ A bd x v) ->
    ys.length=vs.size/\(∀(i:Nat) x v,ys[i]?=some x->vs[i]?=some v->RV w γ' A' B x v)/\∀y∈ys,Closed y:=by
   intro xs ys vs h1 h2 h3 h4;have O:∀(i:Nat) y,ys[i]?=some y->∃v,vs[i]?=some v/\RV w γ' A' B y v/\Closed y:=by
    intro i y S;obtain⟨x,a1,a2⟩:=fu h1 i y S;have hlt:i<vs.size:=by rw[<-h3];exact (Uh.1 a1).1
    have N:=Uv hlt;obtain⟨b1,b2⟩:=ih a2 (h4 i x _ a1 N) λid n=>h2 id (Wb.2 ⟨x,Ul a1,n⟩);exact⟨_,N,b1,b2⟩
   refine⟨by rw[lG h1,h3],λi y v S N=>?_,λy S=>?_⟩
   ·obtain⟨v',b1,b2,_⟩:=O i y S;rw[N]at b1;injection b1 with b1;subst b1;exact b2
   ·obtain⟨i,hi⟩:=UG S;obtain⟨_,_,_,b⟩:=O i y hi;exact b
  have G:∀{id sz:Nat} {rows:List (List AV)} {ep:Nat} {lo fz:Bool} {start len:Nat} {rs:List (List AV)} {m:Nat},
    hg id=.cells sz rows ep lo fz->aD (aD (snap h tag f)) ((rows.drop start).take len)=some rs->gz rs=some m ->
    (∀id'∈((rows.drop start).take len).flatMap (·.flatMap (aw h f)),L id')->start+len<=rows.length ->
    rs.length=len/\m<=B/\(∀(i:Nat) row,rs[i]?=some row->row.length=sz) /\
    (∀(i j:Nat) row x,rs[i]?=some row->row[j]?=some x->x.one=true/\∃c,w.cell? (adr (γ id).blk ((γ id).base+start*sz+i*sz+j))=some c/\RV w γ' A' m x c) /\
    (∀row∈rs,∀x∈row,Closed x):=by
   intro id sz rows ep lo fz start len rs m n hm J X P;have r:=hr.obj id;rw[n]at r;have Q:rs.length=len:=by rw[lG hm];simp;omega
   have key:∀(i j:Nat) row x,rs[i]?=some row->row[j]?=some x->x.one=true/\∃c,w.cell? (adr (γ id).blk ((γ id).base+start*sz+i*sz+j))=some c/\RV w γ' A' B x c/\Closed x:=by
    intro i j row x hi p;obtain⟨row0,a1,a2⟩:=fu hm i row hi;obtain⟨V,b1,b2⟩:=fu a2 j x p;have Z:rows[start+i]?=some row0:=by
     rw[V_]at a1
     split at a1
     ·rw[UO]at a1;exact a1
     ·cases a1
    obtain⟨c1,v,z,K⟩:=ur hr n Z j V b1;obtain⟨d1,d2⟩:=ih b2 K λid' hid'=>X id' (Wb.2 ⟨row0,Ul a1,Wb.2 ⟨V,Ul b1,hid'⟩⟩);refine⟨GG b2 c1,v,?_,d1,d2⟩;rw[<-z];congr 2;rw[UH];omega
   refine⟨Q,?_,?_,?_,?_⟩
   ·refine eZ J λrow F k hk=>eZ hk λx hx k' hk'=>?_;obtain⟨i,hi⟩:=UG F;obtain⟨j,p⟩:=UG hx;obtain⟨_,c,_,hc,_⟩:=key i j row x hi p;exact zy _ hk' hc
   ·intro i row hi;obtain⟨row0,a1,a2⟩:=fu hm i row hi;rw[lG a2];obtain⟨k1,k2,U,k4,k5,k6,c,e,k7,k8,k9,h5⟩:=r;rw[V_]at a1
    split at a1
    ·rw[UO]at a1;exact k9 _ _ a1
    ·cases a1
   ·intro i j row x hi p;obtain⟨c1,c,z,K,_⟩:=key i j row x hi p;exact⟨c1,c,z,we J hi p K⟩
   ·intro row F x hx;obtain⟨i,hi⟩:=UG F;obtain⟨j,p⟩:=UG hx;obtain⟨_,_,_,_,c⟩:=key i j row x hi p;exact c
  cases N with
  | agg _ xs vs hl h1 h2 =>
   simp only[snap]at d
   split at d
   ·rename_i as D;injection d with d;subst d;obtain⟨a,b,c⟩:=q D (by simpa only[aw] using s) hl h2;refine⟨.agg _ _ _ a (λi x hi=>?_) b,.agg _ c⟩;obtain⟨V,a1,a2⟩:=fu D i x hi;exact GG a2 (h1 i V a1)
   ·cases d
  | tup _ xs vs hl h2 =>
   simp only[snap]at d
   split at d
   ·rename_i as D;injection d with d;subst d;obtain⟨a,b,c⟩:=q D (by simpa only[aw] using s) hl h2;exact⟨.tup _ _ _ a b,.tup _ c⟩
   ·cases d
  | clo _ g xs ys vs us hl hl2 h1 h2 =>
   simp only[snap]at d;simp only[aw]at s
   split at d
   ·rename_i as cs D Y;injection d with d;subst d;obtain⟨a,b,c⟩:=q D (λid n=>s id (VV _ n)) hl h1;obtain⟨a',b',c'⟩:=q Y (λid n=>s id (VQ _ n)) hl2 h2;exact⟨.clo _ _ _ _ _ _ a a' b b',.clo _ _ _ c c'⟩
   ·cases d
  | ifc _ t x v h1 =>
   simp only[snap]at d
   split at d
   ·rename_i a ha;injection d with d;subst d;obtain⟨a,b⟩:=ih ha h1 (by simpa only[aw] using s);exact⟨.ifc _ _ _ _ a,.ifc _ _ b⟩
   ·cases d
  | hsl _ id ep off len lim b o cap hk he hc h' =>
   simp only[snap]at d
   split at d
   ·rename_i sz rows ep' lo fz l;rw[aa]at d
    split at d
    ·rename_i E;simp only[Uk,UR,aq]at E;obtain⟨u,P⟩:=E;have u:=aB u
     split at d
     ·rename_i rs I
      split at d
      ·rename_i m hm;injection d with d;subst d;have n:hg id=.cells sz rows ep' lo fz:=by rw[hx id (s id (by simp[aw])) (by rw[l];simp),l]
       have r:=hr.obj id;rw[n]at r;obtain⟨k1,k2,U,k4,_⟩:=r;obtain⟨e1,W,e3⟩:=h' (u.trans k2.symm);subst e1;subst W;simp only[aw,l]at s;simp only[bk,bh]at I s;obtain⟨r1,T,r3,M,r5⟩:=G n I hm (λid' hid'=>s id' (U6 _ hid')) P;obtain⟨o1,o2⟩:=ho id (s id U9) ⟨_,_,_,_,_,l⟩ hk (Nat.max tag m) (Vv _ _) (Xp.2 ⟨htB,T⟩);refine⟨?_,.tsl _ _ _ r5⟩;rw[<-r1];rw[U];refine .tsl _ (Nat.max tag m) sz rs (γ id).blk ((γ id).base+off*sz) cap (λi j=>(w.cell? (adr (γ id).blk ((γ id).base+off*sz+i*sz+j))).getD undef) (Xp.2 ⟨htB,T⟩) (by rw[r1];exact hc)
        (hr.lt id (by rw[hk];decide)).2 o2 o1 r3 (λi j row x hi p=>(M i j row x hi p).1) (λi j row x hi p=>?_) (λi j row x hi p=>?_) r5
       ·obtain⟨_,c,z,_⟩:=M i j row x hi p;simp only[z,Us]
       ·obtain⟨_,c,z,K⟩:=M i j row x hi p;simp only[z,Us];exact K.mono (VW _ _)
      ·cases d
     ·cases d
    ·cases d
   ·cases d
  | hptr _ id ep i off b o hk he h' =>
   simp only[snap]at d
   split at d
   ·rename_i sz rows ep' lo fz l;rw[aa]at d
    split at d
    ·rename_i u;have u:=aB u
     split at d
     ·rename_i rs I
      split at d
      ·rename_i m hm;injection d with d;subst d;have n:hg id=.cells sz rows ep' lo fz:=by rw[hx id (s id (by simp[aw])) (by rw[l];simp),l]
       have r:=hr.obj id;rw[n]at r;obtain⟨k1,k2,U,k4,_⟩:=r;obtain⟨e1,W⟩:=h' (u.trans k2.symm);subst e1;subst W;simp only[aw,l]at s;have R:aD (aD (snap h tag f)) ((rows.drop 0).take rows.length)=some rs:=by simpa using I
       obtain⟨r1,T,r3,M,r5⟩:=G n R hm (λid' hid'=>s id' (U6 _ (by simpa using hid'))) (by omega);obtain⟨o1,o2⟩:=ho id (s id U9) ⟨_,_,_,_,_,l⟩ hk (Nat.max tag m) (Vv _ _) (Xp.2 ⟨htB,T⟩);refine⟨?_,.tptr _ _ _ _ _ r5⟩;rw[U];refine .tptr _ (Nat.max tag m) sz rs i off (γ id).blk (γ id).base (λi j=>(w.cell? (adr (γ id).blk ((γ id).base+i*sz+j))).getD undef) (Xp.2 ⟨htB,T⟩)
        (hr.lt id (by rw[hk];decide)).2 o2 o1 r3 (λi j row x hi p=>(M i j row x hi p).1) (λi j row x hi p=>?_) (λi j row x hi p=>?_) r5
       ·obtain⟨_,c,z,_⟩:=M i j row x hi p;simp only[W9,VH]at z;simp only[z,Us]
       ·obtain⟨_,c,z,K⟩:=M i j row x hi p;simp only[W9,VH]at z;simp only[z,Us];exact K.mono (VW _ _)
      ·cases d
     ·cases d
    ·cases d
   ·cases d
  |hmap=>cases d
  |yld=>cases d
  | tsl _ tag' sz rows b o cap cell ht hc hb hm ha hrl ho' hw hcell hcl =>
   simp only[snap]at d;injection d with d;subst d;exact⟨(lJ (.tsl _ tag' sz rows b o cap cell ht hc hb hm ha hrl ho' hw hcell hcl) (.tsl _ _ _ hcl) hs).mono hB,.tsl _ _ _ hcl⟩
  |tnil _ tag' sz a cap ht=>simp only[snap]at d;injection d with d;subst d;exact⟨.tnil _ tag' sz a cap (Uy ht hB),.tsl _ _ _ λrow h=>by cases h⟩
  | tptr _ tag' sz rows i0 off0 b o cell ht hb hm ha hrl ho' hw hcell hcl =>
   simp only[snap]at d;injection d with d;subst d;exact⟨(lJ (.tptr _ tag' sz rows i0 off0 b o cell ht hb hm ha hrl ho' hw hcell hcl) (.tptr _ _ _ _ _ hcl) hs).mono hB,.tptr _ _ _ _ _ hcl⟩
  |bool=>simp only[snap]at d;injection d with d;subst d;exact⟨.bool _ _,.bool _⟩
  |int=>simp only[snap]at d;injection d with d;subst d;exact⟨.int _ _ _,.int _ _⟩
  |str=>simp only[snap]at d;injection d with d;subst d;exact⟨.str _ _,.str _⟩
  |nilp=>simp only[snap]at d;injection d with d;subst d;exact⟨.nilp _,.nilp⟩
  |nils=>simp only[snap]at d;injection d with d;subst d;exact⟨.nils _,.nils⟩
  |nilf=>simp only[snap]at d;injection d with d;subst d;exact⟨.nilf _,.nilf⟩
  |nilm=>simp only[snap]at d;injection d with d;subst d;exact⟨.nilm _,.nilm⟩
  |nili=>simp only[snap]at d;injection d with d;subst d;exact⟨.nili _,.nili⟩
  |esl _ a=>simp only[snap]at d;injection d with d;subst d;exact⟨.esl _ a,.esl⟩
theorem Di:∀{f:Nat} {x y:AV},dQ d f x=some y->x.one=true->y.one=true:=by
 intro f x y hs hx;cases f with
 |zero=>cases hs
 | succ f =>
  cases x<;>simp only[dQ,aa]at hs<;>first| (cases hx;done)|skip
  all_goals first| (injection hs with hs;subst hs;rfl)|skip
  all_goals
   repeat (split at hs)
   all_goals first| (cases hs;done)| (injection hs with hs;subst hs;rfl)
theorem Oi(hA:∀t b,t<d->¬A t b->¬A' t b)(hd:∀b,¬A d b->∀t,¬A' t b) :
  ∀(f:Nat) {x y:AV} {v:Value},dQ d f x=some y->RV w γ A d x v->Closed x->RV w γ A' d y v/\Closed y:=by
 intro f
 induction f with
 |zero=>intro x y v h;cases h
 | succ f ih =>
  intro x y v l H n;have q:∀{xs ys:List AV} {vs:Array Value},aD (dQ d f) xs=some ys->xs.length=vs.size->(∀x∈xs,Closed x) ->
    (∀(i:Nat) x v,xs[i]?=some x->vs[i]?=some v->RV w γ A d x v) ->
    ys.length=vs.size/\(∀(i:Nat) x v,ys[i]?=some x->vs[i]?=some v->RV w γ A' d x v)/\∀y∈ys,Closed y:=by
   intro xs ys vs h1 I hc h4;have J:∀(i:Nat) y,ys[i]?=some y->∃v,vs[i]?=some v/\RV w γ A' d y v/\Closed y:=by
    intro i y K;obtain⟨x,a1,a2⟩:=fu h1 i y K;have hlt:i<vs.size:=by rw[<-I];exact (Uh.1 a1).1
    have H:=Uv hlt;obtain⟨b1,b2⟩:=ih a2 (h4 i x _ a1 H) (hc x (Ul a1));exact⟨_,H,b1,b2⟩
   refine⟨by rw[lG h1,I],λi y v K H=>?_,λy K=>?_⟩
   ·obtain⟨v',b1,b2,_⟩:=J i y K;rw[H]at b1;injection b1 with b1;subst b1;exact b2
   ·obtain⟨i,hi⟩:=UG K;obtain⟨_,_,_,b⟩:=J i y hi;exact b
  have z:∀{sz:Nat} {rows rs:List (List AV)} {m:Nat} {cell:Nat->Nat->Value},aD (aD (dQ d f)) rows=some rs->gz rs=some m ->
    (∀(i:Nat) row,rows[i]?=some row->row.length=sz) ->
    (∀(i j:Nat) row x,rows[i]?=some row->row[j]?=some x->x.one=true) ->
    (∀(i j:Nat) row x,rows[i]?=some row->row[j]?=some x->RV w γ A d x (cell i j)) ->
    (∀row∈rows,∀x∈row,Closed x) ->
    rs.length=rows.length/\m<=d/\(∀(i:Nat) row,rs[i]?=some row->row.length=sz) /\
    (∀(i j:Nat) row x,rs[i]?=some row->row[j]?=some x->x.one=true/\(∃row0 r,rows[i]?=some row0/\row0[j]?=some r)/\RV w γ A' m x (cell i j)) /\
    (∀row∈rs,∀x∈row,Closed x):=by
   intro sz rows rs m cell h1 h2 I h4 h5 Q;have key:∀(i j:Nat) row x,rs[i]?=some row->row[j]?=some x->x.one=true/\(∃row0 r,rows[i]?=some row0/\row0[j]?=some r)/\RV w γ A' d x (cell i j)/\Closed x:=by intro i j row x hi B;obtain⟨row0,a1,a2⟩:=fu h1 i row hi;obtain⟨r,b1,b2⟩:=fu a2 j x B;obtain⟨c1,D⟩:=ih b2 (h5 i j row0 r a1 b1) (Q row0 (Ul a1) r (Ul b1));exact⟨Di b2 (h4 i j row0 r a1 b1),⟨row0,r,a1,b1⟩,c1,D⟩
   refine⟨lG h1,?_,?_,?_,?_⟩
   ·refine eZ h2 λrow u k hk=>eZ hk λx hx k' hk'=>?_;obtain⟨i,hi⟩:=UG u;obtain⟨j,B⟩:=UG hx;obtain⟨_,_,hc,_⟩:=key i j row x hi B;exact zy _ hk' hc
   ·intro i row hi;obtain⟨row0,a1,a2⟩:=fu h1 i row hi;rw[lG a2];exact I i row0 a1
   ·intro i j row x hi B;obtain⟨c1,D,P,_⟩:=key i j row x hi B;exact⟨c1,D,we h2 hi B P⟩
   ·intro row u x hx;obtain⟨i,hi⟩:=UG u;obtain⟨j,B⟩:=UG hx;obtain⟨_,_,_,c⟩:=key i j row x hi B;exact c
  have C:∀{t:Nat},t<=d->t≠d->∀t' b,t'<=t->b<w.heap.size->¬A t' b->¬Mut γ b->¬A' t' b/\¬Mut γ b :=
   λh1 h2 t' b I _ h4 h5=>⟨hA t' b (by omega) h4,h5⟩
  cases H with
  | agg _ xs vs hl h1 h2 =>
   simp only[dQ]at l
   split at l
   ·rename_i as s;injection l with l;subst l;cases n with
    | agg _ n =>
     obtain⟨a,b,c⟩:=q s hl n h2;refine⟨.agg _ _ _ a (λi x hi=>?_) b,.agg _ c⟩;obtain⟨r,a1,a2⟩:=fu s i x hi;exact Di a2 (h1 i r a1)
   ·cases l
  | tup _ xs vs hl h2 =>
   simp only[dQ]at l
   split at l
   ·rename_i as s;injection l with l;subst l;cases n with
    | tup _ n =>
     obtain⟨a,b,c⟩:=q s hl n h2;exact⟨.tup _ _ _ a b,.tup _ c⟩
   ·cases l
  | clo _ g xs ys vs us hl hl2 h1 h2 =>
   simp only[dQ]at l
   split at l
   ·rename_i as cs s L;injection l with l;subst l;cases n with
    | clo _ _ _ n hcx2 =>
     obtain⟨a,b,c⟩:=q s hl n h1;obtain⟨a',b',c'⟩:=q L hl2 hcx2 h2;exact⟨.clo _ _ _ _ _ _ a a' b b',.clo _ _ _ c c'⟩
   ·cases l
  | ifc _ t x v h1 =>
   simp only[dQ]at l
   split at l
   ·rename_i a ha;injection l with l;subst l;cases n with
    | ifc _ _ n =>
     obtain⟨a,b⟩:=ih ha h1 n;exact⟨.ifc _ _ _ _ a,.ifc _ _ b⟩
   ·cases l
  | tsl _ t sz rows b o cap cell ht hc hb hm ha hrl ho' hw hcell hcl =>
   simp only[dQ,aa]at l
   split at l
   ·rename_i p;have p:=aB p
    split at l
    ·rename_i rs F
     split at l
     ·rename_i m E;injection l with l;subst l;obtain⟨M,N,O,G,r5⟩:=z (cell:=cell) F E hrl ho' (λi j row x a b=>(hcell i j row x a b).mono ht) hcl;refine⟨?_,.tsl _ _ _ r5⟩;rw[<-M];refine .tsl _ m sz rs b o cap cell N (by rw[M];exact hc) hb hm (hd b (p ▸ ha) m) O (λi j row x a b=>(G i j row x a b).1) (λi j row x a b=>?_) (λi j row x a b=>(G i j row x a b).2.2) r5;obtain⟨_,⟨row0,r,c1,D⟩,_⟩:=G i j row x a b;exact hw i j row0 r c1 D
     ·cases l
    ·cases l
   ·rename_i p;injection l with l;subst l;have p:t≠d:=λe=>p (by rw[e];exact UT d);exact⟨.tsl _ t sz rows b o cap cell ht hc hb hm (hA t b (by omega) ha) hrl ho' hw (λi j row x a c=>lJ (hcell i j row x a c) (hcl row (Ul a) x (Ul c)) (C ht p)) hcl,.tsl _ _ _ hcl⟩
  | tnil _ t sz a cap ht =>
   simp only[dQ,aa]at l
   split at l
   ·simp only[aD,gz,h_]at l;injection l with l;subst l;exact⟨.tnil _ _ sz a cap (US _),.tsl _ _ _ λrow h=>by cases h⟩
   ·injection l with l;subst l;exact⟨.tnil _ t sz a cap ht,.tsl _ _ _ λrow h=>by cases h⟩
  | tptr _ t sz rows i0 off0 b o cell ht hb hm ha hrl ho' hw hcell hcl =>
   simp only[dQ,aa]at l
   split at l
   ·rename_i p;have p:=aB p
    split at l
    ·rename_i rs F
     split at l
     ·rename_i m E;injection l with l;subst l;obtain⟨M,N,O,G,r5⟩:=z (cell:=cell) F E hrl ho' (λi j row x a b=>(hcell i j row x a b).mono ht) hcl;refine⟨?_,.tptr _ _ _ _ _ r5⟩;refine .tptr _ m sz rs i0 off0 b o cell N hb hm (hd b (p ▸ ha) m) O (λi j row x a b=>(G i j row x a b).1) (λi j row x a b=>?_) (λi j row x a b=>(G i j row x a b).2.2) r5;obtain⟨_,⟨row0,r,c1,D⟩,_⟩:=G i j row x a b;exact hw i j row0 r c1 D
     ·cases l
    ·cases l
   ·rename_i p;injection l with l;subst l;have p:t≠d:=λe=>p (by rw[e];exact UT d);exact⟨.tptr _ t sz rows i0 off0 b o cell ht hb hm (hA t b (by omega) ha) hrl ho' hw (λi j row x a c=>lJ (hcell i j row x a c) (hcl row (Ul a) x (Ul c)) (C ht p)) hcl,.tptr _ _ _ _ _ hcl⟩
  |bool=>simp only[dQ]at l;injection l with l;subst l;exact⟨.bool _ _,.bool _⟩
  |int=>simp only[dQ]at l;injection l with l;subst l;exact⟨.int _ _ _,.int _ _⟩
  |str=>simp only[dQ]at l;injection l with l;subst l;exact⟨.str _ _,.str _⟩
  |nilp=>simp only[dQ]at l;injection l with l;subst l;exact⟨.nilp _,.nilp⟩
  |nils=>simp only[dQ]at l;injection l with l;subst l;exact⟨.nils _,.nils⟩
  |nilf=>simp only[dQ]at l;injection l with l;subst l;exact⟨.nilf _,.nilf⟩
  |nilm=>simp only[dQ]at l;injection l with l;subst l;exact⟨.nilm _,.nilm⟩
  |nili=>simp only[dQ]at l;injection l with l;subst l;exact⟨.nili _,.nili⟩
  |esl _ a=>simp only[dQ]at l;injection l with l;subst l;exact⟨.esl _ a,.esl⟩
  |hsl=>cases n
  |hptr=>cases n
  |hmap=>cases n
  |yld=>cases n
theorem Bp(s1:w.heap.size<=w'.heap.size)(s2:w'.os=w.os)(s3:w'.tape=w.tape)(s4:w'.output=w.output)(s5:w.drawn<=w'.drawn)
  (hb:∀b,b<w.heap.size->w'.heap[b]?=w.heap[b]?):Stp w γ w' γ :=
 ⟨s1,s2,s3,s4,λb h _=>hb b h,λ_ _ h=>h,λ_ _=>.inl ⟨rfl,rfl⟩,λ_ _=>⟨Ui _,λ_=>⟨rfl,rfl,rfl,rfl,rfl⟩⟩,s5⟩
theorem Rel.same(hr:Rel C A bd w γ hg nx)(s:Stp w γ w' γ)(hb:∀b,b<w.heap.size->w'.heap[b]?=w.heap[b]?):Rel C A bd w' γ hg nx where
 obj id:=(hr.obj id).step s rfl λhk _=>hb _ (hr.lt id hk).2
 lt id hk:=⟨(hr.lt id hk).1,UI (hr.lt id hk).2 s.sz⟩
 inj:=hr.inj
 av:=hr.av
 ab t b h:=UI (hr.ab t b h) s.sz
 glob g sz rows h:=(hr.glob g sz rows h).step s
structure Fin (C:Cfg) (A:Nat->Nat->Prop) (bd:Nat) (w:World) (γ:Gm) (hg:Nat->AObj) (nx:Nat) (g:G) (w':World) (γ':Gm) (hg':Nat->AObj) (g':G):Prop where
 rel:Rel C A bd w' γ' hg' (Nat.max nx g'.nx)
 stp:Stp w γ w' γ'
 new:∃new,g'.lg=new++g.lg/\(∀id∈new,hg' id=g'.h.get id)/\∀id,id ∉ new->hg' id=hg id
structure Mon (g g':G):Prop where
 nx:g.nx<=g'.nx
 new:∃new,g'.lg=new++g.lg/\(∀id,id ∉ new->g'.h.get id=g.h.get id)/\∀id∈new,id<g'.nx/\(g.h.get id=.none->g.nx<=id)
 wf:(∀id,g.nx<=id->g.h.get id=.none)->∀id,g'.nx<=id->g'.h.get id=.none
def WF(g:G):Prop:=∀id,g.nx<=id->g.h.get id=.none
theorem Mon.refl(g:G):Mon g g:=⟨Ui _,⟨[],rfl,λ_ _=>rfl,λ_ h=>by cases h⟩,λh=>h⟩
theorem Mon.trans(h1:Mon g g1)(h2:Mon g1 g2):Mon g g2:=by
 obtain⟨n1,a1,b1,c1⟩:=h1.new;obtain⟨n2,a2,b2,k⟩:=h2.new;refine⟨Uy h1.nx h2.nx,⟨n2++n1,by rw[a2,a1,VB],λid hid=>?_,λid hid=>?_⟩,λh=>h2.wf (h1.wf h)⟩
 ·rw[b2 id λh=>hid (VV _ h),b1 id λh=>hid (VQ _ h)]
 ·by_cases hin:id∈n1
  ·exact⟨UI (c1 id hin).1 h2.nx,(c1 id hin).2⟩
  ·rcases UL.1 hid with h|h
   ·exact⟨(k id h).1,λhn=>Uy h1.nx ((k id h).2 (by rw[b1 id hin];exact hn))⟩
   ·exact absurd h hin
def Free(γ:Gm)(g g':G):Prop:=∀id,g.nx<=id->id<=g'.nx->(γ id).kind=0
theorem Fin.refl{g:G}(hr:Rel C A bd w γ hg nx):Fin C A bd w γ hg nx g w γ hg g :=
 ⟨hr.up (Vv _ _),Stp.refl _ _,⟨[],rfl,λ_ h=>absurd h Uu,λ_ _=>rfl⟩⟩
theorem Rel.none_iff(hr:Rel C A bd w γ hg nx)(id:Nat):(γ id).kind=0↔hg id=.none:=by
 have h:=hr.obj id;constructor
 ·intro hk;cases ho:hg id with
  |none=>rfl
  |_=>rw[ho]at h;have:=h.1;omega
 ·intro k;rw[k]at h;exact h
theorem Fin.freed{w1:World}{γ1:Gm}{hg1:Nat->AObj}(h1:Fin C A bd w γ hg nx g w1 γ1 hg1 g1)(hr:Rel C A bd w γ hg nx)(m1:Mon g g1)(hf:Free γ g g2):Free γ1 g1 g2:=by
 obtain⟨n,a,b,c⟩:=h1.new;obtain⟨n',a',b',c'⟩:=m1.new;have e:n'=n:=WL (a'.symm.trans a);subst e;intro id h2 k;have d:id ∉ n':=λh=>by have:=(c' id h).1;omega
 rw[h1.rel.none_iff,c id d,<-hr.none_iff];exact hf id (Uy m1.nx h2) k
theorem Free.le{γ:Gm}(h:Free γ g g2)(hle:g1.nx<=g2.nx):Free γ g g1:=λid h1 h2=>h id h1 (Uy h2 hle)
theorem Fin.ext{g':G}{hg':Nat->AObj}(h:Fin C A bd w γ hg nx g w' γ' hg' g')(m:Mon g g')(hx:Ext g.h hg):Ext g'.h hg':=by
 obtain⟨n,a,b,c⟩:=h.new;obtain⟨n',a',b',_⟩:=m.new;have e:n'=n:=WL (a'.symm.trans a);subst e;intro id k
 by_cases hin:id∈n'
 ·exact b id hin
 ·rw[c id hin,b' id hin];exact hx id (by rw[<-b' id hin];exact k)
theorem Fin.trans{g g1 g2:G}{w1 w2:World}{γ1 γ2:Gm}{hg1 hg2:Nat->AObj}(h1:Fin C A bd w γ hg nx g w1 γ1 hg1 g1)
  (h2:Fin C A bd w1 γ1 hg1 (Nat.max nx g1.nx) g1 w2 γ2 hg2 g2) (m1:Mon g g1) (m2:Mon g1 g2):Fin C A bd w γ hg nx g w2 γ2 hg2 g2:=by
 obtain⟨n1,a1,b1,c1⟩:=h1.new;obtain⟨n2,a2,b2,k⟩:=h2.new;obtain⟨n',a',b',_⟩:=m2.new;have e:n'=n2:=WL (a'.symm.trans a2);subst e;refine⟨?_,h1.stp.trans h2.stp,⟨n'++n1,by rw[a2,a1,VB],λid hid=>?_,λid hid=>?_⟩⟩
 ·refine h2.rel.up (Xp.2 ⟨Xp.2 ⟨Vv _ _,Uy m2.nx (VW _ _)⟩,VW _ _⟩)
 ·by_cases hin:id∈n'
  ·exact b2 id hin
  ·rw[k id hin,b' id hin];rcases UL.1 hid with h|h
   ·exact absurd h hin
   ·exact b1 id h
 ·rw[k id λh=>hid (VV _ h),c1 id λh=>hid (VQ _ h)]
def pD(K:CallKind)(cs:List Frame):Prop:=K=.normal\/(K=.deferred/\∃c cs',cs=c::cs'/\(c.mode=.returning\/∃v x older,c.mode=.panicking ({ v,recovered:=true,goexit:=x }::older)))
def Outs(P:Program)(K:CallKind)(f:FuncId)(vs:Array Value)(cs:List Frame)(w:World)(u:Value)(w':World):Prop :=
 ∃fr,Steps P (lone (Frame.enter P f vs K) cs w) (lone fr cs w')/\fr.mode=.returning/\fr.defers=[]/\fr.kind=K/\fr.fn=f /\
  ∃fn,P.funcs[f]?=some fn/\(results fn fr.tmps).run P w'=.ok u w'
def Enters(P:Program)(f:FuncId):Prop:=∀args w,(callFunc f args).run P w=.ok (.enter f args) w
def y9(C:Cfg)(bd:Nat)(f:FuncId)(as:List AV)(g:G)(v:AV)(g':G):Prop :=
 ∀A w γ hg nx vs,Rel C A bd w γ hg nx->Ext g.h hg->WF g->Free γ g g'->RVs w γ A bd as vs->∀K cs,pD K cs ->
  ∃u w' γ' hg',Fin C A bd w γ hg nx g w' γ' hg' g'/\RV w' γ' A bd v u/\Outs C.P K f vs.toArray cs w u w'
def zB(C:Cfg)(ih:IH):Prop :=
 ∀bd f as g v g',ih.call (bd+1) f as g=.ok v g'->Enters C.P f/\y9 C bd f as g v g'
def wg(ih:IH):Prop:=∀d f as g v g',ih.call d f as g=.ok v g'->WF g->Mon g g'
theorem B7:∀(ids:List Nat) (g:G),WF g->Mon g (cM g ids):=by
 intro ids
 induction ids with
 |nil=>intro g _;exact Mon.refl g
 | cons i is ih =>
  intro g a;simp only[cM]
  split
  ·rename_i sz rows ep lo fz k;have hi:i<g.nx:=Nat.lt_of_not_le λh=>by have:=a i h;rw[<-G.get_eq,k]at this;cases this
   refine Mon.trans ⟨by simp,⟨[i],by simp,λid hid=>?_,λid hid=>?_⟩,λh id hid=>?_⟩ (ih _ λid hid=>?_)
   ·simp only[G.put_h,SD];rw[Um];simpa using hid
   ·simp at hid;subst hid;exact⟨by simpa using hi,λhn=>by rw[<-G.get_eq,k]at hn;cases hn⟩
   ·simp only[G.put_nx]at hid;simp only[G.put_h,SD];rw[Um (by omega)];exact h id hid
   ·simp only[G.put_nx]at hid;simp only[G.put_h,SD];rw[Um (by omega)];exact a id hid
  ·exact ih g a
theorem B8:∀(ids:List Nat) (g:G) (γ:Gm) (hg:Nat->AObj),Rel C A bd w γ hg nx->(∀id∈ids,g.h.get id≠.none->hg id=g.h.get id) ->
  ∃γ₁ hg₁,Rel C A bd w γ₁ hg₁ nx/\Stp w γ w γ₁/\(cM g ids).nx=g.nx /\
   (∃new,(cM g ids).lg=new++g.lg/\(∀id∈new,hg₁ id=(cM g ids).h.get id)/\(∀id,id ∉ new->hg₁ id=hg id)) /\
   (∀id,(γ₁ id).kind=(γ id).kind/\(γ₁ id).blk=(γ id).blk/\((γ₁ id).wr=true->(γ id).wr=true)) /\
   (∀id∈ids,(∃sz rows ep lo fz,g.h.get id=.cells sz rows ep lo fz)->(γ₁ id).wr=false):=by
 intro ids
 induction ids with
 | nil =>
  intro g γ hg hr hx;exact⟨γ,hg,hr,Stp.refl _ _,rfl,⟨[],rfl,λ_ h=>absurd h Uu,λ_ _=>rfl⟩,λ_=>⟨rfl,rfl,λh=>h⟩,λ_ h=>by cases h⟩
 | cons i is ih =>
  intro g γ hg hr hx;simp only[cM]
  split
  ·rename_i sz rows ep lo fz j;have d:g.h.get i=.cells sz rows ep lo fz:=by simpa using j
   have m:hg i=.cells sz rows ep lo fz:=by rw[hx i U9 (by rw[d];simp),d]
   obtain⟨γ₀,r0,r,e0,s⟩:=hr.freeze m;have n:∀id∈is,(g.put i (.cells sz rows ep lo true)).h.get id≠.none->upd hg i (.cells sz rows ep lo true) id=(g.put i (.cells sz rows ep lo true)).h.get id:=by
    intro id hin f;simp only[G.put_h,SD]at f ⊢;unfold upd
    by_cases hi:id=i
    ·simp[hi]
    ·simp only[hi,if_false]at f ⊢;exact hx id (U6 _ hin) f
   obtain⟨γ₁,hg₁,o,p,n1,⟨new,l1,l2,q⟩,f1,f2⟩:=ih _ γ₀ _ r0 n;refine⟨γ₁,hg₁,o,r.trans p,by rw[n1];simp,⟨new++[i],by rw[l1];simp,λid hid'=>?_,λid hid'=>?_⟩,λid=>?_,λid hid' hc=>?_⟩
   ·by_cases hin:id∈new
    ·exact l2 id hin
    ·have hi:id=i:=by
      rcases UL.1 hid' with h|h
      ·exact absurd h hin
      ·simpa using h
     subst hi;rw[q id hin];simp only[upd_same]
     by_cases hwf:∃new',(cM (g.put id (.cells sz rows ep lo true)) is).lg=new'++(g.put id (.cells sz rows ep lo true)).lg/\∀k,k ∉ new'->(cM (g.put id (.cells sz rows ep lo true)) is).h.get k=(g.put id (.cells sz rows ep lo true)).h.get k
     ·obtain⟨new',q1,q2⟩:=hwf;have e:new'=new:=WL (q1.symm.trans l1);rw[q2 id (e ▸ hin)];simp[SD]
     ·exact absurd (freezeIds_log is _) hwf
   ·rw[q id λh=>hid' (VV _ h)];exact cJ _ _ (by rintro rfl;exact hid' (VQ _ U9))
   ·obtain⟨a,b,c⟩:=f1 id;rw[e0]at a b c;unfold upd at a b c
    by_cases hi:id=i
    ·subst hi;simp at a b c;exact⟨a,b,λh=>by rw[c]at h;cases h⟩
    ·simp only[hi,if_false]at a b c;exact⟨a,b,c⟩
   ·rcases UW.1 hid' with rfl|hin
    ·have:=(f1 id).2.2;rw[e0]at this;simp at this;simpa using this
    ·by_cases hi:id=i
     ·subst hi;have:=(f1 id).2.2;rw[e0]at this;simp at this;simpa using this
     ·refine f2 id hin ?_;simp only[G.put_h,SD,hi,if_false];exact hc
  ·rename_i f;obtain⟨γ₁,hg₁,o,p,n1,l,f1,f2⟩:=ih g γ hg hr λid hin=>hx id (U6 _ hin);refine⟨γ₁,hg₁,o,p,n1,l,f1,λid hid' hc=>?_⟩;rcases UW.1 hid' with rfl|hin
   ·obtain⟨sz,rows,ep,lo,fz,hc⟩:=hc;exact absurd (by simpa using hc) (f sz rows ep lo fz)
   ·exact f2 id hin hc where
 freezeIds_log:∀(ids:List Nat) (g:G),∃new',(cM g ids).lg=new'++g.lg/\∀k,k ∉ new'->(cM g ids).h.get k=g.h.get k:=by
  intro ids
  induction ids with
  |nil=>intro g;exact⟨[],rfl,λ_ _=>rfl⟩
  | cons i is ih =>
   intro g;simp only[cM]
   split
   ·rename_i sz rows ep lo fz j;obtain⟨new,a,b⟩:=ih (g.put i (.cells sz rows ep lo true));refine⟨new++[i],by rw[a];simp,λk hk=>?_⟩;rw[b k λh=>hk (VV _ h)];simp only[G.put_h,SD];rw[Um];rintro rfl;exact hk (VQ _ U9)
   ·exact ih g
def gOf(g:G):OR->G
 |.upd _ g'=>g'
 |_=>g
def vOf:OR->AV
 |.upd v _=>v
 |.val v=>v
 |_=>.undef
theorem lE{ih:IH}{f:Nat}{args:List AV}(hwf:WF g):Mon g (gOf g (ac ih d g f args)):=by
 unfold ac
 split
 ·exact Mon.refl g
 split
 ·exact Mon.refl g
 split
 ·exact Mon.refl g
 split
 ·exact Mon.refl g
 rw[aa]
 split
 ·exact Mon.refl g
 split
 ·exact Mon.refl g
 split
 ·exact Mon.refl g
 rw[aa]
 split
 ·exact B7 _ _ hwf
 ·exact Mon.refl g
theorem om{ih:IH}{f:Nat}{args:List AV}{vs:List Value}(hc:zB C ih)(hm:wg ih)(hr:Rel C A bd w γ hg nx)
  (hx:∀id∈args.flatMap (aw g.h an),g.h.get id≠.none->hg id=g.h.get id)
  (hv:RVs w γ A bd args vs) (hne:ac ih (bd+1) g f args≠.fail) (cs:List Frame) :
  Enters C.P f/\∃u w' γ' hg',Fin C A bd w γ hg nx g w' γ' hg' (gOf g (ac ih (bd+1) g f args))/\RV w' γ' A bd (vOf (ac ih (bd+1) g f args)) u /\
   Outs C.P .normal f vs.toArray cs w u w':=by
 let γc:Gm:=λ_=>⟨0,0,0,0,0,0,0,false⟩
 let L:Nat->Prop:=λid=>id∈args.flatMap (aw g.h an)
 let isC:Nat->Prop:=λid=>∃sz rows ep lo fz,g.h.get id=.cells sz rows ep lo fz
 let Ac:Nat->Nat->Prop:=λt b=>(t<=bd/\(A t b\/Mut γ b))\/(t=bd+1/\b<w.heap.size/\¬∃id,L id/\isC id/\(γ id).kind=1/\(γ id).blk=b)
 have e:∀b,¬Mut γc b:=by rintro b ⟨id,h,_⟩;exact h rfl
 generalize hres:ac ih (bd+1) g f args=res at *;unfold ac at hres
 split at hres
 ·exact absurd hres.symm hne
 rename_i as I;have n:∀t b,t<=bd->b<w.heap.size->¬A t b->¬Mut γ b->¬Ac t b/\¬Mut γc b:=by
  intro t b h1 _ h2 l;refine⟨?_,e b⟩;rintro (⟨_,h|h⟩|⟨h,_⟩)
  ·exact h2 h
  ·exact l h
  ·omega
 have B:RVs w γc Ac (bd+1) as vs:=by
  refine⟨by rw[lG I];exact hv.1,λi y v hy hvi=>?_⟩;obtain⟨x,h1,h2⟩:=fu I i y hy;refine (zu (L:=L) hr hx (V6 _) (Ui _) n ?_ an h2 (hv.2 i x v h1 hvi) λid hid=>Wb.2 ⟨x,Ul h1,hid⟩).1;intro id hL D hk t l h4;have ht:t=bd+1:=Xf h4 l;refine⟨?_,e _⟩;rintro (⟨h,_⟩|⟨_,_,h⟩)
  ·omega
  ·exact h ⟨id,hL,D,hk,rfl⟩
 have V:Rel C Ac (bd+1) w γc (λ_=>.none) 0:=by
  refine⟨λid=>rfl,λid h=>absurd rfl h,λi j h=>absurd rfl h,λid h=>absurd rfl h,?_,λgl sz rows h=>?_⟩
  ·rintro t b (⟨_,h|⟨id,h1,h2,l⟩⟩|⟨_,h,_⟩)
   ·exact hr.ab t b h
   ·rw[<-l];exact (hr.lt id h1).2
   ·exact h
  ·have:=hr.glob gl sz rows h;exact (lJ this (tY this (.inr ⟨_,_,_,_,_,rfl⟩)) n).mono (V6 _)
 split at hres
 ·exact absurd hres.symm hne
 rename_i r g' o;have a:G.empty.h.get=λ_=>AObj.none:=by funext id;simp[G.empty,H.get,SJ]
 obtain⟨J,O⟩:=hc (bd+1) f as G.empty r g' o;refine⟨J,?_⟩;obtain⟨u,w',γ',hg',k,W,z⟩:=O Ac w γc (λ_=>.none) 0 vs V (λid h=>by rw[a]at h;exact absurd rfl h) (λid _=>by rw[a])
  (λ_ _ _=>rfl) B .normal cs (.inl rfl)
 have E:Ext g'.h hg':=k.ext (hm _ _ _ _ _ _ o (λid _=>by rw[a])) (λid h=>by rw[a]at h;exact absurd rfl h);have p:∀b,b<w.heap.size->w'.heap[b]?=w.heap[b]?:=λb hb=>k.stp.fr b hb (e b);have q:Stp w γ w' γ:=Bp k.stp.sz k.stp.os k.stp.tape k.stp.output k.stp.dr p;have Q:Rel C A bd w' γ hg nx:=hr.same q p
 split at hres
 ·exact absurd hres.symm hne
 rename_i r' F;obtain⟨M,hcl⟩:=zu (A':=Ac) (γ':=γc) (L:=λ_=>True) k.rel (λid _=>E id) (Ui _) (US _) (λt b _ _ h _=>⟨h,e b⟩)
  (λid _ _ hk t _ _=>⟨k.rel.av id (by rw[hk];decide) t,e _⟩) an F W λ_ _=>trivial
 split at hres
 ·exact absurd hres.symm hne
 rename_i m hm;have N:=EI _ hm M;rw[aa]at hres
 split at hres
 ·rename_i hlt;rw[U_]at hlt;subst hres;refine⟨u,w',γ,hg,⟨Q.up (Vv _ _),q,⟨[],rfl,λ_ h=>absurd h Uu,λ_ _=>rfl⟩⟩,?_,z⟩;refine (lJ N hcl λt b h1 h2 l h4=>⟨λh=>l (.inl ⟨by omega,.inl h⟩),λh=>l (.inl ⟨by omega,.inr h⟩)⟩).mono (by omega)
 ·split at hres
  ·exact absurd hres.symm hne
  rename_i r'' Y
  split at hres
  ·exact absurd hres.symm hne
  rename_i m' U;rw[aa]at hres
  split at hres
  rotate_left
  ·exact absurd hres.symm hne
  rename_i hlt;rw[U_]at hlt;subst hres;obtain⟨γ₁,T,r1,s1,n1,⟨new,l1,l2,l3⟩,f1,f2⟩:=B8 (args.flatMap (aw g.h an)) g γ hg Q hx;have s:∀b,Mut γ₁ b->Mut γ b:=by rintro b ⟨id,h1,h2,l⟩;obtain⟨e1,R,Z⟩:=f1 id;exact⟨id,by rw[<-e1];exact h1,Z h2,by rw[<-R];exact l⟩
  refine⟨u,w',γ₁,T,⟨r1.up (Vv _ _),q.trans s1,⟨new,l1,l2,l3⟩⟩,?_,z⟩
  let A₁:Nat->Nat->Prop:=λt b=>if t=bd+1 then ∃t',A t' b else A t b
  have K:m<=bd+1:=zy _ hm M;have X:RV w' γ₁ A₁ m r' u:=by
   refine lJ N hcl λt b h1 h2 l _=>?_
   by_cases ht:t=bd+1
   ·have hb:w.heap.size<=b\/∃id,L id/\isC id/\(γ id).kind=1/\(γ id).blk=b:=by
     by_cases hs:w.heap.size<=b
     ·exact .inl hs
     ·exact .inr (Vt λhn=>l (.inr ⟨ht,by omega,hn⟩))
    rcases hb with hb|⟨id,q1,q2,q3,q4⟩
    ·refine⟨?_,λhmu=>?_⟩
     ·simp only[A₁,ht,if_true];rintro⟨t',h⟩;have:=hr.ab t' b h;omega
     ·obtain⟨id,p1,p2,p3⟩:=s b hmu;have:=(hr.lt id p1).2;omega
    ·refine⟨?_,?_⟩
     ·simp only[A₁,ht,if_true];rintro⟨t',h⟩;rw[<-q4]at h;exact hr.av id (by rw[q3];decide) t' h
     ·rintro⟨j,p1,p2,p3⟩;obtain⟨e1,R,Z⟩:=f1 j;have hj:j=id:=hr.inj j id (by rw[<-e1];exact p1) (by rw[q3];decide) (by rw[<-R,p3,q4]);subst hj;rw[f2 j q1 q2]at p2;cases p2
   ·refine⟨?_,λh=>l (.inl ⟨by omega,.inr (s b h)⟩)⟩;simp only[A₁,ht,if_false];exact λh=>l (.inl ⟨by omega,.inl h⟩)
  obtain⟨S,_⟩:=Oi (A':=A) (d:=bd+1) (λt b h1 h2=>by simp only[A₁,show t≠bd+1 by omega,if_false]at h2;exact h2)
   (λb h2 t ht=>h2 (by simp only[A₁,if_true];exact⟨t,ht⟩)) an Y (X.mono K) hcl
  exact (EI _ U S).mono (by omega)
end
end
end
end Hx
