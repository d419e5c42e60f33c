/- A part of the proof. -/
import Derived.DeepKeys3
import Derived.Test.YtikpmbiklokdiaaGreatHx1
set_option linter.all false
set_option maxRecDepth 20000
set_option maxHeartbeats 8000000
namespace Hx
open Go
noncomputable section
variable {g g' g1:G}{d nt n f m:Nat}{v u vm:Value}{t t':T}{df df':List ZU}{x y k fv:AV}{rd:Option Nat}{ty kt e:TypeId}{args:List AV}{C:ZO}{ps:List Nat}{assign body:Code}{r:OR}{xs:Array Value}{op:Op}
section
variable {C:ZO}{A:Nat->Nat->Prop}{bd:Nat}{w w':World}{γ γ':Gm}{hg:Nat->ZM}{nx:Nat}
def Qd(w:World)(γ:Gm)(A:Nat->Nat->Prop)(bd:Nat):Option AV->Option Value->Prop
 |none,none=>True
 |some x,some v=>RV w γ A bd x v
 |_,_=>False
theorem Tx{xs:List AV}{vs:List Value}(h:S9 w γ A bd xs vs):Qd w γ A bd xs.head? vs.head?:=by
 cases xs with
 | nil=>cases vs with
  |nil=>trivial
  |cons v vs=>have:=h.1;grind
 | cons x xs=>cases vs with
  |nil=>have:=h.1;grind
  |cons v vs=>exact h.2 0 x v rfl rfl
theorem Bq{lim:Nat}(h:dU lim x=some n):n<=lim:=by
 unfold dU at h
 split at h<;>grind[aa,R1]
theorem pt{x:Option AV}(h:bc 0 0 x=some n):n=0:=by
 cases x with
 |none=>grind[bc]
 |some z=>have:=Bq h;omega
theorem dV{P:Program}{lim y:Nat}{code:BoundsCode}(h:dU lim x=some n)(hv:RV w γ A bd x v)(hy:lim<=y) :
  (Instr.sliceBound v y code).run P w=.ok n w/\n<=lim:=by
 obtain⟨h1,k,rfl⟩:=Br h hv;refine⟨?_,h1⟩;unfold Instr.sliceBound;simp only[asIntOf,Qk,MV,abi];rw[i6];simp
theorem dy{P:Program}{isSlice:Bool}{len cap:Nat}{lo hi mx:Option AV}{lv hv mv:Option Value}{l h limM lh:Nat}
  (hlo:Qd w γ A bd lo lv) (hhi:Qd w γ A bd hi hv) (hmx:Qd w γ A bd mx mv) (hm:mx=none->m=cap) (hm':mx≠none->bc d limM mx=some m/\limM<=cap)
  (hmh:mx≠none->hi≠none) (hh:bc len lh hi=some h) (hlh:lh<=m) (hl:bc 0 h lo=some l) :
  (Instr.sliceBounds isSlice len cap lv hv mv).run P w=.ok (l,h,m) w/\l<=h/\(hi=none/\h=len\/h<=lh):=by
 have H:l<=h/\∀code,(match lv with|some v=>Instr.sliceBound v h code|none=>pure 0:Sem Nat).run P w=.ok l w:=by
  cases lo with
  | none =>
   cases lv with
   |none=>simp[bc]at hl;subst hl;simp_all
   |some v=>cases hlo
  | some x =>
   cases lv with
   |none=>cases hlo
   |some v=>exact⟨(dV (code:=.index) (P:=P) hl hlo (ZV _)).2,λcode=>(dV hl hlo (ZV _)).1⟩
 obtain⟨H1,H2⟩:=H;cases mx with
 | none =>
  cases mv with
  |some v=>cases hmx
  | none =>
   have:=hm rfl;subst this;cases hi with
   | none =>
    cases hv with
    |some v=>cases hhi
    | none =>simp[bc]at hh;subst hh;refine⟨?_,H1,.inl ⟨rfl,rfl⟩⟩;have h2:=H2 .sliceB;unfold Instr.sliceBounds;cases lv<;>simp_all
   | some x =>
    cases hv with
    |none=>cases hhi
    | some v =>have b:=λcode=>(dV (P:=P) (code:=code) hh hhi hlh).1;refine⟨?_,H1,.inr (dV (P:=P) (code:=.index) hh hhi hlh).2⟩;have h2:=H2 .sliceB;unfold Instr.sliceBounds;cases lv<;>simp_all
 | some xm =>
  cases mv with
  |none=>cases hmx
  | some vm =>
   obtain⟨k,a⟩:=hm' (by simp);have h4:=λcode=>(dV (P:=P) (code:=code) k hmx a).1;cases hi with
   |none=>grind
   | some x =>
    cases hv with
    |none=>cases hhi
    | some v =>have b:=λcode=>(dV (P:=P) (code:=code) hh hhi hlh).1;refine⟨?_,H1,.inr (dV (P:=P) (code:=.index) hh hhi hlh).2⟩;have h2:=H2 .slice3C;unfold Instr.sliceBounds;cases lv<;>simp_all
theorem pi{sz len cap l h:Nat}{a:Option Addr}{lv hv mv:Option Value}(hu:C.P.underlying ty=some (.slice e))(hsz:R6 C.P e=some sz)
  (hb:(Instr.sliceBounds true len cap lv hv mv).run C.P w=.ok (l,h,m) w) :
  (Instr.sliceAt ty (.slice a len cap) lv hv mv).run C.P w=.ok (.slice (if m=l then a else a.map (·.add (l*sz))) (h - l) (m - l)) w:=by
 unfold Instr.sliceAt Instr.slice;simp[aG hu,hb,bj hsz]
theorem GB{sz:Nat}{lo hi mx:Option AV}{lv hv mv:Option Value}
  (hr:ZB C A bd w γ hg nx) (hu:C.P.underlying ty=some (.slice e)) (hsz:R6 C.P e=some sz) (hx:RV w γ A bd x v)
  (hlo:Qd w γ A bd lo lv) (hhi:Qd w γ A bd hi hv) (hmx:Qd w γ A bd mx mv) (hmh:mx≠none->hi≠none) (agree:∀id∈an x,hg id=g.h.get id) :
  Zp C A bd w γ (Instr.sliceAt ty v lv hv mv) (RK (qz sz x lo hi mx g.h)):=by
 refine rk λy k=>?_;have zero:∀(a:Option Addr),v=.slice a 0 0->∀p q r,bc 0 0 lo=some p->bc 0 0 hi=some q->bc 0 0 mx=some r ->
   (Instr.sliceAt ty v lv hv mv).run C.P w=.ok (.slice a 0 0) w:=by
  intro a F p q r h1 h2 u;subst F;have V:=pt u;have U:=pt h2;have Vh:=pt h1;subst V;subst U;subst Vh;obtain⟨b1,b2,J⟩:=dy (P:=C.P) (isSlice:=true) (len:=0) (cap:=0) (l:=0) (h:=0) (m:=0) hlo hhi hmx (λ_=>rfl) (λ_=>⟨u,ZV _⟩) hmh h2 (ZV _) h1;rw[pi hu hsz b1];simp
 unfold qz at k;cases hx with
 | Z6 =>
  dsimp only at k
  split at k
  ·rename_i p q r h1 h2 u;injection k with k;subst k;exact⟨_,(by grind),.Z6 _⟩
  grind
 | TT _ a =>
  dsimp only at k
  split at k
  ·rename_i p q r h1 h2 u;injection k with k;subst k;exact⟨_,(by grind),.TT _ a⟩
  grind
 | YF _ tag sz' a cap ht =>
  cases mx with
  | none =>
   cases mv with
   |some z=>cases hmx
   | none =>
    dsimp only at k
    split at k
    ·cases k
    ·rename_i h I
     split at k
     ·cases k
     ·rename_i l hl;simp only[aa]at k
      split at k
      ·injection k with k;subst k;have K:(bi ([]:List (List AV)))=0:=rfl;rw[K]at I;obtain⟨b1,b2,J⟩:=dy (P:=C.P) (isSlice:=true) (len:=0) (cap:=cap) (d:=0) (limM:=0) hlo hhi hmx (λ_=>rfl) (by grind) hmh I (Jq _) hl;have e1:h=0:=by omega
       have t:l=0:=by omega
       subst e1;subst t;refine⟨_,pi hu hsz b1,?_⟩;have N:iE (0 - 0) (gN 0 ([]:List (List AV)))=[]:=by simp[bE]
       rw[N]
       by_cases hc:cap=0
       ·rw[ZN hc];exact .YF _ tag sz a _ ht
       ·rw[ZF hc];exact .YF _ tag sz _ _ ht
      grind
  | some xm =>
   dsimp only at k;cases mv with
   |none=>cases hmx
   | some vm =>
    split at k
    ·rename_i p q r h1 h2 u;injection k with k;subst k;have e1:p=0:=by have:=Bq h1;omega
     subst e1;obtain⟨b1,b2,J⟩:=dy (P:=C.P) (isSlice:=true) (len:=0) (cap:=cap) (d:=0) (limM:=0) (m:=0) hlo hhi hmx (by grind) (λ_=>⟨h1,Jq _⟩) hmh h2 (ZV _)
      (by rw[pt h2];exact u)
     have e1:q=0:=by omega
     have t:r=0:=by omega
     subst e1;subst t;refine⟨_,pi hu hsz b1,?_⟩;simpa using RV.TT _ a
    grind
 | Zs _ tag sz' rows b o cap cell ht hc hb hm ha hrl ho hw hcell hcl =>
  cases mx with
  | none =>
   cases mv with
   |some z=>cases hmx
   | none =>
    simp only[ax,bE,bu]at k
    split at k
    ·cases k
    ·rename_i h I
     split at k
     ·cases k
     ·rename_i l hl;simp only[aa]at k
      split at k
      ·rename_i s;have s:=aH s;subst s;injection k with k;subst k;obtain⟨b1,b2,J⟩:=dy (P:=C.P) (isSlice:=true) (len:=rows.length) (cap:=cap) (d:=0) (limM:=0) hlo hhi hmx (λ_=>rfl) (by grind) hmh I hc hl;have e1:h<=rows.length:=by omega
       refine⟨_,pi hu hsz b1,?_⟩;have L:((rows.drop l).take (h - l)).length=h - l:=by grind
       by_cases hc0:cap=l
       ·rw[ZN hc0];have t:h - l=0:=by omega
        rw[t,aeb];exact .YF _ tag sz _ _ ht
       ·rw[ZF hc0];simp only[PW,ij];have:=RV.Zs (w:=w) (γ:=γ) (A:=A) bd tag sz ((rows.drop l).take (h - l)) b (o+l*sz) (cap - l) (λi j=>cell (l+i) j) ht (by omega) hb hm ha
         (by grind) (by grind) (by grind) (by grind) (by grind)
        all_goals grind
      grind
  | some xm =>
   dsimp only at k;cases mv with
   |none=>cases hmx
   | some vm =>
    split at k
    ·rename_i p q r h1 h2 u;injection k with k;subst k;have e1:p=0:=by have:=Bq h1;omega
     subst e1;cases hi with
     |none=>grind
     | some z =>
      cases hv with
      |none=>cases hhi
      | some vh =>
       have e0:=pt h2;subst e0;obtain⟨b1,b2,J⟩:=dy (P:=C.P) (isSlice:=true) (len:=rows.length) (cap:=cap) (d:=0) (limM:=0) (m:=0) (lh:=0) (h:=0) hlo hhi hmx (by grind) (λ_=>⟨h1,Jq _⟩) hmh h2 (ZV _) u;have t:r=0:=by omega
       subst t;refine⟨_,pi hu hsz b1,?_⟩;simpa using RV.TT _ _
    grind
 | ZG _ id ep off len lim b0 o0 cap0 hk he hc0 h0 =>
  have B:=agree id (by simp[an]);dsimp only at k;rw[<-B]at k;cases hid:hg id with
  | cells sz' rows ep' loose fz =>
   rw[hid]at k;simp only[aa,ax]at k
   split at k
   ·rename_i c;simp only[Zk,R1]at c;obtain⟨⟨h1,h2⟩,u⟩:=c;have h1:=aH h1;have h2:=aH h2;subst h1;subst h2;obtain⟨cap,F,X,f⟩:=xW hr (RV.ZG bd id ep off len lim b0 o0 cap0 hk he hc0 h0) hid;rw[F];have M:=hr.obj id;rw[hid]at M;obtain⟨Y,k2,k3,Z,k5,_⟩:=M
    split at k
    ·cases k
    ·rename_i m hm
     split at k
     ·cases k
     ·rename_i h I
      split at k
      ·cases k
      ·rename_i l hl
       let H:=lim.getD (rows.length - off)
       have O:H<=cap:=by
        unfold jU at f
        grind
       have n:lim≠none\/loose=false->cap=H:=by
        unfold jU at f
        grind
       have R:mx≠none->m<=H:=by
        intro h;cases mx with
        |none=>grind
        | some z=>cases mv with
         |none=>cases hmx
         |some zv=>exact Bq hm
       have T:mx=none->m=H:=by intro h;subst h;simp[bc]at hm;omega
       let mR:=if mx=none then cap else m
       have Q:m<=mR:=by grind
       obtain⟨b1,b2,J⟩:=dy (P:=C.P) (isSlice:=true) (len:=len) (cap:=cap) (d:=H) (limM:=H) (m:=mR) (lh:=m) hlo hhi hmx
        (λh=>by grind) (λh=>⟨by grind,O⟩) hmh I Q hl
       refine⟨_,pi hu hsz b1,?_⟩;have L:len<=H:=by
        unfold jU at f
        grind
       have W:h<=m:=by grind
       split at k
       ·rename_i D;have D:=aH D;subst D;have e1:h=m:=by omega
        subst e1
        split at k
        ·rename_i c;injection k with k;subst k;have t:mR=h:=by
          simp only[mR];split
          ·rename_i E;rw[n,T E];subst E;simp at c
           grind
          ·rfl
         rw[ZN t,t,Yp];exact .TT _ _
        ·injection k with k;subst k;rw[Yp]
         by_cases h9:mR=h
         ·rw[ZN h9];exact .YF _ 0 sz _ _ (Jq _)
         ·rw[ZF h9];exact .YF _ 0 sz _ _ (Jq _)
       ·rename_i D;injection k with k;subst k;have hlt:l<m:=by rcases TU l m with h9|h9<;>grind[X_]
        rw[ZF (show ¬mR=l by omega)];simp only[PW,ij];refine .ZG _ id ep (off+l) (h - l) _ _ _ _ Y (by omega) (by omega) λ_=>⟨rfl,by grind,?_⟩;cases mx with
        | some z =>
         have N:mR=m:=by simp[mR]
         have e4:=R (by simp);simp only[jU];rw[N,Z];unfold jU at f
         grind
        | none =>
         have N:mR=cap:=by simp[mR]
         unfold jU at f ⊢
         grind
   grind
  |_=>grind
 |_=>cases k
end
section
variable {C:ZO}{A:Nat->Nat->Prop}{bd:Nat}{w w':World}{γ γ':Gm}{hg:Nat->ZM}{nx:Nat}
theorem uR{α:Type}{f:α->Option Nat}:∀{l:List α} {m:Nat},jv f l=some m->∀x∈l,∃k,f x=some k/\k<=m:=by
 intro l
 induction l with
 |nil=>grind
 | cons a l ih =>
  intro m h x hx;simp only[jv]at h
  grind
theorem J4:∀(f:Nat) {x:AV} {v:Value} {m:Nat},fZ f x=some m->RV w γ A bd x v->RV w γ A m x v:=by
 intro f
 induction f with
 |zero=>intro x v m h;cases h
 | succ f ih =>
  intro x v m h hx;have hs:∀{cs:List AV} {vs:Array Value} {m':Nat},jv (fZ f) cs=some m'->m'<=m ->
    (∀(i:Nat) x v,cs[i]?=some x->vs[i]?=some v->RV w γ A bd x v)->∀(i:Nat) x v,cs[i]?=some x->vs[i]?=some v->RV w γ A m x v:=by
   intro cs vs m' h1 h2 e i x v hi c;obtain⟨k,d,k2⟩:=uR h1 x (YH hi)<;>grind[RV.mono]
  cases hx with
  | Zs _ tag sz rows b o cap cell ht hc hb hm ha hrl ho hw hcell hcl =>simp only[fZ]at h;injection h with h;subst h;exact .Zs _ tag sz rows b o cap cell (ZV _) hc hb hm ha hrl ho hw hcell hcl
  | YF _ tag sz a cap ht =>simp only[fZ]at h;injection h with h;subst h;exact .YF _ tag sz a cap (ZV _)
  | ZR _ tag sz rows i0 UI b o cell ht hb hm ha hrl ho hw hcell hcl =>simp only[fZ]at h;injection h with h;subst h;exact .ZR _ tag sz rows i0 UI b o cell (ZV _) hb hm ha hrl ho hw hcell hcl
  |agg _ xs vs hl h1 h2=>exact .agg _ _ _ hl h1 (hs h (ZV _) h2)
  |Zz _ xs vs hl h2=>exact .Zz _ _ _ hl (hs h (ZV _) h2)
  | ZH _ g xs ys vs us hl hl2 h1 h2 =>
   simp only[fZ]at h;have ha:=uR h;refine .ZH _ g xs ys vs us hl hl2 (λi x v hi c=>?_) (λi x v hi c=>?_)
   ·obtain⟨k,d,k2⟩:=ha x (aeo _ (YH hi))<;>grind[RV.mono]
   ·obtain⟨k,d,k2⟩:=ha x (aeg _ (YH hi))<;>grind[RV.mono]
  |J7 _ t x v h1=>exact .J7 _ t x v (ih h h1)
  |bool=>exact .bool _ _
  |int=>exact .int _ _ _
  |str=>exact .str _ _
  |Ud=>exact .Ud _
  |Z6=>exact .Z6 _
  |Mq=>exact .Mq _
  |Xu=>exact .Xu _
  |tO=>exact .tO _
  |TT _ a=>exact .TT _ a
  |ZG _ id ep off len lim b o cap hk he hc h'=>cases h
  |ZD _ id ep i off b o hk he h'=>cases h
  |hmap _ id b hk hb=>cases h
  |NH _ id b hk hb=>cases h
theorem fU{α:Type}{f:α->Option Nat}{b:Nat}:∀{l:List α} {m:Nat},jv f l=some m->(∀x∈l,∀k,f x=some k->k<=b)->m<=b:=by
 intro l
 induction l with
 |nil=>grind[jv]
 | cons a l ih =>
  intro m h hb;simp only[jv]at h
  grind
theorem Et:∀(f:Nat) {x:AV} {v:Value} {m:Nat},fZ f x=some m->RV w γ A bd x v->m<=bd:=by
 intro f
 induction f with
 |zero=>intro x v m h;cases h
 | succ f ih =>
  intro x v m h hx;have hs:∀{cs:List AV} {vs:Array Value},cs.length=vs.size ->
    (∀(i:Nat) x v,cs[i]?=some x->vs[i]?=some v->RV w γ A bd x v)->∀x∈cs,∀k,fZ f x=some k->k<=bd:=by
   intro cs vs hl c x hx k hk;obtain⟨i,hi⟩:=QG hx;have hlt:i<vs.size:=by grind
   exact ih hk (c i x _ hi (Np hlt))
  cases hx with
  |Zs _ tag sz rows b o cap cell ht hc hb hm ha hrl ho hw hcell hcl=>grind[fZ]
  |YF _ tag sz a cap ht=>grind[fZ]
  |ZR _ tag sz rows i0 UI b o cell ht hb hm ha hrl ho hw hcell hcl=>grind[fZ]
  |agg _ xs vs hl h1 h2=>exact fU h (hs hl h2)
  |Zz _ xs vs hl h2=>exact fU h (hs hl h2)
  | ZH _ g xs ys vs us hl hl2 h1 h2 =>refine fU h λx hx k hk=>?_<;>grind
  |J7 _ t x v h1=>exact ih h h1
  |_=>grind[fZ]
theorem Mg:∀(f:Nat) {x:AV} {v:Value} {m:Nat},fZ f x=some m->RV w γ A bd x v->Closed x:=by
 intro f
 induction f with
 |zero=>intro x v m h;cases h
 | succ f ih =>
  intro x v m h hx;have hs:∀{cs:List AV} {vs:Array Value},cs.length=vs.size->(∀x∈cs,∃k,fZ f x=some k) ->
    (∀(i:Nat) x v,cs[i]?=some x->vs[i]?=some v->RV w γ A bd x v)->∀x∈cs,Closed x:=by
   intro cs vs hl h1 c x hx;obtain⟨i,hi⟩:=QG hx;have hlt:i<vs.size:=by grind
   obtain⟨k,hk⟩:=h1 x hx;exact ih hk (c i x _ hi (Np hlt))
  have he:∀{cs:List AV} {m':Nat},jv (fZ f) cs=some m'->∀x∈cs,∃k,fZ f x=some k:=λh x hx=>by obtain⟨k,d,_⟩:=uR h x hx<;>grind
  cases hx with
  |Zs _ tag sz rows b o cap cell ht hc hb hm ha hrl ho hw hcell hcl=>exact .Zs _ _ _ hcl
  |YF=>exact .Zs _ _ _ (by grind)
  |ZR _ tag sz rows i0 UI b o cell ht hb hm ha hrl ho hw hcell hcl=>exact .ZR _ _ _ _ _ hcl
  |agg _ xs vs hl h1 h2=>exact .agg _ (hs hl (he h) h2)
  |Zz _ xs vs hl h2=>exact .Zz _ (hs hl (he h) h2)
  | ZH _ g xs ys vs us hl hl2 h1 h2 =>have a:=he h;exact .ZH _ _ _ (hs hl (λx hx=>a x (aeo _ hx)) h1) (hs hl2 (λx hx=>a x (aeg _ hx)) h2)
  |J7 _ t x v h1=>exact .J7 _ _ (ih h h1)
  |_=>first| (cases h;done)|constructor
theorem Ax{rows:List (List AV)}{i j:Nat}{row:List AV}(h:it rows=some m)(hi:rows[i]?=some row)(hj:row[j]?=some x)
  (hv:RV w γ A bd x v):RV w γ A m x v:=by
 obtain⟨k,a,k2⟩:=uR h row (YH hi);obtain⟨k',b,c⟩:=uR a x (YH hj);exact (J4 _ b hv).mono (Y1 c k2)
theorem EY{sz:Nat}:∀(n:Nat) (cs:List AV),n*sz<=cs.length ->
  (ut sz n cs).length=n/\∀(i:Nat) row,(ut sz n cs)[i]?=some row->row.length=sz/\∀(j:Nat) x,row[j]?=some x->cs[i*sz+j]?=some x:=by
 intro n
 induction n with
 |zero=>simp_all[ut]
 | succ n ih =>intro cs h;rw[UF,VT]at h;obtain⟨h1,h2⟩:=ih (cs.drop sz) (by grind);simp only[ut,bu,bE];refine⟨by simp[h1],λi row hi=>?_⟩;cases i<;>grind
theorem ZB.freeze(hr:ZB C A bd w γ hg nx){id sz ep:Nat}{rows:List (List AV)}{loose fz:Bool}(hid:hg id=.cells sz rows ep loose fz) :
  ∃γ',ZB C A bd w γ' (upd hg id (.cells sz rows ep loose true)) nx/\Stp w γ w γ'/\γ'=upd γ id { γ id with wr:=false }/\¬VA γ' (γ id).blk:=by
 have k:=hr.obj id;rw[hid]at k;obtain⟨f,k2,l,m,n,r,c,e,o,p,q,d⟩:=k;have s:Stp w γ w (upd γ id { γ id with wr:=false }):=by
  refine⟨ZV _,rfl,rfl,rfl,λ_ _ _=>rfl,?_,?_,?_,ZV _⟩
  ·rintro b _ ⟨j,h1,h2,h⟩
   by_cases hj:j=id
   ·simp_all
   ·rw[dz _ _ hj]at h1 h2 h;exact⟨j,h1,h2,h⟩
  ·intro j hk
   by_cases hj:j=id
   all_goals simp_all[dz]
  ·intro j hk
   by_cases hj:j=id
   all_goals simp_all[dz]
 refine⟨_,hr.set rfl s (ZV _) ?_ (hr.lt id (by omega)) (λj hj hkj e=>hj (hr.inj j id hkj (by omega) e)) (hr.av id (by omega)) (by grind),s,rfl,?_⟩
 ·simp only[XK,upd_same];refine⟨f,k2,l,m,n,rfl,c,e,o,p,q,λi j row x h1 h2=>?_⟩;obtain⟨a,v,b1,b2⟩:=d i j row x h1 h2<;>grind[RV.step]
 ·rintro⟨j,h1,h2,h⟩
  by_cases hj:j=id
  ·simp_all
  ·rw[dz _ _ hj]at h1 h2 h;exact hj (hr.inj j id h1 (by omega) h)
theorem JT{sz:Nat}{a:T->AV}{lo hi:T->Option AV}{lv hv:Option Value}
  (hr:ZB C A bd w γ hg nx) (hu:C.P.underlying ty=some (.array n e)) (hsz:R6 C.P e=some sz) (hs0:0<sz) (hx:RV w γ A bd (a t) v)
  (hlo:Qd w γ A bd (lo t) lv) (hhi:Qd w γ A bd (hi t) hv) (agree:∀id∈an (a t),hg id=g.h.get id) :
  dY C A bd w γ hg nx (Instr.sliceAt ty v lv hv none) g (jS n sz a lo hi t g):=by
 unfold jS;generalize a t=x at *;generalize lo t=lo at *;generalize hi t=hi at *
 split
 ·trivial
 ·rename_i h J
  split
  ·trivial
  ·rename_i l hl;obtain⟨b1,b2,O⟩:=dy (P:=C.P) (isSlice:=false) (len:=n) (cap:=n) (d:=0) (limM:=0) (mx:=none) (mv:=none) hlo hhi trivial (λ_=>rfl) (by grind)
    (by grind) J (ZV _) hl
   have K:h<=n:=by omega
   have q:∀b o,v=.pointer (some (Zo b o))->(Instr.sliceAt ty v lv hv none).run C.P w=.ok (.slice (some (if n=l then Zo b o else Zo b (o+l*sz))) (h - l) (n - l)) w:=by simp_all[Instr.sliceAt,Instr.sureAddr,ij,aG,bj]
   cases hx with
   | ZR _ tag sz' rows i0 UI b o cell ht hb hm ha hrl ho hw c hcl =>
    simp only[eI];cases hrow:rows[i0]? with
    |none=>trivial
    | some row =>
     simp only[aa,ax,bu]
     split
     ·rename_i u;rw[R1]at u;have F:l*sz+(h - l)*sz<=n*sz:=by rw[<-UF];simp_all[abs]
      obtain⟨c1,E⟩:=EY (sz:=sz) (h - l) (row.drop (UI+l*sz)) (by grind);refine⟨_,q _ _ rfl,?_⟩
      by_cases hnl:n=l
      ·have e0:h - l=0:=by omega
       rw[e0,ZN hnl];exact .YF _ tag sz _ _ ht
      ·rw[ZF hnl];have:=RV.Zs (w:=w) (γ:=γ) (A:=A) bd tag sz (ut sz (h - l) (row.drop (UI+l*sz))) b (o+i0*sz'+UI+l*sz) (n - l) (λi j=>cell i0 (UI+l*sz+(i*sz+j))) ht (by omega) hb hm ha
        (by grind) (by grind) (by grind) (by grind)
        (λr hr' y hy=>by obtain⟨i,hi⟩:=QG hr';obtain⟨j,f⟩:=QG hy;have h9:=(E i r hi).2 j y f;rw[RS]at h9;exact hcl row (YH hrow) y (YH h9))
       ·grind
       all_goals
        grind
     ·trivial
   | ZD _ id ep i off b o hk he h' =>
    have p:=agree id (by simp[an]);simp only[G.get_eq,<-p];cases hid:hg id with
    | cells sz' rows ep' loose fz =>
     simp only[aa,eI]
     split
     ·rename_i s;have s:=aH s;subst s;cases hrow:rows[i]? with
      |none=>trivial
      | some row =>
       simp only[ax,bu]
       split
       ·rename_i u;rw[R1]at u;have F:l*sz+(h - l)*sz<=n*sz:=by rw[<-UF];simp_all[abs]
        obtain⟨c1,E⟩:=EY (sz:=sz) (h - l) (row.drop (off+l*sz)) (by grind);generalize hch:ut sz (h - l) (row.drop (off+l*sz))=rs at *;cases htag:it rs with
        |none=>trivial
        | some m =>
         dsimp only;have D:=hr.obj id;rw[hid]at D;obtain⟨H,k2,L,_⟩:=D;obtain⟨q1,q2⟩:=h' k2.symm;obtain⟨γ',M,I,Q,N⟩:=hr.freeze hid;refine⟨_,w,γ',id,_,q _ _ (by rw[q1,q2]),?_,I,.inl ⟨rfl,M⟩⟩;have c:∀(i' j:Nat) r y,rs[i']?=some r->r[j]?=some y->y.one=true/\∃v,w.cell? (Zo (γ id).blk ((γ id).base+i*(γ id).sz+off+l*sz+i'*sz+j))=some v/\RV w γ A bd y v:=by
          intro i' j r y hi f;have h9:=(E i' r hi).2 j y f;rw[RS]at h9;have:=yN hr hid hrow _ y h9
          grind
         have B:m<=bd:=by refine fU htag λr hr' k hk=>fU hk λy hy k' hk'=>?_;obtain⟨i',hi⟩:=QG hr';obtain⟨j,f⟩:=QG hy;obtain⟨_,v,_,z⟩:=c i' j r y hi f;exact Et _ hk' z
         by_cases hnl:n=l
         ·have e0:rs=[]:=by simp_all
          rw[ZN hnl,show h - l=0 from by omega,e0];exact .YF _ m sz _ _ B
         ·rw[ZF hnl];subst q1;have:=RV.Zs (w:=w) (γ:=γ') (A:=A) bd m sz rs (γ id).blk ((γ id).base+i*(γ id).sz+off+l*sz) (n - l)
           (λi' j=>(w.cell? (Zo (γ id).blk ((γ id).base+i*(γ id).sz+off+l*sz+i'*sz+j))).getD undef) B (by omega)
           (hr.lt id (by omega)).2 N (hr.av id (by omega) m)
           (by grind) (by grind) (λi j r y hi f=>?_) (λi j r y hi f=>?_)
           (λr hr' y hy=>by obtain⟨i,hi⟩:=QG hr';obtain⟨j,f⟩:=QG hy;obtain⟨_,v,_,z⟩:=c i j r y hi f;obtain⟨k,H,k2⟩:=uR htag r hr';obtain⟨k',L,_⟩:=uR H y hy<;>grind[Mg])
          ·grind
          ·obtain⟨_,v,z,_⟩:=c i j r y hi f
           grind
          ·obtain⟨_,v,z,h4⟩:=c i j r y hi f;rw[z];exact (Ax htag hi f h4).step I
       ·trivial
     ·trivial
    |_=>trivial
   |_=>trivial
end
section
variable {C:ZO}{A:Nat->Nat->Prop}{bd:Nat}{w w':World}{γ γ':Gm}{hg:Nat->ZM}{nx:Nat}
theorem mz{s:Sem Value}(h:oJ s=some y)(P:Program)(w:World):∃v,s.run P w=.ok v w/\RV w γ A bd y v:=by
 unfold oJ at h
 split at h
 ·injection h with h;subst h;exact⟨_,rfl,.int _ _ _⟩
 ·injection h with h;subst h;exact⟨_,rfl,.bool _ _⟩
 grind
theorem Ms{P:Program}{op:BinOp}{k:IntKind}{r:Nat}(hs:o5 k m n=true)
  (h:(match op with
    |.and=>some (AV.int k (.ofNat (Nat.land m n)))
    |.or=>some (.int k (.ofNat (Nat.lor m n)))
    |.xor=>some (.int k (.ofNat (Nat.xor m n)))
    |.andNot=>some (.int k (.ofNat (Nat.xor m (Nat.land m n))))
    |_=>none)=some (.int k (.ofNat r))):(Op.intBits op k (.ofNat m) (.ofNat n)).run P w=.ok (.int k (.ofNat r)) w:=by
 have b:k.bits=64/\m<2 ^ 64/\n<2 ^ 64/\∀x:Nat,x<2 ^ 64->(k=.i64->x<2 ^ 63)->k.wrap (x:Int)=(x:Int):=by
  unfold o5 at hs;cases k<;>simp only[Zk,YD,Uc]at hs
  ·exact⟨rfl,by omega,by omega,λx _ h=>vo x (by grind)⟩
  ·refine⟨rfl,by omega,by omega,λx h _=>?_⟩;rw[<-je];show (Int.ofNat (x % 18446744073709551616))=_
   grind
 have a:k=.i64->m<2 ^ 63/\n<2 ^ 63:=by intro e;simp_all[o5]
 obtain⟨hb,hm,c,hw⟩:=b;have e1:(BitVec.ofInt k.bits (Int.ofNat m)).toNat=m:=by grind
 have d:(BitVec.ofInt k.bits (Int.ofNat n)).toNat=n:=by grind
 have fin:∀(z:BitVec k.bits) (q:Nat),z.toNat=q->q<2 ^ 64->(k=.i64->q<2 ^ 63)->q=r ->
   (Sem.pure (Value.int k (k.wrap z.toNat)):Sem Value).run P w=.ok (.int k (.ofNat r)) w:=by
  intro z q h1 h2 f h4;simp_all
 unfold Op.intBits;cases op<;>first| (cases h;done)|skip
 case and =>injection h with h;injection h with _ h;injection h with h;exact fin _ (m &&& n) (by grind) (ad5 _ c) (λe=>ad5 _ (a e).2) h
 case or =>injection h with h;injection h with _ h;injection h with h;exact fin _ (m ||| n) (by grind) (adQ hm c) (λe=>adQ (a e).1 (a e).2) h
 case xor =>injection h with h;injection h with _ h;injection h with h;exact fin _ (m ^^^ n) (by grind) (ad6 hm c) (λe=>ad6 (a e).1 (a e).2) h
 case andNot =>
  injection h with h;injection h with _ h;injection h with h;have hx:∀(x y:BitVec k.bits),x &&& ~~~y=x ^^^ (x &&& y):=by grind
  exact fin _ (m ^^^ (m &&& n)) (by grind) (ad6 hm (ad5 _ c))
   (λe=>ad6 (a e).1 (ad5 _ (a e).2)) h
theorem M2{P:Program}{op:BinOp}{k k':IntKind}{a b:Int}(h:(fT op).run k a k' b=some y) :
  ∃v,(binOp op ty (.int k a) (.int k' b)).run P w=.ok v w/\RV w γ A bd y v:=by
 have hk:∀{α:Type} {x:Option α} {y:α},ap (dG k k') x none=some y->k=k'/\x=some y:=by grind[aa,tZ]
 cases op
 case add|sub|mul =>obtain⟨rfl,h1⟩:=hk h;injection h1 with h1;subst h1;refine⟨_,by simp only[binOp,Op.intArith,ne_eq,not_true,if_false];rfl,?_⟩;rw[je];exact .int _ _ _
 case quo =>
  obtain⟨rfl,h1⟩:=hk h;clear h;unfold X3 at h1;simp only[binOp,ne_eq,not_true,if_false]
  split at h1
  ·rename_i m n;injection h1 with h1;subst h1;refine⟨_,?_,by rw[je];exact .int _ _ _⟩;unfold Op.intDiv;rw[ZF (by grind)]
   rfl
  simp_all[mz]
 case rem =>
  obtain⟨rfl,h1⟩:=hk h;clear h;unfold X6 at h1;simp only[binOp,ne_eq,not_true,if_false]
  split at h1
  ·rename_i m n;injection h1 with h1;subst h1;refine⟨_,?_,.int _ _ _⟩;unfold Op.intDiv;rw[ZF (by grind)]
   rfl
  simp_all[mz]
 case and|or|xor|andNot =>
  obtain⟨rfl,h1⟩:=hk h;clear h;unfold WG at h1;simp only[binOp,ne_eq,not_true,if_false]
  split at h1
  ·rename_i m n;rw[aa]at h1
   split at h1
   ·rename_i hs;have h0:=h1;injection h1 with h1;subst h1;exact⟨_,Ms hs h0,.int _ _ _⟩
   simp_all[mz]
  simp_all[mz]
 case shl =>
  change T9 k a b=some y at h;unfold T9 at h;simp only[binOp]
  split at h
  ·rename_i m n;injection h with h;subst h;refine⟨_,?_,by rw[je];exact .int _ _ _⟩;simp_all[Op.shift,ZF]
  ·exact mz (s:=Op.shift .shl k a k' b) h P w
 case shr =>
  change T_ k a b=some y at h;unfold T_ at h;simp only[binOp]
  split at h
  ·rename_i m n;injection h with h;subst h;refine⟨_,?_,.int _ _ _⟩;unfold Op.shift;rw[ZF (by grind)];have:(Int.ofNat n).toNat=n:=rfl
   grind[MV]
  ·exact mz (s:=Op.shift .shr k a k' b) h P w
 all_goals
  obtain⟨rfl,h1⟩:=hk h;injection h1 with h1;subst h1;refine⟨_,by simp only[binOp,Op.intCmp,ne_eq,not_true,if_false];rfl,?_⟩;simp only[mK,oT,rq]
 case eql=>exact .bool _ _
 case neq =>rw[show (a != b) = !decide (a=b) from by grind];exact .bool _ _
 case lss=>exact .bool _ _
 case leq =>rw[show decide (a<=b) = !decide (b<a) from by grind];exact .bool _ _
 case gtr=>exact .bool _ _
 case geq =>rw[show decide (a >= b) = !decide (a<b) from by grind];exact .bool _ _
end
section
variable {C:ZO}{A:Nat->Nat->Prop}{bd:Nat}{w w':World}{γ γ':Gm}{hg:Nat->ZM}{nx:Nat}
theorem ia{P:Program}{b:Nat}{o:Obj}(h:w.heap[b]?=some o)(hc:∀c e f,o≠.cells c e f):(getObj b).run P w=.ok o w:=by simp_all[getObj,Sem.run]
theorem jy{P:Program}{b:Nat}{o o':Obj}(h:w.heap[b]?=some o)(hc:∀c e f,o≠.cells c e f):(setObj b o').run P w=.ok () (World.setBlk w b o'):=by simp_all[setObj,Sem.run,World.setBlk]
theorem Vy{argTypes:Array TypeId}{t:TypeId}(hr:ZB C A bd w γ hg nx)(h0:argTypes[0]?=some t)
  (hx:RV w γ A bd x v) (agree:oU C.P t=.map->∀id∈By x,hg id=g.h.get id) :
  Zp C A bd w γ (Builtin.len_ argTypes ty #[v]) (gz (oU C.P t) x g):=by
 have a0:(#[v]:Array Value)[0]?=some v:=rfl;unfold Builtin.len_ oU;cases hu:C.P.underlying t with
 |none=>trivial
 | some d =>
  cases d<;>try trivial
  case array n e =>refine⟨goInt n,?_,.int _ _ _⟩;simp_all[aG]
  case slice e =>
   simp only[gz];cases hx with
   |Z6=>exact⟨goInt 0,by simp_all[aG],.int _ _ _⟩
   |TT _ a=>exact⟨goInt 0,by simp_all[aG],.int _ _ _⟩
   | Zs _ tag sz rows b o cap cell ht hc hb hm ha hrl ho hw h =>refine⟨goInt rows.length,by simp_all[aG],?_⟩;rw[ax];exact .int _ _ _
   |YF _ tag sz a cap ht=>exact⟨goInt 0,by simp_all[aG],.int _ _ _⟩
   |ZG _ id ep off len lim b o cap hk he hc h=>exact⟨goInt len,by simp_all[aG],.int _ _ _⟩
   |_=>trivial
  case string =>
   simp only[gz];cases hx with
   |str _ s=>exact⟨goInt s.size,by simp_all[aG],.int _ _ _⟩
   |_=>trivial
  case map kt et =>
   simp only[gz];cases hx with
   |Xu=>exact⟨goInt 0,by simp_all[aG],.int _ _ _⟩
   | hmap _ id b hk hb =>
    have k:=agree (by grind[oU]) id (by simp[By]);simp only[G.get_eq,<-k];cases hid:hg id with
    | map es =>have c:=hr.obj id;rw[hid]at c;obtain⟨f,k2,esC,i,j,l⟩:=c;subst hb;refine⟨goInt es.length,?_,by rw[ax];exact .int _ _ _⟩;simp_all[aG,ia]
    |_=>trivial
   |_=>trivial
theorem U1{argTypes:Array TypeId}{t:TypeId}(hr:ZB C A bd w γ hg nx)(h0:argTypes[0]?=some t)(hu:C.P.underlying t=some (.slice e))
  (hx:RV w γ A bd x v) (agree:∀id∈an x,hg id=g.h.get id) :
  Zp C A bd w γ (Builtin.cap_ argTypes ty #[v]) (RG x g):=by
 have a0:(#[v]:Array Value)[0]?=some v:=rfl;unfold RG;cases hx with
 |Z6=>exact⟨goInt 0,by simp_all[Builtin.cap_,aG],.int _ _ _⟩
 |TT _ a=>exact⟨goInt 0,by simp_all[Builtin.cap_,aG],.int _ _ _⟩
 | ZG _ id ep off len lim b0 o0 cap0 hk he hc0 h0' =>
  have b:=agree id (by simp[an]);simp only[G.get_eq,<-b];cases hid:hg id with
  | cells sz rows ep' loose fz =>
   simp only[aa]
   split
   ·rename_i k;simp only[Zk,T6,rq,Qw]at k;obtain⟨h1,h2⟩:=k;have h1:=aH h1;subst h1;have c:=hr.obj id;rw[hid]at c;obtain⟨i,k2,j,l,m,_⟩:=c;obtain⟨c1,f,d⟩:=h0' k2.symm;refine⟨goInt cap0,by simp_all[Builtin.cap_,aG],?_⟩;have e:(lim.getD (bi rows - off))=cap0:=by
     rw[ax];unfold jU at d
     grind
    rw[e];exact .int _ _ _
   ·trivial
  |_=>trivial
 |_=>trivial
theorem VC{argTypes:Array TypeId}(hx:RV w γ A bd x v)(hy:RV w γ A bd y u) :
  Zp C A bd w γ (Builtin.max_ argTypes ty #[v,u]) (match x with
   | .int k m=>match y with
    |.int k' n=>ap (dG k k') (.val (.int k (ap (DM m n) n m))) .fail
    |_=>.fail
   |_=>.fail):=by
 cases hx with
 | int _ k m =>
  cases hy with
  | int _ k' n =>
   dsimp only;rw[aa]
   split
   ·refine⟨.int k (if n > m then n else m),by simp[Builtin.max_,Builtin.max2],?_⟩;rw[aa,oT];simp only[RY,gt_iff_lt];exact .int _ _ _
   ·trivial
  |_=>trivial
 |_=>trivial
theorem VD{argTypes:Array TypeId}(hx:RV w γ A bd x v)(hy:RV w γ A bd y u) :
  Zp C A bd w γ (Builtin.min_ argTypes ty #[v,u]) (match x with
   | .int k m=>match y with
    |.int k' n=>ap (dG k k') (.val (.int k (ap (DM n m) n m))) .fail
    |_=>.fail
   |_=>.fail):=by
 cases hx with
 | int _ k m =>
  cases hy with
  | int _ k' n =>
   dsimp only;rw[aa]
   split
   ·refine⟨.int k (if n<m then n else m),by simp[Builtin.min_,Builtin.min2],?_⟩;rw[aa,oT];simp only[RY];exact .int _ _ _
   ·trivial
  |_=>trivial
 |_=>trivial
end
section
variable {t:TypeId}{w:World}
def i8:TypeDesc->Value->Bool
 |.bool,.bool _=>true
 |.int k,.int k' _=>decide (k=k')
 |.string,.string _=>true
 |_,_=>false
def a_:List TypeDesc->List Value->Bool
 |[],[]=>true
 |d::ds,v::vs=>i8 d v&&a_ ds vs
 |_,_=>false
def Ys:Value->Value->Bool
 |.int _ a,.int _ b=>a == b
 |.bool a,.bool b=>a == b
 |.string a,.string b=>a == b
 |_,_=>false
def qE:List Value->List Value->Bool
 |[],[]=>true
 |a::as,b::bs=>Ys a b&&qE as bs
 |_,_=>false
def fD(P:Program)(t:TypeId):Bool:=match wC P t with|some b=>b|none=>false
def mkV(P:Program)(t:TypeId)(cs:List Value):Value:=if fD P t then .agg cs.toArray else cs.headD undef
theorem bS:∀{ds:List TypeDesc} {vs:List Value},a_ ds vs=true->vs.length=ds.length:=by
 intro ds
 induction ds with
 |nil=>grind[a_]
 | cons d ds ih=>intro vs h;cases vs with
  |nil=>grind[a_]
  |cons v vs=>simp_all[a_]
theorem gu{d1 d2:List TypeDesc}:∀{vs:List Value},a_ (d1++d2) vs=true->a_ d1 (vs.take d1.length)=true/\a_ d2 (vs.drop d1.length)=true:=by
 induction d1 with
 |nil=>grind[a_]
 | cons d ds ih =>
  intro vs h;cases vs with
  |nil=>grind[a_]
  | cons v vs =>simp_all[a_]
theorem CT:∀{a1 a2 b1 b2:List Value},a1.length=b1.length->qE (a1++a2) (b1++b2)=(qE a1 b1&&qE a2 b2):=by
 intro a1
 induction a1 with
 |nil=>grind[qE]
 | cons a as ih =>
  intro a2 b1 b2 h;cases b1 with
  |nil=>simp at h
  |cons b bs=>simp_all[qE,Bool.and_assoc]
section
variable {P:Program}
def sB:TypeDesc->Bool
 |.struct _|.array _ _=>true
 |_=>false
theorem fE{d:TypeDesc}(h:P.underlying t=some d) :
  fD P t=sB d/\wC P t=some (fD P t):=by
 grind[fD,wC,sB]
theorem yI{d:TypeDesc}{off:Nat}(hu:P.underlying t=some d)(hn:R6 P t=some n)(h1:fD P t=false->n=1)
  (hle:fD P t=false->off+n<=xs.size):(part t xs off).run P w=.ok (mkV P t ((xs.toList.drop off).take n)) w:=by
 obtain⟨_,ha⟩:=fE hu;unfold mkV;cases hg:fD P t with
 | true =>
  rw[hg]at ha;have e:(xs.extract off (off+n))=((xs.toList.drop off).take n).toArray:=by grind
  simp_all[part,pg,bj]
 | false =>
  rw[hg]at ha;have h:=h1 hg;subst h;have hl:off<xs.size:=by grind
  have e:((xs.toList.drop off).take 1).headD undef=xs[off]:=by simp_all[List.head?_take]
  simp_all[part,pg]
theorem jt{ds:List TypeDesc}(h:qi P d t=some ds):∃k,P.underlying t=some k/\(fD P t=false->ds.length=1):=by
 cases d with
 |zero=>cases h
 | succ d =>
  unfold qi at h;cases hu:P.underlying t with
  |none=>grind
  | some k =>refine⟨k,rfl,λhg=>?_⟩;obtain⟨h1,_⟩:=fE hu<;>grind[sB,aa]
theorem MT{dd:Nat}{rec:TypeId->Option (List TypeDesc)}(hinfo:∀t ds,rec t=some ds->∃k,P.underlying t=some k/\(fD P t=false->ds.length=1))
  (ih:∀t ds,rec t=some ds->∀(xs ys:List Value),a_ ds xs=true->a_ ds ys=true->(Op.equalIn dd t (mkV P t xs) (mkV P t ys)).run P w=.ok (qE xs ys) w)
  {ys:Array Value}:∀(fs:List Field) (k:Nat) (ds:List TypeDesc),Aj P rec fs k=some ds->a_ ds (xs.toList.drop k)=true->a_ ds (ys.toList.drop k)=true ->
   (Op.eqFields dd xs ys fs).run P w=.ok (qE (xs.toList.drop k) (ys.toList.drop k)) w:=by
 intro fs
 induction fs with
 | nil =>
  intro k ds h hx d;simp only[Aj]at h;injection h with h;subst h;have h1:=bS hx;have h2:=bS d;rw[R_ h1,R_ h2]
  rfl
 | cons f fs ihf =>
  intro k ds h hx d;simp only[Aj]at h
  split at h
  ·rename_i ds1 h1
   split at h
   ·rename_i r hr;rw[aa]at h
    split at h
    ·rename_i a;simp only[Zk,bne_iff_ne,ne_eq,beq_iff_eq]at a;obtain⟨⟨c,b⟩,m⟩:=a;have b:=aH b;injection h with h;subst h;obtain⟨n,j⟩:=gu hx;obtain⟨o,l⟩:=gu d;rw[HE]at j l;have lx:=bS hx;have ly:=bS d;simp at lx ly;obtain⟨kd,hu,i⟩:=hinfo _ _ h1;have p1:(part f.type xs f.offset).run P w=.ok (mkV P f.type ((xs.toList.drop k).take ds1.length)) w:=by
      grind[yI]
     have p2:(part f.type ys f.offset).run P w=.ok (mkV P f.type ((ys.toList.drop k).take ds1.length)) w:=by grind[yI]
     have p3:=ih _ _ h1 _ _ n o;have p4:=ihf _ _ hr j l;simp only[Op.eqFields,ne_eq,c,not_false_eq_true,if_true,Qk,p1,p2,p3,abi];have e:=CT (a1:=(xs.toList.drop k).take ds1.length) (a2:=xs.toList.drop (k+ds1.length)) (b1:=(ys.toList.drop k).take ds1.length) (b2:=ys.toList.drop (k+ds1.length))
      (by grind)
     rw[<-HE,<-HE,IV,IV]at e;rw[e,HE,HE];cases hq:qE ((xs.toList.drop k).take ds1.length) ((ys.toList.drop k).take ds1.length)<;>simp_all
    grind
   grind
  grind
theorem Hw{dd:Nat}{de:List TypeDesc}{kd:TypeDesc}(hu:P.underlying e=some kd)(hone:fD P e=false->de.length=1)(hsz:R6 P e=some de.length)
  (ih:∀(xs ys:List Value),a_ de xs=true->a_ de ys=true->(Op.equalIn dd e (mkV P e xs) (mkV P e ys)).run P w=.ok (qE xs ys) w)
  {ys:Array Value}:∀(n i:Nat),a_ (List.replicate n de).flatten (xs.toList.drop (i*de.length))=true->a_ (List.replicate n de).flatten (ys.toList.drop (i*de.length))=true ->
   (Op.eqItems dd e de.length xs ys (List.range' i n)).run P w=.ok (qE (xs.toList.drop (i*de.length)) (ys.toList.drop (i*de.length))) w:=by
 intro n
 induction n with
 | zero =>
  intro i hx h;have h1:=bS hx;have h2:=bS h;rw[R_ (l:=xs.toList.drop _) (by grind),R_ (l:=ys.toList.drop _) (by grind)]
  rfl
 | succ n ihn =>
  intro i hx h;rw[VZ,ad_]at hx h;obtain⟨b,k⟩:=gu hx;obtain⟨c,a⟩:=gu h;have lx:=bS b;have ly:=bS c;simp at lx ly;rw[HE]at k a;have em:i*de.length+de.length=(i+1)*de.length:=by grind
  rw[em]at k a;have p1:(part e xs (i*de.length)).run P w=.ok (mkV P e ((xs.toList.drop (i*de.length)).take de.length)) w:=yI hu hsz hone λhg=>by grind
  have p2:(part e ys (i*de.length)).run P w=.ok (mkV P e ((ys.toList.drop (i*de.length)).take de.length)) w:=yI hu hsz hone λhg=>by grind
  have p3:=ih _ _ b c;have p4:=ihn (i+1) k a;rw[adV];simp only[Op.eqItems,Qk,p1,p2,p3,abi];have ee:=CT (a1:=(xs.toList.drop (i*de.length)).take de.length) (a2:=xs.toList.drop ((i+1)*de.length)) (b1:=(ys.toList.drop (i*de.length)).take de.length) (b2:=ys.toList.drop ((i+1)*de.length))
   (by grind)
  rw[<-em,<-HE,<-HE,IV,IV,HE,HE,em]at ee;rw[ee];cases hq:qE ((xs.toList.drop (i*de.length)).take de.length) ((ys.toList.drop (i*de.length)).take de.length)<;>simp_all
theorem My(h:R6 P t=some n):P.cellsOf t=n/\∃i,P.info? t=some i:=by unfold R6 at h;unfold Program.cellsOf;cases hi:P.info? t<;>grind
theorem Jo(D:Nat):∀(d:Nat) (t:TypeId) (ds:List TypeDesc),qi P d t=some ds->∀(w:World) (xs ys:List Value),a_ ds xs=true->a_ ds ys=true ->
  (Op.equalIn (D+d) t (mkV P t xs) (mkV P t ys)).run P w=.ok (qE xs ys) w:=by
 intro d
 induction d with
 |zero=>intro t ds h;cases h
 | succ d ih =>
  intro t ds h w xs ys hx c;unfold qi at h;have one:∀k,P.underlying t=some k->qh k=true->sB k=false->ds=[k]->(Op.equalIn (D+(d+1)) t (mkV P t xs) (mkV P t ys)).run P w=.ok (qE xs ys) w:=by
   intro k hu hk o j;obtain⟨h1,_⟩:=fE hu;subst j;have hm:∀zs,mkV P t zs=zs.headD undef:=by grind[mkV]
   rw[hm,hm];have lx:=bS hx;have ly:=bS c
   match xs,ys,lx,ly with
   | [x],[y],_,_ =>
    simp only[a_,Qh]at hx c;simp only[List.headD_cons,qE,Qh,<-Nk];cases k<;>simp[qh]at hk<;>cases x<;>simp[i8]at hx<;>cases y<;>simp[i8]at c
    ·simp[Op.equalIn,aG hu,Ys]
    ·subst hx;subst c;simp[Op.equalIn,aG hu,Ys]
    ·simp[Op.equalIn,aG hu,Ys]
  cases hu:P.underlying t with
  |none=>grind
  | some k =>
   rw[hu]at h;cases k
   case struct fs =>
    simp only[aa]at h
    split at h
    ·cases h
    ·rename_i a;have a:P.stoodInHeld t=false:=by grind
     have l:P.fieldsOf t=fs:=by grind[Program.fieldsOf]
     have hm:∀zs,mkV P t zs=.agg zs.toArray:=by intro zs;unfold mkV;rw[(fE hu).1];rfl
     rw[hm,hm,<-Nk,run_equalIn_struct w (D+d) t _ _ (by grind) a,l];have:=MT (P:=P) (w:=w) (dd:=D+d) (rec:=qi P d) (λt ds h=>jt h) (by grind) (xs:=xs.toArray) (ys:=ys.toArray)
      fs.toList 0 ds h (by grind) (by grind)
     grind
   case array n e =>
    simp only at h
    split at h
    ·rename_i de f;simp only[aa]at h
     split at h
     ·rename_i b;injection h with h;subst h;have b:R6 P e=some de.length:=by grind
      obtain⟨kd,p,m⟩:=jt f;obtain⟨hc,i,hi⟩:=My b;have hm:∀zs,mkV P t zs=.agg zs.toArray:=by intro zs;unfold mkV;rw[(fE hu).1];rfl
      rw[hm,hm,<-Nk,run_equalIn_array w (D+d) _ _ hu hi,hc,adT];simp_all[Hw]
     grind
    grind
   all_goals
    simp only[aa]at h
    split at h
    ·rename_i hk;injection h with h;exact one _ hu hk rfl h.symm
    grind
end
end
section
variable {C:ZO}{A:Nat->Nat->Prop}{bd:Nat}{w w':World}{γ γ':Gm}{hg:Nat->ZM}{nx:Nat}
theorem S9.tail{xs:List AV}{vs:List Value}(h:S9 w γ A bd (x::xs) (v::vs)):RV w γ A bd x v/\S9 w γ A bd xs vs :=⟨h.2 0 x v rfl rfl,by have:=h.1;grind,λi y u hy hu=>h.2 (i+1) y u (by grind) (by grind)⟩
theorem Ik{d:TypeDesc}(h:sD d x=true)(hx:RV w γ A bd x v):i8 d v=true:=by cases d<;>cases hx<;>simp_all [sD,i8,tZ]
theorem An:∀{ds:List TypeDesc} {xs:List AV} {vs:List Value},eU ds xs=true->S9 w γ A bd xs vs->a_ ds vs=true:=by
 intro ds
 induction ds with
 | nil =>
  intro xs vs h hx;cases xs with
  | nil=>have:=hx.1;cases vs with
   |nil=>rfl
   |cons v vs=>grind
  |cons x xs=>cases h
 | cons d ds ih =>
  intro xs vs h hx;cases xs with
  |nil=>cases h
  | cons x xs =>
   cases vs with
   |nil=>have:=hx.1;grind
   | cons v vs =>
    obtain⟨h1,h2⟩:=hx.tail;simp only[eU,aa]at h
    split at h
    ·rename_i hk;simp only[a_,Zk]
     grind[Ik]
    grind
theorem Ch{b:Bool}(h:pA x y=some b)(hx:RV w γ A bd x v)(hy:RV w γ A bd y u):Ys v u=b:=by
 cases hx<;>cases hy<;>simp only[pA]at h<;>first| (cases h;done)|skip
 ·injection h with h;subst h;rename_i a b;cases a<;>cases b<;>rfl
 ·grind[aa,Ys,mK]
 ·injection h with h;subst h;simp only[Ys];rename_i k c;obtain⟨⟨x⟩⟩:=k;obtain⟨⟨y⟩⟩:=c;show ((⟨x⟩:Array UInt8) == ⟨y⟩)=_
  grind
theorem zR:∀{xs ys:List AV} {vs us:List Value} {b:Bool},eT xs ys=some b->S9 w γ A bd xs vs->S9 w γ A bd ys us->qE vs us=b:=by
 intro xs
 induction xs with
 | nil =>
  intro ys vs us b h hx k;cases ys with
  | nil =>
   simp only[eT]at h;injection h with h;subst h;have h1:=hx.1;have h2:=k.1
   grind[qE]
  |cons y ys=>cases h
 | cons x xs ih =>
  intro ys vs us b h hx k;cases ys with
  |nil=>cases h
  | cons y ys =>
   cases vs with
   |nil=>have:=hx.1;grind
   | cons v vs =>
    cases us with
    |nil=>have:=k.1;grind
    | cons u us =>
     obtain⟨a,c⟩:=hx.tail;obtain⟨d,e⟩:=k.tail
     grind[eT,qE,aa,Ch]
theorem AF{xs:List AV}(h:RV w γ A bd (.agg xs) v):∃vs,v=.agg vs/\S9 w γ A bd xs vs.toList:=by
 cases h with
 |agg _ _ vs hl h1 h2=>exact⟨vs,rfl,by omega,λi x u hx hu=>h2 i x u hx (by grind)⟩
theorem MS{t:TypeId}{ds:List TypeDesc}{ys:Array Value}(h:mG C.P t=some ds)(hag:fD C.P t=true)(hx:a_ ds xs.toList=true)(hy:a_ ds ys.toList=true) :
  C.P.eqGuardType C.P.depth t=false/\(Op.equal t (.agg xs) (.agg ys)).run C.P w=.ok (qE xs.toList ys.toList) w:=by
 unfold mG at h;rw[aa]at h
 split at h
 ·cases h
 ·rename_i hg;refine⟨by grind,?_⟩;have:=Jo (P:=C.P) 9992 8 t ds h w xs.toList ys.toList hx hy;simp_all[mkV,Op.equal,Op.maxDepth]
theorem o_(t:TypeId)(x y:Value):Op.equal t x y=Op.equalIn (9999+1) t x y:=rfl
def Ze(C:ZO)(w:World)(ty:TypeId)(xo yo:Operand)(va vb:Value)(r:Bool):Prop :=(∀op,(eqGuard op ty xo yo va vb).run C.P w=.ok () w)/\(binOp .eql ty va vb).run C.P w=.ok (.bool r) w/\(binOp .neq ty va vb).run C.P w=.ok (.bool (!r)) w
theorem Ze.mk'{ty:TypeId}{xo yo:Operand}{va vb:Value}{r:Bool}(h1:∀op,(eqGuard op ty xo yo va vb).run C.P w=.ok () w)(h2:(Op.equal ty va vb).run C.P w=.ok r w)
  (h3:binOp .eql ty va vb=(do pure (.bool (<-Op.equal ty va vb)))) (h4:binOp .neq ty va vb=(do pure (.bool (!(<-Op.equal ty va vb))))):Ze C w ty xo yo va vb r:=by
 refine⟨h1,?_,?_⟩<;>simp_all
section kinds
variable {ty:TypeId}{xo yo:Operand}{a b:AV}{va vb:Value}{r:Bool}(ha:RV w γ A bd a va)(hb:RV w γ A bd b vb)
include ha hb
theorem R4{ds:List TypeDesc}(hf:mG C.P ty=some ds)(hag:fD C.P ty=true)(h:TZ (.flat ds) a b=some r):Ze C w ty xo yo va vb r:=by
 cases a<;>try (cases h;done)
 cases b<;>try (cases h;done)
 rename_i xs ys;change ap (eU ds xs&&eU ds ys) (eT xs ys) none=some r at h;rw[aa]at h
 split at h
 ·rename_i hk;simp only[Zk]at hk;obtain⟨vs,rfl,c⟩:=AF ha;obtain⟨us,rfl,k⟩:=AF hb;obtain⟨g1,g2⟩:=MS (w:=w) hf hag (An hk.1 c) (An hk.2 k);rw[zR h c k]at g2;exact .mk' (λop=>run_eqGuard_agg w op ty xo yo vs us g1) g2 rfl rfl
 grind
theorem PZ(hu:C.P.underlying ty=some (.slice e))(h:TZ .slice a b=some r):Ze C w ty xo yo va vb r:=by
 cases ha<;>try (cases h;done)
 all_goals cases hb<;>first| (cases h;done)| (injection h with h;subst h;exact .mk' (λop=>by simp_all[eqGuard]) (by rw[o_];unfold Op.equalIn;simp[aG hu]) rfl rfl)
theorem R5{p q:Array TypeId}{v:Bool}(hu:C.P.underlying ty=some (.func p q v))(h:TZ .func a b=some r):Ze C w ty xo yo va vb r:=by
 cases ha<;>try (cases h;done)
 all_goals cases hb<;>first| (cases h;done)| (injection h with h;subst h;exact .mk' (λop=>by simp_all[eqGuard]) (by rw[o_];unfold Op.equalIn;simp[aG hu]) rfl rfl)
theorem R3(hu:C.P.underlying ty=some .bool)(h:TZ .bool a b=some r):Ze C w ty xo yo va vb r:=by
 cases ha<;>try (cases h;done)
 cases hb<;>try (cases h;done)
 rename_i x y;injection h with h;subst h;refine .mk' (λop=>by simp_all[eqGuard]) ?_ rfl rfl;rw[o_];unfold Op.equalIn;simp[aG hu];cases x<;>cases y<;>rfl
theorem PY{ms:Array (String×TypeId)}(hu:C.P.underlying ty=some (.interface ms))(h:TZ (.iface ms.isEmpty) a b=some r):Ze C w ty xo yo va vb r:=by
 cases ha<;>try (cases h;done)
 ·cases hb<;>try (cases h;done)
  ·change ap ms.isEmpty (some true) none=some r at h;rw[aa]at h
   split at h
   ·rename_i he;injection h with h;subst h;refine .mk' (λop=>?_) (by rw[o_];unfold Op.equalIn;simp[aG hu]) rfl rfl;have hg:(Op.eqGuardIn Op.maxDepth ty .nilIface .nilIface).run C.P w=.ok false w:=by show (Op.eqGuardIn (9999+1) ty .nilIface .nilIface).run C.P w=_;unfold Op.eqGuardIn;simp_all[aG]
    unfold eqGuard;simp_all
   grind
  ·injection h with h;subst h;exact .mk' (λop=>by simp_all[eqGuard]) (by rw[o_];unfold Op.equalIn;simp[aG hu]) rfl rfl
 ·cases hb<;>try (cases h;done)
  injection h with h;subst h;exact .mk' (λop=>by simp_all[eqGuard]) (by rw[o_];unfold Op.equalIn;simp[aG hu]) rfl rfl
end kinds
theorem Oh{ty:TypeId}{xo yo:Operand}{a b:AV}{va vb:Value}{r:Bool}(hne:uw C.P ty≠.other)(h:TZ (uw C.P ty) a b=some r)(ha:RV w γ A bd a va)(hb:RV w γ A bd b vb) :
  Ze C w ty xo yo va vb r:=by
 unfold uw at h hne;cases hu:C.P.underlying ty with
 |none=>grind
 | some d =>
  have agg:sB d=true->TZ (match mG C.P ty with|some ds=>VR.flat ds|none=>.other) a b=some r->Ze C w ty xo yo va vb r:=by
   intro hd h;cases hf:mG C.P ty with
   |none=>rw[hf]at h;cases h
   |some ds=>grind[R4,fE]
  simp only[hu]at h hne;cases d
  case struct fs=>exact agg rfl h
  case array n e=>exact agg rfl h
  case slice e=>grind[PZ]
  case func p q v=>grind[R5]
  case bool=>grind[R3]
  case interface ms=>grind[PY]
  all_goals grind
noncomputable def WY(op:BinOp)(x y:AV):OR:=match x,y with|.int k m,.int k' n=>RK ((fT op).run k m k' n)|_,_=>.fail
theorem UV{op:BinOp}{ty:TypeId}{xo yo:Operand}{a b:AV}{va vb:Value}(ha:RV w γ A bd a va)(hb:RV w γ A bd b vb) :
  Zp C A bd w γ (do eqGuard op ty xo yo va vb;binOp op ty va vb) ((EE C.P op ty).run a b):=by
 have sA:Zp C A bd w γ (do eqGuard op ty xo yo va vb;binOp op ty va vb) (WY op a b):=by
  unfold WY;cases ha with
  | int _ k m =>
   cases hb with
   | int _ k' n =>simp_all[rk,M2,eqGuard]
   |_=>trivial
  |_=>trivial
 cases op
 case eql =>
  unfold EE;dsimp only
  split
  ·exact sA
  ·rename_i hk;dsimp only;cases hr:TZ (uw C.P ty) a b with
   |none=>trivial
   | some r =>obtain⟨h1,h2,_⟩:=Oh (xo:=xo) (yo:=yo) (λe=>hk e) hr ha hb;exact⟨.bool r,by simp_all,.bool _ _⟩
 case neq =>
  unfold EE;dsimp only
  split
  ·exact sA
  ·rename_i hk;dsimp only;cases hr:TZ (uw C.P ty) a b with
   |none=>trivial
   | some r =>obtain⟨h1,_,h2⟩:=Oh (xo:=xo) (yo:=yo) (λe=>hk e) hr ha hb;exact⟨.bool (!r),by simp_all,by rw[rq];exact .bool _ _⟩
 all_goals exact sA
end
section
variable {P:Program}
theorem FA(em:Bool)(D:Nat):∀(d:Nat) (t:TypeId) (ds:List TypeDesc),qi P d t=some ds->∀(w:World) (xs:List Value),a_ ds xs=true ->
  (Instr.checkKey em (D+d) t (mkV P t xs)).run P w=.ok () w:=by
 intro d
 induction d with
 |zero=>intro t ds h;cases h
 | succ d ih =>
  intro t ds h w xs hx;unfold qi at h;have one:∀k,P.underlying t=some k->qh k=true->sB k=false->ds=[k]->(Instr.checkKey em (D+(d+1)) t (mkV P t xs)).run P w=.ok () w:=by
   intro k hu hk hag hds;obtain⟨h1,_⟩:=fE hu;subst hds;have hm:∀zs,mkV P t zs=zs.headD undef:=by grind[mkV]
   rw[hm];have lx:=bS hx
   match xs,lx with
   | [x],_ =>simp only[a_,Qh]at hx;simp only[List.headD_cons,<-Nk];unfold Instr.checkKey;cases k<;>simp[qh]at hk<;>cases x<;>simp[i8]at hx<;>simp[aG hu]
  cases hu:P.underlying t with
  |none=>grind
  | some k =>
   rw[hu]at h;cases k
   case struct fs =>
    simp only[aa]at h
    split at h
    ·cases h
    ·have hm:∀zs,mkV P t zs=.agg zs.toArray:=by intro zs;unfold mkV;rw[(fE hu).1];rfl
     rw[hm,<-Nk,Instr.checkKey];simp only[Qk,aG hu,abi];rw[<-Array.forIn_toList];have go:∀(L:List Field) (k:Nat) (ds:List TypeDesc),Aj P (qi P d) L k=some ds->a_ ds (xs.drop k)=true ->
       (forIn L PUnit.unit λ(f:Field) (_:PUnit)=>(do
        if f.name ≠ "_" then Instr.checkKey em (D + d) f.type (← part f.type xs.toArray f.offset)
        pure (ForInStep.yield PUnit.unit):Sem (ForInStep PUnit))).run P w=.ok PUnit.unit w:=by
      intro L
      induction L with
      |nil=>simp_all
      | cons f L ihL =>
       intro k ds h hx;simp only[Aj]at h
       split at h
       ·rename_i ds1 h1
        split at h
        ·rename_i r hr;rw[aa]at h
         split at h
         ·rename_i hcond;simp only[Zk,bne_iff_ne,ne_eq,beq_iff_eq]at hcond;obtain⟨⟨hname,hoff⟩,hsz⟩:=hcond;have hoff:=aH hoff;injection h with h;subst h;obtain⟨x1,x2⟩:=gu hx;rw[HE]at x2;have lx:=bS hx;simp at lx;obtain⟨kd,hu',hone⟩:=jt h1;have p1:(part f.type xs.toArray f.offset).run P w=.ok (mkV P f.type ((xs.drop k).take ds1.length)) w:=by
           rw[hoff];have:=yI (w:=w) (xs:=xs.toArray) (off:=k) hu' hsz hone λhg=>by grind
           omega
          have p2:=ih _ _ h1 w _ x1;have p3:=ihL _ _ hr x2;simp_all
         grind
        grind
       grind
     have:=go fs.toList 0 ds h (by grind);simp_all
   case array n e =>
    simp only at h
    split at h
    ·rename_i de hde;simp only[aa]at h
     split at h
     ·rename_i hsz;injection h with h;subst h;have hsz:R6 P e=some de.length:=by grind
      obtain⟨kd,hue,hone⟩:=jt hde;have hm:∀zs,mkV P t zs=.agg zs.toArray:=by intro zs;unfold mkV;rw[(fE hu).1];rfl
      rw[hm,<-Nk,Instr.checkKey];simp only[Qk,aG hu,abi];simp only[Std.Legacy.Range.forIn_eq_forIn_range',Std.Legacy.Range.size,Fa,Nat.add_one_sub_one,X8];have go:∀(n i:Nat),a_ (List.replicate n de).flatten (xs.drop (i*de.length))=true ->
        (forIn (List.range' i n) PUnit.unit λ(i:Nat) (_:PUnit)=>(do
         Instr.checkKey em (D+d) e (<-part e xs.toArray (i*(<-Go.sizeOf e)))
         pure (ForInStep.yield PUnit.unit):Sem (ForInStep PUnit))).run P w=.ok PUnit.unit w:=by
       intro n
       induction n with
       |zero=>simp_all
       | succ n ihn =>
        intro i hx;rw[VZ,ad_]at hx;obtain⟨x1,x2⟩:=gu hx;have lx:=bS x1;simp at lx;rw[HE]at x2;have em':i*de.length+de.length=(i+1)*de.length:=by grind
        rw[em']at x2;have p1:(part e xs.toArray (i*de.length)).run P w=.ok (mkV P e ((xs.drop (i*de.length)).take de.length)) w:=by
         have:=yI (w:=w) (xs:=xs.toArray) (off:=i*de.length) hue hsz hone λhg=>by grind
         omega
        simp_all[adV,bj]
      simp_all
     grind
    grind
   all_goals
    simp only[aa]at h
    split at h
    ·rename_i hk;injection h with h;exact one _ hu hk rfl h.symm
    grind
end
section
variable {C:ZO}{A:Nat->Nat->Prop}{bd:Nat}{w w':World}{γ γ':Gm}{hg:Nat->ZM}{nx:Nat}
def GS(P:Program)(kt:TypeId)(k:AV)(v:Value):Prop :=∃d ds,d<=8/\qi P d kt=some ds/\a_ ds v.cells.toList=true/\v=mkV P kt v.cells.toList/\(fD P kt=true↔∃xs,k=.agg xs)
theorem M3(h:lQ (cL C.P kt) k=true)(hk:RV w γ A bd k v):GS C.P kt k v:=by
 unfold cL at h;cases hu:C.P.underlying kt with
 |none=>rw[hu]at h;cases h
 | some d =>
  have agg:sB d=true->lQ (match mG C.P kt with|some ds=>Nm.flat ds|none=>.other) k=true->GS C.P kt k v:=by
   intro hd h;cases hf:mG C.P kt with
   |none=>rw[hf]at h;cases h
   | some ds =>
    rw[hf]at h;obtain⟨xs,rfl⟩:∃xs,k=.agg xs:=by cases k<;>first|exact⟨_,rfl⟩| (cases h;done)
    change eU ds xs=true at h;obtain⟨vs,rfl,l⟩:=AF hk;have c:fD C.P kt=true:=by grind[fE]
    unfold mG at hf;rw[aa]at hf
    split at hf
    ·cases hf
    ·refine⟨8,ds,ZV _,hf,An h l,?_,?_⟩
     all_goals simp_all[mkV,Value.cells]
  have one:qh d=true->lQ (.one d) k=true->sB d=false->(∀f,qi C.P (f+1) kt=some [d])->GS C.P kt k v:=by
   intro hf b c i;have a:fD C.P kt=false:=by grind[fE]
   have j:=Ik b hk;refine⟨1,[d],by decide,i 0,?_,?_,?_⟩
   ·cases v<;>simp_all [Value.cells,a_,i8]<;>cases d<;>simp_all [i8]
   ·unfold mkV;rw[a];cases v<;>simp[Value.cells]<;>cases d<;>simp_all [i8]
   ·rw[a];constructor
    ·grind
    ·rintro⟨xs,rfl⟩;cases d<;>cases b
  rw[hu]at h;cases d
  case struct fs=>exact agg rfl h
  case array n e=>exact agg rfl h
  all_goals
   simp only[aa]at h
   split at h
   ·rename_i hf;exact one hf h rfl (λf=>by simp_all[qi])
   ·cases h
theorem CS{d:TypeDesc}{b:Bool}(h:pA x y=some b)(hx:RV w γ A bd x v)(hy:RV w γ A bd y u)(hk:i8 d v=true):i8 d u=true:=by
 cases hx<;>try (cases h;done)
 all_goals cases hy<;>try (cases h;done)
 ·cases d<;>simp_all [i8]
 ·simp only[pA,aa,tZ]at h
  split at h
  ·rename_i e;simp at e;subst e;cases d<;>simp_all [i8]
  grind
 ·cases d<;>simp_all [i8]
theorem zg:∀{ds:List TypeDesc} {xs ys:List AV} {vs us:List Value} {b:Bool},eT xs ys=some b->S9 w γ A bd xs vs->S9 w γ A bd ys us->a_ ds vs=true->a_ ds us=true:=by
 intro ds
 induction ds with
 | nil =>
  intro xs ys vs us b h hx k hk;have h0:=bS hk;have h1:=hx.1;have:xs=[]:=R_ (by grind);subst this;cases ys with
  |nil=>have h2:=k.1;grind
  |cons y ys=>cases h
 | cons d ds ih =>
  intro xs ys vs us b h hx k hk;cases vs with
  |nil=>cases hk
  | cons v vs =>
   cases xs with
   |nil=>have:=hx.1;grind
   | cons x xs =>
    cases ys with
    |nil=>cases h
    | cons y ys =>
     cases us with
     |nil=>have:=k.1;grind
     | cons u us =>
      obtain⟨a,c⟩:=hx.tail;obtain⟨e,f⟩:=k.tail;simp only[a_,Zk]at hk;simp only[eT]at h
      split at h
      ·rename_i p q hp hq;simp only[a_,Zk]
       grind[CS]
      grind
theorem Ao(h:fD C.P kt=false)(x:Value):mkV C.P kt [x]=x:=by grind[mkV]
theorem FY{k':AV}{v':Value}{b:Bool}(hk:GS C.P kt k v)(h:ni k k'=some b)(h1:RV w γ A bd k v)(h2:RV w γ A bd k' v') :
  GS C.P kt k' v'/\(Op.equal kt v v').run C.P w=.ok b w/\(fD C.P kt=false->∀kd,C.P.underlying kt=some kd->Instr.sameNow kd v v'=some b):=by
 obtain⟨d,ds,hd,a,c,t,o⟩:=hk;cases hg:fD C.P kt with
 | true =>
  obtain⟨xs,rfl⟩:=o.1 hg;obtain⟨ys,rfl⟩:∃ys,k'=.agg ys:=by cases k'<;>first|exact⟨_,rfl⟩| (cases h;done)
  change eT xs ys=some b at h;obtain⟨vs,rfl,r⟩:=AF h1;obtain⟨us,rfl,hu⟩:=AF h2;have f:a_ ds us.toList=true:=zg h r hu c;have he:=Jo (P:=C.P) (10000 - d) d kt ds a w vs.toList us.toList c f;have hm:∀zs:Array Value,mkV C.P kt zs.toList=.agg zs:=by intro zs;unfold mkV;rw[hg];simp
  rw[show 10000 - d+d=9999+1 from by omega,hm,hm,zR h r hu]at he;refine⟨⟨d,ds,hd,a,f,(hm us).symm,by simp[hg]⟩,he,λh=>by cases h⟩
 | false =>
  have p:∀xs,k≠.agg xs:=λxs e=>by grind
  have m:∀xs,k'≠.agg xs:=by rintro xs rfl;cases k<;>first| (cases h;done)|grind
  have h':pA k k'=some b:=by cases k<;>first| (exact absurd rfl (p _))| (cases k'<;>first| (exact absurd rfl (m _))|exact h)
  obtain⟨kd,hu,n⟩:=jt a;have j:=n hg;obtain⟨i,rfl⟩:∃i,ds=[i]:=by
   match ds,j with
   |[i],_=>grind
  have q:v.cells.toList=[v]:=by cases h1<;>first|rfl|grind
  have s:v'.cells.toList=[v']:=by
   cases h1<;>try (cases h';done)
   all_goals cases h2<;>first|rfl|grind
  rw[q]at c;simp only[a_,Qh]at c;have f:=CS h' h1 h2 c;have he:=Jo (P:=C.P) (10000 - d) d kt [i] a w [v] [v'] (by grind[a_]) (by grind[a_]);rw[show 10000 - d+d=9999+1 from by omega,Ao hg,Ao hg]at he;simp only[qE,Qh,Ch h' h1 h2]at he;refine⟨⟨d,[i],hd,a,by grind[a_],by grind[Ao],?_⟩,he,λ_ kd' hu'=>?_⟩
  ·grind
  ·have e1:=Ch h' h1 h2;have:i=kd':=by
    cases d with
    |zero=>cases a
    | succ d =>unfold qi at a;rw[hu']at a;have l:=(fE hu').1;rw[hg]at l;cases kd'<;>simp[sB]at l<;>simp only[aa]at a<;>split at a<;>first| (grind)| (grind)
   subst this;cases h1<;>try (cases h';done)
   all_goals cases h2<;>try (cases h';done)
   ·cases i<;>simp[i8]at c<;>grind[Instr.sameNow,Ys]
   ·cases i<;>simp[i8]at c f<;>grind[Instr.sameNow,Ys]
   ·cases i<;>simp[i8]at c<;>grind[Instr.sameNow,Ys]
end
section
variable {m:T->AV}{z:AV}{et:TypeId}{vk:Value}
section
variable {C:ZO}{A:Nat->Nat->Prop}{bd:Nat}{w w':World}{γ γ':Gm}{hg:Nat->ZM}{nx:Nat}
theorem N6(s1 s2:ByteArray):(s1 == s2)=decide (s1=s2):=by
 obtain⟨⟨x⟩⟩:=s1;obtain⟨⟨y⟩⟩:=s2;show ((⟨x⟩:Array UInt8) == ⟨y⟩)=_
 grind
theorem P4:∀{ds:List TypeDesc} {xs ys:List Value},a_ ds xs=true->a_ ds ys=true->qE xs ys=true->xs=ys:=by
 intro ds
 induction ds with
 |nil=>intro xs ys h1 h2 _;rw[R_ (bS h1),R_ (bS h2)]
 | cons d ds ih =>
  intro xs ys h1 h2 h;cases xs with
  |nil=>cases h1
  | cons x xs=>cases ys with
   |nil=>cases h2
   | cons y ys =>simp only[a_,qE,Zk]at h1 h2 h;rw[ih h1.2 h2.2 h.2];congr 1;cases d<;>cases x<;>simp[i8]at h1<;>cases y<;>simp[i8]at h2<;>simp[Ys,N6]at h<;>simp_all
theorem HG{ds:List TypeDesc}(hk:a_ ds v.cells.toList=true):Instr.sameBits 10000 v v=true:=by
 have one:∀(d:TypeDesc) (x:Value),i8 d x=true->∀n,Instr.sameBits n x x=true:=by intro d x h n;cases d<;>cases x<;>simp[i8]at h<;>cases n<;>simp[Instr.sameBits,N6]
 have all:∀(ds:List TypeDesc) (xs:List Value),a_ ds xs=true->((xs.zip xs).all λ(x,y)=>Instr.sameBits 9999 x y)=true:=by
  intro ds
  induction ds with
  |nil=>intro xs h;rw[R_ (bS h)];rfl
  | cons d ds ih =>
   intro xs h;cases xs with
   |nil=>rfl
   | cons x xs =>
    simp only[a_,Zk]at h;simp only[Ww,List.all_cons,Zk]
    grind
 by_cases h:∃a,v=.agg a
 ·obtain⟨a,rfl⟩:=h;have:=all ds a.toList hk;simp_all[Instr.sameBits]
 ·have hc:v.cells.toList=[v]:=by cases v<;>first|rfl|grind
  rw[hc]at hk;cases ds with
  |nil=>cases hk
  |cons d ds=>simp only[a_,Zk]at hk;grind
theorem FZ{k':AV}{v':Value}(hk:GS C.P kt k v)(h:ni k k'=some true)(h1:RV w γ A bd k v)(h2:RV w γ A bd k' v'):v'=v:=by
 obtain⟨i,h4,_⟩:=FY (w:=w) hk h h1 h2;obtain⟨d,ds,e1,j,a,e,l⟩:=hk;obtain⟨d',ds',f1,f2,m,f,n⟩:=i;have hc:eT k.cells k'.cells=some true:=by
  cases k<;>try (cases h;done)
  all_goals cases k'<;>try (cases h;done)
  all_goals grind[ni,AV.cells,eT]
 have t1:k.isTup=false:=by
  cases k<;>try rfl
  cases k'<;>cases h
 have t2:k'.isTup=false:=by
  cases k<;>try (cases h;done)
  all_goals cases k'<;>first|rfl| (cases h;done)
 have b:=(sY h1 t1).1;have c:=(sY h2 t2).1;rw[e,f,P4 a (zg hc b c a) (zR hc b c)]
theorem tY{P:Program}{ds:List TypeDesc}(hk:a_ ds v.cells.toList=true):(Instr.keyThatStays v v).run P w=.ok v w:=by unfold Instr.keyThatStays;rw[HG hk];rfl
def Wh(w:World)(γ:Gm)(A:Nat->Nat->Prop)(bd:Nat)(es:List (AV×AV))(l:List MapEntry):Prop :=es.length=l.length/\∀(i:Nat) k x e,es[i]?=some (k,x)->l[i]?=some e->RV w γ A bd k e.key/\RV w γ A bd x e.val
theorem Wh.tail{p:AV×AV}{es:List (AV×AV)}{e:MapEntry}{l:List MapEntry}(h:Wh w γ A bd (p::es) (e::l)) :
  RV w γ A bd p.1 e.key/\RV w γ A bd p.2 e.val/\Wh w γ A bd es l:=by
 obtain⟨h1,h2⟩:=h.2 0 p.1 p.2 e rfl rfl;exact⟨h1,h2,by have:=h.1;grind,λi k x e hi he=>h.2 (i+1) k x e (by grind) (by grind)⟩
def HM(k:AV)(es:List (AV×AV))(l:List MapEntry)(i0:Nat)(r:Option (Nat×AV))(R:Option (Nat×Value)):Prop :=
 match r with
 |none=>R=none
 |some (i,x)=>∃j k' e,i=i0+j/\es[j]?=some (k',x)/\l[j]?=some e/\ni k k'=some true/\R=some (i,e.val)
theorem Sj{kd:TypeDesc}(hu:C.P.underlying kt=some kd)(hk:GS C.P kt k v)(h1:RV w γ A bd k v) :
  ∀(es:List (AV×AV)) (l:List MapEntry) (i:Nat) (r:Option (Nat×AV)),ir k i es=some r->Wh w γ A bd es l ->
   ∃R,HM k es l i r R/\(Instr.findAsking kt v l i).run C.P w=.ok R w/\(fD C.P kt=false->Instr.findNow kd v l i=some R):=by
 intro es
 induction es with
 | nil =>intro l i r h a;have:=a.1;have:l=[]:=R_ (by grind);subst this;simp only[ir]at h;injection h with h;subst h;exact⟨none,rfl,rfl,λ_=>rfl⟩
 | cons p es ih =>
  intro l i r h a;cases l with
  |nil=>have:=a.1;grind
  | cons e l =>
   obtain⟨k',x⟩:=p;obtain⟨e1,m,c⟩:=a.tail;simp only[ir]at h
   split at h
   ·rename_i hq;injection h with h;subst h;obtain⟨_,q2,q3⟩:=FY hk hq h1 e1;refine⟨some (i,e.val),⟨0,k',e,rfl,rfl,rfl,hq,rfl⟩,?_,λhg=>?_⟩
    all_goals simp_all[Instr.findAsking,Instr.findNow]
   ·rename_i hq;obtain⟨_,q2,q3⟩:=FY hk hq h1 e1;obtain⟨R,b,o,q⟩:=ih l (i+1) r h c;refine⟨R,?_,?_,λhg=>?_⟩
    ·unfold HM at b ⊢;cases r with
     |none=>exact b
     | some p =>obtain⟨j,k'',e',f1,f2,n,d,f⟩:=b;exact⟨j+1,k'',e',by omega,by grind,by grind,d,f⟩
    all_goals simp_all[Instr.findAsking,Instr.findNow]
   grind
theorem xM{kd:TypeDesc}(hu:C.P.underlying kt=some kd)(hk:GS C.P kt k v)(h1:RV w γ A bd k v)
  {es:List (AV×AV)} {l:List MapEntry} {r:Option (Nat×AV)} (h:ir k 0 es=some r) (hes:Wh w γ A bd es l) :
  ∃R,HM k es l 0 r R/\(Instr.findKey kt v l).run C.P w=.ok R w:=by
 obtain⟨R,a,b,c⟩:=Sj hu hk h1 es l 0 r h hes;refine⟨R,a,?_⟩;unfold Instr.findKey;simp only[Qk,aG hu,abi];cases hg:fD C.P kt with
 |false=>simp_all
 | true =>
  cases l with
  |nil=>simp only[Instr.findNow];exact b
  | cons e l =>
   have:Instr.sameNow kd v e.key=none:=by have:=(fE hu).1;rw[hg]at this;cases kd<;>simp[sB]at this<;>rfl
   grind[Instr.findNow]
theorem Si(k:AV):∀(es:List (AV×AV)) (i:Nat) (r:Option AV),qg k es=some r->∃q,ir k i es=some q/\r=q.map (·.2):=by
 intro es
 induction es with
 |nil=>intro i r h;simp only[qg]at h;injection h with h;subst h;exact⟨none,rfl,rfl⟩
 | cons p es ih =>
  intro i r h;obtain⟨k',x⟩:=p;simp only[qg]at h;simp only[ir]
  split at h<;>simp_all
theorem Wf(k x:AV):∀(es es':List (AV×AV)) (i:Nat),L5 k x es=some es'->∃q,ir k i es=some q /\
  match q with
  |none=>es'=es++[(k,x)]
  |some (n,_)=>∃j,n=i+j/\es'=es.set j (k,x):=by
 intro es
 induction es with
 |nil=>intro es' i h;simp only[L5]at h;injection h with h;subst h;exact⟨none,rfl,rfl⟩
 | cons p es ih =>
  intro es' i h;obtain⟨k',y⟩:=p;simp only[L5]at h;simp only[ir]
  split at h
  ·grind
  ·rename_i hq
   split at h
   ·rename_i r hr;injection h with h;subst h;obtain⟨q,q1,q2⟩:=ih r (i+1) hr;refine⟨q,q1,?_⟩;cases q with
    |none=>grind
    | some p =>obtain⟨j,a,b⟩:=q2;exact⟨j+1,by omega,by grind⟩
   grind
  grind
theorem IP{t:TypeId}(h:wm C.P t=some z):∃v,(zeroValue t).run C.P w=.ok v w/\RV w γ A bd z v:=by
 unfold wm at h;cases hi:C.P.info? t with
 |none=>grind
 | some i =>
  rw[hi]at h;cases hz:i.zero with
  |none=>grind
  | some v =>
   simp only[WC,hz]at h;refine⟨v,by simp_all[zeroValue,nu],?_⟩
   split at h
   ·rename_i cs;cases hq:Ge cs.toList with
    |none=>grind
    | some as =>rw[hq]at h;injection h with h;subst h;obtain⟨k,a⟩:=rh (w:=w) (γ:=γ) (A:=A) (bd:=bd) hq;exact .agg _ as cs (by simpa using k.1) a λi x v hx hv=>k.2 i x v hx (by grind)
   grind[Nf]
theorem F6(hr:ZB C A bd w γ hg nx){id:Nat}{es:List (AV×AV)}(hid:hg id=.map es) :
  (γ id).kind=2/\(γ id).wr=true/\∃esC:Array MapEntry,w.heap[(γ id).blk]?=some (.map esC esC.size)/\Wh w γ A bd es esC.toList/\∀(i:Nat) e,esC[i]?=some e->e.born=i:=by
 have h:=hr.obj id;rw[hid]at h;obtain⟨b,k2,esC,c,d,a⟩:=h;refine⟨b,k2,esC,c,⟨by omega,λi k x e hi he=>(a i k x e hi (by grind)).2⟩,λi e he=>?_⟩;have hlt:i<es.length:=by grind
 exact (a i (es[i]).1 (es[i]).2 e (by grind) he).1
theorem M6{ok:Bool}{k:T->AV}(hr:ZB C A bd w γ hg nx)
  (hu:C.P.underlying ty=some (.map kt et)) (hz:wm C.P et=some z) (hm:RV w γ A bd (m t) vm) (hk:RV w γ A bd (k t) vk) (agree:∀id∈an (m t),hg id=g.h.get id) :
  Zp C A bd w γ (Instr.lookup ty vm vk ok) (cW (cL C.P kt) z ok m k t g):=by
 unfold cW;generalize m t=m at *;generalize k t=k at *;rw[aa]
 split
 ·rename_i D;have o:=M3 D hk;obtain⟨kd,B⟩:∃kd,C.P.underlying kt=some kd:=by obtain⟨d,ds,_,f,_⟩:=o;obtain⟨kd,h,_⟩:=jt f<;>grind
  obtain⟨zv,X,O⟩:=IP (w:=w) (γ:=γ) (A:=A) (bd:=bd) hz;have core:∀(es:List (AV×AV)) (l:Array MapEntry),Wh w γ A bd es l.toList ->
    (vm=.map none/\l=#[]\/∃r n,vm=.map (some r)/\(getObj r).run C.P w=.ok (.map l n) w) ->
    Zp C A bd w γ (Instr.lookup ty vm vk ok) (match qg k es with
     |some (some v)=>.val (ap ok (.Zz [v,.bool true]) v)
     |some none=>.val (ap ok (.Zz [z,.bool false]) z)
     |none=>.fail):=by
   intro es l s c;cases hf:qg k es with
   |none=>trivial
   | some r =>
    obtain⟨q,q1,q2⟩:=Si k es 0 r hf;obtain⟨R,H,W⟩:=xM B o hk q1 s;have K:∀em,(Instr.checkKey em 10000 kt vk).run C.P w=.ok () w:=by
     intro em;obtain⟨d,ds,hd,f,E,L,_⟩:=o;have:=FA (P:=C.P) em (10000 - d) d kt ds f w _ E
     grind
    have Zz:∀(x:AV) (u:Value) (b:Bool),RV w γ A bd x u->RV w γ A bd (ap ok (.Zz [x,.bool b]) x) (if ok then .tuple #[u,.bool b] else u):=by
     intro x u b hx;cases ok
     ·exact hx
     ·refine .Zz _ _ _ rfl λi y v hy hv=>?_
      match i with
      |0=>grind
      |1=>simp at hy hv;subst hy;subst hv;exact .bool _ _
      |i+2=>grind
    have F:(Instr.lookup ty vm vk ok).run C.P w =
      ((do let (v,okk) <-match R with
            |some (_,v)=>pure (v,true)
            |none=>pure (<-zeroValue et,false)
           pure (if ok then .tuple #[v,.bool okk] else v):Sem Value)).run C.P w:=by
     unfold Instr.lookup;simp only[Qk,aG hu,abi];rcases c with⟨rfl,rfl⟩|⟨r',n,rfl,c⟩
     all_goals grind[Qk,abi]
    cases q with
    | none =>simp only[HM]at H;subst H;simp only[aev]at q2;subst q2;exact⟨_,by simp_all,Zz z zv false O⟩
    | some p =>obtain⟨i,x⟩:=p;obtain⟨j,k',e,f1,f2,I,Q,J⟩:=H;subst J;simp only[PW]at q2;subst q2;exact⟨_,by simp_all,Zz x e.val true (s.2 j k' x e f2 I).2⟩
  cases hm with
  |Xu=>exact core [] #[] ⟨rfl,λi k x e h=>by simp at h⟩ (by grind)
  | hmap _ id b hkd hb =>
   have a:=agree id (by simp[an]);simp only[G.get_eq,<-a];cases hid:hg id with
   | map es =>obtain⟨U,k2,esC,M,N,V⟩:=F6 hr hid;subst hb;exact core es esC N (.inr ⟨_,_,rfl,ia M (by simp)⟩)
   |_=>trivial
  |_=>trivial
 ·trivial
theorem wN(h:GS C.P kt k v)(em:Bool):(Instr.checkKey em 10000 kt v).run C.P w=.ok () w:=by
 obtain⟨d,ds,hd,a,b,c,_⟩:=h;have:=FA (P:=C.P) em (10000 - d) d kt ds a w _ b
 grind
theorem OI(h:GS C.P kt k v):∃kd,C.P.underlying kt=some kd:=by obtain⟨d,ds,_,a,_⟩:=h;obtain⟨kd,h,_⟩:=jt a<;>grind
theorem ZB.setMap(hr:ZB C A bd w γ hg nx){id:Nat}{es es':List (AV×AV)}{esC':Array MapEntry}(hid:hg id=.map es)(hl:es'.length=esC'.size)
  (he:∀(i:Nat) k x e,es'[i]?=some (k,x)->esC'[i]?=some e->e.born=i/\RV w γ A bd k e.key/\RV w γ A bd x e.val) :
  ZB C A bd (World.setBlk w (γ id).blk (.map esC' esC'.size)) γ (upd hg id (.map es')) nx/\Stp w γ (World.setBlk w (γ id).blk (.map esC' esC'.size)) γ:=by
 obtain⟨h,k2,_⟩:=F6 hr hid;have hk:(γ id).kind≠0:=by omega
 have s:=yS (w:=w) (o:=.map esC' esC'.size) hk k2;refine hr.setBlk hk k2 ⟨h,k2,esC',?_,hl,λi k x e h1 h2=>?_⟩
 ·rw[bo,ZN ⟨rfl,(hr.lt id hk).2⟩]
 grind[RV.step]
theorem zy{k x:T->AV}{vx:Value}(hr:ZB C A bd w γ hg nx)
  (hu:C.P.underlying ty=some (.map kt et)) (hm:RV w γ A bd (m t) vm) (hk:RV w γ A bd (k t) vk) (hx:RV w γ A bd (x t) vx) (agree:∀id∈an (m t),hg id=g.h.get id) :
  dY C A bd w γ hg nx (do Instr.mapUpdate ty vm vk vx;pure undef) g (dT (cL C.P kt) m k x t g):=by
 unfold dT;generalize m t=m at *;generalize k t=k at *;generalize x t=x at *;rw[aa]
 split
 ·rename_i v;have c:=M3 v hk;obtain⟨kd,r⟩:=OI c;cases hm with
  | hmap _ id b hkd hb =>
   have f:=agree id (by simp[an]);simp only[G.get_eq,<-f];cases hid:hg id with
   | map es =>
    dsimp only;cases hs:L5 k x es with
    |none=>trivial
    | some es' =>
     dsimp only;obtain⟨N,k2,esC,K,s,E⟩:=F6 hr hid;obtain⟨q,q1,q2⟩:=Wf k x es es' 0 hs;obtain⟨R,B,L⟩:=xM r c hk q1 s;subst hb;have l:∀esC',(match R with
       | some (i,_)=>do
        let key <-Instr.keyThatStays (((esC[i]?).map (·.key)).getD vk) vk
        setObj (γ id).blk (.map (esC.modify i λe=>{ e with key,val:=vx }) esC.size)
       |none=>setObj (γ id).blk (.map (esC.push { key:=vk,val:=vx,born:=esC.size }) (esC.size+1)):Sem Unit).run C.P w=.ok () (World.setBlk w (γ id).blk (.map esC' esC'.size)) ->
       (do Instr.mapUpdate ty (.map (some (γ id).blk)) vk vx;pure undef:Sem Value).run C.P w=.ok undef (World.setBlk w (γ id).blk (.map esC' esC'.size)):=by
      intro esC' h;have:(Instr.mapUpdate ty (.map (some (γ id).blk)) vk vx).run C.P w=.ok () (World.setBlk w (γ id).blk (.map esC' esC'.size)):=by unfold Instr.mapUpdate;simp only[Qk,aG hu,abi,ia K (by simp),wN c,L];exact h
      simp_all
     have D:es.length=esC.size:=by simpa using s.1
     cases q with
     | none =>
      simp only[HM]at B;subst B;simp only at q2;subst q2;have a:=hr.setMap (es':=es++[(k,x)]) (esC':=esC.push { key:=vk,val:=vx,born:=esC.size }) hid (by grind) (λi k' x' e h1 h2=>by
       rw[afh]at h2;rw[ac_]at h1
       split at h2
       ·grind
       ·have hlt:i<esC.size:=(by grind);rw[i6]at h1;exact⟨E i e h2,s.2 i k' x' e h1 (by grind)⟩)
      refine⟨undef,_,γ,id,_,l _ ?_,dC,a.2,.inl ⟨rfl,a.1⟩⟩
      grind[jy]
     | some p =>
      obtain⟨n,y⟩:=p;obtain⟨j,k',e,f1,f2,F,H,I⟩:=B;obtain⟨j',M,J⟩:=q2;have:j'=j:=by omega
      subst this;subst f1;subst I;subst J;have u:esC[j']?=some e:=by grind
      have o:=FZ c H hk (s.2 j' k' y e f2 F).1;have a:=hr.setMap (es':=es.set j' (k,x)) (esC':=esC.modify (0+j') λe=>{ e with key:=vk,val:=vx }) hid (by grind) (λi k' x' e' h1 h2=>by
       rw[Ku]at h2;rw[VY]at h1;rw[ads]at h2
       split at h1
       ·grind
       ·rename_i hi;rw[ZF hi]at h2;exact⟨E i e' h2,s.2 i k' x' e' h1 (by grind)⟩)
      refine⟨undef,_,γ,id,_,l _ ?_,dC,a.2,.inl ⟨rfl,a.1⟩⟩;obtain⟨d,ds,_,_,z,_⟩:=c;simp only[Ku,u,PW,Ns,o,Qk,tY z,abi,Array.size_modify]
      grind[jy]
   |_=>trivial
  |_=>trivial
 ·trivial
theorem JA{k:T->AV}(hr:ZB C A bd w γ hg nx)
  (hu:C.P.underlying ty=some (.map kt et)) (hz:wm C.P et=some z) (hm:RV w γ A bd (m t) vm) (hk:RV w γ A bd (k t) vk) (agree:∀id∈an (m t),hg id=g.h.get id) :
  dY C A bd w γ hg nx (Instr.mapEntry ty vm vk) g (dM (cL C.P kt) z m k t g):=by
 unfold dM;generalize m t=m at *;generalize k t=k at *;rw[aa]
 split
 ·rename_i I;have a:=M3 I hk;obtain⟨kd,E⟩:=OI a;obtain⟨zv,U,W⟩:=IP (w:=w) (γ:=γ) (A:=A) (bd:=bd) hz;have Zz:∀{w:World} {γ:Gm} (x:AV) (u:Value) (n:Nat),RV w γ A bd x u->RV w γ A bd (.Zz [x,.int .i64 (.ofNat n)]) (.tuple #[u,goInt (n:Int)]):=by
   intro w γ x u n hx;refine .Zz _ _ _ rfl λi y v hy hv=>?_
   match i with
   |0=>grind
   |1=>simp at hy hv;subst hy;subst hv;exact .int _ _ _
   |i+2=>grind
  cases hm with
  | hmap _ id b hkd hb =>
   have f:=agree id (by simp[an]);simp only[G.get_eq,<-f];cases hid:hg id with
   | map es =>
    dsimp only;cases q1:ir k 0 es with
    |none=>trivial
    | some q =>
     obtain⟨V,k2,esC,H,F,M⟩:=F6 hr hid;obtain⟨R,K,N⟩:=xM E a hk q1 F;subst hb;have s:es.length=esC.size:=by simpa using F.1
     cases q with
     | none =>
      simp only[HM]at K;subst K;dsimp only;have l:=hr.setMap (es':=es++[(k,z)]) (esC':=esC.push { key:=vk,val:=zv,born:=esC.size }) hid (by grind) (λi k' x' e h1 h2=>by
       rw[afh]at h2;rw[ac_]at h1
       split at h2
       ·rename_i hi;subst hi;rw[bJ,s,Yp]at h1
        grind
       ·have hlt:i<esC.size:=(by grind);rw[i6]at h1;exact⟨M i e h2,F.2 i k' x' e h1 (by grind)⟩)
      refine⟨.tuple #[zv,goInt esC.size],_,γ,id,_,?_,?_,l.2,.inl ⟨rfl,l.1⟩⟩
      ·unfold Instr.mapEntry;simp only[Qk,aG hu,abi,ia H (by simp),wN a,N,U];have:(setObj (γ id).blk (.map (esC.push { key:=vk,val:=zv,born:=esC.size }) (esC.size+1))).run C.P w=.ok () (World.setBlk w (γ id).blk (.map (esC.push { key:=vk,val:=zv,born:=esC.size }) (esC.size+1))):=jy H (by simp);simp_all
      grind[ax,RV.step]
     | some p =>
      obtain⟨n,y⟩:=p;obtain⟨j,k',e,f1,f2,L,O,Q⟩:=K;subst f1;subst Q;dsimp only;have o:esC[j]?=some e:=by grind
      have c:=FZ a O hk (F.2 j k' y e f2 L).1;have B:(esC.modify j λe=>{ e with key:=vk })=esC:=by
       apply aeC;intro i;rw[ads]
       split
       ·rename_i hi;subst hi;rw[o,<-c];rfl
       ·rfl
      have r:=a;obtain⟨d,ds,_,_,J,_⟩:=r;refine⟨.tuple #[e.val,goInt j],?_,?_⟩
      ·unfold Instr.mapEntry;simp only[Qk,aG hu,abi,ia H (by simp),wN a,N,Ku,o,PW,Ns,c,tY J,B,M j e o];have D:(setObj (γ id).blk (.map esC esC.size)).run C.P w=.ok () w:=by
        rw[jy H (by simp)];congr 1;have hlt:(γ id).blk<w.heap.size:=(by grind);unfold World.setBlk;congr 1;apply aeC;intro q;rw[aep]
        split<;>grind
       simp[D]
      ·rw[Ku];exact Zz _ _ _ (F.2 j k' y e f2 L).2
   |_=>trivial
  |_=>trivial
 ·trivial
theorem Fd{st x:T->AV}{vs vx:Value}(hr:ZB C A bd w γ hg nx)
  (hm:RV w γ A bd (m t) vm) (hs:RV w γ A bd (st t) vs) (hx:RV w γ A bd (x t) vx) (agree:∀id∈an (m t),hg id=g.h.get id) :
  dY C A bd w γ hg nx (do Instr.entryStore ty vm vs vx;pure undef) g (dI m st x t g):=by
 unfold dI;generalize m t=m at *;generalize st t=st at *;generalize x t=x at *;cases hm with
 | hmap _ id b hkd hb =>
  have a:=agree id (by simp[an]);simp only[G.get_eq,<-a];cases hid:hg id with
  | map es =>
   dsimp only;cases hs with
   | int _ kk n =>
    cases n with
    |negSucc n=>trivial
    | ofNat i =>
     simp only[eI];cases hi:es[i]? with
     |none=>trivial
     | some p =>
      obtain⟨k,y⟩:=p;dsimp only;obtain⟨v,k2,esC,u,q,f⟩:=F6 hr hid;subst hb;have r:es.length=esC.size:=by simpa using q.1
      have hlt:i<esC.size:=by grind
      have l:esC.findIdx? (λe=>(e.born:Int) == (Int.ofNat i))=some i:=by
       rw[Array.findIdx?_eq_some_iff_getElem];refine⟨hlt,?_,λj hj=>?_⟩
       ·rw[f i esC[i] (Np hlt)];simp
       ·have o:j<esC.size:=by omega
        rw[f j esC[j] (Np o)]
        grind
      have c:=hr.setMap (es':=HJ i (k,x) es) (esC':=esC.modify i λe=>{ e with val:=vx }) hid (by grind[jh]) (λi' k' x' e' h1 h2=>by
       rw[jh,VY]at h1;rw[ads]at h2
       split at h1
       ·rename_i d;subst d;rw[ZN rfl,Np hlt]at h2
        split at h1
        ·simp at h1 h2;obtain⟨rfl,rfl⟩:=h1;subst h2;exact⟨f i esC[i] (Np hlt),(q.2 i k y esC[i] hi (by grind)).1,hx⟩
        omega
       ·rename_i d;rw[ZF d]at h2;exact⟨f i' e' h2,q.2 i' k' x' e' h1 (by grind)⟩)
      refine⟨undef,_,γ,id,_,?_,dC,c.2,.inl ⟨rfl,c.1⟩⟩;have s:=jy (P:=C.P) (o':=.map (esC.modify i λe=>{ e with val:=vx }) esC.size) u (by simp);have:(Instr.entryStore ty (.map (some (γ id).blk)) (.int kk (Int.ofNat i)) vx).run C.P w=.ok () (World.setBlk w (γ id).blk (.map (esC.modify i λe=>{ e with val:=vx }) esC.size)):=by simp_all[Instr.entryStore,asInt,asIntOf,ia]
      simp_all
   |_=>trivial
  |_=>trivial
 |_=>trivial
end
end
section
variable {C:ZO}{A:Nat->Nat->Prop}{bd:Nat}{w w':World}{γ γ':Gm}{hg:Nat->ZM}{nx:Nat}
theorem Y6.ofUpd{o:Oper}{ev:Operand->Value}{g:G}{m:Sem Value}(he:execOp ev o=(do pure (.value (<-m))))(h:dY C A bd w γ hg nx m g r) :
  Y6 C A bd w γ hg nx o ev g r:=by
 have run:∀{v:Value} {w':World},m.run C.P w=.ok v w'->Kc C.P o ev w v w':=by intro v w' h;left;simp_all
 cases r with
 |fail=>trivial
 |val x=>obtain⟨v,h1,h2⟩:=h;exact⟨v,run h1,h2⟩
 |upd x g'=>obtain⟨v,w',γ',id,ob,h1,h2⟩:=h;exact⟨v,w',γ',id,ob,run h1,h2⟩
 |ZP a=>exact h
theorem Y6.ofUnit{o:Oper}{ev:Operand->Value}{g:G}{s:Sem Unit}(he:execOp ev o=(do s;pure .skip))(h:dY C A bd w γ hg nx (do s;pure undef) g r) :
  Y6 C A bd w γ hg nx o ev g r:=by
 have run:∀{v:Value} {w':World},(do s;pure undef:Sem Value).run C.P w=.ok v w'->Kc C.P o ev w v w':=by intro v w' h;right;rw[he];simp only[Qk,MV]at h ⊢;cases hs:s.run C.P w<;>simp_all
 cases r with
 |fail=>trivial
 |val x=>obtain⟨v,h1,h2⟩:=h;exact⟨v,run h1,h2⟩
 |upd x g'=>obtain⟨v,w',γ',id,ob,h1,h2⟩:=h;exact⟨v,w',γ',id,ob,run h1,h2⟩
 |ZP a=>exact h
theorem Zp.upd{m:Sem Value}{g:G}{r:OR}(h:Zp C A bd w γ m r):dY C A bd w γ hg nx m g r:=by
 cases r with
 |fail=>trivial
 |val x=>exact h
 |upd x g'=>exact h.elim
 |ZP a=>exact h.elim
theorem Y6.ofVal{o:Oper}{ev:Operand->Value}{g:G}{m:Sem Value}(he:execOp ev o=(do pure (.value (<-m))))(h:Zp C A bd w γ m r) :
  Y6 C A bd w γ hg nx o ev g r:=.ofUpd he h.upd
theorem Y6.now{o:Oper}{ev:Operand->Value}{g:G}(he:(execOp ev o).run C.P w=.ok (.value v) w)(h:RV w γ A bd x v) :
  Y6 C A bd w γ hg nx o ev g (.val x):=⟨v,.inl he,h⟩
noncomputable def bI(C:ZO)(op:Op)(t:T)(g:G):List Nat:=((aL C op).run t g).rd++((aL C op).run t g).sr.map (·.1)
theorem Wy{op:UnOp}(hx:RV w γ A bd x v):Zp C A bd w γ (Op.unary op v) ((unA op).run x):=by
 cases op
 case not =>
  cases hx with
  |bool _ b=>exact⟨.bool (!b),by simp[Op.unary],by rw[rq];exact .bool _ _⟩
  |_=>trivial
 all_goals
  cases hx with
  |int _ k n=>exact rk λy hy=>mz hy C.P w
  |_=>trivial
theorem Na{g:G}{P:Program}(hr:ZB C A bd w γ hg nx)(hf:(γ g.nx).kind=0) :
  dY C A bd w γ hg nx (do pure (.map (some (<-newObj (.map #[] 0))))) g (.upd (.hmap g.nx) (g.new (.map []))):=by
 let gh:Gh:=⟨2,0,0,0,w.heap.size,0,0,true⟩
 obtain⟨r,s⟩:=hr.add (id:=g.nx) (gh:=gh) (o:=.map #[] 0) (ao:=.map []) (nx':=Nat.max nx (g.nx+1)) hf rfl (KT _ _) (by grind) (by simp only[XK,upd_same];exact⟨rfl,rfl,#[],by grind[mS],rfl,(by grind)⟩)
 refine⟨.map (some w.heap.size),World.add w (.map #[] 0),_,g.nx,_,by simp_all[World.add],?_,s,.inr ⟨rfl,rfl,r⟩⟩;exact .hmap _ g.nx _ (by simp[gh]) (by simp[gh])
theorem Nl:∀{fs:List Field} {places:List (Nat×Nat)},aD (λf:Field=>match R6 C.P f.type with|some n=>some (f.offset,n)|none=>none) fs=some places ->
  (fs.mapM λf=>do pure (f.offset,<-Go.sizeOf f.type):Sem (List (Nat×Nat))).run C.P w=.ok places w:=by
 intro fs
 induction fs with
 |nil=>simp_all[aD]
 | cons f fs ih =>
  intro places h;simp only[aD]at h
  split at h
  ·rename_i p hp
   split at h
   ·rename_i ps k;injection h with h;subst h
    split at hp
    all_goals simp_all[bj]
   grind
  grind
variable {o:Oper}{op:Op}{a:Act}{nt:Nat}{t:T}{g:G}{f:TM VH}
theorem wP(he:od C.P ty=some e):C.P.underlying ty=some (.slice e):=by grind[od]
theorem Kn{b:Builtin}{argTypes:Array TypeId}{args:List Operand}{consts:Array Bool}(h:eA C b argTypes args=some f)(ht:TR w γ A bd nt t a.tmps)(hr:ZB C A bd w γ hg nx)
  (hf:(γ g.nx).kind=0) (agree:∀x∈args,∀s,aW C x=some s->∀id∈oO C b argTypes (s.run t),hg id=g.h.get id) :
  ∃m:Sem Value,builtin b argTypes ty consts (args.map a.eval).toArray=(do pure (.value (<-m)))/\dY C A bd w γ hg nx m g (f.run t g):=by
 unfold eA at h
 split at h
 ·
  rename_i x
  split at h
  ·rename_i tt s h0 hs;injection h with h;subst h;exact⟨Builtin.len_ argTypes ty #[a.eval x],rfl,(Vy hr h0 (aC hs ht hr) λhk id hid=>agree x (by simp) s hs id (by simp_all[oO])).upd⟩
  grind
 ·
  rename_i p x
  split at h
  ·rename_i tt xt sa sx h0 h1 ha hx
   split at h
   ·rename_i e e' he j
    split at h
    ·rename_i sz bytes zero d i hz;rw[aa]at h
     split at h
     ·rename_i c;simp only[Zk,YD,ax]at c;injection h with h;subst h;exact⟨Builtin.append_ argTypes ty #[a.eval p,a.eval x],rfl,Mp hr hf h0 h1 (wP he) j d i hz (aH c.1.1) c.2 (aC ha ht hr) (aC hx ht hr)
       (λid hid=>agree p (by simp) sa ha id hid) (λid hid=>agree x (by simp) sx hx id hid)⟩
     grind
    grind
   ·rename_i e k he j
    split at h
    ·rename_i sz bytes zero d i hz;rw[aa]at h
     split at h
     ·rename_i c;simp only[Zk,YD,ax]at c;injection h with h;subst h;exact⟨Builtin.append_ argTypes ty #[a.eval p,a.eval x],rfl,Kg hr hf h0 h1 (wP he) j d i hz (aH c.1.1) c.1.2 c.2 (aC ha ht hr) (aC hx ht hr)
       (λid hid=>agree p (by simp) sa ha id hid)⟩
     grind
    grind
   grind
  grind
 ·
  rename_i p x
  split at h
  ·rename_i tt sa sx h0 ha hx
   split at h
   ·rename_i e he
    split at h
    ·rename_i sz d;injection h with h;subst h;exact⟨Builtin.copy_ argTypes ty #[a.eval p,a.eval x],rfl,RO hr h0 (wP he) d (aC ha ht hr) (aC hx ht hr)
      (λid hid=>agree p (by simp) sa ha id hid) (λid hid=>agree x (by simp) sx hx id hid)⟩
    grind
   grind
  grind
 ·
  rename_i x
  split at h
  ·rename_i tt s h0 hs
   split at h
   ·rename_i e he;injection h with h;subst h;exact⟨Builtin.cap_ argTypes ty #[a.eval x],rfl,(U1 hr h0 (wP he) (aC hs ht hr) λid hid=>agree x (by simp) s hs id hid).upd⟩
   grind
  grind
 ·
  rename_i x
  split at h
  ·rename_i tt s h0 hs
   split at h
   ·rename_i e he
    split at h
    ·rename_i sz zero d hz;rw[aa]at h
     split at h
     ·rename_i c;simp only[Zk,YD,ax]at c;injection h with h;subst h;exact⟨Builtin.clear_ argTypes ty #[a.eval x],rfl,PL hr h0 (wP he) hz (aH c.1) c.2 (aC hs ht hr) λid hid=>agree x (by simp) s hs id hid⟩
     grind
    grind
   grind
  grind
 ·
  rename_i x y
  split at h
  ·rename_i sx sy hx o;injection h with h;subst h;refine⟨Builtin.max_ argTypes ty #[a.eval x,a.eval y],rfl,?_⟩;have l:=aC hx ht hr;have n:=aC o ht hr;dsimp only;generalize sx.run t=u at l ⊢;generalize sy.run t=v at n ⊢;cases u<;>try trivial
   cases v<;>try trivial
   exact (VC l n).upd
  grind
 ·
  rename_i x y
  split at h
  ·rename_i sx sy hx o;injection h with h;subst h;refine⟨Builtin.min_ argTypes ty #[a.eval x,a.eval y],rfl,?_⟩;have l:=aC hx ht hr;have n:=aC o ht hr;dsimp only;generalize sx.run t=u at l ⊢;generalize sy.run t=v at n ⊢;cases u<;>try trivial
   cases v<;>try trivial
   exact (VD l n).upd
  grind
 grind
theorem PI:∀{xs:List Operand} {vs:TM (T->List AV)},cC C xs=some vs->∀x∈xs,∀s,aW C x=some s->s.run t∈vs.run t:=by
 intro xs
 induction xs with
 |nil=>grind
 | cons y ys ih =>
  intro vs h x hx s hs;simp only[cC]at h
  split at h
  ·rename_i p q hp hq;injection h with h;subst h
   grind
  grind
theorem zd{b:Builtin}{argTypes:Array TypeId}{args:List Operand}(h:eA C b argTypes args=some f):∃vs,cC C args=some vs:=by
 have one:∀{x:Operand} {s},aW C x=some s->∃vs,cC C [x]=some vs:=by simp_all[cC]
 have two:∀{x y:Operand} {s u},aW C x=some s->aW C y=some u->∃vs,cC C [x,y]=some vs:=by simp_all[cC]
 unfold eA at h
 split at h
 ·grind
 all_goals grind
theorem Wq(h:cP C op=some f)(ho:o.op=op)(ht:TR w γ A bd nt t a.tmps)(hr:ZB C A bd w γ hg nx)(hf:(γ g.nx).kind=0)
  (agree:∀id∈bI C op t g,hg id=g.h.get id):Y6 C A bd w γ hg nx o a.eval g (f.run t g):=by
 cases op<;>simp only[cP]at h<;>first| (cases h;done)|skip
 case move x =>
  split at h
  ·rename_i s hs;injection h with h;subst h;exact .now (by simp_all[execOp]) (aC hs ht hr)
  grind
 case assign x =>
  split at h
  ·rename_i s hs;injection h with h;subst h;exact .now (by simp_all[execOp]) (aC hs ht hr)
  grind
 case pick c x y =>
  split at h
  ·rename_i sc sx sy hc hx I;injection h with h;subst h;have B:=aC hc ht hr;have L:=aC hx ht hr;have Q:=aC I ht hr;dsimp only;generalize sc.run t=cv at B ⊢;generalize hcv:a.eval c=vc at B;cases B with
   | bool _ b =>
    cases b
    all_goals simp_all[Y6.now,execOp,asBool]
   |_=>trivial
  grind
 case alloc ty =>
  split at h
  ·rename_i cs hz;injection h with h;subst h;simp_all[Y6.ofUpd,execOp,PC]
  grind
 case box ty x =>
  split at h
  ·rename_i s hs;injection h with h;subst h;have B:=aC hs ht hr;unfold RA;dsimp only;rw[aa]
   split
   ·trivial
   ·rename_i N;exact .ofUpd (m:=Instr.box ty (a.eval x)) (by grind[execOp]) (UW hr B hf (by grind))
  grind
 case load ty x =>
  split at h
  ·rename_i s ag n hs E G;injection h with h;subst h;exact .ofVal (by grind[execOp]) (Ll hr (aC hs ht hr) E G λid hid=>agree id (by simp_all[bI,aL,am]))
  grind
 case store ty x y =>
  split at h
  ·rename_i s u n hs hu G;injection h with h;subst h;exact .ofUnit (by grind[execOp]) (Rd hr (aC hs ht hr) (aC hu ht hr) G λid hid=>agree id (by simp_all[bI,aL,am]))
  grind
 case binOp op ty x y p =>
  split at h
  ·rename_i s u hs hu;injection h with h;subst h;exact .ofVal (by grind[execOp]) (UV (xo:=x) (yo:=y) (aC hs ht hr) (aC hu ht hr))
  grind
 case unOp op ty x =>
  split at h
  ·rename_i s hs;injection h with h;subst h;exact .ofVal (by grind[execOp]) (Wy (aC hs ht hr))
  grind
 case convert src dst x =>
  split at h
  ·rename_i s sd k hs M hk;injection h with h;subst h;have B:=aC hs ht hr;dsimp only;generalize s.run t=cv at B ⊢;generalize hcv:a.eval x=vc at B;cases B with
   | int _ k' n =>refine .ofVal (m:=convert src dst (.int k' n)) (by simp only[execOp,ho,hcv]) ⟨.int k (k.wrap n),?_,by rw[je];exact .int _ _ _⟩;simp_all[convert,Conv.intToInt,aG]
   |_=>trivial
  grind
 case nilCheck x =>
  split at h
  ·rename_i s hs;injection h with h;subst h;have B:=aC hs ht hr;dsimp only;generalize s.run t=cv at B ⊢;generalize hcv:a.eval x=vc at B;cases B with
   |ZR _ tag sz rows i0 UI b o' cell h1 h2 h3 h4 h5 h6 h7 h8 h9=>exact .now (by simp_all[execOp]) (.ZR _ tag sz rows i0 UI b o' cell h1 h2 h3 h4 h5 h6 h7 h8 h9)
   |ZD _ id ep i off b o' h1 h2 h3=>exact .now (by simp_all[execOp]) (.ZD _ id ep i off b o' h1 h2 h3)
   |ZH _ f' xs ys vs us h1 h2 h3 h4=>exact .now (by simp[execOp,ho,hcv]) (.ZH _ f' xs ys vs us h1 h2 h3 h4)
   |NH _ id b h1 h2=>exact .now (by simp_all[execOp]) (.NH _ id b h1 h2)
   |_=>trivial
  grind
 case makeInterface ty x =>
  split at h
  ·cases h
  ·rename_i s d O hs hu;injection h with h;subst h;refine .ofVal (m:=Instr.makeInterface ty (a.eval x)) (by simp only[execOp,ho]) ⟨.iface ty (a.eval x),?_,.J7 _ ty _ _ (aC hs ht hr)⟩;unfold Instr.makeInterface;simp only[Qk,aG hu,abi]
   try rfl
  grind
 case makeSlice ty l c =>
  split at h
  ·rename_i e sl sc he hl hc
   split at h
   ·rename_i sz bytes zero q J hz;rw[aa]at h
    split at h
    ·rename_i j;simp only[Zk,YD,ax]at j;injection h with h;subst h;have hu:C.P.underlying ty=some (.slice e):=by unfold od at he;split at he<;>first| (injection he with he;subst he;assumption)|cases he
     exact .ofUpd (by simp only[execOp,ho]) (HC hr hf hu q J hz (aH j.1) j.2 (aC hl ht hr) (aC hc ht hr))
    ·cases h
   ·cases h
  grind
 case fieldAddr ty x fi =>
  split at h
  ·rename_i s fo ft hs F
   split at h
   ·rename_i n G;injection h with h;subst h;exact .ofVal (by simp only[execOp,ho]) (Hv (g:=g) (aC hs ht hr) F G)
   ·cases h
  ·cases h
 case field ty x fi =>
  split at h
  ·rename_i s fo ft hs F
   split at h
   ·rename_i ag n E G;injection h with h;subst h;have B:=aC hs ht hr;refine .ofVal (m:=Instr.field ty (a.eval x) fi) (by simp only[execOp,ho]) ?_;dsimp only;generalize s.run t=y at B ⊢;cases y<;>first|trivial|exact Qa B F E G
   ·cases h
  ·cases h
 case indexAddr ty x ix =>
  split at h
  ·rename_i s i hs hi
   split at h
   ·rename_i e hu
    split at h
    ·rename_i sz q;injection h with h;subst h;exact .ofVal (by simp only[execOp,ho]) (K_ hr (aC hs ht hr) (aC hi ht hr) hu q λid hid=>agree id (by simp[bI,aL,am,hs,hu,hid]))
    ·cases h
   ·rename_i n e hu
    split at h
    ·rename_i sz q;injection h with h;subst h;exact .ofVal (by simp only[execOp,ho]) (K9 (g:=g) (aC hs ht hr) (aC hi ht hr) hu q)
    ·cases h
   ·cases h
  grind
 case index ty x ix =>
  split at h
  ·rename_i s i hs hi
   split at h
   ·rename_i n e hu
    split at h
    ·rename_i ag sz E q;injection h with h;subst h;exact .ofVal (by simp only[execOp,ho]) (Qp (g:=g) (aC hs ht hr) (aC hi ht hr) hu E q)
    ·cases h
   ·rename_i hu;injection h with h;subst h;exact .ofVal (by simp only[execOp,ho]) (Jt (g:=g) (aC hs ht hr) (aC hi ht hr) hu)
   ·cases h
  ·cases h
 case lookup ty x k ok =>
  split at h
  ·rename_i m kk kt et hm hk hu
   split at h
   ·rename_i z hz;injection h with h;subst h;exact .ofVal (by simp only[execOp,ho]) (M6 hr hu hz (aC hm ht hr) (aC hk ht hr) λid hid=>agree id (by cases ok<;>simp[bI,aL,am,hm,hid]))
   ·cases h
  ·cases h
 case mapUpdate ty m k x =>
  split at h
  ·rename_i sm sk sx kt et hm hk hx hu;injection h with h;subst h;exact .ofUnit (by simp only[execOp,ho]) (zy hr hu (aC hm ht hr) (aC hk ht hr) (aC hx ht hr) λid hid=>agree id (by simp[bI,aL,am,hm,hid]))
  ·cases h
 case insert ty m k x =>
  split at h
  ·rename_i sm sk sx kt et hm hk hx hu;injection h with h;subst h;exact .ofUnit (by simp only[execOp,ho]) (zy hr hu (aC hm ht hr) (aC hk ht hr) (aC hx ht hr) λid hid=>agree id (by simp[bI,aL,am,hm,hid]))
  ·cases h
 case mapEntry ty m k =>
  split at h
  ·rename_i sm sk kt et hm hk hu
   split at h
   ·rename_i z hz;injection h with h;subst h;exact .ofUpd (by simp only[execOp,ho]) (JA hr hu hz (aC hm ht hr) (aC hk ht hr) λid hid=>agree id (by simp[bI,aL,hm,hid]))
   ·cases h
  ·cases h
 case entryStore ty m st x =>
  split at h
  ·rename_i sm ss sx hm hs hx;injection h with h;subst h;exact .ofUnit (s:=Instr.entryStore ty (a.eval m) (a.eval st) (a.eval x)) (by simp only[execOp,ho]) (Fd hr (aC hm ht hr) (aC hs ht hr) (aC hx ht hr) λid hid=>agree id (by simp[bI,aL,am,hm,hid]))
  ·cases h
 case extract x i =>
  split at h
  ·rename_i s hs;injection h with h;subst h;have B:=aC hs ht hr;refine .ofVal (m:=Instr.extract (a.eval x) i) (by simp only[execOp,ho]) ?_;dsimp only;generalize s.run t=cv at B ⊢;generalize a.eval x=vc at B;cases B with
   | Zz _ xs vs hl hall =>
    simp only[eI];refine rk λy I=>?_;have hlt:i<vs.size:=by rw[<-hl];exact (tI.1 I).1
    exact⟨vs[i],by simp[Instr.extract,hlt],hall i y _ I (by simp[hlt])⟩
   |_=>trivial
  ·cases h
 case makeMap ty r =>
  cases r with
  |some r=>cases h
  | none =>
   dsimp only at h
   split at h
   ·injection h with h;subst h;refine .ofUpd (m:=do pure (.map (some (<-newObj (.map #[] 0))))) ?_ (Na (P:=C.P) hr hf);simp only[execOp,ho,Instr.makeMap,aev]
    try rfl
   ·cases h
 case makeFunc fn fi ca =>
  cases fn with
  | func fx =>
   dsimp only at h
   split at h
   ·rename_i sa sc ha hc;injection h with h;subst h;have B:=jc ht hr ha;have L:=jc ht hr hc;refine .now (v:=.func (.func fx) (fi.map a.eval) (ca.map a.eval)) (by simp[execOp,ho,Instr.makeFunc]) (.ZH _ fx _ _ _ _ (by simpa using B.1) (by simpa using L.1) (λi x v hx hv=>?_) (λi x v hx hv=>?_))
    ·exact B.2 i x v hx (by simpa using hv)
    ·exact L.2 i x v hx (by simpa using hv)
   ·cases h
  |_=>cases h
 case buildSlice ty len parts =>
  split at h
  ·rename_i e vs he D
   split at h
   ·rename_i sz zero q hz;rw[aa]at h
    split at h
    ·rename_i j;simp only[Zk,YD,R1,ax]at j;injection h with h;subst h;have hu:C.P.underlying ty=some (.slice e):=by unfold od at he;split at he<;>first| (injection he with he;subst he;assumption)|cases he
     exact .ofUpd (by simp only[execOp,ho]) (EI hr hf hu q hz (aH j.1.1) j.1.2 j.2 (jc ht hr D))
    ·cases h
   ·cases h
  ·cases h
 case build ty parts =>
  split at h
  ·rename_i zero vs hz D
   split at h
   ·rename_i fs hu
    split at h
    ·rename_i places K
     split at h
     ·rename_i pl hp;injection h with h;subst h;refine .ofVal (m:=Instr.build ty (parts.map λ(i,x)=>(i,a.eval x))) (by simp only[execOp,ho]) (HU (g:=g) (place:=(places[·]?)) hz (jc ht hr D) hp λz cells hzv hfill=>?_);have h1:(fs.mapM λf=>do pure (f.offset,<-Go.sizeOf f.type):Sem (Array (Nat×Nat))).run C.P w=.ok places.toArray w:=by
       rw[aeJ];have:=Nl (w:=w) K;simp only[Sem.run_map,this]
       rfl
      unfold Instr.build;simp only[Qk,hzv,aG hu,abi,h1];have e:(λi:Nat=>places.toArray[i]?)=(λi:Nat=>places[i]?):=by funext i;simp
      rw[e,hfill]
      rfl
     ·cases h
    ·cases h
   ·rename_i n e hu
    split at h
    ·rename_i sz q;injection h with h;subst h;refine .ofVal (m:=Instr.build ty (parts.map λ(i,x)=>(i,a.eval x))) (by simp only[execOp,ho]) (HU (g:=g) (place:=λi=>some (i*sz,sz)) hz (jc ht hr D) ?_ λz cells hzv hfill=>?_)
     ·generalize parts.toList.map (·.1)=is
      induction is with
      |nil=>rfl
      |cons i is ih=>simp only[aD,ih,Qv]
     ·unfold Instr.build;simp only[Qk,hzv,aG hu,abi,bj q];rw[hfill]
      rfl
    ·cases h
   ·cases h
  ·cases h
 case slice ty x lo hi mx =>
  have optR:∀{y:Option Operand} {s:TM (T->List AV)},cC C y.toList=some s->Qd w γ A bd (s.run t).head? (y.map a.eval):=by intro y s hs;have:=Tx (jc ht hr hs);cases y<;>simpa using this
  cases mx with
  | none =>
   dsimp only at h
   split at h
   ·rename_i e sx sl sh hu hx hl H
    split at h
    ·rename_i sz q;injection h with h;subst h;refine .ofVal (m:=Instr.sliceAt ty (a.eval x) (lo.map a.eval) (hi.map a.eval) none) (by simp only[execOp,ho,aev]) ?_;exact GB hr hu q (aC hx ht hr) (optR hl) (optR H) trivial (λh=>absurd rfl h) λid hid=>agree id (by simp[bI,aL,am,hx,hid])
    ·cases h
   ·rename_i n e sx sl sh hu hx hl H
    split at h
    ·rename_i sz q;injection h with h;subst h;refine .ofUpd (m:=Instr.sliceAt ty (a.eval x) (lo.map a.eval) (hi.map a.eval) none) (by simp only[execOp,ho,aev]) ?_;exact JT (lo:=λt=>(sl.run t).head?) (hi:=λt=>(sh.run t).head?) hr hu q (abc _) (aC hx ht hr) (optR hl) (optR H) λid hid=>agree id (by simp[bI,aL,am,hx,hid])
    ·cases h
   ·cases h
  | some mx =>
   cases hi with
   |none=>cases h
   | some hi =>
    dsimp only at h
    split at h
    ·rename_i e sx sl sh sm he hx hl H hm
     split at h
     ·rename_i sz q;injection h with h;subst h;have hu:C.P.underlying ty=some (.slice e):=by unfold od at he;split at he<;>first| (injection he with he;subst he;assumption)|cases he
      refine .ofVal (m:=Instr.sliceAt ty (a.eval x) (lo.map a.eval) (some (a.eval hi)) (some (a.eval mx))) (by simp only[execOp,ho,PW]) ?_;exact GB hr hu q (aC hx ht hr) (optR hl) (aC H ht hr) (aC hm ht hr) (λ_ h=>by cases h) λid hid=>agree id (by simp[bI,aL,am,hx,hid])
     ·cases h
    ·cases h
 case call c =>
  obtain⟨callee,args,argTypes⟩:=c;cases callee<;>first| (cases h;done)|skip
  rename_i b;dsimp only at h;obtain⟨vs,D⟩:=zd h;obtain⟨m,h1,h2⟩:=Kn (ty:=o.type) (consts:=args.map fun|.const _=>true|_=>false) h ht hr hf λx hx s hs id hid=>agree id (by have:=PI (t:=t) D x hx s hs;unfold bI aL;simp only[D,am,MH,VM,XP];exact⟨_,this,hid⟩)
  refine .ofUpd (m:=m) ?_ h2;rw[<-h1];simp only[execOp,ho,resolve,invoke];have e:args.map a.eval=(args.toList.map a.eval).toArray:=by apply Array.ext';simp
  rw[<-e]
  rfl
end
section
variable {g2:G}
theorem gm{α β:Type}{f:α->Option β}:∀{l:List α} {r:List β},aD f l=some r->∀(i:Nat) y,r[i]?=some y->∃x,l[i]?=some x/\f x=some y:=by
 intro l
 induction l with
 |nil=>grind[aD]
 | cons a l ih =>
  intro r h i y k;simp only[aD]at h
  grind
theorem nj{α β:Type}{f:α->Option β}:∀{l:List α} {r:List β},aD f l=some r->r.length=l.length:=by
 intro l
 induction l<;>grind[aD]
theorem Mb{h:H}{tag:Nat}:∀{f:Nat} {x y:AV},ZS h tag f x=some y->x.one=true->y.one=true:=by
 intro f x y hs hx;cases f with
 |zero=>cases hs
 | succ f =>
  cases x<;>simp only[ZS]at hs<;>first| (cases hx;done)|skip
  all_goals first| (injection hs with hs;grind)|skip
  all_goals
   repeat (split at hs)
   all_goals first| (cases hs;done)| (injection hs with hs;subst hs;rfl)| (rw[aa]at hs;split at hs<;>first| (cases hs;done)| (injection hs with hs;subst hs;rfl))
def Wo(h:H)(hg:Nat->ZM):Prop:=∀id,h.get id≠.none->hg id=h.get id
section
variable {C:ZO}{A A':Nat->Nat->Prop}{bd:Nat}{w w':World}{γ γ':Gm}{hg:Nat->ZM}{nx:Nat}
theorem nz(h:RV w γ A bd x v):Closed x ->
  (∀t b,t<=bd->b<w.heap.size->¬A t b->¬VA γ b->¬A' t b/\¬VA γ' b)->RV w γ' A' bd x v:=by
 induction h with
 |bool=>intro _ _;exact .bool _ _
 |int=>intro _ _;exact .int _ _ _
 |str=>intro _ _;exact .str _ _
 | Zz _ xs vs hl _ ih =>intro hc hs;cases hc with|Zz _ hc=>exact .Zz _ _ _ hl (by grind)
 | agg _ xs vs hl h1 _ ih =>intro hc hs;cases hc with|agg _ hc=>exact .agg _ _ _ hl h1 (by grind)
 |Ud=>intro _ _;exact .Ud _
 |Z6=>intro _ _;exact .Z6 _
 |Mq=>intro _ _;exact .Mq _
 |Xu=>intro _ _;exact .Xu _
 |tO=>intro _ _;exact .tO _
 |TT=>intro _ _;exact .TT _ _
 | Zs _ tag sz rows b o cap cell ht hc hb hm ha hr ho hw h hcl ih =>
  intro _ hs;obtain⟨h1,h2⟩:=hs tag b ht hb ha hm;exact .Zs _ tag sz rows b o cap cell ht hc hb h2 h1 hr ho hw
   (λi j row x a c=>ih i j row x a c (hcl row (YH a) x (YH c)) (by grind)) hcl
 |YF _ tag sz a cap ht=>intro _ _;exact .YF _ tag sz a cap ht
 | ZR _ tag sz rows i0 UI b o cell ht hb hm ha hr ho hw h hcl ih =>
  intro _ hs;obtain⟨h1,h2⟩:=hs tag b ht hb ha hm;exact .ZR _ tag sz rows i0 UI b o cell ht hb h2 h1 hr ho hw
   (λi j row x a c=>ih i j row x a c (hcl row (YH a) x (YH c)) (by grind)) hcl
 |ZG=>intro hc;cases hc
 |ZD=>intro hc;cases hc
 | ZH _ f xs ys vs us hl hl2 _ _ ih ih2 =>
  intro hc hs;cases hc with
  |ZH _ _ _ hc hc2=>exact .ZH _ f xs ys vs us hl hl2 (by grind) (by grind)
 |hmap=>intro hc;cases hc
 |J7 _ t x v _ ih=>intro hc hs;cases hc with|J7 _ _ hc=>exact .J7 _ t x v (ih hc hs)
 |NH=>intro hc;cases hc
theorem ym(h:RV w γ A bd x v)(hx:(∃l sz rows,x=.Zs l sz rows)\/(∃l sz rows i o,x=.ZR l sz rows i o)):Closed x:=by
 rcases hx with⟨l,sz,rows,rfl⟩|⟨l,sz,rows,i,o,rfl⟩
 ·cases h with
  |Zs _ _ _ _ _ _ _ _ _ _ _ _ _ _ _ _ _ hcl=>exact .Zs _ _ _ hcl
  |YF=>exact .Zs _ _ _ (by grind)
 ·cases h with
  |ZR _ _ _ _ _ _ _ _ _ _ _ _ _ _ _ _ _ hcl=>exact .ZR _ _ _ _ _ hcl
theorem Eq{h:H}{tag B:Nat}{L:Nat->Prop}(hr:ZB C A bd w γ hg nx)(hx:∀id,L id->h.get id≠.none->hg id=h.get id)(hB:bd<=B)(htB:tag<=B)
  (hs:∀t b,t<=bd->b<w.heap.size->¬A t b->¬VA γ b->¬A' t b/\¬VA γ' b)
  (ho:∀id,L id->(∃sz rows ep lo fz,h.get id=.cells sz rows ep lo fz)->(γ id).kind=1->∀t,tag<=t->t<=B->¬A' t (γ id).blk/\¬VA γ' (γ id).blk) :
  ∀(f:Nat) {x y:AV} {v:Value},ZS h tag f x=some y->RV w γ A bd x v->(∀id∈aB h f x,L id)->RV w γ' A' B y v/\Closed y:=by
 intro f
 induction f with
 |zero=>intro x y v h;cases h
 | succ f ih =>
  intro x y v d R D;have l:∀{xs ys:List AV} {vs:Array Value},aD (ZS h tag f) xs=some ys->(∀id∈xs.flatMap (aB h f),L id)->xs.length=vs.size ->
    (∀(i:Nat) x v,xs[i]?=some x->vs[i]?=some v->RV w γ A bd x v) ->
    ys.length=vs.size/\(∀(i:Nat) x v,ys[i]?=some x->vs[i]?=some v->RV w γ' A' B x v)/\∀y∈ys,Closed y:=by
   intro xs ys vs h1 h2 h3 h4;have h5:∀(i:Nat) y,ys[i]?=some y->∃v,vs[i]?=some v/\RV w γ' A' B y v/\Closed y:=by
    intro i y T;obtain⟨x,a1,a2⟩:=gm h1 i y T;have hlt:i<vs.size:=by grind
    have R:=Np hlt
    grind
   refine⟨by rw[nj h1,h3],λi y v T R=>?_,λy T=>?_⟩<;>grind[QG]
  have z:∀{id sz:Nat} {rows:List (List AV)} {ep:Nat} {lo fz:Bool} {start len:Nat} {rs:List (List AV)} {m:Nat},
    hg id=.cells sz rows ep lo fz->aD (aD (ZS h tag f)) ((rows.drop start).take len)=some rs->it rs=some m ->
    (∀id'∈((rows.drop start).take len).flatMap (·.flatMap (aB h f)),L id')->start+len<=rows.length ->
    rs.length=len/\m<=B/\(∀(i:Nat) row,rs[i]?=some row->row.length=sz) /\
    (∀(i j:Nat) row x,rs[i]?=some row->row[j]?=some x->x.one=true/\∃c,w.cell? (Zo (γ id).blk ((γ id).base+start*sz+i*sz+j))=some c/\RV w γ' A' m x c) /\
    (∀row∈rs,∀x∈row,Closed x):=by
   intro id sz rows ep lo fz start len rs m p hm K O G;have q:=hr.obj id;rw[p]at q;have I:rs.length=len:=by rw[nj hm];grind
   have key:∀(i j:Nat) row x,rs[i]?=some row->row[j]?=some x->x.one=true/\∃c,w.cell? (Zo (γ id).blk ((γ id).base+start*sz+i*sz+j))=some c/\RV w γ' A' B x c/\Closed x:=by
    intro i j row x hi E;obtain⟨Se,a1,a2⟩:=gm hm i row hi;obtain⟨x0,b1,b2⟩:=gm a2 j x E;have Q:rows[start+i]?=some Se:=by grind
    obtain⟨c1,v,W,X⟩:=yN hr p Q j x0 b1;obtain⟨d1,d2⟩:=ih b2 X λid' hid'=>O id' (XP.2 ⟨Se,YH a1,(by grind)⟩);refine⟨Mb b2 c1,v,?_,d1,d2⟩<;>grind
   refine⟨I,?_,?_,?_,?_⟩
   ·refine fU K λrow hrow k hk=>fU hk λx hx k' hk'=>?_;obtain⟨i,hi⟩:=QG hrow;obtain⟨j,E⟩:=QG hx;obtain⟨_,c,_,hc,_⟩:=key i j row x hi E;exact Et _ hk' hc
   ·intro i row hi;obtain⟨Se,a1,a2⟩:=gm hm i row hi;rw[nj a2];obtain⟨Y,k2,M,Z,k5,k6,c,e,k7,k8,k9,h6⟩:=q<;>grind
   all_goals grind[Ax,QG]
  cases R with
  | agg _ xs vs hl h1 h2 =>
   simp only[ZS]at d
   split at d
   ·rename_i as s;injection d with d;subst d;obtain⟨a,b,c⟩:=l s (by grind[aB]) hl h2;refine⟨.agg _ _ _ a (λi x hi=>?_) b,.agg _ c⟩;obtain⟨x0,a1,a2⟩:=gm s i x hi<;>grind[Mb]
   grind
  | Zz _ xs vs hl h2 =>
   simp only[ZS]at d
   split at d
   ·rename_i as s;injection d with d;subst d;obtain⟨a,b,c⟩:=l s (by grind[aB]) hl h2;exact⟨.Zz _ _ _ a b,.Zz _ c⟩
   grind
  | ZH _ g xs ys vs us hl hl2 h1 h2 =>
   simp only[ZS]at d;simp only[aB]at D
   split at d
   ·rename_i as cs s P;injection d with d;subst d;obtain⟨a,b,c⟩:=l s (by grind) hl h1;obtain⟨a',b',c'⟩:=l P (by grind) hl2 h2;exact⟨.ZH _ _ _ _ _ _ a a' b b',.ZH _ _ _ c c'⟩
   grind
  | J7 _ t x v h1 =>
   simp only[ZS]at d
   split at d
   ·rename_i a ha;injection d with d;subst d;obtain⟨a,b⟩:=ih ha h1 (by grind[aB]);exact⟨.J7 _ _ _ _ a,.J7 _ _ b⟩
   grind
  | ZG _ id ep off len lim b o cap hk he hc h' =>
   simp only[ZS]at d
   split at d
   ·rename_i sz rows ep' lo fz n;rw[aa]at d
    split at d
    ·rename_i u;simp only[Zk,R1,ax]at u;obtain⟨r,G⟩:=u;have r:=aH r
     split at d
     ·rename_i rs F
      split at d
      ·rename_i m hm;injection d with d;subst d;have p:hg id=.cells sz rows ep' lo fz:=by grind[aB]
       have q:=hr.obj id;rw[p]at q;obtain⟨Y,k2,M,Z,_⟩:=q;obtain⟨e1,N,e3⟩:=h' (r.trans k2.symm);subst e1;subst N;simp only[aB,n]at D;simp only[bE,bu]at F D;obtain⟨r1,U,V,r4,r5⟩:=z p F hm (λid' hid'=>D id' (ada _ hid')) G;obtain⟨o1,o2⟩:=ho id (D id ado) ⟨_,_,_,_,_,n⟩ hk (Nat.max tag m) (KT _ _) (afr.2 ⟨htB,U⟩);refine⟨?_,.Zs _ _ _ r5⟩;rw[<-r1];rw[M];refine .Zs _ (Nat.max tag m) sz rs (γ id).blk ((γ id).base+off*sz) cap (λi j=>(w.cell? (Zo (γ id).blk ((γ id).base+off*sz+i*sz+j))).getD undef) (by grind) (by omega)
        (hr.lt id (by omega)).2 o2 o1 V (by grind) (by grind) (λi j row x hi E=>?_) r5
       all_goals grind[RV.mono]
      grind
     grind
    grind
   grind
  | ZD _ id ep i off b o hk he h' =>
   simp only[ZS]at d
   split at d
   ·rename_i sz rows ep' lo fz n;rw[aa]at d
    split at d
    ·rename_i r;have r:=aH r
     split at d
     ·rename_i rs F
      split at d
      ·rename_i m hm;injection d with d;subst d;have p:hg id=.cells sz rows ep' lo fz:=by grind[aB]
       have q:=hr.obj id;rw[p]at q;obtain⟨Y,k2,M,Z,_⟩:=q;obtain⟨e1,N⟩:=h' (r.trans k2.symm);subst e1;subst N;simp only[aB,n]at D;have J:aD (aD (ZS h tag f)) ((rows.drop 0).take rows.length)=some rs:=by grind
       obtain⟨r1,U,V,r4,r5⟩:=z p J hm (λid' hid'=>D id' (ada _ (by grind))) (by omega);obtain⟨o1,o2⟩:=ho id (D id ado) ⟨_,_,_,_,_,n⟩ hk (Nat.max tag m) (KT _ _) (afr.2 ⟨htB,U⟩);refine⟨?_,.ZR _ _ _ _ _ r5⟩;rw[M];refine .ZR _ (Nat.max tag m) sz rs i off (γ id).blk (γ id).base (λi j=>(w.cell? (Zo (γ id).blk ((γ id).base+i*sz+j))).getD undef) (by grind)
        (hr.lt id (by omega)).2 o2 o1 V (by grind) (λi j row x hi E=>?_) (λi j row x hi E=>?_) r5
       ·grind
       ·obtain⟨_,c,W,X⟩:=r4 i j row x hi E;simp only[aeB,Yt]at W
        grind[RV.mono]
      grind
     grind
    grind
   grind
  |hmap=>cases d
  |NH=>cases d
  | Zs _ tag' sz rows b o cap cell ht hc hb hm ha hrl ho' hw hcell hcl =>simp only[ZS]at d;injection d with d;subst d;exact⟨(nz (.Zs _ tag' sz rows b o cap cell ht hc hb hm ha hrl ho' hw hcell hcl) (.Zs _ _ _ hcl) hs).mono hB,.Zs _ _ _ hcl⟩
  |YF _ tag' sz a cap ht=>simp only[ZS]at d;injection d with d;subst d;exact⟨.YF _ tag' sz a cap (Y1 ht hB),.Zs _ _ _ (by grind)⟩
  | ZR _ tag' sz rows i0 UI b o cell ht hb hm ha hrl ho' hw hcell hcl =>simp only[ZS]at d;injection d with d;subst d;exact⟨(nz (.ZR _ tag' sz rows i0 UI b o cell ht hb hm ha hrl ho' hw hcell hcl) (.ZR _ _ _ _ _ hcl) hs).mono hB,.ZR _ _ _ _ _ hcl⟩
  |bool=>simp only[ZS]at d;injection d with d;subst d;exact⟨.bool _ _,.bool _⟩
  |int=>simp only[ZS]at d;injection d with d;subst d;exact⟨.int _ _ _,.int _ _⟩
  |str=>simp only[ZS]at d;injection d with d;subst d;exact⟨.str _ _,.str _⟩
  |Ud=>simp only[ZS]at d;injection d with d;subst d;exact⟨.Ud _,.Ud⟩
  |Z6=>simp only[ZS]at d;injection d with d;subst d;exact⟨.Z6 _,.Z6⟩
  |Mq=>simp only[ZS]at d;injection d with d;subst d;exact⟨.Mq _,.Mq⟩
  |Xu=>simp only[ZS]at d;injection d with d;subst d;exact⟨.Xu _,.Xu⟩
  |tO=>simp only[ZS]at d;injection d with d;subst d;exact⟨.tO _,.tO⟩
  |TT _ a=>simp only[ZS]at d;injection d with d;subst d;exact⟨.TT _ a,.TT⟩
theorem IL:∀{f:Nat} {x y:AV},eL d f x=some y->x.one=true->y.one=true:=by
 intro f x y hs hx;cases f with
 |zero=>cases hs
 | succ f =>
  cases x<;>simp only[eL,aa]at hs<;>first| (cases hx;done)|skip
  all_goals first| (injection hs with hs;subst hs;rfl)|skip
  all_goals
   repeat (split at hs)
   all_goals first| (cases hs;done)| (injection hs with hs;subst hs;rfl)
theorem Us(hA:∀t b,t<d->¬A t b->¬A' t b)(hd:∀b,¬A d b->∀t,¬A' t b) :
  ∀(f:Nat) {x y:AV} {v:Value},eL d f x=some y->RV w γ A d x v->Closed x->RV w γ A' d y v/\Closed y:=by
 intro f
 induction f with
 |zero=>intro x y v h;cases h
 | succ f ih =>
  intro x y v l G n;have q:∀{xs ys:List AV} {vs:Array Value},aD (eL d f) xs=some ys->xs.length=vs.size->(∀x∈xs,Closed x) ->
    (∀(i:Nat) x v,xs[i]?=some x->vs[i]?=some v->RV w γ A d x v) ->
    ys.length=vs.size/\(∀(i:Nat) x v,ys[i]?=some x->vs[i]?=some v->RV w γ A' d x v)/\∀y∈ys,Closed y:=by
   intro xs ys vs h1 L hc h4;have N:∀(i:Nat) y,ys[i]?=some y->∃v,vs[i]?=some v/\RV w γ A' d y v/\Closed y:=by
    intro i y H;obtain⟨x,a1,a2⟩:=gm h1 i y H;have hlt:i<vs.size:=by grind
    have G:=Np hlt
    grind
   refine⟨by rw[nj h1,L],λi y v H G=>?_,λy H=>?_⟩<;>grind[QG]
  have s:∀{sz:Nat} {rows rs:List (List AV)} {m:Nat} {cell:Nat->Nat->Value},aD (aD (eL d f)) rows=some rs->it rs=some m ->
    (∀(i:Nat) row,rows[i]?=some row->row.length=sz) ->
    (∀(i j:Nat) row x,rows[i]?=some row->row[j]?=some x->x.one=true) ->
    (∀(i j:Nat) row x,rows[i]?=some row->row[j]?=some x->RV w γ A d x (cell i j)) ->
    (∀row∈rows,∀x∈row,Closed x) ->
    rs.length=rows.length/\m<=d/\(∀(i:Nat) row,rs[i]?=some row->row.length=sz) /\
    (∀(i j:Nat) row x,rs[i]?=some row->row[j]?=some x->x.one=true/\(∃Se C,rows[i]?=some Se/\Se[j]?=some C)/\RV w γ A' m x (cell i j)) /\
    (∀row∈rs,∀x∈row,Closed x):=by
   intro sz rows rs m cell h1 h2 L h4 h5 M;have key:∀(i j:Nat) row x,rs[i]?=some row->row[j]?=some x->x.one=true/\(∃Se C,rows[i]?=some Se/\Se[j]?=some C)/\RV w γ A' d x (cell i j)/\Closed x:=by intro i j row x hi F;obtain⟨Se,a1,a2⟩:=gm h1 i row hi;obtain⟨C,b1,b2⟩:=gm a2 j x F;obtain⟨c1,O⟩:=ih b2 (h5 i j Se C a1 b1) (M Se (YH a1) C (YH b1))<;>grind[IL]
   refine⟨nj h1,?_,?_,?_,?_⟩
   ·refine fU h2 λrow hrow k hk=>fU hk λx hx k' hk'=>?_;obtain⟨i,hi⟩:=QG hrow;obtain⟨j,F⟩:=QG hx;obtain⟨_,_,hc,_⟩:=key i j row x hi F;exact Et _ hk' hc
   ·intro i row hi;obtain⟨Se,a1,a2⟩:=gm h1 i row hi<;>grind[nj]
   all_goals grind[Ax,QG]
  have u:∀{t:Nat},t<=d->t≠d->∀t' b,t'<=t->b<w.heap.size->¬A t' b->¬VA γ b->¬A' t' b/\¬VA γ b :=(by grind)
  cases G with
  | agg _ xs vs hl h1 h2 =>
   simp only[eL]at l
   split at l
   ·rename_i as r;injection l with l;subst l;cases n with
    | agg _ n =>obtain⟨a,b,c⟩:=q r hl n h2;refine⟨.agg _ _ _ a (λi x hi=>?_) b,.agg _ c⟩<;>grind[gm,IL]
   grind
  | Zz _ xs vs hl h2 =>
   simp only[eL]at l
   split at l
   ·rename_i as r;injection l with l;subst l;cases n with
    | Zz _ n =>obtain⟨a,b,c⟩:=q r hl n h2;exact⟨.Zz _ _ _ a b,.Zz _ c⟩
   grind
  | ZH _ g xs ys vs us hl hl2 h1 h2 =>
   simp only[eL]at l
   split at l
   ·rename_i as cs r E;injection l with l;subst l;cases n with
    | ZH _ _ _ n hcx2 =>obtain⟨a,b,c⟩:=q r hl n h1;obtain⟨a',b',c'⟩:=q E hl2 hcx2 h2;exact⟨.ZH _ _ _ _ _ _ a a' b b',.ZH _ _ _ c c'⟩
   grind
  | J7 _ t x v h1 =>
   simp only[eL]at l
   split at l
   ·rename_i a ha;injection l with l;subst l;cases n with
    | J7 _ _ n =>obtain⟨a,b⟩:=ih ha h1 n;exact⟨.J7 _ _ _ _ a,.J7 _ _ b⟩
   grind
  | Zs _ t sz rows b o cap cell ht hc hb hm ha hrl ho' hw hcell hcl =>
   simp only[eL,aa]at l
   split at l
   ·rename_i p;have p:=aH p
    split at l
    ·rename_i rs B
     split at l
     ·rename_i m z;injection l with l;subst l;obtain⟨I,J,K,D,r5⟩:=s (cell:=cell) B z hrl ho' (by grind) hcl;refine⟨?_,.Zs _ _ _ r5⟩;rw[<-I];refine .Zs _ m sz rs b o cap cell J (by rw[I];exact hc) hb hm (hd b (p ▸ ha) m) K (λi j row x a b=>(D i j row x a b).1) (λi j row x a b=>?_) (λi j row x a b=>(D i j row x a b).2.2) r5<;>grind
     grind
    grind
   ·rename_i p;injection l with l;subst l;have p:t≠d:=λe=>p (by grind[X_]);exact⟨.Zs _ t sz rows b o cap cell ht hc hb hm (by grind) hrl ho' hw (λi j row x a c=>nz (by grind) (hcl row (YH a) x (YH c)) (u ht p)) hcl,.Zs _ _ _ hcl⟩
  | YF _ t sz a cap ht =>
   simp only[eL,aa]at l
   split at l
   ·simp only[aD,it,jv]at l;injection l with l;subst l;exact⟨.YF _ _ sz a cap (Jq _),.Zs _ _ _ (by grind)⟩
   ·injection l with l;subst l;exact⟨.YF _ t sz a cap ht,(by grind)⟩
  | ZR _ t sz rows i0 UI b o cell ht hb hm ha hrl ho' hw hcell hcl =>
   simp only[eL,aa]at l
   split at l
   ·rename_i p;have p:=aH p
    split at l
    ·rename_i rs B
     split at l
     ·rename_i m z;injection l with l;subst l;obtain⟨I,J,K,D,r5⟩:=s (cell:=cell) B z hrl ho' (by grind) hcl;refine⟨?_,.ZR _ _ _ _ _ r5⟩;refine .ZR _ m sz rs i0 UI b o cell J hb hm (hd b (p ▸ ha) m) K (λi j row x a b=>(D i j row x a b).1) (λi j row x a b=>?_) (λi j row x a b=>(D i j row x a b).2.2) r5<;>grind
     grind
    grind
   ·rename_i p;injection l with l;subst l;have p:t≠d:=λe=>p (by grind[X_]);exact⟨.ZR _ t sz rows i0 UI b o cell ht hb hm (by grind) hrl ho' hw (λi j row x a c=>nz (by grind) (hcl row (YH a) x (YH c)) (u ht p)) hcl,.ZR _ _ _ _ _ hcl⟩
  |bool=>simp only[eL]at l;injection l with l;subst l;exact⟨.bool _ _,.bool _⟩
  |int=>simp only[eL]at l;injection l with l;subst l;exact⟨.int _ _ _,.int _ _⟩
  |str=>simp only[eL]at l;injection l with l;subst l;exact⟨.str _ _,.str _⟩
  |Ud=>simp only[eL]at l;injection l with l;subst l;exact⟨.Ud _,.Ud⟩
  |Z6=>simp only[eL]at l;injection l with l;subst l;exact⟨.Z6 _,.Z6⟩
  |Mq=>simp only[eL]at l;injection l with l;subst l;exact⟨.Mq _,.Mq⟩
  |Xu=>simp only[eL]at l;injection l with l;subst l;exact⟨.Xu _,.Xu⟩
  |tO=>simp only[eL]at l;injection l with l;subst l;exact⟨.tO _,.tO⟩
  |TT _ a=>simp only[eL]at l;injection l with l;subst l;exact⟨.TT _ a,.TT⟩
  |ZG=>cases n
  |ZD=>cases n
  |hmap=>cases n
  |NH=>cases n
theorem GF(s1:w.heap.size<=w'.heap.size)(s2:w'.os=w.os)(s3:w'.tape=w.tape)(s4:w'.output=w.output)(s5:w.drawn<=w'.drawn)
  (hb:∀b,b<w.heap.size->w'.heap[b]?=w.heap[b]?):Stp w γ w' γ :=
 ⟨s1,s2,s3,s4,λb h _=>hb b h,λ_ _ h=>h,(by grind),(by grind),s5⟩
theorem ZB.same(hr:ZB C A bd w γ hg nx)(s:Stp w γ w' γ)(hb:∀b,b<w.heap.size->w'.heap[b]?=w.heap[b]?):ZB C A bd w' γ hg nx where
 obj id:=(hr.obj id).step s rfl λhk _=>hb _ (hr.lt id hk).2
 lt id hk:=⟨(hr.lt id hk).1,Vd (hr.lt id hk).2 s.sz⟩
 inj:=hr.inj
 av:=hr.av
 ab t b h:=Vd (hr.ab t b h) s.sz
 Q6 g sz rows h:=(hr.Q6 g sz rows h).step s
structure Fin (C:ZO) (A:Nat->Nat->Prop) (bd:Nat) (w:World) (γ:Gm) (hg:Nat->ZM) (nx:Nat) (g:G) (w':World) (γ':Gm) (hg':Nat->ZM) (g':G):Prop where
 rel:ZB C A bd w' γ' hg' (Nat.max nx g'.nx)
 WB:Stp w γ w' γ'
 new:∃new,g'.lg=new++g.lg/\(∀id∈new,hg' id=g'.h.get id)/\∀id,id ∉ new->hg' id=hg id
structure Mon (g g':G):Prop where
 nx:g.nx<=g'.nx
 new:∃new,g'.lg=new++g.lg/\(∀id,id ∉ new->g'.h.get id=g.h.get id)/\∀id∈new,id<g'.nx/\(g.h.get id=.none->g.nx<=id)
 wf:(∀id,g.nx<=id->g.h.get id=.none)->∀id,g'.nx<=id->g'.h.get id=.none
def WF(g:G):Prop:=∀id,g.nx<=id->g.h.get id=.none
theorem Mon.refl(g:G):Mon g g:=⟨ZV _,⟨[],rfl,λ_ _=>rfl,(by grind)⟩,λh=>h⟩
theorem Mon.trans(h1:Mon g g1)(h2:Mon g1 g2):Mon g g2:=by
 obtain⟨n1,a1,b1,c1⟩:=h1.new;obtain⟨n2,a2,b2,k⟩:=h2.new;refine⟨Y1 h1.nx h2.nx,⟨n2++n1,by grind,λid hid=>?_,λid hid=>?_⟩,λh=>h2.wf (h1.wf h)⟩
 ·grind
 ·by_cases hin:id∈n1
  ·grind[Vd,nx]
  ·rcases Tn.1 hid with h|h
   ·exact⟨(k id h).1,λhn=>Y1 h1.nx ((k id h).2 (by grind))⟩
   grind
def Wg(γ:Gm)(g g':G):Prop:=∀id,g.nx<=id->id<=g'.nx->(γ id).kind=0
theorem Fin.refl{g:G}(hr:ZB C A bd w γ hg nx):Fin C A bd w γ hg nx g w γ hg g :=⟨hr.up (KT _ _),Stp.refl _ _,⟨[],rfl,(by grind),λ_ _=>rfl⟩⟩
theorem ZB.none_iff(hr:ZB C A bd w γ hg nx)(id:Nat):(γ id).kind=0↔hg id=.none:=by
 have h:=hr.obj id;constructor
 ·intro hk;cases ho:hg id with
  |none=>rfl
  |_=>rw[ho]at h;have:=h.1;omega
 ·intro k;rw[k]at h;exact h
theorem Fin.freed{w1:World}{γ1:Gm}{hg1:Nat->ZM}(h1:Fin C A bd w γ hg nx g w1 γ1 hg1 g1)(hr:ZB C A bd w γ hg nx)(m1:Mon g g1)(hf:Wg γ g g2):Wg γ1 g1 g2:=by
 obtain⟨n,a,b,c⟩:=h1.new;obtain⟨n',a',b',c'⟩:=m1.new;have e:n'=n:=adF (a'.symm.trans a);subst e;intro id h2 k;have d:id ∉ n':=λh=>by grind
 rw[h1.rel.none_iff,c id d,<-hr.none_iff];exact hf id (Y1 m1.nx h2) k
theorem Wg.le{γ:Gm}(h:Wg γ g g2)(hle:g1.nx<=g2.nx):Wg γ g g1:=λid h1 h2=>h id h1 (Y1 h2 hle)
theorem Fin.ext{hg':Nat->ZM}(h:Fin C A bd w γ hg nx g w' γ' hg' g')(m:Mon g g')(hx:Wo g.h hg):Wo g'.h hg':=by
 obtain⟨n,a,b,c⟩:=h.new;obtain⟨n',a',b',_⟩:=m.new;have e:n'=n:=adF (a'.symm.trans a);subst e;intro id k
 by_cases hin:id∈n'
 ·grind
 ·rw[c id hin,b' id hin];exact hx id (by grind)
theorem Fin.trans{g g1 g2:G}{w1 w2:World}{γ1 γ2:Gm}{hg1 hg2:Nat->ZM}(h1:Fin C A bd w γ hg nx g w1 γ1 hg1 g1)
  (h2:Fin C A bd w1 γ1 hg1 (Nat.max nx g1.nx) g1 w2 γ2 hg2 g2) (m1:Mon g g1) (m2:Mon g1 g2):Fin C A bd w γ hg nx g w2 γ2 hg2 g2:=by
 obtain⟨n1,a1,b1,c1⟩:=h1.new;obtain⟨n2,a2,b2,h⟩:=h2.new;obtain⟨n',a',b',_⟩:=m2.new;have e:n'=n2:=adF (a'.symm.trans a2);subst e;refine⟨?_,h1.WB.trans h2.WB,⟨n'++n1,by grind,λid hid=>?_,λid hid=>?_⟩⟩
 ·refine h2.rel.up (afr.2 ⟨afr.2 ⟨KT _ _,Y1 m2.nx (aeW _ _)⟩,aeW _ _⟩)
 all_goals grind
def sN(K:CallKind)(cs:List Frame):Prop:=K=.normal\/(K=.deferred/\∃c cs',cs=c::cs'/\(c.mode=.returning\/∃v x older,c.mode=.panicking ({ v,recovered:=true,goexit:=x }::older)))
def Vi(P:Program)(K:CallKind)(f:FuncId)(vs:Array Value)(cs:List Frame)(w:World)(u:Value)(w':World):Prop :=
 ∃fr,Steps P (lone (Frame.enter P f vs K) cs w) (lone fr cs w')/\fr.mode=.returning/\fr.defers=[]/\fr.kind=K/\fr.fn=f /\
  ∃fn,P.funcs[f]?=some fn/\(results fn fr.tmps).run P w'=.ok u w'
def mI(P:Program)(f:FuncId):Prop:=∀args w,(callFunc f args).run P w=.ok (.enter f args) w
def DW(C:ZO)(bd:Nat)(f:FuncId)(as:List AV)(g:G)(v:AV)(g':G):Prop :=
 ∀A w γ hg nx vs,ZB C A bd w γ hg nx->Wo g.h hg->WF g->Wg γ g g'->S9 w γ A bd as vs->∀K cs,sN K cs ->
  ∃u w' γ' hg',Fin C A bd w γ hg nx g w' γ' hg' g'/\RV w' γ' A bd v u/\Vi C.P K f vs.toArray cs w u w'
def Ew(C:ZO)(ih:IH):Prop :=∀bd f as g v g',ih.call (bd+1) f as g=.ok v g'->mI C.P f/\DW C bd f as g v g'
def AB(ih:IH):Prop:=∀d f as g v g',ih.call d f as g=.ok v g'->WF g->Mon g g'
theorem Hz:∀(ids:List Nat) (g:G),WF g->Mon g (dm g ids):=by
 intro ids
 induction ids with
 |nil=>intro g _;exact Mon.refl g
 | cons i is ih =>
  intro g k;simp only[dm]
  split
  ·rename_i sz rows ep lo fz a;have hi:i<g.nx:=aej λh=>by have:=k i h;simp_all
   refine Mon.trans ⟨by simp,⟨[i],by simp,λid hid=>?_,λid hid=>?_⟩,λh id hid=>?_⟩ (ih _ λid hid=>?_)
   ·simp_all[Za]
   ·simp_all
   ·simp only[G.put_nx]at hid;simp only[G.put_h,Za];grind
   ·simp only[G.put_nx]at hid;simp only[G.put_h,Za];rw[bJ];exact k id hid
  grind
theorem HA:∀(ids:List Nat) (g:G) (γ:Gm) (hg:Nat->ZM),ZB C A bd w γ hg nx->(∀id∈ids,g.h.get id≠.none->hg id=g.h.get id) ->
  ∃γ₁ hg₁,ZB C A bd w γ₁ hg₁ nx/\Stp w γ w γ₁/\(dm g ids).nx=g.nx /\
   (∃new,(dm g ids).lg=new++g.lg/\(∀id∈new,hg₁ id=(dm g ids).h.get id)/\(∀id,id ∉ new->hg₁ id=hg id)) /\
   (∀id,(γ₁ id).kind=(γ id).kind/\(γ₁ id).blk=(γ id).blk/\((γ₁ id).wr=true->(γ id).wr=true)) /\
   (∀id∈ids,(∃sz rows ep lo fz,g.h.get id=.cells sz rows ep lo fz)->(γ₁ id).wr=false):=by
 intro ids
 induction ids with
 | nil =>intro g γ hg hr hx;exact⟨γ,hg,hr,Stp.refl _ _,rfl,⟨[],rfl,(by grind),λ_ _=>rfl⟩,(by grind),(by grind)⟩
 | cons i is ih =>
  intro g γ hg hr hx;simp only[dm]
  split
  ·rename_i sz rows ep lo fz d;have f:g.h.get i=.cells sz rows ep lo fz:=by simp_all
   have j:hg i=.cells sz rows ep lo fz:=by grind
   obtain⟨γ₀,r0,o,e0,q⟩:=hr.freeze j;have m:∀id∈is,(g.put i (.cells sz rows ep lo true)).h.get id≠.none->upd hg i (.cells sz rows ep lo true) id=(g.put i (.cells sz rows ep lo true)).h.get id:=by
    intro id hin l;simp only[G.put_h,Za]at l ⊢;unfold upd
    grind
   obtain⟨γ₁,hg₁,n,p,n1,⟨new,l1,l2,l3⟩,f1,f2⟩:=ih _ γ₀ _ r0 m;refine⟨γ₁,hg₁,n,o.trans p,by simp_all,⟨new++[i],by simp_all,λid hid'=>?_,λid hid'=>?_⟩,λid=>?_,λid hid' hc=>?_⟩
   ·by_cases hin:id∈new
    ·grind
    ·have hi:id=i:=by
      grind
     subst hi;rw[l3 id hin];simp only[upd_same]
     by_cases hwf:∃new',(dm (g.put id (.cells sz rows ep lo true)) is).lg=new'++(g.put id (.cells sz rows ep lo true)).lg/\∀k,k ∉ new'->(dm (g.put id (.cells sz rows ep lo true)) is).h.get k=(g.put id (.cells sz rows ep lo true)).h.get k
     ·obtain⟨new',q1,q2⟩:=hwf;have e:new'=new:=adF (q1.symm.trans l1);simp_all[Za]
     ·exact absurd (freezeIds_log is _) hwf
   ·simp_all[dz]
   ·obtain⟨a,b,c⟩:=f1 id;rw[e0]at a b c;unfold upd at a b c
    grind
   ·rcases Y0.1 hid' with rfl|hin
    ·have:=(f1 id).2.2;simp_all
    ·by_cases hi:id=i
     ·subst hi;have:=(f1 id).2.2;simp_all
     ·refine f2 id hin ?_;simp_all[Za]
  simp_all where
 freezeIds_log:∀(ids:List Nat) (g:G),∃new',(dm g ids).lg=new'++g.lg/\∀k,k ∉ new'->(dm g ids).h.get k=g.h.get k:=by
  intro ids
  induction ids with
  |nil=>intro g;exact⟨[],rfl,λ_ _=>rfl⟩
  | cons i is ih =>
   intro g;simp only[dm]
   split
   ·rename_i sz rows ep lo fz d;obtain⟨new,a,b⟩:=ih (g.put i (.cells sz rows ep lo true));refine⟨new++[i],by simp_all,λk hk=>?_⟩;simp_all[Za]
   simp_all
def U7(g:G):OR->G
 |.upd _ g'=>g'
 |_=>g
def Q0:OR->AV
 |.upd v _=>v
 |.val v=>v
 |_=>.undef
theorem nh{ih:IH}(hwf:WF g):Mon g (U7 g (af ih d g f args)):=by
 unfold af
 split
 ·exact Mon.refl g
 split
 ·exact Mon.refl g
 split
 ·exact Mon.refl g
 split
 ·exact Mon.refl g
 rw[aa]
 split
 ·exact Mon.refl g
 split
 ·exact Mon.refl g
 split
 ·exact Mon.refl g
 rw[aa]
 split
 ·exact Hz _ _ hwf
 ·exact Mon.refl g
theorem q9{ih:IH}{vs:List Value}(hc:Ew C ih)(hm:AB ih)(hr:ZB C A bd w γ hg nx)
  (hx:∀id∈args.flatMap (aB g.h aw),g.h.get id≠.none->hg id=g.h.get id)
  (hv:S9 w γ A bd args vs) (hne:af ih (bd+1) g f args≠.fail) (cs:List Frame) :
  mI C.P f/\∃u w' γ' hg',Fin C A bd w γ hg nx g w' γ' hg' (U7 g (af ih (bd+1) g f args))/\RV w' γ' A bd (Q0 (af ih (bd+1) g f args)) u /\
   Vi C.P .normal f vs.toArray cs w u w':=by
 let γc:Gm:=λ_=>⟨0,0,0,0,0,0,0,false⟩
 let L:Nat->Prop:=λid=>id∈args.flatMap (aB g.h aw)
 let isC:Nat->Prop:=λid=>∃sz rows ep lo fz,g.h.get id=.cells sz rows ep lo fz
 let Ac:Nat->Nat->Prop:=λt b=>(t<=bd/\(A t b\/VA γ b))\/(t=bd+1/\b<w.heap.size/\¬∃id,L id/\isC id/\(γ id).kind=1/\(γ id).blk=b)
 have n:∀b,¬VA γc b:=by rintro b ⟨id,h,_⟩;grind
 generalize hres:af ih (bd+1) g f args=res at *;unfold af at hres
 split at hres
 ·grind
 rename_i as D;have e:∀t b,t<=bd->b<w.heap.size->¬A t b->¬VA γ b->¬Ac t b/\¬VA γc b:=by grind
 have s:S9 w γc Ac (bd+1) as vs:=by refine⟨by rw[nj D];exact hv.1,λi y v hy hvi=>?_⟩;obtain⟨x,h1,h2⟩:=gm D i y hy;refine (Eq (L:=L) hr hx (XM _) (ZV _) e ?_ aw h2 (hv.2 i x v h1 hvi) λid hid=>XP.2 ⟨x,YH h1,hid⟩).1<;>grind
 have U:ZB C Ac (bd+1) w γc (λ_=>.none) 0:=by
  refine⟨λid=>rfl,(by grind),(by grind),(by grind),?_,λgl sz rows h=>?_⟩
  ·rintro t b (⟨_,h|⟨id,h1,h2,O⟩⟩|⟨_,h,_⟩)
   ·exact hr.ab t b h
   ·rw[<-O];exact (hr.lt id h1).2
   omega
  ·have:=hr.Q6 gl sz rows h;exact (nz this (ym this (by grind)) e).mono (XM _)
 split at hres
 ·grind
 rename_i r g' l;have a:G.empty.h.get=λ_=>ZM.none:=by funext id;simp[G.empty,H.get,Zg]
 obtain⟨E,M⟩:=hc (bd+1) f as G.empty r g' l;refine⟨E,?_⟩;obtain⟨u,w',γ',hg',k,V,q⟩:=M Ac w γc (λ_=>.none) 0 vs U (λid h=>by grind) (λid _=>by rw[a])
  (λ_ _ _=>rfl) s .normal cs (.inl rfl)
 have z:Wo g'.h hg':=k.ext (hm _ _ _ _ _ _ l (λid _=>by rw[a])) (λid h=>by grind);have o:∀b,b<w.heap.size->w'.heap[b]?=w.heap[b]?:=λb hb=>k.WB.fr b hb (n b);have p:Stp w γ w' γ:=GF k.WB.sz k.WB.os k.WB.tape k.WB.output k.WB.dr o;have N:ZB C A bd w' γ hg nx:=hr.same p o
 split at hres
 ·grind
 rename_i r' B;obtain⟨J,hcl⟩:=Eq (A':=Ac) (γ':=γc) (L:=λ_=>True) k.rel (λid _=>z id) (ZV _) (Jq _) (by grind)
  (λid _ _ hk t _ _=>⟨k.rel.av id (by omega) t,n _⟩) aw B V λ_ _=>trivial
 split at hres
 ·grind
 rename_i m hm;have K:=J4 _ hm J;rw[aa]at hres
 split at hres
 ·rename_i hlt;rw[YD]at hlt;subst hres;refine⟨u,w',γ,hg,⟨N.up (KT _ _),p,⟨[],rfl,(by grind),λ_ _=>rfl⟩⟩,?_,q⟩;refine (nz K hcl (by grind)).mono (by omega)
 ·split at hres
  ·grind
  rename_i r'' X
  split at hres
  ·grind
  rename_i m' T;rw[aa]at hres
  split at hres
  rotate_left
  ·grind
  rename_i hlt;rw[YD]at hlt;subst hres;obtain⟨γ₁,R,r1,s1,n1,⟨new,l1,l2,l3⟩,f1,f2⟩:=HA (args.flatMap (aB g.h aw)) g γ hg N hx;have I:∀b,VA γ₁ b->VA γ b:=by rintro b ⟨id,h1,h2,O⟩;obtain⟨e1,Z,Y⟩:=f1 id;exact⟨id,by omega,Y h2,by omega⟩
  refine⟨u,w',γ₁,R,⟨r1.up (KT _ _),p.trans s1,⟨new,l1,l2,l3⟩⟩,?_,q⟩
  let A₁:Nat->Nat->Prop:=λt b=>if t=bd+1 then ∃t',A t' b else A t b
  have F:m<=bd+1:=Et _ hm J;have W:RV w' γ₁ A₁ m r' u:=by
   refine nz K hcl λt b h1 h2 O _=>?_
   by_cases ht:t=bd+1
   ·have hb:w.heap.size<=b\/∃id,L id/\isC id/\(γ id).kind=1/\(γ id).blk=b:=by
     grind
    rcases hb with hb|⟨id,q1,q2,q3,q4⟩
    ·refine⟨?_,λhmu=>?_⟩
     ·simp only[A₁,ht,if_true];rintro⟨t',h⟩;have:=hr.ab t' b h;omega
     ·obtain⟨id,p1,p2,p3⟩:=I b hmu;have:=(hr.lt id p1).2;omega
    ·refine⟨?_,?_⟩
     ·simp only[A₁,ht,if_true];rintro⟨t',h⟩;rw[<-q4]at h;exact hr.av id (by omega) t' h
     ·rintro⟨j,p1,p2,p3⟩;obtain⟨e1,Z,Y⟩:=f1 j;have hj:j=id:=hr.inj j id (by omega) (by omega) (by omega)
      grind
   grind
  obtain⟨Q,_⟩:=Us (A':=A) (d:=bd+1) (λt b h1 h2=>by grind)
   (λb h2 t ht=>h2 (by grind)) aw X (W.mono F) hcl
  exact (J4 _ T Q).mono (by omega)
end
end
section
variable {C:ZO}
theorem Mon.put{g:G}{id:Nat}{o:ZM}(hwf:WF g)(hid:g.h.get id≠.none):Mon g (g.put id o):=by
 have hi:id<g.nx:=aej λh=>hid (hwf id h);refine⟨by simp,⟨[id],by simp,λk hk=>?_,λk hk=>?_⟩,λh k hk=>?_⟩
 ·simp_all[Za]
 ·simp_all
 ·simp only[G.put_nx]at hk;simp only[G.put_h,Za];grind
theorem Mon.mk'{g:G}{o:ZM}:Mon g (g.new o):=by
 refine⟨by simp,⟨[g.nx],by simp,λk hk=>?_,λk hk=>?_⟩,λh k hk=>?_⟩
 ·simp_all[Za]
 ·simp_all
 ·simp only[G.new_nx]at hk;simp only[G.new_h,Za];grind
def XF(g:G):OR->Prop
 |.fail=>True
 |.val _=>True
 |.upd _ g'=>(∃id ob,g'=g.put id ob/\g.h.get id≠.none)\/∃ob,g'=g.new ob
 |.ZP _=>False
theorem XF.ZA{g:G}(h:XF g r)(hwf:WF g):Mon g (U7 g r):=by
 cases r with
 | upd v g' =>
  rcases h with⟨id,ob,rfl,h⟩|⟨ob,rfl⟩
  ·exact Mon.put hwf h
  ·exact Mon.mk'
 |_=>exact Mon.refl g
variable {op:Op}{t:T}{g:G}{f:TM VH}
theorem pj(x:Option AV):XF g (RK x):=by cases x<;>trivial
theorem CH(sz bytes:Nat)(s:AV)(new:List (List AV)):XF g (bK sz bytes s new g):=by
 unfold bK;simp only[aa]
 repeat' split
 all_goals first
  |trivial
  |exact .inr ⟨_,rfl⟩
  |exact .inl ⟨_,_,rfl,λhn=>by simp_all⟩
theorem Q3{P:Program}{op:BinOp}:XF g ((EE P op ty).run x y):=by
 unfold EE
 split
 ·split
  ·dsimp only;split<;>first|exact pj _|trivial
  ·dsimp only;split<;>trivial
 ·split
  ·dsimp only;split<;>first|exact pj _|trivial
  ·dsimp only;split<;>trivial
 ·dsimp only;split<;>first|exact pj _|trivial
theorem Ua{op:UnOp}:XF g ((unA op).run x):=by
 unfold unA
 split
 ·dsimp only;split<;>trivial
 ·dsimp only;split<;>first|exact pj _|trivial
theorem CJ(h:cP C op=some f):XF g (f.run t g):=by
 cases op<;>simp only[cP]at h<;>first| (cases h;done)|skip
 case call c =>
  obtain⟨callee,args,argTypes⟩:=c;cases callee<;>first| (cases h;done)|skip
  rename_i b;dsimp only at h;unfold eA at h
  split at h
  all_goals
   repeat' (first|split at h| (rw[aa]at h;split at h))
   all_goals first| (cases h;done)|skip
   all_goals (injection h with h;subst h)
   all_goals dsimp only[gz,eS,AI,H3,RG,EZ]
   all_goals try simp only[aa]
   all_goals repeat' split
   all_goals first
    |trivial
    |exact CH _ _ _ _
    |exact .inr ⟨_,rfl⟩
    |exact .inl ⟨_,_,rfl,λhn=>by simp_all⟩
 all_goals
  repeat' (first|split at h| (rw[aa]at h;split at h))
  all_goals first| (cases h;done)|skip
  all_goals first| (injection h with h;subst h)|grind| (rename_i k _;cases k)
  all_goals dsimp only[qo,sJ,IU,RA,rB,jC,mo,i7,qm,Al,tX,ju,cW,dT,dM,dI,jS]
  all_goals first
   |exact pj _
   |exact Q3
   |exact Ua
   |skip
  all_goals try simp only[aa]
  all_goals repeat' split
  all_goals first
   |trivial
   |exact pj _
   |exact .inr ⟨_,rfl⟩
   |exact .inl ⟨_,_,rfl,λhn=>by simp_all⟩
   |skip
def fL(C:ZO):Prop:=∀f e,C.ext f=some e->∀d args g,WF g->Mon g (U7 g (e d args g))
structure dg (ih:IH):Prop where
 code:∀nt d rd c t df g e t' df' g',ih.code nt d rd c t df g=.ok e t' df' g'->WF g->Mon g g'
 call:AB ih
variable {ih:IH}
theorem Nu(hi:dg ih){id:Nat}{g:G}(hwf:WF g):Mon g (U7 g (dx ih d id args g)):=by
 unfold dx
 split
 ·split
  ·exact Mon.refl g
  ·split
   ·rename_i t1 g1 h1;have e:=hi.code _ _ _ _ _ _ _ _ _ _ _ h1 hwf;have w1:WF g1:=e.wf hwf
    split
    ·rename_i c
     split
     ·rename_i g2 h2;have b:g1.h.get id≠.none:=by simp_all
      have f:=λo=>Mon.put (o:=o) w1 b;have j:=hi.code _ _ _ _ _ _ _ _ _ _ _ h2 ((f _).wf w1);have i:=e.trans ((f _).trans j)
      split
      ·rename_i a;have k:g2.h.get id≠.none:=by simp_all
       split
       all_goals exact i.trans (Mon.put (i.wf hwf) k)
      ·exact Mon.refl g
     ·exact Mon.refl g
    ·exact Mon.refl g
   ·exact Mon.refl g
 ·exact Mon.refl g
theorem O1{g:G}{r:FR}(h:∀v g',r=.ok v g'->Mon g g'):Mon g (U7 g (XV r)):=by
 cases r with
 |fail=>exact Mon.refl g
 |ok v g'=>exact h v g' rfl
theorem PJ(he:fL C)(hi:dg ih){vs:List AV}{g:G}(hwf:WF g):Mon g (U7 g (dQ C ih d fv vs g)):=by
 unfold dQ
 split
 ·split
  ·rename_i e h;exact he _ e h _ _ g hwf
  ·rw[aa]
   split
   ·simp_all[nh]
   ·exact O1 λv g' h=>hi.call _ _ _ _ _ _ h hwf
 ·grind[Nu]
 ·exact Mon.refl g
theorem U0(he:fL C)(hi:dg ih){op:Op}{f:TM Rm}(h:Uy C op=some f){t:T}{g:G}(hwf:WF g) :
  Mon g (U7 g (f.run ih d rd t g)):=by
 unfold Uy at h
 split at h
 ·split at h
  ·split at h
   ·rename_i e k;injection h with h;subst h;exact he _ e k _ _ g hwf
   ·rw[aa]at h
    split at h
    ·injection h with h;subst h;exact nh hwf
    ·injection h with h;subst h;exact O1 λv g' h=>hi.call _ _ _ _ _ _ h hwf
  grind
 ·split at h
  ·injection h with h;subst h;grind[PJ]
  grind
 ·injection h with h;subst h;exact Mon.refl g
 ·split at h
  ·injection h with h;subst h;dsimp only
   split
   ·exact Mon.refl g
   ·split<;>exact Mon.refl g
  grind
 ·split at h
  ·rename_i s hs;injection h with h;subst h
   grind[XF.ZA,CJ]
  grind
theorem j4(he:fL C)(hi:dg ih){op:Op}{t:T}{g:G}(hwf:WF g) :
  Mon g (U7 g ((bP C op).run ih d rd t g)):=by
 unfold bP
 split
 ·grind[U0]
 ·exact Mon.refl g
theorem GK{out:T->AV->T}{next:T->List ZU->G->CR}{t:T}{g:G}{e:Ex}
  (h:sL out next t df g r=.ok e t' df' g') (hwf:WF g) (hr:Mon g (U7 g r)) (hn:∀t df g1,next t df g1=.ok e t' df' g'->WF g1->Mon g1 g'):Mon g g':=by
 cases r with
 |fail=>cases h
 |val v=>exact hn _ _ _ h hwf
 |upd v g1=>exact hr.trans (hn _ _ _ h (hr.wf hwf))
 |ZP a=>exact hn _ _ _ h hwf
theorem EL(he:fL C)(hi:dg ih){all:List Oper}:∀{ops:List Oper} {d:Nat} {rd:Option Nat} {t:T} {df:List ZU} {g:G} {e:Ex} {t':T} {df':List ZU} {g':G},
  (lV C nt all ops).run ih d rd t df g=.ok e t' df' g'->WF g->Mon g g':=by
 intro ops
 induction ops with
 |nil=>simp_all[lV,Mon.refl]
 | cons o rest ihl =>
  intro d rd t df g e t' df' g' h k;simp only[lV]at h
  split at h
  ·split at h
   ·exact GK h k (j4 he hi k) λ_ _ _ h1 h2=>ihl h1 h2
   ·split at h
    ·dsimp only at h
     split at h
     ·exact GK h k (j4 he hi k) λ_ _ _ h1 h2=>ihl h1 h2
     ·exact ihl h k
     ·cases h
    ·cases h
  ·cases h
theorem WF.setLog{g:G}{l:List Nat}(h:WF g):WF (aS g l):=λid hid=>by simp only[Q7]at hid;simp only[QM];exact h id hid
theorem Zc{g:G}:Mon g (lC g g.lg) :=⟨by simp,⟨[],by simp,λid _=>by simp,(by grind)⟩,λh id hid=>by grind[YW,Zx]⟩
theorem Zd{g:G}(h:Mon (aS g []) g1):Mon g (lC g1 (g1.lg++g.lg)):=by
 obtain⟨n,a,b,c⟩:=h.new;have k:g.nx<=g1.nx:=by simpa using h.nx
 refine⟨by simp;omega,⟨g1.lg,by simp,λid hid=>?_,λid hid=>?_⟩,λhw id hid=>?_⟩
 ·simp_all
 ·have e:g1.lg=n:=by simp_all
  rw[e]at hid;have:=c id hid;simp only[QM,Q7]at this;exact⟨by simp;omega,this.2⟩
 grind[YW,Zx,QM]
theorem PG(he:fL C)(hi:dg ih){pm:List Nat}{all:List Oper}:∀{ops:List Oper} {i d:Nat} {rd:Option Nat} {t:T} {df:List ZU} {g:G} {fs:List ZC} {e:Ex} {t':T} {df':List ZU} {g':G},
  (jY C nt pm all i ops).run ih d rd t df g fs=.ok e t' df' g'->WF g->Mon g g':=by
 intro ops
 induction ops with
 | nil =>
  intro i d rd t df g fs e t' df' g' h _;simp only[jY,aa]at h
  split at h<;>grind[Mon.refl]
 | cons o rest ihl =>
  intro i d rd t df g fs e t' df' g' h k;simp only[jY]at h
  split at h
  ·dsimp only at h
   split at h
   ·have hm:=j4 (op:=o.op) (d:=d) (rd:=rd) (t:=t) he hi (k.setLog (l:=[]));generalize (bP C o.op).run ih d rd t (aS g [])=r at h hm;cases r with
    |fail=>cases h
    |val v=>exact Zc.trans (ihl h (Zc.wf k))
    | upd v g1 =>have b:=Zd hm;exact b.trans (ihl h (b.wf k))
    |ZP a=>cases h
   all_goals grind
  grind
theorem Kr(he:fL C)(hi:dg ih){ops:List Oper}{draw:Bool}{t:T}{g:G}{e:Ex}
  (h:(im C nt ops draw).run ih d rd t df g=.ok e t' df' g') (hwf:WF g):Mon g g':=by
 unfold im at h;rw[aa]at h
 split at h
 ·rw[aa]at h
  split at h
  ·rw[aa]at h
   split at h
   ·dsimp only at h;unfold qt at h
    split at h<;>grind[aa,Mon.refl]
   grind[PG]
  ·cases h
 grind[EL]
theorem Bw(hi:dg ih){id:Nat}{t:T}{g:G}{e:Ex}
  (h:dB ih nt d rd id t df g=.ok e t' df' g') (hwf:WF g):Mon g g':=by
 unfold dB at h
 split at h
 ·rename_i a;have k:g.h.get id≠.none:=by simp_all
  have m:∀o,Mon g (g.put id o):=λo=>Mon.put hwf k
  split at h
  ·cases h
  ·split at h
   ·grind
   ·exact (m _).trans (hi.code _ _ _ _ _ _ _ _ _ _ _ h ((m _).wf hwf))
 grind
theorem sF(hi:dg ih){t:T}{ZP:Nat}{g:G}{e:Ex}
  (h:cj C ih nt d rd fv ps assign body t df ZP g=.ok e t' df' g') (hwf:WF g):Mon g g':=by
 unfold cj at h
 split at h
 ·rw[aa]at h
  split at h
  ·cases h
  ·split at h
   ·rename_i v g2 h2;have k:Mon g (g.new (.loop nt t ps assign body ZP .ready none)):=Mon.mk';have b:=hi.call _ _ _ _ _ _ h2 (k.wf hwf);have a:=k.trans b;exact a.trans (Bw hi h (a.wf hwf))
   grind
 grind
theorem Nn(hi:dg ih){fo:T->AV}{t:T}{g:G}{e:Ex}
  (h:qu C nt fo ps assign body ih d rd t df g=.ok e t' df' g') (hwf:WF g):Mon g g':=by
 unfold qu at h
 split at h
 ·split at h
  ·exact sF hi h hwf
  ·cases h
 ·have k:Mon g (g.new (.ZP true)):=Mon.mk';exact k.trans (sF hi h (k.wf hwf))
theorem lT(he:fL C)(hi:dg ih):∀(c:Code) {d:Nat} {rd:Option Nat} {t:T} {df:List ZU} {g:G} {e:Ex} {t':T} {df':List ZU} {g':G},
  (aR C nt c).run ih d rd t df g=.ok e t' df' g'->WF g->Mon g g':=by
 intro c;have now:∀{e e':Ex} {t t':T} {df df':List ZU} {g g':G},CR.ok e' t df g=.ok e t' df' g'->Mon g g':=by grind[Mon.refl]
 induction c with
 |skip=>intro d rd t df g e t' df' g' h _;exact now h
 |label l=>intro d rd t df g e t' df' g' h _;exact now h
 |region id ops draw=>intro d rd t df g e t' df' g' h k;exact Kr he hi h k
 | seq a b iha ihb =>
  intro d rd t df g e t' df' g' h k;simp only[aR]at h;generalize hr:(aR C nt a).run ih d rd t df g=r at h;cases r with
  |fail=>cases h
  | ok e1 t1 df1 g1 =>
   have i:=iha hr k;cases e1 with
   |norm=>exact i.trans (ihb h (i.wf k))
   |exit j=>exact i.trans (now h)
   |ret=>exact i.trans (now h)
 | cond c a b iha ihb =>
  intro d rd t df g e t' df' g' h k;simp only[aR]at h
  split at h
  ·grind[aa]
  ·cases h
 | block id body ihb =>
  intro d rd t df g e t' df' g' h k;simp only[aR]at h;generalize hr:(aR C nt body).run ih d rd t df g=r at h;cases r with
  |fail=>cases h
  | ok e1 t1 df1 g1 =>have i:=ihb hr k;cases e1<;>grind[zE,aa]
 | loop body ihb =>
  intro d rd t df g e t' df' g' h k;simp only[aR]at h;generalize hr:(aR C nt body).run ih d rd t df g=r at h;cases r with
  |fail=>cases h
  | ok e1 t1 df1 g1 =>
   have i:=ihb hr k;cases e1 with
   |norm=>exact i.trans (hi.code _ _ _ _ _ _ _ _ _ _ _ h (i.wf k))
   |exit j=>exact i.trans (now h)
   |ret=>exact i.trans (now h)
 |scope body ihb=>intro d rd t df g e t' df' g' h k;exact ihb h k
 |exit id=>intro d rd t df g e t' df' g' h _;exact now h
 |ret=>intro d rd t df g e t' df' g' h _;exact now h
 | rangeFunc f ps assign body _ _ =>
  intro d rd t df g e t' df' g' h k;simp only[aR]at h
  split at h
  ·grind[Nn]
  ·cases h
 |_=>intro d rd t df g e t' df' g' h _;cases h
theorem pf(hi:dg ih):∀{df:List ZU} {g g':G},gM ih d df g=some g'->WF g->Mon g g':=by
 intro df
 induction df with
 |nil=>grind[gM,Mon.refl]
 | cons a df ihl =>
  intro g g' h k;cases a with
  | mark id =>
   simp only[gM]at h
   split at h
   ·rename_i b;have m:Mon g (g.put id (.ZP false)):=Mon.put k (by simp_all);exact m.trans (ihl h (m.wf k))
   grind
  | call f args =>
   cases f<;>simp only[gM]at h<;>first| (cases h;done)|skip
   split at h
   ·rename_i v g1 h1;have m:=hi.call _ _ _ _ _ _ h1 k;exact m.trans (ihl h (m.wf k))
   grind
theorem UY(he:fL C)(hi:dg ih){f:Nat}{x:TM (IH->Nat->List AV->G->FR)}(hx:YE C f=some x){g:G}{v:AV}
  (h:x.run ih d args g=.ok v g') (hwf:WF g):Mon g g':=by
 unfold YE at hx
 split at hx
 ·cases hx
 split at hx
 ·cases hx
 split at hx
 ·rw[aa]at hx
  split at hx
  ·cases hx
  injection hx with hx;subst hx;dsimp only at h;rw[aa]at h
  split at h
  ·split at h
   ·cases h
   ·rename_i hc;have k:=lT he hi _ hc hwf;unfold cp at h
    split at h
    ·cases h
    ·rename_i g2 h2;have a:=pf hi h2 (k.wf hwf)
     split at h<;>grind[Mon.trans]
   grind
  grind
 grind
theorem Eo(he:fL C):∀n,dg (Qu C n):=by
 intro n
 induction n with
 |zero=>exact⟨λnt d rd c t df g e t' df' g' h=>(by cases h),λd f as g v g' h=>(by cases h)⟩
 | succ n ihn =>
  refine⟨λnt d rd c t df g e t' df' g' h hwf=>lT he ihn c h hwf,λd f as g v g' h hwf=>?_⟩;change gc C (Qu C n) d f as g=.ok v g' at h
  grind[gc,UY]
end
section
def Qj(a b:CR):Prop:=a=.fail\/a=b
def FLe(a b:FR):Prop:=a=.fail\/a=b
def MC(a b:OR):Prop:=a=.fail\/a=b
structure Wv (i j:IH):Prop where
 code:∀nt d rd c t df g,Qj (i.code nt d rd c t df g) (j.code nt d rd c t df g)
 call:∀d f as g,FLe (i.call d f as g) (j.call d f as g)
variable {i j:IH}
theorem FU(h:Wv i j):MC (af i d g f args) (af j d g f args):=by
 unfold af
 split
 ·exact .inl rfl
 ·rename_i as _;rcases h.call (Nat.succ d) f as G.empty with e|e<;>rw[e]
  ·exact .inl rfl
  ·exact .inr rfl
theorem QU(h:Wv i j){id:Nat}:MC (dx i d id args g) (dx j d id args g):=by
 unfold dx
 split
 ·split
  ·exact .inl rfl
  ·rename_i nt t ps assign body ZP st pend hg o t' ht;rcases h.code nt d (some id) assign t' [] g with e|e<;>rw[e]
   ·exact .inl rfl
   ·split
    ·split
     ·rename_i t1 g1 _ _ nt1 t2 ps2 assign1 body1 dfr1 pend1 _;rcases h.code nt d (some id) body t1 [] (g1.put id (.loop nt1 t2 ps2 assign1 body1 dfr1 .busy pend1)) with e|e<;>rw[e]
      ·exact .inl rfl
      ·exact .inr rfl
     ·exact .inl rfl
    ·exact .inl rfl
 ·exact .inl rfl
theorem Ts{a b:FR}(h:FLe a b):MC (XV a) (XV b):=by
 rcases h with h|h<;>rw[h]
 ·exact .inl rfl
 ·exact .inr rfl
theorem RE(h:Wv i j){vs:List AV}:MC (dQ C i d fv vs g) (dQ C j d fv vs g):=by
 unfold dQ
 split
 ·split
  ·exact .inr rfl
  grind[aa,FU,Ts,Wv.call]
 ·exact QU h
 ·exact .inl rfl
theorem IJ{out:T->AV->T}{n m:T->List ZU->G->CR}{a b:OR}(h:MC a b)(hn:∀t df g,Qj (n t df g) (m t df g)) :
  Qj (sL out n t df g a) (sL out m t df g b):=by
 rcases h with h|h<;>rw[h]
 ·exact .inl rfl
 ·cases b with
  |fail=>exact .inl rfl
  |val v=>exact hn _ _ _
  |upd v g'=>exact hn _ _ _
  |ZP a=>exact hn _ _ _
theorem Mh{out:T->AV->T}{n m:T->List ZU->G->List ZC->CR}{fs:List ZC}{lk:Looks}{a b:OR}(h:MC a b)
  (hn:∀t df g fs,Qj (n t df g fs) (m t df g fs)):Qj (nB out n t df g fs lk a) (nB out m t df g fs lk b):=by
 rcases h with h|h<;>rw[h]
 ·exact .inl rfl
 ·cases b with
  |fail=>exact .inl rfl
  |val v=>exact hn _ _ _ _
  |upd v g'=>exact hn _ _ _ _
  |ZP a=>exact .inl rfl
theorem Pl{n m:T->List ZU->G->CR}{a b:CR}(h:Qj a b)(hn:∀t df g,Qj (n t df g) (m t df g)):Qj (HH n a) (HH m b):=by
 rcases h with h|h<;>rw[h]
 ·exact .inl rfl
 ·unfold HH
  split
  ·grind
  ·exact .inr rfl
theorem PD{id:Nat}{a b:CR}(h:Qj a b):Qj (zE id a) (zE id b):=by
 rcases h with h|h<;>rw[h]
 ·exact .inl rfl
 ·exact .inr rfl
theorem LP{a b:CR}(h:Qj a b):Qj (qt g a) (qt g b):=by
 rcases h with h|h<;>rw[h]
 ·exact .inl rfl
 ·exact .inr rfl
theorem Xv(h:Wv i j){x:TM Rm}(hx:Uy C op=some x):MC (x.run i d rd t g) (x.run j d rd t g):=by
 unfold Uy at hx
 repeat' (first|split at hx|rw[aa]at hx)
 all_goals first
  | (cases hx;done)
  | (injection hx with hx;subst hx;first|exact .inr rfl|exact FU h|exact Ts (h.call _ _ _ _)|exact RE h)
theorem I6(h:Wv i j):MC ((bP C op).run i d rd t g) ((bP C op).run j d rd t g):=by
 unfold bP
 split
 ·grind[Xv]
 ·exact .inl rfl
theorem AL{C:ZO}(h:Wv i j){nt:Nat}{all:List Oper}:∀(l:List Oper) (d:Nat) (rd:Option Nat) (t:T) (df:List ZU) (g:G),
  Qj ((lV C nt all l).run i d rd t df g) ((lV C nt all l).run j d rd t df g)
 |[],_,_,_,_,_=>.inr rfl
 | o::rest,d,rd,t,df,g=>by
  unfold lV
  split
  ·split
   ·exact IJ (I6 h) λt df g=>AL h rest d rd t df g
   ·split
    ·dsimp only
     split
     ·exact IJ (I6 h) λt df g=>AL h rest d rd t df g
     ·exact AL h rest d rd _ df g
     ·exact .inl rfl
    ·exact .inl rfl
  ·exact .inl rfl
theorem EK{C:ZO}(h:Wv i j){nt:Nat}{pm:List Nat}{all:List Oper}:∀(l:List Oper) (k d:Nat) (rd:Option Nat) (t:T) (df:List ZU) (g:G) (fs:List ZC),
  Qj ((jY C nt pm all k l).run i d rd t df g fs) ((jY C nt pm all k l).run j d rd t df g fs)
 |[],_,_,_,_,_,_,_=>.inr rfl
 | o::rest,k,d,rd,t,df,g,fs=>by
  unfold jY
  split
  ·dsimp only
   split
   ·exact Mh (I6 h) λt df g fs=>EK h rest (k+1) d rd t df g fs
   ·exact EK h rest (k+1) d rd _ df g _
   ·exact .inl rfl
  ·exact .inl rfl
theorem Mv(h:Wv i j){ops:List Oper}{draw:Bool} :
  Qj ((im C nt ops draw).run i d rd t df g) ((im C nt ops draw).run j d rd t df g):=by
 unfold im;rw[aa,aa,aa]
 split
 ·split
  ·split<;>grind[LP,AL,EK]
  ·exact .inl rfl
 grind[AL]
theorem LR(h:Wv i j){id:Nat}:Qj (dB i nt d rd id t df g) (dB j nt d rd id t df g):=by
 unfold dB
 split
 ·split
  ·exact .inl rfl
  ·split
   ·exact .inr rfl
   grind[Wv.code]
 ·exact .inl rfl
theorem Bv(h:Wv i j){ZP:Nat} :
  Qj (cj C i nt d rd fv ps assign body t df ZP g) (cj C j nt d rd fv ps assign body t df ZP g):=by
 unfold cj
 split
 ·rename_i f first cap
  rw[aa,aa]
  split
  ·exact .inl rfl
  ·rcases h.call d f (first++(.NH g.nx::cap)) (g.new (.loop nt t ps assign body ZP .ready none)) with e|e<;>rw[e]
   ·exact .inl rfl
   ·split
    ·exact LR h
    ·exact .inl rfl
 ·exact .inl rfl
theorem QK(h:Wv i j){fo:T->AV} :
  Qj (qu C nt fo ps assign body i d rd t df g) (qu C nt fo ps assign body j d rd t df g):=by
 unfold qu
 split
 ·split
  ·exact Bv h
  ·exact .inl rfl
 ·exact Bv h
theorem Ko(h:Wv i j):∀(c:Code) (d:Nat) (rd:Option Nat) (t:T) (df:List ZU) (g:G),
  Qj ((aR C nt c).run i d rd t df g) ((aR C nt c).run j d rd t df g):=by
 intro c
 induction c with
 |seq a b iha ihb=>simp_all[aR,Pl]
 | cond q a b iha ihb =>
  intro d rd t df g;unfold aR
  split
  ·dsimp only
   split
   ·rw[aa,aa]
    split
    ·exact iha _ _ _ _ _
    ·exact ihb _ _ _ _ _
   ·exact .inl rfl
  ·exact .inl rfl
 |block id body ih=>simp_all[aR,PD]
 |loop body ih=>simp_all[aR,Pl,Wv.code]
 |scope body ih=>grind[aR]
 |region p ops draw=>grind[aR,Mv]
 | rangeFunc f ps assign body _ _ =>
  intro d rd t df g;unfold aR
  split
  ·exact QK h
  ·exact .inl rfl
 |_=>intro d rd t df g;first|exact .inr rfl|exact .inl rfl
def ULe(a b:Option G):Prop:=a=none\/a=b
theorem T3(h:Wv i j):∀(l:List ZU) (g:G),ULe (gM i d l g) (gM j d l g):=by
 intro l
 induction l with
 |nil=>intro g;exact .inr rfl
 | cons a l ih =>
  intro g;cases a with
  | mark id =>
   simp only[gM]
   split
   ·grind
   ·exact .inl rfl
  | call fv args =>
   cases fv with
   | ZH f first cap =>
    simp only[gM];rcases h.call d f (first++(args++cap)) g with e|e<;>rw[e]
    ·exact .inl rfl
    ·split
     ·exact ih _
     ·exact .inl rfl
   |_=>exact .inl rfl
theorem MK(h:Wv i j){res:T->G->Option (List AV)}:FLe (cp i d res t df g) (cp j d res t df g):=by
 unfold cp;rcases T3 h (d:=d) df g with e|e<;>rw[e]
 ·exact .inl rfl
 ·exact .inr rfl
theorem Ks(h:Wv i j):FLe (gc C i d f args g) (gc C j d f args g):=by
 unfold gc
 split
 ·rename_i x hx;unfold YE at hx
  split at hx
  ·cases hx
  rename_i fn b
  split at hx
  ·cases hx
  rename_i c k
  split at hx
  rotate_left
  ·cases hx
  rename_i r a;rw[aa]at hx
  split at hx
  ·cases hx
  injection hx with hx;subst hx;dsimp only;rw[aa,aa]
  split
  ·rcases Ko h (C:=C) (nt:=fn.ntmps) c d none (bk 0 args .nil) [] g with e|e<;>rw[e]
   ·exact .inl rfl
   ·split
    ·exact .inl rfl
    ·exact MK h
    ·exact .inl rfl
  ·exact .inl rfl
 ·exact .inl rfl
theorem Ra(h:Wv i j):Wv (NI C i) (NI C j) :=⟨λnt d rd c t df g=>Ko h c d rd t df g,λd f as g=>Ks h⟩
theorem C7(C:ZO):∀n,Wv (Qu C n) (Qu C (n+1))
 |0=>⟨λ_ _ _ _ _ _ _=>.inl rfl,λ_ _ _ _=>.inl rfl⟩
 |n+1=>Ra (C7 C n)
theorem T8(C:ZO)(h:n<=m):Wv (Qu C n) (Qu C m):=by
 induction h with
 |refl=>exact⟨λ_ _ _ _ _ _ _=>.inr rfl,λ_ _ _ _=>.inr rfl⟩
 | @step k h ih =>
  have s:=C7 C k;refine⟨λnt d rd c t df g=>?_,λd f as g=>?_⟩
  ·rcases ih.code nt d rd c t df g with e|e
   ·exact .inl e
   grind[Wv.code]
  ·rcases ih.call d f as g with e|e
   ·exact .inl e
   grind[Wv.call]
end
section
open Classical in
noncomputable def I(C:ZO):IH :=
 ⟨λnt d rd c t df g=>if h:∃n,(Qu C n).code nt d rd c t df g≠.fail then (Qu C (Classical.choose h)).code nt d rd c t df g else .fail,
  λd f as g=>if h:∃n,(Qu C n).call d f as g≠.fail then (Qu C (Classical.choose h)).call d f as g else .fail⟩
def Ct(C:ZO){α:Type}(F:IH->α):Prop:=∃n,∀m,n<=m->F (Qu C m)=F (I C)
variable {C:ZO}
theorem Ct.const{α:Type}(a:α):Ct C (λ_=>a):=⟨0,λ_ _=>rfl⟩
theorem Ct.bind{α β:Type}{F:IH->α}{K:IH->α->β}(h:Ct C F)(hk:Ct C λj=>K j (F (I C))):Ct C λj=>K j (F j):=by obtain⟨n,h⟩:=h;obtain⟨m,hk⟩:=hk;refine⟨max n m,λk hm=>?_⟩<;>grind
theorem Ct.map{α β:Type}{F:IH->α}(K:α->β)(h:Ct C F):Ct C λj=>K (F j):=Ct.bind (K:=λ_=>K) h (.const _)
theorem Ct.code(nt d:Nat)(rd:Option Nat)(c:Code)(t:T)(df:List ZU)(g:G):Ct C λj=>j.code nt d rd c t df g:=by
 by_cases h:∃n,(Qu C n).code nt d rd c t df g≠.fail
 ·refine⟨Classical.choose h,λm hm=>?_⟩;have hs:=Classical.choose_spec h;have e:(I C).code nt d rd c t df g=(Qu C (Classical.choose h)).code nt d rd c t df g:=dif_pos h;show _=(I C).code nt d rd c t df g;rw[e];rcases (T8 C hm).code nt d rd c t df g with q|q
  ·exact absurd q hs
  ·exact q.symm
 ·refine⟨0,λm _=>?_⟩;have e:(I C).code nt d rd c t df g=.fail:=dif_neg h;show _=(I C).code nt d rd c t df g;rw[e];exact Wx λq=>h ⟨m,q⟩
theorem Ct.call(d f:Nat)(as:List AV)(g:G):Ct C λj=>j.call d f as g:=by
 by_cases h:∃n,(Qu C n).call d f as g≠.fail
 ·refine⟨Classical.choose h,λm hm=>?_⟩;have hs:=Classical.choose_spec h;have e:(I C).call d f as g=(Qu C (Classical.choose h)).call d f as g:=dif_pos h;show _=(I C).call d f as g;rw[e];rcases (T8 C hm).call d f as g with q|q
  ·exact absurd q hs
  ·exact q.symm
 ·refine⟨0,λm _=>?_⟩;have e:(I C).call d f as g=.fail:=dif_neg h;show _=(I C).call d f as g;rw[e];exact Wx λq=>h ⟨m,q⟩
theorem zN:Ct C λj=>af j d g f args:=by
 unfold af
 split
 ·exact .const _
 ·rename_i as _;obtain⟨n,h⟩:=Ct.call (C:=C) (Nat.succ d) f as G.empty;exact⟨n,λm hm=>by grind⟩
theorem PQ{id:Nat}:Ct C λj=>dx j d id args g:=by
 unfold dx
 split
 ·split
  ·exact .const _
  ·rename_i nt t ps assign body ZP st pend hg o t' ht;refine Ct.bind (K:=λj r=>match r with
    | .ok .norm t1 [] g1=>match g1.get id with
     | .loop nt1 t ps assign1 body1 ZP .ready pend =>
      match j.code nt d (some id) body t1 [] (g1.put id (.loop nt1 t ps assign1 body1 ZP .busy pend)) with
      | .ok e _ [] g2=>match g2.get id with
       | .loop nt t ps assign body ZP _ _=>match e with
        |.norm=>OR.upd (.bool true) (g2.put id (.loop nt t ps assign body ZP .ready none))
        |.exit j=>.upd (.bool false) (g2.put id (.loop nt t ps assign body ZP .done (some (.exit j))))
        |.ret=>.upd (.bool false) (g2.put id (.loop nt t ps assign body ZP .done (some .ret)))
       |_=>.fail
      |_=>.fail
     |_=>.fail
    |_=>.fail) (Ct.code nt d (some id) assign t' [] g) ?_
   split
   ·split
    ·rename_i t1 g1 _ _ nt1 t2 ps2 assign1 body1 dfr1 pend1 _;exact Ct.map (λr=>match r with
      | .ok e _ [] g2=>match g2.get id with
       | .loop nt t ps assign body ZP _ _=>match e with
        |.norm=>OR.upd (.bool true) (g2.put id (.loop nt t ps assign body ZP .ready none))
        |.exit j=>.upd (.bool false) (g2.put id (.loop nt t ps assign body ZP .done (some (.exit j))))
        |.ret=>.upd (.bool false) (g2.put id (.loop nt t ps assign body ZP .done (some .ret)))
       |_=>.fail
      |_=>.fail) (Ct.code nt d (some id) body t1 [] (g1.put id (.loop nt1 t2 ps2 assign1 body1 dfr1 .busy pend1)))
    simp_all[Ct.const]
   simp_all[Ct.const]
 simp_all[Ct.const]
theorem RP{vs:List AV}:Ct C λj=>dQ C j d fv vs g:=by
 unfold dQ
 split
 ·split
  ·exact .const _
  ·simp only[aa]
   split
   ·exact zN
   ·exact Ct.map XV (Ct.call _ _ _ _)
 all_goals simp_all[PQ,Ct.const]
theorem XB{x:TM Rm}(hx:Uy C op=some x):Ct C λj=>x.run j d rd t g:=by
 unfold Uy at hx
 repeat' (first|split at hx|rw[aa]at hx)
 all_goals first
  | (cases hx;done)
  | (injection hx with hx;subst hx;first|exact Ct.const _|exact zN|exact Ct.map XV (Ct.call _ _ _ _)|exact RP)
theorem I_:Ct C λj=>(bP C op).run j d rd t g:=by
 unfold bP
 split
 ·rename_i x hx;exact XB hx
 simp_all[Ct.const]
theorem H4{out:T->AV->T}{n:IH->T->List ZU->G->CR}{a:IH->OR}(h:Ct C a)(hn:∀t df g,Ct C λj=>n j t df g) :
  Ct C λj=>sL out (n j) t df g (a j):=by
 refine Ct.bind (K:=λj r=>sL out (n j) t df g r) h ?_;cases a (I C) with
 |fail=>exact .const _
 |val v=>exact hn _ _ _
 |upd v g'=>exact hn _ _ _
 |ZP a=>exact hn _ _ _
theorem KB{out:T->AV->T}{n:IH->T->List ZU->G->List ZC->CR}{fs:List ZC}{lk:Looks}{a:IH->OR}(h:Ct C a)
  (hn:∀t df g fs,Ct C λj=>n j t df g fs):Ct C λj=>nB out (n j) t df g fs lk (a j):=by
 refine Ct.bind (K:=λj r=>nB out (n j) t df g fs lk r) h ?_;cases a (I C) with
 |fail=>exact .const _
 |val v=>exact hn _ _ _ _
 |upd v g'=>exact hn _ _ _ _
 |ZP a=>exact .const _
theorem N8{n:IH->T->List ZU->G->CR}{a:IH->CR}(h:Ct C a)(hn:∀t df g,Ct C λj=>n j t df g):Ct C λj=>HH (n j) (a j):=by
 refine Ct.bind (K:=λj r=>HH (n j) r) h ?_;unfold HH
 split
 all_goals simp_all[Ct.const]
theorem AX{nt:Nat}{all:List Oper}:∀(l:List Oper) (d:Nat) (rd:Option Nat) (t:T) (df:List ZU) (g:G),Ct C λj=>(lV C nt all l).run j d rd t df g
 |[],_,_,_,_,_=>.const _
 | o::rest,d,rd,t,df,g=>by
  unfold lV
  split
  ·split
   ·exact H4 I_ λt df g=>AX rest d rd t df g
   ·split
    ·dsimp only
     split
     ·exact H4 I_ λt df g=>AX rest d rd t df g
     ·exact AX rest d rd _ df g
     ·exact .const _
    ·exact .const _
  ·exact .const _
theorem Kx{nt:Nat}{pm:List Nat}{all:List Oper}:∀(l:List Oper) (k d:Nat) (rd:Option Nat) (t:T) (df:List ZU) (g:G) (fs:List ZC),
  Ct C λj=>(jY C nt pm all k l).run j d rd t df g fs
 |[],_,_,_,_,_,_,_=>.const _
 | o::rest,k,d,rd,t,df,g,fs=>by
  unfold jY
  split
  ·dsimp only
   split
   all_goals simp_all[KB,I_,Ct.const,Kx]
  simp_all[Ct.const]
theorem Mz{ops:List Oper}{draw:Bool}:Ct C λj=>(im C nt ops draw).run j d rd t df g:=by
 unfold im;simp only[aa]
 split
 ·split
  ·split
   ·exact Ct.map (qt g) (AX _ _ _ _ _ _)
   simp_all[Kx]
  ·exact .const _
 simp_all[AX]
theorem KA{id:Nat}:Ct C λj=>dB j nt d rd id t df g:=by
 unfold dB
 split
 ·split
  ·exact .const _
  ·split
   all_goals simp_all[Ct.const,Ct.code]
 simp_all[Ct.const]
theorem AY{ZP:Nat} :
  Ct C λj=>cj C j nt d rd fv ps assign body t df ZP g:=by
 unfold cj
 split
 ·rename_i f first cap
  simp only[aa]
  split
  ·exact .const _
  ·refine Ct.bind (K:=λj r=>match r with|.ok _ g2=>dB j nt d rd g.nx t df g2|.fail=>.fail) (Ct.call d f (first++(.NH g.nx::cap)) (g.new (.loop nt t ps assign body ZP .ready none))) ?_
   split
   all_goals simp_all[KA,Ct.const]
 simp_all[Ct.const]
theorem PP{fo:T->AV}:Ct C λj=>qu C nt fo ps assign body j d rd t df g:=by
 unfold qu
 split
 ·split
  ·exact AY
  ·exact .const _
 ·exact AY
theorem Kw:∀(c:Code) (d:Nat) (rd:Option Nat) (t:T) (df:List ZU) (g:G),Ct C λj=>(aR C nt c).run j d rd t df g:=by
 intro c
 induction c with
 |seq a b iha ihb=>simp_all[aR,N8]
 | cond q a b iha ihb =>
  intro d rd t df g;unfold aR
  split
  ·dsimp only
   split
   ·simp only[aa]
    split
    ·exact iha _ _ _ _ _
    ·exact ihb _ _ _ _ _
   ·exact .const _
  ·exact .const _
 |block id body ih=>intro d rd t df g;unfold aR;exact Ct.map (zE id) (ih _ _ _ _ _)
 |loop body ih=>simp_all[aR,N8,Ct.code]
 |scope body ih=>simp_all[aR]
 |region p ops draw=>simp_all[aR,Mz]
 | rangeFunc f ps assign body _ _ =>
  intro d rd t df g;unfold aR
  split
  ·exact PP
  ·exact .const _
 |_=>intro d rd t df g;exact .const _
theorem RQ:∀(l:List ZU) (g:G),Ct C λj=>gM j d l g:=by
 intro l
 induction l with
 |nil=>intro g;exact .const _
 | cons a l ih =>
  intro g;cases a with
  | mark id =>
   simp only[gM]
   split
   all_goals simp_all[Ct.const]
  | call fv args =>
   cases fv with
   | ZH f first cap =>
    simp only[gM];refine Ct.bind (K:=λj r=>match r with|.ok _ g'=>gM j d l g'|.fail=>none) (Ct.call d f (first++(args++cap)) g) ?_
    split
    all_goals simp_all[Ct.const]
   |_=>exact .const _
theorem MA{res:T->G->Option (List AV)}:Ct C λj=>cp j d res t df g:=by unfold cp;exact Ct.map (λr=>match r with|none=>FR.fail|some g'=>match res t g' with|some vs=>.ok (lz vs) g'|none=>.fail) (RQ df g)
theorem Kz:Ct C λj=>gc C j d f args g:=by
 unfold gc
 split
 ·rename_i x hx;unfold YE at hx
  split at hx
  ·cases hx
  rename_i fn a
  split at hx
  ·cases hx
  rename_i c h
  split at hx
  rotate_left
  ·cases hx
  rename_i r k;rw[aa]at hx
  split at hx
  ·cases hx
  injection hx with hx;subst hx;dsimp only;simp only[aa]
  split
  ·refine Ct.bind (K:=λj q=>match q with|.ok (.exit _) _ _ _=>FR.fail|.ok _ t df g'=>cp j d r.run t df g'|.fail=>.fail) (Kw c d none (bk 0 args .nil) [] g) ?_
   split
   all_goals simp_all[Ct.const,MA]
  simp_all[Ct.const]
 simp_all[Ct.const]
theorem IQ(nt d:Nat)(rd:Option Nat)(c:Code)(t:T)(df:List ZU)(g:G):(I C).code nt d rd c t df g=(aR C nt c).run (I C) d rd t df g:=by obtain⟨n,h⟩:=Kw (C:=C) (nt:=nt) c d rd t df g;obtain⟨m,h'⟩:=Ct.code (C:=C) nt d rd c t df g;have h1:=h (max n m) (by omega);have h2:=h' (max n m+1) (by omega);exact h2.symm.trans h1
theorem Xm(d f:Nat)(as:List AV)(g:G):(I C).call d f as g=gc C (I C) d f as g:=by obtain⟨n,h⟩:=Kz (C:=C) (d:=d) (f:=f) (args:=as) (g:=g);obtain⟨m,h'⟩:=Ct.call (C:=C) d f as g;have h1:=h (max n m) (by omega);have h2:=h' (max n m+1) (by omega);exact h2.symm.trans h1
theorem Rl{as:List AV}{v:AV}(h:(I C).call d f as g=.ok v g'):∃n,(Qu C n).call d f as g=.ok v g':=by obtain⟨m,h'⟩:=Ct.call (C:=C) d f as g;exact⟨m,by grind⟩
end
end
end Hx
