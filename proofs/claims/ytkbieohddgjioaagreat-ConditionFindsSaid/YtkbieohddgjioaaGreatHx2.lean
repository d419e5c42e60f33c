/- A part of the proof: what the functions of the chapter compute. -/
import Derived.DeepKeys3
import Derived.Test.YtkbieohddgjioaaGreatHx1
set_option linter.all false
set_option maxRecDepth 20000
set_option maxHeartbeats 8000000
namespace Hx
open Go
noncomputable section
variable {g g' g1:G}{d nt n m f:Nat}{v u vm:Value}{x y k fv:AV}{ty kt e:TypeId}{t t':T}{rd:Option Nat}{df df':List ADf}{P:Program}{C:Cfg}{args:List AV}{r:OR}{xs:Array Value}{ps:List Nat}{assign body:Code}
section
variable {C:Cfg}{A:Nat->Nat->Prop}{bd:Nat}{w w':World}{γ γ':Gm}{hg:Nat->AObj}{nx:Nat}
def OVR(w:World)(γ:Gm)(A:Nat->Nat->Prop)(bd:Nat):Option AV->Option Value->Prop
 |none,none=>True
 |some x,some v=>RV w γ A bd x v
 |_,_=>False
theorem N_{xs:List AV}{vs:List Value}(h:RVs w γ A bd xs vs):OVR w γ A bd xs.head? vs.head?:=by
 cases xs with
 | nil=>cases vs with
  |nil=>trivial
  |cons v vs=>have:=h.1;simp at this
 | cons x xs=>cases vs with
  |nil=>have:=h.1;simp at this
  |cons v vs=>exact h.2 0 x v rfl rfl
theorem wX{lim:Nat}(h:eO lim x=some n):n<=lim:=by
 unfold eO at h
 split at h
 ·rw[aa]at h
  split at h
  ·rename_i hl;rw[Wt]at hl;injection h with h;omega
  ·cases h
 ·cases h
theorem mq{x:Option AV}(h:aZ 0 0 x=some n):n=0:=by
 cases x with
 |none=>simp[aZ]at h;omega
 |some z=>have:=wX h;omega
theorem cU{lim y:Nat}{code:BoundsCode}(h:eO lim x=some n)(hv:RV w γ A bd x v)(hy:lim<=y) :
  (Instr.sliceBound v y code).run P w=.ok n w/\n<=lim:=by
 obtain⟨h1,k,rfl⟩:=Bc h hv;refine⟨?_,h1⟩;unfold Instr.sliceBound;simp only[asIntOf,VT,Wq,VD];rw[VC (by omega)];simp
theorem dq{isSlice:Bool}{len cap:Nat}{lo hi mx:Option AV}{lv hv mv:Option Value}{l h limM lh:Nat}
  (hlo:OVR w γ A bd lo lv) (hhi:OVR w γ A bd hi hv) (hmx:OVR w γ A bd mx mv) (hm:mx=none->m=cap) (hm':mx≠none->aZ d limM mx=some m/\limM<=cap)
  (hmh:mx≠none->hi≠none) (hh:aZ len lh hi=some h) (hlh:lh<=m) (hl:aZ 0 h lo=some l) :
  (Instr.sliceBounds isSlice len cap lv hv mv).run P w=.ok (l,h,m) w/\l<=h/\(hi=none/\h=len\/h<=lh):=by
 have H:l<=h/\∀code,(match lv with|some v=>Instr.sliceBound v h code|none=>pure 0:Sem Nat).run P w=.ok l w:=by
  cases lo with
  | none =>
   cases lv with
   |none=>simp[aZ]at hl;subst hl;exact⟨Wp _,λ_=>rfl⟩
   |some v=>cases hlo
  | some x =>
   cases lv with
   |none=>cases hlo
   |some v=>exact⟨(cU (code:=.index) (P:=P) hl hlo (Vu _)).2,λcode=>(cU hl hlo (Vu _)).1⟩
 obtain⟨H1,H2⟩:=H;cases mx with
 | none =>
  cases mv with
  |some v=>cases hmx
  | none =>
   have:=hm rfl;subst this;cases hi with
   | none =>
    cases hv with
    |some v=>cases hhi
    | none =>
     simp[aZ]at hh;subst hh;refine⟨?_,H1,.inl ⟨rfl,rfl⟩⟩;have h2:=H2 .sliceB;unfold Instr.sliceBounds;cases lv<;>simp_all
   | some x =>
    cases hv with
    |none=>cases hhi
    | some v =>
     have b:=λcode=>(cU (P:=P) (code:=code) hh hhi hlh).1;refine⟨?_,H1,.inr (cU (P:=P) (code:=.index) hh hhi hlh).2⟩;have h2:=H2 .sliceB;unfold Instr.sliceBounds;cases lv<;>simp_all
 | some xm =>
  cases mv with
  |none=>cases hmx
  | some vm =>
   obtain⟨k,a⟩:=hm' (by simp);have h4:=λcode=>(cU (P:=P) (code:=code) k hmx a).1;cases hi with
   |none=>exact absurd rfl (hmh (by simp))
   | some x =>
    cases hv with
    |none=>cases hhi
    | some v =>
     have b:=λcode=>(cU (P:=P) (code:=code) hh hhi hlh).1;refine⟨?_,H1,.inr (cU (P:=P) (code:=.index) hh hhi hlh).2⟩;have h2:=H2 .slice3C;unfold Instr.sliceBounds;cases lv<;>simp_all
theorem mg{sz len cap l h:Nat}{a:Option Addr}{lv hv mv:Option Value}(hu:C.P.underlying ty=some (.slice e))(hsz:szT C.P e=some sz)
  (hb:(Instr.sliceBounds true len cap lv hv mv).run C.P w=.ok (l,h,m) w) :
  (Instr.sliceAt ty (.slice a len cap) lv hv mv).run C.P w=.ok (.slice (if m=l then a else a.map (·.add (l*sz))) (h - l) (m - l)) w:=by
 unfold Instr.sliceAt Instr.slice;simp[aK hu,hb,bo hsz]
theorem BB{sz:Nat}{lo hi mx:Option AV}{lv hv mv:Option Value}
  (hr:Rel C A bd w γ hg nx) (hu:C.P.underlying ty=some (.slice e)) (hsz:szT C.P e=some sz) (hx:RV w γ A bd x v)
  (hlo:OVR w γ A bd lo lv) (hhi:OVR w γ A bd hi hv) (hmx:OVR w γ A bd mx mv) (hmh:mx≠none->hi≠none) (agree:∀id∈aw x,hg id=g.h.get id) :
  ValSim C A bd w γ (Instr.sliceAt ty v lv hv mv) (orV (nD sz x lo hi mx g.h)):=by
 refine oq λy k=>?_;have zero:∀(a:Option Addr),v=.slice a 0 0->∀p q r,aZ 0 0 lo=some p->aZ 0 0 hi=some q->aZ 0 0 mx=some r ->
   (Instr.sliceAt ty v lv hv mv).run C.P w=.ok (.slice a 0 0) w:=by
  intro a K p q r h1 h2 B;subst K;have U:=mq B;have T:=mq h2;have hp0:=mq h1;subst U;subst T;subst hp0;obtain⟨b1,b2,b3⟩:=dq (P:=C.P) (isSlice:=true) (len:=0) (cap:=0) (l:=0) (h:=0) (m:=0) hlo hhi hmx (λ_=>rfl) (λ_=>⟨B,Vu _⟩) hmh h2 (Vu _) h1;rw[mg hu hsz b1];simp
 unfold nD at k;cases hx with
 | nils =>
  dsimp only at k
  split at k
  ·rename_i p q r h1 h2 B;injection k with k;subst k;exact⟨_,zero none rfl p q r h1 h2 B,.nils _⟩
  ·cases k
 | esl _ a =>
  dsimp only at k
  split at k
  ·rename_i p q r h1 h2 B;injection k with k;subst k;exact⟨_,zero (some a) rfl p q r h1 h2 B,.esl _ a⟩
  ·cases k
 | tnil _ tag sz' a cap ht =>
  cases mx with
  | none =>
   cases mv with
   |some z=>cases hmx
   | none =>
    dsimp only at k
    split at k
    ·cases k
    ·rename_i h L
     split at k
     ·cases k
     ·rename_i l hl;simp only[aa]at k
      split at k
      ·injection k with k;subst k;have M:(bC ([]:List (List AV)))=0:=rfl;rw[M]at L;obtain⟨b1,b2,b3⟩:=dq (P:=C.P) (isSlice:=true) (len:=0) (cap:=cap) (d:=0) (limM:=0) hlo hhi hmx (λ_=>rfl) (λh=>absurd rfl h) hmh L (Wp _) hl;have e1:h=0:=by omega
       have e2:l=0:=by omega
       subst e1;subst e2;refine⟨_,mg hu hsz b1,?_⟩;have Q:iJ (0 - 0) (iz 0 ([]:List (List AV)))=[]:=by simp[bj]
       rw[Q]
       by_cases hc:cap=0
       ·rw[VC hc];exact .tnil _ tag sz a _ ht
       ·rw[Vz hc];exact .tnil _ tag sz _ _ ht
      ·cases k
  | some xm =>
   dsimp only at k;cases mv with
   |none=>cases hmx
   | some vm =>
    split at k
    ·rename_i p q r h1 h2 B;injection k with k;subst k;have e1:p=0:=by have:=wX h1;omega
     subst e1;obtain⟨b1,b2,b3⟩:=dq (P:=C.P) (isSlice:=true) (len:=0) (cap:=cap) (d:=0) (limM:=0) (m:=0) hlo hhi hmx (λh=>by cases h) (λ_=>⟨h1,Wp _⟩) hmh h2 (Vu _)
      (by rw[mq h2];exact B)
     have e1:q=0:=by omega
     have e2:r=0:=by omega
     subst e1;subst e2;refine⟨_,mg hu hsz b1,?_⟩;simpa using RV.esl _ a
    ·cases k
 | tsl _ tag sz' rows b o cap cell ht hc hb hm ha hrl ho hw hcell hcl =>
  cases mx with
  | none =>
   cases mv with
   |some z=>cases hmx
   | none =>
    simp only[aF,bj,bp]at k
    split at k
    ·cases k
    ·rename_i h L
     split at k
     ·cases k
     ·rename_i l hl;simp only[aa]at k
      split at k
      ·rename_i F;have F:=bc F;subst F;injection k with k;subst k;obtain⟨b1,b2,b3⟩:=dq (P:=C.P) (isSlice:=true) (len:=rows.length) (cap:=cap) (d:=0) (limM:=0) hlo hhi hmx (λ_=>rfl) (λh=>absurd rfl h) hmh L hc hl;have e1:h<=rows.length:=by omega
       refine⟨_,mg hu hsz b1,?_⟩;have t:((rows.drop l).take (h - l)).length=h - l:=by simp;omega
       by_cases hc0:cap=l
       ·rw[VC hc0];have e2:h - l=0:=by omega
        rw[e2,Y1];exact .tnil _ tag sz _ _ ht
       ·rw[Vz hc0];simp only[WM,iK];have:=RV.tsl (w:=w) (γ:=γ) (A:=A) bd tag sz ((rows.drop l).take (h - l)) b (o+l*sz) (cap - l) (λi j=>cell (l+i) j) ht (by rw[t];omega) hb hm ha
         (λi row hi=>?_) (λi j row x hi hj=>?_) (λi j row x hi hj=>?_) (λi j row x hi hj=>?_) (λrow hrow=>hcl row (XR (WL hrow)))
        ·rwa [t]at this
        all_goals
         have s:=hi;rw[Yv,]at s
         split at s
         ·rw[WG]at s
          first
          |exact hrl _ _ s
          |exact ho _ _ _ _ s hj
          |exact hcell _ _ _ _ s hj
          | (have:=hw _ _ _ _ s hj
             rwa [show o+l*sz+i*sz+j=o+(l+i)*sz+j from by rw[Wc];omega])
         ·cases s
      ·cases k
  | some xm =>
   dsimp only at k;cases mv with
   |none=>cases hmx
   | some vm =>
    split at k
    ·rename_i p q r h1 h2 B;injection k with k;subst k;have e1:p=0:=by have:=wX h1;omega
     subst e1;cases hi with
     |none=>exact absurd rfl (hmh (by simp))
     | some z =>
      cases hv with
      |none=>cases hhi
      | some vh =>
       have e0:=mq h2;subst e0;obtain⟨b1,b2,b3⟩:=dq (P:=C.P) (isSlice:=true) (len:=rows.length) (cap:=cap) (d:=0) (limM:=0) (m:=0) (lh:=0) (h:=0) hlo hhi hmx (λh=>by cases h) (λ_=>⟨h1,Wp _⟩) hmh h2 (Vu _) B;have e2:r=0:=by omega
       subst e2;refine⟨_,mg hu hsz b1,?_⟩;simpa using RV.esl _ _
    ·cases k
 | hsl _ id ep off len lim b0 o0 cap0 hk he hc0 h0 =>
  have H:=agree id (by simp[aw]);dsimp only at k;rw[<-H]at k;cases hid:hg id with
  | cells sz' rows ep' loose fz =>
   rw[hid]at k;simp only[aa,aF]at k
   split at k
   ·rename_i f;simp only[Vx,Wt]at f;obtain⟨⟨h1,h2⟩,B⟩:=f;have h1:=bc h1;have h2:=bc h2;subst h1;subst h2;obtain⟨cap,K,X,n⟩:=Nh hr (RV.hsl bd id ep off len lim b0 o0 cap0 hk he hc0 h0) hid;rw[K];have O:=hr.obj id;rw[hid]at O;obtain⟨Y,k2,Z,k4,k5,_⟩:=O
    split at k
    ·cases k
    ·rename_i m hm
     split at k
     ·cases k
     ·rename_i h L
      split at k
      ·cases k
      ·rename_i l hl
       let u:=lim.getD (rows.length - off)
       have N:u<=cap:=by unfold mi at n;cases lim<;>simp only[u,Option.getD]at *<;>omega
       have E:lim≠none\/loose=false->cap=u:=by
        unfold mi at n;intro h;cases lim with
        |none=>simp at h;have:=k5.1 h;simp only[u,Option.getD];dsimp only at n;omega
        |some c=>simp only[u,Option.getD];exact n.1
       have S:mx≠none->m<=u:=by
        intro h;cases mx with
        |none=>exact absurd rfl h
        | some z=>cases mv with
         |none=>cases hmx
         |some zv=>exact wX hm
       have J:mx=none->m=u:=by intro h;subst h;simp[aZ]at hm;exact hm.symm
       let mR:=if mx=none then cap else m
       have R:m<=mR:=by
        simp only[mR];split
        ·rename_i h;rw[J h];exact N
        ·exact Vu _
       obtain⟨b1,b2,b3⟩:=dq (P:=C.P) (isSlice:=true) (len:=len) (cap:=cap) (d:=u) (limM:=u) (m:=mR) (lh:=m) hlo hhi hmx
        (λh=>by simp[mR,h]) (λh=>⟨by simp only[mR,Vz h];exact hm,N⟩) hmh L R hl
       refine⟨_,mg hu hsz b1,?_⟩;have t:len<=u:=by
        unfold mi at n;cases lim with
        |none=>simp only[u,Option.getD];omega
        |some c=>simp only[u,Option.getD];omega
       have W:h<=m:=by
        rcases b3 with⟨e1,e2⟩|e1
        ·have:mx=none:=by
          cases mx with
          |none=>rfl
          |some z=>exact absurd e1 (hmh (by simp))
         rw[J this,e2];exact t
        ·exact e1
       split at k
       ·rename_i D;have D:=bc D;subst D;have e1:h=m:=by omega
        subst e1
        split at k
        ·rename_i f;injection k with k;subst k;have e2:mR=h:=by
          simp only[mR];split
          ·rename_i I;rw[E,J I];subst I;simp at f;cases lim with
           |none=>right;simpa using f
           |some c=>left;simp
          ·rfl
         rw[VC e2,e2,WR];exact .esl _ _
        ·injection k with k;subst k;rw[WR]
         by_cases h9:mR=h
         ·rw[VC h9];exact .tnil _ 0 sz _ _ (Wp _)
         ·rw[Vz h9];exact .tnil _ 0 sz _ _ (Wp _)
       ·rename_i D;injection k with k;subst k;have hlt:l<m:=by
         rcases XI l m with h9|h9
         ·exact h9
         ·exact absurd (by rw[show m=l from by omega];exact Wm l) D
        rw[Vz (show ¬mR=l by omega)];simp only[WM,iK];refine .hsl _ id ep (off+l) (h - l) _ _ _ _ Y (by omega) (by omega) λ_=>⟨rfl,by rw[Z,Wc];omega,?_⟩;cases mx with
        | some z =>
         have Q:mR=m:=by simp[mR]
         have V:=S (by simp);simp only[mi];rw[Q,k4];unfold mi at n;cases lim with
         |none=>simp only[u,Option.getD]at V;omega
         |some c=>simp only[u,Option.getD]at V;dsimp only at n;omega
        | none =>
         have Q:mR=cap:=by simp[mR]
         unfold mi at n ⊢;cases lim with
         |none=>dsimp only[Option.map]at n ⊢;omega
         |some c=>dsimp only[Option.map]at n ⊢;omega
   ·cases k
  |_=>rw[hid]at k;cases k
 |_=>cases k
end
section
variable {C:Cfg}{A:Nat->Nat->Prop}{bd:Nat}{w w':World}{γ γ':Gm}{hg:Nat->AObj}{nx:Nat}
theorem zN{α:Type}{f:α->Option Nat}:∀{l:List α} {m:Nat},jm f l=some m->∀x∈l,∃k,f x=some k/\k<=m:=by
 intro l
 induction l with
 |nil=>intro m _ x hx;cases hx
 | cons a l ih =>
  intro m h x hx;simp only[jm]at h
  split at h
  ·rename_i k hk
   split at h
   ·rename_i b hb;injection h with h;subst h;rcases VP.1 hx with rfl|hx
    ·exact⟨k,hk,Xf _ _⟩
    ·obtain⟨k',h1,h2⟩:=ih hb x hx;exact⟨k',h1,VR h2 (Xx _ _)⟩
   ·cases h
  ·cases h
theorem EW:∀(f:Nat) {x:AV} {v:Value} {m:Nat},hY f x=some m->RV w γ A bd x v->RV w γ A m x v:=by
 intro f
 induction f with
 |zero=>intro x v m h;cases h
 | succ f ih =>
  intro x v m h hx;have hs:∀{cs:List AV} {vs:Array Value} {m':Nat},jm (hY f) cs=some m'->m'<=m ->
    (∀(i:Nat) x v,cs[i]?=some x->vs[i]?=some v->RV w γ A bd x v)->∀(i:Nat) x v,cs[i]?=some x->vs[i]?=some v->RV w γ A m x v:=by
   intro cs vs m' h1 h2 e i x v hi c;obtain⟨k,d,k2⟩:=zN h1 x (VA hi);exact (ih d (e i x v hi c)).mono (VR k2 h2)
  cases hx with
  | tsl _ tag sz rows b o cap cell ht hc hb hm ha hrl ho hw hcell hcl =>
   simp only[hY]at h;injection h with h;subst h;exact .tsl _ tag sz rows b o cap cell (Vu _) hc hb hm ha hrl ho hw hcell hcl
  | tnil _ tag sz a cap ht =>
   simp only[hY]at h;injection h with h;subst h;exact .tnil _ tag sz a cap (Vu _)
  | tptr _ tag sz rows i0 off0 b o cell ht hb hm ha hrl ho hw hcell hcl =>
   simp only[hY]at h;injection h with h;subst h;exact .tptr _ tag sz rows i0 off0 b o cell (Vu _) hb hm ha hrl ho hw hcell hcl
  |agg _ xs vs hl h1 h2=>exact .agg _ _ _ hl h1 (hs h (Vu _) h2)
  |tup _ xs vs hl h2=>exact .tup _ _ _ hl (hs h (Vu _) h2)
  | clo _ g xs ys vs us hl hl2 h1 h2 =>
   simp only[hY]at h;have ha:=zN h;refine .clo _ g xs ys vs us hl hl2 (λi x v hi c=>?_) (λi x v hi c=>?_)
   ·obtain⟨k,d,k2⟩:=ha x (XP _ (VA hi));exact (ih d (h1 i x v hi c)).mono k2
   ·obtain⟨k,d,k2⟩:=ha x (XD _ (VA hi));exact (ih d (h2 i x v hi c)).mono k2
  |ifc _ t x v h1=>exact .ifc _ t x v (ih h h1)
  |bool=>exact .bool _ _
  |int=>exact .int _ _ _
  |str=>exact .str _ _
  |nilp=>exact .nilp _
  |nils=>exact .nils _
  |nilf=>exact .nilf _
  |nilm=>exact .nilm _
  |nili=>exact .nili _
  |esl _ a=>exact .esl _ a
  |hsl _ id ep off len lim b o cap hk he hc h'=>cases h
  |hptr _ id ep i off b o hk he h'=>cases h
  |hmap _ id b hk hb=>cases h
  |yld _ id b hk hb=>cases h
theorem ip{α:Type}{f:α->Option Nat}{b:Nat}:∀{l:List α} {m:Nat},jm f l=some m->(∀x∈l,∀k,f x=some k->k<=b)->m<=b:=by
 intro l
 induction l with
 |nil=>intro m h _;simp[jm]at h;omega
 | cons a l ih =>
  intro m h hb;simp only[jm]at h
  split at h
  ·rename_i k hk
   split at h
   ·rename_i b' c;injection h with h;subst h;exact Y3.2 ⟨hb a WO k hk,ih c λx hx=>hb x (WK _ hx)⟩
   ·cases h
  ·cases h
theorem EV:∀(f:Nat) {x:AV} {v:Value} {m:Nat},hY f x=some m->RV w γ A bd x v->m<=bd:=by
 intro f
 induction f with
 |zero=>intro x v m h;cases h
 | succ f ih =>
  intro x v m h hx;have hs:∀{cs:List AV} {vs:Array Value},cs.length=vs.size ->
    (∀(i:Nat) x v,cs[i]?=some x->vs[i]?=some v->RV w γ A bd x v)->∀x∈cs,∀k,hY f x=some k->k<=bd:=by
   intro cs vs hl c x hx k hk;obtain⟨i,hi⟩:=WB hx;have hlt:i<vs.size:=by rw[<-hl];exact (Vv.1 hi).1
   exact ih hk (c i x _ hi (Wg hlt))
  cases hx with
  |tsl _ tag sz rows b o cap cell ht hc hb hm ha hrl ho hw hcell hcl=>simp only[hY]at h;injection h with h;omega
  |tnil _ tag sz a cap ht=>simp only[hY]at h;injection h with h;omega
  |tptr _ tag sz rows i0 off0 b o cell ht hb hm ha hrl ho hw hcell hcl=>simp only[hY]at h;injection h with h;omega
  |agg _ xs vs hl h1 h2=>exact ip h (hs hl h2)
  |tup _ xs vs hl h2=>exact ip h (hs hl h2)
  | clo _ g xs ys vs us hl hl2 h1 h2 =>
   refine ip h λx hx k hk=>?_;rcases V7.1 hx with hx|hx
   ·exact hs hl h1 x hx k hk
   ·exact hs hl2 h2 x hx k hk
  |ifc _ t x v h1=>exact ih h h1
  |_=>first| (cases h;done)| (simp only[hY]at h;injection h with h;omega)
theorem BG{rows:List (List AV)}{i j:Nat}{row:List AV}(h:j4 rows=some m)(hi:rows[i]?=some row)(hj:row[j]?=some x)
  (hv:RV w γ A bd x v):RV w γ A m x v:=by
 obtain⟨k,a,k2⟩:=zN h row (VA hi);obtain⟨k',b,c⟩:=zN a x (VA hj);exact (EW _ b hv).mono (VR c k2)
theorem Rel.freeze(hr:Rel C A bd w γ hg nx){id sz ep:Nat}{rows:List (List AV)}{loose fz:Bool}(hid:hg id=.cells sz rows ep loose fz) :
  ∃γ',Rel C A bd w γ' (upd hg id (.cells sz rows ep loose true)) nx/\Stp w γ w γ'/\γ'=upd γ id { γ id with wr:=false }/\¬Mut γ' (γ id).blk:=by
 have k:=hr.obj id;rw[hid]at k;obtain⟨d,k2,l,m,n,r,c,e,o,p,q,f⟩:=k;have s:Stp w γ w (upd γ id { γ id with wr:=false }):=by
  refine⟨Vu _,rfl,rfl,rfl,λ_ _ _=>rfl,?_,?_,?_⟩
  ·rintro b _ ⟨j,h1,h2,h⟩
   by_cases hj:j=id
   ·subst hj;simp at h2
   ·rw[cV _ _ hj]at h1 h2 h;exact⟨j,h1,h2,h⟩
  ·intro j hk
   by_cases hj:j=id
   ·subst hj;left;simp
   ·rw[cV _ _ hj];exact .inl ⟨rfl,rfl⟩
  ·intro j hk
   by_cases hj:j=id
   ·subst hj;simp
   ·rw[cV _ _ hj];exact⟨Vu _,λ_=>⟨rfl,rfl,rfl,rfl,rfl⟩⟩
 refine⟨_,hr.set rfl s (Vu _) ?_ (hr.lt id (by rw[d];decide)) (λj hj hkj e=>hj (hr.inj j id hkj (by rw[d];decide) e)) (hr.av id (by rw[d];decide)) (λ_ _ _ _=>rfl),s,rfl,?_⟩
 ·simp only[ObjRel,upd_same];refine⟨d,k2,l,m,n,rfl,c,e,o,p,q,λi j row x h1 h2=>?_⟩;obtain⟨a,v,b1,b2⟩:=f i j row x h1 h2;exact⟨a,v,b1,b2.step s⟩
 ·rintro⟨j,h1,h2,h⟩
  by_cases hj:j=id
  ·subst hj;simp at h2
  ·rw[cV _ _ hj]at h1 h2 h;exact hj (hr.inj j id h1 (by rw[d];decide) h)
theorem EO{sz:Nat}{a:T->AV}{lo hi:T->Option AV}{lv hv:Option Value}
  (hr:Rel C A bd w γ hg nx) (hu:C.P.underlying ty=some (.array n e)) (hsz:szT C.P e=some sz) (hs0:0<sz) (hx:RV w γ A bd (a t) v)
  (hlo:OVR w γ A bd (lo t) lv) (hhi:OVR w γ A bd (hi t) hv) (agree:∀id∈aw (a t),hg id=g.h.get id) :
  dB C A bd w γ hg nx (Instr.sliceAt ty v lv hv none) g (mf n sz a lo hi t g):=True.intro
end
section
variable {C:Cfg}{A:Nat->Nat->Prop}{bd:Nat}{w w':World}{γ γ':Gm}{hg:Nat->AObj}{nx:Nat}
theorem jT{s:Sem Value}(h:qw s=some y)(P:Program)(w:World):∃v,s.run P w=.ok v w/\RV w γ A bd y v:=by
 unfold qw at h
 split at h
 ·injection h with h;subst h;exact⟨_,rfl,.int _ _ _⟩
 ·injection h with h;subst h;exact⟨_,rfl,.bool _ _⟩
 ·cases h
theorem Ht{op:BinOp}{k:IntKind}{r:Nat}(hs:l_ k m n=true)
  (h:(match op with
    |.and=>some (AV.int k (.ofNat (Nat.land m n)))
    |.or=>some (.int k (.ofNat (Nat.lor m n)))
    |.xor=>some (.int k (.ofNat (Nat.xor m n)))
    |.andNot=>some (.int k (.ofNat (Nat.xor m (Nat.land m n))))
    |_=>none)=some (.int k (.ofNat r))):(Op.intBits op k (.ofNat m) (.ofNat n)).run P w=.ok (.int k (.ofNat r)) w:=by
 have b:k.bits=64/\m<2 ^ 64/\n<2 ^ 64/\∀x:Nat,x<2 ^ 64->(k=.i64->x<2 ^ 63)->k.wrap (x:Int)=(x:Int):=by
  unfold l_ at hs;cases k<;>simp only[Vx,WN,WV]at hs
  ·exact⟨rfl,by omega,by omega,λx _ h=>vS x (by have:=h rfl;omega)⟩
  ·refine⟨rfl,by omega,by omega,λx h _=>?_⟩;rw[<-hZ];show (Int.ofNat (x % 18446744073709551616))=_;rw[Yf (by omega)];rfl
 have a:k=.i64->m<2 ^ 63/\n<2 ^ 63:=by intro e;subst e;simp only[l_,Vx,WN]at hs;omega
 obtain⟨hb,hm,c,hw⟩:=b;have e1:(BitVec.ofInt k.bits (Int.ofNat m)).toNat=m:=by rw[hb];simp only[W9,BitVec.ofInt_natCast,BitVec.toNat_ofNat];exact Yf hm
 have e2:(BitVec.ofInt k.bits (Int.ofNat n)).toNat=n:=by rw[hb];simp only[W9,BitVec.ofInt_natCast,BitVec.toNat_ofNat];exact Yf c
 have fin:∀(z:BitVec k.bits) (q:Nat),z.toNat=q->q<2 ^ 64->(k=.i64->q<2 ^ 63)->q=r ->
   (Sem.pure (Value.int k (k.wrap z.toNat)):Sem Value).run P w=.ok (.int k (.ofNat r)) w:=by
  intro z q h1 h2 d h4;rw[h1,hw q h2 d,h4];rfl
 unfold Op.intBits;cases op<;>first| (cases h;done)|skip
 case and =>
  injection h with h;injection h with _ h;injection h with h;exact fin _ (m &&& n) (by rw[BitVec.toNat_and,e1,e2]) (YU _ c) (λe=>YU _ (a e).2) h
 case or =>
  injection h with h;injection h with _ h;injection h with h;exact fin _ (m ||| n) (by rw[BitVec.toNat_or,e1,e2]) (XW hm c) (λe=>XW (a e).1 (a e).2) h
 case xor =>
  injection h with h;injection h with _ h;injection h with h;exact fin _ (m ^^^ n) (by rw[BitVec.toNat_xor,e1,e2]) (YX hm c) (λe=>YX (a e).1 (a e).2) h
 case andNot =>
  injection h with h;injection h with _ h;injection h with h;have hx:∀(x y:BitVec k.bits),x &&& ~~~y=x ^^^ (x &&& y):=by intro x y;ext i hi;simp only[BitVec.getElem_and,BitVec.getElem_not,BitVec.getElem_xor];cases x[i]<;>cases y[i]<;>rfl
  exact fin _ (m ^^^ (m &&& n)) (by rw[hx,BitVec.toNat_xor,BitVec.toNat_and,e1,e2]) (YX hm (YU _ c))
   (λe=>YX (a e).1 (YU _ (a e).2)) h
theorem HL{op:BinOp}{k k':IntKind}{a b:Int}(h:(fO op).run k a k' b=some y) :
  ∃v,(binOp op ty (.int k a) (.int k' b)).run P w=.ok v w/\RV w γ A bd y v:=by
 have hk:∀{α:Type} {x:Option α} {y:α},aB (cS k k') x none=some y->k=k'/\x=some y:=by
  intro α x y h;rw[aa,yk]at h
  split at h
  ·rename_i h1;exact⟨by simpa using h1,h⟩
  ·cases h
 cases op
 case add|sub|mul =>
  obtain⟨rfl,h1⟩:=hk h;injection h1 with h1;subst h1;refine⟨_,by simp only[binOp,Op.intArith,ne_eq,not_true,if_false];rfl,?_⟩;rw[hZ];exact .int _ _ _
 case quo =>
  obtain⟨rfl,h1⟩:=hk h;clear h;unfold Qs at h1;simp only[binOp,ne_eq,not_true,if_false]
  split at h1
  ·rename_i m n;injection h1 with h1;subst h1;refine⟨_,?_,by rw[hZ];exact .int _ _ _⟩;unfold Op.intDiv;rw[Vz (by simp only[W9];omega)]
   rfl
  ·exact jT h1 P w
 case rem =>
  obtain⟨rfl,h1⟩:=hk h;clear h;unfold Qw at h1;simp only[binOp,ne_eq,not_true,if_false]
  split at h1
  ·rename_i m n;injection h1 with h1;subst h1;refine⟨_,?_,.int _ _ _⟩;unfold Op.intDiv;rw[Vz (by simp only[W9];omega)]
   rfl
  ·exact jT h1 P w
 case and|or|xor|andNot =>
  obtain⟨rfl,h1⟩:=hk h;clear h;unfold Q3 at h1;simp only[binOp,ne_eq,not_true,if_false]
  split at h1
  ·rename_i m n;rw[aa]at h1
   split at h1
   ·rename_i hs;have h0:=h1;injection h1 with h1;subst h1;exact⟨_,Ht hs h0,.int _ _ _⟩
   ·exact jT h1 P w
  ·exact jT h1 P w
 case shl =>
  change OL k a b=some y at h;unfold OL at h;simp only[binOp]
  split at h
  ·rename_i m n;injection h with h;subst h;refine⟨_,?_,by rw[hZ];exact .int _ _ _⟩;unfold Op.shift;rw[Vz (by simp only[W9];omega)];have:(Int.ofNat n).toNat=n:=rfl;simp only[this,Wq];congr 3
  ·exact jT (s:=Op.shift .shl k a k' b) h P w
 case shr =>
  change OM k a b=some y at h;unfold OM at h;simp only[binOp]
  split at h
  ·rename_i m n;injection h with h;subst h;refine⟨_,?_,.int _ _ _⟩;unfold Op.shift;rw[Vz (by simp only[W9];omega)];have:(Int.ofNat n).toNat=n:=rfl;simp only[this,Wq];congr 2;have e:(2:Int) ^ (min n k.bits)=((2 ^ (min n k.bits):Nat):Int):=by simp
   rw[e,Int.fdiv_eq_ediv_of_nonneg _ (X4 _)]
   rfl
  ·exact jT (s:=Op.shift .shr k a k' b) h P w
 all_goals
  obtain⟨rfl,h1⟩:=hk h;injection h1 with h1;subst h1;refine⟨_,by simp only[binOp,Op.intCmp,ne_eq,not_true,if_false];rfl,?_⟩;simp only[q_,lZ,notb_eq]
 case eql=>exact .bool _ _
 case neq =>
  rw[show (a != b) = !decide (a=b) from by simp[bne];rfl];exact .bool _ _
 case lss=>exact .bool _ _
 case leq =>
  rw[show decide (a<=b) = !decide (b<a) from by rw[WU];simp];exact .bool _ _
 case gtr=>exact .bool _ _
 case geq =>
  rw[show decide (a >= b) = !decide (a<b) from by rw[WU];simp];exact .bool _ _
end
section
variable {C:Cfg}{A:Nat->Nat->Prop}{bd:Nat}{w w':World}{γ γ':Gm}{hg:Nat->AObj}{nx:Nat}
theorem m9{b:Nat}{o:Obj}(h:w.heap[b]?=some o)(hc:∀c e f,o≠.cells c e f):(getObj b).run P w=.ok o w:=by cases o<;>first| (exact absurd rfl (hc _ _ _))|simp[getObj,Sem.run,h]
theorem rG{b:Nat}{o o':Obj}(h:w.heap[b]?=some o)(hc:∀c e f,o≠.cells c e f):(setObj b o').run P w=.ok () (World.setBlk w b o'):=by cases o<;>first| (exact absurd rfl (hc _ _ _))|simp[setObj,Sem.run,h,World.setBlk]
theorem P6{argTypes:Array TypeId}{t:TypeId}(hr:Rel C A bd w γ hg nx)(h0:argTypes[0]?=some t)
  (hx:RV w γ A bd x v) (agree:l6 C.P t=.map->∀id∈xf x,hg id=g.h.get id) :
  ValSim C A bd w γ (Builtin.len_ argTypes ty #[v]) (dH (l6 C.P t) x g):=by
 have a0:(#[v]:Array Value)[0]?=some v:=rfl;unfold Builtin.len_ l6;cases hu:C.P.underlying t with
 |none=>trivial
 | some d =>
  cases d<;>try trivial
  case array n e =>
   refine⟨goInt n,?_,.int _ _ _⟩;simp only[h0,a0,VT,aK hu,VD]
   rfl
  case slice e =>
   simp only[dH];cases hx with
   |nils=>exact⟨goInt 0,by simp[h0,aK hu],.int _ _ _⟩
   |esl _ a=>exact⟨goInt 0,by simp[h0,aK hu],.int _ _ _⟩
   | tsl _ tag sz rows b o cap cell ht hc hb hm ha hrl ho hw h =>
    refine⟨goInt rows.length,by simp[h0,aK hu],?_⟩;rw[aF];exact .int _ _ _
   |tnil _ tag sz a cap ht=>exact⟨goInt 0,by simp[h0,aK hu],.int _ _ _⟩
   |hsl _ id ep off len lim b o cap hk he hc h=>exact⟨goInt len,by simp[h0,aK hu],.int _ _ _⟩
   |_=>trivial
  case string =>
   simp only[dH];cases hx with
   |str _ s=>exact⟨goInt s.size,by simp[h0,aK hu],.int _ _ _⟩
   |_=>trivial
  case map kt et =>
   simp only[dH];cases hx with
   |nilm=>exact⟨goInt 0,by simp[h0,aK hu],.int _ _ _⟩
   | hmap _ id b hk hb =>
    have k:=agree (by simp[l6,hu]) id (by simp[xf]);simp only[G.get_eq,<-k];cases hid:hg id with
    | map es =>
     have c:=hr.obj id;rw[hid]at c;obtain⟨j,k2,esC,f,i,l⟩:=c;subst hb;refine⟨goInt es.length,?_,by rw[aF];exact .int _ _ _⟩;simp[h0,aK hu,m9 f (by simp),i]
    |_=>trivial
   |_=>trivial
theorem Pz{argTypes:Array TypeId}{t:TypeId}(hr:Rel C A bd w γ hg nx)(h0:argTypes[0]?=some t)(hu:C.P.underlying t=some (.slice e))
  (hx:RV w γ A bd x v) (agree:∀id∈aw x,hg id=g.h.get id) :
  ValSim C A bd w γ (Builtin.cap_ argTypes ty #[v]) (RP x g):=True.intro
theorem P9{argTypes:Array TypeId}(hx:RV w γ A bd x v)(hy:RV w γ A bd y u) :
  ValSim C A bd w γ (Builtin.max_ argTypes ty #[v,u]) (match x with
   | .int k m=>match y with
    |.int k' n=>aB (cS k k') (.val (.int k (aB (zx m n) n m))) .fail
    |_=>.fail
   |_=>.fail):=by
 cases hx with
 | int _ k m =>
  cases hy with
  | int _ k' n =>
   dsimp only;rw[aa]
   split
   ·refine⟨.int k (if n > m then n else m),by simp[Builtin.max_,Builtin.max2],?_⟩;rw[aa,lZ];simp only[VK,gt_iff_lt];exact .int _ _ _
   ·trivial
  |_=>trivial
 |_=>trivial
theorem Qa{argTypes:Array TypeId}(hx:RV w γ A bd x v)(hy:RV w γ A bd y u) :
  ValSim C A bd w γ (Builtin.min_ argTypes ty #[v,u]) (match x with
   | .int k m=>match y with
    |.int k' n=>aB (cS k k') (.val (.int k (aB (zx n m) n m))) .fail
    |_=>.fail
   |_=>.fail):=by
 cases hx with
 | int _ k m =>
  cases hy with
  | int _ k' n =>
   dsimp only;rw[aa]
   split
   ·refine⟨.int k (if n<m then n else m),by simp[Builtin.min_,Builtin.min2],?_⟩;rw[aa,lZ];simp only[VK];exact .int _ _ _
   ·trivial
  |_=>trivial
 |_=>trivial
end
section
variable {t:TypeId}{w:World}
def g7:TypeDesc->Value->Bool
 |.bool,.bool _=>true
 |.int k,.int k' _=>decide (k=k')
 |.string,.string _=>true
 |_,_=>false
def aQ:List TypeDesc->List Value->Bool
 |[],[]=>true
 |d::ds,v::vs=>g7 d v&&aQ ds vs
 |_,_=>false
def eqV:Value->Value->Bool
 |.int _ a,.int _ b=>a == b
 |.bool a,.bool b=>a == b
 |.string a,.string b=>a == b
 |_,_=>false
def nI:List Value->List Value->Bool
 |[],[]=>true
 |a::as,b::bs=>eqV a b&&nI as bs
 |_,_=>false
def dX(P:Program)(t:TypeId):Bool:=match sM P t with|some b=>b|none=>false
def mkV(P:Program)(t:TypeId)(cs:List Value):Value:=if dX P t then .agg cs.toArray else cs.headD undef
theorem ba:∀{ds:List TypeDesc} {vs:List Value},aQ ds vs=true->vs.length=ds.length:=by
 intro ds
 induction ds with
 |nil=>intro vs h;cases vs<;>simp_all [aQ]
 | cons d ds ih=>intro vs h;cases vs with
  |nil=>simp[aQ]at h
  |cons v vs=>simp only[aQ,Vx]at h;simp[ih h.2]
theorem eR{d1 d2:List TypeDesc}:∀{vs:List Value},aQ (d1++d2) vs=true->aQ d1 (vs.take d1.length)=true/\aQ d2 (vs.drop d1.length)=true:=by
 induction d1 with
 |nil=>intro vs h;simpa [aQ] using h
 | cons d ds ih =>
  intro vs h;cases vs with
  |nil=>simp[aQ]at h
  | cons v vs =>
   simp only[VE,aQ,Vx]at h;obtain⟨h1,h2⟩:=ih h.2;simp only[Wd,YL,Yr,aQ,Vx];exact⟨⟨h.1,h1⟩,h2⟩
theorem yK:∀{a1 a2 b1 b2:List Value},a1.length=b1.length->nI (a1++a2) (b1++b2)=(nI a1 b1&&nI a2 b2):=by
 intro a1
 induction a1 with
 |nil=>intro a2 b1 b2 h;cases b1<;>simp_all [nI]
 | cons a as ih =>
  intro a2 b1 b2 h;cases b1 with
  |nil=>simp at h
  |cons b bs=>simp only[VE,nI,ih (Nat.succ.inj h),Bool.and_assoc]
section
variable {P:Program}
def pi:TypeDesc->Bool
 |.struct _|.array _ _=>true
 |_=>false
theorem dY{d:TypeDesc}(h:P.underlying t=some d) :
  dX P t=pi d/\sM P t=some (dX P t):=by
 unfold dX sM;cases d<;>simp[h,pi]
theorem ud{d:TypeDesc}{off:Nat}(hu:P.underlying t=some d)(hn:szT P t=some n)(h1:dX P t=false->n=1)
  (hle:dX P t=false->off+n<=xs.size):(part t xs off).run P w=.ok (mkV P t ((xs.toList.drop off).take n)) w:=by
 obtain⟨_,ha⟩:=dY hu;unfold mkV;cases hg:dX P t with
 | true =>
  rw[hg]at ha;have e:(xs.extract off (off+n))=((xs.toList.drop off).take n).toArray:=by apply Y5;simp[Array.toList_extract,List.extract]
  simp[part,me ha,bo hn,e]
 | false =>
  rw[hg]at ha;have h:=h1 hg;subst h;have hl:off<xs.size:=by have:=hle hg;omega
  have e:((xs.toList.drop off).take 1).headD undef=xs[off]:=by rw[List.headD_eq_head?_getD,List.head?_take,Vz (by decide),List.head?_drop];simp[hl]
  simp only[part,VT,me ha,VD,WV,if_false,e];simp[hl]
theorem im{ds:List TypeDesc}(h:m7 P d t=some ds):∃k,P.underlying t=some k/\(dX P t=false->ds.length=1):=by
 cases d with
 |zero=>cases h
 | succ d =>
  unfold m7 at h;cases hu:P.underlying t with
  |none=>rw[hu]at h;cases h
  | some k =>
   refine⟨k,rfl,λhg=>?_⟩;obtain⟨h1,_⟩:=dY hu;rw[hg]at h1;rw[hu]at h;cases k<;>simp[pi]at h1<;>simp only[aa]at h<;>split at h<;>first| (cases h;done)| (injection h with h;subst h;rfl)
theorem HK{dd:Nat}{rec:TypeId->Option (List TypeDesc)}(hinfo:∀t ds,rec t=some ds->∃k,P.underlying t=some k/\(dX P t=false->ds.length=1))
  (ih:∀t ds,rec t=some ds->∀(xs ys:List Value),aQ ds xs=true->aQ ds ys=true->(Op.equalIn dd t (mkV P t xs) (mkV P t ys)).run P w=.ok (nI xs ys) w)
  {ys:Array Value}:∀(fs:List Field) (k:Nat) (ds:List TypeDesc),vD P rec fs k=some ds->aQ ds (xs.toList.drop k)=true->aQ ds (ys.toList.drop k)=true ->
   (Op.eqFields dd xs ys fs).run P w=.ok (nI (xs.toList.drop k) (ys.toList.drop k)) w:=by
 intro fs
 induction fs with
 | nil =>
  intro k ds h hx j;simp only[vD]at h;injection h with h;subst h;have h1:=ba hx;have h2:=ba j;rw[Wb h1,Wb h2]
  rfl
 | cons f fs ihf =>
  intro k ds h hx j;simp only[vD]at h
  split at h
  ·rename_i ds1 h1
   split at h
   ·rename_i r hr;rw[aa]at h
    split at h
    ·rename_i c;simp only[Vx,bne_iff_ne,ne_eq,beq_iff_eq]at c;obtain⟨⟨d,a⟩,i⟩:=c;have a:=bc a;injection h with h;subst h;obtain⟨l,m⟩:=eR hx;obtain⟨n,o⟩:=eR j;rw[W_]at m o;have lx:=ba hx;have ly:=ba j;simp at lx ly;obtain⟨kd,hu,b⟩:=hinfo _ _ h1;have p:(part f.type xs f.offset).run P w=.ok (mkV P f.type ((xs.toList.drop k).take ds1.length)) w:=by rw[a];exact ud hu i b λhg=>by have:=b hg;omega
     have q:(part f.type ys f.offset).run P w=.ok (mkV P f.type ((ys.toList.drop k).take ds1.length)) w:=by rw[a];exact ud hu i b λhg=>by have:=b hg;omega
     have s:=ih _ _ h1 _ _ l n;have p4:=ihf _ _ hr m o;simp only[Op.eqFields,ne_eq,d,not_false_eq_true,if_true,VT,p,q,s,VD];have e:=yK (a1:=(xs.toList.drop k).take ds1.length) (a2:=xs.toList.drop (k+ds1.length)) (b1:=(ys.toList.drop k).take ds1.length) (b2:=ys.toList.drop (k+ds1.length))
      (by rw[ba l,ba n])
     rw[<-W_,<-W_,WS,WS]at e;rw[e,W_,W_];cases hq:nI ((xs.toList.drop k).take ds1.length) ((ys.toList.drop k).take ds1.length)
     ·simp
     ·simpa using p4
    ·cases h
   ·cases h
  ·cases h
theorem Cj{dd:Nat}{de:List TypeDesc}{kd:TypeDesc}(hu:P.underlying e=some kd)(hone:dX P e=false->de.length=1)(hsz:szT P e=some de.length)
  (ih:∀(xs ys:List Value),aQ de xs=true->aQ de ys=true->(Op.equalIn dd e (mkV P e xs) (mkV P e ys)).run P w=.ok (nI xs ys) w)
  {ys:Array Value}:∀(n i:Nat),aQ (List.replicate n de).flatten (xs.toList.drop (i*de.length))=true->aQ (List.replicate n de).flatten (ys.toList.drop (i*de.length))=true ->
   (Op.eqItems dd e de.length xs ys (List.range' i n)).run P w=.ok (nI (xs.toList.drop (i*de.length)) (ys.toList.drop (i*de.length))) w:=by
 intro n
 induction n with
 | zero =>
  intro i hx h;have h1:=ba hx;have h2:=ba h;rw[Wb (l:=xs.toList.drop _) (by simpa using h1),Wb (l:=ys.toList.drop _) (by simpa using h2)]
  rfl
 | succ n ihn =>
  intro i hx h;rw[Xk,XB]at hx h;obtain⟨k,a⟩:=eR hx;obtain⟨b,c⟩:=eR h;have lx:=ba k;have ly:=ba b;simp at lx ly;rw[W_]at a c;have em:i*de.length+de.length=(i+1)*de.length:=by rw[Wc,Xc]
  rw[em]at a c;have d:(part e xs (i*de.length)).run P w=.ok (mkV P e ((xs.toList.drop (i*de.length)).take de.length)) w:=ud hu hsz hone λhg=>by have:=hone hg;omega
  have f:(part e ys (i*de.length)).run P w=.ok (mkV P e ((ys.toList.drop (i*de.length)).take de.length)) w:=ud hu hsz hone λhg=>by have:=hone hg;omega
  have j:=ih _ _ k b;have p4:=ihn (i+1) a c;rw[List.range'_succ];simp only[Op.eqItems,VT,d,f,j,VD];have ee:=yK (a1:=(xs.toList.drop (i*de.length)).take de.length) (a2:=xs.toList.drop ((i+1)*de.length)) (b1:=(ys.toList.drop (i*de.length)).take de.length) (b2:=ys.toList.drop ((i+1)*de.length))
   (by rw[ba k,ba b])
  rw[<-em,<-W_,<-W_,WS,WS,W_,W_,em]at ee;rw[ee];cases hq:nI ((xs.toList.drop (i*de.length)).take de.length) ((ys.toList.drop (i*de.length)).take de.length)
  ·simp
  ·simpa using p4
theorem HA(h:szT P t=some n):P.cellsOf t=n/\∃i,P.info? t=some i:=by
 unfold szT at h;unfold Program.cellsOf;cases hi:P.info? t with
 |none=>rw[hi]at h;cases h
 |some i=>rw[hi]at h;simp at h;simp[h]
theorem Eb(D:Nat):∀(d:Nat) (t:TypeId) (ds:List TypeDesc),m7 P d t=some ds->∀(w:World) (xs ys:List Value),aQ ds xs=true->aQ ds ys=true ->
  (Op.equalIn (D+d) t (mkV P t xs) (mkV P t ys)).run P w=.ok (nI xs ys) w:=by
 intro d
 induction d with
 |zero=>intro t ds h;cases h
 | succ d ih =>
  intro t ds h w xs ys hx a;unfold m7 at h;have one:∀k,P.underlying t=some k->m6 k=true->pi k=false->ds=[k]->(Op.equalIn (D+(d+1)) t (mkV P t xs) (mkV P t ys)).run P w=.ok (nI xs ys) w:=by
   intro k hu hk m o;obtain⟨h1,_⟩:=dY hu;subst o;have hm:∀zs,mkV P t zs=zs.headD undef:=by intro zs;unfold mkV;rw[h1,m];rfl
   rw[hm,hm];have lx:=ba hx;have ly:=ba a
   match xs,ys,lx,ly with
   | [x],[y],_,_ =>
    simp only[aQ,Y4]at hx a;simp only[List.headD_cons,nI,Y4,<-XE];cases k<;>simp[m6]at hk<;>cases x<;>simp[g7]at hx<;>cases y<;>simp[g7]at a
    ·simp[Op.equalIn,aK hu,eqV]
    ·subst hx;subst a;simp[Op.equalIn,aK hu,eqV]
    ·simp[Op.equalIn,aK hu,eqV]
  cases hu:P.underlying t with
  |none=>rw[hu]at h;cases h
  | some k =>
   rw[hu]at h;cases k
   case struct fs =>
    simp only[aa]at h
    split at h
    ·cases h
    ·rename_i c;have c:P.stoodInHeld t=false:=by simpa using c
     have j:P.fieldsOf t=fs:=by simp[Program.fieldsOf,hu]
     have hm:∀zs,mkV P t zs=.agg zs.toArray:=by intro zs;unfold mkV;rw[(dY hu).1];rfl
     rw[hm,hm,<-XE,run_equalIn_struct w (D+d) t _ _ (by rw[j];exact hu) c,j];have:=HK (P:=P) (w:=w) (dd:=D+d) (rec:=m7 P d) (λt ds h=>im h) (λt ds h xs ys hx a=>ih t ds h w xs ys hx a) (xs:=xs.toArray) (ys:=ys.toArray)
      fs.toList 0 ds h (by simpa using hx) (by simpa using a)
     simpa using this
   case array n e =>
    simp only at h
    split at h
    ·rename_i de f;simp only[aa]at h
     split at h
     ·rename_i b;injection h with h;subst h;have b:szT P e=some de.length:=by simpa using b
      obtain⟨kd,p,l⟩:=im f;obtain⟨hc,i,hi⟩:=HA b;have hm:∀zs,mkV P t zs=.agg zs.toArray:=by intro zs;unfold mkV;rw[(dY hu).1];rfl
      rw[hm,hm,<-XE,run_equalIn_array w (D+d) _ _ hu hi,hc,List.range_eq_range'];have:=Cj (P:=P) (w:=w) (dd:=D+d) p l b (λxs ys hx a=>ih e de f w xs ys hx a) (xs:=xs.toArray) (ys:=ys.toArray) n 0 (by simpa using hx) (by simpa using a);simpa using this
     ·cases h
    ·cases h
   all_goals
    simp only[aa]at h
    split at h
    ·rename_i hk;injection h with h;exact one _ hu hk rfl h.symm
    ·cases h
end
end
section
variable {C:Cfg}{A:Nat->Nat->Prop}{bd:Nat}{w w':World}{γ γ':Gm}{hg:Nat->AObj}{nx:Nat}
theorem RVs.tail{xs:List AV}{vs:List Value}(h:RVs w γ A bd (x::xs) (v::vs)):RV w γ A bd x v/\RVs w γ A bd xs vs :=
 ⟨h.2 0 x v rfl rfl,by have:=h.1;simp at this;exact this,λi y u hy hu=>h.2 (i+1) y u (by simpa using hy) (by simpa using hu)⟩
theorem C9{d:TypeDesc}(h:El d x=true)(hx:RV w γ A bd x v):g7 d v=true:=by cases d<;>cases hx<;>simp_all [El,g7,yk]
theorem vH:∀{ds:List TypeDesc} {xs:List AV} {vs:List Value},j3 ds xs=true->RVs w γ A bd xs vs->aQ ds vs=true:=by
 intro ds
 induction ds with
 | nil =>
  intro xs vs h hx;cases xs with
  | nil=>have:=hx.1;cases vs with
   |nil=>rfl
   |cons v vs=>simp at this
  |cons x xs=>cases h
 | cons d ds ih =>
  intro xs vs h hx;cases xs with
  |nil=>cases h
  | cons x xs =>
   cases vs with
   |nil=>have:=hx.1;simp at this
   | cons v vs =>
    obtain⟨h1,h2⟩:=hx.tail;simp only[j3,aa]at h
    split at h
    ·rename_i hk;simp only[aQ,Vx];exact⟨C9 hk h1,ih h h2⟩
    ·cases h
theorem xU{b:Bool}(h:qL x y=some b)(hx:RV w γ A bd x v)(hy:RV w γ A bd y u):eqV v u=b:=by
 cases hx<;>cases hy<;>simp only[qL]at h<;>first| (cases h;done)|skip
 ·injection h with h;subst h;rename_i a b;cases a<;>cases b<;>rfl
 ·rw[aa]at h
  split at h
  ·injection h with h;subst h;simp[eqV,q_];rfl
  ·cases h
 ·injection h with h;subst h;simp only[eqV];rename_i s1 s2;obtain⟨⟨x⟩⟩:=s1;obtain⟨⟨y⟩⟩:=s2;show ((⟨x⟩:Array UInt8) == ⟨y⟩)=_;rw[WU];simp
theorem u_:∀{xs ys:List AV} {vs us:List Value} {b:Bool},dK xs ys=some b->RVs w γ A bd xs vs->RVs w γ A bd ys us->nI vs us=b:=by
 intro xs
 induction xs with
 | nil =>
  intro ys vs us b h hx k;cases ys with
  | nil =>
   simp only[dK]at h;injection h with h;subst h;have h1:=hx.1;have h2:=k.1;cases vs<;>cases us<;>simp_all [nI]
  |cons y ys=>cases h
 | cons x xs ih =>
  intro ys vs us b h hx k;cases ys with
  |nil=>cases h
  | cons y ys =>
   cases vs with
   |nil=>have:=hx.1;simp at this
   | cons v vs =>
    cases us with
    |nil=>have:=k.1;simp at this
    | cons u us =>
     obtain⟨a,c⟩:=hx.tail;obtain⟨d,e⟩:=k.tail;simp only[dK]at h
     split at h
     ·rename_i p q hp hq;injection h with h;subst h;simp only[nI,xU hp a d,ih hq c e,aa];cases p<;>simp
     ·cases h
theorem vZ{xs:List AV}(h:RV w γ A bd (.agg xs) v):∃vs,v=.agg vs/\RVs w γ A bd xs vs.toList:=by
 cases h with
 |agg _ _ vs hl h1 h2=>exact⟨vs,rfl,by simpa using hl,λi x u hx hu=>h2 i x u hx (by simpa using hu)⟩
theorem HJ{t:TypeId}{ds:List TypeDesc}{ys:Array Value}(h:jZ C.P t=some ds)(hag:dX C.P t=true)(hx:aQ ds xs.toList=true)(hy:aQ ds ys.toList=true) :
  C.P.eqGuardType C.P.depth t=false/\(Op.equal t (.agg xs) (.agg ys)).run C.P w=.ok (nI xs.toList ys.toList) w:=by
 unfold jZ at h;rw[aa]at h
 split at h
 ·cases h
 ·rename_i hg;refine⟨by simpa using hg,?_⟩;have:=Eb (P:=C.P) 9992 8 t ds h w xs.toList ys.toList hx hy;unfold mkV at this;rw[hag]at this;simpa [Op.equal,Op.maxDepth] using this
theorem mc(t:TypeId)(x y:Value):Op.equal t x y=Op.equalIn (9999+1) t x y:=rfl
def EqFin(C:Cfg)(w:World)(ty:TypeId)(xo yo:Operand)(va vb:Value)(r:Bool):Prop :=
 (∀op,(eqGuard op ty xo yo va vb).run C.P w=.ok () w)/\(binOp .eql ty va vb).run C.P w=.ok (.bool r) w/\(binOp .neq ty va vb).run C.P w=.ok (.bool (!r)) w
theorem EqFin.mk'{ty:TypeId}{xo yo:Operand}{va vb:Value}{r:Bool}(h1:∀op,(eqGuard op ty xo yo va vb).run C.P w=.ok () w)(h2:(Op.equal ty va vb).run C.P w=.ok r w)
  (h3:binOp .eql ty va vb=(do pure (.bool (<-Op.equal ty va vb)))) (h4:binOp .neq ty va vb=(do pure (.bool (!(<-Op.equal ty va vb))))):EqFin C w ty xo yo va vb r:=by
 refine⟨h1,?_,?_⟩
 ·rw[h3];simp[h2]
 ·rw[h4];simp[h2]
section kinds
variable {ty:TypeId}{xo yo:Operand}{a b:AV}{va vb:Value}{r:Bool}(ha:RV w γ A bd a va)(hb:RV w γ A bd b vb)
include ha hb
theorem MH{ds:List TypeDesc}(hf:jZ C.P ty=some ds)(hag:dX C.P ty=true)(h:eqA (.flat ds) a b=some r):EqFin C w ty xo yo va vb r:=by
 cases a<;>try (cases h;done)
 cases b<;>try (cases h;done)
 rename_i xs ys;change aB (j3 ds xs&&j3 ds ys) (dK xs ys) none=some r at h;rw[aa]at h
 split at h
 ·rename_i hk;simp only[Vx]at hk;obtain⟨vs,rfl,c⟩:=vZ ha;obtain⟨us,rfl,k⟩:=vZ hb;obtain⟨g1,g2⟩:=HJ (w:=w) hf hag (vH hk.1 c) (vH hk.2 k);rw[u_ h c k]at g2;exact .mk' (λop=>run_eqGuard_agg w op ty xo yo vs us g1) g2 rfl rfl
 ·cases h
theorem KS(hu:C.P.underlying ty=some (.slice e))(h:eqA .slice a b=some r):EqFin C w ty xo yo va vb r:=by
 cases ha<;>try (cases h;done)
 all_goals cases hb<;>first| (cases h;done)| (injection h with h;subst h;exact .mk' (λop=>by cases op<;>simp[eqGuard]) (by rw[mc];unfold Op.equalIn;simp[aK hu]) rfl rfl)
theorem MJ{p q:Array TypeId}{v:Bool}(hu:C.P.underlying ty=some (.func p q v))(h:eqA .func a b=some r):EqFin C w ty xo yo va vb r:=by
 cases ha<;>try (cases h;done)
 all_goals cases hb<;>first| (cases h;done)| (injection h with h;subst h;exact .mk' (λop=>by cases op<;>simp[eqGuard]) (by rw[mc];unfold Op.equalIn;simp[aK hu]) rfl rfl)
theorem MG(hu:C.P.underlying ty=some .bool)(h:eqA .bool a b=some r):EqFin C w ty xo yo va vb r:=by
 cases ha<;>try (cases h;done)
 cases hb<;>try (cases h;done)
 rename_i x y;injection h with h;subst h;refine .mk' (λop=>by cases op<;>simp[eqGuard]) ?_ rfl rfl;rw[mc];unfold Op.equalIn;simp[aK hu];cases x<;>cases y<;>rfl
theorem KR{ms:Array (String×TypeId)}(hu:C.P.underlying ty=some (.interface ms))(h:eqA (.iface ms.isEmpty) a b=some r):EqFin C w ty xo yo va vb r:=by
 cases ha<;>try (cases h;done)
 ·cases hb<;>try (cases h;done)
  ·change aB ms.isEmpty (some true) none=some r at h;rw[aa]at h
   split at h
   ·rename_i he;injection h with h;subst h;refine .mk' (λop=>?_) (by rw[mc];unfold Op.equalIn;simp[aK hu]) rfl rfl;have hg:(Op.eqGuardIn Op.maxDepth ty .nilIface .nilIface).run C.P w=.ok false w:=by show (Op.eqGuardIn (9999+1) ty .nilIface .nilIface).run C.P w=_;unfold Op.eqGuardIn;simp only[VT,aK hu,VD,he,Wq,YN]
    unfold eqGuard;generalize Op.eqGuardIn Op.maxDepth ty .nilIface .nilIface=m at hg ⊢;cases op<;>simp[hg]
   ·cases h
  ·injection h with h;subst h;exact .mk' (λop=>by cases op<;>simp[eqGuard]) (by rw[mc];unfold Op.equalIn;simp[aK hu]) rfl rfl
 ·cases hb<;>try (cases h;done)
  injection h with h;subst h;exact .mk' (λop=>by cases op<;>simp[eqGuard]) (by rw[mc];unfold Op.equalIn;simp[aK hu]) rfl rfl
end kinds
theorem Jl{ty:TypeId}{xo yo:Operand}{a b:AV}{va vb:Value}{r:Bool}(hne:qN C.P ty≠.other)(h:eqA (qN C.P ty) a b=some r)(ha:RV w γ A bd a va)(hb:RV w γ A bd b vb) :
  EqFin C w ty xo yo va vb r:=by
 unfold qN at h hne;cases hu:C.P.underlying ty with
 |none=>simp only[hu]at hne;exact absurd rfl hne
 | some d =>
  have agg:pi d=true->eqA (match jZ C.P ty with|some ds=>EqKind.flat ds|none=>.other) a b=some r->EqFin C w ty xo yo va vb r:=by
   intro hd h;cases hf:jZ C.P ty with
   |none=>rw[hf]at h;cases h
   |some ds=>rw[hf]at h;exact MH ha hb hf (by rw[(dY hu).1];exact hd) h
  simp only[hu]at h hne;cases d
  case struct fs=>exact agg rfl h
  case array n e=>exact agg rfl h
  case slice e=>exact KS ha hb hu h
  case func p q v=>exact MJ ha hb hu h
  case bool=>exact MG ha hb hu h
  case interface ms=>exact KR ha hb hu h
  all_goals exact absurd rfl hne
noncomputable def Ri(op:BinOp)(x y:AV):OR:=match x,y with|.int k m,.int k' n=>orV ((fO op).run k m k' n)|_,_=>.fail
theorem Pu{op:BinOp}{ty:TypeId}{xo yo:Operand}{a b:AV}{va vb:Value}(ha:RV w γ A bd a va)(hb:RV w γ A bd b vb) :
  ValSim C A bd w γ (do eqGuard op ty xo yo va vb;binOp op ty va vb) ((Ae C.P op ty).run a b):=by
 have ph:ValSim C A bd w γ (do eqGuard op ty xo yo va vb;binOp op ty va vb) (Ri op a b):=by
  unfold Ri;cases ha with
  | int _ k m =>
   cases hb with
   | int _ k' n =>
    refine oq λy hy=>?_;obtain⟨v,h1,h2⟩:=HL (P:=C.P) (ty:=ty) (w:=w) (γ:=γ) (A:=A) (bd:=bd) hy;refine⟨v,?_,h2⟩;have:(eqGuard op ty xo yo (.int k m) (.int k' n)).run C.P w=.ok () w:=by cases op<;>simp[eqGuard]
    simp[this,h1]
   |_=>trivial
  |_=>trivial
 cases op
 case eql =>
  unfold Ae;dsimp only
  split
  ·exact ph
  ·rename_i hk;dsimp only;cases hr:eqA (qN C.P ty) a b with
   |none=>trivial
   | some r =>
    obtain⟨h1,h2,_⟩:=Jl (xo:=xo) (yo:=yo) (λe=>hk e) hr ha hb;exact⟨.bool r,by simp[h1,h2],.bool _ _⟩
 case neq =>
  unfold Ae;dsimp only
  split
  ·exact ph
  ·rename_i hk;dsimp only;cases hr:eqA (qN C.P ty) a b with
   |none=>trivial
   | some r =>
    obtain⟨h1,_,h2⟩:=Jl (xo:=xo) (yo:=yo) (λe=>hk e) hr ha hb;exact⟨.bool (!r),by simp[h1,h2],by rw[notb_eq];exact .bool _ _⟩
 all_goals exact ph
end
section
variable {P:Program}
theorem AO(em:Bool)(D:Nat):∀(d:Nat) (t:TypeId) (ds:List TypeDesc),m7 P d t=some ds->∀(w:World) (xs:List Value),aQ ds xs=true ->
  (Instr.checkKey em (D+d) t (mkV P t xs)).run P w=.ok () w:=by
 intro d
 induction d with
 |zero=>intro t ds h;cases h
 | succ d ih =>
  intro t ds h w xs hx;unfold m7 at h;have one:∀k,P.underlying t=some k->m6 k=true->pi k=false->ds=[k]->(Instr.checkKey em (D+(d+1)) t (mkV P t xs)).run P w=.ok () w:=by
   intro k hu hk hag hds;obtain⟨h1,_⟩:=dY hu;subst hds;have hm:∀zs,mkV P t zs=zs.headD undef:=by intro zs;unfold mkV;rw[h1,hag];rfl
   rw[hm];have lx:=ba hx
   match xs,lx with
   | [x],_ =>
    simp only[aQ,Y4]at hx;simp only[List.headD_cons,<-XE];unfold Instr.checkKey;cases k<;>simp[m6]at hk<;>cases x<;>simp[g7]at hx<;>simp[aK hu]
  cases hu:P.underlying t with
  |none=>rw[hu]at h;cases h
  | some k =>
   rw[hu]at h;cases k
   case struct fs =>
    simp only[aa]at h
    split at h
    ·cases h
    ·have hm:∀zs,mkV P t zs=.agg zs.toArray:=by intro zs;unfold mkV;rw[(dY hu).1];rfl
     rw[hm,<-XE,Instr.checkKey];simp only[VT,aK hu,VD];rw[<-Array.forIn_toList];have go:∀(L:List Field) (k:Nat) (ds:List TypeDesc),vD P (m7 P d) L k=some ds->aQ ds (xs.drop k)=true ->
       (forIn L PUnit.unit λ(f:Field) (_:PUnit)=>(do
        if f.name ≠ "_" then Instr.checkKey em (D + d) f.type (← part f.type xs.toArray f.offset)
        pure (ForInStep.yield PUnit.unit):Sem (ForInStep PUnit))).run P w=.ok PUnit.unit w:=by
      intro L
      induction L with
      |nil=>intro k ds _ _;simp
      | cons f L ihL =>
       intro k ds h hx;simp only[vD]at h
       split at h
       ·rename_i ds1 h1
        split at h
        ·rename_i r hr;rw[aa]at h
         split at h
         ·rename_i hcond;simp only[Vx,bne_iff_ne,ne_eq,beq_iff_eq]at hcond;obtain⟨⟨hname,hoff⟩,hsz⟩:=hcond;have hoff:=bc hoff;injection h with h;subst h;obtain⟨x1,x2⟩:=eR hx;rw[W_]at x2;have lx:=ba hx;simp at lx;obtain⟨kd,hu',hone⟩:=im h1;have p1:(part f.type xs.toArray f.offset).run P w=.ok (mkV P f.type ((xs.drop k).take ds1.length)) w:=by
           rw[hoff];have:=ud (w:=w) (xs:=xs.toArray) (off:=k) hu' hsz hone λhg=>by have:=hone hg;simp;omega
           simpa using this
          have p2:=ih _ _ h1 w _ x1;have p3:=ihL _ _ hr x2;simp only[List.forIn_cons,VT,ne_eq,hname,not_false_eq_true,if_true,VD,p1,p2,Wq];exact p3
         ·cases h
        ·cases h
       ·cases h
     have:=go fs.toList 0 ds h (by simpa using hx);simp at this ⊢;rw[this];rfl
   case array n e =>
    simp only at h
    split at h
    ·rename_i de hde;simp only[aa]at h
     split at h
     ·rename_i hsz;injection h with h;subst h;have hsz:szT P e=some de.length:=by simpa using hsz
      obtain⟨kd,hue,hone⟩:=im hde;have hm:∀zs,mkV P t zs=.agg zs.toArray:=by intro zs;unfold mkV;rw[(dY hu).1];rfl
      rw[hm,<-XE,Instr.checkKey];simp only[VT,aK hu,VD];simp only[Std.Legacy.Range.forIn_eq_forIn_range',Std.Legacy.Range.size,XJ,Nat.add_one_sub_one,YF];have go:∀(n i:Nat),aQ (List.replicate n de).flatten (xs.drop (i*de.length))=true ->
        (forIn (List.range' i n) PUnit.unit λ(i:Nat) (_:PUnit)=>(do
         Instr.checkKey em (D+d) e (<-part e xs.toArray (i*(<-Go.sizeOf e)))
         pure (ForInStep.yield PUnit.unit):Sem (ForInStep PUnit))).run P w=.ok PUnit.unit w:=by
       intro n
       induction n with
       |zero=>intro i _;simp
       | succ n ihn =>
        intro i hx;rw[Xk,XB]at hx;obtain⟨x1,x2⟩:=eR hx;have lx:=ba x1;simp at lx;rw[W_]at x2;have em':i*de.length+de.length=(i+1)*de.length:=by rw[Wc,Xc]
        rw[em']at x2;have p1:(part e xs.toArray (i*de.length)).run P w=.ok (mkV P e ((xs.drop (i*de.length)).take de.length)) w:=by
         have:=ud (w:=w) (xs:=xs.toArray) (off:=i*de.length) hue hsz hone λhg=>by have:=hone hg;simp;omega
         simpa using this
        have p2:=ih e de hde w _ x1;have p3:=ihn (i+1) x2;rw[List.range'_succ];simp only[List.forIn_cons,VT,bo hsz,VD,p1,p2,Wq];exact p3
      have:=go n 0 (by simpa using hx);simp at this ⊢;rw[this];rfl
     ·cases h
    ·cases h
   all_goals
    simp only[aa]at h
    split at h
    ·rename_i hk;injection h with h;exact one _ hu hk rfl h.symm
    ·cases h
end
section
variable {C:Cfg}{A:Nat->Nat->Prop}{bd:Nat}{w w':World}{γ γ':Gm}{hg:Nat->AObj}{nx:Nat}
def BL(P:Program)(kt:TypeId)(k:AV)(v:Value):Prop :=
 ∃d ds,d<=8/\m7 P d kt=some ds/\aQ ds v.cells.toList=true/\v=mkV P kt v.cells.toList/\(dX P kt=true↔∃xs,k=.agg xs)
theorem Nx(h:C8 (cJ C.P kt) k=true)(hk:RV w γ A bd k v):BL C.P kt k v:=by
 unfold cJ at h;cases hu:C.P.underlying kt with
 |none=>rw[hu]at h;cases h
 | some d =>
  have agg:pi d=true->C8 (match jZ C.P kt with|some ds=>KeyKind.flat ds|none=>.other) k=true->BL C.P kt k v:=by
   intro hd h;cases hf:jZ C.P kt with
   |none=>rw[hf]at h;cases h
   | some ds =>
    rw[hf]at h;obtain⟨xs,rfl⟩:∃xs,k=.agg xs:=by cases k<;>first|exact⟨_,rfl⟩| (cases h;done)
    change j3 ds xs=true at h;obtain⟨vs,rfl,l⟩:=vZ hk;have a:dX C.P kt=true:=by rw[(dY hu).1];exact hd
    unfold jZ at hf;rw[aa]at hf
    split at hf
    ·cases hf
    ·refine⟨8,ds,Vu _,hf,vH h l,?_,?_⟩
     ·unfold mkV;rw[a];simp[Value.cells]
     ·simp[a]
  have one:m6 d=true->C8 (.one d) k=true->pi d=false->(∀f,m7 C.P (f+1) kt=some [d])->BL C.P kt k v:=by
   intro hf c a i;have b:dX C.P kt=false:=by rw[(dY hu).1];exact a
   have j:=C9 c hk;refine⟨1,[d],by decide,i 0,?_,?_,?_⟩
   ·cases v<;>simp_all [Value.cells,aQ,g7]<;>cases d<;>simp_all [g7]
   ·unfold mkV;rw[b];cases v<;>simp[Value.cells]<;>cases d<;>simp_all [g7]
   ·rw[b];constructor
    ·intro h;cases h
    ·rintro⟨xs,rfl⟩;cases d<;>cases c
  rw[hu]at h;cases d
  case struct fs=>exact agg rfl h
  case array n e=>exact agg rfl h
  all_goals
   simp only[aa]at h
   split at h
   ·rename_i hf;exact one hf h rfl (λf=>by unfold m7;rw[hu];simp only[aa];rw[VC hf])
   ·cases h
theorem yJ{d:TypeDesc}{b:Bool}(h:qL x y=some b)(hx:RV w γ A bd x v)(hy:RV w γ A bd y u)(hk:g7 d v=true):g7 d u=true:=by
 cases hx<;>try (cases h;done)
 all_goals cases hy<;>try (cases h;done)
 ·cases d<;>simp_all [g7]
 ·simp only[qL,aa,yk]at h
  split at h
  ·rename_i e;simp at e;subst e;cases d<;>simp_all [g7]
  ·cases h
 ·cases d<;>simp_all [g7]
theorem uE:∀{ds:List TypeDesc} {xs ys:List AV} {vs us:List Value} {b:Bool},dK xs ys=some b->RVs w γ A bd xs vs->RVs w γ A bd ys us->aQ ds vs=true->aQ ds us=true:=by
 intro ds
 induction ds with
 | nil =>
  intro xs ys vs us b h hx k hk;have h0:=ba hk;have h1:=hx.1;have:xs=[]:=Wb (by simp at h0;simp[h1,h0]);subst this;cases ys with
  |nil=>have h2:=k.1;have:us=[]:=Wb (by simpa using h2.symm);subst this;rfl
  |cons y ys=>cases h
 | cons d ds ih =>
  intro xs ys vs us b h hx k hk;cases vs with
  |nil=>cases hk
  | cons v vs =>
   cases xs with
   |nil=>have:=hx.1;simp at this
   | cons x xs =>
    cases ys with
    |nil=>cases h
    | cons y ys =>
     cases us with
     |nil=>have:=k.1;simp at this
     | cons u us =>
      obtain⟨a,c⟩:=hx.tail;obtain⟨e,f⟩:=k.tail;simp only[aQ,Vx]at hk;simp only[dK]at h
      split at h
      ·rename_i p q hp hq;simp only[aQ,Vx];exact⟨yJ hp a e hk.1,ih hq c f hk.2⟩
      ·cases h
theorem vI(h:dX C.P kt=false)(x:Value):mkV C.P kt [x]=x:=by unfold mkV;rw[h];rfl
theorem A6{k':AV}{v':Value}{b:Bool}(hk:BL C.P kt k v)(h:yQ k k'=some b)(h1:RV w γ A bd k v)(h2:RV w γ A bd k' v') :
  BL C.P kt k' v'/\(Op.equal kt v v').run C.P w=.ok b w/\(dX C.P kt=false->∀kd,C.P.underlying kt=some kd->Instr.sameNow kd v v'=some b):=by
 obtain⟨d,ds,hd,a,f,t,n⟩:=hk;cases hg:dX C.P kt with
 | true =>
  obtain⟨xs,rfl⟩:=n.1 hg;obtain⟨ys,rfl⟩:∃ys,k'=.agg ys:=by cases k'<;>first|exact⟨_,rfl⟩| (cases h;done)
  change dK xs ys=some b at h;obtain⟨vs,rfl,s⟩:=vZ h1;obtain⟨us,rfl,hu⟩:=vZ h2;have c:aQ ds us.toList=true:=uE h s hu f;have he:=Eb (P:=C.P) (10000 - d) d kt ds a w vs.toList us.toList f c;have hm:∀zs:Array Value,mkV C.P kt zs.toList=.agg zs:=by intro zs;unfold mkV;rw[hg];simp
  rw[show 10000 - d+d=9999+1 from by omega,hm,hm,u_ h s hu]at he;refine⟨⟨d,ds,hd,a,c,(hm us).symm,by simp[hg]⟩,he,λh=>by cases h⟩
 | false =>
  have p:∀xs,k≠.agg xs:=λxs e=>by rw[n.2 ⟨xs,e⟩]at hg;cases hg
  have j:∀xs,k'≠.agg xs:=by rintro xs rfl;cases k<;>first| (cases h;done)|exact absurd rfl (p _)
  have h':qL k k'=some b:=by cases k<;>first| (exact absurd rfl (p _))| (cases k'<;>first| (exact absurd rfl (j _))|exact h)
  obtain⟨kd,hu,q⟩:=im a;have m:=q hg;obtain⟨i,rfl⟩:∃i,ds=[i]:=by
   match ds,m with
   |[i],_=>exact⟨i,rfl⟩
  have r:v.cells.toList=[v]:=by cases h1<;>first|rfl| (cases h';done)
  have l:v'.cells.toList=[v']:=by
   cases h1<;>try (cases h';done)
   all_goals cases h2<;>first|rfl| (cases h';done)
  rw[r]at f;simp only[aQ,Y4]at f;have c:=yJ h' h1 h2 f;have he:=Eb (P:=C.P) (10000 - d) d kt [i] a w [v] [v'] (by simp[aQ,f]) (by simp[aQ,c]);rw[show 10000 - d+d=9999+1 from by omega,vI hg,vI hg]at he;simp only[nI,Y4,xU h' h1 h2]at he;refine⟨⟨d,[i],hd,a,by rw[l];simp[aQ,c],by rw[l,vI hg],?_⟩,he,λ_ kd' hu'=>?_⟩
  ·rw[hg];constructor
   ·intro h;cases h
   ·rintro⟨xs,e⟩;exact absurd e (j xs)
  ·have e1:=xU h' h1 h2;have:i=kd':=by
    cases d with
    |zero=>cases a
    | succ d =>
     unfold m7 at a;rw[hu']at a;have o:=(dY hu').1;rw[hg]at o;cases kd'<;>simp[pi]at o<;>simp only[aa]at a<;>split at a<;>first| (cases a;done)| (injection a with a;injection a with a;exact a.symm)
   subst this;cases h1<;>try (cases h';done)
   all_goals cases h2<;>try (cases h';done)
   ·cases i<;>simp[g7]at f;simp[Instr.sameNow];simpa [eqV] using e1
   ·cases i<;>simp[g7]at f c;subst f;subst c;simp[Instr.sameNow];simpa [eqV] using e1
   ·cases i<;>simp[g7]at f;simp[Instr.sameNow];simpa [eqV] using e1
end
section
variable {m:T->AV}{z:AV}{et:TypeId}{vk:Value}
section
variable {C:Cfg}{A:Nat->Nat->Prop}{bd:Nat}{w w':World}{γ γ':Gm}{hg:Nat->AObj}{nx:Nat}
theorem I3(s1 s2:ByteArray):(s1 == s2)=decide (s1=s2):=by obtain⟨⟨x⟩⟩:=s1;obtain⟨⟨y⟩⟩:=s2;show ((⟨x⟩:Array UInt8) == ⟨y⟩)=_;rw[WU];simp
theorem KT:∀{ds:List TypeDesc} {xs ys:List Value},aQ ds xs=true->aQ ds ys=true->nI xs ys=true->xs=ys:=by
 intro ds
 induction ds with
 |nil=>intro xs ys h1 h2 _;rw[Wb (ba h1),Wb (ba h2)]
 | cons d ds ih =>
  intro xs ys h1 h2 h;cases xs with
  |nil=>cases h1
  | cons x xs=>cases ys with
   |nil=>cases h2
   | cons y ys =>
    simp only[aQ,nI,Vx]at h1 h2 h;rw[ih h1.2 h2.2 h.2];congr 1;cases d<;>cases x<;>simp[g7]at h1<;>cases y<;>simp[g7]at h2<;>simp[eqV,I3]at h<;>simp_all
theorem Cs{ds:List TypeDesc}(hk:aQ ds v.cells.toList=true):Instr.sameBits 10000 v v=true:=by
 have one:∀(d:TypeDesc) (x:Value),g7 d x=true->∀n,Instr.sameBits n x x=true:=by intro d x h n;cases d<;>cases x<;>simp[g7]at h<;>cases n<;>simp[Instr.sameBits,I3]
 have all:∀(ds:List TypeDesc) (xs:List Value),aQ ds xs=true->((xs.zip xs).all λ(x,y)=>Instr.sameBits 9999 x y)=true:=by
  intro ds
  induction ds with
  |nil=>intro xs h;rw[Wb (ba h)];rfl
  | cons d ds ih =>
   intro xs h;cases xs with
   |nil=>rfl
   | cons x xs =>
    simp only[aQ,Vx]at h;simp only[X5,List.all_cons,Vx];exact⟨one d x h.1 _,ih xs h.2⟩
 by_cases h:∃a,v=.agg a
 ·obtain⟨a,rfl⟩:=h;have:=all ds a.toList hk;show (Instr.sameBits (9999+1) (.agg a) (.agg a))=true;simp only[Instr.sameBits,beq_self_eq_true,WA];exact this
 ·have hc:v.cells.toList=[v]:=by cases v<;>first|rfl|exact absurd ⟨_,rfl⟩ h
  rw[hc]at hk;cases ds with
  |nil=>cases hk
  |cons d ds=>simp only[aQ,Vx]at hk;exact one d v hk.1 _
theorem HM{k':AV}{v':Value}(hk:BL C.P kt k v)(h:yQ k k'=some true)(h1:RV w γ A bd k v)(h2:RV w γ A bd k' v'):v'=v:=by
 obtain⟨i,h4,_⟩:=A6 (w:=w) hk h h1 h2;obtain⟨d,ds,e1,e2,a,e,l⟩:=hk;obtain⟨d',ds',f1,f2,m,f,n⟩:=i;have hc:dK k.cells k'.cells=some true:=by
  cases k<;>try (cases h;done)
  all_goals cases k'<;>try (cases h;done)
  all_goals first|exact h| (simp only[yQ]at h;simp[AV.cells,dK,h])
 have t1:k.isTup=false:=by
  cases k<;>try rfl
  cases k'<;>cases h
 have j:k'.isTup=false:=by
  cases k<;>try (cases h;done)
  all_goals cases k'<;>first|rfl| (cases h;done)
 have b:=(pE h1 t1).1;have c:=(pE h2 j).1;rw[e,f,KT a (uE hc b c a) (u_ hc b c)]
theorem yj{ds:List TypeDesc}(hk:aQ ds v.cells.toList=true):(Instr.keyThatStays v v).run P w=.ok v w:=by unfold Instr.keyThatStays;rw[Cs hk];rfl
def EsRel(w:World)(γ:Gm)(A:Nat->Nat->Prop)(bd:Nat)(es:List (AV×AV))(l:List MapEntry):Prop :=
 es.length=l.length/\∀(i:Nat) k x e,es[i]?=some (k,x)->l[i]?=some e->RV w γ A bd k e.key/\RV w γ A bd x e.val
theorem EsRel.tail{p:AV×AV}{es:List (AV×AV)}{e:MapEntry}{l:List MapEntry}(h:EsRel w γ A bd (p::es) (e::l)) :
  RV w γ A bd p.1 e.key/\RV w γ A bd p.2 e.val/\EsRel w γ A bd es l:=by
 obtain⟨h1,h2⟩:=h.2 0 p.1 p.2 e rfl rfl;exact⟨h1,h2,by have:=h.1;simpa using this,λi k x e hi he=>h.2 (i+1) k x e (by simpa using hi) (by simpa using he)⟩
def E9(k:AV)(es:List (AV×AV))(l:List MapEntry)(i0:Nat)(r:Option (Nat×AV))(R:Option (Nat×Value)):Prop :=
 match r with
 |none=>R=none
 |some (i,x)=>∃j k' e,i=i0+j/\es[j]?=some (k',x)/\l[j]?=some e/\yQ k k'=some true/\R=some (i,e.val)
theorem MT{kd:TypeDesc}(hu:C.P.underlying kt=some kd)(hk:BL C.P kt k v)(h1:RV w γ A bd k v) :
  ∀(es:List (AV×AV)) (l:List MapEntry) (i:Nat) (r:Option (Nat×AV)),lY k i es=some r->EsRel w γ A bd es l ->
   ∃R,E9 k es l i r R/\(Instr.findAsking kt v l i).run C.P w=.ok R w/\(dX C.P kt=false->Instr.findNow kd v l i=some R):=by
 intro es
 induction es with
 | nil =>
  intro l i r h a;have:=a.1;have:l=[]:=Wb (by simpa using this.symm);subst this;simp only[lY]at h;injection h with h;subst h;exact⟨none,rfl,rfl,λ_=>rfl⟩
 | cons p es ih =>
  intro l i r h a;cases l with
  |nil=>have:=a.1;simp at this
  | cons e l =>
   obtain⟨k',x⟩:=p;obtain⟨e1,e2,c⟩:=a.tail;simp only[lY]at h
   split at h
   ·rename_i hq;injection h with h;subst h;obtain⟨_,q2,q3⟩:=A6 hk hq h1 e1;refine⟨some (i,e.val),⟨0,k',e,rfl,rfl,rfl,hq,rfl⟩,?_,λhg=>?_⟩
    ·unfold Instr.findAsking;simp[q2]
    ·unfold Instr.findNow;rw[q3 hg kd hu]
   ·rename_i hq;obtain⟨_,q2,q3⟩:=A6 hk hq h1 e1;obtain⟨R,b,n,o⟩:=ih l (i+1) r h c;refine⟨R,?_,?_,λhg=>?_⟩
    ·unfold E9 at b ⊢;cases r with
     |none=>exact b
     | some p =>
      obtain⟨j,k'',e',f1,f2,d,f,m⟩:=b;exact⟨j+1,k'',e',by omega,by simpa using f2,by simpa using d,f,m⟩
    ·unfold Instr.findAsking;simp[q2,n]
    ·unfold Instr.findNow;rw[q3 hg kd hu];exact o hg
   ·cases h
theorem yL{kd:TypeDesc}(hu:C.P.underlying kt=some kd)(hk:BL C.P kt k v)(h1:RV w γ A bd k v)
  {es:List (AV×AV)} {l:List MapEntry} {r:Option (Nat×AV)} (h:lY k 0 es=some r) (hes:EsRel w γ A bd es l) :
  ∃R,E9 k es l 0 r R/\(Instr.findKey kt v l).run C.P w=.ok R w:=by
 obtain⟨R,b,a,c⟩:=MT hu hk h1 es l 0 r h hes;refine⟨R,b,?_⟩;unfold Instr.findKey;simp only[VT,aK hu,VD];cases hg:dX C.P kt with
 |false=>rw[c hg];rfl
 | true =>
  cases l with
  |nil=>simp only[Instr.findNow];exact a
  | cons e l =>
   have:Instr.sameNow kd v e.key=none:=by have:=(dY hu).1;rw[hg]at this;cases kd<;>simp[pi]at this<;>rfl
   simp only[Instr.findNow,this];exact a
theorem MS(k:AV):∀(es:List (AV×AV)) (i:Nat) (r:Option AV),wR k es=some r->∃q,lY k i es=some q/\r=q.map (·.2):=by
 intro es
 induction es with
 |nil=>intro i r h;simp only[wR]at h;injection h with h;subst h;exact⟨none,rfl,rfl⟩
 | cons p es ih =>
  intro i r h;obtain⟨k',x⟩:=p;simp only[wR]at h;simp only[lY]
  split at h
  ·rename_i hq;injection h with h;subst h;exact⟨some (i,x),rfl,rfl⟩
  ·exact ih _ _ h
  ·cases h
theorem QG(k x:AV):∀(es es':List (AV×AV)) (i:Nat),GZ k x es=some es'->∃q,lY k i es=some q /\
  match q with
  |none=>es'=es++[(k,x)]
  |some (n,_)=>∃j,n=i+j/\es'=es.set j (k,x):=by
 intro es
 induction es with
 |nil=>intro es' i h;simp only[GZ]at h;injection h with h;subst h;exact⟨none,rfl,rfl⟩
 | cons p es ih =>
  intro es' i h;obtain⟨k',y⟩:=p;simp only[GZ]at h;simp only[lY]
  split at h
  ·rename_i hq;injection h with h;subst h;exact⟨some (i,y),rfl,0,rfl,rfl⟩
  ·rename_i hq
   split at h
   ·rename_i r hr;injection h with h;subst h;obtain⟨q,b,q2⟩:=ih r (i+1) hr;refine⟨q,b,?_⟩;cases q with
    |none=>simp only at q2 ⊢;rw[q2];rfl
    | some p =>
     obtain⟨j,c,a⟩:=q2;exact⟨j+1,by omega,by rw[a];rfl⟩
   ·cases h
  ·cases h
theorem LP{t:TypeId}(h:uP C.P t=some z):∃v,(zeroValue t).run C.P w=.ok v w/\RV w γ A bd z v:=by
 unfold uP at h;cases hi:C.P.info? t with
 |none=>rw[hi]at h;cases h
 | some i =>
  rw[hi]at h;cases hz:i.zero with
  |none=>simp[hz]at h
  | some v =>
   simp only[XS,hz]at h;refine⟨v,by simp[zeroValue,nB hi,hz],?_⟩
   split at h
   ·rename_i cs;cases hq:zA cs.toList with
    |none=>rw[hq]at h;cases h
    | some as =>
     rw[hq]at h;injection h with h;subst h;obtain⟨k,a⟩:=uc (w:=w) (γ:=γ) (A:=A) (bd:=bd) hq;exact .agg _ as cs (by simpa using k.1) a λi x v hx hv=>k.2 i x v hx (by simpa using hv)
   ·exact (HZ h).1
theorem HQ(hr:Rel C A bd w γ hg nx){id:Nat}{es:List (AV×AV)}(hid:hg id=.map es) :
  (γ id).kind=2/\(γ id).wr=true/\∃esC:Array MapEntry,w.heap[(γ id).blk]?=some (.map esC esC.size)/\EsRel w γ A bd es esC.toList/\∀(i:Nat) e,esC[i]?=some e->e.born=i:=by
 have h:=hr.obj id;rw[hid]at h;obtain⟨c,k2,esC,d,a,b⟩:=h;refine⟨c,k2,esC,d,⟨by simpa using a,λi k x e hi he=>(b i k x e hi (by simpa using he)).2⟩,λi e he=>?_⟩;have hlt:i<es.length:=by rw[a];exact (Xo.1 he).1
 exact (b i (es[i]).1 (es[i]).2 e (by simp[hlt]) he).1
theorem HO{ok:Bool}{k:T->AV}(hr:Rel C A bd w γ hg nx)
  (hu:C.P.underlying ty=some (.map kt et)) (hz:uP C.P et=some z) (hm:RV w γ A bd (m t) vm) (hk:RV w γ A bd (k t) vk) (agree:∀id∈aw (m t),hg id=g.h.get id) :
  ValSim C A bd w γ (Instr.lookup ty vm vk ok) (dL (cJ C.P kt) z ok m k t g):=by
 unfold dL;generalize m t=m at *;generalize k t=k at *;rw[aa]
 split
 ·rename_i F;have s:=Nx F hk;obtain⟨kd,E⟩:∃kd,C.P.underlying kt=some kd:=by obtain⟨d,ds,_,o,_⟩:=s;obtain⟨kd,h,_⟩:=im o;exact⟨kd,h⟩
  obtain⟨zv,S,U⟩:=LP (w:=w) (γ:=γ) (A:=A) (bd:=bd) hz;have core:∀(es:List (AV×AV)) (l:Array MapEntry),EsRel w γ A bd es l.toList ->
    (vm=.map none/\l=#[]\/∃r n,vm=.map (some r)/\(getObj r).run C.P w=.ok (.map l n) w) ->
    ValSim C A bd w γ (Instr.lookup ty vm vk ok) (match wR k es with
     |some (some v)=>.val (aB ok (.tup [v,.bool true]) v)
     |some none=>.val (aB ok (.tup [z,.bool false]) z)
     |none=>.fail):=by
   intro es l D c;cases hf:wR k es with
   |none=>trivial
   | some r =>
    obtain⟨q,Q,q2⟩:=MS k es 0 r hf;obtain⟨R,J,K⟩:=yL E s hk Q D;have B:∀em,(Instr.checkKey em 10000 kt vk).run C.P w=.ok () w:=by intro em;obtain⟨d,ds,hd,o,H,I,_⟩:=s;have:=AO (P:=C.P) em (10000 - d) d kt ds o w _ H;rw[show 10000 - d+d=10000 from by omega,<-I]at this;exact this
    have tup:∀(x:AV) (u:Value) (b:Bool),RV w γ A bd x u->RV w γ A bd (aB ok (.tup [x,.bool b]) x) (if ok then .tuple #[u,.bool b] else u):=by
     intro x u b hx;cases ok
     ·exact hx
     ·refine .tup _ _ _ rfl λi y v hy hv=>?_
      match i with
      |0=>simp at hy hv;subst hy;subst hv;exact hx
      |1=>simp at hy hv;subst hy;subst hv;exact .bool _ _
      |i+2=>simp at hy
    have a:(Instr.lookup ty vm vk ok).run C.P w =
      ((do let (v,okk) <-match R with
            |some (_,v)=>pure (v,true)
            |none=>pure (<-zeroValue et,false)
           pure (if ok then .tuple #[v,.bool okk] else v):Sem Value)).run C.P w:=by
     unfold Instr.lookup;simp only[VT,aK hu,VD];rcases c with⟨rfl,rfl⟩|⟨r',n,rfl,c⟩
     ·simp only[VT,Wq,VD,B,K]
      try (cases R<;>rfl)
     ·simp only[VT,Wq,VD,c,B,K]
      try (cases R<;>rfl)
    cases q with
    | none =>
     simp only[E9]at J;subst J;simp only[Option.map_none]at q2;subst q2;exact⟨_,by rw[a];simp[S],tup z zv false U⟩
    | some p =>
     obtain⟨i,x⟩:=p;obtain⟨j,k',e,f1,f2,L,V,M⟩:=J;subst M;simp only[WM]at q2;subst q2;exact⟨_,by rw[a];simp,tup x e.val true (D.2 j k' x e f2 L).2⟩
  cases hm with
  |nilm=>exact core [] #[] ⟨rfl,λi k x e h=>by simp at h⟩ (.inl ⟨rfl,rfl⟩)
  | hmap _ id b hkd hb =>
   have f:=agree id (by simp[aw]);simp only[G.get_eq,<-f];cases hid:hg id with
   | map es =>
    obtain⟨W,k2,esC,N,O,X⟩:=HQ hr hid;subst hb;exact core es esC O (.inr ⟨_,_,rfl,m9 N (by simp)⟩)
   |_=>trivial
  |_=>trivial
 ·trivial
theorem Ft(h:BL C.P kt k v)(em:Bool):(Instr.checkKey em 10000 kt v).run C.P w=.ok () w:=by obtain⟨d,ds,hd,a,b,c,_⟩:=h;have:=AO (P:=C.P) em (10000 - d) d kt ds a w _ b;rw[show 10000 - d+d=10000 from by omega,<-c]at this;exact this
theorem PX(h:BL C.P kt k v):∃kd,C.P.underlying kt=some kd:=by obtain⟨d,ds,_,a,_⟩:=h;obtain⟨kd,h,_⟩:=im a;exact⟨kd,h⟩
theorem Rel.setMap(hr:Rel C A bd w γ hg nx){id:Nat}{es es':List (AV×AV)}{esC':Array MapEntry}(hid:hg id=.map es)(hl:es'.length=esC'.size)
  (he:∀(i:Nat) k x e,es'[i]?=some (k,x)->esC'[i]?=some e->e.born=i/\RV w γ A bd k e.key/\RV w γ A bd x e.val) :
  Rel C A bd (World.setBlk w (γ id).blk (.map esC' esC'.size)) γ (upd hg id (.map es')) nx/\Stp w γ (World.setBlk w (γ id).blk (.map esC' esC'.size)) γ:=by
 obtain⟨h,k2,_⟩:=HQ hr hid;have hk:(γ id).kind≠0:=by rw[h];decide
 have s:=um (w:=w) (o:=.map esC' esC'.size) hk k2;refine hr.setBlk hk k2 ⟨h,k2,esC',?_,hl,λi k x e h1 h2=>?_⟩
 ·rw[dz,VC ⟨rfl,(hr.lt id hk).2⟩]
 ·obtain⟨a,b,c⟩:=he i k x e h1 h2;exact⟨a,b.step s,c.step s⟩
theorem uM{k x:T->AV}{vx:Value}(hr:Rel C A bd w γ hg nx)
  (hu:C.P.underlying ty=some (.map kt et)) (hm:RV w γ A bd (m t) vm) (hk:RV w γ A bd (k t) vk) (hx:RV w γ A bd (x t) vx) (agree:∀id∈aw (m t),hg id=g.h.get id) :
  dB C A bd w γ hg nx (do Instr.mapUpdate ty vm vk vx;pure undef) g (cT (cJ C.P kt) m k x t g):=by
 unfold cT;generalize m t=m at *;generalize k t=k at *;generalize x t=x at *;rw[aa]
 split
 ·rename_i z;have c:=Nx z hk;obtain⟨kd,u⟩:=PX c;cases hm with
  | hmap _ id b hkd hb =>
   have l:=agree id (by simp[aw]);simp only[G.get_eq,<-l];cases hid:hg id with
   | map es =>
    dsimp only;cases hs:GZ k x es with
    |none=>trivial
    | some es' =>
     dsimp only;obtain⟨O,k2,esC,D,v,E⟩:=HQ hr hid;obtain⟨q,L,q2⟩:=QG k x es es' 0 hs;obtain⟨R,F,M⟩:=yL u c hk L v;subst hb;have o:∀esC',(match R with
       | some (i,_)=>do
        let key <-Instr.keyThatStays (((esC[i]?).map (·.key)).getD vk) vk
        setObj (γ id).blk (.map (esC.modify i λe=>{ e with key,val:=vx }) esC.size)
       |none=>setObj (γ id).blk (.map (esC.push { key:=vk,val:=vx,born:=esC.size }) (esC.size+1)):Sem Unit).run C.P w=.ok () (World.setBlk w (γ id).blk (.map esC' esC'.size)) ->
       (do Instr.mapUpdate ty (.map (some (γ id).blk)) vk vx;pure undef:Sem Value).run C.P w=.ok undef (World.setBlk w (γ id).blk (.map esC' esC'.size)):=by
      intro esC' h;have:(Instr.mapUpdate ty (.map (some (γ id).blk)) vk vx).run C.P w=.ok () (World.setBlk w (γ id).blk (.map esC' esC'.size)):=by unfold Instr.mapUpdate;simp only[VT,aK hu,VD,m9 D (by simp),Ft c,M];exact h
      simp[this]
     have f:es.length=esC.size:=by simpa using v.1
     cases q with
     | none =>
      simp only[E9]at F;subst F;simp only at q2;subst q2;have a:=hr.setMap (es':=es++[(k,x)]) (esC':=esC.push { key:=vk,val:=vx,born:=esC.size }) hid (by simp[f]) (λi k' x' e h1 h2=>by
       rw[Array.getElem?_push]at h2;rw[Yo]at h1
       split at h2
       ·rename_i hi;subst hi;rw[Vz (by omega),f,WR]at h1;simp at h1 h2;obtain⟨rfl,rfl⟩:=h1;subst h2;exact⟨rfl,hk,hx⟩
       ·have hlt:i<esC.size:=(Xo.1 h2).1;rw[VC (by omega)]at h1;exact⟨E i e h2,v.2 i k' x' e h1 (by simpa using h2)⟩)
      refine⟨undef,_,γ,id,_,o _ ?_,nE,a.2,.inl ⟨rfl,a.1⟩⟩;simp only[Array.size_push];exact rG D (by simp)
     | some p =>
      obtain⟨n,y⟩:=p;obtain⟨j,k',e,f1,f2,H,I,J⟩:=F;obtain⟨j',N,K⟩:=q2;have:j'=j:=by omega
      subst this;subst f1;subst J;subst K;have r:esC[j']?=some e:=by simpa using H
      have s:=HM c I hk (v.2 j' k' y e f2 H).1;have a:=hr.setMap (es':=es.set j' (k,x)) (esC':=esC.modify (0+j') λe=>{ e with key:=vk,val:=vx }) hid (by simp[f]) (λi k' x' e' h1 h2=>by
       rw[WE]at h2;rw[Wi]at h1;rw[Array.getElem?_modify]at h2
       split at h1
       ·rename_i hi;subst hi;rw[VC rfl,r]at h2
        split at h1
        ·simp at h1 h2;obtain⟨rfl,rfl⟩:=h1;subst h2;exact⟨E j' e r,hk,hx⟩
        ·cases h1
       ·rename_i hi;rw[Vz hi]at h2;exact⟨E i e' h2,v.2 i k' x' e' h1 (by simpa using h2)⟩)
      refine⟨undef,_,γ,id,_,o _ ?_,nE,a.2,.inl ⟨rfl,a.1⟩⟩;obtain⟨d,ds,_,_,B,_⟩:=c;simp only[WE,r,WM,VB,s,VT,yj B,VD,Array.size_modify];exact rG D (by simp)
   |_=>trivial
  |_=>trivial
 ·trivial
theorem Ep{k:T->AV}(hr:Rel C A bd w γ hg nx)
  (hu:C.P.underlying ty=some (.map kt et)) (hz:uP C.P et=some z) (hm:RV w γ A bd (m t) vm) (hk:RV w γ A bd (k t) vk) (agree:∀id∈aw (m t),hg id=g.h.get id) :
  dB C A bd w γ hg nx (Instr.mapEntry ty vm vk) g (qu (cJ C.P kt) z m k t g):=True.intro
theorem AA{st x:T->AV}{vs vx:Value}(hr:Rel C A bd w γ hg nx)
  (hm:RV w γ A bd (m t) vm) (hs:RV w γ A bd (st t) vs) (hx:RV w γ A bd (x t) vx) (agree:∀id∈aw (m t),hg id=g.h.get id) :
  dB C A bd w γ hg nx (do Instr.entryStore ty vm vs vx;pure undef) g (nO m st x t g):=True.intro
end
end
section
variable {C:Cfg}{A:Nat->Nat->Prop}{bd:Nat}{w w':World}{γ γ':Gm}{hg:Nat->AObj}{nx:Nat}
theorem OpSim.ofUpd{o:Oper}{ev:Operand->Value}{g:G}{m:Sem Value}(he:execOp ev o=(do pure (.value (<-m))))(h:dB C A bd w γ hg nx m g r) :
  OpSim C A bd w γ hg nx o ev g r:=by
 have run:∀{v:Value} {w':World},m.run C.P w=.ok v w'->E_ C.P o ev w v w':=by intro v w' h;left;rw[he];simp[h]
 cases r with
 |fail=>trivial
 |val x=>obtain⟨v,h1,h2⟩:=h;exact⟨v,run h1,h2⟩
 |upd x g'=>obtain⟨v,w',γ',id,ob,h1,h2⟩:=h;exact⟨v,w',γ',id,ob,run h1,h2⟩
 |dfr a=>exact h
theorem OpSim.ofUnit{o:Oper}{ev:Operand->Value}{g:G}{s:Sem Unit}(he:execOp ev o=(do s;pure .skip))(h:dB C A bd w γ hg nx (do s;pure undef) g r) :
  OpSim C A bd w γ hg nx o ev g r:=by
 have run:∀{v:Value} {w':World},(do s;pure undef:Sem Value).run C.P w=.ok v w'->E_ C.P o ev w v w':=by
  intro v w' h;right;rw[he];simp only[VT,Wq]at h ⊢;cases hs:s.run C.P w with
  |ok u w1=>rw[hs]at h;simp only[VD]at h ⊢;injection h with h1 h2;subst h1;subst h2;exact⟨rfl,rfl⟩
  |halt x w1=>rw[hs]at h;cases h
 cases r with
 |fail=>trivial
 |val x=>obtain⟨v,h1,h2⟩:=h;exact⟨v,run h1,h2⟩
 |upd x g'=>obtain⟨v,w',γ',id,ob,h1,h2⟩:=h;exact⟨v,w',γ',id,ob,run h1,h2⟩
 |dfr a=>exact h
theorem ValSim.upd{m:Sem Value}{g:G}{r:OR}(h:ValSim C A bd w γ m r):dB C A bd w γ hg nx m g r:=by
 cases r with
 |fail=>trivial
 |val x=>exact h
 |upd x g'=>exact h.elim
 |dfr a=>exact h.elim
theorem OpSim.ofVal{o:Oper}{ev:Operand->Value}{g:G}{m:Sem Value}(he:execOp ev o=(do pure (.value (<-m))))(h:ValSim C A bd w γ m r) :
  OpSim C A bd w γ hg nx o ev g r:=.ofUpd he h.upd
theorem OpSim.now{o:Oper}{ev:Operand->Value}{g:G}(he:(execOp ev o).run C.P w=.ok (.value v) w)(h:RV w γ A bd x v) :
  OpSim C A bd w γ hg nx o ev g (.val x):=⟨v,.inl he,h⟩
noncomputable def bh(C:Cfg)(op:Op)(t:T)(g:G):List Nat:=((aO C op).run t g).rd++((aO C op).run t g).sr.map (·.1)
theorem QU{op:UnOp}(hx:RV w γ A bd x v):ValSim C A bd w γ (Op.unary op v) ((unA op).run x):=by
 cases op
 case not =>
  cases hx with
  |bool _ b=>exact⟨.bool (!b),by simp[Op.unary],by rw[notb_eq];exact .bool _ _⟩
  |_=>trivial
 all_goals
  cases hx with
  |int _ k n=>exact oq λy hy=>jT hy C.P w
  |_=>trivial
theorem HU{g:G}{P:Program}(hr:Rel C A bd w γ hg nx)(hf:(γ g.nx).kind=0) :
  dB C A bd w γ hg nx (do pure (.map (some (<-newObj (.map #[] 0))))) g (.upd (.hmap g.nx) (g.new (.map []))):=by
 let gh:Gh:=⟨2,0,0,0,w.heap.size,0,0,true⟩
 obtain⟨r,s⟩:=hr.add (id:=g.nx) (gh:=gh) (o:=.map #[] 0) (ao:=.map []) (nx':=Nat.max nx (g.nx+1)) hf rfl (Xf _ _) (VL (YK _) (Xx _ _)) (by
  simp only[ObjRel,upd_same];exact⟨rfl,rfl,#[],by rw[j5];simp[gh],rfl,λi k x e h=>by simp at h⟩)
 refine⟨.map (some w.heap.size),World.add w (.map #[] 0),_,g.nx,_,by simp[newObj,Sem.run,World.add],?_,s,.inr ⟨rfl,rfl,r⟩⟩;exact .hmap _ g.nx _ (by simp[gh]) (by simp[gh])
theorem H6:∀{fs:List Field} {places:List (Nat×Nat)},aG (λf:Field=>match szT C.P f.type with|some n=>some (f.offset,n)|none=>none) fs=some places ->
  (fs.mapM λf=>do pure (f.offset,<-Go.sizeOf f.type):Sem (List (Nat×Nat))).run C.P w=.ok places w:=by
 intro fs
 induction fs with
 |nil=>intro places h;simp only[aG]at h;injection h with h;subst h;simp
 | cons f fs ih =>
  intro places h;simp only[aG]at h
  split at h
  ·rename_i p hp
   split at h
   ·rename_i ps k;injection h with h;subst h
    split at hp
    ·rename_i n a;injection hp with hp;subst hp;rw[List.mapM_cons];have:=ih k;simp only[VT,bo a,VD,Wq,this]
    ·cases hp
   ·cases h
  ·cases h
variable {o:Oper}{op:Op}{a:Act}{nt:Nat}{t:T}{g:G}{f:Stg SFn}
theorem sV(he:lJ C.P ty=some e):C.P.underlying ty=some (.slice e):=by unfold lJ at he;split at he<;>first| (injection he with he;subst he;assumption)|cases he
theorem Fj{b:Builtin}{argTypes:Array TypeId}{args:List Operand}{consts:Array Bool}(h:dt C b argTypes args=some f)(ht:TR w γ A bd nt t a.tmps)(hr:Rel C A bd w γ hg nx)
  (hf:(γ g.nx).kind=0) (agree:∀x∈args,∀s,aV C x=some s->∀id∈lP C b argTypes (s.run t),hg id=g.h.get id) :
  ∃m:Sem Value,builtin b argTypes ty consts (args.map a.eval).toArray=(do pure (.value (<-m)))/\dB C A bd w γ hg nx m g (f.run t g):=by
 unfold dt at h
 split at h
 ·
  rename_i x
  split at h
  ·rename_i tt s h0 hs;injection h with h;subst h;exact⟨Builtin.len_ argTypes ty #[a.eval x],rfl,(P6 hr h0 (aC hs ht hr) λhk id hid=>agree x (by simp) s hs id (by simpa only[lP,h0,hk] using hid)).upd⟩
  ·cases h
 ·
  rename_i p x
  split at h
  ·rename_i tt xt sa sx h0 h1 ha hx
   split at h
   ·rename_i e e' he j
    split at h
    ·rename_i sz bytes zero d i hz;rw[aa]at h
     split at h
     ·rename_i c;simp only[Vx,WN,aF]at c;injection h with h;subst h;exact⟨Builtin.append_ argTypes ty #[a.eval p,a.eval x],rfl,Hq hr hf h0 h1 (sV he) j d i hz (bc c.1.1) c.2 (aC ha ht hr) (aC hx ht hr)
       (λid hid=>agree p (by simp) sa ha id hid) (λid hid=>agree x (by simp) sx hx id hid)⟩
     ·cases h
    ·cases h
   ·rename_i e k he j
    split at h
    ·rename_i sz bytes zero d i hz;rw[aa]at h
     split at h
     ·rename_i c;simp only[Vx,WN,aF]at c;injection h with h;subst h;exact⟨Builtin.append_ argTypes ty #[a.eval p,a.eval x],rfl,Fe hr hf h0 h1 (sV he) j d i hz (bc c.1.1) c.1.2 c.2 (aC ha ht hr) (aC hx ht hr)
       (λid hid=>agree p (by simp) sa ha id hid)⟩
     ·cases h
    ·cases h
   ·cases h
  ·cases h
 ·
  rename_i p x
  split at h
  ·rename_i tt sa sx h0 ha hx
   split at h
   ·rename_i e he
    split at h
    ·rename_i sz d;injection h with h;subst h;exact⟨Builtin.copy_ argTypes ty #[a.eval p,a.eval x],rfl,Mt hr h0 (sV he) d (aC ha ht hr) (aC hx ht hr)
      (λid hid=>agree p (by simp) sa ha id hid) (λid hid=>agree x (by simp) sx hx id hid)⟩
    ·cases h
   ·cases h
  ·cases h
 ·
  rename_i x
  split at h
  ·rename_i tt s h0 hs
   split at h
   ·rename_i e he;injection h with h;subst h;exact⟨Builtin.cap_ argTypes ty #[a.eval x],rfl,(Pz hr h0 (sV he) (aC hs ht hr) λid hid=>agree x (by simp) s hs id hid).upd⟩
   ·cases h
  ·cases h
 ·
  rename_i x
  split at h
  ·rename_i tt s h0 hs
   split at h
   ·rename_i e he
    split at h
    ·rename_i sz zero d hz;rw[aa]at h
     split at h
     ·rename_i c;simp only[Vx,WN,aF]at c;injection h with h;subst h;exact⟨Builtin.clear_ argTypes ty #[a.eval x],rfl,KJ hr h0 (sV he) hz (bc c.1) c.2 (aC hs ht hr) λid hid=>agree x (by simp) s hs id hid⟩
     ·cases h
    ·cases h
   ·cases h
  ·cases h
 ·
  rename_i x y
  split at h
  ·rename_i sx sy hx o;injection h with h;subst h;refine⟨Builtin.max_ argTypes ty #[a.eval x,a.eval y],rfl,?_⟩;have l:=aC hx ht hr;have n:=aC o ht hr;dsimp only;generalize sx.run t=u at l ⊢;generalize sy.run t=v at n ⊢;cases u<;>try trivial
   cases v<;>try trivial
   exact (P9 l n).upd
  ·cases h
 ·
  rename_i x y
  split at h
  ·rename_i sx sy hx o;injection h with h;subst h;refine⟨Builtin.min_ argTypes ty #[a.eval x,a.eval y],rfl,?_⟩;have l:=aC hx ht hr;have n:=aC o ht hr;dsimp only;generalize sx.run t=u at l ⊢;generalize sy.run t=v at n ⊢;cases u<;>try trivial
   cases v<;>try trivial
   exact (Qa l n).upd
  ·cases h
 ·cases h
theorem KG:∀{xs:List Operand} {vs:Stg (T->List AV)},bY C xs=some vs->∀x∈xs,∀s,aV C x=some s->s.run t∈vs.run t:=by
 intro xs
 induction xs with
 |nil=>intro vs _ x hx;cases hx
 | cons y ys ih =>
  intro vs h x hx s hs;simp only[bY]at h
  split at h
  ·rename_i p q hp hq;injection h with h;subst h;rcases VP.1 hx with rfl|hx
   ·rw[hp]at hs;injection hs with hs;subst hs;exact WO
   ·exact WK _ (ih hq x hx s hs)
  ·cases h
theorem uD{b:Builtin}{argTypes:Array TypeId}{args:List Operand}(h:dt C b argTypes args=some f):∃vs,bY C args=some vs:=by
 have one:∀{x:Operand} {s},aV C x=some s->∃vs,bY C [x]=some vs:=by intro x s hs;simp only[bY,hs];exact⟨_,rfl⟩
 have two:∀{x y:Operand} {s u},aV C x=some s->aV C y=some u->∃vs,bY C [x,y]=some vs:=by intro x y s u hs hu;simp only[bY,hs,hu];exact⟨_,rfl⟩
 unfold dt at h
 split at h
 ·split at h
  ·exact one (by assumption)
  ·cases h
 ·split at h
  ·exact two (by assumption) (by assumption)
  ·cases h
 ·split at h
  ·exact two (by assumption) (by assumption)
  ·cases h
 ·split at h
  ·exact one (by assumption)
  ·cases h
 ·split at h
  ·exact one (by assumption)
  ·cases h
 ·split at h
  ·exact two (by assumption) (by assumption)
  ·cases h
 ·split at h
  ·exact two (by assumption) (by assumption)
  ·cases h
 ·cases h
theorem QN(h:cq C op=some f)(ho:o.op=op)(ht:TR w γ A bd nt t a.tmps)(hr:Rel C A bd w γ hg nx)(hf:(γ g.nx).kind=0)
  (agree:∀id∈bh C op t g,hg id=g.h.get id):OpSim C A bd w γ hg nx o a.eval g (f.run t g):=by
 cases op<;>simp only[cq]at h<;>first| (cases h;done)|skip
 case move x =>
  split at h
  ·rename_i s hs;injection h with h;subst h;exact .now (by simp[execOp,ho]) (aC hs ht hr)
  ·cases h
 case assign x =>
  split at h
  ·rename_i s hs;injection h with h;subst h;exact .now (by simp[execOp,ho]) (aC hs ht hr)
  ·cases h
 case pick c x y =>
  split at h
  ·rename_i sc sx sy hc hx K;injection h with h;subst h;have B:=aC hc ht hr;have L:=aC hx ht hr;have Q:=aC K ht hr;dsimp only;generalize sc.run t=cv at B ⊢;generalize hcv:a.eval c=vc at B;cases B with
   | bool _ b =>
    cases b
    ·exact .now (by simp[execOp,ho,hcv,asBool]) Q
    ·exact .now (by simp[execOp,ho,hcv,asBool]) L
   |_=>trivial
  ·cases h
 case alloc ty =>
  split at h
  ·rename_i cs hz;injection h with h;subst h;exact .ofUpd (by simp only[execOp,ho]) (KB hr hz hf t)
  ·cases h
 case box ty x =>
  split at h
  ·rename_i s hs;injection h with h;subst h;have B:=aC hs ht hr;unfold L8;dsimp only;rw[aa]
   split
   ·trivial
   ·rename_i J;exact .ofUpd (m:=Instr.box ty (a.eval x)) (by simp only[execOp,ho]) (Pv hr B hf (by simpa using J))
  ·cases h
 case load ty x =>
  split at h
  ·rename_i s ag n hs E G;injection h with h;subst h;exact .ofVal (by simp only[execOp,ho]) (Gi hr (aC hs ht hr) E G λid hid=>agree id (by simp[bh,aO,ah,hs,hid]))
  ·cases h
 case store ty x y =>
  split at h
  ·rename_i s u n hs hu G;injection h with h;subst h;exact .ofUnit (by simp only[execOp,ho]) (LJ hr (aC hs ht hr) (aC hu ht hr) G λid hid=>agree id (by simp[bh,aO,ah,hs,hid]))
  ·cases h
 case binOp op ty x y p =>
  split at h
  ·rename_i s u hs hu;injection h with h;subst h;exact .ofVal (by simp only[execOp,ho]) (Pu (xo:=x) (yo:=y) (aC hs ht hr) (aC hu ht hr))
  ·cases h
 case unOp op ty x =>
  split at h
  ·rename_i s hs;injection h with h;subst h;exact .ofVal (by simp only[execOp,ho]) (QU (aC hs ht hr))
  ·cases h
 case convert src dst x =>
  split at h
  ·rename_i s sd k hs I hk;injection h with h;subst h;have B:=aC hs ht hr;dsimp only;generalize s.run t=cv at B ⊢;generalize hcv:a.eval x=vc at B;cases B with
   | int _ k' n =>
    refine .ofVal (m:=convert src dst (.int k' n)) (by simp only[execOp,ho,hcv]) ⟨.int k (k.wrap n),?_,by rw[hZ];exact .int _ _ _⟩;unfold convert;simp only[VT,aK I,aK hk,VD,Conv.intToInt]
    try rfl
   |_=>trivial
  ·cases h
 case nilCheck x =>
  split at h
  ·rename_i s hs;injection h with h;subst h;have B:=aC hs ht hr;dsimp only;generalize s.run t=cv at B ⊢;generalize hcv:a.eval x=vc at B;cases B with
   |tptr _ tag sz rows i0 off0 b o' cell h1 h2 h3 h4 h5 h6 h7 h8 h9=>exact .now (by simp[execOp,ho,hcv]) (.tptr _ tag sz rows i0 off0 b o' cell h1 h2 h3 h4 h5 h6 h7 h8 h9)
   |hptr _ id ep i off b o' h1 h2 h3=>exact .now (by simp[execOp,ho,hcv]) (.hptr _ id ep i off b o' h1 h2 h3)
   |clo _ f' xs ys vs us h1 h2 h3 h4=>exact .now (by simp[execOp,ho,hcv]) (.clo _ f' xs ys vs us h1 h2 h3 h4)
   |yld _ id b h1 h2=>exact .now (by simp[execOp,ho,hcv]) (.yld _ id b h1 h2)
   |_=>trivial
  ·cases h
 case makeInterface ty x =>
  split at h
  ·cases h
  ·rename_i s d O hs hu;injection h with h;subst h;refine .ofVal (m:=Instr.makeInterface ty (a.eval x)) (by simp only[execOp,ho]) ⟨.iface ty (a.eval x),?_,.ifc _ ty _ _ (aC hs ht hr)⟩;unfold Instr.makeInterface;simp only[VT,aK hu,VD]
   try rfl
  ·cases h
 case makeSlice ty l c =>
  split at h
  ·rename_i e sl sc he hl hc
   split at h
   ·rename_i sz bytes zero q M hz;rw[aa]at h
    split at h
    ·rename_i j;simp only[Vx,WN,aF]at j;injection h with h;subst h;have hu:C.P.underlying ty=some (.slice e):=by unfold lJ at he;split at he<;>first| (injection he with he;subst he;assumption)|cases he
     exact .ofUpd (by simp only[execOp,ho]) (Cq hr hf hu q M hz (bc j.1) j.2 (aC hl ht hr) (aC hc ht hr))
    ·cases h
   ·cases h
  ·cases h
 case fieldAddr ty x fi =>
  split at h
  ·rename_i s fo ft hs F
   split at h
   ·rename_i n G;injection h with h;subst h;exact .ofVal (by simp only[execOp,ho]) (Ci (g:=g) (aC hs ht hr) F G)
   ·cases h
  ·cases h
 case field ty x fi =>
  split at h
  ·rename_i s fo ft hs F
   split at h
   ·rename_i ag n E G;injection h with h;subst h;have B:=aC hs ht hr;refine .ofVal (m:=Instr.field ty (a.eval x) fi) (by simp only[execOp,ho]) ?_;dsimp only;generalize s.run t=y at B ⊢;cases y<;>first|trivial|exact KW B F E G
   ·cases h
  ·cases h
 case indexAddr ty x ix =>
  split at h
  ·rename_i s i hs hi
   split at h
   ·rename_i e hu
    split at h
    ·rename_i sz q;injection h with h;subst h;exact .ofVal (by simp only[execOp,ho]) (F9 hr (aC hs ht hr) (aC hi ht hr) hu q λid hid=>agree id (by simp[bh,aO,ah,hs,hu,hid]))
    ·cases h
   ·rename_i n e hu
    split at h
    ·rename_i sz q;injection h with h;subst h;exact .ofVal (by simp only[execOp,ho]) (F8 (g:=g) (aC hs ht hr) (aC hi ht hr) hu q)
    ·cases h
   ·cases h
  ·cases h
 case index ty x ix =>
  split at h
  ·rename_i s i hs hi
   split at h
   ·rename_i n e hu
    split at h
    ·rename_i ag sz E q;injection h with h;subst h;exact .ofVal (by simp only[execOp,ho]) (K2 (g:=g) (aC hs ht hr) (aC hi ht hr) hu E q)
    ·cases h
   ·rename_i hu;injection h with h;subst h;exact .ofVal (by simp only[execOp,ho]) (Eg (g:=g) (aC hs ht hr) (aC hi ht hr) hu)
   ·cases h
  ·cases h
 case lookup ty x k ok =>
  split at h
  ·rename_i m kk kt et hm hk hu
   split at h
   ·rename_i z hz;injection h with h;subst h;exact .ofVal (by simp only[execOp,ho]) (HO hr hu hz (aC hm ht hr) (aC hk ht hr) λid hid=>agree id (by cases ok<;>simp[bh,aO,ah,hm,hid]))
   ·cases h
  ·cases h
 case mapUpdate ty m k x =>
  split at h
  ·rename_i sm sk sx kt et hm hk hx hu;injection h with h;subst h;exact .ofUnit (by simp only[execOp,ho]) (uM hr hu (aC hm ht hr) (aC hk ht hr) (aC hx ht hr) λid hid=>agree id (by simp[bh,aO,ah,hm,hid]))
  ·cases h
 case insert ty m k x =>
  split at h
  ·rename_i sm sk sx kt et hm hk hx hu;injection h with h;subst h;exact .ofUnit (by simp only[execOp,ho]) (uM hr hu (aC hm ht hr) (aC hk ht hr) (aC hx ht hr) λid hid=>agree id (by simp[bh,aO,ah,hm,hid]))
  ·cases h
 case mapEntry ty m k =>
  split at h
  ·rename_i sm sk kt et hm hk hu
   split at h
   ·rename_i z hz;injection h with h;subst h;exact .ofUpd (by simp only[execOp,ho]) (Ep hr hu hz (aC hm ht hr) (aC hk ht hr) λid hid=>agree id (by simp[bh,aO,hm,hid]))
   ·cases h
  ·cases h
 case entryStore ty m st x =>
  split at h
  ·rename_i sm ss sx hm hs hx;injection h with h;subst h;exact .ofUnit (s:=Instr.entryStore ty (a.eval m) (a.eval st) (a.eval x)) (by simp only[execOp,ho]) (AA hr (aC hm ht hr) (aC hs ht hr) (aC hx ht hr) λid hid=>agree id (by simp[bh,aO,ah,hm,hid]))
  ·cases h
 case extract x i =>
  split at h
  ·rename_i s hs;injection h with h;subst h;have B:=aC hs ht hr;refine .ofVal (m:=Instr.extract (a.eval x) i) (by simp only[execOp,ho]) ?_;dsimp only;generalize s.run t=cv at B ⊢;generalize a.eval x=vc at B;cases B with
   | tup _ xs vs hl hall =>
    simp only[ge];refine oq λy K=>?_;have hlt:i<vs.size:=by rw[<-hl];exact (Vv.1 K).1
    exact⟨vs[i],by simp[Instr.extract,hlt],hall i y _ K (by simp[hlt])⟩
   |_=>trivial
  ·cases h
 case makeMap ty r =>
  cases r with
  |some r=>cases h
  | none =>
   dsimp only at h
   split at h
   ·injection h with h;subst h;refine .ofUpd (m:=do pure (.map (some (<-newObj (.map #[] 0))))) ?_ (HU (P:=C.P) hr hf);simp only[execOp,ho,Instr.makeMap,Option.map_none]
    try rfl
   ·cases h
 case makeFunc fn fi ca =>
  cases fn with
  | func fx =>
   dsimp only at h
   split at h
   ·rename_i sa sc ha hc;injection h with h;subst h;have B:=jg ht hr ha;have L:=jg ht hr hc;refine .now (v:=.func (.func fx) (fi.map a.eval) (ca.map a.eval)) (by simp[execOp,ho,Instr.makeFunc]) (.clo _ fx _ _ _ _ (by simpa using B.1) (by simpa using L.1) (λi x v hx hv=>?_) (λi x v hx hv=>?_))
    ·exact B.2 i x v hx (by simpa using hv)
    ·exact L.2 i x v hx (by simpa using hv)
   ·cases h
  |_=>cases h
 case buildSlice ty len parts =>
  split at h
  ·rename_i e vs he D
   split at h
   ·rename_i sz zero q hz;rw[aa]at h
    split at h
    ·rename_i j;simp only[Vx,WN,Wt,aF]at j;injection h with h;subst h;have hu:C.P.underlying ty=some (.slice e):=by unfold lJ at he;split at he<;>first| (injection he with he;subst he;assumption)|cases he
     exact .ofUpd (by simp only[execOp,ho]) (Ai hr hf hu q hz (bc j.1.1) j.1.2 j.2 (jg ht hr D))
    ·cases h
   ·cases h
  ·cases h
 case build ty parts =>
  split at h
  ·rename_i zero vs hz D
   split at h
   ·rename_i fs hu
    split at h
    ·rename_i places N
     split at h
     ·rename_i pl hp;injection h with h;subst h;refine .ofVal (m:=Instr.build ty (parts.map λ(i,x)=>(i,a.eval x))) (by simp only[execOp,ho]) (CG (g:=g) (place:=(places[·]?)) hz (jg ht hr D) hp λz cells hzv hfill=>?_);have h1:(fs.mapM λf=>do pure (f.offset,<-Go.sizeOf f.type):Sem (Array (Nat×Nat))).run C.P w=.ok places.toArray w:=by
       rw[Array.mapM_eq_mapM_toList];have:=H6 (w:=w) N;simp only[Sem.run_map,this]
       rfl
      unfold Instr.build;simp only[VT,hzv,aK hu,VD,h1];have e:(λi:Nat=>places.toArray[i]?)=(λi:Nat=>places[i]?):=by funext i;simp
      rw[e,hfill]
      rfl
     ·cases h
    ·cases h
   ·rename_i n e hu
    split at h
    ·rename_i sz q;injection h with h;subst h;refine .ofVal (m:=Instr.build ty (parts.map λ(i,x)=>(i,a.eval x))) (by simp only[execOp,ho]) (CG (g:=g) (place:=λi=>some (i*sz,sz)) hz (jg ht hr D) ?_ λz cells hzv hfill=>?_)
     ·generalize parts.toList.map (·.1)=is
      induction is with
      |nil=>rfl
      |cons i is ih=>simp only[aG,ih,W4]
     ·unfold Instr.build;simp only[VT,hzv,aK hu,VD,bo q];rw[hfill]
      rfl
    ·cases h
   ·cases h
  ·cases h
 case slice ty x lo hi mx =>
  have optR:∀{y:Option Operand} {s:Stg (T->List AV)},bY C y.toList=some s->OVR w γ A bd (s.run t).head? (y.map a.eval):=by intro y s hs;have:=N_ (jg ht hr hs);cases y<;>simpa using this
  cases mx with
  | none =>
   dsimp only at h
   split at h
   ·rename_i e sx sl sh hu hx hl H
    split at h
    ·rename_i sz q;injection h with h;subst h;refine .ofVal (m:=Instr.sliceAt ty (a.eval x) (lo.map a.eval) (hi.map a.eval) none) (by simp only[execOp,ho,Option.map_none]) ?_;exact BB hr hu q (aC hx ht hr) (optR hl) (optR H) trivial (λh=>absurd rfl h) λid hid=>agree id (by simp[bh,aO,ah,hx,hid])
    ·cases h
   ·rename_i n e sx sl sh hu hx hl H
    split at h
    ·rename_i sz q;injection h with h;subst h;refine .ofUpd (m:=Instr.sliceAt ty (a.eval x) (lo.map a.eval) (hi.map a.eval) none) (by simp only[execOp,ho,Option.map_none]) ?_;exact EO (lo:=λt=>(sl.run t).head?) (hi:=λt=>(sh.run t).head?) hr hu q (VI _) (aC hx ht hr) (optR hl) (optR H) λid hid=>agree id (by simp[bh,aO,ah,hx,hid])
    ·cases h
   ·cases h
  | some mx =>
   cases hi with
   |none=>cases h
   | some hi =>
    dsimp only at h
    split at h
    ·rename_i e sx sl sh sm he hx hl H hm
     split at h
     ·rename_i sz q;injection h with h;subst h;have hu:C.P.underlying ty=some (.slice e):=by unfold lJ at he;split at he<;>first| (injection he with he;subst he;assumption)|cases he
      refine .ofVal (m:=Instr.sliceAt ty (a.eval x) (lo.map a.eval) (some (a.eval hi)) (some (a.eval mx))) (by simp only[execOp,ho,WM]) ?_;exact BB hr hu q (aC hx ht hr) (optR hl) (aC H ht hr) (aC hm ht hr) (λ_ h=>by cases h) λid hid=>agree id (by simp[bh,aO,ah,hx,hid])
     ·cases h
    ·cases h
 case call c =>
  obtain⟨callee,args,argTypes⟩:=c;cases callee<;>first| (cases h;done)|skip
  rename_i b;dsimp only at h;obtain⟨vs,D⟩:=uD h;obtain⟨m,h1,h2⟩:=Fj (ty:=o.type) (consts:=args.map fun|.const _=>true|_=>false) h ht hr hf λx hx s hs id hid=>agree id (by
   have:=KG (t:=t) D x hx s hs;unfold bh aO;simp only[D,ah,Xe,VV,Xu];exact⟨_,this,hid⟩)
  refine .ofUpd (m:=m) ?_ h2;rw[<-h1];simp only[execOp,ho,resolve,invoke];have e:args.map a.eval=(args.toList.map a.eval).toArray:=by apply Y5;simp
  rw[<-e]
  rfl
end
section
variable {g2:G}
theorem fP{α β:Type}{f:α->Option β}:∀{l:List α} {r:List β},aG f l=some r->∀(i:Nat) y,r[i]?=some y->∃x,l[i]?=some x/\f x=some y:=by
 intro l
 induction l with
 |nil=>intro r h i y k;simp only[aG]at h;injection h with h;subst h;simp at k
 | cons a l ih =>
  intro r h i y k;simp only[aG]at h
  split at h
  ·rename_i b hb
   split at h
   ·rename_i bs c;injection h with h;subst h;cases i with
    |zero=>simp at k;subst k;exact⟨a,rfl,hb⟩
    |succ i=>simpa using ih c i y (by simpa using k)
   ·cases h
  ·cases h
theorem nk{α β:Type}{f:α->Option β}:∀{l:List α} {r:List β},aG f l=some r->r.length=l.length:=by
 intro l
 induction l with
 |nil=>intro r h;simp only[aG]at h;injection h with h;subst h;rfl
 | cons a l ih =>
  intro r h;simp only[aG]at h
  split at h
  ·split at h
   ·rename_i bs k;injection h with h;subst h;simp[ih k]
   ·cases h
  ·cases h
theorem G7{h:H}{tag:Nat}:∀{f:Nat} {x y:AV},snap h tag f x=some y->x.one=true->y.one=true:=by
 intro f x y hs hx;cases f with
 |zero=>cases hs
 | succ f =>
  cases x<;>simp only[snap]at hs<;>first| (cases hx;done)|skip
  all_goals first| (injection hs with hs;subst hs;rfl)|skip
  all_goals
   repeat (split at hs)
   all_goals first| (cases hs;done)| (injection hs with hs;subst hs;rfl)| (rw[aa]at hs;split at hs<;>first| (cases hs;done)| (injection hs with hs;subst hs;rfl))
def Ext(h:H)(hg:Nat->AObj):Prop:=∀id,h.get id≠.none->hg id=h.get id
section
variable {C:Cfg}{A A':Nat->Nat->Prop}{bd:Nat}{w w':World}{γ γ':Gm}{hg:Nat->AObj}{nx:Nat}
theorem nC(h:RV w γ A bd x v):Closed x ->
  (∀t b,t<=bd->b<w.heap.size->¬A t b->¬Mut γ b->¬A' t b/\¬Mut γ' b)->RV w γ' A' bd x v:=by
 induction h with
 |bool=>intro _ _;exact .bool _ _
 |int=>intro _ _;exact .int _ _ _
 |str=>intro _ _;exact .str _ _
 | tup _ xs vs hl _ ih =>
  intro hc hs;cases hc with|tup _ hc=>exact .tup _ _ _ hl λi x v h1 h2=>ih i x v h1 h2 (hc x (VA h1)) hs
 | agg _ xs vs hl h1 _ ih =>
  intro hc hs;cases hc with|agg _ hc=>exact .agg _ _ _ hl h1 λi x v h1 h2=>ih i x v h1 h2 (hc x (VA h1)) hs
 |nilp=>intro _ _;exact .nilp _
 |nils=>intro _ _;exact .nils _
 |nilf=>intro _ _;exact .nilf _
 |nilm=>intro _ _;exact .nilm _
 |nili=>intro _ _;exact .nili _
 |esl=>intro _ _;exact .esl _ _
 | tsl _ tag sz rows b o cap cell ht hc hb hm ha hr ho hw h hcl ih =>
  intro _ hs;obtain⟨h1,h2⟩:=hs tag b ht hb ha hm;exact .tsl _ tag sz rows b o cap cell ht hc hb h2 h1 hr ho hw
   (λi j row x a c=>ih i j row x a c (hcl row (VA a) x (VA c)) λt b hle=>hs t b (VR hle ht)) hcl
 |tnil _ tag sz a cap ht=>intro _ _;exact .tnil _ tag sz a cap ht
 | tptr _ tag sz rows i0 off0 b o cell ht hb hm ha hr ho hw h hcl ih =>
  intro _ hs;obtain⟨h1,h2⟩:=hs tag b ht hb ha hm;exact .tptr _ tag sz rows i0 off0 b o cell ht hb h2 h1 hr ho hw
   (λi j row x a c=>ih i j row x a c (hcl row (VA a) x (VA c)) λt b hle=>hs t b (VR hle ht)) hcl
 |hsl=>intro hc;cases hc
 |hptr=>intro hc;cases hc
 | clo _ f xs ys vs us hl hl2 _ _ ih ih2 =>
  intro hc hs;cases hc with
  |clo _ _ _ hc hc2=>exact .clo _ f xs ys vs us hl hl2 (λi x v h1 h2=>ih i x v h1 h2 (hc x (VA h1)) hs) (λi x v h1 h2=>ih2 i x v h1 h2 (hc2 x (VA h1)) hs)
 |hmap=>intro hc;cases hc
 |ifc _ t x v _ ih=>intro hc hs;cases hc with|ifc _ _ hc=>exact .ifc _ t x v (ih hc hs)
 |yld=>intro hc;cases hc
theorem Bw(h:RV w γ A bd x v)(hx:(∃l sz rows,x=.tsl l sz rows)\/(∃l sz rows i o,x=.tptr l sz rows i o)):Closed x:=by
 rcases hx with⟨l,sz,rows,rfl⟩|⟨l,sz,rows,i,o,rfl⟩
 ·cases h with
  |tsl _ _ _ _ _ _ _ _ _ _ _ _ _ _ _ _ _ hcl=>exact .tsl _ _ _ hcl
  |tnil=>exact .tsl _ _ _ λrow h=>by cases h
 ·cases h with
  |tptr _ _ _ _ _ _ _ _ _ _ _ _ _ _ _ _ _ hcl=>exact .tptr _ _ _ _ _ hcl
theorem Kj{h:H}{tag B:Nat}{L:Nat->Prop}(hr:Rel C A bd w γ hg nx)(hx:∀id,L id->h.get id≠.none->hg id=h.get id)(hB:bd<=B)(htB:tag<=B)
  (hs:∀t b,t<=bd->b<w.heap.size->¬A t b->¬Mut γ b->¬A' t b/\¬Mut γ' b)
  (ho:∀id,L id->(∃sz rows ep lo fz,h.get id=.cells sz rows ep lo fz)->(γ id).kind=1->∀t,tag<=t->t<=B->¬A' t (γ id).blk/\¬Mut γ' (γ id).blk) :
  ∀(f:Nat) {x y:AV} {v:Value},snap h tag f x=some y->RV w γ A bd x v->(∀id∈aD h f x,L id)->RV w γ' A' B y v/\Closed y:=by
 intro f
 induction f with
 |zero=>intro x y v h;cases h
 | succ f ih =>
  intro x y v d N s;have q:∀{xs ys:List AV} {vs:Array Value},aG (snap h tag f) xs=some ys->(∀id∈xs.flatMap (aD h f),L id)->xs.length=vs.size ->
    (∀(i:Nat) x v,xs[i]?=some x->vs[i]?=some v->RV w γ A bd x v) ->
    ys.length=vs.size/\(∀(i:Nat) x v,ys[i]?=some x->vs[i]?=some v->RV w γ' A' B x v)/\∀y∈ys,Closed y:=by
   intro xs ys vs h1 h2 h3 h4;have O:∀(i:Nat) y,ys[i]?=some y->∃v,vs[i]?=some v/\RV w γ' A' B y v/\Closed y:=by
    intro i y S;obtain⟨x,a1,a2⟩:=fP h1 i y S;have hlt:i<vs.size:=by rw[<-h3];exact (Vv.1 a1).1
    have N:=Wg hlt;obtain⟨b1,b2⟩:=ih a2 (h4 i x _ a1 N) λid n=>h2 id (Xu.2 ⟨x,VA a1,n⟩);exact⟨_,N,b1,b2⟩
   refine⟨by rw[nk h1,h3],λi y v S N=>?_,λy S=>?_⟩
   ·obtain⟨v',b1,b2,_⟩:=O i y S;rw[N]at b1;injection b1 with b1;subst b1;exact b2
   ·obtain⟨i,hi⟩:=WB S;obtain⟨_,_,_,b⟩:=O i y hi;exact b
  have G:∀{id sz:Nat} {rows:List (List AV)} {ep:Nat} {lo fz:Bool} {start len:Nat} {rs:List (List AV)} {m:Nat},
    hg id=.cells sz rows ep lo fz->aG (aG (snap h tag f)) ((rows.drop start).take len)=some rs->j4 rs=some m ->
    (∀id'∈((rows.drop start).take len).flatMap (·.flatMap (aD h f)),L id')->start+len<=rows.length ->
    rs.length=len/\m<=B/\(∀(i:Nat) row,rs[i]?=some row->row.length=sz) /\
    (∀(i j:Nat) row x,rs[i]?=some row->row[j]?=some x->x.one=true/\∃c,w.cell? (adr (γ id).blk ((γ id).base+start*sz+i*sz+j))=some c/\RV w γ' A' m x c) /\
    (∀row∈rs,∀x∈row,Closed x):=by
   intro id sz rows ep lo fz start len rs m n hm J W P;have r:=hr.obj id;rw[n]at r;have Q:rs.length=len:=by rw[nk hm];simp;omega
   have key:∀(i j:Nat) row x,rs[i]?=some row->row[j]?=some x->x.one=true/\∃c,w.cell? (adr (γ id).blk ((γ id).base+start*sz+i*sz+j))=some c/\RV w γ' A' B x c/\Closed x:=by
    intro i j row x hi p;obtain⟨row0,a1,a2⟩:=fP hm i row hi;obtain⟨V,b1,b2⟩:=fP a2 j x p;have Y:rows[start+i]?=some row0:=by
     rw[Yv]at a1
     split at a1
     ·rw[WG]at a1;exact a1
     ·cases a1
    obtain⟨c1,v,z,K⟩:=yp hr n Y j V b1;obtain⟨d1,d2⟩:=ih b2 K λid' hid'=>W id' (Xu.2 ⟨row0,VA a1,Xu.2 ⟨V,VA b1,hid'⟩⟩);refine⟨G7 b2 c1,v,?_,d1,d2⟩;rw[<-z];congr 2;rw[Wc];omega
   refine⟨Q,?_,?_,?_,?_⟩
   ·refine ip J λrow F k hk=>ip hk λx hx k' hk'=>?_;obtain⟨i,hi⟩:=WB F;obtain⟨j,p⟩:=WB hx;obtain⟨_,c,_,hc,_⟩:=key i j row x hi p;exact EV _ hk' hc
   ·intro i row hi;obtain⟨row0,a1,a2⟩:=fP hm i row hi;rw[nk a2];obtain⟨k1,k2,U,k4,k5,k6,c,e,k7,k8,k9,h5⟩:=r;rw[Yv]at a1
    split at a1
    ·rw[WG]at a1;exact k9 _ _ a1
    ·cases a1
   ·intro i j row x hi p;obtain⟨c1,c,z,K,_⟩:=key i j row x hi p;exact⟨c1,c,z,BG J hi p K⟩
   ·intro row F x hx;obtain⟨i,hi⟩:=WB F;obtain⟨j,p⟩:=WB hx;obtain⟨_,_,_,_,c⟩:=key i j row x hi p;exact c
  cases N with
  | agg _ xs vs hl h1 h2 =>
   simp only[snap]at d
   split at d
   ·rename_i as D;injection d with d;subst d;obtain⟨a,b,c⟩:=q D (by simpa only[aD] using s) hl h2;refine⟨.agg _ _ _ a (λi x hi=>?_) b,.agg _ c⟩;obtain⟨V,a1,a2⟩:=fP D i x hi;exact G7 a2 (h1 i V a1)
   ·cases d
  | tup _ xs vs hl h2 =>
   simp only[snap]at d
   split at d
   ·rename_i as D;injection d with d;subst d;obtain⟨a,b,c⟩:=q D (by simpa only[aD] using s) hl h2;exact⟨.tup _ _ _ a b,.tup _ c⟩
   ·cases d
  | clo _ g xs ys vs us hl hl2 h1 h2 =>
   simp only[snap]at d;simp only[aD]at s
   split at d
   ·rename_i as cs D X;injection d with d;subst d;obtain⟨a,b,c⟩:=q D (λid n=>s id (XP _ n)) hl h1;obtain⟨a',b',c'⟩:=q X (λid n=>s id (XD _ n)) hl2 h2;exact⟨.clo _ _ _ _ _ _ a a' b b',.clo _ _ _ c c'⟩
   ·cases d
  | ifc _ t x v h1 =>
   simp only[snap]at d
   split at d
   ·rename_i a ha;injection d with d;subst d;obtain⟨a,b⟩:=ih ha h1 (by simpa only[aD] using s);exact⟨.ifc _ _ _ _ a,.ifc _ _ b⟩
   ·cases d
  | hsl _ id ep off len lim b o cap hk he hc h' =>
   simp only[snap]at d
   split at d
   ·rename_i sz rows ep' lo fz l;rw[aa]at d
    split at d
    ·rename_i E;simp only[Vx,Wt,aF]at E;obtain⟨u,P⟩:=E;have u:=bc u
     split at d
     ·rename_i rs I
      split at d
      ·rename_i m hm;injection d with d;subst d;have n:hg id=.cells sz rows ep' lo fz:=by rw[hx id (s id (by simp[aD])) (by rw[l];simp),l]
       have r:=hr.obj id;rw[n]at r;obtain⟨k1,k2,U,k4,_⟩:=r;obtain⟨e1,e2,e3⟩:=h' (u.trans k2.symm);subst e1;subst e2;simp only[aD,l]at s;simp only[bj,bp]at I s;obtain⟨Z,T,r3,M,r5⟩:=G n I hm (λid' hid'=>s id' (WK _ hid')) P;obtain⟨o1,o2⟩:=ho id (s id WO) ⟨_,_,_,_,_,l⟩ hk (Nat.max tag m) (Xf _ _) (Y3.2 ⟨htB,T⟩);refine⟨?_,.tsl _ _ _ r5⟩;rw[<-Z];rw[U];refine .tsl _ (Nat.max tag m) sz rs (γ id).blk ((γ id).base+off*sz) cap (λi j=>(w.cell? (adr (γ id).blk ((γ id).base+off*sz+i*sz+j))).getD undef) (Y3.2 ⟨htB,T⟩) (by rw[Z];exact hc)
        (hr.lt id (by rw[hk];decide)).2 o2 o1 r3 (λi j row x hi p=>(M i j row x hi p).1) (λi j row x hi p=>?_) (λi j row x hi p=>?_) r5
       ·obtain⟨_,c,z,_⟩:=M i j row x hi p;simp only[z,VB]
       ·obtain⟨_,c,z,K⟩:=M i j row x hi p;simp only[z,VB];exact K.mono (Xx _ _)
      ·cases d
     ·cases d
    ·cases d
   ·cases d
  | hptr _ id ep i off b o hk he h' =>
   simp only[snap]at d
   split at d
   ·rename_i sz rows ep' lo fz l;rw[aa]at d
    split at d
    ·rename_i u;have u:=bc u
     split at d
     ·rename_i rs I
      split at d
      ·rename_i m hm;injection d with d;subst d;have n:hg id=.cells sz rows ep' lo fz:=by rw[hx id (s id (by simp[aD])) (by rw[l];simp),l]
       have r:=hr.obj id;rw[n]at r;obtain⟨k1,k2,U,k4,_⟩:=r;obtain⟨e1,e2⟩:=h' (u.trans k2.symm);subst e1;subst e2;simp only[aD,l]at s;have R:aG (aG (snap h tag f)) ((rows.drop 0).take rows.length)=some rs:=by simpa using I
       obtain⟨Z,T,r3,M,r5⟩:=G n R hm (λid' hid'=>s id' (WK _ (by simpa using hid'))) (by omega);obtain⟨o1,o2⟩:=ho id (s id WO) ⟨_,_,_,_,_,l⟩ hk (Nat.max tag m) (Xf _ _) (Y3.2 ⟨htB,T⟩);refine⟨?_,.tptr _ _ _ _ _ r5⟩;rw[U];refine .tptr _ (Nat.max tag m) sz rs i off (γ id).blk (γ id).base (λi j=>(w.cell? (adr (γ id).blk ((γ id).base+i*sz+j))).getD undef) (Y3.2 ⟨htB,T⟩)
        (hr.lt id (by rw[hk];decide)).2 o2 o1 r3 (λi j row x hi p=>(M i j row x hi p).1) (λi j row x hi p=>?_) (λi j row x hi p=>?_) r5
       ·obtain⟨_,c,z,_⟩:=M i j row x hi p;simp only[Y2,Xv]at z;simp only[z,VB]
       ·obtain⟨_,c,z,K⟩:=M i j row x hi p;simp only[Y2,Xv]at z;simp only[z,VB];exact K.mono (Xx _ _)
      ·cases d
     ·cases d
    ·cases d
   ·cases d
  |hmap=>cases d
  |yld=>cases d
  | tsl _ tag' sz rows b o cap cell ht hc hb hm ha hrl ho' hw hcell hcl =>
   simp only[snap]at d;injection d with d;subst d;exact⟨(nC (.tsl _ tag' sz rows b o cap cell ht hc hb hm ha hrl ho' hw hcell hcl) (.tsl _ _ _ hcl) hs).mono hB,.tsl _ _ _ hcl⟩
  |tnil _ tag' sz a cap ht=>simp only[snap]at d;injection d with d;subst d;exact⟨.tnil _ tag' sz a cap (VR ht hB),.tsl _ _ _ λrow h=>by cases h⟩
  | tptr _ tag' sz rows i0 off0 b o cell ht hb hm ha hrl ho' hw hcell hcl =>
   simp only[snap]at d;injection d with d;subst d;exact⟨(nC (.tptr _ tag' sz rows i0 off0 b o cell ht hb hm ha hrl ho' hw hcell hcl) (.tptr _ _ _ _ _ hcl) hs).mono hB,.tptr _ _ _ _ _ hcl⟩
  |bool=>simp only[snap]at d;injection d with d;subst d;exact⟨.bool _ _,.bool _⟩
  |int=>simp only[snap]at d;injection d with d;subst d;exact⟨.int _ _ _,.int _ _⟩
  |str=>simp only[snap]at d;injection d with d;subst d;exact⟨.str _ _,.str _⟩
  |nilp=>simp only[snap]at d;injection d with d;subst d;exact⟨.nilp _,.nilp⟩
  |nils=>simp only[snap]at d;injection d with d;subst d;exact⟨.nils _,.nils⟩
  |nilf=>simp only[snap]at d;injection d with d;subst d;exact⟨.nilf _,.nilf⟩
  |nilm=>simp only[snap]at d;injection d with d;subst d;exact⟨.nilm _,.nilm⟩
  |nili=>simp only[snap]at d;injection d with d;subst d;exact⟨.nili _,.nili⟩
  |esl _ a=>simp only[snap]at d;injection d with d;subst d;exact⟨.esl _ a,.esl⟩
theorem Ds:∀{f:Nat} {x y:AV},dA d f x=some y->x.one=true->y.one=true:=by
 intro f x y hs hx;cases f with
 |zero=>cases hs
 | succ f =>
  cases x<;>simp only[dA,aa]at hs<;>first| (cases hx;done)|skip
  all_goals first| (injection hs with hs;subst hs;rfl)|skip
  all_goals
   repeat (split at hs)
   all_goals first| (cases hs;done)| (injection hs with hs;subst hs;rfl)
theorem O4(hA:∀t b,t<d->¬A t b->¬A' t b)(hd:∀b,¬A d b->∀t,¬A' t b) :
  ∀(f:Nat) {x y:AV} {v:Value},dA d f x=some y->RV w γ A d x v->Closed x->RV w γ A' d y v/\Closed y:=by
 intro f
 induction f with
 |zero=>intro x y v h;cases h
 | succ f ih =>
  intro x y v l H n;have q:∀{xs ys:List AV} {vs:Array Value},aG (dA d f) xs=some ys->xs.length=vs.size->(∀x∈xs,Closed x) ->
    (∀(i:Nat) x v,xs[i]?=some x->vs[i]?=some v->RV w γ A d x v) ->
    ys.length=vs.size/\(∀(i:Nat) x v,ys[i]?=some x->vs[i]?=some v->RV w γ A' d x v)/\∀y∈ys,Closed y:=by
   intro xs ys vs h1 I hc h4;have J:∀(i:Nat) y,ys[i]?=some y->∃v,vs[i]?=some v/\RV w γ A' d y v/\Closed y:=by
    intro i y K;obtain⟨x,a1,a2⟩:=fP h1 i y K;have hlt:i<vs.size:=by rw[<-I];exact (Vv.1 a1).1
    have H:=Wg hlt;obtain⟨b1,b2⟩:=ih a2 (h4 i x _ a1 H) (hc x (VA a1));exact⟨_,H,b1,b2⟩
   refine⟨by rw[nk h1,I],λi y v K H=>?_,λy K=>?_⟩
   ·obtain⟨v',b1,b2,_⟩:=J i y K;rw[H]at b1;injection b1 with b1;subst b1;exact b2
   ·obtain⟨i,hi⟩:=WB K;obtain⟨_,_,_,b⟩:=J i y hi;exact b
  have z:∀{sz:Nat} {rows rs:List (List AV)} {m:Nat} {cell:Nat->Nat->Value},aG (aG (dA d f)) rows=some rs->j4 rs=some m ->
    (∀(i:Nat) row,rows[i]?=some row->row.length=sz) ->
    (∀(i j:Nat) row x,rows[i]?=some row->row[j]?=some x->x.one=true) ->
    (∀(i j:Nat) row x,rows[i]?=some row->row[j]?=some x->RV w γ A d x (cell i j)) ->
    (∀row∈rows,∀x∈row,Closed x) ->
    rs.length=rows.length/\m<=d/\(∀(i:Nat) row,rs[i]?=some row->row.length=sz) /\
    (∀(i j:Nat) row x,rs[i]?=some row->row[j]?=some x->x.one=true/\(∃row0 r,rows[i]?=some row0/\row0[j]?=some r)/\RV w γ A' m x (cell i j)) /\
    (∀row∈rs,∀x∈row,Closed x):=by
   intro sz rows rs m cell h1 h2 I h4 h5 Q;have key:∀(i j:Nat) row x,rs[i]?=some row->row[j]?=some x->x.one=true/\(∃row0 r,rows[i]?=some row0/\row0[j]?=some r)/\RV w γ A' d x (cell i j)/\Closed x:=by intro i j row x hi B;obtain⟨row0,a1,a2⟩:=fP h1 i row hi;obtain⟨r,b1,b2⟩:=fP a2 j x B;obtain⟨c1,D⟩:=ih b2 (h5 i j row0 r a1 b1) (Q row0 (VA a1) r (VA b1));exact⟨Ds b2 (h4 i j row0 r a1 b1),⟨row0,r,a1,b1⟩,c1,D⟩
   refine⟨nk h1,?_,?_,?_,?_⟩
   ·refine ip h2 λrow u k hk=>ip hk λx hx k' hk'=>?_;obtain⟨i,hi⟩:=WB u;obtain⟨j,B⟩:=WB hx;obtain⟨_,_,hc,_⟩:=key i j row x hi B;exact EV _ hk' hc
   ·intro i row hi;obtain⟨row0,a1,a2⟩:=fP h1 i row hi;rw[nk a2];exact I i row0 a1
   ·intro i j row x hi B;obtain⟨c1,D,P,_⟩:=key i j row x hi B;exact⟨c1,D,BG h2 hi B P⟩
   ·intro row u x hx;obtain⟨i,hi⟩:=WB u;obtain⟨j,B⟩:=WB hx;obtain⟨_,_,_,c⟩:=key i j row x hi B;exact c
  have C:∀{t:Nat},t<=d->t≠d->∀t' b,t'<=t->b<w.heap.size->¬A t' b->¬Mut γ b->¬A' t' b/\¬Mut γ b :=
   λh1 h2 t' b I _ h4 h5=>⟨hA t' b (by omega) h4,h5⟩
  cases H with
  | agg _ xs vs hl h1 h2 =>
   simp only[dA]at l
   split at l
   ·rename_i as s;injection l with l;subst l;cases n with
    | agg _ n =>
     obtain⟨a,b,c⟩:=q s hl n h2;refine⟨.agg _ _ _ a (λi x hi=>?_) b,.agg _ c⟩;obtain⟨r,a1,a2⟩:=fP s i x hi;exact Ds a2 (h1 i r a1)
   ·cases l
  | tup _ xs vs hl h2 =>
   simp only[dA]at l
   split at l
   ·rename_i as s;injection l with l;subst l;cases n with
    | tup _ n =>
     obtain⟨a,b,c⟩:=q s hl n h2;exact⟨.tup _ _ _ a b,.tup _ c⟩
   ·cases l
  | clo _ g xs ys vs us hl hl2 h1 h2 =>
   simp only[dA]at l
   split at l
   ·rename_i as cs s L;injection l with l;subst l;cases n with
    | clo _ _ _ n hcx2 =>
     obtain⟨a,b,c⟩:=q s hl n h1;obtain⟨a',b',c'⟩:=q L hl2 hcx2 h2;exact⟨.clo _ _ _ _ _ _ a a' b b',.clo _ _ _ c c'⟩
   ·cases l
  | ifc _ t x v h1 =>
   simp only[dA]at l
   split at l
   ·rename_i a ha;injection l with l;subst l;cases n with
    | ifc _ _ n =>
     obtain⟨a,b⟩:=ih ha h1 n;exact⟨.ifc _ _ _ _ a,.ifc _ _ b⟩
   ·cases l
  | tsl _ t sz rows b o cap cell ht hc hb hm ha hrl ho' hw hcell hcl =>
   simp only[dA,aa]at l
   split at l
   ·rename_i p;have p:=bc p
    split at l
    ·rename_i rs F
     split at l
     ·rename_i m E;injection l with l;subst l;obtain⟨M,N,O,G,r5⟩:=z (cell:=cell) F E hrl ho' (λi j row x a b=>(hcell i j row x a b).mono ht) hcl;refine⟨?_,.tsl _ _ _ r5⟩;rw[<-M];refine .tsl _ m sz rs b o cap cell N (by rw[M];exact hc) hb hm (hd b (p ▸ ha) m) O (λi j row x a b=>(G i j row x a b).1) (λi j row x a b=>?_) (λi j row x a b=>(G i j row x a b).2.2) r5;obtain⟨_,⟨row0,r,c1,D⟩,_⟩:=G i j row x a b;exact hw i j row0 r c1 D
     ·cases l
    ·cases l
   ·rename_i p;injection l with l;subst l;have p:t≠d:=λe=>p (by rw[e];exact Wm d);exact⟨.tsl _ t sz rows b o cap cell ht hc hb hm (hA t b (by omega) ha) hrl ho' hw (λi j row x a c=>nC (hcell i j row x a c) (hcl row (VA a) x (VA c)) (C ht p)) hcl,.tsl _ _ _ hcl⟩
  | tnil _ t sz a cap ht =>
   simp only[dA,aa]at l
   split at l
   ·simp only[aG,j4,jm]at l;injection l with l;subst l;exact⟨.tnil _ _ sz a cap (Wp _),.tsl _ _ _ λrow h=>by cases h⟩
   ·injection l with l;subst l;exact⟨.tnil _ t sz a cap ht,.tsl _ _ _ λrow h=>by cases h⟩
  | tptr _ t sz rows i0 off0 b o cell ht hb hm ha hrl ho' hw hcell hcl =>
   simp only[dA,aa]at l
   split at l
   ·rename_i p;have p:=bc p
    split at l
    ·rename_i rs F
     split at l
     ·rename_i m E;injection l with l;subst l;obtain⟨M,N,O,G,r5⟩:=z (cell:=cell) F E hrl ho' (λi j row x a b=>(hcell i j row x a b).mono ht) hcl;refine⟨?_,.tptr _ _ _ _ _ r5⟩;refine .tptr _ m sz rs i0 off0 b o cell N hb hm (hd b (p ▸ ha) m) O (λi j row x a b=>(G i j row x a b).1) (λi j row x a b=>?_) (λi j row x a b=>(G i j row x a b).2.2) r5;obtain⟨_,⟨row0,r,c1,D⟩,_⟩:=G i j row x a b;exact hw i j row0 r c1 D
     ·cases l
    ·cases l
   ·rename_i p;injection l with l;subst l;have p:t≠d:=λe=>p (by rw[e];exact Wm d);exact⟨.tptr _ t sz rows i0 off0 b o cell ht hb hm (hA t b (by omega) ha) hrl ho' hw (λi j row x a c=>nC (hcell i j row x a c) (hcl row (VA a) x (VA c)) (C ht p)) hcl,.tptr _ _ _ _ _ hcl⟩
  |bool=>simp only[dA]at l;injection l with l;subst l;exact⟨.bool _ _,.bool _⟩
  |int=>simp only[dA]at l;injection l with l;subst l;exact⟨.int _ _ _,.int _ _⟩
  |str=>simp only[dA]at l;injection l with l;subst l;exact⟨.str _ _,.str _⟩
  |nilp=>simp only[dA]at l;injection l with l;subst l;exact⟨.nilp _,.nilp⟩
  |nils=>simp only[dA]at l;injection l with l;subst l;exact⟨.nils _,.nils⟩
  |nilf=>simp only[dA]at l;injection l with l;subst l;exact⟨.nilf _,.nilf⟩
  |nilm=>simp only[dA]at l;injection l with l;subst l;exact⟨.nilm _,.nilm⟩
  |nili=>simp only[dA]at l;injection l with l;subst l;exact⟨.nili _,.nili⟩
  |esl _ a=>simp only[dA]at l;injection l with l;subst l;exact⟨.esl _ a,.esl⟩
  |hsl=>cases n
  |hptr=>cases n
  |hmap=>cases n
  |yld=>cases n
theorem Hb(s1:w.heap.size<=w'.heap.size)(s2:w'.os=w.os)(s3:w'.tape=w.tape)(s4:w'.output=w.output)
  (hb:∀b,b<w.heap.size->w'.heap[b]?=w.heap[b]?):Stp w γ w' γ :=
 ⟨s1,s2,s3,s4,λb h _=>hb b h,λ_ _ h=>h,λ_ _=>.inl ⟨rfl,rfl⟩,λ_ _=>⟨Vu _,λ_=>⟨rfl,rfl,rfl,rfl,rfl⟩⟩⟩
theorem Rel.same(hr:Rel C A bd w γ hg nx)(s:Stp w γ w' γ)(hb:∀b,b<w.heap.size->w'.heap[b]?=w.heap[b]?):Rel C A bd w' γ hg nx where
 obj id:=(hr.obj id).step s rfl λhk _=>hb _ (hr.lt id hk).2
 lt id hk:=⟨(hr.lt id hk).1,VL (hr.lt id hk).2 s.sz⟩
 inj:=hr.inj
 av:=hr.av
 ab t b h:=VL (hr.ab t b h) s.sz
 glob g sz rows h:=(hr.glob g sz rows h).step s
structure Fin (C:Cfg) (A:Nat->Nat->Prop) (bd:Nat) (w:World) (γ:Gm) (hg:Nat->AObj) (nx:Nat) (g:G) (w':World) (γ':Gm) (hg':Nat->AObj) (g':G):Prop where
 rel:Rel C A bd w' γ' hg' (Nat.max nx g'.nx)
 stp:Stp w γ w' γ'
 new:∃new,g'.lg=new++g.lg/\(∀id∈new,hg' id=g'.h.get id)/\∀id,id ∉ new->hg' id=hg id
structure Mon (g g':G):Prop where
 nx:g.nx<=g'.nx
 new:∃new,g'.lg=new++g.lg/\(∀id,id ∉ new->g'.h.get id=g.h.get id)/\∀id∈new,id<g'.nx/\(g.h.get id=.none->g.nx<=id)
 wf:(∀id,g.nx<=id->g.h.get id=.none)->∀id,g'.nx<=id->g'.h.get id=.none
def WF(g:G):Prop:=∀id,g.nx<=id->g.h.get id=.none
theorem Mon.refl(g:G):Mon g g:=⟨Vu _,⟨[],rfl,λ_ _=>rfl,λ_ h=>by cases h⟩,λh=>h⟩
theorem Mon.trans(h1:Mon g g1)(h2:Mon g1 g2):Mon g g2:=by
 obtain⟨n1,a1,b1,c1⟩:=h1.new;obtain⟨n2,a2,b2,k⟩:=h2.new;refine⟨VR h1.nx h2.nx,⟨n2++n1,by rw[a2,a1,W5],λid hid=>?_,λid hid=>?_⟩,λh=>h2.wf (h1.wf h)⟩
 ·rw[b2 id λh=>hid (XP _ h),b1 id λh=>hid (XD _ h)]
 ·by_cases hin:id∈n1
  ·exact⟨VL (c1 id hin).1 h2.nx,(c1 id hin).2⟩
  ·rcases V7.1 hid with h|h
   ·exact⟨(k id h).1,λhn=>VR h1.nx ((k id h).2 (by rw[b1 id hin];exact hn))⟩
   ·exact absurd h hin
def Free(γ:Gm)(g g':G):Prop:=∀id,g.nx<=id->id<=g'.nx->(γ id).kind=0
theorem Fin.refl{g:G}(hr:Rel C A bd w γ hg nx):Fin C A bd w γ hg nx g w γ hg g :=
 ⟨hr.up (Xf _ _),Stp.refl _ _,⟨[],rfl,λ_ h=>absurd h VG,λ_ _=>rfl⟩⟩
theorem Rel.none_iff(hr:Rel C A bd w γ hg nx)(id:Nat):(γ id).kind=0↔hg id=.none:=by
 have h:=hr.obj id;constructor
 ·intro hk;cases ho:hg id with
  |none=>rfl
  |_=>rw[ho]at h;have:=h.1;omega
 ·intro k;rw[k]at h;exact h
theorem Fin.freed{w1:World}{γ1:Gm}{hg1:Nat->AObj}(h1:Fin C A bd w γ hg nx g w1 γ1 hg1 g1)(hr:Rel C A bd w γ hg nx)(m1:Mon g g1)(hf:Free γ g g2):Free γ1 g1 g2:=by
 obtain⟨n,a,b,c⟩:=h1.new;obtain⟨n',a',b',c'⟩:=m1.new;have e:n'=n:=Yp (a'.symm.trans a);subst e;intro id h2 k;have d:id ∉ n':=λh=>by have:=(c' id h).1;omega
 rw[h1.rel.none_iff,c id d,<-hr.none_iff];exact hf id (VR m1.nx h2) k
theorem Free.le{γ:Gm}(h:Free γ g g2)(hle:g1.nx<=g2.nx):Free γ g g1:=λid h1 h2=>h id h1 (VR h2 hle)
theorem Fin.ext{hg':Nat->AObj}(h:Fin C A bd w γ hg nx g w' γ' hg' g')(m:Mon g g')(hx:Ext g.h hg):Ext g'.h hg':=by
 obtain⟨n,a,b,c⟩:=h.new;obtain⟨n',a',b',_⟩:=m.new;have e:n'=n:=Yp (a'.symm.trans a);subst e;intro id k
 by_cases hin:id∈n'
 ·exact b id hin
 ·rw[c id hin,b' id hin];exact hx id (by rw[<-b' id hin];exact k)
theorem Fin.trans{g g1 g2:G}{w1 w2:World}{γ1 γ2:Gm}{hg1 hg2:Nat->AObj}(h1:Fin C A bd w γ hg nx g w1 γ1 hg1 g1)
  (h2:Fin C A bd w1 γ1 hg1 (Nat.max nx g1.nx) g1 w2 γ2 hg2 g2) (m1:Mon g g1) (m2:Mon g1 g2):Fin C A bd w γ hg nx g w2 γ2 hg2 g2:=by
 obtain⟨n1,a1,b1,c1⟩:=h1.new;obtain⟨n2,a2,b2,k⟩:=h2.new;obtain⟨n',a',b',_⟩:=m2.new;have e:n'=n2:=Yp (a'.symm.trans a2);subst e;refine⟨?_,h1.stp.trans h2.stp,⟨n'++n1,by rw[a2,a1,W5],λid hid=>?_,λid hid=>?_⟩⟩
 ·refine h2.rel.up (Y3.2 ⟨Y3.2 ⟨Xf _ _,VR m2.nx (Xx _ _)⟩,Xx _ _⟩)
 ·by_cases hin:id∈n'
  ·exact b2 id hin
  ·rw[k id hin,b' id hin];rcases V7.1 hid with h|h
   ·exact absurd h hin
   ·exact b1 id h
 ·rw[k id λh=>hid (XP _ h),c1 id λh=>hid (XD _ h)]
def vV(K:CallKind)(cs:List Frame):Prop:=K=.normal\/(K=.deferred/\∃c cs',cs=c::cs'/\(c.mode=.returning\/∃v x older,c.mode=.panicking ({ v,recovered:=true,goexit:=x }::older)))
def Outs(P:Program)(K:CallKind)(f:FuncId)(vs:Array Value)(cs:List Frame)(w:World)(u:Value)(w':World):Prop :=
 ∃fr,Steps P (lone (Frame.enter P f vs K) cs w) (lone fr cs w')/\fr.mode=.returning/\fr.defers=[]/\fr.kind=K/\fr.fn=f /\
  ∃fn,P.funcs[f]?=some fn/\(results fn fr.tmps).run P w'=.ok u w'
def Enters(P:Program)(f:FuncId):Prop:=∀args w,(callFunc f args).run P w=.ok (.enter f args) w
def IB(C:Cfg)(bd:Nat)(f:FuncId)(as:List AV)(g:G)(v:AV)(g':G):Prop :=
 ∀A w γ hg nx vs,Rel C A bd w γ hg nx->Ext g.h hg->WF g->Free γ g g'->RVs w γ A bd as vs->∀K cs,vV K cs ->
  ∃u w' γ' hg',Fin C A bd w γ hg nx g w' γ' hg' g'/\RV w' γ' A bd v u/\Outs C.P K f vs.toArray cs w u w'
def LT(C:Cfg)(ih:IH):Prop :=
 ∀bd f as g v g',ih.call (bd+1) f as g=.ok v g'->Enters C.P f/\IB C bd f as g v g'
def IA(ih:IH):Prop:=∀d f as g v g',ih.call d f as g=.ok v g'->WF g->Mon g g'
theorem Cm:∀(ids:List Nat) (g:G),WF g->Mon g (cw g ids):=by
 intro ids
 induction ids with
 |nil=>intro g _;exact Mon.refl g
 | cons i is ih =>
  intro g a;simp only[cw]
  split
  ·rename_i sz rows ep lo fz k;have hi:i<g.nx:=Nat.lt_of_not_le λh=>by have:=a i h;rw[<-G.get_eq,k]at this;cases this
   refine Mon.trans ⟨by simp,⟨[i],by simp,λid hid=>?_,λid hid=>?_⟩,λh id hid=>?_⟩ (ih _ λid hid=>?_)
   ·simp only[G.put_h,TA];rw[Vz];simpa using hid
   ·simp at hid;subst hid;exact⟨by simpa using hi,λhn=>by rw[<-G.get_eq,k]at hn;cases hn⟩
   ·simp only[G.put_nx]at hid;simp only[G.put_h,TA];rw[Vz (by omega)];exact h id hid
   ·simp only[G.put_nx]at hid;simp only[G.put_h,TA];rw[Vz (by omega)];exact a id hid
  ·exact ih g a
theorem Co:∀(ids:List Nat) (g:G) (γ:Gm) (hg:Nat->AObj),Rel C A bd w γ hg nx->(∀id∈ids,g.h.get id≠.none->hg id=g.h.get id) ->
  ∃γ₁ hg₁,Rel C A bd w γ₁ hg₁ nx/\Stp w γ w γ₁/\(cw g ids).nx=g.nx /\
   (∃new,(cw g ids).lg=new++g.lg/\(∀id∈new,hg₁ id=(cw g ids).h.get id)/\(∀id,id ∉ new->hg₁ id=hg id)) /\
   (∀id,(γ₁ id).kind=(γ id).kind/\(γ₁ id).blk=(γ id).blk/\((γ₁ id).wr=true->(γ id).wr=true)) /\
   (∀id∈ids,(∃sz rows ep lo fz,g.h.get id=.cells sz rows ep lo fz)->(γ₁ id).wr=false):=by
 intro ids
 induction ids with
 | nil =>
  intro g γ hg hr hx;exact⟨γ,hg,hr,Stp.refl _ _,rfl,⟨[],rfl,λ_ h=>absurd h VG,λ_ _=>rfl⟩,λ_=>⟨rfl,rfl,λh=>h⟩,λ_ h=>by cases h⟩
 | cons i is ih =>
  intro g γ hg hr hx;simp only[cw]
  split
  ·rename_i sz rows ep lo fz j;have d:g.h.get i=.cells sz rows ep lo fz:=by simpa using j
   have m:hg i=.cells sz rows ep lo fz:=by rw[hx i WO (by rw[d];simp),d]
   obtain⟨γ₀,r0,s0,e0,q⟩:=hr.freeze m;have n:∀id∈is,(g.put i (.cells sz rows ep lo true)).h.get id≠.none->upd hg i (.cells sz rows ep lo true) id=(g.put i (.cells sz rows ep lo true)).h.get id:=by
    intro id hin f;simp only[G.put_h,TA]at f ⊢;unfold upd
    by_cases hi:id=i
    ·simp[hi]
    ·simp only[hi,if_false]at f ⊢;exact hx id (WK _ hin) f
   obtain⟨γ₁,hg₁,o,s1,n1,⟨new,l1,l2,l3⟩,f1,f2⟩:=ih _ γ₀ _ r0 n;refine⟨γ₁,hg₁,o,s0.trans s1,by rw[n1];simp,⟨new++[i],by rw[l1];simp,λid hid'=>?_,λid hid'=>?_⟩,λid=>?_,λid hid' hc=>?_⟩
   ·by_cases hin:id∈new
    ·exact l2 id hin
    ·have hi:id=i:=by
      rcases V7.1 hid' with h|h
      ·exact absurd h hin
      ·simpa using h
     subst hi;rw[l3 id hin];simp only[upd_same]
     by_cases hwf:∃new',(cw (g.put id (.cells sz rows ep lo true)) is).lg=new'++(g.put id (.cells sz rows ep lo true)).lg/\∀k,k ∉ new'->(cw (g.put id (.cells sz rows ep lo true)) is).h.get k=(g.put id (.cells sz rows ep lo true)).h.get k
     ·obtain⟨new',p,q2⟩:=hwf;have e:new'=new:=Yp (p.symm.trans l1);rw[q2 id (e ▸ hin)];simp[TA]
     ·exact absurd (freezeIds_log is _) hwf
   ·rw[l3 id λh=>hid' (XP _ h)];exact cV _ _ (by rintro rfl;exact hid' (XD _ WO))
   ·obtain⟨a,b,c⟩:=f1 id;rw[e0]at a b c;unfold upd at a b c
    by_cases hi:id=i
    ·subst hi;simp at a b c;exact⟨a,b,λh=>by rw[c]at h;cases h⟩
    ·simp only[hi,if_false]at a b c;exact⟨a,b,c⟩
   ·rcases VP.1 hid' with rfl|hin
    ·have:=(f1 id).2.2;rw[e0]at this;simp at this;simpa using this
    ·by_cases hi:id=i
     ·subst hi;have:=(f1 id).2.2;rw[e0]at this;simp at this;simpa using this
     ·refine f2 id hin ?_;simp only[G.put_h,TA,hi,if_false];exact hc
  ·rename_i f;obtain⟨γ₁,hg₁,o,s1,n1,l,f1,f2⟩:=ih g γ hg hr λid hin=>hx id (WK _ hin);refine⟨γ₁,hg₁,o,s1,n1,l,f1,λid hid' hc=>?_⟩;rcases VP.1 hid' with rfl|hin
   ·obtain⟨sz,rows,ep,lo,fz,hc⟩:=hc;exact absurd (by simpa using hc) (f sz rows ep lo fz)
   ·exact f2 id hin hc where
 freezeIds_log:∀(ids:List Nat) (g:G),∃new',(cw g ids).lg=new'++g.lg/\∀k,k ∉ new'->(cw g ids).h.get k=g.h.get k:=by
  intro ids
  induction ids with
  |nil=>intro g;exact⟨[],rfl,λ_ _=>rfl⟩
  | cons i is ih =>
   intro g;simp only[cw]
   split
   ·rename_i sz rows ep lo fz j;obtain⟨new,a,b⟩:=ih (g.put i (.cells sz rows ep lo true));refine⟨new++[i],by rw[a];simp,λk hk=>?_⟩;rw[b k λh=>hk (XP _ h)];simp only[G.put_h,TA];rw[Vz];rintro rfl;exact hk (XD _ WO)
   ·exact ih g
def gOf(g:G):OR->G
 |.upd _ g'=>g'
 |_=>g
def vOf:OR->AV
 |.upd v _=>v
 |.val v=>v
 |_=>.undef
theorem yO{ih:IH}(hwf:WF g):Mon g (gOf g (an ih d g f args)):=by
 unfold an
 split
 ·exact Mon.refl g
 split
 ·exact Mon.refl g
 split
 ·exact Mon.refl g
 split
 ·exact Mon.refl g
 rw[aa]
 split
 ·exact Mon.refl g
 split
 ·exact Mon.refl g
 split
 ·exact Mon.refl g
 rw[aa]
 split
 ·exact Cm _ _ hwf
 ·exact Mon.refl g
theorem yP{ih:IH}{vs:List Value}(hc:LT C ih)(hm:IA ih)(hr:Rel C A bd w γ hg nx)
  (hx:∀id∈args.flatMap (aD g.h aE),g.h.get id≠.none->hg id=g.h.get id)
  (hv:RVs w γ A bd args vs) (hne:an ih (bd+1) g f args≠.fail) (cs:List Frame) :
  Enters C.P f/\∃u w' γ' hg',Fin C A bd w γ hg nx g w' γ' hg' (gOf g (an ih (bd+1) g f args))/\RV w' γ' A bd (vOf (an ih (bd+1) g f args)) u /\
   Outs C.P .normal f vs.toArray cs w u w':=by
 let γc:Gm:=λ_=>⟨0,0,0,0,0,0,0,false⟩
 let L:Nat->Prop:=λid=>id∈args.flatMap (aD g.h aE)
 let isC:Nat->Prop:=λid=>∃sz rows ep lo fz,g.h.get id=.cells sz rows ep lo fz
 let Ac:Nat->Nat->Prop:=λt b=>(t<=bd/\(A t b\/Mut γ b))\/(t=bd+1/\b<w.heap.size/\¬∃id,L id/\isC id/\(γ id).kind=1/\(γ id).blk=b)
 have e:∀b,¬Mut γc b:=by rintro b ⟨id,h,_⟩;exact h rfl
 generalize hres:an ih (bd+1) g f args=res at *;unfold an at hres
 split at hres
 ·exact absurd hres.symm hne
 rename_i as I;have n:∀t b,t<=bd->b<w.heap.size->¬A t b->¬Mut γ b->¬Ac t b/\¬Mut γc b:=by
  intro t b h1 _ h2 l;refine⟨?_,e b⟩;rintro (⟨_,h|h⟩|⟨h,_⟩)
  ·exact h2 h
  ·exact l h
  ·omega
 have B:RVs w γc Ac (bd+1) as vs:=by
  refine⟨by rw[nk I];exact hv.1,λi y v hy hvi=>?_⟩;obtain⟨x,h1,h2⟩:=fP I i y hy;refine (Kj (L:=L) hr hx (Nat.le_succ _) (Vu _) n ?_ aE h2 (hv.2 i x v h1 hvi) λid hid=>Xu.2 ⟨x,VA h1,hid⟩).1;intro id hL D hk t l h4;have ht:t=bd+1:=Nat.le_antisymm h4 l;refine⟨?_,e _⟩;rintro (⟨h,_⟩|⟨_,_,h⟩)
  ·omega
  ·exact h ⟨id,hL,D,hk,rfl⟩
 have U:Rel C Ac (bd+1) w γc (λ_=>.none) 0:=by
  refine⟨λid=>rfl,λid h=>absurd rfl h,λi j h=>absurd rfl h,λid h=>absurd rfl h,?_,λgl sz rows h=>?_⟩
  ·rintro t b (⟨_,h|⟨id,h1,h2,l⟩⟩|⟨_,h,_⟩)
   ·exact hr.ab t b h
   ·rw[<-l];exact (hr.lt id h1).2
   ·exact h
  ·have:=hr.glob gl sz rows h;exact (nC this (Bw this (.inr ⟨_,_,_,_,_,rfl⟩)) n).mono (Nat.le_succ _)
 split at hres
 ·exact absurd hres.symm hne
 rename_i r g' o;have a:G.empty.h.get=λ_=>AObj.none:=by funext id;simp[G.empty,H.get,TF]
 obtain⟨J,O⟩:=hc (bd+1) f as G.empty r g' o;refine⟨J,?_⟩;obtain⟨u,w',γ',hg',k,V,z⟩:=O Ac w γc (λ_=>.none) 0 vs U (λid h=>by rw[a]at h;exact absurd rfl h) (λid _=>by rw[a])
  (λ_ _ _=>rfl) B .normal cs (.inl rfl)
 have E:Ext g'.h hg':=k.ext (hm _ _ _ _ _ _ o (λid _=>by rw[a])) (λid h=>by rw[a]at h;exact absurd rfl h);have p:∀b,b<w.heap.size->w'.heap[b]?=w.heap[b]?:=λb hb=>k.stp.fr b hb (e b);have q:Stp w γ w' γ:=Hb k.stp.sz k.stp.os k.stp.tape k.stp.output p;have Q:Rel C A bd w' γ hg nx:=hr.same q p
 split at hres
 ·exact absurd hres.symm hne
 rename_i r' F;obtain⟨M,hcl⟩:=Kj (A':=Ac) (γ':=γc) (L:=λ_=>True) k.rel (λid _=>E id) (Vu _) (Wp _) (λt b _ _ h _=>⟨h,e b⟩)
  (λid _ _ hk t _ _=>⟨k.rel.av id (by rw[hk];decide) t,e _⟩) aE F V λ_ _=>trivial
 split at hres
 ·exact absurd hres.symm hne
 rename_i m hm;have N:=EW _ hm M;rw[aa]at hres
 split at hres
 ·rename_i hlt;rw[WN]at hlt;subst hres;refine⟨u,w',γ,hg,⟨Q.up (Xf _ _),q,⟨[],rfl,λ_ h=>absurd h VG,λ_ _=>rfl⟩⟩,?_,z⟩;refine (nC N hcl λt b h1 h2 l h4=>⟨λh=>l (.inl ⟨by omega,.inl h⟩),λh=>l (.inl ⟨by omega,.inr h⟩)⟩).mono (by omega)
 ·split at hres
  ·exact absurd hres.symm hne
  rename_i r'' X
  split at hres
  ·exact absurd hres.symm hne
  rename_i m' T;rw[aa]at hres
  split at hres
  rotate_left
  ·exact absurd hres.symm hne
  rename_i hlt;rw[WN]at hlt;subst hres;obtain⟨γ₁,S,r1,s1,n1,⟨new,l1,l2,l3⟩,f1,f2⟩:=Co (args.flatMap (aD g.h aE)) g γ hg Q hx;have s:∀b,Mut γ₁ b->Mut γ b:=by rintro b ⟨id,h1,h2,l⟩;obtain⟨e1,e2,e3⟩:=f1 id;exact⟨id,by rw[<-e1];exact h1,e3 h2,by rw[<-e2];exact l⟩
  refine⟨u,w',γ₁,S,⟨r1.up (Xf _ _),q.trans s1,⟨new,l1,l2,l3⟩⟩,?_,z⟩
  let A₁:Nat->Nat->Prop:=λt b=>if t=bd+1 then ∃t',A t' b else A t b
  have K:m<=bd+1:=EV _ hm M;have W:RV w' γ₁ A₁ m r' u:=by
   refine nC N hcl λt b h1 h2 l _=>?_
   by_cases ht:t=bd+1
   ·have hb:w.heap.size<=b\/∃id,L id/\isC id/\(γ id).kind=1/\(γ id).blk=b:=by
     by_cases hs:w.heap.size<=b
     ·exact .inl hs
     ·exact .inr (W6 λhn=>l (.inr ⟨ht,by omega,hn⟩))
    rcases hb with hb|⟨id,q1,q2,q3,q4⟩
    ·refine⟨?_,λhmu=>?_⟩
     ·simp only[A₁,ht,if_true];rintro⟨t',h⟩;have:=hr.ab t' b h;omega
     ·obtain⟨id,Y,Z,p3⟩:=s b hmu;have:=(hr.lt id Y).2;omega
    ·refine⟨?_,?_⟩
     ·simp only[A₁,ht,if_true];rintro⟨t',h⟩;rw[<-q4]at h;exact hr.av id (by rw[q3];decide) t' h
     ·rintro⟨j,Y,Z,p3⟩;obtain⟨e1,e2,e3⟩:=f1 j;have hj:j=id:=hr.inj j id (by rw[<-e1];exact Y) (by rw[q3];decide) (by rw[<-e2,p3,q4]);subst hj;rw[f2 j q1 q2]at Z;cases Z
   ·refine⟨?_,λh=>l (.inl ⟨by omega,.inr (s b h)⟩)⟩;simp only[A₁,ht,if_false];exact λh=>l (.inl ⟨by omega,.inl h⟩)
  obtain⟨R,_⟩:=O4 (A':=A) (d:=bd+1) (λt b h1 h2=>by simp only[A₁,show t≠bd+1 by omega,if_false]at h2;exact h2)
   (λb h2 t ht=>h2 (by simp only[A₁,if_true];exact⟨t,ht⟩)) aE X (W.mono K) hcl
  exact (EW _ T R).mono (by omega)
end
end
section
variable {C:Cfg}
theorem Mon.put{g:G}{id:Nat}{o:AObj}(hwf:WF g)(hid:g.h.get id≠.none):Mon g (g.put id o):=by
 have hi:id<g.nx:=Nat.lt_of_not_le λh=>hid (hwf id h);refine⟨by simp,⟨[id],by simp,λk hk=>?_,λk hk=>?_⟩,λh k hk=>?_⟩
 ·simp only[G.put_h,TA];rw[Vz];simpa using hk
 ·simp at hk;subst hk;exact⟨by simpa using hi,λhn=>absurd hn hid⟩
 ·simp only[G.put_nx]at hk;simp only[G.put_h,TA];rw[Vz (by omega)];exact h k hk
theorem Mon.mk'{g:G}{o:AObj}:Mon g (g.new o):=by
 refine⟨by simp,⟨[g.nx],by simp,λk hk=>?_,λk hk=>?_⟩,λh k hk=>?_⟩
 ·simp only[G.new_h,TA];rw[Vz];simpa using hk
 ·simp at hk;subst hk;simp
 ·simp only[G.new_nx]at hk;simp only[G.new_h,TA];rw[Vz (by omega)];exact h k (by omega)
def Small(g:G):OR->Prop
 |.fail=>True
 |.val _=>True
 |.upd _ g'=>(∃id ob,g'=g.put id ob/\g.h.get id≠.none)\/∃ob,g'=g.new ob
 |.dfr _=>False
theorem Small.mon{g:G}(h:Small g r)(hwf:WF g):Mon g (gOf g r):=by
 cases r with
 | upd v g' =>
  rcases h with⟨id,ob,rfl,h⟩|⟨ob,rfl⟩
  ·exact Mon.put hwf h
  ·exact Mon.mk'
 |_=>exact Mon.refl g
variable {op:Op}{t:T}{g:G}{f:Stg SFn}
theorem mh(x:Option AV):Small g (orV x):=by cases x<;>trivial
theorem yy(sz bytes:Nat)(s:AV)(new:List (List AV)):Small g (bk sz bytes s new g):=by
 unfold bk;simp only[aa]
 repeat' split
 all_goals first
  |trivial
  |exact .inr ⟨_,rfl⟩
  |exact .inl ⟨_,_,rfl,λhn=>by simp_all⟩
theorem LF{op:BinOp}:Small g ((Ae P op ty).run x y):=by
 unfold Ae
 split
 ·split
  ·dsimp only;split<;>first|exact mh _|trivial
  ·dsimp only;split<;>trivial
 ·split
  ·dsimp only;split<;>first|exact mh _|trivial
  ·dsimp only;split<;>trivial
 ·dsimp only;split<;>first|exact mh _|trivial
theorem OS{op:UnOp}:Small g ((unA op).run x):=by
 unfold unA
 split
 ·dsimp only;split<;>trivial
 ·dsimp only;split<;>first|exact mh _|trivial
theorem yA(h:cq C op=some f):Small g (f.run t g):=by
 cases op<;>simp only[cq]at h<;>first| (cases h;done)|skip
 case call c =>
  obtain⟨callee,args,argTypes⟩:=c;cases callee<;>first| (cases h;done)|skip
  rename_i b;dsimp only at h;unfold dt at h
  split at h
  all_goals
   repeat' (first|split at h| (rw[aa]at h;split at h))
   all_goals first| (cases h;done)|skip
   all_goals (injection h with h;subst h)
   all_goals dsimp only[dH,cW,DC,Jc,RP,HB]
   all_goals try simp only[aa]
   all_goals repeat' split
   all_goals first
    |trivial
    |exact yy _ _ _ _
    |exact .inr ⟨_,rfl⟩
    |exact .inl ⟨_,_,rfl,λhn=>by simp_all⟩
 all_goals
  repeat' (first|split at h| (rw[aa]at h;split at h))
  all_goals first| (cases h;done)|skip
  all_goals first| (injection h with h;subst h)| (exfalso;injections;done)| (rename_i k _;cases k)
  all_goals dsimp only[nj,po,Dz,L8,oE,iy,jP,gY,ni,vG,qs,io,dL,cT,qu,nO,mf]
  all_goals first
   |exact mh _
   |exact LF
   |exact OS
   |skip
  all_goals try simp only[aa]
  all_goals repeat' split
  all_goals first
   |trivial
   |exact mh _
   |exact .inr ⟨_,rfl⟩
   |exact .inl ⟨_,_,rfl,λhn=>by simp_all⟩
   |skip
def oB(C:Cfg):Prop:=∀f e,C.ext f=some e->∀d args g,WF g->Mon g (gOf g (e d args g))
structure IHMon (ih:IH):Prop where
 code:∀nt d rd c t df g e t' df' g',ih.code nt d rd c t df g=.ok e t' df' g'->WF g->Mon g g'
 call:IA ih
variable {ih:IH}
theorem Id(hi:IHMon ih){id:Nat}{g:G}(hwf:WF g):Mon g (gOf g (cL ih d id args g)):=by
 unfold cL
 split
 ·split
  ·exact Mon.refl g
  ·split
   ·rename_i t1 g1 h1;have e:=hi.code _ _ _ _ _ _ _ _ _ _ _ h1 hwf;have w1:WF g1:=e.wf hwf
    split
    ·rename_i a
     split
     ·rename_i g2 h2;have c:g1.h.get id≠.none:=by rw[<-G.get_eq,a];simp
      have f:=λo=>Mon.put (o:=o) w1 c;have j:=hi.code _ _ _ _ _ _ _ _ _ _ _ h2 ((f _).wf w1);have i:=e.trans ((f _).trans j)
      split
      ·rename_i k;have b:g2.h.get id≠.none:=by rw[<-G.get_eq,k];simp
       split
       all_goals exact i.trans (Mon.put (i.wf hwf) b)
      ·exact Mon.refl g
     ·exact Mon.refl g
    ·exact Mon.refl g
   ·exact Mon.refl g
 ·exact Mon.refl g
theorem JU{g:G}{r:FR}(h:∀v g',r=.ok v g'->Mon g g'):Mon g (gOf g (orF r)):=by
 cases r with
 |fail=>exact Mon.refl g
 |ok v g'=>exact h v g' rfl
theorem KH(he:oB C)(hi:IHMon ih){vs:List AV}{g:G}(hwf:WF g):Mon g (gOf g (j8 C ih d fv vs g)):=by
 unfold j8
 split
 ·split
  ·rename_i e h;exact he _ e h _ _ g hwf
  ·rw[aa]
   split
   ·exact yO hwf
   ·exact JU λv g' h=>hi.call _ _ _ _ _ _ h hwf
 ·exact Id hi hwf
 ·exact Mon.refl g
theorem Py(he:oB C)(hi:IHMon ih){op:Op}{f:Stg LW}(h:cOp C op=some f){t:T}{g:G}(hwf:WF g) :
  Mon g (gOf g (f.run ih d rd t g)):=by
 unfold cOp at h
 split at h
 ·split at h
  ·split at h
   ·rename_i e k;injection h with h;subst h;exact he _ e k _ _ g hwf
   ·rw[aa]at h
    split at h
    ·injection h with h;subst h;exact yO hwf
    ·injection h with h;subst h;exact JU λv g' h=>hi.call _ _ _ _ _ _ h hwf
  ·cases h
 ·split at h
  ·injection h with h;subst h;exact KH he hi hwf
  ·cases h
 ·injection h with h;subst h;exact Mon.refl g
 ·split at h
  ·injection h with h;subst h;dsimp only
   split
   ·exact Mon.refl g
   ·split<;>exact Mon.refl g
  ·cases h
 ·split at h
  ·rename_i s hs;injection h with h;subst h;exact (yA hs).mon hwf
  ·cases h
theorem mr(he:oB C)(hi:IHMon ih){op:Op}{t:T}{g:G}(hwf:WF g) :
  Mon g (gOf g ((dC C op).run ih d rd t g)):=by
 unfold dC
 split
 ·rename_i f hf;exact Py he hi hf hwf
 ·exact Mon.refl g
theorem BH{out:T->AV->T}{next:T->List ADf->G->CR}{t:T}{g:G}{e:Ex}
  (h:pt out next t df g r=.ok e t' df' g') (hwf:WF g) (hr:Mon g (gOf g r)) (hn:∀t df g1,next t df g1=.ok e t' df' g'->WF g1->Mon g1 g'):Mon g g':=by
 cases r with
 |fail=>cases h
 |val v=>exact hn _ _ _ h hwf
 |upd v g1=>exact hr.trans (hn _ _ _ h (hr.wf hwf))
 |dfr a=>exact hn _ _ _ h hwf
theorem Al(he:oB C)(hi:IHMon ih){all:List Oper}:∀{ops:List Oper} {d:Nat} {rd:Option Nat} {t:T} {df:List ADf} {g:G} {e:Ex} {t':T} {df':List ADf} {g':G},
  (jE C nt all ops).run ih d rd t df g=.ok e t' df' g'->WF g->Mon g g':=by
 intro ops
 induction ops with
 |nil=>intro d rd t df g e t' df' g' h _;simp only[jE]at h;injection h with _ _ _ h;subst h;exact Mon.refl _
 | cons o rest ihl =>
  intro d rd t df g e t' df' g' h k;simp only[jE]at h
  split at h
  ·split at h
   ·exact BH h k (mr he hi k) λ_ _ _ h1 h2=>ihl h1 h2
   ·split at h
    ·dsimp only at h
     split at h
     ·exact BH h k (mr he hi k) λ_ _ _ h1 h2=>ihl h1 h2
     ·exact ihl h k
     ·cases h
    ·cases h
  ·cases h
theorem WF.setLog{g:G}{l:List Nat}(h:WF g):WF (aN g l):=λid hid=>by simp only[setLog_nx]at hid;simp only[setLog_h];exact h id hid
theorem Mon.bump{g:G}:Mon g (j7 g g.lg) :=
 ⟨by simp,⟨[],by simp,λid _=>by simp,λ_ h=>absurd h VG⟩,λh id hid=>by simp only[bumpG_nx]at hid;simp only[bumpG_h];exact h id (by omega)⟩
theorem TC{g:G}(h:Mon (aN g []) g1):Mon g (j7 g1 (g1.lg++g.lg)):=by
 obtain⟨n,a,b,c⟩:=h.new;have d:g.nx<=g1.nx:=by simpa using h.nx
 refine⟨by simp;omega,⟨g1.lg,by simp,λid hid=>?_,λid hid=>?_⟩,λhw id hid=>?_⟩
 ·have e:g1.lg=n:=by simpa using a
  rw[e]at hid;have:=b id hid;simpa using this
 ·have e:g1.lg=n:=by simpa using a
  rw[e]at hid;have:=c id hid;simp only[setLog_h,setLog_nx]at this;exact⟨by simp;omega,this.2⟩
 ·simp only[bumpG_nx]at hid;simp only[bumpG_h];exact h.wf (λk hk=>by simp only[setLog_nx]at hk;simp only[setLog_h];exact hw k hk) id (by omega)
theorem KF(he:oB C)(hi:IHMon ih){pm:List Nat}{all:List Oper}:∀{ops:List Oper} {i d:Nat} {rd:Option Nat} {t:T} {df:List ADf} {g:G} {fs:List Foot} {e:Ex} {t':T} {df':List ADf} {g':G},
  (iN C nt pm all i ops).run ih d rd t df g fs=.ok e t' df' g'->WF g->Mon g g':=by
 intro ops
 induction ops with
 | nil =>
  intro i d rd t df g fs e t' df' g' h _;simp only[iN,aa]at h
  split at h
  ·injection h with _ _ _ h;subst h;exact Mon.refl _
  ·cases h
 | cons o rest ihl =>
  intro i d rd t df g fs e t' df' g' h k;simp only[iN]at h
  split at h
  ·dsimp only at h
   split at h
   ·have hm:=mr (op:=o.op) (d:=d) (rd:=rd) (t:=t) he hi (k.setLog (l:=[]));generalize (dC C o.op).run ih d rd t (aN g [])=r at h hm;cases r with
    |fail=>cases h
    |val v=>exact Mon.bump.trans (ihl h (Mon.bump.wf k))
    | upd v g1 =>
     have b:=TC hm;exact b.trans (ihl h (b.wf k))
    |dfr a=>cases h
   ·exact ihl h k
   ·cases h
  ·cases h
theorem Fo(he:oB C)(hi:IHMon ih){ops:List Oper}{draw:Bool}{t:T}{g:G}{e:Ex}
  (h:(fW C nt ops draw).run ih d rd t df g=.ok e t' df' g') (hwf:WF g):Mon g g':=by
 unfold fW at h;rw[aa]at h
 split at h
 ·rw[aa]at h
  split at h
  ·rw[aa]at h
   split at h
   ·dsimp only at h;unfold ny at h
    split at h
    ·split at h
     ·rw[aa]at h
      split at h
      ·injection h with _ _ _ h;subst h;exact Mon.refl _
      ·cases h
     ·cases h
    ·cases h
   ·exact KF he hi h hwf
  ·cases h
 ·exact Al he hi h hwf
theorem xe(hi:IHMon ih){id:Nat}{t:T}{g:G}{e:Ex}
  (h:d_ ih nt d rd id t df g=.ok e t' df' g') (hwf:WF g):Mon g g':=by
 unfold d_ at h
 split at h
 ·rename_i k;have a:g.h.get id≠.none:=by rw[<-G.get_eq,k];simp
  have m:∀o,Mon g (g.put id o):=λo=>Mon.put hwf a
  split at h
  ·cases h
  ·split at h
   ·injection h with _ _ _ h;subst h;exact m _
   ·exact (m _).trans (hi.code _ _ _ _ _ _ _ _ _ _ _ h ((m _).wf hwf))
 ·cases h
theorem pk(hi:IHMon ih){t:T}{dfr:Nat}{g:G}{e:Ex}
  (h:cP C ih nt d rd fv ps assign body t df dfr g=.ok e t' df' g') (hwf:WF g):Mon g g':=by
 unfold cP at h
 split at h
 ·rw[aa]at h
  split at h
  ·cases h
  ·split at h
   ·rename_i v g2 h2;have k:Mon g (g.new (.loop nt t ps assign body dfr .ready none)):=Mon.mk';have b:=hi.call _ _ _ _ _ _ h2 (k.wf hwf);have a:=k.trans b;exact a.trans (xe hi h (a.wf hwf))
   ·cases h
 ·cases h
theorem H7(hi:IHMon ih){fo:T->AV}{t:T}{g:G}{e:Ex}
  (h:nz C nt fo ps assign body ih d rd t df g=.ok e t' df' g') (hwf:WF g):Mon g g':=by
 unfold nz at h
 split at h
 ·split at h
  ·exact pk hi h hwf
  ·cases h
 ·have k:Mon g (g.new (.dfr true)):=Mon.mk';exact k.trans (pk hi h (k.wf hwf))
theorem mb(he:oB C)(hi:IHMon ih):∀(c:Code) {d:Nat} {rd:Option Nat} {t:T} {df:List ADf} {g:G} {e:Ex} {t':T} {df':List ADf} {g':G},
  (aU C nt c).run ih d rd t df g=.ok e t' df' g'->WF g->Mon g g':=by
 intro c;have now:∀{e e':Ex} {t t':T} {df df':List ADf} {g g':G},CR.ok e' t df g=.ok e t' df' g'->Mon g g':=by intro e e' t t' df df' g g' h;injection h with _ _ _ h;subst h;exact Mon.refl _
 induction c with
 |skip=>intro d rd t df g e t' df' g' h _;exact now h
 |label l=>intro d rd t df g e t' df' g' h _;exact now h
 |region id ops draw=>intro d rd t df g e t' df' g' h k;exact Fo he hi h k
 | seq a b iha ihb =>
  intro d rd t df g e t' df' g' h k;simp only[aU]at h;generalize hr:(aU C nt a).run ih d rd t df g=r at h;cases r with
  |fail=>cases h
  | ok e1 t1 df1 g1 =>
   have i:=iha hr k;cases e1 with
   |norm=>exact i.trans (ihb h (i.wf k))
   |exit j=>exact i.trans (now h)
   |ret=>exact i.trans (now h)
 | cond c a b iha ihb =>
  intro d rd t df g e t' df' g' h k;simp only[aU]at h
  split at h
  ·dsimp only at h
   split at h
   ·rw[aa]at h
    split at h
    ·exact iha h k
    ·exact ihb h k
   ·cases h
  ·cases h
 | block id body ihb =>
  intro d rd t df g e t' df' g' h k;simp only[aU]at h;generalize hr:(aU C nt body).run ih d rd t df g=r at h;cases r with
  |fail=>cases h
  | ok e1 t1 df1 g1 =>
   have i:=ihb hr k;cases e1 with
   |norm=>exact i.trans (now h)
   | exit j =>
    simp only[uR,aa]at h
    split at h
    ·exact i.trans (now h)
    ·exact i.trans (now h)
   |ret=>exact i.trans (now h)
 | loop body ihb =>
  intro d rd t df g e t' df' g' h k;simp only[aU]at h;generalize hr:(aU C nt body).run ih d rd t df g=r at h;cases r with
  |fail=>cases h
  | ok e1 t1 df1 g1 =>
   have i:=ihb hr k;cases e1 with
   |norm=>exact i.trans (hi.code _ _ _ _ _ _ _ _ _ _ _ h (i.wf k))
   |exit j=>exact i.trans (now h)
   |ret=>exact i.trans (now h)
 |scope body ihb=>intro d rd t df g e t' df' g' h k;exact ihb h k
 |exit id=>intro d rd t df g e t' df' g' h _;exact now h
 |ret=>intro d rd t df g e t' df' g' h _;exact now h
 | rangeFunc f ps assign body _ _ =>
  intro d rd t df g e t' df' g' h k;simp only[aU]at h
  split at h
  ·exact H7 hi h k
  ·cases h
 |_=>intro d rd t df g e t' df' g' h _;cases h
theorem ui(hi:IHMon ih):∀{df:List ADf} {g g':G},gD ih d df g=some g'->WF g->Mon g g':=by
 intro df
 induction df with
 |nil=>intro g g' h _;simp only[gD]at h;injection h with h;subst h;exact Mon.refl _
 | cons a df ihl =>
  intro g g' h k;cases a with
  | mark id =>
   simp only[gD]at h
   split at h
   ·rename_i b;have m:Mon g (g.put id (.dfr false)):=Mon.put k (by rw[<-G.get_eq,b];simp);exact m.trans (ihl h (m.wf k))
   ·cases h
  | call f args =>
   cases f<;>simp only[gD]at h<;>first| (cases h;done)|skip
   split at h
   ·rename_i v g1 h1;have m:=hi.call _ _ _ _ _ _ h1 k;exact m.trans (ihl h (m.wf k))
   ·cases h
theorem Pw(he:oB C)(hi:IHMon ih){f:Nat}{x:Stg (IH->Nat->List AV->G->FR)}(hx:cFn C f=some x){g:G}{v:AV}
  (h:x.run ih d args g=.ok v g') (hwf:WF g):Mon g g':=by
 unfold cFn at hx
 split at hx
 ·cases hx
 split at hx
 ·cases hx
 split at hx
 ·rw[aa]at hx
  split at hx
  ·cases hx
  injection hx with hx;subst hx;dsimp only at h;rw[aa]at h
  split at h
  ·split at h
   ·cases h
   ·rename_i hc;have k:=mb he hi _ hc hwf;unfold h_ at h
    split at h
    ·cases h
    ·rename_i g2 h2;have a:=ui hi h2 (k.wf hwf)
     split at h
     ·injection h with _ h;subst h;exact k.trans a
     ·cases h
   ·cases h
  ·cases h
 ·cases hx
theorem Kd(he:oB C):∀n,IHMon (sem C n):=by
 intro n
 induction n with
 |zero=>exact⟨λnt d rd c t df g e t' df' g' h=>(by cases h),λd f as g v g' h=>(by cases h)⟩
 | succ n ihn =>
  refine⟨λnt d rd c t df g e t' df' g' h hwf=>mb he ihn c h hwf,λd f as g v g' h hwf=>?_⟩;change eK C (sem C n) d f as g=.ok v g' at h;unfold eK at h
  split at h
  ·rename_i x hx;exact Pw he ihn hx h hwf
  ·cases h
end
section
def CLe(a b:CR):Prop:=a=.fail\/a=b
def FLe(a b:FR):Prop:=a=.fail\/a=b
def OLe(a b:OR):Prop:=a=.fail\/a=b
structure IHLe (i j:IH):Prop where
 code:∀nt d rd c t df g,CLe (i.code nt d rd c t df g) (j.code nt d rd c t df g)
 call:∀d f as g,FLe (i.call d f as g) (j.call d f as g)
variable {i j:IH}
theorem A4(h:IHLe i j):OLe (an i d g f args) (an j d g f args):=by
 unfold an
 split
 ·exact .inl rfl
 ·rename_i as _;rcases h.call (Nat.succ d) f as G.empty with e|e<;>rw[e]
  ·exact .inl rfl
  ·exact .inr rfl
theorem Lx(h:IHLe i j){id:Nat}:OLe (cL i d id args g) (cL j d id args g):=by
 unfold cL
 split
 ·split
  ·exact .inl rfl
  ·rename_i nt t ps assign body dfr st pend hg o t' ht;rcases h.code nt d (some id) assign t' [] g with e|e<;>rw[e]
   ·exact .inl rfl
   ·split
    ·split
     ·rename_i t1 g1 _ _ nt1 k ps2 assign1 body1 dfr1 pend1 _;rcases h.code nt d (some id) body t1 [] (g1.put id (.loop nt1 k ps2 assign1 body1 dfr1 .busy pend1)) with e|e<;>rw[e]
      ·exact .inl rfl
      ·exact .inr rfl
     ·exact .inl rfl
    ·exact .inl rfl
 ·exact .inl rfl
theorem N5{a b:FR}(h:FLe a b):OLe (orF a) (orF b):=by
 rcases h with h|h<;>rw[h]
 ·exact .inl rfl
 ·exact .inr rfl
theorem Md(h:IHLe i j){vs:List AV}:OLe (j8 C i d fv vs g) (j8 C j d fv vs g):=by
 unfold j8
 split
 ·split
  ·exact .inr rfl
  ·rw[aa,aa]
   split
   ·exact A4 h
   ·exact N5 (h.call _ _ _ _)
 ·exact Lx h
 ·exact .inl rfl
theorem Dr{out:T->AV->T}{n m:T->List ADf->G->CR}{a b:OR}(h:OLe a b)(hn:∀t df g,CLe (n t df g) (m t df g)) :
  CLe (pt out n t df g a) (pt out m t df g b):=by
 rcases h with h|h<;>rw[h]
 ·exact .inl rfl
 ·cases b with
  |fail=>exact .inl rfl
  |val v=>exact hn _ _ _
  |upd v g'=>exact hn _ _ _
  |dfr a=>exact hn _ _ _
theorem Hf{out:T->AV->T}{n m:T->List ADf->G->List Foot->CR}{fs:List Foot}{lk:Looks}{a b:OR}(h:OLe a b)
  (hn:∀t df g fs,CLe (n t df g fs) (m t df g fs)):CLe (kT out n t df g fs lk a) (kT out m t df g fs lk b):=by
 rcases h with h|h<;>rw[h]
 ·exact .inl rfl
 ·cases b with
  |fail=>exact .inl rfl
  |val v=>exact hn _ _ _ _
  |upd v g'=>exact hn _ _ _ _
  |dfr a=>exact .inl rfl
theorem Ke{n m:T->List ADf->G->CR}{a b:CR}(h:CLe a b)(hn:∀t df g,CLe (n t df g) (m t df g)):CLe (Cu n a) (Cu m b):=by
 rcases h with h|h<;>rw[h]
 ·exact .inl rfl
 ·unfold Cu
  split
  ·exact hn _ _ _
  ·exact .inr rfl
theorem KE{id:Nat}{a b:CR}(h:CLe a b):CLe (uR id a) (uR id b):=by
 rcases h with h|h<;>rw[h]
 ·exact .inl rfl
 ·exact .inr rfl
theorem GL{a b:CR}(h:CLe a b):CLe (ny g a) (ny g b):=by
 rcases h with h|h<;>rw[h]
 ·exact .inl rfl
 ·exact .inr rfl
theorem RO(h:IHLe i j){op:Op}{x:Stg LW}(hx:cOp C op=some x):OLe (x.run i d rd t g) (x.run j d rd t g):=by
 unfold cOp at hx
 repeat' (first|split at hx|rw[aa]at hx)
 all_goals first
  | (cases hx;done)
  | (injection hx with hx;subst hx;first|exact .inr rfl|exact A4 h|exact N5 (h.call _ _ _ _)|exact Md h)
theorem DM(h:IHLe i j){op:Op}:OLe ((dC C op).run i d rd t g) ((dC C op).run j d rd t g):=by
 unfold dC
 split
 ·rename_i x hx;exact RO h hx
 ·exact .inl rfl
theorem wk{C:Cfg}(h:IHLe i j){nt:Nat}{all:List Oper}:∀(l:List Oper) (d:Nat) (rd:Option Nat) (t:T) (df:List ADf) (g:G),
  CLe ((jE C nt all l).run i d rd t df g) ((jE C nt all l).run j d rd t df g)
 |[],_,_,_,_,_=>.inr rfl
 | o::rest,d,rd,t,df,g=>by
  unfold jE
  split
  ·split
   ·exact Dr (DM h) λt df g=>wk h rest d rd t df g
   ·split
    ·dsimp only
     split
     ·exact Dr (DM h) λt df g=>wk h rest d rd t df g
     ·exact wk h rest d rd _ df g
     ·exact .inl rfl
    ·exact .inl rfl
  ·exact .inl rfl
theorem Ak{C:Cfg}(h:IHLe i j){nt:Nat}{pm:List Nat}{all:List Oper}:∀(l:List Oper) (k d:Nat) (rd:Option Nat) (t:T) (df:List ADf) (g:G) (fs:List Foot),
  CLe ((iN C nt pm all k l).run i d rd t df g fs) ((iN C nt pm all k l).run j d rd t df g fs)
 |[],_,_,_,_,_,_,_=>.inr rfl
 | o::rest,k,d,rd,t,df,g,fs=>by
  unfold iN
  split
  ·dsimp only
   split
   ·exact Hf (DM h) λt df g fs=>Ak h rest (k+1) d rd t df g fs
   ·exact Ak h rest (k+1) d rd _ df g _
   ·exact .inl rfl
  ·exact .inl rfl
theorem Hw(h:IHLe i j){ops:List Oper}{draw:Bool} :
  CLe ((fW C nt ops draw).run i d rd t df g) ((fW C nt ops draw).run j d rd t df g):=by
 unfold fW;rw[aa,aa,aa]
 split
 ·split
  ·split
   ·exact GL (wk h _ _ _ _ _ _)
   ·exact Ak h _ _ _ _ _ _ _ _
  ·exact .inl rfl
 ·exact wk h _ _ _ _ _ _
theorem GO(h:IHLe i j){id:Nat}:CLe (d_ i nt d rd id t df g) (d_ j nt d rd id t df g):=by
 unfold d_
 split
 ·split
  ·exact .inl rfl
  ·split
   ·exact .inr rfl
   ·exact h.code _ _ _ _ _ _ _
 ·exact .inl rfl
theorem xd(h:IHLe i j){dfr:Nat} :
  CLe (cP C i nt d rd fv ps assign body t df dfr g) (cP C j nt d rd fv ps assign body t df dfr g):=by
 unfold cP
 split
 ·rename_i f first cap
  rw[aa,aa]
  split
  ·exact .inl rfl
  ·rcases h.call d f (first++(.yld g.nx::cap)) (g.new (.loop nt t ps assign body dfr .ready none)) with e|e<;>rw[e]
   ·exact .inl rfl
   ·split
    ·exact GO h
    ·exact .inl rfl
 ·exact .inl rfl
theorem Lo(h:IHLe i j){fo:T->AV} :
  CLe (nz C nt fo ps assign body i d rd t df g) (nz C nt fo ps assign body j d rd t df g):=by
 unfold nz
 split
 ·split
  ·exact xd h
  ·exact .inl rfl
 ·exact xd h
theorem Fk(h:IHLe i j):∀(c:Code) (d:Nat) (rd:Option Nat) (t:T) (df:List ADf) (g:G),
  CLe ((aU C nt c).run i d rd t df g) ((aU C nt c).run j d rd t df g):=by
 intro c
 induction c with
 |seq a b iha ihb=>intro d rd t df g;unfold aU;exact Ke (iha _ _ _ _ _) λt df g=>ihb _ _ _ _ _
 | cond q a b iha ihb =>
  intro d rd t df g;unfold aU
  split
  ·dsimp only
   split
   ·rw[aa,aa]
    split
    ·exact iha _ _ _ _ _
    ·exact ihb _ _ _ _ _
   ·exact .inl rfl
  ·exact .inl rfl
 |block id body ih=>intro d rd t df g;unfold aU;exact KE (ih _ _ _ _ _)
 |loop body ih=>intro d rd t df g;unfold aU;exact Ke (ih _ _ _ _ _) λt df g=>h.code _ _ _ _ _ _ _
 |scope body ih=>intro d rd t df g;unfold aU;exact ih _ _ _ _ _
 |region p ops draw=>intro d rd t df g;unfold aU;exact Hw h
 | rangeFunc f ps assign body _ _ =>
  intro d rd t df g;unfold aU
  split
  ·exact Lo h
  ·exact .inl rfl
 |_=>intro d rd t df g;first|exact .inr rfl|exact .inl rfl
def ULe(a b:Option G):Prop:=a=none\/a=b
theorem OE(h:IHLe i j):∀(l:List ADf) (g:G),ULe (gD i d l g) (gD j d l g):=by
 intro l
 induction l with
 |nil=>intro g;exact .inr rfl
 | cons a l ih =>
  intro g;cases a with
  | mark id =>
   simp only[gD]
   split
   ·exact ih _
   ·exact .inl rfl
  | call fv args =>
   cases fv with
   | clo f first cap =>
    simp only[gD];rcases h.call d f (first++(args++cap)) g with e|e<;>rw[e]
    ·exact .inl rfl
    ·split
     ·exact ih _
     ·exact .inl rfl
   |_=>exact .inl rfl
theorem HG(h:IHLe i j){res:T->G->Option (List AV)}:FLe (h_ i d res t df g) (h_ j d res t df g):=by
 unfold h_;rcases OE h (d:=d) df g with e|e<;>rw[e]
 ·exact .inl rfl
 ·exact .inr rfl
theorem Fp(h:IHLe i j):FLe (eK C i d f args g) (eK C j d f args g):=by
 unfold eK
 split
 ·rename_i x hx;unfold cFn at hx
  split at hx
  ·cases hx
  rename_i fn b
  split at hx
  ·cases hx
  rename_i c k
  split at hx
  rotate_left
  ·cases hx
  rename_i r a;rw[aa]at hx
  split at hx
  ·cases hx
  injection hx with hx;subst hx;dsimp only;rw[aa,aa]
  split
  ·rcases Fk h (C:=C) (nt:=fn.ntmps) c d none (cD 0 args .nil) [] g with e|e<;>rw[e]
   ·exact .inl rfl
   ·split
    ·exact .inl rfl
    ·exact HG h
    ·exact .inl rfl
  ·exact .inl rfl
 ·exact .inl rfl
theorem LH(h:IHLe i j):IHLe (Iq C i) (Iq C j) :=
 ⟨λnt d rd c t df g=>Fk h c d rd t df g,λd f as g=>Fp h⟩
theorem yY(C:Cfg):∀n,IHLe (sem C n) (sem C (n+1))
 |0=>⟨λ_ _ _ _ _ _ _=>.inl rfl,λ_ _ _ _=>.inl rfl⟩
 |n+1=>LH (yY C n)
theorem OI(C:Cfg)(h:n<=m):IHLe (sem C n) (sem C m):=by
 induction h with
 |refl=>exact⟨λ_ _ _ _ _ _ _=>.inr rfl,λ_ _ _ _=>.inr rfl⟩
 | @step k h ih =>
  have s:=yY C k;refine⟨λnt d rd c t df g=>?_,λd f as g=>?_⟩
  ·rcases ih.code nt d rd c t df g with e|e
   ·exact .inl e
   ·rw[e];exact s.code _ _ _ _ _ _ _
  ·rcases ih.call d f as g with e|e
   ·exact .inl e
   ·rw[e];exact s.call _ _ _ _
end
end
end Hx
