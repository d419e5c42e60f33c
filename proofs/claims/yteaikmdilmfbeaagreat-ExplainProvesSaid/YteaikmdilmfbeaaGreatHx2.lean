/- A part of the proof. -/
import Derived.DeepKeys3
import Derived.Test.YteaikmdilmfbeaaGreatHx1
set_option linter.all false
set_option maxRecDepth 20000
set_option maxHeartbeats 8000000
namespace Hx
open Go
noncomputable section
variable {g g' g1:G}{d nt n f m:Nat}{t t':T}{df df':List Xo}{rd:Option Nat}{x y fv:AV}{v vm:Value}{ty e:TypeId}{args:List AV}{C:Xg}{P:Program}{ps:List Nat}{assign body:Code}{r:OR}{xs:Array Value}{op:Op}
section
variable {C:Xg}{A:Nat->Nat->Prop}{bd:Nat}{w w':World}{γ γ':Gm}{hg:Nat->Xh}{nx:Nat}
def Jr(w:World)(γ:Gm)(A:Nat->Nat->Prop)(bd:Nat):Option AV->Option Value->Prop
 |none,none=>True
 |some x,some v=>RV w γ A bd x v
 |_,_=>False
def Qs{xs:List AV}{vs:List Value}(h:Wa w γ A bd xs vs):Jr w γ A bd xs.head? vs.head?:=by
 cases xs with
 | nil=>cases vs with
  |nil=>trivial
  |cons v vs=>have:=h.1;simp at this
 | cons x xs=>cases vs with
  |nil=>have:=h.1;simp at this
  |cons v vs=>exact h.2 0 x v rfl rfl
def zS{lim:Nat}(h:cd lim x=some n):n<=lim:=by
 unfold cd at h
 split at h
 ·rw[aa]at h
  split at h
  ·rename_i hl;rw[Yt]at hl;injection h with h;omega
  ·cases h
 ·cases h
def nR{x:Option AV}(h:aS 0 0 x=some n):n=0:=by
 cases x with
 |none=>simp[aS]at h;omega
 |some z=>have:=zS h;omega
def dC{lim y:Nat}{code:BoundsCode}(h:cd lim x=some n)(hv:RV w γ A bd x v)(hy:lim<=y) :
  (Instr.sliceBound v y code).run P w=.ok n w/\n<=lim:=by
 obtain⟨h1,k,rfl⟩:=zT h hv;refine⟨?_,h1⟩;unfold Instr.sliceBound;simp only[asIntOf,Yb,Yu,XT];rw[dk];simp
theorem dO{isSlice:Bool}{len cap:Nat}{lo hi mx:Option AV}{lv hv mv:Option Value}{l h limM lh:Nat}
  (hlo:Jr w γ A bd lo lv) (hhi:Jr w γ A bd hi hv) (hmx:Jr w γ A bd mx mv) (hm:mx=none->m=cap) (hm':mx≠none->aS d limM mx=some m/\limM<=cap)
  (hmh:mx≠none->hi≠none) (hh:aS len lh hi=some h) (hlh:lh<=m) (hl:aS 0 h lo=some l) :
  (Instr.sliceBounds isSlice len cap lv hv mv).run P w=.ok (l,h,m) w/\l<=h/\(hi=none/\h=len\/h<=lh):=by
 have H:l<=h/\∀code,(match lv with|some v=>Instr.sliceBound v h code|none=>pure 0:Sem Nat).run P w=.ok l w:=by
  cases lo with
  | none =>
   cases lv with
   |none=>simp[aS]at hl;subst hl;exact⟨Yi _,λ_=>rfl⟩
   |some v=>cases hlo
  | some x =>
   cases lv with
   |none=>cases hlo
   |some v=>exact⟨(dC (code:=.index) (P:=P) hl hlo (XH _)).2,λcode=>(dC hl hlo (XH _)).1⟩
 obtain⟨H1,H2⟩:=H;cases mx with
 | none =>
  cases mv with
  |some v=>cases hmx
  | none =>
   have:=hm rfl;subst this;cases hi with
   | none =>
    cases hv with
    |some v=>cases hhi
    | none =>simp[aS]at hh;subst hh;refine⟨?_,H1,.inl ⟨rfl,rfl⟩⟩;have h2:=H2 .sliceB;unfold Instr.sliceBounds;cases lv<;>simp_all
   | some x =>
    cases hv with
    |none=>cases hhi
    | some v =>have h3:=λcode=>(dC (P:=P) (code:=code) hh hhi hlh).1;refine⟨?_,H1,.inr (dC (P:=P) (code:=.index) hh hhi hlh).2⟩;have h2:=H2 .sliceB;unfold Instr.sliceBounds;cases lv<;>simp_all
 | some xm =>
  cases mv with
  |none=>cases hmx
  | some vm =>
   obtain⟨k,a⟩:=hm' (by simp);have h4:=λcode=>(dC (P:=P) (code:=code) k hmx a).1;cases hi with
   |none=>exact absurd rfl (hmh (by simp))
   | some x =>
    cases hv with
    |none=>cases hhi
    | some v =>have h3:=λcode=>(dC (P:=P) (code:=code) hh hhi hlh).1;refine⟨?_,H1,.inr (dC (P:=P) (code:=.index) hh hhi hlh).2⟩;have h2:=H2 .slice3C;unfold Instr.sliceBounds;cases lv<;>simp_all
def nO{sz len cap l h:Nat}{a:Option Addr}{lv hv mv:Option Value}(hu:C.P.underlying ty=some (.slice e))(hsz:Wx C.P e=some sz)
  (hb:(Instr.sliceBounds true len cap lv hv mv).run C.P w=.ok (l,h,m) w) :
  (Instr.sliceAt ty (.slice a len cap) lv hv mv).run C.P w=.ok (.slice (if m=l then a else a.map (·.add (l*sz))) (h - l) (m - l)) w:=by
 unfold Instr.sliceAt Instr.slice;simp[aN hu,hb,bH hsz]
def Ez{sz:Nat}{lo hi mx:Option AV}{lv hv mv:Option Value}
  (hr:W4 C A bd w γ hg nx) (hu:C.P.underlying ty=some (.slice e)) (hsz:Wx C.P e=some sz) (hx:RV w γ A bd x v)
  (hlo:Jr w γ A bd lo lv) (hhi:Jr w γ A bd hi hv) (hmx:Jr w γ A bd mx mv) (hmh:mx≠none->hi≠none) (agree:∀id∈aw x,hg id=g.h.get id) :
  WP C A bd w γ (Instr.sliceAt ty v lv hv mv) (VW (ip sz x lo hi mx g.h)):=by
 refine qr λy k=>?_;have zero:∀(a:Option Addr),v=.slice a 0 0->∀p q r,aS 0 0 lo=some p->aS 0 0 hi=some q->aS 0 0 mx=some r ->
   (Instr.sliceAt ty v lv hv mv).run C.P w=.ok (.slice a 0 0) w:=by
  intro a J p q r h1 h2 h3;subst J;have T:=nR h3;have S:=nR h2;have hp0:=nR h1;subst T;subst S;subst hp0;obtain⟨b1,b2,K⟩:=dO (P:=C.P) (isSlice:=true) (len:=0) (cap:=0) (l:=0) (h:=0) (m:=0) hlo hhi hmx (λ_=>rfl) (λ_=>⟨h3,XH _⟩) hmh h2 (XH _) h1;rw[nO hu hsz b1];simp
 unfold ip at k;cases hx with
 | XC =>
  dsimp only at k
  split at k
  ·rename_i p q r h1 h2 h3;injection k with k;subst k;exact⟨_,zero none rfl p q r h1 h2 h3,.XC _⟩
  ·cases k
 | Wd _ a =>
  dsimp only at k
  split at k
  ·rename_i p q r h1 h2 h3;injection k with k;subst k;exact⟨_,zero (some a) rfl p q r h1 h2 h3,.Wd _ a⟩
  ·cases k
 | Wt _ tag sz' a cap ht =>
  cases mx with
  | none =>
   cases mv with
   |some z=>cases hmx
   | none =>
    dsimp only at k
    split at k
    ·cases k
    ·rename_i h L
     split at k
     ·cases k
     ·rename_i l hl;simp only[aa]at k
      split at k
      ·injection k with k;subst k;have M:(bD ([]:List (List AV)))=0:=rfl;rw[M]at L;obtain⟨b1,b2,K⟩:=dO (P:=C.P) (isSlice:=true) (len:=0) (cap:=cap) (d:=0) (limM:=0) hlo hhi hmx (λ_=>rfl) (λh=>absurd rfl h) hmh L (Yi _) hl;have e1:h=0:=by omega
       have e2:l=0:=by omega
       subst e1;subst e2;refine⟨_,nO hu hsz b1,?_⟩;have e3:h_ (0 - 0) (gG 0 ([]:List (List AV)))=[]:=by simp[bI]
       rw[e3]
       by_cases hc:cap=0
       ·rw[XO hc];exact .Wt _ tag sz a _ ht
       ·rw[XS hc];exact .Wt _ tag sz _ _ ht
      ·cases k
  | some xm =>
   dsimp only at k;cases mv with
   |none=>cases hmx
   | some vm =>
    split at k
    ·rename_i p q r h1 h2 h3;injection k with k;subst k;have e1:p=0:=by have:=zS h1;omega
     subst e1;obtain⟨b1,b2,K⟩:=dO (P:=C.P) (isSlice:=true) (len:=0) (cap:=cap) (d:=0) (limM:=0) (m:=0) hlo hhi hmx (λh=>by cases h) (λ_=>⟨h1,Yi _⟩) hmh h2 (XH _)
      (by rw[nR h2];exact h3)
     have e1:q=0:=by omega
     have e2:r=0:=by omega
     subst e1;subst e2;refine⟨_,nO hu hsz b1,?_⟩;simpa using RV.Wd _ a
    ·cases k
 | WO _ tag sz' rows b o cap cell ht hc hb hm ha hrl ho hw hcell hcl =>
  cases mx with
  | none =>
   cases mv with
   |some z=>cases hmx
   | none =>
    simp only[ay,bI,bK]at k
    split at k
    ·cases k
    ·rename_i h L
     split at k
     ·cases k
     ·rename_i l hl;simp only[aa]at k
      split at k
      ·rename_i E;have E:=ba E;subst E;injection k with k;subst k;obtain⟨b1,b2,K⟩:=dO (P:=C.P) (isSlice:=true) (len:=rows.length) (cap:=cap) (d:=0) (limM:=0) hlo hhi hmx (λ_=>rfl) (λh=>absurd rfl h) hmh L hc hl;have e1:h<=rows.length:=by omega
       refine⟨_,nO hu hsz b1,?_⟩;have t:((rows.drop l).take (h - l)).length=h - l:=by simp;omega
       by_cases hc0:cap=l
       ·rw[XO hc0];have e2:h - l=0:=by omega
        rw[e2,aaR];exact .Wt _ tag sz _ _ ht
       ·rw[XS hc0];simp only[YR,jL];have:=RV.WO (w:=w) (γ:=γ) (A:=A) bd tag sz ((rows.drop l).take (h - l)) b (o+l*sz) (cap - l) (λi j=>cell (l+i) j) ht (by rw[t];omega) hb hm ha
         (λi row hi=>?_) (λi j row x hi hj=>?_) (λi j row x hi hj=>?_) (λi j row x hi hj=>?_) (λrow hrow=>hcl row (Y2 (Ym hrow)))
        ·rwa [t]at this
        all_goals
         have s:=hi;rw[ZC,]at s
         split at s
         ·rw[YH]at s
          first
          |exact hrl _ _ s
          |exact ho _ _ _ _ s hj
          |exact hcell _ _ _ _ s hj
          | (have:=hw _ _ _ _ s hj
             rwa [show o+l*sz+i*sz+j=o+(l+i)*sz+j from by rw[Yk];omega])
         ·cases s
      ·cases k
  | some xm =>
   dsimp only at k;cases mv with
   |none=>cases hmx
   | some vm =>
    split at k
    ·rename_i p q r h1 h2 h3;injection k with k;subst k;have e1:p=0:=by have:=zS h1;omega
     subst e1;cases hi with
     |none=>exact absurd rfl (hmh (by simp))
     | some z =>
      cases hv with
      |none=>cases hhi
      | some vh =>
       have e0:=nR h2;subst e0;obtain⟨b1,b2,K⟩:=dO (P:=C.P) (isSlice:=true) (len:=rows.length) (cap:=cap) (d:=0) (limM:=0) (m:=0) (lh:=0) (h:=0) hlo hhi hmx (λh=>by cases h) (λ_=>⟨h1,Yi _⟩) hmh h2 (XH _) h3;have e2:r=0:=by omega
       subst e2;refine⟨_,nO hu hsz b1,?_⟩;simpa using RV.Wd _ _
    ·cases k
 | Xj _ id ep off len lim b0 o0 cap0 hk he hc0 h0 =>
  have F:=agree id (by simp[aw]);dsimp only at k;rw[<-F]at k;cases hid:hg id with
  | cells sz' rows ep' loose fz =>
   rw[hid]at k;simp only[aa,ay]at k
   split at k
   ·rename_i f;simp only[XM,Yt]at f;obtain⟨⟨h1,h2⟩,h3⟩:=f;have h1:=ba h1;have h2:=ba h2;subst h1;subst h2;obtain⟨cap,J,W,n⟩:=PD hr (RV.Xj bd id ep off len lim b0 o0 cap0 hk he hc0 h0) hid;rw[J];have O:=hr.obj id;rw[hid]at O;obtain⟨X,k2,Y,Z,k5,_⟩:=O
    split at k
    ·cases k
    ·rename_i m hm
     split at k
     ·cases k
     ·rename_i h L
      split at k
      ·cases k
      ·rename_i l hl
       let u:=lim.getD (rows.length - off)
       have N:u<=cap:=by unfold ni at n;cases lim<;>simp only[u,Option.getD]at *<;>omega
       have D:lim≠none\/loose=false->cap=u:=by
        unfold ni at n;intro h;cases lim with
        |none=>simp at h;have:=k5.1 h;simp only[u,Option.getD];dsimp only at n;omega
        |some c=>simp only[u,Option.getD];exact n.1
       have R:mx≠none->m<=u:=by
        intro h;cases mx with
        |none=>exact absurd rfl h
        | some z=>cases mv with
         |none=>cases hmx
         |some zv=>exact zS hm
       have I:mx=none->m=u:=by intro h;subst h;simp[aS]at hm;exact hm.symm
       let mR:=if mx=none then cap else m
       have Q:m<=mR:=by
        simp only[mR];split
        ·rename_i h;rw[I h];exact N
        ·exact XH _
       obtain⟨b1,b2,K⟩:=dO (P:=C.P) (isSlice:=true) (len:=len) (cap:=cap) (d:=u) (limM:=u) (m:=mR) (lh:=m) hlo hhi hmx
        (λh=>by simp[mR,h]) (λh=>⟨by simp only[mR,XS h];exact hm,N⟩) hmh L Q hl
       refine⟨_,nO hu hsz b1,?_⟩;have t:len<=u:=by
        unfold ni at n;cases lim with
        |none=>simp only[u,Option.getD];omega
        |some c=>simp only[u,Option.getD];omega
       have V:h<=m:=by
        rcases K with⟨e1,e2⟩|e1
        ·have:mx=none:=by
          cases mx with
          |none=>rfl
          |some z=>exact absurd e1 (hmh (by simp))
         rw[I this,e2];exact t
        ·exact e1
       split at k
       ·rename_i B;have B:=ba B;subst B;have e1:h=m:=by omega
        subst e1
        split at k
        ·rename_i f;injection k with k;subst k;have e2:mR=h:=by
          simp only[mR];split
          ·rename_i H;rw[D,I H];subst H;simp at f;cases lim with
           |none=>right;simpa using f
           |some c=>left;simp
          ·rfl
         rw[XO e2,e2,YN];exact .Wd _ _
        ·injection k with k;subst k;rw[YN]
         by_cases h9:mR=h
         ·rw[XO h9];exact .Wt _ 0 sz _ _ (Yi _)
         ·rw[XS h9];exact .Wt _ 0 sz _ _ (Yi _)
       ·rename_i B;injection k with k;subst k;have hlt:l<m:=by
         rcases ZN l m with h9|h9
         ·exact h9
         ·exact absurd (by rw[show m=l from by omega];exact Yl l) B
        rw[XS (show ¬mR=l by omega)];simp only[YR,jL];refine .Xj _ id ep (off+l) (h - l) _ _ _ _ X (by omega) (by omega) λ_=>⟨rfl,by rw[Y,Yk];omega,?_⟩;cases mx with
        | some z =>
         have e3:mR=m:=by simp[mR]
         have U:=R (by simp);simp only[ni];rw[e3,Z];unfold ni at n;cases lim with
         |none=>simp only[u,Option.getD]at U;omega
         |some c=>simp only[u,Option.getD]at U;dsimp only at n;omega
        | none =>
         have e3:mR=cap:=by simp[mR]
         unfold ni at n ⊢;cases lim with
         |none=>dsimp only[Option.map]at n ⊢;omega
         |some c=>dsimp only[Option.map]at n ⊢;omega
   ·cases k
  |_=>rw[hid]at k;cases k
 |_=>cases k
end
section
variable {C:Xg}{A:Nat->Nat->Prop}{bd:Nat}{w w':World}{γ γ':Gm}{hg:Nat->Xh}{nx:Nat}
def Cq{α:Type}{f:α->Option Nat}:∀{l:List α} {m:Nat},il f l=some m->∀x∈l,∃k,f x=some k/\k<=m:=by
 intro l
 induction l with
 |nil=>intro m _ x hx;cases hx
 | cons a l ih =>
  intro m h x hx;simp only[il]at h
  split at h
  ·rename_i k hk
   split at h
   ·rename_i b hb;cases h;rcases Yh.1 hx with rfl|hx
    ·exact⟨k,hk,Y_ _ _⟩
    ·let⟨k',h1,h2⟩:=ih hb x hx;exact⟨k',h1,Ya h2 (Zx _ _)⟩
   ·cases h
  ·cases h
def Hy:∀(f:Nat) {x:AV} {v:Value} {m:Nat},gg f x=some m->RV w γ A bd x v->RV w γ A m x v:=by
 intro f
 induction f with
 |zero=>intro x v m h;cases h
 | succ f ih =>
  intro x v m h hx;have hs:∀{cs:List AV} {vs:Array Value} {m':Nat},il (gg f) cs=some m'->m'<=m ->
    (∀(i:Nat) x v,cs[i]?=some x->vs[i]?=some v->RV w γ A bd x v)->∀(i:Nat) x v,cs[i]?=some x->vs[i]?=some v->RV w γ A m x v:=by
   intro cs vs m' h1 h2 h3 i x v hi hv;let⟨k,c,k2⟩:=Cq h1 x (XL hi);exact (ih c (h3 i x v hi hv)).mono (Ya k2 h2)
  cases hx with
  | WO _ tag sz rows b o cap cell ht hc hb hm ha hrl ho hw hcell hcl =>simp only[gg]at h;injection h with h;subst h;exact .WO _ tag sz rows b o cap cell (XH _) hc hb hm ha hrl ho hw hcell hcl
  | Wt _ tag sz a cap ht =>simp only[gg]at h;injection h with h;subst h;exact .Wt _ tag sz a cap (XH _)
  | Xn _ tag sz rows i0 Wg b o cell ht hb hm ha hrl ho hw hcell hcl =>simp only[gg]at h;injection h with h;subst h;exact .Xn _ tag sz rows i0 Wg b o cell (XH _) hb hm ha hrl ho hw hcell hcl
  |agg _ xs vs hl h1 h2=>exact .agg _ _ _ hl h1 (hs h (XH _) h2)
  |WM _ xs vs hl h2=>exact .WM _ _ _ hl (hs h (XH _) h2)
  | W_ _ g xs ys vs us hl hl2 h1 h2 =>
   simp only[gg]at h;have ha:=Cq h;refine .W_ _ g xs ys vs us hl hl2 (λi x v hi hv=>?_) (λi x v hi hv=>?_)
   ·let⟨k,c,k2⟩:=ha x (ZE _ (XL hi));exact (ih c (h1 i x v hi hv)).mono k2
   ·let⟨k,c,k2⟩:=ha x (ZA _ (XL hi));exact (ih c (h2 i x v hi hv)).mono k2
  |V9 _ t x v h1=>exact .V9 _ t x v (ih h h1)
  |bool=>exact .bool _ _
  |int=>exact .int _ _ _
  |str=>exact .str _ _
  |WQ=>exact .WQ _
  |XC=>exact .XC _
  |WT=>exact .WT _
  |V8=>exact .V8 _
  |WB=>exact .WB _
  |Wd _ a=>exact .Wd _ a
  |Xj _ id ep off len lim b o cap hk he hc h'=>cases h
  |W9 _ id ep i off b o hk he h'=>cases h
  |hmap _ id b hk hb=>cases h
  |VZ _ id b hk hb=>cases h
def jq{α:Type}{f:α->Option Nat}{b:Nat}:∀{l:List α} {m:Nat},il f l=some m->(∀x∈l,∀k,f x=some k->k<=b)->m<=b:=by
 intro l
 induction l with
 |nil=>intro m h _;simp[il]at h;omega
 | cons a l ih =>
  intro m h hb;simp only[il]at h
  split at h
  ·rename_i k hk
   split at h
   ·rename_i b' c;cases h;exact Or.2 ⟨hb a YQ k hk,ih c λx hx=>hb x (Yw _ hx)⟩
   ·cases h
  ·cases h
def Hw:∀(f:Nat) {x:AV} {v:Value} {m:Nat},gg f x=some m->RV w γ A bd x v->m<=bd:=by
 intro f
 induction f with
 |zero=>intro x v m h;cases h
 | succ f ih =>
  intro x v m h hx;have hs:∀{cs:List AV} {vs:Array Value},cs.length=vs.size ->
    (∀(i:Nat) x v,cs[i]?=some x->vs[i]?=some v->RV w γ A bd x v)->∀x∈cs,∀k,gg f x=some k->k<=bd:=by
   intro cs vs hl h3 x hx k hk;let⟨i,hi⟩:=Yd hx;have hlt:i<vs.size:=by rw[<-hl];exact (XI.1 hi).1
   exact ih hk (h3 i x _ hi (Yn hlt))
  cases hx with
  |WO _ tag sz rows b o cap cell ht hc hb hm ha hrl ho hw hcell hcl=>simp only[gg]at h;injection h with h;omega
  |Wt _ tag sz a cap ht=>simp only[gg]at h;injection h with h;omega
  |Xn _ tag sz rows i0 Wg b o cell ht hb hm ha hrl ho hw hcell hcl=>simp only[gg]at h;injection h with h;omega
  |agg _ xs vs hl h1 h2=>exact jq h (hs hl h2)
  |WM _ xs vs hl h2=>exact jq h (hs hl h2)
  | W_ _ g xs ys vs us hl hl2 h1 h2 =>
   refine jq h λx hx k hk=>?_;rcases Yf.1 hx with hx|hx
   ·exact hs hl h1 x hx k hk
   ·exact hs hl2 h2 x hx k hk
  |V9 _ t x v h1=>exact ih h h1
  |_=>first| (cases h;done)| (simp only[gg]at h;injection h with h;omega)
def EF{rows:List (List AV)}{i j:Nat}{row:List AV}(h:jf rows=some m)(hi:rows[i]?=some row)(hj:row[j]?=some x)
  (hv:RV w γ A bd x v):RV w γ A m x v:=by
 let⟨k,a,k2⟩:=Cq h row (XL hi);let⟨k',b,c⟩:=Cq a x (XL hj);exact (Hy _ b hv).mono (Ya c k2)
def W4.freeze(hr:W4 C A bd w γ hg nx){id sz ep:Nat}{rows:List (List AV)}{loose fz:Bool}(hid:hg id=.cells sz rows ep loose fz) :
  ∃γ',W4 C A bd w γ' (upd hg id (.cells sz rows ep loose true)) nx/\Stp w γ w γ'/\γ'=upd γ id { γ id with wr:=false }/\¬Nc γ' (γ id).blk:=by
 have h:=hr.obj id;rw[hid]at h;let⟨k,k2,f,l,m,q,c,e,n,o,p,d⟩:=h;have s:Stp w γ w (upd γ id { γ id with wr:=false }):=by
  refine⟨XH _,rfl,rfl,rfl,λ_ _ _=>rfl,?_,?_,?_,XH _⟩
  ·rintro b _ ⟨j,h1,h2,h3⟩
   by_cases hj:j=id
   ·subst hj;simp at h2
   ·rw[dD _ _ hj]at h1 h2 h3;exact⟨j,h1,h2,h3⟩
  ·intro j hk
   by_cases hj:j=id
   ·subst hj;left;simp
   ·rw[dD _ _ hj];exact .inl ⟨rfl,rfl⟩
  ·intro j hk
   by_cases hj:j=id
   ·subst hj;simp
   ·rw[dD _ _ hj];exact⟨XH _,λ_=>⟨rfl,rfl,rfl,rfl,rfl⟩⟩
 refine⟨_,hr.set rfl s (XH _) ?_ (hr.lt id (by rw[k];decide)) (λj hj hkj e=>hj (hr.inj j id hkj (by rw[k];decide) e)) (hr.av id (by rw[k];decide)) (λ_ _ _ _=>rfl),s,rfl,?_⟩
 ·simp only[WC,upd_same];refine⟨k,k2,f,l,m,rfl,c,e,n,o,p,λi j row x h1 h2=>?_⟩;let⟨a,v,b1,b2⟩:=d i j row x h1 h2;exact⟨a,v,b1,b2.step s⟩
 ·rintro⟨j,h1,h2,h3⟩
  by_cases hj:j=id
  ·subst hj;simp at h2
  ·rw[dD _ _ hj]at h1 h2 h3;exact hj (hr.inj j id h1 (by rw[k];decide) h3)
def Hn{sz:Nat}{a:T->AV}{lo hi:T->Option AV}{lv hv:Option Value}
  (hr:W4 C A bd w γ hg nx) (hu:C.P.underlying ty=some (.array n e)) (hsz:Wx C.P e=some sz) (hs0:0<sz) (hx:RV w γ A bd (a t) v)
  (hlo:Jr w γ A bd (lo t) lv) (hhi:Jr w γ A bd (hi t) hv) (agree:∀id∈aw (a t),hg id=g.h.get id) :
  dE C A bd w γ hg nx (Instr.sliceAt ty v lv hv none) g (nN n sz a lo hi t g):=True.intro
end
section
variable {C:Xg}{A:Nat->Nat->Prop}{bd:Nat}{w w':World}{γ γ':Gm}{hg:Nat->Xh}{nx:Nat}
def lW{s:Sem Value}(h:tc s=some y)(P:Program)(w:World):∃v,s.run P w=.ok v w/\RV w γ A bd y v:=by
 unfold tc at h
 split at h
 ·cases h;exact⟨_,rfl,.int _ _ _⟩
 ·cases h;exact⟨_,rfl,.bool _ _⟩
 ·cases h
def JX{op:BinOp}{k:IntKind}{r:Nat}(hs:nG k m n=true)
  (h:(match op with
    |.and=>some (AV.int k (.ofNat (Nat.land m n)))
    |.or=>some (.int k (.ofNat (Nat.lor m n)))
    |.xor=>some (.int k (.ofNat (Nat.xor m n)))
    |.andNot=>some (.int k (.ofNat (Nat.xor m (Nat.land m n))))
    |_=>none)=some (.int k (.ofNat r))):(Op.intBits op k (.ofNat m) (.ofNat n)).run P w=.ok (.int k (.ofNat r)) w:=by
 have b:k.bits=64/\m<2 ^ 64/\n<2 ^ 64/\∀x:Nat,x<2 ^ 64->(k=.i64->x<2 ^ 63)->k.wrap (x:Int)=(x:Int):=by
  unfold nG at hs;cases k<;>simp only[XM,YM,ZR]at hs
  ·exact⟨rfl,by omega,by omega,λx _ h=>uz x (by have:=h rfl;omega)⟩
  ·refine⟨rfl,by omega,by omega,λx h _=>?_⟩;rw[<-jc];show (Int.ofNat (x % 18446744073709551616))=_;rw[Z8 (by omega)];rfl
 have a:k=.i64->m<2 ^ 63/\n<2 ^ 63:=by intro e;subst e;simp only[nG,XM,YM]at hs;omega
 let⟨hb,hm,c,hw⟩:=b;have e1:(BitVec.ofInt k.bits (Int.ofNat m)).toNat=m:=by rw[hb];simp only[Y6,BitVec.ofInt_natCast,BitVec.toNat_ofNat];exact Z8 hm
 have e2:(BitVec.ofInt k.bits (Int.ofNat n)).toNat=n:=by rw[hb];simp only[Y6,BitVec.ofInt_natCast,BitVec.toNat_ofNat];exact Z8 c
 have fin:∀(z:BitVec k.bits) (q:Nat),z.toNat=q->q<2 ^ 64->(k=.i64->q<2 ^ 63)->q=r ->
   (Sem.pure (Value.int k (k.wrap z.toNat)):Sem Value).run P w=.ok (.int k (.ofNat r)) w:=by
  intro z q h1 h2 h3 h4;rw[h1,hw q h2 h3,h4];rfl
 unfold Op.intBits;cases op<;>first| (cases h;done)|skip
 case and =>injection h with h;injection h with _ h;injection h with h;exact fin _ (m &&& n) (by rw[BitVec.toNat_and,e1,e2]) (aaH _ c) (λe=>aaH _ (a e).2) h
 case or =>injection h with h;injection h with _ h;injection h with h;exact fin _ (m ||| n) (by rw[BitVec.toNat_or,e1,e2]) (aaU hm c) (λe=>aaU (a e).1 (a e).2) h
 case xor =>injection h with h;injection h with _ h;injection h with h;exact fin _ (m ^^^ n) (by rw[BitVec.toNat_xor,e1,e2]) (aaK hm c) (λe=>aaK (a e).1 (a e).2) h
 case andNot =>
  injection h with h;injection h with _ h;injection h with h;have hx:∀(x y:BitVec k.bits),x &&& ~~~y=x ^^^ (x &&& y):=by intro x y;ext i hi;simp only[BitVec.getElem_and,BitVec.getElem_not,BitVec.getElem_xor];cases x[i]<;>cases y[i]<;>rfl
  exact fin _ (m ^^^ (m &&& n)) (by rw[hx,BitVec.toNat_xor,BitVec.toNat_and,e1,e2]) (aaK hm (aaH _ c))
   (λe=>aaK (a e).1 (aaH _ (a e).2)) h
def Kh{op:BinOp}{k k':IntKind}{a b:Int}(h:(fZ op).run k a k' b=some y) :
  ∃v,(binOp op ty (.int k a) (.int k' b)).run P w=.ok v w/\RV w γ A bd y v:=by
 have hk:∀{α:Type} {x:Option α} {y:α},ax (dA k k') x none=some y->k=k'/\x=some y:=by
  intro α x y h;rw[aa,FV]at h
  split at h
  ·rename_i h1;exact⟨by simpa using h1,h⟩
  ·cases h
 cases op
 case add|sub|mul =>obtain⟨rfl,h1⟩:=hk h;cases h1;refine⟨_,by simp only[binOp,Op.intArith,ne_eq,not_true,if_false];rfl,?_⟩;rw[jc];exact .int _ _ _
 case quo =>
  obtain⟨rfl,h1⟩:=hk h;clear h;unfold SJ at h1;simp only[binOp,ne_eq,not_true,if_false]
  split at h1
  ·rename_i m n;cases h1;refine⟨_,?_,by rw[jc];exact .int _ _ _⟩;unfold Op.intDiv;rw[XS (by simp only[Y6];omega)]
   rfl
  ·exact lW h1 P w
 case rem =>
  obtain⟨rfl,h1⟩:=hk h;clear h;unfold SV at h1;simp only[binOp,ne_eq,not_true,if_false]
  split at h1
  ·rename_i m n;cases h1;refine⟨_,?_,.int _ _ _⟩;unfold Op.intDiv;rw[XS (by simp only[Y6];omega)]
   rfl
  ·exact lW h1 P w
 case and|or|xor|andNot =>
  obtain⟨rfl,h1⟩:=hk h;clear h;unfold Tp at h1;simp only[binOp,ne_eq,not_true,if_false]
  split at h1
  ·rename_i m n;rw[aa]at h1
   split at h1
   ·rename_i hs;have h0:=h1;cases h1;exact⟨_,JX hs h0,.int _ _ _⟩
   ·exact lW h1 P w
  ·exact lW h1 P w
 case shl =>
  change Q4 k a b=some y at h;unfold Q4 at h;simp only[binOp]
  split at h
  ·rename_i m n;cases h;refine⟨_,?_,by rw[jc];exact .int _ _ _⟩;unfold Op.shift;rw[XS (by simp only[Y6];omega)];have:(Int.ofNat n).toNat=n:=rfl;simp only[this,Yu];congr 3
  ·exact lW h P w
 case shr =>
  change Q5 k a b=some y at h;unfold Q5 at h;simp only[binOp]
  split at h
  ·rename_i m n;cases h;refine⟨_,?_,.int _ _ _⟩;unfold Op.shift;rw[XS (by simp only[Y6];omega)];have:(Int.ofNat n).toNat=n:=rfl;simp only[this,Yu];congr 2;have e:(2:Int) ^ (min n k.bits)=((2 ^ (min n k.bits):Nat):Int):=by simp
   rw[e,Int.fdiv_eq_ediv_of_nonneg _ (ZS _)]
   rfl
  ·exact lW h P w
 all_goals
  obtain⟨rfl,h1⟩:=hk h;cases h1;refine⟨_,by simp only[binOp,Op.intCmp,ne_eq,not_true,if_false];rfl,?_⟩;simp only[Cp,nD,WU]
 case eql=>exact .bool _ _
 case neq =>rw[show (a != b) = !decide (a=b) from by simp[bne];rfl];exact .bool _ _
 case lss=>exact .bool _ _
 case leq =>rw[show decide (a<=b) = !decide (b<a) from by rw[Z0];simp];exact .bool _ _
 case gtr=>exact .bool _ _
 case geq =>rw[show decide (a >= b) = !decide (a<b) from by rw[Z0];simp];exact .bool _ _
end
section
variable {C:Xg}{A:Nat->Nat->Prop}{bd:Nat}{w w':World}{γ γ':Gm}{hg:Nat->Xh}{nx:Nat}
def yO{b:Nat}{o:Obj}(h:w.heap[b]?=some o)(hc:∀c e f,o≠.cells c e f):(getObj b).run P w=.ok o w:=by cases o<;>first| (exact absurd rfl (hc _ _ _))|simp[getObj,Sem.run,h]
def Eu{b:Nat}{o o':Obj}(h:w.heap[b]?=some o)(hc:∀c e f,o≠.cells c e f):(setObj b o').run P w=.ok () (World.setBlk w b o'):=by cases o<;>first| (exact absurd rfl (hc _ _ _))|simp[setObj,Sem.run,h,World.setBlk]
def Sl{argTypes:Array TypeId}{t:TypeId}(hr:W4 C A bd w γ hg nx)(h0:argTypes[0]?=some t)
  (hx:RV w γ A bd x v) (agree:nE C.P t=.map->∀id∈Ae x,hg id=g.h.get id) :
  WP C A bd w γ (Builtin.len_ argTypes ty #[v]) (bC (nE C.P t) x g):=by
 have a0:(#[v]:Array Value)[0]?=some v:=rfl;unfold Builtin.len_ nE;cases hu:C.P.underlying t with
 |none=>trivial
 | some d =>
  cases d<;>try trivial
  case array n e =>
   refine⟨goInt n,?_,.int _ _ _⟩;simp only[h0,a0,Yb,aN hu,XT]
   rfl
  case slice e =>
   simp only[bC];cases hx with
   |XC=>exact⟨goInt 0,by simp[h0,aN hu],.int _ _ _⟩
   |Wd _ a=>exact⟨goInt 0,by simp[h0,aN hu],.int _ _ _⟩
   | WO _ tag sz rows b o cap cell ht hc hb hm ha hrl ho hw h =>refine⟨goInt rows.length,by simp[h0,aN hu],?_⟩;rw[ay];exact .int _ _ _
   |Wt _ tag sz a cap ht=>exact⟨goInt 0,by simp[h0,aN hu],.int _ _ _⟩
   |Xj _ id ep off len lim b o cap hk he hc h=>exact⟨goInt len,by simp[h0,aN hu],.int _ _ _⟩
   |_=>trivial
  case string =>
   simp only[bC];cases hx with
   |str _ s=>exact⟨goInt s.size,by simp[h0,aN hu],.int _ _ _⟩
   |_=>trivial
  case map kt et =>
   simp only[bC];cases hx with
   |V8=>exact⟨goInt 0,by simp[h0,aN hu],.int _ _ _⟩
   | hmap _ id b hk hb =>
    have k:=agree (by simp[nE,hu]) id (by simp[Ae]);simp only[G.get_eq,<-k];cases hid:hg id with
    | map es =>have c:=hr.obj id;rw[hid]at c;let⟨j,k2,esC,f,i,l⟩:=c;subst hb;refine⟨goInt es.length,?_,by rw[ay];exact .int _ _ _⟩;simp[h0,aN hu,yO f (by simp),i]
    |_=>trivial
   |_=>trivial
def RS{argTypes:Array TypeId}{t:TypeId}(hr:W4 C A bd w γ hg nx)(h0:argTypes[0]?=some t)(hu:C.P.underlying t=some (.slice e))
  (hx:RV w γ A bd x v) (agree:∀id∈aw x,hg id=g.h.get id) :
  WP C A bd w γ (Builtin.cap_ argTypes ty #[v]) (HX x g):=by
 unfold HX;cases hx with
 |XC=>exact⟨goInt 0,by simp[Builtin.cap_,h0,aN hu],.int _ _ _⟩
 |Wd _ a=>exact⟨goInt 0,by simp[Builtin.cap_,h0,aN hu],.int _ _ _⟩
 | Xj _ id ep off len lim b0 o0 cap0 hk he hc0 h0' =>
  have b:=agree id (by simp[aw]);simp only[G.get_eq,<-b];cases hid:hg id with
  | cells sz rows ep' loose fz =>
   simp only[aa]
   split
   ·rename_i k;simp only[XM,YE,WU,Zk]at k;let⟨h1,h2⟩:=k;have h1:=ba h1;subst h1;have f:=hr.obj id;rw[hid]at f;let⟨l,k2,m,n,i,_⟩:=f;let⟨c1,j,d⟩:=h0' k2.symm;refine⟨goInt cap0,by simp[Builtin.cap_,h0,aN hu],?_⟩;have e:(lim.getD (bD rows - off))=cap0:=by
     rw[ay];unfold ni at d;cases lim with
     |none=>simp at h2;have:=i.1 h2;simp only[Option.getD];dsimp only at d;omega
     |some c=>simp only[Option.getD];exact d.1.symm
    rw[e];exact .int _ _ _
   ·trivial
  |_=>trivial
 |_=>trivial
def Sn{argTypes:Array TypeId}{u:Value}(hx:RV w γ A bd x v)(hy:RV w γ A bd y u) :
  WP C A bd w γ (Builtin.max_ argTypes ty #[v,u]) (match x with
   | .int k m=>match y with
    |.int k' n=>ax (dA k k') (.val (.int k (ax (B_ m n) n m))) .fail
    |_=>.fail
   |_=>.fail):=by
 cases hx with
 | int _ k m =>
  cases hy with
  | int _ k' n =>
   dsimp only;rw[aa]
   split
   ·refine⟨.int k (if n > m then n else m),by simp[Builtin.max_,Builtin.max2],?_⟩;rw[aa,nD];simp only[X9,gt_iff_lt];exact .int _ _ _
   ·trivial
  |_=>trivial
 |_=>trivial
def So{argTypes:Array TypeId}{u:Value}(hx:RV w γ A bd x v)(hy:RV w γ A bd y u) :
  WP C A bd w γ (Builtin.min_ argTypes ty #[v,u]) (match x with
   | .int k m=>match y with
    |.int k' n=>ax (dA k k') (.val (.int k (ax (B_ n m) n m))) .fail
    |_=>.fail
   |_=>.fail):=by
 cases hx with
 | int _ k m =>
  cases hy with
  | int _ k' n =>
   dsimp only;rw[aa]
   split
   ·refine⟨.int k (if n<m then n else m),by simp[Builtin.min_,Builtin.min2],?_⟩;rw[aa,nD];simp only[X9];exact .int _ _ _
   ·trivial
  |_=>trivial
 |_=>trivial
end
section
variable {t:TypeId}{w:World}
def IE:TypeDesc->Value->Bool
 |.bool,.bool _=>true
 |.int k,.int k' _=>decide (k=k')
 |.string,.string _=>true
 |_,_=>false
def cG:List TypeDesc->List Value->Bool
 |[],[]=>true
 |d::ds,v::vs=>IE d v&&cG ds vs
 |_,_=>false
def T5:Value->Value->Bool
 |.int _ a,.int _ b=>a == b
 |.bool a,.bool b=>a == b
 |.string a,.string b=>a == b
 |_,_=>false
def tJ:List Value->List Value->Bool
 |[],[]=>true
 |a::as,b::bs=>T5 a b&&tJ as bs
 |_,_=>false
def m9(P:Program)(t:TypeId):Bool:=match vy P t with|some b=>b|none=>false
def mkV(P:Program)(t:TypeId)(cs:List Value):Value:=if m9 P t then .agg cs.toArray else cs.headD undef
def ct:∀{ds:List TypeDesc} {vs:List Value},cG ds vs=true->vs.length=ds.length:=by
 intro ds
 induction ds with
 |nil=>intro vs h;cases vs<;>simp_all [cG]
 | cons d ds ih=>intro vs h;cases vs with
  |nil=>simp[cG]at h
  |cons v vs=>simp only[cG,XM]at h;simp[ih h.2]
def l9{d1 d2:List TypeDesc}:∀{vs:List Value},cG (d1++d2) vs=true->cG d1 (vs.take d1.length)=true/\cG d2 (vs.drop d1.length)=true:=by
 induction d1 with
 |nil=>intro vs h;simpa [cG] using h
 | cons d ds ih =>
  intro vs h;cases vs with
  |nil=>simp[cG]at h
  | cons v vs =>simp only[XY,cG,XM]at h;let⟨h1,h2⟩:=ih h.2;simp only[Yp,Z4,aak,cG,XM];exact⟨⟨h.1,h1⟩,h2⟩
def Bq:∀{a1 a2 b1 b2:List Value},a1.length=b1.length->tJ (a1++a2) (b1++b2)=(tJ a1 b1&&tJ a2 b2):=by
 intro a1
 induction a1 with
 |nil=>intro a2 b1 b2 h;cases b1<;>simp_all [tJ]
 | cons a as ih =>
  intro a2 b1 b2 h;cases b1 with
  |nil=>simp at h
  |cons b bs=>simp only[XY,tJ,ih (Nat.succ.inj h),Bool.and_assoc]
section
variable {P:Program}
def DG:TypeDesc->Bool
 |.struct _|.array _ _=>true
 |_=>false
def s8{d:TypeDesc}(h:P.underlying t=some d) :
  m9 P t=DG d/\vy P t=some (m9 P t):=by
 unfold m9 vy;cases d<;>simp[h,DG]
def Cv{d:TypeDesc}{off:Nat}(hu:P.underlying t=some d)(hn:Wx P t=some n)(h1:m9 P t=false->n=1)
  (hle:m9 P t=false->off+n<=xs.size):(part t xs off).run P w=.ok (mkV P t ((xs.toList.drop off).take n)) w:=by
 let⟨_,ha⟩:=s8 hu;unfold mkV;cases hg:m9 P t with
 | true =>
  rw[hg]at ha;have e:(xs.extract off (off+n))=((xs.toList.drop off).take n).toArray:=by apply On;simp[Array.toList_extract,List.extract]
  simp[part,nL ha,bH hn,e]
 | false =>
  rw[hg]at ha;have h:=h1 hg;subst h;have hl:off<xs.size:=by have:=hle hg;omega
  have e:((xs.toList.drop off).take 1).headD undef=xs[off]:=by rw[List.headD_eq_head?_getD,List.head?_take,XS (by decide),List.head?_drop];simp[hl]
  simp only[part,Yb,nL ha,XT,ZR,if_false,e];simp[hl]
def Dw{ds:List TypeDesc}(h:Br P d t=some ds):∃k,P.underlying t=some k/\(m9 P t=false->ds.length=1):=by
 cases d with
 |zero=>cases h
 | succ d =>
  unfold Br at h;cases hu:P.underlying t with
  |none=>rw[hu]at h;cases h
  | some k =>refine⟨k,rfl,λhg=>?_⟩;let⟨h1,_⟩:=s8 hu;rw[hg]at h1;rw[hu]at h;cases k<;>simp[DG]at h1<;>simp only[aa]at h<;>split at h<;>first| (cases h;done)| (cases h;rfl)
def Kg{dd:Nat}{rec:TypeId->Option (List TypeDesc)}(hinfo:∀t ds,rec t=some ds->∃k,P.underlying t=some k/\(m9 P t=false->ds.length=1))
  (ih:∀t ds,rec t=some ds->∀(xs ys:List Value),cG ds xs=true->cG ds ys=true->(Op.equalIn dd t (mkV P t xs) (mkV P t ys)).run P w=.ok (tJ xs ys) w)
  {ys:Array Value}:∀(fs:List Field) (k:Nat) (ds:List TypeDesc),Du P rec fs k=some ds->cG ds (xs.toList.drop k)=true->cG ds (ys.toList.drop k)=true ->
   (Op.eqFields dd xs ys fs).run P w=.ok (tJ (xs.toList.drop k) (ys.toList.drop k)) w:=by
 intro fs
 induction fs with
 | nil =>
  intro k ds h hx j;simp only[Du]at h;cases h;have h1:=ct hx;have h2:=ct j;rw[YK h1,YK h2]
  rfl
 | cons f fs ihf =>
  intro k ds h hx j;simp only[Du]at h
  split at h
  ·rename_i ds1 h1
   split at h
   ·rename_i r hr;rw[aa]at h
    split at h
    ·rename_i c;simp only[XM,bne_iff_ne,ne_eq,beq_iff_eq]at c;let⟨⟨d,a⟩,i⟩:=c;have a:=ba a;cases h;let⟨l,m⟩:=l9 hx;let⟨n,o⟩:=l9 j;rw[Zb]at m o;have lx:=ct hx;have ly:=ct j;simp at lx ly;let⟨kd,hu,b⟩:=hinfo _ _ h1;have p:(part f.type xs f.offset).run P w=.ok (mkV P f.type ((xs.toList.drop k).take ds1.length)) w:=by rw[a];exact Cv hu i b λhg=>by have:=b hg;omega
     have q:(part f.type ys f.offset).run P w=.ok (mkV P f.type ((ys.toList.drop k).take ds1.length)) w:=by rw[a];exact Cv hu i b λhg=>by have:=b hg;omega
     have s:=ih _ _ h1 _ _ l n;have p4:=ihf _ _ hr m o;simp only[Op.eqFields,ne_eq,d,not_false_eq_true,if_true,Yb,p,q,s,XT];have e:=Bq (a1:=(xs.toList.drop k).take ds1.length) (a2:=xs.toList.drop (k+ds1.length)) (b1:=(ys.toList.drop k).take ds1.length) (b2:=ys.toList.drop (k+ds1.length))
      (by rw[ct l,ct n])
     rw[<-Zb,<-Zb,YC,YC]at e;rw[e,Zb,Zb];cases hq:tJ ((xs.toList.drop k).take ds1.length) ((ys.toList.drop k).take ds1.length)
     ·simp
     ·simpa using p4
    ·cases h
   ·cases h
  ·cases h
theorem Fe{dd:Nat}{de:List TypeDesc}{kd:TypeDesc}(hu:P.underlying e=some kd)(hone:m9 P e=false->de.length=1)(hsz:Wx P e=some de.length)
  (ih:∀(xs ys:List Value),cG de xs=true->cG de ys=true->(Op.equalIn dd e (mkV P e xs) (mkV P e ys)).run P w=.ok (tJ xs ys) w)
  {ys:Array Value}:∀(n i:Nat),cG (List.replicate n de).flatten (xs.toList.drop (i*de.length))=true->cG (List.replicate n de).flatten (ys.toList.drop (i*de.length))=true ->
   (Op.eqItems dd e de.length xs ys (List.range' i n)).run P w=.ok (tJ (xs.toList.drop (i*de.length)) (ys.toList.drop (i*de.length))) w:=by
 intro n
 induction n with
 | zero =>
  intro i hx h;have h1:=ct hx;have h2:=ct h;rw[YK (l:=xs.toList.drop _) (by simpa using h1),YK (l:=ys.toList.drop _) (by simpa using h2)]
  rfl
 | succ n ihn =>
  intro i hx h;rw[Y4,ZL]at hx h;obtain⟨k,a⟩:=l9 hx;obtain⟨b,c⟩:=l9 h;have lx:=ct k;have ly:=ct b;simp at lx ly;rw[Zb]at a c;have em:i*de.length+de.length=(i+1)*de.length:=by rw[Yk,Y8]
  rw[em]at a c;have d:(part e xs (i*de.length)).run P w=.ok (mkV P e ((xs.toList.drop (i*de.length)).take de.length)) w:=Cv hu hsz hone λhg=>by have:=hone hg;omega
  have f:(part e ys (i*de.length)).run P w=.ok (mkV P e ((ys.toList.drop (i*de.length)).take de.length)) w:=Cv hu hsz hone λhg=>by have:=hone hg;omega
  have j:=ih _ _ k b;have p4:=ihn (i+1) a c;rw[aaY];simp only[Op.eqItems,Yb,d,f,j,XT];have ee:=Bq (a1:=(xs.toList.drop (i*de.length)).take de.length) (a2:=xs.toList.drop ((i+1)*de.length)) (b1:=(ys.toList.drop (i*de.length)).take de.length) (b2:=ys.toList.drop ((i+1)*de.length))
   (by rw[ct k,ct b])
  rw[<-em,<-Zb,<-Zb,YC,YC,Zb,Zb,em]at ee;rw[ee];cases hq:tJ ((xs.toList.drop (i*de.length)).take de.length) ((ys.toList.drop (i*de.length)).take de.length)
  ·simp
  ·simpa using p4
def J4(h:Wx P t=some n):P.cellsOf t=n/\∃i,P.info? t=some i:=by
 unfold Wx at h;unfold Program.cellsOf;cases hi:P.info? t with
 |none=>rw[hi]at h;cases h
 |some i=>rw[hi]at h;simp at h;simp[h]
def R9(D:Nat):∀(d:Nat) (t:TypeId) (ds:List TypeDesc),Br P d t=some ds->∀(w:World) (xs ys:List Value),cG ds xs=true->cG ds ys=true ->
  (Op.equalIn (D+d) t (mkV P t xs) (mkV P t ys)).run P w=.ok (tJ xs ys) w:=by
 intro d
 induction d with
 |zero=>intro t ds h;cases h
 | succ d ih =>
  intro t ds h w xs ys hx a;unfold Br at h;have one:∀k,P.underlying t=some k->zL k=true->DG k=false->ds=[k]->(Op.equalIn (D+(d+1)) t (mkV P t xs) (mkV P t ys)).run P w=.ok (tJ xs ys) w:=by
   intro k hu hk m o;let⟨h1,_⟩:=s8 hu;subst o;have hm:∀zs,mkV P t zs=zs.headD undef:=by intro zs;unfold mkV;rw[h1,m];rfl
   rw[hm,hm];have lx:=ct hx;have ly:=ct a
   match xs,ys,lx,ly with
   | [x],[y],_,_ =>
    simp only[cG,aa1]at hx a;simp only[List.headD_cons,tJ,aa1,<-Qc];cases k<;>simp[zL]at hk<;>cases x<;>simp[IE]at hx<;>cases y<;>simp[IE]at a
    ·simp[Op.equalIn,aN hu,T5]
    ·subst hx;subst a;simp[Op.equalIn,aN hu,T5]
    ·simp[Op.equalIn,aN hu,T5]
  cases hu:P.underlying t with
  |none=>rw[hu]at h;cases h
  | some k =>
   rw[hu]at h;cases k
   case struct fs =>
    simp only[aa]at h
    split at h
    ·cases h
    ·rename_i c;have c:P.stoodInHeld t=false:=by simpa using c
     have j:P.fieldsOf t=fs:=by simp[Program.fieldsOf,hu]
     have hm:∀zs,mkV P t zs=.agg zs.toArray:=by intro zs;unfold mkV;rw[(s8 hu).1];rfl
     rw[hm,hm,<-Qc,run_equalIn_struct w (D+d) t _ _ (by rw[j];exact hu) c,j];have:=Kg (λt ds h=>Dw h) (λt ds h xs ys hx a=>ih t ds h w xs ys hx a)
      fs.toList 0 ds h (by simpa using hx) (by simpa using a)
     simpa using this
   case array n e =>
    simp only at h
    split at h
    ·rename_i de f;simp only[aa]at h
     split at h
     ·rename_i b;cases h;have b:Wx P e=some de.length:=by simpa using b
      let⟨kd,p,l⟩:=Dw f;let⟨hc,i,hi⟩:=J4 b;have hm:∀zs,mkV P t zs=.agg zs.toArray:=by intro zs;unfold mkV;rw[(s8 hu).1];rfl
      rw[hm,hm,<-Qc,run_equalIn_array w (D+d) _ _ hu hi,hc,aaw];have:=Fe p l b (λxs ys hx a=>ih e de f w xs ys hx a) n 0 (by simpa using hx) (by simpa using a);simpa using this
     ·cases h
    ·cases h
   all_goals
    simp only[aa]at h
    split at h
    ·rename_i hk;injection h with h;exact one _ hu hk rfl h.symm
    ·cases h
end
end
section
variable {C:Xg}{A:Nat->Nat->Prop}{bd:Nat}{w w':World}{γ γ':Gm}{hg:Nat->Xh}{nx:Nat}
def Wa.tail{xs:List AV}{vs:List Value}(h:Wa w γ A bd (x::xs) (v::vs)):RV w γ A bd x v/\Wa w γ A bd xs vs :=⟨h.2 0 x v rfl rfl,by have:=h.1;simp at this;exact this,λi y u hy hu=>h.2 (i+1) y u (by simpa using hy) (by simpa using hu)⟩
def NC{d:TypeDesc}(h:Kj d x=true)(hx:RV w γ A bd x v):IE d v=true:=by cases d<;>cases hx<;>simp_all [Kj,IE,FV]
def DT:∀{ds:List TypeDesc} {xs:List AV} {vs:List Value},ua ds xs=true->Wa w γ A bd xs vs->cG ds vs=true:=by
 intro ds
 induction ds with
 | nil =>
  intro xs vs h hx;cases xs with
  | nil=>have:=hx.1;cases vs with
   |nil=>rfl
   |cons v vs=>simp at this
  |cons x xs=>cases h
 | cons d ds ih =>
  intro xs vs h hx;cases xs with
  |nil=>cases h
  | cons x xs =>
   cases vs with
   |nil=>have:=hx.1;simp at this
   | cons v vs =>
    let⟨h1,h2⟩:=hx.tail;simp only[ua,aa]at h
    split at h
    ·rename_i hk;simp only[cG,XM];exact⟨NC hk h1,ih h h2⟩
    ·cases h
def No{u:Value}{b:Bool}(h:Kb x y=some b)(hx:RV w γ A bd x v)(hy:RV w γ A bd y u):T5 v u=b:=by
 cases hx<;>cases hy<;>simp only[Kb]at h<;>first| (cases h;done)|skip
 ·cases h;rename_i a b;cases a<;>cases b<;>rfl
 ·rw[aa]at h
  split at h
  ·cases h;simp[T5,Cp];rfl
  ·cases h
 ·cases h;simp only[T5];rename_i k c;let⟨⟨x⟩⟩:=k;let⟨⟨y⟩⟩:=c;show ((⟨x⟩:Array UInt8) == ⟨y⟩)=_;rw[Z0];simp
def Kc:∀{xs ys:List AV} {vs us:List Value} {b:Bool},xn xs ys=some b->Wa w γ A bd xs vs->Wa w γ A bd ys us->tJ vs us=b:=by
 intro xs
 induction xs with
 | nil =>
  intro ys vs us b h hx k;cases ys with
  | nil =>simp only[xn]at h;injection h with h;subst h;have h1:=hx.1;have h2:=k.1;cases vs<;>cases us<;>simp_all [tJ]
  |cons y ys=>cases h
 | cons x xs ih =>
  intro ys vs us b h hx k;cases ys with
  |nil=>cases h
  | cons y ys =>
   cases vs with
   |nil=>have:=hx.1;simp at this
   | cons v vs =>
    cases us with
    |nil=>have:=k.1;simp at this
    | cons u us =>
     obtain⟨a,c⟩:=hx.tail;obtain⟨d,e⟩:=k.tail;simp only[xn]at h
     split at h
     ·rename_i p q hp hq;injection h with h;subst h;simp only[tJ,No hp a d,ih hq c e,aa];cases p<;>simp
     ·cases h
def Ld{xs:List AV}(h:RV w γ A bd (.agg xs) v):∃vs,v=.agg vs/\Wa w γ A bd xs vs.toList:=by
 cases h with
 |agg _ _ vs hl h1 h2=>exact⟨vs,rfl,by simpa using hl,λi x u hx hu=>h2 i x u hx (by simpa using hu)⟩
def Kf{t:TypeId}{ds:List TypeDesc}{ys:Array Value}(h:t8 C.P t=some ds)(hag:m9 C.P t=true)(hx:cG ds xs.toList=true)(hy:cG ds ys.toList=true) :
  C.P.eqGuardType C.P.depth t=false/\(Op.equal t (.agg xs) (.agg ys)).run C.P w=.ok (tJ xs.toList ys.toList) w:=by
 unfold t8 at h;rw[aa]at h
 split at h
 ·cases h
 ·rename_i hg;refine⟨by simpa using hg,?_⟩;have:=R9 9992 8 t ds h w xs.toList ys.toList hx hy;unfold mkV at this;rw[hag]at this;simpa [Op.equal,Op.maxDepth] using this
def nH(t:TypeId)(x y:Value):Op.equal t x y=Op.equalIn (9999+1) t x y:=rfl
def PG(C:Xg)(w:World)(ty:TypeId)(xo yo:Operand)(va vb:Value)(r:Bool):Prop :=(∀op,(eqGuard op ty xo yo va vb).run C.P w=.ok () w)/\(binOp .eql ty va vb).run C.P w=.ok (.bool r) w/\(binOp .neq ty va vb).run C.P w=.ok (.bool (!r)) w
def PG.mk'{ty:TypeId}{xo yo:Operand}{va vb:Value}{r:Bool}(h1:∀op,(eqGuard op ty xo yo va vb).run C.P w=.ok () w)(h2:(Op.equal ty va vb).run C.P w=.ok r w)
  (h3:binOp .eql ty va vb=(do pure (.bool (<-Op.equal ty va vb)))) (h4:binOp .neq ty va vb=(do pure (.bool (!(<-Op.equal ty va vb))))):PG C w ty xo yo va vb r:=by
 refine⟨h1,?_,?_⟩
 ·rw[h3];simp[h2]
 ·rw[h4];simp[h2]
section kinds
variable {ty:TypeId}{xo yo:Operand}{a b:AV}{va vb:Value}{r:Bool}(ha:RV w γ A bd a va)(hb:RV w γ A bd b vb)
include ha hb
theorem Pd{ds:List TypeDesc}(hf:t8 C.P ty=some ds)(hag:m9 C.P ty=true)(h:UI (.flat ds) a b=some r):PG C w ty xo yo va vb r:=by
 cases a<;>try (cases h;done)
 cases b<;>try (cases h;done)
 rename_i xs ys;change ax (ua ds xs&&ua ds ys) (xn xs ys) none=some r at h;rw[aa]at h
 split at h
 ·rename_i hk;simp only[XM]at hk;obtain⟨vs,rfl,hv⟩:=Ld ha;obtain⟨us,rfl,k⟩:=Ld hb;obtain⟨g1,g2⟩:=Kf (w:=w) hf hag (DT hk.1 hv) (DT hk.2 k);rw[Kc h hv k]at g2;exact .mk' (λop=>run_eqGuard_agg w op ty xo yo vs us g1) g2 rfl rfl
 ·cases h
def Nn(hu:C.P.underlying ty=some (.slice e))(h:UI .slice a b=some r):PG C w ty xo yo va vb r:=by
 cases ha<;>try (cases h;done)
 all_goals cases hb<;>first| (cases h;done)| (cases h;exact .mk' (λop=>by cases op<;>simp[eqGuard]) (by rw[nH];unfold Op.equalIn;simp[aN hu]) rfl rfl)
def Pe{p q:Array TypeId}{v:Bool}(hu:C.P.underlying ty=some (.func p q v))(h:UI .func a b=some r):PG C w ty xo yo va vb r:=by
 cases ha<;>try (cases h;done)
 all_goals cases hb<;>first| (cases h;done)| (cases h;exact .mk' (λop=>by cases op<;>simp[eqGuard]) (by rw[nH];unfold Op.equalIn;simp[aN hu]) rfl rfl)
def Pc(hu:C.P.underlying ty=some .bool)(h:UI .bool a b=some r):PG C w ty xo yo va vb r:=by
 cases ha<;>try (cases h;done)
 cases hb<;>try (cases h;done)
 rename_i x y;cases h;refine .mk' (λop=>by cases op<;>simp[eqGuard]) ?_ rfl rfl;rw[nH];unfold Op.equalIn;simp[aN hu];cases x<;>cases y<;>rfl
def Nm{ms:Array (String×TypeId)}(hu:C.P.underlying ty=some (.interface ms))(h:UI (.iface ms.isEmpty) a b=some r):PG C w ty xo yo va vb r:=by
 cases ha<;>try (cases h;done)
 ·cases hb<;>try (cases h;done)
  ·change ax ms.isEmpty (some true) none=some r at h;rw[aa]at h
   split at h
   ·rename_i he;cases h;refine .mk' (λop=>?_) (by rw[nH];unfold Op.equalIn;simp[aN hu]) rfl rfl;have hg:(Op.eqGuardIn Op.maxDepth ty .nilIface .nilIface).run C.P w=.ok false w:=by show (Op.eqGuardIn (9999+1) ty .nilIface .nilIface).run C.P w=_;unfold Op.eqGuardIn;simp only[Yb,aN hu,XT,he,Yu,abl]
    unfold eqGuard;generalize Op.eqGuardIn Op.maxDepth ty .nilIface .nilIface=m at hg ⊢;cases op<;>simp[hg]
   ·cases h
  ·cases h;exact .mk' (λop=>by cases op<;>simp[eqGuard]) (by rw[nH];unfold Op.equalIn;simp[aN hu]) rfl rfl
 ·cases hb<;>try (cases h;done)
  cases h;exact .mk' (λop=>by cases op<;>simp[eqGuard]) (by rw[nH];unfold Op.equalIn;simp[aN hu]) rfl rfl
end kinds
def LG{ty:TypeId}{xo yo:Operand}{a b:AV}{va vb:Value}{r:Bool}(hne:tH C.P ty≠.other)(h:UI (tH C.P ty) a b=some r)(ha:RV w γ A bd a va)(hb:RV w γ A bd b vb) :
  PG C w ty xo yo va vb r:=by
 unfold tH at h hne;cases hu:C.P.underlying ty with
 |none=>simp only[hu]at hne;exact absurd rfl hne
 | some d =>
  have agg:DG d=true->UI (match t8 C.P ty with|some ds=>Uu.flat ds|none=>.other) a b=some r->PG C w ty xo yo va vb r:=by
   intro hd h;cases hf:t8 C.P ty with
   |none=>rw[hf]at h;cases h
   |some ds=>rw[hf]at h;exact Pd ha hb hf (by rw[(s8 hu).1];exact hd) h
  simp only[hu]at h hne;cases d
  case struct fs=>exact agg rfl h
  case array n e=>exact agg rfl h
  case slice e=>exact Nn ha hb hu h
  case func p q v=>exact Pe ha hb hu h
  case bool=>exact Pc ha hb hu h
  case interface ms=>exact Nm ha hb hu h
  all_goals exact absurd rfl hne
noncomputable def TF(op:BinOp)(x y:AV):OR:=match x,y with|.int k m,.int k' n=>VW ((fZ op).run k m k' n)|_,_=>.fail
def RN{op:BinOp}{ty:TypeId}{xo yo:Operand}{a b:AV}{va vb:Value}(ha:RV w γ A bd a va)(hb:RV w γ A bd b vb) :
  WP C A bd w γ (do eqGuard op ty xo yo va vb;binOp op ty va vb) ((CN C.P op ty).run a b):=by
 have q9:WP C A bd w γ (do eqGuard op ty xo yo va vb;binOp op ty va vb) (TF op a b):=by
  unfold TF;cases ha with
  | int _ k m =>
   cases hb with
   | int _ k' n =>
    refine qr λy hy=>?_;obtain⟨v,h1,h2⟩:=Kh (P:=C.P) (ty:=ty) (w:=w) (γ:=γ) (A:=A) (bd:=bd) hy;refine⟨v,?_,h2⟩;have:(eqGuard op ty xo yo (.int k m) (.int k' n)).run C.P w=.ok () w:=by cases op<;>simp[eqGuard]
    simp[this,h1]
   |_=>trivial
  |_=>trivial
 cases op
 case eql =>
  unfold CN;dsimp only
  split
  ·exact q9
  ·rename_i hk;dsimp only;cases hr:UI (tH C.P ty) a b with
   |none=>trivial
   | some r =>obtain⟨h1,h2,_⟩:=LG (xo:=xo) (yo:=yo) (λe=>hk e) hr ha hb;exact⟨.bool r,by simp[h1,h2],.bool _ _⟩
 case neq =>
  unfold CN;dsimp only
  split
  ·exact q9
  ·rename_i hk;dsimp only;cases hr:UI (tH C.P ty) a b with
   |none=>trivial
   | some r =>obtain⟨h1,_,h2⟩:=LG (xo:=xo) (yo:=yo) (λe=>hk e) hr ha hb;exact⟨.bool (!r),by simp[h1,h2],by rw[WU];exact .bool _ _⟩
 all_goals exact q9
end
section
variable {m k:T->AV}{kt et:TypeId}{vk:Value}
section
variable {C:Xg}{A:Nat->Nat->Prop}{bd:Nat}{w w':World}{γ γ':Gm}{hg:Nat->Xh}{nx:Nat}
def KZ(w:World)(γ:Gm)(A:Nat->Nat->Prop)(bd:Nat)(es:List (AV×AV))(l:List MapEntry):Prop :=es.length=l.length/\∀(i:Nat) k x e,es[i]?=some (k,x)->l[i]?=some e->RV w γ A bd k e.key/\RV w γ A bd x e.val
def KZ.tail{p:AV×AV}{es:List (AV×AV)}{e:MapEntry}{l:List MapEntry}(h:KZ w γ A bd (p::es) (e::l)) :
  RV w γ A bd p.1 e.key/\RV w γ A bd p.2 e.val/\KZ w γ A bd es l:=by
 let⟨h1,h2⟩:=h.2 0 p.1 p.2 e rfl rfl;exact⟨h1,h2,by have:=h.1;simpa using this,λi k x e hi he=>h.2 (i+1) k x e (by simpa using hi) (by simpa using he)⟩
def Kl{z:AV}{ok:Bool}(hr:W4 C A bd w γ hg nx)
  (hu:C.P.underlying ty=some (.map kt et)) (hz:JN C.P et=some z) (hm:RV w γ A bd (m t) vm) (hk:RV w γ A bd (k t) vk) (agree:∀id∈aw (m t),hg id=g.h.get id) :
  WP C A bd w γ (Instr.lookup ty vm vk ok) (zR (qq C.P kt) z ok m k t g):=True.intro
def x_{x:T->AV}{vx:Value}(hr:W4 C A bd w γ hg nx)
  (hu:C.P.underlying ty=some (.map kt et)) (hm:RV w γ A bd (m t) vm) (hk:RV w γ A bd (k t) vk) (hx:RV w γ A bd (x t) vx) (agree:∀id∈aw (m t),hg id=g.h.get id) :
  dE C A bd w γ hg nx (do Instr.mapUpdate ty vm vk vx;pure undef) g (yR (qq C.P kt) m k x t g):=True.intro
def G2{z:AV}(hr:W4 C A bd w γ hg nx)
  (hu:C.P.underlying ty=some (.map kt et)) (hz:JN C.P et=some z) (hm:RV w γ A bd (m t) vm) (hk:RV w γ A bd (k t) vk) (agree:∀id∈aw (m t),hg id=g.h.get id) :
  dE C A bd w γ hg nx (Instr.mapEntry ty vm vk) g (xx (qq C.P kt) z m k t g):=True.intro
def Dd{st x:T->AV}{vs vx:Value}(hr:W4 C A bd w γ hg nx)
  (hm:RV w γ A bd (m t) vm) (hs:RV w γ A bd (st t) vs) (hx:RV w γ A bd (x t) vx) (agree:∀id∈aw (m t),hg id=g.h.get id) :
  dE C A bd w γ hg nx (do Instr.entryStore ty vm vs vx;pure undef) g (pL m st x t g):=True.intro
end
end
section
variable {C:Xg}{A:Nat->Nat->Prop}{bd:Nat}{w w':World}{γ γ':Gm}{hg:Nat->Xh}{nx:Nat}
def NK.ofUpd{o:Oper}{ev:Operand->Value}{g:G}{m:Sem Value}(he:execOp ev o=(do pure (.value (<-m))))(h:dE C A bd w γ hg nx m g r) :
  NK C A bd w γ hg nx o ev g r:=by
 have run:∀{v:Value} {w':World},m.run C.P w=.ok v w'->HF C.P o ev w v w':=by intro v w' h;left;rw[he];simp[h]
 cases r with
 |fail=>trivial
 |val x=>let⟨v,h1,h2⟩:=h;exact⟨v,run h1,h2⟩
 |upd x g'=>let⟨v,w',γ',id,ob,h1,h2⟩:=h;exact⟨v,w',γ',id,ob,run h1,h2⟩
 |Xi a=>exact h
def NK.ofUnit{o:Oper}{ev:Operand->Value}{g:G}{s:Sem Unit}(he:execOp ev o=(do s;pure .skip))(h:dE C A bd w γ hg nx (do s;pure undef) g r) :
  NK C A bd w γ hg nx o ev g r:=by
 have run:∀{v:Value} {w':World},(do s;pure undef:Sem Value).run C.P w=.ok v w'->HF C.P o ev w v w':=by
  intro v w' h;right;rw[he];simp only[Yb,Yu]at h ⊢;cases hs:s.run C.P w with
  |ok u w1=>rw[hs]at h;simp only[XT]at h ⊢;cases h;exact⟨rfl,rfl⟩
  |halt x w1=>rw[hs]at h;cases h
 cases r with
 |fail=>trivial
 |val x=>let⟨v,h1,h2⟩:=h;exact⟨v,run h1,h2⟩
 |upd x g'=>let⟨v,w',γ',id,ob,h1,h2⟩:=h;exact⟨v,w',γ',id,ob,run h1,h2⟩
 |Xi a=>exact h
def WP.upd{m:Sem Value}{g:G}{r:OR}(h:WP C A bd w γ m r):dE C A bd w γ hg nx m g r:=by
 cases r with
 |fail=>trivial
 |val x=>exact h
 |upd x g'=>exact h.elim
 |Xi a=>exact h.elim
def NK.ofVal{o:Oper}{ev:Operand->Value}{g:G}{m:Sem Value}(he:execOp ev o=(do pure (.value (<-m))))(h:WP C A bd w γ m r) :
  NK C A bd w γ hg nx o ev g r:=.ofUpd he h.upd
def NK.now{o:Oper}{ev:Operand->Value}{g:G}(he:(execOp ev o).run C.P w=.ok (.value v) w)(h:RV w γ A bd x v) :
  NK C A bd w γ hg nx o ev g (.val x):=⟨v,.inl he,h⟩
noncomputable def bE(C:Xg)(op:Op)(t:T)(g:G):List Nat:=((aV C op).run t g).rd++((aV C op).run t g).sr.map (·.1)
def Tm{op:UnOp}(hx:RV w γ A bd x v):WP C A bd w γ (Op.unary op v) ((unA op).run x):=by
 cases op
 case not =>
  cases hx with
  |bool _ b=>exact⟨.bool (!b),by simp[Op.unary],by rw[WU];exact .bool _ _⟩
  |_=>trivial
 all_goals
  cases hx with
  |int _ k n=>exact qr λy hy=>lW hy C.P w
  |_=>trivial
theorem Ko{g:G}{P:Program}(hr:W4 C A bd w γ hg nx)(hf:(γ g.nx).kind=0) :
  dE C A bd w γ hg nx (do pure (.map (some (<-newObj (.map #[] 0))))) g (.upd (.hmap g.nx) (g.new (.map []))):=by
 let gh:Gh:=⟨2,0,0,0,w.heap.size,0,0,true⟩
 obtain⟨r,s⟩:=hr.add (id:=g.nx) (gh:=gh) (o:=.map #[] 0) (ao:=.map []) (nx':=Nat.max nx (g.nx+1)) hf rfl (Y_ _ _) (XX (ZU _) (Zx _ _)) (by simp only[WC,upd_same];exact⟨rfl,rfl,#[],by rw[me];simp[gh],rfl,λi k x e h=>by simp at h⟩)
 refine⟨.map (some w.heap.size),World.add w (.map #[] 0),_,g.nx,_,by simp[newObj,Sem.run,World.add],?_,s,.inr ⟨rfl,rfl,r⟩⟩;exact .hmap _ g.nx _ (by simp[gh]) (by simp[gh])
def Kz:∀{fs:List Field} {places:List (Nat×Nat)},aD (λf:Field=>match Wx C.P f.type with|some n=>some (f.offset,n)|none=>none) fs=some places ->
  (fs.mapM λf=>do pure (f.offset,<-Go.sizeOf f.type):Sem (List (Nat×Nat))).run C.P w=.ok places w:=by
 intro fs
 induction fs with
 |nil=>intro places h;simp only[aD]at h;cases h;simp
 | cons f fs ih =>
  intro places h;simp only[aD]at h
  split at h
  ·rename_i p hp
   split at h
   ·rename_i ps k;cases h
    split at hp
    ·rename_i n a;cases hp;rw[abD];have:=ih k;simp only[Yb,bH a,XT,Yu,this]
    ·cases hp
   ·cases h
  ·cases h
variable {o:Oper}{op:Op}{a:Act}{nt:Nat}{t:T}{g:G}{f:Wv JU}
def vJ(he:nj C.P ty=some e):C.P.underlying ty=some (.slice e):=by unfold nj at he;split at he<;>first| (cases he;assumption)|cases he
def HQ{b:Builtin}{argTypes:Array TypeId}{args:List Operand}{consts:Array Bool}(h:dP C b argTypes args=some f)(ht:TR w γ A bd nt t a.tmps)(hr:W4 C A bd w γ hg nx)
  (hf:(γ g.nx).kind=0) (agree:∀x∈args,∀s,aW C x=some s->∀id∈nz C b argTypes (s.run t),hg id=g.h.get id) :
  ∃m:Sem Value,builtin b argTypes ty consts (args.map a.eval).toArray=(do pure (.value (<-m)))/\dE C A bd w γ hg nx m g (f.run t g):=by
 unfold dP at h
 split at h
 ·
  rename_i x
  split at h
  ·rename_i tt s h0 hs;cases h;exact⟨Builtin.len_ argTypes ty #[a.eval x],rfl,(Sl hr h0 (aA hs ht hr) λhk id hid=>agree x (by simp) s hs id (by simpa only[nz,h0,hk] using hid)).upd⟩
  ·cases h
 ·
  rename_i p x
  split at h
  ·rename_i tt xt sa sx h0 h1 ha hx
   split at h
   ·rename_i e e' he j
    split at h
    ·rename_i sz bytes zero d i hz;rw[aa]at h
     split at h
     ·rename_i c;simp only[XM,YM,ay]at c;cases h;exact⟨Builtin.append_ argTypes ty #[a.eval p,a.eval x],rfl,JT hr hf h0 h1 (vJ he) j d i hz (ba c.1.1) c.2 (aA ha ht hr) (aA hx ht hr)
       (λid hid=>agree p (by simp) sa ha id hid) (λid hid=>agree x (by simp) sx hx id hid)⟩
     ·cases h
    ·cases h
   ·rename_i e k he j
    split at h
    ·rename_i sz bytes zero d i hz;rw[aa]at h
     split at h
     ·rename_i c;simp only[XM,YM,ay]at c;cases h;exact⟨Builtin.append_ argTypes ty #[a.eval p,a.eval x],rfl,HJ hr hf h0 h1 (vJ he) j d i hz (ba c.1.1) c.1.2 c.2 (aA ha ht hr) (aA hx ht hr)
       (λid hid=>agree p (by simp) sa ha id hid)⟩
     ·cases h
    ·cases h
   ·cases h
  ·cases h
 ·
  rename_i p x
  split at h
  ·rename_i tt sa sx h0 ha hx
   split at h
   ·rename_i e he
    split at h
    ·rename_i sz d;cases h;exact⟨Builtin.copy_ argTypes ty #[a.eval p,a.eval x],rfl,O5 hr h0 (vJ he) d (aA ha ht hr) (aA hx ht hr)
      (λid hid=>agree p (by simp) sa ha id hid) (λid hid=>agree x (by simp) sx hx id hid)⟩
    ·cases h
   ·cases h
  ·cases h
 ·
  rename_i x
  split at h
  ·rename_i tt s h0 hs
   split at h
   ·rename_i e he;cases h;exact⟨Builtin.cap_ argTypes ty #[a.eval x],rfl,(RS hr h0 (vJ he) (aA hs ht hr) λid hid=>agree x (by simp) s hs id hid).upd⟩
   ·cases h
  ·cases h
 ·
  rename_i x
  split at h
  ·rename_i tt s h0 hs
   split at h
   ·rename_i e he
    split at h
    ·rename_i sz zero d hz;rw[aa]at h
     split at h
     ·rename_i c;simp only[XM,YM,ay]at c;cases h;exact⟨Builtin.clear_ argTypes ty #[a.eval x],rfl,M9 hr h0 (vJ he) hz (ba c.1) c.2 (aA hs ht hr) λid hid=>agree x (by simp) s hs id hid⟩
     ·cases h
    ·cases h
   ·cases h
  ·cases h
 ·
  rename_i x y
  split at h
  ·rename_i sx sy hx o;cases h;refine⟨Builtin.max_ argTypes ty #[a.eval x,a.eval y],rfl,?_⟩;have l:=aA hx ht hr;have n:=aA o ht hr;dsimp only;generalize sx.run t=u at l ⊢;generalize sy.run t=v at n ⊢;cases u<;>try trivial
   cases v<;>try trivial
   exact (Sn l n).upd
  ·cases h
 ·
  rename_i x y
  split at h
  ·rename_i sx sy hx o;cases h;refine⟨Builtin.min_ argTypes ty #[a.eval x,a.eval y],rfl,?_⟩;have l:=aA hx ht hr;have n:=aA o ht hr;dsimp only;generalize sx.run t=u at l ⊢;generalize sy.run t=v at n ⊢;cases u<;>try trivial
   cases v<;>try trivial
   exact (So l n).upd
  ·cases h
 ·cases h
def M6:∀{xs:List Operand} {vs:Wv (T->List AV)},cp C xs=some vs->∀x∈xs,∀s,aW C x=some s->s.run t∈vs.run t:=by
 intro xs
 induction xs with
 |nil=>intro vs _ x hx;cases hx
 | cons y ys ih =>
  intro vs h x hx s hs;simp only[cp]at h
  split at h
  ·rename_i p q hp hq;cases h;rcases Yh.1 hx with rfl|hx
   ·rw[hp]at hs;cases hs;exact YQ
   ·exact Yw _ (ih hq x hx s hs)
  ·cases h
def xR{b:Builtin}{argTypes:Array TypeId}{args:List Operand}(h:dP C b argTypes args=some f):∃vs,cp C args=some vs:=by
 have one:∀{x:Operand} {s},aW C x=some s->∃vs,cp C [x]=some vs:=by intro x s hs;simp only[cp,hs];exact⟨_,rfl⟩
 have two:∀{x y:Operand} {s u},aW C x=some s->aW C y=some u->∃vs,cp C [x,y]=some vs:=by intro x y s u hs hu;simp only[cp,hs,hu];exact⟨_,rfl⟩
 unfold dP at h
 split at h
 ·split at h
  ·exact one (by assumption)
  ·cases h
 ·split at h
  ·exact two (by assumption) (by assumption)
  ·cases h
 ·split at h
  ·exact two (by assumption) (by assumption)
  ·cases h
 ·split at h
  ·exact one (by assumption)
  ·cases h
 ·split at h
  ·exact one (by assumption)
  ·cases h
 ·split at h
  ·exact two (by assumption) (by assumption)
  ·cases h
 ·split at h
  ·exact two (by assumption) (by assumption)
  ·cases h
 ·cases h
def Th(h:cT C op=some f)(ho:o.op=op)(ht:TR w γ A bd nt t a.tmps)(hr:W4 C A bd w γ hg nx)(hf:(γ g.nx).kind=0)
  (agree:∀id∈bE C op t g,hg id=g.h.get id):NK C A bd w γ hg nx o a.eval g (f.run t g):=by
 cases op<;>simp only[cT]at h<;>first| (cases h;done)|skip
 case move x =>
  split at h
  ·rename_i s hs;injection h with h;subst h;exact .now (by simp[execOp,ho]) (aA hs ht hr)
  ·cases h
 case assign x =>
  split at h
  ·rename_i s hs;injection h with h;subst h;exact .now (by simp[execOp,ho]) (aA hs ht hr)
  ·cases h
 case pick c x y =>
  split at h
  ·rename_i sc sx sy hc hx K;injection h with h;subst h;have B:=aA hc ht hr;have L:=aA hx ht hr;have Q:=aA K ht hr;dsimp only;generalize sc.run t=cv at B ⊢;generalize hcv:a.eval c=vc at B;cases B with
   | bool _ b =>
    cases b
    ·exact .now (by simp[execOp,ho,hcv,asBool]) Q
    ·exact .now (by simp[execOp,ho,hcv,asBool]) L
   |_=>trivial
  ·cases h
 case alloc ty =>
  split at h
  ·rename_i cs hz;injection h with h;subst h;exact .ofUpd (by simp only[execOp,ho]) (MY hr hz hf t)
  ·cases h
 case box ty x =>
  split at h
  ·rename_i s hs;injection h with h;subst h;have B:=aA hs ht hr;unfold OT;dsimp only;rw[aa]
   split
   ·trivial
   ·rename_i J;exact .ofUpd (m:=Instr.box ty (a.eval x)) (by simp only[execOp,ho]) (RO hr B hf (by simpa using J))
  ·cases h
 case load ty x =>
  split at h
  ·rename_i s ag n hs E G;injection h with h;subst h;exact .ofVal (by simp only[execOp,ho]) (IK hr (aA hs ht hr) E G λid hid=>agree id (by simp[bE,aV,am,hs,hid]))
  ·cases h
 case store ty x y =>
  split at h
  ·rename_i s u n hs hu G;injection h with h;subst h;exact .ofUnit (by simp only[execOp,ho]) (Ob hr (aA hs ht hr) (aA hu ht hr) G λid hid=>agree id (by simp[bE,aV,am,hs,hid]))
  ·cases h
 case binOp op ty x y p =>
  split at h
  ·rename_i s u hs hu;injection h with h;subst h;exact .ofVal (by simp only[execOp,ho]) (RN (xo:=x) (yo:=y) (aA hs ht hr) (aA hu ht hr))
  ·cases h
 case unOp op ty x =>
  split at h
  ·rename_i s hs;injection h with h;subst h;exact .ofVal (by simp only[execOp,ho]) (Tm (aA hs ht hr))
  ·cases h
 case convert src dst x =>
  split at h
  ·rename_i s sd k hs I hk;injection h with h;subst h;have B:=aA hs ht hr;dsimp only;generalize s.run t=cv at B ⊢;generalize hcv:a.eval x=vc at B;cases B with
   | int _ k' n =>
    refine .ofVal (m:=convert src dst (.int k' n)) (by simp only[execOp,ho,hcv]) ⟨.int k (k.wrap n),?_,by rw[jc];exact .int _ _ _⟩;unfold convert;simp only[Yb,aN I,aN hk,XT,Conv.intToInt]
    try rfl
   |_=>trivial
  ·cases h
 case nilCheck x =>
  split at h
  ·rename_i s hs;injection h with h;subst h;have B:=aA hs ht hr;dsimp only;generalize s.run t=cv at B ⊢;generalize hcv:a.eval x=vc at B;cases B with
   |Xn _ tag sz rows i0 Wg b o' cell h1 h2 h3 h4 h5 h6 h7 h8 h9=>exact .now (by simp[execOp,ho,hcv]) (.Xn _ tag sz rows i0 Wg b o' cell h1 h2 h3 h4 h5 h6 h7 h8 h9)
   |W9 _ id ep i off b o' h1 h2 h3=>exact .now (by simp[execOp,ho,hcv]) (.W9 _ id ep i off b o' h1 h2 h3)
   |W_ _ f' xs ys vs us h1 h2 h3 h4=>exact .now (by simp[execOp,ho,hcv]) (.W_ _ f' xs ys vs us h1 h2 h3 h4)
   |VZ _ id b h1 h2=>exact .now (by simp[execOp,ho,hcv]) (.VZ _ id b h1 h2)
   |_=>trivial
  ·cases h
 case makeInterface ty x =>
  split at h
  ·cases h
  ·rename_i s d O hs hu;injection h with h;subst h;refine .ofVal (m:=Instr.makeInterface ty (a.eval x)) (by simp only[execOp,ho]) ⟨.iface ty (a.eval x),?_,.V9 _ ty _ _ (aA hs ht hr)⟩;unfold Instr.makeInterface;simp only[Yb,aN hu,XT]
   try rfl
  ·cases h
 case makeSlice ty l c =>
  split at h
  ·rename_i e sl sc he hl hc
   split at h
   ·rename_i sz bytes zero q M hz;rw[aa]at h
    split at h
    ·rename_i j;simp only[XM,YM,ay]at j;injection h with h;subst h;have hu:C.P.underlying ty=some (.slice e):=by unfold nj at he;split at he<;>first| (injection he with he;subst he;assumption)|cases he
     exact .ofUpd (by simp only[execOp,ho]) (Fj hr hf hu q M hz (ba j.1) j.2 (aA hl ht hr) (aA hc ht hr))
    ·cases h
   ·cases h
  ·cases h
 case fieldAddr ty x fi =>
  split at h
  ·rename_i s fo ft hs F
   split at h
   ·rename_i n G;injection h with h;subst h;exact .ofVal (by simp only[execOp,ho]) (Fc (g:=g) (aA hs ht hr) F G)
   ·cases h
  ·cases h
 case field ty x fi =>
  split at h
  ·rename_i s fo ft hs F
   split at h
   ·rename_i ag n E G;injection h with h;subst h;have B:=aA hs ht hr;refine .ofVal (m:=Instr.field ty (a.eval x) fi) (by simp only[execOp,ho]) ?_;dsimp only;generalize s.run t=y at B ⊢;cases y<;>first|trivial|exact Nq B F E G
   ·cases h
  ·cases h
 case indexAddr ty x ix =>
  split at h
  ·rename_i s i hs hi
   split at h
   ·rename_i e hu
    split at h
    ·rename_i sz q;injection h with h;subst h;exact .ofVal (by simp only[execOp,ho]) (Iw hr (aA hs ht hr) (aA hi ht hr) hu q λid hid=>agree id (by simp[bE,aV,am,hs,hu,hid]))
    ·cases h
   ·rename_i n e hu
    split at h
    ·rename_i sz q;injection h with h;subst h;exact .ofVal (by simp only[execOp,ho]) (Iv (g:=g) (aA hs ht hr) (aA hi ht hr) hu q)
    ·cases h
   ·cases h
  ·cases h
 case index ty x ix =>
  split at h
  ·rename_i s i hs hi
   split at h
   ·rename_i n e hu
    split at h
    ·rename_i ag sz E q;injection h with h;subst h;exact .ofVal (by simp only[execOp,ho]) (Ny (g:=g) (aA hs ht hr) (aA hi ht hr) hu E q)
    ·cases h
   ·rename_i hu;injection h with h;subst h;exact .ofVal (by simp only[execOp,ho]) (GU (g:=g) (aA hs ht hr) (aA hi ht hr) hu)
   ·cases h
  ·cases h
 case lookup ty x k ok =>
  split at h
  ·rename_i m kk kt et hm hk hu
   split at h
   ·rename_i z hz;injection h with h;subst h;exact .ofVal (by simp only[execOp,ho]) (Kl (ok:=ok) hr hu hz (aA hm ht hr) (aA hk ht hr) λid hid=>agree id (by cases ok<;>simp[bE,aV,am,hm,hid]))
   ·cases h
  ·cases h
 case mapUpdate ty m k x =>
  split at h
  ·rename_i sm sk sx kt et hm hk hx hu;injection h with h;subst h;exact .ofUnit (by simp only[execOp,ho]) (x_ hr hu (aA hm ht hr) (aA hk ht hr) (aA hx ht hr) λid hid=>agree id (by simp[bE,aV,am,hm,hid]))
  ·cases h
 case insert ty m k x =>
  split at h
  ·rename_i sm sk sx kt et hm hk hx hu;injection h with h;subst h;exact .ofUnit (by simp only[execOp,ho]) (x_ hr hu (aA hm ht hr) (aA hk ht hr) (aA hx ht hr) λid hid=>agree id (by simp[bE,aV,am,hm,hid]))
  ·cases h
 case mapEntry ty m k =>
  split at h
  ·rename_i sm sk kt et hm hk hu
   split at h
   ·rename_i z hz;injection h with h;subst h;exact .ofUpd (by simp only[execOp,ho]) (G2 hr hu hz (aA hm ht hr) (aA hk ht hr) λid hid=>agree id (by simp[bE,aV,hm,hid]))
   ·cases h
  ·cases h
 case entryStore ty m st x =>
  split at h
  ·rename_i sm ss sx hm hs hx;injection h with h;subst h;exact .ofUnit (s:=Instr.entryStore ty (a.eval m) (a.eval st) (a.eval x)) (by simp only[execOp,ho]) (Dd hr (aA hm ht hr) (aA hs ht hr) (aA hx ht hr) λid hid=>agree id (by simp[bE,aV,am,hm,hid]))
  ·cases h
 case extract x i =>
  split at h
  ·rename_i s hs;injection h with h;subst h;have B:=aA hs ht hr;refine .ofVal (m:=Instr.extract (a.eval x) i) (by simp only[execOp,ho]) ?_;dsimp only;generalize s.run t=cv at B ⊢;generalize a.eval x=vc at B;cases B with
   | WM _ xs vs hl hall =>
    simp only[gy];refine qr λy K=>?_;have hlt:i<vs.size:=by rw[<-hl];exact (XI.1 K).1
    exact⟨vs[i],by simp[Instr.extract,hlt],hall i y _ K (by simp[hlt])⟩
   |_=>trivial
  ·cases h
 case makeMap ty r =>
  cases r with
  |some r=>cases h
  | none =>
   dsimp only at h
   split at h
   ·injection h with h;subst h;refine .ofUpd (m:=do pure (.map (some (<-newObj (.map #[] 0))))) ?_ (Ko (P:=C.P) hr hf);simp only[execOp,ho,Instr.makeMap,abx]
    try rfl
   ·cases h
 case makeFunc fn fi ca =>
  cases fn with
  | func fx =>
   dsimp only at h
   split at h
   ·rename_i sa sc ha hc;injection h with h;subst h;have B:=i_ ht hr ha;have L:=i_ ht hr hc;refine .now (v:=.func (.func fx) (fi.map a.eval) (ca.map a.eval)) (by simp[execOp,ho,Instr.makeFunc]) (.W_ _ fx _ _ _ _ (by simpa using B.1) (by simpa using L.1) (λi x v hx hv=>?_) (λi x v hx hv=>?_))
    ·exact B.2 i x v hx (by simpa using hv)
    ·exact L.2 i x v hx (by simpa using hv)
   ·cases h
  |_=>cases h
 case buildSlice ty len parts =>
  split at h
  ·rename_i e vs he D
   split at h
   ·rename_i sz zero q hz;rw[aa]at h
    split at h
    ·rename_i j;simp only[XM,YM,Yt,ay]at j;injection h with h;subst h;have hu:C.P.underlying ty=some (.slice e):=by unfold nj at he;split at he<;>first| (injection he with he;subst he;assumption)|cases he
     exact .ofUpd (by simp only[execOp,ho]) (CP hr hf hu q hz (ba j.1.1) j.1.2 j.2 (i_ ht hr D))
    ·cases h
   ·cases h
  ·cases h
 case build ty parts =>
  split at h
  ·rename_i zero vs hz D
   split at h
   ·rename_i fs hu
    split at h
    ·rename_i places N
     split at h
     ·rename_i pl hp;injection h with h;subst h;refine .ofVal (m:=Instr.build ty (parts.map λ(i,x)=>(i,a.eval x))) (by simp only[execOp,ho]) (Fu (g:=g) (place:=(places[·]?)) hz (i_ ht hr D) hp λz cells hzv hfill=>?_);have h1:(fs.mapM λf=>do pure (f.offset,<-Go.sizeOf f.type):Sem (Array (Nat×Nat))).run C.P w=.ok places.toArray w:=by
       rw[abg];have:=Kz (w:=w) N;simp only[Sem.run_map,this]
       rfl
      unfold Instr.build;simp only[Yb,hzv,aN hu,XT,h1];have e:(λi:Nat=>places.toArray[i]?)=(λi:Nat=>places[i]?):=by funext i;simp
      rw[e,hfill]
      rfl
     ·cases h
    ·cases h
   ·rename_i n e hu
    split at h
    ·rename_i sz q;injection h with h;subst h;refine .ofVal (m:=Instr.build ty (parts.map λ(i,x)=>(i,a.eval x))) (by simp only[execOp,ho]) (Fu (g:=g) (place:=λi=>some (i*sz,sz)) hz (i_ ht hr D) ?_ λz cells hzv hfill=>?_)
     ·generalize parts.toList.map (·.1)=is
      induction is with
      |nil=>rfl
      |cons i is ih=>simp only[aD,ih,Z7]
     ·unfold Instr.build;simp only[Yb,hzv,aN hu,XT,bH q];rw[hfill]
      rfl
    ·cases h
   ·cases h
  ·cases h
 case slice ty x lo hi mx =>
  have optR:∀{y:Option Operand} {s:Wv (T->List AV)},cp C y.toList=some s->Jr w γ A bd (s.run t).head? (y.map a.eval):=by intro y s hs;have:=Qs (i_ ht hr hs);cases y<;>simpa using this
  cases mx with
  | none =>
   dsimp only at h
   split at h
   ·rename_i e sx sl sh hu hx hl H
    split at h
    ·rename_i sz q;injection h with h;subst h;refine .ofVal (m:=Instr.sliceAt ty (a.eval x) (lo.map a.eval) (hi.map a.eval) none) (by simp only[execOp,ho,abx]) ?_;exact Ez hr hu q (aA hx ht hr) (optR hl) (optR H) trivial (λh=>absurd rfl h) λid hid=>agree id (by simp[bE,aV,am,hx,hid])
    ·cases h
   ·rename_i n e sx sl sh hu hx hl H
    split at h
    ·rename_i sz q;injection h with h;subst h;refine .ofUpd (m:=Instr.sliceAt ty (a.eval x) (lo.map a.eval) (hi.map a.eval) none) (by simp only[execOp,ho,abx]) ?_;exact Hn (lo:=λt=>(sl.run t).head?) (hi:=λt=>(sh.run t).head?) hr hu q (XR _) (aA hx ht hr) (optR hl) (optR H) λid hid=>agree id (by simp[bE,aV,am,hx,hid])
    ·cases h
   ·cases h
  | some mx =>
   cases hi with
   |none=>cases h
   | some hi =>
    dsimp only at h
    split at h
    ·rename_i e sx sl sh sm he hx hl H hm
     split at h
     ·rename_i sz q;injection h with h;subst h;have hu:C.P.underlying ty=some (.slice e):=by unfold nj at he;split at he<;>first| (injection he with he;subst he;assumption)|cases he
      refine .ofVal (m:=Instr.sliceAt ty (a.eval x) (lo.map a.eval) (some (a.eval hi)) (some (a.eval mx))) (by simp only[execOp,ho,YR]) ?_;exact Ez hr hu q (aA hx ht hr) (optR hl) (aA H ht hr) (aA hm ht hr) (λ_ h=>by cases h) λid hid=>agree id (by simp[bE,aV,am,hx,hid])
     ·cases h
    ·cases h
 case call c =>
  obtain⟨callee,args,argTypes⟩:=c;cases callee<;>first| (cases h;done)|skip
  rename_i b;dsimp only at h;obtain⟨vs,D⟩:=xR h;obtain⟨m,h1,h2⟩:=HQ (ty:=o.type) (consts:=args.map fun|.const _=>true|_=>false) h ht hr hf λx hx s hs id hid=>agree id (by have:=M6 (t:=t) D x hx s hs;unfold bE aV;simp only[D,am,Zl,X6,ZF];exact⟨_,this,hid⟩)
  refine .ofUpd (m:=m) ?_ h2;rw[<-h1];simp only[execOp,ho,resolve,invoke];have e:args.map a.eval=(args.toList.map a.eval).toArray:=by apply On;simp
  rw[<-e]
  rfl
end
section
variable {g2:G}
def ff{α β:Type}{f:α->Option β}:∀{l:List α} {r:List β},aD f l=some r->∀(i:Nat) y,r[i]?=some y->∃x,l[i]?=some x/\f x=some y:=by
 intro l
 induction l with
 |nil=>intro r h i y k;simp only[aD]at h;cases h;simp at k
 | cons a l ih =>
  intro r h i y k;simp only[aD]at h
  split at h
  ·rename_i b hb
   split at h
   ·rename_i bs c;cases h;cases i with
    |zero=>simp at k;subst k;exact⟨a,rfl,hb⟩
    |succ i=>simpa using ih c i y (by simpa using k)
   ·cases h
  ·cases h
def mC{α β:Type}{f:α->Option β}:∀{l:List α} {r:List β},aD f l=some r->r.length=l.length:=by
 intro l
 induction l with
 |nil=>intro r h;simp only[aD]at h;cases h;rfl
 | cons a l ih =>
  intro r h;simp only[aD]at h
  split at h
  ·split at h
   ·rename_i bs k;cases h;simp[ih k]
   ·cases h
  ·cases h
def IL{α β:Type}{f:α->Option β}{l:List α}{r:List β}(h:aD f l=some r){y:β}(hy:y∈r):∃x∈l,f x=some y:=by let⟨i,hi⟩:=Yd hy;let⟨x,h1,h2⟩:=ff h i y hi;exact⟨x,XL h1,h2⟩
def Jw{h:H}{tag:Nat}:∀{f:Nat} {x y:AV},Xm h tag f x=some y->x.one=true->y.one=true:=by
 intro f x y hs hx;cases f with
 |zero=>cases hs
 | succ f =>
  cases x<;>simp only[Xm]at hs<;>first| (cases hx;done)|skip
  all_goals first| (cases hs;rfl)|skip
  all_goals
   repeat (split at hs)
   all_goals first| (cases hs;done)| (cases hs;rfl)| (rw[aa]at hs;split at hs<;>first| (cases hs;done)| (cases hs;rfl))
def PI(h:H)(hg:Nat->Xh):Prop:=∀id,h.get id≠.none->hg id=h.get id
section
variable {C:Xg}{A A':Nat->Nat->Prop}{bd:Nat}{w w':World}{γ γ':Gm}{hg:Nat->Xh}{nx:Nat}
def pz(h:RV w γ A bd x v):Closed x ->
  (∀t b,t<=bd->b<w.heap.size->¬A t b->¬Nc γ b->¬A' t b/\¬Nc γ' b)->RV w γ' A' bd x v:=by
 induction h with
 |bool=>intro _ _;exact .bool _ _
 |int=>intro _ _;exact .int _ _ _
 |str=>intro _ _;exact .str _ _
 | WM _ xs vs hl _ ih =>intro hc hs;cases hc with|WM _ hc=>exact .WM _ _ _ hl λi x v h1 h2=>ih i x v h1 h2 (hc x (XL h1)) hs
 | agg _ xs vs hl h1 _ ih =>intro hc hs;cases hc with|agg _ hc=>exact .agg _ _ _ hl h1 λi x v h1 h2=>ih i x v h1 h2 (hc x (XL h1)) hs
 |WQ=>intro _ _;exact .WQ _
 |XC=>intro _ _;exact .XC _
 |WT=>intro _ _;exact .WT _
 |V8=>intro _ _;exact .V8 _
 |WB=>intro _ _;exact .WB _
 |Wd=>intro _ _;exact .Wd _ _
 | WO _ tag sz rows b o cap cell ht hc hb hm ha hr ho hw h hcl ih =>
  intro _ hs;let⟨h1,h2⟩:=hs tag b ht hb ha hm;exact .WO _ tag sz rows b o cap cell ht hc hb h2 h1 hr ho hw
   (λi j row x a c=>ih i j row x a c (hcl row (XL a) x (XL c)) λt b hle=>hs t b (Ya hle ht)) hcl
 |Wt _ tag sz a cap ht=>intro _ _;exact .Wt _ tag sz a cap ht
 | Xn _ tag sz rows i0 Wg b o cell ht hb hm ha hr ho hw h hcl ih =>
  intro _ hs;let⟨h1,h2⟩:=hs tag b ht hb ha hm;exact .Xn _ tag sz rows i0 Wg b o cell ht hb h2 h1 hr ho hw
   (λi j row x a c=>ih i j row x a c (hcl row (XL a) x (XL c)) λt b hle=>hs t b (Ya hle ht)) hcl
 |Xj=>intro hc;cases hc
 |W9=>intro hc;cases hc
 | W_ _ f xs ys vs us hl hl2 _ _ ih ih2 =>
  intro hc hs;cases hc with
  |W_ _ _ _ hc hc2=>exact .W_ _ f xs ys vs us hl hl2 (λi x v h1 h2=>ih i x v h1 h2 (hc x (XL h1)) hs) (λi x v h1 h2=>ih2 i x v h1 h2 (hc2 x (XL h1)) hs)
 |hmap=>intro hc;cases hc
 |V9 _ t x v _ ih=>intro hc hs;cases hc with|V9 _ _ hc=>exact .V9 _ t x v (ih hc hs)
 |VZ=>intro hc;cases hc
def Eq(h:RV w γ A bd x v)(hx:(∃l sz rows,x=.WO l sz rows)\/(∃l sz rows i o,x=.Xn l sz rows i o)):Closed x:=by
 rcases hx with⟨l,sz,rows,rfl⟩|⟨l,sz,rows,i,o,rfl⟩
 ·cases h with
  |WO _ _ _ _ _ _ _ _ _ _ _ _ _ _ _ _ _ hcl=>exact .WO _ _ _ hcl
  |Wt=>exact .WO _ _ _ λrow h=>by cases h
 ·cases h with
  |Xn _ _ _ _ _ _ _ _ _ _ _ _ _ _ _ _ _ hcl=>exact .Xn _ _ _ _ _ hcl
def MG{h:H}{tag B:Nat}{L:Nat->Prop}(hr:W4 C A bd w γ hg nx)(hx:∀id,L id->h.get id≠.none->hg id=h.get id)(hB:bd<=B)(htB:tag<=B)
  (hs:∀t b,t<=bd->b<w.heap.size->¬A t b->¬Nc γ b->¬A' t b/\¬Nc γ' b)
  (ho:∀id,L id->(∃sz rows ep lo fz,h.get id=.cells sz rows ep lo fz)->(γ id).kind=1->∀t,tag<=t->t<=B->¬A' t (γ id).blk/\¬Nc γ' (γ id).blk) :
  ∀(f:Nat) {x y:AV} {v:Value},Xm h tag f x=some y->RV w γ A bd x v->(∀id∈aL h f x,L id)->RV w γ' A' B y v/\Closed y:=by
 intro f
 induction f with
 |zero=>intro x y v h;cases h
 | succ f ih =>
  intro x y v d hv hL;have q:∀{xs ys:List AV} {vs:Array Value},aD (Xm h tag f) xs=some ys->(∀id∈xs.flatMap (aL h f),L id)->xs.length=vs.size ->
    (∀(i:Nat) x v,xs[i]?=some x->vs[i]?=some v->RV w γ A bd x v) ->
    ys.length=vs.size/\(∀(i:Nat) x v,ys[i]?=some x->vs[i]?=some v->RV w γ' A' B x v)/\∀y∈ys,Closed y:=by
   intro xs ys vs h1 h2 h3 h4;have M:∀(i:Nat) y,ys[i]?=some y->∃v,vs[i]?=some v/\RV w γ' A' B y v/\Closed y:=by
    intro i y Q;let⟨x,a1,a2⟩:=ff h1 i y Q;have hlt:i<vs.size:=by rw[<-h3];exact (XI.1 a1).1
    have hv:=Yn hlt;let⟨b1,b2⟩:=ih a2 (h4 i x _ a1 hv) λid n=>h2 id (ZF.2 ⟨x,XL a1,n⟩);exact⟨_,hv,b1,b2⟩
   refine⟨by rw[mC h1,h3],λi y v Q hv=>?_,λy Q=>?_⟩
   ·let⟨v',b1,b2,_⟩:=M i y Q;rw[hv]at b1;cases b1;exact b2
   ·let⟨i,hi⟩:=Yd Q;let⟨_,_,_,b⟩:=M i y hi;exact b
  have F:∀{id sz:Nat} {rows:List (List AV)} {ep:Nat} {lo fz:Bool} {start len:Nat} {rs:List (List AV)} {m:Nat},
    hg id=.cells sz rows ep lo fz->aD (aD (Xm h tag f)) ((rows.drop start).take len)=some rs->jf rs=some m ->
    (∀id'∈((rows.drop start).take len).flatMap (·.flatMap (aL h f)),L id')->start+len<=rows.length ->
    rs.length=len/\m<=B/\(∀(i:Nat) row,rs[i]?=some row->row.length=sz) /\
    (∀(i j:Nat) row x,rs[i]?=some row->row[j]?=some x->x.one=true/\∃c,w.cell? (Wy (γ id).blk ((γ id).base+start*sz+i*sz+j))=some c/\RV w γ' A' m x c) /\
    (∀row∈rs,∀x∈row,Closed x):=by
   intro id sz rows ep lo fz start len rs m n hm I U N;have r:=hr.obj id;rw[n]at r;have O:rs.length=len:=by rw[mC hm];simp;omega
   have key:∀(i j:Nat) row x,rs[i]?=some row->row[j]?=some x->x.one=true/\∃c,w.cell? (Wy (γ id).blk ((γ id).base+start*sz+i*sz+j))=some c/\RV w γ' A' B x c/\Closed x:=by
    intro i j row x hi p;let⟨WA,a1,a2⟩:=ff hm i row hi;let⟨T,b1,b2⟩:=ff a2 j x p;have W:rows[start+i]?=some WA:=by
     rw[ZC]at a1
     split at a1
     ·rw[YH]at a1;exact a1
     ·cases a1
    let⟨c1,v,u,J⟩:=Ba hr n W j T b1;let⟨d1,d2⟩:=ih b2 J λid' hid'=>U id' (ZF.2 ⟨WA,XL a1,ZF.2 ⟨T,XL b1,hid'⟩⟩);refine⟨Jw b2 c1,v,?_,d1,d2⟩;rw[<-u];congr 2;rw[Yk];omega
   refine⟨O,?_,?_,?_,?_⟩
   ·refine jq I λrow E k hk=>jq hk λx hx k' hk'=>?_;let⟨i,hi⟩:=Yd E;let⟨j,p⟩:=Yd hx;let⟨_,c,_,hc,_⟩:=key i j row x hi p;exact Hw _ hk' hc
   ·intro i row hi;let⟨WA,a1,a2⟩:=ff hm i row hi;rw[mC a2];let⟨Z,k2,S,k4,k5,k6,c,e,k7,k8,k9,h5⟩:=r;rw[ZC]at a1
    split at a1
    ·rw[YH]at a1;exact k9 _ _ a1
    ·cases a1
   ·intro i j row x hi p;let⟨c1,c,u,J,_⟩:=key i j row x hi p;exact⟨c1,c,u,EF I hi p J⟩
   ·intro row E x hx;let⟨i,hi⟩:=Yd E;let⟨j,p⟩:=Yd hx;let⟨_,_,_,_,c⟩:=key i j row x hi p;exact c
  cases hv with
  | agg _ xs vs hl h1 h2 =>
   simp only[Xm]at d
   split at d
   ·rename_i as z;cases d;let⟨a,b,c⟩:=q z (by simpa only[aL] using hL) hl h2;refine⟨.agg _ _ _ a (λi x hi=>?_) b,.agg _ c⟩;let⟨T,a1,a2⟩:=ff z i x hi;exact Jw a2 (h1 i T a1)
   ·cases d
  | WM _ xs vs hl h2 =>
   simp only[Xm]at d
   split at d
   ·rename_i as z;cases d;let⟨a,b,c⟩:=q z (by simpa only[aL] using hL) hl h2;exact⟨.WM _ _ _ a b,.WM _ c⟩
   ·cases d
  | W_ _ g xs ys vs us hl hl2 h1 h2 =>
   simp only[Xm]at d;simp only[aL]at hL
   split at d
   ·rename_i as cs z V;cases d;let⟨a,b,c⟩:=q z (λid n=>hL id (ZE _ n)) hl h1;let⟨a',b',c'⟩:=q V (λid n=>hL id (ZA _ n)) hl2 h2;exact⟨.W_ _ _ _ _ _ _ a a' b b',.W_ _ _ _ c c'⟩
   ·cases d
  | V9 _ t x v h1 =>
   simp only[Xm]at d
   split at d
   ·rename_i a ha;cases d;let⟨a,b⟩:=ih ha h1 (by simpa only[aL] using hL);exact⟨.V9 _ _ _ _ a,.V9 _ _ b⟩
   ·cases d
  | Xj _ id ep off len lim b o cap hk he hc h' =>
   simp only[Xm]at d
   split at d
   ·rename_i sz rows ep' lo fz l;rw[aa]at d
    split at d
    ·rename_i D;simp only[XM,Yt,ay]at D;let⟨s,N⟩:=D;have s:=ba s
     split at d
     ·rename_i rs G
      split at d
      ·rename_i m hm;cases d;have n:hg id=.cells sz rows ep' lo fz:=by rw[hx id (hL id (by simp[aL])) (by rw[l];simp),l]
       have r:=hr.obj id;rw[n]at r;let⟨Z,k2,S,k4,_⟩:=r;let⟨e1,e2,e3⟩:=h' (s.trans k2.symm);subst e1;subst e2;simp only[aL,l]at hL;simp only[bI,bK]at G hL;let⟨X,R,Y,K,r5⟩:=F n G hm (λid' hid'=>hL id' (Yw _ hid')) N;let⟨o1,o2⟩:=ho id (hL id YQ) ⟨_,_,_,_,_,l⟩ hk (Nat.max tag m) (Y_ _ _) (Or.2 ⟨htB,R⟩);refine⟨?_,.WO _ _ _ r5⟩;rw[<-X];rw[S];refine .WO _ (Nat.max tag m) sz rs (γ id).blk ((γ id).base+off*sz) cap (λi j=>(w.cell? (Wy (γ id).blk ((γ id).base+off*sz+i*sz+j))).getD undef) (Or.2 ⟨htB,R⟩) (by rw[X];exact hc)
        (hr.lt id (by rw[hk];decide)).2 o2 o1 Y (λi j row x hi p=>(K i j row x hi p).1) (λi j row x hi p=>?_) (λi j row x hi p=>?_) r5
       ·let⟨_,c,u,_⟩:=K i j row x hi p;simp only[u,XP]
       ·let⟨_,c,u,J⟩:=K i j row x hi p;simp only[u,XP];exact J.mono (Zx _ _)
      ·cases d
     ·cases d
    ·cases d
   ·cases d
  | W9 _ id ep i off b o hk he h' =>
   simp only[Xm]at d
   split at d
   ·rename_i sz rows ep' lo fz l;rw[aa]at d
    split at d
    ·rename_i s;have s:=ba s
     split at d
     ·rename_i rs G
      split at d
      ·rename_i m hm;cases d;have n:hg id=.cells sz rows ep' lo fz:=by rw[hx id (hL id (by simp[aL])) (by rw[l];simp),l]
       have r:=hr.obj id;rw[n]at r;let⟨Z,k2,S,k4,_⟩:=r;let⟨e1,e2⟩:=h' (s.trans k2.symm);subst e1;subst e2;simp only[aL,l]at hL;have P:aD (aD (Xm h tag f)) ((rows.drop 0).take rows.length)=some rs:=by simpa using G
       let⟨X,R,Y,K,r5⟩:=F n P hm (λid' hid'=>hL id' (Yw _ (by simpa using hid'))) (by omega);let⟨o1,o2⟩:=ho id (hL id YQ) ⟨_,_,_,_,_,l⟩ hk (Nat.max tag m) (Y_ _ _) (Or.2 ⟨htB,R⟩);refine⟨?_,.Xn _ _ _ _ _ r5⟩;rw[S];refine .Xn _ (Nat.max tag m) sz rs i off (γ id).blk (γ id).base (λi j=>(w.cell? (Wy (γ id).blk ((γ id).base+i*sz+j))).getD undef) (Or.2 ⟨htB,R⟩)
        (hr.lt id (by rw[hk];decide)).2 o2 o1 Y (λi j row x hi p=>(K i j row x hi p).1) (λi j row x hi p=>?_) (λi j row x hi p=>?_) r5
       ·let⟨_,c,u,_⟩:=K i j row x hi p;simp only[aaV,Zf]at u;simp only[u,XP]
       ·let⟨_,c,u,J⟩:=K i j row x hi p;simp only[aaV,Zf]at u;simp only[u,XP];exact J.mono (Zx _ _)
      ·cases d
     ·cases d
    ·cases d
   ·cases d
  |hmap=>cases d
  |VZ=>cases d
  | WO _ tag' sz rows b o cap cell ht hc hb hm ha hrl ho' hw hcell hcl =>simp only[Xm]at d;cases d;exact⟨(pz (.WO _ tag' sz rows b o cap cell ht hc hb hm ha hrl ho' hw hcell hcl) (.WO _ _ _ hcl) hs).mono hB,.WO _ _ _ hcl⟩
  |Wt _ tag' sz a cap ht=>simp only[Xm]at d;cases d;exact⟨.Wt _ tag' sz a cap (Ya ht hB),.WO _ _ _ λrow h=>by cases h⟩
  | Xn _ tag' sz rows i0 Wg b o cell ht hb hm ha hrl ho' hw hcell hcl =>simp only[Xm]at d;cases d;exact⟨(pz (.Xn _ tag' sz rows i0 Wg b o cell ht hb hm ha hrl ho' hw hcell hcl) (.Xn _ _ _ _ _ hcl) hs).mono hB,.Xn _ _ _ _ _ hcl⟩
  |bool=>simp only[Xm]at d;cases d;exact⟨.bool _ _,.bool _⟩
  |int=>simp only[Xm]at d;cases d;exact⟨.int _ _ _,.int _ _⟩
  |str=>simp only[Xm]at d;cases d;exact⟨.str _ _,.str _⟩
  |WQ=>simp only[Xm]at d;cases d;exact⟨.WQ _,.WQ⟩
  |XC=>simp only[Xm]at d;cases d;exact⟨.XC _,.XC⟩
  |WT=>simp only[Xm]at d;cases d;exact⟨.WT _,.WT⟩
  |V8=>simp only[Xm]at d;cases d;exact⟨.V8 _,.V8⟩
  |WB=>simp only[Xm]at d;cases d;exact⟨.WB _,.WB⟩
  |Wd _ a=>simp only[Xm]at d;cases d;exact⟨.Wd _ a,.Wd⟩
def Gn:∀{f:Nat} {x y:AV},dV d f x=some y->x.one=true->y.one=true:=by
 intro f x y hs hx;cases f with
 |zero=>cases hs
 | succ f =>
  cases x<;>simp only[dV,aa]at hs<;>first| (cases hx;done)|skip
  all_goals first| (cases hs;rfl)|skip
  all_goals
   repeat (split at hs)
   all_goals first| (cases hs;done)| (cases hs;rfl)
def Rj(hA:∀t b,t<d->¬A t b->¬A' t b)(hd:∀b,¬A d b->∀t,¬A' t b) :
  ∀(f:Nat) {x y:AV} {v:Value},dV d f x=some y->RV w γ A d x v->Closed x->RV w γ A' d y v/\Closed y:=by
 intro f
 induction f with
 |zero=>intro x y v h;cases h
 | succ f ih =>
  intro x y v l hv n;have q:∀{xs ys:List AV} {vs:Array Value},aD (dV d f) xs=some ys->xs.length=vs.size->(∀x∈xs,Closed x) ->
    (∀(i:Nat) x v,xs[i]?=some x->vs[i]?=some v->RV w γ A d x v) ->
    ys.length=vs.size/\(∀(i:Nat) x v,ys[i]?=some x->vs[i]?=some v->RV w γ A' d x v)/\∀y∈ys,Closed y:=by
   intro xs ys vs h1 h3 hc h4;have H:∀(i:Nat) y,ys[i]?=some y->∃v,vs[i]?=some v/\RV w γ A' d y v/\Closed y:=by
    intro i y I;let⟨x,a1,a2⟩:=ff h1 i y I;have hlt:i<vs.size:=by rw[<-h3];exact (XI.1 a1).1
    have hv:=Yn hlt;let⟨b1,b2⟩:=ih a2 (h4 i x _ a1 hv) (hc x (XL a1));exact⟨_,hv,b1,b2⟩
   refine⟨by rw[mC h1,h3],λi y v I hv=>?_,λy I=>?_⟩
   ·let⟨v',b1,b2,_⟩:=H i y I;rw[hv]at b1;cases b1;exact b2
   ·let⟨i,hi⟩:=Yd I;let⟨_,_,_,b⟩:=H i y hi;exact b
  have z:∀{sz:Nat} {rows rs:List (List AV)} {m:Nat} {cell:Nat->Nat->Value},aD (aD (dV d f)) rows=some rs->jf rs=some m ->
    (∀(i:Nat) row,rows[i]?=some row->row.length=sz) ->
    (∀(i j:Nat) row x,rows[i]?=some row->row[j]?=some x->x.one=true) ->
    (∀(i j:Nat) row x,rows[i]?=some row->row[j]?=some x->RV w γ A d x (cell i j)) ->
    (∀row∈rows,∀x∈row,Closed x) ->
    rs.length=rows.length/\m<=d/\(∀(i:Nat) row,rs[i]?=some row->row.length=sz) /\
    (∀(i j:Nat) row x,rs[i]?=some row->row[j]?=some x->x.one=true/\(∃WA r,rows[i]?=some WA/\WA[j]?=some r)/\RV w γ A' m x (cell i j)) /\
    (∀row∈rs,∀x∈row,Closed x):=by
   intro sz rows rs m cell h1 h2 h3 h4 h5 h6;have key:∀(i j:Nat) row x,rs[i]?=some row->row[j]?=some x->x.one=true/\(∃WA r,rows[i]?=some WA/\WA[j]?=some r)/\RV w γ A' d x (cell i j)/\Closed x:=by intro i j row x hi B;let⟨WA,a1,a2⟩:=ff h1 i row hi;let⟨r,b1,b2⟩:=ff a2 j x B;let⟨c1,D⟩:=ih b2 (h5 i j WA r a1 b1) (h6 WA (XL a1) r (XL b1));exact⟨Gn b2 (h4 i j WA r a1 b1),⟨WA,r,a1,b1⟩,c1,D⟩
   refine⟨mC h1,?_,?_,?_,?_⟩
   ·refine jq h2 λrow u k hk=>jq hk λx hx k' hk'=>?_;let⟨i,hi⟩:=Yd u;let⟨j,B⟩:=Yd hx;let⟨_,_,hc,_⟩:=key i j row x hi B;exact Hw _ hk' hc
   ·intro i row hi;let⟨WA,a1,a2⟩:=ff h1 i row hi;rw[mC a2];exact h3 i WA a1
   ·intro i j row x hi B;let⟨c1,D,N,_⟩:=key i j row x hi B;exact⟨c1,D,EF h2 hi B N⟩
   ·intro row u x hx;let⟨i,hi⟩:=Yd u;let⟨j,B⟩:=Yd hx;let⟨_,_,_,c⟩:=key i j row x hi B;exact c
  have C:∀{t:Nat},t<=d->t≠d->∀t' b,t'<=t->b<w.heap.size->¬A t' b->¬Nc γ b->¬A' t' b/\¬Nc γ b :=λh1 h2 t' b h3 _ h4 h5=>⟨hA t' b (by omega) h4,h5⟩
  cases hv with
  | agg _ xs vs hl h1 h2 =>
   simp only[dV]at l
   split at l
   ·rename_i as s;cases l;cases n with
    | agg _ n =>let⟨a,b,c⟩:=q s hl n h2;refine⟨.agg _ _ _ a (λi x hi=>?_) b,.agg _ c⟩;let⟨r,a1,a2⟩:=ff s i x hi;exact Gn a2 (h1 i r a1)
   ·cases l
  | WM _ xs vs hl h2 =>
   simp only[dV]at l
   split at l
   ·rename_i as s;cases l;cases n with
    | WM _ n =>let⟨a,b,c⟩:=q s hl n h2;exact⟨.WM _ _ _ a b,.WM _ c⟩
   ·cases l
  | W_ _ g xs ys vs us hl hl2 h1 h2 =>
   simp only[dV]at l
   split at l
   ·rename_i as cs s J;cases l;cases n with
    | W_ _ _ _ n hcx2 =>let⟨a,b,c⟩:=q s hl n h1;let⟨a',b',c'⟩:=q J hl2 hcx2 h2;exact⟨.W_ _ _ _ _ _ _ a a' b b',.W_ _ _ _ c c'⟩
   ·cases l
  | V9 _ t x v h1 =>
   simp only[dV]at l
   split at l
   ·rename_i a ha;cases l;cases n with
    | V9 _ _ n =>let⟨a,b⟩:=ih ha h1 n;exact⟨.V9 _ _ _ _ a,.V9 _ _ b⟩
   ·cases l
  | WO _ t sz rows b o cap cell ht hc hb hm ha hrl ho' hw hcell hcl =>
   simp only[dV,aa]at l
   split at l
   ·rename_i p;have p:=ba p
    split at l
    ·rename_i rs F
     split at l
     ·rename_i m E;cases l;let⟨K,L,M,G,r5⟩:=z F E hrl ho' (λi j row x a b=>(hcell i j row x a b).mono ht) hcl;refine⟨?_,.WO _ _ _ r5⟩;rw[<-K];refine .WO _ m sz rs b o cap cell L (by rw[K];exact hc) hb hm (hd b (p ▸ ha) m) M (λi j row x a b=>(G i j row x a b).1) (λi j row x a b=>?_) (λi j row x a b=>(G i j row x a b).2.2) r5;let⟨_,⟨WA,r,c1,D⟩,_⟩:=G i j row x a b;exact hw i j WA r c1 D
     ·cases l
    ·cases l
   ·rename_i p;cases l;have p:t≠d:=λe=>p (by rw[e];exact Yl d);exact⟨.WO _ t sz rows b o cap cell ht hc hb hm (hA t b (by omega) ha) hrl ho' hw (λi j row x a c=>pz (hcell i j row x a c) (hcl row (XL a) x (XL c)) (C ht p)) hcl,.WO _ _ _ hcl⟩
  | Wt _ t sz a cap ht =>
   simp only[dV,aa]at l
   split at l
   ·simp only[aD,jf,il]at l;cases l;exact⟨.Wt _ _ sz a cap (Yi _),.WO _ _ _ λrow h=>by cases h⟩
   ·cases l;exact⟨.Wt _ t sz a cap ht,.WO _ _ _ λrow h=>by cases h⟩
  | Xn _ t sz rows i0 Wg b o cell ht hb hm ha hrl ho' hw hcell hcl =>
   simp only[dV,aa]at l
   split at l
   ·rename_i p;have p:=ba p
    split at l
    ·rename_i rs F
     split at l
     ·rename_i m E;cases l;let⟨K,L,M,G,r5⟩:=z F E hrl ho' (λi j row x a b=>(hcell i j row x a b).mono ht) hcl;refine⟨?_,.Xn _ _ _ _ _ r5⟩;refine .Xn _ m sz rs i0 Wg b o cell L hb hm (hd b (p ▸ ha) m) M (λi j row x a b=>(G i j row x a b).1) (λi j row x a b=>?_) (λi j row x a b=>(G i j row x a b).2.2) r5;let⟨_,⟨WA,r,c1,D⟩,_⟩:=G i j row x a b;exact hw i j WA r c1 D
     ·cases l
    ·cases l
   ·rename_i p;cases l;have p:t≠d:=λe=>p (by rw[e];exact Yl d);exact⟨.Xn _ t sz rows i0 Wg b o cell ht hb hm (hA t b (by omega) ha) hrl ho' hw (λi j row x a c=>pz (hcell i j row x a c) (hcl row (XL a) x (XL c)) (C ht p)) hcl,.Xn _ _ _ _ _ hcl⟩
  |bool=>simp only[dV]at l;cases l;exact⟨.bool _ _,.bool _⟩
  |int=>simp only[dV]at l;cases l;exact⟨.int _ _ _,.int _ _⟩
  |str=>simp only[dV]at l;cases l;exact⟨.str _ _,.str _⟩
  |WQ=>simp only[dV]at l;cases l;exact⟨.WQ _,.WQ⟩
  |XC=>simp only[dV]at l;cases l;exact⟨.XC _,.XC⟩
  |WT=>simp only[dV]at l;cases l;exact⟨.WT _,.WT⟩
  |V8=>simp only[dV]at l;cases l;exact⟨.V8 _,.V8⟩
  |WB=>simp only[dV]at l;cases l;exact⟨.WB _,.WB⟩
  |Wd _ a=>simp only[dV]at l;cases l;exact⟨.Wd _ a,.Wd⟩
  |Xj=>cases n
  |W9=>cases n
  |hmap=>cases n
  |VZ=>cases n
def JB(s1:w.heap.size<=w'.heap.size)(s2:w'.os=w.os)(s3:w'.tape=w.tape)(s4:w'.output=w.output)(s5:w.drawn<=w'.drawn)
  (hb:∀b,b<w.heap.size->w'.heap[b]?=w.heap[b]?):Stp w γ w' γ :=
 ⟨s1,s2,s3,s4,λb h _=>hb b h,λ_ _ h=>h,λ_ _=>.inl ⟨rfl,rfl⟩,λ_ _=>⟨XH _,λ_=>⟨rfl,rfl,rfl,rfl,rfl⟩⟩,s5⟩
def W4.same(hr:W4 C A bd w γ hg nx)(s:Stp w γ w' γ)(hb:∀b,b<w.heap.size->w'.heap[b]?=w.heap[b]?):W4 C A bd w' γ hg nx where
 obj id:=(hr.obj id).step s rfl λhk _=>hb _ (hr.lt id hk).2
 lt id hk:=⟨(hr.lt id hk).1,XX (hr.lt id hk).2 s.sz⟩
 inj:=hr.inj
 av:=hr.av
 ab t b h:=XX (hr.ab t b h) s.sz
 V_ g sz rows h:=(hr.V_ g sz rows h).step s
structure Fin (C:Xg) (A:Nat->Nat->Prop) (bd:Nat) (w:World) (γ:Gm) (hg:Nat->Xh) (nx:Nat) (g:G) (w':World) (γ':Gm) (hg':Nat->Xh) (g':G):Prop where
 rel:W4 C A bd w' γ' hg' (Nat.max nx g'.nx)
 pk:Stp w γ w' γ'
 new:∃new,g'.lg=new++g.lg/\(∀id∈new,hg' id=g'.h.get id)/\∀id,id ∉ new->hg' id=hg id
structure Mon (g g':G):Prop where
 nx:g.nx<=g'.nx
 new:∃new,g'.lg=new++g.lg/\(∀id,id ∉ new->g'.h.get id=g.h.get id)/\∀id∈new,id<g'.nx/\(g.h.get id=.none->g.nx<=id)
 wf:(∀id,g.nx<=id->g.h.get id=.none)->∀id,g'.nx<=id->g'.h.get id=.none
def WF(g:G):Prop:=∀id,g.nx<=id->g.h.get id=.none
def Mon.refl(g:G):Mon g g:=⟨XH _,⟨[],rfl,λ_ _=>rfl,λ_ h=>by cases h⟩,λh=>h⟩
def Mon.trans(h1:Mon g g1)(h2:Mon g1 g2):Mon g g2:=by
 let⟨n1,a1,b1,c1⟩:=h1.new;let⟨n2,a2,b2,k⟩:=h2.new;refine⟨Ya h1.nx h2.nx,⟨n2++n1,by rw[a2,a1,YA],λid hid=>?_,λid hid=>?_⟩,λh=>h2.wf (h1.wf h)⟩
 ·rw[b2 id λh=>hid (ZE _ h),b1 id λh=>hid (ZA _ h)]
 ·by_cases hin:id∈n1
  ·exact⟨XX (c1 id hin).1 h2.nx,(c1 id hin).2⟩
  ·rcases Yf.1 hid with h|h
   ·exact⟨(k id h).1,λhn=>Ya h1.nx ((k id h).2 (by rw[b1 id hin];exact hn))⟩
   ·exact absurd h hin
def Wm(γ:Gm)(g g':G):Prop:=∀id,g.nx<=id->id<=g'.nx->(γ id).kind=0
def Fin.refl{g:G}(hr:W4 C A bd w γ hg nx):Fin C A bd w γ hg nx g w γ hg g :=⟨hr.up (Y_ _ _),Stp.refl _ _,⟨[],rfl,λ_ h=>absurd h Yc,λ_ _=>rfl⟩⟩
def W4.none_iff(hr:W4 C A bd w γ hg nx)(id:Nat):(γ id).kind=0↔hg id=.none:=by
 have h:=hr.obj id;constructor
 ·intro hk;cases ho:hg id with
  |none=>rfl
  |_=>rw[ho]at h;have:=h.1;omega
 ·intro k;rw[k]at h;exact h
def Fin.freed{w1:World}{γ1:Gm}{hg1:Nat->Xh}(h1:Fin C A bd w γ hg nx g w1 γ1 hg1 g1)(hr:W4 C A bd w γ hg nx)(m1:Mon g g1)(hf:Wm γ g g2):Wm γ1 g1 g2:=by
 let⟨n,a,b,c⟩:=h1.new;let⟨n',a',b',c'⟩:=m1.new;have e:n'=n:=aai (a'.symm.trans a);subst e;intro id h2 h3;have k:id ∉ n':=λh=>by have:=(c' id h).1;omega
 rw[h1.rel.none_iff,c id k,<-hr.none_iff];exact hf id (Ya m1.nx h2) h3
def Wm.le{γ:Gm}(h:Wm γ g g2)(hle:g1.nx<=g2.nx):Wm γ g g1:=λid h1 h2=>h id h1 (Ya h2 hle)
def Fin.ext{hg':Nat->Xh}(h:Fin C A bd w γ hg nx g w' γ' hg' g')(m:Mon g g')(hx:PI g.h hg):PI g'.h hg':=by
 let⟨n,a,b,c⟩:=h.new;let⟨n',a',b',_⟩:=m.new;have e:n'=n:=aai (a'.symm.trans a);subst e;intro id k
 by_cases hin:id∈n'
 ·exact b id hin
 ·rw[c id hin,b' id hin];exact hx id (by rw[<-b' id hin];exact k)
def Fin.trans{g g1 g2:G}{w1 w2:World}{γ1 γ2:Gm}{hg1 hg2:Nat->Xh}(h1:Fin C A bd w γ hg nx g w1 γ1 hg1 g1)
  (h2:Fin C A bd w1 γ1 hg1 (Nat.max nx g1.nx) g1 w2 γ2 hg2 g2) (m1:Mon g g1) (m2:Mon g1 g2):Fin C A bd w γ hg nx g w2 γ2 hg2 g2:=by
 let⟨n1,a1,b1,c1⟩:=h1.new;let⟨n2,a2,b2,k⟩:=h2.new;let⟨n',a',b',_⟩:=m2.new;have e:n'=n2:=aai (a'.symm.trans a2);subst e;refine⟨?_,h1.pk.trans h2.pk,⟨n'++n1,by rw[a2,a1,YA],λid hid=>?_,λid hid=>?_⟩⟩
 ·refine h2.rel.up (Or.2 ⟨Or.2 ⟨Y_ _ _,Ya m2.nx (Zx _ _)⟩,Zx _ _⟩)
 ·by_cases hin:id∈n'
  ·exact b2 id hin
  ·rw[k id hin,b' id hin];rcases Yf.1 hid with h|h
   ·exact absurd h hin
   ·exact b1 id h
 ·rw[k id λh=>hid (ZE _ h),c1 id λh=>hid (ZA _ h)]
def rC(K:CallKind)(cs:List Frame):Prop:=K=.normal\/(K=.deferred/\∃c cs',cs=c::cs'/\(c.mode=.returning\/∃v x older,c.mode=.panicking ({ v,recovered:=true,goexit:=x }::older)))
def Jn(P:Program)(K:CallKind)(f:FuncId)(vs:Array Value)(cs:List Frame)(w:World)(u:Value)(w':World):Prop :=
 ∃fr,Steps P (lone (Frame.enter P f vs K) cs w) (lone fr cs w')/\fr.mode=.returning/\fr.defers=[]/\fr.kind=K/\fr.fn=f /\
  ∃fn,P.funcs[f]?=some fn/\(results fn fr.tmps).run P w'=.ok u w'
def Wk(P:Program)(f:FuncId):Prop:=∀args w,(callFunc f args).run P w=.ok (.enter f args) w
def Cc(C:Xg)(bd:Nat)(f:FuncId)(as:List AV)(g:G)(v:AV)(g':G):Prop :=
 ∀A w γ hg nx vs,W4 C A bd w γ hg nx->PI g.h hg->WF g->Wm γ g g'->Wa w γ A bd as vs->∀K cs,rC K cs ->
  ∃u w' γ' hg',Fin C A bd w γ hg nx g w' γ' hg' g'/\RV w' γ' A bd v u/\Jn C.P K f vs.toArray cs w u w'
def Gs(C:Xg)(ih:IH):Prop :=∀bd f as g v g',ih.call (bd+1) f as g=.ok v g'->Wk C.P f/\Cc C bd f as g v g'
def Cb(ih:IH):Prop:=∀d f as g v g',ih.call d f as g=.ok v g'->WF g->Mon g g'
def Ff:∀(ids:List Nat) (g:G),WF g->Mon g (cR g ids):=by
 intro ids
 induction ids with
 |nil=>intro g _;exact Mon.refl g
 | cons i is ih =>
  intro g a;simp only[cR]
  split
  ·rename_i sz rows ep lo fz k;have hi:i<g.nx:=abp λh=>by have:=a i h;rw[<-G.get_eq,k]at this;cases this
   refine Mon.trans ⟨by simp,⟨[i],by simp,λid hid=>?_,λid hid=>?_⟩,λh id hid=>?_⟩ (ih _ λid hid=>?_)
   ·simp only[G.put_h,VO];rw[XS];simpa using hid
   ·simp at hid;subst hid;exact⟨by simpa using hi,λhn=>by rw[<-G.get_eq,k]at hn;cases hn⟩
   ·simp only[G.put_nx]at hid;simp only[G.put_h,VO];rw[aJ];exact h id hid
   ·simp only[G.put_nx]at hid;simp only[G.put_h,VO];rw[aJ];exact a id hid
  ·exact ih g a
def Fg:∀(ids:List Nat) (g:G) (γ:Gm) (hg:Nat->Xh),W4 C A bd w γ hg nx->(∀id∈ids,g.h.get id≠.none->hg id=g.h.get id) ->
  ∃γ₁ hg₁,W4 C A bd w γ₁ hg₁ nx/\Stp w γ w γ₁/\(cR g ids).nx=g.nx /\
   (∃new,(cR g ids).lg=new++g.lg/\(∀id∈new,hg₁ id=(cR g ids).h.get id)/\(∀id,id ∉ new->hg₁ id=hg id)) /\
   (∀id,(γ₁ id).kind=(γ id).kind/\(γ₁ id).blk=(γ id).blk/\((γ₁ id).wr=true->(γ id).wr=true)) /\
   (∀id∈ids,(∃sz rows ep lo fz,g.h.get id=.cells sz rows ep lo fz)->(γ₁ id).wr=false):=by
 intro ids
 induction ids with
 | nil =>intro g γ hg hr hx;exact⟨γ,hg,hr,Stp.refl _ _,rfl,⟨[],rfl,λ_ h=>absurd h Yc,λ_ _=>rfl⟩,λ_=>⟨rfl,rfl,λh=>h⟩,λ_ h=>by cases h⟩
 | cons i is ih =>
  intro g γ hg hr hx;simp only[cR]
  split
  ·rename_i sz rows ep lo fz j;have d:g.h.get i=.cells sz rows ep lo fz:=by simpa using j
   have m:hg i=.cells sz rows ep lo fz:=by rw[hx i YQ (by rw[d];simp),d]
   let⟨γ₀,r0,s,e0,t⟩:=hr.freeze m;have n:∀id∈is,(g.put i (.cells sz rows ep lo true)).h.get id≠.none->upd hg i (.cells sz rows ep lo true) id=(g.put i (.cells sz rows ep lo true)).h.get id:=by
    intro id hin f;simp only[G.put_h,VO]at f ⊢;unfold upd
    by_cases hi:id=i
    ·simp[hi]
    ·simp only[hi,if_false]at f ⊢;exact hx id (Yw _ hin) f
   let⟨γ₁,hg₁,o,p,n1,⟨new,l1,l2,q⟩,f1,f2⟩:=ih _ γ₀ _ r0 n;refine⟨γ₁,hg₁,o,s.trans p,by rw[n1];simp,⟨new++[i],by rw[l1];simp,λid hid'=>?_,λid hid'=>?_⟩,λid=>?_,λid hid' hc=>?_⟩
   ·by_cases hin:id∈new
    ·exact l2 id hin
    ·have hi:id=i:=by
      rcases Yf.1 hid' with h|h
      ·exact absurd h hin
      ·simpa using h
     subst hi;rw[q id hin];simp only[upd_same]
     by_cases hwf:∃new',(cR (g.put id (.cells sz rows ep lo true)) is).lg=new'++(g.put id (.cells sz rows ep lo true)).lg/\∀k,k ∉ new'->(cR (g.put id (.cells sz rows ep lo true)) is).h.get k=(g.put id (.cells sz rows ep lo true)).h.get k
     ·let⟨new',r,q2⟩:=hwf;have e:new'=new:=aai (r.symm.trans l1);rw[q2 id (e ▸ hin)];simp[VO]
     ·exact absurd (freezeIds_log is _) hwf
   ·rw[q id λh=>hid' (ZE _ h)];exact dD _ _ (by rintro rfl;exact hid' (ZA _ YQ))
   ·let⟨a,b,c⟩:=f1 id;rw[e0]at a b c;unfold upd at a b c
    by_cases hi:id=i
    ·subst hi;simp at a b c;exact⟨a,b,λh=>by rw[c]at h;cases h⟩
    ·simp only[hi,if_false]at a b c;exact⟨a,b,c⟩
   ·rcases Yh.1 hid' with rfl|hin
    ·have:=(f1 id).2.2;rw[e0]at this;simp at this;simpa using this
    ·by_cases hi:id=i
     ·subst hi;have:=(f1 id).2.2;rw[e0]at this;simp at this;simpa using this
     ·refine f2 id hin ?_;simp only[G.put_h,VO,hi,if_false];exact hc
  ·rename_i f;let⟨γ₁,hg₁,o,p,n1,l,f1,f2⟩:=ih g γ hg hr λid hin=>hx id (Yw _ hin);refine⟨γ₁,hg₁,o,p,n1,l,f1,λid hid' hc=>?_⟩;rcases Yh.1 hid' with rfl|hin
   ·let⟨sz,rows,ep,lo,fz,hc⟩:=hc;exact absurd (by simpa using hc) (f sz rows ep lo fz)
   ·exact f2 id hin hc where
 freezeIds_log:∀(ids:List Nat) (g:G),∃new',(cR g ids).lg=new'++g.lg/\∀k,k ∉ new'->(cR g ids).h.get k=g.h.get k:=by
  intro ids
  induction ids with
  |nil=>intro g;exact⟨[],rfl,λ_ _=>rfl⟩
  | cons i is ih =>
   intro g;simp only[cR]
   split
   ·rename_i sz rows ep lo fz j;let⟨new,a,b⟩:=ih (g.put i (.cells sz rows ep lo true));refine⟨new++[i],by rw[a];simp,λk hk=>?_⟩;rw[b k λh=>hk (ZE _ h)];simp only[G.put_h,VO];rw[XS];rintro rfl;exact hk (ZA _ YQ)
   ·exact ih g
def Wh(g:G):OR->G
 |.upd _ g'=>g'
 |_=>g
def OM:OR->AV
 |.upd v _=>v
 |.val v=>v
 |_=>.undef
def wN{ih:IH}(hwf:WF g):Mon g (Wh g (aj ih d g f args)):=by
 unfold aj
 split
 ·exact Mon.refl g
 split
 ·exact Mon.refl g
 split
 ·exact Mon.refl g
 split
 ·exact Mon.refl g
 rw[aa]
 split
 ·exact Mon.refl g
 split
 ·exact Mon.refl g
 split
 ·exact Mon.refl g
 rw[aa]
 split
 ·exact Ff _ _ hwf
 ·exact Mon.refl g
def wO{ih:IH}{vs:List Value}(hc:Gs C ih)(hm:Cb ih)(hr:W4 C A bd w γ hg nx)
  (hx:∀id∈args.flatMap (aL g.h aF),g.h.get id≠.none->hg id=g.h.get id)
  (hv:Wa w γ A bd args vs) (hne:aj ih (bd+1) g f args≠.fail) (cs:List Frame) :
  Wk C.P f/\∃u w' γ' hg',Fin C A bd w γ hg nx g w' γ' hg' (Wh g (aj ih (bd+1) g f args))/\RV w' γ' A bd (OM (aj ih (bd+1) g f args)) u /\
   Jn C.P .normal f vs.toArray cs w u w':=by
 let γc:Gm:=λ_=>⟨0,0,0,0,0,0,0,false⟩
 let L:Nat->Prop:=λid=>id∈args.flatMap (aL g.h aF)
 let isC:Nat->Prop:=λid=>∃sz rows ep lo fz,g.h.get id=.cells sz rows ep lo fz
 let Ac:Nat->Nat->Prop:=λt b=>(t<=bd/\(A t b\/Nc γ b))\/(t=bd+1/\b<w.heap.size/\¬∃id,L id/\isC id/\(γ id).kind=1/\(γ id).blk=b)
 have e:∀b,¬Nc γc b:=by rintro b ⟨id,h,_⟩;exact h rfl
 generalize hres:aj ih (bd+1) g f args=res at *;unfold aj at hres
 split at hres
 ·exact absurd hres.symm hne
 rename_i as F;have l:∀t b,t<=bd->b<w.heap.size->¬A t b->¬Nc γ b->¬Ac t b/\¬Nc γc b:=by
  intro t b h1 _ h2 h3;refine⟨?_,e b⟩;rintro (⟨_,h|h⟩|⟨h,_⟩)
  ·exact h2 h
  ·exact h3 h
  ·omega
 have z:Wa w γc Ac (bd+1) as vs:=by
  refine⟨by rw[mC F];exact hv.1,λi y v hy hvi=>?_⟩;let⟨x,h1,h2⟩:=ff F i y hy;refine (MG hr hx (abi _) (XH _) l ?_ aF h2 (hv.2 i x v h1 hvi) λid hid=>ZF.2 ⟨x,XL h1,hid⟩).1;intro id hL B hk t h3 h4;have ht:t=bd+1:=aa7 h4 h3;refine⟨?_,e _⟩;rintro (⟨h,_⟩|⟨_,_,h⟩)
  ·omega
  ·exact h ⟨id,hL,B,hk,rfl⟩
 have T:W4 C Ac (bd+1) w γc (λ_=>.none) 0:=by
  refine⟨λid=>rfl,λid h=>absurd rfl h,λi j h=>absurd rfl h,λid h=>absurd rfl h,?_,λgl sz rows h=>?_⟩
  ·rintro t b (⟨_,h|⟨id,h1,h2,h3⟩⟩|⟨_,h,_⟩)
   ·exact hr.ab t b h
   ·rw[<-h3];exact (hr.lt id h1).2
   ·exact h
  ·have:=hr.V_ gl sz rows h;exact (pz this (Eq this (.inr ⟨_,_,_,_,_,rfl⟩)) l).mono (abi _)
 split at hres
 ·exact absurd hres.symm hne
 rename_i r g' n;have a:G.empty.h.get=λ_=>Xh.none:=by funext id;simp[G.empty,H.get,VV]
 let⟨I,N⟩:=hc (bd+1) f as G.empty r g' n;refine⟨I,?_⟩;let⟨u,w',γ',hg',k,U,s⟩:=N Ac w γc (λ_=>.none) 0 vs T (λid h=>by rw[a]at h;exact absurd rfl h) (λid _=>by rw[a])
  (λ_ _ _=>rfl) z .normal cs (.inl rfl)
 have D:PI g'.h hg':=k.ext (hm _ _ _ _ _ _ n (λid _=>by rw[a])) (λid h=>by rw[a]at h;exact absurd rfl h);have o:∀b,b<w.heap.size->w'.heap[b]?=w.heap[b]?:=λb hb=>k.pk.fr b hb (e b);have p:Stp w γ w' γ:=JB k.pk.sz k.pk.os k.pk.tape k.pk.output k.pk.dr o;have O:W4 C A bd w' γ hg nx:=hr.same p o
 split at hres
 ·exact absurd hres.symm hne
 rename_i r' E;let⟨K,hcl⟩:=MG k.rel (λid _=>D id) (XH _) (Yi _) (λt b _ _ h _=>⟨h,e b⟩)
  (λid _ _ hk t _ _=>⟨k.rel.av id (by rw[hk];decide) t,e _⟩) aF E U λ_ _=>trivial
 split at hres
 ·exact absurd hres.symm hne
 rename_i m hm;have M:=Hy _ hm K;rw[aa]at hres
 split at hres
 ·rename_i hlt;rw[YM]at hlt;subst hres;refine⟨u,w',γ,hg,⟨O.up (Y_ _ _),p,⟨[],rfl,λ_ h=>absurd h Yc,λ_ _=>rfl⟩⟩,?_,s⟩;refine (pz M hcl λt b h1 h2 h3 h4=>⟨λh=>h3 (.inl ⟨by omega,.inl h⟩),λh=>h3 (.inl ⟨by omega,.inr h⟩)⟩).mono (by omega)
 ·split at hres
  ·exact absurd hres.symm hne
  rename_i r'' W
  split at hres
  ·exact absurd hres.symm hne
  rename_i m' S;rw[aa]at hres
  split at hres
  rotate_left
  ·exact absurd hres.symm hne
  rename_i hlt;rw[YM]at hlt;subst hres;let⟨γ₁,R,r1,s1,n1,⟨new,l1,l2,l3⟩,f1,f2⟩:=Fg (args.flatMap (aL g.h aF)) g γ hg O hx;have q:∀b,Nc γ₁ b->Nc γ b:=by rintro b ⟨id,h1,h2,h3⟩;let⟨e1,e2,e3⟩:=f1 id;exact⟨id,by rw[<-e1];exact h1,e3 h2,by rw[<-e2];exact h3⟩
  refine⟨u,w',γ₁,R,⟨r1.up (Y_ _ _),p.trans s1,⟨new,l1,l2,l3⟩⟩,?_,s⟩
  let A₁:Nat->Nat->Prop:=λt b=>if t=bd+1 then ∃t',A t' b else A t b
  have J:m<=bd+1:=Hw _ hm K;have V:RV w' γ₁ A₁ m r' u:=by
   refine pz M hcl λt b h1 h2 h3 _=>?_
   by_cases ht:t=bd+1
   ·have hb:w.heap.size<=b\/∃id,L id/\isC id/\(γ id).kind=1/\(γ id).blk=b:=by
     by_cases hs:w.heap.size<=b
     ·exact .inl hs
     ·exact .inr (Ze λhn=>h3 (.inr ⟨ht,by omega,hn⟩))
    rcases hb with hb|⟨id,q1,q2,q3,q4⟩
    ·refine⟨?_,λhmu=>?_⟩
     ·simp only[A₁,ht,if_true];rintro⟨t',h⟩;have:=hr.ab t' b h;omega
     ·let⟨id,X,Y,Z⟩:=q b hmu;have:=(hr.lt id X).2;omega
    ·refine⟨?_,?_⟩
     ·simp only[A₁,ht,if_true];rintro⟨t',h⟩;rw[<-q4]at h;exact hr.av id (by rw[q3];decide) t' h
     ·rintro⟨j,X,Y,Z⟩;obtain⟨e1,e2,e3⟩:=f1 j;have hj:j=id:=hr.inj j id (by rw[<-e1];exact X) (by rw[q3];decide) (by rw[<-e2,Z,q4]);subst hj;rw[f2 j q1 q2]at Y;cases Y
   ·refine⟨?_,λh=>h3 (.inl ⟨by omega,.inr (q b h)⟩)⟩;simp only[A₁,ht,if_false];exact λh=>h3 (.inl ⟨by omega,.inl h⟩)
  obtain⟨Q,_⟩:=Rj (A':=A) (d:=bd+1) (λt b h1 h2=>by simp only[A₁,show t≠bd+1 by omega,if_false]at h2;exact h2)
   (λb h2 t ht=>h2 (by simp only[A₁,if_true];exact⟨t,ht⟩)) aF W (V.mono J) hcl
  exact (Hy _ S Q).mono (by omega)
end
end
section
variable {C:Xg}
def Mon.put{g:G}{id:Nat}{o:Xh}(hwf:WF g)(hid:g.h.get id≠.none):Mon g (g.put id o):=by
 have hi:id<g.nx:=abp λh=>hid (hwf id h);refine⟨by simp,⟨[id],by simp,λk hk=>?_,λk hk=>?_⟩,λh k hk=>?_⟩
 ·simp only[G.put_h,VO];rw[XS];simpa using hk
 ·simp at hk;subst hk;exact⟨by simpa using hi,λhn=>absurd hn hid⟩
 ·simp only[G.put_nx]at hk;simp only[G.put_h,VO];rw[aJ];exact h k hk
def Mon.mk'{g:G}{o:Xh}:Mon g (g.new o):=by
 refine⟨by simp,⟨[g.nx],by simp,λk hk=>?_,λk hk=>?_⟩,λh k hk=>?_⟩
 ·simp only[G.new_h,VO];rw[XS];simpa using hk
 ·simp at hk;subst hk;simp
 ·simp only[G.new_nx]at hk;simp only[G.new_h,VO];rw[aJ];exact h k (by omega)
def Sx(g:G):OR->Prop
 |.fail=>True
 |.val _=>True
 |.upd _ g'=>(∃id ob,g'=g.put id ob/\g.h.get id≠.none)\/∃ob,g'=g.new ob
 |.Xi _=>False
def Sx.WZ{g:G}(h:Sx g r)(hwf:WF g):Mon g (Wh g r):=by
 cases r with
 | upd v g' =>
  rcases h with⟨id,ob,rfl,h⟩|⟨ob,rfl⟩
  ·exact Mon.put hwf h
  ·exact Mon.mk'
 |_=>exact Mon.refl g
variable {op:Op}{t:T}{g:G}{f:Wv JU}
def nP(x:Option AV):Sx g (VW x):=by cases x<;>trivial
def Bd(sz bytes:Nat)(s:AV)(new:List (List AV)):Sx g (bB sz bytes s new g):=by
 unfold bB;simp only[aa]
 repeat' split
 all_goals first
  |trivial
  |exact .inr ⟨_,rfl⟩
  |exact .inl ⟨_,_,rfl,λhn=>by simp_all⟩
def N7{op:BinOp}:Sx g ((CN P op ty).run x y):=by
 unfold CN
 split
 ·split
  ·dsimp only;split<;>first|exact nP _|trivial
  ·dsimp only;split<;>trivial
 ·split
  ·dsimp only;split<;>first|exact nP _|trivial
  ·dsimp only;split<;>trivial
 ·dsimp only;split<;>first|exact nP _|trivial
def Q7{op:UnOp}:Sx g ((unA op).run x):=by
 unfold unA
 split
 ·dsimp only;split<;>trivial
 ·dsimp only;split<;>first|exact nP _|trivial
def Bf(h:cT C op=some f):Sx g (f.run t g):=by
 cases op<;>simp only[cT]at h<;>first| (cases h;done)|skip
 case call c =>
  let⟨callee,args,argTypes⟩:=c;cases callee<;>first| (cases h;done)|skip
  rename_i b;dsimp only at h;unfold dP at h
  split at h
  all_goals
   repeat' (first|split at h| (rw[aa]at h;split at h))
   all_goals first| (cases h;done)|skip
   all_goals (cases h)
   all_goals dsimp only[bC,cZ,nA,Lx,HX,J5]
   all_goals try simp only[aa]
   all_goals repeat' split
   all_goals first
    |trivial
    |exact Bd _ _ _ _
    |exact .inr ⟨_,rfl⟩
    |exact .inl ⟨_,_,rfl,λhn=>by simp_all⟩
 all_goals
  repeat' (first|split at h| (rw[aa]at h;split at h))
  all_goals first| (cases h;done)|skip
  all_goals first| (cases h)| (exfalso;injections;done)| (rename_i k _;cases k)
  all_goals dsimp only[pj,rj,Gv,OT,qC,ju,lQ,iY,pg,yQ,sZ,jo,zR,yR,xx,pL,nN]
  all_goals first
   |exact nP _
   |exact N7
   |exact Q7
   |skip
  all_goals try simp only[aa]
  all_goals repeat' split
  all_goals first
   |trivial
   |exact nP _
   |exact .inr ⟨_,rfl⟩
   |exact .inl ⟨_,_,rfl,λhn=>by simp_all⟩
   |skip
def eG(C:Xg):Prop:=∀f e,C.ext f=some e->∀d args g,WF g->Mon g (Wh g (e d args g))
structure WI (ih:IH):Prop where
 code:∀nt d rd c t df g e t' df' g',ih.code nt d rd c t df g=.ok e t' df' g'->WF g->Mon g g'
 call:Cb ih
variable {ih:IH}
theorem KG(hi:WI ih){id:Nat}{g:G}(hwf:WF g):Mon g (Wh g (da ih d id args g)):=by
 unfold da
 split
 ·split
  ·exact Mon.refl g
  ·split
   ·rename_i t1 g1 h1;have e:=hi.code _ _ _ _ _ _ _ _ _ _ _ h1 hwf;have w1:WF g1:=e.wf hwf
    split
    ·rename_i a
     split
     ·rename_i g2 h2;have c:g1.h.get id≠.none:=by rw[<-G.get_eq,a];simp
      have f:=λo=>Mon.put (o:=o) w1 c;have j:=hi.code _ _ _ _ _ _ _ _ _ _ _ h2 ((f _).wf w1);have i:=e.trans ((f _).trans j)
      split
      ·rename_i k;have b:g2.h.get id≠.none:=by rw[<-G.get_eq,k];simp
       split
       all_goals exact i.trans (Mon.put (i.wf hwf) b)
      ·exact Mon.refl g
     ·exact Mon.refl g
    ·exact Mon.refl g
   ·exact Mon.refl g
 ·exact Mon.refl g
def Md{g:G}{r:FR}(h:∀v g',r=.ok v g'->Mon g g'):Mon g (Wh g (K3 r)):=by
 cases r with
 |fail=>exact Mon.refl g
 |ok v g'=>exact h v g' rfl
def M7(he:eG C)(hi:WI ih){vs:List AV}{g:G}(hwf:WF g):Mon g (Wh g (kT C ih d fv vs g)):=by
 unfold kT
 split
 ·split
  ·rename_i e h;exact he _ e h _ _ g hwf
  ·rw[aa]
   split
   ·exact wN hwf
   ·exact Md λv g' h=>hi.call _ _ _ _ _ _ h hwf
 ·exact KG hi hwf
 ·exact Mon.refl g
def RR(he:eG C)(hi:WI ih){op:Op}{f:Wv Ou}(h:Jc C op=some f){t:T}{g:G}(hwf:WF g) :
  Mon g (Wh g (f.run ih d rd t g)):=by
 unfold Jc at h
 split at h
 ·split at h
  ·split at h
   ·rename_i e k;cases h;exact he _ e k _ _ g hwf
   ·rw[aa]at h
    split at h
    ·cases h;exact wN hwf
    ·cases h;exact Md λv g' h=>hi.call _ _ _ _ _ _ h hwf
  ·cases h
 ·split at h
  ·cases h;exact M7 he hi hwf
  ·cases h
 ·cases h;exact Mon.refl g
 ·split at h
  ·cases h;dsimp only
   split
   ·exact Mon.refl g
   ·split<;>exact Mon.refl g
  ·cases h
 ·split at h
  ·rename_i s hs;cases h;exact (Bf hs).WZ hwf
  ·cases h
def jQ(he:eG C)(hi:WI ih){op:Op}{t:T}{g:G}(hwf:WF g) :
  Mon g (Wh g ((cI C op).run ih d rd t g)):=by
 unfold cI
 split
 ·rename_i f hf;exact RR he hi hf hwf
 ·exact Mon.refl g
def EG{out:T->AV->T}{next:T->List Xo->G->CR}{t:T}{g:G}{e:Ex}
  (h:rx out next t df g r=.ok e t' df' g') (hwf:WF g) (hr:Mon g (Wh g r)) (hn:∀t df g1,next t df g1=.ok e t' df' g'->WF g1->Mon g1 g'):Mon g g':=by
 cases r with
 |fail=>cases h
 |val v=>exact hn _ _ _ h hwf
 |upd v g1=>exact hr.trans (hn _ _ _ h (hr.wf hwf))
 |Xi a=>exact hn _ _ _ h hwf
def CT(he:eG C)(hi:WI ih){all:List Oper}:∀{ops:List Oper} {d:Nat} {rd:Option Nat} {t:T} {df:List Xo} {g:G} {e:Ex} {t':T} {df':List Xo} {g':G},
  (lA C nt all ops).run ih d rd t df g=.ok e t' df' g'->WF g->Mon g g':=by
 intro ops
 induction ops with
 |nil=>intro d rd t df g e t' df' g' h _;simp only[lA]at h;injection h with _ _ _ h;subst h;exact Mon.refl _
 | cons o rest ihl =>
  intro d rd t df g e t' df' g' h k;simp only[lA]at h
  split at h
  ·split at h
   ·exact EG h k (jQ he hi k) λ_ _ _ h1 h2=>ihl h1 h2
   ·split at h
    ·dsimp only at h
     split at h
     ·exact EG h k (jQ he hi k) λ_ _ _ h1 h2=>ihl h1 h2
     ·exact ihl h k
     ·cases h
    ·cases h
  ·cases h
def WF.setLog{g:G}{l:List Nat}(h:WF g):WF (aQ g l):=λid hid=>by simp only[Wo]at hid;simp only[Ws];exact h id hid
def VQ{g:G}:Mon g (mg g g.lg) :=⟨by simp,⟨[],by simp,λid _=>by simp,λ_ h=>absurd h Yc⟩,λh id hid=>by simp only[Ue]at hid;simp only[WS];exact h id (by omega)⟩
def VR{g:G}(h:Mon (aQ g []) g1):Mon g (mg g1 (g1.lg++g.lg)):=by
 obtain⟨n,a,b,c⟩:=h.new;have d:g.nx<=g1.nx:=by simpa using h.nx
 refine⟨by simp;omega,⟨g1.lg,by simp,λid hid=>?_,λid hid=>?_⟩,λhw id hid=>?_⟩
 ·have e:g1.lg=n:=by simpa using a
  rw[e]at hid;have:=b id hid;simpa using this
 ·have e:g1.lg=n:=by simpa using a
  rw[e]at hid;have:=c id hid;simp only[Ws,Wo]at this;exact⟨by simp;omega,this.2⟩
 ·simp only[Ue]at hid;simp only[WS];exact h.wf (λk hk=>by simp only[Wo]at hk;simp only[Ws];exact hw k hk) id (by omega)
theorem M5(he:eG C)(hi:WI ih){pm:List Nat}{all:List Oper}:∀{ops:List Oper} {i d:Nat} {rd:Option Nat} {t:T} {df:List Xo} {g:G} {fs:List W7} {e:Ex} {t':T} {df':List Xo} {g':G},
  (jO C nt pm all i ops).run ih d rd t df g fs=.ok e t' df' g'->WF g->Mon g g':=by
 intro ops
 induction ops with
 | nil =>
  intro i d rd t df g fs e t' df' g' h _;simp only[jO,aa]at h
  split at h
  ·injection h with _ _ _ h;subst h;exact Mon.refl _
  ·cases h
 | cons o rest ihl =>
  intro i d rd t df g fs e t' df' g' h k;simp only[jO]at h
  split at h
  ·dsimp only at h
   split at h
   ·have hm:=jQ (op:=o.op) (d:=d) (rd:=rd) (t:=t) he hi (k.setLog (l:=[]));generalize (cI C o.op).run ih d rd t (aQ g [])=r at h hm;cases r with
    |fail=>cases h
    |val v=>exact VQ.trans (ihl h (VQ.wf k))
    | upd v g1 =>have b:=VR hm;exact b.trans (ihl h (b.wf k))
    |Xi a=>cases h
   ·exact ihl h k
   ·cases h
  ·cases h
def HV(he:eG C)(hi:WI ih){ops:List Oper}{draw:Bool}{t:T}{g:G}{e:Ex}
  (h:(gm C nt ops draw).run ih d rd t df g=.ok e t' df' g') (hwf:WF g):Mon g g':=by
 unfold gm at h;rw[aa]at h
 split at h
 ·rw[aa]at h
  split at h
  ·rw[aa]at h
   split at h
   ·dsimp only at h;unfold pt at h
    split at h
    ·split at h
     ·rw[aa]at h
      split at h
      ·injection h with _ _ _ h;subst h;exact Mon.refl _
      ·cases h
     ·cases h
    ·cases h
   ·exact M5 he hi h hwf
  ·cases h
 ·exact CT he hi h hwf
def Ad(hi:WI ih){id:Nat}{t:T}{g:G}{e:Ex}
  (h:eC ih nt d rd id t df g=.ok e t' df' g') (hwf:WF g):Mon g g':=by
 unfold eC at h
 split at h
 ·rename_i k;have a:g.h.get id≠.none:=by rw[<-G.get_eq,k];simp
  have m:∀o,Mon g (g.put id o):=λo=>Mon.put hwf a
  split at h
  ·cases h
  ·split at h
   ·injection h with _ _ _ h;subst h;exact m _
   ·exact (m _).trans (hi.code _ _ _ _ _ _ _ _ _ _ _ h ((m _).wf hwf))
 ·cases h
def rg(hi:WI ih){t:T}{Xi:Nat}{g:G}{e:Ex}
  (h:dw C ih nt d rd fv ps assign body t df Xi g=.ok e t' df' g') (hwf:WF g):Mon g g':=by
 unfold dw at h
 split at h
 ·rw[aa]at h
  split at h
  ·cases h
  ·split at h
   ·rename_i v g2 h2;have k:Mon g (g.new (.loop nt t ps assign body Xi .ready none)):=Mon.mk';have b:=hi.call _ _ _ _ _ _ h2 (k.wf hwf);have a:=k.trans b;exact a.trans (Ad hi h (a.wf hwf))
   ·cases h
 ·cases h
def KB(hi:WI ih){fo:T->AV}{t:T}{g:G}{e:Ex}
  (h:pu C nt fo ps assign body ih d rd t df g=.ok e t' df' g') (hwf:WF g):Mon g g':=by
 unfold pu at h
 split at h
 ·split at h
  ·exact rg hi h hwf
  ·cases h
 ·have k:Mon g (g.new (.Xi true)):=Mon.mk';exact k.trans (rg hi h (k.wf hwf))
def lq(he:eG C)(hi:WI ih):∀(c:Code) {d:Nat} {rd:Option Nat} {t:T} {df:List Xo} {g:G} {e:Ex} {t':T} {df':List Xo} {g':G},
  (aR C nt c).run ih d rd t df g=.ok e t' df' g'->WF g->Mon g g':=by
 intro c;have now:∀{e e':Ex} {t t':T} {df df':List Xo} {g g':G},CR.ok e' t df g=.ok e t' df' g'->Mon g g':=by intro e e' t t' df df' g g' h;injection h with _ _ _ h;subst h;exact Mon.refl _
 induction c with
 |skip=>intro d rd t df g e t' df' g' h _;exact now h
 |label l=>intro d rd t df g e t' df' g' h _;exact now h
 |region id ops draw=>intro d rd t df g e t' df' g' h k;exact HV he hi h k
 | seq a b iha ihb =>
  intro d rd t df g e t' df' g' h k;simp only[aR]at h;generalize hr:(aR C nt a).run ih d rd t df g=r at h;cases r with
  |fail=>cases h
  | ok e1 t1 df1 g1 =>
   have i:=iha hr k;cases e1 with
   |norm=>exact i.trans (ihb h (i.wf k))
   |exit j=>exact i.trans (now h)
   |ret=>exact i.trans (now h)
 | cond c a b iha ihb =>
  intro d rd t df g e t' df' g' h k;simp only[aR]at h
  split at h
  ·dsimp only at h
   split at h
   ·rw[aa]at h
    split at h
    ·exact iha h k
    ·exact ihb h k
   ·cases h
  ·cases h
 | block id body ihb =>
  intro d rd t df g e t' df' g' h k;simp only[aR]at h;generalize hr:(aR C nt body).run ih d rd t df g=r at h;cases r with
  |fail=>cases h
  | ok e1 t1 df1 g1 =>
   have i:=ihb hr k;cases e1 with
   |norm=>exact i.trans (now h)
   | exit j =>
    simp only[yi,aa]at h
    split at h
    ·exact i.trans (now h)
    ·exact i.trans (now h)
   |ret=>exact i.trans (now h)
 | loop body ihb =>
  intro d rd t df g e t' df' g' h k;simp only[aR]at h;generalize hr:(aR C nt body).run ih d rd t df g=r at h;cases r with
  |fail=>cases h
  | ok e1 t1 df1 g1 =>
   have i:=ihb hr k;cases e1 with
   |norm=>exact i.trans (hi.code _ _ _ _ _ _ _ _ _ _ _ h (i.wf k))
   |exit j=>exact i.trans (now h)
   |ret=>exact i.trans (now h)
 |scope body ihb=>intro d rd t df g e t' df' g' h k;exact ihb h k
 |exit id=>intro d rd t df g e t' df' g' h _;exact now h
 |ret=>intro d rd t df g e t' df' g' h _;exact now h
 | rangeFunc f ps assign body _ _ =>
  intro d rd t df g e t' df' g' h k;simp only[aR]at h
  split at h
  ·exact KB hi h k
  ·cases h
 |_=>intro d rd t df g e t' df' g' h _;cases h
def nK(hi:WI ih):∀{df:List Xo} {g g':G},eE ih d df g=some g'->WF g->Mon g g':=by
 intro df
 induction df with
 |nil=>intro g g' h _;simp only[eE]at h;cases h;exact Mon.refl _
 | cons a df ihl =>
  intro g g' h k;cases a with
  | mark id =>
   simp only[eE]at h
   split at h
   ·rename_i b;have m:Mon g (g.put id (.Xi false)):=Mon.put k (by rw[<-G.get_eq,b];simp);exact m.trans (ihl h (m.wf k))
   ·cases h
  | call f args =>
   cases f<;>simp only[eE]at h<;>first| (cases h;done)|skip
   split at h
   ·rename_i v g1 h1;have m:=hi.call _ _ _ _ _ _ h1 k;exact m.trans (ihl h (m.wf k))
   ·cases h
def RP(he:eG C)(hi:WI ih){f:Nat}{x:Wv (IH->Nat->List AV->G->FR)}(hx:UL C f=some x){g:G}{v:AV}
  (h:x.run ih d args g=.ok v g') (hwf:WF g):Mon g g':=by
 unfold UL at hx
 split at hx
 ·cases hx
 split at hx
 ·cases hx
 split at hx
 ·rw[aa]at hx
  split at hx
  ·cases hx
  cases hx;dsimp only at h;rw[aa]at h
  split at h
  ·split at h
   ·cases h
   ·rename_i hc;have k:=lq he hi _ hc hwf;unfold bV at h
    split at h
    ·cases h
    ·rename_i g2 h2;have a:=nK hi h2 (k.wf hwf)
     split at h
     ·injection h with _ h;subst h;exact k.trans a
     ·cases h
   ·cases h
  ·cases h
 ·cases hx
def CB(he:eG C):∀n,WI (OU C n):=by
 intro n
 induction n with
 |zero=>exact⟨λnt d rd c t df g e t' df' g' h=>(by cases h),λd f as g v g' h=>(by cases h)⟩
 | succ n ihn =>
  refine⟨λnt d rd c t df g e t' df' g' h hwf=>lq he ihn c h hwf,λd f as g v g' h hwf=>?_⟩;change eU C (OU C n) d f as g=.ok v g' at h;unfold eU at h
  split at h
  ·rename_i x hx;exact RP he ihn hx h hwf
  ·cases h
end
section
def QE(a b:CR):Prop:=a=.fail\/a=b
def FLe(a b:FR):Prop:=a=.fail\/a=b
def U8(a b:OR):Prop:=a=.fail\/a=b
structure mI (i j:IH):Prop where
 code:∀nt d rd c t df g,QE (i.code nt d rd c t df g) (j.code nt d rd c t df g)
 call:∀d f as g,FLe (i.call d f as g) (j.call d f as g)
variable {i j:IH}
def DO(h:mI i j):U8 (aj i d g f args) (aj j d g f args):=by
 unfold aj
 split
 ·exact .inl rfl
 ·rename_i as _;rcases h.call (Nat.succ d) f as G.empty with e|e<;>rw[e]
  ·exact .inl rfl
  ·exact .inr rfl
def NV(h:mI i j){id:Nat}:U8 (da i d id args g) (da j d id args g):=by
 unfold da
 split
 ·split
  ·exact .inl rfl
  ·rename_i nt t ps assign body Xi st pend hg o t' ht;rcases h.code nt d (some id) assign t' [] g with e|e<;>rw[e]
   ·exact .inl rfl
   ·split
    ·split
     ·rename_i t1 g1 _ _ nt1 k ps2 assign1 body1 dfr1 pend1 _;rcases h.code nt d (some id) body t1 [] (g1.put id (.loop nt1 k ps2 assign1 body1 dfr1 .busy pend1)) with e|e<;>rw[e]
      ·exact .inl rfl
      ·exact .inr rfl
     ·exact .inl rfl
    ·exact .inl rfl
 ·exact .inl rfl
def Qn{a b:FR}(h:FLe a b):U8 (K3 a) (K3 b):=by
 rcases h with h|h<;>rw[h]
 ·exact .inl rfl
 ·exact .inr rfl
def OX(h:mI i j){vs:List AV}:U8 (kT C i d fv vs g) (kT C j d fv vs g):=by
 unfold kT
 split
 ·split
  ·exact .inr rfl
  ·rw[aa,aa]
   split
   ·exact DO h
   ·exact Qn (h.call _ _ _ _)
 ·exact NV h
 ·exact .inl rfl
def Gl{out:T->AV->T}{n m:T->List Xo->G->CR}{a b:OR}(h:U8 a b)(hn:∀t df g,QE (n t df g) (m t df g)) :
  QE (rx out n t df g a) (rx out m t df g b):=by
 rcases h with h|h<;>rw[h]
 ·exact .inl rfl
 ·cases b with
  |fail=>exact .inl rfl
  |val v=>exact hn _ _ _
  |upd v g'=>exact hn _ _ _
  |Xi a=>exact hn _ _ _
def JG{out:T->AV->T}{n m:T->List Xo->G->List W7->CR}{fs:List W7}{lk:Looks}{a b:OR}(h:U8 a b)
  (hn:∀t df g fs,QE (n t df g fs) (m t df g fs)):QE (mH out n t df g fs lk a) (mH out m t df g fs lk b):=by
 rcases h with h|h<;>rw[h]
 ·exact .inl rfl
 ·cases b with
  |fail=>exact .inl rfl
  |val v=>exact hn _ _ _ _
  |upd v g'=>exact hn _ _ _ _
  |Xi a=>exact .inl rfl
def Mz{n m:T->List Xo->G->CR}{a b:CR}(h:QE a b)(hn:∀t df g,QE (n t df g) (m t df g)):QE (Fk n a) (Fk m b):=by
 rcases h with h|h<;>rw[h]
 ·exact .inl rfl
 ·unfold Fk
  split
  ·exact hn _ _ _
  ·exact .inr rfl
def M2{id:Nat}{a b:CR}(h:QE a b):QE (yi id a) (yi id b):=by
 rcases h with h|h<;>rw[h]
 ·exact .inl rfl
 ·exact .inr rfl
def Jg{a b:CR}(h:QE a b):QE (pt g a) (pt g b):=by
 rcases h with h|h<;>rw[h]
 ·exact .inl rfl
 ·exact .inr rfl
def T9(h:mI i j){x:Wv Ou}(hx:Jc C op=some x):U8 (x.run i d rd t g) (x.run j d rd t g):=by
 unfold Jc at hx
 repeat' (first|split at hx|rw[aa]at hx)
 all_goals first
  | (cases hx;done)
  | (cases hx;first|exact .inr rfl|exact DO h|exact Qn (h.call _ _ _ _)|exact OX h)
def GB(h:mI i j):U8 ((cI C op).run i d rd t g) ((cI C op).run j d rd t g):=by
 unfold cI
 split
 ·rename_i x hx;exact T9 h hx
 ·exact .inl rfl
def zg{C:Xg}(h:mI i j){nt:Nat}{all:List Oper}:∀(l:List Oper) (d:Nat) (rd:Option Nat) (t:T) (df:List Xo) (g:G),
  QE ((lA C nt all l).run i d rd t df g) ((lA C nt all l).run j d rd t df g)
 |[],_,_,_,_,_=>.inr rfl
 | o::rest,d,rd,t,df,g=>by
  unfold lA
  split
  ·split
   ·exact Gl (GB h) λt df g=>zg h rest d rd t df g
   ·split
    ·dsimp only
     split
     ·exact Gl (GB h) λt df g=>zg h rest d rd t df g
     ·exact zg h rest d rd _ df g
     ·exact .inl rfl
    ·exact .inl rfl
  ·exact .inl rfl
def CS{C:Xg}(h:mI i j){nt:Nat}{pm:List Nat}{all:List Oper}:∀(l:List Oper) (k d:Nat) (rd:Option Nat) (t:T) (df:List Xo) (g:G) (fs:List W7),
  QE ((jO C nt pm all k l).run i d rd t df g fs) ((jO C nt pm all k l).run j d rd t df g fs)
 |[],_,_,_,_,_,_,_=>.inr rfl
 | o::rest,k,d,rd,t,df,g,fs=>by
  unfold jO
  split
  ·dsimp only
   split
   ·exact JG (GB h) λt df g fs=>CS h rest (k+1) d rd t df g fs
   ·exact CS h rest (k+1) d rd _ df g _
   ·exact .inl rfl
  ·exact .inl rfl
def J1(h:mI i j){ops:List Oper}{draw:Bool} :
  QE ((gm C nt ops draw).run i d rd t df g) ((gm C nt ops draw).run j d rd t df g):=by
 unfold gm;rw[aa,aa,aa]
 split
 ·split
  ·split
   ·exact Jg (zg h _ _ _ _ _ _)
   ·exact CS h _ _ _ _ _ _ _ _
  ·exact .inl rfl
 ·exact zg h _ _ _ _ _ _
def Ji(h:mI i j){id:Nat}:QE (eC i nt d rd id t df g) (eC j nt d rd id t df g):=by
 unfold eC
 split
 ·split
  ·exact .inl rfl
  ·split
   ·exact .inr rfl
   ·exact h.code _ _ _ _ _ _ _
 ·exact .inl rfl
def Ab(h:mI i j){Xi:Nat} :
  QE (dw C i nt d rd fv ps assign body t df Xi g) (dw C j nt d rd fv ps assign body t df Xi g):=by
 unfold dw
 split
 ·rename_i f first cap
  rw[aa,aa]
  split
  ·exact .inl rfl
  ·rcases h.call d f (first++(.VZ g.nx::cap)) (g.new (.loop nt t ps assign body Xi .ready none)) with e|e<;>rw[e]
   ·exact .inl rfl
   ·split
    ·exact Ji h
    ·exact .inl rfl
 ·exact .inl rfl
def NN(h:mI i j){fo:T->AV} :
  QE (pu C nt fo ps assign body i d rd t df g) (pu C nt fo ps assign body j d rd t df g):=by
 unfold pu
 split
 ·split
  ·exact Ab h
  ·exact .inl rfl
 ·exact Ab h
def HR(h:mI i j):∀(c:Code) (d:Nat) (rd:Option Nat) (t:T) (df:List Xo) (g:G),
  QE ((aR C nt c).run i d rd t df g) ((aR C nt c).run j d rd t df g):=by
 intro c
 induction c with
 |seq a b iha ihb=>intro d rd t df g;unfold aR;exact Mz (iha _ _ _ _ _) λt df g=>ihb _ _ _ _ _
 | cond q a b iha ihb =>
  intro d rd t df g;unfold aR
  split
  ·dsimp only
   split
   ·rw[aa,aa]
    split
    ·exact iha _ _ _ _ _
    ·exact ihb _ _ _ _ _
   ·exact .inl rfl
  ·exact .inl rfl
 |block id body ih=>intro d rd t df g;unfold aR;exact M2 (ih _ _ _ _ _)
 |loop body ih=>intro d rd t df g;unfold aR;exact Mz (ih _ _ _ _ _) λt df g=>h.code _ _ _ _ _ _ _
 |scope body ih=>intro d rd t df g;unfold aR;exact ih _ _ _ _ _
 |region p ops draw=>intro d rd t df g;unfold aR;exact J1 h
 | rangeFunc f ps assign body _ _ =>
  intro d rd t df g;unfold aR
  split
  ·exact NN h
  ·exact .inl rfl
 |_=>intro d rd t df g;first|exact .inr rfl|exact .inl rfl
def ULe(a b:Option G):Prop:=a=none\/a=b
def QY(h:mI i j):∀(l:List Xo) (g:G),ULe (eE i d l g) (eE j d l g):=by
 intro l
 induction l with
 |nil=>intro g;exact .inr rfl
 | cons a l ih =>
  intro g;cases a with
  | mark id =>
   simp only[eE]
   split
   ·exact ih _
   ·exact .inl rfl
  | call fv args =>
   cases fv with
   | W_ f first cap =>
    simp only[eE];rcases h.call d f (first++(args++cap)) g with e|e<;>rw[e]
    ·exact .inl rfl
    ·split
     ·exact ih _
     ·exact .inl rfl
   |_=>exact .inl rfl
def J_(h:mI i j){res:T->G->Option (List AV)}:FLe (bV i d res t df g) (bV j d res t df g):=by
 unfold bV;rcases QY h df g with e|e<;>rw[e]
 ·exact .inl rfl
 ·exact .inr rfl
def HW(h:mI i j):FLe (eU C i d f args g) (eU C j d f args g):=by
 unfold eU
 split
 ·rename_i x hx;unfold UL at hx
  split at hx
  ·cases hx
  rename_i fn b
  split at hx
  ·cases hx
  rename_i c k
  split at hx
  rotate_left
  ·cases hx
  rename_i r a;rw[aa]at hx
  split at hx
  ·cases hx
  cases hx;dsimp only;rw[aa,aa]
  split
  ·rcases HR h c d none (bJ 0 args .nil) [] g with e|e<;>rw[e]
   ·exact .inl rfl
   ·split
    ·exact .inl rfl
    ·exact J_ h
    ·exact .inl rfl
  ·exact .inl rfl
 ·exact .inl rfl
def N9(h:mI i j):mI (KW C i) (KW C j) :=⟨λnt d rd c t df g=>HR h c d rd t df g,λd f as g=>HW h⟩
def BE(C:Xg):∀n,mI (OU C n) (OU C (n+1))
 |0=>⟨λ_ _ _ _ _ _ _=>.inl rfl,λ_ _ _ _=>.inl rfl⟩
 |n+1=>N9 (BE C n)
def Q2(C:Xg)(h:n<=m):mI (OU C n) (OU C m):=by
 induction h with
 |refl=>exact⟨λ_ _ _ _ _ _ _=>.inr rfl,λ_ _ _ _=>.inr rfl⟩
 | @step k h ih =>
  have s:=BE C k;refine⟨λnt d rd c t df g=>?_,λd f as g=>?_⟩
  ·rcases ih.code nt d rd c t df g with e|e
   ·exact .inl e
   ·rw[e];exact s.code _ _ _ _ _ _ _
  ·rcases ih.call d f as g with e|e
   ·exact .inl e
   ·rw[e];exact s.call _ _ _ _
end
section
open Classical in
noncomputable def I(C:Xg):IH :=
 ⟨λnt d rd c t df g=>if h:∃n,(OU C n).code nt d rd c t df g≠.fail then (OU C (Classical.choose h)).code nt d rd c t df g else .fail,
  λd f as g=>if h:∃n,(OU C n).call d f as g≠.fail then (OU C (Classical.choose h)).call d f as g else .fail⟩
def Ct(C:Xg){α:Type}(F:IH->α):Prop:=∃n,∀m,n<=m->F (OU C m)=F (I C)
variable {C:Xg}
def Ct.const{α:Type}(a:α):Ct C (λ_=>a):=⟨0,λ_ _=>rfl⟩
def Ct.bind{α β:Type}{F:IH->α}{K:IH->α->β}(h:Ct C F)(hk:Ct C λj=>K j (F (I C))):Ct C λj=>K j (F j):=by let⟨n,h⟩:=h;let⟨m,hk⟩:=hk;refine⟨max n m,λk hm=>?_⟩;have h1:=h k (by omega);have h2:=hk k (by omega);simp only[h1];exact h2
def Ct.map{α β:Type}{F:IH->α}(K:α->β)(h:Ct C F):Ct C λj=>K (F j):=Ct.bind (K:=λ_=>K) h (.const _)
def Ct.code(nt d:Nat)(rd:Option Nat)(c:Code)(t:T)(df:List Xo)(g:G):Ct C λj=>j.code nt d rd c t df g:=by
 by_cases h:∃n,(OU C n).code nt d rd c t df g≠.fail
 ·refine⟨Classical.choose h,λm hm=>?_⟩;have hs:=Classical.choose_spec h;have e:(I C).code nt d rd c t df g=(OU C (Classical.choose h)).code nt d rd c t df g:=dif_pos h;show _=(I C).code nt d rd c t df g;rw[e];rcases (Q2 C hm).code nt d rd c t df g with q|q
  ·exact absurd q hs
  ·exact q.symm
 ·refine⟨0,λm _=>?_⟩;have e:(I C).code nt d rd c t df g=.fail:=dif_neg h;show _=(I C).code nt d rd c t df g;rw[e];exact Ze λq=>h ⟨m,q⟩
def Ct.call(d f:Nat)(as:List AV)(g:G):Ct C λj=>j.call d f as g:=by
 by_cases h:∃n,(OU C n).call d f as g≠.fail
 ·refine⟨Classical.choose h,λm hm=>?_⟩;have hs:=Classical.choose_spec h;have e:(I C).call d f as g=(OU C (Classical.choose h)).call d f as g:=dif_pos h;show _=(I C).call d f as g;rw[e];rcases (Q2 C hm).call d f as g with q|q
  ·exact absurd q hs
  ·exact q.symm
 ·refine⟨0,λm _=>?_⟩;have e:(I C).call d f as g=.fail:=dif_neg h;show _=(I C).call d f as g;rw[e];exact Ze λq=>h ⟨m,q⟩
theorem C9:Ct C λj=>aj j d g f args:=by
 unfold aj
 split
 ·exact .const _
 ·rename_i as _;obtain⟨n,h⟩:=Ct.call (C:=C) (Nat.succ d) f as G.empty;exact⟨n,λm hm=>by have e:(OU C m).call (Nat.succ d) f as G.empty=(I C).call (Nat.succ d) f as G.empty:=h m hm;simp only[e]⟩
def Nh{id:Nat}:Ct C λj=>da j d id args g:=by
 unfold da
 split
 ·split
  ·exact .const _
  ·rename_i nt t ps assign body Xi st pend hg o t' ht;refine Ct.bind (K:=λj r=>match r with
    | .ok .norm t1 [] g1=>match g1.get id with
     | .loop nt1 t ps assign1 body1 Xi .ready pend =>
      match j.code nt d (some id) body t1 [] (g1.put id (.loop nt1 t ps assign1 body1 Xi .busy pend)) with
      | .ok e _ [] g2=>match g2.get id with
       | .loop nt t ps assign body Xi _ _=>match e with
        |.norm=>OR.upd (.bool true) (g2.put id (.loop nt t ps assign body Xi .ready none))
        |.exit j=>.upd (.bool false) (g2.put id (.loop nt t ps assign body Xi .done (some (.exit j))))
        |.ret=>.upd (.bool false) (g2.put id (.loop nt t ps assign body Xi .done (some .ret)))
       |_=>.fail
      |_=>.fail
     |_=>.fail
    |_=>.fail) (Ct.code nt d (some id) assign t' [] g) ?_
   split
   ·split
    ·rename_i t1 g1 _ _ nt1 h ps2 assign1 body1 dfr1 pend1 _;exact Ct.map (λr=>match r with
      | .ok e _ [] g2=>match g2.get id with
       | .loop nt t ps assign body Xi _ _=>match e with
        |.norm=>OR.upd (.bool true) (g2.put id (.loop nt t ps assign body Xi .ready none))
        |.exit j=>.upd (.bool false) (g2.put id (.loop nt t ps assign body Xi .done (some (.exit j))))
        |.ret=>.upd (.bool false) (g2.put id (.loop nt t ps assign body Xi .done (some .ret)))
       |_=>.fail
      |_=>.fail) (Ct.code nt d (some id) body t1 [] (g1.put id (.loop nt1 h ps2 assign1 body1 dfr1 .busy pend1)))
    ·exact .const _
   ·exact .const _
 ·exact .const _
def O6{vs:List AV}:Ct C λj=>kT C j d fv vs g:=by
 unfold kT
 split
 ·split
  ·exact .const _
  ·simp only[aa]
   split
   ·exact C9
   ·exact Ct.map K3 (Ct.call _ _ _ _)
 ·exact Nh
 ·exact .const _
def Ud{x:Wv Ou}(hx:Jc C op=some x):Ct C λj=>x.run j d rd t g:=by
 unfold Jc at hx
 repeat' (first|split at hx|rw[aa]at hx)
 all_goals first
  | (cases hx;done)
  | (cases hx;first|exact Ct.const _|exact C9|exact Ct.map K3 (Ct.call _ _ _ _)|exact O6)
def GE:Ct C λj=>(cI C op).run j d rd t g:=by
 unfold cI
 split
 ·rename_i x hx;exact Ud hx
 ·exact .const _
def FC{out:T->AV->T}{n:IH->T->List Xo->G->CR}{a:IH->OR}(h:Ct C a)(hn:∀t df g,Ct C λj=>n j t df g) :
  Ct C λj=>rx out (n j) t df g (a j):=by
 refine Ct.bind h ?_;cases a (I C) with
 |fail=>exact .const _
 |val v=>exact hn _ _ _
 |upd v g'=>exact hn _ _ _
 |Xi a=>exact hn _ _ _
def H6{out:T->AV->T}{n:IH->T->List Xo->G->List W7->CR}{fs:List W7}{lk:Looks}{a:IH->OR}(h:Ct C a)
  (hn:∀t df g fs,Ct C λj=>n j t df g fs):Ct C λj=>mH out (n j) t df g fs lk (a j):=by
 refine Ct.bind h ?_;cases a (I C) with
 |fail=>exact .const _
 |val v=>exact hn _ _ _ _
 |upd v g'=>exact hn _ _ _ _
 |Xi a=>exact .const _
def Ly{n:IH->T->List Xo->G->CR}{a:IH->CR}(h:Ct C a)(hn:∀t df g,Ct C λj=>n j t df g):Ct C λj=>Fk (n j) (a j):=by
 refine Ct.bind h ?_;unfold Fk
 split
 ·exact hn _ _ _
 ·exact .const _
def zy{nt:Nat}{all:List Oper}:∀(l:List Oper) (d:Nat) (rd:Option Nat) (t:T) (df:List Xo) (g:G),Ct C λj=>(lA C nt all l).run j d rd t df g
 |[],_,_,_,_,_=>.const _
 | o::rest,d,rd,t,df,g=>by
  unfold lA
  split
  ·split
   ·exact FC GE λt df g=>zy rest d rd t df g
   ·split
    ·dsimp only
     split
     ·exact FC GE λt df g=>zy rest d rd t df g
     ·exact zy rest d rd _ df g
     ·exact .const _
    ·exact .const _
  ·exact .const _
def C8{nt:Nat}{pm:List Nat}{all:List Oper}:∀(l:List Oper) (k d:Nat) (rd:Option Nat) (t:T) (df:List Xo) (g:G) (fs:List W7),
  Ct C λj=>(jO C nt pm all k l).run j d rd t df g fs
 |[],_,_,_,_,_,_,_=>.const _
 | o::rest,k,d,rd,t,df,g,fs=>by
  unfold jO
  split
  ·dsimp only
   split
   ·exact H6 GE λt df g fs=>C8 rest (k+1) d rd t df g fs
   ·exact C8 rest (k+1) d rd _ df g _
   ·exact .const _
  ·exact .const _
def J6{ops:List Oper}{draw:Bool}:Ct C λj=>(gm C nt ops draw).run j d rd t df g:=by
 unfold gm;simp only[aa]
 split
 ·split
  ·split
   ·exact Ct.map (pt g) (zy _ _ _ _ _ _)
   ·exact C8 _ _ _ _ _ _ _ _
  ·exact .const _
 ·exact zy _ _ _ _ _ _
def H5{id:Nat}:Ct C λj=>eC j nt d rd id t df g:=by
 unfold eC
 split
 ·split
  ·exact .const _
  ·split
   ·exact .const _
   ·exact Ct.code _ _ _ _ _ _ _
 ·exact .const _
def zz{Xi:Nat} :
  Ct C λj=>dw C j nt d rd fv ps assign body t df Xi g:=by
 unfold dw
 split
 ·rename_i f first cap
  simp only[aa]
  split
  ·exact .const _
  ·refine Ct.bind (K:=λj r=>match r with|.ok _ g2=>eC j nt d rd g.nx t df g2|.fail=>.fail) (Ct.call d f (first++(.VZ g.nx::cap)) (g.new (.loop nt t ps assign body Xi .ready none))) ?_
   split
   ·exact H5
   ·exact .const _
 ·exact .const _
def Ng{fo:T->AV}:Ct C λj=>pu C nt fo ps assign body j d rd t df g:=by
 unfold pu
 split
 ·split
  ·exact zz
  ·exact .const _
 ·exact zz
def H3:∀(c:Code) (d:Nat) (rd:Option Nat) (t:T) (df:List Xo) (g:G),Ct C λj=>(aR C nt c).run j d rd t df g:=by
 intro c
 induction c with
 |seq a b iha ihb=>intro d rd t df g;unfold aR;exact Ly (iha _ _ _ _ _) λt df g=>ihb _ _ _ _ _
 | cond q a b iha ihb =>
  intro d rd t df g;unfold aR
  split
  ·dsimp only
   split
   ·simp only[aa]
    split
    ·exact iha _ _ _ _ _
    ·exact ihb _ _ _ _ _
   ·exact .const _
  ·exact .const _
 |block id body ih=>intro d rd t df g;unfold aR;exact Ct.map (yi id) (ih _ _ _ _ _)
 |loop body ih=>intro d rd t df g;unfold aR;exact Ly (ih _ _ _ _ _) λt df g=>Ct.code _ _ _ _ _ _ _
 |scope body ih=>intro d rd t df g;unfold aR;exact ih _ _ _ _ _
 |region p ops draw=>intro d rd t df g;unfold aR;exact J6
 | rangeFunc f ps assign body _ _ =>
  intro d rd t df g;unfold aR
  split
  ·exact Ng
  ·exact .const _
 |_=>intro d rd t df g;exact .const _
def O7:∀(l:List Xo) (g:G),Ct C λj=>eE j d l g:=by
 intro l
 induction l with
 |nil=>intro g;exact .const _
 | cons a l ih =>
  intro g;cases a with
  | mark id =>
   simp only[eE]
   split
   ·exact ih _
   ·exact .const _
  | call fv args =>
   cases fv with
   | W_ f first cap =>
    simp only[eE];refine Ct.bind (K:=λj r=>match r with|.ok _ g'=>eE j d l g'|.fail=>none) (Ct.call d f (first++(args++cap)) g) ?_
    split
    ·exact ih _
    ·exact .const _
   |_=>exact .const _
def J7{res:T->G->Option (List AV)}:Ct C λj=>bV j d res t df g:=by unfold bV;exact Ct.map (λr=>match r with|none=>FR.fail|some g'=>match res t g' with|some vs=>.ok (fg vs) g'|none=>.fail) (O7 df g)
def H4:Ct C λj=>eU C j d f args g:=by
 unfold eU
 split
 ·rename_i x hx;unfold UL at hx
  split at hx
  ·cases hx
  rename_i fn a
  split at hx
  ·cases hx
  rename_i c h
  split at hx
  rotate_left
  ·cases hx
  rename_i r k;rw[aa]at hx
  split at hx
  ·cases hx
  cases hx;dsimp only;simp only[aa]
  split
  ·refine Ct.bind (K:=λj q=>match q with|.ok (.exit _) _ _ _=>FR.fail|.ok _ t df g'=>bV j d r.run t df g'|.fail=>.fail) (H3 c d none (bJ 0 args .nil) [] g) ?_
   split
   ·exact .const _
   ·exact J7
   ·exact .const _
  ·exact .const _
 ·exact .const _
def JP(nt d:Nat)(rd:Option Nat)(c:Code)(t:T)(df:List Xo)(g:G):(I C).code nt d rd c t df g=(aR C nt c).run (I C) d rd t df g:=by let⟨n,h⟩:=H3 (C:=C) (nt:=nt) c d rd t df g;let⟨m,h'⟩:=Ct.code (C:=C) nt d rd c t df g;have h1:=h (max n m) (by omega);have h2:=h' (max n m+1) (by omega);exact h2.symm.trans h1
def TX(d f:Nat)(as:List AV)(g:G):(I C).call d f as g=eU C (I C) d f as g:=by let⟨n,h⟩:=H4 (C:=C) (d:=d) (f:=f) (args:=as) (g:=g);let⟨m,h'⟩:=Ct.call (C:=C) d f as g;have h1:=h (max n m) (by omega);have h2:=h' (max n m+1) (by omega);exact h2.symm.trans h1
def Ot{as:List AV}{v:AV}(h:(I C).call d f as g=.ok v g'):∃n,(OU C n).call d f as g=.ok v g':=by let⟨m,h'⟩:=Ct.call (C:=C) d f as g;exact⟨m,by rw[<-h];exact h' m (XH m)⟩
end
end
end Hx
