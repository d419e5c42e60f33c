/- A part of the proof: what the functions of the chapter compute. -/
import Derived.DeepKeys3
import Derived.Test.YtcefdmhbbgafiaaHx1
set_option linter.all false
set_option maxHeartbeats 8000000
section
namespace Hx
open Go
section
variable {C:Cfg}{A:Nat->Nat->Prop}{bd:Nat}{w w':World}{γ γ':Gm}{hg:Nat->AObj}{nx:Nat}
def OVR(w:World)(γ:Gm)(A:Nat->Nat->Prop)(bd:Nat):Option AV->Option Value->Prop
 |none,none=>True
 |some x,some v=>RV w γ A bd x v
 |_,_=>False
theorem MZ{xs:List AV}{vs:List Value}(h:RVs w γ A bd xs vs):OVR w γ A bd xs.head? vs.head?:=by
 cases xs with
 | nil=>cases vs with
  |nil=>trivial
  |cons v vs=>have:=h.1;grind
 | cons x xs=>cases vs with
  |nil=>have:=h.1;grind
  |cons v vs=>exact h.2 0 x v rfl rfl
theorem wX{lim n:Nat}{x:AV}(h:dA lim x=some n):n<=lim:=by
 unfold dA at h
 split at h<;>grind[aa,T8]
theorem mW{n:Nat}{x:Option AV}(h:bF 0 0 x=some n):n=0:=by
 cases x with
 |none=>grind[bF]
 |some z=>have:=wX h;omega
theorem da{P:Program}{lim y n:Nat}{x:AV}{v:Value}{code:BoundsCode}(h:dA lim x=some n)(hv:RV w γ A bd x v)(hy:lim<=y) :
  (Instr.sliceBound v y code).run P w=.ok n w/\n<=lim:=by
 obtain⟨h1,k,rfl⟩:=wY h hv;refine⟨?_,h1⟩;unfold Instr.sliceBound;simp only[asIntOf,T0,UT,TN];rw[TE (by omega)];simp
theorem cJ{P:Program}{isSlice:Bool}{len cap:Nat}{lo hi mx:Option AV}{lv hv mv:Option Value}{l h m d limM lh:Nat}
  (hlo:OVR w γ A bd lo lv) (hhi:OVR w γ A bd hi hv) (hmx:OVR w γ A bd mx mv) (hm:mx=none->m=cap) (hm':mx≠none->bF d limM mx=some m/\limM<=cap)
  (hmh:mx≠none->hi≠none) (hh:bF len lh hi=some h) (hlh:lh<=m) (hl:bF 0 h lo=some l) :
  (Instr.sliceBounds isSlice len cap lv hv mv).run P w=.ok (l,h,m) w/\l<=h/\(hi=none/\h=len\/h<=lh):=by
 have H:l<=h/\∀code,(match lv with|some v=>Instr.sliceBound v h code|none=>pure 0:Sem Nat).run P w=.ok l w:=by
  cases lo with
  | none =>
   cases lv with
   |none=>simp[bF]at hl;subst hl;simp_all
   |some v=>cases hlo
  | some x =>
   cases lv with
   |none=>cases hlo
   |some v=>exact⟨(da (code:=.index) (P:=P) hl hlo (Tp _)).2,λcode=>(da hl hlo (Tp _)).1⟩
 obtain⟨H1,H2⟩:=H;cases mx with
 | none =>
  cases mv with
  |some v=>cases hmx
  | none =>
   have:=hm rfl;subst this;cases hi with
   | none =>
    cases hv with
    |some v=>cases hhi
    | none =>
     simp[bF]at hh;subst hh;refine⟨?_,H1,.inl ⟨rfl,rfl⟩⟩;have h2:=H2 .sliceB;unfold Instr.sliceBounds;cases lv<;>simp_all
   | some x =>
    cases hv with
    |none=>cases hhi
    | some v =>
     have h3:=λcode=>(da (P:=P) (code:=code) hh hhi hlh).1;refine⟨?_,H1,.inr (da (P:=P) (code:=.index) hh hhi hlh).2⟩;have h2:=H2 .sliceB;unfold Instr.sliceBounds;cases lv<;>simp_all
 | some xm =>
  cases mv with
  |none=>cases hmx
  | some vm =>
   obtain⟨hm1,hm2⟩:=hm' (by simp);have h4:=λcode=>(da (P:=P) (code:=code) hm1 hmx hm2).1;cases hi with
   |none=>grind
   | some x =>
    cases hv with
    |none=>cases hhi
    | some v =>
     have h3:=λcode=>(da (P:=P) (code:=code) hh hhi hlh).1;refine⟨?_,H1,.inr (da (P:=P) (code:=.index) hh hhi hlh).2⟩;have h2:=H2 .slice3C;unfold Instr.sliceBounds;cases lv<;>simp_all
theorem mT{ty e:TypeId}{sz len cap l h m:Nat}{a:Option Addr}{lv hv mv:Option Value}(hu:C.P.underlying ty=some (.slice e))(hsz:szT C.P e=some sz)
  (hb:(Instr.sliceBounds true len cap lv hv mv).run C.P w=.ok (l,h,m) w) :
  (Instr.sliceAt ty (.slice a len cap) lv hv mv).run C.P w=.ok (.slice (if m=l then a else a.map (·.add (l*sz))) (h - l) (m - l)) w:=by
 unfold Instr.sliceAt Instr.slice;simp[aH hu,hb,bc hsz]
theorem Bh{ty e:TypeId}{sz:Nat}{x:AV}{lo hi mx:Option AV}{v:Value}{lv hv mv:Option Value}{g:G}
  (hr:Rel C A bd w γ hg nx) (hu:C.P.underlying ty=some (.slice e)) (hsz:szT C.P e=some sz) (hx:RV w γ A bd x v)
  (hlo:OVR w γ A bd lo lv) (hhi:OVR w γ A bd hi hv) (hmx:OVR w γ A bd mx mv) (hmh:mx≠none->hi≠none) (agree:∀id∈ak x,hg id=g.h.get id) :
  ValSim C A bd w γ (Instr.sliceAt ty v lv hv mv) (orV (nR sz x lo hi mx g.h)):=by
 refine oE λy hy=>?_;have zero:∀(a:Option Addr),v=.slice a 0 0->∀p q r,bF 0 0 lo=some p->bF 0 0 hi=some q->bF 0 0 mx=some r ->
   (Instr.sliceAt ty v lv hv mv).run C.P w=.ok (.slice a 0 0) w:=by
  intro a hv' p q r h1 h2 h3;subst hv';have hr0:=mW h3;have hq0:=mW h2;have hp0:=mW h1;subst hr0;subst hq0;subst hp0;obtain⟨b1,b2,b3⟩:=cJ (P:=C.P) (isSlice:=true) (len:=0) (cap:=0) (l:=0) (h:=0) (m:=0) hlo hhi hmx (λ_=>rfl) (λ_=>⟨h3,Tp _⟩) hmh h2 (Tp _) h1;rw[mT hu hsz b1];simp
 unfold nR at hy;cases hx with
 | nils =>
  dsimp only at hy
  split at hy
  ·rename_i p q r h1 h2 h3;injection hy with hy;subst hy;exact⟨_,(by grind),.nils _⟩
  grind
 | esl _ a =>
  dsimp only at hy
  split at hy
  ·rename_i p q r h1 h2 h3;injection hy with hy;subst hy;exact⟨_,(by grind),.esl _ a⟩
  grind
 | tnil _ tag sz' a cap ht =>
  cases mx with
  | none =>
   cases mv with
   |some z=>cases hmx
   | none =>
    dsimp only at hy
    split at hy
    ·cases hy
    ·rename_i h hh
     split at hy
     ·cases hy
     ·rename_i l hl;simp only[aa]at hy
      split at hy
      ·injection hy with hy;subst hy;have hcap:(bL ([]:List (List AV)))=0:=rfl;rw[hcap]at hh;obtain⟨b1,b2,b3⟩:=cJ (P:=C.P) (isSlice:=true) (len:=0) (cap:=cap) (d:=0) (limM:=0) hlo hhi hmx (λ_=>rfl) (by grind) hmh hh (Ue _) hl;have e1:h=0:=by omega
       have e2:l=0:=by omega
       subst e1;subst e2;refine⟨_,mT hu hsz b1,?_⟩;have e3:jO (0 - 0) (i_ 0 ([]:List (List AV)))=[]:=by simp[a_]
       rw[e3]
       by_cases hc:cap=0
       ·rw[TE hc];exact .tnil _ tag sz a _ ht
       ·rw[TF hc];exact .tnil _ tag sz _ _ ht
      grind
  | some xm =>
   dsimp only at hy;cases mv with
   |none=>cases hmx
   | some vm =>
    split at hy
    ·rename_i p q r h1 h2 h3;injection hy with hy;subst hy;have e1:p=0:=by have:=wX h1;omega
     subst e1;obtain⟨b1,b2,b3⟩:=cJ (P:=C.P) (isSlice:=true) (len:=0) (cap:=cap) (d:=0) (limM:=0) (m:=0) hlo hhi hmx (by grind) (λ_=>⟨h1,Ue _⟩) hmh h2 (Tp _)
      (by rw[mW h2];exact h3)
     have e1:q=0:=by omega
     have e2:r=0:=by omega
     subst e1;subst e2;refine⟨_,mT hu hsz b1,?_⟩;simpa using RV.esl _ a
    grind
 | tsl _ tag sz' rows b o cap cell ht hc hb hm ha hrl ho hw hcell hcl =>
  cases mx with
  | none =>
   cases mv with
   |some z=>cases hmx
   | none =>
    simp only[ax,a_,bj]at hy
    split at hy
    ·cases hy
    ·rename_i h hh
     split at hy
     ·cases hy
     ·rename_i l hl;simp only[aa]at hy
      split at hy
      ·rename_i hsz';have hsz':=aL hsz';subst hsz';injection hy with hy;subst hy;obtain⟨b1,b2,b3⟩:=cJ (P:=C.P) (isSlice:=true) (len:=rows.length) (cap:=cap) (d:=0) (limM:=0) hlo hhi hmx (λ_=>rfl) (by grind) hmh hh hc hl;have e1:h<=rows.length:=by omega
       refine⟨_,mT hu hsz b1,?_⟩;have hlen:((rows.drop l).take (h - l)).length=h - l:=by grind
       by_cases hc0:cap=l
       ·rw[TE hc0];have e2:h - l=0:=by omega
        rw[e2,Wc];exact .tnil _ tag sz _ _ ht
       ·rw[TF hc0];simp only[TQ,fT];have:=RV.tsl (w:=w) (γ:=γ) (A:=A) bd tag sz ((rows.drop l).take (h - l)) b (o+l*sz) (cap - l) (λi j=>cell (l+i) j) ht (by omega) hb hm ha
         (by grind) (by grind) (by grind) (by grind) (by grind)
        all_goals grind
      grind
  | some xm =>
   dsimp only at hy;cases mv with
   |none=>cases hmx
   | some vm =>
    split at hy
    ·rename_i p q r h1 h2 h3;injection hy with hy;subst hy;have e1:p=0:=by have:=wX h1;omega
     subst e1;cases hi with
     |none=>grind
     | some z =>
      cases hv with
      |none=>cases hhi
      | some vh =>
       have e0:=mW h2;subst e0;obtain⟨b1,b2,b3⟩:=cJ (P:=C.P) (isSlice:=true) (len:=rows.length) (cap:=cap) (d:=0) (limM:=0) (m:=0) (lh:=0) (h:=0) hlo hhi hmx (by grind) (λ_=>⟨h1,Ue _⟩) hmh h2 (Tp _) h3;have e2:r=0:=by omega
       subst e2;refine⟨_,mT hu hsz b1,?_⟩;simpa using RV.esl _ _
    grind
 | hsl _ id ep off len lim b0 o0 cap0 hk he hc0 h0 =>
  have hagree:=agree id (by simp[ak]);dsimp only at hy;rw[<-hagree]at hy;cases hid:hg id with
  | cells sz' rows ep' loose fz =>
   rw[hid]at hy;simp only[aa,ax]at hy
   split at hy
   ·rename_i hcond;simp only[Ts,T8]at hcond;obtain⟨⟨h1,h2⟩,h3⟩:=hcond;have h1:=aL h1;have h2:=aL h2;subst h1;subst h2;obtain⟨cap,hv',hlc,hco⟩:=vK hr (RV.hsl bd id ep off len lim b0 o0 cap0 hk he hc0 h0) hid;rw[hv'];have hob:=hr.obj id;rw[hid]at hob;obtain⟨k1,k2,k3,k4,k5,_⟩:=hob
    split at hy
    ·cases hy
    ·rename_i m hm
     split at hy
     ·cases hy
     ·rename_i h hh
      split at hy
      ·cases hy
      ·rename_i l hl
       let m0:=lim.getD (rows.length - off)
       have hm0:m0<=cap:=by
        unfold iV at hco
        grind
       have hstrict:lim≠none\/loose=false->cap=m0:=by
        unfold iV at hco
        grind
       have hmm:mx≠none->m<=m0:=by
        intro h;cases mx with
        |none=>grind
        | some z=>cases mv with
         |none=>cases hmx
         |some zv=>exact wX hm
       have hmn:mx=none->m=m0:=by intro h;subst h;simp[bF]at hm;omega
       let mR:=if mx=none then cap else m
       have hmR:m<=mR:=by
        grind
       obtain⟨b1,b2,b3⟩:=cJ (P:=C.P) (isSlice:=true) (len:=len) (cap:=cap) (d:=m0) (limM:=m0) (m:=mR) (lh:=m) hlo hhi hmx
        (λh=>by grind) (λh=>⟨by grind,hm0⟩) hmh hh hmR hl
       refine⟨_,mT hu hsz b1,?_⟩;have hlen:len<=m0:=by
        unfold iV at hco
        grind
       have hhm:h<=m:=by
        grind
       split at hy
       ·rename_i hml;have hml:=aL hml;subst hml;have e1:h=m:=by omega
        subst e1
        split at hy
        ·rename_i hcond;injection hy with hy;subst hy;have e2:mR=h:=by
          simp only[mR];split
          ·rename_i hmx0;rw[hstrict,hmn hmx0];subst hmx0;simp at hcond
           grind
          ·rfl
         rw[TE e2,e2,UB];exact .esl _ _
        ·injection hy with hy;subst hy;rw[UB]
         by_cases h9:mR=h
         ·rw[TE h9];exact .tnil _ 0 sz _ _ (Ue _)
         ·rw[TF h9];exact .tnil _ 0 sz _ _ (Ue _)
       ·rename_i hml;injection hy with hy;subst hy;have hlt:l<m:=by rcases VN l m with h9|h9<;>grind[Uq]
        rw[TF (show ¬mR=l by omega)];simp only[TQ,fT];refine .hsl _ id ep (off+l) (h - l) _ _ _ _ k1 (by omega) (by omega) λ_=>⟨rfl,by grind,?_⟩;cases mx with
        | some z =>
         have e3:mR=m:=by simp[mR]
         have e4:=hmm (by simp);simp only[iV];rw[e3,k4];unfold iV at hco
         grind
        | none =>
         have e3:mR=cap:=by simp[mR]
         unfold iV at hco ⊢
         grind
   grind
  |_=>grind
 |_=>cases hy
end
end Hx
end
section
namespace Hx
open Go
section
variable {C:Cfg}{A:Nat->Nat->Prop}{bd:Nat}{w w':World}{γ γ':Gm}{hg:Nat->AObj}{nx:Nat}
theorem qJ{α:Type}{f:α->Option Nat}:∀{l:List α} {m:Nat},gQ f l=some m->∀x∈l,∃k,f x=some k/\k<=m:=by
 intro l
 induction l with
 |nil=>grind
 | cons a l ih =>
  intro m h x hx;simp only[gQ]at h
  grind
theorem Er:∀(f:Nat) {x:AV} {v:Value} {m:Nat},eS f x=some m->RV w γ A bd x v->RV w γ A m x v:=by
 intro f
 induction f with
 |zero=>intro x v m h;cases h
 | succ f ih =>
  intro x v m h hx;have hs:∀{cs:List AV} {vs:Array Value} {m':Nat},gQ (eS f) cs=some m'->m'<=m ->
    (∀(i:Nat) x v,cs[i]?=some x->vs[i]?=some v->RV w γ A bd x v)->∀(i:Nat) x v,cs[i]?=some x->vs[i]?=some v->RV w γ A m x v:=by
   intro cs vs m' h1 h2 h3 i x v hi hv;obtain⟨k,k1,k2⟩:=qJ h1 x (Tv hi)<;>grind[RV.mono]
  cases hx with
  | tsl _ tag sz rows b o cap cell ht hc hb hm ha hrl ho hw hcell hcl =>
   simp only[eS]at h;injection h with h;subst h;exact .tsl _ tag sz rows b o cap cell (Tp _) hc hb hm ha hrl ho hw hcell hcl
  | tnil _ tag sz a cap ht =>
   simp only[eS]at h;injection h with h;subst h;exact .tnil _ tag sz a cap (Tp _)
  | tptr _ tag sz rows i0 off0 b o cell ht hb hm ha hrl ho hw hcell hcl =>
   simp only[eS]at h;injection h with h;subst h;exact .tptr _ tag sz rows i0 off0 b o cell (Tp _) hb hm ha hrl ho hw hcell hcl
  |agg _ xs vs hl h1 h2=>exact .agg _ _ _ hl h1 (hs h (Tp _) h2)
  |tup _ xs vs hl h2=>exact .tup _ _ _ hl (hs h (Tp _) h2)
  | clo _ g xs ys vs us hl hl2 h1 h2 =>
   simp only[eS]at h;have ha:=qJ h;refine .clo _ g xs ys vs us hl hl2 (λi x v hi hv=>?_) (λi x v hi hv=>?_)
   ·obtain⟨k,k1,k2⟩:=ha x (VM _ (Tv hi))<;>grind[RV.mono]
   ·obtain⟨k,k1,k2⟩:=ha x (VF _ (Tv hi))<;>grind[RV.mono]
  |ifc _ t x v h1=>exact .ifc _ t x v (ih h h1)
  |bool=>exact .bool _ _
  |int=>exact .int _ _ _
  |str=>exact .str _ _
  |nilp=>exact .nilp _
  |nils=>exact .nils _
  |nilf=>exact .nilf _
  |nilm=>exact .nilm _
  |nili=>exact .nili _
  |esl _ a=>exact .esl _ a
  |hsl _ id ep off len lim b o cap hk he hc h'=>cases h
  |hptr _ id ep i off b o hk he h'=>cases h
  |hmap _ id b hk hb=>cases h
  |yld _ id b hk hb=>cases h
theorem eK{α:Type}{f:α->Option Nat}{b:Nat}:∀{l:List α} {m:Nat},gQ f l=some m->(∀x∈l,∀k,f x=some k->k<=b)->m<=b:=by
 intro l
 induction l with
 |nil=>grind[gQ]
 | cons a l ih =>
  intro m h hb;simp only[gQ]at h
  grind
theorem zy:∀(f:Nat) {x:AV} {v:Value} {m:Nat},eS f x=some m->RV w γ A bd x v->m<=bd:=by
 intro f
 induction f with
 |zero=>intro x v m h;cases h
 | succ f ih =>
  intro x v m h hx;have hs:∀{cs:List AV} {vs:Array Value},cs.length=vs.size ->
    (∀(i:Nat) x v,cs[i]?=some x->vs[i]?=some v->RV w γ A bd x v)->∀x∈cs,∀k,eS f x=some k->k<=bd:=by
   intro cs vs hl h3 x hx k hk;obtain⟨i,hi⟩:=T2 hx;have hlt:i<vs.size:=by grind
   exact ih hk (h3 i x _ hi (T7 hlt))
  cases hx with
  |tsl _ tag sz rows b o cap cell ht hc hb hm ha hrl ho hw hcell hcl=>grind[eS]
  |tnil _ tag sz a cap ht=>grind[eS]
  |tptr _ tag sz rows i0 off0 b o cell ht hb hm ha hrl ho hw hcell hcl=>grind[eS]
  |agg _ xs vs hl h1 h2=>exact eK h (hs hl h2)
  |tup _ xs vs hl h2=>exact eK h (hs hl h2)
  | clo _ g xs ys vs us hl hl2 h1 h2 =>
   refine eK h λx hx k hk=>?_<;>grind
  |ifc _ t x v h1=>exact ih h h1
  |_=>grind[eS]
theorem GB:∀(f:Nat) {x:AV} {v:Value} {m:Nat},eS f x=some m->RV w γ A bd x v->Closed x:=by
 intro f
 induction f with
 |zero=>intro x v m h;cases h
 | succ f ih =>
  intro x v m h hx;have hs:∀{cs:List AV} {vs:Array Value},cs.length=vs.size->(∀x∈cs,∃k,eS f x=some k) ->
    (∀(i:Nat) x v,cs[i]?=some x->vs[i]?=some v->RV w γ A bd x v)->∀x∈cs,Closed x:=by
   intro cs vs hl h1 h3 x hx;obtain⟨i,hi⟩:=T2 hx;have hlt:i<vs.size:=by grind
   obtain⟨k,hk⟩:=h1 x hx;exact ih hk (h3 i x _ hi (T7 hlt))
  have he:∀{cs:List AV} {m':Nat},gQ (eS f) cs=some m'->∀x∈cs,∃k,eS f x=some k:=λh x hx=>by obtain⟨k,k1,_⟩:=qJ h x hx<;>grind
  cases hx with
  |tsl _ tag sz rows b o cap cell ht hc hb hm ha hrl ho hw hcell hcl=>exact .tsl _ _ _ hcl
  |tnil=>exact .tsl _ _ _ (by grind)
  |tptr _ tag sz rows i0 off0 b o cell ht hb hm ha hrl ho hw hcell hcl=>exact .tptr _ _ _ _ _ hcl
  |agg _ xs vs hl h1 h2=>exact .agg _ (hs hl (he h) h2)
  |tup _ xs vs hl h2=>exact .tup _ (hs hl (he h) h2)
  | clo _ g xs ys vs us hl hl2 h1 h2 =>
   have hh:=he h;exact .clo _ _ _ (hs hl (λx hx=>hh x (VM _ hx)) h1) (hs hl2 (λx hx=>hh x (VF _ hx)) h2)
  |ifc _ t x v h1=>exact .ifc _ _ (ih h h1)
  |_=>first| (cases h;done)|constructor
theorem v7{rows:List (List AV)}{m i j:Nat}{row:List AV}{x:AV}{v:Value}(h:fq rows=some m)(hi:rows[i]?=some row)(hj:row[j]?=some x)
  (hv:RV w γ A bd x v):RV w γ A m x v:=by
 obtain⟨k,k1,k2⟩:=qJ h row (Tv hi);obtain⟨k',k3,k4⟩:=qJ k1 x (Tv hj);exact (Er _ k3 hv).mono (TU k4 k2)
theorem zZ{sz:Nat}:∀(n:Nat) (cs:List AV),n*sz<=cs.length ->
  (qp sz n cs).length=n/\∀(i:Nat) row,(qp sz n cs)[i]?=some row->row.length=sz/\∀(j:Nat) x,row[j]?=some x->cs[i*sz+j]?=some x:=by
 intro n
 induction n with
 |zero=>simp_all[qp]
 | succ n ih =>
  intro cs h;rw[T_,UC]at h;obtain⟨h1,h2⟩:=ih (cs.drop sz) (by grind);simp only[qp,bj,a_];refine⟨by simp[h1],λi row hi=>?_⟩;cases i<;>grind
theorem Rel.freeze(hr:Rel C A bd w γ hg nx){id sz ep:Nat}{rows:List (List AV)}{loose fz:Bool}(hid:hg id=.cells sz rows ep loose fz) :
  ∃γ',Rel C A bd w γ' (upd hg id (.cells sz rows ep loose true)) nx/\Stp w γ w γ'/\γ'=upd γ id { γ id with wr:=false }/\¬Mut γ' (γ id).blk:=by
 have hob:=hr.obj id;rw[hid]at hob;obtain⟨k1,k2,k3,k4,k5,k6,c,e,k7,k8,k9,k10⟩:=hob;have s:Stp w γ w (upd γ id { γ id with wr:=false }):=by
  refine⟨Tp _,rfl,rfl,rfl,λ_ _ _=>rfl,?_,?_,?_,Tp _⟩
  ·rintro b _ ⟨j,h1,h2,h3⟩
   by_cases hj:j=id
   ·simp_all
   ·rw[cQ _ _ hj]at h1 h2 h3;exact⟨j,h1,h2,h3⟩
  ·intro j hk
   by_cases hj:j=id
   all_goals simp_all[cQ]
  ·intro j hk
   by_cases hj:j=id
   all_goals simp_all[cQ]
 refine⟨_,hr.set rfl s (Tp _) ?_ (hr.lt id (by omega)) (λj hj hkj e=>hj (hr.inj j id hkj (by omega) e)) (hr.av id (by omega)) (by grind),s,rfl,?_⟩
 ·simp only[ObjRel,upd_same];refine⟨k1,k2,k3,k4,k5,rfl,c,e,k7,k8,k9,λi j row x h1 h2=>?_⟩;obtain⟨a,v,b1,b2⟩:=k10 i j row x h1 h2<;>grind[RV.step]
 ·rintro⟨j,h1,h2,h3⟩
  by_cases hj:j=id
  ·simp_all
  ·rw[cQ _ _ hj]at h1 h2 h3;exact hj (hr.inj j id h1 (by omega) h3)
theorem Ej{ty e:TypeId}{n sz:Nat}{a:T->AV}{lo hi:T->Option AV}{t:T}{v:Value}{lv hv:Option Value}{g:G}
  (hr:Rel C A bd w γ hg nx) (hu:C.P.underlying ty=some (.array n e)) (hsz:szT C.P e=some sz) (hs0:0<sz) (hx:RV w γ A bd (a t) v)
  (hlo:OVR w γ A bd (lo t) lv) (hhi:OVR w γ A bd (hi t) hv) (agree:∀id∈ak (a t),hg id=g.h.get id) :
  di C A bd w γ hg nx (Instr.sliceAt ty v lv hv none) g (iS n sz a lo hi t g):=by
 unfold iS;generalize a t=x at *;generalize lo t=lo at *;generalize hi t=hi at *
 split
 ·trivial
 ·rename_i h hh
  split
  ·trivial
  ·rename_i l hl;obtain⟨b1,b2,b3⟩:=cJ (P:=C.P) (isSlice:=false) (len:=n) (cap:=n) (d:=0) (limM:=0) (mx:=none) (mv:=none) hlo hhi trivial (λ_=>rfl) (by grind)
    (by grind) hh (Tp _) hl
   have hhn:h<=n:=by omega
   have hrun:∀b o,v=.pointer (some (adr b o))->(Instr.sliceAt ty v lv hv none).run C.P w=.ok (.slice (some (if n=l then adr b o else adr b (o+l*sz))) (h - l) (n - l)) w:=by simp_all[Instr.sliceAt,Instr.sureAddr,fT,aH,bc]
   cases hx with
   | tptr _ tag sz' rows i0 off0 b o cell ht hb hm ha hrl ho hw hcell hcl =>
    simp only[dB];cases hrow:rows[i0]? with
    |none=>trivial
    | some row =>
     simp only[aa,ax,bj]
     split
     ·rename_i hle;rw[T8]at hle;have hm1:l*sz+(h - l)*sz<=n*sz:=by rw[<-T_];simp_all[TT]
      obtain⟨c1,c2⟩:=zZ (sz:=sz) (h - l) (row.drop (off0+l*sz)) (by grind);refine⟨_,hrun _ _ rfl,?_⟩
      by_cases hnl:n=l
      ·have e0:h - l=0:=by omega
       rw[e0,TE hnl];exact .tnil _ tag sz _ _ ht
      ·rw[TF hnl];have:=RV.tsl (w:=w) (γ:=γ) (A:=A) bd tag sz (qp sz (h - l) (row.drop (off0+l*sz))) b (o+i0*sz'+off0+l*sz) (n - l) (λi j=>cell i0 (off0+l*sz+(i*sz+j))) ht (by omega) hb hm ha
        (by grind) (by grind) (by grind) (by grind)
        (λr hr' y hy=>by
         obtain⟨i,hi⟩:=T2 hr';obtain⟨j,hj⟩:=T2 hy;have h9:=(c2 i r hi).2 j y hj;rw[UZ]at h9;exact hcl row (Tv hrow) y (Tv h9))
       ·grind
       all_goals
        grind
     ·trivial
   | hptr _ id ep i off b o hk he h' =>
    have hagree:=agree id (by simp[ak]);simp only[G.get_eq,<-hagree];cases hid:hg id with
    | cells sz' rows ep' loose fz =>
     simp only[aa,dB]
     split
     ·rename_i hep;have hep:=aL hep;subst hep;cases hrow:rows[i]? with
      |none=>trivial
      | some row =>
       simp only[ax,bj]
       split
       ·rename_i hle;rw[T8]at hle;have hm1:l*sz+(h - l)*sz<=n*sz:=by rw[<-T_];simp_all[TT]
        obtain⟨c1,c2⟩:=zZ (sz:=sz) (h - l) (row.drop (off+l*sz)) (by grind);generalize hch:qp sz (h - l) (row.drop (off+l*sz))=rs at *;cases htag:fq rs with
        |none=>trivial
        | some m =>
         dsimp only;have hob:=hr.obj id;rw[hid]at hob;obtain⟨k1,k2,k3,_⟩:=hob;obtain⟨q1,q2⟩:=h' k2.symm;obtain⟨γ',r1,r2,r3,r4⟩:=hr.freeze hid;refine⟨_,w,γ',id,_,hrun _ _ (by rw[q1,q2]),?_,r2,.inl ⟨rfl,r1⟩⟩;have hcell:∀(i' j:Nat) r y,rs[i']?=some r->r[j]?=some y->y.one=true/\∃v,w.cell? (adr (γ id).blk ((γ id).base+i*(γ id).sz+off+l*sz+i'*sz+j))=some v/\RV w γ A bd y v:=by
          intro i' j r y hi hj;have h9:=(c2 i' r hi).2 j y hj;rw[UZ]at h9;have:=uf hr hid hrow _ y h9
          grind
         have hmb:m<=bd:=by refine eK htag λr hr' k hk=>eK hk λy hy k' hk'=>?_;obtain⟨i',hi⟩:=T2 hr';obtain⟨j,hj⟩:=T2 hy;obtain⟨_,v,_,h3⟩:=hcell i' j r y hi hj;exact zy _ hk' h3
         by_cases hnl:n=l
         ·have e0:rs=[]:=by simp_all
          rw[TE hnl,show h - l=0 from by omega,e0];exact .tnil _ m sz _ _ hmb
         ·rw[TF hnl];subst q1;have:=RV.tsl (w:=w) (γ:=γ') (A:=A) bd m sz rs (γ id).blk ((γ id).base+i*(γ id).sz+off+l*sz) (n - l)
           (λi' j=>(w.cell? (adr (γ id).blk ((γ id).base+i*(γ id).sz+off+l*sz+i'*sz+j))).getD undef) hmb (by omega)
           (hr.lt id (by omega)).2 r4 (hr.av id (by omega) m)
           (by grind) (by grind) (λi j r y hi hj=>?_) (λi j r y hi hj=>?_)
           (λr hr' y hy=>by
            obtain⟨i,hi⟩:=T2 hr';obtain⟨j,hj⟩:=T2 hy;obtain⟨_,v,_,h3⟩:=hcell i j r y hi hj;obtain⟨k,k1,k2⟩:=qJ htag r hr';obtain⟨k',k3,_⟩:=qJ k1 y hy<;>grind[GB])
          ·grind
          ·obtain⟨_,v,h3,_⟩:=hcell i j r y hi hj
           grind
          ·obtain⟨_,v,h3,h4⟩:=hcell i j r y hi hj;rw[h3];exact (v7 htag hi hj h4).step r2
       ·trivial
     ·trivial
    |_=>trivial
   |_=>trivial
end
end Hx
end
section
namespace Hx
open Go
section
variable {C:Cfg}{A:Nat->Nat->Prop}{bd:Nat}{w w':World}{γ γ':Gm}{hg:Nat->AObj}{nx:Nat}
theorem kA{s:Sem Value}{y:AV}(h:tL s=some y)(P:Program)(w:World):∃v,s.run P w=.ok v w/\RV w γ A bd y v:=by
 unfold tL at h
 split at h
 ·injection h with h;subst h;exact⟨_,rfl,.int _ _ _⟩
 ·injection h with h;subst h;exact⟨_,rfl,.bool _ _⟩
 grind
theorem GW{P:Program}{op:BinOp}{k:IntKind}{m n r:Nat}(hs:mK k m n=true)
  (h:(match op with
    |.and=>some (AV.int k (.ofNat (Nat.land m n)))
    |.or=>some (.int k (.ofNat (Nat.lor m n)))
    |.xor=>some (.int k (.ofNat (Nat.xor m n)))
    |.andNot=>some (.int k (.ofNat (Nat.xor m (Nat.land m n))))
    |_=>none)=some (.int k (.ofNat r))):(Op.intBits op k (.ofNat m) (.ofNat n)).run P w=.ok (.int k (.ofNat r)) w:=by
 have hbits:k.bits=64/\m<2 ^ 64/\n<2 ^ 64/\∀x:Nat,x<2 ^ 64->(k=.i64->x<2 ^ 63)->k.wrap (x:Int)=(x:Int):=by
  unfold mK at hs;cases k<;>simp only[Ts,UF,UR]at hs
  ·exact⟨rfl,by omega,by omega,λx _ h=>qW x (by grind)⟩
  ·refine⟨rfl,by omega,by omega,λx h _=>?_⟩;rw[<-gU];show (Int.ofNat (x % 18446744073709551616))=_
   grind
 have hb63:k=.i64->m<2 ^ 63/\n<2 ^ 63:=by intro e;simp_all[mK]
 obtain⟨hb,hm,hn,hw⟩:=hbits;have e1:(BitVec.ofInt k.bits (Int.ofNat m)).toNat=m:=by
  grind
 have e2:(BitVec.ofInt k.bits (Int.ofNat n)).toNat=n:=by
  grind
 have fin:∀(z:BitVec k.bits) (q:Nat),z.toNat=q->q<2 ^ 64->(k=.i64->q<2 ^ 63)->q=r ->
   (Sem.pure (Value.int k (k.wrap z.toNat)):Sem Value).run P w=.ok (.int k (.ofNat r)) w:=by
  intro z q h1 h2 h3 h4;simp_all
 unfold Op.intBits;cases op<;>first| (cases h;done)|skip
 case and =>
  injection h with h;injection h with _ h;injection h with h;exact fin _ (m &&& n) (by grind) (V9 _ hn) (λe=>V9 _ (hb63 e).2) h
 case or =>
  injection h with h;injection h with _ h;injection h with h;exact fin _ (m ||| n) (by grind) (Nat.or_lt_two_pow hm hn) (λe=>Nat.or_lt_two_pow (hb63 e).1 (hb63 e).2) h
 case xor =>
  injection h with h;injection h with _ h;injection h with h;exact fin _ (m ^^^ n) (by grind) (V_ hm hn) (λe=>V_ (hb63 e).1 (hb63 e).2) h
 case andNot =>
  injection h with h;injection h with _ h;injection h with h;have hx:∀(x y:BitVec k.bits),x &&& ~~~y=x ^^^ (x &&& y):=by
   grind
  exact fin _ (m ^^^ (m &&& n)) (by grind) (V_ hm (V9 _ hn))
   (λe=>V_ (hb63 e).1 (V9 _ (hb63 e).2)) h
theorem Hk{P:Program}{op:BinOp}{ty:TypeId}{k k':IntKind}{a b:Int}{y:AV}(h:(fL op).run k a k' b=some y) :
  ∃v,(binOp op ty (.int k a) (.int k' b)).run P w=.ok v w/\RV w γ A bd y v:=by
 have hk:∀{α:Type} {x:Option α} {y:α},aA (cZ k k') x none=some y->k=k'/\x=some y:=by
  grind[aa,t7]
 cases op
 case add|sub|mul =>
  obtain⟨rfl,h1⟩:=hk h;injection h1 with h1;subst h1;refine⟨_,by simp only[binOp,Op.intArith,ne_eq,not_true,if_false];rfl,?_⟩;rw[gU];exact .int _ _ _
 case quo =>
  obtain⟨rfl,h1⟩:=hk h;clear h;unfold Qa at h1;simp only[binOp,ne_eq,not_true,if_false]
  split at h1
  ·rename_i m n;injection h1 with h1;subst h1;refine⟨_,?_,by rw[gU];exact .int _ _ _⟩;unfold Op.intDiv;rw[TF (by grind)]
   rfl
  simp_all[kA]
 case rem =>
  obtain⟨rfl,h1⟩:=hk h;clear h;unfold Qc at h1;simp only[binOp,ne_eq,not_true,if_false]
  split at h1
  ·rename_i m n;injection h1 with h1;subst h1;refine⟨_,?_,.int _ _ _⟩;unfold Op.intDiv;rw[TF (by grind)]
   rfl
  simp_all[kA]
 case and|or|xor|andNot =>
  obtain⟨rfl,h1⟩:=hk h;clear h;unfold O_ at h1;simp only[binOp,ne_eq,not_true,if_false]
  split at h1
  ·rename_i m n;rw[aa]at h1
   split at h1
   ·rename_i hs;have h0:=h1;injection h1 with h1;subst h1;exact⟨_,GW hs h0,.int _ _ _⟩
   simp_all[kA]
  simp_all[kA]
 case shl =>
  change Nu k a b=some y at h;unfold Nu at h;simp only[binOp]
  split at h
  ·rename_i m n;injection h with h;subst h;refine⟨_,?_,by rw[gU];exact .int _ _ _⟩;simp_all[Op.shift,TF]
  ·exact kA (s:=Op.shift .shl k a k' b) h P w
 case shr =>
  change Nv k a b=some y at h;unfold Nv at h;simp only[binOp]
  split at h
  ·rename_i m n;injection h with h;subst h;refine⟨_,?_,.int _ _ _⟩;unfold Op.shift;rw[TF (by grind)];have:(Int.ofNat n).toNat=n:=rfl
   grind[UT]
  ·exact kA (s:=Op.shift .shr k a k' b) h P w
 all_goals
  obtain⟨rfl,h1⟩:=hk h;injection h1 with h1;subst h1;refine⟨_,by simp only[binOp,Op.intCmp,ne_eq,not_true,if_false];rfl,?_⟩;simp only[qF,mG,notb_eq]
 case eql=>exact .bool _ _
 case neq =>
  rw[show (a != b) = !decide (a=b) from by grind];exact .bool _ _
 case lss=>exact .bool _ _
 case leq =>
  rw[show decide (a<=b) = !decide (b<a) from by grind];exact .bool _ _
 case gtr=>exact .bool _ _
 case geq =>
  rw[show decide (a >= b) = !decide (a<b) from by grind];exact .bool _ _
end
end Hx
end
section
namespace Hx
open Go
section
variable {C:Cfg}{A:Nat->Nat->Prop}{bd:Nat}{w w':World}{γ γ':Gm}{hg:Nat->AObj}{nx:Nat}
theorem fJ{P:Program}{b:Nat}{o:Obj}(h:w.heap[b]?=some o)(hc:∀c e f,o≠.cells c e f):(getObj b).run P w=.ok o w:=by simp_all[getObj,Sem.run]
theorem ii{P:Program}{b:Nat}{o o':Obj}(h:w.heap[b]?=some o)(hc:∀c e f,o≠.cells c e f):(setObj b o').run P w=.ok () (World.setBlk w b o'):=by simp_all[setObj,Sem.run,World.setBlk]
theorem Ov{argTypes:Array TypeId}{ty t:TypeId}{x:AV}{v:Value}{g:G}(hr:Rel C A bd w γ hg nx)(h0:argTypes[0]?=some t)
  (hx:RV w γ A bd x v) (agree:mH C.P t=.map->∀id∈xf x,hg id=g.h.get id) :
  ValSim C A bd w γ (Builtin.len_ argTypes ty #[v]) (dm (mH C.P t) x g):=by
 have a0:(#[v]:Array Value)[0]?=some v:=rfl;unfold Builtin.len_ mH;cases hu:C.P.underlying t with
 |none=>trivial
 | some d =>
  cases d<;>try trivial
  case array n e =>
   refine⟨goInt n,?_,.int _ _ _⟩;simp_all[aH]
  case slice e =>
   simp only[dm];cases hx with
   |nils=>exact⟨goInt 0,by simp_all[aH],.int _ _ _⟩
   |esl _ a=>exact⟨goInt 0,by simp_all[aH],.int _ _ _⟩
   | tsl _ tag sz rows b o cap cell ht hc hb hm ha hrl ho hw h =>
    refine⟨goInt rows.length,by simp_all[aH],?_⟩;rw[ax];exact .int _ _ _
   |tnil _ tag sz a cap ht=>exact⟨goInt 0,by simp_all[aH],.int _ _ _⟩
   |hsl _ id ep off len lim b o cap hk he hc h=>exact⟨goInt len,by simp_all[aH],.int _ _ _⟩
   |_=>trivial
  case string =>
   simp only[dm];cases hx with
   |str _ s=>exact⟨goInt s.size,by simp_all[aH],.int _ _ _⟩
   |_=>trivial
  case map kt et =>
   simp only[dm];cases hx with
   |nilm=>exact⟨goInt 0,by simp_all[aH],.int _ _ _⟩
   | hmap _ id b hk hb =>
    have hagree:=agree (by grind[mH]) id (by simp[xf]);simp only[G.get_eq,<-hagree];cases hid:hg id with
    | map es =>
     have hob:=hr.obj id;rw[hid]at hob;obtain⟨k1,k2,esC,k3,k4,k5⟩:=hob;subst hb;refine⟨goInt es.length,?_,by rw[ax];exact .int _ _ _⟩;simp_all[aH,fJ]
    |_=>trivial
   |_=>trivial
theorem Ob{argTypes:Array TypeId}{ty t e:TypeId}{x:AV}{v:Value}{g:G}(hr:Rel C A bd w γ hg nx)(h0:argTypes[0]?=some t)(hu:C.P.underlying t=some (.slice e))
  (hx:RV w γ A bd x v) (agree:∀id∈ak x,hg id=g.h.get id) :
  ValSim C A bd w γ (Builtin.cap_ argTypes ty #[v]) (ET x g):=by
 have a0:(#[v]:Array Value)[0]?=some v:=rfl;unfold ET;cases hx with
 |nils=>exact⟨goInt 0,by simp_all[Builtin.cap_,aH],.int _ _ _⟩
 |esl _ a=>exact⟨goInt 0,by simp_all[Builtin.cap_,aH],.int _ _ _⟩
 | hsl _ id ep off len lim b0 o0 cap0 hk he hc0 h0' =>
  have hagree:=agree id (by simp[ak]);simp only[G.get_eq,<-hagree];cases hid:hg id with
  | cells sz rows ep' loose fz =>
   simp only[aa]
   split
   ·rename_i hcond;simp only[Ts,Uo,notb_eq,UH]at hcond;obtain⟨h1,h2⟩:=hcond;have h1:=aL h1;subst h1;have hob:=hr.obj id;rw[hid]at hob;obtain⟨k1,k2,k3,k4,k5,_⟩:=hob;obtain⟨c1,c2,hco⟩:=h0' k2.symm;refine⟨goInt cap0,by simp_all[Builtin.cap_,aH],?_⟩;have e:(lim.getD (bL rows - off))=cap0:=by
     rw[ax];unfold iV at hco
     grind
    rw[e];exact .int _ _ _
   ·trivial
  |_=>trivial
 |_=>trivial
theorem Oz{argTypes:Array TypeId}{ty:TypeId}{x y:AV}{v u:Value}(hx:RV w γ A bd x v)(hy:RV w γ A bd y u) :
  ValSim C A bd w γ (Builtin.max_ argTypes ty #[v,u]) (match x with
   | .int k m=>match y with
    |.int k' n=>aA (cZ k k') (.val (.int k (aA (zi m n) n m))) .fail
    |_=>.fail
   |_=>.fail):=by
 cases hx with
 | int _ k m =>
  cases hy with
  | int _ k' n =>
   dsimp only;rw[aa]
   split
   ·refine⟨.int k (if n > m then n else m),by simp[Builtin.max_,Builtin.max2],?_⟩;rw[aa,mG];simp only[TA,gt_iff_lt];exact .int _ _ _
   ·trivial
  |_=>trivial
 |_=>trivial
theorem OA{argTypes:Array TypeId}{ty:TypeId}{x y:AV}{v u:Value}(hx:RV w γ A bd x v)(hy:RV w γ A bd y u) :
  ValSim C A bd w γ (Builtin.min_ argTypes ty #[v,u]) (match x with
   | .int k m=>match y with
    |.int k' n=>aA (cZ k k') (.val (.int k (aA (zi n m) n m))) .fail
    |_=>.fail
   |_=>.fail):=by
 cases hx with
 | int _ k m =>
  cases hy with
  | int _ k' n =>
   dsimp only;rw[aa]
   split
   ·refine⟨.int k (if n<m then n else m),by simp[Builtin.min_,Builtin.min2],?_⟩;rw[aa,mG];simp only[TA];exact .int _ _ _
   ·trivial
  |_=>trivial
 |_=>trivial
end
end Hx
end
section
namespace Hx
open Go
def gO:TypeDesc->Value->Bool
 |.bool,.bool _=>true
 |.int k,.int k' _=>decide (k=k')
 |.string,.string _=>true
 |_,_=>false
def aV:List TypeDesc->List Value->Bool
 |[],[]=>true
 |d::ds,v::vs=>gO d v&&aV ds vs
 |_,_=>false
def eqV:Value->Value->Bool
 |.int _ a,.int _ b=>a == b
 |.bool a,.bool b=>a == b
 |.string a,.string b=>a == b
 |_,_=>false
def nW:List Value->List Value->Bool
 |[],[]=>true
 |a::as,b::bs=>eqV a b&&nW as bs
 |_,_=>false
def eg(P:Program)(t:TypeId):Bool:=match rT P t with|some b=>b|none=>false
def mkV(P:Program)(t:TypeId)(cs:List Value):Value:=if eg P t then .agg cs.toArray else cs.headD undef
theorem bK:∀{ds:List TypeDesc} {vs:List Value},aV ds vs=true->vs.length=ds.length:=by
 intro ds
 induction ds with
 |nil=>grind[aV]
 | cons d ds ih=>intro vs h;cases vs with
  |nil=>grind[aV]
  |cons v vs=>simp_all[aV]
theorem eU{d1 d2:List TypeDesc}:∀{vs:List Value},aV (d1++d2) vs=true->aV d1 (vs.take d1.length)=true/\aV d2 (vs.drop d1.length)=true:=by
 induction d1 with
 |nil=>grind[aV]
 | cons d ds ih =>
  intro vs h;cases vs with
  |nil=>grind[aV]
  | cons v vs =>
   simp_all[aV]
theorem yA:∀{a1 a2 b1 b2:List Value},a1.length=b1.length->nW (a1++a2) (b1++b2)=(nW a1 b1&&nW a2 b2):=by
 intro a1
 induction a1 with
 |nil=>grind[nW]
 | cons a as ih =>
  intro a2 b1 b2 h;cases b1 with
  |nil=>simp at h
  |cons b bs=>simp_all[nW,Bool.and_assoc]
section
variable {P:Program}
def pq:TypeDesc->Bool
 |.struct _|.array _ _=>true
 |_=>false
theorem eh{t:TypeId}{d:TypeDesc}(h:P.underlying t=some d) :
  eg P t=pq d/\rT P t=some (eg P t):=by
 grind[eg,rT,pq]
theorem t9{w:World}{t:TypeId}{d:TypeDesc}{n off:Nat}{xs:Array Value}(hu:P.underlying t=some d)(hn:szT P t=some n)(h1:eg P t=false->n=1)
  (hle:eg P t=false->off+n<=xs.size):(part t xs off).run P w=.ok (mkV P t ((xs.toList.drop off).take n)) w:=by
 obtain⟨_,ha⟩:=eh hu;unfold mkV;cases hg:eg P t with
 | true =>
  rw[hg]at ha;have e:(xs.extract off (off+n))=((xs.toList.drop off).take n).toArray:=by
   grind
  simp_all[part,mQ,bc]
 | false =>
  rw[hg]at ha;have hn1:=h1 hg;subst hn1;have hl:off<xs.size:=by grind
  have e:((xs.toList.drop off).take 1).headD undef=xs[off]:=by simp_all[List.head?_take]
  simp_all[part,mQ]
theorem hZ{d:Nat}{t:TypeId}{ds:List TypeDesc}(h:nD P d t=some ds):∃k,P.underlying t=some k/\(eg P t=false->ds.length=1):=by
 cases d with
 |zero=>cases h
 | succ d =>
  unfold nD at h;cases hu:P.underlying t with
  |none=>grind
  | some k =>
   refine⟨k,rfl,λhg=>?_⟩;obtain⟨h1,_⟩:=eh hu<;>grind[pq,aa]
theorem He{w:World}{dd:Nat}{rec:TypeId->Option (List TypeDesc)}(hinfo:∀t ds,rec t=some ds->∃k,P.underlying t=some k/\(eg P t=false->ds.length=1))
  (ih:∀t ds,rec t=some ds->∀(xs ys:List Value),aV ds xs=true->aV ds ys=true->(Op.equalIn dd t (mkV P t xs) (mkV P t ys)).run P w=.ok (nW xs ys) w)
  {xs ys:Array Value}:∀(fs:List Field) (k:Nat) (ds:List TypeDesc),vH P rec fs k=some ds->aV ds (xs.toList.drop k)=true->aV ds (ys.toList.drop k)=true ->
   (Op.eqFields dd xs ys fs).run P w=.ok (nW (xs.toList.drop k) (ys.toList.drop k)) w:=by
 intro fs
 induction fs with
 | nil =>
  intro k ds h hx hy;simp only[vH]at h;injection h with h;subst h;have h1:=bK hx;have h2:=bK hy;rw[T5 h1,T5 h2]
  rfl
 | cons f fs ihf =>
  intro k ds h hx hy;simp only[vH]at h
  split at h
  ·rename_i ds1 h1
   split at h
   ·rename_i r hr;rw[aa]at h
    split at h
    ·rename_i hcond;simp only[Ts,bne_iff_ne,ne_eq,beq_iff_eq]at hcond;obtain⟨⟨hname,hoff⟩,hsz⟩:=hcond;have hoff:=aL hoff;injection h with h;subst h;obtain⟨x1,x2⟩:=eU hx;obtain⟨y1,y2⟩:=eU hy;rw[UI]at x2 y2;have lx:=bK hx;have ly:=bK hy;simp at lx ly;obtain⟨kd,hu,hone⟩:=hinfo _ _ h1;have p1:(part f.type xs f.offset).run P w=.ok (mkV P f.type ((xs.toList.drop k).take ds1.length)) w:=by
      grind[t9]
     have p2:(part f.type ys f.offset).run P w=.ok (mkV P f.type ((ys.toList.drop k).take ds1.length)) w:=by
      grind[t9]
     have p3:=ih _ _ h1 _ _ x1 y1;have p4:=ihf _ _ hr x2 y2;simp only[Op.eqFields,ne_eq,hname,not_false_eq_true,if_true,T0,p1,p2,p3,TN];have e:=yA (a1:=(xs.toList.drop k).take ds1.length) (a2:=xs.toList.drop (k+ds1.length)) (b1:=(ys.toList.drop k).take ds1.length) (b2:=ys.toList.drop (k+ds1.length))
      (by grind)
     rw[<-UI,<-UI,Us,Us]at e;rw[e,UI,UI];cases hq:nW ((xs.toList.drop k).take ds1.length) ((ys.toList.drop k).take ds1.length)<;>simp_all
    grind
   grind
  grind
theorem BZ{w:World}{dd:Nat}{e:TypeId}{de:List TypeDesc}{kd:TypeDesc}(hu:P.underlying e=some kd)(hone:eg P e=false->de.length=1)(hsz:szT P e=some de.length)
  (ih:∀(xs ys:List Value),aV de xs=true->aV de ys=true->(Op.equalIn dd e (mkV P e xs) (mkV P e ys)).run P w=.ok (nW xs ys) w)
  {xs ys:Array Value}:∀(n i:Nat),aV (List.replicate n de).flatten (xs.toList.drop (i*de.length))=true->aV (List.replicate n de).flatten (ys.toList.drop (i*de.length))=true ->
   (Op.eqItems dd e de.length xs ys (List.range' i n)).run P w=.ok (nW (xs.toList.drop (i*de.length)) (ys.toList.drop (i*de.length))) w:=by
 intro n
 induction n with
 | zero =>
  intro i hx hy;have h1:=bK hx;have h2:=bK hy;rw[T5 (l:=xs.toList.drop _) (by grind),T5 (l:=ys.toList.drop _) (by grind)]
  rfl
 | succ n ihn =>
  intro i hx hy;rw[Uu,List.flatten_cons]at hx hy;obtain⟨x1,x2⟩:=eU hx;obtain⟨y1,y2⟩:=eU hy;have lx:=bK x1;have ly:=bK y1;simp at lx ly;rw[UI]at x2 y2;have em:i*de.length+de.length=(i+1)*de.length:=by grind
  rw[em]at x2 y2;have p1:(part e xs (i*de.length)).run P w=.ok (mkV P e ((xs.toList.drop (i*de.length)).take de.length)) w:=t9 hu hsz hone λhg=>by grind
  have p2:(part e ys (i*de.length)).run P w=.ok (mkV P e ((ys.toList.drop (i*de.length)).take de.length)) w:=t9 hu hsz hone λhg=>by grind
  have p3:=ih _ _ x1 y1;have p4:=ihn (i+1) x2 y2;rw[List.range'_succ];simp only[Op.eqItems,T0,p1,p2,p3,TN];have ee:=yA (a1:=(xs.toList.drop (i*de.length)).take de.length) (a2:=xs.toList.drop ((i+1)*de.length)) (b1:=(ys.toList.drop (i*de.length)).take de.length) (b2:=ys.toList.drop ((i+1)*de.length))
   (by grind)
  rw[<-em,<-UI,<-UI,Us,Us,UI,UI,em]at ee;rw[ee];cases hq:nW ((xs.toList.drop (i*de.length)).take de.length) ((ys.toList.drop (i*de.length)).take de.length)<;>simp_all
theorem G4{t:TypeId}{n:Nat}(h:szT P t=some n):P.cellsOf t=n/\∃i,P.info? t=some i:=by unfold szT at h;unfold Program.cellsOf;cases hi:P.info? t<;>grind
theorem DT(D:Nat):∀(d:Nat) (t:TypeId) (ds:List TypeDesc),nD P d t=some ds->∀(w:World) (xs ys:List Value),aV ds xs=true->aV ds ys=true ->
  (Op.equalIn (D+d) t (mkV P t xs) (mkV P t ys)).run P w=.ok (nW xs ys) w:=by
 intro d
 induction d with
 |zero=>intro t ds h;cases h
 | succ d ih =>
  intro t ds h w xs ys hx hy;unfold nD at h;have one:∀k,P.underlying t=some k->nC k=true->pq k=false->ds=[k]->(Op.equalIn (D+(d+1)) t (mkV P t xs) (mkV P t ys)).run P w=.ok (nW xs ys) w:=by
   intro k hu hk hag hds;obtain⟨h1,_⟩:=eh hu;subst hds;have hm:∀zs,mkV P t zs=zs.headD undef:=by grind[mkV]
   rw[hm,hm];have lx:=bK hx;have ly:=bK hy
   match xs,ys,lx,ly with
   | [x],[y],_,_ =>
    simp only[aV,Vy]at hx hy;simp only[List.headD_cons,nW,Vy,<-Vd];cases k<;>simp[nC]at hk<;>cases x<;>simp[gO]at hx<;>cases y<;>simp[gO]at hy
    ·simp[Op.equalIn,aH hu,eqV]
    ·subst hx;subst hy;simp[Op.equalIn,aH hu,eqV]
    ·simp[Op.equalIn,aH hu,eqV]
  cases hu:P.underlying t with
  |none=>grind
  | some k =>
   rw[hu]at h;cases k
   case struct fs =>
    simp only[aa]at h
    split at h
    ·cases h
    ·rename_i hst;have hst:P.stoodInHeld t=false:=by grind
     have hfs:P.fieldsOf t=fs:=by grind[Program.fieldsOf]
     have hm:∀zs,mkV P t zs=.agg zs.toArray:=by intro zs;unfold mkV;rw[(eh hu).1];rfl
     rw[hm,hm,<-Vd,run_equalIn_struct w (D+d) t _ _ (by grind) hst,hfs];have:=He (P:=P) (w:=w) (dd:=D+d) (rec:=nD P d) (λt ds h=>hZ h) (by grind) (xs:=xs.toArray) (ys:=ys.toArray)
      fs.toList 0 ds h (by grind) (by grind)
     grind
   case array n e =>
    simp only at h
    split at h
    ·rename_i de hde;simp only[aa]at h
     split at h
     ·rename_i hsz;injection h with h;subst h;have hsz:szT P e=some de.length:=by grind
      obtain⟨kd,hue,hone⟩:=hZ hde;obtain⟨hc,i,hi⟩:=G4 hsz;have hm:∀zs,mkV P t zs=.agg zs.toArray:=by intro zs;unfold mkV;rw[(eh hu).1];rfl
      rw[hm,hm,<-Vd,run_equalIn_array w (D+d) _ _ hu hi,hc,List.range_eq_range'];simp_all[BZ]
     grind
    grind
   all_goals
    simp only[aa]at h
    split at h
    ·rename_i hk;injection h with h;exact one _ hu hk rfl h.symm
    grind
end
end Hx
end
section
namespace Hx
open Go
section
variable {C:Cfg}{A:Nat->Nat->Prop}{bd:Nat}{w w':World}{γ γ':Gm}{hg:Nat->AObj}{nx:Nat}
theorem RVs.tail{x:AV}{xs:List AV}{v:Value}{vs:List Value}(h:RVs w γ A bd (x::xs) (v::vs)):RV w γ A bd x v/\RVs w γ A bd xs vs :=
 ⟨h.2 0 x v rfl rfl,by have:=h.1;grind,λi y u hy hu=>h.2 (i+1) y u (by grind) (by grind)⟩
theorem CP{d:TypeDesc}{x:AV}{v:Value}(h:pr d x=true)(hx:RV w γ A bd x v):gO d v=true:=by cases d<;>cases hx<;>simp_all [pr,gO,t7]
theorem vN:∀{ds:List TypeDesc} {xs:List AV} {vs:List Value},dN ds xs=true->RVs w γ A bd xs vs->aV ds vs=true:=by
 intro ds
 induction ds with
 | nil =>
  intro xs vs h hx;cases xs with
  | nil=>have:=hx.1;cases vs with
   |nil=>rfl
   |cons v vs=>grind
  |cons x xs=>cases h
 | cons d ds ih =>
  intro xs vs h hx;cases xs with
  |nil=>cases h
  | cons x xs =>
   cases vs with
   |nil=>have:=hx.1;grind
   | cons v vs =>
    obtain⟨h1,h2⟩:=hx.tail;simp only[dN,aa]at h
    split at h
    ·rename_i hk;simp only[aV,Ts]
     grind[CP]
    grind
theorem xM{x y:AV}{v u:Value}{b:Bool}(h:oS x y=some b)(hx:RV w γ A bd x v)(hy:RV w γ A bd y u):eqV v u=b:=by
 cases hx<;>cases hy<;>simp only[oS]at h<;>first| (cases h;done)|skip
 ·injection h with h;subst h;rename_i a b;cases a<;>cases b<;>rfl
 ·grind[aa,eqV,qF]
 ·injection h with h;subst h;simp only[eqV];rename_i s1 s2;obtain⟨⟨x⟩⟩:=s1;obtain⟨⟨y⟩⟩:=s2;show ((⟨x⟩:Array UInt8) == ⟨y⟩)=_
  grind
theorem vo:∀{xs ys:List AV} {vs us:List Value} {b:Bool},eF xs ys=some b->RVs w γ A bd xs vs->RVs w γ A bd ys us->nW vs us=b:=by
 intro xs
 induction xs with
 | nil =>
  intro ys vs us b h hx hy;cases ys with
  | nil =>
   simp only[eF]at h;injection h with h;subst h;have h1:=hx.1;have h2:=hy.1
   grind[nW]
  |cons y ys=>cases h
 | cons x xs ih =>
  intro ys vs us b h hx hy;cases ys with
  |nil=>cases h
  | cons y ys =>
   cases vs with
   |nil=>have:=hx.1;grind
   | cons v vs =>
    cases us with
    |nil=>have:=hy.1;grind
    | cons u us =>
     obtain⟨x1,x2⟩:=hx.tail;obtain⟨y1,y2⟩:=hy.tail
     grind[eF,nW,aa,xM]
theorem wh{xs:List AV}{v:Value}(h:RV w γ A bd (.agg xs) v):∃vs,v=.agg vs/\RVs w γ A bd xs vs.toList:=by
 cases h with
 |agg _ _ vs hl h1 h2=>exact⟨vs,rfl,by omega,λi x u hx hu=>h2 i x u hx (by grind)⟩
theorem Hc{t:TypeId}{ds:List TypeDesc}{xs ys:Array Value}(h:kJ C.P t=some ds)(hag:eg C.P t=true)(hx:aV ds xs.toList=true)(hy:aV ds ys.toList=true) :
  C.P.eqGuardType C.P.depth t=false/\(Op.equal t (.agg xs) (.agg ys)).run C.P w=.ok (nW xs.toList ys.toList) w:=by
 unfold kJ at h;rw[aa]at h
 split at h
 ·cases h
 ·rename_i hg;refine⟨by grind,?_⟩;have:=DT (P:=C.P) 9992 8 t ds h w xs.toList ys.toList hx hy;simp_all[mkV,Op.equal,Op.maxDepth]
theorem mP(t:TypeId)(x y:Value):Op.equal t x y=Op.equalIn (9999+1) t x y:=rfl
def EqFin(C:Cfg)(w:World)(ty:TypeId)(xo yo:Operand)(va vb:Value)(r:Bool):Prop :=
 (∀op,(eqGuard op ty xo yo va vb).run C.P w=.ok () w)/\(binOp .eql ty va vb).run C.P w=.ok (.bool r) w/\(binOp .neq ty va vb).run C.P w=.ok (.bool (!r)) w
theorem EqFin.mk'{ty:TypeId}{xo yo:Operand}{va vb:Value}{r:Bool}(h1:∀op,(eqGuard op ty xo yo va vb).run C.P w=.ok () w)(h2:(Op.equal ty va vb).run C.P w=.ok r w)
  (h3:binOp .eql ty va vb=(do pure (.bool (<-Op.equal ty va vb)))) (h4:binOp .neq ty va vb=(do pure (.bool (!(<-Op.equal ty va vb))))):EqFin C w ty xo yo va vb r:=by
 refine⟨h1,?_,?_⟩<;>simp_all
section kinds
variable {ty:TypeId}{xo yo:Operand}{a b:AV}{va vb:Value}{r:Bool}(ha:RV w γ A bd a va)(hb:RV w γ A bd b vb)
include ha hb
theorem LG{ds:List TypeDesc}(hf:kJ C.P ty=some ds)(hag:eg C.P ty=true)(h:eqA (.flat ds) a b=some r):EqFin C w ty xo yo va vb r:=by
 cases a<;>try (cases h;done)
 cases b<;>try (cases h;done)
 rename_i xs ys;change aA (dN ds xs&&dN ds ys) (eF xs ys) none=some r at h;rw[aa]at h
 split at h
 ·rename_i hk;simp only[Ts]at hk;obtain⟨vs,rfl,hv⟩:=wh ha;obtain⟨us,rfl,hv'⟩:=wh hb;obtain⟨g1,g2⟩:=Hc (w:=w) hf hag (vN hk.1 hv) (vN hk.2 hv');rw[vo h hv hv']at g2;exact .mk' (λop=>run_eqGuard_agg w op ty xo yo vs us g1) g2 rfl rfl
 grind
theorem JZ{e:TypeId}(hu:C.P.underlying ty=some (.slice e))(h:eqA .slice a b=some r):EqFin C w ty xo yo va vb r:=by
 cases ha<;>try (cases h;done)
 all_goals cases hb<;>first| (cases h;done)| (injection h with h;subst h;exact .mk' (λop=>by simp_all[eqGuard]) (by rw[mP];unfold Op.equalIn;simp[aH hu]) rfl rfl)
theorem LH{p q:Array TypeId}{v:Bool}(hu:C.P.underlying ty=some (.func p q v))(h:eqA .func a b=some r):EqFin C w ty xo yo va vb r:=by
 cases ha<;>try (cases h;done)
 all_goals cases hb<;>first| (cases h;done)| (injection h with h;subst h;exact .mk' (λop=>by simp_all[eqGuard]) (by rw[mP];unfold Op.equalIn;simp[aH hu]) rfl rfl)
theorem LF(hu:C.P.underlying ty=some .bool)(h:eqA .bool a b=some r):EqFin C w ty xo yo va vb r:=by
 cases ha<;>try (cases h;done)
 cases hb<;>try (cases h;done)
 rename_i x y;injection h with h;subst h;refine .mk' (λop=>by simp_all[eqGuard]) ?_ rfl rfl;rw[mP];unfold Op.equalIn;simp[aH hu];cases x<;>cases y<;>rfl
theorem JY{ms:Array (String×TypeId)}(hu:C.P.underlying ty=some (.interface ms))(h:eqA (.iface ms.isEmpty) a b=some r):EqFin C w ty xo yo va vb r:=by
 cases ha<;>try (cases h;done)
 ·cases hb<;>try (cases h;done)
  ·change aA ms.isEmpty (some true) none=some r at h;rw[aa]at h
   split at h
   ·rename_i he;injection h with h;subst h;refine .mk' (λop=>?_) (by rw[mP];unfold Op.equalIn;simp[aH hu]) rfl rfl;have hg:(Op.eqGuardIn Op.maxDepth ty .nilIface .nilIface).run C.P w=.ok false w:=by show (Op.eqGuardIn (9999+1) ty .nilIface .nilIface).run C.P w=_;unfold Op.eqGuardIn;simp_all[aH]
    unfold eqGuard;simp_all
   grind
  ·injection h with h;subst h;exact .mk' (λop=>by simp_all[eqGuard]) (by rw[mP];unfold Op.equalIn;simp[aH hu]) rfl rfl
 ·cases hb<;>try (cases h;done)
  injection h with h;subst h;exact .mk' (λop=>by simp_all[eqGuard]) (by rw[mP];unfold Op.equalIn;simp[aH hu]) rfl rfl
end kinds
theorem It{ty:TypeId}{xo yo:Operand}{a b:AV}{va vb:Value}{r:Bool}(hne:qs C.P ty≠.other)(h:eqA (qs C.P ty) a b=some r)(ha:RV w γ A bd a va)(hb:RV w γ A bd b vb) :
  EqFin C w ty xo yo va vb r:=by
 unfold qs at h hne;cases hu:C.P.underlying ty with
 |none=>grind
 | some d =>
  have agg:pq d=true->eqA (match kJ C.P ty with|some ds=>EqKind.flat ds|none=>.other) a b=some r->EqFin C w ty xo yo va vb r:=by
   intro hd h;cases hf:kJ C.P ty with
   |none=>rw[hf]at h;cases h
   |some ds=>grind[LG,eh]
  simp only[hu]at h hne;cases d
  case struct fs=>exact agg rfl h
  case array n e=>exact agg rfl h
  case slice e=>grind[JZ]
  case func p q v=>grind[LH]
  case bool=>grind[LF]
  case interface ms=>grind[JY]
  all_goals grind
noncomputable def Pn(op:BinOp)(x y:AV):OR:=match x,y with|.int k m,.int k' n=>orV ((fL op).run k m k' n)|_,_=>.fail
theorem N6{op:BinOp}{ty:TypeId}{xo yo:Operand}{a b:AV}{va vb:Value}(ha:RV w γ A bd a va)(hb:RV w γ A bd b vb) :
  ValSim C A bd w γ (do eqGuard op ty xo yo va vb;binOp op ty va vb) ((zJ C.P op ty).run a b):=by
 have pp:ValSim C A bd w γ (do eqGuard op ty xo yo va vb;binOp op ty va vb) (Pn op a b):=by
  unfold Pn;cases ha with
  | int _ k m =>
   cases hb with
   | int _ k' n =>
    simp_all[oE,Hk,eqGuard]
   |_=>trivial
  |_=>trivial
 cases op
 case eql =>
  unfold zJ;dsimp only
  split
  ·exact pp
  ·rename_i hk;dsimp only;cases hr:eqA (qs C.P ty) a b with
   |none=>trivial
   | some r =>
    obtain⟨h1,h2,_⟩:=It (xo:=xo) (yo:=yo) (λe=>hk e) hr ha hb;exact⟨.bool r,by simp_all,.bool _ _⟩
 case neq =>
  unfold zJ;dsimp only
  split
  ·exact pp
  ·rename_i hk;dsimp only;cases hr:eqA (qs C.P ty) a b with
   |none=>trivial
   | some r =>
    obtain⟨h1,_,h2⟩:=It (xo:=xo) (yo:=yo) (λe=>hk e) hr ha hb;exact⟨.bool (!r),by simp_all,by rw[notb_eq];exact .bool _ _⟩
 all_goals exact pp
end
end Hx
end
section
namespace Hx
open Go
section
variable {P:Program}
theorem Au(em:Bool)(D:Nat):∀(d:Nat) (t:TypeId) (ds:List TypeDesc),nD P d t=some ds->∀(w:World) (xs:List Value),aV ds xs=true ->
  (Instr.checkKey em (D+d) t (mkV P t xs)).run P w=.ok () w:=by
 intro d
 induction d with
 |zero=>intro t ds h;cases h
 | succ d ih =>
  intro t ds h w xs hx;unfold nD at h;have one:∀k,P.underlying t=some k->nC k=true->pq k=false->ds=[k]->(Instr.checkKey em (D+(d+1)) t (mkV P t xs)).run P w=.ok () w:=by
   intro k hu hk hag hds;obtain⟨h1,_⟩:=eh hu;subst hds;have hm:∀zs,mkV P t zs=zs.headD undef:=by grind[mkV]
   rw[hm];have lx:=bK hx
   match xs,lx with
   | [x],_ =>
    simp only[aV,Vy]at hx;simp only[List.headD_cons,<-Vd];unfold Instr.checkKey;cases k<;>simp[nC]at hk<;>cases x<;>simp[gO]at hx<;>simp[aH hu]
  cases hu:P.underlying t with
  |none=>grind
  | some k =>
   rw[hu]at h;cases k
   case struct fs =>
    simp only[aa]at h
    split at h
    ·cases h
    ·have hm:∀zs,mkV P t zs=.agg zs.toArray:=by intro zs;unfold mkV;rw[(eh hu).1];rfl
     rw[hm,<-Vd,Instr.checkKey];simp only[T0,aH hu,TN];rw[<-Array.forIn_toList];have go:∀(L:List Field) (k:Nat) (ds:List TypeDesc),vH P (nD P d) L k=some ds->aV ds (xs.drop k)=true ->
       (forIn L PUnit.unit λ(f:Field) (_:PUnit)=>(do
        if f.name ≠ "_" then Instr.checkKey em (D + d) f.type (← part f.type xs.toArray f.offset)
        pure (ForInStep.yield PUnit.unit):Sem (ForInStep PUnit))).run P w=.ok PUnit.unit w:=by
      intro L
      induction L with
      |nil=>simp_all
      | cons f L ihL =>
       intro k ds h hx;simp only[vH]at h
       split at h
       ·rename_i ds1 h1
        split at h
        ·rename_i r hr;rw[aa]at h
         split at h
         ·rename_i hcond;simp only[Ts,bne_iff_ne,ne_eq,beq_iff_eq]at hcond;obtain⟨⟨hname,hoff⟩,hsz⟩:=hcond;have hoff:=aL hoff;injection h with h;subst h;obtain⟨x1,x2⟩:=eU hx;rw[UI]at x2;have lx:=bK hx;simp at lx;obtain⟨kd,hu',hone⟩:=hZ h1;have p1:(part f.type xs.toArray f.offset).run P w=.ok (mkV P f.type ((xs.drop k).take ds1.length)) w:=by
           rw[hoff];have:=t9 (w:=w) (xs:=xs.toArray) (off:=k) hu' hsz hone λhg=>by grind
           omega
          have p2:=ih _ _ h1 w _ x1;have p3:=ihL _ _ hr x2;simp_all
         grind
        grind
       grind
     have:=go fs.toList 0 ds h (by grind);simp_all
   case array n e =>
    simp only at h
    split at h
    ·rename_i de hde;simp only[aa]at h
     split at h
     ·rename_i hsz;injection h with h;subst h;have hsz:szT P e=some de.length:=by grind
      obtain⟨kd,hue,hone⟩:=hZ hde;have hm:∀zs,mkV P t zs=.agg zs.toArray:=by intro zs;unfold mkV;rw[(eh hu).1];rfl
      rw[hm,<-Vd,Instr.checkKey];simp only[T0,aH hu,TN];simp only[Std.Legacy.Range.forIn_eq_forIn_range',Std.Legacy.Range.size,Vw,Nat.add_one_sub_one,Nat.div_one];have go:∀(n i:Nat),aV (List.replicate n de).flatten (xs.drop (i*de.length))=true ->
        (forIn (List.range' i n) PUnit.unit λ(i:Nat) (_:PUnit)=>(do
         Instr.checkKey em (D+d) e (<-part e xs.toArray (i*(<-Go.sizeOf e)))
         pure (ForInStep.yield PUnit.unit):Sem (ForInStep PUnit))).run P w=.ok PUnit.unit w:=by
       intro n
       induction n with
       |zero=>simp_all
       | succ n ihn =>
        intro i hx;rw[Uu,List.flatten_cons]at hx;obtain⟨x1,x2⟩:=eU hx;have lx:=bK x1;simp at lx;rw[UI]at x2;have em':i*de.length+de.length=(i+1)*de.length:=by grind
        rw[em']at x2;have p1:(part e xs.toArray (i*de.length)).run P w=.ok (mkV P e ((xs.drop (i*de.length)).take de.length)) w:=by
         have:=t9 (w:=w) (xs:=xs.toArray) (off:=i*de.length) hue hsz hone λhg=>by grind
         omega
        simp_all[List.range'_succ,bc]
      simp_all
     grind
    grind
   all_goals
    simp only[aa]at h
    split at h
    ·rename_i hk;injection h with h;exact one _ hu hk rfl h.symm
    grind
end
section
variable {C:Cfg}{A:Nat->Nat->Prop}{bd:Nat}{w w':World}{γ γ':Gm}{hg:Nat->AObj}{nx:Nat}
def By(P:Program)(kt:TypeId)(k:AV)(v:Value):Prop :=
 ∃d ds,d<=8/\nD P d kt=some ds/\aV ds v.cells.toList=true/\v=mkV P kt v.cells.toList/\(eg P kt=true↔∃xs,k=.agg xs)
theorem Hl{kt:TypeId}{k:AV}{v:Value}(h:my (dg C.P kt) k=true)(hk:RV w γ A bd k v):By C.P kt k v:=by
 unfold dg at h;cases hu:C.P.underlying kt with
 |none=>rw[hu]at h;cases h
 | some d =>
  have agg:pq d=true->my (match kJ C.P kt with|some ds=>KeyKind.flat ds|none=>.other) k=true->By C.P kt k v:=by
   intro hd h;cases hf:kJ C.P kt with
   |none=>rw[hf]at h;cases h
   | some ds =>
    rw[hf]at h;obtain⟨xs,rfl⟩:∃xs,k=.agg xs:=by cases k<;>first|exact⟨_,rfl⟩| (cases h;done)
    change dN ds xs=true at h;obtain⟨vs,rfl,hv⟩:=wh hk;have hag:eg C.P kt=true:=by grind[eh]
    unfold kJ at hf;rw[aa]at hf
    split at hf
    ·cases hf
    ·refine⟨8,ds,Tp _,hf,vN h hv,?_,?_⟩
     all_goals simp_all[mkV,Value.cells]
  have one:nC d=true->my (.one d) k=true->pq d=false->(∀f,nD C.P (f+1) kt=some [d])->By C.P kt k v:=by
   intro hf hk' hag hfl;have hag':eg C.P kt=false:=by grind[eh]
   have hkv:=CP hk' hk;refine⟨1,[d],by decide,hfl 0,?_,?_,?_⟩
   ·cases v<;>simp_all [Value.cells,aV,gO]<;>cases d<;>simp_all [gO]
   ·unfold mkV;rw[hag'];cases v<;>simp[Value.cells]<;>cases d<;>simp_all [gO]
   ·rw[hag'];constructor
    ·grind
    ·rintro⟨xs,rfl⟩;cases d<;>cases hk'
  rw[hu]at h;cases d
  case struct fs=>exact agg rfl h
  case array n e=>exact agg rfl h
  all_goals
   simp only[aa]at h
   split at h
   ·rename_i hf;exact one hf h rfl (λf=>by simp_all[nD])
   ·cases h
theorem yz{d:TypeDesc}{x y:AV}{v u:Value}{b:Bool}(h:oS x y=some b)(hx:RV w γ A bd x v)(hy:RV w γ A bd y u)(hk:gO d v=true):gO d u=true:=by
 cases hx<;>try (cases h;done)
 all_goals cases hy<;>try (cases h;done)
 ·cases d<;>simp_all [gO]
 ·simp only[oS,aa,t7]at h
  split at h
  ·rename_i e;simp at e;subst e;cases d<;>simp_all [gO]
  grind
 ·cases d<;>simp_all [gO]
theorem uD:∀{ds:List TypeDesc} {xs ys:List AV} {vs us:List Value} {b:Bool},eF xs ys=some b->RVs w γ A bd xs vs->RVs w γ A bd ys us->aV ds vs=true->aV ds us=true:=by
 intro ds
 induction ds with
 | nil =>
  intro xs ys vs us b h hx hy hk;have h0:=bK hk;have h1:=hx.1;have:xs=[]:=T5 (by grind);subst this;cases ys with
  |nil=>have h2:=hy.1;grind
  |cons y ys=>cases h
 | cons d ds ih =>
  intro xs ys vs us b h hx hy hk;cases vs with
  |nil=>cases hk
  | cons v vs =>
   cases xs with
   |nil=>have:=hx.1;grind
   | cons x xs =>
    cases ys with
    |nil=>cases h
    | cons y ys =>
     cases us with
     |nil=>have:=hy.1;grind
     | cons u us =>
      obtain⟨x1,x2⟩:=hx.tail;obtain⟨y1,y2⟩:=hy.tail;simp only[aV,Ts]at hk;simp only[eF]at h
      split at h
      ·rename_i p q hp hq;simp only[aV,Ts]
       grind[yz]
      grind
theorem vP{kt:TypeId}(h:eg C.P kt=false)(x:Value):mkV C.P kt [x]=x:=by grind[mkV]
theorem AI{kt:TypeId}{k k':AV}{v v':Value}{b:Bool}(hk:By C.P kt k v)(h:lE k k'=some b)(h1:RV w γ A bd k v)(h2:RV w γ A bd k' v') :
  By C.P kt k' v'/\(Op.equal kt v v').run C.P w=.ok b w/\(eg C.P kt=false->∀kd,C.P.underlying kt=some kd->Instr.sameNow kd v v'=some b):=by
 obtain⟨d,ds,hd,hfl,hkv,hmk,hag⟩:=hk;cases hg:eg C.P kt with
 | true =>
  obtain⟨xs,rfl⟩:=hag.1 hg;obtain⟨ys,rfl⟩:∃ys,k'=.agg ys:=by cases k'<;>first|exact⟨_,rfl⟩| (cases h;done)
  change eF xs ys=some b at h;obtain⟨vs,rfl,hv⟩:=wh h1;obtain⟨us,rfl,hu⟩:=wh h2;have hkv':aV ds us.toList=true:=uD h hv hu hkv;have he:=DT (P:=C.P) (10000 - d) d kt ds hfl w vs.toList us.toList hkv hkv';have hm:∀zs:Array Value,mkV C.P kt zs.toList=.agg zs:=by intro zs;unfold mkV;rw[hg];simp
  rw[show 10000 - d+d=9999+1 from by omega,hm,hm,vo h hv hu]at he;refine⟨⟨d,ds,hd,hfl,hkv',(hm us).symm,by simp[hg]⟩,he,λh=>by cases h⟩
 | false =>
  have hna:∀xs,k≠.agg xs:=λxs e=>by grind
  have hna':∀xs,k'≠.agg xs:=by rintro xs rfl;cases k<;>first| (cases h;done)|grind
  have h':oS k k'=some b:=by cases k<;>first| (exact absurd rfl (hna _))| (cases k'<;>first| (exact absurd rfl (hna' _))|exact h)
  obtain⟨kd,hu,hone⟩:=hZ hfl;have h1len:=hone hg;obtain⟨d0,rfl⟩:∃d0,ds=[d0]:=by
   match ds,h1len with
   |[d0],_=>grind
  have hv1:v.cells.toList=[v]:=by cases h1<;>first|rfl|grind
  have hv1':v'.cells.toList=[v']:=by
   cases h1<;>try (cases h';done)
   all_goals cases h2<;>first|rfl|grind
  rw[hv1]at hkv;simp only[aV,Vy]at hkv;have hkv':=yz h' h1 h2 hkv;have he:=DT (P:=C.P) (10000 - d) d kt [d0] hfl w [v] [v'] (by grind[aV]) (by grind[aV]);rw[show 10000 - d+d=9999+1 from by omega,vP hg,vP hg]at he;simp only[nW,Vy,xM h' h1 h2]at he;refine⟨⟨d,[d0],hd,hfl,by grind[aV],by grind[vP],?_⟩,he,λ_ kd' hu'=>?_⟩
  ·grind
  ·have e1:=xM h' h1 h2;have:d0=kd':=by
    cases d with
    |zero=>cases hfl
    | succ d =>
     unfold nD at hfl;rw[hu']at hfl;have hgd:=(eh hu').1;rw[hg]at hgd;cases kd'<;>simp[pq]at hgd<;>simp only[aa]at hfl<;>split at hfl<;>first| (grind)| (grind)
   subst this;cases h1<;>try (cases h';done)
   all_goals cases h2<;>try (cases h';done)
   ·cases d0<;>simp[gO]at hkv<;>grind[Instr.sameNow,eqV]
   ·cases d0<;>simp[gO]at hkv hkv'<;>grind[Instr.sameNow,eqV]
   ·cases d0<;>simp[gO]at hkv<;>grind[Instr.sameNow,eqV]
end
end Hx
end
section
namespace Hx
open Go
section
variable {C:Cfg}{A:Nat->Nat->Prop}{bd:Nat}{w w':World}{γ γ':Gm}{hg:Nat->AObj}{nx:Nat}
theorem Ip(s1 s2:ByteArray):(s1 == s2)=decide (s1=s2):=by
 obtain⟨⟨x⟩⟩:=s1;obtain⟨⟨y⟩⟩:=s2;show ((⟨x⟩:Array UInt8) == ⟨y⟩)=_
 grind
theorem J0:∀{ds:List TypeDesc} {xs ys:List Value},aV ds xs=true->aV ds ys=true->nW xs ys=true->xs=ys:=by
 intro ds
 induction ds with
 |nil=>intro xs ys h1 h2 _;rw[T5 (bK h1),T5 (bK h2)]
 | cons d ds ih =>
  intro xs ys h1 h2 h;cases xs with
  |nil=>cases h1
  | cons x xs=>cases ys with
   |nil=>cases h2
   | cons y ys =>
    simp only[aV,nW,Ts]at h1 h2 h;rw[ih h1.2 h2.2 h.2];congr 1;cases d<;>cases x<;>simp[gO]at h1<;>cases y<;>simp[gO]at h2<;>simp[eqV,Ip]at h<;>simp_all
theorem B9{ds:List TypeDesc}{v:Value}(hk:aV ds v.cells.toList=true):Instr.sameBits 10000 v v=true:=by
 have one:∀(d:TypeDesc) (x:Value),gO d x=true->∀n,Instr.sameBits n x x=true:=by intro d x h n;cases d<;>cases x<;>simp[gO]at h<;>cases n<;>simp[Instr.sameBits,Ip]
 have all:∀(ds:List TypeDesc) (xs:List Value),aV ds xs=true->((xs.zip xs).all λ(x,y)=>Instr.sameBits 9999 x y)=true:=by
  intro ds
  induction ds with
  |nil=>intro xs h;rw[T5 (bK h)];rfl
  | cons d ds ih =>
   intro xs h;cases xs with
   |nil=>rfl
   | cons x xs =>
    simp only[aV,Ts]at h;simp only[Vl,List.all_cons,Ts]
    grind
 by_cases h:∃a,v=.agg a
 ·obtain⟨a,rfl⟩:=h;have:=all ds a.toList hk;simp_all[Instr.sameBits]
 ·have hc:v.cells.toList=[v]:=by cases v<;>first|rfl|grind
  rw[hc]at hk;cases ds with
  |nil=>cases hk
  |cons d ds=>simp only[aV,Ts]at hk;grind
theorem AJ{kt:TypeId}{k k':AV}{v v':Value}(hk:By C.P kt k v)(h:lE k k'=some true)(h1:RV w γ A bd k v)(h2:RV w γ A bd k' v'):v'=v:=by
 obtain⟨h3,h4,_⟩:=AI (w:=w) hk h h1 h2;obtain⟨d,ds,e1,e2,e3,e4,e5⟩:=hk;obtain⟨d',ds',f1,f2,f3,f4,f5⟩:=h3;have hc:eF k.cells k'.cells=some true:=by
  cases k<;>try (cases h;done)
  all_goals cases k'<;>try (cases h;done)
  all_goals grind[lE,AV.cells,eF]
 have t1:k.isTup=false:=by
  cases k<;>try rfl
  cases k'<;>cases h
 have t2:k'.isTup=false:=by
  cases k<;>try (cases h;done)
  all_goals cases k'<;>first|rfl| (cases h;done)
 have r1:=(pF h1 t1).1;have r2:=(pF h2 t2).1;rw[e4,f4,J0 e3 (uD hc r1 r2 e3) (vo hc r1 r2)]
theorem qc{P:Program}{ds:List TypeDesc}{v:Value}(hk:aV ds v.cells.toList=true):(Instr.keyThatStays v v).run P w=.ok v w:=by unfold Instr.keyThatStays;rw[B9 hk];rfl
def EsRel(w:World)(γ:Gm)(A:Nat->Nat->Prop)(bd:Nat)(es:List (AV×AV))(l:List MapEntry):Prop :=
 es.length=l.length/\∀(i:Nat) k x e,es[i]?=some (k,x)->l[i]?=some e->RV w γ A bd k e.key/\RV w γ A bd x e.val
theorem EsRel.tail{p:AV×AV}{es:List (AV×AV)}{e:MapEntry}{l:List MapEntry}(h:EsRel w γ A bd (p::es) (e::l)) :
  RV w γ A bd p.1 e.key/\RV w γ A bd p.2 e.val/\EsRel w γ A bd es l:=by
 obtain⟨h1,h2⟩:=h.2 0 p.1 p.2 e rfl rfl;exact⟨h1,h2,by have:=h.1;grind,λi k x e hi he=>h.2 (i+1) k x e (by grind) (by grind)⟩
def Ce(k:AV)(es:List (AV×AV))(l:List MapEntry)(i0:Nat)(r:Option (Nat×AV))(R:Option (Nat×Value)):Prop :=
 match r with
 |none=>R=none
 |some (i,x)=>∃j k' e,i=i0+j/\es[j]?=some (k',x)/\l[j]?=some e/\lE k k'=some true/\R=some (i,e.val)
theorem LR{kt:TypeId}{kd:TypeDesc}{k:AV}{v:Value}(hu:C.P.underlying kt=some kd)(hk:By C.P kt k v)(h1:RV w γ A bd k v) :
  ∀(es:List (AV×AV)) (l:List MapEntry) (i:Nat) (r:Option (Nat×AV)),jz k i es=some r->EsRel w γ A bd es l ->
   ∃R,Ce k es l i r R/\(Instr.findAsking kt v l i).run C.P w=.ok R w/\(eg C.P kt=false->Instr.findNow kd v l i=some R):=by
 intro es
 induction es with
 | nil =>
  intro l i r h hes;have:=hes.1;have:l=[]:=T5 (by grind);subst this;simp only[jz]at h;injection h with h;subst h;exact⟨none,rfl,rfl,λ_=>rfl⟩
 | cons p es ih =>
  intro l i r h hes;cases l with
  |nil=>have:=hes.1;grind
  | cons e l =>
   obtain⟨k',x⟩:=p;obtain⟨e1,e2,e3⟩:=hes.tail;simp only[jz]at h
   split at h
   ·rename_i hq;injection h with h;subst h;obtain⟨_,q2,q3⟩:=AI hk hq h1 e1;refine⟨some (i,e.val),⟨0,k',e,rfl,rfl,rfl,hq,rfl⟩,?_,λhg=>?_⟩
    all_goals simp_all[Instr.findAsking,Instr.findNow]
   ·rename_i hq;obtain⟨_,q2,q3⟩:=AI hk hq h1 e1;obtain⟨R,r1,r2,r3⟩:=ih l (i+1) r h e3;refine⟨R,?_,?_,λhg=>?_⟩
    ·unfold Ce at r1 ⊢;cases r with
     |none=>exact r1
     | some p =>
      obtain⟨j,k'',e',f1,f2,f3,f4,f5⟩:=r1;exact⟨j+1,k'',e',by omega,by grind,by grind,f4,f5⟩
    all_goals simp_all[Instr.findAsking,Instr.findNow]
   grind
theorem tk{kt:TypeId}{kd:TypeDesc}{k:AV}{v:Value}(hu:C.P.underlying kt=some kd)(hk:By C.P kt k v)(h1:RV w γ A bd k v)
  {es:List (AV×AV)} {l:List MapEntry} {r:Option (Nat×AV)} (h:jz k 0 es=some r) (hes:EsRel w γ A bd es l) :
  ∃R,Ce k es l 0 r R/\(Instr.findKey kt v l).run C.P w=.ok R w:=by
 obtain⟨R,r1,r2,r3⟩:=LR hu hk h1 es l 0 r h hes;refine⟨R,r1,?_⟩;unfold Instr.findKey;simp only[T0,aH hu,TN];cases hg:eg C.P kt with
 |false=>simp_all
 | true =>
  cases l with
  |nil=>simp only[Instr.findNow];exact r2
  | cons e l =>
   have:Instr.sameNow kd v e.key=none:=by have:=(eh hu).1;rw[hg]at this;cases kd<;>simp[pq]at this<;>rfl
   grind[Instr.findNow]
theorem LQ(k:AV):∀(es:List (AV×AV)) (i:Nat) (r:Option AV),pZ k es=some r->∃q,jz k i es=some q/\r=q.map (·.2):=by
 intro es
 induction es with
 |nil=>intro i r h;simp only[pZ]at h;injection h with h;subst h;exact⟨none,rfl,rfl⟩
 | cons p es ih =>
  intro i r h;obtain⟨k',x⟩:=p;simp only[pZ]at h;simp only[jz]
  split at h<;>simp_all
theorem OW(k x:AV):∀(es es':List (AV×AV)) (i:Nat),Gk k x es=some es'->∃q,jz k i es=some q /\
  match q with
  |none=>es'=es++[(k,x)]
  |some (n,_)=>∃j,n=i+j/\es'=es.set j (k,x):=by
 intro es
 induction es with
 |nil=>intro es' i h;simp only[Gk]at h;injection h with h;subst h;exact⟨none,rfl,rfl⟩
 | cons p es ih =>
  intro es' i h;obtain⟨k',y⟩:=p;simp only[Gk]at h;simp only[jz]
  split at h
  ·grind
  ·rename_i hq
   split at h
   ·rename_i r hr;injection h with h;subst h;obtain⟨q,q1,q2⟩:=ih r (i+1) hr;refine⟨q,q1,?_⟩;cases q with
    |none=>grind
    | some p =>
     obtain⟨j,j1,j2⟩:=q2;exact⟨j+1,by omega,by grind⟩
   grind
  grind
theorem Dm{t:TypeId}{z:AV}(h:uX C.P t=some z):∃v,(zeroValue t).run C.P w=.ok v w/\RV w γ A bd z v:=by
 unfold uX at h;cases hi:C.P.info? t with
 |none=>grind
 | some i =>
  rw[hi]at h;cases hz:i.zero with
  |none=>grind
  | some v =>
   simp only[Vc,hz]at h;refine⟨v,by simp_all[zeroValue,lI],?_⟩
   split at h
   ·rename_i cs;cases hq:AX cs.toList with
    |none=>grind
    | some as =>
     rw[hq]at h;injection h with h;subst h;obtain⟨r1,r2⟩:=oD (w:=w) (γ:=γ) (A:=A) (bd:=bd) hq;exact .agg _ as cs (by simpa using r1.1) r2 λi x v hx hv=>r1.2 i x v hx (by grind)
   grind[Hz]
theorem AM(hr:Rel C A bd w γ hg nx){id:Nat}{es:List (AV×AV)}(hid:hg id=.map es) :
  (γ id).kind=2/\(γ id).wr=true/\∃esC:Array MapEntry,w.heap[(γ id).blk]?=some (.map esC esC.size)/\EsRel w γ A bd es esC.toList/\∀(i:Nat) e,esC[i]?=some e->e.born=i:=by
 have hob:=hr.obj id;rw[hid]at hob;obtain⟨k1,k2,esC,k3,k4,k5⟩:=hob;refine⟨k1,k2,esC,k3,⟨by omega,λi k x e hi he=>(k5 i k x e hi (by grind)).2⟩,λi e he=>?_⟩;have hlt:i<es.length:=by grind
 exact (k5 i (es[i]).1 (es[i]).2 e (by grind) he).1
theorem Ho{ty kt et:TypeId}{z:AV}{ok:Bool}{m k:T->AV}{t:T}{g:G}{vm vk:Value}(hr:Rel C A bd w γ hg nx)
  (hu:C.P.underlying ty=some (.map kt et)) (hz:uX C.P et=some z) (hm:RV w γ A bd (m t) vm) (hk:RV w γ A bd (k t) vk) (agree:∀id∈ak (m t),hg id=g.h.get id) :
  ValSim C A bd w γ (Instr.lookup ty vm vk ok) (cp (dg C.P kt) z ok m k t g):=by
 unfold cp;generalize m t=m at *;generalize k t=k at *;rw[aa]
 split
 ·rename_i hko;have hkv:=Hl hko hk;obtain⟨kd,hukt⟩:∃kd,C.P.underlying kt=some kd:=by obtain⟨d,ds,_,hfl,_⟩:=hkv;obtain⟨kd,h,_⟩:=hZ hfl<;>grind
  obtain⟨zv,z1,z2⟩:=Dm (w:=w) (γ:=γ) (A:=A) (bd:=bd) hz;have core:∀(es:List (AV×AV)) (l:Array MapEntry),EsRel w γ A bd es l.toList ->
    (vm=.map none/\l=#[]\/∃r n,vm=.map (some r)/\(getObj r).run C.P w=.ok (.map l n) w) ->
    ValSim C A bd w γ (Instr.lookup ty vm vk ok) (match pZ k es with
     |some (some v)=>.val (aA ok (.tup [v,.bool true]) v)
     |some none=>.val (aA ok (.tup [z,.bool false]) z)
     |none=>.fail):=by
   intro es l hes hrun;cases hf:pZ k es with
   |none=>trivial
   | some r =>
    obtain⟨q,q1,q2⟩:=LQ k es 0 r hf;obtain⟨R,r1,r2⟩:=tk hukt hkv hk q1 hes;have hck:∀em,(Instr.checkKey em 10000 kt vk).run C.P w=.ok () w:=by
     intro em;obtain⟨d,ds,hd,hfl,hks,hmk,_⟩:=hkv;have:=Au (P:=C.P) em (10000 - d) d kt ds hfl w _ hks
     grind
    have tup:∀(x:AV) (u:Value) (b:Bool),RV w γ A bd x u->RV w γ A bd (aA ok (.tup [x,.bool b]) x) (if ok then .tuple #[u,.bool b] else u):=by
     intro x u b hx;cases ok
     ·exact hx
     ·refine .tup _ _ _ rfl λi y v hy hv=>?_
      match i with
      |0=>grind
      |1=>simp at hy hv;subst hy;subst hv;exact .bool _ _
      |i+2=>grind
    have hmain:(Instr.lookup ty vm vk ok).run C.P w =
      ((do let (v,okk) <-match R with
            |some (_,v)=>pure (v,true)
            |none=>pure (<-zeroValue et,false)
           pure (if ok then .tuple #[v,.bool okk] else v):Sem Value)).run C.P w:=by
     unfold Instr.lookup;simp only[T0,aH hu,TN];rcases hrun with⟨rfl,rfl⟩|⟨r',n,rfl,hrun⟩
     all_goals grind[T0,TN]
    cases q with
    | none =>
     simp only[Ce]at r1;subst r1;simp only[Option.map_none]at q2;subst q2;exact⟨_,by simp_all,tup z zv false z2⟩
    | some p =>
     obtain⟨i,x⟩:=p;obtain⟨j,k',e,f1,f2,f3,f4,f5⟩:=r1;subst f5;simp only[TQ]at q2;subst q2;exact⟨_,by simp_all,tup x e.val true (hes.2 j k' x e f2 f3).2⟩
  cases hm with
  |nilm=>exact core [] #[] ⟨rfl,λi k x e h=>by simp at h⟩ (by grind)
  | hmap _ id b hkd hb =>
   have hagree:=agree id (by simp[ak]);simp only[G.get_eq,<-hagree];cases hid:hg id with
   | map es =>
    obtain⟨k1,k2,esC,k3,k4,k5⟩:=AM hr hid;subst hb;exact core es esC k4 (.inr ⟨_,_,rfl,fJ k3 (by simp)⟩)
   |_=>trivial
  |_=>trivial
 ·trivial
theorem sA{kt:TypeId}{k:AV}{v:Value}(h:By C.P kt k v)(em:Bool):(Instr.checkKey em 10000 kt v).run C.P w=.ok () w:=by
 obtain⟨d,ds,hd,hfl,hks,hmk,_⟩:=h;have:=Au (P:=C.P) em (10000 - d) d kt ds hfl w _ hks
 grind
theorem IR{kt:TypeId}{k:AV}{v:Value}(h:By C.P kt k v):∃kd,C.P.underlying kt=some kd:=by obtain⟨d,ds,_,hfl,_⟩:=h;obtain⟨kd,h,_⟩:=hZ hfl<;>grind
theorem Rel.setMap(hr:Rel C A bd w γ hg nx){id:Nat}{es es':List (AV×AV)}{esC':Array MapEntry}(hid:hg id=.map es)(hl:es'.length=esC'.size)
  (he:∀(i:Nat) k x e,es'[i]?=some (k,x)->esC'[i]?=some e->e.born=i/\RV w γ A bd k e.key/\RV w γ A bd x e.val) :
  Rel C A bd (World.setBlk w (γ id).blk (.map esC' esC'.size)) γ (upd hg id (.map es')) nx/\Stp w γ (World.setBlk w (γ id).blk (.map esC' esC'.size)) γ:=by
 obtain⟨k1,k2,_⟩:=AM hr hid;have hk:(γ id).kind≠0:=by omega
 have s:=uk (w:=w) (o:=.map esC' esC'.size) hk k2;refine hr.setBlk hk k2 ⟨k1,k2,esC',?_,hl,λi k x e h1 h2=>?_⟩
 ·rw[bm,TE ⟨rfl,(hr.lt id hk).2⟩]
 grind[RV.step]
theorem uQ{ty kt et:TypeId}{m k x:T->AV}{t:T}{g:G}{vm vk vx:Value}(hr:Rel C A bd w γ hg nx)
  (hu:C.P.underlying ty=some (.map kt et)) (hm:RV w γ A bd (m t) vm) (hk:RV w γ A bd (k t) vk) (hx:RV w γ A bd (x t) vx) (agree:∀id∈ak (m t),hg id=g.h.get id) :
  di C A bd w γ hg nx (do Instr.mapUpdate ty vm vk vx;pure undef) g (ck (dg C.P kt) m k x t g):=by
 unfold ck;generalize m t=m at *;generalize k t=k at *;generalize x t=x at *;rw[aa]
 split
 ·rename_i hko;have hkv:=Hl hko hk;obtain⟨kd,hukt⟩:=IR hkv;cases hm with
  | hmap _ id b hkd hb =>
   have hagree:=agree id (by simp[ak]);simp only[G.get_eq,<-hagree];cases hid:hg id with
   | map es =>
    dsimp only;cases hs:Gk k x es with
    |none=>trivial
    | some es' =>
     dsimp only;obtain⟨k1,k2,esC,k3,k4,k5⟩:=AM hr hid;obtain⟨q,q1,q2⟩:=OW k x es es' 0 hs;obtain⟨R,r1,r2⟩:=tk hukt hkv hk q1 k4;subst hb;have hrun:∀esC',(match R with
       | some (i,_)=>do
        let key <-Instr.keyThatStays (((esC[i]?).map (·.key)).getD vk) vk
        setObj (γ id).blk (.map (esC.modify i λe=>{ e with key,val:=vx }) esC.size)
       |none=>setObj (γ id).blk (.map (esC.push { key:=vk,val:=vx,born:=esC.size }) (esC.size+1)):Sem Unit).run C.P w=.ok () (World.setBlk w (γ id).blk (.map esC' esC'.size)) ->
       (do Instr.mapUpdate ty (.map (some (γ id).blk)) vk vx;pure undef:Sem Value).run C.P w=.ok undef (World.setBlk w (γ id).blk (.map esC' esC'.size)):=by
      intro esC' h;have:(Instr.mapUpdate ty (.map (some (γ id).blk)) vk vx).run C.P w=.ok () (World.setBlk w (γ id).blk (.map esC' esC'.size)):=by unfold Instr.mapUpdate;simp only[T0,aH hu,TN,fJ k3 (by simp),sA hkv,r2];exact h
      simp_all
     have hlen:es.length=esC.size:=by simpa using k4.1
     cases q with
     | none =>
      simp only[Ce]at r1;subst r1;simp only at q2;subst q2;have hnew:=hr.setMap (es':=es++[(k,x)]) (esC':=esC.push { key:=vk,val:=vx,born:=esC.size }) hid (by grind) (λi k' x' e h1 h2=>by
       rw[Array.getElem?_push]at h2;rw[Vo]at h1
       split at h2
       ·grind
       ·have hlt:i<esC.size:=(by grind);rw[TE (by omega)]at h1;exact⟨k5 i e h2,k4.2 i k' x' e h1 (by grind)⟩)
      refine⟨undef,_,γ,id,_,hrun _ ?_,dH,hnew.2,.inl ⟨rfl,hnew.1⟩⟩
      grind[ii]
     | some p =>
      obtain⟨n,y⟩:=p;obtain⟨j,k',e,f1,f2,f3,f4,f5⟩:=r1;obtain⟨j',j1,j2⟩:=q2;have:j'=j:=by omega
      subst this;subst f1;subst f5;subst j2;have f3':esC[j']?=some e:=by grind
      have hsame:=AJ hkv f4 hk (k4.2 j' k' y e f2 f3).1;have hnew:=hr.setMap (es':=es.set j' (k,x)) (esC':=esC.modify (0+j') λe=>{ e with key:=vk,val:=vx }) hid (by grind) (λi k' x' e' h1 h2=>by
       rw[T6]at h2;rw[VL]at h1;rw[Array.getElem?_modify]at h2
       split at h1
       ·grind
       ·rename_i hi;rw[TF hi]at h2;exact⟨k5 i e' h2,k4.2 i k' x' e' h1 (by grind)⟩)
      refine⟨undef,_,γ,id,_,hrun _ ?_,dH,hnew.2,.inl ⟨rfl,hnew.1⟩⟩;obtain⟨d,ds,_,_,hks,_⟩:=hkv;simp only[T6,f3',TQ,Tq,hsame,T0,qc hks,TN,Array.size_modify]
      grind[ii]
   |_=>trivial
  |_=>trivial
 ·trivial
theorem D4{ty kt et:TypeId}{z:AV}{m k:T->AV}{t:T}{g:G}{vm vk:Value}(hr:Rel C A bd w γ hg nx)
  (hu:C.P.underlying ty=some (.map kt et)) (hz:uX C.P et=some z) (hm:RV w γ A bd (m t) vm) (hk:RV w γ A bd (k t) vk) (agree:∀id∈ak (m t),hg id=g.h.get id) :
  di C A bd w γ hg nx (Instr.mapEntry ty vm vk) g (fZ (dg C.P kt) z m k t g):=by
 unfold fZ;generalize m t=m at *;generalize k t=k at *;rw[aa]
 split
 ·rename_i hko;have hkv:=Hl hko hk;obtain⟨kd,hukt⟩:=IR hkv;obtain⟨zv,z1,z2⟩:=Dm (w:=w) (γ:=γ) (A:=A) (bd:=bd) hz;have tup:∀{w:World} {γ:Gm} (x:AV) (u:Value) (n:Nat),RV w γ A bd x u->RV w γ A bd (.tup [x,.int .i64 (.ofNat n)]) (.tuple #[u,goInt (n:Int)]):=by
   intro w γ x u n hx;refine .tup _ _ _ rfl λi y v hy hv=>?_
   match i with
   |0=>grind
   |1=>simp at hy hv;subst hy;subst hv;exact .int _ _ _
   |i+2=>grind
  cases hm with
  | hmap _ id b hkd hb =>
   have hagree:=agree id (by simp[ak]);simp only[G.get_eq,<-hagree];cases hid:hg id with
   | map es =>
    dsimp only;cases q1:jz k 0 es with
    |none=>trivial
    | some q =>
     obtain⟨k1,k2,esC,k3,k4,k5⟩:=AM hr hid;obtain⟨R,r1,r2⟩:=tk hukt hkv hk q1 k4;subst hb;have hlen:es.length=esC.size:=by simpa using k4.1
     cases q with
     | none =>
      simp only[Ce]at r1;subst r1;dsimp only;have hnew:=hr.setMap (es':=es++[(k,z)]) (esC':=esC.push { key:=vk,val:=zv,born:=esC.size }) hid (by grind) (λi k' x' e h1 h2=>by
       rw[Array.getElem?_push]at h2;rw[Vo]at h1
       split at h2
       ·rename_i hi;subst hi;rw[TF (by omega),hlen,UB]at h1
        grind
       ·have hlt:i<esC.size:=(by grind);rw[TE (by omega)]at h1;exact⟨k5 i e h2,k4.2 i k' x' e h1 (by grind)⟩)
      refine⟨.tuple #[zv,goInt esC.size],_,γ,id,_,?_,?_,hnew.2,.inl ⟨rfl,hnew.1⟩⟩
      ·unfold Instr.mapEntry;simp only[T0,aH hu,TN,fJ k3 (by simp),sA hkv,r2,z1];have:(setObj (γ id).blk (.map (esC.push { key:=vk,val:=zv,born:=esC.size }) (esC.size+1))).run C.P w=.ok () (World.setBlk w (γ id).blk (.map (esC.push { key:=vk,val:=zv,born:=esC.size }) (esC.size+1))):=ii k3 (by simp);simp_all
      grind[ax,RV.step]
     | some p =>
      obtain⟨n,y⟩:=p;obtain⟨j,k',e,f1,f2,f3,f4,f5⟩:=r1;subst f1;subst f5;dsimp only;have f3':esC[j]?=some e:=by grind
      have hsame:=AJ hkv f4 hk (k4.2 j k' y e f2 f3).1;have hmod:(esC.modify j λe=>{ e with key:=vk })=esC:=by
       apply Array.ext_getElem?;intro i;rw[Array.getElem?_modify]
       split
       ·rename_i hi;subst hi;rw[f3',<-hsame];rfl
       ·rfl
      have hkv2:=hkv;obtain⟨d,ds,_,_,hks,_⟩:=hkv2;refine⟨.tuple #[e.val,goInt j],?_,?_⟩
      ·unfold Instr.mapEntry;simp only[T0,aH hu,TN,fJ k3 (by simp),sA hkv,r2,T6,f3',TQ,Tq,hsame,qc hks,hmod,k5 j e f3'];have hset:(setObj (γ id).blk (.map esC esC.size)).run C.P w=.ok () w:=by
        rw[ii k3 (by simp)];congr 1;have hlt:(γ id).blk<w.heap.size:=(by grind);unfold World.setBlk;congr 1;apply Array.ext_getElem?;intro q;rw[Array.getElem?_setIfInBounds]
        split<;>grind
       simp[hset]
      ·rw[T6];exact tup _ _ _ (k4.2 j k' y e f2 f3).2
   |_=>trivial
  |_=>trivial
 ·trivial
theorem Ab{ty:TypeId}{m st x:T->AV}{t:T}{g:G}{vm vs vx:Value}(hr:Rel C A bd w γ hg nx)
  (hm:RV w γ A bd (m t) vm) (hs:RV w γ A bd (st t) vs) (hx:RV w γ A bd (x t) vx) (agree:∀id∈ak (m t),hg id=g.h.get id) :
  di C A bd w γ hg nx (do Instr.entryStore ty vm vs vx;pure undef) g (ip m st x t g):=by
 unfold ip;generalize m t=m at *;generalize st t=st at *;generalize x t=x at *;cases hm with
 | hmap _ id b hkd hb =>
  have hagree:=agree id (by simp[ak]);simp only[G.get_eq,<-hagree];cases hid:hg id with
  | map es =>
   dsimp only;cases hs with
   | int _ kk n =>
    cases n with
    |negSucc n=>trivial
    | ofNat i =>
     simp only[dB];cases hi:es[i]? with
     |none=>trivial
     | some p =>
      obtain⟨k,y⟩:=p;dsimp only;obtain⟨k1,k2,esC,k3,k4,k5⟩:=AM hr hid;subst hb;have hlen:es.length=esC.size:=by simpa using k4.1
      have hlt:i<esC.size:=by grind
      have hfind:esC.findIdx? (λe=>(e.born:Int) == (Int.ofNat i))=some i:=by
       rw[Array.findIdx?_eq_some_iff_getElem];refine⟨hlt,?_,λj hj=>?_⟩
       ·rw[k5 i esC[i] (T7 hlt)];simp
       ·have hj':j<esC.size:=by omega
        rw[k5 j esC[j] (T7 hj')]
        grind
      have hnew:=hr.setMap (es':=Gn i (k,x) es) (esC':=esC.modify i λe=>{ e with val:=vx }) hid (by grind[f8]) (λi' k' x' e' h1 h2=>by
       rw[f8,VL]at h1;rw[Array.getElem?_modify]at h2
       split at h1
       ·rename_i hi';subst hi';rw[TE rfl,T7 hlt]at h2
        split at h1
        ·simp at h1 h2;obtain⟨rfl,rfl⟩:=h1;subst h2;exact⟨k5 i esC[i] (T7 hlt),(k4.2 i k y esC[i] hi (by grind)).1,hx⟩
        omega
       ·rename_i hi';rw[TF hi']at h2;exact⟨k5 i' e' h2,k4.2 i' k' x' e' h1 (by grind)⟩)
      refine⟨undef,_,γ,id,_,?_,dH,hnew.2,.inl ⟨rfl,hnew.1⟩⟩;have hset:=ii (P:=C.P) (o':=.map (esC.modify i λe=>{ e with val:=vx }) esC.size) k3 (by simp);have:(Instr.entryStore ty (.map (some (γ id).blk)) (.int kk (Int.ofNat i)) vx).run C.P w=.ok () (World.setBlk w (γ id).blk (.map (esC.modify i λe=>{ e with val:=vx }) esC.size)):=by simp_all[Instr.entryStore,asInt,asIntOf,fJ]
      simp_all
   |_=>trivial
  |_=>trivial
 |_=>trivial
end
end Hx
end
section
namespace Hx
open Go
section
variable {C:Cfg}{A:Nat->Nat->Prop}{bd:Nat}{w w':World}{γ γ':Gm}{hg:Nat->AObj}{nx:Nat}
theorem OpSim.ofUpd{o:Oper}{ev:Operand->Value}{g:G}{m:Sem Value}{r:OR}(he:execOp ev o=(do pure (.value (<-m))))(h:di C A bd w γ hg nx m g r) :
  OpSim C A bd w γ hg nx o ev g r:=by
 have run:∀{v:Value} {w':World},m.run C.P w=.ok v w'->EB C.P o ev w v w':=by intro v w' h;left;simp_all
 cases r with
 |fail=>trivial
 |val x=>obtain⟨v,h1,h2⟩:=h;exact⟨v,run h1,h2⟩
 |upd x g'=>obtain⟨v,w',γ',id,ob,h1,h2⟩:=h;exact⟨v,w',γ',id,ob,run h1,h2⟩
 |dfr a=>exact h
theorem OpSim.ofUnit{o:Oper}{ev:Operand->Value}{g:G}{s:Sem Unit}{r:OR}(he:execOp ev o=(do s;pure .skip))(h:di C A bd w γ hg nx (do s;pure undef) g r) :
  OpSim C A bd w γ hg nx o ev g r:=by
 have run:∀{v:Value} {w':World},(do s;pure undef:Sem Value).run C.P w=.ok v w'->EB C.P o ev w v w':=by intro v w' h;right;rw[he];simp only[T0,UT]at h ⊢;cases hs:s.run C.P w<;>simp_all
 cases r with
 |fail=>trivial
 |val x=>obtain⟨v,h1,h2⟩:=h;exact⟨v,run h1,h2⟩
 |upd x g'=>obtain⟨v,w',γ',id,ob,h1,h2⟩:=h;exact⟨v,w',γ',id,ob,run h1,h2⟩
 |dfr a=>exact h
theorem ValSim.upd{m:Sem Value}{g:G}{r:OR}(h:ValSim C A bd w γ m r):di C A bd w γ hg nx m g r:=by
 cases r with
 |fail=>trivial
 |val x=>exact h
 |upd x g'=>exact h.elim
 |dfr a=>exact h.elim
theorem OpSim.ofVal{o:Oper}{ev:Operand->Value}{g:G}{m:Sem Value}{r:OR}(he:execOp ev o=(do pure (.value (<-m))))(h:ValSim C A bd w γ m r) :
  OpSim C A bd w γ hg nx o ev g r:=.ofUpd he h.upd
theorem OpSim.now{o:Oper}{ev:Operand->Value}{g:G}{x:AV}{v:Value}(he:(execOp ev o).run C.P w=.ok (.value v) w)(h:RV w γ A bd x v) :
  OpSim C A bd w γ hg nx o ev g (.val x):=⟨v,.inl he,h⟩
noncomputable def bC(C:Cfg)(op:Op)(t:T)(g:G):List Nat:=((aP C op).run t g).rd++((aP C op).run t g).sr.map (·.1)
theorem O4{op:UnOp}{x:AV}{v:Value}(hx:RV w γ A bd x v):ValSim C A bd w γ (Op.unary op v) ((unA op).run x):=by
 cases op
 case not =>
  cases hx with
  |bool _ b=>exact⟨.bool (!b),by simp[Op.unary],by rw[notb_eq];exact .bool _ _⟩
  |_=>trivial
 all_goals
  cases hx with
  |int _ k n=>exact oE λy hy=>kA hy C.P w
  |_=>trivial
theorem Hv{g:G}{P:Program}(hr:Rel C A bd w γ hg nx)(hf:(γ g.nx).kind=0) :
  di C A bd w γ hg nx (do pure (.map (some (<-newObj (.map #[] 0))))) g (.upd (.hmap g.nx) (g.new (.map []))):=by
 let gh:Gh:=⟨2,0,0,0,w.heap.size,0,0,true⟩
 obtain⟨r,s⟩:=hr.add (id:=g.nx) (gh:=gh) (o:=.map #[] 0) (ao:=.map []) (nx':=Nat.max nx (g.nx+1)) hf rfl (UM _ _) (by grind) (by
  simp only[ObjRel,upd_same];exact⟨rfl,rfl,#[],by grind[kW],rfl,(by grind)⟩)
 refine⟨.map (some w.heap.size),World.add w (.map #[] 0),_,g.nx,_,by simp_all[World.add],?_,s,.inr ⟨rfl,rfl,r⟩⟩;exact .hmap _ g.nx _ (by simp[gh]) (by simp[gh])
theorem HE:∀{fs:List Field} {places:List (Nat×Nat)},aK (λf:Field=>match szT C.P f.type with|some n=>some (f.offset,n)|none=>none) fs=some places ->
  (fs.mapM λf=>do pure (f.offset,<-Go.sizeOf f.type):Sem (List (Nat×Nat))).run C.P w=.ok places w:=by
 intro fs
 induction fs with
 |nil=>simp_all[aK]
 | cons f fs ih =>
  intro places h;simp only[aK]at h
  split at h
  ·rename_i p hp
   split at h
   ·rename_i ps hps;injection h with h;subst h
    split at hp
    all_goals simp_all[bc]
   grind
  grind
variable {o:Oper}{op:Op}{a:Act}{nt:Nat}{t:T}{g:G}{f:Stg SFn}
theorem sC{ty e:TypeId}(he:l9 C.P ty=some e):C.P.underlying ty=some (.slice e):=by
 grind[l9]
theorem EN{b:Builtin}{argTypes:Array TypeId}{args:List Operand}{ty:TypeId}{consts:Array Bool}(h:dt C b argTypes args=some f)(ht:TR w γ A bd nt t a.tmps)(hr:Rel C A bd w γ hg nx)
  (hf:(γ g.nx).kind=0) (agree:∀x∈args,∀s,aW C x=some s->∀id∈mA C b argTypes (s.run t),hg id=g.h.get id) :
  ∃m:Sem Value,builtin b argTypes ty consts (args.map a.eval).toArray=(do pure (.value (<-m)))/\di C A bd w γ hg nx m g (f.run t g):=by
 unfold dt at h
 split at h
 ·
  rename_i x
  split at h
  ·rename_i tt s h0 hs;injection h with h;subst h;exact⟨Builtin.len_ argTypes ty #[a.eval x],rfl,(Ov hr h0 (aF hs ht hr) λhk id hid=>agree x (by simp) s hs id (by simp_all[mA])).upd⟩
  grind
 ·
  rename_i p x
  split at h
  ·rename_i tt xt sa sx h0 h1 ha hx
   split at h
   ·rename_i e e' he hux
    split at h
    ·rename_i sz bytes zero hsz hby hz;rw[aa]at h
     split at h
     ·rename_i hcond;simp only[Ts,UF,ax]at hcond;injection h with h;subst h;exact⟨Builtin.append_ argTypes ty #[a.eval p,a.eval x],rfl,GS hr hf h0 h1 (sC he) hux hsz hby hz (aL hcond.1.1) hcond.2 (aF ha ht hr) (aF hx ht hr)
       (λid hid=>agree p (by simp) sa ha id hid) (λid hid=>agree x (by simp) sx hx id hid)⟩
     grind
    grind
   ·rename_i e k he hux
    split at h
    ·rename_i sz bytes zero hsz hby hz;rw[aa]at h
     split at h
     ·rename_i hcond;simp only[Ts,UF,ax]at hcond;injection h with h;subst h;exact⟨Builtin.append_ argTypes ty #[a.eval p,a.eval x],rfl,EI hr hf h0 h1 (sC he) hux hsz hby hz (aL hcond.1.1) hcond.1.2 hcond.2 (aF ha ht hr) (aF hx ht hr)
       (λid hid=>agree p (by simp) sa ha id hid)⟩
     grind
    grind
   grind
  grind
 ·
  rename_i p x
  split at h
  ·rename_i tt sa sx h0 ha hx
   split at h
   ·rename_i e he
    split at h
    ·rename_i sz hsz;injection h with h;subst h;exact⟨Builtin.copy_ argTypes ty #[a.eval p,a.eval x],rfl,Lz hr h0 (sC he) hsz (aF ha ht hr) (aF hx ht hr)
      (λid hid=>agree p (by simp) sa ha id hid) (λid hid=>agree x (by simp) sx hx id hid)⟩
    grind
   grind
  grind
 ·
  rename_i x
  split at h
  ·rename_i tt s h0 hs
   split at h
   ·rename_i e he;injection h with h;subst h;exact⟨Builtin.cap_ argTypes ty #[a.eval x],rfl,(Ob hr h0 (sC he) (aF hs ht hr) λid hid=>agree x (by simp) s hs id hid).upd⟩
   grind
  grind
 ·
  rename_i x
  split at h
  ·rename_i tt s h0 hs
   split at h
   ·rename_i e he
    split at h
    ·rename_i sz zero hsz hz;rw[aa]at h
     split at h
     ·rename_i hcond;simp only[Ts,UF,ax]at hcond;injection h with h;subst h;exact⟨Builtin.clear_ argTypes ty #[a.eval x],rfl,JN hr h0 (sC he) hz (aL hcond.1) hcond.2 (aF hs ht hr) λid hid=>agree x (by simp) s hs id hid⟩
     grind
    grind
   grind
  grind
 ·
  rename_i x y
  split at h
  ·rename_i sx sy hx hy;injection h with h;subst h;refine⟨Builtin.max_ argTypes ty #[a.eval x,a.eval y],rfl,?_⟩;have r1:=aF hx ht hr;have r2:=aF hy ht hr;dsimp only;generalize sx.run t=u at r1 ⊢;generalize sy.run t=v at r2 ⊢;cases u<;>try trivial
   cases v<;>try trivial
   exact (Oz r1 r2).upd
  grind
 ·
  rename_i x y
  split at h
  ·rename_i sx sy hx hy;injection h with h;subst h;refine⟨Builtin.min_ argTypes ty #[a.eval x,a.eval y],rfl,?_⟩;have r1:=aF hx ht hr;have r2:=aF hy ht hr;dsimp only;generalize sx.run t=u at r1 ⊢;generalize sy.run t=v at r2 ⊢;cases u<;>try trivial
   cases v<;>try trivial
   exact (OA r1 r2).upd
  grind
 grind
theorem JK:∀{xs:List Operand} {vs:Stg (T->List AV)},cg C xs=some vs->∀x∈xs,∀s,aW C x=some s->s.run t∈vs.run t:=by
 intro xs
 induction xs with
 |nil=>grind
 | cons y ys ih =>
  intro vs h x hx s hs;simp only[cg]at h
  split at h
  ·rename_i p q hp hq;injection h with h;subst h
   grind
  grind
theorem uB{b:Builtin}{argTypes:Array TypeId}{args:List Operand}(h:dt C b argTypes args=some f):∃vs,cg C args=some vs:=by
 have one:∀{x:Operand} {s},aW C x=some s->∃vs,cg C [x]=some vs:=by simp_all[cg]
 have two:∀{x y:Operand} {s u},aW C x=some s->aW C y=some u->∃vs,cg C [x,y]=some vs:=by simp_all[cg]
 unfold dt at h
 split at h
 ·grind
 all_goals grind
theorem O0(h:cx C op=some f)(ho:o.op=op)(ht:TR w γ A bd nt t a.tmps)(hr:Rel C A bd w γ hg nx)(hf:(γ g.nx).kind=0)
  (agree:∀id∈bC C op t g,hg id=g.h.get id):OpSim C A bd w γ hg nx o a.eval g (f.run t g):=by
 cases op<;>simp only[cx]at h<;>first| (cases h;done)|skip
 case move x =>
  split at h
  ·rename_i s hs;injection h with h;subst h;exact .now (by simp_all[execOp]) (aF hs ht hr)
  grind
 case assign x =>
  split at h
  ·rename_i s hs;injection h with h;subst h;exact .now (by simp_all[execOp]) (aF hs ht hr)
  grind
 case pick c x y =>
  split at h
  ·rename_i sc sx sy hc hx hy;injection h with h;subst h;have r1:=aF hc ht hr;have r2:=aF hx ht hr;have r3:=aF hy ht hr;dsimp only;generalize sc.run t=cv at r1 ⊢;generalize hcv:a.eval c=vc at r1;cases r1 with
   | bool _ b =>
    cases b
    all_goals simp_all[OpSim.now,execOp,asBool]
   |_=>trivial
  grind
 case alloc ty =>
  split at h
  ·rename_i cs hz;injection h with h;subst h;simp_all[OpSim.ofUpd,execOp,JF]
  grind
 case box ty x =>
  split at h
  ·rename_i s hs;injection h with h;subst h;have r1:=aF hs ht hr;unfold Ln;dsimp only;rw[aa]
   split
   ·trivial
   ·rename_i htup;exact .ofUpd (m:=Instr.box ty (a.eval x)) (by grind[execOp]) (N7 hr r1 hf (by grind))
  grind
 case load ty x =>
  split at h
  ·rename_i s ag n hs hag hn;injection h with h;subst h;exact .ofVal (by grind[execOp]) (FD hr (aF hs ht hr) hag hn λid hid=>agree id (by simp_all[bC,aP,ae]))
  grind
 case store ty x y =>
  split at h
  ·rename_i s u n hs hu hn;injection h with h;subst h;exact .ofUnit (by grind[execOp]) (KX hr (aF hs ht hr) (aF hu ht hr) hn λid hid=>agree id (by simp_all[bC,aP,ae]))
  grind
 case binOp op ty x y p =>
  split at h
  ·rename_i s u hs hu;injection h with h;subst h;exact .ofVal (by grind[execOp]) (N6 (xo:=x) (yo:=y) (aF hs ht hr) (aF hu ht hr))
  grind
 case unOp op ty x =>
  split at h
  ·rename_i s hs;injection h with h;subst h;exact .ofVal (by grind[execOp]) (O4 (aF hs ht hr))
  grind
 case convert src dst x =>
  split at h
  ·rename_i s sd k hs hsrc hk;injection h with h;subst h;have r1:=aF hs ht hr;dsimp only;generalize s.run t=cv at r1 ⊢;generalize hcv:a.eval x=vc at r1;cases r1 with
   | int _ k' n =>
    refine .ofVal (m:=convert src dst (.int k' n)) (by simp only[execOp,ho,hcv]) ⟨.int k (k.wrap n),?_,by rw[gU];exact .int _ _ _⟩;simp_all[convert,Conv.intToInt,aH]
   |_=>trivial
  grind
 case nilCheck x =>
  split at h
  ·rename_i s hs;injection h with h;subst h;have r1:=aF hs ht hr;dsimp only;generalize s.run t=cv at r1 ⊢;generalize hcv:a.eval x=vc at r1;cases r1 with
   |tptr _ tag sz rows i0 off0 b o' cell h1 h2 h3 h4 h5 h6 h7 h8 h9=>exact .now (by simp_all[execOp]) (.tptr _ tag sz rows i0 off0 b o' cell h1 h2 h3 h4 h5 h6 h7 h8 h9)
   |hptr _ id ep i off b o' h1 h2 h3=>exact .now (by simp_all[execOp]) (.hptr _ id ep i off b o' h1 h2 h3)
   |clo _ f' xs ys vs us h1 h2 h3 h4=>exact .now (by simp[execOp,ho,hcv]) (.clo _ f' xs ys vs us h1 h2 h3 h4)
   |yld _ id b h1 h2=>exact .now (by simp_all[execOp]) (.yld _ id b h1 h2)
   |_=>trivial
  grind
 case makeInterface ty x =>
  split at h
  ·cases h
  ·rename_i s d hne hs hu;injection h with h;subst h;refine .ofVal (m:=Instr.makeInterface ty (a.eval x)) (by simp only[execOp,ho]) ⟨.iface ty (a.eval x),?_,.ifc _ ty _ _ (aF hs ht hr)⟩;unfold Instr.makeInterface;simp only[T0,aH hu,TN]
   try rfl
  grind
 case makeSlice ty l c =>
  split at h
  ·rename_i e sl sc he hl hc
   split at h
   ·rename_i sz bytes zero hsz hby hz;rw[aa]at h
    split at h
    ·rename_i hcond;simp only[Ts,UF,ax]at hcond;injection h with h;subst h;have hu:C.P.underlying ty=some (.slice e):=by unfold l9 at he;split at he<;>first| (injection he with he;subst he;assumption)|cases he
     exact .ofUpd (by simp only[execOp,ho]) (B5 hr hf hu hsz hby hz (aL hcond.1) hcond.2 (aF hl ht hr) (aF hc ht hr))
    ·cases h
   ·cases h
  grind
 case fieldAddr ty x fi =>
  split at h
  ·rename_i s fo ft hs hfi
   split at h
   ·rename_i n hn;injection h with h;subst h;exact .ofVal (by simp only[execOp,ho]) (BY (g:=g) (aF hs ht hr) hfi hn)
   ·cases h
  ·cases h
 case field ty x fi =>
  split at h
  ·rename_i s fo ft hs hfi
   split at h
   ·rename_i ag n hag hn;injection h with h;subst h;have r1:=aF hs ht hr;refine .ofVal (m:=Instr.field ty (a.eval x) fi) (by simp only[execOp,ho]) ?_;dsimp only;generalize s.run t=y at r1 ⊢;cases y<;>first|trivial|exact J7 r1 hfi hag hn
   ·cases h
  ·cases h
 case indexAddr ty x ix =>
  split at h
  ·rename_i s i hs hi
   split at h
   ·rename_i e hu
    split at h
    ·rename_i sz hsz;injection h with h;subst h;exact .ofVal (by simp only[execOp,ho]) (Fx hr (aF hs ht hr) (aF hi ht hr) hu hsz λid hid=>agree id (by simp[bC,aP,ae,hs,hu,hid]))
    ·cases h
   ·rename_i n e hu
    split at h
    ·rename_i sz hsz;injection h with h;subst h;exact .ofVal (by simp only[execOp,ho]) (Fw (g:=g) (aF hs ht hr) (aF hi ht hr) hu hsz)
    ·cases h
   ·cases h
  grind
 case index ty x ix =>
  split at h
  ·rename_i s i hs hi
   split at h
   ·rename_i n e hu
    split at h
    ·rename_i ag sz hag hsz;injection h with h;subst h;exact .ofVal (by simp only[execOp,ho]) (Ke (g:=g) (aF hs ht hr) (aF hi ht hr) hu hag hsz)
    ·cases h
   ·rename_i hu;injection h with h;subst h;exact .ofVal (by simp only[execOp,ho]) (D2 (g:=g) (aF hs ht hr) (aF hi ht hr) hu)
   ·cases h
  ·cases h
 case lookup ty x k ok =>
  split at h
  ·rename_i m kk kt et hm hk hu
   split at h
   ·rename_i z hz;injection h with h;subst h;exact .ofVal (by simp only[execOp,ho]) (Ho hr hu hz (aF hm ht hr) (aF hk ht hr) λid hid=>agree id (by cases ok<;>simp[bC,aP,ae,hm,hid]))
   ·cases h
  ·cases h
 case mapUpdate ty m k x =>
  split at h
  ·rename_i sm sk sx kt et hm hk hx hu;injection h with h;subst h;exact .ofUnit (by simp only[execOp,ho]) (uQ hr hu (aF hm ht hr) (aF hk ht hr) (aF hx ht hr) λid hid=>agree id (by simp[bC,aP,ae,hm,hid]))
  ·cases h
 case insert ty m k x =>
  split at h
  ·rename_i sm sk sx kt et hm hk hx hu;injection h with h;subst h;exact .ofUnit (by simp only[execOp,ho]) (uQ hr hu (aF hm ht hr) (aF hk ht hr) (aF hx ht hr) λid hid=>agree id (by simp[bC,aP,ae,hm,hid]))
  ·cases h
 case mapEntry ty m k =>
  split at h
  ·rename_i sm sk kt et hm hk hu
   split at h
   ·rename_i z hz;injection h with h;subst h;exact .ofUpd (by simp only[execOp,ho]) (D4 hr hu hz (aF hm ht hr) (aF hk ht hr) λid hid=>agree id (by simp[bC,aP,hm,hid]))
   ·cases h
  ·cases h
 case entryStore ty m st x =>
  split at h
  ·rename_i sm ss sx hm hs hx;injection h with h;subst h;exact .ofUnit (s:=Instr.entryStore ty (a.eval m) (a.eval st) (a.eval x)) (by simp only[execOp,ho]) (Ab hr (aF hm ht hr) (aF hs ht hr) (aF hx ht hr) λid hid=>agree id (by simp[bC,aP,ae,hm,hid]))
  ·cases h
 case extract x i =>
  split at h
  ·rename_i s hs;injection h with h;subst h;have r1:=aF hs ht hr;refine .ofVal (m:=Instr.extract (a.eval x) i) (by simp only[execOp,ho]) ?_;dsimp only;generalize s.run t=cv at r1 ⊢;generalize a.eval x=vc at r1;cases r1 with
   | tup _ xs vs hl hall =>
    simp only[dB];refine oE λy hy=>?_;have hlt:i<vs.size:=by rw[<-hl];exact (Tu.1 hy).1
    exact⟨vs[i],by simp[Instr.extract,hlt],hall i y _ hy (by simp[hlt])⟩
   |_=>trivial
  ·cases h
 case makeMap ty r =>
  cases r with
  |some r=>cases h
  | none =>
   dsimp only at h
   split at h
   ·injection h with h;subst h;refine .ofUpd (m:=do pure (.map (some (<-newObj (.map #[] 0))))) ?_ (Hv (P:=C.P) hr hf);simp only[execOp,ho,Instr.makeMap,Option.map_none]
    try rfl
   ·cases h
 case makeFunc fn fi ca =>
  cases fn with
  | func fx =>
   dsimp only at h
   split at h
   ·rename_i sa sc ha hc;injection h with h;subst h;have r1:=jC ht hr ha;have r2:=jC ht hr hc;refine .now (v:=.func (.func fx) (fi.map a.eval) (ca.map a.eval)) (by simp[execOp,ho,Instr.makeFunc]) (.clo _ fx _ _ _ _ (by simpa using r1.1) (by simpa using r2.1) (λi x v hx hv=>?_) (λi x v hx hv=>?_))
    ·exact r1.2 i x v hx (by simpa using hv)
    ·exact r2.2 i x v hx (by simpa using hv)
   ·cases h
  |_=>cases h
 case buildSlice ty len parts =>
  split at h
  ·rename_i e vs he hvs
   split at h
   ·rename_i sz zero hsz hz;rw[aa]at h
    split at h
    ·rename_i hcond;simp only[Ts,UF,T8,ax]at hcond;injection h with h;subst h;have hu:C.P.underlying ty=some (.slice e):=by unfold l9 at he;split at he<;>first| (injection he with he;subst he;assumption)|cases he
     exact .ofUpd (by simp only[execOp,ho]) (zN hr hf hu hsz hz (aL hcond.1.1) hcond.1.2 hcond.2 (jC ht hr hvs))
    ·cases h
   ·cases h
  ·cases h
 case build ty parts =>
  split at h
  ·rename_i zero vs hz hvs
   split at h
   ·rename_i fs hu
    split at h
    ·rename_i places hpl
     split at h
     ·rename_i pl hp;injection h with h;subst h;refine .ofVal (m:=Instr.build ty (parts.map λ(i,x)=>(i,a.eval x))) (by simp only[execOp,ho]) (Ck (g:=g) (place:=(places[·]?)) hz (jC ht hr hvs) hp λz cells hzv hfill=>?_);have h1:(fs.mapM λf=>do pure (f.offset,<-Go.sizeOf f.type):Sem (Array (Nat×Nat))).run C.P w=.ok places.toArray w:=by
       rw[Array.mapM_eq_mapM_toList];have:=HE (w:=w) hpl;simp only[Sem.run_map,this]
       rfl
      unfold Instr.build;simp only[T0,hzv,aH hu,TN,h1];have e:(λi:Nat=>places.toArray[i]?)=(λi:Nat=>places[i]?):=by funext i;simp
      rw[e,hfill]
      rfl
     ·cases h
    ·cases h
   ·rename_i n e hu
    split at h
    ·rename_i sz hsz;injection h with h;subst h;refine .ofVal (m:=Instr.build ty (parts.map λ(i,x)=>(i,a.eval x))) (by simp only[execOp,ho]) (Ck (g:=g) (place:=λi=>some (i*sz,sz)) hz (jC ht hr hvs) ?_ λz cells hzv hfill=>?_)
     ·generalize parts.toList.map (·.1)=is
      induction is with
      |nil=>rfl
      |cons i is ih=>simp only[aK,ih,UV]
     ·unfold Instr.build;simp only[T0,hzv,aH hu,TN,bc hsz];rw[hfill]
      rfl
    ·cases h
   ·cases h
  ·cases h
 case slice ty x lo hi mx =>
  have optR:∀{y:Option Operand} {s:Stg (T->List AV)},cg C y.toList=some s->OVR w γ A bd (s.run t).head? (y.map a.eval):=by intro y s hs;have:=MZ (jC ht hr hs);cases y<;>simpa using this
  cases mx with
  | none =>
   dsimp only at h
   split at h
   ·rename_i e sx sl sh hu hx hl hh
    split at h
    ·rename_i sz hsz;injection h with h;subst h;refine .ofVal (m:=Instr.sliceAt ty (a.eval x) (lo.map a.eval) (hi.map a.eval) none) (by simp only[execOp,ho,Option.map_none]) ?_;exact Bh hr hu hsz (aF hx ht hr) (optR hl) (optR hh) trivial (λh=>absurd rfl h) λid hid=>agree id (by simp[bC,aP,ae,hx,hid])
    ·cases h
   ·rename_i n e sx sl sh hu hx hl hh
    split at h
    ·rename_i sz hsz;injection h with h;subst h;refine .ofUpd (m:=Instr.sliceAt ty (a.eval x) (lo.map a.eval) (hi.map a.eval) none) (by simp only[execOp,ho,Option.map_none]) ?_;exact Ej (lo:=λt=>(sl.run t).head?) (hi:=λt=>(sh.run t).head?) hr hu hsz (TG _) (aF hx ht hr) (optR hl) (optR hh) λid hid=>agree id (by simp[bC,aP,ae,hx,hid])
    ·cases h
   ·cases h
  | some mx =>
   cases hi with
   |none=>cases h
   | some hi =>
    dsimp only at h
    split at h
    ·rename_i e sx sl sh sm he hx hl hh hm
     split at h
     ·rename_i sz hsz;injection h with h;subst h;have hu:C.P.underlying ty=some (.slice e):=by unfold l9 at he;split at he<;>first| (injection he with he;subst he;assumption)|cases he
      refine .ofVal (m:=Instr.sliceAt ty (a.eval x) (lo.map a.eval) (some (a.eval hi)) (some (a.eval mx))) (by simp only[execOp,ho,TQ]) ?_;exact Bh hr hu hsz (aF hx ht hr) (optR hl) (aF hh ht hr) (aF hm ht hr) (λ_ h=>by cases h) λid hid=>agree id (by simp[bC,aP,ae,hx,hid])
     ·cases h
    ·cases h
 case call c =>
  obtain⟨callee,args,argTypes⟩:=c;cases callee<;>first| (cases h;done)|skip
  rename_i b;dsimp only at h;obtain⟨vs,hvs⟩:=uB h;obtain⟨m,h1,h2⟩:=EN (ty:=o.type) (consts:=args.map fun|.const _=>true|_=>false) h ht hr hf λx hx s hs id hid=>agree id (by
   have:=JK (t:=t) hvs x hx s hs;unfold bC aP;simp only[hvs,ae,Uv,TZ,VU];exact⟨_,this,hid⟩)
  refine .ofUpd (m:=m) ?_ h2;rw[<-h1];simp only[execOp,ho,resolve,invoke];have e:args.map a.eval=(args.toList.map a.eval).toArray:=by apply Array.ext';simp
  rw[<-e]
  rfl
end
end Hx
end
section
namespace Hx
open Go
theorem fM{α β:Type}{f:α->Option β}:∀{l:List α} {r:List β},aK f l=some r->∀(i:Nat) y,r[i]?=some y->∃x,l[i]?=some x/\f x=some y:=by
 intro l
 induction l with
 |nil=>grind[aK]
 | cons a l ih =>
  intro r h i y hy;simp only[aK]at h
  grind
theorem nI{α β:Type}{f:α->Option β}:∀{l:List α} {r:List β},aK f l=some r->r.length=l.length:=by
 intro l
 induction l<;>grind[aK]
theorem Gw{h:H}{tag:Nat}:∀{f:Nat} {x y:AV},snap h tag f x=some y->x.one=true->y.one=true:=by
 intro f x y hs hx;cases f with
 |zero=>cases hs
 | succ f =>
  cases x<;>simp only[snap]at hs<;>first| (cases hx;done)|skip
  all_goals first| (injection hs with hs;grind)|skip
  all_goals
   repeat (split at hs)
   all_goals first| (cases hs;done)| (injection hs with hs;subst hs;rfl)| (rw[aa]at hs;split at hs<;>first| (cases hs;done)| (injection hs with hs;subst hs;rfl))
def Ext(h:H)(hg:Nat->AObj):Prop:=∀id,h.get id≠.none->hg id=h.get id
section
variable {C:Cfg}{A A':Nat->Nat->Prop}{bd:Nat}{w w':World}{γ γ':Gm}{hg:Nat->AObj}{nx:Nat}
theorem nQ{x:AV}{v:Value}(h:RV w γ A bd x v):Closed x ->
  (∀t b,t<=bd->b<w.heap.size->¬A t b->¬Mut γ b->¬A' t b/\¬Mut γ' b)->RV w γ' A' bd x v:=by
 induction h with
 |bool=>intro _ _;exact .bool _ _
 |int=>intro _ _;exact .int _ _ _
 |str=>intro _ _;exact .str _ _
 | tup _ xs vs hl _ ih =>
  intro hc hs;cases hc with|tup _ hc=>exact .tup _ _ _ hl (by grind)
 | agg _ xs vs hl h1 _ ih =>
  intro hc hs;cases hc with|agg _ hc=>exact .agg _ _ _ hl h1 (by grind)
 |nilp=>intro _ _;exact .nilp _
 |nils=>intro _ _;exact .nils _
 |nilf=>intro _ _;exact .nilf _
 |nilm=>intro _ _;exact .nilm _
 |nili=>intro _ _;exact .nili _
 |esl=>intro _ _;exact .esl _ _
 | tsl _ tag sz rows b o cap cell ht hc hb hm ha hr ho hw h hcl ih =>
  intro _ hs;obtain⟨h1,h2⟩:=hs tag b ht hb ha hm;exact .tsl _ tag sz rows b o cap cell ht hc hb h2 h1 hr ho hw
   (λi j row x a c=>ih i j row x a c (hcl row (Tv a) x (Tv c)) (by grind)) hcl
 |tnil _ tag sz a cap ht=>intro _ _;exact .tnil _ tag sz a cap ht
 | tptr _ tag sz rows i0 off0 b o cell ht hb hm ha hr ho hw h hcl ih =>
  intro _ hs;obtain⟨h1,h2⟩:=hs tag b ht hb ha hm;exact .tptr _ tag sz rows i0 off0 b o cell ht hb h2 h1 hr ho hw
   (λi j row x a c=>ih i j row x a c (hcl row (Tv a) x (Tv c)) (by grind)) hcl
 |hsl=>intro hc;cases hc
 |hptr=>intro hc;cases hc
 | clo _ f xs ys vs us hl hl2 _ _ ih ih2 =>
  intro hc hs;cases hc with
  |clo _ _ _ hc hc2=>exact .clo _ f xs ys vs us hl hl2 (by grind) (by grind)
 |hmap=>intro hc;cases hc
 |ifc _ t x v _ ih=>intro hc hs;cases hc with|ifc _ _ hc=>exact .ifc _ t x v (ih hc hs)
 |yld=>intro hc;cases hc
theorem Bc{x:AV}{v:Value}(h:RV w γ A bd x v)(hx:(∃l sz rows,x=.tsl l sz rows)\/(∃l sz rows i o,x=.tptr l sz rows i o)):Closed x:=by
 rcases hx with⟨l,sz,rows,rfl⟩|⟨l,sz,rows,i,o,rfl⟩
 ·cases h with
  |tsl _ _ _ _ _ _ _ _ _ _ _ _ _ _ _ _ _ hcl=>exact .tsl _ _ _ hcl
  |tnil=>exact .tsl _ _ _ (by grind)
 ·cases h with
  |tptr _ _ _ _ _ _ _ _ _ _ _ _ _ _ _ _ _ hcl=>exact .tptr _ _ _ _ _ hcl
theorem Jo{h:H}{tag B:Nat}{L:Nat->Prop}(hr:Rel C A bd w γ hg nx)(hx:∀id,L id->h.get id≠.none->hg id=h.get id)(hB:bd<=B)(htB:tag<=B)
  (hs:∀t b,t<=bd->b<w.heap.size->¬A t b->¬Mut γ b->¬A' t b/\¬Mut γ' b)
  (ho:∀id,L id->(∃sz rows ep lo fz,h.get id=.cells sz rows ep lo fz)->(γ id).kind=1->∀t,tag<=t->t<=B->¬A' t (γ id).blk/\¬Mut γ' (γ id).blk) :
  ∀(f:Nat) {x y:AV} {v:Value},snap h tag f x=some y->RV w γ A bd x v->(∀id∈aC h f x,L id)->RV w γ' A' B y v/\Closed y:=by
 intro f
 induction f with
 |zero=>intro x y v h;cases h
 | succ f ih =>
  intro x y v hsn hv hL;have hlist:∀{xs ys:List AV} {vs:Array Value},aK (snap h tag f) xs=some ys->(∀id∈xs.flatMap (aC h f),L id)->xs.length=vs.size ->
    (∀(i:Nat) x v,xs[i]?=some x->vs[i]?=some v->RV w γ A bd x v) ->
    ys.length=vs.size/\(∀(i:Nat) x v,ys[i]?=some x->vs[i]?=some v->RV w γ' A' B x v)/\∀y∈ys,Closed y:=by
   intro xs ys vs h1 h2 h3 h4;have hex:∀(i:Nat) y,ys[i]?=some y->∃v,vs[i]?=some v/\RV w γ' A' B y v/\Closed y:=by
    intro i y hy;obtain⟨x,a1,a2⟩:=fM h1 i y hy;have hlt:i<vs.size:=by grind
    have hv:=T7 hlt
    grind
   refine⟨by rw[nI h1,h3],λi y v hy hv=>?_,λy hy=>?_⟩<;>grind[T2]
  have hrows:∀{id sz:Nat} {rows:List (List AV)} {ep:Nat} {lo fz:Bool} {start len:Nat} {rs:List (List AV)} {m:Nat},
    hg id=.cells sz rows ep lo fz->aK (aK (snap h tag f)) ((rows.drop start).take len)=some rs->fq rs=some m ->
    (∀id'∈((rows.drop start).take len).flatMap (·.flatMap (aC h f)),L id')->start+len<=rows.length ->
    rs.length=len/\m<=B/\(∀(i:Nat) row,rs[i]?=some row->row.length=sz) /\
    (∀(i j:Nat) row x,rs[i]?=some row->row[j]?=some x->x.one=true/\∃c,w.cell? (adr (γ id).blk ((γ id).base+start*sz+i*sz+j))=some c/\RV w γ' A' m x c) /\
    (∀row∈rs,∀x∈row,Closed x):=by
   intro id sz rows ep lo fz start len rs m hid hm htag hL' hle;have hob:=hr.obj id;rw[hid]at hob;have hlen:rs.length=len:=by rw[nI hm];grind
   have key:∀(i j:Nat) row x,rs[i]?=some row->row[j]?=some x->x.one=true/\∃c,w.cell? (adr (γ id).blk ((γ id).base+start*sz+i*sz+j))=some c/\RV w γ' A' B x c/\Closed x:=by
    intro i j row x hi hj;obtain⟨row0,a1,a2⟩:=fM hm i row hi;obtain⟨x0,b1,b2⟩:=fM a2 j x hj;have hri:rows[start+i]?=some row0:=by
     grind
    obtain⟨c1,v,c2,c3⟩:=uf hr hid hri j x0 b1;obtain⟨d1,d2⟩:=ih b2 c3 λid' hid'=>hL' id' (VU.2 ⟨row0,Tv a1,(by grind)⟩);refine⟨Gw b2 c1,v,?_,d1,d2⟩<;>grind
   refine⟨hlen,?_,?_,?_,?_⟩
   ·refine eK htag λrow hrow k hk=>eK hk λx hx k' hk'=>?_;obtain⟨i,hi⟩:=T2 hrow;obtain⟨j,hj⟩:=T2 hx;obtain⟨_,c,_,hc,_⟩:=key i j row x hi hj;exact zy _ hk' hc
   ·intro i row hi;obtain⟨row0,a1,a2⟩:=fM hm i row hi;rw[nI a2];obtain⟨k1,k2,k3,k4,k5,k6,c,e,k7,k8,k9,k10⟩:=hob<;>grind
   all_goals grind[v7,T2]
  cases hv with
  | agg _ xs vs hl h1 h2 =>
   simp only[snap]at hsn
   split at hsn
   ·rename_i as has;injection hsn with hsn;subst hsn;obtain⟨a,b,c⟩:=hlist has (by grind[aC]) hl h2;refine⟨.agg _ _ _ a (λi x hi=>?_) b,.agg _ c⟩;obtain⟨x0,a1,a2⟩:=fM has i x hi<;>grind[Gw]
   grind
  | tup _ xs vs hl h2 =>
   simp only[snap]at hsn
   split at hsn
   ·rename_i as has;injection hsn with hsn;subst hsn;obtain⟨a,b,c⟩:=hlist has (by grind[aC]) hl h2;exact⟨.tup _ _ _ a b,.tup _ c⟩
   grind
  | clo _ g xs ys vs us hl hl2 h1 h2 =>
   simp only[snap]at hsn;simp only[aC]at hL
   split at hsn
   ·rename_i as cs has hcs;injection hsn with hsn;subst hsn;obtain⟨a,b,c⟩:=hlist has (by grind) hl h1;obtain⟨a',b',c'⟩:=hlist hcs (by grind) hl2 h2;exact⟨.clo _ _ _ _ _ _ a a' b b',.clo _ _ _ c c'⟩
   grind
  | ifc _ t x v h1 =>
   simp only[snap]at hsn
   split at hsn
   ·rename_i a ha;injection hsn with hsn;subst hsn;obtain⟨a,b⟩:=ih ha h1 (by grind[aC]);exact⟨.ifc _ _ _ _ a,.ifc _ _ b⟩
   grind
  | hsl _ id ep off len lim b o cap hk he hc h' =>
   simp only[snap]at hsn
   split at hsn
   ·rename_i sz rows ep' lo fz hget;rw[aa]at hsn
    split at hsn
    ·rename_i hcond;simp only[Ts,T8,ax]at hcond;obtain⟨hep,hle⟩:=hcond;have hep:=aL hep
     split at hsn
     ·rename_i rs hrs
      split at hsn
      ·rename_i m hm;injection hsn with hsn;subst hsn;have hid:hg id=.cells sz rows ep' lo fz:=by grind[aC]
       have hob:=hr.obj id;rw[hid]at hob;obtain⟨k1,k2,k3,k4,_⟩:=hob;obtain⟨e1,e2,e3⟩:=h' (hep.trans k2.symm);subst e1;subst e2;simp only[aC,hget]at hL;simp only[a_,bj]at hrs hL;obtain⟨r1,r2,r3,r4,r5⟩:=hrows hid hrs hm (λid' hid'=>hL id' (List.mem_cons_of_mem _ hid')) hle;obtain⟨o1,o2⟩:=ho id (hL id List.mem_cons_self) ⟨_,_,_,_,_,hget⟩ hk (Nat.max tag m) (UM _ _) (Nat.max_le.2 ⟨htB,r2⟩);refine⟨?_,.tsl _ _ _ r5⟩;rw[<-r1];rw[k3];refine .tsl _ (Nat.max tag m) sz rs (γ id).blk ((γ id).base+off*sz) cap (λi j=>(w.cell? (adr (γ id).blk ((γ id).base+off*sz+i*sz+j))).getD undef) (by grind) (by omega)
        (hr.lt id (by omega)).2 o2 o1 r3 (by grind) (by grind) (λi j row x hi hj=>?_) r5
       all_goals grind[RV.mono]
      grind
     grind
    grind
   grind
  | hptr _ id ep i off b o hk he h' =>
   simp only[snap]at hsn
   split at hsn
   ·rename_i sz rows ep' lo fz hget;rw[aa]at hsn
    split at hsn
    ·rename_i hep;have hep:=aL hep
     split at hsn
     ·rename_i rs hrs
      split at hsn
      ·rename_i m hm;injection hsn with hsn;subst hsn;have hid:hg id=.cells sz rows ep' lo fz:=by grind[aC]
       have hob:=hr.obj id;rw[hid]at hob;obtain⟨k1,k2,k3,k4,_⟩:=hob;obtain⟨e1,e2⟩:=h' (hep.trans k2.symm);subst e1;subst e2;simp only[aC,hget]at hL;have hrs':aK (aK (snap h tag f)) ((rows.drop 0).take rows.length)=some rs:=by grind
       obtain⟨r1,r2,r3,r4,r5⟩:=hrows hid hrs' hm (λid' hid'=>hL id' (List.mem_cons_of_mem _ (by grind))) (by omega);obtain⟨o1,o2⟩:=ho id (hL id List.mem_cons_self) ⟨_,_,_,_,_,hget⟩ hk (Nat.max tag m) (UM _ _) (Nat.max_le.2 ⟨htB,r2⟩);refine⟨?_,.tptr _ _ _ _ _ r5⟩;rw[k3];refine .tptr _ (Nat.max tag m) sz rs i off (γ id).blk (γ id).base (λi j=>(w.cell? (adr (γ id).blk ((γ id).base+i*sz+j))).getD undef) (by grind)
        (hr.lt id (by omega)).2 o2 o1 r3 (by grind) (λi j row x hi hj=>?_) (λi j row x hi hj=>?_) r5
       ·grind
       ·obtain⟨_,c,c2,c3⟩:=r4 i j row x hi hj;simp only[Nat.zero_mul,Vv]at c2
        grind[RV.mono]
      grind
     grind
    grind
   grind
  |hmap=>cases hsn
  |yld=>cases hsn
  | tsl _ tag' sz rows b o cap cell ht hc hb hm ha hrl ho' hw hcell hcl =>
   simp only[snap]at hsn;injection hsn with hsn;subst hsn;exact⟨(nQ (.tsl _ tag' sz rows b o cap cell ht hc hb hm ha hrl ho' hw hcell hcl) (.tsl _ _ _ hcl) hs).mono hB,.tsl _ _ _ hcl⟩
  |tnil _ tag' sz a cap ht=>simp only[snap]at hsn;injection hsn with hsn;subst hsn;exact⟨.tnil _ tag' sz a cap (TU ht hB),.tsl _ _ _ (by grind)⟩
  | tptr _ tag' sz rows i0 off0 b o cell ht hb hm ha hrl ho' hw hcell hcl =>
   simp only[snap]at hsn;injection hsn with hsn;subst hsn;exact⟨(nQ (.tptr _ tag' sz rows i0 off0 b o cell ht hb hm ha hrl ho' hw hcell hcl) (.tptr _ _ _ _ _ hcl) hs).mono hB,.tptr _ _ _ _ _ hcl⟩
  |bool=>simp only[snap]at hsn;injection hsn with hsn;subst hsn;exact⟨.bool _ _,.bool _⟩
  |int=>simp only[snap]at hsn;injection hsn with hsn;subst hsn;exact⟨.int _ _ _,.int _ _⟩
  |str=>simp only[snap]at hsn;injection hsn with hsn;subst hsn;exact⟨.str _ _,.str _⟩
  |nilp=>simp only[snap]at hsn;injection hsn with hsn;subst hsn;exact⟨.nilp _,.nilp⟩
  |nils=>simp only[snap]at hsn;injection hsn with hsn;subst hsn;exact⟨.nils _,.nils⟩
  |nilf=>simp only[snap]at hsn;injection hsn with hsn;subst hsn;exact⟨.nilf _,.nilf⟩
  |nilm=>simp only[snap]at hsn;injection hsn with hsn;subst hsn;exact⟨.nilm _,.nilm⟩
  |nili=>simp only[snap]at hsn;injection hsn with hsn;subst hsn;exact⟨.nili _,.nili⟩
  |esl _ a=>simp only[snap]at hsn;injection hsn with hsn;subst hsn;exact⟨.esl _ a,.esl⟩
theorem Dd{d:Nat}:∀{f:Nat} {x y:AV},dI d f x=some y->x.one=true->y.one=true:=by
 intro f x y hs hx;cases f with
 |zero=>cases hs
 | succ f =>
  cases x<;>simp only[dI,aa]at hs<;>first| (cases hx;done)|skip
  all_goals first| (injection hs with hs;subst hs;rfl)|skip
  all_goals
   repeat (split at hs)
   all_goals first| (cases hs;done)| (injection hs with hs;subst hs;rfl)
theorem NM{d:Nat}(hA:∀t b,t<d->¬A t b->¬A' t b)(hd:∀b,¬A d b->∀t,¬A' t b) :
  ∀(f:Nat) {x y:AV} {v:Value},dI d f x=some y->RV w γ A d x v->Closed x->RV w γ A' d y v/\Closed y:=by
 intro f
 induction f with
 |zero=>intro x y v h;cases h
 | succ f ih =>
  intro x y v hsn hv hcx;have hlist:∀{xs ys:List AV} {vs:Array Value},aK (dI d f) xs=some ys->xs.length=vs.size->(∀x∈xs,Closed x) ->
    (∀(i:Nat) x v,xs[i]?=some x->vs[i]?=some v->RV w γ A d x v) ->
    ys.length=vs.size/\(∀(i:Nat) x v,ys[i]?=some x->vs[i]?=some v->RV w γ A' d x v)/\∀y∈ys,Closed y:=by
   intro xs ys vs h1 h3 hc h4;have hex:∀(i:Nat) y,ys[i]?=some y->∃v,vs[i]?=some v/\RV w γ A' d y v/\Closed y:=by
    intro i y hy;obtain⟨x,a1,a2⟩:=fM h1 i y hy;have hlt:i<vs.size:=by grind
    have hv:=T7 hlt
    grind
   refine⟨by rw[nI h1,h3],λi y v hy hv=>?_,λy hy=>?_⟩<;>grind[T2]
  have hrows:∀{sz:Nat} {rows rs:List (List AV)} {m:Nat} {cell:Nat->Nat->Value},aK (aK (dI d f)) rows=some rs->fq rs=some m ->
    (∀(i:Nat) row,rows[i]?=some row->row.length=sz) ->
    (∀(i j:Nat) row x,rows[i]?=some row->row[j]?=some x->x.one=true) ->
    (∀(i j:Nat) row x,rows[i]?=some row->row[j]?=some x->RV w γ A d x (cell i j)) ->
    (∀row∈rows,∀x∈row,Closed x) ->
    rs.length=rows.length/\m<=d/\(∀(i:Nat) row,rs[i]?=some row->row.length=sz) /\
    (∀(i j:Nat) row x,rs[i]?=some row->row[j]?=some x->x.one=true/\(∃row0 x0,rows[i]?=some row0/\row0[j]?=some x0)/\RV w γ A' m x (cell i j)) /\
    (∀row∈rs,∀x∈row,Closed x):=by
   intro sz rows rs m cell h1 h2 h3 h4 h5 h6;have key:∀(i j:Nat) row x,rs[i]?=some row->row[j]?=some x->x.one=true/\(∃row0 x0,rows[i]?=some row0/\row0[j]?=some x0)/\RV w γ A' d x (cell i j)/\Closed x:=by intro i j row x hi hj;obtain⟨row0,a1,a2⟩:=fM h1 i row hi;obtain⟨x0,b1,b2⟩:=fM a2 j x hj;obtain⟨c1,c2⟩:=ih b2 (h5 i j row0 x0 a1 b1) (h6 row0 (Tv a1) x0 (Tv b1))<;>grind[Dd]
   refine⟨nI h1,?_,?_,?_,?_⟩
   ·refine eK h2 λrow hrow k hk=>eK hk λx hx k' hk'=>?_;obtain⟨i,hi⟩:=T2 hrow;obtain⟨j,hj⟩:=T2 hx;obtain⟨_,_,hc,_⟩:=key i j row x hi hj;exact zy _ hk' hc
   ·intro i row hi;obtain⟨row0,a1,a2⟩:=fM h1 i row hi<;>grind[nI]
   all_goals grind[v7,T2]
  have hlow:∀{t:Nat},t<=d->t≠d->∀t' b,t'<=t->b<w.heap.size->¬A t' b->¬Mut γ b->¬A' t' b/\¬Mut γ b :=
   (by grind)
  cases hv with
  | agg _ xs vs hl h1 h2 =>
   simp only[dI]at hsn
   split at hsn
   ·rename_i as has;injection hsn with hsn;subst hsn;cases hcx with
    | agg _ hcx =>
     obtain⟨a,b,c⟩:=hlist has hl hcx h2;refine⟨.agg _ _ _ a (λi x hi=>?_) b,.agg _ c⟩<;>grind[fM,Dd]
   grind
  | tup _ xs vs hl h2 =>
   simp only[dI]at hsn
   split at hsn
   ·rename_i as has;injection hsn with hsn;subst hsn;cases hcx with
    | tup _ hcx =>
     obtain⟨a,b,c⟩:=hlist has hl hcx h2;exact⟨.tup _ _ _ a b,.tup _ c⟩
   grind
  | clo _ g xs ys vs us hl hl2 h1 h2 =>
   simp only[dI]at hsn
   split at hsn
   ·rename_i as cs has hcs;injection hsn with hsn;subst hsn;cases hcx with
    | clo _ _ _ hcx hcx2 =>
     obtain⟨a,b,c⟩:=hlist has hl hcx h1;obtain⟨a',b',c'⟩:=hlist hcs hl2 hcx2 h2;exact⟨.clo _ _ _ _ _ _ a a' b b',.clo _ _ _ c c'⟩
   grind
  | ifc _ t x v h1 =>
   simp only[dI]at hsn
   split at hsn
   ·rename_i a ha;injection hsn with hsn;subst hsn;cases hcx with
    | ifc _ _ hcx =>
     obtain⟨a,b⟩:=ih ha h1 hcx;exact⟨.ifc _ _ _ _ a,.ifc _ _ b⟩
   grind
  | tsl _ t sz rows b o cap cell ht hc hb hm ha hrl ho' hw hcell hcl =>
   simp only[dI,aa]at hsn
   split at hsn
   ·rename_i htd;have htd:=aL htd
    split at hsn
    ·rename_i rs hrs
     split at hsn
     ·rename_i m hm';injection hsn with hsn;subst hsn;obtain⟨r1,r2,r3,r4,r5⟩:=hrows (cell:=cell) hrs hm' hrl ho' (by grind) hcl;refine⟨?_,.tsl _ _ _ r5⟩;rw[<-r1];refine .tsl _ m sz rs b o cap cell r2 (by rw[r1];exact hc) hb hm (hd b (htd ▸ ha) m) r3 (λi j row x a b=>(r4 i j row x a b).1) (λi j row x a b=>?_) (λi j row x a b=>(r4 i j row x a b).2.2) r5<;>grind
     grind
    grind
   ·rename_i htd;injection hsn with hsn;subst hsn;have htd:t≠d:=λe=>htd (by grind[Uq]);exact⟨.tsl _ t sz rows b o cap cell ht hc hb hm (by grind) hrl ho' hw (λi j row x a c=>nQ (by grind) (hcl row (Tv a) x (Tv c)) (hlow ht htd)) hcl,.tsl _ _ _ hcl⟩
  | tnil _ t sz a cap ht =>
   simp only[dI,aa]at hsn
   split at hsn
   ·simp only[aK,fq,gQ]at hsn;injection hsn with hsn;subst hsn;exact⟨.tnil _ _ sz a cap (Ue _),.tsl _ _ _ (by grind)⟩
   ·injection hsn with hsn;subst hsn;exact⟨.tnil _ t sz a cap ht,(by grind)⟩
  | tptr _ t sz rows i0 off0 b o cell ht hb hm ha hrl ho' hw hcell hcl =>
   simp only[dI,aa]at hsn
   split at hsn
   ·rename_i htd;have htd:=aL htd
    split at hsn
    ·rename_i rs hrs
     split at hsn
     ·rename_i m hm';injection hsn with hsn;subst hsn;obtain⟨r1,r2,r3,r4,r5⟩:=hrows (cell:=cell) hrs hm' hrl ho' (by grind) hcl;refine⟨?_,.tptr _ _ _ _ _ r5⟩;refine .tptr _ m sz rs i0 off0 b o cell r2 hb hm (hd b (htd ▸ ha) m) r3 (λi j row x a b=>(r4 i j row x a b).1) (λi j row x a b=>?_) (λi j row x a b=>(r4 i j row x a b).2.2) r5<;>grind
     grind
    grind
   ·rename_i htd;injection hsn with hsn;subst hsn;have htd:t≠d:=λe=>htd (by grind[Uq]);exact⟨.tptr _ t sz rows i0 off0 b o cell ht hb hm (by grind) hrl ho' hw (λi j row x a c=>nQ (by grind) (hcl row (Tv a) x (Tv c)) (hlow ht htd)) hcl,.tptr _ _ _ _ _ hcl⟩
  |bool=>simp only[dI]at hsn;injection hsn with hsn;subst hsn;exact⟨.bool _ _,.bool _⟩
  |int=>simp only[dI]at hsn;injection hsn with hsn;subst hsn;exact⟨.int _ _ _,.int _ _⟩
  |str=>simp only[dI]at hsn;injection hsn with hsn;subst hsn;exact⟨.str _ _,.str _⟩
  |nilp=>simp only[dI]at hsn;injection hsn with hsn;subst hsn;exact⟨.nilp _,.nilp⟩
  |nils=>simp only[dI]at hsn;injection hsn with hsn;subst hsn;exact⟨.nils _,.nils⟩
  |nilf=>simp only[dI]at hsn;injection hsn with hsn;subst hsn;exact⟨.nilf _,.nilf⟩
  |nilm=>simp only[dI]at hsn;injection hsn with hsn;subst hsn;exact⟨.nilm _,.nilm⟩
  |nili=>simp only[dI]at hsn;injection hsn with hsn;subst hsn;exact⟨.nili _,.nili⟩
  |esl _ a=>simp only[dI]at hsn;injection hsn with hsn;subst hsn;exact⟨.esl _ a,.esl⟩
  |hsl=>cases hcx
  |hptr=>cases hcx
  |hmap=>cases hcx
  |yld=>cases hcx
theorem Gz(s1:w.heap.size<=w'.heap.size)(s2:w'.os=w.os)(s3:w'.tape=w.tape)(s4:w'.output=w.output)(s5:w.drawn<=w'.drawn)
  (hb:∀b,b<w.heap.size->w'.heap[b]?=w.heap[b]?):Stp w γ w' γ :=
 ⟨s1,s2,s3,s4,λb h _=>hb b h,λ_ _ h=>h,(by grind),(by grind),s5⟩
theorem Rel.same(hr:Rel C A bd w γ hg nx)(s:Stp w γ w' γ)(hb:∀b,b<w.heap.size->w'.heap[b]?=w.heap[b]?):Rel C A bd w' γ hg nx where
 obj id:=(hr.obj id).step s rfl λhk _=>hb _ (hr.lt id hk).2
 lt id hk:=⟨(hr.lt id hk).1,TX (hr.lt id hk).2 s.sz⟩
 inj:=hr.inj
 av:=hr.av
 ab t b h:=TX (hr.ab t b h) s.sz
 glob g sz rows h:=(hr.glob g sz rows h).step s
structure Fin (C:Cfg) (A:Nat->Nat->Prop) (bd:Nat) (w:World) (γ:Gm) (hg:Nat->AObj) (nx:Nat) (g:G) (w':World) (γ':Gm) (hg':Nat->AObj) (g':G):Prop where
 rel:Rel C A bd w' γ' hg' (Nat.max nx g'.nx)
 stp:Stp w γ w' γ'
 new:∃new,g'.lg=new++g.lg/\(∀id∈new,hg' id=g'.h.get id)/\∀id,id ∉ new->hg' id=hg id
structure Mon (g g':G):Prop where
 nx:g.nx<=g'.nx
 new:∃new,g'.lg=new++g.lg/\(∀id,id ∉ new->g'.h.get id=g.h.get id)/\∀id∈new,id<g'.nx/\(g.h.get id=.none->g.nx<=id)
 wf:(∀id,g.nx<=id->g.h.get id=.none)->∀id,g'.nx<=id->g'.h.get id=.none
def WF(g:G):Prop:=∀id,g.nx<=id->g.h.get id=.none
theorem Mon.refl(g:G):Mon g g:=⟨Tp _,⟨[],rfl,λ_ _=>rfl,(by grind)⟩,λh=>h⟩
theorem Mon.trans{g g1 g2:G}(h1:Mon g g1)(h2:Mon g1 g2):Mon g g2:=by
 obtain⟨n1,a1,b1,c1⟩:=h1.new;obtain⟨n2,a2,b2,c2⟩:=h2.new;refine⟨TU h1.nx h2.nx,⟨n2++n1,by grind,λid hid=>?_,λid hid=>?_⟩,λh=>h2.wf (h1.wf h)⟩
 ·grind
 ·by_cases hin:id∈n1
  ·grind[TX,nx]
  ·rcases Uf.1 hid with h|h
   ·exact⟨(c2 id h).1,λhn=>TU h1.nx ((c2 id h).2 (by grind))⟩
   grind
def Free(γ:Gm)(g g':G):Prop:=∀id,g.nx<=id->id<=g'.nx->(γ id).kind=0
theorem Fin.refl{g:G}(hr:Rel C A bd w γ hg nx):Fin C A bd w γ hg nx g w γ hg g :=
 ⟨hr.up (UM _ _),Stp.refl _ _,⟨[],rfl,(by grind),λ_ _=>rfl⟩⟩
theorem Rel.none_iff(hr:Rel C A bd w γ hg nx)(id:Nat):(γ id).kind=0↔hg id=.none:=by
 have h:=hr.obj id;constructor
 ·intro hk;cases ho:hg id with
  |none=>rfl
  |_=>rw[ho]at h;have:=h.1;omega
 ·intro hn;rw[hn]at h;exact h
theorem Fin.freed{g g1 g2:G}{w1:World}{γ1:Gm}{hg1:Nat->AObj}(h1:Fin C A bd w γ hg nx g w1 γ1 hg1 g1)(hr:Rel C A bd w γ hg nx)(m1:Mon g g1)(hf:Free γ g g2):Free γ1 g1 g2:=by
 obtain⟨n,a,b,c⟩:=h1.new;obtain⟨n',a',b',c'⟩:=m1.new;have e:n'=n:=VP (a'.symm.trans a);subst e;intro id h2 h3;have hn:id ∉ n':=λh=>by grind
 rw[h1.rel.none_iff,c id hn,<-hr.none_iff];exact hf id (TU m1.nx h2) h3
theorem Free.le{γ:Gm}{g g1 g2:G}(h:Free γ g g2)(hle:g1.nx<=g2.nx):Free γ g g1:=λid h1 h2=>h id h1 (TU h2 hle)
theorem Fin.ext{g g':G}{hg':Nat->AObj}(h:Fin C A bd w γ hg nx g w' γ' hg' g')(m:Mon g g')(hx:Ext g.h hg):Ext g'.h hg':=by
 obtain⟨n,a,b,c⟩:=h.new;obtain⟨n',a',b',_⟩:=m.new;have e:n'=n:=VP (a'.symm.trans a);subst e;intro id hid
 by_cases hin:id∈n'
 ·grind
 ·rw[c id hin,b' id hin];exact hx id (by grind)
theorem Fin.trans{g g1 g2:G}{w1 w2:World}{γ1 γ2:Gm}{hg1 hg2:Nat->AObj}(h1:Fin C A bd w γ hg nx g w1 γ1 hg1 g1)
  (h2:Fin C A bd w1 γ1 hg1 (Nat.max nx g1.nx) g1 w2 γ2 hg2 g2) (m1:Mon g g1) (m2:Mon g1 g2):Fin C A bd w γ hg nx g w2 γ2 hg2 g2:=by
 obtain⟨n1,a1,b1,c1⟩:=h1.new;obtain⟨n2,a2,b2,c2⟩:=h2.new;obtain⟨n',a',b',_⟩:=m2.new;have e:n'=n2:=VP (a'.symm.trans a2);subst e;refine⟨?_,h1.stp.trans h2.stp,⟨n'++n1,by grind,λid hid=>?_,λid hid=>?_⟩⟩
 ·refine h2.rel.up (Nat.max_le.2 ⟨Nat.max_le.2 ⟨UM _ _,TU m2.nx (Nat.le_max_right _ _)⟩,Nat.le_max_right _ _⟩)
 all_goals grind
def wc(K:CallKind)(cs:List Frame):Prop:=K=.normal\/(K=.deferred/\∃c cs',cs=c::cs'/\(c.mode=.returning\/∃v x older,c.mode=.panicking ({ v,recovered:=true,goexit:=x }::older)))
def Outs(P:Program)(K:CallKind)(f:FuncId)(vs:Array Value)(cs:List Frame)(w:World)(u:Value)(w':World):Prop :=
 ∃fr,Steps P (lone (Frame.enter P f vs K) cs w) (lone fr cs w')/\fr.mode=.returning/\fr.defers=[]/\fr.kind=K/\fr.fn=f /\
  ∃fn,P.funcs[f]?=some fn/\(results fn fr.tmps).run P w'=.ok u w'
def Enters(P:Program)(f:FuncId):Prop:=∀args w,(callFunc f args).run P w=.ok (.enter f args) w
def Ia(C:Cfg)(bd:Nat)(f:FuncId)(as:List AV)(g:G)(v:AV)(g':G):Prop :=
 ∀A w γ hg nx vs,Rel C A bd w γ hg nx->Ext g.h hg->WF g->Free γ g g'->RVs w γ A bd as vs->∀K cs,wc K cs ->
  ∃u w' γ' hg',Fin C A bd w γ hg nx g w' γ' hg' g'/\RV w' γ' A bd v u/\Outs C.P K f vs.toArray cs w u w'
def K_(C:Cfg)(ih:IH):Prop :=
 ∀bd f as g v g',ih.call (bd+1) f as g=.ok v g'->Enters C.P f/\Ia C bd f as g v g'
def H_(ih:IH):Prop:=∀d f as g v g',ih.call d f as g=.ok v g'->WF g->Mon g g'
theorem B1:∀(ids:List Nat) (g:G),WF g->Mon g (cE g ids):=by
 intro ids
 induction ids with
 |nil=>intro g _;exact Mon.refl g
 | cons i is ih =>
  intro g hwf;simp only[cE]
  split
  ·rename_i sz rows ep lo fz hget;have hi:i<g.nx:=Nat.lt_of_not_le λh=>by have:=hwf i h;simp_all
   refine Mon.trans ⟨by simp,⟨[i],by simp,λid hid=>?_,λid hid=>?_⟩,λh id hid=>?_⟩ (ih _ λid hid=>?_)
   ·simp_all[Q_]
   ·simp_all
   ·simp only[G.put_nx]at hid;simp only[G.put_h,Q_];grind
   ·simp only[G.put_nx]at hid;simp only[G.put_h,Q_];rw[TF (by omega)];exact hwf id hid
  grind
theorem B2:∀(ids:List Nat) (g:G) (γ:Gm) (hg:Nat->AObj),Rel C A bd w γ hg nx->(∀id∈ids,g.h.get id≠.none->hg id=g.h.get id) ->
  ∃γ₁ hg₁,Rel C A bd w γ₁ hg₁ nx/\Stp w γ w γ₁/\(cE g ids).nx=g.nx /\
   (∃new,(cE g ids).lg=new++g.lg/\(∀id∈new,hg₁ id=(cE g ids).h.get id)/\(∀id,id ∉ new->hg₁ id=hg id)) /\
   (∀id,(γ₁ id).kind=(γ id).kind/\(γ₁ id).blk=(γ id).blk/\((γ₁ id).wr=true->(γ id).wr=true)) /\
   (∀id∈ids,(∃sz rows ep lo fz,g.h.get id=.cells sz rows ep lo fz)->(γ₁ id).wr=false):=by
 intro ids
 induction ids with
 | nil =>
  intro g γ hg hr hx;exact⟨γ,hg,hr,Stp.refl _ _,rfl,⟨[],rfl,(by grind),λ_ _=>rfl⟩,(by grind),(by grind)⟩
 | cons i is ih =>
  intro g γ hg hr hx;simp only[cE]
  split
  ·rename_i sz rows ep lo fz hget;have hget':g.h.get i=.cells sz rows ep lo fz:=by simp_all
   have hid:hg i=.cells sz rows ep lo fz:=by grind
   obtain⟨γ₀,r0,s0,e0,m0⟩:=hr.freeze hid;have hx0:∀id∈is,(g.put i (.cells sz rows ep lo true)).h.get id≠.none->upd hg i (.cells sz rows ep lo true) id=(g.put i (.cells sz rows ep lo true)).h.get id:=by
    intro id hin hne;simp only[G.put_h,Q_]at hne ⊢;unfold upd
    grind
   obtain⟨γ₁,hg₁,r1,s1,n1,⟨new,l1,l2,l3⟩,f1,f2⟩:=ih _ γ₀ _ r0 hx0;refine⟨γ₁,hg₁,r1,s0.trans s1,by simp_all,⟨new++[i],by simp_all,λid hid'=>?_,λid hid'=>?_⟩,λid=>?_,λid hid' hc=>?_⟩
   ·by_cases hin:id∈new
    ·grind
    ·have hi:id=i:=by
      grind
     subst hi;rw[l3 id hin];simp only[upd_same]
     by_cases hwf:∃new',(cE (g.put id (.cells sz rows ep lo true)) is).lg=new'++(g.put id (.cells sz rows ep lo true)).lg/\∀k,k ∉ new'->(cE (g.put id (.cells sz rows ep lo true)) is).h.get k=(g.put id (.cells sz rows ep lo true)).h.get k
     ·obtain⟨new',q1,q2⟩:=hwf;have e:new'=new:=VP (q1.symm.trans l1);simp_all[Q_]
     ·exact absurd (freezeIds_log is _) hwf
   ·simp_all[cQ]
   ·obtain⟨a,b,c⟩:=f1 id;rw[e0]at a b c;unfold upd at a b c
    grind
   ·rcases T3.1 hid' with rfl|hin
    ·have:=(f1 id).2.2;simp_all
    ·by_cases hi:id=i
     ·subst hi;have:=(f1 id).2.2;simp_all
     ·refine f2 id hin ?_;simp_all[Q_]
  simp_all where
 freezeIds_log:∀(ids:List Nat) (g:G),∃new',(cE g ids).lg=new'++g.lg/\∀k,k ∉ new'->(cE g ids).h.get k=g.h.get k:=by
  intro ids
  induction ids with
  |nil=>intro g;exact⟨[],rfl,λ_ _=>rfl⟩
  | cons i is ih =>
   intro g;simp only[cE]
   split
   ·rename_i sz rows ep lo fz hget;obtain⟨new,a,b⟩:=ih (g.put i (.cells sz rows ep lo true));refine⟨new++[i],by simp_all,λk hk=>?_⟩;simp_all[Q_]
   simp_all
def gOf(g:G):OR->G
 |.upd _ g'=>g'
 |_=>g
def vOf:OR->AV
 |.upd v _=>v
 |.val v=>v
 |_=>.undef
theorem yD{ih:IH}{d:Nat}{g:G}{f:Nat}{args:List AV}(hwf:WF g):Mon g (gOf g (am ih d g f args)):=by
 unfold am
 split
 ·exact Mon.refl g
 split
 ·exact Mon.refl g
 split
 ·exact Mon.refl g
 split
 ·exact Mon.refl g
 rw[aa]
 split
 ·exact Mon.refl g
 split
 ·exact Mon.refl g
 split
 ·exact Mon.refl g
 rw[aa]
 split
 ·exact B1 _ _ hwf
 ·exact Mon.refl g
theorem yE{ih:IH}{g:G}{f:Nat}{args:List AV}{vs:List Value}(hc:K_ C ih)(hm:H_ ih)(hr:Rel C A bd w γ hg nx)
  (hx:∀id∈args.flatMap (aC g.h aD),g.h.get id≠.none->hg id=g.h.get id)
  (hv:RVs w γ A bd args vs) (hne:am ih (bd+1) g f args≠.fail) (cs:List Frame) :
  Enters C.P f/\∃u w' γ' hg',Fin C A bd w γ hg nx g w' γ' hg' (gOf g (am ih (bd+1) g f args))/\RV w' γ' A bd (vOf (am ih (bd+1) g f args)) u /\
   Outs C.P .normal f vs.toArray cs w u w':=by
 let γc:Gm:=λ_=>⟨0,0,0,0,0,0,0,false⟩
 let L:Nat->Prop:=λid=>id∈args.flatMap (aC g.h aD)
 let isC:Nat->Prop:=λid=>∃sz rows ep lo fz,g.h.get id=.cells sz rows ep lo fz
 let Ac:Nat->Nat->Prop:=λt b=>(t<=bd/\(A t b\/Mut γ b))\/(t=bd+1/\b<w.heap.size/\¬∃id,L id/\isC id/\(γ id).kind=1/\(γ id).blk=b)
 have hmutc:∀b,¬Mut γc b:=by rintro b ⟨id,h,_⟩;grind
 generalize hres:am ih (bd+1) g f args=res at *;unfold am at hres
 split at hres
 ·grind
 rename_i as has;have hshift:∀t b,t<=bd->b<w.heap.size->¬A t b->¬Mut γ b->¬Ac t b/\¬Mut γc b:=by
  grind
 have hargs:RVs w γc Ac (bd+1) as vs:=by refine⟨by rw[nI has];exact hv.1,λi y v hy hvi=>?_⟩;obtain⟨x,h1,h2⟩:=fM has i y hy;refine (Jo (L:=L) hr hx (VB _) (Tp _) hshift ?_ aD h2 (hv.2 i x v h1 hvi) λid hid=>VU.2 ⟨x,Tv h1,hid⟩).1<;>grind
 have hrc:Rel C Ac (bd+1) w γc (λ_=>.none) 0:=by
  refine⟨λid=>rfl,(by grind),(by grind),(by grind),?_,λgl sz rows h=>?_⟩
  ·rintro t b (⟨_,h|⟨id,h1,h2,h3⟩⟩|⟨_,h,_⟩)
   ·exact hr.ab t b h
   ·rw[<-h3];exact (hr.lt id h1).2
   omega
  ·have:=hr.glob gl sz rows h;exact (nQ this (Bc this (by grind)) hshift).mono (VB _)
 split at hres
 ·grind
 rename_i r g' hcall;have hempty:G.empty.h.get=λ_=>AObj.none:=by funext id;simp[G.empty,H.get,Rd]
 obtain⟨hent,hrun⟩:=hc (bd+1) f as G.empty r g' hcall;refine⟨hent,?_⟩;obtain⟨u,w',γ',hg',hfin,hru,hout⟩:=hrun Ac w γc (λ_=>.none) 0 vs hrc (λid h=>by grind) (λid _=>by rw[hempty])
  (λ_ _ _=>rfl) hargs .normal cs (.inl rfl)
 have hextc:Ext g'.h hg':=hfin.ext (hm _ _ _ _ _ _ hcall (λid _=>by rw[hempty])) (λid h=>by grind);have hsame:∀b,b<w.heap.size->w'.heap[b]?=w.heap[b]?:=λb hb=>hfin.stp.fr b hb (hmutc b);have hstp:Stp w γ w' γ:=Gz hfin.stp.sz hfin.stp.os hfin.stp.tape hfin.stp.output hfin.stp.dr hsame;have hrw:Rel C A bd w' γ hg nx:=hr.same hstp hsame
 split at hres
 ·grind
 rename_i r' hsnap;obtain⟨hr',hcl⟩:=Jo (A':=Ac) (γ':=γc) (L:=λ_=>True) hfin.rel (λid _=>hextc id) (Tp _) (Ue _) (by grind)
  (λid _ _ hk t _ _=>⟨hfin.rel.av id (by omega) t,hmutc _⟩) aD hsnap hru λ_ _=>trivial
 split at hres
 ·grind
 rename_i m hm;have hrm:=Er _ hm hr';rw[aa]at hres
 split at hres
 ·rename_i hlt;rw[UF]at hlt;subst hres;refine⟨u,w',γ,hg,⟨hrw.up (UM _ _),hstp,⟨[],rfl,(by grind),λ_ _=>rfl⟩⟩,?_,hout⟩;refine (nQ hrm hcl (by grind)).mono (by omega)
 ·split at hres
  ·grind
  rename_i r'' hun
  split at hres
  ·grind
  rename_i m' hm';rw[aa]at hres
  split at hres
  rotate_left
  ·grind
  rename_i hlt;rw[UF]at hlt;subst hres;obtain⟨γ₁,hg₁,r1,s1,n1,⟨new,l1,l2,l3⟩,f1,f2⟩:=B2 (args.flatMap (aC g.h aD)) g γ hg hrw hx;have hmut:∀b,Mut γ₁ b->Mut γ b:=by rintro b ⟨id,h1,h2,h3⟩;obtain⟨e1,e2,e3⟩:=f1 id;exact⟨id,by omega,e3 h2,by omega⟩
  refine⟨u,w',γ₁,hg₁,⟨r1.up (UM _ _),hstp.trans s1,⟨new,l1,l2,l3⟩⟩,?_,hout⟩
  let A₁:Nat->Nat->Prop:=λt b=>if t=bd+1 then ∃t',A t' b else A t b
  have hmle:m<=bd+1:=zy _ hm hr';have hsh:RV w' γ₁ A₁ m r' u:=by
   refine nQ hrm hcl λt b h1 h2 h3 _=>?_
   by_cases ht:t=bd+1
   ·have hb:w.heap.size<=b\/∃id,L id/\isC id/\(γ id).kind=1/\(γ id).blk=b:=by
     grind
    rcases hb with hb|⟨id,q1,q2,q3,q4⟩
    ·refine⟨?_,λhmu=>?_⟩
     ·simp only[A₁,ht,if_true];rintro⟨t',h⟩;have:=hr.ab t' b h;omega
     ·obtain⟨id,p1,p2,p3⟩:=hmut b hmu;have:=(hr.lt id p1).2;omega
    ·refine⟨?_,?_⟩
     ·simp only[A₁,ht,if_true];rintro⟨t',h⟩;rw[<-q4]at h;exact hr.av id (by omega) t' h
     ·rintro⟨j,p1,p2,p3⟩;obtain⟨e1,e2,e3⟩:=f1 j;have hj:j=id:=hr.inj j id (by omega) (by omega) (by omega)
      grind
   grind
  obtain⟨hf1,_⟩:=NM (A':=A) (d:=bd+1) (λt b h1 h2=>by grind)
   (λb h2 t ht=>h2 (by grind)) aD hun (hsh.mono hmle) hcl
  exact (Er _ hm' hf1).mono (by omega)
end
end Hx
end
section
namespace Hx
open Go
section
variable {C:Cfg}
theorem Mon.put{g:G}{id:Nat}{o:AObj}(hwf:WF g)(hid:g.h.get id≠.none):Mon g (g.put id o):=by
 have hi:id<g.nx:=Nat.lt_of_not_le λh=>hid (hwf id h);refine⟨by simp,⟨[id],by simp,λk hk=>?_,λk hk=>?_⟩,λh k hk=>?_⟩
 ·simp_all[Q_]
 ·simp_all
 ·simp only[G.put_nx]at hk;simp only[G.put_h,Q_];grind
theorem Mon.mk'{g:G}{o:AObj}:Mon g (g.new o):=by
 refine⟨by simp,⟨[g.nx],by simp,λk hk=>?_,λk hk=>?_⟩,λh k hk=>?_⟩
 ·simp_all[Q_]
 ·simp_all
 ·simp only[G.new_nx]at hk;simp only[G.new_h,Q_];grind
def Small(g:G):OR->Prop
 |.fail=>True
 |.val _=>True
 |.upd _ g'=>(∃id ob,g'=g.put id ob/\g.h.get id≠.none)\/∃ob,g'=g.new ob
 |.dfr _=>False
theorem Small.mon{g:G}{r:OR}(h:Small g r)(hwf:WF g):Mon g (gOf g r):=by
 cases r with
 | upd v g' =>
  rcases h with⟨id,ob,rfl,h⟩|⟨ob,rfl⟩
  ·exact Mon.put hwf h
  ·exact Mon.mk'
 |_=>exact Mon.refl g
variable {op:Op}{t:T}{g:G}{f:Stg SFn}
theorem mU(x:Option AV):Small g (orV x):=by cases x<;>trivial
theorem x9(sz bytes:Nat)(s:AV)(new:List (List AV)):Small g (bp sz bytes s new g):=by
 unfold bp;simp only[aa]
 repeat' split
 all_goals first
  |trivial
  |exact .inr ⟨_,rfl⟩
  |exact .inl ⟨_,_,rfl,λhn=>by simp_all⟩
theorem KS{P:Program}{op:BinOp}{ty:TypeId}{x y:AV}:Small g ((zJ P op ty).run x y):=by
 unfold zJ
 split
 ·split
  ·dsimp only;split<;>first|exact mU _|trivial
  ·dsimp only;split<;>trivial
 ·split
  ·dsimp only;split<;>first|exact mU _|trivial
  ·dsimp only;split<;>trivial
 ·dsimp only;split<;>first|exact mU _|trivial
theorem Nz{op:UnOp}{x:AV}:Small g ((unA op).run x):=by
 unfold unA
 split
 ·dsimp only;split<;>trivial
 ·dsimp only;split<;>first|exact mU _|trivial
theorem yd(h:cx C op=some f):Small g (f.run t g):=by
 cases op<;>simp only[cx]at h<;>first| (cases h;done)|skip
 case call c =>
  obtain⟨callee,args,argTypes⟩:=c;cases callee<;>first| (cases h;done)|skip
  rename_i b;dsimp only at h;unfold dt at h
  split at h
  all_goals
   repeat' (first|split at h| (rw[aa]at h;split at h))
   all_goals first| (cases h;done)|skip
   all_goals (injection h with h;subst h)
   all_goals dsimp only[dm,cC,mB,yx,ET,z6]
   all_goals try simp only[aa]
   all_goals repeat' split
   all_goals first
    |trivial
    |exact x9 _ _ _ _
    |exact .inr ⟨_,rfl⟩
    |exact .inl ⟨_,_,rfl,λhn=>by simp_all⟩
 all_goals
  repeat' (first|split at h| (rw[aa]at h;split at h))
  all_goals first| (cases h;done)|skip
  all_goals first| (injection h with h;subst h)|grind| (rename_i heq _;cases heq)
  all_goals dsimp only[mz,pw,Dr,Ln,oO,il,kh,gN,nH,vL,qb,ic,cp,ck,fZ,ip,iS]
  all_goals first
   |exact mU _
   |exact KS
   |exact Nz
   |skip
  all_goals try simp only[aa]
  all_goals repeat' split
  all_goals first
   |trivial
   |exact mU _
   |exact .inr ⟨_,rfl⟩
   |exact .inl ⟨_,_,rfl,λhn=>by simp_all⟩
   |skip
def oI(C:Cfg):Prop:=∀f e,C.ext f=some e->∀d args g,WF g->Mon g (gOf g (e d args g))
structure IHMon (ih:IH):Prop where
 code:∀nt d rd c t df g e t' df' g',ih.code nt d rd c t df g=.ok e t' df' g'->WF g->Mon g g'
 call:H_ ih
variable {ih:IH}
theorem HL(hi:IHMon ih){d id:Nat}{args:List AV}{g:G}(hwf:WF g):Mon g (gOf g (cz ih d id args g)):=by
 unfold cz
 split
 ·split
  ·exact Mon.refl g
  ·split
   ·rename_i t1 g1 h1;have m1:=hi.code _ _ _ _ _ _ _ _ _ _ _ h1 hwf;have w1:WF g1:=m1.wf hwf
    split
    ·rename_i hget
     split
     ·rename_i g2 h2;have hne:g1.h.get id≠.none:=by simp_all
      have m2:=λo=>Mon.put (o:=o) w1 hne;have m3:=hi.code _ _ _ _ _ _ _ _ _ _ _ h2 ((m2 _).wf w1);have m4:=m1.trans ((m2 _).trans m3)
      split
      ·rename_i hget2;have hne2:g2.h.get id≠.none:=by simp_all
       split
       all_goals exact m4.trans (Mon.put (m4.wf hwf) hne2)
      ·exact Mon.refl g
     ·exact Mon.refl g
    ·exact Mon.refl g
   ·exact Mon.refl g
 ·exact Mon.refl g
theorem IX{g:G}{r:FR}(h:∀v g',r=.ok v g'->Mon g g'):Mon g (gOf g (orF r)):=by
 cases r with
 |fail=>exact Mon.refl g
 |ok v g'=>exact h v g' rfl
theorem JL(he:oI C)(hi:IHMon ih){d:Nat}{fv:AV}{vs:List AV}{g:G}(hwf:WF g):Mon g (gOf g (io C ih d fv vs g)):=by
 unfold io
 split
 ·split
  ·rename_i e h;exact he _ e h _ _ g hwf
  ·rw[aa]
   split
   ·simp_all[yD]
   ·exact IX λv g' h=>hi.call _ _ _ _ _ _ h hwf
 ·grind[HL]
 ·exact Mon.refl g
theorem Oa(he:oI C)(hi:IHMon ih){op:Op}{f:Stg Ld}(h:cOp C op=some f){d:Nat}{rd:Option Nat}{t:T}{g:G}(hwf:WF g) :
  Mon g (gOf g (f.run ih d rd t g)):=by
 unfold cOp at h
 split at h
 ·split at h
  ·split at h
   ·rename_i e hext;injection h with h;subst h;exact he _ e hext _ _ g hwf
   ·rw[aa]at h
    split at h
    ·injection h with h;subst h;exact yD hwf
    ·injection h with h;subst h;exact IX λv g' h=>hi.call _ _ _ _ _ _ h hwf
  grind
 ·split at h
  ·injection h with h;subst h;grind[JL]
  grind
 ·injection h with h;subst h;exact Mon.refl g
 ·split at h
  ·injection h with h;subst h;dsimp only
   split
   ·exact Mon.refl g
   ·split<;>exact Mon.refl g
  grind
 ·split at h
  ·rename_i s hs;injection h with h;subst h
   grind[Small.mon,yd]
  grind
theorem mX(he:oI C)(hi:IHMon ih){op:Op}{d:Nat}{rd:Option Nat}{t:T}{g:G}(hwf:WF g) :
  Mon g (gOf g ((cB C op).run ih d rd t g)):=by
 unfold cB
 split
 ·grind[Oa]
 ·exact Mon.refl g
theorem Bm{out:T->AV->T}{next:T->List ADf->G->CR}{t:T}{df:List ADf}{g:G}{r:OR}{e:Ex}{t':T}{df':List ADf}{g':G}
  (h:px out next t df g r=.ok e t' df' g') (hwf:WF g) (hr:Mon g (gOf g r)) (hn:∀t df g1,next t df g1=.ok e t' df' g'->WF g1->Mon g1 g'):Mon g g':=by
 cases r with
 |fail=>cases h
 |val v=>exact hn _ _ _ h hwf
 |upd v g1=>exact hr.trans (hn _ _ _ h (hr.wf hwf))
 |dfr a=>exact hn _ _ _ h hwf
theorem zQ(he:oI C)(hi:IHMon ih){nt:Nat}{all:List Oper}:∀{ops:List Oper} {d:Nat} {rd:Option Nat} {t:T} {df:List ADf} {g:G} {e:Ex} {t':T} {df':List ADf} {g':G},
  (jS C nt all ops).run ih d rd t df g=.ok e t' df' g'->WF g->Mon g g':=by
 intro ops
 induction ops with
 |nil=>simp_all[jS,Mon.refl]
 | cons o rest ihl =>
  intro d rd t df g e t' df' g' h hwf;simp only[jS]at h
  split at h
  ·split at h
   ·exact Bm h hwf (mX he hi hwf) λ_ _ _ h1 h2=>ihl h1 h2
   ·split at h
    ·dsimp only at h
     split at h
     ·exact Bm h hwf (mX he hi hwf) λ_ _ _ h1 h2=>ihl h1 h2
     ·exact ihl h hwf
     ·cases h
    ·cases h
  ·cases h
theorem WF.setLog{g:G}{l:List Nat}(h:WF g):WF (aO g l):=λid hid=>by simp only[setLog_nx]at hid;simp only[setLog_h];exact h id hid
theorem Ra{g:G}:Mon g (im g g.lg) :=
 ⟨by simp,⟨[],by simp,λid _=>by simp,(by grind)⟩,λh id hid=>by grind[bumpG_nx,bumpG_h]⟩
theorem Rb{g g1:G}(h:Mon (aO g []) g1):Mon g (im g1 (g1.lg++g.lg)):=by
 obtain⟨n,a,b,c⟩:=h.new;have hnx:g.nx<=g1.nx:=by simpa using h.nx
 refine⟨by simp;omega,⟨g1.lg,by simp,λid hid=>?_,λid hid=>?_⟩,λhw id hid=>?_⟩
 ·simp_all
 ·have e:g1.lg=n:=by simp_all
  rw[e]at hid;have:=c id hid;simp only[setLog_h,setLog_nx]at this;exact⟨by simp;omega,this.2⟩
 grind[bumpG_nx,bumpG_h,setLog_h]
theorem JJ(he:oI C)(hi:IHMon ih){nt:Nat}{pm:List Nat}{all:List Oper}:∀{ops:List Oper} {i d:Nat} {rd:Option Nat} {t:T} {df:List ADf} {g:G} {fs:List Foot} {e:Ex} {t':T} {df':List ADf} {g':G},
  (iX C nt pm all i ops).run ih d rd t df g fs=.ok e t' df' g'->WF g->Mon g g':=by
 intro ops
 induction ops with
 | nil =>
  intro i d rd t df g fs e t' df' g' h _;simp only[iX,aa]at h
  split at h<;>grind[Mon.refl]
 | cons o rest ihl =>
  intro i d rd t df g fs e t' df' g' h hwf;simp only[iX]at h
  split at h
  ·dsimp only at h
   split at h
   ·have hm:=mX (op:=o.op) (d:=d) (rd:=rd) (t:=t) he hi (hwf.setLog (l:=[]));generalize (cB C o.op).run ih d rd t (aO g [])=r at h hm;cases r with
    |fail=>cases h
    |val v=>exact Ra.trans (ihl h (Ra.wf hwf))
    | upd v g1 =>
     have m1:=Rb hm;exact m1.trans (ihl h (m1.wf hwf))
    |dfr a=>cases h
   all_goals grind
  grind
theorem ER(he:oI C)(hi:IHMon ih){nt:Nat}{ops:List Oper}{draw:Bool}{d:Nat}{rd:Option Nat}{t:T}{df:List ADf}{g:G}{e:Ex}{t':T}{df':List ADf}{g':G}
  (h:(fV C nt ops draw).run ih d rd t df g=.ok e t' df' g') (hwf:WF g):Mon g g':=by
 unfold fV at h;rw[aa]at h
 split at h
 ·rw[aa]at h
  split at h
  ·rw[aa]at h
   split at h
   ·dsimp only at h;unfold nM at h
    split at h<;>grind[aa,Mon.refl]
   grind[JJ]
  ·cases h
 grind[zQ]
theorem xd(hi:IHMon ih){nt d:Nat}{rd:Option Nat}{id:Nat}{t:T}{df:List ADf}{g:G}{e:Ex}{t':T}{df':List ADf}{g':G}
  (h:cM ih nt d rd id t df g=.ok e t' df' g') (hwf:WF g):Mon g g':=by
 unfold cM at h
 split at h
 ·rename_i hget;have hne:g.h.get id≠.none:=by simp_all
  have m:∀o,Mon g (g.put id o):=λo=>Mon.put hwf hne
  split at h
  ·cases h
  ·split at h
   ·grind
   ·exact (m _).trans (hi.code _ _ _ _ _ _ _ _ _ _ _ h ((m _).wf hwf))
 grind
theorem pt(hi:IHMon ih){nt d:Nat}{rd:Option Nat}{fv:AV}{ps:List Nat}{assign body:Code}{t:T}{df:List ADf}{dfr:Nat}{g:G}{e:Ex}{t':T}{df':List ADf}{g':G}
  (h:co C ih nt d rd fv ps assign body t df dfr g=.ok e t' df' g') (hwf:WF g):Mon g g':=by
 unfold co at h
 split at h
 ·rw[aa]at h
  split at h
  ·cases h
  ·split at h
   ·rename_i v g2 h2;have m1:Mon g (g.new (.loop nt t ps assign body dfr .ready none)):=Mon.mk';have m2:=hi.call _ _ _ _ _ _ h2 (m1.wf hwf);have m3:=m1.trans m2;exact m3.trans (xd hi h (m3.wf hwf))
   grind
 grind
theorem HG(hi:IHMon ih){nt d:Nat}{rd:Option Nat}{fo:T->AV}{ps:List Nat}{assign body:Code}{t:T}{df:List ADf}{g:G}{e:Ex}{t':T}{df':List ADf}{g':G}
  (h:nN C nt fo ps assign body ih d rd t df g=.ok e t' df' g') (hwf:WF g):Mon g g':=by
 unfold nN at h
 split at h
 ·split at h
  ·exact pt hi h hwf
  ·cases h
 ·have m1:Mon g (g.new (.dfr true)):=Mon.mk';exact m1.trans (pt hi h (m1.wf hwf))
theorem mN(he:oI C)(hi:IHMon ih){nt:Nat}:∀(c:Code) {d:Nat} {rd:Option Nat} {t:T} {df:List ADf} {g:G} {e:Ex} {t':T} {df':List ADf} {g':G},
  (aX C nt c).run ih d rd t df g=.ok e t' df' g'->WF g->Mon g g':=by
 intro c;have now:∀{e e':Ex} {t t':T} {df df':List ADf} {g g':G},CR.ok e' t df g=.ok e t' df' g'->Mon g g':=by
  grind[Mon.refl]
 induction c with
 |skip=>intro d rd t df g e t' df' g' h _;exact now h
 |label l=>intro d rd t df g e t' df' g' h _;exact now h
 |region id ops draw=>intro d rd t df g e t' df' g' h hwf;exact ER he hi h hwf
 | seq a b iha ihb =>
  intro d rd t df g e t' df' g' h hwf;simp only[aX]at h;generalize hr:(aX C nt a).run ih d rd t df g=r at h;cases r with
  |fail=>cases h
  | ok e1 t1 df1 g1 =>
   have m1:=iha hr hwf;cases e1 with
   |norm=>exact m1.trans (ihb h (m1.wf hwf))
   |exit j=>exact m1.trans (now h)
   |ret=>exact m1.trans (now h)
 | cond c a b iha ihb =>
  intro d rd t df g e t' df' g' h hwf;simp only[aX]at h
  split at h
  ·grind[aa]
  ·cases h
 | block id body ihb =>
  intro d rd t df g e t' df' g' h hwf;simp only[aX]at h;generalize hr:(aX C nt body).run ih d rd t df g=r at h;cases r with
  |fail=>cases h
  | ok e1 t1 df1 g1 =>
   have m1:=ihb hr hwf;cases e1<;>grind[u7,aa]
 | loop body ihb =>
  intro d rd t df g e t' df' g' h hwf;simp only[aX]at h;generalize hr:(aX C nt body).run ih d rd t df g=r at h;cases r with
  |fail=>cases h
  | ok e1 t1 df1 g1 =>
   have m1:=ihb hr hwf;cases e1 with
   |norm=>exact m1.trans (hi.code _ _ _ _ _ _ _ _ _ _ _ h (m1.wf hwf))
   |exit j=>exact m1.trans (now h)
   |ret=>exact m1.trans (now h)
 |scope body ihb=>intro d rd t df g e t' df' g' h hwf;exact ihb h hwf
 |exit id=>intro d rd t df g e t' df' g' h _;exact now h
 |ret=>intro d rd t df g e t' df' g' h _;exact now h
 | rangeFunc f ps assign body _ _ =>
  intro d rd t df g e t' df' g' h hwf;simp only[aX]at h
  split at h
  ·grind[HG]
  ·cases h
 |_=>intro d rd t df g e t' df' g' h _;cases h
theorem uh(hi:IHMon ih){d:Nat}:∀{df:List ADf} {g g':G},fp ih d df g=some g'->WF g->Mon g g':=by
 intro df
 induction df with
 |nil=>grind[fp,Mon.refl]
 | cons a df ihl =>
  intro g g' h hwf;cases a with
  | mark id =>
   simp only[fp]at h
   split at h
   ·rename_i hget;have m:Mon g (g.put id (.dfr false)):=Mon.put hwf (by simp_all);exact m.trans (ihl h (m.wf hwf))
   grind
  | call f args =>
   cases f<;>simp only[fp]at h<;>first| (cases h;done)|skip
   split at h
   ·rename_i v g1 h1;have m:=hi.call _ _ _ _ _ _ h1 hwf;exact m.trans (ihl h (m.wf hwf))
   grind
theorem N9(he:oI C)(hi:IHMon ih){f:Nat}{x:Stg (IH->Nat->List AV->G->FR)}(hx:cFn C f=some x){d:Nat}{args:List AV}{g:G}{v:AV}{g':G}
  (h:x.run ih d args g=.ok v g') (hwf:WF g):Mon g g':=by
 unfold cFn at hx
 split at hx
 ·cases hx
 split at hx
 ·cases hx
 split at hx
 ·rw[aa]at hx
  split at hx
  ·cases hx
  injection hx with hx;subst hx;dsimp only at h;rw[aa]at h
  split at h
  ·split at h
   ·cases h
   ·rename_i hc;have m1:=mN he hi _ hc hwf;unfold gW at h
    split at h
    ·cases h
    ·rename_i g2 h2;have m2:=uh hi h2 (m1.wf hwf)
     split at h<;>grind[Mon.trans]
   grind
  grind
 grind
theorem Jj(he:oI C):∀n,IHMon (sem C n):=by
 intro n
 induction n with
 |zero=>exact⟨λnt d rd c t df g e t' df' g' h=>(by cases h),λd f as g v g' h=>(by cases h)⟩
 | succ n ihn =>
  refine⟨λnt d rd c t df g e t' df' g' h hwf=>mN he ihn c h hwf,λd f as g v g' h hwf=>?_⟩;change eP C (sem C n) d f as g=.ok v g' at h
  grind[eP,N9]
end
end Hx
end
section
namespace Hx
open Go
def CLe(a b:CR):Prop:=a=.fail\/a=b
def FLe(a b:FR):Prop:=a=.fail\/a=b
def OLe(a b:OR):Prop:=a=.fail\/a=b
structure IHLe (i j:IH):Prop where
 code:∀nt d rd c t df g,CLe (i.code nt d rd c t df g) (j.code nt d rd c t df g)
 call:∀d f as g,FLe (i.call d f as g) (j.call d f as g)
variable {i j:IH}
theorem vM(h:IHLe i j){d:Nat}{g:G}{f:Nat}{args:List AV}:OLe (am i d g f args) (am j d g f args):=by
 unfold am
 split
 ·exact .inl rfl
 ·rename_i as _;rcases h.call (Nat.succ d) f as G.empty with e|e<;>rw[e]
  ·exact .inl rfl
  ·exact .inr rfl
theorem KH(h:IHLe i j){d id:Nat}{args:List AV}{g:G}:OLe (cz i d id args g) (cz j d id args g):=by
 unfold cz
 split
 ·split
  ·exact .inl rfl
  ·rename_i nt t ps assign body dfr st pend hg o t' ht;rcases h.code nt d (some id) assign t' [] g with e|e<;>rw[e]
   ·exact .inl rfl
   ·split
    ·split
     ·rename_i t1 g1 _ _ nt1 t2 ps2 assign1 body1 dfr1 pend1 _;rcases h.code nt d (some id) body t1 [] (g1.put id (.loop nt1 t2 ps2 assign1 body1 dfr1 .busy pend1)) with e|e<;>rw[e]
      ·exact .inl rfl
      ·exact .inr rfl
     ·exact .inl rfl
    ·exact .inl rfl
 ·exact .inl rfl
theorem MT{a b:FR}(h:FLe a b):OLe (orF a) (orF b):=by
 rcases h with h|h<;>rw[h]
 ·exact .inl rfl
 ·exact .inr rfl
theorem Lt{C:Cfg}(h:IHLe i j){d:Nat}{fv:AV}{vs:List AV}{g:G}:OLe (io C i d fv vs g) (io C j d fv vs g):=by
 unfold io
 split
 ·split
  ·exact .inr rfl
  grind[aa,vM,MT,IHLe.call]
 ·exact KH h
 ·exact .inl rfl
theorem Dc{out:T->AV->T}{n m:T->List ADf->G->CR}{t:T}{df:List ADf}{g:G}{a b:OR}(h:OLe a b)(hn:∀t df g,CLe (n t df g) (m t df g)) :
  CLe (px out n t df g a) (px out m t df g b):=by
 rcases h with h|h<;>rw[h]
 ·exact .inl rfl
 ·cases b with
  |fail=>exact .inl rfl
  |val v=>exact hn _ _ _
  |upd v g'=>exact hn _ _ _
  |dfr a=>exact hn _ _ _
theorem GD{out:T->AV->T}{n m:T->List ADf->G->List Foot->CR}{t:T}{df:List ADf}{g:G}{fs:List Foot}{lk:Looks}{a b:OR}(h:OLe a b)
  (hn:∀t df g fs,CLe (n t df g fs) (m t df g fs)):CLe (lL out n t df g fs lk a) (lL out m t df g fs lk b):=by
 rcases h with h|h<;>rw[h]
 ·exact .inl rfl
 ·cases b with
  |fail=>exact .inl rfl
  |val v=>exact hn _ _ _ _
  |upd v g'=>exact hn _ _ _ _
  |dfr a=>exact .inl rfl
theorem Jk{n m:T->List ADf->G->CR}{a b:CR}(h:CLe a b)(hn:∀t df g,CLe (n t df g) (m t df g)):CLe (B_ n a) (B_ m b):=by
 rcases h with h|h<;>rw[h]
 ·exact .inl rfl
 ·unfold B_
  split
  ·grind
  ·exact .inr rfl
theorem JH{id:Nat}{a b:CR}(h:CLe a b):CLe (u7 id a) (u7 id b):=by
 rcases h with h|h<;>rw[h]
 ·exact .inl rfl
 ·exact .inr rfl
theorem F3{g:G}{a b:CR}(h:CLe a b):CLe (nM g a) (nM g b):=by
 rcases h with h|h<;>rw[h]
 ·exact .inl rfl
 ·exact .inr rfl
theorem PR{C:Cfg}(h:IHLe i j){op:Op}{x:Stg Ld}(hx:cOp C op=some x){d:Nat}{rd:Option Nat}{t:T}{g:G}:OLe (x.run i d rd t g) (x.run j d rd t g):=by
 unfold cOp at hx
 repeat' (first|split at hx|rw[aa]at hx)
 all_goals first
  | (cases hx;done)
  | (injection hx with hx;subst hx;first|exact .inr rfl|exact vM h|exact MT (h.call _ _ _ _)|exact Lt h)
theorem Dv{C:Cfg}(h:IHLe i j){op:Op}{d:Nat}{rd:Option Nat}{t:T}{g:G}:OLe ((cB C op).run i d rd t g) ((cB C op).run j d rd t g):=by
 unfold cB
 split
 ·grind[PR]
 ·exact .inl rfl
theorem wk{C:Cfg}(h:IHLe i j){nt:Nat}{all:List Oper}:∀(l:List Oper) (d:Nat) (rd:Option Nat) (t:T) (df:List ADf) (g:G),
  CLe ((jS C nt all l).run i d rd t df g) ((jS C nt all l).run j d rd t df g)
 |[],_,_,_,_,_=>.inr rfl
 | o::rest,d,rd,t,df,g=>by
  unfold jS
  split
  ·split
   ·exact Dc (Dv h) λt df g=>wk h rest d rd t df g
   ·split
    ·dsimp only
     split
     ·exact Dc (Dv h) λt df g=>wk h rest d rd t df g
     ·exact wk h rest d rd _ df g
     ·exact .inl rfl
    ·exact .inl rfl
  ·exact .inl rfl
theorem zP{C:Cfg}(h:IHLe i j){nt:Nat}{pm:List Nat}{all:List Oper}:∀(l:List Oper) (k d:Nat) (rd:Option Nat) (t:T) (df:List ADf) (g:G) (fs:List Foot),
  CLe ((iX C nt pm all k l).run i d rd t df g fs) ((iX C nt pm all k l).run j d rd t df g fs)
 |[],_,_,_,_,_,_,_=>.inr rfl
 | o::rest,k,d,rd,t,df,g,fs=>by
  unfold iX
  split
  ·dsimp only
   split
   ·exact GD (Dv h) λt df g fs=>zP h rest (k+1) d rd t df g fs
   ·exact zP h rest (k+1) d rd _ df g _
   ·exact .inl rfl
  ·exact .inl rfl
theorem GZ{C:Cfg}(h:IHLe i j){nt:Nat}{ops:List Oper}{draw:Bool}{d:Nat}{rd:Option Nat}{t:T}{df:List ADf}{g:G} :
  CLe ((fV C nt ops draw).run i d rd t df g) ((fV C nt ops draw).run j d rd t df g):=by
 unfold fV;rw[aa,aa,aa]
 split
 ·split
  ·split<;>grind[F3,wk,zP]
  ·exact .inl rfl
 grind[wk]
theorem F5(h:IHLe i j){nt d:Nat}{rd:Option Nat}{id:Nat}{t:T}{df:List ADf}{g:G}:CLe (cM i nt d rd id t df g) (cM j nt d rd id t df g):=by
 unfold cM
 split
 ·split
  ·exact .inl rfl
  ·split
   ·exact .inr rfl
   grind[IHLe.code]
 ·exact .inl rfl
theorem xa{C:Cfg}(h:IHLe i j){nt d:Nat}{rd:Option Nat}{fv:AV}{ps:List Nat}{assign body:Code}{t:T}{df:List ADf}{dfr:Nat}{g:G} :
  CLe (co C i nt d rd fv ps assign body t df dfr g) (co C j nt d rd fv ps assign body t df dfr g):=by
 unfold co
 split
 ·rename_i f first cap
  rw[aa,aa]
  split
  ·exact .inl rfl
  ·rcases h.call d f (first++(.yld g.nx::cap)) (g.new (.loop nt t ps assign body dfr .ready none)) with e|e<;>rw[e]
   ·exact .inl rfl
   ·split
    ·exact F5 h
    ·exact .inl rfl
 ·exact .inl rfl
theorem KD{C:Cfg}(h:IHLe i j){nt:Nat}{fo:T->AV}{ps:List Nat}{assign body:Code}{d:Nat}{rd:Option Nat}{t:T}{df:List ADf}{g:G} :
  CLe (nN C nt fo ps assign body i d rd t df g) (nN C nt fo ps assign body j d rd t df g):=by
 unfold nN
 split
 ·split
  ·exact xa h
  ·exact .inl rfl
 ·exact xa h
theorem EO{C:Cfg}(h:IHLe i j){nt:Nat}:∀(c:Code) (d:Nat) (rd:Option Nat) (t:T) (df:List ADf) (g:G),
  CLe ((aX C nt c).run i d rd t df g) ((aX C nt c).run j d rd t df g):=by
 intro c
 induction c with
 |seq a b iha ihb=>simp_all[aX,Jk]
 | cond q a b iha ihb =>
  intro d rd t df g;unfold aX
  split
  ·dsimp only
   split
   ·rw[aa,aa]
    split
    ·exact iha _ _ _ _ _
    ·exact ihb _ _ _ _ _
   ·exact .inl rfl
  ·exact .inl rfl
 |block id body ih=>simp_all[aX,JH]
 |loop body ih=>simp_all[aX,Jk,IHLe.code]
 |scope body ih=>grind[aX]
 |region p ops draw=>grind[aX,GZ]
 | rangeFunc f ps assign body _ _ =>
  intro d rd t df g;unfold aX
  split
  ·exact KD h
  ·exact .inl rfl
 |_=>intro d rd t df g;first|exact .inr rfl|exact .inl rfl
def ULe(a b:Option G):Prop:=a=none\/a=b
theorem Nl(h:IHLe i j){d:Nat}:∀(l:List ADf) (g:G),ULe (fp i d l g) (fp j d l g):=by
 intro l
 induction l with
 |nil=>intro g;exact .inr rfl
 | cons a l ih =>
  intro g;cases a with
  | mark id =>
   simp only[fp]
   split
   ·grind
   ·exact .inl rfl
  | call fv args =>
   cases fv with
   | clo f first cap =>
    simp only[fp];rcases h.call d f (first++(args++cap)) g with e|e<;>rw[e]
    ·exact .inl rfl
    ·split
     ·exact ih _
     ·exact .inl rfl
   |_=>exact .inl rfl
theorem G9(h:IHLe i j){d:Nat}{res:T->G->Option (List AV)}{t:T}{df:List ADf}{g:G}:FLe (gW i d res t df g) (gW j d res t df g):=by
 unfold gW;rcases Nl h (d:=d) df g with e|e<;>rw[e]
 ·exact .inl rfl
 ·exact .inr rfl
theorem ES{C:Cfg}(h:IHLe i j){d f:Nat}{args:List AV}{g:G}:FLe (eP C i d f args g) (eP C j d f args g):=by
 unfold eP
 split
 ·rename_i x hx;unfold cFn at hx
  split at hx
  ·cases hx
  rename_i fn hfn
  split at hx
  ·cases hx
  rename_i c hbody
  split at hx
  rotate_left
  ·cases hx
  rename_i r hres;rw[aa]at hx
  split at hx
  ·cases hx
  injection hx with hx;subst hx;dsimp only;rw[aa,aa]
  split
  ·rcases EO h (C:=C) (nt:=fn.ntmps) c d none (cy 0 args .nil) [] g with e|e<;>rw[e]
   ·exact .inl rfl
   ·split
    ·exact .inl rfl
    ·exact G9 h
    ·exact .inl rfl
  ·exact .inl rfl
 ·exact .inl rfl
theorem KV{C:Cfg}(h:IHLe i j):IHLe (HX C i) (HX C j) :=
 ⟨λnt d rd c t df g=>EO h c d rd t df g,λd f as g=>ES h⟩
theorem yQ(C:Cfg):∀n,IHLe (sem C n) (sem C (n+1))
 |0=>⟨λ_ _ _ _ _ _ _=>.inl rfl,λ_ _ _ _=>.inl rfl⟩
 |n+1=>KV (yQ C n)
theorem Eh(C:Cfg){n m:Nat}(h:n<=m):IHLe (sem C n) (sem C m):=by
 induction h with
 |refl=>exact⟨λ_ _ _ _ _ _ _=>.inr rfl,λ_ _ _ _=>.inr rfl⟩
 | @step k h ih =>
  have s:=yQ C k;refine⟨λnt d rd c t df g=>?_,λd f as g=>?_⟩
  ·rcases ih.code nt d rd c t df g with e|e
   ·exact .inl e
   grind[IHLe.code]
  ·rcases ih.call d f as g with e|e
   ·exact .inl e
   grind[IHLe.call]
end Hx
end
section
namespace Hx
open Go
open Classical in
noncomputable def I(C:Cfg):IH :=
 ⟨λnt d rd c t df g=>if h:∃n,(sem C n).code nt d rd c t df g≠.fail then (sem C (Classical.choose h)).code nt d rd c t df g else .fail,
  λd f as g=>if h:∃n,(sem C n).call d f as g≠.fail then (sem C (Classical.choose h)).call d f as g else .fail⟩
def Ct(C:Cfg){α:Type}(F:IH->α):Prop:=∃n,∀m,n<=m->F (sem C m)=F (I C)
variable {C:Cfg}
theorem Ct.const{α:Type}(a:α):Ct C (λ_=>a):=⟨0,λ_ _=>rfl⟩
theorem Ct.bind{α β:Type}{F:IH->α}{K:IH->α->β}(h:Ct C F)(hk:Ct C λj=>K j (F (I C))):Ct C λj=>K j (F j):=by obtain⟨n,h⟩:=h;obtain⟨m,hk⟩:=hk;refine⟨max n m,λk hm=>?_⟩<;>grind
theorem Ct.map{α β:Type}{F:IH->α}(K:α->β)(h:Ct C F):Ct C λj=>K (F j):=Ct.bind (K:=λ_=>K) h (.const _)
theorem Ct.code(nt d:Nat)(rd:Option Nat)(c:Code)(t:T)(df:List ADf)(g:G):Ct C λj=>j.code nt d rd c t df g:=by
 by_cases h:∃n,(sem C n).code nt d rd c t df g≠.fail
 ·refine⟨Classical.choose h,λm hm=>?_⟩;have hs:=Classical.choose_spec h;have e:(I C).code nt d rd c t df g=(sem C (Classical.choose h)).code nt d rd c t df g:=dif_pos h;show _=(I C).code nt d rd c t df g;rw[e];rcases (Eh C hm).code nt d rd c t df g with q|q
  ·exact absurd q hs
  ·exact q.symm
 ·refine⟨0,λm _=>?_⟩;have e:(I C).code nt d rd c t df g=.fail:=dif_neg h;show _=(I C).code nt d rd c t df g;rw[e];exact UD λq=>h ⟨m,q⟩
theorem Ct.call(d f:Nat)(as:List AV)(g:G):Ct C λj=>j.call d f as g:=by
 by_cases h:∃n,(sem C n).call d f as g≠.fail
 ·refine⟨Classical.choose h,λm hm=>?_⟩;have hs:=Classical.choose_spec h;have e:(I C).call d f as g=(sem C (Classical.choose h)).call d f as g:=dif_pos h;show _=(I C).call d f as g;rw[e];rcases (Eh C hm).call d f as g with q|q
  ·exact absurd q hs
  ·exact q.symm
 ·refine⟨0,λm _=>?_⟩;have e:(I C).call d f as g=.fail:=dif_neg h;show _=(I C).call d f as g;rw[e];exact UD λq=>h ⟨m,q⟩
theorem z9{d:Nat}{g:G}{f:Nat}{args:List AV}:Ct C λj=>am j d g f args:=by
 unfold am
 split
 ·exact .const _
 ·rename_i as _;obtain⟨n,h⟩:=Ct.call (C:=C) (Nat.succ d) f as G.empty;exact⟨n,λm hm=>by
   grind⟩
theorem JS{d id:Nat}{args:List AV}{g:G}:Ct C λj=>cz j d id args g:=by
 unfold cz
 split
 ·split
  ·exact .const _
  ·rename_i nt t ps assign body dfr st pend hg o t' ht;refine Ct.bind (K:=λj r=>match r with
    | .ok .norm t1 [] g1=>match g1.get id with
     | .loop nt1 t ps assign1 body1 dfr .ready pend =>
      match j.code nt d (some id) body t1 [] (g1.put id (.loop nt1 t ps assign1 body1 dfr .busy pend)) with
      | .ok e _ [] g2=>match g2.get id with
       | .loop nt t ps assign body dfr _ _=>match e with
        |.norm=>OR.upd (.bool true) (g2.put id (.loop nt t ps assign body dfr .ready none))
        |.exit j=>.upd (.bool false) (g2.put id (.loop nt t ps assign body dfr .done (some (.exit j))))
        |.ret=>.upd (.bool false) (g2.put id (.loop nt t ps assign body dfr .done (some .ret)))
       |_=>.fail
      |_=>.fail
     |_=>.fail
    |_=>.fail) (Ct.code nt d (some id) assign t' [] g) ?_
   split
   ·split
    ·rename_i t1 g1 _ _ nt1 t2 ps2 assign1 body1 dfr1 pend1 _;exact Ct.map (λr=>match r with
      | .ok e _ [] g2=>match g2.get id with
       | .loop nt t ps assign body dfr _ _=>match e with
        |.norm=>OR.upd (.bool true) (g2.put id (.loop nt t ps assign body dfr .ready none))
        |.exit j=>.upd (.bool false) (g2.put id (.loop nt t ps assign body dfr .done (some (.exit j))))
        |.ret=>.upd (.bool false) (g2.put id (.loop nt t ps assign body dfr .done (some .ret)))
       |_=>.fail
      |_=>.fail) (Ct.code nt d (some id) body t1 [] (g1.put id (.loop nt1 t2 ps2 assign1 body1 dfr1 .busy pend1)))
    simp_all[Ct.const]
   simp_all[Ct.const]
 simp_all[Ct.const]
theorem LA{d:Nat}{fv:AV}{vs:List AV}{g:G}:Ct C λj=>io C j d fv vs g:=by
 unfold io
 split
 ·split
  ·exact .const _
  ·simp only[aa]
   split
   ·exact z9
   ·exact Ct.map orF (Ct.call _ _ _ _)
 all_goals simp_all[JS,Ct.const]
theorem PU{op:Op}{x:Stg Ld}(hx:cOp C op=some x){d:Nat}{rd:Option Nat}{t:T}{g:G}:Ct C λj=>x.run j d rd t g:=by
 unfold cOp at hx
 repeat' (first|split at hx|rw[aa]at hx)
 all_goals first
  | (cases hx;done)
  | (injection hx with hx;subst hx;first|exact Ct.const _|exact z9|exact Ct.map orF (Ct.call _ _ _ _)|exact LA)
theorem Dy{op:Op}{d:Nat}{rd:Option Nat}{t:T}{g:G}:Ct C λj=>(cB C op).run j d rd t g:=by
 unfold cB
 split
 ·rename_i x hx;exact PU hx
 simp_all[Ct.const]
theorem Cz{out:T->AV->T}{n:IH->T->List ADf->G->CR}{t:T}{df:List ADf}{g:G}{a:IH->OR}(h:Ct C a)(hn:∀t df g,Ct C λj=>n j t df g) :
  Ct C λj=>px out (n j) t df g (a j):=by
 refine Ct.bind (K:=λj r=>px out (n j) t df g r) h ?_;cases a (I C) with
 |fail=>exact .const _
 |val v=>exact hn _ _ _
 |upd v g'=>exact hn _ _ _
 |dfr a=>exact hn _ _ _
theorem E1{out:T->AV->T}{n:IH->T->List ADf->G->List Foot->CR}{t:T}{df:List ADf}{g:G}{fs:List Foot}{lk:Looks}{a:IH->OR}(h:Ct C a)
  (hn:∀t df g fs,Ct C λj=>n j t df g fs):Ct C λj=>lL out (n j) t df g fs lk (a j):=by
 refine Ct.bind (K:=λj r=>lL out (n j) t df g fs lk r) h ?_;cases a (I C) with
 |fail=>exact .const _
 |val v=>exact hn _ _ _ _
 |upd v g'=>exact hn _ _ _ _
 |dfr a=>exact .const _
theorem Ir{n:IH->T->List ADf->G->CR}{a:IH->CR}(h:Ct C a)(hn:∀t df g,Ct C λj=>n j t df g):Ct C λj=>B_ (n j) (a j):=by
 refine Ct.bind (K:=λj r=>B_ (n j) r) h ?_;unfold B_
 split
 all_goals simp_all[Ct.const]
theorem wx{nt:Nat}{all:List Oper}:∀(l:List Oper) (d:Nat) (rd:Option Nat) (t:T) (df:List ADf) (g:G),Ct C λj=>(jS C nt all l).run j d rd t df g
 |[],_,_,_,_,_=>.const _
 | o::rest,d,rd,t,df,g=>by
  unfold jS
  split
  ·split
   ·exact Cz Dy λt df g=>wx rest d rd t df g
   ·split
    ·dsimp only
     split
     ·exact Cz Dy λt df g=>wx rest d rd t df g
     ·exact wx rest d rd _ df g
     ·exact .const _
    ·exact .const _
  ·exact .const _
theorem EX{nt:Nat}{pm:List Nat}{all:List Oper}:∀(l:List Oper) (k d:Nat) (rd:Option Nat) (t:T) (df:List ADf) (g:G) (fs:List Foot),
  Ct C λj=>(iX C nt pm all k l).run j d rd t df g fs
 |[],_,_,_,_,_,_,_=>.const _
 | o::rest,k,d,rd,t,df,g,fs=>by
  unfold iX
  split
  ·dsimp only
   split
   all_goals simp_all[E1,Dy,Ct.const,EX]
  simp_all[Ct.const]
theorem G6{nt:Nat}{ops:List Oper}{draw:Bool}{d:Nat}{rd:Option Nat}{t:T}{df:List ADf}{g:G}:Ct C λj=>(fV C nt ops draw).run j d rd t df g:=by
 unfold fV;simp only[aa]
 split
 ·split
  ·split
   ·exact Ct.map (nM g) (wx _ _ _ _ _ _)
   simp_all[EX]
  ·exact .const _
 simp_all[wx]
theorem EZ{nt d:Nat}{rd:Option Nat}{id:Nat}{t:T}{df:List ADf}{g:G}:Ct C λj=>cM j nt d rd id t df g:=by
 unfold cM
 split
 ·split
  ·exact .const _
  ·split
   all_goals simp_all[Ct.const,Ct.code]
 simp_all[Ct.const]
theorem wy{nt d:Nat}{rd:Option Nat}{fv:AV}{ps:List Nat}{assign body:Code}{t:T}{df:List ADf}{dfr:Nat}{g:G} :
  Ct C λj=>co C j nt d rd fv ps assign body t df dfr g:=by
 unfold co
 split
 ·rename_i f first cap
  simp only[aa]
  split
  ·exact .const _
  ·refine Ct.bind (K:=λj r=>match r with|.ok _ g2=>cM j nt d rd g.nx t df g2|.fail=>.fail) (Ct.call d f (first++(.yld g.nx::cap)) (g.new (.loop nt t ps assign body dfr .ready none))) ?_
   split
   all_goals simp_all[EZ,Ct.const]
 simp_all[Ct.const]
theorem JR{nt:Nat}{fo:T->AV}{ps:List Nat}{assign body:Code}{d:Nat}{rd:Option Nat}{t:T}{df:List ADf}{g:G}:Ct C λj=>nN C nt fo ps assign body j d rd t df g:=by
 unfold nN
 split
 ·split
  ·exact wy
  ·exact .const _
 ·exact wy
theorem EW{nt:Nat}:∀(c:Code) (d:Nat) (rd:Option Nat) (t:T) (df:List ADf) (g:G),Ct C λj=>(aX C nt c).run j d rd t df g:=by
 intro c
 induction c with
 |seq a b iha ihb=>simp_all[aX,Ir]
 | cond q a b iha ihb =>
  intro d rd t df g;unfold aX
  split
  ·dsimp only
   split
   ·simp only[aa]
    split
    ·exact iha _ _ _ _ _
    ·exact ihb _ _ _ _ _
   ·exact .const _
  ·exact .const _
 |block id body ih=>intro d rd t df g;unfold aX;exact Ct.map (u7 id) (ih _ _ _ _ _)
 |loop body ih=>simp_all[aX,Ir,Ct.code]
 |scope body ih=>simp_all[aX]
 |region p ops draw=>simp_all[aX,G6]
 | rangeFunc f ps assign body _ _ =>
  intro d rd t df g;unfold aX
  split
  ·exact JR
  ·exact .const _
 |_=>intro d rd t df g;exact .const _
theorem LB{d:Nat}:∀(l:List ADf) (g:G),Ct C λj=>fp j d l g:=by
 intro l
 induction l with
 |nil=>intro g;exact .const _
 | cons a l ih =>
  intro g;cases a with
  | mark id =>
   simp only[fp]
   split
   all_goals simp_all[Ct.const]
  | call fv args =>
   cases fv with
   | clo f first cap =>
    simp only[fp];refine Ct.bind (K:=λj r=>match r with|.ok _ g'=>fp j d l g'|.fail=>none) (Ct.call d f (first++(args++cap)) g) ?_
    split
    all_goals simp_all[Ct.const]
   |_=>exact .const _
theorem G7{d:Nat}{res:T->G->Option (List AV)}{t:T}{df:List ADf}{g:G}:Ct C λj=>gW j d res t df g:=by unfold gW;exact Ct.map (λr=>match r with|none=>FR.fail|some g'=>match res t g' with|some vs=>.ok (jB vs) g'|none=>.fail) (LB df g)
theorem EY{d f:Nat}{args:List AV}{g:G}:Ct C λj=>eP C j d f args g:=by
 unfold eP
 split
 ·rename_i x hx;unfold cFn at hx
  split at hx
  ·cases hx
  rename_i fn hfn
  split at hx
  ·cases hx
  rename_i c hbody
  split at hx
  rotate_left
  ·cases hx
  rename_i r hres;rw[aa]at hx
  split at hx
  ·cases hx
  injection hx with hx;subst hx;dsimp only;simp only[aa]
  split
  ·refine Ct.bind (K:=λj q=>match q with|.ok (.exit _) _ _ _=>FR.fail|.ok _ t df g'=>gW j d r.run t df g'|.fail=>.fail) (EW c d none (cy 0 args .nil) [] g) ?_
   split
   all_goals simp_all[Ct.const,G7]
  simp_all[Ct.const]
 simp_all[Ct.const]
theorem GO(nt d:Nat)(rd:Option Nat)(c:Code)(t:T)(df:List ADf)(g:G):(I C).code nt d rd c t df g=(aX C nt c).run (I C) d rd t df g:=by obtain⟨n,h⟩:=EW (C:=C) (nt:=nt) c d rd t df g;obtain⟨m,h'⟩:=Ct.code (C:=C) nt d rd c t df g;have h1:=h (max n m) (by omega);have h2:=h' (max n m+1) (by omega);exact h2.symm.trans h1
theorem PH(d f:Nat)(as:List AV)(g:G):(I C).call d f as g=eP C (I C) d f as g:=by obtain⟨n,h⟩:=EY (C:=C) (d:=d) (f:=f) (args:=as) (g:=g);obtain⟨m,h'⟩:=Ct.call (C:=C) d f as g;have h1:=h (max n m) (by omega);have h2:=h' (max n m+1) (by omega);exact h2.symm.trans h1
theorem Qt{d f:Nat}{as:List AV}{g:G}{v:AV}{g':G}(h:(I C).call d f as g=.ok v g'):∃n,(sem C n).call d f as g=.ok v g':=by obtain⟨m,h'⟩:=Ct.call (C:=C) d f as g;exact⟨m,by grind⟩
end Hx
end
