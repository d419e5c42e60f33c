/- A part of the proof: what the functions of the chapter compute. -/
import Derived.Test.YteaikmdilmfbeaaGreatHx3
set_option linter.all false
set_option maxRecDepth 20000
set_option maxHeartbeats 8000000
namespace Hx
open Go
noncomputable section
variable {d nt f:Nat}{g g' g1:G}{rd:Option Nat}{t t':T}{df df':List ADf}{C:Cfg}{args:List AV}{op:Op}{fv x:AV}{ps:List Nat}{assign body:Code}
section
variable {g2:G}
theorem eK{α β:Type}{f:α->Option β}:∀{l:List α} {r:List β},aF f l=some r->∀(i:Nat) y,r[i]?=some y->∃x,l[i]?=some x/\f x=some y:=by
 intro l
 induction l with
 |nil=>intro r h i y k;simp only[aF]at h;injection h with h;subst h;simp at k
 | cons a l ih =>
  intro r h i y k;simp only[aF]at h
  split at h
  ·rename_i b hb
   split at h
   ·rename_i bs c;injection h with h;subst h;cases i with
    |zero=>simp at k;subst k;exact⟨a,rfl,hb⟩
    |succ i=>simpa using ih c i y (by simpa using k)
   ·cases h
  ·cases h
theorem kX{α β:Type}{f:α->Option β}:∀{l:List α} {r:List β},aF f l=some r->r.length=l.length:=by
 intro l
 induction l with
 |nil=>intro r h;simp only[aF]at h;injection h with h;subst h;rfl
 | cons a l ih =>
  intro r h;simp only[aF]at h
  split at h
  ·split at h
   ·rename_i bs k;injection h with h;subst h;simp[ih k]
   ·cases h
  ·cases h
theorem Ge{h:H}{tag:Nat}:∀{f:Nat} {x y:AV},snap h tag f x=some y->x.one=true->y.one=true:=by
 intro f x y hs hx;cases f with
 |zero=>cases hs
 | succ f =>
  cases x<;>simp only[snap]at hs<;>first| (cases hx;done)|skip
  all_goals first| (injection hs with hs;subst hs;rfl)|skip
  all_goals
   repeat (split at hs)
   all_goals first| (cases hs;done)| (injection hs with hs;subst hs;rfl)| (rw[aa]at hs;split at hs<;>first| (cases hs;done)| (injection hs with hs;subst hs;rfl))
def Ext(h:H)(hg:Nat->AObj):Prop:=∀id,h.get id≠.none->hg id=h.get id
section
variable {C:Cfg}{A A':Nat->Nat->Prop}{bd:Nat}{w w':World}{γ γ':Gm}{hg:Nat->AObj}{nx:Nat}
theorem ld{v:Value}(h:RV w γ A bd x v):Closed x ->
  (∀t b,t<=bd->b<w.heap.size->¬A t b->¬Mut γ b->¬A' t b/\¬Mut γ' b)->RV w γ' A' bd x v:=by
 induction h with
 |bool=>intro _ _;exact .bool _ _
 |int=>intro _ _;exact .int _ _ _
 |str=>intro _ _;exact .str _ _
 | tup _ xs vs hl _ ih =>
  intro hc hs;cases hc with|tup _ hc=>exact .tup _ _ _ hl λi x v h1 h2=>ih i x v h1 h2 (hc x (TL h1)) hs
 | agg _ xs vs hl h1 _ ih =>
  intro hc hs;cases hc with|agg _ hc=>exact .agg _ _ _ hl h1 λi x v h1 h2=>ih i x v h1 h2 (hc x (TL h1)) hs
 |nilp=>intro _ _;exact .nilp _
 |nils=>intro _ _;exact .nils _
 |nilf=>intro _ _;exact .nilf _
 |nilm=>intro _ _;exact .nilm _
 |nili=>intro _ _;exact .nili _
 |esl=>intro _ _;exact .esl _ _
 | tsl _ tag sz rows b o cap cell ht hc hb hm ha hr ho hw h hcl ih =>
  intro _ hs;obtain⟨h1,h2⟩:=hs tag b ht hb ha hm;exact .tsl _ tag sz rows b o cap cell ht hc hb h2 h1 hr ho hw
   (λi j row x a c=>ih i j row x a c (hcl row (TL a) x (TL c)) λt b hle=>hs t b (T6 hle ht)) hcl
 |tnil _ tag sz a cap ht=>intro _ _;exact .tnil _ tag sz a cap ht
 | tptr _ tag sz rows i0 off0 b o cell ht hb hm ha hr ho hw h hcl ih =>
  intro _ hs;obtain⟨h1,h2⟩:=hs tag b ht hb ha hm;exact .tptr _ tag sz rows i0 off0 b o cell ht hb h2 h1 hr ho hw
   (λi j row x a c=>ih i j row x a c (hcl row (TL a) x (TL c)) λt b hle=>hs t b (T6 hle ht)) hcl
 |hsl=>intro hc;cases hc
 |hptr=>intro hc;cases hc
 | clo _ f xs ys vs us hl hl2 _ _ ih ih2 =>
  intro hc hs;cases hc with
  |clo _ _ _ hc hc2=>exact .clo _ f xs ys vs us hl hl2 (λi x v h1 h2=>ih i x v h1 h2 (hc x (TL h1)) hs) (λi x v h1 h2=>ih2 i x v h1 h2 (hc2 x (TL h1)) hs)
 |hmap=>intro hc;cases hc
 |ifc _ t x v _ ih=>intro hc hs;cases hc with|ifc _ _ hc=>exact .ifc _ t x v (ih hc hs)
 |yld=>intro hc;cases hc
theorem tS{v:Value}(h:RV w γ A bd x v)(hx:(∃l sz rows,x=.tsl l sz rows)\/(∃l sz rows i o,x=.tptr l sz rows i o)):Closed x:=by
 rcases hx with⟨l,sz,rows,rfl⟩|⟨l,sz,rows,i,o,rfl⟩
 ·cases h with
  |tsl _ _ _ _ _ _ _ _ _ _ _ _ _ _ _ _ _ hcl=>exact .tsl _ _ _ hcl
  |tnil=>exact .tsl _ _ _ λrow h=>by cases h
 ·cases h with
  |tptr _ _ _ _ _ _ _ _ _ _ _ _ _ _ _ _ _ hcl=>exact .tptr _ _ _ _ _ hcl
theorem zx{h:H}{tag B:Nat}{L:Nat->Prop}(hr:Rel C A bd w γ hg nx)(hx:∀id,L id->h.get id≠.none->hg id=h.get id)(hB:bd<=B)(htB:tag<=B)
  (hs:∀t b,t<=bd->b<w.heap.size->¬A t b->¬Mut γ b->¬A' t b/\¬Mut γ' b)
  (ho:∀id,L id->(∃sz rows ep lo fz,h.get id=.cells sz rows ep lo fz)->(γ id).kind=1->∀t,tag<=t->t<=B->¬A' t (γ id).blk/\¬Mut γ' (γ id).blk) :
  ∀(f:Nat) {x y:AV} {v:Value},snap h tag f x=some y->RV w γ A bd x v->(∀id∈aw h f x,L id)->RV w γ' A' B y v/\Closed y:=by
 intro f
 induction f with
 |zero=>intro x y v h;cases h
 | succ f ih =>
  intro x y v d N s;have q:∀{xs ys:List AV} {vs:Array Value},aF (snap h tag f) xs=some ys->(∀id∈xs.flatMap (aw h f),L id)->xs.length=vs.size ->
    (∀(i:Nat) x v,xs[i]?=some x->vs[i]?=some v->RV w γ A bd x v) ->
    ys.length=vs.size/\(∀(i:Nat) x v,ys[i]?=some x->vs[i]?=some v->RV w γ' A' B x v)/\∀y∈ys,Closed y:=by
   intro xs ys vs h1 h2 h3 h4;have O:∀(i:Nat) y,ys[i]?=some y->∃v,vs[i]?=some v/\RV w γ' A' B y v/\Closed y:=by
    intro i y S;obtain⟨x,a1,a2⟩:=eK h1 i y S;have hlt:i<vs.size:=by rw[<-h3];exact (TJ.1 a1).1
    have N:=TZ hlt;obtain⟨b1,b2⟩:=ih a2 (h4 i x _ a1 N) λid n=>h2 id (V9.2 ⟨x,TL a1,n⟩);exact⟨_,N,b1,b2⟩
   refine⟨by rw[kX h1,h3],λi y v S N=>?_,λy S=>?_⟩
   ·obtain⟨v',b1,b2,_⟩:=O i y S;rw[N]at b1;injection b1 with b1;subst b1;exact b2
   ·obtain⟨i,hi⟩:=Ua S;obtain⟨_,_,_,b⟩:=O i y hi;exact b
  have G:∀{id sz:Nat} {rows:List (List AV)} {ep:Nat} {lo fz:Bool} {start len:Nat} {rs:List (List AV)} {m:Nat},
    hg id=.cells sz rows ep lo fz->aF (aF (snap h tag f)) ((rows.drop start).take len)=some rs->fg rs=some m ->
    (∀id'∈((rows.drop start).take len).flatMap (·.flatMap (aw h f)),L id')->start+len<=rows.length ->
    rs.length=len/\m<=B/\(∀(i:Nat) row,rs[i]?=some row->row.length=sz) /\
    (∀(i j:Nat) row x,rs[i]?=some row->row[j]?=some x->x.one=true/\∃c,w.cell? (adr (γ id).blk ((γ id).base+start*sz+i*sz+j))=some c/\RV w γ' A' m x c) /\
    (∀row∈rs,∀x∈row,Closed x):=by
   intro id sz rows ep lo fz start len rs m n hm J W P;have r:=hr.obj id;rw[n]at r;have Q:rs.length=len:=by rw[kX hm];simp;omega
   have key:∀(i j:Nat) row x,rs[i]?=some row->row[j]?=some x->x.one=true/\∃c,w.cell? (adr (γ id).blk ((γ id).base+start*sz+i*sz+j))=some c/\RV w γ' A' B x c/\Closed x:=by
    intro i j row x hi p;obtain⟨row0,a1,a2⟩:=eK hm i row hi;obtain⟨V,b1,b2⟩:=eK a2 j x p;have Y:rows[start+i]?=some row0:=by
     rw[V7]at a1
     split at a1
     ·rw[Um]at a1;exact a1
     ·cases a1
    obtain⟨c1,v,z,K⟩:=uh hr n Y j V b1;obtain⟨d1,d2⟩:=ih b2 K λid' hid'=>W id' (V9.2 ⟨row0,TL a1,V9.2 ⟨V,TL b1,hid'⟩⟩);refine⟨Ge b2 c1,v,?_,d1,d2⟩;rw[<-z];congr 2;rw[Ub];omega
   refine⟨Q,?_,?_,?_,?_⟩
   ·refine ej J λrow F k hk=>ej hk λx hx k' hk'=>?_;obtain⟨i,hi⟩:=Ua F;obtain⟨j,p⟩:=Ua hx;obtain⟨_,c,_,hc,_⟩:=key i j row x hi p;exact zy _ hk' hc
   ·intro i row hi;obtain⟨row0,a1,a2⟩:=eK hm i row hi;rw[kX a2];obtain⟨k1,k2,U,k4,k5,k6,c,e,k7,k8,k9,h5⟩:=r;rw[V7]at a1
    split at a1
    ·rw[Um]at a1;exact k9 _ _ a1
    ·cases a1
   ·intro i j row x hi p;obtain⟨c1,c,z,K,_⟩:=key i j row x hi p;exact⟨c1,c,z,vT J hi p K⟩
   ·intro row F x hx;obtain⟨i,hi⟩:=Ua F;obtain⟨j,p⟩:=Ua hx;obtain⟨_,_,_,_,c⟩:=key i j row x hi p;exact c
  cases N with
  | agg _ xs vs hl h1 h2 =>
   simp only[snap]at d
   split at d
   ·rename_i as D;injection d with d;subst d;obtain⟨a,b,c⟩:=q D (by simpa only[aw] using s) hl h2;refine⟨.agg _ _ _ a (λi x hi=>?_) b,.agg _ c⟩;obtain⟨V,a1,a2⟩:=eK D i x hi;exact Ge a2 (h1 i V a1)
   ·cases d
  | tup _ xs vs hl h2 =>
   simp only[snap]at d
   split at d
   ·rename_i as D;injection d with d;subst d;obtain⟨a,b,c⟩:=q D (by simpa only[aw] using s) hl h2;exact⟨.tup _ _ _ a b,.tup _ c⟩
   ·cases d
  | clo _ g xs ys vs us hl hl2 h1 h2 =>
   simp only[snap]at d;simp only[aw]at s
   split at d
   ·rename_i as cs D X;injection d with d;subst d;obtain⟨a,b,c⟩:=q D (λid n=>s id (Vx _ n)) hl h1;obtain⟨a',b',c'⟩:=q X (λid n=>s id (Vt _ n)) hl2 h2;exact⟨.clo _ _ _ _ _ _ a a' b b',.clo _ _ _ c c'⟩
   ·cases d
  | ifc _ t x v h1 =>
   simp only[snap]at d
   split at d
   ·rename_i a ha;injection d with d;subst d;obtain⟨a,b⟩:=ih ha h1 (by simpa only[aw] using s);exact⟨.ifc _ _ _ _ a,.ifc _ _ b⟩
   ·cases d
  | hsl _ id ep off len lim b o cap hk he hc h' =>
   simp only[snap]at d
   split at d
   ·rename_i sz rows ep' lo fz l;rw[aa]at d
    split at d
    ·rename_i E;simp only[TM,Uw,aA]at E;obtain⟨u,P⟩:=E;have u:=aH u
     split at d
     ·rename_i rs I
      split at d
      ·rename_i m hm;injection d with d;subst d;have n:hg id=.cells sz rows ep' lo fz:=by rw[hx id (s id (by simp[aw])) (by rw[l];simp),l]
       have r:=hr.obj id;rw[n]at r;obtain⟨k1,k2,U,k4,_⟩:=r;obtain⟨e1,e2,e3⟩:=h' (u.trans k2.symm);subst e1;subst e2;simp only[aw,l]at s;simp only[be,ba]at I s;obtain⟨Z,T,r3,M,r5⟩:=G n I hm (λid' hid'=>s id' (UC _ hid')) P;obtain⟨o1,o2⟩:=ho id (s id UK) ⟨_,_,_,_,_,l⟩ hk (Nat.max tag m) (Vb _ _) (WZ.2 ⟨htB,T⟩);refine⟨?_,.tsl _ _ _ r5⟩;rw[<-Z];rw[U];refine .tsl _ (Nat.max tag m) sz rs (γ id).blk ((γ id).base+off*sz) cap (λi j=>(w.cell? (adr (γ id).blk ((γ id).base+off*sz+i*sz+j))).getD undef) (WZ.2 ⟨htB,T⟩) (by rw[Z];exact hc)
        (hr.lt id (by rw[hk];decide)).2 o2 o1 r3 (λi j row x hi p=>(M i j row x hi p).1) (λi j row x hi p=>?_) (λi j row x hi p=>?_) r5
       ·obtain⟨_,c,z,_⟩:=M i j row x hi p;simp only[z,TS]
       ·obtain⟨_,c,z,K⟩:=M i j row x hi p;simp only[z,TS];exact K.mono (VB _ _)
      ·cases d
     ·cases d
    ·cases d
   ·cases d
  | hptr _ id ep i off b o hk he h' =>
   simp only[snap]at d
   split at d
   ·rename_i sz rows ep' lo fz l;rw[aa]at d
    split at d
    ·rename_i u;have u:=aH u
     split at d
     ·rename_i rs I
      split at d
      ·rename_i m hm;injection d with d;subst d;have n:hg id=.cells sz rows ep' lo fz:=by rw[hx id (s id (by simp[aw])) (by rw[l];simp),l]
       have r:=hr.obj id;rw[n]at r;obtain⟨k1,k2,U,k4,_⟩:=r;obtain⟨e1,e2⟩:=h' (u.trans k2.symm);subst e1;subst e2;simp only[aw,l]at s;have R:aF (aF (snap h tag f)) ((rows.drop 0).take rows.length)=some rs:=by simpa using I
       obtain⟨Z,T,r3,M,r5⟩:=G n R hm (λid' hid'=>s id' (UC _ (by simpa using hid'))) (by omega);obtain⟨o1,o2⟩:=ho id (s id UK) ⟨_,_,_,_,_,l⟩ hk (Nat.max tag m) (Vb _ _) (WZ.2 ⟨htB,T⟩);refine⟨?_,.tptr _ _ _ _ _ r5⟩;rw[U];refine .tptr _ (Nat.max tag m) sz rs i off (γ id).blk (γ id).base (λi j=>(w.cell? (adr (γ id).blk ((γ id).base+i*sz+j))).getD undef) (WZ.2 ⟨htB,T⟩)
        (hr.lt id (by rw[hk];decide)).2 o2 o1 r3 (λi j row x hi p=>(M i j row x hi p).1) (λi j row x hi p=>?_) (λi j row x hi p=>?_) r5
       ·obtain⟨_,c,z,_⟩:=M i j row x hi p;simp only[WP,Vu]at z;simp only[z,TS]
       ·obtain⟨_,c,z,K⟩:=M i j row x hi p;simp only[WP,Vu]at z;simp only[z,TS];exact K.mono (VB _ _)
      ·cases d
     ·cases d
    ·cases d
   ·cases d
  |hmap=>cases d
  |yld=>cases d
  | tsl _ tag' sz rows b o cap cell ht hc hb hm ha hrl ho' hw hcell hcl =>
   simp only[snap]at d;injection d with d;subst d;exact⟨(ld (.tsl _ tag' sz rows b o cap cell ht hc hb hm ha hrl ho' hw hcell hcl) (.tsl _ _ _ hcl) hs).mono hB,.tsl _ _ _ hcl⟩
  |tnil _ tag' sz a cap ht=>simp only[snap]at d;injection d with d;subst d;exact⟨.tnil _ tag' sz a cap (T6 ht hB),.tsl _ _ _ λrow h=>by cases h⟩
  | tptr _ tag' sz rows i0 off0 b o cell ht hb hm ha hrl ho' hw hcell hcl =>
   simp only[snap]at d;injection d with d;subst d;exact⟨(ld (.tptr _ tag' sz rows i0 off0 b o cell ht hb hm ha hrl ho' hw hcell hcl) (.tptr _ _ _ _ _ hcl) hs).mono hB,.tptr _ _ _ _ _ hcl⟩
  |bool=>simp only[snap]at d;injection d with d;subst d;exact⟨.bool _ _,.bool _⟩
  |int=>simp only[snap]at d;injection d with d;subst d;exact⟨.int _ _ _,.int _ _⟩
  |str=>simp only[snap]at d;injection d with d;subst d;exact⟨.str _ _,.str _⟩
  |nilp=>simp only[snap]at d;injection d with d;subst d;exact⟨.nilp _,.nilp⟩
  |nils=>simp only[snap]at d;injection d with d;subst d;exact⟨.nils _,.nils⟩
  |nilf=>simp only[snap]at d;injection d with d;subst d;exact⟨.nilf _,.nilf⟩
  |nilm=>simp only[snap]at d;injection d with d;subst d;exact⟨.nilm _,.nilm⟩
  |nili=>simp only[snap]at d;injection d with d;subst d;exact⟨.nili _,.nili⟩
  |esl _ a=>simp only[snap]at d;injection d with d;subst d;exact⟨.esl _ a,.esl⟩
theorem Dg:∀{f:Nat} {x y:AV},du d f x=some y->x.one=true->y.one=true:=by
 intro f x y hs hx;cases f with
 |zero=>cases hs
 | succ f =>
  cases x<;>simp only[du,aa]at hs<;>first| (cases hx;done)|skip
  all_goals first| (injection hs with hs;subst hs;rfl)|skip
  all_goals
   repeat (split at hs)
   all_goals first| (cases hs;done)| (injection hs with hs;subst hs;rfl)
theorem NF(hA:∀t b,t<d->¬A t b->¬A' t b)(hd:∀b,¬A d b->∀t,¬A' t b) :
  ∀(f:Nat) {x y:AV} {v:Value},du d f x=some y->RV w γ A d x v->Closed x->RV w γ A' d y v/\Closed y:=by
 intro f
 induction f with
 |zero=>intro x y v h;cases h
 | succ f ih =>
  intro x y v l H n;have q:∀{xs ys:List AV} {vs:Array Value},aF (du d f) xs=some ys->xs.length=vs.size->(∀x∈xs,Closed x) ->
    (∀(i:Nat) x v,xs[i]?=some x->vs[i]?=some v->RV w γ A d x v) ->
    ys.length=vs.size/\(∀(i:Nat) x v,ys[i]?=some x->vs[i]?=some v->RV w γ A' d x v)/\∀y∈ys,Closed y:=by
   intro xs ys vs h1 h3 hc h4;have I:∀(i:Nat) y,ys[i]?=some y->∃v,vs[i]?=some v/\RV w γ A' d y v/\Closed y:=by
    intro i y J;obtain⟨x,a1,a2⟩:=eK h1 i y J;have hlt:i<vs.size:=by rw[<-h3];exact (TJ.1 a1).1
    have H:=TZ hlt;obtain⟨b1,b2⟩:=ih a2 (h4 i x _ a1 H) (hc x (TL a1));exact⟨_,H,b1,b2⟩
   refine⟨by rw[kX h1,h3],λi y v J H=>?_,λy J=>?_⟩
   ·obtain⟨v',b1,b2,_⟩:=I i y J;rw[H]at b1;injection b1 with b1;subst b1;exact b2
   ·obtain⟨i,hi⟩:=Ua J;obtain⟨_,_,_,b⟩:=I i y hi;exact b
  have z:∀{sz:Nat} {rows rs:List (List AV)} {m:Nat} {cell:Nat->Nat->Value},aF (aF (du d f)) rows=some rs->fg rs=some m ->
    (∀(i:Nat) row,rows[i]?=some row->row.length=sz) ->
    (∀(i j:Nat) row x,rows[i]?=some row->row[j]?=some x->x.one=true) ->
    (∀(i j:Nat) row x,rows[i]?=some row->row[j]?=some x->RV w γ A d x (cell i j)) ->
    (∀row∈rows,∀x∈row,Closed x) ->
    rs.length=rows.length/\m<=d/\(∀(i:Nat) row,rs[i]?=some row->row.length=sz) /\
    (∀(i j:Nat) row x,rs[i]?=some row->row[j]?=some x->x.one=true/\(∃row0 r,rows[i]?=some row0/\row0[j]?=some r)/\RV w γ A' m x (cell i j)) /\
    (∀row∈rs,∀x∈row,Closed x):=by
   intro sz rows rs m cell h1 h2 h3 h4 h5 h6;have key:∀(i j:Nat) row x,rs[i]?=some row->row[j]?=some x->x.one=true/\(∃row0 r,rows[i]?=some row0/\row0[j]?=some r)/\RV w γ A' d x (cell i j)/\Closed x:=by intro i j row x hi B;obtain⟨row0,a1,a2⟩:=eK h1 i row hi;obtain⟨r,b1,b2⟩:=eK a2 j x B;obtain⟨c1,D⟩:=ih b2 (h5 i j row0 r a1 b1) (h6 row0 (TL a1) r (TL b1));exact⟨Dg b2 (h4 i j row0 r a1 b1),⟨row0,r,a1,b1⟩,c1,D⟩
   refine⟨kX h1,?_,?_,?_,?_⟩
   ·refine ej h2 λrow u k hk=>ej hk λx hx k' hk'=>?_;obtain⟨i,hi⟩:=Ua u;obtain⟨j,B⟩:=Ua hx;obtain⟨_,_,hc,_⟩:=key i j row x hi B;exact zy _ hk' hc
   ·intro i row hi;obtain⟨row0,a1,a2⟩:=eK h1 i row hi;rw[kX a2];exact h3 i row0 a1
   ·intro i j row x hi B;obtain⟨c1,D,O,_⟩:=key i j row x hi B;exact⟨c1,D,vT h2 hi B O⟩
   ·intro row u x hx;obtain⟨i,hi⟩:=Ua u;obtain⟨j,B⟩:=Ua hx;obtain⟨_,_,_,c⟩:=key i j row x hi B;exact c
  have C:∀{t:Nat},t<=d->t≠d->∀t' b,t'<=t->b<w.heap.size->¬A t' b->¬Mut γ b->¬A' t' b/\¬Mut γ b :=
   λh1 h2 t' b h3 _ h4 h5=>⟨hA t' b (by omega) h4,h5⟩
  cases H with
  | agg _ xs vs hl h1 h2 =>
   simp only[du]at l
   split at l
   ·rename_i as s;injection l with l;subst l;cases n with
    | agg _ n =>
     obtain⟨a,b,c⟩:=q s hl n h2;refine⟨.agg _ _ _ a (λi x hi=>?_) b,.agg _ c⟩;obtain⟨r,a1,a2⟩:=eK s i x hi;exact Dg a2 (h1 i r a1)
   ·cases l
  | tup _ xs vs hl h2 =>
   simp only[du]at l
   split at l
   ·rename_i as s;injection l with l;subst l;cases n with
    | tup _ n =>
     obtain⟨a,b,c⟩:=q s hl n h2;exact⟨.tup _ _ _ a b,.tup _ c⟩
   ·cases l
  | clo _ g xs ys vs us hl hl2 h1 h2 =>
   simp only[du]at l
   split at l
   ·rename_i as cs s K;injection l with l;subst l;cases n with
    | clo _ _ _ n hcx2 =>
     obtain⟨a,b,c⟩:=q s hl n h1;obtain⟨a',b',c'⟩:=q K hl2 hcx2 h2;exact⟨.clo _ _ _ _ _ _ a a' b b',.clo _ _ _ c c'⟩
   ·cases l
  | ifc _ t x v h1 =>
   simp only[du]at l
   split at l
   ·rename_i a ha;injection l with l;subst l;cases n with
    | ifc _ _ n =>
     obtain⟨a,b⟩:=ih ha h1 n;exact⟨.ifc _ _ _ _ a,.ifc _ _ b⟩
   ·cases l
  | tsl _ t sz rows b o cap cell ht hc hb hm ha hrl ho' hw hcell hcl =>
   simp only[du,aa]at l
   split at l
   ·rename_i p;have p:=aH p
    split at l
    ·rename_i rs F
     split at l
     ·rename_i m E;injection l with l;subst l;obtain⟨L,M,N,G,r5⟩:=z (cell:=cell) F E hrl ho' (λi j row x a b=>(hcell i j row x a b).mono ht) hcl;refine⟨?_,.tsl _ _ _ r5⟩;rw[<-L];refine .tsl _ m sz rs b o cap cell M (by rw[L];exact hc) hb hm (hd b (p ▸ ha) m) N (λi j row x a b=>(G i j row x a b).1) (λi j row x a b=>?_) (λi j row x a b=>(G i j row x a b).2.2) r5;obtain⟨_,⟨row0,r,c1,D⟩,_⟩:=G i j row x a b;exact hw i j row0 r c1 D
     ·cases l
    ·cases l
   ·rename_i p;injection l with l;subst l;have p:t≠d:=λe=>p (by rw[e];exact Uv d);exact⟨.tsl _ t sz rows b o cap cell ht hc hb hm (hA t b (by omega) ha) hrl ho' hw (λi j row x a c=>ld (hcell i j row x a c) (hcl row (TL a) x (TL c)) (C ht p)) hcl,.tsl _ _ _ hcl⟩
  | tnil _ t sz a cap ht =>
   simp only[du,aa]at l
   split at l
   ·simp only[aF,fg,eV]at l;injection l with l;subst l;exact⟨.tnil _ _ sz a cap (Uj _),.tsl _ _ _ λrow h=>by cases h⟩
   ·injection l with l;subst l;exact⟨.tnil _ t sz a cap ht,.tsl _ _ _ λrow h=>by cases h⟩
  | tptr _ t sz rows i0 off0 b o cell ht hb hm ha hrl ho' hw hcell hcl =>
   simp only[du,aa]at l
   split at l
   ·rename_i p;have p:=aH p
    split at l
    ·rename_i rs F
     split at l
     ·rename_i m E;injection l with l;subst l;obtain⟨L,M,N,G,r5⟩:=z (cell:=cell) F E hrl ho' (λi j row x a b=>(hcell i j row x a b).mono ht) hcl;refine⟨?_,.tptr _ _ _ _ _ r5⟩;refine .tptr _ m sz rs i0 off0 b o cell M hb hm (hd b (p ▸ ha) m) N (λi j row x a b=>(G i j row x a b).1) (λi j row x a b=>?_) (λi j row x a b=>(G i j row x a b).2.2) r5;obtain⟨_,⟨row0,r,c1,D⟩,_⟩:=G i j row x a b;exact hw i j row0 r c1 D
     ·cases l
    ·cases l
   ·rename_i p;injection l with l;subst l;have p:t≠d:=λe=>p (by rw[e];exact Uv d);exact⟨.tptr _ t sz rows i0 off0 b o cell ht hb hm (hA t b (by omega) ha) hrl ho' hw (λi j row x a c=>ld (hcell i j row x a c) (hcl row (TL a) x (TL c)) (C ht p)) hcl,.tptr _ _ _ _ _ hcl⟩
  |bool=>simp only[du]at l;injection l with l;subst l;exact⟨.bool _ _,.bool _⟩
  |int=>simp only[du]at l;injection l with l;subst l;exact⟨.int _ _ _,.int _ _⟩
  |str=>simp only[du]at l;injection l with l;subst l;exact⟨.str _ _,.str _⟩
  |nilp=>simp only[du]at l;injection l with l;subst l;exact⟨.nilp _,.nilp⟩
  |nils=>simp only[du]at l;injection l with l;subst l;exact⟨.nils _,.nils⟩
  |nilf=>simp only[du]at l;injection l with l;subst l;exact⟨.nilf _,.nilf⟩
  |nilm=>simp only[du]at l;injection l with l;subst l;exact⟨.nilm _,.nilm⟩
  |nili=>simp only[du]at l;injection l with l;subst l;exact⟨.nili _,.nili⟩
  |esl _ a=>simp only[du]at l;injection l with l;subst l;exact⟨.esl _ a,.esl⟩
  |hsl=>cases n
  |hptr=>cases n
  |hmap=>cases n
  |yld=>cases n
theorem Bw(s1:w.heap.size<=w'.heap.size)(s2:w'.os=w.os)(s3:w'.tape=w.tape)(s4:w'.output=w.output)(s5:w.drawn<=w'.drawn)
  (hb:∀b,b<w.heap.size->w'.heap[b]?=w.heap[b]?):Stp w γ w' γ :=
 ⟨s1,s2,s3,s4,λb h _=>hb b h,λ_ _ h=>h,λ_ _=>.inl ⟨rfl,rfl⟩,λ_ _=>⟨TG _,λ_=>⟨rfl,rfl,rfl,rfl,rfl⟩⟩,s5⟩
theorem Rel.same(hr:Rel C A bd w γ hg nx)(s:Stp w γ w' γ)(hb:∀b,b<w.heap.size->w'.heap[b]?=w.heap[b]?):Rel C A bd w' γ hg nx where
 obj id:=(hr.obj id).step s rfl λhk _=>hb _ (hr.lt id hk).2
 lt id hk:=⟨(hr.lt id hk).1,TU (hr.lt id hk).2 s.sz⟩
 inj:=hr.inj
 av:=hr.av
 ab t b h:=TU (hr.ab t b h) s.sz
 glob g sz rows h:=(hr.glob g sz rows h).step s
structure Fin (C:Cfg) (A:Nat->Nat->Prop) (bd:Nat) (w:World) (γ:Gm) (hg:Nat->AObj) (nx:Nat) (g:G) (w':World) (γ':Gm) (hg':Nat->AObj) (g':G):Prop where
 rel:Rel C A bd w' γ' hg' (Nat.max nx g'.nx)
 stp:Stp w γ w' γ'
 new:∃new,g'.lg=new++g.lg/\(∀id∈new,hg' id=g'.h.get id)/\∀id,id ∉ new->hg' id=hg id
structure Mon (g g':G):Prop where
 nx:g.nx<=g'.nx
 new:∃new,g'.lg=new++g.lg/\(∀id,id ∉ new->g'.h.get id=g.h.get id)/\∀id∈new,id<g'.nx/\(g.h.get id=.none->g.nx<=id)
 wf:(∀id,g.nx<=id->g.h.get id=.none)->∀id,g'.nx<=id->g'.h.get id=.none
def WF(g:G):Prop:=∀id,g.nx<=id->g.h.get id=.none
theorem Mon.refl(g:G):Mon g g:=⟨TG _,⟨[],rfl,λ_ _=>rfl,λ_ h=>by cases h⟩,λh=>h⟩
theorem Mon.trans(h1:Mon g g1)(h2:Mon g1 g2):Mon g g2:=by
 obtain⟨n1,a1,b1,c1⟩:=h1.new;obtain⟨n2,a2,b2,k⟩:=h2.new;refine⟨T6 h1.nx h2.nx,⟨n2++n1,by rw[a2,a1,UJ],λid hid=>?_,λid hid=>?_⟩,λh=>h2.wf (h1.wf h)⟩
 ·rw[b2 id λh=>hid (Vx _ h),b1 id λh=>hid (Vt _ h)]
 ·by_cases hin:id∈n1
  ·exact⟨TU (c1 id hin).1 h2.nx,(c1 id hin).2⟩
  ·rcases Uk.1 hid with h|h
   ·exact⟨(k id h).1,λhn=>T6 h1.nx ((k id h).2 (by rw[b1 id hin];exact hn))⟩
   ·exact absurd h hin
def Free(γ:Gm)(g g':G):Prop:=∀id,g.nx<=id->id<=g'.nx->(γ id).kind=0
theorem Fin.refl{g:G}(hr:Rel C A bd w γ hg nx):Fin C A bd w γ hg nx g w γ hg g :=
 ⟨hr.up (Vb _ _),Stp.refl _ _,⟨[],rfl,λ_ h=>absurd h TY,λ_ _=>rfl⟩⟩
theorem Rel.none_iff(hr:Rel C A bd w γ hg nx)(id:Nat):(γ id).kind=0↔hg id=.none:=by
 have h:=hr.obj id;constructor
 ·intro hk;cases ho:hg id with
  |none=>rfl
  |_=>rw[ho]at h;have:=h.1;omega
 ·intro k;rw[k]at h;exact h
theorem Fin.freed{w1:World}{γ1:Gm}{hg1:Nat->AObj}(h1:Fin C A bd w γ hg nx g w1 γ1 hg1 g1)(hr:Rel C A bd w γ hg nx)(m1:Mon g g1)(hf:Free γ g g2):Free γ1 g1 g2:=by
 obtain⟨n,a,b,c⟩:=h1.new;obtain⟨n',a',b',c'⟩:=m1.new;have e:n'=n:=Wv (a'.symm.trans a);subst e;intro id h2 h3;have k:id ∉ n':=λh=>by have:=(c' id h).1;omega
 rw[h1.rel.none_iff,c id k,<-hr.none_iff];exact hf id (T6 m1.nx h2) h3
theorem Free.le{γ:Gm}(h:Free γ g g2)(hle:g1.nx<=g2.nx):Free γ g g1:=λid h1 h2=>h id h1 (T6 h2 hle)
theorem Fin.ext{hg':Nat->AObj}(h:Fin C A bd w γ hg nx g w' γ' hg' g')(m:Mon g g')(hx:Ext g.h hg):Ext g'.h hg':=by
 obtain⟨n,a,b,c⟩:=h.new;obtain⟨n',a',b',_⟩:=m.new;have e:n'=n:=Wv (a'.symm.trans a);subst e;intro id k
 by_cases hin:id∈n'
 ·exact b id hin
 ·rw[c id hin,b' id hin];exact hx id (by rw[<-b' id hin];exact k)
theorem Fin.trans{g g1 g2:G}{w1 w2:World}{γ1 γ2:Gm}{hg1 hg2:Nat->AObj}(h1:Fin C A bd w γ hg nx g w1 γ1 hg1 g1)
  (h2:Fin C A bd w1 γ1 hg1 (Nat.max nx g1.nx) g1 w2 γ2 hg2 g2) (m1:Mon g g1) (m2:Mon g1 g2):Fin C A bd w γ hg nx g w2 γ2 hg2 g2:=by
 obtain⟨n1,a1,b1,c1⟩:=h1.new;obtain⟨n2,a2,b2,k⟩:=h2.new;obtain⟨n',a',b',_⟩:=m2.new;have e:n'=n2:=Wv (a'.symm.trans a2);subst e;refine⟨?_,h1.stp.trans h2.stp,⟨n'++n1,by rw[a2,a1,UJ],λid hid=>?_,λid hid=>?_⟩⟩
 ·refine h2.rel.up (WZ.2 ⟨WZ.2 ⟨Vb _ _,T6 m2.nx (VB _ _)⟩,VB _ _⟩)
 ·by_cases hin:id∈n'
  ·exact b2 id hin
  ·rw[k id hin,b' id hin];rcases Uk.1 hid with h|h
   ·exact absurd h hin
   ·exact b1 id h
 ·rw[k id λh=>hid (Vx _ h),c1 id λh=>hid (Vt _ h)]
def pf(K:CallKind)(cs:List Frame):Prop:=K=.normal\/(K=.deferred/\∃c cs',cs=c::cs'/\(c.mode=.returning\/∃v x older,c.mode=.panicking ({ v,recovered:=true,goexit:=x }::older)))
def Outs(P:Program)(K:CallKind)(f:FuncId)(vs:Array Value)(cs:List Frame)(w:World)(u:Value)(w':World):Prop :=
 ∃fr,Steps P (lone (Frame.enter P f vs K) cs w) (lone fr cs w')/\fr.mode=.returning/\fr.defers=[]/\fr.kind=K/\fr.fn=f /\
  ∃fn,P.funcs[f]?=some fn/\(results fn fr.tmps).run P w'=.ok u w'
def Enters(P:Program)(f:FuncId):Prop:=∀args w,(callFunc f args).run P w=.ok (.enter f args) w
def zc(C:Cfg)(bd:Nat)(f:FuncId)(as:List AV)(g:G)(v:AV)(g':G):Prop :=
 ∀A w γ hg nx vs,Rel C A bd w γ hg nx->Ext g.h hg->WF g->Free γ g g'->RVs w γ A bd as vs->∀K cs,pf K cs ->
  ∃u w' γ' hg',Fin C A bd w γ hg nx g w' γ' hg' g'/\RV w' γ' A bd v u/\Outs C.P K f vs.toArray cs w u w'
def zD(C:Cfg)(ih:IH):Prop :=
 ∀bd f as g v g',ih.call (bd+1) f as g=.ok v g'->Enters C.P f/\zc C bd f as g v g'
def vV(ih:IH):Prop:=∀d f as g v g',ih.call d f as g=.ok v g'->WF g->Mon g g'
theorem B_:∀(ids:List Nat) (g:G),WF g->Mon g (cj g ids):=by
 intro ids
 induction ids with
 |nil=>intro g _;exact Mon.refl g
 | cons i is ih =>
  intro g a;simp only[cj]
  split
  ·rename_i sz rows ep lo fz k;have hi:i<g.nx:=Nat.lt_of_not_le λh=>by have:=a i h;rw[<-G.get_eq,k]at this;cases this
   refine Mon.trans ⟨by simp,⟨[i],by simp,λid hid=>?_,λid hid=>?_⟩,λh id hid=>?_⟩ (ih _ λid hid=>?_)
   ·simp only[G.put_h,RQ];rw[TN];simpa using hid
   ·simp at hid;subst hid;exact⟨by simpa using hi,λhn=>by rw[<-G.get_eq,k]at hn;cases hn⟩
   ·simp only[G.put_nx]at hid;simp only[G.put_h,RQ];rw[TN (by omega)];exact h id hid
   ·simp only[G.put_nx]at hid;simp only[G.put_h,RQ];rw[TN (by omega)];exact a id hid
  ·exact ih g a
theorem Ca:∀(ids:List Nat) (g:G) (γ:Gm) (hg:Nat->AObj),Rel C A bd w γ hg nx->(∀id∈ids,g.h.get id≠.none->hg id=g.h.get id) ->
  ∃γ₁ hg₁,Rel C A bd w γ₁ hg₁ nx/\Stp w γ w γ₁/\(cj g ids).nx=g.nx /\
   (∃new,(cj g ids).lg=new++g.lg/\(∀id∈new,hg₁ id=(cj g ids).h.get id)/\(∀id,id ∉ new->hg₁ id=hg id)) /\
   (∀id,(γ₁ id).kind=(γ id).kind/\(γ₁ id).blk=(γ id).blk/\((γ₁ id).wr=true->(γ id).wr=true)) /\
   (∀id∈ids,(∃sz rows ep lo fz,g.h.get id=.cells sz rows ep lo fz)->(γ₁ id).wr=false):=by
 intro ids
 induction ids with
 | nil =>
  intro g γ hg hr hx;exact⟨γ,hg,hr,Stp.refl _ _,rfl,⟨[],rfl,λ_ h=>absurd h TY,λ_ _=>rfl⟩,λ_=>⟨rfl,rfl,λh=>h⟩,λ_ h=>by cases h⟩
 | cons i is ih =>
  intro g γ hg hr hx;simp only[cj]
  split
  ·rename_i sz rows ep lo fz j;have d:g.h.get i=.cells sz rows ep lo fz:=by simpa using j
   have m:hg i=.cells sz rows ep lo fz:=by rw[hx i UK (by rw[d];simp),d]
   obtain⟨γ₀,r0,s,e0,t⟩:=hr.freeze m;have n:∀id∈is,(g.put i (.cells sz rows ep lo true)).h.get id≠.none->upd hg i (.cells sz rows ep lo true) id=(g.put i (.cells sz rows ep lo true)).h.get id:=by
    intro id hin f;simp only[G.put_h,RQ]at f ⊢;unfold upd
    by_cases hi:id=i
    ·simp[hi]
    ·simp only[hi,if_false]at f ⊢;exact hx id (UC _ hin) f
   obtain⟨γ₁,hg₁,o,p,n1,⟨new,l1,l2,q⟩,f1,f2⟩:=ih _ γ₀ _ r0 n;refine⟨γ₁,hg₁,o,s.trans p,by rw[n1];simp,⟨new++[i],by rw[l1];simp,λid hid'=>?_,λid hid'=>?_⟩,λid=>?_,λid hid' hc=>?_⟩
   ·by_cases hin:id∈new
    ·exact l2 id hin
    ·have hi:id=i:=by
      rcases Uk.1 hid' with h|h
      ·exact absurd h hin
      ·simpa using h
     subst hi;rw[q id hin];simp only[upd_same]
     by_cases hwf:∃new',(cj (g.put id (.cells sz rows ep lo true)) is).lg=new'++(g.put id (.cells sz rows ep lo true)).lg/\∀k,k ∉ new'->(cj (g.put id (.cells sz rows ep lo true)) is).h.get k=(g.put id (.cells sz rows ep lo true)).h.get k
     ·obtain⟨new',r,q2⟩:=hwf;have e:new'=new:=Wv (r.symm.trans l1);rw[q2 id (e ▸ hin)];simp[RQ]
     ·exact absurd (freezeIds_log is _) hwf
   ·rw[q id λh=>hid' (Vx _ h)];exact bZ _ _ (by rintro rfl;exact hid' (Vt _ UK))
   ·obtain⟨a,b,c⟩:=f1 id;rw[e0]at a b c;unfold upd at a b c
    by_cases hi:id=i
    ·subst hi;simp at a b c;exact⟨a,b,λh=>by rw[c]at h;cases h⟩
    ·simp only[hi,if_false]at a b c;exact⟨a,b,c⟩
   ·rcases Us.1 hid' with rfl|hin
    ·have:=(f1 id).2.2;rw[e0]at this;simp at this;simpa using this
    ·by_cases hi:id=i
     ·subst hi;have:=(f1 id).2.2;rw[e0]at this;simp at this;simpa using this
     ·refine f2 id hin ?_;simp only[G.put_h,RQ,hi,if_false];exact hc
  ·rename_i f;obtain⟨γ₁,hg₁,o,p,n1,l,f1,f2⟩:=ih g γ hg hr λid hin=>hx id (UC _ hin);refine⟨γ₁,hg₁,o,p,n1,l,f1,λid hid' hc=>?_⟩;rcases Us.1 hid' with rfl|hin
   ·obtain⟨sz,rows,ep,lo,fz,hc⟩:=hc;exact absurd (by simpa using hc) (f sz rows ep lo fz)
   ·exact f2 id hin hc where
 freezeIds_log:∀(ids:List Nat) (g:G),∃new',(cj g ids).lg=new'++g.lg/\∀k,k ∉ new'->(cj g ids).h.get k=g.h.get k:=by
  intro ids
  induction ids with
  |nil=>intro g;exact⟨[],rfl,λ_ _=>rfl⟩
  | cons i is ih =>
   intro g;simp only[cj]
   split
   ·rename_i sz rows ep lo fz j;obtain⟨new,a,b⟩:=ih (g.put i (.cells sz rows ep lo true));refine⟨new++[i],by rw[a];simp,λk hk=>?_⟩;rw[b k λh=>hk (Vx _ h)];simp only[G.put_h,RQ];rw[TN];rintro rfl;exact hk (Vt _ UK)
   ·exact ih g
def gOf(g:G):OR->G
 |.upd _ g'=>g'
 |_=>g
def vOf:OR->AV
 |.upd v _=>v
 |.val v=>v
 |_=>.undef
theorem tL{ih:IH}(hwf:WF g):Mon g (gOf g (af ih d g f args)):=by
 unfold af
 split
 ·exact Mon.refl g
 split
 ·exact Mon.refl g
 split
 ·exact Mon.refl g
 split
 ·exact Mon.refl g
 rw[aa]
 split
 ·exact Mon.refl g
 split
 ·exact Mon.refl g
 split
 ·exact Mon.refl g
 rw[aa]
 split
 ·exact B_ _ _ hwf
 ·exact Mon.refl g
theorem tM{ih:IH}{vs:List Value}(hc:zD C ih)(hm:vV ih)(hr:Rel C A bd w γ hg nx)
  (hx:∀id∈args.flatMap (aw g.h aC),g.h.get id≠.none->hg id=g.h.get id)
  (hv:RVs w γ A bd args vs) (hne:af ih (bd+1) g f args≠.fail) (cs:List Frame) :
  Enters C.P f/\∃u w' γ' hg',Fin C A bd w γ hg nx g w' γ' hg' (gOf g (af ih (bd+1) g f args))/\RV w' γ' A bd (vOf (af ih (bd+1) g f args)) u /\
   Outs C.P .normal f vs.toArray cs w u w':=by
 let γc:Gm:=λ_=>⟨0,0,0,0,0,0,0,false⟩
 let L:Nat->Prop:=λid=>id∈args.flatMap (aw g.h aC)
 let isC:Nat->Prop:=λid=>∃sz rows ep lo fz,g.h.get id=.cells sz rows ep lo fz
 let Ac:Nat->Nat->Prop:=λt b=>(t<=bd/\(A t b\/Mut γ b))\/(t=bd+1/\b<w.heap.size/\¬∃id,L id/\isC id/\(γ id).kind=1/\(γ id).blk=b)
 have e:∀b,¬Mut γc b:=by rintro b ⟨id,h,_⟩;exact h rfl
 generalize hres:af ih (bd+1) g f args=res at *;unfold af at hres
 split at hres
 ·exact absurd hres.symm hne
 rename_i as F;have l:∀t b,t<=bd->b<w.heap.size->¬A t b->¬Mut γ b->¬Ac t b/\¬Mut γc b:=by
  intro t b h1 _ h2 h3;refine⟨?_,e b⟩;rintro (⟨_,h|h⟩|⟨h,_⟩)
  ·exact h2 h
  ·exact h3 h
  ·omega
 have z:RVs w γc Ac (bd+1) as vs:=by
  refine⟨by rw[kX F];exact hv.1,λi y v hy hvi=>?_⟩;obtain⟨x,h1,h2⟩:=eK F i y hy;refine (zx (L:=L) hr hx (VF _) (TG _) l ?_ aC h2 (hv.2 i x v h1 hvi) λid hid=>V9.2 ⟨x,TL h1,hid⟩).1;intro id hL B hk t h3 h4;have ht:t=bd+1:=WW h4 h3;refine⟨?_,e _⟩;rintro (⟨h,_⟩|⟨_,_,h⟩)
  ·omega
  ·exact h ⟨id,hL,B,hk,rfl⟩
 have T:Rel C Ac (bd+1) w γc (λ_=>.none) 0:=by
  refine⟨λid=>rfl,λid h=>absurd rfl h,λi j h=>absurd rfl h,λid h=>absurd rfl h,?_,λgl sz rows h=>?_⟩
  ·rintro t b (⟨_,h|⟨id,h1,h2,h3⟩⟩|⟨_,h,_⟩)
   ·exact hr.ab t b h
   ·rw[<-h3];exact (hr.lt id h1).2
   ·exact h
  ·have:=hr.glob gl sz rows h;exact (ld this (tS this (.inr ⟨_,_,_,_,_,rfl⟩)) l).mono (VF _)
 split at hres
 ·exact absurd hres.symm hne
 rename_i r g' n;have a:G.empty.h.get=λ_=>AObj.none:=by funext id;simp[G.empty,H.get,RU]
 obtain⟨I,N⟩:=hc (bd+1) f as G.empty r g' n;refine⟨I,?_⟩;obtain⟨u,w',γ',hg',k,U,s⟩:=N Ac w γc (λ_=>.none) 0 vs T (λid h=>by rw[a]at h;exact absurd rfl h) (λid _=>by rw[a])
  (λ_ _ _=>rfl) z .normal cs (.inl rfl)
 have D:Ext g'.h hg':=k.ext (hm _ _ _ _ _ _ n (λid _=>by rw[a])) (λid h=>by rw[a]at h;exact absurd rfl h);have o:∀b,b<w.heap.size->w'.heap[b]?=w.heap[b]?:=λb hb=>k.stp.fr b hb (e b);have p:Stp w γ w' γ:=Bw k.stp.sz k.stp.os k.stp.tape k.stp.output k.stp.dr o;have O:Rel C A bd w' γ hg nx:=hr.same p o
 split at hres
 ·exact absurd hres.symm hne
 rename_i r' E;obtain⟨K,hcl⟩:=zx (A':=Ac) (γ':=γc) (L:=λ_=>True) k.rel (λid _=>D id) (TG _) (Uj _) (λt b _ _ h _=>⟨h,e b⟩)
  (λid _ _ hk t _ _=>⟨k.rel.av id (by rw[hk];decide) t,e _⟩) aC E U λ_ _=>trivial
 split at hres
 ·exact absurd hres.symm hne
 rename_i m hm;have M:=Et _ hm K;rw[aa]at hres
 split at hres
 ·rename_i hlt;rw[UH]at hlt;subst hres;refine⟨u,w',γ,hg,⟨O.up (Vb _ _),p,⟨[],rfl,λ_ h=>absurd h TY,λ_ _=>rfl⟩⟩,?_,s⟩;refine (ld M hcl λt b h1 h2 h3 h4=>⟨λh=>h3 (.inl ⟨by omega,.inl h⟩),λh=>h3 (.inl ⟨by omega,.inr h⟩)⟩).mono (by omega)
 ·split at hres
  ·exact absurd hres.symm hne
  rename_i r'' W
  split at hres
  ·exact absurd hres.symm hne
  rename_i m' S;rw[aa]at hres
  split at hres
  rotate_left
  ·exact absurd hres.symm hne
  rename_i hlt;rw[UH]at hlt;subst hres;obtain⟨γ₁,R,r1,s1,n1,⟨new,l1,l2,l3⟩,f1,f2⟩:=Ca (args.flatMap (aw g.h aC)) g γ hg O hx;have q:∀b,Mut γ₁ b->Mut γ b:=by rintro b ⟨id,h1,h2,h3⟩;obtain⟨e1,e2,e3⟩:=f1 id;exact⟨id,by rw[<-e1];exact h1,e3 h2,by rw[<-e2];exact h3⟩
  refine⟨u,w',γ₁,R,⟨r1.up (Vb _ _),p.trans s1,⟨new,l1,l2,l3⟩⟩,?_,s⟩
  let A₁:Nat->Nat->Prop:=λt b=>if t=bd+1 then ∃t',A t' b else A t b
  have J:m<=bd+1:=zy _ hm K;have V:RV w' γ₁ A₁ m r' u:=by
   refine ld M hcl λt b h1 h2 h3 _=>?_
   by_cases ht:t=bd+1
   ·have hb:w.heap.size<=b\/∃id,L id/\isC id/\(γ id).kind=1/\(γ id).blk=b:=by
     by_cases hs:w.heap.size<=b
     ·exact .inl hs
     ·exact .inr (U9 λhn=>h3 (.inr ⟨ht,by omega,hn⟩))
    rcases hb with hb|⟨id,q1,q2,q3,q4⟩
    ·refine⟨?_,λhmu=>?_⟩
     ·simp only[A₁,ht,if_true];rintro⟨t',h⟩;have:=hr.ab t' b h;omega
     ·obtain⟨id,X,Y,Z⟩:=q b hmu;have:=(hr.lt id X).2;omega
    ·refine⟨?_,?_⟩
     ·simp only[A₁,ht,if_true];rintro⟨t',h⟩;rw[<-q4]at h;exact hr.av id (by rw[q3];decide) t' h
     ·rintro⟨j,X,Y,Z⟩;obtain⟨e1,e2,e3⟩:=f1 j;have hj:j=id:=hr.inj j id (by rw[<-e1];exact X) (by rw[q3];decide) (by rw[<-e2,Z,q4]);subst hj;rw[f2 j q1 q2]at Y;cases Y
   ·refine⟨?_,λh=>h3 (.inl ⟨by omega,.inr (q b h)⟩)⟩;simp only[A₁,ht,if_false];exact λh=>h3 (.inl ⟨by omega,.inl h⟩)
  obtain⟨Q,_⟩:=NF (A':=A) (d:=bd+1) (λt b h1 h2=>by simp only[A₁,show t≠bd+1 by omega,if_false]at h2;exact h2)
   (λb h2 t ht=>h2 (by simp only[A₁,if_true];exact⟨t,ht⟩)) aC W (V.mono J) hcl
  exact (Et _ S Q).mono (by omega)
end
end
section
variable {C:Cfg}
theorem Mon.put{g:G}{id:Nat}{o:AObj}(hwf:WF g)(hid:g.h.get id≠.none):Mon g (g.put id o):=by
 have hi:id<g.nx:=Nat.lt_of_not_le λh=>hid (hwf id h);refine⟨by simp,⟨[id],by simp,λk hk=>?_,λk hk=>?_⟩,λh k hk=>?_⟩
 ·simp only[G.put_h,RQ];rw[TN];simpa using hk
 ·simp at hk;subst hk;exact⟨by simpa using hi,λhn=>absurd hn hid⟩
 ·simp only[G.put_nx]at hk;simp only[G.put_h,RQ];rw[TN (by omega)];exact h k hk
theorem Mon.mk'{g:G}{o:AObj}:Mon g (g.new o):=by
 refine⟨by simp,⟨[g.nx],by simp,λk hk=>?_,λk hk=>?_⟩,λh k hk=>?_⟩
 ·simp only[G.new_h,RQ];rw[TN];simpa using hk
 ·simp at hk;subst hk;simp
 ·simp only[G.new_nx]at hk;simp only[G.new_h,RQ];rw[TN (by omega)];exact h k (by omega)
def Small(g:G):OR->Prop
 |.fail=>True
 |.val _=>True
 |.upd _ g'=>(∃id ob,g'=g.put id ob/\g.h.get id≠.none)\/∃ob,g'=g.new ob
 |.dfr _=>False
theorem Small.mon{g:G}{r:OR}(h:Small g r)(hwf:WF g):Mon g (gOf g r):=by
 cases r with
 | upd v g' =>
  rcases h with⟨id,ob,rfl,h⟩|⟨ob,rfl⟩
  ·exact Mon.put hwf h
  ·exact Mon.mk'
 |_=>exact Mon.refl g
variable {op:Op}{t:T}{g:G}{f:Stg SFn}
theorem mj(x:Option AV):Small g (orV x):=by cases x<;>trivial
theorem ya(sz bytes:Nat)(s:AV)(new:List (List AV)):Small g (bg sz bytes s new g):=by
 unfold bg;simp only[aa]
 repeat' split
 all_goals first
  |trivial
  |exact .inr ⟨_,rfl⟩
  |exact .inl ⟨_,_,rfl,λhn=>by simp_all⟩
theorem Kr{P:Program}{op:BinOp}{ty:TypeId}{y:AV}:Small g ((zK P op ty).run x y):=by
 unfold zK
 split
 ·split
  ·dsimp only;split<;>first|exact mj _|trivial
  ·dsimp only;split<;>trivial
 ·split
  ·dsimp only;split<;>first|exact mj _|trivial
  ·dsimp only;split<;>trivial
 ·dsimp only;split<;>first|exact mj _|trivial
theorem No{op:UnOp}:Small g ((unA op).run x):=by
 unfold unA
 split
 ·dsimp only;split<;>trivial
 ·dsimp only;split<;>first|exact mj _|trivial
theorem yd(h:cw C op=some f):Small g (f.run t g):=by
 cases op<;>simp only[cw]at h<;>first| (cases h;done)|skip
 case call c =>
  obtain⟨callee,args,argTypes⟩:=c;cases callee<;>first| (cases h;done)|skip
  rename_i b;dsimp only at h;unfold dj at h
  split at h
  all_goals
   repeat' (first|split at h| (rw[aa]at h;split at h))
   all_goals first| (cases h;done)|skip
   all_goals (injection h with h;subst h)
   all_goals dsimp only[cH,di,we,CA,K8,Af]
   all_goals try simp only[aa]
   all_goals repeat' split
   all_goals first
    |trivial
    |exact ya _ _ _ _
    |exact .inr ⟨_,rfl⟩
    |exact .inl ⟨_,_,rfl,λhn=>by simp_all⟩
 all_goals
  repeat' (first|split at h| (rw[aa]at h;split at h))
  all_goals first| (cases h;done)|skip
  all_goals first| (injection h with h;subst h)| (exfalso;injections;done)| (rename_i k _;cases k)
  all_goals dsimp only[nh,pc,Do,K0,nZ,ij,j8,gN,nf,vE,pY,ic,dC,fO,gc,im,iP]
  all_goals first
   |exact mj _
   |exact Kr
   |exact No
   |skip
  all_goals try simp only[aa]
  all_goals repeat' split
  all_goals first
   |trivial
   |exact mj _
   |exact .inr ⟨_,rfl⟩
   |exact .inl ⟨_,_,rfl,λhn=>by simp_all⟩
   |skip
def d9(C:Cfg):Prop:=∀f e,C.ext f=some e->∀d args g,WF g->Mon g (gOf g (e d args g))
structure IHMon (ih:IH):Prop where
 code:∀nt d rd c t df g e t' df' g',ih.code nt d rd c t df g=.ok e t' df' g'->WF g->Mon g g'
 call:vV ih
variable {ih:IH}
theorem Hn(hi:IHMon ih){id:Nat}{g:G}(hwf:WF g):Mon g (gOf g (bP ih d id args g)):=by
 unfold bP
 split
 ·split
  ·exact Mon.refl g
  ·split
   ·rename_i t1 g1 h1;have e:=hi.code _ _ _ _ _ _ _ _ _ _ _ h1 hwf;have w1:WF g1:=e.wf hwf
    split
    ·rename_i a
     split
     ·rename_i g2 h2;have c:g1.h.get id≠.none:=by rw[<-G.get_eq,a];simp
      have f:=λo=>Mon.put (o:=o) w1 c;have j:=hi.code _ _ _ _ _ _ _ _ _ _ _ h2 ((f _).wf w1);have i:=e.trans ((f _).trans j)
      split
      ·rename_i k;have b:g2.h.get id≠.none:=by rw[<-G.get_eq,k];simp
       split
       all_goals exact i.trans (Mon.put (i.wf hwf) b)
      ·exact Mon.refl g
     ·exact Mon.refl g
    ·exact Mon.refl g
   ·exact Mon.refl g
 ·exact Mon.refl g
theorem IM{g:G}{r:FR}(h:∀v g',r=.ok v g'->Mon g g'):Mon g (gOf g (orF r)):=by
 cases r with
 |fail=>exact Mon.refl g
 |ok v g'=>exact h v g' rfl
theorem Jt(he:d9 C)(hi:IHMon ih){vs:List AV}{g:G}(hwf:WF g):Mon g (gOf g (jG C ih d fv vs g)):=by
 unfold jG
 split
 ·split
  ·rename_i e h;exact he _ e h _ _ g hwf
  ·rw[aa]
   split
   ·exact tL hwf
   ·exact IM λv g' h=>hi.call _ _ _ _ _ _ h hwf
 ·exact Hn hi hwf
 ·exact Mon.refl g
theorem N8(he:d9 C)(hi:IHMon ih){op:Op}{f:Stg KR}(h:cOp C op=some f){t:T}{g:G}(hwf:WF g) :
  Mon g (gOf g (f.run ih d rd t g)):=by
 unfold cOp at h
 split at h
 ·split at h
  ·split at h
   ·rename_i e k;injection h with h;subst h;exact he _ e k _ _ g hwf
   ·rw[aa]at h
    split at h
    ·injection h with h;subst h;exact tL hwf
    ·injection h with h;subst h;exact IM λv g' h=>hi.call _ _ _ _ _ _ h hwf
  ·cases h
 ·split at h
  ·injection h with h;subst h;exact Jt he hi hwf
  ·cases h
 ·injection h with h;subst h;exact Mon.refl g
 ·split at h
  ·injection h with h;subst h;dsimp only
   split
   ·exact Mon.refl g
   ·split<;>exact Mon.refl g
  ·cases h
 ·split at h
  ·rename_i s hs;injection h with h;subst h;exact (yd hs).mon hwf
  ·cases h
theorem iW(he:d9 C)(hi:IHMon ih){op:Op}{t:T}{g:G}(hwf:WF g) :
  Mon g (gOf g ((cE C op).run ih d rd t g)):=by
 unfold cE
 split
 ·rename_i f hf;exact N8 he hi hf hwf
 ·exact Mon.refl g
theorem BB{out:T->AV->T}{next:T->List ADf->G->CR}{t:T}{g:G}{r:OR}{e:Ex}
  (h:pd out next t df g r=.ok e t' df' g') (hwf:WF g) (hr:Mon g (gOf g r)) (hn:∀t df g1,next t df g1=.ok e t' df' g'->WF g1->Mon g1 g'):Mon g g':=by
 cases r with
 |fail=>cases h
 |val v=>exact hn _ _ _ h hwf
 |upd v g1=>exact hr.trans (hn _ _ _ h (hr.wf hwf))
 |dfr a=>exact hn _ _ _ h hwf
theorem zT(he:d9 C)(hi:IHMon ih){all:List Oper}:∀{ops:List Oper} {d:Nat} {rd:Option Nat} {t:T} {df:List ADf} {g:G} {e:Ex} {t':T} {df':List ADf} {g':G},
  (jU C nt all ops).run ih d rd t df g=.ok e t' df' g'->WF g->Mon g g':=by
 intro ops
 induction ops with
 |nil=>intro d rd t df g e t' df' g' h _;simp only[jU]at h;injection h with _ _ _ h;subst h;exact Mon.refl _
 | cons o rest ihl =>
  intro d rd t df g e t' df' g' h k;simp only[jU]at h
  split at h
  ·split at h
   ·exact BB h k (iW he hi k) λ_ _ _ h1 h2=>ihl h1 h2
   ·split at h
    ·dsimp only at h
     split at h
     ·exact BB h k (iW he hi k) λ_ _ _ h1 h2=>ihl h1 h2
     ·exact ihl h k
     ·cases h
    ·cases h
  ·cases h
theorem WF.setLog{g:G}{l:List Nat}(h:WF g):WF (aR g l):=λid hid=>by simp only[setLog_nx]at hid;simp only[setLog_h];exact h id hid
theorem RR{g:G}:Mon g (pp g g.lg) :=
 ⟨by simp,⟨[],by simp,λid _=>by simp,λ_ h=>absurd h TY⟩,λh id hid=>by simp only[bumpG_nx]at hid;simp only[bumpG_h];exact h id (by omega)⟩
theorem RS{g:G}(h:Mon (aR g []) g1):Mon g (pp g1 (g1.lg++g.lg)):=by
 obtain⟨n,a,b,c⟩:=h.new;have d:g.nx<=g1.nx:=by simpa using h.nx
 refine⟨by simp;omega,⟨g1.lg,by simp,λid hid=>?_,λid hid=>?_⟩,λhw id hid=>?_⟩
 ·have e:g1.lg=n:=by simpa using a
  rw[e]at hid;have:=b id hid;simpa using this
 ·have e:g1.lg=n:=by simpa using a
  rw[e]at hid;have:=c id hid;simp only[setLog_h,setLog_nx]at this;exact⟨by simp;omega,this.2⟩
 ·simp only[bumpG_nx]at hid;simp only[bumpG_h];exact h.wf (λk hk=>by simp only[setLog_nx]at hk;simp only[setLog_h];exact hw k hk) id (by omega)
theorem Jr(he:d9 C)(hi:IHMon ih){pm:List Nat}{all:List Oper}:∀{ops:List Oper} {i d:Nat} {rd:Option Nat} {t:T} {df:List ADf} {g:G} {fs:List Foot} {e:Ex} {t':T} {df':List ADf} {g':G},
  (iU C nt pm all i ops).run ih d rd t df g fs=.ok e t' df' g'->WF g->Mon g g':=by
 intro ops
 induction ops with
 | nil =>
  intro i d rd t df g fs e t' df' g' h _;simp only[iU,aa]at h
  split at h
  ·injection h with _ _ _ h;subst h;exact Mon.refl _
  ·cases h
 | cons o rest ihl =>
  intro i d rd t df g fs e t' df' g' h k;simp only[iU]at h
  split at h
  ·dsimp only at h
   split at h
   ·have hm:=iW (op:=o.op) (d:=d) (rd:=rd) (t:=t) he hi (k.setLog (l:=[]));generalize (cE C o.op).run ih d rd t (aR g [])=r at h hm;cases r with
    |fail=>cases h
    |val v=>exact RR.trans (ihl h (RR.wf k))
    | upd v g1 =>
     have b:=RS hm;exact b.trans (ihl h (b.wf k))
    |dfr a=>cases h
   ·exact ihl h k
   ·cases h
  ·cases h
theorem EN(he:d9 C)(hi:IHMon ih){ops:List Oper}{draw:Bool}{t:T}{g:G}{e:Ex}
  (h:(fV C nt ops draw).run ih d rd t df g=.ok e t' df' g') (hwf:WF g):Mon g g':=by
 unfold fV at h;rw[aa]at h
 split at h
 ·rw[aa]at h
  split at h
  ·rw[aa]at h
   split at h
   ·dsimp only at h;unfold np at h
    split at h
    ·split at h
     ·rw[aa]at h
      split at h
      ·injection h with _ _ _ h;subst h;exact Mon.refl _
      ·cases h
     ·cases h
    ·cases h
   ·exact Jr he hi h hwf
  ·cases h
 ·exact zT he hi h hwf
theorem wZ(hi:IHMon ih){id:Nat}{t:T}{g:G}{e:Ex}
  (h:dY ih nt d rd id t df g=.ok e t' df' g') (hwf:WF g):Mon g g':=by
 unfold dY at h
 split at h
 ·rename_i k;have a:g.h.get id≠.none:=by rw[<-G.get_eq,k];simp
  have m:∀o,Mon g (g.put id o):=λo=>Mon.put hwf a
  split at h
  ·cases h
  ·split at h
   ·injection h with _ _ _ h;subst h;exact m _
   ·exact (m _).trans (hi.code _ _ _ _ _ _ _ _ _ _ _ h ((m _).wf hwf))
 ·cases h
theorem o4(hi:IHMon ih){t:T}{dfr:Nat}{g:G}{e:Ex}
  (h:cN C ih nt d rd fv ps assign body t df dfr g=.ok e t' df' g') (hwf:WF g):Mon g g':=by
 unfold cN at h
 split at h
 ·rw[aa]at h
  split at h
  ·cases h
  ·split at h
   ·rename_i v g2 h2;have k:Mon g (g.new (.loop nt t ps assign body dfr .ready none)):=Mon.mk';have b:=hi.call _ _ _ _ _ _ h2 (k.wf hwf);have a:=k.trans b;exact a.trans (wZ hi h (a.wf hwf))
   ·cases h
 ·cases h
theorem Hj(hi:IHMon ih){fo:T->AV}{t:T}{g:G}{e:Ex}
  (h:nq C nt fo ps assign body ih d rd t df g=.ok e t' df' g') (hwf:WF g):Mon g g':=by
 unfold nq at h
 split at h
 ·split at h
  ·exact o4 hi h hwf
  ·cases h
 ·have k:Mon g (g.new (.dfr true)):=Mon.mk';exact k.trans (o4 hi h (k.wf hwf))
theorem jT(he:d9 C)(hi:IHMon ih):∀(c:Code) {d:Nat} {rd:Option Nat} {t:T} {df:List ADf} {g:G} {e:Ex} {t':T} {df':List ADf} {g':G},
  (aS C nt c).run ih d rd t df g=.ok e t' df' g'->WF g->Mon g g':=by
 intro c;have now:∀{e e':Ex} {t t':T} {df df':List ADf} {g g':G},CR.ok e' t df g=.ok e t' df' g'->Mon g g':=by intro e e' t t' df df' g g' h;injection h with _ _ _ h;subst h;exact Mon.refl _
 induction c with
 |skip=>intro d rd t df g e t' df' g' h _;exact now h
 |label l=>intro d rd t df g e t' df' g' h _;exact now h
 |region id ops draw=>intro d rd t df g e t' df' g' h k;exact EN he hi h k
 | seq a b iha ihb =>
  intro d rd t df g e t' df' g' h k;simp only[aS]at h;generalize hr:(aS C nt a).run ih d rd t df g=r at h;cases r with
  |fail=>cases h
  | ok e1 t1 df1 g1 =>
   have i:=iha hr k;cases e1 with
   |norm=>exact i.trans (ihb h (i.wf k))
   |exit j=>exact i.trans (now h)
   |ret=>exact i.trans (now h)
 | cond c a b iha ihb =>
  intro d rd t df g e t' df' g' h k;simp only[aS]at h
  split at h
  ·dsimp only at h
   split at h
   ·rw[aa]at h
    split at h
    ·exact iha h k
    ·exact ihb h k
   ·cases h
  ·cases h
 | block id body ihb =>
  intro d rd t df g e t' df' g' h k;simp only[aS]at h;generalize hr:(aS C nt body).run ih d rd t df g=r at h;cases r with
  |fail=>cases h
  | ok e1 t1 df1 g1 =>
   have i:=ihb hr k;cases e1 with
   |norm=>exact i.trans (now h)
   | exit j =>
    simp only[uR,aa]at h
    split at h
    ·exact i.trans (now h)
    ·exact i.trans (now h)
   |ret=>exact i.trans (now h)
 | loop body ihb =>
  intro d rd t df g e t' df' g' h k;simp only[aS]at h;generalize hr:(aS C nt body).run ih d rd t df g=r at h;cases r with
  |fail=>cases h
  | ok e1 t1 df1 g1 =>
   have i:=ihb hr k;cases e1 with
   |norm=>exact i.trans (hi.code _ _ _ _ _ _ _ _ _ _ _ h (i.wf k))
   |exit j=>exact i.trans (now h)
   |ret=>exact i.trans (now h)
 |scope body ihb=>intro d rd t df g e t' df' g' h k;exact ihb h k
 |exit id=>intro d rd t df g e t' df' g' h _;exact now h
 |ret=>intro d rd t df g e t' df' g' h _;exact now h
 | rangeFunc f ps assign body _ _ =>
  intro d rd t df g e t' df' g' h k;simp only[aS]at h
  split at h
  ·exact Hj hi h k
  ·cases h
 |_=>intro d rd t df g e t' df' g' h _;cases h
theorem mg(hi:IHMon ih):∀{df:List ADf} {g g':G},d8 ih d df g=some g'->WF g->Mon g g':=by
 intro df
 induction df with
 |nil=>intro g g' h _;simp only[d8]at h;injection h with h;subst h;exact Mon.refl _
 | cons a df ihl =>
  intro g g' h k;cases a with
  | mark id =>
   simp only[d8]at h
   split at h
   ·rename_i b;have m:Mon g (g.put id (.dfr false)):=Mon.put k (by rw[<-G.get_eq,b];simp);exact m.trans (ihl h (m.wf k))
   ·cases h
  | call f args =>
   cases f<;>simp only[d8]at h<;>first| (cases h;done)|skip
   split at h
   ·rename_i v g1 h1;have m:=hi.call _ _ _ _ _ _ h1 k;exact m.trans (ihl h (m.wf k))
   ·cases h
theorem N6(he:d9 C)(hi:IHMon ih){f:Nat}{x:Stg (IH->Nat->List AV->G->FR)}(hx:cFn C f=some x){g:G}{v:AV}
  (h:x.run ih d args g=.ok v g') (hwf:WF g):Mon g g':=by
 unfold cFn at hx
 split at hx
 ·cases hx
 split at hx
 ·cases hx
 split at hx
 ·rw[aa]at hx
  split at hx
  ·cases hx
  injection hx with hx;subst hx;dsimp only at h;rw[aa]at h
  split at h
  ·split at h
   ·cases h
   ·rename_i hc;have k:=jT he hi _ hc hwf;unfold cT at h
    split at h
    ·cases h
    ·rename_i g2 h2;have a:=mg hi h2 (k.wf hwf)
     split at h
     ·injection h with _ h;subst h;exact k.trans a
     ·cases h
   ·cases h
  ·cases h
 ·cases hx
theorem zu(he:d9 C):∀n,IHMon (sem C n):=by
 intro n
 induction n with
 |zero=>exact⟨λnt d rd c t df g e t' df' g' h=>(by cases h),λd f as g v g' h=>(by cases h)⟩
 | succ n ihn =>
  refine⟨λnt d rd c t df g e t' df' g' h hwf=>jT he ihn c h hwf,λd f as g v g' h hwf=>?_⟩;change eE C (sem C n) d f as g=.ok v g' at h;unfold eE at h
  split at h
  ·rename_i x hx;exact N6 he ihn hx h hwf
  ·cases h
end
section
def CLe(a b:CR):Prop:=a=.fail\/a=b
def FLe(a b:FR):Prop:=a=.fail\/a=b
def OLe(a b:OR):Prop:=a=.fail\/a=b
structure IHLe (i j:IH):Prop where
 code:∀nt d rd c t df g,CLe (i.code nt d rd c t df g) (j.code nt d rd c t df g)
 call:∀d f as g,FLe (i.call d f as g) (j.call d f as g)
variable {i j:IH}
theorem AR(h:IHLe i j):OLe (af i d g f args) (af j d g f args):=by
 unfold af
 split
 ·exact .inl rfl
 ·rename_i as _;rcases h.call (Nat.succ d) f as G.empty with e|e<;>rw[e]
  ·exact .inl rfl
  ·exact .inr rfl
theorem Kk(h:IHLe i j){id:Nat}:OLe (bP i d id args g) (bP j d id args g):=by
 unfold bP
 split
 ·split
  ·exact .inl rfl
  ·rename_i nt t ps assign body dfr st pend hg o t' ht;rcases h.code nt d (some id) assign t' [] g with e|e<;>rw[e]
   ·exact .inl rfl
   ·split
    ·split
     ·rename_i t1 g1 _ _ nt1 t2 ps2 assign1 body1 dfr1 pend1 _;rcases h.code nt d (some id) body t1 [] (g1.put id (.loop nt1 t2 ps2 assign1 body1 dfr1 .busy pend1)) with e|e<;>rw[e]
      ·exact .inl rfl
      ·exact .inr rfl
     ·exact .inl rfl
    ·exact .inl rfl
 ·exact .inl rfl
theorem MH{a b:FR}(h:FLe a b):OLe (orF a) (orF b):=by
 rcases h with h|h<;>rw[h]
 ·exact .inl rfl
 ·exact .inr rfl
theorem K7(h:IHLe i j){vs:List AV}:OLe (jG C i d fv vs g) (jG C j d fv vs g):=by
 unfold jG
 split
 ·split
  ·exact .inr rfl
  ·rw[aa,aa]
   split
   ·exact AR h
   ·exact MH (h.call _ _ _ _)
 ·exact Kk h
 ·exact .inl rfl
theorem Df{out:T->AV->T}{n m:T->List ADf->G->CR}{a b:OR}(h:OLe a b)(hn:∀t df g,CLe (n t df g) (m t df g)) :
  CLe (pd out n t df g a) (pd out m t df g b):=by
 rcases h with h|h<;>rw[h]
 ·exact .inl rfl
 ·cases b with
  |fail=>exact .inl rfl
  |val v=>exact hn _ _ _
  |upd v g'=>exact hn _ _ _
  |dfr a=>exact hn _ _ _
theorem Gk{out:T->AV->T}{n m:T->List ADf->G->List Foot->CR}{fs:List Foot}{lk:Looks}{a b:OR}(h:OLe a b)
  (hn:∀t df g fs,CLe (n t df g fs) (m t df g fs)):CLe (lf out n t df g fs lk a) (lf out m t df g fs lk b):=by
 rcases h with h|h<;>rw[h]
 ·exact .inl rfl
 ·cases b with
  |fail=>exact .inl rfl
  |val v=>exact hn _ _ _ _
  |upd v g'=>exact hn _ _ _ _
  |dfr a=>exact .inl rfl
theorem I3{n m:T->List ADf->G->CR}{a b:CR}(h:CLe a b)(hn:∀t df g,CLe (n t df g) (m t df g)):CLe (Ce n a) (Ce m b):=by
 rcases h with h|h<;>rw[h]
 ·exact .inl rfl
 ·unfold Ce
  split
  ·exact hn _ _ _
  ·exact .inr rfl
theorem Jp{id:Nat}{a b:CR}(h:CLe a b):CLe (uR id a) (uR id b):=by
 rcases h with h|h<;>rw[h]
 ·exact .inl rfl
 ·exact .inr rfl
theorem FW{a b:CR}(h:CLe a b):CLe (np g a) (np g b):=by
 rcases h with h|h<;>rw[h]
 ·exact .inl rfl
 ·exact .inr rfl
theorem Qj(h:IHLe i j){x:Stg KR}(hx:cOp C op=some x):OLe (x.run i d rd t g) (x.run j d rd t g):=by
 unfold cOp at hx
 repeat' (first|split at hx|rw[aa]at hx)
 all_goals first
  | (cases hx;done)
  | (injection hx with hx;subst hx;first|exact .inr rfl|exact AR h|exact MH (h.call _ _ _ _)|exact K7 h)
theorem Ds(h:IHLe i j):OLe ((cE C op).run i d rd t g) ((cE C op).run j d rd t g):=by
 unfold cE
 split
 ·rename_i x hx;exact Qj h hx
 ·exact .inl rfl
theorem wg{C:Cfg}(h:IHLe i j){nt:Nat}{all:List Oper}:∀(l:List Oper) (d:Nat) (rd:Option Nat) (t:T) (df:List ADf) (g:G),
  CLe ((jU C nt all l).run i d rd t df g) ((jU C nt all l).run j d rd t df g)
 |[],_,_,_,_,_=>.inr rfl
 | o::rest,d,rd,t,df,g=>by
  unfold jU
  split
  ·split
   ·exact Df (Ds h) λt df g=>wg h rest d rd t df g
   ·split
    ·dsimp only
     split
     ·exact Df (Ds h) λt df g=>wg h rest d rd t df g
     ·exact wg h rest d rd _ df g
     ·exact .inl rfl
    ·exact .inl rfl
  ·exact .inl rfl
theorem zS{C:Cfg}(h:IHLe i j){nt:Nat}{pm:List Nat}{all:List Oper}:∀(l:List Oper) (k d:Nat) (rd:Option Nat) (t:T) (df:List ADf) (g:G) (fs:List Foot),
  CLe ((iU C nt pm all k l).run i d rd t df g fs) ((iU C nt pm all k l).run j d rd t df g fs)
 |[],_,_,_,_,_,_,_=>.inr rfl
 | o::rest,k,d,rd,t,df,g,fs=>by
  unfold iU
  split
  ·dsimp only
   split
   ·exact Gk (Ds h) λt df g fs=>zS h rest (k+1) d rd t df g fs
   ·exact zS h rest (k+1) d rd _ df g _
   ·exact .inl rfl
  ·exact .inl rfl
theorem GA(h:IHLe i j){ops:List Oper}{draw:Bool} :
  CLe ((fV C nt ops draw).run i d rd t df g) ((fV C nt ops draw).run j d rd t df g):=by
 unfold fV;rw[aa,aa,aa]
 split
 ·split
  ·split
   ·exact FW (wg h _ _ _ _ _ _)
   ·exact zS h _ _ _ _ _ _ _ _
  ·exact .inl rfl
 ·exact wg h _ _ _ _ _ _
theorem FY(h:IHLe i j){id:Nat}:CLe (dY i nt d rd id t df g) (dY j nt d rd id t df g):=by
 unfold dY
 split
 ·split
  ·exact .inl rfl
  ·split
   ·exact .inr rfl
   ·exact h.code _ _ _ _ _ _ _
 ·exact .inl rfl
theorem wY(h:IHLe i j){dfr:Nat} :
  CLe (cN C i nt d rd fv ps assign body t df dfr g) (cN C j nt d rd fv ps assign body t df dfr g):=by
 unfold cN
 split
 ·rename_i f first cap
  rw[aa,aa]
  split
  ·exact .inl rfl
  ·rcases h.call d f (first++(.yld g.nx::cap)) (g.new (.loop nt t ps assign body dfr .ready none)) with e|e<;>rw[e]
   ·exact .inl rfl
   ·split
    ·exact FY h
    ·exact .inl rfl
 ·exact .inl rfl
theorem Kg(h:IHLe i j){fo:T->AV} :
  CLe (nq C nt fo ps assign body i d rd t df g) (nq C nt fo ps assign body j d rd t df g):=by
 unfold nq
 split
 ·split
  ·exact wY h
  ·exact .inl rfl
 ·exact wY h
theorem EK(h:IHLe i j):∀(c:Code) (d:Nat) (rd:Option Nat) (t:T) (df:List ADf) (g:G),
  CLe ((aS C nt c).run i d rd t df g) ((aS C nt c).run j d rd t df g):=by
 intro c
 induction c with
 |seq a b iha ihb=>intro d rd t df g;unfold aS;exact I3 (iha _ _ _ _ _) λt df g=>ihb _ _ _ _ _
 | cond q a b iha ihb =>
  intro d rd t df g;unfold aS
  split
  ·dsimp only
   split
   ·rw[aa,aa]
    split
    ·exact iha _ _ _ _ _
    ·exact ihb _ _ _ _ _
   ·exact .inl rfl
  ·exact .inl rfl
 |block id body ih=>intro d rd t df g;unfold aS;exact Jp (ih _ _ _ _ _)
 |loop body ih=>intro d rd t df g;unfold aS;exact I3 (ih _ _ _ _ _) λt df g=>h.code _ _ _ _ _ _ _
 |scope body ih=>intro d rd t df g;unfold aS;exact ih _ _ _ _ _
 |region p ops draw=>intro d rd t df g;unfold aS;exact GA h
 | rangeFunc f ps assign body _ _ =>
  intro d rd t df g;unfold aS
  split
  ·exact Kg h
  ·exact .inl rfl
 |_=>intro d rd t df g;first|exact .inr rfl|exact .inl rfl
def ULe(a b:Option G):Prop:=a=none\/a=b
theorem Nf(h:IHLe i j):∀(l:List ADf) (g:G),ULe (d8 i d l g) (d8 j d l g):=by
 intro l
 induction l with
 |nil=>intro g;exact .inr rfl
 | cons a l ih =>
  intro g;cases a with
  | mark id =>
   simp only[d8]
   split
   ·exact ih _
   ·exact .inl rfl
  | call fv args =>
   cases fv with
   | clo f first cap =>
    simp only[d8];rcases h.call d f (first++(args++cap)) g with e|e<;>rw[e]
    ·exact .inl rfl
    ·split
     ·exact ih _
     ·exact .inl rfl
   |_=>exact .inl rfl
theorem GL(h:IHLe i j){res:T->G->Option (List AV)}:FLe (cT i d res t df g) (cT j d res t df g):=by
 unfold cT;rcases Nf h (d:=d) df g with e|e<;>rw[e]
 ·exact .inl rfl
 ·exact .inr rfl
theorem EP(h:IHLe i j):FLe (eE C i d f args g) (eE C j d f args g):=by
 unfold eE
 split
 ·rename_i x hx;unfold cFn at hx
  split at hx
  ·cases hx
  rename_i fn b
  split at hx
  ·cases hx
  rename_i c k
  split at hx
  rotate_left
  ·cases hx
  rename_i r a;rw[aa]at hx
  split at hx
  ·cases hx
  injection hx with hx;subst hx;dsimp only;rw[aa,aa]
  split
  ·rcases EK h (C:=C) (nt:=fn.ntmps) c d none (bN 0 args .nil) [] g with e|e<;>rw[e]
   ·exact .inl rfl
   ·split
    ·exact .inl rfl
    ·exact GL h
    ·exact .inl rfl
  ·exact .inl rfl
 ·exact .inl rfl
theorem Kx(h:IHLe i j):IHLe (HA C i) (HA C j) :=
 ⟨λnt d rd c t df g=>EK h c d rd t df g,λd f as g=>EP h⟩
theorem yH(C:Cfg):∀n,IHLe (sem C n) (sem C (n+1))
 |0=>⟨λ_ _ _ _ _ _ _=>.inl rfl,λ_ _ _ _=>.inl rfl⟩
 |n+1=>Kx (yH C n)
theorem Nj(C:Cfg){n m:Nat}(h:n<=m):IHLe (sem C n) (sem C m):=by
 induction h with
 |refl=>exact⟨λ_ _ _ _ _ _ _=>.inr rfl,λ_ _ _ _=>.inr rfl⟩
 | @step k h ih =>
  have s:=yH C k;refine⟨λnt d rd c t df g=>?_,λd f as g=>?_⟩
  ·rcases ih.code nt d rd c t df g with e|e
   ·exact .inl e
   ·rw[e];exact s.code _ _ _ _ _ _ _
  ·rcases ih.call d f as g with e|e
   ·exact .inl e
   ·rw[e];exact s.call _ _ _ _
end
section
open Classical in
noncomputable def I(C:Cfg):IH :=
 ⟨λnt d rd c t df g=>if h:∃n,(sem C n).code nt d rd c t df g≠.fail then (sem C (Classical.choose h)).code nt d rd c t df g else .fail,
  λd f as g=>if h:∃n,(sem C n).call d f as g≠.fail then (sem C (Classical.choose h)).call d f as g else .fail⟩
def Ct(C:Cfg){α:Type}(F:IH->α):Prop:=∃n,∀m,n<=m->F (sem C m)=F (I C)
variable {C:Cfg}
theorem Ct.const{α:Type}(a:α):Ct C (λ_=>a):=⟨0,λ_ _=>rfl⟩
theorem Ct.bind{α β:Type}{F:IH->α}{K:IH->α->β}(h:Ct C F)(hk:Ct C λj=>K j (F (I C))):Ct C λj=>K j (F j):=by obtain⟨n,h⟩:=h;obtain⟨m,hk⟩:=hk;refine⟨max n m,λk hm=>?_⟩;have h1:=h k (by omega);have h2:=hk k (by omega);simp only[h1];exact h2
theorem Ct.map{α β:Type}{F:IH->α}(K:α->β)(h:Ct C F):Ct C λj=>K (F j):=Ct.bind (K:=λ_=>K) h (.const _)
theorem Ct.code(nt d:Nat)(rd:Option Nat)(c:Code)(t:T)(df:List ADf)(g:G):Ct C λj=>j.code nt d rd c t df g:=by
 by_cases h:∃n,(sem C n).code nt d rd c t df g≠.fail
 ·refine⟨Classical.choose h,λm hm=>?_⟩;have hs:=Classical.choose_spec h;have e:(I C).code nt d rd c t df g=(sem C (Classical.choose h)).code nt d rd c t df g:=dif_pos h;show _=(I C).code nt d rd c t df g;rw[e];rcases (Nj C hm).code nt d rd c t df g with q|q
  ·exact absurd q hs
  ·exact q.symm
 ·refine⟨0,λm _=>?_⟩;have e:(I C).code nt d rd c t df g=.fail:=dif_neg h;show _=(I C).code nt d rd c t df g;rw[e];exact U9 λq=>h ⟨m,q⟩
theorem Ct.call(d f:Nat)(as:List AV)(g:G):Ct C λj=>j.call d f as g:=by
 by_cases h:∃n,(sem C n).call d f as g≠.fail
 ·refine⟨Classical.choose h,λm hm=>?_⟩;have hs:=Classical.choose_spec h;have e:(I C).call d f as g=(sem C (Classical.choose h)).call d f as g:=dif_pos h;show _=(I C).call d f as g;rw[e];rcases (Nj C hm).call d f as g with q|q
  ·exact absurd q hs
  ·exact q.symm
 ·refine⟨0,λm _=>?_⟩;have e:(I C).call d f as g=.fail:=dif_neg h;show _=(I C).call d f as g;rw[e];exact U9 λq=>h ⟨m,q⟩
theorem uX:Ct C λj=>af j d g f args:=by
 unfold af
 split
 ·exact .const _
 ·rename_i as _;obtain⟨n,h⟩:=Ct.call (C:=C) (Nat.succ d) f as G.empty;exact⟨n,λm hm=>by
   have e:(sem C m).call (Nat.succ d) f as G.empty=(I C).call (Nat.succ d) f as G.empty:=h m hm;simp only[e]⟩
theorem JB{id:Nat}:Ct C λj=>bP j d id args g:=by
 unfold bP
 split
 ·split
  ·exact .const _
  ·rename_i nt t ps assign body dfr st pend hg o t' ht;refine Ct.bind (K:=λj r=>match r with
    | .ok .norm t1 [] g1=>match g1.get id with
     | .loop nt1 t ps assign1 body1 dfr .ready pend =>
      match j.code nt d (some id) body t1 [] (g1.put id (.loop nt1 t ps assign1 body1 dfr .busy pend)) with
      | .ok e _ [] g2=>match g2.get id with
       | .loop nt t ps assign body dfr _ _=>match e with
        |.norm=>OR.upd (.bool true) (g2.put id (.loop nt t ps assign body dfr .ready none))
        |.exit j=>.upd (.bool false) (g2.put id (.loop nt t ps assign body dfr .done (some (.exit j))))
        |.ret=>.upd (.bool false) (g2.put id (.loop nt t ps assign body dfr .done (some .ret)))
       |_=>.fail
      |_=>.fail
     |_=>.fail
    |_=>.fail) (Ct.code nt d (some id) assign t' [] g) ?_
   split
   ·split
    ·rename_i t1 g1 _ _ nt1 t2 ps2 assign1 body1 dfr1 pend1 _;exact Ct.map (λr=>match r with
      | .ok e _ [] g2=>match g2.get id with
       | .loop nt t ps assign body dfr _ _=>match e with
        |.norm=>OR.upd (.bool true) (g2.put id (.loop nt t ps assign body dfr .ready none))
        |.exit j=>.upd (.bool false) (g2.put id (.loop nt t ps assign body dfr .done (some (.exit j))))
        |.ret=>.upd (.bool false) (g2.put id (.loop nt t ps assign body dfr .done (some .ret)))
       |_=>.fail
      |_=>.fail) (Ct.code nt d (some id) body t1 [] (g1.put id (.loop nt1 t2 ps2 assign1 body1 dfr1 .busy pend1)))
    ·exact .const _
   ·exact .const _
 ·exact .const _
theorem Lh{vs:List AV}:Ct C λj=>jG C j d fv vs g:=by
 unfold jG
 split
 ·split
  ·exact .const _
  ·simp only[aa]
   split
   ·exact uX
   ·exact Ct.map orF (Ct.call _ _ _ _)
 ·exact JB
 ·exact .const _
theorem Qn{x:Stg KR}(hx:cOp C op=some x):Ct C λj=>x.run j d rd t g:=by
 unfold cOp at hx
 repeat' (first|split at hx|rw[aa]at hx)
 all_goals first
  | (cases hx;done)
  | (injection hx with hx;subst hx;first|exact Ct.const _|exact uX|exact Ct.map orF (Ct.call _ _ _ _)|exact Lh)
theorem Du:Ct C λj=>(cE C op).run j d rd t g:=by
 unfold cE
 split
 ·rename_i x hx;exact Qn hx
 ·exact .const _
theorem CB{out:T->AV->T}{n:IH->T->List ADf->G->CR}{a:IH->OR}(h:Ct C a)(hn:∀t df g,Ct C λj=>n j t df g) :
  Ct C λj=>pd out (n j) t df g (a j):=by
 refine Ct.bind (K:=λj r=>pd out (n j) t df g r) h ?_;cases a (I C) with
 |fail=>exact .const _
 |val v=>exact hn _ _ _
 |upd v g'=>exact hn _ _ _
 |dfr a=>exact hn _ _ _
theorem EV{out:T->AV->T}{n:IH->T->List ADf->G->List Foot->CR}{fs:List Foot}{lk:Looks}{a:IH->OR}(h:Ct C a)
  (hn:∀t df g fs,Ct C λj=>n j t df g fs):Ct C λj=>lf out (n j) t df g fs lk (a j):=by
 refine Ct.bind (K:=λj r=>lf out (n j) t df g fs lk r) h ?_;cases a (I C) with
 |fail=>exact .const _
 |val v=>exact hn _ _ _ _
 |upd v g'=>exact hn _ _ _ _
 |dfr a=>exact .const _
theorem Id{n:IH->T->List ADf->G->CR}{a:IH->CR}(h:Ct C a)(hn:∀t df g,Ct C λj=>n j t df g):Ct C λj=>Ce (n j) (a j):=by
 refine Ct.bind (K:=λj r=>Ce (n j) r) h ?_;unfold Ce
 split
 ·exact hn _ _ _
 ·exact .const _
theorem wu{nt:Nat}{all:List Oper}:∀(l:List Oper) (d:Nat) (rd:Option Nat) (t:T) (df:List ADf) (g:G),Ct C λj=>(jU C nt all l).run j d rd t df g
 |[],_,_,_,_,_=>.const _
 | o::rest,d,rd,t,df,g=>by
  unfold jU
  split
  ·split
   ·exact CB Du λt df g=>wu rest d rd t df g
   ·split
    ·dsimp only
     split
     ·exact CB Du λt df g=>wu rest d rd t df g
     ·exact wu rest d rd _ df g
     ·exact .const _
    ·exact .const _
  ·exact .const _
theorem Ai{nt:Nat}{pm:List Nat}{all:List Oper}:∀(l:List Oper) (k d:Nat) (rd:Option Nat) (t:T) (df:List ADf) (g:G) (fs:List Foot),
  Ct C λj=>(iU C nt pm all k l).run j d rd t df g fs
 |[],_,_,_,_,_,_,_=>.const _
 | o::rest,k,d,rd,t,df,g,fs=>by
  unfold iU
  split
  ·dsimp only
   split
   ·exact EV Du λt df g fs=>Ai rest (k+1) d rd t df g fs
   ·exact Ai rest (k+1) d rd _ df g _
   ·exact .const _
  ·exact .const _
theorem GF{ops:List Oper}{draw:Bool}:Ct C λj=>(fV C nt ops draw).run j d rd t df g:=by
 unfold fV;simp only[aa]
 split
 ·split
  ·split
   ·exact Ct.map (np g) (wu _ _ _ _ _ _)
   ·exact Ai _ _ _ _ _ _ _ _
  ·exact .const _
 ·exact wu _ _ _ _ _ _
theorem EU{id:Nat}:Ct C λj=>dY j nt d rd id t df g:=by
 unfold dY
 split
 ·split
  ·exact .const _
  ·split
   ·exact .const _
   ·exact Ct.code _ _ _ _ _ _ _
 ·exact .const _
theorem wx{dfr:Nat} :
  Ct C λj=>cN C j nt d rd fv ps assign body t df dfr g:=by
 unfold cN
 split
 ·rename_i f first cap
  simp only[aa]
  split
  ·exact .const _
  ·refine Ct.bind (K:=λj r=>match r with|.ok _ g2=>dY j nt d rd g.nx t df g2|.fail=>.fail) (Ct.call d f (first++(.yld g.nx::cap)) (g.new (.loop nt t ps assign body dfr .ready none))) ?_
   split
   ·exact EU
   ·exact .const _
 ·exact .const _
theorem JA{fo:T->AV}:Ct C λj=>nq C nt fo ps assign body j d rd t df g:=by
 unfold nq
 split
 ·split
  ·exact wx
  ·exact .const _
 ·exact wx
theorem ES:∀(c:Code) (d:Nat) (rd:Option Nat) (t:T) (df:List ADf) (g:G),Ct C λj=>(aS C nt c).run j d rd t df g:=by
 intro c
 induction c with
 |seq a b iha ihb=>intro d rd t df g;unfold aS;exact Id (iha _ _ _ _ _) λt df g=>ihb _ _ _ _ _
 | cond q a b iha ihb =>
  intro d rd t df g;unfold aS
  split
  ·dsimp only
   split
   ·simp only[aa]
    split
    ·exact iha _ _ _ _ _
    ·exact ihb _ _ _ _ _
   ·exact .const _
  ·exact .const _
 |block id body ih=>intro d rd t df g;unfold aS;exact Ct.map (uR id) (ih _ _ _ _ _)
 |loop body ih=>intro d rd t df g;unfold aS;exact Id (ih _ _ _ _ _) λt df g=>Ct.code _ _ _ _ _ _ _
 |scope body ih=>intro d rd t df g;unfold aS;exact ih _ _ _ _ _
 |region p ops draw=>intro d rd t df g;unfold aS;exact GF
 | rangeFunc f ps assign body _ _ =>
  intro d rd t df g;unfold aS
  split
  ·exact JA
  ·exact .const _
 |_=>intro d rd t df g;exact .const _
theorem Li:∀(l:List ADf) (g:G),Ct C λj=>d8 j d l g:=by
 intro l
 induction l with
 |nil=>intro g;exact .const _
 | cons a l ih =>
  intro g;cases a with
  | mark id =>
   simp only[d8]
   split
   ·exact ih _
   ·exact .const _
  | call fv args =>
   cases fv with
   | clo f first cap =>
    simp only[d8];refine Ct.bind (K:=λj r=>match r with|.ok _ g'=>d8 j d l g'|.fail=>none) (Ct.call d f (first++(args++cap)) g) ?_
    split
    ·exact ih _
    ·exact .const _
   |_=>exact .const _
theorem GG{res:T->G->Option (List AV)}:Ct C λj=>cT j d res t df g:=by unfold cT;exact Ct.map (λr=>match r with|none=>FR.fail|some g'=>match res t g' with|some vs=>.ok (gQ vs) g'|none=>.fail) (Li df g)
theorem ET:Ct C λj=>eE C j d f args g:=by
 unfold eE
 split
 ·rename_i x hx;unfold cFn at hx
  split at hx
  ·cases hx
  rename_i fn a
  split at hx
  ·cases hx
  rename_i c h
  split at hx
  rotate_left
  ·cases hx
  rename_i r k;rw[aa]at hx
  split at hx
  ·cases hx
  injection hx with hx;subst hx;dsimp only;simp only[aa]
  split
  ·refine Ct.bind (K:=λj q=>match q with|.ok (.exit _) _ _ _=>FR.fail|.ok _ t df g'=>cT j d r.run t df g'|.fail=>.fail) (ES c d none (bN 0 args .nil) [] g) ?_
   split
   ·exact .const _
   ·exact GG
   ·exact .const _
  ·exact .const _
 ·exact .const _
theorem Gr(nt d:Nat)(rd:Option Nat)(c:Code)(t:T)(df:List ADf)(g:G):(I C).code nt d rd c t df g=(aS C nt c).run (I C) d rd t df g:=by obtain⟨n,h⟩:=ES (C:=C) (nt:=nt) c d rd t df g;obtain⟨m,h'⟩:=Ct.code (C:=C) nt d rd c t df g;have h1:=h (max n m) (by omega);have h2:=h' (max n m+1) (by omega);exact h2.symm.trans h1
theorem Qc(d f:Nat)(as:List AV)(g:G):(I C).call d f as g=eE C (I C) d f as g:=by obtain⟨n,h⟩:=ET (C:=C) (d:=d) (f:=f) (args:=as) (g:=g);obtain⟨m,h'⟩:=Ct.call (C:=C) d f as g;have h1:=h (max n m) (by omega);have h2:=h' (max n m+1) (by omega);exact h2.symm.trans h1
theorem Rc{as:List AV}{v:AV}(h:(I C).call d f as g=.ok v g'):∃n,(sem C n).call d f as g=.ok v g':=by obtain⟨m,h'⟩:=Ct.call (C:=C) d f as g;exact⟨m,by rw[<-h];exact h' m (TG m)⟩
end
def tat(t:T)(n:Nat):AV:=Tr.get AV.undef t n
def d6(t:T)(n:Nat)(v:AV):T:=(sp AV.undef n).run t v
inductive Od where
 |t (n:Nat)
 |k (v:AV)
def Od.get(t:T):Od->AV
 |.t n=>tat t n
 |.k v=>v
def fZ(t:T):List Od->List AV
 |[]=>[]
 |o::os=>o.get t::fZ t os
def IQ(c a b:AV):OR:=match c with|.bool q=>ay q (.val a) (.val b)|_=>.fail
def EH(x:AV)(g:G):OR:=ay x.isTup .fail (.upd (.hptr g.nx 0 0 0) (g.new (W8 (bj x.cells) [x.cells])))
def zQ(zero:List AV)(pl:List (Nat×Nat))(vs:List AV):OR :=
 match d7 zero (pl.zip vs) with|some cs=>.val (.agg cs)|none=>.fail
def K1(sz len:Nat)(zero:List AV)(is:List Nat)(vs:List AV)(g:G):OR :=
 match gM sz (fj len zero) (is.zip vs) with
 |some rows=>.upd (.hsl g.nx 0 0 len none) (g.new (W8 sz rows))
 |none=>.fail
def rR(ag:Bool)(n:Nat)(p:AV)(g:G):OR:=nh ag n (λ_=>p) .nil g
def nz(n:Nat)(p x:AV)(g:G):OR:=pc n (λ_=>p) (λ_=>x) .nil g
def FC(x:AV):OR:=match x with
 |.tptr l sz rows i off=>.val (.tptr l sz rows i off)
 |.hptr id ep i off=>.val (.hptr id ep i off)
 |.clo f a c=>.val (.clo f a c)
 |.yld id=>.val (.yld id)
 |_=>.fail
def ct(op:BinOp)(x y:AV):OR:=match x,y with|.int k a,.int k' b=>orV ((fN op).run k a k' b)|_,_=>.fail
def wD(neg:Bool)(ek:EqKind)(x y:AV):OR:=match eqA ek x y with|some b=>.val (.bool (ay neg (jz b) b))|none=>.fail
def OO(x:AV):OR:=match x with|.bool b=>.val (.bool (jz b))|_=>.fail
def unV(op:UnOp)(x:AV):OR:=match x with|.int k n=>orV (qd (Op.unary op (.int k n)))|_=>.fail
def Ic(k:IntKind)(x:AV):OR:=match x with|.int _ n=>.val (.int k (tY k n))|_=>.fail
def A0(sz bytes:Nat)(zero:List AV)(l c:AV)(g:G):OR:=ic sz bytes zero (λ_=>l) (λ_=>c) .nil g
def x_(sz:Nat)(x:AV)(lo hi:Option AV)(g:G):OR:=orV (lK sz x lo hi none g.h)
def Rz(n sz:Nat)(x:AV)(lo hi:Option AV)(g:G):OR:=iP n sz (λ_=>x) (λ_=>lo) (λ_=>hi) .nil g
def JN(fo:Nat)(x:AV):OR:=match x with
 |.tptr l sz rows i off=>.val (.tptr l sz rows i (off+fo))
 |.hptr id ep i off=>.val (.hptr id ep i (off+fo))
 |_=>.fail
def Qv(ag:Bool)(n fo:Nat)(x:AV):OR:=match x with|.agg cs=>orV (bT ag n cs fo)|_=>.fail
def xX(sz:Nat)(x i:AV)(g:G):OR:=gN sz (λ_=>x) (λ_=>i) .nil g
def Me(n sz:Nat)(x i:AV):OR:=nf n sz (λ_=>x) (λ_=>i) .nil G.empty
def ixV(ag:Bool)(n sz:Nat)(x i:AV):OR:=vE ag n sz (λ_=>x) (λ_=>i) .nil G.empty
def Lt(x:AV)(i:Nat):OR:=match x with|.tup vs=>orV (A8 i vs)|_=>.fail
def mxV(x y:AV):OR:=match x with
 |.int k m=>match y with|.int k' n=>ay (cP k k') (.val (.int k (ay (y9 m n) n m))) .fail|_=>.fail
 |_=>.fail
def mnV(x y:AV):OR:=match x with
 |.int k m=>match y with|.int k' n=>ay (cP k k') (.val (.int k (ay (y9 n m) n m))) .fail|_=>.fail
 |_=>.fail
def ah(C:Cfg)(d f:Nat)(as:List AV)(g:G):OR :=
 match C.ext f with
 |some e=>e d as g
 |none=>ay (C.iso f) (af (I C) d g f as) (orF ((I C).call d f as g))
inductive SO where
 |mv (x:Od)
 |pick (c a b:Od)
 |alloc (cs:List AV)
 |box (x:Od)
 |build (zero:List AV) (pl:List (Nat×Nat)) (vs:List Od)
 |bsl (sz len:Nat) (zero:List AV) (is:List Nat) (vs:List Od)
 |load (ag:Bool) (n:Nat) (a:Od)
 |store (n:Nat) (a x:Od)
 |nilc (x:Od)
 |bin (op:BinOp) (x y:Od)
 |eq (neg:Bool) (ek:EqKind) (x y:Od)
 |not (x:Od)
 |un (op:UnOp) (x:Od)
 |conv (k:IntKind) (x:Od)
 |mkf (f:Nat) (a c:List Od)
 |mks (sz bytes:Nat) (zero:List AV) (l c:Od)
 |slc (sz:Nat) (x:Od) (lo hi:List Od)
 |sla (n sz:Nat) (x:Od) (lo hi:List Od)
 |fad (fo:Nat) (x:Od)
 |fld (ag:Bool) (n fo:Nat) (x:Od)
 |ixs (sz:Nat) (x i:Od)
 |ixa (n sz:Nat) (x i:Od)
 |ix (ag:Bool) (n sz:Nat) (x i:Od)
 |ext (x:Od) (i:Nat)
 |len (lk:LenKind) (x:Od)
 |app (sz bytes:Nat) (x y:Od)
 |cpy (sz:Nat) (x y:Od)
 |mx (x y:Od)
 |mn (x y:Od)
 |call (f:Nat) (as:List Od)
 |dyn (f:Od) (as:List Od)
 |raw (op:Op)
def SO.run(C:Cfg)(d:Nat)(rd:Option Nat)(t:T)(g:G):SO->OR
 |.mv x=>.val (x.get t)
 |.pick c a b=>IQ (c.get t) (a.get t) (b.get t)
 |.alloc cs=>.upd (.hptr g.nx 0 0 0) (g.new (W8 (bj cs) [cs]))
 |.box x=>EH (x.get t) g
 |.build zero pl vs=>zQ zero pl (fZ t vs)
 |.bsl sz n zero is vs=>K1 sz n zero is (fZ t vs) g
 |.load ag n a=>rR ag n (a.get t) g
 |.store n a x=>nz n (a.get t) (x.get t) g
 |.nilc x=>FC (x.get t)
 |.bin op x y=>ct op (x.get t) (y.get t)
 |.eq neg ek x y=>wD neg ek (x.get t) (y.get t)
 |.not x=>OO (x.get t)
 |.un op x=>unV op (x.get t)
 |.conv k x=>Ic k (x.get t)
 |.mkf f a c=>.val (.clo f (fZ t a) (fZ t c))
 |.mks sz bytes zero l c=>A0 sz bytes zero (l.get t) (c.get t) g
 |.slc sz x lo hi=>x_ sz (x.get t) (fZ t lo).head? (fZ t hi).head? g
 |.sla n sz x lo hi=>Rz n sz (x.get t) (fZ t lo).head? (fZ t hi).head? g
 |.fad fo x=>JN fo (x.get t)
 |.fld ag n fo x=>Qv ag n fo (x.get t)
 |.ixs sz x i=>xX sz (x.get t) (i.get t) g
 |.ixa n sz x i=>Me n sz (x.get t) (i.get t)
 |.ix ag n sz x i=>ixV ag n sz (x.get t) (i.get t)
 |.ext x i=>Lt (x.get t) i
 |.len lk x=>cH lk (x.get t) g
 |.app sz bytes x y=>di sz bytes (x.get t) (y.get t) g
 |.cpy sz x y=>CA sz (x.get t) (y.get t) g
 |.mx x y=>mxV (x.get t) (y.get t)
 |.mn x y=>mnV (x.get t) (y.get t)
 |.call f as=>ah C d f (fZ t as) g
 |.dyn f as=>jG C (I C) d (f.get t) (fZ t as) g
 |.raw op=>(cE C op).run (I C) d rd t g
def nOd(C:Cfg):Operand->Option Od
 |.tmp n=>some (.t n)
 |.const v=>match ofV v with|some a=>some (.k a)|none=>none
 |.global g=>match C.glob g with|some (sz,rows)=>some (.k (.tptr 0 sz rows 0 0))|none=>none
 |.func f=>some (.k (.clo f [] []))
def nH(C:Cfg):List Operand->Option (List Od)
 |[]=>some []
 | x::xs=>match nOd C x,nH C xs with
  |some a,some as=>some (a::as)
  |_,_=>none
theorem bB{x:Operand}{o:Od}(h:nOd C x=some o):∃s,aU C x=some s/\∀t,s.run t=o.get t:=by
 unfold nOd at h
 split at h
 ·injection h with h;subst h;exact⟨_,rfl,λt=>gp_run _ _ _⟩
 ·split at h
  ·rename_i a ha;injection h with h;subst h;exact⟨⟨λ_=>a⟩,by simp only[aU,ha],λt=>rfl⟩
  ·cases h
 ·split at h
  ·rename_i sz rows ha;injection h with h;subst h;exact⟨⟨λ_=>.tptr 0 sz rows 0 0⟩,by simp only[aU,ha],λt=>rfl⟩
  ·cases h
 ·injection h with h;subst h;exact⟨_,rfl,λt=>rfl⟩
theorem cU{C:Cfg}:∀{xs:List Operand} {os:List Od},nH C xs=some os->∃s,bM C xs=some s/\∀t,s.run t=fZ t os
 |[],os,h=>by injection h with h;subst h;exact⟨_,rfl,λt=>rfl⟩
 | x::xs,os,h=>by
  unfold nH at h
  split at h
  ·rename_i a as ha k;injection h with h;subst h;obtain⟨s,h1,h2⟩:=bB ha;obtain⟨ss,h3,h4⟩:=cU k;exact⟨⟨λt=>s.run t::ss.run t⟩,by simp only[bM,h1,h3],λt=>by simp only[h2,h4,fZ]⟩
  ·cases h
def MB(C:Cfg)(op:Op):SO :=
 match op with
 |.move x|.assign x=>match nOd C x with|some a=>.mv a|none=>.raw op
 | .pick c a b=>match nOd C c,nOd C a,nOd C b with
  |some c,some a,some b=>.pick c a b
  |_,_,_=>.raw op
 | .alloc ty=>match fS C.P ty with
  |some cs=>.alloc cs
  |none=>.raw op
 | .box _ x=>match nOd C x with
  |some a=>.box a
  |none=>.raw op
 | .build ty parts=>match fS C.P ty,nH C (parts.toList.map (·.2)) with
  | some zero,some vs =>
   match C.P.underlying ty with
   | some (.struct fs)=>match aF (λf:Field=>match szT C.P f.type with| some n=>some (f.offset,n)| none=>none) fs.toList with
    | some places=>match aF (λi=>places[i]?) (parts.toList.map (·.1)) with
     |some pl=>.build zero pl vs
     |none=>.raw op
    |none=>.raw op
   | some (.array _ e)=>match szT C.P e with
    |some n=>.build zero ((parts.toList.map (·.1)).map λi=>(i*n,n)) vs
    |none=>.raw op
   |_=>.raw op
  |_,_=>.raw op
 | .buildSlice ty len parts=>match lM C.P ty,nH C (parts.toList.map (·.2)) with
  | some e,some vs=>match szT C.P e,fS C.P e with
   | some sz,some zero=>ay (Nat.beq (bj zero) sz&&Nat.blt 0 sz&&Nat.ble (len*sz) 1048576)
    (.bsl sz len zero (parts.toList.map (·.1)) vs) (.raw op)
   |_,_=>.raw op
  |_,_=>.raw op
 | .load ty a=>match nOd C a,sj C.P ty,szT C.P ty with
  |some a,some ag,some n=>.load ag n a
  |_,_,_=>.raw op
 | .store ty a x=>match nOd C a,nOd C x,szT C.P ty with
  |some a,some x,some n=>.store n a x
  |_,_,_=>.raw op
 | .nilCheck x=>match nOd C x with
  |some a=>.nilc a
  |none=>.raw op
 | .binOp b ty x y _=>match nOd C x,nOd C y with
  | some x,some y=>match b with
   | .eql=>match qq C.P ty with
    |.other=>.bin b x y
    |ek=>.eq false ek x y
   | .neq=>match qq C.P ty with
    |.other=>.bin b x y
    |ek=>.eq true ek x y
   |b=>.bin b x y
  |_,_=>.raw op
 | .unOp u _ x=>match nOd C x with
  | some x=>match u with
   |.not=>.not x
   |u=>.un u x
  |none=>.raw op
 | .convert src dst x=>match nOd C x,C.P.underlying src,C.P.underlying dst with
  |some x,some _,some (.int k)=>.conv k x
  |_,_,_=>.raw op
 | .makeFunc (.func f) first captured=>match nH C first.toList,nH C captured.toList with
  |some a,some c=>.mkf f a c
  |_,_=>.raw op
 | .makeSlice ty l c=>match lM C.P ty,nOd C l,nOd C c with
  | some e,some l,some c=>match szT C.P e,jS C.P e,fS C.P e with
   |some sz,some bytes,some zero=>ay (Nat.beq (bj zero) sz&&Nat.blt 0 sz) (.mks sz bytes zero l c) (.raw op)
   |_,_,_=>.raw op
  |_,_,_=>.raw op
 | .slice ty x lo hi none=>match C.P.underlying ty,nOd C x,nH C lo.toList,nH C hi.toList with
  | some (.slice e),some x,some l,some h=>match szT C.P e with
   |some sz=>.slc sz x l h
   |none=>.raw op
  | some (.array n e),some x,some l,some h=>match szT C.P e with
   |some (sz+1)=>.sla n (sz+1) x l h
   |_=>.raw op
  |_,_,_,_=>.raw op
 | .fieldAddr ty x f=>match nOd C x,tB C.P ty f with
  | some a,some (fo,ft)=>match szT C.P ft with
   |some (_+1)=>.fad fo a
   |_=>.raw op
  |_,_=>.raw op
 | .field ty x f=>match nOd C x,tB C.P ty f with
  | some a,some (fo,ft)=>match sj C.P ft,szT C.P ft with
   |some ag,some n=>.fld ag n fo a
   |_,_=>.raw op
  |_,_=>.raw op
 | .indexAddr ty x ix=>match nOd C x,nOd C ix with
  | some a,some i=>match C.P.underlying ty with
   | some (.slice e)=>match szT C.P e with
    |some sz=>.ixs sz a i
    |none=>.raw op
   | some (.array n e)=>match szT C.P e with
    |some sz=>.ixa n sz a i
    |none=>.raw op
   |_=>.raw op
  |_,_=>.raw op
 | .index ty x ix=>match nOd C x,nOd C ix with
  | some a,some i=>match C.P.underlying ty with
   | some (.array n e)=>match sj C.P e,szT C.P e with
    |some ag,some sz=>.ix ag n sz a i
    |_,_=>.raw op
   |_=>.raw op
  |_,_=>.raw op
 | .extract x i=>match nOd C x with
  |some a=>.ext a i
  |none=>.raw op
 |op=>.raw op
def nOp(C:Cfg)(op:Op):SO :=
 match op with
 | .call { callee:=.value (.func f),args,.. }=>match nH C args.toList with
  |some vs=>.call f vs
  |none=>.raw op
 | .call { callee:=.value fo,args,.. }=>match nOd C fo,nH C args.toList with
  |some f,some vs=>.dyn f vs
  |_,_=>.raw op
 | .call { callee:=.builtin b,args,argTypes }=>match b,nH C args.toList with
  | .len,some [x]=>match argTypes[0]? with
   |some t=>.len (ma C.P t) x
   |none=>.raw op
  | .append,some [a,x]=>match argTypes[0]?,argTypes[1]? with
   | some t,some xt=>match lM C.P t,C.P.underlying xt with
    | some e,some (.slice _)=>match szT C.P e,jS C.P e,fS C.P e with
     |some sz,some bytes,some zero=>ay (Nat.beq (bj zero) sz&&Nat.blt 0 sz&&Nat.blt 0 bytes) (.app sz bytes a x) (.raw op)
     |_,_,_=>.raw op
    |_,_=>.raw op
   |_,_=>.raw op
  | .copy,some [a,x]=>match argTypes[0]? with
   | some t=>match lM C.P t with
    | some e=>match szT C.P e with
     |some sz=>.cpy sz a x
     |none=>.raw op
    |none=>.raw op
   |none=>.raw op
  |.max,some [x,y]=>.mx x y
  |.min,some [x,y]=>.mn x y
  |_,_=>.raw op
 |op=>MB C op
theorem bL{s:Stg SFn}(h1:cOp C op=match cw C op with|some s=>some ⟨λ_ _ _ t g=>s.run t g⟩|none=>none)(h:cw C op=some s)
  {ih:IH}    :(cE C op).run ih d rd t g=s.run t g:=by
 unfold cE;rw[h1,h]
theorem OK(h1:cOp C op=match cw C op with|some s=>some ⟨λ_ _ _ t g=>s.run t g⟩|none=>none) :
  (MB C op).run C d rd t g=(cE C op).run (I C) d rd t g:=by
 unfold MB
 split
 case h_1 x =>
  split
  ·rename_i a ha;obtain⟨s,hs,he⟩:=bB ha;rw[bL h1 (by simp only[cw,hs];rfl)];simp only[SO.run,he]<;>rfl
  ·rfl
 case h_2 x =>
  split
  ·rename_i a ha;obtain⟨s,hs,he⟩:=bB ha;rw[bL h1 (by simp only[cw,hs];rfl)];simp only[SO.run,he]<;>rfl
  ·rfl
 case h_3 c a b =>
  split
  ·rename_i c a b hc ha hb;obtain⟨H,F,e1⟩:=bB hc;obtain⟨o,q2,e2⟩:=bB ha;obtain⟨A,q3,e3⟩:=bB hb;rw[bL h1 (by simp only[cw,F,q2,q3];rfl)];simp only[SO.run,e1,e2,e3,IQ]<;>rfl
  ·rfl
 case h_4 ty =>
  split
  ·rename_i cs hz;rw[bL h1 (by simp only[cw,hz];rfl)];rfl
  ·rfl
 case h_5 ty x =>
  split
  ·rename_i a ha;obtain⟨s,hs,he⟩:=bB ha;rw[bL h1 (by simp only[cw,hs];rfl)];simp only[SO.run,EH,K0,he]<;>rfl
  ·rfl
 case h_6 ty parts =>
  split
  ·rename_i zero vs hz w;obtain⟨s,hs,he⟩:=cU w
   split
   ·rename_i fs hu
    split
    ·rename_i places hp
     split
     ·rename_i pl v;have r:cw C (.build ty parts)=some ⟨nZ zero pl s.run⟩:=by
       simp only[cw,hz,hs,hu]
       split
       ·rename_i p' h';have:some places=some p':=hp.symm.trans h';injection this with this;subst this;rw[v]
       ·rename_i h';have:some places=none:=hp.symm.trans h';cases this
      rw[bL h1 r];simp only[SO.run,zQ,nZ,he]<;>rfl
     ·rfl
    ·rfl
   ·rename_i n e hu
    split
    ·rename_i n z;rw[bL h1 (by simp only[cw,hz,hs,hu,z];rfl)];simp only[SO.run,zQ,nZ,he]<;>rfl
    ·rfl
   ·rfl
  ·rfl
 case h_7 ty len parts =>
  split
  ·rename_i e vs hz w;obtain⟨s,hs,he⟩:=cU w
   split
   ·rename_i sz zero h2 h3;rw[aa]
    split
    ·rename_i hc;rw[bL h1 (by simp only[cw,hz,hs,h2,h3,hc];rfl)];simp only[SO.run,K1,ij,he]<;>rfl
    ·rfl
   ·rfl
  ·rfl
 case h_8 ty a =>
  split
  ·rename_i a ag n ha h2 h3;obtain⟨s,hs,he⟩:=bB ha;rw[bL h1 (by simp only[cw,hs,h2,h3];rfl)];simp only[SO.run,rR,nh,he]<;>rfl
  ·rfl
 case h_9 ty a x =>
  split
  ·rename_i a x n ha hx h3;obtain⟨s,hs,he⟩:=bB ha;obtain⟨o,m,j⟩:=bB hx;rw[bL h1 (by simp only[cw,hs,m,h3];rfl)];simp only[SO.run,nz,pc,he,j]<;>rfl
  ·rfl
 case h_10 x =>
  split
  ·rename_i a ha;obtain⟨s,hs,he⟩:=bB ha;rw[bL h1 (by simp only[cw,hs];rfl)];simp only[SO.run,FC,he]<;>rfl
  ·rfl
 case h_11 b ty x y yt =>
  split
  ·rename_i x y hx E;obtain⟨s,hs,he⟩:=bB hx;obtain⟨o,m,j⟩:=bB E;rw[bL h1 (by simp only[cw,hs,m];rfl)];simp only[he,j]
   split
   ·split
    ·rename_i hk;simp only[zK,hk];rfl
    ·rename_i ek hk;simp only[SO.run,wD,zK]<;>rfl
   ·split
    ·rename_i hk;simp only[zK,hk];rfl
    ·rename_i ek hk;simp only[SO.run,wD,zK]<;>rfl
   ·rename_i B D;simp only[SO.run,zK,ct]<;>rfl
  ·rfl
 case h_12 u ty x =>
  split
  ·rename_i a ha;obtain⟨s,hs,he⟩:=bB ha;rw[bL h1 (by simp only[cw,hs];rfl)]
   split
   ·simp only[SO.run,OO,unA,he]<;>rfl
   ·rename_i z;simp only[SO.run,unV,unA,he]<;>rfl
  ·rfl
 case h_13 src dst x =>
  split
  ·rename_i a ty k ha h2 h3;obtain⟨s,hs,he⟩:=bB ha;rw[bL h1 (by simp only[cw,hs,h2,h3];rfl)];simp only[SO.run,Ic,he]<;>rfl
  ·rfl
 case h_14 f first captured =>
  split
  ·rename_i a c ha hc;obtain⟨s,hs,he⟩:=cU ha;obtain⟨o,m,j⟩:=cU hc;rw[bL h1 (by simp only[cw,hs,m];rfl)];simp only[SO.run,he,j]<;>rfl
  ·rfl
 case h_15 ty l c =>
  split
  ·rename_i e l c h0 hl hc;obtain⟨s,hs,he⟩:=bB hl;obtain⟨o,m,j⟩:=bB hc
   split
   ·rename_i sz bytes zero h2 h3 h4;rw[aa]
    split
    ·rename_i hc;rw[bL h1 (by simp only[cw,h0,hs,m,h2,h3,h4,hc];rfl)];simp only[SO.run,A0,ic,he,j]<;>rfl
    ·rfl
   ·rfl
  ·rfl
 case h_16 ty x lo hi =>
  split
  ·rename_i e x l h h0 hx hl r;obtain⟨s,hs,he⟩:=bB hx;obtain⟨o,m,j⟩:=cU hl;obtain⟨A,q,p⟩:=cU r
   split
   ·rename_i sz h2;rw[bL h1 (by simp only[cw,h0,hs,m,q,h2];rfl)];simp only[SO.run,x_,he,j,p]<;>rfl
   ·rfl
  ·rename_i n e x l h h0 hx hl r;obtain⟨s,hs,he⟩:=bB hx;obtain⟨o,m,j⟩:=cU hl;obtain⟨A,q,p⟩:=cU r
   split
   ·rename_i sz h2;rw[bL h1 (by simp only[cw,h0,hs,m,q,h2];rfl)];simp only[SO.run,Rz,iP,he,j,p]<;>rfl
   ·rfl
  ·rfl
 case h_17 ty x f =>
  split
  ·rename_i a fo ft ha h0;obtain⟨s,hs,he⟩:=bB ha
   split
   ·rename_i k h2;rw[bL h1 (by simp only[cw,hs,h0,h2];rfl)];simp only[SO.run,JN,j8,he]<;>rfl
   ·rfl
  ·rfl
 case h_18 ty x f =>
  split
  ·rename_i a fo ft ha h0;obtain⟨s,hs,he⟩:=bB ha
   split
   ·rename_i ag n h2 h3;rw[bL h1 (by simp only[cw,hs,h0,h2,h3];rfl)];simp only[SO.run,Qv,he]<;>rfl
   ·rfl
  ·rfl
 case h_19 ty x ix =>
  split
  ·rename_i a i ha hi;obtain⟨s,hs,he⟩:=bB ha;obtain⟨o,m,j⟩:=bB hi
   split
   ·rename_i e h0
    split
    ·rename_i sz h2;rw[bL h1 (by simp only[cw,hs,m,h0,h2];rfl)];simp only[SO.run,xX,gN,he,j]<;>rfl
    ·rfl
   ·rename_i n e h0
    split
    ·rename_i sz h2;rw[bL h1 (by simp only[cw,hs,m,h0,h2];rfl)];simp only[SO.run,Me,nf,he,j]<;>rfl
    ·rfl
   ·rfl
  ·rfl
 case h_20 ty x ix =>
  split
  ·rename_i a i ha hi;obtain⟨s,hs,he⟩:=bB ha;obtain⟨o,m,j⟩:=bB hi
   split
   ·rename_i n e h0
    split
    ·rename_i ag sz h2 h3;rw[bL h1 (by simp only[cw,hs,m,h0,h2,h3];rfl)];simp only[SO.run,ixV,vE,he,j]<;>rfl
    ·rfl
   ·rfl
  ·rfl
 case h_21 x i =>
  split
  ·rename_i a ha;obtain⟨s,hs,he⟩:=bB ha;rw[bL h1 (by simp only[cw,hs];rfl)];simp only[SO.run,Lt,he]<;>rfl
  ·rfl
 case h_22=>rfl
theorem pq{xs:List Operand}{os:List Od}(h:nH C xs=some os) :
  (∀o,os=[o]->∃x s,xs=[x]/\aU C x=some s/\∀t,s.run t=o.get t) /\
  (∀o p,os=[o,p]->∃x y s u,xs=[x,y]/\aU C x=some s/\aU C y=some u/\(∀t,s.run t=o.get t)/\∀t,u.run t=p.get t):=by
 refine⟨λo ho=>?_,λo p ho=>?_⟩
 ·subst ho
  match xs,h with
  | [x],h =>
   unfold nH at h
   split at h
   ·rename_i a as ha k;injection h with h;injection h with h1 h2;subst h1;obtain⟨s,q,e⟩:=bB ha;exact⟨x,s,rfl,q,e⟩
   ·cases h
  | x::y::xs,h =>
   unfold nH at h
   split at h
   ·rename_i a as ha k;unfold nH at k
    split at k
    ·injection k with k;subst k;injection h with h;injection h with h1 h2;cases h2
    ·cases k
   ·cases h
 ·subst ho
  match xs,h with
  | [x,y],h =>
   unfold nH at h
   split at h
   ·rename_i a as ha k;unfold nH at k
    split at k
    ·rename_i b bs hb c;injection k with k;subst k;injection h with h;injection h with h1 h2;injection h2 with h3 h4;subst h1;subst h3;obtain⟨s,q,e⟩:=bB ha;obtain⟨s',q',e'⟩:=bB hb;exact⟨x,y,s,s',rfl,q,q',e,e'⟩
    ·cases k
   ·cases h
  | [x],h =>
   unfold nH at h
   split at h
   ·rename_i a as ha k;injection k with k;subst k;injection h with h;injection h with h1 h2;cases h2
   ·cases h
  | x::y::z::xs,h =>
   unfold nH at h
   split at h
   ·rename_i a as ha k;unfold nH at k
    split at k
    ·rename_i b bs hb c;unfold nH at c
     split at c
     ·injection c with c;subst c;injection k with k;subst k;injection h with h;injection h with h1 h2;injection h2 with h3 h4;cases h4
     ·cases c
    ·cases k
   ·cases h
theorem D7:(nOp C op).run C d rd t g=(cE C op).run (I C) d rd t g:=by
 unfold nOp
 split
 ·rename_i f args ats
  split
  ·rename_i vs p;obtain⟨s,hs,he⟩:=cU p;simp only[SO.run,cE,cOp,hs,ah];cases hx:C.ext f with
   |some e=>simp only[he]
   |none=>cases hi:C.iso f<;>simp only[he]
  ·rfl
 ·rename_i fo args ats o
  split
  ·rename_i f vs hf p;obtain⟨s,hs,he⟩:=cU p;obtain⟨r,m,i⟩:=bB hf;cases fo with
   |func k=>exact absurd rfl (o k)
   |tmp k=>simp only[SO.run,cE,cOp,hs,m,he,i]
   |const k=>simp only[SO.run,cE,cOp,hs,m,he,i]
   |global k=>simp only[SO.run,cE,cOp,hs,m,he,i]
  ·rfl
 ·rename_i b args ats;have hc:b≠.recover->cOp C (.call { callee:=.builtin b,args:=args,argTypes:=ats })=match cw C (.call { callee:=.builtin b,args:=args,argTypes:=ats }) with
    |some s=>some ⟨λ_ _ _ t g=>s.run t g⟩|none=>none:=by
   intro hb;cases b<;>first|rfl|exact absurd rfl hb
  split
  ·rename_i x hx;obtain⟨y,s,j,hs,he⟩:=(pq hx).1 _ rfl
   split
   ·rename_i ty l;rw[bL (hc (by simp)) (by simp only[cw,dj,j,l,hs];rfl)];simp only[SO.run,he]<;>rfl
   ·rfl
  ·rename_i a x hx;obtain⟨y,z,s,u,j,hs,hu,he,i⟩:=(pq hx).2 _ _ rfl
   split
   ·rename_i ty xt l q
    split
    ·rename_i e e2 h1 h2
     split
     ·rename_i sz bytes zero h3 h4 h5;rw[aa]
      split
      ·rename_i n;rw[bL (hc (by simp)) (by simp only[cw,dj,j,l,q,hs,hu,h1,h2,h3,h4,h5,n];rfl)];simp only[SO.run,he,i]<;>rfl
      ·rfl
     ·rfl
    ·rfl
   ·rfl
  ·rename_i a x hx;obtain⟨y,z,s,u,j,hs,hu,he,i⟩:=(pq hx).2 _ _ rfl
   split
   ·rename_i ty l
    split
    ·rename_i e h1
     split
     ·rename_i sz h3;rw[bL (hc (by simp)) (by simp only[cw,dj,j,l,hs,hu,h1,h3];rfl)];simp only[SO.run,he,i]<;>rfl
     ·rfl
    ·rfl
   ·rfl
  ·rename_i a x hx;obtain⟨y,z,s,u,j,hs,hu,he,i⟩:=(pq hx).2 _ _ rfl;rw[bL (hc (by simp)) (by simp only[cw,dj,j,hs,hu];rfl)];simp only[SO.run,mxV,he,i]<;>rfl
  ·rename_i a x hx;obtain⟨y,z,s,u,j,hs,hu,he,i⟩:=(pq hx).2 _ _ rfl;rw[bL (hc (by simp)) (by simp only[cw,dj,j,hs,hu];rfl)];simp only[SO.run,mnV,he,i]<;>rfl
  ·rfl
 ·rename_i h1 h2 h3;have key:∀op,(∀c,op≠.call c)->(∀c,op≠.defer c)->cOp C op=match cw C op with|some s=>some ⟨λ_ _ _ t g=>s.run t g⟩|none=>none:=by intro op hc hd;cases op<;>first|rfl|exact absurd rfl (hc _)|exact absurd rfl (hd _)
  cases op with
  |call c=>rfl
  |defer c=>rfl
  |_=>exact OK (key _ (λc h=>by cases h) (λc h=>by cases h))
end
end Hx
