/- A part of the proof: an interpreter over abstract values, shown right against the model, and what the functions of the chapter compute on it. -/
import Derived.Test.YteaikmdilmfbeaaGreatHx3
set_option linter.unusedVariables false
set_option linter.unusedSimpArgs false
set_option linter.unnecessarySimpa false
section
namespace Hx
open Go
theorem dL {α β:Type}{f:α->Option β}:∀{l:List α} {r:List β},aE f l=some r->∀(i:Nat) y,r[i]?=some y->∃x,l[i]?=some x/\f x=some y:=by
 intro l
 induction l with
 | nil=>intro r h i y hy;simp only[aE] at h;injection h with h;subst h;simp at hy
 | cons a l ih =>
  intro r h i y hy;simp only[aE] at h
  split at h
  ·rename_i b hb
   split at h
   ·rename_i bs hbs;injection h with h;subst h;cases i with
    | zero=>simp at hy;subst hy;exact ⟨a,rfl,hb⟩
    | succ i=>simpa using ih hbs i y (by simpa using hy)
   ·cases h
  ·cases h
theorem jb {α β:Type}{f:α->Option β}:∀{l:List α} {r:List β},aE f l=some r->r.length=l.length:=by
 intro l
 induction l with
 | nil=>intro r h;simp only[aE] at h;injection h with h;subst h;rfl
 | cons a l ih =>
  intro r h;simp only[aE] at h
  split at h
  ·split at h
   ·rename_i bs hbs;injection h with h;subst h;simp[ih hbs]
   ·cases h
  ·cases h
theorem DV {h:H}{tag:Nat}:∀{f:Nat} {x y:AV},snap h tag f x=some y->x.one=true->y.one=true:=by
 intro f x y hs hx;cases f with
 | zero=>cases hs
 | succ f =>
  cases x<;>simp only[snap] at hs<;>first | (cases hx;done) | skip
  all_goals first | (injection hs with hs;subst hs;rfl) | skip
  all_goals
   repeat (split at hs)
   all_goals first | (cases hs;done) | (injection hs with hs;subst hs;rfl) | (rw[aa] at hs;split at hs<;>first | (cases hs;done) | (injection hs with hs;subst hs;rfl))
def Ext (h:H)(hg:Nat->AObj):Prop:=∀id,h.get id≠.none->hg id=h.get id
section
variable {C:Cfg}{A A':Nat->Nat->Prop}{bd:Nat}{w w':World}{γ γ':Gm}{hg:Nat->AObj}{nx:Nat}
theorem jg {x:AV}{v:Value}(h:RV w γ A bd x v):Closed x ->
  (∀t b,t<=bd->b<w.heap.size->¬A t b->¬Mut γ b->¬A' t b/\¬Mut γ' b)->RV w γ' A' bd x v:=by
 induction h with
 | bool=>intro _ _;exact .bool _ _
 | int=>intro _ _;exact .int _ _ _
 | str=>intro _ _;exact .str _ _
 | tup _ xs vs hl _ ih =>
  intro hc hs;cases hc with | tup _ hc=>exact .tup _ _ _ hl λi x v h1 h2=>ih i x v h1 h2 (hc x (List.mem_of_getElem? h1)) hs
 | agg _ xs vs hl h1 _ ih =>
  intro hc hs;cases hc with | agg _ hc=>exact .agg _ _ _ hl h1 λi x v h1 h2=>ih i x v h1 h2 (hc x (List.mem_of_getElem? h1)) hs
 | nilp=>intro _ _;exact .nilp _
 | nils=>intro _ _;exact .nils _
 | nilf=>intro _ _;exact .nilf _
 | nilm=>intro _ _;exact .nilm _
 | nili=>intro _ _;exact .nili _
 | esl=>intro _ _;exact .esl _ _
 | tsl _ tag sz rows b o cap cell ht hc hb hm ha hr ho hw h hcl ih =>
  intro _ hs;obtain ⟨h1,h2⟩:=hs tag b ht hb ha hm;exact .tsl _ tag sz rows b o cap cell ht hc hb h2 h1 hr ho hw
   (λi j row x a c=>ih i j row x a c (hcl row (List.mem_of_getElem? a) x (List.mem_of_getElem? c)) λt b hle=>hs t b (Nat.le_trans hle ht)) hcl
 | tnil _ tag sz a cap ht=>intro _ _;exact .tnil _ tag sz a cap ht
 | tptr _ tag sz rows i0 off0 b o cell ht hb hm ha hr ho hw h hcl ih =>
  intro _ hs;obtain ⟨h1,h2⟩:=hs tag b ht hb ha hm;exact .tptr _ tag sz rows i0 off0 b o cell ht hb h2 h1 hr ho hw
   (λi j row x a c=>ih i j row x a c (hcl row (List.mem_of_getElem? a) x (List.mem_of_getElem? c)) λt b hle=>hs t b (Nat.le_trans hle ht)) hcl
 | hsl=>intro hc;cases hc
 | hptr=>intro hc;cases hc
 | clo _ f xs ys vs us hl hl2 _ _ ih ih2 =>
  intro hc hs;cases hc with
  | clo _ _ _ hc hc2=>exact .clo _ f xs ys vs us hl hl2 (λi x v h1 h2=>ih i x v h1 h2 (hc x (List.mem_of_getElem? h1)) hs) (λi x v h1 h2=>ih2 i x v h1 h2 (hc2 x (List.mem_of_getElem? h1)) hs)
 | hmap=>intro hc;cases hc
 | ifc _ t x v _ ih=>intro hc hs;cases hc with | ifc _ _ hc=>exact .ifc _ t x v (ih hc hs)
 | yld=>intro hc;cases hc
theorem rA {x:AV}{v:Value}(h:RV w γ A bd x v)(hx:(∃l sz rows,x=.tsl l sz rows)\/(∃l sz rows i o,x=.tptr l sz rows i o)):Closed x:=by
 rcases hx with ⟨l,sz,rows,rfl⟩ | ⟨l,sz,rows,i,o,rfl⟩
 ·cases h with
  | tsl _ _ _ _ _ _ _ _ _ _ _ _ _ _ _ _ _ hcl=>exact .tsl _ _ _ hcl
  | tnil=>exact .tsl _ _ _ λrow h=>by cases h
 ·cases h with
  | tptr _ _ _ _ _ _ _ _ _ _ _ _ _ _ _ _ _ hcl=>exact .tptr _ _ _ _ _ hcl
theorem xF {h:H}{tag B:Nat}{L:Nat->Prop}(hr:Rel C A bd w γ hg nx)(hx:∀id,L id->h.get id≠.none->hg id=h.get id)(hB:bd<=B)(htB:tag<=B)
  (hs:∀t b,t<=bd->b<w.heap.size->¬A t b->¬Mut γ b->¬A' t b/\¬Mut γ' b)
  (ho:∀id,L id->(∃sz rows ep lo fz,h.get id=.cells sz rows ep lo fz)->(γ id).kind=1->∀t,tag<=t->t<=B->¬A' t (γ id).blk/\¬Mut γ' (γ id).blk) :
  ∀(f:Nat) {x y:AV} {v:Value},snap h tag f x=some y->RV w γ A bd x v->(∀id∈aA h f x,L id)->RV w γ' A' B y v/\Closed y:=by
 intro f
 induction f with
 | zero=>intro x y v h;cases h
 | succ f ih =>
  intro x y v hsn hv hL;have hlist:∀{xs ys:List AV} {vs:Array Value},aE (snap h tag f) xs=some ys->(∀id∈xs.flatMap (aA h f),L id)->xs.length=vs.size ->
    (∀(i:Nat) x v,xs[i]?=some x->vs[i]?=some v->RV w γ A bd x v) ->
    ys.length=vs.size/\(∀(i:Nat) x v,ys[i]?=some x->vs[i]?=some v->RV w γ' A' B x v)/\∀y∈ys,Closed y:=by
   intro xs ys vs h1 h2 h3 h4;have hex:∀(i:Nat) y,ys[i]?=some y->∃v,vs[i]?=some v/\RV w γ' A' B y v/\Closed y:=by
    intro i y hy;obtain ⟨x,a1,a2⟩:=dL h1 i y hy;have hlt:i<vs.size:=by rw[<-h3];exact (List.getElem?_eq_some_iff.1 a1).1
    have hv:=Array.getElem?_eq_getElem hlt;obtain ⟨b1,b2⟩:=ih a2 (h4 i x _ a1 hv) λid hid=>h2 id (List.mem_flatMap.2 ⟨x,List.mem_of_getElem? a1,hid⟩);exact ⟨_,hv,b1,b2⟩
   refine ⟨by rw[jb h1,h3],λi y v hy hv=>?_,λy hy=>?_⟩
   ·obtain ⟨v',b1,b2,_⟩:=hex i y hy;rw[hv] at b1;injection b1 with b1;subst b1;exact b2
   ·obtain ⟨i,hi⟩:=List.getElem?_of_mem hy;obtain ⟨_,_,_,b⟩:=hex i y hi;exact b
  have hrows:∀{id sz:Nat} {rows:List (List AV)} {ep:Nat} {lo fz:Bool} {start len:Nat} {rs:List (List AV)} {m:Nat},
    hg id=.cells sz rows ep lo fz->aE (aE (snap h tag f)) ((rows.drop start).take len)=some rs->eL rs=some m ->
    (∀id'∈((rows.drop start).take len).flatMap (·.flatMap (aA h f)),L id')->start+len<=rows.length ->
    rs.length=len/\m<=B/\(∀(i:Nat) row,rs[i]?=some row->row.length=sz) /\
    (∀(i j:Nat) row x,rs[i]?=some row->row[j]?=some x->x.one=true/\∃c,w.cell? (adr (γ id).blk ((γ id).base+start*sz+i*sz+j))=some c/\RV w γ' A' m x c) /\
    (∀row∈rs,∀x∈row,Closed x):=by
   intro id sz rows ep lo fz start len rs m hid hm htag hL' hle;have hob:=hr.obj id;rw[hid] at hob;have hlen:rs.length=len:=by rw[jb hm];simp;omega
   have key:∀(i j:Nat) row x,rs[i]?=some row->row[j]?=some x->x.one=true/\∃c,w.cell? (adr (γ id).blk ((γ id).base+start*sz+i*sz+j))=some c/\RV w γ' A' B x c/\Closed x:=by
    intro i j row x hi hj;obtain ⟨row0,a1,a2⟩:=dL hm i row hi;obtain ⟨x0,b1,b2⟩:=dL a2 j x hj;have hri:rows[start+i]?=some row0:=by
     rw[List.getElem?_take] at a1
     split at a1
     ·rw[List.getElem?_drop] at a1;exact a1
     ·cases a1
    obtain ⟨c1,v,c2,c3⟩:=rY hr hid hri j x0 b1;obtain ⟨d1,d2⟩:=ih b2 c3 λid' hid'=>hL' id' (List.mem_flatMap.2 ⟨row0,List.mem_of_getElem? a1,List.mem_flatMap.2 ⟨x0,List.mem_of_getElem? b1,hid'⟩⟩);refine ⟨DV b2 c1,v,?_,d1,d2⟩;rw[<-c2];congr 2;rw[Nat.add_mul];omega
   refine ⟨hlen,?_,?_,?_,?_⟩
   ·refine dF htag λrow hrow k hk=>dF hk λx hx k' hk'=>?_;obtain ⟨i,hi⟩:=List.getElem?_of_mem hrow;obtain ⟨j,hj⟩:=List.getElem?_of_mem hx;obtain ⟨_,c,_,hc,_⟩:=key i j row x hi hj;exact xG _ hk' hc
   ·intro i row hi;obtain ⟨row0,a1,a2⟩:=dL hm i row hi;rw[jb a2];obtain ⟨k1,k2,k3,k4,k5,k6,c,e,k7,k8,k9,k10⟩:=hob;rw[List.getElem?_take] at a1
    split at a1
    ·rw[List.getElem?_drop] at a1;exact k9 _ _ a1
    ·cases a1
   ·intro i j row x hi hj;obtain ⟨c1,c,c2,c3,_⟩:=key i j row x hi hj;exact ⟨c1,c,c2,tS htag hi hj c3⟩
   ·intro row hrow x hx;obtain ⟨i,hi⟩:=List.getElem?_of_mem hrow;obtain ⟨j,hj⟩:=List.getElem?_of_mem hx;obtain ⟨_,_,_,_,c⟩:=key i j row x hi hj;exact c
  cases hv with
  | agg _ xs vs hl h1 h2 =>
   simp only[snap] at hsn
   split at hsn
   ·rename_i as has;injection hsn with hsn;subst hsn;obtain ⟨a,b,c⟩:=hlist has (by simpa only[aA] using hL) hl h2;refine ⟨.agg _ _ _ a (λi x hi=>?_) b,.agg _ c⟩;obtain ⟨x0,a1,a2⟩:=dL has i x hi;exact DV a2 (h1 i x0 a1)
   ·cases hsn
  | tup _ xs vs hl h2 =>
   simp only[snap] at hsn
   split at hsn
   ·rename_i as has;injection hsn with hsn;subst hsn;obtain ⟨a,b,c⟩:=hlist has (by simpa only[aA] using hL) hl h2;exact ⟨.tup _ _ _ a b,.tup _ c⟩
   ·cases hsn
  | clo _ g xs ys vs us hl hl2 h1 h2 =>
   simp only[snap] at hsn;simp only[aA] at hL
   split at hsn
   ·rename_i as cs has hcs;injection hsn with hsn;subst hsn;obtain ⟨a,b,c⟩:=hlist has (λid hid=>hL id (List.mem_append_left _ hid)) hl h1;obtain ⟨a',b',c'⟩:=hlist hcs (λid hid=>hL id (List.mem_append_right _ hid)) hl2 h2;exact ⟨.clo _ _ _ _ _ _ a a' b b',.clo _ _ _ c c'⟩
   ·cases hsn
  | ifc _ t x v h1 =>
   simp only[snap] at hsn
   split at hsn
   ·rename_i a ha;injection hsn with hsn;subst hsn;obtain ⟨a,b⟩:=ih ha h1 (by simpa only[aA] using hL);exact ⟨.ifc _ _ _ _ a,.ifc _ _ b⟩
   ·cases hsn
  | hsl _ id ep off len lim b o cap hk he hc h' =>
   simp only[snap] at hsn
   split at hsn
   ·rename_i sz rows ep' lo fz hget;rw[aa] at hsn
    split at hsn
    ·rename_i hcond;simp only[Bool.and_eq_true,Nat.ble_eq,aw] at hcond;obtain ⟨hep,hle⟩:=hcond;have hep:=aD hep
     split at hsn
     ·rename_i rs hrs
      split at hsn
      ·rename_i m hm;injection hsn with hsn;subst hsn;have hid:hg id=.cells sz rows ep' lo fz:=by rw[hx id (hL id (by simp[aA])) (by rw[hget];simp),hget]
       have hob:=hr.obj id;rw[hid] at hob;obtain ⟨k1,k2,k3,k4,_⟩:=hob;obtain ⟨e1,e2,e3⟩:=h' (hep.trans k2.symm);subst e1;subst e2;simp only[aA,hget] at hL;simp only[bh,bg] at hrs hL;obtain ⟨r1,r2,r3,r4,r5⟩:=hrows hid hrs hm (λid' hid'=>hL id' (List.mem_cons_of_mem _ hid')) hle;obtain ⟨o1,o2⟩:=ho id (hL id List.mem_cons_self) ⟨_,_,_,_,_,hget⟩ hk (Nat.max tag m) (Nat.le_max_left _ _) (Nat.max_le.2 ⟨htB,r2⟩);refine ⟨?_,.tsl _ _ _ r5⟩;rw[<-r1];rw[k3];refine .tsl _ (Nat.max tag m) sz rs (γ id).blk ((γ id).base+off*sz) cap (λi j=>(w.cell? (adr (γ id).blk ((γ id).base+off*sz+i*sz+j))).getD undef) (Nat.max_le.2 ⟨htB,r2⟩) (by rw[r1];exact hc)
        (hr.lt id (by rw[hk];decide)).2 o2 o1 r3 (λi j row x hi hj=>(r4 i j row x hi hj).1) (λi j row x hi hj=>?_) (λi j row x hi hj=>?_) r5
       ·obtain ⟨_,c,c2,_⟩:=r4 i j row x hi hj;simp only[c2,Option.getD_some]
       ·obtain ⟨_,c,c2,c3⟩:=r4 i j row x hi hj;simp only[c2,Option.getD_some];exact c3.mono (Nat.le_max_right _ _)
      ·cases hsn
     ·cases hsn
    ·cases hsn
   ·cases hsn
  | hptr _ id ep i off b o hk he h' =>
   simp only[snap] at hsn
   split at hsn
   ·rename_i sz rows ep' lo fz hget;rw[aa] at hsn
    split at hsn
    ·rename_i hep;have hep:=aD hep
     split at hsn
     ·rename_i rs hrs
      split at hsn
      ·rename_i m hm;injection hsn with hsn;subst hsn;have hid:hg id=.cells sz rows ep' lo fz:=by rw[hx id (hL id (by simp[aA])) (by rw[hget];simp),hget]
       have hob:=hr.obj id;rw[hid] at hob;obtain ⟨k1,k2,k3,k4,_⟩:=hob;obtain ⟨e1,e2⟩:=h' (hep.trans k2.symm);subst e1;subst e2;simp only[aA,hget] at hL;have hrs':aE (aE (snap h tag f)) ((rows.drop 0).take rows.length)=some rs:=by simpa using hrs
       obtain ⟨r1,r2,r3,r4,r5⟩:=hrows hid hrs' hm (λid' hid'=>hL id' (List.mem_cons_of_mem _ (by simpa using hid'))) (by omega);obtain ⟨o1,o2⟩:=ho id (hL id List.mem_cons_self) ⟨_,_,_,_,_,hget⟩ hk (Nat.max tag m) (Nat.le_max_left _ _) (Nat.max_le.2 ⟨htB,r2⟩);refine ⟨?_,.tptr _ _ _ _ _ r5⟩;rw[k3];refine .tptr _ (Nat.max tag m) sz rs i off (γ id).blk (γ id).base (λi j=>(w.cell? (adr (γ id).blk ((γ id).base+i*sz+j))).getD undef) (Nat.max_le.2 ⟨htB,r2⟩)
        (hr.lt id (by rw[hk];decide)).2 o2 o1 r3 (λi j row x hi hj=>(r4 i j row x hi hj).1) (λi j row x hi hj=>?_) (λi j row x hi hj=>?_) r5
       ·obtain ⟨_,c,c2,_⟩:=r4 i j row x hi hj;simp only[Nat.zero_mul,Nat.add_zero] at c2;simp only[c2,Option.getD_some]
       ·obtain ⟨_,c,c2,c3⟩:=r4 i j row x hi hj;simp only[Nat.zero_mul,Nat.add_zero] at c2;simp only[c2,Option.getD_some];exact c3.mono (Nat.le_max_right _ _)
      ·cases hsn
     ·cases hsn
    ·cases hsn
   ·cases hsn
  | hmap=>cases hsn
  | yld=>cases hsn
  | tsl _ tag' sz rows b o cap cell ht hc hb hm ha hrl ho' hw hcell hcl =>
   simp only[snap] at hsn;injection hsn with hsn;subst hsn;exact ⟨(jg (.tsl _ tag' sz rows b o cap cell ht hc hb hm ha hrl ho' hw hcell hcl) (.tsl _ _ _ hcl) hs).mono hB,.tsl _ _ _ hcl⟩
  | tnil _ tag' sz a cap ht=>simp only[snap] at hsn;injection hsn with hsn;subst hsn;exact ⟨.tnil _ tag' sz a cap (Nat.le_trans ht hB),.tsl _ _ _ λrow h=>by cases h⟩
  | tptr _ tag' sz rows i0 off0 b o cell ht hb hm ha hrl ho' hw hcell hcl =>
   simp only[snap] at hsn;injection hsn with hsn;subst hsn;exact ⟨(jg (.tptr _ tag' sz rows i0 off0 b o cell ht hb hm ha hrl ho' hw hcell hcl) (.tptr _ _ _ _ _ hcl) hs).mono hB,.tptr _ _ _ _ _ hcl⟩
  | bool=>simp only[snap] at hsn;injection hsn with hsn;subst hsn;exact ⟨.bool _ _,.bool _⟩
  | int=>simp only[snap] at hsn;injection hsn with hsn;subst hsn;exact ⟨.int _ _ _,.int _ _⟩
  | str=>simp only[snap] at hsn;injection hsn with hsn;subst hsn;exact ⟨.str _ _,.str _⟩
  | nilp=>simp only[snap] at hsn;injection hsn with hsn;subst hsn;exact ⟨.nilp _,.nilp⟩
  | nils=>simp only[snap] at hsn;injection hsn with hsn;subst hsn;exact ⟨.nils _,.nils⟩
  | nilf=>simp only[snap] at hsn;injection hsn with hsn;subst hsn;exact ⟨.nilf _,.nilf⟩
  | nilm=>simp only[snap] at hsn;injection hsn with hsn;subst hsn;exact ⟨.nilm _,.nilm⟩
  | nili=>simp only[snap] at hsn;injection hsn with hsn;subst hsn;exact ⟨.nili _,.nili⟩
  | esl _ a=>simp only[snap] at hsn;injection hsn with hsn;subst hsn;exact ⟨.esl _ a,.esl⟩
theorem A6 {d:Nat}:∀{f:Nat} {x y:AV},cS d f x=some y->x.one=true->y.one=true:=by
 intro f x y hs hx;cases f with
 | zero=>cases hs
 | succ f =>
  cases x<;>simp only[cS,aa] at hs<;>first | (cases hx;done) | skip
  all_goals first | (injection hs with hs;subst hs;rfl) | skip
  all_goals
   repeat (split at hs)
   all_goals first | (cases hs;done) | (injection hs with hs;subst hs;rfl)
theorem KG {d:Nat}(hA:∀t b,t<d->¬A t b->¬A' t b)(hd:∀b,¬A d b->∀t,¬A' t b) :
  ∀(f:Nat) {x y:AV} {v:Value},cS d f x=some y->RV w γ A d x v->Closed x->RV w γ A' d y v/\Closed y:=by
 intro f
 induction f with
 | zero=>intro x y v h;cases h
 | succ f ih =>
  intro x y v hsn hv hcx;have hlist:∀{xs ys:List AV} {vs:Array Value},aE (cS d f) xs=some ys->xs.length=vs.size->(∀x∈xs,Closed x) ->
    (∀(i:Nat) x v,xs[i]?=some x->vs[i]?=some v->RV w γ A d x v) ->
    ys.length=vs.size/\(∀(i:Nat) x v,ys[i]?=some x->vs[i]?=some v->RV w γ A' d x v)/\∀y∈ys,Closed y:=by
   intro xs ys vs h1 h3 hc h4;have hex:∀(i:Nat) y,ys[i]?=some y->∃v,vs[i]?=some v/\RV w γ A' d y v/\Closed y:=by
    intro i y hy;obtain ⟨x,a1,a2⟩:=dL h1 i y hy;have hlt:i<vs.size:=by rw[<-h3];exact (List.getElem?_eq_some_iff.1 a1).1
    have hv:=Array.getElem?_eq_getElem hlt;obtain ⟨b1,b2⟩:=ih a2 (h4 i x _ a1 hv) (hc x (List.mem_of_getElem? a1));exact ⟨_,hv,b1,b2⟩
   refine ⟨by rw[jb h1,h3],λi y v hy hv=>?_,λy hy=>?_⟩
   ·obtain ⟨v',b1,b2,_⟩:=hex i y hy;rw[hv] at b1;injection b1 with b1;subst b1;exact b2
   ·obtain ⟨i,hi⟩:=List.getElem?_of_mem hy;obtain ⟨_,_,_,b⟩:=hex i y hi;exact b
  have hrows:∀{sz:Nat} {rows rs:List (List AV)} {m:Nat} {cell:Nat->Nat->Value},aE (aE (cS d f)) rows=some rs->eL rs=some m ->
    (∀(i:Nat) row,rows[i]?=some row->row.length=sz) ->
    (∀(i j:Nat) row x,rows[i]?=some row->row[j]?=some x->x.one=true) ->
    (∀(i j:Nat) row x,rows[i]?=some row->row[j]?=some x->RV w γ A d x (cell i j)) ->
    (∀row∈rows,∀x∈row,Closed x) ->
    rs.length=rows.length/\m<=d/\(∀(i:Nat) row,rs[i]?=some row->row.length=sz) /\
    (∀(i j:Nat) row x,rs[i]?=some row->row[j]?=some x->x.one=true/\(∃row0 x0,rows[i]?=some row0/\row0[j]?=some x0)/\RV w γ A' m x (cell i j)) /\
    (∀row∈rs,∀x∈row,Closed x):=by
   intro sz rows rs m cell h1 h2 h3 h4 h5 h6;have key:∀(i j:Nat) row x,rs[i]?=some row->row[j]?=some x->x.one=true/\(∃row0 x0,rows[i]?=some row0/\row0[j]?=some x0)/\RV w γ A' d x (cell i j)/\Closed x:=by intro i j row x hi hj;obtain ⟨row0,a1,a2⟩:=dL h1 i row hi;obtain ⟨x0,b1,b2⟩:=dL a2 j x hj;obtain ⟨c1,c2⟩:=ih b2 (h5 i j row0 x0 a1 b1) (h6 row0 (List.mem_of_getElem? a1) x0 (List.mem_of_getElem? b1));exact ⟨A6 b2 (h4 i j row0 x0 a1 b1),⟨row0,x0,a1,b1⟩,c1,c2⟩
   refine ⟨jb h1,?_,?_,?_,?_⟩
   ·refine dF h2 λrow hrow k hk=>dF hk λx hx k' hk'=>?_;obtain ⟨i,hi⟩:=List.getElem?_of_mem hrow;obtain ⟨j,hj⟩:=List.getElem?_of_mem hx;obtain ⟨_,_,hc,_⟩:=key i j row x hi hj;exact xG _ hk' hc
   ·intro i row hi;obtain ⟨row0,a1,a2⟩:=dL h1 i row hi;rw[jb a2];exact h3 i row0 a1
   ·intro i j row x hi hj;obtain ⟨c1,c2,c3,_⟩:=key i j row x hi hj;exact ⟨c1,c2,tS h2 hi hj c3⟩
   ·intro row hrow x hx;obtain ⟨i,hi⟩:=List.getElem?_of_mem hrow;obtain ⟨j,hj⟩:=List.getElem?_of_mem hx;obtain ⟨_,_,_,c⟩:=key i j row x hi hj;exact c
  have hlow:∀{t:Nat},t<=d->t≠d->∀t' b,t'<=t->b<w.heap.size->¬A t' b->¬Mut γ b->¬A' t' b/\¬Mut γ b :=
   λh1 h2 t' b h3 _ h4 h5=>⟨hA t' b (by omega) h4,h5⟩
  cases hv with
  | agg _ xs vs hl h1 h2 =>
   simp only[cS] at hsn
   split at hsn
   ·rename_i as has;injection hsn with hsn;subst hsn;cases hcx with
    | agg _ hcx =>
     obtain ⟨a,b,c⟩:=hlist has hl hcx h2;refine ⟨.agg _ _ _ a (λi x hi=>?_) b,.agg _ c⟩;obtain ⟨x0,a1,a2⟩:=dL has i x hi;exact A6 a2 (h1 i x0 a1)
   ·cases hsn
  | tup _ xs vs hl h2 =>
   simp only[cS] at hsn
   split at hsn
   ·rename_i as has;injection hsn with hsn;subst hsn;cases hcx with
    | tup _ hcx =>
     obtain ⟨a,b,c⟩:=hlist has hl hcx h2;exact ⟨.tup _ _ _ a b,.tup _ c⟩
   ·cases hsn
  | clo _ g xs ys vs us hl hl2 h1 h2 =>
   simp only[cS] at hsn
   split at hsn
   ·rename_i as cs has hcs;injection hsn with hsn;subst hsn;cases hcx with
    | clo _ _ _ hcx hcx2 =>
     obtain ⟨a,b,c⟩:=hlist has hl hcx h1;obtain ⟨a',b',c'⟩:=hlist hcs hl2 hcx2 h2;exact ⟨.clo _ _ _ _ _ _ a a' b b',.clo _ _ _ c c'⟩
   ·cases hsn
  | ifc _ t x v h1 =>
   simp only[cS] at hsn
   split at hsn
   ·rename_i a ha;injection hsn with hsn;subst hsn;cases hcx with
    | ifc _ _ hcx =>
     obtain ⟨a,b⟩:=ih ha h1 hcx;exact ⟨.ifc _ _ _ _ a,.ifc _ _ b⟩
   ·cases hsn
  | tsl _ t sz rows b o cap cell ht hc hb hm ha hrl ho' hw hcell hcl =>
   simp only[cS,aa] at hsn
   split at hsn
   ·rename_i htd;have htd:=aD htd
    split at hsn
    ·rename_i rs hrs
     split at hsn
     ·rename_i m hm';injection hsn with hsn;subst hsn;obtain ⟨r1,r2,r3,r4,r5⟩:=hrows (cell:=cell) hrs hm' hrl ho' (λi j row x a b=>(hcell i j row x a b).mono ht) hcl;refine ⟨?_,.tsl _ _ _ r5⟩;rw[<-r1];refine .tsl _ m sz rs b o cap cell r2 (by rw[r1];exact hc) hb hm (hd b (htd ▸ ha) m) r3 (λi j row x a b=>(r4 i j row x a b).1) (λi j row x a b=>?_) (λi j row x a b=>(r4 i j row x a b).2.2) r5;obtain ⟨_,⟨row0,x0,c1,c2⟩,_⟩:=r4 i j row x a b;exact hw i j row0 x0 c1 c2
     ·cases hsn
    ·cases hsn
   ·rename_i htd;injection hsn with hsn;subst hsn;have htd:t≠d:=λe=>htd (by rw[e];exact Nat.beq_refl d);exact ⟨.tsl _ t sz rows b o cap cell ht hc hb hm (hA t b (by omega) ha) hrl ho' hw (λi j row x a c=>jg (hcell i j row x a c) (hcl row (List.mem_of_getElem? a) x (List.mem_of_getElem? c)) (hlow ht htd)) hcl,.tsl _ _ _ hcl⟩
  | tnil _ t sz a cap ht =>
   simp only[cS,aa] at hsn
   split at hsn
   ·simp only[aE,eL,eT] at hsn;injection hsn with hsn;subst hsn;exact ⟨.tnil _ _ sz a cap (Nat.zero_le _),.tsl _ _ _ λrow h=>by cases h⟩
   ·injection hsn with hsn;subst hsn;exact ⟨.tnil _ t sz a cap ht,.tsl _ _ _ λrow h=>by cases h⟩
  | tptr _ t sz rows i0 off0 b o cell ht hb hm ha hrl ho' hw hcell hcl =>
   simp only[cS,aa] at hsn
   split at hsn
   ·rename_i htd;have htd:=aD htd
    split at hsn
    ·rename_i rs hrs
     split at hsn
     ·rename_i m hm';injection hsn with hsn;subst hsn;obtain ⟨r1,r2,r3,r4,r5⟩:=hrows (cell:=cell) hrs hm' hrl ho' (λi j row x a b=>(hcell i j row x a b).mono ht) hcl;refine ⟨?_,.tptr _ _ _ _ _ r5⟩;refine .tptr _ m sz rs i0 off0 b o cell r2 hb hm (hd b (htd ▸ ha) m) r3 (λi j row x a b=>(r4 i j row x a b).1) (λi j row x a b=>?_) (λi j row x a b=>(r4 i j row x a b).2.2) r5;obtain ⟨_,⟨row0,x0,c1,c2⟩,_⟩:=r4 i j row x a b;exact hw i j row0 x0 c1 c2
     ·cases hsn
    ·cases hsn
   ·rename_i htd;injection hsn with hsn;subst hsn;have htd:t≠d:=λe=>htd (by rw[e];exact Nat.beq_refl d);exact ⟨.tptr _ t sz rows i0 off0 b o cell ht hb hm (hA t b (by omega) ha) hrl ho' hw (λi j row x a c=>jg (hcell i j row x a c) (hcl row (List.mem_of_getElem? a) x (List.mem_of_getElem? c)) (hlow ht htd)) hcl,.tptr _ _ _ _ _ hcl⟩
  | bool=>simp only[cS] at hsn;injection hsn with hsn;subst hsn;exact ⟨.bool _ _,.bool _⟩
  | int=>simp only[cS] at hsn;injection hsn with hsn;subst hsn;exact ⟨.int _ _ _,.int _ _⟩
  | str=>simp only[cS] at hsn;injection hsn with hsn;subst hsn;exact ⟨.str _ _,.str _⟩
  | nilp=>simp only[cS] at hsn;injection hsn with hsn;subst hsn;exact ⟨.nilp _,.nilp⟩
  | nils=>simp only[cS] at hsn;injection hsn with hsn;subst hsn;exact ⟨.nils _,.nils⟩
  | nilf=>simp only[cS] at hsn;injection hsn with hsn;subst hsn;exact ⟨.nilf _,.nilf⟩
  | nilm=>simp only[cS] at hsn;injection hsn with hsn;subst hsn;exact ⟨.nilm _,.nilm⟩
  | nili=>simp only[cS] at hsn;injection hsn with hsn;subst hsn;exact ⟨.nili _,.nili⟩
  | esl _ a=>simp only[cS] at hsn;injection hsn with hsn;subst hsn;exact ⟨.esl _ a,.esl⟩
  | hsl=>cases hcx
  | hptr=>cases hcx
  | hmap=>cases hcx
  | yld=>cases hcx
theorem zq (s1:w.heap.size<=w'.heap.size)(s2:w'.os=w.os)(s3:w'.tape=w.tape)(s4:w'.output=w.output)(s5:w.drawn<=w'.drawn)
  (hb:∀b,b<w.heap.size->w'.heap[b]?=w.heap[b]?):Stp w γ w' γ :=
 ⟨s1,s2,s3,s4,λb h _=>hb b h,λ_ _ h=>h,λ_ _=>.inl ⟨rfl,rfl⟩,λ_ _=>⟨Nat.le_refl _,λ_=>⟨rfl,rfl,rfl,rfl,rfl⟩⟩,s5⟩
theorem Rel.same (hr:Rel C A bd w γ hg nx)(s:Stp w γ w' γ)(hb:∀b,b<w.heap.size->w'.heap[b]?=w.heap[b]?):Rel C A bd w' γ hg nx where
 obj id:=(hr.obj id).step s rfl λhk _=>hb _ (hr.lt id hk).2
 lt id hk:=⟨(hr.lt id hk).1,Nat.lt_of_lt_of_le (hr.lt id hk).2 s.sz⟩
 inj:=hr.inj
 av:=hr.av
 ab t b h:=Nat.lt_of_lt_of_le (hr.ab t b h) s.sz
 glob g sz rows h:=(hr.glob g sz rows h).step s
structure Fin (C:Cfg) (A:Nat->Nat->Prop) (bd:Nat) (w:World) (γ:Gm) (hg:Nat->AObj) (nx:Nat) (g:G) (w':World) (γ':Gm) (hg':Nat->AObj) (g':G):Prop where
 rel:Rel C A bd w' γ' hg' (Nat.max nx g'.nx)
 stp:Stp w γ w' γ'
 new:∃new,g'.lg=new++g.lg/\(∀id∈new,hg' id=g'.h.get id)/\∀id,id ∉ new->hg' id=hg id
structure Mon (g g':G):Prop where
 nx:g.nx<=g'.nx
 new:∃new,g'.lg=new++g.lg/\(∀id,id ∉ new->g'.h.get id=g.h.get id)/\∀id∈new,id<g'.nx/\(g.h.get id=.none->g.nx<=id)
 wf:(∀id,g.nx<=id->g.h.get id=.none)->∀id,g'.nx<=id->g'.h.get id=.none
def WF (g:G):Prop:=∀id,g.nx<=id->g.h.get id=.none
theorem Mon.refl (g:G):Mon g g:=⟨Nat.le_refl _,⟨[],rfl,λ_ _=>rfl,λ_ h=>by cases h⟩,λh=>h⟩
theorem Mon.trans {g g1 g2:G}(h1:Mon g g1)(h2:Mon g1 g2):Mon g g2:=by
 obtain ⟨n1,a1,b1,c1⟩:=h1.new;obtain ⟨n2,a2,b2,c2⟩:=h2.new;refine ⟨Nat.le_trans h1.nx h2.nx,⟨n2++n1,by rw[a2,a1,List.append_assoc],λid hid=>?_,λid hid=>?_⟩,λh=>h2.wf (h1.wf h)⟩
 ·rw[b2 id λh=>hid (List.mem_append_left _ h),b1 id λh=>hid (List.mem_append_right _ h)]
 ·by_cases hin:id∈n1
  ·exact ⟨Nat.lt_of_lt_of_le (c1 id hin).1 h2.nx,(c1 id hin).2⟩
  ·rcases List.mem_append.1 hid with h | h
   ·exact ⟨(c2 id h).1,λhn=>Nat.le_trans h1.nx ((c2 id h).2 (by rw[b1 id hin];exact hn))⟩
   ·exact absurd h hin
def Free (γ:Gm)(g g':G):Prop:=∀id,g.nx<=id->id<=g'.nx->(γ id).kind=0
theorem Fin.refl {g:G}(hr:Rel C A bd w γ hg nx):Fin C A bd w γ hg nx g w γ hg g :=
 ⟨hr.up (Nat.le_max_left _ _),Stp.refl _ _,⟨[],rfl,λ_ h=>absurd h List.not_mem_nil,λ_ _=>rfl⟩⟩
theorem Rel.none_iff (hr:Rel C A bd w γ hg nx)(id:Nat):(γ id).kind=0↔hg id=.none:=by
 have h:=hr.obj id;constructor
 ·intro hk;cases ho:hg id with
  | none=>rfl
  | _=>rw[ho] at h;have:=h.1;omega
 ·intro hn;rw[hn] at h;exact h
theorem Fin.freed {g g1 g2:G}{w1:World}{γ1:Gm}{hg1:Nat->AObj}(h1:Fin C A bd w γ hg nx g w1 γ1 hg1 g1)(hr:Rel C A bd w γ hg nx)(m1:Mon g g1)(hf:Free γ g g2):Free γ1 g1 g2:=by
 obtain ⟨n,a,b,c⟩:=h1.new;obtain ⟨n',a',b',c'⟩:=m1.new;have e:n'=n:=List.append_cancel_right (a'.symm.trans a);subst e;intro id h2 h3;have hn:id ∉ n':=λh=>by have:=(c' id h).1;omega
 rw[h1.rel.none_iff,c id hn,<-hr.none_iff];exact hf id (Nat.le_trans m1.nx h2) h3
theorem Free.le {γ:Gm}{g g1 g2:G}(h:Free γ g g2)(hle:g1.nx<=g2.nx):Free γ g g1:=λid h1 h2=>h id h1 (Nat.le_trans h2 hle)
theorem Fin.ext {g g':G}{hg':Nat->AObj}(h:Fin C A bd w γ hg nx g w' γ' hg' g')(m:Mon g g')(hx:Ext g.h hg):Ext g'.h hg':=by
 obtain ⟨n,a,b,c⟩:=h.new;obtain ⟨n',a',b',_⟩:=m.new;have e:n'=n:=List.append_cancel_right (a'.symm.trans a);subst e;intro id hid
 by_cases hin:id∈n'
 ·exact b id hin
 ·rw[c id hin,b' id hin];exact hx id (by rw[<-b' id hin];exact hid)
theorem Fin.trans {g g1 g2:G}{w1 w2:World}{γ1 γ2:Gm}{hg1 hg2:Nat->AObj}(h1:Fin C A bd w γ hg nx g w1 γ1 hg1 g1)
  (h2:Fin C A bd w1 γ1 hg1 (Nat.max nx g1.nx) g1 w2 γ2 hg2 g2) (m1:Mon g g1) (m2:Mon g1 g2):Fin C A bd w γ hg nx g w2 γ2 hg2 g2:=by
 obtain ⟨n1,a1,b1,c1⟩:=h1.new;obtain ⟨n2,a2,b2,c2⟩:=h2.new;obtain ⟨n',a',b',_⟩:=m2.new;have e:n'=n2:=List.append_cancel_right (a'.symm.trans a2);subst e;refine ⟨?_,h1.stp.trans h2.stp,⟨n'++n1,by rw[a2,a1,List.append_assoc],λid hid=>?_,λid hid=>?_⟩⟩
 ·refine h2.rel.up (Nat.max_le.2 ⟨Nat.max_le.2 ⟨Nat.le_max_left _ _,Nat.le_trans m2.nx (Nat.le_max_right _ _)⟩,Nat.le_max_right _ _⟩)
 ·by_cases hin:id∈n'
  ·exact b2 id hin
  ·rw[c2 id hin,b' id hin];rcases List.mem_append.1 hid with h | h
   ·exact absurd h hin
   ·exact b1 id h
 ·rw[c2 id λh=>hid (List.mem_append_left _ h),c1 id λh=>hid (List.mem_append_right _ h)]
def ni (K:CallKind)(cs:List Frame):Prop:=K=.normal\/(K=.deferred/\∃c cs',cs=c::cs'/\(c.mode=.returning\/∃v x older,c.mode=.panicking ({ v,recovered:=true,goexit:=x }::older)))
def Outs (P:Program)(K:CallKind)(f:FuncId)(vs:Array Value)(cs:List Frame)(w:World)(u:Value)(w':World):Prop :=
 ∃fr,Steps P (lone (Frame.enter P f vs K) cs w) (lone fr cs w')/\fr.mode=.returning/\fr.defers=[]/\fr.kind=K/\fr.fn=f /\
  ∃fn,P.funcs[f]?=some fn/\(results fn fr.tmps).run P w'=.ok u w'
def Enters (P:Program)(f:FuncId):Prop:=∀args w,(callFunc f args).run P w=.ok (.enter f args) w
def xp (C:Cfg)(bd:Nat)(f:FuncId)(as:List AV)(g:G)(v:AV)(g':G):Prop :=
 ∀A w γ hg nx vs,Rel C A bd w γ hg nx->Ext g.h hg->WF g->Free γ g g'->RVs w γ A bd as vs->∀K cs,ni K cs ->
  ∃u w' γ' hg',Fin C A bd w γ hg nx g w' γ' hg' g'/\RV w' γ' A bd v u/\Outs C.P K f vs.toArray cs w u w'
def xJ (C:Cfg)(ih:IH):Prop :=
 ∀bd f as g v g',ih.call (bd+1) f as g=.ok v g'->Enters C.P f/\xp C bd f as g v g'
def tU (ih:IH):Prop:=∀d f as g v g',ih.call d f as g=.ok v g'->WF g->Mon g g'
theorem zZ:∀(ids:List Nat) (g:G),WF g->Mon g (bP g ids):=by
 intro ids
 induction ids with
 | nil=>intro g _;exact Mon.refl g
 | cons i is ih =>
  intro g hwf;simp only[bP]
  split
  ·rename_i sz rows ep lo fz hget;have hi:i<g.nx:=Nat.lt_of_not_le λh=>by have:=hwf i h;rw[<-G.get_eq,hget] at this;cases this
   refine Mon.trans ⟨by simp,⟨[i],by simp,λid hid=>?_,λid hid=>?_⟩,λh id hid=>?_⟩ (ih _ λid hid=>?_)
   ·simp only[G.put_h,H.get_put];rw[if_neg];simpa using hid
   ·simp at hid;subst hid;exact ⟨by simpa using hi,λhn=>by rw[<-G.get_eq,hget] at hn;cases hn⟩
   ·simp only[G.put_nx] at hid;simp only[G.put_h,H.get_put];rw[if_neg (by omega)];exact h id hid
   ·simp only[G.put_nx] at hid;simp only[G.put_h,H.get_put];rw[if_neg (by omega)];exact hwf id hid
  ·exact ih g hwf
theorem z_:∀(ids:List Nat) (g:G) (γ:Gm) (hg:Nat->AObj),Rel C A bd w γ hg nx->(∀id∈ids,g.h.get id≠.none->hg id=g.h.get id) ->
  ∃γ₁ hg₁,Rel C A bd w γ₁ hg₁ nx/\Stp w γ w γ₁/\(bP g ids).nx=g.nx /\
   (∃new,(bP g ids).lg=new++g.lg/\(∀id∈new,hg₁ id=(bP g ids).h.get id)/\(∀id,id ∉ new->hg₁ id=hg id)) /\
   (∀id,(γ₁ id).kind=(γ id).kind/\(γ₁ id).blk=(γ id).blk/\((γ₁ id).wr=true->(γ id).wr=true)) /\
   (∀id∈ids,(∃sz rows ep lo fz,g.h.get id=.cells sz rows ep lo fz)->(γ₁ id).wr=false):=by
 intro ids
 induction ids with
 | nil =>
  intro g γ hg hr hx;exact ⟨γ,hg,hr,Stp.refl _ _,rfl,⟨[],rfl,λ_ h=>absurd h List.not_mem_nil,λ_ _=>rfl⟩,λ_=>⟨rfl,rfl,λh=>h⟩,λ_ h=>by cases h⟩
 | cons i is ih =>
  intro g γ hg hr hx;simp only[bP]
  split
  ·rename_i sz rows ep lo fz hget;have hget':g.h.get i=.cells sz rows ep lo fz:=by simpa using hget
   have hid:hg i=.cells sz rows ep lo fz:=by rw[hx i List.mem_cons_self (by rw[hget'];simp),hget']
   obtain ⟨γ₀,r0,s0,e0,m0⟩:=hr.freeze hid;have hx0:∀id∈is,(g.put i (.cells sz rows ep lo true)).h.get id≠.none->upd hg i (.cells sz rows ep lo true) id=(g.put i (.cells sz rows ep lo true)).h.get id:=by
    intro id hin hne;simp only[G.put_h,H.get_put] at hne ⊢;unfold upd
    by_cases hi:id=i
    ·simp[hi]
    ·simp only[hi,if_false] at hne ⊢;exact hx id (List.mem_cons_of_mem _ hin) hne
   obtain ⟨γ₁,hg₁,r1,s1,n1,⟨new,l1,l2,l3⟩,f1,f2⟩:=ih _ γ₀ _ r0 hx0;refine ⟨γ₁,hg₁,r1,s0.trans s1,by rw[n1];simp,⟨new++[i],by rw[l1];simp,λid hid'=>?_,λid hid'=>?_⟩,λid=>?_,λid hid' hc=>?_⟩
   ·by_cases hin:id∈new
    ·exact l2 id hin
    ·have hi:id=i:=by
      rcases List.mem_append.1 hid' with h | h
      ·exact absurd h hin
      ·simpa using h
     subst hi;rw[l3 id hin];simp only[upd_same]
     by_cases hwf:∃new',(bP (g.put id (.cells sz rows ep lo true)) is).lg=new'++(g.put id (.cells sz rows ep lo true)).lg/\∀k,k ∉ new'->(bP (g.put id (.cells sz rows ep lo true)) is).h.get k=(g.put id (.cells sz rows ep lo true)).h.get k
     ·obtain ⟨new',q1,q2⟩:=hwf;have e:new'=new:=List.append_cancel_right (q1.symm.trans l1);rw[q2 id (e ▸ hin)];simp[H.get_put]
     ·exact absurd (freezeIds_log is _) hwf
   ·rw[l3 id λh=>hid' (List.mem_append_left _ h)];exact bN _ _ (by rintro rfl;exact hid' (List.mem_append_right _ List.mem_cons_self))
   ·obtain ⟨a,b,c⟩:=f1 id;rw[e0] at a b c;unfold upd at a b c
    by_cases hi:id=i
    ·subst hi;simp at a b c;exact ⟨a,b,λh=>by rw[c] at h;cases h⟩
    ·simp only[hi,if_false] at a b c;exact ⟨a,b,c⟩
   ·rcases List.mem_cons.1 hid' with rfl | hin
    ·have:=(f1 id).2.2;rw[e0] at this;simp at this;simpa using this
    ·by_cases hi:id=i
     ·subst hi;have:=(f1 id).2.2;rw[e0] at this;simp at this;simpa using this
     ·refine f2 id hin ?_;simp only[G.put_h,H.get_put,hi,if_false];exact hc
  ·rename_i hne;obtain ⟨γ₁,hg₁,r1,s1,n1,l,f1,f2⟩:=ih g γ hg hr λid hin=>hx id (List.mem_cons_of_mem _ hin);refine ⟨γ₁,hg₁,r1,s1,n1,l,f1,λid hid' hc=>?_⟩;rcases List.mem_cons.1 hid' with rfl | hin
   ·obtain ⟨sz,rows,ep,lo,fz,hc⟩:=hc;exact absurd (by simpa using hc) (hne sz rows ep lo fz)
   ·exact f2 id hin hc where
 freezeIds_log:∀(ids:List Nat) (g:G),∃new',(bP g ids).lg=new'++g.lg/\∀k,k ∉ new'->(bP g ids).h.get k=g.h.get k:=by
  intro ids
  induction ids with
  | nil=>intro g;exact ⟨[],rfl,λ_ _=>rfl⟩
  | cons i is ih =>
   intro g;simp only[bP]
   split
   ·rename_i sz rows ep lo fz hget;obtain ⟨new,a,b⟩:=ih (g.put i (.cells sz rows ep lo true));refine ⟨new++[i],by rw[a];simp,λk hk=>?_⟩;rw[b k λh=>hk (List.mem_append_left _ h)];simp only[G.put_h,H.get_put];rw[if_neg];rintro rfl;exact hk (List.mem_append_right _ List.mem_cons_self)
   ·exact ih g
def gOf (g:G):OR->G
 | .upd _ g'=>g'
 | _=>g
def vOf:OR->AV
 | .upd v _=>v
 | .val v=>v
 | _=>.undef
theorem rh {ih:IH}{d:Nat}{g:G}{f:Nat}{args:List AV}(hwf:WF g):Mon g (gOf g (af ih d g f args)):=by
 unfold af
 split
 ·exact Mon.refl g
 split
 ·exact Mon.refl g
 split
 ·exact Mon.refl g
 split
 ·exact Mon.refl g
 rw[aa]
 split
 ·exact Mon.refl g
 split
 ·exact Mon.refl g
 split
 ·exact Mon.refl g
 rw[aa]
 split
 ·exact zZ _ _ hwf
 ·exact Mon.refl g
theorem rk {ih:IH}{g:G}{f:Nat}{args:List AV}{vs:List Value}(hc:xJ C ih)(hm:tU ih)(hr:Rel C A bd w γ hg nx)
  (hx:∀id∈args.flatMap (aA g.h aB),g.h.get id≠.none->hg id=g.h.get id)
  (hv:RVs w γ A bd args vs) (hne:af ih (bd+1) g f args≠.fail) (cs:List Frame) :
  Enters C.P f/\∃u w' γ' hg',Fin C A bd w γ hg nx g w' γ' hg' (gOf g (af ih (bd+1) g f args))/\RV w' γ' A bd (vOf (af ih (bd+1) g f args)) u /\
   Outs C.P .normal f vs.toArray cs w u w':=by
 let γc:Gm:=λ_=>⟨0,0,0,0,0,0,0,false⟩
 let L:Nat->Prop:=λid=>id∈args.flatMap (aA g.h aB)
 let isC:Nat->Prop:=λid=>∃sz rows ep lo fz,g.h.get id=.cells sz rows ep lo fz
 let Ac:Nat->Nat->Prop:=λt b=>(t<=bd/\(A t b\/Mut γ b))\/(t=bd+1/\b<w.heap.size/\¬∃id,L id/\isC id/\(γ id).kind=1/\(γ id).blk=b)
 have hmutc:∀b,¬Mut γc b:=by rintro b ⟨id,h,_⟩;exact h rfl
 generalize hres:af ih (bd+1) g f args=res at *;unfold af at hres
 split at hres
 ·exact absurd hres.symm hne
 rename_i as has;have hshift:∀t b,t<=bd->b<w.heap.size->¬A t b->¬Mut γ b->¬Ac t b/\¬Mut γc b:=by
  intro t b h1 _ h2 h3;refine ⟨?_,hmutc b⟩;rintro (⟨_,h | h⟩ | ⟨h,_⟩)
  ·exact h2 h
  ·exact h3 h
  ·omega
 have hargs:RVs w γc Ac (bd+1) as vs:=by
  refine ⟨by rw[jb has];exact hv.1,λi y v hy hvi=>?_⟩;obtain ⟨x,h1,h2⟩:=dL has i y hy;refine (xF (L:=L) hr hx (Nat.le_succ _) (Nat.le_refl _) hshift ?_ aB h2 (hv.2 i x v h1 hvi) λid hid=>List.mem_flatMap.2 ⟨x,List.mem_of_getElem? h1,hid⟩).1;intro id hL hcell hk t h3 h4;have ht:t=bd+1:=Nat.le_antisymm h4 h3;refine ⟨?_,hmutc _⟩;rintro (⟨h,_⟩ | ⟨_,_,h⟩)
  ·omega
  ·exact h ⟨id,hL,hcell,hk,rfl⟩
 have hrc:Rel C Ac (bd+1) w γc (λ_=>.none) 0:=by
  refine ⟨λid=>rfl,λid h=>absurd rfl h,λi j h=>absurd rfl h,λid h=>absurd rfl h,?_,λgl sz rows h=>?_⟩
  ·rintro t b (⟨_,h | ⟨id,h1,h2,h3⟩⟩ | ⟨_,h,_⟩)
   ·exact hr.ab t b h
   ·rw[<-h3];exact (hr.lt id h1).2
   ·exact h
  ·have:=hr.glob gl sz rows h;exact (jg this (rA this (.inr ⟨_,_,_,_,_,rfl⟩)) hshift).mono (Nat.le_succ _)
 split at hres
 ·exact absurd hres.symm hne
 rename_i r g' hcall;have hempty:G.empty.h.get=λ_=>AObj.none:=by funext id;simp[G.empty,H.get,Tr.get_nil]
 obtain ⟨hent,hrun⟩:=hc (bd+1) f as G.empty r g' hcall;refine ⟨hent,?_⟩;obtain ⟨u,w',γ',hg',hfin,hru,hout⟩:=hrun Ac w γc (λ_=>.none) 0 vs hrc (λid h=>by rw[hempty] at h;exact absurd rfl h) (λid _=>by rw[hempty])
  (λ_ _ _=>rfl) hargs .normal cs (.inl rfl)
 have hextc:Ext g'.h hg':=hfin.ext (hm _ _ _ _ _ _ hcall (λid _=>by rw[hempty])) (λid h=>by rw[hempty] at h;exact absurd rfl h);have hsame:∀b,b<w.heap.size->w'.heap[b]?=w.heap[b]?:=λb hb=>hfin.stp.fr b hb (hmutc b);have hstp:Stp w γ w' γ:=zq hfin.stp.sz hfin.stp.os hfin.stp.tape hfin.stp.output hfin.stp.dr hsame;have hrw:Rel C A bd w' γ hg nx:=hr.same hstp hsame
 split at hres
 ·exact absurd hres.symm hne
 rename_i r' hsnap;obtain ⟨hr',hcl⟩:=xF (A':=Ac) (γ':=γc) (L:=λ_=>True) hfin.rel (λid _=>hextc id) (Nat.le_refl _) (Nat.zero_le _) (λt b _ _ h _=>⟨h,hmutc b⟩)
  (λid _ _ hk t _ _=>⟨hfin.rel.av id (by rw[hk];decide) t,hmutc _⟩) aB hsnap hru λ_ _=>trivial
 split at hres
 ·exact absurd hres.symm hne
 rename_i m hm;have hrm:=Ca _ hm hr';rw[aa] at hres
 split at hres
 ·rename_i hlt;rw[Nat.blt_eq] at hlt;subst hres;refine ⟨u,w',γ,hg,⟨hrw.up (Nat.le_max_left _ _),hstp,⟨[],rfl,λ_ h=>absurd h List.not_mem_nil,λ_ _=>rfl⟩⟩,?_,hout⟩;refine (jg hrm hcl λt b h1 h2 h3 h4=>⟨λh=>h3 (.inl ⟨by omega,.inl h⟩),λh=>h3 (.inl ⟨by omega,.inr h⟩)⟩).mono (by omega)
 ·split at hres
  ·exact absurd hres.symm hne
  rename_i r'' hun
  split at hres
  ·exact absurd hres.symm hne
  rename_i m' hm';rw[aa] at hres
  split at hres
  rotate_left
  ·exact absurd hres.symm hne
  rename_i hlt;rw[Nat.blt_eq] at hlt;subst hres;obtain ⟨γ₁,hg₁,r1,s1,n1,⟨new,l1,l2,l3⟩,f1,f2⟩:=z_ (args.flatMap (aA g.h aB)) g γ hg hrw hx;have hmut:∀b,Mut γ₁ b->Mut γ b:=by rintro b ⟨id,h1,h2,h3⟩;obtain ⟨e1,e2,e3⟩:=f1 id;exact ⟨id,by rw[<-e1];exact h1,e3 h2,by rw[<-e2];exact h3⟩
  refine ⟨u,w',γ₁,hg₁,⟨r1.up (Nat.le_max_left _ _),hstp.trans s1,⟨new,l1,l2,l3⟩⟩,?_,hout⟩
  let A₁:Nat->Nat->Prop:=λt b=>if t=bd+1 then ∃t',A t' b else A t b
  have hmle:m<=bd+1:=xG _ hm hr';have hsh:RV w' γ₁ A₁ m r' u:=by
   refine jg hrm hcl λt b h1 h2 h3 _=>?_
   by_cases ht:t=bd+1
   ·have hb:w.heap.size<=b\/∃id,L id/\isC id/\(γ id).kind=1/\(γ id).blk=b:=by
     by_cases hs:w.heap.size<=b
     ·exact .inl hs
     ·exact .inr (Classical.byContradiction λhn=>h3 (.inr ⟨ht,by omega,hn⟩))
    rcases hb with hb | ⟨id,q1,q2,q3,q4⟩
    ·refine ⟨?_,λhmu=>?_⟩
     ·simp only[A₁,ht,if_true];rintro ⟨t',h⟩;have:=hr.ab t' b h;omega
     ·obtain ⟨id,p1,p2,p3⟩:=hmut b hmu;have:=(hr.lt id p1).2;omega
    ·refine ⟨?_,?_⟩
     ·simp only[A₁,ht,if_true];rintro ⟨t',h⟩;rw[<-q4] at h;exact hr.av id (by rw[q3];decide) t' h
     ·rintro ⟨j,p1,p2,p3⟩;obtain ⟨e1,e2,e3⟩:=f1 j;have hj:j=id:=hr.inj j id (by rw[<-e1];exact p1) (by rw[q3];decide) (by rw[<-e2,p3,q4]);subst hj;rw[f2 j q1 q2] at p2;cases p2
   ·refine ⟨?_,λh=>h3 (.inl ⟨by omega,.inr (hmut b h)⟩)⟩;simp only[A₁,ht,if_false];exact λh=>h3 (.inl ⟨by omega,.inl h⟩)
  obtain ⟨hf1,_⟩:=KG (A':=A) (d:=bd+1) (λt b h1 h2=>by simp only[A₁,show t≠bd+1 by omega,if_false] at h2;exact h2)
   (λb h2 t ht=>h2 (by simp only[A₁,if_true];exact ⟨t,ht⟩)) aB hun (hsh.mono hmle) hcl
  exact (Ca _ hm' hf1).mono (by omega)
end
end Hx
end
section
namespace Hx
open Go
section
variable {C:Cfg}
theorem Mon.put {g:G}{id:Nat}{o:AObj}(hwf:WF g)(hid:g.h.get id≠.none):Mon g (g.put id o):=by
 have hi:id<g.nx:=Nat.lt_of_not_le λh=>hid (hwf id h);refine ⟨by simp,⟨[id],by simp,λk hk=>?_,λk hk=>?_⟩,λh k hk=>?_⟩
 ·simp only[G.put_h,H.get_put];rw[if_neg];simpa using hk
 ·simp at hk;subst hk;exact ⟨by simpa using hi,λhn=>absurd hn hid⟩
 ·simp only[G.put_nx] at hk;simp only[G.put_h,H.get_put];rw[if_neg (by omega)];exact h k hk
theorem Mon.mk' {g:G}{o:AObj}:Mon g (g.new o):=by
 refine ⟨by simp,⟨[g.nx],by simp,λk hk=>?_,λk hk=>?_⟩,λh k hk=>?_⟩
 ·simp only[G.new_h,H.get_put];rw[if_neg];simpa using hk
 ·simp at hk;subst hk;simp
 ·simp only[G.new_nx] at hk;simp only[G.new_h,H.get_put];rw[if_neg (by omega)];exact h k (by omega)
def Small (g:G):OR->Prop
 | .fail=>True
 | .val _=>True
 | .upd _ g'=>(∃id ob,g'=g.put id ob/\g.h.get id≠.none)\/∃ob,g'=g.new ob
 | .dfr _=>False
theorem Small.mon {g:G}{r:OR}(h:Small g r)(hwf:WF g):Mon g (gOf g r):=by
 cases r with
 | upd v g' =>
  rcases h with ⟨id,ob,rfl,h⟩ | ⟨ob,rfl⟩
  ·exact Mon.put hwf h
  ·exact Mon.mk'
 | _=>exact Mon.refl g
variable {op:Op}{t:T}{g:G}{f:Stg SFn}
theorem j5 (x:Option AV):Small g (orV x):=by cases x<;>trivial
theorem v_ (sz bytes:Nat)(s:AV)(new:List (List AV)):Small g (bk sz bytes s new g):=by
 unfold bk;simp only[aa]
 repeat' split
 all_goals first
  | trivial
  | exact .inr ⟨_,rfl⟩
  | exact .inl ⟨_,_,rfl,λhn=>by simp_all⟩
theorem HW {P:Program}{op:BinOp}{ty:TypeId}{x y:AV}:Small g ((xP P op ty).run x y):=by
 unfold xP
 split
 ·split
  ·dsimp only;split<;>first | exact j5 _ | trivial
  ·dsimp only;split<;>trivial
 ·split
  ·dsimp only;split<;>first | exact j5 _ | trivial
  ·dsimp only;split<;>trivial
 ·dsimp only;split<;>first | exact j5 _ | trivial
theorem Ko {op:UnOp}{x:AV}:Small g ((unA op).run x):=by
 unfold unA
 split
 ·dsimp only;split<;>trivial
 ·dsimp only;split<;>first | exact j5 _ | trivial
theorem we (h:bS C op=some f):Small g (f.run t g):=by
 cases op<;>simp only[bS] at h<;>first | (cases h;done) | skip
 case call c =>
  obtain ⟨callee,args,argTypes⟩:=c;cases callee<;>first | (cases h;done) | skip
  rename_i b;dsimp only at h;unfold cO at h
  split at h
  all_goals
   repeat' (first | split at h | (rw[aa] at h;split at h))
   all_goals first | (cases h;done) | skip
   all_goals (injection h with h;subst h)
   all_goals dsimp only[cV,cW,t7,Au,Im,yd]
   all_goals try simp only[aa]
   all_goals repeat' split
   all_goals first
    | trivial
    | exact v_ _ _ _ _
    | exact .inr ⟨_,rfl⟩
    | exact .inl ⟨_,_,rfl,λhn=>by simp_all⟩
 all_goals
  repeat' (first | split at h | (rw[aa] at h;split at h))
  all_goals first | (cases h;done) | skip
  all_goals first | (injection h with h;subst h) | (exfalso;injections;done) | (rename_i heq _;cases heq)
  all_goals dsimp only[lC,m_,Bf,Ig,mA,fQ,iB,fe,lB,tF,oe,fK,cZ,el,eK,fR,gf]
  all_goals first
   | exact j5 _
   | exact HW
   | exact Ko
   | skip
  all_goals try simp only[aa]
  all_goals repeat' split
  all_goals first
   | trivial
   | exact j5 _
   | exact .inr ⟨_,rfl⟩
   | exact .inl ⟨_,_,rfl,λhn=>by simp_all⟩
   | skip
def dx (C:Cfg):Prop:=∀f e,C.ext f=some e->∀d args g,WF g->Mon g (gOf g (e d args g))
structure IHMon (ih:IH):Prop where
 code:∀nt d rd c t df g e t' df' g',ih.code nt d rd c t df g=.ok e t' df' g'->WF g->Mon g g'
 call:tU ih
variable {ih:IH}
theorem E6 (hi:IHMon ih){d id:Nat}{args:List AV}{g:G}(hwf:WF g):Mon g (gOf g (cI ih d id args g)):=by
 unfold cI
 split
 ·split
  ·exact Mon.refl g
  ·split
   ·rename_i t1 g1 h1;have m1:=hi.code _ _ _ _ _ _ _ _ _ _ _ h1 hwf;have w1:WF g1:=m1.wf hwf
    split
    ·rename_i hget
     split
     ·rename_i g2 h2;have hne:g1.h.get id≠.none:=by rw[<-G.get_eq,hget];simp
      have m2:=λo=>Mon.put (o:=o) w1 hne;have m3:=hi.code _ _ _ _ _ _ _ _ _ _ _ h2 ((m2 _).wf w1);have m4:=m1.trans ((m2 _).trans m3)
      split
      ·rename_i hget2;have hne2:g2.h.get id≠.none:=by rw[<-G.get_eq,hget2];simp
       split
       all_goals exact m4.trans (Mon.put (m4.wf hwf) hne2)
      ·exact Mon.refl g
     ·exact Mon.refl g
    ·exact Mon.refl g
   ·exact Mon.refl g
 ·exact Mon.refl g
theorem Gv {g:G}{r:FR}(h:∀v g',r=.ok v g'->Mon g g'):Mon g (gOf g (orF r)):=by
 cases r with
 | fail=>exact Mon.refl g
 | ok v g'=>exact h v g' rfl
theorem G_ (he:dx C)(hi:IHMon ih){d:Nat}{fv:AV}{vs:List AV}{g:G}(hwf:WF g):Mon g (gOf g (j7 C ih d fv vs g)):=by
 unfold j7
 split
 ·split
  ·rename_i e h;exact he _ e h _ _ g hwf
  ·rw[aa]
   split
   ·exact rh hwf
   ·exact Gv λv g' h=>hi.call _ _ _ _ _ _ h hwf
 ·exact E6 hi hwf
 ·exact Mon.refl g
theorem K_ (he:dx C)(hi:IHMon ih){op:Op}{f:Stg Ia}(h:cOp C op=some f){d:Nat}{rd:Option Nat}{t:T}{g:G}(hwf:WF g) :
  Mon g (gOf g (f.run ih d rd t g)):=by
 unfold cOp at h
 split at h
 ·split at h
  ·split at h
   ·rename_i e hext;injection h with h;subst h;exact he _ e hext _ _ g hwf
   ·rw[aa] at h
    split at h
    ·injection h with h;subst h;exact rh hwf
    ·injection h with h;subst h;exact Gv λv g' h=>hi.call _ _ _ _ _ _ h hwf
  ·cases h
 ·split at h
  ·injection h with h;subst h;exact G_ he hi hwf
  ·cases h
 ·injection h with h;subst h;exact Mon.refl g
 ·split at h
  ·injection h with h;subst h;dsimp only
   split
   ·exact Mon.refl g
   ·split<;>exact Mon.refl g
  ·cases h
 ·split at h
  ·rename_i s hs;injection h with h;subst h;exact (we hs).mon hwf
  ·cases h
theorem gt (he:dx C)(hi:IHMon ih){op:Op}{d:Nat}{rd:Option Nat}{t:T}{g:G}(hwf:WF g) :
  Mon g (gOf g ((cy C op).run ih d rd t g)):=by
 unfold cy
 split
 ·rename_i f hf;exact K_ he hi hf hwf
 ·exact Mon.refl g
theorem zu {out:T->AV->T}{next:T->List ADf->G->CR}{t:T}{df:List ADf}{g:G}{r:OR}{e:Ex}{t':T}{df':List ADf}{g':G}
  (h:nf out next t df g r=.ok e t' df' g') (hwf:WF g) (hr:Mon g (gOf g r)) (hn:∀t df g1,next t df g1=.ok e t' df' g'->WF g1->Mon g1 g'):Mon g g':=by
 cases r with
 | fail=>cases h
 | val v=>exact hn _ _ _ h hwf
 | upd v g1=>exact hr.trans (hn _ _ _ h (hr.wf hwf))
 | dfr a=>exact hn _ _ _ h hwf
theorem xU (he:dx C)(hi:IHMon ih){nt:Nat}{all:List Oper}:∀{ops:List Oper} {d:Nat} {rd:Option Nat} {t:T} {df:List ADf} {g:G} {e:Ex} {t':T} {df':List ADf} {g':G},
  (il C nt all ops).run ih d rd t df g=.ok e t' df' g'->WF g->Mon g g':=by
 intro ops
 induction ops with
 | nil=>intro d rd t df g e t' df' g' h _;simp only[il] at h;injection h with _ _ _ h;subst h;exact Mon.refl _
 | cons o rest ihl =>
  intro d rd t df g e t' df' g' h hwf;simp only[il] at h
  split at h
  ·split at h
   ·exact zu h hwf (gt he hi hwf) λ_ _ _ h1 h2=>ihl h1 h2
   ·split at h
    ·dsimp only at h
     split at h
     ·exact zu h hwf (gt he hi hwf) λ_ _ _ h1 h2=>ihl h1 h2
     ·exact ihl h hwf
     ·cases h
    ·cases h
  ·cases h
theorem WF.setLog {g:G}{l:List Nat}(h:WF g):WF (aH g l):=λid hid=>by simp only[setLog_nx] at hid;simp only[setLog_h];exact h id hid
theorem Mon.bump {g:G}:Mon g (iU g g.lg) :=
 ⟨by simp,⟨[],by simp,λid _=>by simp,λ_ h=>absurd h List.not_mem_nil⟩,λh id hid=>by simp only[bumpG_nx] at hid;simp only[bumpG_h];exact h id (by omega)⟩
theorem Mon.relog {g g1:G}(h:Mon (aH g []) g1):Mon g (iU g1 (g1.lg++g.lg)):=by
 obtain ⟨n,a,b,c⟩:=h.new;have hnx:g.nx<=g1.nx:=by simpa using h.nx
 refine ⟨by simp;omega,⟨g1.lg,by simp,λid hid=>?_,λid hid=>?_⟩,λhw id hid=>?_⟩
 ·have e:g1.lg=n:=by simpa using a
  rw[e] at hid;have:=b id hid;simpa using this
 ·have e:g1.lg=n:=by simpa using a
  rw[e] at hid;have:=c id hid;simp only[setLog_h,setLog_nx] at this;exact ⟨by simp;omega,this.2⟩
 ·simp only[bumpG_nx] at hid;simp only[bumpG_h];exact h.wf (λk hk=>by simp only[setLog_nx] at hk;simp only[setLog_h];exact hw k hk) id (by omega)
theorem G8 (he:dx C)(hi:IHMon ih){nt:Nat}{pm:List Nat}{all:List Oper}:∀{ops:List Oper} {i d:Nat} {rd:Option Nat} {t:T} {df:List ADf} {g:G} {fs:List Foot} {e:Ex} {t':T} {df':List ADf} {g':G},
  (gm C nt pm all i ops).run ih d rd t df g fs=.ok e t' df' g'->WF g->Mon g g':=by
 intro ops
 induction ops with
 | nil =>
  intro i d rd t df g fs e t' df' g' h _;simp only[gm,aa] at h
  split at h
  ·injection h with _ _ _ h;subst h;exact Mon.refl _
  ·cases h
 | cons o rest ihl =>
  intro i d rd t df g fs e t' df' g' h hwf;simp only[gm] at h
  split at h
  ·dsimp only at h
   split at h
   ·have hm:=gt (op:=o.op) (d:=d) (rd:=rd) (t:=t) he hi (hwf.setLog (l:=[]));generalize (cy C o.op).run ih d rd t (aH g [])=r at h hm;cases r with
    | fail=>cases h
    | val v=>exact Mon.bump.trans (ihl h (Mon.bump.wf hwf))
    | upd v g1 =>
     have m1:=Mon.relog hm;exact m1.trans (ihl h (m1.wf hwf))
    | dfr a=>cases h
   ·exact ihl h hwf
   ·cases h
  ·cases h
theorem Cv (he:dx C)(hi:IHMon ih){nt:Nat}{ops:List Oper}{draw:Bool}{d:Nat}{rd:Option Nat}{t:T}{df:List ADf}{g:G}{e:Ex}{t':T}{df':List ADf}{g':G}
  (h:(eE C nt ops draw).run ih d rd t df g=.ok e t' df' g') (hwf:WF g):Mon g g':=by
 unfold eE at h;rw[aa] at h
 split at h
 ·rw[aa] at h
  split at h
  ·rw[aa] at h
   split at h
   ·dsimp only at h;unfold lG at h
    split at h
    ·split at h
     ·rw[aa] at h
      split at h
      ·injection h with _ _ _ h;subst h;exact Mon.refl _
      ·cases h
     ·cases h
    ·cases h
   ·exact G8 he hi h hwf
  ·cases h
 ·exact xU he hi h hwf
theorem uL (hi:IHMon ih){nt d:Nat}{rd:Option Nat}{id:Nat}{t:T}{df:List ADf}{g:G}{e:Ex}{t':T}{df':List ADf}{g':G}
  (h:dt ih nt d rd id t df g=.ok e t' df' g') (hwf:WF g):Mon g g':=by
 unfold dt at h
 split at h
 ·rename_i hget;have hne:g.h.get id≠.none:=by rw[<-G.get_eq,hget];simp
  have m:∀o,Mon g (g.put id o):=λo=>Mon.put hwf hne
  split at h
  ·cases h
  ·split at h
   ·injection h with _ _ _ h;subst h;exact m _
   ·exact (m _).trans (hi.code _ _ _ _ _ _ _ _ _ _ _ h ((m _).wf hwf))
 ·cases h
theorem m7 (hi:IHMon ih){nt d:Nat}{rd:Option Nat}{fv:AV}{ps:List Nat}{assign body:Code}{t:T}{df:List ADf}{dfr:Nat}{g:G}{e:Ex}{t':T}{df':List ADf}{g':G}
  (h:cw C ih nt d rd fv ps assign body t df dfr g=.ok e t' df' g') (hwf:WF g):Mon g g':=by
 unfold cw at h
 split at h
 ·rw[aa] at h
  split at h
  ·cases h
  ·split at h
   ·rename_i v g2 h2;have m1:Mon g (g.new (.loop nt t ps assign body dfr .ready none)):=Mon.mk';have m2:=hi.call _ _ _ _ _ _ h2 (m1.wf hwf);have m3:=m1.trans m2;exact m3.trans (uL hi h (m3.wf hwf))
   ·cases h
 ·cases h
theorem EX (hi:IHMon ih){nt d:Nat}{rd:Option Nat}{fo:T->AV}{ps:List Nat}{assign body:Code}{t:T}{df:List ADf}{g:G}{e:Ex}{t':T}{df':List ADf}{g':G}
  (h:lH C nt fo ps assign body ih d rd t df g=.ok e t' df' g') (hwf:WF g):Mon g g':=by
 unfold lH at h
 split at h
 ·split at h
  ·exact m7 hi h hwf
  ·cases h
 ·have m1:Mon g (g.new (.dfr true)):=Mon.mk';exact m1.trans (m7 hi h (m1.wf hwf))
theorem ij (he:dx C)(hi:IHMon ih){nt:Nat}:∀(c:Code) {d:Nat} {rd:Option Nat} {t:T} {df:List ADf} {g:G} {e:Ex} {t':T} {df':List ADf} {g':G},
  (aJ C nt c).run ih d rd t df g=.ok e t' df' g'->WF g->Mon g g':=by
 intro c;have now:∀{e e':Ex} {t t':T} {df df':List ADf} {g g':G},CR.ok e' t df g=.ok e t' df' g'->Mon g g':=by intro e e' t t' df df' g g' h;injection h with _ _ _ h;subst h;exact Mon.refl _
 induction c with
 | skip=>intro d rd t df g e t' df' g' h _;exact now h
 | label l=>intro d rd t df g e t' df' g' h _;exact now h
 | region id ops draw=>intro d rd t df g e t' df' g' h hwf;exact Cv he hi h hwf
 | seq a b iha ihb =>
  intro d rd t df g e t' df' g' h hwf;simp only[aJ] at h;generalize hr:(aJ C nt a).run ih d rd t df g=r at h;cases r with
  | fail=>cases h
  | ok e1 t1 df1 g1 =>
   have m1:=iha hr hwf;cases e1 with
   | norm=>exact m1.trans (ihb h (m1.wf hwf))
   | exit j=>exact m1.trans (now h)
   | ret=>exact m1.trans (now h)
 | cond c a b iha ihb =>
  intro d rd t df g e t' df' g' h hwf;simp only[aJ] at h
  split at h
  ·dsimp only at h
   split at h
   ·rw[aa] at h
    split at h
    ·exact iha h hwf
    ·exact ihb h hwf
   ·cases h
  ·cases h
 | block id body ihb =>
  intro d rd t df g e t' df' g' h hwf;simp only[aJ] at h;generalize hr:(aJ C nt body).run ih d rd t df g=r at h;cases r with
  | fail=>cases h
  | ok e1 t1 df1 g1 =>
   have m1:=ihb hr hwf;cases e1 with
   | norm=>exact m1.trans (now h)
   | exit j =>
    simp only[sV,aa] at h
    split at h
    ·exact m1.trans (now h)
    ·exact m1.trans (now h)
   | ret=>exact m1.trans (now h)
 | loop body ihb =>
  intro d rd t df g e t' df' g' h hwf;simp only[aJ] at h;generalize hr:(aJ C nt body).run ih d rd t df g=r at h;cases r with
  | fail=>cases h
  | ok e1 t1 df1 g1 =>
   have m1:=ihb hr hwf;cases e1 with
   | norm=>exact m1.trans (hi.code _ _ _ _ _ _ _ _ _ _ _ h (m1.wf hwf))
   | exit j=>exact m1.trans (now h)
   | ret=>exact m1.trans (now h)
 | scope body ihb=>intro d rd t df g e t' df' g' h hwf;exact ihb h hwf
 | exit id=>intro d rd t df g e t' df' g' h _;exact now h
 | ret=>intro d rd t df g e t' df' g' h _;exact now h
 | rangeFunc f ps assign body _ _ =>
  intro d rd t df g e t' df' g' h hwf;simp only[aJ] at h
  split at h
  ·exact EX hi h hwf
  ·cases h
 | _=>intro d rd t df g e t' df' g' h _;cases h
theorem jY (hi:IHMon ih){d:Nat}:∀{df:List ADf} {g g':G},eN ih d df g=some g'->WF g->Mon g g':=by
 intro df
 induction df with
 | nil=>intro g g' h _;simp only[eN] at h;injection h with h;subst h;exact Mon.refl _
 | cons a df ihl =>
  intro g g' h hwf;cases a with
  | mark id =>
   simp only[eN] at h
   split at h
   ·rename_i hget;have m:Mon g (g.put id (.dfr false)):=Mon.put hwf (by rw[<-G.get_eq,hget];simp);exact m.trans (ihl h (m.wf hwf))
   ·cases h
  | call f args =>
   cases f<;>simp only[eN] at h<;>first | (cases h;done) | skip
   split at h
   ·rename_i v g1 h1;have m:=hi.call _ _ _ _ _ _ h1 hwf;exact m.trans (ihl h (m.wf hwf))
   ·cases h
theorem K8 (he:dx C)(hi:IHMon ih){f:Nat}{x:Stg (IH->Nat->List AV->G->FR)}(hx:cFn C f=some x){d:Nat}{args:List AV}{g:G}{v:AV}{g':G}
  (h:x.run ih d args g=.ok v g') (hwf:WF g):Mon g g':=by
 unfold cFn at hx
 split at hx
 ·cases hx
 split at hx
 ·cases hx
 split at hx
 ·rw[aa] at hx
  split at hx
  ·cases hx
  injection hx with hx;subst hx;dsimp only at h;rw[aa] at h
  split at h
  ·split at h
   ·cases h
   ·rename_i hc;have m1:=ij he hi _ hc hwf;unfold cD at h
    split at h
    ·cases h
    ·rename_i g2 h2;have m2:=jY hi h2 (m1.wf hwf)
     split at h
     ·injection h with _ h;subst h;exact m1.trans m2
     ·cases h
   ·cases h
  ·cases h
 ·cases hx
theorem xD (he:dx C):∀n,IHMon (sem C n):=by
 intro n
 induction n with
 | zero=>exact ⟨λnt d rd c t df g e t' df' g' h=>(by cases h),λd f as g v g' h=>(by cases h)⟩
 | succ n ihn =>
  refine ⟨λnt d rd c t df g e t' df' g' h hwf=>ij he ihn c h hwf,λd f as g v g' h hwf=>?_⟩;change dJ C (sem C n) d f as g=.ok v g' at h;unfold dJ at h
  split at h
  ·rename_i x hx;exact K8 he ihn hx h hwf
  ·cases h
end
end Hx
end
section
namespace Hx
open Go
def CLe (a b:CR):Prop:=a=.fail\/a=b
def FLe (a b:FR):Prop:=a=.fail\/a=b
def OLe (a b:OR):Prop:=a=.fail\/a=b
structure IHLe (i j:IH):Prop where
 code:∀nt d rd c t df g,CLe (i.code nt d rd c t df g) (j.code nt d rd c t df g)
 call:∀d f as g,FLe (i.call d f as g) (j.call d f as g)
variable {i j:IH}
theorem yN (h:IHLe i j){d:Nat}{g:G}{f:Nat}{args:List AV}:OLe (af i d g f args) (af j d g f args):=by
 unfold af
 split
 ·exact .inl rfl
 ·rename_i as _;rcases h.call (Nat.succ d) f as G.empty with e | e<;>rw[e]
  ·exact .inl rfl
  ·exact .inr rfl
theorem HP (h:IHLe i j){d id:Nat}{args:List AV}{g:G}:OLe (cI i d id args g) (cI j d id args g):=by
 unfold cI
 split
 ·split
  ·exact .inl rfl
  ·rename_i nt t ps assign body dfr st pend hg o t' ht;rcases h.code nt d (some id) assign t' [] g with e | e<;>rw[e]
   ·exact .inl rfl
   ·split
    ·split
     ·rename_i t1 g1 _ _ nt1 t2 ps2 assign1 body1 dfr1 pend1 _;rcases h.code nt d (some id) body t1 [] (g1.put id (.loop nt1 t2 ps2 assign1 body1 dfr1 .busy pend1)) with e | e<;>rw[e]
      ·exact .inl rfl
      ·exact .inr rfl
     ·exact .inl rfl
    ·exact .inl rfl
 ·exact .inl rfl
theorem JH {a b:FR}(h:FLe a b):OLe (orF a) (orF b):=by
 rcases h with h | h<;>rw[h]
 ·exact .inl rfl
 ·exact .inr rfl
theorem Il {C:Cfg}(h:IHLe i j){d:Nat}{fv:AV}{vs:List AV}{g:G}:OLe (j7 C i d fv vs g) (j7 C j d fv vs g):=by
 unfold j7
 split
 ·split
  ·exact .inr rfl
  ·rw[aa,aa]
   split
   ·exact yN h
   ·exact JH (h.call _ _ _ _)
 ·exact HP h
 ·exact .inl rfl
theorem A5 {out:T->AV->T}{n m:T->List ADf->G->CR}{t:T}{df:List ADf}{g:G}{a b:OR}(h:OLe a b)(hn:∀t df g,CLe (n t df g) (m t df g)) :
  CLe (nf out n t df g a) (nf out m t df g b):=by
 rcases h with h | h<;>rw[h]
 ·exact .inl rfl
 ·cases b with
  | fail=>exact .inl rfl
  | val v=>exact hn _ _ _
  | upd v g'=>exact hn _ _ _
  | dfr a=>exact hn _ _ _
theorem D6 {out:T->AV->T}{n m:T->List ADf->G->List Foot->CR}{t:T}{df:List ADf}{g:G}{fs:List Foot}{lk:Looks}{a b:OR}(h:OLe a b)
  (hn:∀t df g fs,CLe (n t df g fs) (m t df g fs)):CLe (jj out n t df g fs lk a) (jj out m t df g fs lk b):=by
 rcases h with h | h<;>rw[h]
 ·exact .inl rfl
 ·cases b with
  | fail=>exact .inl rfl
  | val v=>exact hn _ _ _ _
  | upd v g'=>exact hn _ _ _ _
  | dfr a=>exact .inl rfl
theorem GK {n m:T->List ADf->G->CR}{a b:CR}(h:CLe a b)(hn:∀t df g,CLe (n t df g) (m t df g)):CLe (Ae n a) (Ae m b):=by
 rcases h with h | h<;>rw[h]
 ·exact .inl rfl
 ·unfold Ae
  split
  ·exact hn _ _ _
  ·exact .inr rfl
theorem G7 {id:Nat}{a b:CR}(h:CLe a b):CLe (sV id a) (sV id b):=by
 rcases h with h | h<;>rw[h]
 ·exact .inl rfl
 ·exact .inr rfl
theorem Dy {g:G}{a b:CR}(h:CLe a b):CLe (lG g a) (lG g b):=by
 rcases h with h | h<;>rw[h]
 ·exact .inl rfl
 ·exact .inr rfl
theorem Nb {C:Cfg}(h:IHLe i j){op:Op}{x:Stg Ia}(hx:cOp C op=some x){d:Nat}{rd:Option Nat}{t:T}{g:G}:OLe (x.run i d rd t g) (x.run j d rd t g):=by
 unfold cOp at hx
 repeat' (first | split at hx | rw[aa] at hx)
 all_goals first
  | (cases hx;done)
  | (injection hx with hx;subst hx;first | exact .inr rfl | exact yN h | exact JH (h.call _ _ _ _) | exact Il h)
theorem Bj {C:Cfg}(h:IHLe i j){op:Op}{d:Nat}{rd:Option Nat}{t:T}{g:G}:OLe ((cy C op).run i d rd t g) ((cy C op).run j d rd t g):=by
 unfold cy
 split
 ·rename_i x hx;exact Nb h hx
 ·exact .inl rfl
theorem t_ {C:Cfg}(h:IHLe i j){nt:Nat}{all:List Oper}:∀(l:List Oper) (d:Nat) (rd:Option Nat) (t:T) (df:List ADf) (g:G),
  CLe ((il C nt all l).run i d rd t df g) ((il C nt all l).run j d rd t df g)
 | [],_,_,_,_,_=>.inr rfl
 | o::rest,d,rd,t,df,g=>by
  unfold il
  split
  ·split
   ·exact A5 (Bj h) λt df g=>t_ h rest d rd t df g
   ·split
    ·dsimp only
     split
     ·exact A5 (Bj h) λt df g=>t_ h rest d rd t df g
     ·exact t_ h rest d rd _ df g
     ·exact .inl rfl
    ·exact .inl rfl
  ·exact .inl rfl
theorem xT {C:Cfg}(h:IHLe i j){nt:Nat}{pm:List Nat}{all:List Oper}:∀(l:List Oper) (k d:Nat) (rd:Option Nat) (t:T) (df:List ADf) (g:G) (fs:List Foot),
  CLe ((gm C nt pm all k l).run i d rd t df g fs) ((gm C nt pm all k l).run j d rd t df g fs)
 | [],_,_,_,_,_,_,_=>.inr rfl
 | o::rest,k,d,rd,t,df,g,fs=>by
  unfold gm
  split
  ·dsimp only
   split
   ·exact D6 (Bj h) λt df g fs=>xT h rest (k+1) d rd t df g fs
   ·exact xT h rest (k+1) d rd _ df g _
   ·exact .inl rfl
  ·exact .inl rfl
theorem Eo {C:Cfg}(h:IHLe i j){nt:Nat}{ops:List Oper}{draw:Bool}{d:Nat}{rd:Option Nat}{t:T}{df:List ADf}{g:G} :
  CLe ((eE C nt ops draw).run i d rd t df g) ((eE C nt ops draw).run j d rd t df g):=by
 unfold eE;rw[aa,aa,aa]
 split
 ·split
  ·split
   ·exact Dy (t_ h _ _ _ _ _ _)
   ·exact xT h _ _ _ _ _ _ _ _
  ·exact .inl rfl
 ·exact t_ h _ _ _ _ _ _
theorem DC (h:IHLe i j){nt d:Nat}{rd:Option Nat}{id:Nat}{t:T}{df:List ADf}{g:G}:CLe (dt i nt d rd id t df g) (dt j nt d rd id t df g):=by
 unfold dt
 split
 ·split
  ·exact .inl rfl
  ·split
   ·exact .inr rfl
   ·exact h.code _ _ _ _ _ _ _
 ·exact .inl rfl
theorem uK {C:Cfg}(h:IHLe i j){nt d:Nat}{rd:Option Nat}{fv:AV}{ps:List Nat}{assign body:Code}{t:T}{df:List ADf}{dfr:Nat}{g:G} :
  CLe (cw C i nt d rd fv ps assign body t df dfr g) (cw C j nt d rd fv ps assign body t df dfr g):=by
 unfold cw
 split
 ·rename_i f first cap
  rw[aa,aa]
  split
  ·exact .inl rfl
  ·rcases h.call d f (first++(.yld g.nx::cap)) (g.new (.loop nt t ps assign body dfr .ready none)) with e | e<;>rw[e]
   ·exact .inl rfl
   ·split
    ·exact DC h
    ·exact .inl rfl
 ·exact .inl rfl
theorem HJ {C:Cfg}(h:IHLe i j){nt:Nat}{fo:T->AV}{ps:List Nat}{assign body:Code}{d:Nat}{rd:Option Nat}{t:T}{df:List ADf}{g:G} :
  CLe (lH C nt fo ps assign body i d rd t df g) (lH C nt fo ps assign body j d rd t df g):=by
 unfold lH
 split
 ·split
  ·exact uK h
  ·exact .inl rfl
 ·exact uK h
theorem Cr {C:Cfg}(h:IHLe i j){nt:Nat}:∀(c:Code) (d:Nat) (rd:Option Nat) (t:T) (df:List ADf) (g:G),
  CLe ((aJ C nt c).run i d rd t df g) ((aJ C nt c).run j d rd t df g):=by
 intro c
 induction c with
 | seq a b iha ihb=>intro d rd t df g;unfold aJ;exact GK (iha _ _ _ _ _) λt df g=>ihb _ _ _ _ _
 | cond q a b iha ihb =>
  intro d rd t df g;unfold aJ
  split
  ·dsimp only
   split
   ·rw[aa,aa]
    split
    ·exact iha _ _ _ _ _
    ·exact ihb _ _ _ _ _
   ·exact .inl rfl
  ·exact .inl rfl
 | block id body ih=>intro d rd t df g;unfold aJ;exact G7 (ih _ _ _ _ _)
 | loop body ih=>intro d rd t df g;unfold aJ;exact GK (ih _ _ _ _ _) λt df g=>h.code _ _ _ _ _ _ _
 | scope body ih=>intro d rd t df g;unfold aJ;exact ih _ _ _ _ _
 | region p ops draw=>intro d rd t df g;unfold aJ;exact Eo h
 | rangeFunc f ps assign body _ _ =>
  intro d rd t df g;unfold aJ
  split
  ·exact HJ h
  ·exact .inl rfl
 | _=>intro d rd t df g;first | exact .inr rfl | exact .inl rfl
def ULe (a b:Option G):Prop:=a=none\/a=b
theorem Kd (h:IHLe i j){d:Nat}:∀(l:List ADf) (g:G),ULe (eN i d l g) (eN j d l g):=by
 intro l
 induction l with
 | nil=>intro g;exact .inr rfl
 | cons a l ih =>
  intro g;cases a with
  | mark id =>
   simp only[eN]
   split
   ·exact ih _
   ·exact .inl rfl
  | call fv args =>
   cases fv with
   | clo f first cap =>
    simp only[eN];rcases h.call d f (first++(args++cap)) g with e | e<;>rw[e]
    ·exact .inl rfl
    ·split
     ·exact ih _
     ·exact .inl rfl
   | _=>exact .inl rfl
theorem Ew (h:IHLe i j){d:Nat}{res:T->G->Option (List AV)}{t:T}{df:List ADf}{g:G}:FLe (cD i d res t df g) (cD j d res t df g):=by
 unfold cD;rcases Kd h (d:=d) df g with e | e<;>rw[e]
 ·exact .inl rfl
 ·exact .inr rfl
theorem Cx {C:Cfg}(h:IHLe i j){d f:Nat}{args:List AV}{g:G}:FLe (dJ C i d f args g) (dJ C j d f args g):=by
 unfold dJ
 split
 ·rename_i x hx;unfold cFn at hx
  split at hx
  ·cases hx
  rename_i fn hfn
  split at hx
  ·cases hx
  rename_i c hbody
  split at hx
  rotate_left
  ·cases hx
  rename_i r hres;rw[aa] at hx
  split at hx
  ·cases hx
  injection hx with hx;subst hx;dsimp only;rw[aa,aa]
  split
  ·rcases Cr h (C:=C) (nt:=fn.ntmps) c d none (bK 0 args .nil) [] g with e | e<;>rw[e]
   ·exact .inl rfl
   ·split
    ·exact .inl rfl
    ·exact Ew h
    ·exact .inl rfl
  ·exact .inl rfl
 ·exact .inl rfl
theorem H3 {C:Cfg}(h:IHLe i j):IHLe (Fe C i) (Fe C j) :=
 ⟨λnt d rd c t df g=>Cr h c d rd t df g,λd f as g=>Cx h⟩
theorem wJ (C:Cfg):∀n,IHLe (sem C n) (sem C (n+1))
 | 0=>⟨λ_ _ _ _ _ _ _=>.inl rfl,λ_ _ _ _=>.inl rfl⟩
 | n+1=>H3 (wJ C n)
theorem Ki (C:Cfg){n m:Nat}(h:n<=m):IHLe (sem C n) (sem C m):=by
 induction h with
 | refl=>exact ⟨λ_ _ _ _ _ _ _=>.inr rfl,λ_ _ _ _=>.inr rfl⟩
 | @step k h ih =>
  have s:=wJ C k;refine ⟨λnt d rd c t df g=>?_,λd f as g=>?_⟩
  ·rcases ih.code nt d rd c t df g with e | e
   ·exact .inl e
   ·rw[e];exact s.code _ _ _ _ _ _ _
  ·rcases ih.call d f as g with e | e
   ·exact .inl e
   ·rw[e];exact s.call _ _ _ _
end Hx
end
section
namespace Hx
open Go
open Classical in
noncomputable def I (C:Cfg):IH :=
 ⟨λnt d rd c t df g=>if h:∃n,(sem C n).code nt d rd c t df g≠.fail then (sem C (Classical.choose h)).code nt d rd c t df g else .fail,
  λd f as g=>if h:∃n,(sem C n).call d f as g≠.fail then (sem C (Classical.choose h)).call d f as g else .fail⟩
def Ct (C:Cfg){α:Type}(F:IH->α):Prop:=∃n,∀m,n<=m->F (sem C m)=F (I C)
variable {C:Cfg}
theorem Ct.const {α:Type}(a:α):Ct C (λ_=>a):=⟨0,λ_ _=>rfl⟩
theorem Ct.bind {α β:Type}{F:IH->α}{K:IH->α->β}(h:Ct C F)(hk:Ct C λj=>K j (F (I C))):Ct C λj=>K j (F j):=by obtain ⟨n,h⟩:=h;obtain ⟨m,hk⟩:=hk;refine ⟨max n m,λk hm=>?_⟩;have h1:=h k (by omega);have h2:=hk k (by omega);simp only[h1];exact h2
theorem Ct.map {α β:Type}{F:IH->α}(K:α->β)(h:Ct C F):Ct C λj=>K (F j):=Ct.bind (K:=λ_=>K) h (.const _)
theorem Ct.code (nt d:Nat)(rd:Option Nat)(c:Code)(t:T)(df:List ADf)(g:G):Ct C λj=>j.code nt d rd c t df g:=by
 by_cases h:∃n,(sem C n).code nt d rd c t df g≠.fail
 ·refine ⟨Classical.choose h,λm hm=>?_⟩;have hs:=Classical.choose_spec h;have e:(I C).code nt d rd c t df g=(sem C (Classical.choose h)).code nt d rd c t df g:=dif_pos h;show _=(I C).code nt d rd c t df g;rw[e];rcases (Ki C hm).code nt d rd c t df g with q | q
  ·exact absurd q hs
  ·exact q.symm
 ·refine ⟨0,λm _=>?_⟩;have e:(I C).code nt d rd c t df g=.fail:=dif_neg h;show _=(I C).code nt d rd c t df g;rw[e];exact Classical.byContradiction λq=>h ⟨m,q⟩
theorem Ct.call (d f:Nat)(as:List AV)(g:G):Ct C λj=>j.call d f as g:=by
 by_cases h:∃n,(sem C n).call d f as g≠.fail
 ·refine ⟨Classical.choose h,λm hm=>?_⟩;have hs:=Classical.choose_spec h;have e:(I C).call d f as g=(sem C (Classical.choose h)).call d f as g:=dif_pos h;show _=(I C).call d f as g;rw[e];rcases (Ki C hm).call d f as g with q | q
  ·exact absurd q hs
  ·exact q.symm
 ·refine ⟨0,λm _=>?_⟩;have e:(I C).call d f as g=.fail:=dif_neg h;show _=(I C).call d f as g;rw[e];exact Classical.byContradiction λq=>h ⟨m,q⟩
theorem s_ {d:Nat}{g:G}{f:Nat}{args:List AV}:Ct C λj=>af j d g f args:=by
 unfold af
 split
 ·exact .const _
 ·rename_i as _;obtain ⟨n,h⟩:=Ct.call (C:=C) (Nat.succ d) f as G.empty;exact ⟨n,λm hm=>by
   have e:(sem C m).call (Nat.succ d) f as G.empty=(I C).call (Nat.succ d) f as G.empty:=h m hm;simp only[e]⟩
theorem Hh {d id:Nat}{args:List AV}{g:G}:Ct C λj=>cI j d id args g:=by
 unfold cI
 split
 ·split
  ·exact .const _
  ·rename_i nt t ps assign body dfr st pend hg o t' ht;refine Ct.bind (K:=λj r=>match r with
    | .ok .norm t1 [] g1=>match g1.get id with
     | .loop nt1 t ps assign1 body1 dfr .ready pend =>
      match j.code nt d (some id) body t1 [] (g1.put id (.loop nt1 t ps assign1 body1 dfr .busy pend)) with
      | .ok e _ [] g2=>match g2.get id with
       | .loop nt t ps assign body dfr _ _=>match e with
        | .norm=>OR.upd (.bool true) (g2.put id (.loop nt t ps assign body dfr .ready none))
        | .exit j=>.upd (.bool false) (g2.put id (.loop nt t ps assign body dfr .done (some (.exit j))))
        | .ret=>.upd (.bool false) (g2.put id (.loop nt t ps assign body dfr .done (some .ret)))
       | _=>.fail
      | _=>.fail
     | _=>.fail
    | _=>.fail) (Ct.code nt d (some id) assign t' [] g) ?_
   split
   ·split
    ·rename_i t1 g1 _ _ nt1 t2 ps2 assign1 body1 dfr1 pend1 _;exact Ct.map (λr=>match r with
      | .ok e _ [] g2=>match g2.get id with
       | .loop nt t ps assign body dfr _ _=>match e with
        | .norm=>OR.upd (.bool true) (g2.put id (.loop nt t ps assign body dfr .ready none))
        | .exit j=>.upd (.bool false) (g2.put id (.loop nt t ps assign body dfr .done (some (.exit j))))
        | .ret=>.upd (.bool false) (g2.put id (.loop nt t ps assign body dfr .done (some .ret)))
       | _=>.fail
      | _=>.fail) (Ct.code nt d (some id) body t1 [] (g1.put id (.loop nt1 t2 ps2 assign1 body1 dfr1 .busy pend1)))
    ·exact .const _
   ·exact .const _
 ·exact .const _
theorem Iu {d:Nat}{fv:AV}{vs:List AV}{g:G}:Ct C λj=>j7 C j d fv vs g:=by
 unfold j7
 split
 ·split
  ·exact .const _
  ·simp only[aa]
   split
   ·exact s_
   ·exact Ct.map orF (Ct.call _ _ _ _)
 ·exact Hh
 ·exact .const _
theorem Ng {op:Op}{x:Stg Ia}(hx:cOp C op=some x){d:Nat}{rd:Option Nat}{t:T}{g:G}:Ct C λj=>x.run j d rd t g:=by
 unfold cOp at hx
 repeat' (first | split at hx | rw[aa] at hx)
 all_goals first
  | (cases hx;done)
  | (injection hx with hx;subst hx;first | exact Ct.const _ | exact s_ | exact Ct.map orF (Ct.call _ _ _ _) | exact Iu)
theorem Bl {op:Op}{d:Nat}{rd:Option Nat}{t:T}{g:G}:Ct C λj=>(cy C op).run j d rd t g:=by
 unfold cy
 split
 ·rename_i x hx;exact Ng hx
 ·exact .const _
theorem Av {out:T->AV->T}{n:IH->T->List ADf->G->CR}{t:T}{df:List ADf}{g:G}{a:IH->OR}(h:Ct C a)(hn:∀t df g,Ct C λj=>n j t df g) :
  Ct C λj=>nf out (n j) t df g (a j):=by
 refine Ct.bind (K:=λj r=>nf out (n j) t df g r) h ?_;cases a (I C) with
 | fail=>exact .const _
 | val v=>exact hn _ _ _
 | upd v g'=>exact hn _ _ _
 | dfr a=>exact hn _ _ _
theorem CC {out:T->AV->T}{n:IH->T->List ADf->G->List Foot->CR}{t:T}{df:List ADf}{g:G}{fs:List Foot}{lk:Looks}{a:IH->OR}(h:Ct C a)
  (hn:∀t df g fs,Ct C λj=>n j t df g fs):Ct C λj=>jj out (n j) t df g fs lk (a j):=by
 refine Ct.bind (K:=λj r=>jj out (n j) t df g fs lk r) h ?_;cases a (I C) with
 | fail=>exact .const _
 | val v=>exact hn _ _ _ _
 | upd v g'=>exact hn _ _ _ _
 | dfr a=>exact .const _
theorem FQ {n:IH->T->List ADf->G->CR}{a:IH->CR}(h:Ct C a)(hn:∀t df g,Ct C λj=>n j t df g):Ct C λj=>Ae (n j) (a j):=by
 refine Ct.bind (K:=λj r=>Ae (n j) r) h ?_;unfold Ae
 split
 ·exact hn _ _ _
 ·exact .const _
theorem ui {nt:Nat}{all:List Oper}:∀(l:List Oper) (d:Nat) (rd:Option Nat) (t:T) (df:List ADf) (g:G),Ct C λj=>(il C nt all l).run j d rd t df g
 | [],_,_,_,_,_=>.const _
 | o::rest,d,rd,t,df,g=>by
  unfold il
  split
  ·split
   ·exact Av Bl λt df g=>ui rest d rd t df g
   ·split
    ·dsimp only
     split
     ·exact Av Bl λt df g=>ui rest d rd t df g
     ·exact ui rest d rd _ df g
     ·exact .const _
    ·exact .const _
  ·exact .const _
theorem yh {nt:Nat}{pm:List Nat}{all:List Oper}:∀(l:List Oper) (k d:Nat) (rd:Option Nat) (t:T) (df:List ADf) (g:G) (fs:List Foot),
  Ct C λj=>(gm C nt pm all k l).run j d rd t df g fs
 | [],_,_,_,_,_,_,_=>.const _
 | o::rest,k,d,rd,t,df,g,fs=>by
  unfold gm
  split
  ·dsimp only
   split
   ·exact CC Bl λt df g fs=>yh rest (k+1) d rd t df g fs
   ·exact yh rest (k+1) d rd _ df g _
   ·exact .const _
  ·exact .const _
theorem Es {nt:Nat}{ops:List Oper}{draw:Bool}{d:Nat}{rd:Option Nat}{t:T}{df:List ADf}{g:G}:Ct C λj=>(eE C nt ops draw).run j d rd t df g:=by
 unfold eE;simp only[aa]
 split
 ·split
  ·split
   ·exact Ct.map (lG g) (ui _ _ _ _ _ _)
   ·exact yh _ _ _ _ _ _ _ _
  ·exact .const _
 ·exact ui _ _ _ _ _ _
theorem CB {nt d:Nat}{rd:Option Nat}{id:Nat}{t:T}{df:List ADf}{g:G}:Ct C λj=>dt j nt d rd id t df g:=by
 unfold dt
 split
 ·split
  ·exact .const _
  ·split
   ·exact .const _
   ·exact Ct.code _ _ _ _ _ _ _
 ·exact .const _
theorem uj {nt d:Nat}{rd:Option Nat}{fv:AV}{ps:List Nat}{assign body:Code}{t:T}{df:List ADf}{dfr:Nat}{g:G} :
  Ct C λj=>cw C j nt d rd fv ps assign body t df dfr g:=by
 unfold cw
 split
 ·rename_i f first cap
  simp only[aa]
  split
  ·exact .const _
  ·refine Ct.bind (K:=λj r=>match r with | .ok _ g2=>dt j nt d rd g.nx t df g2 | .fail=>.fail) (Ct.call d f (first++(.yld g.nx::cap)) (g.new (.loop nt t ps assign body dfr .ready none))) ?_
   split
   ·exact CB
   ·exact .const _
 ·exact .const _
theorem Hg {nt:Nat}{fo:T->AV}{ps:List Nat}{assign body:Code}{d:Nat}{rd:Option Nat}{t:T}{df:List ADf}{g:G}:Ct C λj=>lH C nt fo ps assign body j d rd t df g:=by
 unfold lH
 split
 ·split
  ·exact uj
  ·exact .const _
 ·exact uj
theorem Cz {nt:Nat}:∀(c:Code) (d:Nat) (rd:Option Nat) (t:T) (df:List ADf) (g:G),Ct C λj=>(aJ C nt c).run j d rd t df g:=by
 intro c
 induction c with
 | seq a b iha ihb=>intro d rd t df g;unfold aJ;exact FQ (iha _ _ _ _ _) λt df g=>ihb _ _ _ _ _
 | cond q a b iha ihb =>
  intro d rd t df g;unfold aJ
  split
  ·dsimp only
   split
   ·simp only[aa]
    split
    ·exact iha _ _ _ _ _
    ·exact ihb _ _ _ _ _
   ·exact .const _
  ·exact .const _
 | block id body ih=>intro d rd t df g;unfold aJ;exact Ct.map (sV id) (ih _ _ _ _ _)
 | loop body ih=>intro d rd t df g;unfold aJ;exact FQ (ih _ _ _ _ _) λt df g=>Ct.code _ _ _ _ _ _ _
 | scope body ih=>intro d rd t df g;unfold aJ;exact ih _ _ _ _ _
 | region p ops draw=>intro d rd t df g;unfold aJ;exact Es
 | rangeFunc f ps assign body _ _ =>
  intro d rd t df g;unfold aJ
  split
  ·exact Hg
  ·exact .const _
 | _=>intro d rd t df g;exact .const _
theorem Iv {d:Nat}:∀(l:List ADf) (g:G),Ct C λj=>eN j d l g:=by
 intro l
 induction l with
 | nil=>intro g;exact .const _
 | cons a l ih =>
  intro g;cases a with
  | mark id =>
   simp only[eN]
   split
   ·exact ih _
   ·exact .const _
  | call fv args =>
   cases fv with
   | clo f first cap =>
    simp only[eN];refine Ct.bind (K:=λj r=>match r with | .ok _ g'=>eN j d l g' | .fail=>none) (Ct.call d f (first++(args++cap)) g) ?_
    split
    ·exact ih _
    ·exact .const _
   | _=>exact .const _
theorem Et {d:Nat}{res:T->G->Option (List AV)}{t:T}{df:List ADf}{g:G}:Ct C λj=>cD j d res t df g:=by unfold cD;exact Ct.map (λr=>match r with | none=>FR.fail | some g'=>match res t g' with | some vs=>.ok (jc vs) g' | none=>.fail) (Iv df g)
theorem CA {d f:Nat}{args:List AV}{g:G}:Ct C λj=>dJ C j d f args g:=by
 unfold dJ
 split
 ·rename_i x hx;unfold cFn at hx
  split at hx
  ·cases hx
  rename_i fn hfn
  split at hx
  ·cases hx
  rename_i c hbody
  split at hx
  rotate_left
  ·cases hx
  rename_i r hres;rw[aa] at hx
  split at hx
  ·cases hx
  injection hx with hx;subst hx;dsimp only;simp only[aa]
  split
  ·refine Ct.bind (K:=λj q=>match q with | .ok (.exit _) _ _ _=>FR.fail | .ok _ t df g'=>cD j d r.run t df g' | .fail=>.fail) (Cz c d none (bK 0 args .nil) [] g) ?_
   split
   ·exact .const _
   ·exact Et
   ·exact .const _
  ·exact .const _
 ·exact .const _
theorem Eb (nt d:Nat)(rd:Option Nat)(c:Code)(t:T)(df:List ADf)(g:G):(I C).code nt d rd c t df g=(aJ C nt c).run (I C) d rd t df g:=by obtain ⟨n,h⟩:=Cz (C:=C) (nt:=nt) c d rd t df g;obtain ⟨m,h'⟩:=Ct.code (C:=C) nt d rd c t df g;have h1:=h (max n m) (by omega);have h2:=h' (max n m+1) (by omega);exact h2.symm.trans h1
theorem M6 (d f:Nat)(as:List AV)(g:G):(I C).call d f as g=dJ C (I C) d f as g:=by obtain ⟨n,h⟩:=CA (C:=C) (d:=d) (f:=f) (args:=as) (g:=g);obtain ⟨m,h'⟩:=Ct.call (C:=C) d f as g;have h1:=h (max n m) (by omega);have h2:=h' (max n m+1) (by omega);exact h2.symm.trans h1
theorem NT {d f:Nat}{as:List AV}{g:G}{v:AV}{g':G}(h:(I C).call d f as g=.ok v g'):∃n,(sem C n).call d f as g=.ok v g':=by obtain ⟨m,h'⟩:=Ct.call (C:=C) d f as g;exact ⟨m,by rw[<-h];exact h' m (Nat.le_refl m)⟩
end Hx
end
section
namespace Hx
open Go
noncomputable section
def tat (t:T)(n:Nat):AV:=Tr.get AV.undef t n
def fO (t:T)(n:Nat)(v:AV):T:=(sp AV.undef n).run t v
inductive Od where
 | t (n:Nat)
 | k (v:AV)
def Od.get (t:T):Od->AV
 | .t n=>tat t n
 | .k v=>v
def gR (t:T):List Od->List AV
 | []=>[]
 | o::os=>o.get t::gR t os
def Gz (c a b:AV):OR:=match c with | .bool q=>au q (.val a) (.val b) | _=>.fail
def Ih (x:AV)(g:G):OR:=au x.isTup .fail (.upd (.hptr g.nx 0 0 0) (g.new (.cells (aY x.cells) [x.cells] 0 false false)))
def Bh (zero:List AV)(pl:List (Nat×Nat))(vs:List AV):OR :=
 match eg zero (pl.zip vs) with | some cs=>.val (.agg cs) | none=>.fail
def Ii (sz len:Nat)(zero:List AV)(is:List Nat)(vs:List AV)(g:G):OR :=
 match fd sz (eV len zero) (is.zip vs) with
 | some rows=>.upd (.hsl g.nx 0 0 len none) (g.new (.cells sz rows 0 false false))
 | none=>.fail
def pN (ag:Bool)(n:Nat)(p:AV)(g:G):OR:=lC ag n (λ_=>p) .nil g
def lJ (n:Nat)(p x:AV)(g:G):OR:=m_ n (λ_=>p) (λ_=>x) .nil g
def Dd (x:AV):OR:=match x with
 | .tptr l sz rows i off=>.val (.tptr l sz rows i off)
 | .hptr id ep i off=>.val (.hptr id ep i off)
 | .clo f a c=>.val (.clo f a c)
 | .yld id=>.val (.yld id)
 | _=>.fail
def cq (op:BinOp)(x y:AV):OR:=match x,y with | .int k a,.int k' b=>orV ((ei op).run k a k' b) | _,_=>.fail
def CO (neg:Bool)(ek:EqKind)(x y:AV):OR:=match eqA ek x y with | some b=>.val (.bool (au neg (gZ b) b)) | none=>.fail
def LJ (x:AV):OR:=match x with | .bool b=>.val (.bool (gZ b)) | _=>.fail
def unV (op:UnOp)(x:AV):OR:=match x with | .int k n=>orV (oy (Op.unary op (.int k n))) | _=>.fail
def FP (k:IntKind)(x:AV):OR:=match x with | .int _ n=>.val (.int k (rJ k n)) | _=>.fail
def Db (sz bytes:Nat)(zero:List AV)(l c:AV)(g:G):OR:=fK sz bytes zero (λ_=>l) (λ_=>c) .nil g
def lR (sz:Nat)(x:AV)(lo hi:Option AV)(g:G):OR:=orV (iI sz x lo hi none g.h)
def Om (n sz:Nat)(x:AV)(lo hi:Option AV)(g:G):OR:=gf n sz (λ_=>x) (λ_=>lo) (λ_=>hi) .nil g
def IJ (fo:Nat)(x:AV):OR:=match x with
 | .tptr l sz rows i off=>.val (.tptr l sz rows i (off+fo))
 | .hptr id ep i off=>.val (.hptr id ep i (off+fo))
 | _=>.fail
def Nk (ag:Bool)(n fo:Nat)(x:AV):OR:=match x with | .agg cs=>orV (bG ag n cs fo) | _=>.fail
def BC (sz:Nat)(x i:AV)(g:G):OR:=fe sz (λ_=>x) (λ_=>i) .nil g
def Ji (n sz:Nat)(x i:AV):OR:=lB n sz (λ_=>x) (λ_=>i) .nil G.empty
def ixV (ag:Bool)(n sz:Nat)(x i:AV):OR:=tF ag n sz (λ_=>x) (λ_=>i) .nil G.empty
def IG (x:AV)(i:Nat):OR:=match x with | .tup vs=>orV (yX i vs) | _=>.fail
def mxV (x y:AV):OR:=match x with
 | .int k m=>match y with | .int k' n=>au (cA k k') (.val (.int k (au (xi m n) n m))) .fail | _=>.fail
 | _=>.fail
def mnV (x y:AV):OR:=match x with
 | .int k m=>match y with | .int k' n=>au (cA k k') (.val (.int k (au (xi n m) n m))) .fail | _=>.fail
 | _=>.fail
def am (C:Cfg)(d f:Nat)(as:List AV)(g:G):OR :=
 match C.ext f with
 | some e=>e d as g
 | none=>au (C.iso f) (af (I C) d g f as) (orF ((I C).call d f as g))
inductive SO where
 | mv (x:Od)
 | pick (c a b:Od)
 | alloc (cs:List AV)
 | box (x:Od)
 | build (zero:List AV) (pl:List (Nat×Nat)) (vs:List Od)
 | bsl (sz len:Nat) (zero:List AV) (is:List Nat) (vs:List Od)
 | load (ag:Bool) (n:Nat) (a:Od)
 | store (n:Nat) (a x:Od)
 | nilc (x:Od)
 | bin (op:BinOp) (x y:Od)
 | eq (neg:Bool) (ek:EqKind) (x y:Od)
 | not (x:Od)
 | un (op:UnOp) (x:Od)
 | conv (k:IntKind) (x:Od)
 | mkf (f:Nat) (a c:List Od)
 | mks (sz bytes:Nat) (zero:List AV) (l c:Od)
 | slc (sz:Nat) (x:Od) (lo hi:List Od)
 | sla (n sz:Nat) (x:Od) (lo hi:List Od)
 | fad (fo:Nat) (x:Od)
 | fld (ag:Bool) (n fo:Nat) (x:Od)
 | ixs (sz:Nat) (x i:Od)
 | ixa (n sz:Nat) (x i:Od)
 | ix (ag:Bool) (n sz:Nat) (x i:Od)
 | ext (x:Od) (i:Nat)
 | len (lk:LenKind) (x:Od)
 | app (sz bytes:Nat) (x y:Od)
 | cpy (sz:Nat) (x y:Od)
 | mx (x y:Od)
 | mn (x y:Od)
 | call (f:Nat) (as:List Od)
 | dyn (f:Od) (as:List Od)
 | raw (op:Op)
def SO.run (C:Cfg)(d:Nat)(rd:Option Nat)(t:T)(g:G):SO->OR
 | .mv x=>.val (x.get t)
 | .pick c a b=>Gz (c.get t) (a.get t) (b.get t)
 | .alloc cs=>.upd (.hptr g.nx 0 0 0) (g.new (.cells (aY cs) [cs] 0 false false))
 | .box x=>Ih (x.get t) g
 | .build zero pl vs=>Bh zero pl (gR t vs)
 | .bsl sz n zero is vs=>Ii sz n zero is (gR t vs) g
 | .load ag n a=>pN ag n (a.get t) g
 | .store n a x=>lJ n (a.get t) (x.get t) g
 | .nilc x=>Dd (x.get t)
 | .bin op x y=>cq op (x.get t) (y.get t)
 | .eq neg ek x y=>CO neg ek (x.get t) (y.get t)
 | .not x=>LJ (x.get t)
 | .un op x=>unV op (x.get t)
 | .conv k x=>FP k (x.get t)
 | .mkf f a c=>.val (.clo f (gR t a) (gR t c))
 | .mks sz bytes zero l c=>Db sz bytes zero (l.get t) (c.get t) g
 | .slc sz x lo hi=>lR sz (x.get t) (gR t lo).head? (gR t hi).head? g
 | .sla n sz x lo hi=>Om n sz (x.get t) (gR t lo).head? (gR t hi).head? g
 | .fad fo x=>IJ fo (x.get t)
 | .fld ag n fo x=>Nk ag n fo (x.get t)
 | .ixs sz x i=>BC sz (x.get t) (i.get t) g
 | .ixa n sz x i=>Ji n sz (x.get t) (i.get t)
 | .ix ag n sz x i=>ixV ag n sz (x.get t) (i.get t)
 | .ext x i=>IG (x.get t) i
 | .len lk x=>cV lk (x.get t) g
 | .app sz bytes x y=>cW sz bytes (x.get t) (y.get t) g
 | .cpy sz x y=>Au sz (x.get t) (y.get t) g
 | .mx x y=>mxV (x.get t) (y.get t)
 | .mn x y=>mnV (x.get t) (y.get t)
 | .call f as=>am C d f (gR t as) g
 | .dyn f as=>j7 C (I C) d (f.get t) (gR t as) g
 | .raw op=>(cy C op).run (I C) d rd t g
def nOd (C:Cfg):Operand->Option Od
 | .tmp n=>some (.t n)
 | .const v=>match ofV v with | some a=>some (.k a) | none=>none
 | .global g=>match C.glob g with | some (sz,rows)=>some (.k (.tptr 0 sz rows 0 0)) | none=>none
 | .func f=>some (.k (.clo f [] []))
def lQ (C:Cfg):List Operand->Option (List Od)
 | []=>some []
 | x::xs=>match nOd C x,lQ C xs with
  | some a,some as=>some (a::as)
  | _,_=>none
theorem bm {C:Cfg}{x:Operand}{o:Od}(h:nOd C x=some o):∃s,aM C x=some s/\∀t,s.run t=o.get t:=by
 unfold nOd at h
 split at h
 ·injection h with h;subst h;exact ⟨_,rfl,λt=>gp_run _ _ _⟩
 ·split at h
  ·rename_i a ha;injection h with h;subst h;exact ⟨⟨λ_=>a⟩,by simp only[aM,ha],λt=>rfl⟩
  ·cases h
 ·split at h
  ·rename_i sz rows ha;injection h with h;subst h;exact ⟨⟨λ_=>.tptr 0 sz rows 0 0⟩,by simp only[aM,ha],λt=>rfl⟩
  ·cases h
 ·injection h with h;subst h;exact ⟨_,rfl,λt=>rfl⟩
theorem cE {C:Cfg}:∀{xs:List Operand} {os:List Od},lQ C xs=some os->∃s,bC C xs=some s/\∀t,s.run t=gR t os
 | [],os,h=>by injection h with h;subst h;exact ⟨_,rfl,λt=>rfl⟩
 | x::xs,os,h=>by
  unfold lQ at h
  split at h
  ·rename_i a as ha has;injection h with h;subst h;obtain ⟨s,h1,h2⟩:=bm ha;obtain ⟨ss,h3,h4⟩:=cE has;exact ⟨⟨λt=>s.run t::ss.run t⟩,by simp only[bC,h1,h3],λt=>by simp only[h2,h4,gR]⟩
  ·cases h
def JA (C:Cfg)(op:Op):SO :=
 match op with
 | .move x | .assign x=>match nOd C x with | some a=>.mv a | none=>.raw op
 | .pick c a b=>match nOd C c,nOd C a,nOd C b with
  | some c,some a,some b=>.pick c a b
  | _,_,_=>.raw op
 | .alloc ty=>match eB C.P ty with
  | some cs=>.alloc cs
  | none=>.raw op
 | .box _ x=>match nOd C x with
  | some a=>.box a
  | none=>.raw op
 | .build ty parts=>match eB C.P ty,lQ C (parts.toList.map (·.2)) with
  | some zero,some vs =>
   match C.P.underlying ty with
   | some (.struct fs)=>match aE (λf:Field=>match szT C.P f.type with | some n=>some (f.offset,n) | none=>none) fs.toList with
    | some places=>match aE (λi=>places[i]?) (parts.toList.map (·.1)) with
     | some pl=>.build zero pl vs
     | none=>.raw op
    | none=>.raw op
   | some (.array _ e)=>match szT C.P e with
    | some n=>.build zero ((parts.toList.map (·.1)).map λi=>(i*n,n)) vs
    | none=>.raw op
   | _=>.raw op
  | _,_=>.raw op
 | .buildSlice ty len parts=>match jB C.P ty,lQ C (parts.toList.map (·.2)) with
  | some e,some vs=>match szT C.P e,eB C.P e with
   | some sz,some zero=>au (Nat.beq (aY zero) sz&&Nat.blt 0 sz&&Nat.ble (len*sz) 1048576)
    (.bsl sz len zero (parts.toList.map (·.1)) vs) (.raw op)
   | _,_=>.raw op
  | _,_=>.raw op
 | .load ty a=>match nOd C a,p_ C.P ty,szT C.P ty with
  | some a,some ag,some n=>.load ag n a
  | _,_,_=>.raw op
 | .store ty a x=>match nOd C a,nOd C x,szT C.P ty with
  | some a,some x,some n=>.store n a x
  | _,_,_=>.raw op
 | .nilCheck x=>match nOd C x with
  | some a=>.nilc a
  | none=>.raw op
 | .binOp b ty x y _=>match nOd C x,nOd C y with
  | some x,some y=>match b with
   | .eql=>match oP C.P ty with
    | .other=>.bin b x y
    | ek=>.eq false ek x y
   | .neq=>match oP C.P ty with
    | .other=>.bin b x y
    | ek=>.eq true ek x y
   | b=>.bin b x y
  | _,_=>.raw op
 | .unOp u _ x=>match nOd C x with
  | some x=>match u with
   | .not=>.not x
   | u=>.un u x
  | none=>.raw op
 | .convert src dst x=>match nOd C x,C.P.underlying src,C.P.underlying dst with
  | some x,some _,some (.int k)=>.conv k x
  | _,_,_=>.raw op
 | .makeFunc (.func f) first captured=>match lQ C first.toList,lQ C captured.toList with
  | some a,some c=>.mkf f a c
  | _,_=>.raw op
 | .makeSlice ty l c=>match jB C.P ty,nOd C l,nOd C c with
  | some e,some l,some c=>match szT C.P e,ii C.P e,eB C.P e with
   | some sz,some bytes,some zero=>au (Nat.beq (aY zero) sz&&Nat.blt 0 sz) (.mks sz bytes zero l c) (.raw op)
   | _,_,_=>.raw op
  | _,_,_=>.raw op
 | .slice ty x lo hi none=>match C.P.underlying ty,nOd C x,lQ C lo.toList,lQ C hi.toList with
  | some (.slice e),some x,some l,some h=>match szT C.P e with
   | some sz=>.slc sz x l h
   | none=>.raw op
  | some (.array n e),some x,some l,some h=>match szT C.P e with
   | some (sz+1)=>.sla n (sz+1) x l h
   | _=>.raw op
  | _,_,_,_=>.raw op
 | .fieldAddr ty x f=>match nOd C x,qW C.P ty f with
  | some a,some (fo,ft)=>match szT C.P ft with
   | some (_+1)=>.fad fo a
   | _=>.raw op
  | _,_=>.raw op
 | .field ty x f=>match nOd C x,qW C.P ty f with
  | some a,some (fo,ft)=>match p_ C.P ft,szT C.P ft with
   | some ag,some n=>.fld ag n fo a
   | _,_=>.raw op
  | _,_=>.raw op
 | .indexAddr ty x ix=>match nOd C x,nOd C ix with
  | some a,some i=>match C.P.underlying ty with
   | some (.slice e)=>match szT C.P e with
    | some sz=>.ixs sz a i
    | none=>.raw op
   | some (.array n e)=>match szT C.P e with
    | some sz=>.ixa n sz a i
    | none=>.raw op
   | _=>.raw op
  | _,_=>.raw op
 | .index ty x ix=>match nOd C x,nOd C ix with
  | some a,some i=>match C.P.underlying ty with
   | some (.array n e)=>match p_ C.P e,szT C.P e with
    | some ag,some sz=>.ix ag n sz a i
    | _,_=>.raw op
   | _=>.raw op
  | _,_=>.raw op
 | .extract x i=>match nOd C x with
  | some a=>.ext a i
  | none=>.raw op
 | op=>.raw op
def nOp (C:Cfg)(op:Op):SO :=
 match op with
 | .call { callee:=.value (.func f),args,.. }=>match lQ C args.toList with
  | some vs=>.call f vs
  | none=>.raw op
 | .call { callee:=.value fo,args,.. }=>match nOd C fo,lQ C args.toList with
  | some f,some vs=>.dyn f vs
  | _,_=>.raw op
 | .call { callee:=.builtin b,args,argTypes }=>match b,lQ C args.toList with
  | .len,some [x]=>match argTypes[0]? with
   | some t=>.len (jQ C.P t) x
   | none=>.raw op
  | .append,some [a,x]=>match argTypes[0]?,argTypes[1]? with
   | some t,some xt=>match jB C.P t,C.P.underlying xt with
    | some e,some (.slice _)=>match szT C.P e,ii C.P e,eB C.P e with
     | some sz,some bytes,some zero=>au (Nat.beq (aY zero) sz&&Nat.blt 0 sz&&Nat.blt 0 bytes) (.app sz bytes a x) (.raw op)
     | _,_,_=>.raw op
    | _,_=>.raw op
   | _,_=>.raw op
  | .copy,some [a,x]=>match argTypes[0]? with
   | some t=>match jB C.P t with
    | some e=>match szT C.P e with
     | some sz=>.cpy sz a x
     | none=>.raw op
    | none=>.raw op
   | none=>.raw op
  | .max,some [x,y]=>.mx x y
  | .min,some [x,y]=>.mn x y
  | _,_=>.raw op
 | op=>JA C op
theorem bB {C:Cfg}{op:Op}{s:Stg SFn}(h1:cOp C op=match bS C op with | some s=>some ⟨λ_ _ _ t g=>s.run t g⟩ | none=>none)(h:bS C op=some s)
  {ih:IH} {d:Nat} {rd:Option Nat} {t:T} {g:G}:(cy C op).run ih d rd t g=s.run t g:=by
 unfold cy;rw[h1,h]
theorem LE {C:Cfg}{op:Op}(h1:cOp C op=match bS C op with | some s=>some ⟨λ_ _ _ t g=>s.run t g⟩ | none=>none){d:Nat}{rd:Option Nat}{t:T}{g:G} :
  (JA C op).run C d rd t g=(cy C op).run (I C) d rd t g:=by
 unfold JA
 split
 case h_1 x =>
  split
  ·rename_i a ha;obtain ⟨s,hs,he⟩:=bm ha;rw[bB h1 (by simp only[bS,hs];rfl)];simp only[SO.run,he]<;>rfl
  ·rfl
 case h_2 x =>
  split
  ·rename_i a ha;obtain ⟨s,hs,he⟩:=bm ha;rw[bB h1 (by simp only[bS,hs];rfl)];simp only[SO.run,he]<;>rfl
  ·rfl
 case h_3 c a b =>
  split
  ·rename_i c a b hc ha hb;obtain ⟨s1,q1,e1⟩:=bm hc;obtain ⟨s2,q2,e2⟩:=bm ha;obtain ⟨s3,q3,e3⟩:=bm hb;rw[bB h1 (by simp only[bS,q1,q2,q3];rfl)];simp only[SO.run,e1,e2,e3,Gz]<;>rfl
  ·rfl
 case h_4 ty =>
  split
  ·rename_i cs hz;rw[bB h1 (by simp only[bS,hz];rfl)];rfl
  ·rfl
 case h_5 ty x =>
  split
  ·rename_i a ha;obtain ⟨s,hs,he⟩:=bm ha;rw[bB h1 (by simp only[bS,hs];rfl)];simp only[SO.run,Ih,Ig,he]<;>rfl
  ·rfl
 case h_6 ty parts =>
  split
  ·rename_i zero vs hz hv;obtain ⟨s,hs,he⟩:=cE hv
   split
   ·rename_i fs hu
    split
    ·rename_i places hp
     split
     ·rename_i pl hpl;have hh:bS C (.build ty parts)=some ⟨mA zero pl s.run⟩:=by
       simp only[bS,hz,hs,hu]
       split
       ·rename_i p' h';have:some places=some p':=hp.symm.trans h';injection this with this;subst this;rw[hpl]
       ·rename_i h';have:some places=none:=hp.symm.trans h';cases this
      rw[bB h1 hh];simp only[SO.run,Bh,mA,he]<;>rfl
     ·rfl
    ·rfl
   ·rename_i n e hu
    split
    ·rename_i n hn;rw[bB h1 (by simp only[bS,hz,hs,hu,hn];rfl)];simp only[SO.run,Bh,mA,he]<;>rfl
    ·rfl
   ·rfl
  ·rfl
 case h_7 ty len parts =>
  split
  ·rename_i e vs hz hv;obtain ⟨s,hs,he⟩:=cE hv
   split
   ·rename_i sz zero h2 h3;rw[aa]
    split
    ·rename_i hc;rw[bB h1 (by simp only[bS,hz,hs,h2,h3,hc];rfl)];simp only[SO.run,Ii,fQ,he]<;>rfl
    ·rfl
   ·rfl
  ·rfl
 case h_8 ty a =>
  split
  ·rename_i a ag n ha h2 h3;obtain ⟨s,hs,he⟩:=bm ha;rw[bB h1 (by simp only[bS,hs,h2,h3];rfl)];simp only[SO.run,pN,lC,he]<;>rfl
  ·rfl
 case h_9 ty a x =>
  split
  ·rename_i a x n ha hx h3;obtain ⟨s,hs,he⟩:=bm ha;obtain ⟨s2,hs2,he2⟩:=bm hx;rw[bB h1 (by simp only[bS,hs,hs2,h3];rfl)];simp only[SO.run,lJ,m_,he,he2]<;>rfl
  ·rfl
 case h_10 x =>
  split
  ·rename_i a ha;obtain ⟨s,hs,he⟩:=bm ha;rw[bB h1 (by simp only[bS,hs];rfl)];simp only[SO.run,Dd,he]<;>rfl
  ·rfl
 case h_11 b ty x y yt =>
  split
  ·rename_i x y hx hy;obtain ⟨s,hs,he⟩:=bm hx;obtain ⟨s2,hs2,he2⟩:=bm hy;rw[bB h1 (by simp only[bS,hs,hs2];rfl)];simp only[he,he2]
   split
   ·split
    ·rename_i hk;simp only[xP,hk];rfl
    ·rename_i ek hk;simp only[SO.run,CO,xP]<;>rfl
   ·split
    ·rename_i hk;simp only[xP,hk];rfl
    ·rename_i ek hk;simp only[SO.run,CO,xP]<;>rfl
   ·rename_i hn1 hn2;simp only[SO.run,xP,cq]<;>rfl
  ·rfl
 case h_12 u ty x =>
  split
  ·rename_i a ha;obtain ⟨s,hs,he⟩:=bm ha;rw[bB h1 (by simp only[bS,hs];rfl)]
   split
   ·simp only[SO.run,LJ,unA,he]<;>rfl
   ·rename_i hn;simp only[SO.run,unV,unA,he]<;>rfl
  ·rfl
 case h_13 src dst x =>
  split
  ·rename_i a ty k ha h2 h3;obtain ⟨s,hs,he⟩:=bm ha;rw[bB h1 (by simp only[bS,hs,h2,h3];rfl)];simp only[SO.run,FP,he]<;>rfl
  ·rfl
 case h_14 f first captured =>
  split
  ·rename_i a c ha hc;obtain ⟨s,hs,he⟩:=cE ha;obtain ⟨s2,hs2,he2⟩:=cE hc;rw[bB h1 (by simp only[bS,hs,hs2];rfl)];simp only[SO.run,he,he2]<;>rfl
  ·rfl
 case h_15 ty l c =>
  split
  ·rename_i e l c h0 hl hc;obtain ⟨s,hs,he⟩:=bm hl;obtain ⟨s2,hs2,he2⟩:=bm hc
   split
   ·rename_i sz bytes zero h2 h3 h4;rw[aa]
    split
    ·rename_i hc;rw[bB h1 (by simp only[bS,h0,hs,hs2,h2,h3,h4,hc];rfl)];simp only[SO.run,Db,fK,he,he2]<;>rfl
    ·rfl
   ·rfl
  ·rfl
 case h_16 ty x lo hi =>
  split
  ·rename_i e x l h h0 hx hl hh;obtain ⟨s,hs,he⟩:=bm hx;obtain ⟨s2,hs2,he2⟩:=cE hl;obtain ⟨s3,hs3,he3⟩:=cE hh
   split
   ·rename_i sz h2;rw[bB h1 (by simp only[bS,h0,hs,hs2,hs3,h2];rfl)];simp only[SO.run,lR,he,he2,he3]<;>rfl
   ·rfl
  ·rename_i n e x l h h0 hx hl hh;obtain ⟨s,hs,he⟩:=bm hx;obtain ⟨s2,hs2,he2⟩:=cE hl;obtain ⟨s3,hs3,he3⟩:=cE hh
   split
   ·rename_i sz h2;rw[bB h1 (by simp only[bS,h0,hs,hs2,hs3,h2];rfl)];simp only[SO.run,Om,gf,he,he2,he3]<;>rfl
   ·rfl
  ·rfl
 case h_17 ty x f =>
  split
  ·rename_i a fo ft ha h0;obtain ⟨s,hs,he⟩:=bm ha
   split
   ·rename_i k h2;rw[bB h1 (by simp only[bS,hs,h0,h2];rfl)];simp only[SO.run,IJ,iB,he]<;>rfl
   ·rfl
  ·rfl
 case h_18 ty x f =>
  split
  ·rename_i a fo ft ha h0;obtain ⟨s,hs,he⟩:=bm ha
   split
   ·rename_i ag n h2 h3;rw[bB h1 (by simp only[bS,hs,h0,h2,h3];rfl)];simp only[SO.run,Nk,he]<;>rfl
   ·rfl
  ·rfl
 case h_19 ty x ix =>
  split
  ·rename_i a i ha hi;obtain ⟨s,hs,he⟩:=bm ha;obtain ⟨s2,hs2,he2⟩:=bm hi
   split
   ·rename_i e h0
    split
    ·rename_i sz h2;rw[bB h1 (by simp only[bS,hs,hs2,h0,h2];rfl)];simp only[SO.run,BC,fe,he,he2]<;>rfl
    ·rfl
   ·rename_i n e h0
    split
    ·rename_i sz h2;rw[bB h1 (by simp only[bS,hs,hs2,h0,h2];rfl)];simp only[SO.run,Ji,lB,he,he2]<;>rfl
    ·rfl
   ·rfl
  ·rfl
 case h_20 ty x ix =>
  split
  ·rename_i a i ha hi;obtain ⟨s,hs,he⟩:=bm ha;obtain ⟨s2,hs2,he2⟩:=bm hi
   split
   ·rename_i n e h0
    split
    ·rename_i ag sz h2 h3;rw[bB h1 (by simp only[bS,hs,hs2,h0,h2,h3];rfl)];simp only[SO.run,ixV,tF,he,he2]<;>rfl
    ·rfl
   ·rfl
  ·rfl
 case h_21 x i =>
  split
  ·rename_i a ha;obtain ⟨s,hs,he⟩:=bm ha;rw[bB h1 (by simp only[bS,hs];rfl)];simp only[SO.run,IG,he]<;>rfl
  ·rfl
 case h_22=>rfl
theorem nk {C:Cfg}{xs:List Operand}{os:List Od}(h:lQ C xs=some os) :
  (∀o,os=[o]->∃x s,xs=[x]/\aM C x=some s/\∀t,s.run t=o.get t) /\
  (∀o p,os=[o,p]->∃x y s u,xs=[x,y]/\aM C x=some s/\aM C y=some u/\(∀t,s.run t=o.get t)/\∀t,u.run t=p.get t):=by
 refine ⟨λo ho=>?_,λo p ho=>?_⟩
 ·subst ho
  match xs,h with
  | [x],h =>
   unfold lQ at h
   split at h
   ·rename_i a as ha has;injection h with h;injection h with h1 h2;subst h1;obtain ⟨s,q,e⟩:=bm ha;exact ⟨x,s,rfl,q,e⟩
   ·cases h
  | x::y::xs,h =>
   unfold lQ at h
   split at h
   ·rename_i a as ha has;unfold lQ at has
    split at has
    ·injection has with has;subst has;injection h with h;injection h with h1 h2;cases h2
    ·cases has
   ·cases h
 ·subst ho
  match xs,h with
  | [x,y],h =>
   unfold lQ at h
   split at h
   ·rename_i a as ha has;unfold lQ at has
    split at has
    ·rename_i b bs hb hbs;injection has with has;subst has;injection h with h;injection h with h1 h2;injection h2 with h3 h4;subst h1;subst h3;obtain ⟨s,q,e⟩:=bm ha;obtain ⟨s',q',e'⟩:=bm hb;exact ⟨x,y,s,s',rfl,q,q',e,e'⟩
    ·cases has
   ·cases h
  | [x],h =>
   unfold lQ at h
   split at h
   ·rename_i a as ha has;injection has with has;subst has;injection h with h;injection h with h1 h2;cases h2
   ·cases h
  | x::y::z::xs,h =>
   unfold lQ at h
   split at h
   ·rename_i a as ha has;unfold lQ at has
    split at has
    ·rename_i b bs hb hbs;unfold lQ at hbs
     split at hbs
     ·injection hbs with hbs;subst hbs;injection has with has;subst has;injection h with h;injection h with h1 h2;injection h2 with h3 h4;cases h4
     ·cases hbs
    ·cases has
   ·cases h
theorem BL {C:Cfg}{op:Op}{d:Nat}{rd:Option Nat}{t:T}{g:G}:(nOp C op).run C d rd t g=(cy C op).run (I C) d rd t g:=by
 unfold nOp
 split
 ·rename_i f args ats
  split
  ·rename_i vs hv;obtain ⟨s,hs,he⟩:=cE hv;simp only[SO.run,cy,cOp,hs,am];cases hx:C.ext f with
   | some e=>simp only[he]
   | none=>cases hi:C.iso f<;>simp only[he]
  ·rfl
 ·rename_i fo args ats hnf
  split
  ·rename_i f vs hf hv;obtain ⟨s,hs,he⟩:=cE hv;obtain ⟨s2,hs2,he2⟩:=bm hf;cases fo with
   | func k=>exact absurd rfl (hnf k)
   | tmp k=>simp only[SO.run,cy,cOp,hs,hs2,he,he2]
   | const k=>simp only[SO.run,cy,cOp,hs,hs2,he,he2]
   | global k=>simp only[SO.run,cy,cOp,hs,hs2,he,he2]
  ·rfl
 ·rename_i b args ats;have hc:b≠.recover->cOp C (.call { callee:=.builtin b,args:=args,argTypes:=ats })=match bS C (.call { callee:=.builtin b,args:=args,argTypes:=ats }) with
    | some s=>some ⟨λ_ _ _ t g=>s.run t g⟩ | none=>none:=by
   intro hb;cases b<;>first | rfl | exact absurd rfl hb
  split
  ·rename_i x hx;obtain ⟨y,s,hxs,hs,he⟩:=(nk hx).1 _ rfl
   split
   ·rename_i ty hty;rw[bB (hc (by simp)) (by simp only[bS,cO,hxs,hty,hs];rfl)];simp only[SO.run,he]<;>rfl
   ·rfl
  ·rename_i a x hx;obtain ⟨y,z,s,u,hxs,hs,hu,he,he2⟩:=(nk hx).2 _ _ rfl
   split
   ·rename_i ty xt hty hxt
    split
    ·rename_i e e2 h1 h2
     split
     ·rename_i sz bytes zero h3 h4 h5;rw[aa]
      split
      ·rename_i hcc;rw[bB (hc (by simp)) (by simp only[bS,cO,hxs,hty,hxt,hs,hu,h1,h2,h3,h4,h5,hcc];rfl)];simp only[SO.run,he,he2]<;>rfl
      ·rfl
     ·rfl
    ·rfl
   ·rfl
  ·rename_i a x hx;obtain ⟨y,z,s,u,hxs,hs,hu,he,he2⟩:=(nk hx).2 _ _ rfl
   split
   ·rename_i ty hty
    split
    ·rename_i e h1
     split
     ·rename_i sz h3;rw[bB (hc (by simp)) (by simp only[bS,cO,hxs,hty,hs,hu,h1,h3];rfl)];simp only[SO.run,he,he2]<;>rfl
     ·rfl
    ·rfl
   ·rfl
  ·rename_i a x hx;obtain ⟨y,z,s,u,hxs,hs,hu,he,he2⟩:=(nk hx).2 _ _ rfl;rw[bB (hc (by simp)) (by simp only[bS,cO,hxs,hs,hu];rfl)];simp only[SO.run,mxV,he,he2]<;>rfl
  ·rename_i a x hx;obtain ⟨y,z,s,u,hxs,hs,hu,he,he2⟩:=(nk hx).2 _ _ rfl;rw[bB (hc (by simp)) (by simp only[bS,cO,hxs,hs,hu];rfl)];simp only[SO.run,mnV,he,he2]<;>rfl
  ·rfl
 ·rename_i h1 h2 h3;have key:∀op,(∀c,op≠.call c)->(∀c,op≠.defer c)->cOp C op=match bS C op with | some s=>some ⟨λ_ _ _ t g=>s.run t g⟩ | none=>none:=by intro op hc hd;cases op<;>first | rfl | exact absurd rfl (hc _) | exact absurd rfl (hd _)
  cases op with
  | call c=>rfl
  | defer c=>rfl
  | _=>exact LE (key _ (λc h=>by cases h) (λc h=>by cases h))
end
end Hx
end
