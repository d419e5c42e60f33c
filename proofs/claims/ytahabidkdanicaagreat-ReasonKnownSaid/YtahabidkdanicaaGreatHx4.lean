/- A part of the proof: an interpreter over abstract values, shown right against the model, and what the functions of the chapter compute on it. -/
import Derived.RangeFuncIn
import Derived.AtR
import Derived.Test.YtahabidkdanicaaGreatHx3
set_option linter.unusedVariables false
set_option linter.unusedSimpArgs false
set_option linter.unnecessarySimpa false
section
namespace Hx
open Go
theorem bm {α β:Type}{f:α->Option β}:∀{l:List α} {r:List β},aU f l=some r->∀(i:Nat) y,r[i]?=some y->∃x,l[i]?=some x/\f x=some y:=by
 intro l
 induction l with
 | nil=>intro r h i y hy;simp only[aU] at h;injection h with h;subst h;simp at hy
 | cons a l ih =>
  intro r h i y hy
  simp only[aU] at h
  split at h
  ·rename_i b hb
   split at h
   ·rename_i bs hbs
    injection h with h;subst h
    cases i with
    | zero=>simp at hy;subst hy;exact ⟨a,rfl,hb⟩
    | succ i=>simpa using ih hbs i y (by simpa using hy)
   ·cases h
  ·cases h
theorem cB {α β:Type}{f:α->Option β}:∀{l:List α} {r:List β},aU f l=some r->r.length=l.length:=by
 intro l
 induction l with
 | nil=>intro r h;simp only[aU] at h;injection h with h;subst h;rfl
 | cons a l ih =>
  intro r h
  simp only[aU] at h
  split at h
  ·split at h
   ·rename_i bs hbs
    injection h with h;subst h
    simp[ih hbs]
   ·cases h
  ·cases h
theorem iT {h:H}{tag:Nat}:∀{f:Nat} {x y:AV},bf h tag f x=some y->x.one=true->y.one=true:=by
 intro f x y hs hx
 cases f with
 | zero=>cases hs
 | succ f =>
  cases x<;>simp only[bf] at hs<;>first | (cases hx;done) | skip
  all_goals first | (injection hs with hs;subst hs;rfl) | skip
  all_goals
   repeat (split at hs)
   all_goals first | (cases hs;done) | (injection hs with hs;subst hs;rfl) | (rw[aa] at hs;split at hs<;>first | (cases hs;done) | (injection hs with hs;subst hs;rfl))
def Ext (h:H)(hg:Nat->AObj):Prop:=∀id,h.get id≠.none->hg id=h.get id
section
variable {C:Cfg}{A A':Nat->Nat->Prop}{bd:Nat}{w w':World}{γ γ':Gm}{hg:Nat->AObj}{nx:Nat}
theorem cx {x:AV}{v:Value}(h:RV w γ A bd x v):Closed x ->
  (∀t b,t<=bd->b<w.heap.size->¬A t b->¬Mut γ b->¬A' t b/\¬Mut γ' b)->RV w γ' A' bd x v:=by
 induction h with
 | bool=>intro _ _;exact .bool _ _
 | int=>intro _ _;exact .int _ _ _
 | str=>intro _ _;exact .str _ _
 | tup _ xs vs hl _ ih =>
  intro hc hs
  cases hc with | tup _ hc=>exact .tup _ _ _ hl fun i x v h1 h2=>ih i x v h1 h2 (hc x (List.mem_of_getElem? h1)) hs
 | agg _ xs vs hl h1 _ ih =>
  intro hc hs
  cases hc with | agg _ hc=>exact .agg _ _ _ hl h1 fun i x v h1 h2=>ih i x v h1 h2 (hc x (List.mem_of_getElem? h1)) hs
 | nilp=>intro _ _;exact .nilp _
 | nils=>intro _ _;exact .nils _
 | nilf=>intro _ _;exact .nilf _
 | nilm=>intro _ _;exact .nilm _
 | nili=>intro _ _;exact .nili _
 | esl=>intro _ _;exact .esl _ _
 | tsl _ tag sz rows b o cap cell ht hc hb hm ha hr ho hw h hcl ih =>
  intro _ hs
  obtain ⟨h1,h2⟩:=hs tag b ht hb ha hm
  exact .tsl _ tag sz rows b o cap cell ht hc hb h2 h1 hr ho hw
   (fun i j row x a c=>ih i j row x a c (hcl row (List.mem_of_getElem? a) x (List.mem_of_getElem? c)) fun t b hle=>hs t b (Nat.le_trans hle ht)) hcl
 | tnil _ tag sz a cap ht=>intro _ _;exact .tnil _ tag sz a cap ht
 | tptr _ tag sz rows i0 off0 b o cell ht hb hm ha hr ho hw h hcl ih =>
  intro _ hs
  obtain ⟨h1,h2⟩:=hs tag b ht hb ha hm
  exact .tptr _ tag sz rows i0 off0 b o cell ht hb h2 h1 hr ho hw
   (fun i j row x a c=>ih i j row x a c (hcl row (List.mem_of_getElem? a) x (List.mem_of_getElem? c)) fun t b hle=>hs t b (Nat.le_trans hle ht)) hcl
 | hsl=>intro hc;cases hc
 | hptr=>intro hc;cases hc
 | clo _ f xs ys vs us hl hl2 _ _ ih ih2 =>
  intro hc hs
  cases hc with
  | clo _ _ _ hc hc2=>exact .clo _ f xs ys vs us hl hl2 (fun i x v h1 h2=>ih i x v h1 h2 (hc x (List.mem_of_getElem? h1)) hs) (fun i x v h1 h2=>ih2 i x v h1 h2 (hc2 x (List.mem_of_getElem? h1)) hs)
 | hmap=>intro hc;cases hc
 | ifc _ t x v _ ih=>intro hc hs;cases hc with | ifc _ _ hc=>exact .ifc _ t x v (ih hc hs)
 | yld=>intro hc;cases hc
theorem gG {x:AV}{v:Value}(h:RV w γ A bd x v)(hx:(∃l sz rows,x=.tsl l sz rows)\/(∃l sz rows i o,x=.tptr l sz rows i o)):Closed x:=by
 rcases hx with ⟨l,sz,rows,rfl⟩ | ⟨l,sz,rows,i,o,rfl⟩
 ·cases h with
  | tsl _ _ _ _ _ _ _ _ _ _ _ _ _ _ _ _ _ hcl=>exact .tsl _ _ _ hcl
  | tnil=>exact .tsl _ _ _ fun row h=>by cases h
 ·cases h with
  | tptr _ _ _ _ _ _ _ _ _ _ _ _ _ _ _ _ _ hcl=>exact .tptr _ _ _ _ _ hcl
theorem j3 {h:H}{tag B:Nat}{L:Nat->Prop}(hr:Rel C A bd w γ hg nx)(hx:∀id,L id->h.get id≠.none->hg id=h.get id)(hB:bd<=B)(htB:tag<=B)
  (hs:∀t b,t<=bd->b<w.heap.size->¬A t b->¬Mut γ b->¬A' t b/\¬Mut γ' b)
  (ho:∀id,L id->(∃sz rows ep lo fz,h.get id=.cells sz rows ep lo fz)->(γ id).kind=1->∀t,tag<=t->t<=B->¬A' t (γ id).blk/\¬Mut γ' (γ id).blk) :
  ∀(f:Nat) {x y:AV} {v:Value},bf h tag f x=some y->RV w γ A bd x v->(∀id∈au h f x,L id)->RV w γ' A' B y v/\Closed y:=by
 intro f
 induction f with
 | zero=>intro x y v h;cases h
 | succ f ih =>
  intro x y v hsn hv hL
  have hlist:∀{xs ys:List AV} {vs:Array Value},aU (bf h tag f) xs=some ys->(∀id∈xs.flatMap (au h f),L id)->xs.length=vs.size ->
    (∀(i:Nat) x v,xs[i]?=some x->vs[i]?=some v->RV w γ A bd x v) ->
    ys.length=vs.size/\(∀(i:Nat) x v,ys[i]?=some x->vs[i]?=some v->RV w γ' A' B x v)/\∀y∈ys,Closed y:=by
   intro xs ys vs h1 h2 h3 h4
   have hex:∀(i:Nat) y,ys[i]?=some y->∃v,vs[i]?=some v/\RV w γ' A' B y v/\Closed y:=by
    intro i y hy
    obtain ⟨x,a1,a2⟩:=bm h1 i y hy
    have hlt:i<vs.size:=by rw[<-h3];exact (List.getElem?_eq_some_iff.1 a1).1
    have hv:=Array.getElem?_eq_getElem hlt
    obtain ⟨b1,b2⟩:=ih a2 (h4 i x _ a1 hv) fun id hid=>h2 id (List.mem_flatMap.2 ⟨x,List.mem_of_getElem? a1,hid⟩)
    exact ⟨_,hv,b1,b2⟩
   refine ⟨by rw[cB h1,h3],fun i y v hy hv=>?_,fun y hy=>?_⟩
   ·obtain ⟨v',b1,b2,_⟩:=hex i y hy
    rw[hv] at b1;injection b1 with b1;subst b1;exact b2
   ·obtain ⟨i,hi⟩:=List.getElem?_of_mem hy
    obtain ⟨_,_,_,b⟩:=hex i y hi;exact b
  have hrows:∀{id sz:Nat} {rows:List (List AV)} {ep:Nat} {lo fz:Bool} {start len:Nat} {rs:List (List AV)} {m:Nat},
    hg id=.cells sz rows ep lo fz->aU (aU (bf h tag f)) ((rows.drop start).take len)=some rs->bW rs=some m ->
    (∀id'∈((rows.drop start).take len).flatMap (·.flatMap (au h f)),L id')->start+len<=rows.length ->
    rs.length=len/\m<=B/\(∀(i:Nat) row,rs[i]?=some row->row.length=sz) /\
    (∀(i j:Nat) row x,rs[i]?=some row->row[j]?=some x->x.one=true/\∃c,w.cell? (adr (γ id).blk ((γ id).base+start*sz+i*sz+j))=some c/\RV w γ' A' m x c) /\
    (∀row∈rs,∀x∈row,Closed x):=by
   intro id sz rows ep lo fz start len rs m hid hm htag hL' hle
   have hob:=hr.obj id
   rw[hid] at hob
   have hlen:rs.length=len:=by rw[cB hm];simp;omega
   have key:∀(i j:Nat) row x,rs[i]?=some row->row[j]?=some x->x.one=true/\∃c,w.cell? (adr (γ id).blk ((γ id).base+start*sz+i*sz+j))=some c/\RV w γ' A' B x c/\Closed x:=by
    intro i j row x hi hj
    obtain ⟨row0,a1,a2⟩:=bm hm i row hi
    obtain ⟨x0,b1,b2⟩:=bm a2 j x hj
    have hri:rows[start+i]?=some row0:=by
     rw[List.getElem?_take] at a1
     split at a1
     ·rw[List.getElem?_drop] at a1;exact a1
     ·cases a1
    obtain ⟨c1,v,c2,c3⟩:=ew hr hid hri j x0 b1
    obtain ⟨d1,d2⟩:=ih b2 c3 fun id' hid'=>hL' id' (List.mem_flatMap.2 ⟨row0,List.mem_of_getElem? a1,List.mem_flatMap.2 ⟨x0,List.mem_of_getElem? b1,hid'⟩⟩)
    refine ⟨iT b2 c1,v,?_,d1,d2⟩
    rw[<-c2];congr 2;rw[Nat.add_mul];omega
   refine ⟨hlen,?_,?_,?_,?_⟩
   ·refine be htag fun row hrow k hk=>be hk fun x hx k' hk'=>?_
    obtain ⟨i,hi⟩:=List.getElem?_of_mem hrow
    obtain ⟨j,hj⟩:=List.getElem?_of_mem hx
    obtain ⟨_,c,_,hc,_⟩:=key i j row x hi hj
    exact fT _ hk' hc
   ·intro i row hi
    obtain ⟨row0,a1,a2⟩:=bm hm i row hi
    rw[cB a2]
    obtain ⟨k1,k2,k3,k4,k5,k6,c,e,k7,k8,k9,k10⟩:=hob
    rw[List.getElem?_take] at a1
    split at a1
    ·rw[List.getElem?_drop] at a1;exact k9 _ _ a1
    ·cases a1
   ·intro i j row x hi hj
    obtain ⟨c1,c,c2,c3,_⟩:=key i j row x hi hj
    exact ⟨c1,c,c2,eQ htag hi hj c3⟩
   ·intro row hrow x hx
    obtain ⟨i,hi⟩:=List.getElem?_of_mem hrow
    obtain ⟨j,hj⟩:=List.getElem?_of_mem hx
    obtain ⟨_,_,_,_,c⟩:=key i j row x hi hj
    exact c
  cases hv with
  | agg _ xs vs hl h1 h2 =>
   simp only[bf] at hsn
   split at hsn
   ·rename_i as has
    injection hsn with hsn;subst hsn
    obtain ⟨a,b,c⟩:=hlist has (by simpa only[au] using hL) hl h2
    refine ⟨.agg _ _ _ a (fun i x hi=>?_) b,.agg _ c⟩
    obtain ⟨x0,a1,a2⟩:=bm has i x hi
    exact iT a2 (h1 i x0 a1)
   ·cases hsn
  | tup _ xs vs hl h2 =>
   simp only[bf] at hsn
   split at hsn
   ·rename_i as has
    injection hsn with hsn;subst hsn
    obtain ⟨a,b,c⟩:=hlist has (by simpa only[au] using hL) hl h2
    exact ⟨.tup _ _ _ a b,.tup _ c⟩
   ·cases hsn
  | clo _ g xs ys vs us hl hl2 h1 h2 =>
   simp only[bf] at hsn
   simp only[au] at hL
   split at hsn
   ·rename_i as cs has hcs
    injection hsn with hsn;subst hsn
    obtain ⟨a,b,c⟩:=hlist has (fun id hid=>hL id (List.mem_append_left _ hid)) hl h1
    obtain ⟨a',b',c'⟩:=hlist hcs (fun id hid=>hL id (List.mem_append_right _ hid)) hl2 h2
    exact ⟨.clo _ _ _ _ _ _ a a' b b',.clo _ _ _ c c'⟩
   ·cases hsn
  | ifc _ t x v h1 =>
   simp only[bf] at hsn
   split at hsn
   ·rename_i a ha
    injection hsn with hsn;subst hsn
    obtain ⟨a,b⟩:=ih ha h1 (by simpa only[au] using hL)
    exact ⟨.ifc _ _ _ _ a,.ifc _ _ b⟩
   ·cases hsn
  | hsl _ id ep off len lim b o cap hk he hc h' =>
   simp only[bf] at hsn
   split at hsn
   ·rename_i sz rows ep' lo fz hget
    rw[aa] at hsn
    split at hsn
    ·rename_i hcond
     simp only[Bool.and_eq_true,Nat.ble_eq,al] at hcond
     obtain ⟨hep,hle⟩:=hcond
     have hep:=ae hep
     split at hsn
     ·rename_i rs hrs
      split at hsn
      ·rename_i m hm
       injection hsn with hsn;subst hsn
       have hid:hg id=.cells sz rows ep' lo fz:=by rw[hx id (hL id (by simp[au])) (by rw[hget];simp),hget]
       have hob:=hr.obj id
       rw[hid] at hob
       obtain ⟨k1,k2,k3,k4,_⟩:=hob
       obtain ⟨e1,e2,e3⟩:=h' (hep.trans k2.symm)
       subst e1;subst e2
       simp only[au,hget] at hL
       simp only[a7,aZ] at hrs hL
       obtain ⟨r1,r2,r3,r4,r5⟩:=hrows hid hrs hm (fun id' hid'=>hL id' (List.mem_cons_of_mem _ hid')) hle
       obtain ⟨o1,o2⟩:=ho id (hL id List.mem_cons_self) ⟨_,_,_,_,_,hget⟩ hk (Nat.max tag m) (Nat.le_max_left _ _) (Nat.max_le.2 ⟨htB,r2⟩)
       refine ⟨?_,.tsl _ _ _ r5⟩
       rw[<-r1]
       rw[k3]
       refine .tsl _ (Nat.max tag m) sz rs (γ id).blk ((γ id).base+off*sz) cap (fun i j=>(w.cell? (adr (γ id).blk ((γ id).base+off*sz+i*sz+j))).getD undef) (Nat.max_le.2 ⟨htB,r2⟩) (by rw[r1];exact hc)
        (hr.lt id (by rw[hk];decide)).2 o2 o1 r3 (fun i j row x hi hj=>(r4 i j row x hi hj).1) (fun i j row x hi hj=>?_) (fun i j row x hi hj=>?_) r5
       ·obtain ⟨_,c,c2,_⟩:=r4 i j row x hi hj
        simp only[c2,Option.getD_some]
       ·obtain ⟨_,c,c2,c3⟩:=r4 i j row x hi hj
        simp only[c2,Option.getD_some]
        exact c3.mono (Nat.le_max_right _ _)
      ·cases hsn
     ·cases hsn
    ·cases hsn
   ·cases hsn
  | hptr _ id ep i off b o hk he h' =>
   simp only[bf] at hsn
   split at hsn
   ·rename_i sz rows ep' lo fz hget
    rw[aa] at hsn
    split at hsn
    ·rename_i hep
     have hep:=ae hep
     split at hsn
     ·rename_i rs hrs
      split at hsn
      ·rename_i m hm
       injection hsn with hsn;subst hsn
       have hid:hg id=.cells sz rows ep' lo fz:=by rw[hx id (hL id (by simp[au])) (by rw[hget];simp),hget]
       have hob:=hr.obj id
       rw[hid] at hob
       obtain ⟨k1,k2,k3,k4,_⟩:=hob
       obtain ⟨e1,e2⟩:=h' (hep.trans k2.symm)
       subst e1;subst e2
       simp only[au,hget] at hL
       have hrs':aU (aU (bf h tag f)) ((rows.drop 0).take rows.length)=some rs:=by simpa using hrs
       obtain ⟨r1,r2,r3,r4,r5⟩:=hrows hid hrs' hm (fun id' hid'=>hL id' (List.mem_cons_of_mem _ (by simpa using hid'))) (by omega)
       obtain ⟨o1,o2⟩:=ho id (hL id List.mem_cons_self) ⟨_,_,_,_,_,hget⟩ hk (Nat.max tag m) (Nat.le_max_left _ _) (Nat.max_le.2 ⟨htB,r2⟩)
       refine ⟨?_,.tptr _ _ _ _ _ r5⟩
       rw[k3]
       refine .tptr _ (Nat.max tag m) sz rs i off (γ id).blk (γ id).base (fun i j=>(w.cell? (adr (γ id).blk ((γ id).base+i*sz+j))).getD undef) (Nat.max_le.2 ⟨htB,r2⟩)
        (hr.lt id (by rw[hk];decide)).2 o2 o1 r3 (fun i j row x hi hj=>(r4 i j row x hi hj).1) (fun i j row x hi hj=>?_) (fun i j row x hi hj=>?_) r5
       ·obtain ⟨_,c,c2,_⟩:=r4 i j row x hi hj
        simp only[Nat.zero_mul,Nat.add_zero] at c2
        simp only[c2,Option.getD_some]
       ·obtain ⟨_,c,c2,c3⟩:=r4 i j row x hi hj
        simp only[Nat.zero_mul,Nat.add_zero] at c2
        simp only[c2,Option.getD_some]
        exact c3.mono (Nat.le_max_right _ _)
      ·cases hsn
     ·cases hsn
    ·cases hsn
   ·cases hsn
  | hmap=>cases hsn
  | yld=>cases hsn
  | tsl _ tag' sz rows b o cap cell ht hc hb hm ha hrl ho' hw hcell hcl =>
   simp only[bf] at hsn;injection hsn with hsn;subst hsn
   exact ⟨(cx (.tsl _ tag' sz rows b o cap cell ht hc hb hm ha hrl ho' hw hcell hcl) (.tsl _ _ _ hcl) hs).mono hB,.tsl _ _ _ hcl⟩
  | tnil _ tag' sz a cap ht=>simp only[bf] at hsn;injection hsn with hsn;subst hsn;exact ⟨.tnil _ tag' sz a cap (Nat.le_trans ht hB),.tsl _ _ _ fun row h=>by cases h⟩
  | tptr _ tag' sz rows i0 off0 b o cell ht hb hm ha hrl ho' hw hcell hcl =>
   simp only[bf] at hsn;injection hsn with hsn;subst hsn
   exact ⟨(cx (.tptr _ tag' sz rows i0 off0 b o cell ht hb hm ha hrl ho' hw hcell hcl) (.tptr _ _ _ _ _ hcl) hs).mono hB,.tptr _ _ _ _ _ hcl⟩
  | bool=>simp only[bf] at hsn;injection hsn with hsn;subst hsn;exact ⟨.bool _ _,.bool _⟩
  | int=>simp only[bf] at hsn;injection hsn with hsn;subst hsn;exact ⟨.int _ _ _,.int _ _⟩
  | str=>simp only[bf] at hsn;injection hsn with hsn;subst hsn;exact ⟨.str _ _,.str _⟩
  | nilp=>simp only[bf] at hsn;injection hsn with hsn;subst hsn;exact ⟨.nilp _,.nilp⟩
  | nils=>simp only[bf] at hsn;injection hsn with hsn;subst hsn;exact ⟨.nils _,.nils⟩
  | nilf=>simp only[bf] at hsn;injection hsn with hsn;subst hsn;exact ⟨.nilf _,.nilf⟩
  | nilm=>simp only[bf] at hsn;injection hsn with hsn;subst hsn;exact ⟨.nilm _,.nilm⟩
  | nili=>simp only[bf] at hsn;injection hsn with hsn;subst hsn;exact ⟨.nili _,.nili⟩
  | esl _ a=>simp only[bf] at hsn;injection hsn with hsn;subst hsn;exact ⟨.esl _ a,.esl⟩
theorem hY {d:Nat}:∀{f:Nat} {x y:AV},aY d f x=some y->x.one=true->y.one=true:=by
 intro f x y hs hx
 cases f with
 | zero=>cases hs
 | succ f =>
  cases x<;>simp only[aY,aa] at hs<;>first | (cases hx;done) | skip
  all_goals first | (injection hs with hs;subst hs;rfl) | skip
  all_goals
   repeat (split at hs)
   all_goals first | (cases hs;done) | (injection hs with hs;subst hs;rfl)
theorem k_ {d:Nat}(hA:∀t b,t<d->¬A t b->¬A' t b)(hd:∀b,¬A d b->∀t,¬A' t b) :
  ∀(f:Nat) {x y:AV} {v:Value},aY d f x=some y->RV w γ A d x v->Closed x->RV w γ A' d y v/\Closed y:=by
 intro f
 induction f with
 | zero=>intro x y v h;cases h
 | succ f ih =>
  intro x y v hsn hv hcx
  have hlist:∀{xs ys:List AV} {vs:Array Value},aU (aY d f) xs=some ys->xs.length=vs.size->(∀x∈xs,Closed x) ->
    (∀(i:Nat) x v,xs[i]?=some x->vs[i]?=some v->RV w γ A d x v) ->
    ys.length=vs.size/\(∀(i:Nat) x v,ys[i]?=some x->vs[i]?=some v->RV w γ A' d x v)/\∀y∈ys,Closed y:=by
   intro xs ys vs h1 h3 hc h4
   have hex:∀(i:Nat) y,ys[i]?=some y->∃v,vs[i]?=some v/\RV w γ A' d y v/\Closed y:=by
    intro i y hy
    obtain ⟨x,a1,a2⟩:=bm h1 i y hy
    have hlt:i<vs.size:=by rw[<-h3];exact (List.getElem?_eq_some_iff.1 a1).1
    have hv:=Array.getElem?_eq_getElem hlt
    obtain ⟨b1,b2⟩:=ih a2 (h4 i x _ a1 hv) (hc x (List.mem_of_getElem? a1))
    exact ⟨_,hv,b1,b2⟩
   refine ⟨by rw[cB h1,h3],fun i y v hy hv=>?_,fun y hy=>?_⟩
   ·obtain ⟨v',b1,b2,_⟩:=hex i y hy
    rw[hv] at b1;injection b1 with b1;subst b1;exact b2
   ·obtain ⟨i,hi⟩:=List.getElem?_of_mem hy
    obtain ⟨_,_,_,b⟩:=hex i y hi;exact b
  have hrows:∀{sz:Nat} {rows rs:List (List AV)} {m:Nat} {cell:Nat->Nat->Value},aU (aU (aY d f)) rows=some rs->bW rs=some m ->
    (∀(i:Nat) row,rows[i]?=some row->row.length=sz) ->
    (∀(i j:Nat) row x,rows[i]?=some row->row[j]?=some x->x.one=true) ->
    (∀(i j:Nat) row x,rows[i]?=some row->row[j]?=some x->RV w γ A d x (cell i j)) ->
    (∀row∈rows,∀x∈row,Closed x) ->
    rs.length=rows.length/\m<=d/\(∀(i:Nat) row,rs[i]?=some row->row.length=sz) /\
    (∀(i j:Nat) row x,rs[i]?=some row->row[j]?=some x->x.one=true/\(∃row0 x0,rows[i]?=some row0/\row0[j]?=some x0)/\RV w γ A' m x (cell i j)) /\
    (∀row∈rs,∀x∈row,Closed x):=by
   intro sz rows rs m cell h1 h2 h3 h4 h5 h6
   have key:∀(i j:Nat) row x,rs[i]?=some row->row[j]?=some x->x.one=true/\(∃row0 x0,rows[i]?=some row0/\row0[j]?=some x0)/\RV w γ A' d x (cell i j)/\Closed x:=by
    intro i j row x hi hj
    obtain ⟨row0,a1,a2⟩:=bm h1 i row hi
    obtain ⟨x0,b1,b2⟩:=bm a2 j x hj
    obtain ⟨c1,c2⟩:=ih b2 (h5 i j row0 x0 a1 b1) (h6 row0 (List.mem_of_getElem? a1) x0 (List.mem_of_getElem? b1))
    exact ⟨hY b2 (h4 i j row0 x0 a1 b1),⟨row0,x0,a1,b1⟩,c1,c2⟩
   refine ⟨cB h1,?_,?_,?_,?_⟩
   ·refine be h2 fun row hrow k hk=>be hk fun x hx k' hk'=>?_
    obtain ⟨i,hi⟩:=List.getElem?_of_mem hrow
    obtain ⟨j,hj⟩:=List.getElem?_of_mem hx
    obtain ⟨_,_,hc,_⟩:=key i j row x hi hj
    exact fT _ hk' hc
   ·intro i row hi
    obtain ⟨row0,a1,a2⟩:=bm h1 i row hi
    rw[cB a2];exact h3 i row0 a1
   ·intro i j row x hi hj
    obtain ⟨c1,c2,c3,_⟩:=key i j row x hi hj
    exact ⟨c1,c2,eQ h2 hi hj c3⟩
   ·intro row hrow x hx
    obtain ⟨i,hi⟩:=List.getElem?_of_mem hrow
    obtain ⟨j,hj⟩:=List.getElem?_of_mem hx
    obtain ⟨_,_,_,c⟩:=key i j row x hi hj
    exact c
  have hlow:∀{t:Nat},t<=d->t≠d->∀t' b,t'<=t->b<w.heap.size->¬A t' b->¬Mut γ b->¬A' t' b/\¬Mut γ b :=
   fun h1 h2 t' b h3 _ h4 h5=>⟨hA t' b (by omega) h4,h5⟩
  cases hv with
  | agg _ xs vs hl h1 h2 =>
   simp only[aY] at hsn
   split at hsn
   ·rename_i as has
    injection hsn with hsn;subst hsn
    cases hcx with
    | agg _ hcx =>
     obtain ⟨a,b,c⟩:=hlist has hl hcx h2
     refine ⟨.agg _ _ _ a (fun i x hi=>?_) b,.agg _ c⟩
     obtain ⟨x0,a1,a2⟩:=bm has i x hi
     exact hY a2 (h1 i x0 a1)
   ·cases hsn
  | tup _ xs vs hl h2 =>
   simp only[aY] at hsn
   split at hsn
   ·rename_i as has
    injection hsn with hsn;subst hsn
    cases hcx with
    | tup _ hcx =>
     obtain ⟨a,b,c⟩:=hlist has hl hcx h2
     exact ⟨.tup _ _ _ a b,.tup _ c⟩
   ·cases hsn
  | clo _ g xs ys vs us hl hl2 h1 h2 =>
   simp only[aY] at hsn
   split at hsn
   ·rename_i as cs has hcs
    injection hsn with hsn;subst hsn
    cases hcx with
    | clo _ _ _ hcx hcx2 =>
     obtain ⟨a,b,c⟩:=hlist has hl hcx h1
     obtain ⟨a',b',c'⟩:=hlist hcs hl2 hcx2 h2
     exact ⟨.clo _ _ _ _ _ _ a a' b b',.clo _ _ _ c c'⟩
   ·cases hsn
  | ifc _ t x v h1 =>
   simp only[aY] at hsn
   split at hsn
   ·rename_i a ha
    injection hsn with hsn;subst hsn
    cases hcx with
    | ifc _ _ hcx =>
     obtain ⟨a,b⟩:=ih ha h1 hcx
     exact ⟨.ifc _ _ _ _ a,.ifc _ _ b⟩
   ·cases hsn
  | tsl _ t sz rows b o cap cell ht hc hb hm ha hrl ho' hw hcell hcl =>
   simp only[aY,aa] at hsn
   split at hsn
   ·rename_i htd
    have htd:=ae htd
    split at hsn
    ·rename_i rs hrs
     split at hsn
     ·rename_i m hm'
      injection hsn with hsn;subst hsn
      obtain ⟨r1,r2,r3,r4,r5⟩:=hrows (cell:=cell) hrs hm' hrl ho' (fun i j row x a b=>(hcell i j row x a b).mono ht) hcl
      refine ⟨?_,.tsl _ _ _ r5⟩
      rw[<-r1]
      refine .tsl _ m sz rs b o cap cell r2 (by rw[r1];exact hc) hb hm (hd b (htd ▸ ha) m) r3 (fun i j row x a b=>(r4 i j row x a b).1) (fun i j row x a b=>?_) (fun i j row x a b=>(r4 i j row x a b).2.2) r5
      obtain ⟨_,⟨row0,x0,c1,c2⟩,_⟩:=r4 i j row x a b
      exact hw i j row0 x0 c1 c2
     ·cases hsn
    ·cases hsn
   ·rename_i htd
    injection hsn with hsn;subst hsn
    have htd:t≠d:=fun e=>htd (by rw[e];exact Nat.beq_refl d)
    exact ⟨.tsl _ t sz rows b o cap cell ht hc hb hm (hA t b (by omega) ha) hrl ho' hw (fun i j row x a c=>cx (hcell i j row x a c) (hcl row (List.mem_of_getElem? a) x (List.mem_of_getElem? c)) (hlow ht htd)) hcl,.tsl _ _ _ hcl⟩
  | tnil _ t sz a cap ht =>
   simp only[aY,aa] at hsn
   split at hsn
   ·simp only[aU,bW,fj] at hsn
    injection hsn with hsn;subst hsn
    exact ⟨.tnil _ _ sz a cap (Nat.zero_le _),.tsl _ _ _ fun row h=>by cases h⟩
   ·injection hsn with hsn;subst hsn
    exact ⟨.tnil _ t sz a cap ht,.tsl _ _ _ fun row h=>by cases h⟩
  | tptr _ t sz rows i0 off0 b o cell ht hb hm ha hrl ho' hw hcell hcl =>
   simp only[aY,aa] at hsn
   split at hsn
   ·rename_i htd
    have htd:=ae htd
    split at hsn
    ·rename_i rs hrs
     split at hsn
     ·rename_i m hm'
      injection hsn with hsn;subst hsn
      obtain ⟨r1,r2,r3,r4,r5⟩:=hrows (cell:=cell) hrs hm' hrl ho' (fun i j row x a b=>(hcell i j row x a b).mono ht) hcl
      refine ⟨?_,.tptr _ _ _ _ _ r5⟩
      refine .tptr _ m sz rs i0 off0 b o cell r2 hb hm (hd b (htd ▸ ha) m) r3 (fun i j row x a b=>(r4 i j row x a b).1) (fun i j row x a b=>?_) (fun i j row x a b=>(r4 i j row x a b).2.2) r5
      obtain ⟨_,⟨row0,x0,c1,c2⟩,_⟩:=r4 i j row x a b
      exact hw i j row0 x0 c1 c2
     ·cases hsn
    ·cases hsn
   ·rename_i htd
    injection hsn with hsn;subst hsn
    have htd:t≠d:=fun e=>htd (by rw[e];exact Nat.beq_refl d)
    exact ⟨.tptr _ t sz rows i0 off0 b o cell ht hb hm (hA t b (by omega) ha) hrl ho' hw (fun i j row x a c=>cx (hcell i j row x a c) (hcl row (List.mem_of_getElem? a) x (List.mem_of_getElem? c)) (hlow ht htd)) hcl,.tptr _ _ _ _ _ hcl⟩
  | bool=>simp only[aY] at hsn;injection hsn with hsn;subst hsn;exact ⟨.bool _ _,.bool _⟩
  | int=>simp only[aY] at hsn;injection hsn with hsn;subst hsn;exact ⟨.int _ _ _,.int _ _⟩
  | str=>simp only[aY] at hsn;injection hsn with hsn;subst hsn;exact ⟨.str _ _,.str _⟩
  | nilp=>simp only[aY] at hsn;injection hsn with hsn;subst hsn;exact ⟨.nilp _,.nilp⟩
  | nils=>simp only[aY] at hsn;injection hsn with hsn;subst hsn;exact ⟨.nils _,.nils⟩
  | nilf=>simp only[aY] at hsn;injection hsn with hsn;subst hsn;exact ⟨.nilf _,.nilf⟩
  | nilm=>simp only[aY] at hsn;injection hsn with hsn;subst hsn;exact ⟨.nilm _,.nilm⟩
  | nili=>simp only[aY] at hsn;injection hsn with hsn;subst hsn;exact ⟨.nili _,.nili⟩
  | esl _ a=>simp only[aY] at hsn;injection hsn with hsn;subst hsn;exact ⟨.esl _ a,.esl⟩
  | hsl=>cases hcx
  | hptr=>cases hcx
  | hmap=>cases hcx
  | yld=>cases hcx
theorem ja (s1:w.heap.size<=w'.heap.size)(s2:w'.os=w.os)(s3:w'.tape=w.tape)(s4:w'.output=w.output)
  (hb:∀b,b<w.heap.size->w'.heap[b]?=w.heap[b]?):Stp w γ w' γ :=
 ⟨s1,s2,s3,s4,fun b h _=>hb b h,fun _ _ h=>h,fun _ _=>.inl ⟨rfl,rfl⟩,fun _ _=>⟨Nat.le_refl _,fun _=>⟨rfl,rfl,rfl,rfl,rfl⟩⟩⟩
theorem Rel.same (hr:Rel C A bd w γ hg nx)(s:Stp w γ w' γ)(hb:∀b,b<w.heap.size->w'.heap[b]?=w.heap[b]?):Rel C A bd w' γ hg nx where
 obj id:=(hr.obj id).step s rfl fun hk _=>hb _ (hr.lt id hk).2
 lt id hk:=⟨(hr.lt id hk).1,Nat.lt_of_lt_of_le (hr.lt id hk).2 s.sz⟩
 inj:=hr.inj
 av:=hr.av
 ab t b h:=Nat.lt_of_lt_of_le (hr.ab t b h) s.sz
 glob g sz rows h:=(hr.glob g sz rows h).step s
structure Fin (C:Cfg) (A:Nat->Nat->Prop) (bd:Nat) (w:World) (γ:Gm) (hg:Nat->AObj) (nx:Nat) (g:G) (w':World) (γ':Gm) (hg':Nat->AObj) (g':G):Prop where
 rel:Rel C A bd w' γ' hg' (Nat.max nx g'.nx)
 stp:Stp w γ w' γ'
 new:∃new,g'.lg=new++g.lg/\(∀id∈new,hg' id=g'.h.get id)/\∀id,id ∉ new->hg' id=hg id
structure Mon (g g':G):Prop where
 nx:g.nx<=g'.nx
 new:∃new,g'.lg=new++g.lg/\(∀id,id ∉ new->g'.h.get id=g.h.get id)/\∀id∈new,id<g'.nx/\(g.h.get id=.none->g.nx<=id)
 wf:(∀id,g.nx<=id->g.h.get id=.none)->∀id,g'.nx<=id->g'.h.get id=.none
def WF (g:G):Prop:=∀id,g.nx<=id->g.h.get id=.none
theorem Mon.refl (g:G):Mon g g:=⟨Nat.le_refl _,⟨[],rfl,fun _ _=>rfl,fun _ h=>by cases h⟩,fun h=>h⟩
theorem Mon.trans {g g1 g2:G}(h1:Mon g g1)(h2:Mon g1 g2):Mon g g2:=by
 obtain ⟨n1,a1,b1,c1⟩:=h1.new
 obtain ⟨n2,a2,b2,c2⟩:=h2.new
 refine ⟨Nat.le_trans h1.nx h2.nx,⟨n2++n1,by rw[a2,a1,List.append_assoc],fun id hid=>?_,fun id hid=>?_⟩,fun h=>h2.wf (h1.wf h)⟩
 ·rw[b2 id fun h=>hid (List.mem_append_left _ h),b1 id fun h=>hid (List.mem_append_right _ h)]
 ·by_cases hin:id∈n1
  ·exact ⟨Nat.lt_of_lt_of_le (c1 id hin).1 h2.nx,(c1 id hin).2⟩
  ·rcases List.mem_append.1 hid with h | h
   ·exact ⟨(c2 id h).1,fun hn=>Nat.le_trans h1.nx ((c2 id h).2 (by rw[b1 id hin];exact hn))⟩
   ·exact absurd h hin
def Free (γ:Gm)(g g':G):Prop:=∀id,g.nx<=id->id<=g'.nx->(γ id).kind=0
theorem Fin.refl {g:G}(hr:Rel C A bd w γ hg nx):Fin C A bd w γ hg nx g w γ hg g :=
 ⟨hr.up (Nat.le_max_left _ _),Stp.refl _ _,⟨[],rfl,fun _ h=>absurd h List.not_mem_nil,fun _ _=>rfl⟩⟩
theorem Rel.none_iff (hr:Rel C A bd w γ hg nx)(id:Nat):(γ id).kind=0↔hg id=.none:=by
 have h:=hr.obj id
 constructor
 ·intro hk
  cases ho:hg id with
  | none=>rfl
  | _=>rw[ho] at h;have:=h.1;omega
 ·intro hn;rw[hn] at h;exact h
theorem Fin.freed {g g1 g2:G}{w1:World}{γ1:Gm}{hg1:Nat->AObj}(h1:Fin C A bd w γ hg nx g w1 γ1 hg1 g1)(hr:Rel C A bd w γ hg nx)(m1:Mon g g1)(hf:Free γ g g2):Free γ1 g1 g2:=by
 obtain ⟨n,a,b,c⟩:=h1.new
 obtain ⟨n',a',b',c'⟩:=m1.new
 have e:n'=n:=List.append_cancel_right (a'.symm.trans a)
 subst e
 intro id h2 h3
 have hn:id ∉ n':=fun h=>by have:=(c' id h).1;omega
 rw[h1.rel.none_iff,c id hn,<-hr.none_iff]
 exact hf id (Nat.le_trans m1.nx h2) h3
theorem Free.le {γ:Gm}{g g1 g2:G}(h:Free γ g g2)(hle:g1.nx<=g2.nx):Free γ g g1:=fun id h1 h2=>h id h1 (Nat.le_trans h2 hle)
theorem Fin.ext {g g':G}{hg':Nat->AObj}(h:Fin C A bd w γ hg nx g w' γ' hg' g')(m:Mon g g')(hx:Ext g.h hg):Ext g'.h hg':=by
 obtain ⟨n,a,b,c⟩:=h.new
 obtain ⟨n',a',b',_⟩:=m.new
 have e:n'=n:=List.append_cancel_right (a'.symm.trans a)
 subst e
 intro id hid
 by_cases hin:id∈n'
 ·exact b id hin
 ·rw[c id hin,b' id hin];exact hx id (by rw[<-b' id hin];exact hid)
theorem Fin.trans {g g1 g2:G}{w1 w2:World}{γ1 γ2:Gm}{hg1 hg2:Nat->AObj}(h1:Fin C A bd w γ hg nx g w1 γ1 hg1 g1)
  (h2:Fin C A bd w1 γ1 hg1 (Nat.max nx g1.nx) g1 w2 γ2 hg2 g2) (m1:Mon g g1) (m2:Mon g1 g2):Fin C A bd w γ hg nx g w2 γ2 hg2 g2:=by
 obtain ⟨n1,a1,b1,c1⟩:=h1.new
 obtain ⟨n2,a2,b2,c2⟩:=h2.new
 obtain ⟨n',a',b',_⟩:=m2.new
 have e:n'=n2:=List.append_cancel_right (a'.symm.trans a2)
 subst e
 refine ⟨?_,h1.stp.trans h2.stp,⟨n'++n1,by rw[a2,a1,List.append_assoc],fun id hid=>?_,fun id hid=>?_⟩⟩
 ·refine h2.rel.up (Nat.max_le.2 ⟨Nat.max_le.2 ⟨Nat.le_max_left _ _,Nat.le_trans m2.nx (Nat.le_max_right _ _)⟩,Nat.le_max_right _ _⟩)
 ·by_cases hin:id∈n'
  ·exact b2 id hin
  ·rw[c2 id hin,b' id hin]
   rcases List.mem_append.1 hid with h | h
   ·exact absurd h hin
   ·exact b1 id h
 ·rw[c2 id fun h=>hid (List.mem_append_left _ h),c1 id fun h=>hid (List.mem_append_right _ h)]
def dc (K:CallKind)(cs:List Frame):Prop:=K=.normal\/(K=.deferred/\∃c cs',cs=c::cs'/\(c.mode=.returning\/∃v x older,c.mode=.panicking ({ v,recovered:=true,goexit:=x }::older)))
def Outs (P:Program)(K:CallKind)(f:FuncId)(vs:Array Value)(cs:List Frame)(w:World)(u:Value)(w':World):Prop :=
 ∃fr,Steps P (lone (Frame.enter P f vs K) cs w) (lone fr cs w')/\fr.mode=.returning/\fr.defers=[]/\fr.kind=K/\fr.fn=f /\
  ∃fn,P.funcs[f]?=some fn/\(results fn fr.tmps).run P w'=.ok u w'
def Enters (P:Program)(f:FuncId):Prop:=∀args w,(callFunc f args).run P w=.ok (.enter f args) w
def fY (C:Cfg)(bd:Nat)(f:FuncId)(as:List AV)(g:G)(v:AV)(g':G):Prop :=
 ∀A w γ hg nx vs,Rel C A bd w γ hg nx->Ext g.h hg->WF g->Free γ g g'->RVs w γ A bd as vs->∀K cs,dc K cs ->
  ∃u w' γ' hg',Fin C A bd w γ hg nx g w' γ' hg' g'/\RV w' γ' A bd v u/\Outs C.P K f vs.toArray cs w u w'
def iL (C:Cfg)(ih:IH):Prop :=
 ∀bd f as g v g',ih.call (bd+1) f as g=.ok v g'->Enters C.P f/\fY C bd f as g v g'
def fX (ih:IH):Prop:=∀d f as g v g',ih.call d f as g=.ok v g'->WF g->Mon g g'
theorem gZ:∀(ids:List Nat) (g:G),WF g->Mon g (aM g ids):=by
 intro ids
 induction ids with
 | nil=>intro g _;exact Mon.refl g
 | cons i is ih =>
  intro g hwf
  simp only[aM]
  split
  ·rename_i sz rows ep lo fz hget
   have hi:i<g.nx:=Nat.lt_of_not_le fun h=>by
    have:=hwf i h
    rw[<-G.get_eq,hget] at this;cases this
   refine Mon.trans ⟨by simp,⟨[i],by simp,fun id hid=>?_,fun id hid=>?_⟩,fun h id hid=>?_⟩ (ih _ fun id hid=>?_)
   ·simp only[G.put_h,H.get_put];rw[if_neg];simpa using hid
   ·simp at hid;subst hid;exact ⟨by simpa using hi,fun hn=>by rw[<-G.get_eq,hget] at hn;cases hn⟩
   ·simp only[G.put_nx] at hid
    simp only[G.put_h,H.get_put];rw[if_neg (by omega)];exact h id hid
   ·simp only[G.put_nx] at hid
    simp only[G.put_h,H.get_put];rw[if_neg (by omega)];exact hwf id hid
  ·exact ih g hwf
theorem hD:∀(ids:List Nat) (g:G) (γ:Gm) (hg:Nat->AObj),Rel C A bd w γ hg nx->(∀id∈ids,g.h.get id≠.none->hg id=g.h.get id) ->
  ∃γ₁ hg₁,Rel C A bd w γ₁ hg₁ nx/\Stp w γ w γ₁/\(aM g ids).nx=g.nx /\
   (∃new,(aM g ids).lg=new++g.lg/\(∀id∈new,hg₁ id=(aM g ids).h.get id)/\(∀id,id ∉ new->hg₁ id=hg id)) /\
   (∀id,(γ₁ id).kind=(γ id).kind/\(γ₁ id).blk=(γ id).blk/\((γ₁ id).wr=true->(γ id).wr=true)) /\
   (∀id∈ids,(∃sz rows ep lo fz,g.h.get id=.cells sz rows ep lo fz)->(γ₁ id).wr=false):=by
 intro ids
 induction ids with
 | nil =>
  intro g γ hg hr hx
  exact ⟨γ,hg,hr,Stp.refl _ _,rfl,⟨[],rfl,fun _ h=>absurd h List.not_mem_nil,fun _ _=>rfl⟩,fun _=>⟨rfl,rfl,fun h=>h⟩,fun _ h=>by cases h⟩
 | cons i is ih =>
  intro g γ hg hr hx
  simp only[aM]
  split
  ·rename_i sz rows ep lo fz hget
   have hget':g.h.get i=.cells sz rows ep lo fz:=by simpa using hget
   have hid:hg i=.cells sz rows ep lo fz:=by rw[hx i List.mem_cons_self (by rw[hget'];simp),hget']
   obtain ⟨γ₀,r0,s0,e0,m0⟩:=hr.freeze hid
   have hx0:∀id∈is,(g.put i (.cells sz rows ep lo true)).h.get id≠.none->upd hg i (.cells sz rows ep lo true) id=(g.put i (.cells sz rows ep lo true)).h.get id:=by
    intro id hin hne
    simp only[G.put_h,H.get_put] at hne ⊢
    unfold upd
    by_cases hi:id=i
    ·simp[hi]
    ·simp only[hi,if_false] at hne ⊢;exact hx id (List.mem_cons_of_mem _ hin) hne
   obtain ⟨γ₁,hg₁,r1,s1,n1,⟨new,l1,l2,l3⟩,f1,f2⟩:=ih _ γ₀ _ r0 hx0
   refine ⟨γ₁,hg₁,r1,s0.trans s1,by rw[n1];simp,⟨new++[i],by rw[l1];simp,fun id hid'=>?_,fun id hid'=>?_⟩,fun id=>?_,fun id hid' hc=>?_⟩
   ·by_cases hin:id∈new
    ·exact l2 id hin
    ·have hi:id=i:=by
      rcases List.mem_append.1 hid' with h | h
      ·exact absurd h hin
      ·simpa using h
     subst hi
     rw[l3 id hin]
     simp only[upd_same]
     by_cases hwf:∃new',(aM (g.put id (.cells sz rows ep lo true)) is).lg=new'++(g.put id (.cells sz rows ep lo true)).lg/\∀k,k ∉ new'->(aM (g.put id (.cells sz rows ep lo true)) is).h.get k=(g.put id (.cells sz rows ep lo true)).h.get k
     ·obtain ⟨new',q1,q2⟩:=hwf
      have e:new'=new:=List.append_cancel_right (q1.symm.trans l1)
      rw[q2 id (e ▸ hin)]
      simp[H.get_put]
     ·exact absurd (freezeIds_log is _) hwf
   ·rw[l3 id fun h=>hid' (List.mem_append_left _ h)]
    exact aN _ _ (by rintro rfl;exact hid' (List.mem_append_right _ List.mem_cons_self))
   ·obtain ⟨a,b,c⟩:=f1 id
    rw[e0] at a b c
    unfold upd at a b c
    by_cases hi:id=i
    ·subst hi;simp at a b c;exact ⟨a,b,fun h=>by rw[c] at h;cases h⟩
    ·simp only[hi,if_false] at a b c;exact ⟨a,b,c⟩
   ·rcases List.mem_cons.1 hid' with rfl | hin
    ·have:=(f1 id).2.2
     rw[e0] at this
     simp at this
     simpa using this
    ·by_cases hi:id=i
     ·subst hi
      have:=(f1 id).2.2
      rw[e0] at this
      simp at this
      simpa using this
     ·refine f2 id hin ?_
      simp only[G.put_h,H.get_put,hi,if_false];exact hc
  ·rename_i hne
   obtain ⟨γ₁,hg₁,r1,s1,n1,l,f1,f2⟩:=ih g γ hg hr fun id hin=>hx id (List.mem_cons_of_mem _ hin)
   refine ⟨γ₁,hg₁,r1,s1,n1,l,f1,fun id hid' hc=>?_⟩
   rcases List.mem_cons.1 hid' with rfl | hin
   ·obtain ⟨sz,rows,ep,lo,fz,hc⟩:=hc
    exact absurd (by simpa using hc) (hne sz rows ep lo fz)
   ·exact f2 id hin hc where
 freezeIds_log:∀(ids:List Nat) (g:G),∃new',(aM g ids).lg=new'++g.lg/\∀k,k ∉ new'->(aM g ids).h.get k=g.h.get k:=by
  intro ids
  induction ids with
  | nil=>intro g;exact ⟨[],rfl,fun _ _=>rfl⟩
  | cons i is ih =>
   intro g
   simp only[aM]
   split
   ·rename_i sz rows ep lo fz hget
    obtain ⟨new,a,b⟩:=ih (g.put i (.cells sz rows ep lo true))
    refine ⟨new++[i],by rw[a];simp,fun k hk=>?_⟩
    rw[b k fun h=>hk (List.mem_append_left _ h)]
    simp only[G.put_h,H.get_put]
    rw[if_neg]
    rintro rfl;exact hk (List.mem_append_right _ List.mem_cons_self)
   ·exact ih g
def gOf (g:G):OR->G
 | .upd _ g'=>g'
 | _=>g
def vOf:OR->AV
 | .upd v _=>v
 | .val v=>v
 | _=>.undef
theorem b8 {ih:IH}{d:Nat}{g:G}{f:Nat}{args:List AV}(hwf:WF g):Mon g (gOf g (aD ih d g f args)):=by
 unfold aD
 split
 ·exact Mon.refl g
 split
 ·exact Mon.refl g
 split
 ·exact Mon.refl g
 split
 ·exact Mon.refl g
 rw[aa]
 split
 ·exact Mon.refl g
 split
 ·exact Mon.refl g
 split
 ·exact Mon.refl g
 rw[aa]
 split
 ·exact gZ _ _ hwf
 ·exact Mon.refl g
theorem cR {ih:IH}{g:G}{f:Nat}{args:List AV}{vs:List Value}(hc:iL C ih)(hm:fX ih)(hr:Rel C A bd w γ hg nx)
  (hx:∀id∈args.flatMap (au g.h aA),g.h.get id≠.none->hg id=g.h.get id)
  (hv:RVs w γ A bd args vs) (hne:aD ih (bd+1) g f args≠.fail) (cs:List Frame) :
  Enters C.P f/\∃u w' γ' hg',Fin C A bd w γ hg nx g w' γ' hg' (gOf g (aD ih (bd+1) g f args))/\RV w' γ' A bd (vOf (aD ih (bd+1) g f args)) u /\
   Outs C.P .normal f vs.toArray cs w u w':=by
 let γc:Gm:=fun _=>⟨0,0,0,0,0,0,0,false⟩
 let L:Nat->Prop:=fun id=>id∈args.flatMap (au g.h aA)
 let isC:Nat->Prop:=fun id=>∃sz rows ep lo fz,g.h.get id=.cells sz rows ep lo fz
 let Ac:Nat->Nat->Prop:=fun t b=>(t<=bd/\(A t b\/Mut γ b))\/(t=bd+1/\b<w.heap.size/\¬∃id,L id/\isC id/\(γ id).kind=1/\(γ id).blk=b)
 have hmutc:∀b,¬Mut γc b:=by rintro b ⟨id,h,_⟩;exact h rfl
 generalize hres:aD ih (bd+1) g f args=res at *
 unfold aD at hres
 split at hres
 ·exact absurd hres.symm hne
 rename_i as has
 have hshift:∀t b,t<=bd->b<w.heap.size->¬A t b->¬Mut γ b->¬Ac t b/\¬Mut γc b:=by
  intro t b h1 _ h2 h3
  refine ⟨?_,hmutc b⟩
  rintro (⟨_,h | h⟩ | ⟨h,_⟩)
  ·exact h2 h
  ·exact h3 h
  ·omega
 have hargs:RVs w γc Ac (bd+1) as vs:=by
  refine ⟨by rw[cB has];exact hv.1,fun i y v hy hvi=>?_⟩
  obtain ⟨x,h1,h2⟩:=bm has i y hy
  refine (j3 (L:=L) hr hx (Nat.le_succ _) (Nat.le_refl _) hshift ?_ aA h2 (hv.2 i x v h1 hvi) fun id hid=>List.mem_flatMap.2 ⟨x,List.mem_of_getElem? h1,hid⟩).1
  intro id hL hcell hk t h3 h4
  have ht:t=bd+1:=Nat.le_antisymm h4 h3
  refine ⟨?_,hmutc _⟩
  rintro (⟨h,_⟩ | ⟨_,_,h⟩)
  ·omega
  ·exact h ⟨id,hL,hcell,hk,rfl⟩
 have hrc:Rel C Ac (bd+1) w γc (fun _=>.none) 0:=by
  refine ⟨fun id=>rfl,fun id h=>absurd rfl h,fun i j h=>absurd rfl h,fun id h=>absurd rfl h,?_,fun gl sz rows h=>?_⟩
  ·rintro t b (⟨_,h | ⟨id,h1,h2,h3⟩⟩ | ⟨_,h,_⟩)
   ·exact hr.ab t b h
   ·rw[<-h3];exact (hr.lt id h1).2
   ·exact h
  ·have:=hr.glob gl sz rows h
   exact (cx this (gG this (.inr ⟨_,_,_,_,_,rfl⟩)) hshift).mono (Nat.le_succ _)
 split at hres
 ·exact absurd hres.symm hne
 rename_i r g' hcall
 have hempty:G.empty.h.get=fun _=>AObj.none:=by
  funext id;simp[G.empty,H.get,Tr.get_nil]
 obtain ⟨hent,hrun⟩:=hc (bd+1) f as G.empty r g' hcall
 refine ⟨hent,?_⟩
 obtain ⟨u,w',γ',hg',hfin,hru,hout⟩:=hrun Ac w γc (fun _=>.none) 0 vs hrc (fun id h=>by rw[hempty] at h;exact absurd rfl h) (fun id _=>by rw[hempty])
  (fun _ _ _=>rfl) hargs .normal cs (.inl rfl)
 have hextc:Ext g'.h hg':=hfin.ext (hm _ _ _ _ _ _ hcall (fun id _=>by rw[hempty])) (fun id h=>by rw[hempty] at h;exact absurd rfl h)
 have hsame:∀b,b<w.heap.size->w'.heap[b]?=w.heap[b]?:=fun b hb=>hfin.stp.fr b hb (hmutc b)
 have hstp:Stp w γ w' γ:=ja hfin.stp.sz hfin.stp.os hfin.stp.tape hfin.stp.output hsame
 have hrw:Rel C A bd w' γ hg nx:=hr.same hstp hsame
 split at hres
 ·exact absurd hres.symm hne
 rename_i r' hsnap
 obtain ⟨hr',hcl⟩:=j3 (A':=Ac) (γ':=γc) (L:=fun _=>True) hfin.rel (fun id _=>hextc id) (Nat.le_refl _) (Nat.zero_le _) (fun t b _ _ h _=>⟨h,hmutc b⟩)
  (fun id _ _ hk t _ _=>⟨hfin.rel.av id (by rw[hk];decide) t,hmutc _⟩) aA hsnap hru fun _ _=>trivial
 split at hres
 ·exact absurd hres.symm hne
 rename_i m hm
 have hrm:=iM _ hm hr'
 rw[aa] at hres
 split at hres
 ·rename_i hlt
  rw[Nat.blt_eq] at hlt
  subst hres
  refine ⟨u,w',γ,hg,⟨hrw.up (Nat.le_max_left _ _),hstp,⟨[],rfl,fun _ h=>absurd h List.not_mem_nil,fun _ _=>rfl⟩⟩,?_,hout⟩
  refine (cx hrm hcl fun t b h1 h2 h3 h4=>⟨fun h=>h3 (.inl ⟨by omega,.inl h⟩),fun h=>h3 (.inl ⟨by omega,.inr h⟩)⟩).mono (by omega)
 ·split at hres
  ·exact absurd hres.symm hne
  rename_i r'' hun
  split at hres
  ·exact absurd hres.symm hne
  rename_i m' hm'
  rw[aa] at hres
  split at hres
  rotate_left
  ·exact absurd hres.symm hne
  rename_i hlt
  rw[Nat.blt_eq] at hlt
  subst hres
  obtain ⟨γ₁,hg₁,r1,s1,n1,⟨new,l1,l2,l3⟩,f1,f2⟩:=hD (args.flatMap (au g.h aA)) g γ hg hrw hx
  have hmut:∀b,Mut γ₁ b->Mut γ b:=by
   rintro b ⟨id,h1,h2,h3⟩
   obtain ⟨e1,e2,e3⟩:=f1 id
   exact ⟨id,by rw[<-e1];exact h1,e3 h2,by rw[<-e2];exact h3⟩
  refine ⟨u,w',γ₁,hg₁,⟨r1.up (Nat.le_max_left _ _),hstp.trans s1,⟨new,l1,l2,l3⟩⟩,?_,hout⟩
  let A₁:Nat->Nat->Prop:=fun t b=>if t=bd+1 then ∃t',A t' b else A t b
  have hmle:m<=bd+1:=fT _ hm hr'
  have hsh:RV w' γ₁ A₁ m r' u:=by
   refine cx hrm hcl fun t b h1 h2 h3 _=>?_
   by_cases ht:t=bd+1
   ·have hb:w.heap.size<=b\/∃id,L id/\isC id/\(γ id).kind=1/\(γ id).blk=b:=by
     by_cases hs:w.heap.size<=b
     ·exact .inl hs
     ·exact .inr (Classical.byContradiction fun hn=>h3 (.inr ⟨ht,by omega,hn⟩))
    rcases hb with hb | ⟨id,q1,q2,q3,q4⟩
    ·refine ⟨?_,fun hmu=>?_⟩
     ·simp only[A₁,ht,if_true]
      rintro ⟨t',h⟩
      have:=hr.ab t' b h
      omega
     ·obtain ⟨id,p1,p2,p3⟩:=hmut b hmu
      have:=(hr.lt id p1).2
      omega
    ·refine ⟨?_,?_⟩
     ·simp only[A₁,ht,if_true]
      rintro ⟨t',h⟩
      rw[<-q4] at h
      exact hr.av id (by rw[q3];decide) t' h
     ·rintro ⟨j,p1,p2,p3⟩
      obtain ⟨e1,e2,e3⟩:=f1 j
      have hj:j=id:=hr.inj j id (by rw[<-e1];exact p1) (by rw[q3];decide) (by rw[<-e2,p3,q4])
      subst hj
      rw[f2 j q1 q2] at p2;cases p2
   ·refine ⟨?_,fun h=>h3 (.inl ⟨by omega,.inr (hmut b h)⟩)⟩
    simp only[A₁,ht,if_false]
    exact fun h=>h3 (.inl ⟨by omega,.inl h⟩)
  obtain ⟨hf1,_⟩:=k_ (A':=A) (d:=bd+1) (fun t b h1 h2=>by simp only[A₁,show t≠bd+1 by omega,if_false] at h2;exact h2)
   (fun b h2 t ht=>h2 (by simp only[A₁,if_true];exact ⟨t,ht⟩)) aA hun (hsh.mono hmle) hcl
  exact (iM _ hm' hf1).mono (by omega)
end
end Hx
end
section
namespace Hx
open Go
section
variable {C:Cfg}
theorem Mon.put {g:G}{id:Nat}{o:AObj}(hwf:WF g)(hid:g.h.get id≠.none):Mon g (g.put id o):=by
 have hi:id<g.nx:=Nat.lt_of_not_le fun h=>hid (hwf id h)
 refine ⟨by simp,⟨[id],by simp,fun k hk=>?_,fun k hk=>?_⟩,fun h k hk=>?_⟩
 ·simp only[G.put_h,H.get_put];rw[if_neg];simpa using hk
 ·simp at hk;subst hk;exact ⟨by simpa using hi,fun hn=>absurd hn hid⟩
 ·simp only[G.put_nx] at hk
  simp only[G.put_h,H.get_put];rw[if_neg (by omega)];exact h k hk
theorem Mon.mk' {g:G}{o:AObj}:Mon g (g.new o):=by
 refine ⟨by simp,⟨[g.nx],by simp,fun k hk=>?_,fun k hk=>?_⟩,fun h k hk=>?_⟩
 ·simp only[G.new_h,H.get_put];rw[if_neg];simpa using hk
 ·simp at hk;subst hk;simp
 ·simp only[G.new_nx] at hk
  simp only[G.new_h,H.get_put];rw[if_neg (by omega)];exact h k (by omega)
def Small (g:G):OR->Prop
 | .fail=>True
 | .val _=>True
 | .upd _ g'=>(∃id ob,g'=g.put id ob/\g.h.get id≠.none)\/∃ob,g'=g.new ob
 | .dfr _=>False
theorem Small.mon {g:G}{r:OR}(h:Small g r)(hwf:WF g):Mon g (gOf g r):=by
 cases r with
 | upd v g' =>
  rcases h with ⟨id,ob,rfl,h⟩ | ⟨ob,rfl⟩
  ·exact Mon.put hwf h
  ·exact Mon.mk'
 | _=>exact Mon.refl g
variable {op:Op}{t:T}{g:G}{f:Stg SFn}
theorem cq (x:Option AV):Small g (orV x):=by cases x<;>trivial
theorem fE (sz bytes:Nat)(s:AV)(new:List (List AV)):Small g (aT sz bytes s new g):=by
 unfold aT
 simp only[aa]
 repeat' split
 all_goals first
  | trivial
  | exact .inr ⟨_,rfl⟩
  | exact .inl ⟨_,_,rfl,fun hn=>by simp_all⟩
theorem kf {P:Program}{op:BinOp}{ty:TypeId}{x y:AV}:Small g ((ky P op ty).run x y):=by
 unfold ky
 split
 ·split
  ·dsimp only;split<;>first | exact cq _ | trivial
  ·dsimp only;split<;>trivial
 ·split
  ·dsimp only;split<;>first | exact cq _ | trivial
  ·dsimp only;split<;>trivial
 ·dsimp only;split<;>first | exact cq _ | trivial
theorem lw {op:UnOp}{x:AV}:Small g ((unA op).run x):=by
 unfold unA
 split
 ·dsimp only;split<;>trivial
 ·dsimp only;split<;>first | exact cq _ | trivial
theorem fI (h:fh C op=some f):Small g (f.run t g):=by
 cases op<;>simp only[fh] at h<;>first | (cases h;done) | skip
 case call c =>
  obtain ⟨callee,args,argTypes⟩:=c
  cases callee<;>first | (cases h;done) | skip
  rename_i b
  dsimp only at h
  unfold bF at h
  split at h
  all_goals
   repeat' (first | split at h | (rw[aa] at h;split at h))
   all_goals first | (cases h;done) | skip
   all_goals (injection h with h;subst h)
   all_goals dsimp only[jW,e7,e_,iS,kU,gC]
   all_goals try simp only[aa]
   all_goals repeat' split
   all_goals first
    | trivial
    | exact fE _ _ _ _
    | exact .inr ⟨_,rfl⟩
    | exact .inl ⟨_,_,rfl,fun hn=>by simp_all⟩
 all_goals
  repeat' (first | split at h | (rw[aa] at h;split at h))
  all_goals first | (cases h;done) | skip
  all_goals first | (injection h with h;subst h) | (exfalso;injections;done) | (rename_i heq _;cases heq)
  all_goals dsimp only[f9,fB,ip,lE,eS,b_,cD,dt,dT,gM,dj,cA,a9,bk,bq,bE,ck]
  all_goals first
   | exact cq _
   | exact kf
   | exact lw
   | skip
  all_goals try simp only[aa]
  all_goals repeat' split
  all_goals first
   | trivial
   | exact cq _
   | exact .inr ⟨_,rfl⟩
   | exact .inl ⟨_,_,rfl,fun hn=>by simp_all⟩
   | skip
def bb (C:Cfg):Prop:=∀f e,C.ext f=some e->∀d args g,WF g->Mon g (gOf g (e d args g))
structure IHMon (ih:IH):Prop where
 code:∀nt d rd c t df g e t' df' g',ih.code nt d rd c t df g=.ok e t' df' g'->WF g->Mon g g'
 call:fX ih
variable {ih:IH}
theorem jz (hi:IHMon ih){d id:Nat}{args:List AV}{g:G}(hwf:WF g):Mon g (gOf g (dy ih d id args g)):=by
 unfold dy
 split
 ·split
  ·exact Mon.refl g
  ·split
   ·rename_i t1 g1 h1
    have m1:=hi.code _ _ _ _ _ _ _ _ _ _ _ h1 hwf
    have w1:WF g1:=m1.wf hwf
    split
    ·rename_i hget
     split
     ·rename_i g2 h2
      have hne:g1.h.get id≠.none:=by rw[<-G.get_eq,hget];simp
      have m2:=fun o=>Mon.put (o:=o) w1 hne
      have m3:=hi.code _ _ _ _ _ _ _ _ _ _ _ h2 ((m2 _).wf w1)
      have m4:=m1.trans ((m2 _).trans m3)
      split
      ·rename_i hget2
       have hne2:g2.h.get id≠.none:=by rw[<-G.get_eq,hget2];simp
       split
       all_goals exact m4.trans (Mon.put (m4.wf hwf) hne2)
      ·exact Mon.refl g
     ·exact Mon.refl g
    ·exact Mon.refl g
   ·exact Mon.refl g
 ·exact Mon.refl g
theorem kb {g:G}{r:FR}(h:∀v g',r=.ok v g'->Mon g g'):Mon g (gOf g (orF r)):=by
 cases r with
 | fail=>exact Mon.refl g
 | ok v g'=>exact h v g' rfl
theorem kE (he:bb C)(hi:IHMon ih){d:Nat}{fv:AV}{vs:List AV}{g:G}(hwf:WF g):Mon g (gOf g (fg C ih d fv vs g)):=by
 unfold fg
 split
 ·split
  ·rename_i e h;exact he _ e h _ _ g hwf
  ·rw[aa]
   split
   ·exact b8 hwf
   ·exact kb fun v g' h=>hi.call _ _ _ _ _ _ h hwf
 ·exact jz hi hwf
 ·exact Mon.refl g
theorem lX (he:bb C)(hi:IHMon ih){op:Op}{f:Stg me}(h:cOp C op=some f){d:Nat}{rd:Option Nat}{t:T}{g:G}(hwf:WF g) :
  Mon g (gOf g (f.run ih d rd t g)):=by
 unfold cOp at h
 split at h
 ·split at h
  ·split at h
   ·rename_i e hext;injection h with h;subst h
    exact he _ e hext _ _ g hwf
   ·rw[aa] at h
    split at h
    ·injection h with h;subst h;exact b8 hwf
    ·injection h with h;subst h;exact kb fun v g' h=>hi.call _ _ _ _ _ _ h hwf
  ·cases h
 ·split at h
  ·injection h with h;subst h;exact kE he hi hwf
  ·cases h
 ·injection h with h;subst h;exact Mon.refl g
 ·split at h
  ·injection h with h;subst h
   dsimp only
   split
   ·exact Mon.refl g
   ·split<;>exact Mon.refl g
  ·cases h
 ·split at h
  ·rename_i s hs;injection h with h;subst h
   exact (fI hs).mon hwf
  ·cases h
theorem bM (he:bb C)(hi:IHMon ih){op:Op}{d:Nat}{rd:Option Nat}{t:T}{g:G}(hwf:WF g) :
  Mon g (gOf g ((bu C op).run ih d rd t g)):=by
 unfold bu
 split
 ·rename_i f hf;exact lX he hi hf hwf
 ·exact Mon.refl g
theorem gm {out:T->AV->T}{next:T->List ADf->G->CR}{t:T}{df:List ADf}{g:G}{r:OR}{e:Ex}{t':T}{df':List ADf}{g':G}
  (h:gT out next t df g r=.ok e t' df' g') (hwf:WF g) (hr:Mon g (gOf g r)) (hn:∀t df g1,next t df g1=.ok e t' df' g'->WF g1->Mon g1 g'):Mon g g':=by
 cases r with
 | fail=>cases h
 | val v=>exact hn _ _ _ h hwf
 | upd v g1=>exact hr.trans (hn _ _ _ h (hr.wf hwf))
 | dfr a=>exact hn _ _ _ h hwf
theorem gr (he:bb C)(hi:IHMon ih){nt:Nat}{all:List Oper}:∀{ops:List Oper} {d:Nat} {rd:Option Nat} {t:T} {df:List ADf} {g:G} {e:Ex} {t':T} {df':List ADf} {g':G},
  (dE C nt all ops).run ih d rd t df g=.ok e t' df' g'->WF g->Mon g g':=by
 intro ops
 induction ops with
 | nil=>intro d rd t df g e t' df' g' h _;simp only[dE] at h;injection h with _ _ _ h;subst h;exact Mon.refl _
 | cons o rest ihl =>
  intro d rd t df g e t' df' g' h hwf
  simp only[dE] at h
  split at h
  ·split at h
   ·exact gm h hwf (bM he hi hwf) fun _ _ _ h1 h2=>ihl h1 h2
   ·split at h
    ·dsimp only at h
     split at h
     ·exact gm h hwf (bM he hi hwf) fun _ _ _ h1 h2=>ihl h1 h2
     ·exact ihl h hwf
     ·cases h
    ·cases h
  ·cases h
theorem WF.setLog {g:G}{l:List Nat}(h:WF g):WF (aC g l):=fun id hid=>by
 simp only[setLog_nx] at hid;simp only[setLog_h];exact h id hid
theorem Mon.bump {g:G}:Mon g (fa g g.lg) :=
 ⟨by simp,⟨[],by simp,fun id _=>by simp,fun _ h=>absurd h List.not_mem_nil⟩,fun h id hid=>by simp only[bumpG_nx] at hid;simp only[bumpG_h];exact h id (by omega)⟩
theorem Mon.relog {g g1:G}(h:Mon (aC g []) g1):Mon g (fa g1 (g1.lg++g.lg)):=by
 obtain ⟨n,a,b,c⟩:=h.new
 have hnx:g.nx<=g1.nx:=by simpa using h.nx
 refine ⟨by simp;omega,⟨g1.lg,by simp,fun id hid=>?_,fun id hid=>?_⟩,fun hw id hid=>?_⟩
 ·have e:g1.lg=n:=by simpa using a
  rw[e] at hid
  have:=b id hid
  simpa using this
 ·have e:g1.lg=n:=by simpa using a
  rw[e] at hid
  have:=c id hid
  simp only[setLog_h,setLog_nx] at this
  exact ⟨by simp;omega,this.2⟩
 ·simp only[bumpG_nx] at hid
  simp only[bumpG_h]
  exact h.wf (fun k hk=>by simp only[setLog_nx] at hk;simp only[setLog_h];exact hw k hk) id (by omega)
theorem kz (he:bb C)(hi:IHMon ih){nt:Nat}{pm:List Nat}{all:List Oper}:∀{ops:List Oper} {i d:Nat} {rd:Option Nat} {t:T} {df:List ADf} {g:G} {fs:List Foot} {e:Ex} {t':T} {df':List ADf} {g':G},
  (ey C nt pm all i ops).run ih d rd t df g fs=.ok e t' df' g'->WF g->Mon g g':=by
 intro ops
 induction ops with
 | nil =>
  intro i d rd t df g fs e t' df' g' h _
  simp only[ey,aa] at h
  split at h
  ·injection h with _ _ _ h;subst h;exact Mon.refl _
  ·cases h
 | cons o rest ihl =>
  intro i d rd t df g fs e t' df' g' h hwf
  simp only[ey] at h
  split at h
  ·dsimp only at h
   split at h
   ·have hm:=bM (op:=o.op) (d:=d) (rd:=rd) (t:=t) he hi (hwf.setLog (l:=[]))
    generalize (bu C o.op).run ih d rd t (aC g [])=r at h hm
    cases r with
    | fail=>cases h
    | val v=>exact Mon.bump.trans (ihl h (Mon.bump.wf hwf))
    | upd v g1 =>
     have m1:=Mon.relog hm
     exact m1.trans (ihl h (m1.wf hwf))
    | dfr a=>cases h
   ·exact ihl h hwf
   ·cases h
  ·cases h
theorem ji (he:bb C)(hi:IHMon ih){nt:Nat}{ops:List Oper}{draw:Bool}{d:Nat}{rd:Option Nat}{t:T}{df:List ADf}{g:G}{e:Ex}{t':T}{df':List ADf}{g':G}
  (h:(eZ C nt ops draw).run ih d rd t df g=.ok e t' df' g') (hwf:WF g):Mon g g':=by
 unfold eZ at h
 rw[aa] at h
 split at h
 ·rw[aa] at h
  split at h
  ·rw[aa] at h
   split at h
   ·dsimp only at h
    unfold gn at h
    split at h
    ·split at h
     ·rw[aa] at h
      split at h
      ·injection h with _ _ _ h;subst h;exact Mon.refl _
      ·cases h
     ·cases h
    ·cases h
   ·exact kz he hi h hwf
  ·cases h
 ·exact gr he hi h hwf
theorem fe (hi:IHMon ih){nt d:Nat}{rd:Option Nat}{id:Nat}{t:T}{df:List ADf}{g:G}{e:Ex}{t':T}{df':List ADf}{g':G}
  (h:eX ih nt d rd id t df g=.ok e t' df' g') (hwf:WF g):Mon g g':=by
 unfold eX at h
 split at h
 ·rename_i hget
  have hne:g.h.get id≠.none:=by rw[<-G.get_eq,hget];simp
  have m:∀o,Mon g (g.put id o):=fun o=>Mon.put hwf hne
  split at h
  ·cases h
  ·split at h
   ·injection h with _ _ _ h;subst h;exact m _
   ·exact (m _).trans (hi.code _ _ _ _ _ _ _ _ _ _ _ h ((m _).wf hwf))
 ·cases h
theorem cX (hi:IHMon ih){nt d:Nat}{rd:Option Nat}{fv:AV}{ps:List Nat}{assign body:Code}{t:T}{df:List ADf}{dfr:Nat}{g:G}{e:Ex}{t':T}{df':List ADf}{g':G}
  (h:co C ih nt d rd fv ps assign body t df dfr g=.ok e t' df' g') (hwf:WF g):Mon g g':=by
 unfold co at h
 split at h
 ·rw[aa] at h
  split at h
  ·cases h
  ·split at h
   ·rename_i v g2 h2
    have m1:Mon g (g.new (.loop nt t ps assign body dfr .ready none)):=Mon.mk'
    have m2:=hi.call _ _ _ _ _ _ h2 (m1.wf hwf)
    have m3:=m1.trans m2
    exact m3.trans (fe hi h (m3.wf hwf))
   ·cases h
 ·cases h
theorem jp (hi:IHMon ih){nt d:Nat}{rd:Option Nat}{fo:T->AV}{ps:List Nat}{assign body:Code}{t:T}{df:List ADf}{g:G}{e:Ex}{t':T}{df':List ADf}{g':G}
  (h:gx C nt fo ps assign body ih d rd t df g=.ok e t' df' g') (hwf:WF g):Mon g g':=by
 unfold gx at h
 split at h
 ·split at h
  ·exact cX hi h hwf
  ·cases h
 ·have m1:Mon g (g.new (.dfr true)):=Mon.mk'
  exact m1.trans (cX hi h (m1.wf hwf))
theorem bV (he:bb C)(hi:IHMon ih){nt:Nat}:∀(c:Code) {d:Nat} {rd:Option Nat} {t:T} {df:List ADf} {g:G} {e:Ex} {t':T} {df':List ADf} {g':G},
  (aI C nt c).run ih d rd t df g=.ok e t' df' g'->WF g->Mon g g':=by
 intro c
 have now:∀{e e':Ex} {t t':T} {df df':List ADf} {g g':G},CR.ok e' t df g=.ok e t' df' g'->Mon g g':=by
  intro e e' t t' df df' g g' h;injection h with _ _ _ h;subst h;exact Mon.refl _
 induction c with
 | skip=>intro d rd t df g e t' df' g' h _;exact now h
 | label l=>intro d rd t df g e t' df' g' h _;exact now h
 | region id ops draw=>intro d rd t df g e t' df' g' h hwf;exact ji he hi h hwf
 | seq a b iha ihb =>
  intro d rd t df g e t' df' g' h hwf
  simp only[aI] at h
  generalize hr:(aI C nt a).run ih d rd t df g=r at h
  cases r with
  | fail=>cases h
  | ok e1 t1 df1 g1 =>
   have m1:=iha hr hwf
   cases e1 with
   | norm=>exact m1.trans (ihb h (m1.wf hwf))
   | exit j=>exact m1.trans (now h)
   | ret=>exact m1.trans (now h)
 | cond c a b iha ihb =>
  intro d rd t df g e t' df' g' h hwf
  simp only[aI] at h
  split at h
  ·dsimp only at h
   split at h
   ·rw[aa] at h
    split at h
    ·exact iha h hwf
    ·exact ihb h hwf
   ·cases h
  ·cases h
 | block id body ihb =>
  intro d rd t df g e t' df' g' h hwf
  simp only[aI] at h
  generalize hr:(aI C nt body).run ih d rd t df g=r at h
  cases r with
  | fail=>cases h
  | ok e1 t1 df1 g1 =>
   have m1:=ihb hr hwf
   cases e1 with
   | norm=>exact m1.trans (now h)
   | exit j =>
    simp only[jv,aa] at h
    split at h
    ·exact m1.trans (now h)
    ·exact m1.trans (now h)
   | ret=>exact m1.trans (now h)
 | loop body ihb =>
  intro d rd t df g e t' df' g' h hwf
  simp only[aI] at h
  generalize hr:(aI C nt body).run ih d rd t df g=r at h
  cases r with
  | fail=>cases h
  | ok e1 t1 df1 g1 =>
   have m1:=ihb hr hwf
   cases e1 with
   | norm=>exact m1.trans (hi.code _ _ _ _ _ _ _ _ _ _ _ h (m1.wf hwf))
   | exit j=>exact m1.trans (now h)
   | ret=>exact m1.trans (now h)
 | scope body ihb=>intro d rd t df g e t' df' g' h hwf;exact ihb h hwf
 | exit id=>intro d rd t df g e t' df' g' h _;exact now h
 | ret=>intro d rd t df g e t' df' g' h _;exact now h
 | rangeFunc f ps assign body _ _ =>
  intro d rd t df g e t' df' g' h hwf
  simp only[aI] at h
  split at h
  ·exact jp hi h hwf
  ·cases h
 | _=>intro d rd t df g e t' df' g' h _;cases h
theorem cl (hi:IHMon ih){d:Nat}:∀{df:List ADf} {g g':G},d7 ih d df g=some g'->WF g->Mon g g':=by
 intro df
 induction df with
 | nil=>intro g g' h _;simp only[d7] at h;injection h with h;subst h;exact Mon.refl _
 | cons a df ihl =>
  intro g g' h hwf
  cases a with
  | mark id =>
   simp only[d7] at h
   split at h
   ·rename_i hget
    have m:Mon g (g.put id (.dfr false)):=Mon.put hwf (by rw[<-G.get_eq,hget];simp)
    exact m.trans (ihl h (m.wf hwf))
   ·cases h
  | call f args =>
   cases f<;>simp only[d7] at h<;>first | (cases h;done) | skip
   split at h
   ·rename_i v g1 h1
    have m:=hi.call _ _ _ _ _ _ h1 hwf
    exact m.trans (ihl h (m.wf hwf))
   ·cases h
theorem lS (he:bb C)(hi:IHMon ih){f:Nat}{x:Stg (IH->Nat->List AV->G->FR)}(hx:cFn C f=some x){d:Nat}{args:List AV}{g:G}{v:AV}{g':G}
  (h:x.run ih d args g=.ok v g') (hwf:WF g):Mon g g':=by
 unfold cFn at hx
 split at hx
 ·cases hx
 split at hx
 ·cases hx
 split at hx
 ·rw[aa] at hx
  split at hx
  ·cases hx
  injection hx with hx;subst hx
  dsimp only at h
  rw[aa] at h
  split at h
  ·split at h
   ·cases h
   ·rename_i hc
    have m1:=bV he hi _ hc hwf
    unfold bX at h
    split at h
    ·cases h
    ·rename_i g2 h2
     have m2:=cl hi h2 (m1.wf hwf)
     split at h
     ·injection h with _ h;subst h;exact m1.trans m2
     ·cases h
   ·cases h
  ·cases h
 ·cases hx
theorem fU (he:bb C):∀n,IHMon (sem C n):=by
 intro n
 induction n with
 | zero=>exact ⟨fun nt d rd c t df g e t' df' g' h=>(by cases h),fun d f as g v g' h=>(by cases h)⟩
 | succ n ihn =>
  refine ⟨fun nt d rd c t df g e t' df' g' h hwf=>bV he ihn c h hwf,fun d f as g v g' h hwf=>?_⟩
  change ea C (sem C n) d f as g=.ok v g' at h
  unfold ea at h
  split at h
  ·rename_i x hx;exact lS he ihn hx h hwf
  ·cases h
end
end Hx
end
section
namespace Hx
open Go
section
variable {C:Cfg}{A:Nat->Nat->Prop}{bd:Nat}{w w':World}{γ γ':Gm}{hg:Nat->AObj}{nx:Nat}
variable {op:Op}{t:T}{g:G}{f:Stg SFn}
theorem fJ {h:H}{sz id:Nat}{x:AV}(hid:id∈ai x)(hn:h.get id=.none):dJ h sz x=none:=by
 cases x<;>simp[ai] at hid
 ·subst hid;simp[dJ,hn]
 ·rfl
 ·rfl
theorem h_ {sz id:Nat}{x:AV}{bytes:Nat}{new:List (List AV)}(hid:id∈ai x)(hn:g.h.get id=.none):aT sz bytes x new g=.fail:=by
 cases x<;>simp[ai] at hid
 ·subst hid;simp[aT,hn]
 ·rfl
 ·rfl
theorem i5 (h:fh C op=some f){id:Nat}(hid:id∈ax C op t g)(hn:g.h.get id=.none):f.run t g=.fail:=by
 have one:∀{x:AV},id∈ai x->(∃a b c d,x=.hptr a b c d/\g.h.get a=.none)\/(∃a b c d e,x=.hsl a b c d e/\g.h.get a=.none)\/(∃a,x=.hmap a/\g.h.get a=.none):=by
  intro x hx
  cases x<;>simp[ai] at hx
  ·subst hx;exact .inr (.inl ⟨_,_,_,_,_,rfl,hn⟩)
  ·subst hx;exact .inl ⟨_,_,_,_,rfl,hn⟩
  ·subst hx;exact .inr (.inr ⟨_,rfl,hn⟩)
 cases op<;>simp only[fh] at h<;>first | (cases h;done) | skip
 case call c =>
  obtain ⟨callee,args,argTypes⟩:=c
  cases callee<;>first | (cases h;done) | skip
  rename_i b
  dsimp only at h
  obtain ⟨vs,hvs⟩:=eF h
  have hid:id∈(vs.run t).flatMap (dU C b argTypes):=by simpa only[ax,ay,hvs,az,List.map_nil,List.append_nil] using hid
  generalize args.toList=l at h hvs
  unfold bF at h
  split at h
  ·
   split at h
   ·rename_i tt s h0 hs;injection h with h;subst h
    simp only[aJ,hs,Option.some.injEq] at hvs;subst hvs
    simp only[List.flatMap_cons,List.flatMap_nil,List.append_nil,dU,h0] at hid
    dsimp only
    generalize s.run t=x at *
    generalize dC C.P tt=k at *
    cases k<;>simp at hid
    cases x<;>simp[f6] at hid
    subst hid
    simp[jW,hn]
   ·cases h
  ·
   split at h
   ·rename_i tt xt sa sx h0 h1 ha hx
    simp only[aJ,ha,hx,Option.some.injEq] at hvs;subst hvs
    simp only[List.flatMap_cons,List.flatMap_nil,List.append_nil,dU,List.mem_append] at hid
    repeat' (first | split at h | (rw[aa] at h;split at h))
    all_goals first | (cases h;done) | skip
    all_goals (injection h with h;subst h)
    ·dsimp only[e7]
     split
     ·rfl
     ·rename_i new hnew
      rcases hid with hid | hid
      ·exact h_ hid hn
      ·rw[fJ hid hn] at hnew;cases hnew
    ·dsimp only[e_]
     split
     ·rfl
     ·rename_i n hnat
      rcases hid with hid | hid
      ·rw[aa]
       split
       ·exact h_ hid hn
       ·rfl
      ·generalize sx.run t=x at *
       cases x<;>simp[ai] at hid<;>simp[cN] at hnat
   ·cases h
  ·
   split at h
   ·rename_i tt sa sx h0 ha hx
    simp only[aJ,ha,hx,Option.some.injEq] at hvs;subst hvs
    simp only[List.flatMap_cons,List.flatMap_nil,List.append_nil,dU,List.mem_append] at hid
    repeat' (first | split at h)
    all_goals first | (cases h;done) | skip
    all_goals (injection h with h;subst h)
    dsimp only[iS]
    split
    ·rfl
    ·rename_i src hsrc
     rcases hid with hid | hid
     ·rcases one hid with ⟨a,b,c,d,e,h1⟩ | ⟨a,b,c,d,e',e,h1⟩ | ⟨a,e,h1⟩<;>rw[e]<;>simp[h1]
     ·rw[fJ hid hn] at hsrc;cases hsrc
   ·cases h
  ·
   split at h
   ·rename_i tt s h0 hs
    simp only[aJ,hs,Option.some.injEq] at hvs;subst hvs
    simp only[List.flatMap_cons,List.flatMap_nil,List.append_nil,dU] at hid
    repeat' (first | split at h)
    all_goals first | (cases h;done) | skip
    all_goals (injection h with h;subst h)
    dsimp only[kU]
    rcases one hid with ⟨a,b,c,d,e,h1⟩ | ⟨a,b,c,d,e',e,h1⟩ | ⟨a,e,h1⟩<;>rw[e]<;>simp[h1]
   ·cases h
  ·
   split at h
   ·rename_i tt s h0 hs
    simp only[aJ,hs,Option.some.injEq] at hvs;subst hvs
    simp only[List.flatMap_cons,List.flatMap_nil,List.append_nil,dU] at hid
    repeat' (first | split at h | (rw[aa] at h;split at h))
    all_goals first | (cases h;done) | skip
    all_goals (injection h with h;subst h)
    dsimp only
    generalize s.run t=x at *
    cases x with
    | hsl i ep off len lim =>
     cases len with
     | zero=>simp[eu] at hid
     | succ len =>
      simp[eu] at hid
      subst hid
      simp[gC,hn]
    | _=>simp[eu] at hid
   ·cases h
  ·
   split at h
   ·rename_i sa sx ha hx;injection h with h;subst h
    simp only[aJ,ha,hx,Option.some.injEq] at hvs;subst hvs
    simp only[List.flatMap_cons,List.flatMap_nil,List.append_nil,dU,List.mem_append] at hid
    dsimp only
    rcases hid with hid | hid
    ·rcases one hid with ⟨a,b,c,d,e,h1⟩ | ⟨a,b,c,d,e',e,h1⟩ | ⟨a,e,h1⟩<;>rw[e]
    ·split
     ·rcases one hid with ⟨a,b,c,d,e,h1⟩ | ⟨a,b,c,d,e',e,h1⟩ | ⟨a,e,h1⟩<;>rw[e]
     ·rfl
   ·cases h
  ·
   split at h
   ·rename_i sa sx ha hx;injection h with h;subst h
    simp only[aJ,ha,hx,Option.some.injEq] at hvs;subst hvs
    simp only[List.flatMap_cons,List.flatMap_nil,List.append_nil,dU,List.mem_append] at hid
    dsimp only
    rcases hid with hid | hid
    ·rcases one hid with ⟨a,b,c,d,e,h1⟩ | ⟨a,b,c,d,e',e,h1⟩ | ⟨a,e,h1⟩<;>rw[e]
    ·split
     ·rcases one hid with ⟨a,b,c,d,e,h1⟩ | ⟨a,b,c,d,e',e,h1⟩ | ⟨a,e,h1⟩<;>rw[e]
     ·rfl
   ·cases h
  ·cases h
 case load ty a =>
  split at h
  ·rename_i s ag n hs hag hn';injection h with h;subst h
   simp only[ax,ay,hs,az,List.map_nil,List.append_nil] at hid
   dsimp only[f9]
   rcases one hid with ⟨a,b,c,d,e,h1⟩ | ⟨a,b,c,d,e',e,h1⟩ | ⟨a,e,h1⟩<;>rw[e]<;>simp[h1]
  ·cases h
 case store ty a x =>
  split at h
  ·rename_i s u n hs hu hn';injection h with h;subst h
   simp only[ax,ay,hs,az,List.map_nil,List.append_nil] at hid
   dsimp only[fB]
   rcases one hid with ⟨a,b,c,d,e,h1⟩ | ⟨a,b,c,d,e',e,h1⟩ | ⟨a,e,h1⟩<;>rw[e]<;>simp[h1]
  ·cases h
 case indexAddr ty x ix =>
  split at h
  ·rename_i s i hs hi
   split at h
   ·rename_i e hu
    split at h
    ·injection h with h;subst h
     simp only[ax,ay,hs,hu,az,List.map_nil,List.append_nil] at hid
     dsimp only[dt]
     rcases one hid with ⟨a,b,c,d,e,h1⟩ | ⟨a,b,c,d,e',e,h1⟩ | ⟨a,e,h1⟩<;>rw[e]
     dsimp only
     split
     ·simp[h1]
     ·rfl
    ·cases h
   ·rename_i n e hu
    simp[ax,ay,hs,hu,dz] at hid
   ·cases h
  ·cases h
 case lookup ty x k ok =>
  split at h
  ·rename_i sm kk kt et hm hk hu
   split at h
   ·injection h with h;subst h
    have hid:id∈ai (sm.run t):=by
     cases ok<;>simpa [ax,ay,hm,az] using hid
    dsimp only[a9]
    rw[aa]
    split
    ·rcases one hid with ⟨a,b,c,d,e,h1⟩ | ⟨a,b,c,d,e',e,h1⟩ | ⟨a,e,h1⟩<;>rw[e]<;>simp[h1]
    ·rfl
   ·cases h
  ·cases h
 case mapUpdate ty m k x =>
  split at h
  ·rename_i sm sk sx kt et hm hk hx hu;injection h with h;subst h
   simp only[ax,ay,hm,az,List.map_nil,List.append_nil] at hid
   dsimp only[bk]
   rw[aa]
   split
   ·rcases one hid with ⟨a,b,c,d,e,h1⟩ | ⟨a,b,c,d,e',e,h1⟩ | ⟨a,e,h1⟩<;>rw[e]<;>simp[h1]
   ·rfl
  ·cases h
 case insert ty m k x =>
  split at h
  ·rename_i sm sk sx kt et hm hk hx hu;injection h with h;subst h
   simp only[ax,ay,hm,az,List.map_nil,List.append_nil] at hid
   dsimp only[bk]
   rw[aa]
   split
   ·rcases one hid with ⟨a,b,c,d,e,h1⟩ | ⟨a,b,c,d,e',e,h1⟩ | ⟨a,e,h1⟩<;>rw[e]<;>simp[h1]
   ·rfl
  ·cases h
 case mapEntry ty m k =>
  split at h
  ·rename_i sm sk kt et hm hk hu
   split at h
   ·injection h with h;subst h
    simp only[ax,ay,hm,List.map_nil,List.append_nil] at hid
    dsimp only[bq]
    rw[aa]
    split
    ·rcases one hid with ⟨a,b,c,d,e,h1⟩ | ⟨a,b,c,d,e',e,h1⟩ | ⟨a,e,h1⟩<;>rw[e]<;>simp[h1]
    ·rfl
   ·cases h
  ·cases h
 case entryStore ty m st x =>
  split at h
  ·rename_i sm ss sx hm hs hx;injection h with h;subst h
   simp only[ax,ay,hm,az,List.map_nil,List.append_nil] at hid
   dsimp only[bE]
   rcases one hid with ⟨a,b,c,d,e,h1⟩ | ⟨a,b,c,d,e',e,h1⟩ | ⟨a,e,h1⟩<;>rw[e]<;>simp[h1]
  ·cases h
 case slice ty x lo hi mx =>
  have key:∀{sz:Nat} {y:AV} {l h' m:Option AV},id∈ai y->fp sz y l h' m g.h=none:=by
   intro sz y l h' m hy
   rcases one hy with ⟨a,b,c,d,e,h1⟩ | ⟨a,b,c,d,e',e,h1⟩ | ⟨a,e,h1⟩<;>rw[e]<;>simp[fp,h1]
  cases mx with
  | none =>
   dsimp only at h
   split at h
   ·rename_i e sx sl sh hu hx hl hh
    split at h
    ·injection h with h;subst h
     simp only[ax,ay,hx,az,List.map_nil,List.append_nil] at hid
     dsimp only
     rw[key hid];rfl
    ·cases h
   ·rename_i n e sx sl sh hu hx hl hh
    split at h
    ·injection h with h;subst h
     simp only[ax,ay,hx,az,List.map_nil,List.append_nil] at hid
     dsimp only[ck]
     split
     ·rfl
     ·split
      ·rfl
      ·rcases one hid with ⟨a,b,c,d,e,h1⟩ | ⟨a,b,c,d,e',e,h1⟩ | ⟨a,e,h1⟩<;>rw[e]<;>simp[h1]
    ·cases h
   ·cases h
  | some mx =>
   cases hi with
   | none=>cases h
   | some hi =>
    dsimp only at h
    split at h
    ·rename_i e sx sl sh sm he hx hl hh hm
     split at h
     ·injection h with h;subst h
      simp only[ax,ay,hx,az,List.map_nil,List.append_nil] at hid
      dsimp only
      rw[key hid];rfl
     ·cases h
    ·cases h
 all_goals simp[ax,ay,dz] at hid
structure CfgOk (C:Cfg):Prop where
 mixed:C.P.follows .mixedOrders=true
 recov:C.P.follows .rangeFuncRecover=true
 mon:bb C
 noDfr:∀f e,C.ext f=some e->∀d args g y,e d args g≠.dfr y
 ext:∀f e,C.ext f=some e->∀A bd w γ hg nx g as vs,Rel C A bd w γ hg nx->WF g->(∀id∈as.flatMap (au g.h aA),g.h.get id≠.none->hg id=g.h.get id)->Free γ g (gOf g (e (bd+1) as g)) ->
  RVs w γ A bd as vs->e (bd+1) as g≠.fail->∀cs,
  ∃u w' γ' hg',Fin C A bd w γ hg nx g w' γ' hg' (gOf g (e (bd+1) as g))/\RV w' γ' A bd (vOf (e (bd+1) as g)) u /\
   ((callFunc f vs.toArray).run C.P w=.ok (.value u) w'\/(Enters C.P f/\Outs C.P .normal f vs.toArray cs w u w'))
def DR (w:World)(γ:Gm)(A:Nat->Nat->Prop)(bd:Nat):List ADf->List Deferred->Prop
 | [],[]=>True
 | .mark id::ds,d::es=>((γ id).kind=4/\d={ target:=.collected (γ id).blk,args:=#[] })/\DR w γ A bd ds es
 | .call fv args::ds,d::es=>(∃f ys us,fv=.clo f [] ys/\d.target=.fn (.func f) us/\RVs w γ A bd ys us.toList/\RVs w γ A bd args d.args.toList)/\DR w γ A bd ds es
 | _,_=>False
theorem DR.step {ds:List ADf}:∀{es:List Deferred},DR w γ A bd ds es->Stp w γ w' γ'->DR w' γ' A bd ds es:=by
 induction ds with
 | nil=>intro es h _;cases es<;>simpa [DR] using h
 | cons d ds ih =>
  intro es h s
  cases es with
  | nil=>cases d<;>simp[DR] at h
  | cons e es =>
   cases d with
   | mark id =>
    obtain ⟨⟨h1,h2⟩,h3⟩:=h
    have hk:(γ id).kind≠0:=by rw[h1];decide
    exact ⟨⟨by rw[s.kind_eq hk,h1],by rw[h2,s.blk_eq hk (by rw[h1];decide)]⟩,ih h3 s⟩
   | call fv args =>
    obtain ⟨⟨f,ys,us,h1,h2,h4,h5⟩,h3⟩:=h
    exact ⟨⟨f,ys,us,h1,h2,h4.step s,h5.step s⟩,ih h3 s⟩
theorem TR.step {nt:Nat}{tmps:Array Value}(h:TR w γ A bd nt t tmps)(s:Stp w γ w' γ'):TR w' γ' A bd nt t tmps :=
 ⟨h.1,fun i=>(h.2 i).step s⟩
def RdOk (γ:Gm)(rd:Option Nat)(b:Frame):Prop :=
 match rd with
 | none=>b.roundOf=none
 | some id=>(γ id).kind=3/\b.roundOf=some (γ id).blk
theorem RdOk.step {rd:Option Nat}{b:Frame}(h:RdOk γ rd b)(s:Stp w γ w' γ'):RdOk γ' rd b:=by
 cases rd with
 | none=>exact h
 | some id =>
  obtain ⟨h1,h2⟩:=h
  have hk:(γ id).kind≠0:=by rw[h1];decide
  exact ⟨by rw[s.kind_eq hk,h1],by rw[h2,s.blk_eq hk (by rw[h1];decide)]⟩
def Arr (P:Program)(m:Machine)(b:Frame)(k:List Item)(cs:List Frame):Ex->Act->World->Prop
 | .norm,a,w=>Steps P m (lone (b.atR a k) cs w)
 | .exit id,a,w=>∃k₁,exitTo id k₁=exitTo id k/\Steps P m (lone (b.atR a (.code (.exit id)::k₁)) cs w)
 | .ret,a,w=>∃k₁,Steps P m (lone (b.atR a (.code .ret::k₁)) cs w)
theorem Arr.of_steps {P:Program}{m m₁:Machine}{b:Frame}{k:List Item}{cs:List Frame}{e:Ex}{a:Act}(h:Steps P m m₁)(h':Arr P m₁ b k cs e a w):Arr P m b k cs e a w:=by
 cases e with
 | norm=>exact Steps.trans h h'
 | exit id=>obtain ⟨k₁,h1,h2⟩:=h';exact ⟨k₁,h1,Steps.trans h h2⟩
 | ret=>obtain ⟨k₁,h2⟩:=h';exact ⟨k₁,Steps.trans h h2⟩
def fS (C:Cfg)(bd nt:Nat)(rd:Option Nat)(c:Code)(t:T)(df:List ADf)(g:G)(e:Ex)(t':T)(df':List ADf)(g':G):Prop :=
 ∀A w γ hg nx b a k cs,Rel C A bd w γ hg nx->Ext g.h hg->WF g->Free γ g g'->TR w γ A bd nt t a.tmps->DR w γ A bd df a.defers->RdOk γ rd b->dc b.kind cs ->
  ∃a' w' γ' hg',Fin C A bd w γ hg nx g w' γ' hg' g'/\TR w' γ' A bd nt t' a'.tmps/\DR w' γ' A bd df' a'.defers /\
   Arr C.P (lone (b.atR a (.code c::k)) cs w) b k cs e a' w'
def mf (C:Cfg)(ih:IH):Prop :=
 ∀bd nt rd c t df g e t' df' g',ih.code nt (bd+1) rd c t df g=.ok e t' df' g'->fS C bd nt rd c t df g e t' df' g'
structure IHOk (C:Cfg) (ih:IH):Prop where
 mon:IHMon ih
 call:iL C ih
 code:mf C ih
theorem RVs.append {xs ys:List AV}{vs us:List Value}(h1:RVs w γ A bd xs vs)(h2:RVs w γ A bd ys us):RVs w γ A bd (xs++ys) (vs++us):=by
 refine ⟨by simp[h1.1,h2.1],fun i x v hx hv=>?_⟩
 by_cases hi:i<xs.length
 ·rw[List.getElem?_append_left hi] at hx
  rw[List.getElem?_append_left (by rw[<-h1.1];exact hi)] at hv
  exact h1.2 i x v hx hv
 ·rw[List.getElem?_append_right (by omega)] at hx
  rw[List.getElem?_append_right (by rw[<-h1.1];omega),<-h1.1] at hv
  exact h2.2 _ x v hx hv
theorem RVs.ofArr {xs:List AV}{vs:Array Value}(hl:xs.length=vs.size)(h:∀(i:Nat) x v,xs[i]?=some x->vs[i]?=some v->RV w γ A bd x v) :
  RVs w γ A bd xs vs.toList:=⟨by simpa using hl,fun i x v hx hv=>h i x v hx (by simpa using hv)⟩
section
variable {P:Program}{b:Frame}{a:Act}{ops:Array Oper}{i:Nat}{rest:List Nat}{k:List Item}{cs:List Frame}{o:Oper}
theorem eJ {v:Value}(ho:ops[i]?=some o)(hw:Region.wanted o (yielded ops a.tmps)=true)(hd:∀c,o.op≠.defer c)
  (hrun:(execOp a.eval o).run P w=.ok (.value v) w') :
  step P (lone (b.atR a (.inRegion ops (i::rest)::k)) cs w)=.next (lone (b.atR (a.put o.dst v) (.inRegion ops rest::k)) cs w'):=by
 have hfin:=Frame.finish_atR b a ops i rest k v
 rw[ho] at hfin
 simp only[Option.bind_some] at hfin
 refine step_lone_go ?_
 rw[stepGR_op ho hw,Oper.semAt_eq _ _ _ hd,<-hfin]
 simp[stepG.apply,hrun]
theorem kn (ho:ops[i]?=some o)(hw:Region.wanted o (yielded ops a.tmps)=true)(hd:∀c,o.op≠.defer c)
  (hrun:(execOp a.eval o).run P w=.ok .skip w') :
  step P (lone (b.atR a (.inRegion ops (i::rest)::k)) cs w)=.next (lone (b.atR (a.put o.dst undef) (.inRegion ops rest::k)) cs w'):=by
 have hfin:=Frame.finish_atR b a ops i rest k undef
 rw[ho] at hfin
 simp only[Option.bind_some] at hfin
 refine step_lone_go ?_
 rw[stepGR_op ho hw,Oper.semAt_eq _ _ _ hd,<-hfin]
 simp[stepG.apply,hrun]
theorem eP {v:Value}(ho:ops[i]?=some o)(hw:Region.wanted o (yielded ops a.tmps)=true)(hd:∀c,o.op≠.defer c)
  (hrun:i4 P o a.eval w v w') :
  Steps P (lone (b.atR a (.inRegion ops (i::rest)::k)) cs w) (lone (b.atR (a.put o.dst v) (.inRegion ops rest::k)) cs w'):=by
 rcases hrun with h | ⟨h,rfl⟩
 ·exact .one (eJ ho hw hd h)
 ·exact .one (kn ho hw hd h)
theorem gL {f:FuncId}{args:Array Value}(ho:ops[i]?=some o)(hw:Region.wanted o (yielded ops a.tmps)=true)(hd:∀c,o.op≠.defer c)
  (hrun:(execOp a.eval o).run P w=.ok (.enter f args) w') :
  step P (lone (b.atR a (.inRegion ops (i::rest)::k)) cs w)=.next (lone (Frame.enter P f args .normal) (b.atR a (.inRegion ops (i::rest)::k)::cs) w'):=by
 refine step_lone_go ?_
 rw[stepGR_op ho hw,Oper.semAt_eq _ _ _ hd]
 simp[stepG.apply,hrun,Frame.atR]
theorem jE {l:Nat}{f:FuncId}{tmps:Array Value}{assign body:Code}(ho:ops[i]?=some o)(hw:Region.wanted o (yielded ops a.tmps)=true)(hd:∀c,o.op≠.defer c)
  (hrun:(execOp a.eval o).run P w=.ok (.round l f tmps assign body) w') :
  step P (lone (b.atR a (.inRegion ops (i::rest)::k)) cs w)=.next (lone (Frame.round l f tmps assign body .normal) (b.atR a (.inRegion ops (i::rest)::k)::cs) w'):=by
 refine step_lone_go ?_
 rw[stepGR_op ho hw,Oper.semAt_eq _ _ _ hd]
 simp[stepG.apply,hrun,Frame.atR]
theorem dA {f:FuncId}{args:Array Value}{u:Value}{w₁:World}(ho:ops[i]?=some o)(hw:Region.wanted o (yielded ops a.tmps)=true)(hd:∀c,o.op≠.defer c)
  (hrun:(execOp a.eval o).run P w=.ok (.enter f args) w)
  (hout:Outs P .normal f args (b.atR a (.inRegion ops (i::rest)::k)::cs) w u w₁) :
  Steps P (lone (b.atR a (.inRegion ops (i::rest)::k)) cs w) (lone (b.atR (a.put o.dst u) (.inRegion ops rest::k)) cs w₁):=by
 obtain ⟨fr,hs,h1,h2,h3,h4,fn,h5,h6⟩:=hout
 have hfin:=Frame.finish_atR b a ops i rest k u
 rw[ho] at hfin
 simp only[Option.bind_some] at hfin
 refine .head (gL ho hw hd hrun) (Steps.trans hs (.one ?_))
 rw[<-hfin]
 exact step_leave_returned ⟨h1,h2,h3,fn,by rw[h4];exact h5,h6⟩
theorem iB (ho:ops[i]?=some o)(hw:Region.wanted o (yielded ops a.tmps)=true)(hd:∀c,o.op≠.defer c)
  (hrec:P.follows .rangeFuncRecover=true) (hcalm:dc b.kind cs)
  (hrun:(execOp a.eval o).run P w=.ok .recover w) :
  step P (lone (b.atR a (.inRegion ops (i::rest)::k)) cs w)=.next (lone (b.atR (a.put o.dst .nilIface) (.inRegion ops rest::k)) cs w):=by
 have hfin:=Frame.finish_atR b a ops i rest k .nilIface
 rw[ho] at hfin
 simp only[Option.bind_some] at hfin
 have htry:tryRecover (b.atR a (.inRegion ops (i::rest)::k)) cs=none:=by
  unfold tryRecover
  rcases hcalm with h | ⟨h,c,cs',rfl,hm | ⟨_,_,_,hm⟩⟩
  ·simp[Frame.atR,h]
  ·simp[Frame.atR,h,hm]
  ·simp[Frame.atR,h,hm]
 refine step_lone_go ?_
 rw[stepGR_op ho hw,Oper.semAt_eq _ _ _ hd,<-hfin]
 simp only[stepG.apply,Sem.runT_eq,hrun,hrec,if_true,htry]
 cases hro:(b.atR a (.inRegion ops (i::rest)::k)).roundOf<;>simp[GStep.bare_after]
end
theorem ce {P:Program}{l:Nat}{L:Loop}(h:w.heap[l]?=some (.loop L)):(Instr.getLoop l).run P w=.ok L w:=by
 unfold Instr.getLoop
 simp only[Sem.run_bind,bo h (by simp),Result.andThen_ok]
 rfl
theorem dN {P:Program}{l:Nat}{L:Loop}{o:Obj}(h:w.heap[l]?=some (.loop L)):(setObj l o).run P w=.ok () (World.setBlk w l o) :=
 bB h (by simp)
theorem Rel.setLoop (hr:Rel C A bd w γ hg nx){id nt dfr:Nat}{t:T}{ps:List Nat}{assign body:Code}{st st':LoopState}{pend pend':Option Code}{L:Loop}
  (hid:hg id=.loop nt t ps assign body dfr st pend) (hL:w.heap[(γ id).blk]?=some (.loop L)) :
  Rel C A bd (World.setBlk w (γ id).blk (.loop { L with state:=st',pending:=pend' })) γ (upd hg id (.loop nt t ps assign body dfr st' pend')) nx /\
   Stp w γ (World.setBlk w (γ id).blk (.loop { L with state:=st',pending:=pend' })) γ:=by
 have hob:=hr.obj id
 rw[hid] at hob
 obtain ⟨h1,h2,L',h3,h4,h5,h6,h7,h8,h9,h10,h11,h12⟩:=hob
 rw[hL] at h3;injection h3 with h3;injection h3 with h3;subst h3
 have hk:(γ id).kind≠0:=by rw[h1];decide
 have s:=ej (w:=w) (o:=.loop { L with state:=st',pending:=pend' }) hk h2
 refine hr.setBlk hk h2 ⟨h1,h2,{ L with state:=st',pending:=pend' },?_,rfl,rfl,h6,h7,h8,h9,fun i=>(h10 i).step s,h11,h12⟩
 rw[an];simp[(hr.lt id hk).2]
theorem Fin.ofPut {g:G}{id:Nat}{o:AObj}(hr:Rel C A bd w' γ' (upd hg id o) nx)(s:Stp w γ w' γ') :
  Fin C A bd w γ hg nx g w' γ' (upd hg id o) (g.put id o):=by
 refine ⟨hr.up (Nat.le_max_left _ _),s,⟨[id],by simp,fun j hj=>?_,fun j hj=>?_⟩⟩
 ·simp at hj;subst hj;simp[H.get_put]
 ·exact aN _ _ (by simpa using hj)
theorem Fin.ofNew {g:G}{o:AObj}(hr:Rel C A bd w' γ' (upd hg g.nx o) (Nat.max nx (g.nx+1)))(s:Stp w γ w' γ') :
  Fin C A bd w γ hg nx g w' γ' (upd hg g.nx o) (g.new o):=by
 refine ⟨by simpa using hr,s,⟨[g.nx],by simp,fun j hj=>?_,fun j hj=>?_⟩⟩
 ·simp at hj;subst hj;simp[H.get_put]
 ·exact aN _ _ (by simpa using hj)
end
end Hx
end
section
namespace Hx
open Go
section
variable {C:Cfg}{A:Nat->Nat->Prop}{bd:Nat}{w w':World}{γ γ':Gm}{hg:Nat->AObj}{nx:Nat}
variable {t:T}{g:G}{ih:IH}
def Agr (lk:Looks)(g:G)(hg:Nat->AObj):Prop :=
 if lk.big then Ext g.h hg else ∀id∈lk.rd++lk.sr.map (·.1),g.h.get id≠.none->hg id=g.h.get id
theorem Ext.agr {lk:Looks}(h:Ext g.h hg):Agr lk g hg:=by
 unfold Agr
 split
 ·exact h
 ·exact fun id _ hne=>h id hne
theorem g5 {nt:Nat}:∀{ps:List Nat} {xs:List AV} {us:List Value} {t t':T} {tmps:Array Value},bQ t nt ps xs=some t'->TR w γ A bd nt t tmps->RVs w γ A bd xs us ->
  ps.length=us.length/\TR w γ A bd nt t' ((ps.zip us).foldl (fun tmps (t,a)=>tmps.setIfInBounds t a) tmps):=by
 intro ps
 induction ps with
 | nil =>
  intro xs us t t' tmps h ht hv
  cases xs with
  | nil =>
   simp only[bQ] at h;injection h with h;subst h
   have:us=[]:=List.length_eq_zero_iff.1 hv.1.symm
   subst this;exact ⟨rfl,ht⟩
  | cons x xs=>simp[bQ] at h
 | cons p ps ih =>
  intro xs us t t' tmps h ht hv
  cases xs with
  | nil=>simp[bQ] at h
  | cons x xs =>
   cases us with
   | nil=>have:=hv.1;simp at this
   | cons u us =>
    simp only[bQ,aa] at h
    split at h
    ·rename_i hp
     rw[Nat.blt_eq] at hp
     have h0:RV w γ A bd x u:=hv.2 0 x u rfl rfl
     have hrest:RVs w γ A bd xs us:=⟨by have:=hv.1;simpa using this,fun i x' u' hx hu=>hv.2 (i+1) x' u' (by simpa using hx) (by simpa using hu)⟩
     have ht':TR w γ A bd nt ((sp AV.undef p).run t x) (tmps.setIfInBounds p u):=by
      refine ⟨by simp[ht.1],fun i=>?_⟩
      rw[sp_get]
      by_cases hi:i=p
      ·subst hi;rw[if_pos rfl]
       have:i<tmps.size:=by rw[ht.1];exact hp
       simpa [Array.getD,this] using h0
      ·rw[if_neg hi]
       have:=ht.2 i
       simp only[Array.getD_eq_getD_getElem?] at this ⊢
       rw[Array.getElem?_setIfInBounds_ne (Ne.symm hi)];exact this
     obtain ⟨a1,a2⟩:=ih h ht' hrest
     exact ⟨by simp[a1],by simpa using a2⟩
    ·cases h
theorem kr (hi:IHOk C ih)(hr:Rel C A bd w γ hg nx)(hx:Ext g.h hg)(hwf:WF g){id:Nat}{args:List AV}{vs:List Value}
  (hk:(γ id).kind=3) (hv:RVs w γ A bd args vs) {r:OR} (h:dy ih (bd+1) id args g=r) (hne:r≠.fail) (hf:Free γ g (gOf g r)) (c:Frame) (cs:List Frame) :
  ∃f tmps assign body,(Instr.yield (γ id).blk vs.toArray).run C.P w=.ok (.round (γ id).blk f tmps assign body) w /\
   ∃u w' γ' hg',Fin C A bd w γ hg nx g w' γ' hg' (gOf g r)/\RV w' γ' A bd (vOf r) u /\
    Steps C.P (lone (Frame.round (γ id).blk f tmps assign body .normal) (c::cs) w) (lone (c.finish u) cs w'):=by
 unfold dy at h
 split at h
 rotate_left
 ·exact absurd h.symm hne
 rename_i nt t0 ps assign bodyX dfr0 st0 pend0 hget
 have hget:g.h.get id=.loop nt t0 ps assign bodyX dfr0 st0 pend0:=by simpa using hget
 have hid:hg id=.loop nt t0 ps assign bodyX dfr0 st0 pend0:=by rw[hx id (by rw[hget];simp),hget]
 have hob:=hr.obj id
 rw[hid] at hob
 obtain ⟨k1,k2,L,k3,k4,k5,k6,k7,k8,k9,k10,k11,k12⟩:=hob
 split at h
 ·exact absurd h.symm hne
 rename_i t' hset
 have ht0:TR w γ A bd nt t0 L.tmps:=⟨k9,k10⟩
 obtain ⟨hlen,ht'⟩:=g5 hset ht0 hv
 split at h
 rotate_left
 ·exact absurd h.symm hne
 rename_i t1 g1 h1
 split at h
 rotate_left
 ·exact absurd h.symm hne
 rename_i nt1 t2 ps2 assign2 body1 dfr pend hget1
 have hget1:g1.h.get id=.loop nt1 t2 ps2 assign2 body1 dfr .ready pend:=by simpa using hget1
 split at h
 rotate_left
 ·exact absurd h.symm hne
 rename_i e t3 g2 h2
 split at h
 rotate_left
 ·exact absurd h.symm hne
 rename_i nt3 t4 ps4 assign4 body4 dfr4 st4 pend4 hget2
 have hget2:g2.h.get id=.loop nt3 t4 ps4 assign4 body4 dfr4 st4 pend4:=by simpa using hget2
 have m1:=hi.mon.code _ _ _ _ _ _ _ _ _ _ _ h1 hwf
 have w1:WF g1:=m1.wf hwf
 have m2:Mon g1 (g1.put id (.loop nt1 t2 ps2 assign2 body1 dfr .busy pend)):=Mon.put w1 (by rw[hget1];simp)
 have w2:=m2.wf w1
 have m3:=hi.mon.code _ _ _ _ _ _ _ _ _ _ _ h2 w2
 have w3:=m3.wf w2
 have m4:∀o,Mon g2 (g2.put id o):=fun o=>Mon.put w3 (by rw[hget2];simp)
 have hnx:(gOf g r).nx=g2.nx:=by
  subst h
  cases e<;>simp[gOf]
 have hfree2:Free γ g g2:=fun i a b=>hf i a (by rw[hnx];exact b)
 let bR:Frame:={ (default:Frame) with fn:=L.fn,kind:=.normal,roundOf:=some (γ id).blk }
 let tmps:=(L.params.zip vs.toArray).foldl (fun tmps (t,a)=>tmps.setIfInBounds t a) L.tmps
 have htm:tmps=(ps.zip vs).foldl (fun tmps (t,a)=>tmps.setIfInBounds t a) L.tmps:=by
  simp only[tmps,<-Array.foldl_toList,Array.toList_zip,k6]
 have hyield:(Instr.yield (γ id).blk vs.toArray).run C.P w=.ok (.round (γ id).blk L.fn tmps assign bodyX) w:=by
  unfold Instr.yield
  have hs:vs.toArray.size=L.params.size:=by rw[<-k6] at hlen;simpa using hlen.symm
  simp only[Sem.run_bind,ce k3,Result.andThen_ok,hs,ne_eq,not_true_eq_false,if_false,k7,k8]
  rfl
 have hframe:Frame.round (γ id).blk L.fn tmps assign bodyX .normal=bR.atR { tmps:=tmps,defers:=[] } [.code assign,.beginRound,.code bodyX]:=by
  simp[Frame.round,Frame.atR,bR]
 obtain ⟨a1,wa,γa,hga,f1,tr1,dr1,ar1⟩:=hi.code _ _ _ _ _ _ _ _ _ _ _ h1 A w γ hg nx bR { tmps:=tmps,defers:=[] } [.beginRound,.code bodyX] (c::cs) hr hx hwf
  (hfree2.le (Nat.le_trans m2.nx m3.nx)) (by rw[htm];exact ht') trivial ⟨hk,rfl⟩ (.inl rfl)
 have hxa:Ext g1.h hga:=f1.ext m1 hx
 have hida:hga id=.loop nt1 t2 ps2 assign2 body1 dfr .ready pend:=by rw[hxa id (by rw[hget1];simp),hget1]
 have hka:(γ id).kind≠0:=by rw[hk];decide
 have hblka:(γa id).blk=(γ id).blk:=f1.stp.blk_eq hka (by rw[hk];decide)
 have hobA:=f1.rel.obj id
 rw[hida] at hobA
 obtain ⟨ka1,ka2,La,ka3,ka4,ka5,ka6,ka7,ka8,ka9,ka10,ka11,ka12⟩:=hobA
 have hsetA:=f1.rel.setLoop (st':=.busy) (pend':=pend) hida ka3
 rw[hblka] at ka3 hsetA
 have hbegin:(Instr.beginRound (γ id).blk).run C.P wa=.ok () (World.setBlk wa (γ id).blk (.loop { La with state:=.busy,pending:=pend })):=by
  unfold Instr.beginRound
  simp only[Sem.run_bind,ce ka3,Result.andThen_ok,dN ka3,ka4,Sem.run_pure,<-ka5]
 have f2:Fin C A bd wa γa hga (Nat.max nx g1.nx) g1 _ γa _ (g1.put id (.loop nt1 t2 ps2 assign2 body1 dfr .busy pend)):=Fin.ofPut hsetA.1 hsetA.2
 have f12:=f1.trans f2 m1 m2
 obtain ⟨a2,wb,γb,hgb,f3,tr3,dr3,ar3⟩:=hi.code _ _ _ _ _ _ _ _ _ _ _ h2 A _ γa _ (Nat.max nx (g1.put id (.loop nt1 t2 ps2 assign2 body1 dfr .busy pend)).nx) bR a1 [] (c::cs) f12.rel (f12.ext (m1.trans m2) hx) w2
  (f12.freed hr (m1.trans m2) hfree2) (tr1.step hsetA.2) (by
   have:=dr1.step hsetA.2
   exact this) ⟨by rw[f1.stp.kind_eq hka];exact hk,by simp[bR,hblka]⟩ (.inl rfl)
 have f123:=f12.trans f3 (m1.trans m2) m3
 have hxb:Ext g2.h hgb:=f123.ext ((m1.trans m2).trans m3) hx
 have hidb:hgb id=.loop nt3 t4 ps4 assign4 body4 dfr4 st4 pend4:=by rw[hxb id (by rw[hget2];simp),hget2]
 have hblkb:(γb id).blk=(γ id).blk:=f123.stp.blk_eq hka (by rw[hk];decide)
 have hobB:=f123.rel.obj id
 rw[hidb] at hobB
 obtain ⟨kb1,kb2,Lb,kb3,kb4,kb5,kb6,kb7,kb8,kb9,kb10,kb11,kb12⟩:=hobB
 have hsetB:=fun st' pend'=>f123.rel.setLoop (st':=st') (pend':=pend') hidb kb3
 rw[hblkb] at kb3 hsetB
 have hend:∀jump,(Instr.endRound (γ id).blk jump).run C.P wb=.ok (.bool jump.isNone) (World.setBlk wb (γ id).blk (.loop { Lb with state:=if jump.isNone then .ready else .done,pending:=jump })):=by
  intro jump
  unfold Instr.endRound
  simp only[Sem.run_bind,ce kb3,Result.andThen_ok,dN kb3,Sem.run_pure]
 refine ⟨L.fn,tmps,assign,bodyX,hyield,?_⟩
 rw[hframe]
 have sbegin:Steps C.P (lone (bR.atR { tmps:=tmps,defers:=[] } [.code assign,.beginRound,.code bodyX]) (c::cs) w) (lone (bR.atR a1 [.code bodyX]) (c::cs) (World.setBlk wa (γ id).blk (.loop { La with state:=.busy,pending:=pend }))) :=
  Steps.trans ar1 (.one (stepR_beginRound rfl hbegin))
 have fin:∀(jump:Option Code) (st':LoopState),st'=(if jump.isNone then .ready else .done) ->
   Fin C A bd w γ hg nx g (World.setBlk wb (γ id).blk (.loop { Lb with state:=st',pending:=jump })) γb (upd hgb id (.loop nt3 t4 ps4 assign4 body4 dfr4 st' jump)) (g2.put id (.loop nt3 t4 ps4 assign4 body4 dfr4 st' jump)):=by
  intro jump st' _
  exact f123.trans (Fin.ofPut (hsetB st' jump).1 (hsetB st' jump).2) ((m1.trans m2).trans m3) (m4 _)
 subst h
 cases e with
 | norm=>exact ⟨.bool true,_,γb,_,fin none .ready rfl,.bool _ _,Steps.trans sbegin (Steps.trans ar3 (.one (stepR_round_end rfl rfl (hend none))))⟩
 | exit j =>
  obtain ⟨k₁,hk₁,har⟩:=ar3
  exact ⟨.bool false,_,γb,_,fin (some (.exit j)) .done rfl,.bool _ _,Steps.trans sbegin (Steps.trans har (.one (stepR_round_exit rfl rfl (by rw[hk₁];rfl) (hend (some (.exit j))))))⟩
 | ret =>
  obtain ⟨k₁,har⟩:=ar3
  exact ⟨.bool false,_,γb,_,fin (some .ret) .done rfl,.bool _ _,Steps.trans sbegin (Steps.trans har (.one (stepR_round_ret rfl rfl (hend (some .ret)))))⟩
noncomputable def l5 (C:Cfg)(fv:AV)(as:List AV)(g:G):Looks :=
 match fv with
 | .clo f first cap=>af ((C.ext f).isSome || C.iso f) (az ((first++(as++cap)).flatMap (au g.h aA))) bt
 | _=>bt
theorem lK (h:Agr bt g hg):Ext g.h hg:=h
section
variable {b:Frame}{a:Act}{ops:Array Oper}{i:Nat}{rest:List Nat}{k:List Item}{cs:List Frame}{o:Oper}
theorem ib (hC:CfgOk C)(hi:IHOk C ih)(hr:Rel C A bd w γ hg nx)(hwf:WF g){fv:AV}{v:Value}{as:List AV}{vs:List Value}
  (hfv:RV w γ A bd fv v) (has:RVs w γ A bd as vs) (hag:Agr (l5 C fv as g) g hg)
  {r:OR} (h:fg C ih (bd+1) fv as g=r) (hne:r≠.fail) (hf:Free γ g (gOf g r))
  (ho:ops[i]?=some o) (hw:Region.wanted o (yielded ops a.tmps)=true) (hd:∀c,o.op≠.defer c)
  (hexec:(execOp a.eval o).run C.P w=(do let d <-Deferred.ofValue v vs.toArray;invoke d.target d.args:Sem Next).run C.P w) :
  ∃u w' γ' hg',Fin C A bd w γ hg nx g w' γ' hg' (gOf g r)/\RV w' γ' A bd (vOf r) u /\
   Steps C.P (lone (b.atR a (.inRegion ops (i::rest)::k)) cs w) (lone (b.atR (a.put o.dst u) (.inRegion ops rest::k)) cs w'):=by
 cases hfv with
 | clo _ f xs ys vs1 us1 hl hl2 h1 h2 =>
  have hall:RVs w γ A bd (xs++(as++ys)) (vs1.toList++(vs++us1.toList)):=(RVs.ofArr hl h1).append (has.append (RVs.ofArr hl2 h2))
  have harr:(vs1.toList++(vs++us1.toList)).toArray=(vs1++vs.toArray)++us1:=by apply Array.ext';simp
  have henter:Enters C.P f->(execOp a.eval o).run C.P w=.ok (.enter f ((vs1++vs.toArray)++us1)) w:=by
   intro he
   rw[hexec]
   simp only[Deferred.ofValue,invoke,Sem.run_bind,Sem.run_pure,Result.andThen_ok]
   exact he _ _
  simp only[fg] at h
  simp only[l5] at hag
  cases hext:C.ext f with
  | some e =>
   simp only[hext] at h hag
   have hx:∀id∈(xs++(as++ys)).flatMap (au g.h aA),g.h.get id≠.none->hg id=g.h.get id:=by
    simpa [Agr,az] using hag
   have hs:=hC.ext f e hext
   subst h
   obtain ⟨u,w',γ',hg',f1,rv,out⟩:=hs A bd w γ hg nx g _ _ hr hwf hx hf hall hne (b.atR a (.inRegion ops (i::rest)::k)::cs)
   rw[harr] at out
   rcases out with out | ⟨he,out⟩
   ·refine ⟨u,w',γ',hg',f1,rv,.one (eJ ho hw hd ?_)⟩
    rw[hexec]
    simp only[Deferred.ofValue,invoke,Sem.run_bind,Sem.run_pure,Result.andThen_ok]
    exact out
   ·exact ⟨u,w',γ',hg',f1,rv,dA ho hw hd (henter he) out⟩
  | none =>
   simp only[hext] at h hag
   cases hiso:C.iso f with
   | true =>
    simp only[hiso] at h hag
    have hx:∀id∈(xs++(as++ys)).flatMap (au g.h aA),g.h.get id≠.none->hg id=g.h.get id:=by
     simpa [Agr,az] using hag
    subst h
    obtain ⟨he,u,w',γ',hg',f1,rv,out⟩:=cR hi.call hi.mon.call hr hx hall hne (b.atR a (.inRegion ops (i::rest)::k)::cs)
    rw[harr] at out
    exact ⟨u,w',γ',hg',f1,rv,dA ho hw hd (henter he) out⟩
   | false =>
    simp only[hiso] at h hag
    have hx:Ext g.h hg:=hag
    cases hcall:ih.call (bd+1) f (xs++(as++ys)) g with
    | fail =>
     rw[hcall] at h
     exact absurd h.symm hne
    | ok rv0 g1 =>
     rw[hcall] at h
     have h:OR.upd rv0 g1=r:=h
     subst h
     obtain ⟨he,hs⟩:=hi.call _ _ _ _ _ _ hcall
     obtain ⟨u,w',γ',hg',f1,rv,out⟩:=hs A w γ hg nx _ hr hx hwf hf hall .normal (b.atR a (.inRegion ops (i::rest)::k)::cs) (.inl rfl)
     rw[harr] at out
     exact ⟨u,w',γ',hg',f1,rv,dA ho hw hd (henter he) out⟩
 | yld _ id bl hk hb =>
  subst hb
  simp only[fg] at h
  have hx:Ext g.h hg:=lK hag
  obtain ⟨f,tmps,assign,body,hy,u,w',γ',hg',f1,rv,st⟩:=kr hi hr hx hwf hk has h hne hf (b.atR a (.inRegion ops (i::rest)::k)) cs
  have hfin:=Frame.finish_atR b a ops i rest k u
  rw[ho] at hfin
  simp only[Option.bind_some] at hfin
  rw[hfin] at st
  refine ⟨u,w',γ',hg',f1,rv,.head (jE ho hw hd ?_) st⟩
  rw[hexec]
  simp only[Deferred.ofValue,invoke,Sem.run_bind,Sem.run_pure,Result.andThen_ok]
  simpa using hy
 | _=>exact absurd h.symm hne
theorem iN (hC:CfgOk C)(hi:IHOk C ih)(hr:Rel C A bd w γ hg nx)(hwf:WF g){nt:Nat}{rd:Option Nat}(ht:TR w γ A bd nt t a.tmps)(hcalm:dc b.kind cs)
  (hag:Agr ((ay C o.op).run t g) g hg) {r:OR} (h:(bu C o.op).run ih (bd+1) rd t g=r) (hne:r≠.fail) (hnd:∀x,r≠.dfr x) (hf:Free γ g (gOf g r))
  (ho:ops[i]?=some o) (hw:Region.wanted o (yielded ops a.tmps)=true) :
  ∃u w' γ' hg',Fin C A bd w γ hg nx g w' γ' hg' (gOf g r)/\RV w' γ' A bd (vOf r) u /\
   Steps C.P (lone (b.atR a (.inRegion ops (i::rest)::k)) cs w) (lone (b.atR (a.put o.dst u) (.inRegion ops rest::k)) cs w'):=by
 have hm:Mon g (gOf g r):=by rw[<-h];exact bM hC.mon hi.mon hwf
 unfold bu at h
 split at h
 rotate_left
 ·exact absurd h.symm hne
 rename_i f hcop
 generalize hop:o.op=op at hcop hag
 have hargs:∀(args:Array Operand),(args.toList.map a.eval).toArray=args.map a.eval:=fun args=>by apply Array.ext';simp
 unfold cOp at hcop
 split at hcop
 ·
  rename_i fx args at2
  have hd:∀c,o.op≠.defer c:=by rw[hop];intro c h;cases h
  split at hcop
  ·rename_i vs hvs
   simp only[ay,am,hvs] at hag
   refine ib (fv:=.clo fx [] []) (v:=.func (.func fx) #[] #[]) (as:=vs.run t) hC hi hr hwf (.clo _ fx [] [] #[] #[] rfl rfl (fun i x v h=>by simp at h) (fun i x v h=>by simp at h)) (bw ht hr hvs) hag ?_ hne hf ho hw hd ?_
   ·rw[<-h]
    simp only[fg,List.nil_append,List.append_nil]
    split at hcop
    ·rename_i e he;injection hcop with hcop;subst hcop;rfl
    ·rename_i he
     rw[aa] at hcop
     split at hcop
     ·rename_i hiso;injection hcop with hcop;subst hcop;simp only[hiso]
     ·rename_i hiso;injection hcop with hcop;subst hcop
      have:C.iso fx=false:=by simpa using hiso
      simp only[this]
   ·simp only[execOp,hop,resolve,hargs,Act.eval]
  ·cases hcop
 ·
  rename_i fo args at2 hnf
  have hd:∀c,o.op≠.defer c:=by rw[hop];intro c h;cases h
  split at hcop
  ·rename_i fv vs hfv hvs
   injection hcop with hcop;subst hcop
   simp only[ay,hfv,hvs] at hag
   refine ib (fv:=fv.run t) (v:=a.eval fo) (as:=vs.run t) hC hi hr hwf (ac hfv ht hr) (bw ht hr hvs) hag h hne hf ho hw hd ?_
   simp only[execOp,hop,resolve,hargs]
  ·cases hcop
 ·
  have hd:∀c,o.op≠.defer c:=by rw[hop];intro c h;cases h
  injection hcop with hcop;subst hcop
  subst h
  refine ⟨.nilIface,w,γ,hg,Fin.refl hr,.nili _,.one (iB ho hw hd hC.recov hcalm ?_)⟩
  simp only[execOp,hop,resolve,invoke,Sem.run_bind,Sem.run_pure,Result.andThen_ok]
  rfl
 ·
  split at hcop
  ·injection hcop with hcop;subst hcop
   exfalso
   dsimp only at h
   split at h
   ·exact hne h.symm
   ·split at h
    ·exact hnd _ h.symm
    ·exact hne h.symm
  ·cases hcop
 ·
  split at hcop
  ·rename_i s hs
   injection hcop with hcop;subst hcop
   have hd:∀c,o.op≠.defer c:=by rw[hop];rintro c rfl;simp[fh] at hs
   have hlook:∀id∈ax C op t g,hg id=g.h.get id:=by
    intro id hid
    have hn:g.h.get id≠.none:=fun hn=>hne (by rw[<-h];exact i5 hs hid hn)
    unfold Agr at hag
    split at hag
    ·exact hag id hn
    ·exact hag id hid hn
   have hsim:=lA hs hop ht hr (hf g.nx (Nat.le_refl _) hm.nx) hlook
   have h:s.run t g=r:=h
   rw[h] at hsim
   cases r with
   | fail=>exact absurd rfl hne
   | val x =>
    obtain ⟨v,h1,h2⟩:=hsim
    exact ⟨v,w,γ,hg,Fin.refl hr,h2,eP ho hw hd h1⟩
   | upd x g' =>
    obtain ⟨v,w',γ',id,ob,h1,h2,h3,h4⟩:=hsim
    rcases h4 with ⟨rfl,h4⟩ | ⟨rfl,rfl,h4⟩
    ·exact ⟨v,w',γ',_,Fin.ofPut h4 h3,h2,eP ho hw hd h1⟩
    ·exact ⟨v,w',γ',_,Fin.ofNew h4 h3,h2,eP ho hw hd h1⟩
   | dfr x=>exact absurd rfl (hnd x)
  ·cases hcop
end
end
end Hx
end
section
namespace Hx
open Go
section
variable {K V:Type}
open Classical in
noncomputable def ov (S:Nat->Prop)(wr:Nat->K->Prop)(val:Nat->K->V)(base:K->V):Nat->K->V
 | 0,k=>base k
 | i+1,k=>if S i/\wr i k then val (i+1) k else ov S wr val base i k
variable {S S':Nat->Prop}{wr:Nat->K->Prop}{val:Nat->K->V}{base:K->V}{k:K}
theorem ll {n:Nat}(h:∀j,j<n->wr j k->(S j↔S' j)):ov S wr val base n k=ov S' wr val base n k:=by
 induction n with
 | zero=>rfl
 | succ n ih =>
  simp only[ov]
  rw[ih fun j hj=>h j (by omega)]
  by_cases hw:wr n k
  ·have hS:=h n (by omega) hw
   by_cases hs:S n
   ·rw[if_pos ⟨hs,hw⟩,if_pos ⟨hS.1 hs,hw⟩]
   ·rw[if_neg (fun hh=>hs hh.1),if_neg (fun hh=>hs (hS.2 hh.1))]
  ·rw[if_neg (fun hh=>hw hh.2),if_neg (fun hh=>hw hh.2)]
theorem gt {n m:Nat}(hm:m<=n)(h:∀j,m<=j->j<n->S j->¬wr j k):ov S wr val base n k=ov S wr val base m k:=by
 induction n with
 | zero=>have:m=0:=by omega
         subst this;rfl
 | succ n ih =>
  by_cases hmn:m=n+1
  ·subst hmn;rfl
  ·simp only[ov]
   rw[if_neg (fun hh=>h n (by omega) (by omega) hh.1 hh.2)]
   exact ih (by omega) fun j h1 h2=>h j h1 (by omega)
theorem la {n i:Nat}(hi:i<n)(hw:wr i k)(h:∀j,i<j->j<n->S j->¬wr j k):ov (fun j=>S j\/j=i) wr val base n k=val (i+1) k:=by
 rw[gt (m:=i+1) (by omega) (fun j h1 h2 h3=>by
  rcases h3 with h3 | h3
  ·exact h j (by omega) h2 h3
  ·omega)]
 simp[ov,hw]
theorem ic {n i:Nat}(hw:¬wr i k):ov (fun j=>S j\/j=i) wr val base n k=ov S wr val base n k:=by
 refine ll fun j _ hj=>?_
 constructor
 ·rintro (h | h)
  ·exact h
  ·subst h;exact absurd hj hw
 ·exact .inl
theorem lf {n i:Nat}(hi:i<=n)(keep:∀j,j<n->¬wr j k->val (j+1) k=val j k)(h:∀j,j<n->wr j k->(S j↔j<i)) :
  ((∃j,j<i/\wr j k)/\ov S wr val base n k=val i k)\/((∀j,j<i->¬wr j k)/\ov S wr val base n k=base k/\val i k=val 0 k):=by
 rw[gt hi (fun j h1 h2 h3 h4=>by have:=(h j h2 h4).1 h3;omega)]
 have key:∀m,m<=i->((∃j,j<m/\wr j k)/\ov S wr val base m k=val m k)\/((∀j,j<m->¬wr j k)/\ov S wr val base m k=base k/\val m k=val 0 k):=by
  intro m
  induction m with
  | zero=>intro _;exact .inr ⟨fun j hj=>absurd hj (Nat.not_lt_zero j),rfl,rfl⟩
  | succ m ih =>
   intro hm
   by_cases hw:wr m k
   ·left
    refine ⟨⟨m,by omega,hw⟩,?_⟩
    simp only[ov]
    rw[if_pos ⟨(h m (by omega) hw).2 (by omega),hw⟩]
   ·simp only[ov]
    rw[if_neg (fun hh=>hw hh.2)]
    rcases ih (by omega) with ⟨⟨j,h1,h2⟩,h3⟩ | ⟨h1,h2,h3⟩
    ·left;exact ⟨⟨j,by omega,h2⟩,by rw[h3,keep m (by omega) hw]⟩
    ·right
     refine ⟨fun j hj=>?_,h2,by rw[keep m (by omega) hw,h3]⟩
     by_cases hjm:j=m
     ·subst hjm;exact hw
     ·exact h1 j (by omega)
 exact key i (Nat.le_refl _)
end
theorem fG (es:List Edge)(acc:List Nat):∀(m i:Nat),
  (es.foldl (fun m e=>af (Region.binds .any e) (m ||| 2 ^ e.on ||| acc.getD e.on 0) m) m).testBit i=true ->
  m.testBit i=true\/∃e∈es,Region.binds .any e=true/\(e.on=i\/(acc.getD e.on 0).testBit i=true):=by
 induction es with
 | nil=>intro m i h;exact .inl h
 | cons e es ih =>
  intro m i h
  simp only[List.foldl_cons] at h
  rcases ih _ i h with h | ⟨e',h1,h2,h3⟩
  ·rw[aa] at h
   split at h
   ·rename_i hb
    simp only[Nat.testBit_or,Bool.or_eq_true] at h
    rcases h with (h | h) | h
    ·exact .inl h
    ·right
     refine ⟨e,List.mem_cons_self,hb,.inl ?_⟩
     rw[Nat.testBit_two_pow] at h
     simpa using h
    ·exact .inr ⟨e,List.mem_cons_self,hb,.inr h⟩
   ·exact .inl h
  ·exact .inr ⟨e',List.mem_cons_of_mem _ h1,h2,h3⟩
theorem gF {S:Nat->Prop}{all:List Oper}(hS:∀j o,all[j]?=some o->S j->∀e∈o.after.toList,Region.binds .any e=true->S e.on) :
  ∀(ops:List Oper) (acc:List Nat) (pre:List Oper),all=pre++ops->pre.length=acc.length->(∀j i,(acc.getD j 0).testBit i=true->S j->S i) ->
   ∀j i,((aB ops acc).getD j 0).testBit i=true->S j->S i:=by
 intro ops
 induction ops with
 | nil=>intro acc pre _ _ h;exact h
 | cons o rest ih =>
  intro acc pre hall hlen h
  simp only[aB]
  refine ih _ (pre++[o]) (by simp[hall]) (by simp[hlen]) fun j i hj hSj=>?_
  by_cases hlt:j<acc.length
  ·refine h j i ?_ hSj
   rw[List.getD_eq_getElem?_getD,List.getElem?_append_left hlt] at hj
   rw[List.getD_eq_getElem?_getD];exact hj
  ·by_cases hje:j=acc.length
   ·subst hje
    rw[List.getD_eq_getElem?_getD,List.getElem?_append_right (Nat.le_refl _)] at hj
    simp only[Nat.sub_self,List.getElem?_cons_zero,Option.getD_some] at hj
    have ho:all[acc.length]?=some o:=by rw[hall,<-hlen];simp
    rcases fG _ acc _ _ hj with h0 | ⟨e,h1,h2,h3⟩
    ·simp at h0
    ·have hSe:=hS _ o ho hSj e h1 h2
     rcases h3 with h3 | h3
     ·rw[<-h3];exact hSe
     ·exact h _ _ h3 hSe
   ·rw[List.getD_eq_getElem?_getD,List.getElem?_eq_none (by simp;omega)] at hj
    simp at hj
theorem fD {α:Type}{f:Nat->α->Nat->α->Bool}{i:Nat}{x:α}:∀{l:List α} {j0:Nat},ch f i x j0 l=true->∀(j:Nat) y,l[j]?=some y->f i x (j0+j) y=true:=by
 intro l
 induction l with
 | nil=>intro j0 _ j y h;simp at h
 | cons a l ih =>
  intro j0 h j y hy
  simp only[ch,Bool.and_eq_true] at h
  cases j with
  | zero=>simp at hy;subst hy;exact h.1
  | succ j =>
   have:=ih h.2 j y (by simpa using hy)
   rw[show j0+(j+1)=j0+1+j by omega];exact this
theorem e6 {α:Type}{f:Nat->α->Nat->α->Bool}:∀{l:List α} {i0:Nat},di f i0 l=true->∀(i j:Nat) x y,i<j->l[i]?=some x->l[j]?=some y->f (i0+i) x (i0+j) y=true:=by
 intro l
 induction l with
 | nil=>intro i0 _ i j x y _ h;simp at h
 | cons a l ih =>
  intro i0 h i j x y hij hx hy
  simp only[di,Bool.and_eq_true] at h
  cases j with
  | zero=>omega
  | succ j =>
   cases i with
   | zero =>
    simp at hx;subst hx
    have:=fD h.1 j y (by simpa using hy)
    rw[show i0+(j+1)=i0+1+j by omega];simpa using this
   | succ i =>
    have:=ih h.2 i j x y (by omega) (by simpa using hx) (by simpa using hy)
    rw[show i0+(i+1)=i0+1+i by omega,show i0+(j+1)=i0+1+j by omega];exact this
theorem g9:∀{l:List Oper} {i0:Nat},dm i0 l=true->∀(i:Nat) o,l[i]?=some o->∀e∈o.after.toList,Region.binds .any e=true->e.on<i0+i:=by
 intro l
 induction l with
 | nil=>intro i0 _ i o h;simp at h
 | cons a l ih =>
  intro i0 h i o ho e he hb
  simp only[dm,Bool.and_eq_true] at h
  cases i with
  | zero =>
   simp at ho;subst ho
   have:=List.all_eq_true.1 h.1 e he
   simp only[hb,Bool.not_true,Bool.false_or,Nat.blt_eq] at this
   simpa using this
  | succ i =>
   have:=ih h.2 i o (by simpa using ho) e he hb
   omega
theorem gq {pm:List Nat}:∀{l:List Oper} {i0:Nat},cH pm i0 l=true->∀(i:Nat) o,l[i]?=some o->∀j b,o.guard=some (j,b)->(pm.getD (i0+i) 0).testBit j=true:=by
 intro l
 induction l with
 | nil=>intro i0 _ i o h;simp at h
 | cons a l ih =>
  intro i0 h i o ho j b hg
  simp only[cH,Bool.and_eq_true] at h
  cases i with
  | zero =>
   simp at ho;subst ho
   have:=h.1
   simp only[hg] at this
   simpa using this
  | succ i =>
   have:=ih h.2 i o (by simpa using ho) j b hg
   rw[show i0+(i+1)=i0+1+i by omega];exact this
def cnt (p:Nat->Bool):Nat->Nat
 | 0=>0
 | n+1=>cnt p n+(if p n then 1 else 0)
theorem kK {p:Nat->Bool}:∀{n:Nat},cnt p n=0->∀i,i<n->p i=false:=by
 intro n
 induction n with
 | zero=>intro _ i hi;omega
 | succ n ih =>
  intro h i hi
  simp only[cnt] at h
  by_cases hin:i=n
  ·subst hin;cases hp:p i
   ·rfl
   ·simp[hp] at h
  ·exact ih (by omega) i (by omega)
theorem l9 {p q:Nat->Bool}(h:∀i,q i=true->p i=true):∀{n i:Nat},i<n->p i=true->q i=false->cnt q n<cnt p n:=by
 have hle:∀n,cnt q n<=cnt p n:=by
  intro n
  induction n with
  | zero=>exact Nat.le_refl _
  | succ n ih =>
   simp only[cnt]
   have:=h n
   cases hq:q n
   ·cases p n<;>simp<;>omega
   ·simp[this hq];omega
 intro n
 induction n with
 | zero=>intro i hi;omega
 | succ n ih =>
  intro i hi hp hq
  simp only[cnt]
  by_cases hin:i=n
  ·subst hin;simp[hp,hq];have:=hle i;omega
  ·have:=ih (by omega) hp hq
   have h2:=h n
   cases hq':q n
   ·cases p n<;>simp<;>omega
   ·simp[h2 hq'];omega
end Hx
end
