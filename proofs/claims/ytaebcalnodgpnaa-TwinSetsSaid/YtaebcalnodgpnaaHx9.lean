/- A part of the proof: an interpreter over abstract values, shown right against the model, and what the functions of the chapter compute on it. -/
import Derived.Test.YtaebcalnodgpnaaHx8
set_option linter.unusedVariables false
set_option linter.unusedSimpArgs false
set_option linter.unnecessarySimpa false
section
namespace Hx
open Go
noncomputable section
def kR (J:PT)(b:Nat)(Q:QT):QT:=fun e t df g=>match e with
 | .norm=>J t df g
 | .exit x=>if x=b then J t df g else Q (.exit x) t df g
 | .ret=>Q .ret t df g
theorem kR_norm (J:PT)(b:Nat)(Q:QT)(t:T)(df:List ADf)(g:G):kR J b Q .norm t df g=J t df g:=rfl
theorem kR_exit (J:PT)(b x:Nat)(Q:QT)(t:T)(df:List ADf)(g:G):kR J b Q (.exit x) t df g=if x=b then J t df g else Q (.exit x) t df g:=rfl
theorem kR_ret (J:PT)(b:Nat)(Q:QT)(t:T)(df:List ADf)(g:G):kR J b Q .ret t df g=Q .ret t df g:=rfl
variable {C:Cfg}{d:Nat}{rd:Option Nat}
theorem wp_mono:∀(s:SC) {Q Q':QT} {t:T} {df:List ADf} {g:G},wp C d rd s Q t df g→(∀e t df g,Q e t df g→Q' e t df g)→wp C d rd s Q' t df g:=by
 have hO:∀(l:List SI) {Q Q':PT} {t:T} {df:List ADf} {g:G},wpO C d rd l Q t df g→(∀t df g,Q t df g→Q' t df g)→wpO C d rd l Q' t df g:=by
  intro l
  induction l with
  | nil=>intro Q Q' t df g h hq;exact hq _ _ _ h
  | cons i r ih =>
   intro Q Q' t df g h hq
   have run:∀t df g,runP C d rd i (wpO C d rd r Q) t df g→runP C d rd i (wpO C d rd r Q') t df g:=fun t df g h =>
    OR.sat_mono h (fun v g' h=>ih h hq) (fun a h=>ih h hq)
   have skp:∀t df g,skipP i (wpO C d rd r Q) t df g→skipP i (wpO C d rd r Q') t df g:=fun t df g h=>ih h hq
   unfold wpO at h ⊢
   split at h
   ·exact run _ _ _ h
   ·rename_i s w hg
    unfold gdP at h ⊢
    split at h
    ·rw[bif'_eq] at h ⊢
     split at h
     ·rename_i hw;rw[if_pos hw];exact ⟨fun q=>run _ _ _ (h.1 q),fun q=>skp _ _ _ (h.2 q)⟩
     ·rename_i hw;rw[if_neg hw];exact ⟨fun q=>skp _ _ _ (h.1 q),fun q=>run _ _ _ (h.2 q)⟩
    ·exact skp _ _ _ h
    ·exact h
 have hF:∀(pm:List Nat) (l:List SI) {Q Q':PT} {t:T} {df:List ADf} {g:G} {fs:List Foot},wpF C d rd pm l Q t df g fs→(∀t df g,Q t df g→Q' t df g)→wpF C d rd pm l Q' t df g fs:=by
  intro pm l
  induction l with
  | nil=>intro Q Q' t df g fs h hq;exact ⟨h.1,hq _ _ _ h.2⟩
  | cons i r ih =>
   intro Q Q' t df g fs h hq
   have run:∀t df g,runF C d rd i (wpF C d rd pm r Q) fs t df g→runF C d rd i (wpF C d rd pm r Q') fs t df g:=fun t df g h =>
    OR.sat_mono h (fun v g' h=>ih h hq) (fun a h=>h)
   have skp:∀t df g,skipF i (wpF C d rd pm r Q) fs t df g→skipF i (wpF C d rd pm r Q') fs t df g:=fun t df g h=>ih h hq
   unfold wpF at h ⊢
   split at h
   ·exact run _ _ _ h
   ·rename_i s w hg
    unfold gdP at h ⊢
    split at h
    ·rw[bif'_eq] at h ⊢
     split at h
     ·rename_i hw;rw[if_pos hw];exact ⟨fun q=>run _ _ _ (h.1 q),fun q=>skp _ _ _ (h.2 q)⟩
     ·rename_i hw;rw[if_neg hw];exact ⟨fun q=>skp _ _ _ (h.1 q),fun q=>run _ _ _ (h.2 q)⟩
    ·exact skp _ _ _ h
    ·exact h
 intro s
 induction s with
 | skip=>intro Q Q' t df g h hq;exact hq _ _ _ _ h
 | ops l=>intro Q Q' t df g h hq;exact hO l h (hq _)
 | quiet l=>intro Q Q' t df g h hq;exact hO l h (fun t df g' h=>⟨h.1,h.2.1,hq _ _ _ _ h.2.2⟩)
 | feet pm l=>intro Q Q' t df g h hq;exact hF pm l h (hq _)
 | seq a b iha ihb =>
  intro Q Q' t df g h hq
  refine iha h fun e t df g h=>?_
  cases e with
  | norm=>exact ihb h hq
  | exit x=>exact hq _ _ _ _ h
  | ret=>exact hq _ _ _ _ h
 | cond c a b iha ihb =>
  intro Q Q' t df g h hq
  have h:wpC (c.get t) (wp C d rd a Q) (wp C d rd b Q) t df g:=h
  show wpC (c.get t) (wp C d rd a Q') (wp C d rd b Q') t df g
  unfold wpC at h ⊢
  split at h
  ·exact ⟨fun q=>iha (h.1 q) hq,fun q=>ihb (h.2 q) hq⟩
  ·exact h
 | blk id b ih =>
  intro Q Q' t df g h hq
  refine ih h fun e t df g h=>?_
  cases e with
  | norm=>exact hq _ _ _ _ h
  | exit x =>
   rw[kB_exit] at h ⊢
   split at h
   ·rename_i e;rw[if_pos e];exact hq _ _ _ _ h
   ·rename_i e;rw[if_neg e];exact hq _ _ _ _ h
  | ret=>exact hq _ _ _ _ h
 | loop b ih =>
  intro Q Q' t df g h hq
  obtain ⟨Inv,hk,hs⟩:=h
  refine ⟨Inv,hk,fun k t df g hi=>ih (hs k t df g hi) fun e t df g h=>?_⟩
  cases e with
  | norm=>exact h
  | exit x=>exact hq _ _ _ _ h
  | ret=>exact hq _ _ _ _ h
 | exit id=>intro Q Q' t df g h hq;exact hq _ _ _ _ h
 | ret=>intro Q Q' t df g h hq;exact hq _ _ _ _ h
 | rng nt f ps a b _ _=>intro Q Q' t df g h hq assign body ha hb;exact CR.sat_mono (h assign body ha hb) hq
 | raw nt c=>intro Q Q' t df g h hq;exact CR.sat_mono h hq
theorem wpL_range {body:SC}{c ti tn k B b:Nat}{Q:QT}{m:Nat}(hm:m<9223372036854775808)(J:Nat→PT){t:T}{df:List ADf}{g:G}
  (h0:J 0 t df g) (hi:tat t ti=.int .i64 0) (hn:tat t tn=.int .i64 (m:Int)) (hc:c≠ti∧c≠tn∧k≠tn∧ti≠tn∧b≠B)
  (hJ:∀j t df g v s,s=c∨s=ti∨s=k→J j t df g→J j (tset t s v) df g)
  (step:∀j t df g,j<m→J j t df g→tat t ti=.int .i64 (j:Int)→tat t tn=.int .i64 (m:Int) →
   wp C d rd body (kR (fun t df g=>J (j+1) t df g∧tat t ti=.int .i64 (j:Int)∧tat t tn=.int .i64 (m:Int)) b Q) t df g)
  (fin:∀t df g,J m t df g→Q (.exit B) t df g) :
  wpL (wp C d rd (.seq (.ops [o c (.bin .lss (.t ti) (.t tn))]) (.seq (.cond (.t c) .skip (.exit B)) (.seq (.blk b body) (.ops [o k (.bin .add (.t ti) (.k (.int .i64 1))),o ti (.mv (.t k))]))))) Q t df g:=by
 obtain ⟨c1,c2,c3,c4,c5⟩:=hc
 refine wpL_mk (fun n t df g=>∃j:Nat,n=m - j∧j≤m∧J j t df g∧tat t ti=.int .i64 (j:Int)∧tat t tn=.int .i64 (m:Int)) m ⟨0,by omega,by omega,h0,hi,hn⟩ ?_
 rintro n t df g ⟨j,rfl,hj,hjj,h1,h2⟩
 simp only[sx,SO.run,↓reduceIte,h1,h2]
 refine ⟨fun hq=>?_,fun hq=>?_⟩
 ·have hlt:j<m:=by simpa using hq
  simp only[sx]
  refine wp_mono _ (step j _ df g hlt (hJ _ _ _ _ _ _ (.inl rfl) hjj) (by simp only[tat_tset];rw[if_neg (Ne.symm c1),h1]) (by simp only[tat_tset];rw[if_neg (Ne.symm c2),h2])) fun e t df g h=>?_
  have key:J (j+1) t df g∧tat t ti=.int .i64 (j:Int)∧tat t tn=.int .i64 (m:Int)→wp C d rd (.ops [o k (.bin .add (.t ti) (.k (.int .i64 1))),o ti (.mv (.t k))])
    (kL (fun n t df g=>∃j:Nat,n=m - j∧j≤m∧J j t df g∧tat t ti=.int .i64 (j:Int)∧tat t tn=.int .i64 (m:Int)) (m - j) Q) t df g:=by
   rintro ⟨a1,a2,a3⟩
   simp only[sx,SO.run,a2,↓reduceIte]
   refine ⟨_,?_,j+1,rfl,by omega,hJ _ _ _ _ _ _ (.inr (.inl rfl)) (hJ _ _ _ _ _ _ (.inr (.inr rfl)) a1),?_,?_⟩
   ·omega
   ·rw[wrap64 (by omega) (by omega)];rfl
   ·rw[if_neg (Ne.symm c4),if_neg (Ne.symm c3),a3]
  cases e with
  | norm=>exact key h
  | ret=>exact h
  | exit x =>
   rw[kR_exit] at h
   rw[kB_exit]
   split at h
   ·rename_i e;rw[if_pos e];exact key h
   ·rename_i e;rw[if_neg e];exact h
 ·have:j=m:=by simp at hq;omega
  subst this
  simp only[sx]
  exact fin _ _ _ (hJ _ _ _ _ _ _ (.inl rfl) hjj)
theorem wpL_for {Hd body inc:SC}{c B b:Nat}{Q:QT}{m:Nat}(J:Nat→PT){t:T}{df:List ADf}{g:G}(h0:J 0 t df g)
  (hd:∀j t df g,j≤m→J j t df g→wp C d rd Hd (fun e t df g=>e=.norm∧tat t c=.bool (decide (j<m))∧J j t df g) t df g)
  (step:∀j t df g,j<m→J j t df g→wp C d rd body (kR (fun t df g=>wp C d rd inc (fun e t df g=>e=.norm∧J (j+1) t df g) t df g) b Q) t df g)
  (fin:∀t df g,J m t df g→Q (.exit B) t df g) :
  wpL (wp C d rd (.seq (.seq Hd (.cond (.t c) .skip (.exit B))) (.seq (.blk b body) inc))) Q t df g:=by
 refine wpL_mk (fun n t df g=>∃j:Nat,n=m - j∧j≤m∧J j t df g) m ⟨0,by omega,by omega,h0⟩ ?_
 rintro n t df g ⟨j,rfl,hj,hjj⟩
 simp only[wp_seq]
 refine wp_mono _ (hd j t df g hj hjj) ?_
 rintro e t df g ⟨rfl,hq,hjj⟩
 simp only[sx,hq]
 refine ⟨fun hq=>?_,fun hq=>?_⟩
 ·have hlt:j<m:=by simpa using hq
  simp only[sx]
  refine wp_mono _ (step j t df g hlt hjj) fun e t df g h=>?_
  have key:wp C d rd inc (fun e t df g=>e=.norm∧J (j+1) t df g) t df g→wp C d rd inc (kL (fun n t df g=>∃j:Nat,n=m - j∧j≤m∧J j t df g) (m - j) Q) t df g:=by
   intro h
   refine wp_mono _ h ?_
   rintro e t df g ⟨rfl,h⟩
   exact ⟨_,by omega,j+1,rfl,by omega,h⟩
  cases e with
  | norm=>exact key h
  | ret=>exact h
  | exit x =>
   rw[kR_exit] at h
   rw[kB_exit]
   split at h
   ·rename_i e;rw[if_pos e];exact key h
   ·rename_i e;rw[if_neg e];exact h
 ·have:j=m:=by simp at hq;omega
  subst this
  simp only[sx]
  exact fin _ _ _ hjj
theorem wpL_len {body:SC}{a b' e c ti sl x y B b:Nat}{Q:QT}{v:AV}{m:Nat}(hm:m<9223372036854775808)(hlen:∀g,lenF .slice v g=.val (.int .i64 (m:Int)))(J:Nat→PT){t:T}{df:List ADf}{g:G}
  (h0:J 0 t df g) (hi:tat t ti=.int .i64 0) (hs:tat t sl=v)
  (hc:(a≠ti∧b'≠ti∧e≠ti∧c≠ti)∧(a≠sl∧b'≠sl∧e≠sl∧c≠sl∧x≠sl∧y≠sl∧ti≠sl)∧a≠b'∧a≠e∧x≠y)
  (hJ:∀j t df g v s,s=a∨s=b'∨s=e∨s=c∨s=ti∨s=x∨s=y→J j t df g→J j (tset t s v) df g)
  (step:∀j t df g,j<m→J j t df g→tat t ti=.int .i64 (j:Int)→tat t sl=v →
   wp C d rd body (kR (fun t df g=>J (j+1) t df g∧tat t ti=.int .i64 (j:Int)∧tat t sl=v) b Q) t df g)
  (fin:∀t df g,J m t df g→tat t sl=v→Q (.exit B) t df g) :
  wpL (wp C d rd (.seq (.seq (.ops [o a (.mv (.t ti)),o b' (.mv (.t sl)),o e (.len .slice (.t b')),o c (.bin .lss (.t a) (.t e))]) (.cond (.t c) .skip (.exit B))) (.seq (.blk b body)
   (.ops [o x (.mv (.t ti)),o y (.bin .add (.t x) (.k (.int .i64 1))),o ti (.mv (.t y))])))) Q t df g:=by
 obtain ⟨⟨q1,q2,q3,q4⟩,⟨r1,r2,r3,r4,r5,r6,r7⟩,p1,p2,p3⟩:=hc
 refine wpL_for (m:=m) (fun j t df g=>J j t df g∧tat t ti=.int .i64 (j:Int)∧tat t sl=v) ⟨h0,hi,hs⟩ ?_ ?_ (fun t df g h=>fin t df g h.1 h.2.2)
 ·rintro j t df g hj ⟨h1,h2,h3⟩
  simp only[sx,SO.run,h2,h3,hlen,p1,p2,Ne.symm r1,Ne.symm p1,↓reduceIte,q1,q2,q3,q4,Ne.symm q1,Ne.symm q2,Ne.symm q3,Ne.symm q4,Ne.symm r2,Ne.symm r3,Ne.symm r4,true_and,and_true]
  refine ⟨by congr 1;simp,hJ _ _ _ _ _ _ (.inr (.inr (.inr (.inl rfl)))) (hJ _ _ _ _ _ _ (.inr (.inr (.inl rfl))) (hJ _ _ _ _ _ _ (.inr (.inl rfl)) (hJ _ _ _ _ _ _ (.inl rfl) h1)))⟩
 ·rintro j t df g hj ⟨h1,h2,h3⟩
  refine wp_mono _ (step j t df g hj h1 h2 h3) fun e t df g h=>?_
  have key:J (j+1) t df g∧tat t ti=.int .i64 (j:Int)∧tat t sl=v→wp C d rd (.ops [o x (.mv (.t ti)),o y (.bin .add (.t x) (.k (.int .i64 1))),o ti (.mv (.t y))])
    (fun e t df g=>e=.norm∧J (j+1) t df g∧tat t ti=.int .i64 ((j+1:Nat):Int)∧tat t sl=v) t df g:=by
   rintro ⟨h1,h2,h3⟩
   simp only[sx,SO.run,h2,↓reduceIte,Ne.symm r5,Ne.symm r6,Ne.symm r7,h3,true_and,and_true]
   refine ⟨hJ _ _ _ _ _ _ (.inr (.inr (.inr (.inr (.inl rfl))))) (hJ _ _ _ _ _ _ (.inr (.inr (.inr (.inr (.inr (.inr rfl)))))) (hJ _ _ _ _ _ _ (.inr (.inr (.inr (.inr (.inr (.inl rfl)))))) h1)),?_⟩
   rw[wrap64 (by omega) (by omega)];rfl
  cases e with
  | norm=>exact key h
  | ret=>exact h
  | exit x =>
   rw[kR_exit] at h ⊢
   split at h
   ·rename_i e;rw[if_pos e];exact key h
   ·rename_i e;rw[if_neg e];exact h
theorem wpL_down {body:SC}{a c ti x y B b:Nat}{Q:QT}{m:Nat}(hm:m<9223372036854775808)(J:Nat→PT){t:T}{df:List ADf}{g:G}
  (h0:J m t df g) (hi:tat t ti=.int .i64 ((m:Int) - 1)) (hc:a≠ti∧c≠ti∧x≠ti)
  (hJ:∀j t df g v s,s=a∨s=c∨s=ti∨s=x∨s=y→J j t df g→J j (tset t s v) df g)
  (step:∀j t df g,j<m→J (j+1) t df g→tat t ti=.int .i64 (j:Int)→wp C d rd body (kR (fun t df g=>J j t df g∧tat t ti=.int .i64 (j:Int)) b Q) t df g)
  (fin:∀t df g,J 0 t df g→Q (.exit B) t df g) :
  wpL (wp C d rd (.seq (.seq (.ops [o a (.mv (.t ti)),o c (.bin .geq (.t a) (.k (.int .i64 0)))]) (.cond (.t c) .skip (.exit B))) (.seq (.blk b body)
   (.ops [o x (.mv (.t ti)),o y (.bin .sub (.t x) (.k (.int .i64 1))),o ti (.mv (.t y))])))) Q t df g:=by
 obtain ⟨c1,c2,c3⟩:=hc
 refine wpL_mk (fun n t df g=>n≤m∧J n t df g∧tat t ti=.int .i64 ((n:Int) - 1)) m ⟨Nat.le_refl _,h0,hi⟩ ?_
 rintro n t df g ⟨hn,hj,h1⟩
 simp only[sx,SO.run,↓reduceIte,h1]
 refine ⟨fun hq=>?_,fun hq=>?_⟩
 ·obtain ⟨j,rfl⟩:∃j,n=j+1:=⟨n - 1,by simp at hq;omega⟩
  simp only[sx]
  refine wp_mono _ (step j _ df g (by omega) (hJ _ _ _ _ _ _ (.inr (.inl rfl)) (hJ _ _ _ _ _ _ (.inl rfl) hj)) (by simp only[tat_tset];rw[if_neg (Ne.symm c2),if_neg (Ne.symm c1),h1];congr 1;omega)) fun e t df g h=>?_
  have key:J j t df g∧tat t ti=.int .i64 (j:Int)→wp C d rd (.ops [o x (.mv (.t ti)),o y (.bin .sub (.t x) (.k (.int .i64 1))),o ti (.mv (.t y))])
    (kL (fun n t df g=>n≤m∧J n t df g∧tat t ti=.int .i64 ((n:Int) - 1)) (j+1) Q) t df g:=by
   rintro ⟨a1,a2⟩
   simp only[sx,SO.run,a2,↓reduceIte]
   refine ⟨j,by omega,by omega,hJ _ _ _ _ _ _ (.inr (.inr (.inl rfl))) (hJ _ _ _ _ _ _ (.inr (.inr (.inr (.inr rfl)))) (hJ _ _ _ _ _ _ (.inr (.inr (.inr (.inl rfl)))) a1)),?_⟩
   rw[wrap64 (by omega) (by omega)]
  cases e with
  | norm=>exact key h
  | ret=>exact h
  | exit x =>
   rw[kR_exit] at h
   rw[kB_exit]
   split at h
   ·rename_i e;rw[if_pos e];exact key h
   ·rename_i e;rw[if_neg e];exact h
 ·have:n=0:=by simp at hq;omega
  subst this
  simp only[sx]
  exact fin _ _ _ (hJ _ _ _ _ _ _ (.inr (.inl rfl)) (hJ _ _ _ _ _ _ (.inl rfl) hj))
theorem wpL_cnt {Hd:List SI}{body:SC}{c ti x y B b:Nat}{Q:QT}(m:Nat)(hm:m<9223372036854775808)(J:Nat→PT){t:T}{df:List ADf}{g:G}
  (h0:J 0 t df g) (hi:tat t ti=.int .i64 0) (hx:x≠ti)
  (hJ:∀j t df g v s,s=ti∨s=x∨s=y→J j t df g→J j (tset t s v) df g)
  (hd:∀j t df g,j≤m→J j t df g→tat t ti=.int .i64 (j:Int)→wpO C d rd Hd (fun t df g=>tat t c=.bool (decide ((j:Int)<(m:Int)))∧J j t df g∧tat t ti=.int .i64 (j:Int)) t df g)
  (step:∀j t df g,j<m→J j t df g→tat t ti=.int .i64 (j:Int)→wp C d rd body (kR (fun t df g=>J (j+1) t df g∧tat t ti=.int .i64 (j:Int)) b Q) t df g)
  (fin:∀t df g,J m t df g→Q (.exit B) t df g) :
  wpL (wp C d rd (.seq (.seq (.ops Hd) (.cond (.t c) .skip (.exit B))) (.seq (.blk b body)
   (.ops [o x (.mv (.t ti)),o y (.bin .add (.t x) (.k (.int .i64 1))),o ti (.mv (.t y))])))) Q t df g:=by
 refine wpL_for (m:=m) (fun j t df g=>J j t df g∧tat t ti=.int .i64 (j:Int)) ⟨h0,hi⟩ ?_ ?_ (fun t df g h=>fin t df g h.1)
 ·rintro j t df g hj ⟨h1,h2⟩
  have:=hd j t df g hj h1 h2
  refine wp_mono (.ops Hd) (Q:=fun e t df g=>e=.norm∧tat t c=.bool (decide ((j:Int)<(m:Int)))∧J j t df g∧tat t ti=.int .i64 (j:Int)) (by rw[wp_ops];simpa using this) ?_
  rintro e t df g ⟨rfl,a1,a2,a3⟩
  refine ⟨rfl,?_,a2,a3⟩
  rw[a1];congr 1;simp
 ·rintro j t df g hj ⟨h1,h2⟩
  refine wp_mono _ (step j t df g hj h1 h2) fun e t df g h=>?_
  have key:J (j+1) t df g∧tat t ti=.int .i64 (j:Int)→wp C d rd (.ops [o x (.mv (.t ti)),o y (.bin .add (.t x) (.k (.int .i64 1))),o ti (.mv (.t y))])
    (fun e t df g=>e=.norm∧J (j+1) t df g∧tat t ti=.int .i64 ((j+1:Nat):Int)) t df g:=by
   rintro ⟨h1,h2⟩
   simp only[sx,SO.run,h2,↓reduceIte,true_and]
   refine ⟨hJ _ _ _ _ _ _ (.inl rfl) (hJ _ _ _ _ _ _ (.inr (.inr rfl)) (hJ _ _ _ _ _ _ (.inr (.inl rfl)) h1)),?_⟩
   rw[wrap64 (by omega) (by omega)];rfl
  cases e with
  | norm=>exact key h
  | ret=>exact h
  | exit x =>
   rw[kR_exit] at h ⊢
   split at h
   ·rename_i e;rw[if_pos e];exact key h
   ·rename_i e;rw[if_neg e];exact h
end
end Hx
end
section
namespace Hx
open Go
noncomputable section
def vid:AV→Option Nat
 | .hsl id _ _ _ _=>some id
 | _=>none
def Own (g:G)(b:Nat)(v:AV)(sz:Nat)(rows:List (List AV)):Prop :=
 (v=.nils∧rows=[])∨∃id ep lo,b≤id∧id<g.nx∧v=.hsl id ep 0 rows.length none∧g.h.get id=.cells sz rows ep lo false
theorem Own.rows {g:G}{b:Nat}{v:AV}{sz:Nat}{rows:List (List AV)}(h:Own g b v sz rows):rowsOf g.h sz v=some rows:=by
 rcases h with ⟨rfl,rfl⟩ | ⟨id,ep,lo,h1,h2,rfl,h3⟩
 ·rfl
 ·rw[rowsOf_hsl,h3,hslRows_all]
theorem Own.fr {g g':G}{b:Nat}{v:AV}{sz:Nat}{rows:List (List AV)}(h:Own g b v sz rows)(hn:g.nx≤g'.nx)(hf:∀i,vid v=some i→g'.h.get i=g.h.get i):Own g' b v sz rows:=by
 rcases h with h | ⟨id,ep,lo,h1,h2,rfl,h3⟩
 ·exact .inl h
 ·exact .inr ⟨id,ep,lo,h1,by omega,rfl,by rw[hf id rfl,h3]⟩
theorem Own.lt {g:G}{b:Nat}{v:AV}{sz:Nat}{rows:List (List AV)}(h:Own g b v sz rows){i:Nat}(hi:vid v=some i):b≤i∧i<g.nx:=by
 rcases h with ⟨rfl,-⟩ | ⟨id,ep,lo,h1,h2,rfl,h3⟩
 ·cases hi
 ·injection hi with hi;subst hi;exact ⟨h1,h2⟩
theorem Own.cell {g:G}{b:Nat}{v:AV}{sz:Nat}{rows:List (List AV)}(h:Own g b v sz rows):v.cells=[v]∧v.isTup=false:=by
 rcases h with ⟨rfl,-⟩ | ⟨id,ep,lo,h1,h2,rfl,h3⟩<;>exact ⟨rfl,rfl⟩
theorem append_own {g:G}{b:Nat}{v x:AV}{sz bytes:Nat}{rows new:List (List AV)}{K:AV→G→Prop}{D:ADf→Prop}(hv:Own g b v sz rows)(hx:rowsOf g.h sz x=some new)(hb:b≤g.nx)
  (hr:(rows.length+new.length)*bytes≤room)
  (k:∀v' g',Own g' b v' sz (rows++new)→g.nx≤g'.nx→(∀i,i<g.nx→vid v≠some i→g'.h.get i=g.h.get i)→(vid v'=vid v∨∃i,vid v'=some i∧g.nx≤i)→(∀i∈g'.lg,i∈g.lg∨b≤i)→K v' g') :
  (appendA sz bytes v x g).sat K g D:=by
 unfold appendA
 rw[hx]
 dsimp only
 rcases hv with ⟨rfl,rfl⟩ | ⟨id,ep,lo,h1,h2,rfl,h3⟩
 ·cases new with
  | nil=>exact k _ _ (.inl ⟨rfl,rfl⟩) (Nat.le_refl _) (fun _ _ _=>rfl) (.inl rfl) (fun i hi=>.inl hi)
  | cons r new =>
   simp only[appendRows,lenR_eq,bif'_eq,Nat.ble_eq]
   rw[if_pos (by simpa using hr)]
   refine k _ _ (.inr ⟨g.nx,0,true,hb,by simp,rfl,by simp[get_put_eq]⟩) (by simp) (fun i hi _=>?_) (.inr ⟨g.nx,rfl,Nat.le_refl _⟩) (fun i hi=>by simp at hi;rcases hi with rfl | hi;exact .inr hb;exact .inl hi)
   rw[G.new_h,get_put_ne _ _ _ (by omega)]
 ·simp only[appendRows,G.get_eq,h3,lenR_eq,bif'_eq,show Nat.beq ep ep=true from Nat.beq_refl ep,show Nat.beq sz sz=true from Nat.beq_refl sz,Bool.true_and,Nat.ble_eq,Bool.and_eq_true,Nat.zero_add,Option.getD_none,Nat.sub_zero]
  rw[if_pos ⟨Nat.le_refl _,hr⟩]
  cases new with
  | nil =>
   rw[if_pos (by simp)]
   refine k _ _ (.inr ⟨id,ep,lo,h1,h2,by simp,by simpa using h3⟩) (Nat.le_refl _) (fun _ _ _=>rfl) (.inl rfl) (fun i hi=>.inl hi)
  | cons r new =>
   rw[if_neg (by simp)]
   have ht:takeR rows.length (dropR 0 rows)=rows:=by rw[takeR_eq,dropR_eq];simp
   cases lo with
   | false =>
    rw[if_pos (by simp)]
    refine k _ _ (.inr ⟨g.nx,0,true,by omega,by simp,by simp,by simp[get_put_eq,ht]⟩) (by simp) (fun i hi _=>?_) (.inr ⟨g.nx,rfl,Nat.le_refl _⟩) (fun i hi=>by simp at hi;rcases hi with rfl | hi;exact .inr hb;exact .inl hi)
    rw[G.new_h,get_put_ne _ _ _ (by omega)]
   | true =>
    rw[if_neg (by simp)]
    refine k _ _ (.inr ⟨id,ep+1,true,h1,by simpa using h2,by simp,by simp[get_put_eq,ht]⟩) (by simp) (fun i hi hne=>?_) (.inl rfl) (fun i hi=>by simp at hi;rcases hi with rfl | hi;exact .inr h1;exact .inl hi)
    rw[G.put_h,get_put_ne _ _ _ (fun e=>hne (by rw[e];rfl))]
def Fr (g g':G):Prop:=g.nx≤g'.nx∧∀i,i<g.nx→g'.h.get i=g.h.get i
theorem Fr.refl (g:G):Fr g g:=⟨Nat.le_refl _,fun _ _=>rfl⟩
theorem Fr.trans {g g' g'':G}(h:Fr g g')(h':Fr g' g''):Fr g g'':=⟨Nat.le_trans h.1 h'.1,fun i hi=>by rw[h'.2 i (Nat.lt_of_lt_of_le hi h.1),h.2 i hi]⟩
theorem Fr.new (g:G)(o:AObj):Fr g (g.new o):=⟨by simp,fun i hi=>by rw[G.new_h,get_put_ne _ _ _ (by omega)]⟩
theorem Own.step {g g':G}{b:Nat}{v:AV}{sz:Nat}{rows:List (List AV)}(h:Own g b v sz rows)(f:Fr g g'):Own g' b v sz rows :=
 h.fr f.1 fun i hi=>f.2 i (h.lt hi).2
theorem store_own {g:G}{b:Nat}{v:AV}{sz n i off:Nat}{rows:List (List AV)}{row row':List AV}{x:AV}{K:AV→G→Prop}{D:ADf→Prop}(hv:Own g b v sz rows)(hr:rows[i]?=some row)
  (hl:x.cells.length=n) (ht:x.isTup=false) (hp:putCells row off x.cells=some row')
  (k:∀g',Own g' b v sz (rows.set i row')→g'.nx=g.nx→(∀i,vid v≠some i→g'.h.get i=g.h.get i)→K .undef g'):(storeV n (rptr sz v i off) x g).sat K g D:=by
 rcases hv with ⟨rfl,rfl⟩ | ⟨id,ep,lo,h1,h2,rfl,h3⟩
 ·simp at hr
 ·simp only[rptr,Nat.zero_add]
  rw[store_hptr h3 hr rfl ht hl hp]
  refine k _ (.inr ⟨id,ep,lo,h1,by simpa using h2,by simp,by simp[get_put_eq]⟩) (by simp) (fun i hne=>?_)
  rw[G.put_h,get_put_ne _ _ _ (fun e=>hne (by rw[e];rfl))]
theorem mks_own {g:G}{b sz bytes:Nat}{zero:List AV}{k1 k2:IntKind}{n:Nat}{K:AV→G→Prop}{D:ADf→Prop}(hn:n≤room)(hb:n*bytes≤room)(hg:b≤g.nx)
  (k:∀v' g',Own g' b v' sz (List.replicate n zero)→g'.nx=g.nx+1→(∀i,i<g.nx→g'.h.get i=g.h.get i)→vid v'=some g.nx→K v' g') :
  (mksV sz bytes zero (.int k1 (n:Int)) (.int k2 (n:Int)) g).sat K g D:=by
 show (match natOf room (.int k2 (.ofNat n)) with
  | some cn=>match natOf cn (.int k1 (.ofNat n)) with
   | some ln=>bif' (Nat.ble (cn*bytes) room) (OR.upd (.hsl g.nx 0 0 ln none) (g.new (.cells sz (repl cn zero) 0 false false))) .fail
   | none=>.fail
  | none=>.fail).sat K g D
 simp only[natOf,bif'_eq,Nat.ble_eq,if_pos hn,Nat.le_refl,if_pos hb,if_true]
 refine k _ _ (.inr ⟨g.nx,0,false,hg,by simp,by simp,by simp[get_put_eq,repl]⟩) (by simp) (fun i hi=>?_) rfl
 rw[G.new_h,get_put_ne _ _ _ (by omega)]
theorem Own.sl {α:Type} [Rp α]{g:G}{b:Nat}{v:AV}{rows:List (List AV)}{l:List α}{P:Nat→Prop}{k:Nat}(h:Own g b v (Rp.sz α) rows)(hl:l.length<9223372036854775808)(hr:All2 (Rp.rp P k g.h) l rows)
  (hp:∀i,vid v=some i→P i):SlR P k g.h l v:=by
 refine ⟨hl,?_⟩
 have hrow:=h.rows
 rcases h with ⟨rfl,rfl⟩ | ⟨id,ep,lo,h1,h2,rfl,h3⟩
 ·exact List.eq_nil_of_length_eq_zero hr.len
 ·exact ⟨hp id rfl,rows,hrow,hr⟩
theorem Own.ints {g:G}{b:Nat}{v:AV}{l:List Int}{k:Nat}(h:Own g b v 1 (l.map ci))(hl:l.length<9223372036854775808):One l (fun _=>True) k g.h v :=
 ⟨v,rfl,Own.sl (α:=Int) h hl (All2.of_map (fun a=>rp_int.2 rfl) l) fun _ _=>trivial⟩
theorem sat_ex {x:OR}{Q:AV→Prop}{K:AV→G→Prop}{g:G}{D:ADf→Prop}(h:∃r,x=.val r∧Q r)(k:∀r,Q r→K r g):x.sat K g D:=by
 obtain ⟨r,rfl,hr⟩:=h
 exact k r hr
section feet
variable {C:Cfg}{d:Nat}{rd:Option Nat}{pm:List Nat}
theorem wpF_nil (Q:PT)(t:T)(df:List ADf)(g:G)(fs:List Foot):wpF C d rd pm [] Q t df g fs=(footsOk pm fs.reverse=true∧Q t df g):=rfl
theorem wpF_o (n:Nat)(op:SO)(r:List SI)(Q:PT)(t:T)(df:List ADf)(g:G)(fs:List Foot):wpF C d rd pm (o n op::r) Q t df g fs =
  (op.run C d rd t (setLog g [])).sat (kF (wpF C d rd pm r Q) (some n) t df g.lg fs (op.foot C t g)) (setLog g []) (fun _=>False):=rfl
theorem wpF_oz (op:SO)(r:List SI)(Q:PT)(t:T)(df:List ADf)(g:G)(fs:List Foot):wpF C d rd pm (oz op::r) Q t df g fs =
  (op.run C d rd t (setLog g [])).sat (kF (wpF C d rd pm r Q) none t df g.lg fs (op.foot C t g)) (setLog g []) (fun _=>False):=rfl
theorem wpF_og (n s:Nat)(w:Bool)(op:SO)(r:List SI)(Q:PT)(t:T)(df:List ADf)(g:G)(fs:List Foot) :
  wpF C d rd pm (og n s w op::r) Q t df g fs=gdP (tat t s) w (runF C d rd (o n op) (wpF C d rd pm r Q) fs) (skipF (o n op) (wpF C d rd pm r Q) fs) t df g:=rfl
theorem runF_o (n:Nat)(op:SO)(W:FT)(fs:List Foot)(t:T)(df:List ADf)(g:G):runF C d rd (o n op) W fs t df g =
  (op.run C d rd t (setLog g [])).sat (kF W (some n) t df g.lg fs (op.foot C t g)) (setLog g []) (fun _=>False):=rfl
theorem skipF_o (n:Nat)(op:SO)(W:FT)(fs:List Foot)(t:T)(df:List ADf)(g:G):skipF (o n op) W fs t df g=W (tset t n .undef) df g (⟨noLook,[]⟩::fs):=rfl
theorem kF_some (W:FT)(n:Nat)(t:T)(df:List ADf)(lg:List Nat)(fs:List Foot)(lk:Looks)(v:AV)(g:G):kF W (some n) t df lg fs lk v g=W (tset t n v) df (bumpG g (g.lg++lg)) (⟨lk,g.lg⟩::fs):=rfl
theorem kF_none (W:FT)(t:T)(df:List ADf)(lg:List Nat)(fs:List Foot)(lk:Looks)(v:AV)(g:G):kF W none t df lg fs lk v g=W t df (bumpG g (g.lg++lg)) (⟨lk,g.lg⟩::fs):=rfl
theorem refIds_rptr {sz:Nat}{v:AV}{i off:Nat}(h:rowy v=true):refIds (rptr sz v i off)=refIds v:=by cases v<;>first | rfl | cases h
theorem refIds_hptr (id ep i off:Nat):refIds (.hptr id ep i off)=[id]:=rfl
theorem SlR.refs {α:Type} [Rp α]{k:Nat}{h:H}{l:List α}{v:AV}(r:SlR NoP k h l v):refIds v=[]:=by
 have r:=r.2
 unfold SlV at r
 split at r<;>first | rfl | exact r.1.elim | exact r.elim
theorem rp_ids {α:Type} [Rp α]{k:Nat}{h:H}{x:α}{cs:List AV}(r:Rp.rp NoP k h x cs)(n:Nat):cs.flatMap (snapIds h n)=[]:=by
 rw[List.eq_nil_iff_forall_not_mem]
 exact fun i hi=>Rp.ids r i hi
theorem agg_ids {α:Type} [Rp α]{k:Nat}{h:H}{x:α}{cs:List AV}(r:Rp.rp NoP k h x cs):snapIds h depthA (.agg cs)=[]:=rp_ids r 23
theorem int_ids (h:H)(k:IntKind)(x:Int):snapIds h depthA (.int k x)=[]:=rfl
end feet
section looks
variable {C:Cfg}{t:T}{g:G}
theorem ft_mv (x:Od):SO.foot C t g (.mv x)=noLook:=rfl
theorem ft_pick (c a b:Od):SO.foot C t g (.pick c a b)=noLook:=rfl
theorem ft_alloc (cs:List AV):SO.foot C t g (.alloc cs)=noLook:=rfl
theorem ft_box (x:Od):SO.foot C t g (.box x)=noLook:=rfl
theorem ft_build (z:List AV)(pl:List (Nat×Nat))(vs:List Od):SO.foot C t g (.build z pl vs)=noLook:=rfl
theorem ft_bsl (sz len:Nat)(z:List AV)(is:List Nat)(vs:List Od):SO.foot C t g (.bsl sz len z is vs)=noLook:=rfl
theorem ft_load (ag:Bool)(n:Nat)(a:Od):SO.foot C t g (.load ag n a)=rdLook (refIds (a.get t)):=rfl
theorem ft_store (n:Nat)(a x:Od):SO.foot C t g (.store n a x)=rdLook (refIds (a.get t)):=rfl
theorem ft_nilc (x:Od):SO.foot C t g (.nilc x)=noLook:=rfl
theorem ft_bin (op:BinOp)(x y:Od):SO.foot C t g (.bin op x y)=noLook:=rfl
theorem ft_eq (ng:Bool)(ek:EqKind)(x y:Od):SO.foot C t g (.eq ng ek x y)=noLook:=rfl
theorem ft_not (x:Od):SO.foot C t g (.not x)=noLook:=rfl
theorem ft_conv (k:IntKind)(x:Od):SO.foot C t g (.conv k x)=noLook:=rfl
theorem ft_mkf (f:Nat)(a c:List Od):SO.foot C t g (.mkf f a c)=noLook:=rfl
theorem ft_mks (sz bt:Nat)(z:List AV)(l c:Od):SO.foot C t g (.mks sz bt z l c)=noLook:=rfl
theorem ft_slc (sz:Nat)(x:Od)(lo hi:List Od):SO.foot C t g (.slc sz x lo hi)=rdLook (refIds (x.get t)):=rfl
theorem ft_fad (fo:Nat)(x:Od):SO.foot C t g (.fad fo x)=noLook:=rfl
theorem ft_fld (ag:Bool)(n fo:Nat)(x:Od):SO.foot C t g (.fld ag n fo x)=noLook:=rfl
theorem ft_ixs (sz:Nat)(x i:Od):SO.foot C t g (.ixs sz x i)=rdLook (refIds (x.get t)):=rfl
theorem ft_ixa (n sz:Nat)(x i:Od):SO.foot C t g (.ixa n sz x i)=noLook:=rfl
theorem ft_ix (ag:Bool)(n sz:Nat)(x i:Od):SO.foot C t g (.ix ag n sz x i)=noLook:=rfl
theorem ft_ext (x:Od)(i:Nat):SO.foot C t g (.ext x i)=noLook:=rfl
theorem ft_len (x:Od):SO.foot C t g (.len .slice x)=noLook:=rfl
theorem ft_app (sz bt:Nat)(x y:Od):SO.foot C t g (.app sz bt x y)=rdLook (refIds (x.get t)++refIds (y.get t)):=rfl
theorem ft_cpy (sz:Nat)(x y:Od):SO.foot C t g (.cpy sz x y)=rdLook (refIds (x.get t)++refIds (y.get t)):=rfl
theorem ft_mx (x y:Od):SO.foot C t g (.mx x y)=rdLook (refIds (x.get t)++refIds (y.get t)):=rfl
theorem ft_mn (x y:Od):SO.foot C t g (.mn x y)=rdLook (refIds (x.get t)++refIds (y.get t)):=rfl
end looks
theorem sf:type_of% (And.intro @ft_mv <| And.intro @ft_pick <| And.intro @ft_alloc <| And.intro @ft_box <| And.intro @ft_build <| And.intro @ft_bsl <| And.intro @ft_load <| And.intro @ft_store <| And.intro @ft_nilc <| And.intro @ft_bin <| And.intro @ft_eq <| And.intro @ft_not <| And.intro @ft_conv <| And.intro @ft_mkf <| And.intro @ft_mks <| And.intro @ft_slc <| And.intro @ft_fad <| And.intro @ft_fld <| And.intro @ft_ixs <| And.intro @ft_ixa <| And.intro @ft_ix <| And.intro @ft_ext <| And.intro @ft_len <| And.intro @ft_app <| And.intro @ft_cpy <| And.intro @ft_mx <| @ft_mn) :=
 And.intro @ft_mv <| And.intro @ft_pick <| And.intro @ft_alloc <| And.intro @ft_box <| And.intro @ft_build <| And.intro @ft_bsl <| And.intro @ft_load <| And.intro @ft_store <| And.intro @ft_nilc <| And.intro @ft_bin <| And.intro @ft_eq <| And.intro @ft_not <| And.intro @ft_conv <| And.intro @ft_mkf <| And.intro @ft_mks <| And.intro @ft_slc <| And.intro @ft_fad <| And.intro @ft_fld <| And.intro @ft_ixs <| And.intro @ft_ixa <| And.intro @ft_ix <| And.intro @ft_ext <| And.intro @ft_len <| And.intro @ft_app <| And.intro @ft_cpy <| And.intro @ft_mx <| @ft_mn
theorem cells_int (k:IntKind)(x:Int):(AV.int k x).cells=[.int k x]:=rfl
theorem cells_bool (x:Bool):(AV.bool x).cells=[.bool x]:=rfl
theorem cells_agg (cs:List AV):(AV.agg cs).cells=cs:=rfl
theorem cells_nils:AV.nils.cells=[.nils]:=rfl
theorem isTup_int (k:IntKind)(x:Int):(AV.int k x).isTup=false:=rfl
theorem isTup_bool (x:Bool):(AV.bool x).isTup=false:=rfl
theorem isTup_agg (cs:List AV):(AV.agg cs).isTup=false:=rfl
theorem isTup_nils:AV.nils.isTup=false:=rfl
theorem cells_hsl (id ep off len:Nat)(lim:Option Nat):(AV.hsl id ep off len lim).cells=[.hsl id ep off len lim]:=rfl
theorem isTup_hsl (id ep off len:Nat)(lim:Option Nat):(AV.hsl id ep off len lim).isTup=false:=rfl
theorem cells_tsl (t s:Nat)(rows:List (List AV)):(AV.tsl t s rows).cells=[.tsl t s rows]:=rfl
theorem isTup_tsl (t s:Nat)(rows:List (List AV)):(AV.tsl t s rows).isTup=false:=rfl
theorem box_eq (x:AV)(g:G)(h:x.isTup=false):boxV x g=.upd (.hptr g.nx 0 0 0) (g.new (.cells x.cells.length [x.cells] 0 false false)):=by
 simp only[boxV,h,lenR_eq]
theorem bsl_nil (sz:Nat)(zero:List AV)(g:G):bslV sz 0 zero [] [] g=.upd (.hsl g.nx 0 0 0 none) (g.new (.cells sz [] 0 false false)):=rfl
theorem bsl_one (sz:Nat)(zero:List AV)(v:AV)(g:G)(hl:v.cells.length=sz)(ht:v.isTup=false) :
  bslV sz 1 zero [0] [v] g=.upd (.hsl g.nx 0 0 1 none) (g.new (.cells sz [v.cells] 0 false false)):=by
 subst hl
 have:Nat.beq (lenR v.cells) v.cells.length=true:=by rw[lenR_eq];exact Nat.beq_refl _
 have h2:fillRows v.cells.length [zero] [(0,v)]=some [v.cells]:=by
  simp only[fillRows,this,ht,bif'_eq,lenR_eq,setR_eq,notb_eq]
  rw[show Nat.beq v.cells.length v.cells.length=true from Nat.beq_refl _];rfl
 show (match fillRows v.cells.length [zero] [(0,v)] with | some rows=>OR.upd (.hsl g.nx 0 0 1 none) (g.new (.cells v.cells.length rows 0 false false)) | none=>.fail)=_
 rw[h2]
theorem putCells_eq (row:List AV)(off:Nat)(cs:List AV):putCells row off cs=if off+cs.length≤row.length then some (row.take off++(cs++row.drop (off+cs.length))) else none:=by
 simp only[putCells,lenR_eq,bif'_eq,Nat.ble_eq,setR_eq,takeR_eq,dropR_eq]
 split
 ·rename_i h
  split
  ·rename_i c
   simp only[List.length_singleton] at h
   rw[List.set_eq_take_append_cons_drop,if_pos (by omega)];rfl
  ·rfl
 ·rfl
theorem ext_0 (a:AV)(l:List AV):extV (.tup (a::l)) 0=.val a:=rfl
theorem ext_1 (a b:AV)(l:List AV):extV (.tup (a::b::l)) 1=.val b:=rfl
theorem ext_2 (a b c:AV)(l:List AV):extV (.tup (a::b::c::l)) 2=.val c:=rfl
theorem fld_eq (ag:Bool)(n fo:Nat)(cs:List AV):fldV ag n fo (.agg cs)=orV (getPart ag n cs fo):=rfl
theorem part_agg' {n:Nat}{row:List AV}{off:Nat}:getPart true (n+1) row off=if off+(n+1)≤row.length then some (.agg ((row.drop off).take (n+1))) else none:=by
 split
 ·rename_i h;exact part_agg h
 ·rename_i h
  simp only[getPart,takeR_eq,dropR_eq,lenR_eq,List.length_take,List.length_drop,bif'_eq,if_true]
  rw[if_neg]
  intro e
  have:=Nat.eq_of_beq_eq_true e
  omega
theorem build_eq (zero:List AV)(pl:List (Nat×Nat))(vs:List AV):buildV zero pl vs=match fillA zero (pl.zip vs) with | some cs=>.val (.agg cs) | none=>.fail:=rfl
theorem fillA_nil (cs:List AV):fillA cs []=some cs:=rfl
theorem fillA_cons (cs:List AV)(off size:Nat)(v:AV)(rest:List ((Nat×Nat)×AV))(hl:v.cells.length=size)(ht:v.isTup=false) :
  fillA cs (((off,size),v)::rest)=match putCells cs off v.cells with | some cs=>fillA cs rest | none=>none:=by
 subst hl
 have:Nat.beq (lenR v.cells) v.cells.length=true:=by rw[lenR_eq];exact Nat.beq_refl _
 simp only[fillA,this,ht,notb_eq,Bool.not_false,Bool.and_self]
 rfl
theorem resP_c (ag:Bool)(n a:Nat)(r:List SR)(t:T)(g:G)(K:List AV→Prop):resP (.cell ag n a::r) t g K=match loadV ag n (tat t a) g with | .val v=>resP r t g fun vs=>K (v::vs) | _=>False:=rfl
theorem oneOrTup_two (a b:AV)(l:List AV):oneOrTup (a::b::l)=.tup (a::b::l):=rfl
theorem sy:type_of% (And.intro @build_eq <| And.intro @fillA_nil <| And.intro @fillA_cons <| And.intro @resP_c <| And.intro @List.zip_cons_cons.{0,0} <| And.intro @List.zip_nil_left.{0,0} <| And.intro @wpF_nil <| And.intro @wpF_o <| And.intro @wpF_oz <| And.intro @wpF_og <| And.intro @runF_o <| And.intro @skipF_o <| And.intro @kF_some <| And.intro @kF_none <| And.intro @bumpG_h <| And.intro @bumpG_nx <| And.intro @bumpG_lg <| And.intro @true_and <| And.intro @and_true <| And.intro @kR_norm <| And.intro @kR_exit <| And.intro @kR_ret <| And.intro @setLog_h <| And.intro @setLog_nx <| And.intro @setLog_lg <| And.intro @kQ_eq <| And.intro @cells_int <| And.intro @cells_bool <| And.intro @cells_agg <| And.intro @cells_nils <| And.intro @isTup_int <| And.intro @isTup_bool <| And.intro @isTup_agg <| And.intro @isTup_nils <|
 And.intro @cells_hsl <| And.intro @isTup_hsl <| And.intro @cells_tsl <| And.intro @isTup_tsl <| And.intro @box_eq <| And.intro @bsl_nil <| And.intro @bsl_one <| And.intro @putCells_eq <| And.intro @ext_0 <| And.intro @ext_1 <| And.intro @ext_2 <|
 And.intro @fld_eq <| And.intro @part_agg' <| And.intro @oneOrTup_two <| And.intro @hptrStore_cells <| And.intro @lenR_eq <| And.intro @List.length_cons.{0} <| And.intro @List.length_nil.{0} <| And.intro @List.take_succ_cons.{0} <|
 And.intro @List.take_zero.{0} <| And.intro @List.drop_succ_cons.{0} <| And.intro @List.drop_zero.{0} <| And.intro @List.cons_append.{0} <| And.intro @List.nil_append.{0} <| And.intro @List.append_nil.{0} <| And.intro @List.set_cons_zero.{0} <| And.intro @List.set_cons_succ.{0} <|
 And.intro @Nat.zero_add <| And.intro @H.get_put <| And.intro @rowsOf_hsl <| And.intro @hslRows_cells <| And.intro @rowsOf_nils <| @rowsOf_tsl) :=
 And.intro @build_eq <| And.intro @fillA_nil <| And.intro @fillA_cons <| And.intro @resP_c <| And.intro @List.zip_cons_cons.{0,0} <| And.intro @List.zip_nil_left.{0,0} <| And.intro @wpF_nil <| And.intro @wpF_o <| And.intro @wpF_oz <| And.intro @wpF_og <| And.intro @runF_o <| And.intro @skipF_o <| And.intro @kF_some <| And.intro @kF_none <| And.intro @bumpG_h <| And.intro @bumpG_nx <| And.intro @bumpG_lg <| And.intro @true_and <| And.intro @and_true <| And.intro @kR_norm <| And.intro @kR_exit <| And.intro @kR_ret <| And.intro @setLog_h <| And.intro @setLog_nx <| And.intro @setLog_lg <| And.intro @kQ_eq <| And.intro @cells_int <| And.intro @cells_bool <| And.intro @cells_agg <| And.intro @cells_nils <| And.intro @isTup_int <| And.intro @isTup_bool <| And.intro @isTup_agg <| And.intro @isTup_nils <|
 And.intro @cells_hsl <| And.intro @isTup_hsl <| And.intro @cells_tsl <| And.intro @isTup_tsl <| And.intro @box_eq <| And.intro @bsl_nil <| And.intro @bsl_one <| And.intro @putCells_eq <| And.intro @ext_0 <| And.intro @ext_1 <| And.intro @ext_2 <|
 And.intro @fld_eq <| And.intro @part_agg' <| And.intro @oneOrTup_two <| And.intro @hptrStore_cells <| And.intro @lenR_eq <| And.intro @List.length_cons.{0} <| And.intro @List.length_nil.{0} <| And.intro @List.take_succ_cons.{0} <|
 And.intro @List.take_zero.{0} <| And.intro @List.drop_succ_cons.{0} <| And.intro @List.drop_zero.{0} <| And.intro @List.cons_append.{0} <| And.intro @List.nil_append.{0} <| And.intro @List.append_nil.{0} <| And.intro @List.set_cons_zero.{0} <| And.intro @List.set_cons_succ.{0} <|
 And.intro @Nat.zero_add <| And.intro @H.get_put <| And.intro @rowsOf_hsl <| And.intro @hslRows_cells <| And.intro @rowsOf_nils <| @rowsOf_tsl
end
end Hx
end
section
namespace Hx
open Go
noncomputable section
theorem take_next {α:Type}{l:List α}{j:Nat}(h:j<l.length):∃x,l[j]?=some x∧l.take (j+1)=l.take j++[x]∧x∈l :=
 ⟨l[j],List.getElem?_eq_getElem h,by rw[List.take_add_one,List.getElem?_eq_getElem h];rfl,List.getElem_mem h⟩
def S.within (lo hi:Int)(l:List Int):Bool:=l.all fun x=>decide (lo≤x)&&decide (x≤hi)
theorem within_ok {d:Nat}{g:G}{lo hi:Int}{v:AV}(hd:0<d)(hv:isInts g.h v)(hl:(ints g.h v).length<9223372036854775808) :
  callV C0 d N.twin_within [.int .i64 lo,.int .i64 hi,v] g=.val (.bool (S.within lo hi (ints g.h v))):=by
 obtain ⟨v',e,hr,hlen⟩:=arg_ints hv hl d
 generalize ints g.h v=l at hr hlen hl ⊢
 rw[call_twin_within]
 refine iso_bool eq_twin_within (xs:=[.int .i64 lo,.int .i64 hi,v']) (by simp only[mapO,arg_int 0,e]) (by simp[f_twin_within]) hd ?_
 simp only[f_twin_within,sx,SO.run,↓reduceIte,Nat.reduceEqDiff,hlen]
 refine wpL_range hl (fun j t df g=>df=[]∧St t [(0,.int .i64 lo),(1,.int .i64 hi),(9,v')]∧S.within lo hi (l.take j)=true)
  ⟨rfl,by simp[St,sx],rfl⟩ (by simp[sx]) (by simp[sx]) (by decide) (by rintro j t df g v s (rfl | rfl | rfl)<;>simp[St,sx]) ?_ ?_
 ·rintro j t df g hj ⟨rfl,⟨h0,h1,h9,-⟩,hw⟩ h11 h10
  obtain ⟨x,hx,htk,hm⟩:=take_next hj
  simp only[sx,sy,SO.run,↓reduceIte,Nat.reduceEqDiff,hr,h0,h1,h9,h10,h11,hx,hj,Option.isSome_some,Option.getD_some,List.length_map,List.getElem?_map,Option.map_some,ci]
  have bad:(x<lo∨hi<x)→S.within lo hi l=false:=fun h=>by simp only[S.within,List.all_eq_false];exact ⟨x,hm,by simp;omega⟩
  refine bifP_mk (fun hb=>?_) (fun hb=>?_)
  ·simp only[sx,sy,SO.run,↓reduceIte,Nat.reduceEqDiff,hb]
   rw[bad (.inl (by simpa using hb))]
  ·simp only[sx,sy,SO.run,↓reduceIte,Nat.reduceEqDiff,hb,h1]
   refine bifP_mk (fun hc=>?_) (fun hc=>?_)
   ·simp only[sx,sy,SO.run,↓reduceIte,Nat.reduceEqDiff]
    rw[bad (.inr (by simpa using hc))]
   ·simp only[sx,sy,SO.run,↓reduceIte,Nat.reduceEqDiff,h10,h11,St,h0,h1,h9,htk,and_true,true_and]
    simp[S.within] at *
    exact ⟨hw,by omega⟩
 ·rintro t df g ⟨rfl,-,hw⟩
  rw[List.take_length] at hw
  simp only[f_twin_within_k1,sx,sy,SO.run,↓reduceIte,Nat.reduceEqDiff,hw]
def S.size (l:List Int):Int:=l.foldl (fun s x=>IntKind.wrap .i64 (s*x)) 1
theorem at_ok {d:Nat}{g:G}{v w:AV}{l p:List Int}{K:AV→G→Prop}{D:ADf→Prop}(hv:∀g',Fr g g'→rowsOf g'.h 1 v=some (l.map ci))(hw:∀g',Fr g g'→rowsOf g'.h 1 w=some (p.map ci))(hp:p.length<1073741824)
  (hin:∀x∈p,0≤x∧x<l.length) (k:∀r g',Own g' g.nx r 1 ((p.map fun x=>l[x.toNat]?.getD 0).map ci)→Fr g g'→(∀i∈g'.lg,i∈g.lg∨g.nx≤i)→K r g'):(callV C0 d N.ref02_At [v,w] g).sat K g D:=by
 rw[call_ref02_At]
 refine dir_run eq_ref02_At (by simp[f_ref02_At]) ?_
 simp only[f_ref02_At,sx,SO.run,↓reduceIte,Nat.reduceEqDiff]
 have hlen2:∀g,lenF .slice w g=.val (.int .i64 (p.length:Int)):=fun g'=>by rw[len_rows' (hw g (Fr.refl g)),List.length_map]
 refine wpL_len (by omega) hlen2 (fun j t df g'=>df=[]∧(Fr g g'∧∀i∈g'.lg,i∈g.lg∨g.nx≤i)∧tat t 0=v∧∃u,tat t 5=u∧Own g' g.nx u 1 (((p.take j).map fun x=>l[x.toNat]?.getD 0).map ci)) ⟨rfl,⟨Fr.refl g,fun i hi=>.inl hi⟩,by simp[sx],_,rfl,.inl ⟨by simp[sx],rfl⟩⟩ (by simp[sx]) (by simp[sx]) (by decide)
  (by rintro j t df g v s (rfl | rfl | rfl | rfl | rfl | rfl | rfl)<;>simp[sx]) ?_ ?_
 ·rintro j t df g1 hj ⟨rfl,⟨hf,hlg⟩,h0,u,h5,hu⟩ h6 h1
  obtain ⟨x,hx,htk,hm⟩:=take_next hj
  obtain ⟨hx0,hxl⟩:=hin x hm
  obtain ⟨n,rfl⟩:=Int.eq_ofNat_of_zero_le hx0
  have hn:n<l.length:=by omega
  simp only[sx,sy,SO.run,↓reduceIte,Nat.reduceEqDiff,hv g1 hf,hw g1 hf,h0,h1,h5,h6,hx,hj,hn,Option.isSome_some,Option.getD_some,List.length_map,List.getElem?_map,Option.map_some,ci,List.getElem?_eq_getElem hn]
  refine append_own (new:=[ci l[n]]) (hu.step (Fr.new _ _)) (by simp[sx,sy,ci]) (by have:=hf.1;simp;omega) (by simp[room];omega) fun v2 g2 hv2 n2 f2 _ l2=>?_
  have hf2:Fr g g2:=by
   refine ⟨Nat.le_trans hf.1 (Nat.le_trans (by simp) n2),fun i hi=>?_⟩
   have:=hf.1
   rw[f2 i (by simp;omega) (fun e=>by have:=(hu.lt e).1;omega),G.new_h,get_put_ne _ _ _ (by omega),hf.2 i hi]
  simp only[sx,sy,SO.run,↓reduceIte,Nat.reduceEqDiff,h0,h1,h6,and_true,true_and]
  refine ⟨⟨hf2,fun i hi=>?_⟩,_,rfl,?_⟩
  ·rcases l2 i hi with h | h
   ·simp at h
    rcases h with rfl | h
    ·exact .inr hf.1
    ·exact hlg i h
   ·exact .inr h
  rw[htk]
  simpa [hn,ci] using hv2
 ·rintro t df g1 ⟨rfl,⟨hf,hlg⟩,h0,u,h5,hu⟩ -
  rw[List.take_length] at hu
  simp only[f_ref02_At_k1,sx,sy,SO.run,↓reduceIte,Nat.reduceEqDiff,h5]
  exact k _ _ hu hf hlg
end
end Hx
end
section
namespace Hx
open Go
noncomputable section
structure Mech where
 card:Int
 frm:List Int
 noise:List Int
 out:List Int
structure Causal where
 grain:Int
 roots:List (List Int)
 nodes:List Mech
structure Node where
 card:Int
 parents:List Int
 rows:List (List Int)
structure Net where
 grain:Int
 nodes:List Node
structure Factor where
 vars:List Int
 cards:List Int
 w:List Int
instance : Rp Mech:=Rp.via fun m:Mech=>(m.card,m.frm,m.noise,m.out)
instance : Rp Causal:=Rp.via fun m:Causal=>(m.grain,m.roots,m.nodes)
instance : Rp Node:=Rp.via fun m:Node=>(m.card,m.parents,m.rows)
instance : Rp Net:=Rp.via fun m:Net=>(m.grain,m.nodes)
instance : Rp Factor:=Rp.via fun m:Factor=>(m.vars,m.cards,m.w)
section
variable {P:Nat→Prop}{k:Nat}{h:H}{cs:List AV}
theorem rp_mech {m:Mech}:Rp.rp P k h m cs↔∃a b c,cs=[.int .i64 m.card,a,b,c]∧SlR P k h m.frm a∧SlR P k h m.noise b∧SlR P k h m.out c:=by
 constructor
 ·rintro ⟨c1,c2,rfl,h1,d1,d2,rfl,⟨a,rfl,h2⟩,e1,e2,rfl,⟨b,rfl,h3⟩,⟨c,rfl,h4⟩⟩
  rw[rp_int.1 h1];exact ⟨a,b,c,rfl,h2,h3,h4⟩
 ·rintro ⟨a,b,c,rfl,h2,h3,h4⟩
  exact ⟨[.int .i64 m.card],[a,b,c],rfl,rp_int.2 rfl,[a],[b,c],rfl,⟨a,rfl,h2⟩,[b],[c],rfl,⟨b,rfl,h3⟩,⟨c,rfl,h4⟩⟩
theorem rp_causal {m:Causal}:Rp.rp P k h m cs↔∃a b,cs=[.int .i64 m.grain,a,b]∧SlR P k h m.roots a∧SlR P k h m.nodes b:=by
 constructor
 ·rintro ⟨c1,c2,rfl,h1,d1,d2,rfl,⟨a,rfl,h2⟩,⟨b,rfl,h3⟩⟩
  rw[rp_int.1 h1];exact ⟨a,b,rfl,h2,h3⟩
 ·rintro ⟨a,b,rfl,h2,h3⟩
  exact ⟨[.int .i64 m.grain],[a,b],rfl,rp_int.2 rfl,[a],[b],rfl,⟨a,rfl,h2⟩,⟨b,rfl,h3⟩⟩
theorem rp_factor {m:Factor}:Rp.rp P k h m cs↔∃a b c,cs=[a,b,c]∧SlR P k h m.vars a∧SlR P k h m.cards b∧SlR P k h m.w c:=by
 constructor
 ·rintro ⟨c1,c2,rfl,⟨a,rfl,h2⟩,e1,e2,rfl,⟨b,rfl,h3⟩,⟨c,rfl,h4⟩⟩
  exact ⟨a,b,c,rfl,h2,h3,h4⟩
 ·rintro ⟨a,b,c,rfl,h2,h3,h4⟩
  exact ⟨[a],[b,c],rfl,⟨a,rfl,h2⟩,[b],[c],rfl,⟨b,rfl,h3⟩,⟨c,rfl,h4⟩⟩
end
theorem SlR.get {α:Type} [Rp α]{P:Nat→Prop}{k:Nat}{h:H}{l:List α}{v:AV}(r:SlR P k h l v){i:Nat}{x:α}(hi:l[i]?=some x) :
  ∃rows row,rowsOf h (Rp.sz α) v=some rows∧rows.length=l.length∧rows[i]?=some row∧Rp.rp P k h x row:=by
 obtain ⟨rows,h1,h2⟩:=r.rows
 obtain ⟨row,h3,h4⟩:=h2.get hi
 exact ⟨rows,row,h1,h2.len.symm,h3,h4⟩
theorem SlR.len {α:Type} [Rp α]{P:Nat→Prop}{k:Nat}{h:H}{l:List α}{v:AV}(r:SlR P k h l v)(g:G):lenF .slice v g=.val (.int .i64 (l.length:Int)):=by
 obtain ⟨rows,h1,h2⟩:=r.rows
 rw[len_rows' h1,h2.len]
theorem SlR.tree {α:Type} [Rp α]{k k':Nat}{h h':H}{l:List α}{v:AV}(r:SlR NoP k h l v)(hk:k≤k'):SlR NoP k' h' l v:=by
 obtain ⟨w,hw,q⟩:=Rp.tree (P:=NoP) (k':=k') (h':=h') (show Rp.rp NoP k h l [v] from ⟨v,rfl,r⟩) hk
 injection hw with hw;subst hw;exact q
theorem arg_sl {α:Type} [Rp α]{P:Nat→Prop}{k:Nat}{h:H}{l:List α}{v:AV}(r:SlR P k h l v)(d:Nat)(hd:Rp.dp (List α)≤20:=by decide) :
  ∃v',Hx.snap h d depthA v=some v'∧∀h',SlR NoP (max k d) h' l v':=by
 obtain ⟨v',e,w,hw,q⟩:=arg_of (snb_one l hd) (by decide) d (show One l P k h v from ⟨v,rfl,r⟩)
 injection hw with hw;subst hw
 exact ⟨v',e,fun h'=>q.tree (Nat.le_refl _)⟩
theorem SlR.all {α:Type} [Rp α]{k:Nat}{h:H}{l:List α}{v:AV}(r:SlR NoP k h l v) :
  ∃rows:List (List AV),(∀h',rowsOf h' (Rp.sz α) v=some rows)∧rows.length=l.length∧(∀(i:Nat) (x:α),l[i]?=some x→∃row,rows[i]?=some row∧Rp.rp NoP k .nil x row)∧(0<l.length→rowy v=true):=by
 have r0:=(r.tree (h':=.nil) (Nat.le_refl _))
 obtain ⟨rows,h1,h2⟩:=r0.rows
 refine ⟨rows,fun h'=>?_,h2.len.symm,fun i x hi=>h2.get hi,fun hl=>rowy_of h1 (i:=0) (by rw[←h2.len];exact hl)⟩
 rw[←h1]
 exact rowsOf_heap fun id ep off len lim e=>by subst e;exact r.2.1.elim
theorem IT.mk {k:Nat}{l:List Int}{r:AV}(h:SlR NoP k .nil l r):IT k l r:=⟨r,rfl,h⟩
abbrev UT (k:Nat)(l:List Nat)(r:AV):Prop:=One l NoP k .nil r
theorem UT.sl {k:Nat}{l:List Nat}{r:AV}(h:UT k l r)(h':H):SlR NoP k h' l r:=by
 obtain ⟨w,hw,q⟩:=h
 injection hw with hw;subst hw;exact q.tree (Nat.le_refl _)
theorem Own.nats {g:G}{b:Nat}{v:AV}{l:List Nat}{k:Nat}(h:Own g b v 1 (l.map cu))(hl:l.length<9223372036854775808)(hb:∀x∈l,x<18446744073709551616):One l (fun _=>True) k g.h v:=by
 refine ⟨v,rfl,Own.sl (α:=Nat) h hl ?_ fun _ _=>trivial⟩
 clear h hl
 induction l with
 | nil=>trivial
 | cons a l ih=>exact ⟨rp_nat.2 ⟨rfl,hb a (by simp)⟩,ih fun x hx=>hb x (by simp[hx])⟩
theorem all_range_succ (p:Nat→Bool)(j:Nat):(List.range (j+1)).all p=((List.range j).all p&&p j):=by rw[List.range_succ,List.all_append];simp
theorem all_range_false {p:Nat→Bool}{j n:Nat}(h:j<n)(hp:p j=false):(List.range n).all p=false:=by
 rw[List.all_eq_false];exact ⟨j,List.mem_range.2 h,by rw[hp];decide⟩
end
end Hx
end
section
namespace Hx
open Go
noncomputable section
theorem cards_ok {d k:Nat}{g:G}{P:Nat→Prop}{v:AV}{m:Causal}(hd:0<d)(hm:Agg m P k g.h v)(hn:m.nodes.length<1073741824) :
  ∃r,callV C0 d N.ref33_Cards [v] g=.val r∧IT 0 (m.nodes.map (·.card)) r:=by
 obtain ⟨v',e,cs,rfl,hc⟩:=arg_of (snb_agg m) (by decide) d hm
 obtain ⟨a,b,rfl,hR,hN⟩:=rp_causal.1 hc
 rw[call_ref33_Cards]
 refine iso_run eq_ref33_Cards (xs:=[.agg [.int .i64 m.grain,a,b]]) (by simp only[mapO,e]) (by simp[f_ref33_Cards]) (snb_one _) (by decide) hd ?_
 simp only[f_ref33_Cards,f_ref33_Cards_r,sx,sy,SO.run,↓reduceIte,Nat.reduceEqDiff,Nat.reduceAdd]
 refine wpL_cnt m.nodes.length (by omega) (fun j t df g=>df=[]∧tat t 1=.hptr 0 0 0 0∧g.h.get 0=.cells 3 [[.int .i64 m.grain,a,b]] 0 false false∧1≤g.nx∧∃u,tat t 3=u∧Own g 1 u 1 (((m.nodes.take j).map (·.card)).map ci))
  ⟨rfl,by simp[sx],by simp[sx],by simp[sx],_,rfl,.inl ⟨by simp[sx],rfl⟩⟩ (by simp[sx]) (by decide)
  (by rintro j t df g v s (rfl | rfl | rfl)<;>simp[sx]) ?_ ?_ ?_
 ·rintro j t df g hj ⟨rfl,h1,hg,hnx,u,h3,hu⟩ h4
  simp only[sx,sy,SO.run,↓reduceIte,Nat.reduceEqDiff,h1,h4,hg,hN.len,true_and,and_true]
  exact ⟨hnx,u,h3,hu⟩
 ·rintro j t df g hj ⟨rfl,h1,hg,hnx,u,h3,hu⟩ h4
  obtain ⟨x,hx,htk,hm⟩:=take_next hj
  obtain ⟨rows,row,r1,r2,r3,r4⟩:=(hN.tree (h':=g.h) (Nat.le_refl _)).get hx
  obtain ⟨a',b',c',rfl,-⟩:=rp_mech.1 r4
  have hlt:j<rows.length:=by omega
  simp only[sx,sy,SO.run,↓reduceIte,Nat.reduceEqDiff,h1,h3,h4,hg,show rowsOf g.h 4 b=some rows from r1,hlt,r3,Option.isSome_some,Option.getD_some,rowy_of r1 hlt]
  refine append_own (new:=[ci x.card]) (hu.step (Fr.new _ _)) (by simp[sx,sy,ci]) (by simp) (by simp[room];omega) fun v2 g2 hv2 n2 f2 _ l2=>?_
  simp only[sx,sy,SO.run,↓reduceIte,Nat.reduceEqDiff,h1,h4,and_true,true_and]
  refine ⟨?_,?_,_,rfl,?_⟩
  ·rw[f2 0 (by simp) (fun e=>by have:=(hu.lt e).1;omega),G.new_h,get_put_ne _ _ _ (by omega),hg]
  ·simp at n2;omega
  ·rw[htk]
   simpa [ci] using hv2
 ·rintro t df g ⟨rfl,h1,hg,hnx,u,h3,hu⟩
  rw[List.take_length] at hu
  simp only[f_ref33_Cards_k1,sx,sy,SO.run,↓reduceIte,Nat.reduceEqDiff,h3]
  exact ⟨_,hu.ints (by simp;omega)⟩
theorem lengths_ok {d k:Nat}{g:G}{P:Nat→Prop}{v:AV}{m:Causal}(hd:0<d)(hm:Agg m P k g.h v)(hn:m.roots.length<1073741824) :
  ∃r,callV C0 d N.ref33_Lengths [v] g=.val r∧IT 0 (m.roots.map fun r=>(r.length:Int)) r:=by
 obtain ⟨v',e,cs,rfl,hc⟩:=arg_of (snb_agg m) (by decide) d hm
 obtain ⟨a,b,rfl,hR,hN⟩:=rp_causal.1 hc
 rw[call_ref33_Lengths]
 refine iso_run eq_ref33_Lengths (xs:=[.agg [.int .i64 m.grain,a,b]]) (by simp only[mapO,e]) (by simp[f_ref33_Lengths]) (snb_one _) (by decide) hd ?_
 simp only[f_ref33_Lengths,f_ref33_Lengths_r,sx,sy,SO.run,↓reduceIte,Nat.reduceEqDiff,Nat.reduceAdd]
 refine wpL_cnt m.roots.length (by omega) (fun j t df g=>df=[]∧tat t 1=.hptr 0 0 0 0∧g.h.get 0=.cells 3 [[.int .i64 m.grain,a,b]] 0 false false∧1≤g.nx∧∃u,tat t 3=u∧Own g 1 u 1 (((m.roots.take j).map fun r=>(r.length:Int)).map ci))
  ⟨rfl,by simp[sx],by simp[sx],by simp[sx],_,rfl,.inl ⟨by simp[sx],rfl⟩⟩ (by simp[sx]) (by decide)
  (by rintro j t df g v s (rfl | rfl | rfl)<;>simp[sx]) ?_ ?_ ?_
 ·rintro j t df g hj ⟨rfl,h1,hg,hnx,u,h3,hu⟩ h4
  simp only[sx,sy,SO.run,↓reduceIte,Nat.reduceEqDiff,h1,h4,hg,hR.len,true_and,and_true]
  exact ⟨hnx,u,h3,hu⟩
 ·rintro j t df g hj ⟨rfl,h1,hg,hnx,u,h3,hu⟩ h4
  obtain ⟨x,hx,htk,hm⟩:=take_next hj
  obtain ⟨rows,row,r1,r2,r3,r4⟩:=(hR.tree (h':=g.h) (Nat.le_refl _)).get hx
  obtain ⟨u',rfl,hu'⟩:=rp_list.1 r4
  have hlt:j<rows.length:=by omega
  simp only[sx,sy,SO.run,↓reduceIte,Nat.reduceEqDiff,h1,h3,h4,hg,show rowsOf g.h 1 a=some rows from r1,hu'.len,hlt,r3,Option.isSome_some,Option.getD_some,rowy_of r1 hlt]
  refine append_own (new:=[ci x.length]) (hu.step (Fr.new _ _)) (by simp[sx,sy,ci]) (by simp) (by simp[room];omega) fun v2 g2 hv2 n2 f2 _ l2=>?_
  simp only[sx,sy,SO.run,↓reduceIte,Nat.reduceEqDiff,h1,h4,and_true,true_and]
  refine ⟨?_,?_,_,rfl,?_⟩
  ·rw[f2 0 (by simp) (fun e=>by have:=(hu.lt e).1;omega),G.new_h,get_put_ne _ _ _ (by omega),hg]
  ·simp at n2;omega
  ·rw[htk]
   simpa [ci] using hv2
 ·rintro t df g ⟨rfl,h1,hg,hnx,u,h3,hu⟩
  rw[List.take_length] at hu
  simp only[f_ref33_Lengths_k1,sx,sy,SO.run,↓reduceIte,Nat.reduceEqDiff,h3]
  exact ⟨_,hu.ints (by simp;omega)⟩
def S.placeAt (l:List Int)(n:Int)(i:Nat):Bool:=decide (0≤l[i]?.getD 0)&&decide (l[i]?.getD 0<n)&&(i == 0 || decide (l[i - 1]?.getD 0<l[i]?.getD 0))
def S.places (l:List Int)(n:Int):Bool:=(List.range l.length).all (S.placeAt l n)
theorem increasing_ok {d k:Nat}{g:G}{P:Nat→Prop}{v:AV}{l:List Int}{n:Int}(hd:0<d)(hv:SlR P k g.h l v) :
  callV C0 d N.twin_increasing [v,.int .i64 n] g=.val (.bool (S.places l n)):=by
 obtain ⟨v',e,r1⟩:=arg_sl hv d
 rw[call_twin_increasing]
 refine iso_bool eq_twin_increasing (xs:=[v',.int .i64 n]) (by simp only[mapO,arg_int 0,e]) (by simp[f_twin_increasing]) hd ?_
 simp only[f_twin_increasing,sx,sy,SO.run,↓reduceIte,Nat.reduceEqDiff,(r1 .nil).len]
 have hl:=hv.1
 refine wpL_range hl (fun j t df g=>df=[]∧St t [(0,v'),(1,.int .i64 n),(7,v')]∧(List.range j).all (S.placeAt l n)=true)
  ⟨rfl,by simp[St,sx],rfl⟩ (by simp[sx]) (by simp[sx]) (by decide) (by rintro j t df g v s (rfl | rfl | rfl)<;>simp[St,sx]) ?_ ?_
 ·rintro j t df g hj ⟨rfl,⟨h0,h1,h7,-⟩,hw⟩ h9 h8
  obtain ⟨x,hx,htk,hm⟩:=take_next hj
  have bad:S.placeAt l n j=false→S.places l n=false:=fun h=>all_range_false hj h
  simp only[sx,sy,SO.run,↓reduceIte,Nat.reduceEqDiff,(r1 g.h).ints,h0,h1,h7,h8,h9,hx,hj,Option.isSome_some,Option.getD_some,List.length_map,List.getElem?_map,Option.map_some,ci]
  refine bifP_mk (fun hb=>?_) (fun hb=>?_)
  ·simp only[sx,sy,SO.run,↓reduceIte,Nat.reduceEqDiff,hb]
   rw[bad (by simp[S.placeAt,hx] at *;omega)]
  ·simp only[sx,sy,SO.run,↓reduceIte,Nat.reduceEqDiff,hb,h1]
   refine bifP_mk (fun hc=>?_) (fun hc=>?_)
   ·simp only[sx,sy,SO.run,↓reduceIte,Nat.reduceEqDiff,hc]
    rw[bad (by simp[S.placeAt,hx] at *;omega)]
   ·simp only[sx,sy,SO.run,↓reduceIte,Nat.reduceEqDiff,hc]
    refine bifP_mk (fun hd=>?_) (fun hd=>?_)
    ·obtain ⟨i,rfl⟩:∃i,j=i+1:=⟨j - 1,by simp at hd;omega⟩
     obtain ⟨y,hy,-,-⟩:=take_next (l:=l) (j:=i) (by omega)
     have hi:i<l.length:=by omega
     have e:IntKind.wrap .i64 (((i+1:Nat):Int) - 1)=(i:Int):=by rw[wrap64 (by omega) (by omega)];omega
     simp only[sx,sy,SO.run,↓reduceIte,Nat.reduceEqDiff,(r1 g.h).ints,hd,e,h0,hy,hi,Option.isSome_some,Option.getD_some,List.length_map,List.getElem?_map,Option.map_some,ci]
     refine bifP_mk (fun he=>?_) (fun he=>?_)
     ·simp only[sx,sy,SO.run,↓reduceIte,Nat.reduceEqDiff]
      rw[bad (by simp[S.placeAt,hx,hy] at *;omega)]
     ·simp only[sx,sy,SO.run,↓reduceIte,Nat.reduceEqDiff,St,h0,h1,h7,h8,h9,true_and,and_true]
      rw[all_range_succ,hw]
      simp[S.placeAt,hx,hy] at *;omega
    ·have:j=0:=by simp at hd;omega
     subst this
     simp only[sx,sy,SO.run,↓reduceIte,Nat.reduceEqDiff,hd,St,h0,h1,h7,h8,h9,true_and,and_true]
     simp[S.placeAt,hx] at *;omega
 ·rintro t df g ⟨rfl,-,hw⟩
  simp only[f_twin_increasing_k1,sx,sy,SO.run,↓reduceIte,Nat.reduceEqDiff]
  rw[S.places,hw]
end
end Hx
end
section
namespace Hx
open Go
noncomputable section
def S.bit (n:Nat):Nat:=1*2 ^ n % 18446744073709551616
def S.mask (l:List Int):Nat:=l.foldl (fun s x=>s ||| S.bit x.toNat) 0
theorem bit_lt (n:Nat):S.bit n<18446744073709551616:=Nat.mod_lt _ (by decide)
theorem foldl_or_lt {α:Type}(f:α→Nat)(hf:∀a,f a<18446744073709551616):∀(l:List α) (s:Nat),s<18446744073709551616→l.foldl (fun s x=>s ||| f x) s<18446744073709551616
 | [],_,h=>h
 | a::l,s,h=>foldl_or_lt f hf l _ (or_lt h (hf a))
theorem mask_lt (l:List Int):S.mask l<18446744073709551616:=foldl_or_lt _ (fun a=>bit_lt _) l 0 (by decide)
theorem mask_snoc (l:List Int)(x:Int):S.mask (l++[x])=S.mask l ||| S.bit x.toNat:=by simp[S.mask]
theorem bin_one_shl (k':IntKind)(n:Nat):binV .shl (.int .u64 1) (.int k' (n:Int))=.val (.int .u64 (S.bit n:Int)):=bin_shl k' 1 n
theorem setOf_ok {d k:Nat}{g:G}{P:Nat→Prop}{v:AV}{l:List Int}(hd:0<d)(hv:SlR P k g.h l v)(hp:∀x∈l,0≤x) :
  callV C0 d N.twin_setOf [v] g=.val (.int .u64 (S.mask l:Int)):=by
 obtain ⟨v',e,r1⟩:=arg_sl hv d
 rw[call_twin_setOf]
 refine iso_int eq_twin_setOf (xs:=[v']) (by simp only[mapO,e]) (by simp[f_twin_setOf]) hd ?_
 simp only[f_twin_setOf,sx,sy,SO.run,↓reduceIte,Nat.reduceEqDiff,(r1 .nil).len]
 refine wpL_range hv.1 (fun j t df g=>df=[]∧St t [(6,v'),(3,.int .u64 (S.mask (l.take j):Int))])
  ⟨rfl,by simp[St,sx,S.mask]⟩ (by simp[sx]) (by simp[sx]) (by decide) (by rintro j t df g v s (rfl | rfl | rfl)<;>simp[St,sx]) ?_ ?_
 ·rintro j t df g hj ⟨rfl,h6,h3,-⟩ h8 h7
  obtain ⟨x,hx,htk,hm⟩:=take_next hj
  obtain ⟨n,rfl⟩:=Int.eq_ofNat_of_zero_le (hp x hm)
  simp only[sx,sy,SO.run,↓reduceIte,Nat.reduceEqDiff,(r1 g.h).ints,h3,h6,h7,h8,hx,hj,Option.isSome_some,Option.getD_some,List.length_map,List.getElem?_map,Option.map_some,ci,bin_one_shl,bin_or _ _ (mask_lt _) (bit_lt _),St,true_and,and_true]
  rw[htk,mask_snoc];rfl
 ·rintro t df g ⟨rfl,h6,h3,-⟩
  rw[List.take_length] at h3
  simp only[f_twin_setOf_k1,sx,sy,SO.run,↓reduceIte,Nat.reduceEqDiff,h3]
end
end Hx
end
section
namespace Hx
open Go
noncomputable section
def S.isIn (s v:Nat):Bool:=s / 2 ^ v &&& 1 == 1
def S.upRow (p:List Nat)(s:Nat)(j:Nat):Nat:=(List.range j).foldl (fun s v=>if S.isIn s v then s ||| p[v]?.getD 0 else s) s
def S.up (p:List Nat)(s:Nat)(j:Nat):Nat:=(List.range j).foldl (fun s _=>S.upRow p s p.length) s
theorem upRow_succ (p:List Nat)(s j:Nat):S.upRow p s (j+1)=if S.isIn (S.upRow p s j) j then S.upRow p s j ||| p[j]?.getD 0 else S.upRow p s j:=by
 unfold S.upRow
 rw[List.range_succ,List.foldl_append];rfl
theorem up_succ (p:List Nat)(s j:Nat):S.up p s (j+1)=S.upRow p (S.up p s j) p.length:=by
 unfold S.up
 rw[List.range_succ,List.foldl_append];rfl
def S.acyc (p:List Nat):Bool:=(List.range p.length).all fun v=>!S.isIn (S.up p (p[v]?.getD 0) p.length) v
end
end Hx
end
section
namespace Hx
open Go
noncomputable section
theorem within_lit {d:Nat}(hd:0<d)(g:G)(lo hi x:Int) :
  callV C0 d N.twin_within [.int .i64 lo,.int .i64 hi,.hsl g.nx 0 0 1 none] (g.new (.cells 1 [[.int .i64 x]] 0 false false))=.val (.bool (decide (lo≤x)&&decide (x≤hi))):=by
 have hr:rowsOf (g.new (.cells 1 [[.int .i64 x]] 0 false false)).h 1 (.hsl g.nx 0 0 1 none)=some ([x].map ci):=by simp[sx,sy,ci]
 rw[within_ok hd (isInts_of hr) (by rw[ints_of hr];simp),ints_of hr]
 simp[S.within]
theorem within_sl {d k:Nat}{P:Nat→Prop}(hd:0<d){g:G}{lo hi:Int}{v:AV}{l:List Int}(hv:SlR P k g.h l v) :
  callV C0 d N.twin_within [.int .i64 lo,.int .i64 hi,v] g=.val (.bool (S.within lo hi l)):=by
 rw[within_ok hd (isInts_of hv.ints) (by rw[ints_of hv.ints];exact hv.1),ints_of hv.ints]
def S.rootOk (gr:Int)(r:List Int):Bool:=decide (1≤(r.length:Int))&&decide ((r.length:Int)≤4)&&S.within 0 gr r&&decide (r.sum=gr)
def S.prod (l:List Int):Int:=l.foldl (·*·) 1
def S.rootsOk (m:Causal):Bool:=m.roots.all (S.rootOk m.grain)&&decide (S.prod (m.roots.map fun r=>(r.length:Int))≤1024)
theorem prod_snoc (l:List Int)(x:Int):S.prod (l++[x])=S.prod l*x:=by simp[S.prod]
theorem pow4_mono {a b:Nat}(h:a≤b):(4:Int) ^ a≤4 ^ b:=by
 obtain ⟨c,rfl⟩:∃c,b=a+c:=⟨b - a,by omega⟩
 induction c with
 | zero=>exact Int.le_refl _
 | succ c ih =>
  have:=ih (by omega)
  rw[show a+(c+1)=(a+c)+1 from rfl,Int.pow_succ]
  have h0:(0:Int)≤4 ^ (a+c):=Int.le_of_lt (Int.pow_pos (by decide))
  omega
theorem prod_cons (a:Int)(l:List Int):S.prod (a::l)=a*S.prod l:=by
 have:∀(l:List Int) (s:Int),l.foldl (·*·) s=s*l.foldl (·*·) 1:=by
  intro l
  induction l with
  | nil=>intro s;simp
  | cons x l ih=>intro s;rw[List.foldl_cons,ih,List.foldl_cons,ih (1*x),Int.one_mul,Int.mul_assoc]
 unfold S.prod
 rw[List.foldl_cons,this,Int.one_mul]
theorem prod_bound:∀{l:List Int},(∀x∈l,1≤x∧x≤4)→1≤S.prod l∧S.prod l≤4 ^ l.length
 | [],_=>⟨by decide,by decide⟩
 | a::l,h=>by
  obtain ⟨h1,h2⟩:=prod_bound (l:=l) fun x hx=>h x (by simp[hx])
  obtain ⟨h3,h4⟩:=h a (by simp)
  rw[prod_cons,List.length_cons,Int.pow_succ,Int.mul_comm (4 ^ l.length)]
  constructor
  ·have:=Int.mul_le_mul h3 h1 (by decide) (by omega)
   simpa using this
  ·exact Int.mul_le_mul h4 h2 (by omega) (by decide)
theorem sum_bound {b:Int}(hb:0≤b):∀{l:List Int},(∀x∈l,0≤x∧x≤b)→0≤l.sum∧l.sum≤b*l.length
 | [],_=>by simp
 | a::l,h=>by
  obtain ⟨h1,h2⟩:=sum_bound hb (l:=l) fun x hx=>h x (by simp[hx])
  obtain ⟨h3,h4⟩:=h a (by simp)
  rw[List.sum_cons,List.length_cons]
  have:b*((l.length+1:Nat):Int)=b*(l.length:Int)+b:=by rw[Int.natCast_add,Int.mul_add];simp
  omega
theorem sum_snoc (l:List Int)(x:Int):(l++[x]).sum=l.sum+x:=by simp
theorem within_iff {lo hi:Int}{l:List Int}:S.within lo hi l=true↔∀x∈l,lo≤x∧x≤hi:=by simp[S.within]
theorem rootsRight_ok {d k:Nat}{g:G}{P:Nat→Prop}{v:AV}{m:Causal}(hd:0<d)(hm:Agg m P k g.h v)(hg1:1≤m.grain)(hg2:m.grain≤12)(hn:m.roots.length≤8) :
  callV C0 d N.twin_rootsRight [v] g=.val (.bool (S.rootsOk m)):=by
 obtain ⟨v',e,cs,rfl,hc⟩:=arg_of (snb_agg m) (by decide) d hm
 obtain ⟨a,b,rfl,hR,hN⟩:=rp_causal.1 hc
 obtain ⟨rows,r1,r2,r3,r4⟩:=hR.all
 have r1:∀h',rowsOf h' 1 a=some rows:=r1
 rw[call_twin_rootsRight]
 refine iso_bool eq_twin_rootsRight (xs:=[.agg [.int .i64 m.grain,a,b]]) (by simp only[mapO,e]) (by simp[f_twin_rootsRight]) hd ?_
 simp only[f_twin_rootsRight,f_twin_rootsRight_r,sx,sy,SO.run,↓reduceIte,Nat.reduceEqDiff,Nat.reduceAdd,hR.len]
 have fin:∀(q:Bool) (t:T) (g:G),tat t 3=.int .i64 (S.prod (m.roots.map fun r=>(r.length:Int)))∨q=false→tat t 4=.bool q →
   wp C0 (d+1) none f_twin_rootsRight_k4 (fnQ C0 (d+1) [SR.tm 2] fun v x=>v=AV.bool (q&&decide (S.prod (m.roots.map fun r=>(r.length:Int))≤1024))) t [] g:=by
  intro q t g h3 h4
  simp only[f_twin_rootsRight_k4,sx,sy,SO.run,↓reduceIte,Nat.reduceEqDiff,h4]
  refine bifP_mk (fun hb=>?_) (fun hb=>?_)
  ·subst hb
   rcases h3 with h3 | h3
   ·simp only[sx,sy,SO.run,↓reduceIte,Nat.reduceEqDiff,h3,Bool.true_and]
   ·cases h3
  ·subst hb
   simp only[sx,sy,SO.run,↓reduceIte,Nat.reduceEqDiff,Bool.false_and]
 refine wpL_range (m:=m.roots.length) (by omega) (fun j t df g=>df=[]∧St t [(1,.hptr 0 0 0 0),(11,a),(3,.int .i64 (S.prod ((m.roots.take j).map fun r=>(r.length:Int)))),(4,.bool true)]∧g.h.get 0=.cells 3 [[.int .i64 m.grain,a,b]] 0 false false∧1≤g.nx∧(m.roots.take j).all (S.rootOk m.grain)=true)
  ⟨rfl,by simp[St,sx,S.prod],by simp[sx],by simp[sx],rfl⟩ (by simp[sx]) (by simp[sx]) (by decide) (by rintro j t df g v s (rfl | rfl | rfl)<;>simp[St,sx]) ?_ ?_
 ·rintro j t df g hj ⟨rfl,⟨h1,h11,h3,h4,-⟩,hg,hnx,hw⟩ h13 h12
  obtain ⟨x,hx,htk,hm⟩:=take_next hj
  obtain ⟨row,q1,q2⟩:=r3 j x hx
  obtain ⟨u,rfl,hu⟩:=rp_list.1 q2
  have hlt:j<rows.length:=by omega
  have bad:S.rootOk m.grain x=false→S.rootsOk m=false:=fun h=>by
   rw[S.rootsOk,Bool.and_eq_false_iff];left;rw[List.all_eq_false];exact ⟨x,hm,by simp[h]⟩
  have hbad:∀(t:T) (g:G),S.rootOk m.grain x=false→tat t 4=.bool false→wp C0 (d+1) none f_twin_rootsRight_k4 (fnQ C0 (d+1) [SR.tm 2] fun v x=>v=AV.bool (S.rootsOk m)) t [] g:=fun t g h1 h2=>by
   rw[bad h1];exact fin false t g (.inr rfl) h2
  have hlen:((m.roots.take j).map fun r=>(r.length:Int)).length≤8:=by simp;omega
  have hpb:1≤S.prod ((m.roots.take j).map fun r=>(r.length:Int))∧S.prod ((m.roots.take j).map fun r=>(r.length:Int))≤4 ^ 8:=by
   have:=prod_bound (l:=(m.roots.take j).map fun r=>(r.length:Int)) (by
    intro y hy
    obtain ⟨r,hr,rfl⟩:=List.mem_map.1 hy
    have:=List.all_eq_true.1 hw r hr
    simp[S.rootOk] at this
    omega)
   exact ⟨this.1,Int.le_trans this.2 (pow4_mono hlen)⟩
  simp only[sx,sy,SO.run,↓reduceIte,Nat.reduceEqDiff,h1,h3,h4,h11,h12,h13,hg,r1,hlt,q1,Option.isSome_some,Option.getD_some,hu.len,within_lit (Nat.succ_pos d)]
  refine bifP_mk (fun hb=>?_) (fun hb=>?_)
  ·simp only[sx,sy,SO.run,↓reduceIte,Nat.reduceEqDiff,hb]
   exact hbad _ _ (by simp[S.rootOk] at *;omega) (by simp only[sx,↓reduceIte])
  ·have hg':(g.new (AObj.cells 1 [[AV.int IntKind.i64 ↑x.length]] 0 false false)).h.get 0=.cells 3 [[.int .i64 m.grain,a,b]] 0 false false:=by
    rw[G.new_h,get_put_ne _ _ _ (by omega),hg]
   have hb':1≤x.length∧x.length≤4:=by simp at hb;omega
   have hnx':1≤(g.new (AObj.cells 1 [[AV.int IntKind.i64 ↑x.length]] 0 false false)).nx:=by simp
   generalize g.new (AObj.cells 1 [[AV.int IntKind.i64 ↑x.length]] 0 false false)=g' at *
   simp only[sx,sy,SO.run,↓reduceIte,Nat.reduceEqDiff,hb,h1,hg']
   rw[within_sl (Nat.succ_pos d) (hu.tree (h':=g'.h) (Nat.le_refl _))]
   simp only[sx,sy,SO.run,↓reduceIte,Nat.reduceEqDiff]
   cases hwi:S.within 0 m.grain x with
   | false =>
    simp only[sx,sy,SO.run,↓reduceIte,Nat.reduceEqDiff,Bool.not_false]
    exact hbad _ _ (by simp only[S.rootOk,hwi,Bool.and_false,Bool.false_and]) (by simp only[sx,↓reduceIte,Nat.reduceEqDiff])
   | true =>
    have hwx:=within_iff.1 hwi
    simp only[sx,sy,SO.run,↓reduceIte,Nat.reduceEqDiff,Bool.not_true,h3,hu.len,wrap64 (show -9223372036854775808≤S.prod ((m.roots.take j).map fun r=>(r.length:Int))*(x.length:Int) by
      have:=Int.mul_nonneg (show 0≤S.prod ((m.roots.take j).map fun r=>(r.length:Int)) by omega) (show (0:Int)≤x.length by omega);omega)
     (show S.prod ((m.roots.take j).map fun r=>(r.length:Int))*(x.length:Int)<9223372036854775808 by
      have:=Int.mul_le_mul (show S.prod ((m.roots.take j).map fun r=>(r.length:Int))≤65536 from hpb.2) (show (x.length:Int)≤4 by omega) (by omega) (by decide);omega)]
    refine wpL_range hu.1 (fun i t df g''=>df=[]∧g''=g'∧St t [(1,.hptr 0 0 0 0),(11,a),(12,.int .i64 m.roots.length),(13,.int .i64 j),(33,u),(3,.int .i64 (S.prod ((m.roots.take j).map fun r=>(r.length:Int))*(x.length:Int))),(4,.bool true),(7,.int .i64 ((x.take i).sum))])
     ⟨rfl,rfl,by simp[St,sx,h1,h11,h12,h13,h4]⟩ (by simp[sx]) (by simp[sx]) (by decide) (by rintro j t df g v s (rfl | rfl | rfl)<;>simp[St,sx]) ?_ ?_
    ·rintro i t df g'' hi ⟨rfl,rfl,h1,h11,h12,h13,h33,h3,h4,h7,-⟩ h35 h34
     obtain ⟨y,hy,htk2,hm2⟩:=take_next hi
     obtain ⟨s1,s2⟩:=sum_bound (b:=m.grain) (by omega) (l:=x.take i) fun z hz=>hwx z (List.mem_of_mem_take hz)
     have hyb:=hwx y hm2
     have s3:(x.take i).sum≤12*4:=Int.le_trans s2 (Int.mul_le_mul hg2 (by simp;omega) (by omega) (by decide))
     simp only[sx,sy,SO.run,↓reduceIte,Nat.reduceEqDiff,h1,h3,h4,h7,h11,h12,h13,h33,h34,h35,(hu.tree (h':=g''.h) (Nat.le_refl _)).ints,hi,hy,Option.isSome_some,Option.getD_some,List.length_map,List.getElem?_map,Option.map_some,ci,St,true_and,and_true,wrap64 (show -9223372036854775808≤(x.take i).sum+y by omega) (show (x.take i).sum+y<9223372036854775808 by omega)]
     rw[htk2,sum_snoc]
    ·rintro t df g'' ⟨rfl,rfl,h1,h11,h12,h13,h33,h3,h4,h7,-⟩
     rw[List.take_length] at h7
     simp only[f_twin_rootsRight_k1,sx,sy,SO.run,↓reduceIte,Nat.reduceEqDiff,h1,h7,hg']
     refine bifP_mk (fun hs=>?_) (fun hs=>?_)
     ·simp only[sx,sy,SO.run,↓reduceIte,Nat.reduceEqDiff]
      exact hbad _ _ (by simp at hs;simp[S.rootOk,hs]) (by simp only[sx,↓reduceIte])
     ·have hs:x.sum=m.grain:=by simpa using hs
      simp only[sx,sy,SO.run,↓reduceIte,Nat.reduceEqDiff,St,h1,h3,h4,h11,h12,h13,hg',true_and,and_true]
      refine ⟨?_,hnx',?_⟩
      ·rw[htk,List.map_append,List.map_singleton,prod_snoc]
      ·rw[htk,List.all_append,hw]
       simp[S.rootOk,hwi,hs,hb'];omega
 ·rintro t df g ⟨rfl,⟨h1,h11,h3,h4,-⟩,hg,hnx,hw⟩
  rw[List.take_length] at hw h3
  simp only[sx,sy,↓reduceIte,Nat.reduceEqDiff]
  have:=fin true t g (.inl h3) h4
  rw[S.rootsOk,hw];exact this
end
end Hx
end
section
namespace Hx
open Go
noncomputable section
theorem placeAt_of {l:List Int}{n:Int}(h:S.places l n=true){i:Nat}(hi:i<l.length):S.placeAt l n i=true:=by
 have:=List.all_eq_true.1 h i (List.mem_range.2 hi);exact this
theorem places_mem {l:List Int}{n:Int}(h:S.places l n=true):∀x∈l,0≤x∧x<n:=by
 intro x hx
 obtain ⟨i,hi,rfl⟩:=List.mem_iff_getElem.1 hx
 have:=placeAt_of h hi
 simp[S.placeAt,List.getElem?_eq_getElem hi] at this
 omega
theorem places_ge {l:List Int}{n:Int}(h:S.places l n=true):∀(i:Nat) (hi:i<l.length),(i:Int)≤l[i]:=by
 intro i
 induction i with
 | zero=>intro hi;have:=(places_mem h l[0] (List.getElem_mem hi)).1;simpa using this
 | succ i ih =>
  intro hi
  have h1:=ih (by omega)
  have:=placeAt_of h hi
  simp[S.placeAt,List.getElem?_eq_getElem hi,List.getElem?_eq_getElem (show i<l.length by omega)] at this
  omega
theorem places_len {l:List Int}{n:Nat}(h:S.places l (n:Int)=true):l.length≤n:=by
 rcases Nat.eq_zero_or_pos l.length with h0 | h0
 ·omega
 ·have h1:=places_ge h (l.length - 1) (by omega)
  have h2:=(places_mem h l[l.length - 1] (List.getElem_mem (by omega))).2
  omega
def S.cardAt (m:Causal)(p:Int):Int:=(m.nodes[p.toNat]?.map (·.card)).getD 0
def S.lenAt (m:Causal)(r:Int):Int:=(m.roots[r.toNat]?.map fun r=>(r.length:Int)).getD 0
def S.above (m:Causal)(x:Mech):Int:=S.prod (x.frm.map (S.cardAt m))
def S.beside (m:Causal)(x:Mech):Int:=S.prod (x.noise.map (S.lenAt m))
structure S.Small (m:Causal):Prop where
 nodes:m.nodes.length≤5
 roots:m.roots.length≤8
 card:∀x∈m.nodes,1≤x.card∧x.card≤4
 len:∀r∈m.roots,1≤r.length∧r.length≤4
theorem cardAt_bound {m:Causal}(hs:S.Small m){p:Int}(h:0≤p∧p<m.nodes.length):1≤S.cardAt m p∧S.cardAt m p≤4:=by
 unfold S.cardAt
 rw[List.getElem?_eq_getElem (show p.toNat<m.nodes.length by omega)]
 exact hs.card _ (List.getElem_mem _)
theorem lenAt_bound {m:Causal}(hs:S.Small m){p:Int}(h:0≤p∧p<m.roots.length):1≤S.lenAt m p∧S.lenAt m p≤4:=by
 unfold S.lenAt
 rw[List.getElem?_eq_getElem (show p.toNat<m.roots.length by omega)]
 have:=hs.len _ (List.getElem_mem (show p.toNat<m.roots.length by omega))
 simp;omega
theorem prod_map_bound {f:Int→Int}{l:List Int}{n:Nat}(hf:∀x∈l,1≤f x∧f x≤4)(hl:l.length≤n):1≤S.prod (l.map f)∧S.prod (l.map f)≤4 ^ n:=by
 have:=prod_bound (l:=l.map f) (by intro y hy;obtain ⟨x,hx,rfl⟩:=List.mem_map.1 hy;exact hf x hx)
 exact ⟨this.1,Int.le_trans this.2 (pow4_mono (by simpa using hl))⟩
theorem sizes_ok {d k k2:Nat}{g:G}{P P2:Nat→Prop}{v w:AV}{m:Causal}{x:Mech}(hd:0<d)(hm:Agg m P k g.h v)(hx:Agg x P2 k2 g.h w)(hs:S.Small m)
  (hf:S.places x.frm m.nodes.length=true) (hn:S.places x.noise m.roots.length=true) :
  callV C0 d N.twin_sizes [v,w] g=.val (.tup [.int .i64 (S.above m x),.int .i64 (S.beside m x)]):=by
 obtain ⟨v',e,cs,rfl,hc⟩:=arg_of (snb_agg m) (by decide) d hm
 obtain ⟨a,b,rfl,hR,hN⟩:=rp_causal.1 hc
 obtain ⟨w',e2,cs2,rfl,hc2⟩:=arg_of (snb_agg x) (by decide) d hx
 obtain ⟨fa,fb,fc,rfl,hfa,hfb,hfc⟩:=rp_mech.1 hc2
 obtain ⟨rows,r1,r2,r3,r4⟩:=hN.all
 have r1:∀h',rowsOf h' 4 b=some rows:=r1
 obtain ⟨rows',r1',r2',r3',r4'⟩:=hR.all
 have r1':∀h',rowsOf h' 1 a=some rows':=r1'
 have hfm:=places_mem hf
 have hnm:=places_mem hn
 rw[call_twin_sizes]
 suffices hh:∃r,isoCall (I C0) d g N.twin_sizes [v,w]=.val r∧Tup2 (One (S.above m x)) (One (S.beside m x)) NoP 0 .nil r by
  obtain ⟨r,hr,ra,rb,rfl,h1,h2⟩:=hh
  have h1:=rp_int.1 h1
  have h2:=rp_int.1 h2
  injection h1 with h1;injection h2 with h2
  rw[hr,h1,h2]
 refine iso_run eq_twin_sizes (xs:=[.agg [.int .i64 m.grain,a,b],.agg [.int .i64 x.card,fa,fb,fc]]) (by simp only[mapO,e,e2]) (by simp[f_twin_sizes]) (snb_tup2 (m:=1) (snb_one _) (snb_one _) (by decide) (by decide)) (by decide) hd ?_
 simp only[f_twin_sizes,f_twin_sizes_r,sx,sy,SO.run,↓reduceIte,Nat.reduceEqDiff,Nat.reduceAdd,hfa.len]
 let B:H→Prop:=fun h=>h.get 0=.cells 3 [[.int .i64 m.grain,a,b]] 0 false false∧h.get 1=.cells 4 [[.int .i64 x.card,fa,fb,fc]] 0 false false
 refine wpL_range hfa.1 (fun j t df g=>df=[]∧St t [(2,.hptr 0 0 0 0),(3,.hptr 1 0 0 0),(11,fa),(4,.int .i64 (S.prod ((x.frm.take j).map (S.cardAt m)))),(5,.int .i64 1)]∧B g.h)
  ⟨rfl,by simp[St,sx,S.prod],by simp[B,sx,sy]⟩ (by simp[sx]) (by simp[sx]) (by decide) (by rintro j t df g v s (rfl | rfl | rfl)<;>simp[St,sx]) ?_ ?_
 ·rintro j t df g hj ⟨rfl,⟨h2,h3,h11,h4,h5,-⟩,hB0,hB1⟩ h13 h12
  obtain ⟨p,hp,htk,hm⟩:=take_next hj
  obtain ⟨hp0,hp1⟩:=hfm p hm
  obtain ⟨q,rfl⟩:=Int.eq_ofNat_of_zero_le hp0
  have hq:q<m.nodes.length:=by omega
  obtain ⟨y,hy,-,-⟩:=take_next hq
  obtain ⟨row,q1,q2⟩:=r3 q y hy
  obtain ⟨ya,yb,yc,rfl,-⟩:=rp_mech.1 q2
  have hlt:q<rows.length:=by omega
  have hry:=r4 (by omega)
  have b1:=prod_map_bound (f:=S.cardAt m) (l:=x.frm.take j) (n:=5) (fun z hz=>cardAt_bound hs (hfm z (List.mem_of_mem_take hz))) (by have:=places_len hf;have:=hs.nodes;simp;omega)
  have b2:=cardAt_bound hs ⟨hp0,hp1⟩
  have hc:S.cardAt m (q:Int)=y.card:=by simp[S.cardAt,hy]
  rw[hc] at b2
  have b3:=Int.mul_le_mul b1.2 b2.2 (by omega) (by decide)
  have b4:=Int.mul_nonneg (show 0≤S.prod ((x.frm.take j).map (S.cardAt m)) by omega) (show 0≤y.card by omega)
  simp only[sx,sy,SO.run,↓reduceIte,Nat.reduceEqDiff,h2,h3,h4,h5,h11,h12,h13,(hfa.tree (h':=g.h) (Nat.le_refl _)).ints,hj,hp,hB0,hB1,r1,hlt,q1,hry,Option.isSome_some,Option.getD_some,List.length_map,List.getElem?_map,Option.map_some,ci,St,B,true_and,and_true,
   wrap64 (show -9223372036854775808≤S.prod ((x.frm.take j).map (S.cardAt m))*y.card by omega) (show S.prod ((x.frm.take j).map (S.cardAt m))*y.card<9223372036854775808 by omega)]
  rw[htk,List.map_append,List.map_singleton,prod_snoc,hc]
 ·rintro t df g ⟨rfl,⟨h2,h3,h11,h4,h5,-⟩,hB0,hB1⟩
  rw[List.take_length] at h4
  simp only[f_twin_sizes_k3,sx,sy,SO.run,↓reduceIte,Nat.reduceEqDiff,h3,hB1,hfb.len]
  refine wpL_range hfb.1 (fun j t df g=>df=[]∧St t [(2,.hptr 0 0 0 0),(27,fb),(4,.int .i64 (S.above m x)),(5,.int .i64 (S.prod ((x.noise.take j).map (S.lenAt m))))]∧B g.h)
   ⟨rfl,by simp[St,sx,S.prod,h2,h4,h5,S.above],by simp[B,hB0,hB1]⟩ (by simp[sx]) (by simp[sx]) (by decide) (by rintro j t df g v s (rfl | rfl | rfl)<;>simp[St,sx]) ?_ ?_
  ·rintro j t df g hj ⟨rfl,⟨h2,h27,h4,h5,-⟩,hB0,hB1⟩ h29 h28
   obtain ⟨p,hp,htk,hm⟩:=take_next hj
   obtain ⟨hp0,hp1⟩:=hnm p hm
   obtain ⟨q,rfl⟩:=Int.eq_ofNat_of_zero_le hp0
   have hq:q<m.roots.length:=by omega
   obtain ⟨y,hy,-,-⟩:=take_next hq
   obtain ⟨row,q1,q2⟩:=r3' q y hy
   obtain ⟨u,rfl,hu⟩:=rp_list.1 q2
   have hlt:q<rows'.length:=by omega
   have b1:=prod_map_bound (f:=S.lenAt m) (l:=x.noise.take j) (n:=8) (fun z hz=>lenAt_bound hs (hnm z (List.mem_of_mem_take hz))) (by have:=places_len hn;have:=hs.roots;simp;omega)
   have b2:=lenAt_bound hs ⟨hp0,hp1⟩
   have hc:S.lenAt m (q:Int)=y.length:=by simp[S.lenAt,hy]
   rw[hc] at b2
   have b3:=Int.mul_le_mul b1.2 b2.2 (by omega) (by decide)
   have b4:=Int.mul_nonneg (show 0≤S.prod ((x.noise.take j).map (S.lenAt m)) by omega) (show 0≤(y.length:Int) by omega)
   simp only[sx,sy,SO.run,↓reduceIte,Nat.reduceEqDiff,h2,h4,h5,h27,h28,h29,(hfb.tree (h':=g.h) (Nat.le_refl _)).ints,hj,hp,hB0,hB1,r1',hlt,q1,hu.len,Option.isSome_some,Option.getD_some,List.length_map,List.getElem?_map,Option.map_some,ci,St,B,true_and,and_true,
    wrap64 (show -9223372036854775808≤S.prod ((x.noise.take j).map (S.lenAt m))*(y.length:Int) by omega) (show S.prod ((x.noise.take j).map (S.lenAt m))*(y.length:Int)<9223372036854775808 by omega)]
   rw[htk,List.map_append,List.map_singleton,prod_snoc,hc]
  ·rintro t df g ⟨rfl,⟨h2,h27,h4,h5,-⟩,hB0,hB1⟩
   rw[List.take_length] at h5
   simp only[f_twin_sizes_k2,sx,sy,SO.run,↓reduceIte,Nat.reduceEqDiff,h4,h5]
   exact ⟨NoP,_,_,rfl,rp_int.2 rfl,rp_int.2 rfl⟩
end
end Hx
end
section
namespace Hx
open Go
noncomputable section
def S.nodeOk (m:Causal)(i:Nat)(x:Mech):Bool :=
 S.places x.frm m.nodes.length&&S.places x.noise m.roots.length&&!x.frm.contains (i:Int)&&decide ((x.out.length:Int)=S.above m x*S.beside m x)&&S.within 0 (x.card - 1) x.out
def S.nodesOk (m:Causal):Bool:=(List.range m.nodes.length).all (fun i=>(m.nodes[i]?.map (S.nodeOk m i)).getD true)&&decide (S.prod (m.nodes.map (·.card))≤1024)
theorem nodesRight_ok {d k:Nat}{g:G}{P:Nat→Prop}{v:AV}{m:Causal}(hd:0<d)(hm:Agg m P k g.h v)(hs:S.Small m) :
  callV C0 d N.twin_nodesRight [v] g=.val (.bool (S.nodesOk m)):=by
 obtain ⟨v',e,cs,rfl,hc⟩:=arg_of (snb_agg m) (by decide) d hm
 obtain ⟨a,b,rfl,hR,hN⟩:=rp_causal.1 hc
 obtain ⟨rows,r1,r2,r3,r4⟩:=hN.all
 have r1:∀h',rowsOf h' 4 b=some rows:=r1
 rw[call_twin_nodesRight]
 refine iso_bool eq_twin_nodesRight (xs:=[.agg [.int .i64 m.grain,a,b]]) (by simp only[mapO,e]) (by simp[f_twin_nodesRight]) hd ?_
 simp only[f_twin_nodesRight,f_twin_nodesRight_r,sx,sy,SO.run,↓reduceIte,Nat.reduceEqDiff,Nat.reduceAdd,hN.len]
 refine wpL_range (m:=m.nodes.length) (by have:=hs.nodes;omega) (fun j t df g=>df=[]∧St t [(1,.hptr 0 0 0 0),(11,b),(3,.int .i64 (S.prod ((m.nodes.take j).map (·.card))))]∧g.h.get 0=.cells 3 [[.int .i64 m.grain,a,b]] 0 false false∧1≤g.nx∧(List.range j).all (fun i=>(m.nodes[i]?.map (S.nodeOk m i)).getD true)=true)
  ⟨rfl,by simp[St,sx,S.prod],by simp[sx],by simp[sx],rfl⟩ (by simp[sx]) (by simp[sx]) (by decide) (by rintro j t df g v s (rfl | rfl | rfl)<;>simp[St,sx]) ?_ ?_
 ·rintro j t df g hj ⟨rfl,⟨h1,h11,h3,-⟩,hg,hnx,hw⟩ h13 h12
  obtain ⟨x,hx,htk,hm⟩:=take_next hj
  obtain ⟨row,q1,q2⟩:=r3 j x hx
  obtain ⟨fa,fb,fc,rfl,hfa,hfb,hfc⟩:=rp_mech.1 q2
  have hlt:j<rows.length:=by omega
  have hry:=r4 (by omega)
  have bad:S.nodeOk m j x=false→S.nodesOk m=false:=fun h=>by
   rw[S.nodesOk,all_range_false hj (by rw[hx];simp[h])];rfl
  have b1:=prod_map_bound (f:=fun x=>x) (l:=(m.nodes.take j).map (·.card)) (n:=5) (fun z hz=>by obtain ⟨y,hy,rfl⟩:=List.mem_map.1 hz;exact hs.card y (List.mem_of_mem_take hy)) (by have:=hs.nodes;simp;omega)
  rw[List.map_id'] at b1
  have b2:=hs.card x hm
  have b3:=Int.mul_le_mul b1.2 b2.2 (by omega) (by decide)
  have b4:=Int.mul_nonneg (show 0≤S.prod ((m.nodes.take j).map (·.card)) by omega) (show 0≤x.card by omega)
  have hne:¬(0=g.nx):=by omega
  have ia:∀(g:G) (n:Int),callV C0 (d+1) N.twin_increasing [fa,.int .i64 n] g=.val (.bool (S.places x.frm n)):=fun g n=>increasing_ok (Nat.succ_pos d) (hfa.tree (h':=g.h) (Nat.le_refl _))
  have ib:∀(g:G) (n:Int),callV C0 (d+1) N.twin_increasing [fb,.int .i64 n] g=.val (.bool (S.places x.noise n)):=fun g n=>increasing_ok (Nat.succ_pos d) (hfb.tree (h':=g.h) (Nat.le_refl _))
  simp only[sx,sy,SO.run,↓reduceIte,Nat.reduceEqDiff,Nat.reduceAdd,h1,h3,h11,h12,h13,hg,r1,hlt,q1,hry,Option.isSome_some,Option.getD_some,Nat.reduceLeDiff,hne,hN.len,ia,
   wrap64 (show -9223372036854775808≤S.prod ((m.nodes.take j).map (·.card))*x.card by omega) (show S.prod ((m.nodes.take j).map (·.card))*x.card<9223372036854775808 by omega)]
  cases hpf:S.places x.frm m.nodes.length with
  | false =>
   simp only[sx,sy,SO.run,↓reduceIte,Nat.reduceEqDiff,Bool.not_false]
   rw[bad (by simp only[S.nodeOk,hpf,Bool.false_and])]
  | true =>
   simp only[sx,sy,SO.run,↓reduceIte,Nat.reduceEqDiff,Nat.reduceAdd,Bool.not_true,h1,hg,hne,Option.isSome_some,Option.getD_some,hR.len,ib]
   cases hpn:S.places x.noise m.roots.length with
   | false =>
    simp only[sx,sy,SO.run,↓reduceIte,Nat.reduceEqDiff,Bool.not_false]
    rw[bad (by simp only[S.nodeOk,hpn,Bool.and_false,Bool.false_and])]
   | true =>
    simp only[sx,sy,SO.run,↓reduceIte,Nat.reduceEqDiff,Nat.reduceAdd,Bool.not_true,hfa.len]
    obtain ⟨g1,hg1⟩:∃g1,g1=(g.new (AObj.cells 4 [[AV.int IntKind.i64 0,AV.nils,AV.nils,AV.nils]] 0 false false)).put g.nx (AObj.cells 4 [[AV.int IntKind.i64 x.card,fa,fb,fc]] 0 false false):=⟨_,rfl⟩
    have f0:g1.h.get 0=.cells 3 [[.int .i64 m.grain,a,b]] 0 false false:=by rw[hg1];simp[H.get_put,hne,hg]
    have f1:g1.h.get g.nx=.cells 4 [[.int .i64 x.card,fa,fb,fc]] 0 false false:=by rw[hg1];simp[H.get_put]
    have f2:g1.nx=g.nx+1:=by rw[hg1];simp
    rw[←hg1]
    clear hg1
    generalize g.nx=q at *
    refine wpL_range hfa.1 (fun i t df g'=>df=[]∧g'=g1∧St t [(1,.hptr 0 0 0 0),(11,b),(12,.int .i64 m.nodes.length),(13,.int .i64 j),(3,.int .i64 (S.prod ((m.nodes.take j).map (·.card))*x.card)),(4,.int .i64 j),(5,.hptr q 0 0 0),(39,fa)]∧(x.frm.take i).contains (j:Int)=false)
     ⟨rfl,rfl,by simp[St,sx,h1,h11,h12,h13],by simp⟩ (by simp[sx]) (by simp[sx]) (by decide) (by rintro j t df g v s (rfl | rfl | rfl)<;>simp[St,sx]) ?_ ?_
    ·rintro i t df g' hi ⟨rfl,rfl,⟨h1,h11,h12,h13,h3,h4,h5,h39,-⟩,hcn⟩ h41 h40
     obtain ⟨p,hp,htk2,hm2⟩:=take_next hi
     simp only[sx,sy,SO.run,↓reduceIte,Nat.reduceEqDiff,h1,h3,h4,h5,h11,h12,h13,h39,h40,h41,(hfa.tree (h':=g'.h) (Nat.le_refl _)).ints,hi,hp,Option.isSome_some,Option.getD_some,List.length_map,List.getElem?_map,Option.map_some,ci]
     refine bifP_mk (fun hb=>?_) (fun hb=>?_)
     ·simp only[sx,sy,SO.run,↓reduceIte,Nat.reduceEqDiff]
      have hb:p=j:=by simpa using hb
      subst hb
      rw[bad (by simp[S.nodeOk,hm2])]
     ·simp only[sx,sy,SO.run,↓reduceIte,Nat.reduceEqDiff,St,h1,h3,h4,h5,h11,h12,h13,h39,h40,h41,true_and,and_true]
      have hb:p≠j:=by simpa using hb
      rw[htk2]
      simp at hcn ⊢
      exact ⟨hcn,fun e=>hb e.symm⟩
    ·rintro t df g' ⟨rfl,rfl,⟨h1,h11,h12,h13,h3,h4,h5,h39,-⟩,hcn⟩
     rw[List.take_length] at hcn
     have hms:Agg m NoP (max k d) g'.h (.agg [.int .i64 m.grain,a,b]):=⟨_,rfl,rp_causal.2 ⟨a,b,rfl,hR.tree (Nat.le_refl _),hN.tree (Nat.le_refl _)⟩⟩
     have hxs:Agg x NoP (max k d) g'.h (.agg [.int .i64 x.card,fa,fb,fc]):=⟨_,rfl,rp_mech.2 ⟨fa,fb,fc,rfl,hfa.tree (Nat.le_refl _),hfb.tree (Nat.le_refl _),hfc.tree (Nat.le_refl _)⟩⟩
     have c1:=prod_map_bound (f:=S.cardAt m) (l:=x.frm) (n:=5) (fun z hz=>cardAt_bound hs (places_mem hpf z hz)) (by have:=places_len hpf;have:=hs.nodes;omega)
     have c2:=prod_map_bound (f:=S.lenAt m) (l:=x.noise) (n:=8) (fun z hz=>lenAt_bound hs (places_mem hpn z hz)) (by have:=places_len hpn;have:=hs.roots;omega)
     have c3:=Int.mul_le_mul c1.2 c2.2 (by omega) (by decide)
     have c4:=Int.mul_nonneg (show 0≤S.prod (x.frm.map (S.cardAt m)) by omega) (show 0≤S.prod (x.noise.map (S.lenAt m)) by omega)
     change S.above m x*S.beside m x≤_ at c3
     change 0≤S.above m x*S.beside m x at c4
     simp only[f_twin_nodesRight_k1,sx,sy,SO.run,↓reduceIte,Nat.reduceEqDiff,Nat.reduceAdd,Nat.reduceLeDiff,h1,h3,h4,h5,h11,h12,h13,f0,f1,sizes_ok (Nat.succ_pos d) hms hxs hs hpf hpn,Option.isSome_some,Option.getD_some,hfc.len,
      wrap64 (show -9223372036854775808≤S.above m x*S.beside m x by omega) (show S.above m x*S.beside m x<9223372036854775808 by omega)]
     refine bifP_mk (fun hb=>?_) (fun hb=>?_)
     ·simp only[sx,sy,SO.run,↓reduceIte,Nat.reduceEqDiff,hb]
      rw[bad (by simp at hb;simp[S.nodeOk,hb])]
     ·have ho:(x.out.length:Int)=S.above m x*S.beside m x:=by simpa using hb
      simp only[sx,sy,SO.run,↓reduceIte,Nat.reduceEqDiff,Nat.reduceAdd,hb,h5,f1,wrap64 (show -9223372036854775808≤x.card - 1 by omega) (show x.card - 1<9223372036854775808 by omega),within_sl (Nat.succ_pos d) (hfc.tree (h':=g'.h) (Nat.le_refl _))]
      cases hwi:S.within 0 (x.card - 1) x.out with
      | false =>
       simp only[sx,sy,SO.run,↓reduceIte,Nat.reduceEqDiff,Bool.not_false]
       rw[bad (by simp only[S.nodeOk,hwi,Bool.and_false])]
      | true =>
       simp only[f_twin_nodesRight_k2,sx,sy,SO.run,↓reduceIte,Nat.reduceEqDiff,Bool.not_true,St,h1,h3,h11,h12,h13,f0,true_and,and_true]
       refine ⟨?_,by omega,?_⟩
       ·rw[htk,List.map_append,List.map_singleton,prod_snoc]
       ·rw[all_range_succ,hw,hx]
        simp only[Option.map_some,Option.getD_some,S.nodeOk,hpf,hpn,hcn,ho,hwi,Bool.true_and,Bool.not_false,decide_true,Bool.and_self]
 ·rintro t df g ⟨rfl,⟨h1,h11,h3,-⟩,hg,hnx,hw⟩
  rw[List.take_length] at h3
  simp only[sx,sy,SO.run,↓reduceIte,Nat.reduceEqDiff,f_twin_nodesRight_k4,h3]
  rw[S.nodesOk,hw];rfl
end
end Hx
end
section
namespace Hx
open Go
noncomputable section
def S.diff (a b:Nat):Nat:=a ^^^ (a &&& b)
def S.roundA (p:List Nat)(s:Nat)(j:Nat):Nat:=(List.range j).foldl (fun s v=>if S.diff (p[v]?.getD 0) s=0 then s ||| S.bit v else s) s
def S.placed (p:List Nat)(j:Nat):Nat:=(List.range j).foldl (fun s _=>S.roundA p s p.length) 0
theorem roundA_succ (p:List Nat)(s j:Nat):S.roundA p s (j+1)=if S.diff (p[j]?.getD 0) (S.roundA p s j)=0 then S.roundA p s j ||| S.bit j else S.roundA p s j:=by
 unfold S.roundA
 rw[List.range_succ,List.foldl_append];rfl
theorem roundA_lt {p:List Nat}{s:Nat}(hs:s<18446744073709551616):∀j,S.roundA p s j<18446744073709551616
 | 0=>hs
 | j+1=>by
  rw[roundA_succ]
  split
  ·exact or_lt (roundA_lt hs j) (bit_lt _)
  ·exact roundA_lt hs j
theorem placed_succ (p:List Nat)(j:Nat):S.placed p (j+1)=S.roundA p (S.placed p j) p.length:=by
 unfold S.placed
 rw[List.range_succ,List.foldl_append];rfl
theorem placed_lt {p:List Nat}:∀j,S.placed p j<18446744073709551616
 | 0=>by simp[S.placed]
 | j+1=>by rw[placed_succ];exact roundA_lt (placed_lt j) _
def S.pars (m:Causal):List Nat:=m.nodes.map fun x=>S.mask x.frm
def S.tacyc (m:Causal):Bool:=decide (S.placed (S.pars m) m.nodes.length=2 ^ m.nodes.length - 1)
theorem bit_eq {n:Nat}(h:n<64):S.bit n=2 ^ n:=by
 unfold S.bit
 rw[Nat.one_mul,Nat.mod_eq_of_lt]
 exact Nat.pow_lt_pow_right (a:=2) (by decide) h
theorem acyclic_ok {d k:Nat}{g:G}{P:Nat→Prop}{v:AV}{m:Causal}(hd:0<d)(hm:Agg m P k g.h v)(hn5:m.nodes.length≤5)(hf:∀x∈m.nodes,∀p∈x.frm,0≤p) :
  callV C0 d N.twin_acyclic [v] g=.val (.bool (S.tacyc m)):=by
 obtain ⟨v',e,cs,rfl,hc⟩:=arg_of (snb_agg m) (by decide) d hm
 obtain ⟨a,b,rfl,hR,hN⟩:=rp_causal.1 hc
 obtain ⟨rows,r1,r2,r3,r4⟩:=hN.all
 have r1:∀h',rowsOf h' 4 b=some rows:=r1
 have hpl:(S.pars m).length=m.nodes.length:=by simp[S.pars]
 rw[call_twin_acyclic]
 refine iso_bool eq_twin_acyclic (xs:=[.agg [.int .i64 m.grain,a,b]]) (by simp only[mapO,e]) (by simp[f_twin_acyclic]) hd ?_
 simp only[f_twin_acyclic,f_twin_acyclic_r,sx,sy,SO.run,↓reduceIte,Nat.reduceEqDiff,Nat.reduceAdd,hN.len]
 refine wpL_range (m:=m.nodes.length) (by omega) (fun j t df g=>df=[]∧St t [(1,.hptr 0 0 0 0),(3,.int .u64 (S.placed (S.pars m) j:Int))]∧g.h.get 0=.cells 3 [[.int .i64 m.grain,a,b]] 0 false false∧1≤g.nx)
  ⟨rfl,by simp[St,sx,S.placed],by simp[sx],by simp[sx]⟩ (by simp[sx]) (by simp[sx]) (by decide) (by rintro j t df g v s (rfl | rfl | rfl)<;>simp[St,sx]) ?_ ?_
 ·rintro j t df g hj ⟨rfl,⟨h1,h3,-⟩,hg,hnx⟩ h9 h8
  simp only[sx,sy,SO.run,↓reduceIte,Nat.reduceEqDiff,Nat.reduceAdd,h1,hg,hN.len]
  refine wpL_range (m:=m.nodes.length) (by omega) (fun i t df g=>df=[]∧St t [(1,.hptr 0 0 0 0),(8,.int .i64 m.nodes.length),(9,.int .i64 j),(12,b),(3,.int .u64 (S.roundA (S.pars m) (S.placed (S.pars m) j) i:Int))]∧g.h.get 0=.cells 3 [[.int .i64 m.grain,a,b]] 0 false false∧1≤g.nx)
   ⟨rfl,by simp[St,sx,S.roundA,h1,h3,h8,h9],hg,hnx⟩ (by simp[sx]) (by simp[sx]) (by decide) (by rintro j t df g v s (rfl | rfl | rfl)<;>simp[St,sx]) ?_ ?_
  ·rintro i t df g hi ⟨rfl,⟨h1,h8,h9,h12,h3,-⟩,hg,hnx⟩ h14 h13
   obtain ⟨x,hx,htk,hm⟩:=take_next hi
   obtain ⟨row,q1,q2⟩:=r3 i x hx
   obtain ⟨fa,fb,fc,rfl,hfa,hfb,hfc⟩:=rp_mech.1 q2
   have hlt:i<rows.length:=by omega
   have hry:=r4 (by omega)
   have hne:¬(0=g.nx):=by omega
   have hpi:(S.pars m)[i]?.getD 0=S.mask x.frm:=by simp[S.pars,hx]
   have sa:∀(g:G),callV C0 (d+1) N.twin_setOf [fa] g=.val (.int .u64 (S.mask x.frm:Int)):=fun g=>setOf_ok (Nat.succ_pos d) (hfa.tree (h':=g.h) (Nat.le_refl _)) (hf x hm)
   have hlr:=roundA_lt (p:=S.pars m) (placed_lt (p:=S.pars m) j) i
   simp only[sx,sy,SO.run,↓reduceIte,Nat.reduceEqDiff,Nat.reduceAdd,Nat.reduceLeDiff,h1,h3,h8,h9,h12,h13,h14,hg,r1,hlt,q1,hry,hne,Option.isSome_some,Option.getD_some,sa,bin_andNot _ _ (mask_lt _) hlr]
   refine bifP_mk (fun hb=>?_) (fun hb=>?_)
   ·have hb:S.diff (S.mask x.frm) (S.roundA (S.pars m) (S.placed (S.pars m) j) i)=0:=by unfold S.diff;simp only[decide_eq_true_eq] at hb;omega
    simp only[f_twin_acyclic_k0,sx,sy,SO.run,↓reduceIte,Nat.reduceEqDiff,h1,h3,h8,h9,h12,h13,h14,bin_one_shl,bin_or _ _ hlr (bit_lt _),St,hg,hne,true_and,and_true]
    refine ⟨?_,by omega⟩
    rw[roundA_succ,hpi,if_pos hb]
   ·have hb:¬S.diff (S.mask x.frm) (S.roundA (S.pars m) (S.placed (S.pars m) j) i)=0:=by unfold S.diff;simp only[decide_eq_false_iff_not] at hb;omega
    simp only[f_twin_acyclic_k0,sx,sy,SO.run,↓reduceIte,Nat.reduceEqDiff,h1,h3,h8,h9,h12,h13,h14,St,hg,hne,true_and,and_true]
    refine ⟨?_,by omega⟩
    rw[roundA_succ,hpi,if_neg hb]
  ·rintro t df g ⟨rfl,⟨h1,h8,h9,h12,h3,-⟩,hg,hnx⟩
   simp only[f_twin_acyclic_k2,sx,sy,SO.run,↓reduceIte,Nat.reduceEqDiff,h1,h3,h8,h9,St,hg,hnx,true_and,and_true]
   rw[placed_succ,hpl]
 ·rintro t df g ⟨rfl,⟨h1,h3,-⟩,hg,hnx⟩
  have hp2:2 ^ m.nodes.length≤2 ^ 5:=Nat.pow_le_pow_right (by decide) hn5
  have hp1:0<2 ^ m.nodes.length:=Nat.pow_pos (by decide)
  simp only[f_twin_acyclic_k4,sx,sy,SO.run,↓reduceIte,Nat.reduceEqDiff,h1,h3,hg,hN.len,bin_one_shl,bit_eq (show m.nodes.length<64 by omega),wrapu64 (show (0:Int)≤((2 ^ m.nodes.length:Nat):Int) - 1 by omega) (show ((2 ^ m.nodes.length:Nat):Int) - 1<18446744073709551616 by omega)]
  unfold S.tacyc
  congr 1
  rw[Bool.eq_iff_iff,decide_eq_true_iff,decide_eq_true_iff];omega
def S.check (m:Causal):Bool :=
 decide (1≤m.grain)&&decide (m.grain≤12)&&decide (m.roots.length≤8)&&decide (1≤m.nodes.length)&&decide (m.nodes.length≤5)&&S.rootsOk m&&(m.nodes.all fun x=>decide (1≤x.card)&&decide (x.card≤4))&&S.nodesOk m&&S.tacyc m
theorem small_of {m:Causal}(h1:m.roots.length≤8)(h2:m.nodes.length≤5)(h3:S.rootsOk m=true)(h4:∀x∈m.nodes,1≤x.card∧x.card≤4):S.Small m :=
 ⟨h2,h1,h4,fun r hr=>by
  have:=(Bool.and_eq_true _ _ ▸ h3:_∧_).1
  have:=List.all_eq_true.1 this r hr
  simp[S.rootOk] at this
  omega⟩
theorem nodesOk_mem {m:Causal}(h:S.nodesOk m=true){i:Nat}{x:Mech}(hx:m.nodes[i]?=some x):S.nodeOk m i x=true:=by
 have:=(Bool.and_eq_true _ _ ▸ h:_∧_).1
 have:=List.all_eq_true.1 this i (List.mem_range.2 (List.getElem?_eq_some_iff.1 hx).1)
 simpa [hx] using this
theorem nodesOk_frm {m:Causal}(h:S.nodesOk m=true):∀x∈m.nodes,∀p∈x.frm,0≤p∧p<m.nodes.length:=by
 intro x hx p hp
 obtain ⟨i,hi,rfl⟩:=List.mem_iff_getElem.1 hx
 have:=nodesOk_mem h (List.getElem?_eq_getElem hi)
 simp only[S.nodeOk,Bool.and_eq_true] at this
 exact places_mem this.1.1.1.1 p hp
theorem check_ok {d k:Nat}{g:G}{P:Nat→Prop}{v:AV}{m:Causal}(hd:0<d)(hm:Agg m P k g.h v) :
  callV C0 d N.twin_Check [v] g=.val (.int .i64 (if S.check m then 0 else 330)):=by
 obtain ⟨v',e,cs,rfl,hc⟩:=arg_of (snb_agg m) (by decide) d hm
 obtain ⟨a,b,rfl,hR,hN⟩:=rp_causal.1 hc
 obtain ⟨rows,r1,r2,r3,r4⟩:=hN.all
 have r1:∀h',rowsOf h' 4 b=some rows:=r1
 have hms:∀g:G,Agg m NoP (max k d) g.h (.agg [.int .i64 m.grain,a,b]):=fun g=>⟨_,rfl,rp_causal.2 ⟨a,b,rfl,hR.tree (Nat.le_refl _),hN.tree (Nat.le_refl _)⟩⟩
 rw[call_twin_Check]
 refine iso_int eq_twin_Check (xs:=[.agg [.int .i64 m.grain,a,b]]) (by simp only[mapO,e]) (by simp[f_twin_Check]) hd ?_
 simp only[f_twin_Check,sx,sy,SO.run,↓reduceIte,Nat.reduceEqDiff,Nat.reduceAdd]
 have bad':¬(S.check m=true)→AV.int IntKind.i64 330=AV.int IntKind.i64 (if S.check m=true then 0 else 330):=fun h=>by rw[if_neg h]
 generalize hg0:(G.empty.new (AObj.cells 3 [[AV.int IntKind.i64 m.grain,a,b]] 0 false false))=g0
 have f0:g0.h.get 0=.cells 3 [[.int .i64 m.grain,a,b]] 0 false false:=by rw[←hg0];simp[sx]
 have f1:1≤g0.nx:=by rw[←hg0];simp[sx]
 clear hg0
 simp only[f_twin_Check_r,sx,sy,SO.run,↓reduceIte,Nat.reduceEqDiff,Nat.reduceAdd,Nat.reduceLeDiff,f0,within_lit (Nat.succ_pos d)]
 cases c1:(decide (1≤m.grain)&&decide (m.grain≤12)) with
 | false =>
  simp only[sx,sy,SO.run,↓reduceIte,Nat.reduceEqDiff,Bool.not_false]
  simp only[S.check,c1,Bool.false_and,Bool.false_eq_true,if_false]
 | true =>
  obtain ⟨g1,hg1⟩:∃g1,g1=g0.new (AObj.cells 1 [[AV.int IntKind.i64 m.grain]] 0 false false):=⟨_,rfl⟩
  have e0:g1.h.get 0=.cells 3 [[.int .i64 m.grain,a,b]] 0 false false:=by rw[hg1,G.new_h,get_put_ne _ _ _ (by omega),f0]
  have e1:1≤g1.nx:=by rw[hg1];simp
  rw[←hg1];clear hg1
  simp only[sx,sy,SO.run,↓reduceIte,Nat.reduceEqDiff,Nat.reduceAdd,Bool.not_true,e0,hR.len,within_lit (Nat.succ_pos d)]
  cases c2:(decide (0≤(m.roots.length:Int))&&decide ((m.roots.length:Int)≤8)) with
  | false =>
   simp only[sx,sy,SO.run,↓reduceIte,Nat.reduceEqDiff,Bool.not_false]
   have:decide (m.roots.length≤8)=false:=by simp at c2 ⊢;omega
   simp only[S.check,this,Bool.false_and,Bool.and_false,Bool.false_eq_true,if_false]
  | true =>
   obtain ⟨g2,hg2⟩:∃g2,g2=g1.new (AObj.cells 1 [[AV.int IntKind.i64 m.roots.length]] 0 false false):=⟨_,rfl⟩
   have d0:g2.h.get 0=.cells 3 [[.int .i64 m.grain,a,b]] 0 false false:=by rw[hg2,G.new_h,get_put_ne _ _ _ (by omega),e0]
   have d1:1≤g2.nx:=by rw[hg2];simp
   rw[←hg2];clear hg2
   simp only[sx,sy,SO.run,↓reduceIte,Nat.reduceEqDiff,Nat.reduceAdd,Bool.not_true,d0,hN.len,within_lit (Nat.succ_pos d)]
   cases c3:(decide (1≤(m.nodes.length:Int))&&decide ((m.nodes.length:Int)≤5)) with
   | false =>
    simp only[sx,sy,SO.run,↓reduceIte,Nat.reduceEqDiff,Bool.not_false]
    exact bad' (fun h=>by simp[S.check] at h;simp at c3;omega)
   | true =>
    obtain ⟨g3,hg3⟩:∃g3,g3=g2.new (AObj.cells 1 [[AV.int IntKind.i64 m.nodes.length]] 0 false false):=⟨_,rfl⟩
    have b0:g3.h.get 0=.cells 3 [[.int .i64 m.grain,a,b]] 0 false false:=by rw[hg3,G.new_h,get_put_ne _ _ _ (by omega),d0]
    have b1:1≤g3.nx:=by rw[hg3];simp
    rw[←hg3];clear hg3
    have q1:1≤m.grain∧m.grain≤12:=by simpa using c1
    have q2:m.roots.length≤8:=by simp at c2;omega
    have q3:1≤m.nodes.length∧m.nodes.length≤5:=by simp at c3;omega
    simp only[sx,sy,SO.run,↓reduceIte,Nat.reduceEqDiff,Nat.reduceAdd,Nat.reduceLeDiff,Bool.not_true,b0,rootsRight_ok (Nat.succ_pos d) (hms _) q1.1 q1.2 q2]
    cases c4:S.rootsOk m with
    | false =>
     simp only[sx,sy,SO.run,↓reduceIte,Nat.reduceEqDiff,Bool.not_false]
     exact bad' (fun h=>by simp[S.check,c4] at h)
    | true =>
     simp only[sx,sy,SO.run,↓reduceIte,Nat.reduceEqDiff,Nat.reduceAdd,Bool.not_true,b0,hN.len]
     refine wpL_range (m:=m.nodes.length) (by omega) (fun j t df g=>df=[]∧St t [(1,.hptr 0 0 0 0),(30,b)]∧g.h.get 0=.cells 3 [[.int .i64 m.grain,a,b]] 0 false false∧1≤g.nx∧(m.nodes.take j).all (fun x=>decide (1≤x.card)&&decide (x.card≤4))=true)
      ⟨rfl,by simp[St,sx],b0,b1,rfl⟩ (by simp[sx]) (by simp[sx]) (by decide) (by rintro j t df g v s (rfl | rfl | rfl)<;>simp[St,sx]) ?_ ?_
     ·rintro j t df g hj ⟨rfl,⟨h1,h30,-⟩,hg,hnx,hw⟩ h32 h31
      obtain ⟨x,hx,htk,hm⟩:=take_next hj
      obtain ⟨row,p1,p2⟩:=r3 j x hx
      obtain ⟨fa,fb,fc,rfl,hfa,hfb,hfc⟩:=rp_mech.1 p2
      have hlt:j<rows.length:=by omega
      have hry:=r4 (by omega)
      have hne:¬(0=g.nx):=by omega
      simp only[sx,sy,SO.run,↓reduceIte,Nat.reduceEqDiff,Nat.reduceAdd,Nat.reduceLeDiff,h1,h30,h31,h32,hg,r1,hlt,p1,hry,hne,Option.isSome_some,Option.getD_some]
      obtain ⟨g4,hg4⟩:∃g4,g4=(g.new (AObj.cells 4 [[AV.int IntKind.i64 0,AV.nils,AV.nils,AV.nils]] 0 false false)).put g.nx (AObj.cells 4 [[AV.int IntKind.i64 x.card,fa,fb,fc]] 0 false false):=⟨_,rfl⟩
      have a0:g4.h.get 0=.cells 3 [[.int .i64 m.grain,a,b]] 0 false false:=by rw[hg4];simp[H.get_put,hne,hg]
      have a2:g4.nx=g.nx+1:=by rw[hg4];simp
      rw[←hg4];clear hg4
      rw[show AV.hsl (g.nx+1) 0 0 1 none=AV.hsl g4.nx 0 0 1 none by rw[a2]]
      simp only[sx,sy,SO.run,↓reduceIte,Nat.reduceEqDiff,Nat.reduceAdd,within_lit (Nat.succ_pos d)]
      cases c5:(decide (1≤x.card)&&decide (x.card≤4)) with
      | false =>
       simp only[sx,sy,SO.run,↓reduceIte,Nat.reduceEqDiff,Bool.not_false]
       refine bad' (fun h=>?_)
       simp only[S.check,Bool.and_eq_true] at h
       have:=List.all_eq_true.1 h.1.1.2 x hm
       rw[c5] at this;cases this
      | true =>
       simp only[sx,sy,SO.run,↓reduceIte,Nat.reduceEqDiff,Bool.not_true,St,h1,h30,h31,h32,true_and,and_true]
       refine ⟨?_,by simp,?_⟩
       ·rw[if_neg (by omega),a0]
       ·rw[htk,List.all_append,hw]
        simp only[List.all_cons,List.all_nil,c5];rfl
     ·rintro t df g ⟨rfl,⟨h1,h30,-⟩,hg,hnx,hw⟩
      rw[List.take_length] at hw
      have hcard:∀x∈m.nodes,1≤x.card∧x.card≤4:=fun x hx=>by have:=List.all_eq_true.1 hw x hx;simpa using this
      have hs:=small_of q2 q3.2 c4 hcard
      simp only[f_twin_Check_k1,sx,sy,SO.run,↓reduceIte,Nat.reduceEqDiff,Nat.reduceAdd,Nat.reduceLeDiff,h1,hg,nodesRight_ok (Nat.succ_pos d) (hms _) hs]
      cases c6:S.nodesOk m with
      | false =>
       simp only[sx,sy,SO.run,↓reduceIte,Nat.reduceEqDiff,Bool.not_false]
       exact bad' (fun h=>by simp[S.check,c6] at h)
      | true =>
       simp only[sx,sy,SO.run,↓reduceIte,Nat.reduceEqDiff,Nat.reduceAdd,Nat.reduceLeDiff,Bool.not_true,h1,hg,acyclic_ok (Nat.succ_pos d) (hms _) q3.2 (fun x hx p hp=>(nodesOk_frm c6 x hx p hp).1)]
       cases c7:S.tacyc m with
       | false =>
        simp only[sx,sy,SO.run,↓reduceIte,Nat.reduceEqDiff,Bool.not_false]
        exact bad' (fun h=>by simp[S.check,c7] at h)
       | true =>
        simp only[sx,sy,SO.run,↓reduceIte,Nat.reduceEqDiff,Bool.not_true]
        rw[if_pos]
        simp[S.check,c4,c6,c7,q1,q2,q3]
        exact hcard
end
end Hx
end
section
namespace Hx
open Go
noncomputable section
theorem allPairsFrom_of {α:Type}{f:Nat→α→Nat→α→Bool}{i:Nat}{x:α}:∀{l:List α} {j:Nat},(∀b y,l[b]?=some y→f i x (j+b) y=true)→allPairsFrom f i x j l=true
 | [],_,_=>rfl
 | y::r,j,h=>by
  simp only[allPairsFrom,Bool.and_eq_true]
  refine ⟨by simpa using h 0 y rfl,allPairsFrom_of fun b z hb=>?_⟩
  have:=h (b+1) z (by simpa using hb)
  rwa [show j+(b+1)=j+1+b by omega] at this
theorem allPairs_of {α:Type}{f:Nat→α→Nat→α→Bool}:∀{l:List α} {i:Nat},(∀a b x y,a<b→l[a]?=some x→l[b]?=some y→f (i+a) x (i+b) y=true)→allPairs f i l=true
 | [],_,_=>rfl
 | x::r,i,h=>by
  simp only[allPairs,Bool.and_eq_true]
  refine ⟨allPairsFrom_of fun b y hb=>?_,allPairs_of fun a b x' y hab ha hb=>?_⟩
  ·have:=h 0 (b+1) x y (by omega) rfl (by simpa using hb)
   rwa [Nat.add_zero,show i+(b+1)=i+1+b by omega] at this
  ·have:=h (a+1) (b+1) x' y (by omega) (by simpa using ha) (by simpa using hb)
   rwa [show i+(a+1)=i+1+a by omega,show i+(b+1)=i+1+b by omega] at this
theorem softOnce_of {pm:List Nat}:∀{l:List Foot} {i:Nat},(∀f∈l,f.lk.sr=[])→softOnce pm i l=true
 | [],_,_=>rfl
 | x::r,i,h=>by
  simp only[softOnce,h x (by simp),bif'_eq,if_true]
  exact softOnce_of fun f hf=>h f (by simp[hf])
def pairOk (pm:List Nat)(ws:List Bool)(L:List (Nat×Nat))(i j:Nat):Bool:=(pm.getD j 0).testBit i || (!(ws.getD i false)&&!(ws.getD j false)) || L.contains (i,j)
def pairsOk (pm:List Nat)(ws:List Bool)(L:List (Nat×Nat)):Bool:=(List.range ws.length).all fun j=>(List.range j).all fun i=>pairOk pm ws L i j
theorem footsOk_mk {pm:List Nat}{fs:List Foot}(ws:List Bool)(L:List (Nat×Nat))(hw:All2 (fun (f:Foot) (w:Bool)=>f.lk.sr=[]∧(w=false→f.wr=[])) fs ws)(hd:pairsOk pm ws L=true)
  (hL:∀p∈L,∀x y,fs[p.1]?=some x→fs[p.2]?=some y→footsApart x y=true):footsOk pm fs=true:=by
 unfold footsOk
 rw[bif'_eq,if_pos]
 ·exact softOnce_of fun f hf=>by
   obtain ⟨i,hi,rfl⟩:=List.mem_iff_getElem.1 hf
   obtain ⟨w,-,h⟩:=hw.get (List.getElem?_eq_getElem hi)
   exact h.1
 ·refine allPairs_of fun a b x y hab ha hb=>?_
  simp only[Nat.zero_add]
  obtain ⟨wa,hwa,ka⟩:=hw.get ha
  obtain ⟨wb,hwb,kb⟩:=hw.get hb
  have hbl:=(List.getElem?_eq_some_iff.1 hwb).1
  have:=List.all_eq_true.1 (List.all_eq_true.1 hd b (List.mem_range.2 hbl)) a (List.mem_range.2 hab)
  simp only[pairOk,Bool.or_eq_true] at this
  rcases this with (h | h) | h
  ·rw[h,Bool.true_or]
  ·simp only[List.getD_eq_getElem?_getD,hwa,hwb,Option.getD_some,Bool.and_eq_true,Bool.not_eq_true'] at h
   have ex:=ka.2 h.1
   have ey:=kb.2 h.2
   simp only[footsApart,footFree,footFreeS,ex,ey,Bool.and_self,Bool.or_true]
  ·rw[hL (a,b) (List.contains_iff_mem.1 h) x y ha hb,Bool.or_true]
theorem apart_fresh {x y:Foot}{b:Nat}(hx:∀i∈x.wr,b≤i)(hy:y.wr=[])(hb:y.lk.big=false)(hr:∀i∈y.lk.rd,i<b)(hs:y.lk.sr=[]):footsApart x y=true:=by
 have m1:meets x.wr []=false:=by simp[meets]
 have m2:meets x.wr y.lk.rd=false:=by
  simp only[meets,List.any_eq_false]
  intro i hi h
  have h1:=hx i hi
  have h2:=hr i (List.contains_iff_mem.1 h)
  omega
 simp only[footsApart,footFree,footFreeS,hy,hb,hs,m1,m2,fst1,List.map_nil,Bool.not_false,Bool.and_self,Bool.and_true]
 split<;>rfl
end
end Hx
end
section
namespace Hx
open Go
noncomputable section
def S.sizes (m:Causal)(x:Mech):List Int:=x.frm.map (S.cardAt m)++x.noise.map (S.lenAt m)
theorem rsizes_ok {d k:Nat}{g:G}{P:Nat→Prop}{v:AV}{m:Causal}{i:Nat}{x:Mech}(hd:0<d)(hm:Agg m P k g.h v)(hx:m.nodes[i]?=some x)(hn5:m.nodes.length≤5)(hn8:m.roots.length≤8)
  (hf:S.places x.frm m.nodes.length=true) (hn:S.places x.noise m.roots.length=true) :
  ∃r,callV C0 d N.ref33_sizes [v,.int .i64 (i:Int)] g=.val r∧IT 0 (S.sizes m x) r:=by
 obtain ⟨v',e,cs,rfl,hc⟩:=arg_of (snb_agg m) (by decide) d hm
 obtain ⟨a,b,rfl,hR,hN⟩:=rp_causal.1 hc
 obtain ⟨rows,r1,r2,r3,r4⟩:=hN.all
 have r1:∀h',rowsOf h' 4 b=some rows:=r1
 obtain ⟨row,q1,q2⟩:=r3 i x hx
 obtain ⟨fa,fb,fc,rfl,hfa,hfb,hfc⟩:=rp_mech.1 q2
 have hi:=(List.getElem?_eq_some_iff.1 hx).1
 have hlt:i<rows.length:=by omega
 have hry:=r4 (by omega)
 have hms:∀g:G,Agg m NoP (max k d) g.h (.agg [.int .i64 m.grain,a,b]):=fun g=>⟨_,rfl,rp_causal.2 ⟨a,b,rfl,hR.tree (Nat.le_refl _),hN.tree (Nat.le_refl _)⟩⟩
 rw[call_ref33_sizes]
 refine iso_run eq_ref33_sizes (xs:=[.agg [.int .i64 m.grain,a,b],.int .i64 i]) (by simp only[mapO,e,arg_int 0]) (by simp[f_ref33_sizes]) (snb_one _) (by decide) hd ?_
 simp only[f_ref33_sizes,sx,sy,SO.run,↓reduceIte,Nat.reduceEqDiff,Nat.reduceAdd]
 generalize hg0:(G.empty.new (AObj.cells 3 [[AV.int IntKind.i64 m.grain,a,b]] 0 false false))=g0
 have f0:g0.h.get 0=.cells 3 [[.int .i64 m.grain,a,b]] 0 false false:=by rw[←hg0];simp[sx]
 have f1:1≤g0.nx:=by rw[←hg0];simp[sx]
 clear hg0
 have ids0:∀g:G,snapIds g.h depthA (.agg [.int .i64 m.grain,a,b])=[]:=fun g=>agg_ids (h:=g.h) (rp_causal.2 ⟨a,b,rfl,hR.tree (Nat.le_refl _),hN.tree (Nat.le_refl _)⟩)
 simp only[f_ref33_sizes_r,sx,sy,sf,SO.run,foot_ref33_Cards,ids0,↓reduceIte,Nat.reduceEqDiff,Nat.reduceAdd,Nat.reduceLeDiff,f0]
 refine sat_ex (cards_ok (Nat.succ_pos d) (hms _) (by omega)) fun r hr=>?_
 simp only[sx,sy,sf,SO.run,foot_ref02_At,↓reduceIte,Nat.reduceEqDiff,Nat.reduceAdd,Nat.reduceLeDiff,f0,r1,hlt,q1,hry,Option.isSome_some,Option.getD_some,refIds_rptr hry,refIds_hptr,hN.refs]
 have hcl:(m.nodes.map (·.card)).length=m.nodes.length:=by simp
 refine at_ok (l:=m.nodes.map (·.card)) (p:=x.frm) (fun g' _=>hr.rows _) (fun g' _=>(hfa.tree (Nat.le_refl _)).ints) (by have:=places_len hf;omega) (fun z hz=>by rw[hcl];exact places_mem hf z hz) fun u g1 hu fr1 lg1=>?_
 simp only[sx,sy] at fr1 lg1
 have e0:g1.h.get 0=.cells 3 [[.int .i64 m.grain,a,b]] 0 false false:=by rw[fr1.2 0 (by simp)];simpa using f0
 simp only[sx,sy,sf,SO.run,foot_ref33_Lengths,ids0,↓reduceIte,Nat.reduceEqDiff,Nat.reduceAdd,Nat.reduceLeDiff,e0]
 refine sat_ex (lengths_ok (Nat.succ_pos d) (hms _) (by omega)) fun r' hr'=>?_
 simp only[sx,sy,sf,SO.run,foot_ref02_At,↓reduceIte,Nat.reduceEqDiff,Nat.reduceAdd,Nat.reduceLeDiff,e0,r1,hlt,q1,hry,Option.isSome_some,Option.getD_some,refIds_rptr hry,refIds_hptr,hN.refs]
 have hrl:(m.roots.map fun r=>(r.length:Int)).length=m.roots.length:=by simp
 refine at_ok (l:=m.roots.map fun r=>(r.length:Int)) (p:=x.noise) (fun g' _=>hr'.rows _) (fun g' _=>(hfb.tree (Nat.le_refl _)).ints) (by have:=places_len hn;omega) (fun z hz=>by rw[hrl];exact places_mem hn z hz) fun w g2 hw fr2 lg2=>?_
 simp only[sx,sy] at fr2 lg2
 simp only[sx,sy,sf,SO.run,↓reduceIte,Nat.reduceEqDiff,Nat.reduceAdd,Nat.reduceLeDiff]
 have m1:∀i∈g1.lg,0<i:=fun i hi=>by rcases lg1 i hi with h | h;simp at h;omega
 have hu2:Own (setLog (bumpG g2 (g2.lg++(g1.lg++g0.lg))) []) 1 u 1 ((x.frm.map fun z=>(m.nodes.map (·.card))[z.toNat]?.getD 0).map ci):=by
  rcases hu with h | ⟨id,ep,lo,p1,p2,rfl,p3⟩
  ·exact .inl h
  ·refine .inr ⟨id,ep,lo,?_,?_,rfl,?_⟩
   ·simp at p1;omega
   ·have:=fr2.1;simp at this ⊢;omega
   ·have:=fr2.2 id (by simp;omega);simp only[bumpG_h,setLog_h] at this ⊢;rw[this,p3]
 refine append_own (new:=(x.noise.map fun z=>(m.roots.map fun r=>(r.length:Int))[z.toNat]?.getD 0).map ci) hu2 (by have:=hw.rows;simpa using this) (by simp) (by simp[room];have:=places_len hf;have:=places_len hn;omega) fun z g3 hz n3 f3 _ l3=>?_
 simp only[sx,sy,sf,SO.run,↓reduceIte,Nat.reduceEqDiff,Nat.reduceAdd,Nat.reduceLeDiff]
 refine ⟨?_,?_⟩
 ·simp only[List.reverse_cons,List.reverse_nil,List.nil_append,List.cons_append]
  refine footsOk_mk [false,false,false,false,false,false,false,false,true,false,false,false,false,false,false,false,false,true,true,false] [(8,9),(8,11),(8,12),(8,13),(8,14),(8,15),(8,16)] (by simp[All2,rdLook,noLook,bigLook]) (by decide) ?_
  rintro p hp x y hx hy
  simp only[List.mem_cons,List.not_mem_nil,or_false] at hp
  rcases hp with rfl | rfl | rfl | rfl | rfl | rfl | rfl<;>(simp at hx hy;subst hx;subst hy;exact apart_fresh (b:=1) (fun i hi=>m1 i hi) rfl rfl (by simp[rdLook,noLook]) rfl)
 ·refine ⟨fun _=>True,?_⟩
  have e:(x.frm.map fun z=>(m.nodes.map (·.card))[z.toNat]?.getD 0).map ci++(x.noise.map fun z=>(m.roots.map fun r=>(r.length:Int))[z.toNat]?.getD 0).map ci=(S.sizes m x).map ci:=by
   simp only[List.getElem?_map];rw[S.sizes,List.map_append];rfl
  rw[e] at hz
  have:=hz.ints (k:=0) (by simp[S.sizes];have:=places_len hf;have:=places_len hn;omega)
  simpa using this
end
end Hx
end
section
namespace Hx
open Go
noncomputable section
def S.nodeR (m:Causal)(x:Mech):Bool:=decide (1≤x.card)&&decide (x.card≤4)&&S.places x.frm m.nodes.length&&S.places x.noise m.roots.length
def S.outR (m:Causal)(x:Mech):Bool:=decide ((x.out.length:Int)=S.prod (S.sizes m x))&&S.within 0 (x.card - 1) x.out
def S.right (m:Causal):Bool :=
 decide (1≤m.grain)&&decide (m.grain≤12)&&decide (m.roots.length≤8)&&decide (1≤m.nodes.length)&&decide (m.nodes.length≤5)&&m.roots.all (S.rootOk m.grain)&&m.nodes.all (S.nodeR m) &&
  decide (S.prod (m.roots.map fun r=>(r.length:Int))≤1024)&&decide (S.prod (m.nodes.map (·.card))≤1024)&&S.acyc (S.pars m)&&m.nodes.all (S.outR m)
theorem prod_append (l p:List Int):S.prod (l++p)=S.prod l*S.prod p:=by
 induction l with
 | nil=>simp[S.prod]
 | cons a l ih=>rw[List.cons_append,prod_cons,prod_cons,ih,Int.mul_assoc]
theorem prod_sizes (m:Causal)(x:Mech):S.prod (S.sizes m x)=S.above m x*S.beside m x:=by rw[S.sizes,prod_append];rfl
section
variable {d k:Nat}{m:Causal}{a b:AV}
end
end
end Hx
end
section
namespace Hx
open Go
noncomputable section
def Els (g:G)(b:Nat)(v:AV):Nat→Prop:=fun i=>b≤i∧i<g.nx∧vid v≠some i
def OwnT {α:Type} [Rp α](g:G)(b:Nat)(k:Nat)(v:AV)(l:List α):Prop:=∃rows,Own g b v (Rp.sz α) rows∧All2 (Rp.rp (Els g b v) k g.h) l rows
variable {α:Type} [Rp α]{g g':G}{b k:Nat}{v:AV}{l:List α}
theorem OwnT.nils:OwnT g b k .nils ([]:List α):=⟨[],.inl ⟨rfl,rfl⟩,trivial⟩
theorem OwnT.sl (h:OwnT g b k v l)(hl:l.length<9223372036854775808):SlR (fun i=>b≤i∧i<g.nx) k g.h l v:=by
 obtain ⟨rows,h1,h2⟩:=h
 exact Own.sl h1 hl (h2.mono fun x cs r=>Rp.mono r (fun i hi=>⟨⟨hi.1,hi.2.1⟩,rfl⟩) (Nat.le_refl _)) fun i hi=>h1.lt hi
theorem OwnT.fr (h:OwnT g b k v l)(hn:g.nx≤g'.nx)(hf:∀i,b≤i→i<g.nx→g'.h.get i=g.h.get i):OwnT g' b k v l:=by
 obtain ⟨rows,h1,h2⟩:=h
 exact ⟨rows,h1.fr hn fun i hi=>hf i (h1.lt hi).1 (h1.lt hi).2,h2.mono fun x cs r=>Rp.mono r (fun i hi=>⟨⟨hi.1,Nat.lt_of_lt_of_le hi.2.1 hn,hi.2.2⟩,hf i hi.1 hi.2.1⟩) (Nat.le_refl _)⟩
theorem OwnT.step (h:OwnT g b k v l)(f:Fr g g'):OwnT g' b k v l:=h.fr f.1 fun i _ hi=>f.2 i hi
theorem OwnT.lt (h:OwnT g b k v l){i:Nat}(hi:vid v=some i):b≤i∧i<g.nx:=by obtain ⟨rows,h1,-⟩:=h;exact h1.lt hi
theorem OwnT.cell (h:OwnT g b k v l):v.cells=[v]∧v.isTup=false:=by obtain ⟨rows,h1,-⟩:=h;exact h1.cell
theorem OwnT.len (h:OwnT g b k v l)(g0:G):lenF .slice v g0=.val (.int .i64 (l.length:Int)):=by
 obtain ⟨rows,h1,h2⟩:=h
 rw[len_rows' h1.rows,h2.len]
theorem append_ownT {x:AV}{y:α}{cs:List AV}{bytes:Nat}{K:AV→G→Prop}{D:ADf→Prop}(hv:OwnT g b k v l)(hx:rowsOf g.h (Rp.sz α) x=some [cs])(hy:Rp.rp (Els g b v) k g.h y cs)(hb:b≤g.nx)
  (hr:(l.length+1)*bytes≤room)
  (kk:∀v' g',OwnT g' b k v' (l++[y])→g.nx≤g'.nx→(∀i,i<g.nx→vid v≠some i→g'.h.get i=g.h.get i)→(vid v'=vid v∨∃i,vid v'=some i∧g.nx≤i)→(∀i∈g'.lg,i∈g.lg∨b≤i)→K v' g') :
  (appendA (Rp.sz α) bytes v x g).sat K g D:=by
 obtain ⟨rows,h1,h2⟩:=hv
 refine append_own (new:=[cs]) h1 hx hb (by rw[←h2.len];exact hr) fun v' g' hv' hn hf hvid hlg=>kk v' g' ⟨rows++[cs],hv',?_⟩ hn hf hvid hlg
 have up:∀(z:α) (c:List AV),Rp.rp (Els g b v) k g.h z c→Rp.rp (Els g' b v') k g'.h z c:=fun z c r=>Rp.mono r (fun i hi=>⟨⟨hi.1,Nat.lt_of_lt_of_le hi.2.1 hn,fun e=>by
  rcases hvid with e2 | ⟨j,e2,hj⟩
  ·rw[e2] at e;exact hi.2.2 e
  ·rw[e2] at e;injection e with e;subst e;have:=hi.2.1;omega⟩,hf i hi.2.1 hi.2.2⟩) (Nat.le_refl _)
 exact (h2.mono up).append ⟨up y cs hy,trivial⟩
theorem OwnT.base {b':Nat}(h:OwnT g b k v l)(hb:b'≤b):OwnT g b' k v l:=by
 obtain ⟨rows,h1,h2⟩:=h
 refine ⟨rows,?_,h2.mono fun x cs r=>Rp.mono r (fun i hi=>⟨⟨by have:=hi.1;omega,hi.2⟩,rfl⟩) (Nat.le_refl _)⟩
 rcases h1 with h | ⟨id,ep,lo,p1,p2,p3,p4⟩
 ·exact .inl h
 ·exact .inr ⟨id,ep,lo,by omega,p2,p3,p4⟩
def FrW (b:Nat)(g g':G):Prop:=g.nx≤g'.nx∧(∀i,i<b→g'.h.get i=g.h.get i)∧∀i∈g'.lg,i∈g.lg∨b≤i
theorem FrW.refl (b:Nat)(g:G):FrW b g g:=⟨Nat.le_refl _,fun _ _=>rfl,fun _ h=>.inl h⟩
theorem FrW.trans {g1 g2 g3:G}(h:FrW b g1 g2)(h':FrW b g2 g3):FrW b g1 g3 :=
 ⟨Nat.le_trans h.1 h'.1,fun i hi=>by rw[h'.2.1 i hi,h.2.1 i hi],fun i hi=>by
  rcases h'.2.2 i hi with h1 | h1
  ·exact h.2.2 i h1
  ·exact .inr h1⟩
theorem FrW.new {g1:G}(o:AObj)(hb:b≤g1.nx):FrW b g1 (g1.new o) :=
 ⟨by simp,fun i hi=>by rw[G.new_h,get_put_ne _ _ _ (by omega)],fun i hi=>by
  simp at hi
  rcases hi with rfl | hi
  ·exact .inr hb
  ·exact .inl hi⟩
theorem FrW.put {g1:G}(id:Nat)(o:AObj)(hb:b≤id):FrW b g1 (g1.put id o) :=
 ⟨by simp,fun i hi=>by rw[G.put_h,get_put_ne _ _ _ (by omega)],fun i hi=>by
  simp at hi
  rcases hi with rfl | hi
  ·exact .inr hb
  ·exact .inl hi⟩
theorem FrW.fr {g1 g2:G}(h:FrW g1.nx g1 g2):Fr g1 g2:=⟨h.1,h.2.1⟩
end
end Hx
end
