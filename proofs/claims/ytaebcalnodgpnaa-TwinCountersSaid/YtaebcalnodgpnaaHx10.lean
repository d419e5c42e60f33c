/- A part of the proof: an interpreter over abstract values, shown right against the model, and what the functions of the chapter compute on it. -/
import Derived.KernelRfl
import Derived.Test.YtaebcalnodgpnaaHx9
set_option linter.unusedVariables false
set_option linter.unusedSimpArgs false
set_option linter.unnecessarySimpa false
section
namespace Hx
open Go
set_option maxRecDepth 100000
noncomputable section
def i_:SC:=.seq (.ops [o 4 (.mkf N.aX [] [.t 2,.t 3]),oz (.raw (.defer ⟨.value (.tmp 4),#[],#[]⟩))]) (.seq (.ops [o 5 (.mv (.t 0)),o 6 (.dyn (.t 5) []),oz (.store 2 (.t 2) (.t 6)),oz (.store 1 (.t 3) (.k (.int .i64 0)))]) (.ret))
def f9:SF:=⟨7,[.cell true 2 2,.cell false 1 3],.seq (.ops [o 2 (.alloc [.int .i64 0,.int .i64 0]),o 3 (.alloc [.int .i64 0])]) i_⟩
def eK:SF:=⟨6,[],.seq (.ops [o 3 (.raw (.call ⟨.builtin .recover,#[],#[]⟩)),o 4 (.eq true (.iface true) (.t 3) (.k (.nili)))]) (.cond (.t 4) (.seq (.ops [o 2 (.alloc [.int .i64 0,.int .i64 0])]) (.ops [o 5 (.load true 2 (.t 2)),oz (.store 2 (.t 0) (.t 5)),oz (.store 1 (.t 1) (.k (.int .i64 6)))])) (.skip))⟩
def qq:SC:=.seq (.seq (.ops [o 27 (.mv (.t 0))]) (.cond (.t 27) (.seq (.ops [o 28 (.ixa 2 1 (.t 4) (.k (.int .i64 1))),o 29 (.load false 1 (.t 28)),o 30 (.conv .i64 (.t 29)),o 31 (.un .neg (.t 30)),o 32 (.ixa 2 1 (.t 5) (.k (.int .i64 1))),o 33 (.load false 1 (.t 32)),o 34 (.conv .i64 (.t 33)),o 35 (.build [.int .i64 0,.int .i64 0] [(0,1),(1,1)] [.t 31,.t 34]),oz (.store 2 (.t 6) (.t 35))]) (.ret)) (.skip))) (.seq (.ops [o 36 (.ixa 2 1 (.t 4) (.k (.int .i64 1))),o 37 (.load false 1 (.t 36)),o 38 (.conv .i64 (.t 37)),o 39 (.ixa 2 1 (.t 5) (.k (.int .i64 1))),o 40 (.load false 1 (.t 39)),o 41 (.conv .i64 (.t 40)),o 42 (.build [.int .i64 0,.int .i64 0] [(0,1),(1,1)] [.t 38,.t 41]),oz (.store 2 (.t 6) (.t 42))]) (.ret))
def rL:SC:=.seq (.seq (.ops [o 7 (.ixa 2 1 (.t 4) (.k (.int .i64 0))),o 8 (.load false 1 (.t 7)),o 9 (.bin .neq (.t 8) (.k (.int .u64 0))),o 10 (.mv (.t 9)),og 11 10 false (.ixa 2 1 (.t 4) (.k (.int .i64 1))),og 12 10 false (.load false 1 (.t 11)),og 13 10 false (.bin .gtr (.t 12) (.k (.int .u64 4611686018427387903))),o 14 (.pick (.t 10) (.k (.bool true)) (.t 13)),o 15 (.mv (.t 14)),og 16 15 false (.ixa 2 1 (.t 5) (.k (.int .i64 0))),og 17 15 false (.load false 1 (.t 16)),og 18 15 false (.bin .neq (.t 17) (.k (.int .u64 0))),o 19 (.pick (.t 15) (.k (.bool true)) (.t 18)),o 20 (.mv (.t 19)),og 21 20 false (.ixa 2 1 (.t 5) (.k (.int .i64 1))),og 22 20 false (.load false 1 (.t 21)),og 23 20 false (.bin .gtr (.t 22) (.k (.int .u64 4611686018427387903))),o 24 (.pick (.t 20) (.k (.bool true)) (.t 23))]) (.cond (.t 24) (.ops [o 25 (.build [] [] []),o 26 (.raw (.makeInterface 183 (.tmp 25))),oz (.raw (.panic (.tmp 26)))]) (.skip))) qq
def qS:SF:=⟨43,[.cell true 2 6],.seq (.ops [o 4 (.box (.t 1)),o 5 (.box (.t 2)),o 6 (.alloc [.int .i64 0,.int .i64 0])]) rL⟩
theorem qN:nFn C0 N.aW=some f9:=by kernel_rfl
theorem o7 (d:Nat)(xs:List AV)(g:G):ak C0 d N.aW xs g=am (I C0) d g N.aW xs:=by kernel_rfl
theorem oq:nFn C0 N.aX=some eK:=by kernel_rfl
theorem AN:nFn C0 N.aD=some qS:=by kernel_rfl
theorem yl (t:T)(g:G)(xs:List Od):SO.foot C0 t g (.call N.aD xs)=au ((fS t xs).flatMap (aL g.h aK)):=by kernel_rfl
theorem yA (d:Nat)(xs:List AV)(g:G):ak C0 d N.aD xs g=am (I C0) d g N.aD xs:=by kernel_rfl
end
end Hx
end
section
namespace Hx
open Go
noncomputable section
def kR (J:PT)(b:Nat)(Q:QT):QT:=fun e t df g=>match e with
 | .norm=>J t df g
 | .exit x=>if x=b then J t df g else Q (.exit x) t df g
 | .ret=>Q .ret t df g
theorem vy (J:PT)(b:Nat)(Q:QT)(t:T)(df:List ADf)(g:G):kR J b Q .norm t df g=J t df g:=rfl
theorem kV (J:PT)(b x:Nat)(Q:QT)(t:T)(df:List ADf)(g:G):kR J b Q (.exit x) t df g=if x=b then J t df g else Q (.exit x) t df g:=rfl
theorem Hy (J:PT)(b:Nat)(Q:QT)(t:T)(df:List ADf)(g:G):kR J b Q .ret t df g=Q .ret t df g:=rfl
variable {C:Cfg}{d:Nat}{rd:Option Nat}
theorem cM:∀(s:SC) {Q Q':QT} {t:T} {df:List ADf} {g:G},wp C d rd s Q t df g->(∀e t df g,Q e t df g->Q' e t df g)->wp C d rd s Q' t df g:=by
 have hO:∀(l:List SI) {Q Q':PT} {t:T} {df:List ADf} {g:G},wpO C d rd l Q t df g->(∀t df g,Q t df g->Q' t df g)->wpO C d rd l Q' t df g:=by
  intro l
  induction l with
  | nil=>intro Q Q' t df g h hq;exact hq _ _ _ h
  | cons i r ih =>
   intro Q Q' t df g h hq
   have run:∀t df g,B7 C d rd i (wpO C d rd r Q) t df g->B7 C d rd i (wpO C d rd r Q') t df g:=fun t df g h =>
    OR.sat_mono h (fun v g' h=>ih h hq) (fun a h=>ih h hq)
   have skp:∀t df g,wR i (wpO C d rd r Q) t df g->wR i (wpO C d rd r Q') t df g:=fun t df g h=>ih h hq
   unfold wpO at h ⊢
   split at h
   ·exact run _ _ _ h
   ·rename_i s w hg
    unfold gdP at h ⊢
    split at h
    ·rw[aa] at h ⊢
     split at h
     ·rename_i hw;rw[if_pos hw];exact ⟨fun q=>run _ _ _ (h.1 q),fun q=>skp _ _ _ (h.2 q)⟩
     ·rename_i hw;rw[if_neg hw];exact ⟨fun q=>skp _ _ _ (h.1 q),fun q=>run _ _ _ (h.2 q)⟩
    ·exact skp _ _ _ h
    ·exact h
 have hF:∀(pm:List Nat) (l:List SI) {Q Q':PT} {t:T} {df:List ADf} {g:G} {fs:List Foot},wpF C d rd pm l Q t df g fs->(∀t df g,Q t df g->Q' t df g)->wpF C d rd pm l Q' t df g fs:=by
  intro pm l
  induction l with
  | nil=>intro Q Q' t df g fs h hq;exact ⟨h.1,hq _ _ _ h.2⟩
  | cons i r ih =>
   intro Q Q' t df g fs h hq
   have run:∀t df g,FD C d rd i (wpF C d rd pm r Q) fs t df g->FD C d rd i (wpF C d rd pm r Q') fs t df g:=fun t df g h =>
    OR.sat_mono h (fun v g' h=>ih h hq) (fun a h=>h)
   have skp:∀t df g,B5 i (wpF C d rd pm r Q) fs t df g->B5 i (wpF C d rd pm r Q') fs t df g:=fun t df g h=>ih h hq
   unfold wpF at h ⊢
   split at h
   ·exact run _ _ _ h
   ·rename_i s w hg
    unfold gdP at h ⊢
    split at h
    ·rw[aa] at h ⊢
     split at h
     ·rename_i hw;rw[if_pos hw];exact ⟨fun q=>run _ _ _ (h.1 q),fun q=>skp _ _ _ (h.2 q)⟩
     ·rename_i hw;rw[if_neg hw];exact ⟨fun q=>skp _ _ _ (h.1 q),fun q=>run _ _ _ (h.2 q)⟩
    ·exact skp _ _ _ h
    ·exact h
 intro s
 induction s with
 | skip=>intro Q Q' t df g h hq;exact hq _ _ _ _ h
 | ops l=>intro Q Q' t df g h hq;exact hO l h (hq _)
 | quiet l=>intro Q Q' t df g h hq;exact hO l h (fun t df g' h=>⟨h.1,h.2.1,hq _ _ _ _ h.2.2⟩)
 | feet pm l=>intro Q Q' t df g h hq;exact hF pm l h (hq _)
 | seq a b iha ihb =>
  intro Q Q' t df g h hq
  refine iha h fun e t df g h=>?_
  cases e with
  | norm=>exact ihb h hq
  | exit x=>exact hq _ _ _ _ h
  | ret=>exact hq _ _ _ _ h
 | cond c a b iha ihb =>
  intro Q Q' t df g h hq
  have h:wpC (c.get t) (wp C d rd a Q) (wp C d rd b Q) t df g:=h
  show wpC (c.get t) (wp C d rd a Q') (wp C d rd b Q') t df g
  unfold wpC at h ⊢
  split at h
  ·exact ⟨fun q=>iha (h.1 q) hq,fun q=>ihb (h.2 q) hq⟩
  ·exact h
 | blk id b ih =>
  intro Q Q' t df g h hq
  refine ih h fun e t df g h=>?_
  cases e with
  | norm=>exact hq _ _ _ _ h
  | exit x =>
   rw[jn] at h ⊢
   split at h
   ·rename_i e;rw[if_pos e];exact hq _ _ _ _ h
   ·rename_i e;rw[if_neg e];exact hq _ _ _ _ h
  | ret=>exact hq _ _ _ _ h
 | loop b ih =>
  intro Q Q' t df g h hq
  obtain ⟨Inv,hk,hs⟩:=h
  refine ⟨Inv,hk,fun k t df g hi=>ih (hs k t df g hi) fun e t df g h=>?_⟩
  cases e with
  | norm=>exact h
  | exit x=>exact hq _ _ _ _ h
  | ret=>exact hq _ _ _ _ h
 | exit id=>intro Q Q' t df g h hq;exact hq _ _ _ _ h
 | ret=>intro Q Q' t df g h hq;exact hq _ _ _ _ h
 | rng nt f ps a b _ _=>intro Q Q' t df g h hq assign body ha hb;exact CR.sat_mono (h assign body ha hb) hq
 | raw nt c=>intro Q Q' t df g h hq;exact CR.sat_mono h hq
theorem bc {body:SC}{c ti tn k B b:Nat}{Q:QT}{m:Nat}(hm:m<9223372036854775808)(J:Nat->PT){t:T}{df:List ADf}{g:G}
  (h0:J 0 t df g) (hi:tat t ti=.int .i64 0) (hn:tat t tn=.int .i64 (m:Int)) (hc:c≠ti/\c≠tn/\k≠tn/\ti≠tn/\b≠B)
  (hJ:∀j t df g v s,s=c\/s=ti\/s=k->J j t df g->J j (fT t s v) df g)
  (step:∀j t df g,j<m->J j t df g->tat t ti=.int .i64 (j:Int)->tat t tn=.int .i64 (m:Int) ->
   wp C d rd body (kR (fun t df g=>J (j+1) t df g/\tat t ti=.int .i64 (j:Int)/\tat t tn=.int .i64 (m:Int)) b Q) t df g)
  (fin:∀t df g,J m t df g->Q (.exit B) t df g) :
  wpL (wp C d rd (.seq (.ops [o c (.bin .lss (.t ti) (.t tn))]) (.seq (.cond (.t c) .skip (.exit B)) (.seq (.blk b body) (.ops [o k (.bin .add (.t ti) (.k (.int .i64 1))),o ti (.mv (.t k))]))))) Q t df g:=by
 obtain ⟨c1,c2,c3,c4,c5⟩:=hc
 refine gt (fun n t df g=>∃j:Nat,n=m - j/\j<=m/\J j t df g/\tat t ti=.int .i64 (j:Int)/\tat t tn=.int .i64 (m:Int)) m ⟨0,by omega,by omega,h0,hi,hn⟩ ?_
 rintro n t df g ⟨j,rfl,hj,hjj,h1,h2⟩
 simp only[sx,SO.run,↓reduceIte,h1,h2]
 refine ⟨fun hq=>?_,fun hq=>?_⟩
 ·have hlt:j<m:=by simpa using hq
  simp only[sx]
  refine cM _ (step j _ df g hlt (hJ _ _ _ _ _ _ (.inl rfl) hjj) (by simp only[mG];rw[if_neg (Ne.symm c1),h1]) (by simp only[mG];rw[if_neg (Ne.symm c2),h2])) fun e t df g h=>?_
  have key:J (j+1) t df g/\tat t ti=.int .i64 (j:Int)/\tat t tn=.int .i64 (m:Int)->wp C d rd (.ops [o k (.bin .add (.t ti) (.k (.int .i64 1))),o ti (.mv (.t k))])
    (kL (fun n t df g=>∃j:Nat,n=m - j/\j<=m/\J j t df g/\tat t ti=.int .i64 (j:Int)/\tat t tn=.int .i64 (m:Int)) (m - j) Q) t df g:=by
   rintro ⟨a1,a2,a3⟩
   simp only[sx,SO.run,a2,↓reduceIte]
   refine ⟨_,?_,j+1,rfl,by omega,hJ _ _ _ _ _ _ (.inr (.inl rfl)) (hJ _ _ _ _ _ _ (.inr (.inr rfl)) a1),?_,?_⟩
   ·omega
   ·rw[an (by omega) (by omega)];rfl
   ·rw[if_neg (Ne.symm c4),if_neg (Ne.symm c3),a3]
  cases e with
  | norm=>exact key h
  | ret=>exact h
  | exit x =>
   rw[kV] at h
   rw[jn]
   split at h
   ·rename_i e;rw[if_pos e];exact key h
   ·rename_i e;rw[if_neg e];exact h
 ·have:j=m:=by simp at hq;omega
  subst this
  simp only[sx]
  exact fin _ _ _ (hJ _ _ _ _ _ _ (.inl rfl) hjj)
theorem EC {Hd body inc:SC}{c B b:Nat}{Q:QT}{m:Nat}(J:Nat->PT){t:T}{df:List ADf}{g:G}(h0:J 0 t df g)
  (hd:∀j t df g,j<=m->J j t df g->wp C d rd Hd (fun e t df g=>e=.norm/\tat t c=.bool (decide (j<m))/\J j t df g) t df g)
  (step:∀j t df g,j<m->J j t df g->wp C d rd body (kR (fun t df g=>wp C d rd inc (fun e t df g=>e=.norm/\J (j+1) t df g) t df g) b Q) t df g)
  (fin:∀t df g,J m t df g->Q (.exit B) t df g) :
  wpL (wp C d rd (.seq (.seq Hd (.cond (.t c) .skip (.exit B))) (.seq (.blk b body) inc))) Q t df g:=by
 refine gt (fun n t df g=>∃j:Nat,n=m - j/\j<=m/\J j t df g) m ⟨0,by omega,by omega,h0⟩ ?_
 rintro n t df g ⟨j,rfl,hj,hjj⟩
 simp only[oO]
 refine cM _ (hd j t df g hj hjj) ?_
 rintro e t df g ⟨rfl,hq,hjj⟩
 simp only[sx,hq]
 refine ⟨fun hq=>?_,fun hq=>?_⟩
 ·have hlt:j<m:=by simpa using hq
  simp only[sx]
  refine cM _ (step j t df g hlt hjj) fun e t df g h=>?_
  have key:wp C d rd inc (fun e t df g=>e=.norm/\J (j+1) t df g) t df g->wp C d rd inc (kL (fun n t df g=>∃j:Nat,n=m - j/\j<=m/\J j t df g) (m - j) Q) t df g:=by
   intro h
   refine cM _ h ?_
   rintro e t df g ⟨rfl,h⟩
   exact ⟨_,by omega,j+1,rfl,by omega,h⟩
  cases e with
  | norm=>exact key h
  | ret=>exact h
  | exit x =>
   rw[kV] at h
   rw[jn]
   split at h
   ·rename_i e;rw[if_pos e];exact key h
   ·rename_i e;rw[if_neg e];exact h
 ·have:j=m:=by simp at hq;omega
  subst this
  simp only[sx]
  exact fin _ _ _ hjj
theorem eA {body:SC}{a b' e c ti sl x y B b:Nat}{Q:QT}{v:AV}{m:Nat}(hm:m<9223372036854775808)(hlen:∀g,eD .slice v g=.val (.int .i64 (m:Int)))(J:Nat->PT){t:T}{df:List ADf}{g:G}
  (h0:J 0 t df g) (hi:tat t ti=.int .i64 0) (hs:tat t sl=v)
  (hc:(a≠ti/\b'≠ti/\e≠ti/\c≠ti)/\(a≠sl/\b'≠sl/\e≠sl/\c≠sl/\x≠sl/\y≠sl/\ti≠sl)/\a≠b'/\a≠e/\x≠y)
  (hJ:∀j t df g v s,s=a\/s=b'\/s=e\/s=c\/s=ti\/s=x\/s=y->J j t df g->J j (fT t s v) df g)
  (step:∀j t df g,j<m->J j t df g->tat t ti=.int .i64 (j:Int)->tat t sl=v ->
   wp C d rd body (kR (fun t df g=>J (j+1) t df g/\tat t ti=.int .i64 (j:Int)/\tat t sl=v) b Q) t df g)
  (fin:∀t df g,J m t df g->tat t sl=v->Q (.exit B) t df g) :
  wpL (wp C d rd (.seq (.seq (.ops [o a (.mv (.t ti)),o b' (.mv (.t sl)),o e (.len .slice (.t b')),o c (.bin .lss (.t a) (.t e))]) (.cond (.t c) .skip (.exit B))) (.seq (.blk b body)
   (.ops [o x (.mv (.t ti)),o y (.bin .add (.t x) (.k (.int .i64 1))),o ti (.mv (.t y))])))) Q t df g:=by
 obtain ⟨⟨q1,q2,q3,q4⟩,⟨r1,r2,r3,r4,r5,r6,r7⟩,p1,p2,p3⟩:=hc
 refine EC (m:=m) (fun j t df g=>J j t df g/\tat t ti=.int .i64 (j:Int)/\tat t sl=v) ⟨h0,hi,hs⟩ ?_ ?_ (fun t df g h=>fin t df g h.1 h.2.2)
 ·rintro j t df g hj ⟨h1,h2,h3⟩
  simp only[sx,SO.run,h2,h3,hlen,p1,p2,Ne.symm r1,↓reduceIte,Ne.symm q1,Ne.symm q2,Ne.symm q3,Ne.symm q4,Ne.symm r2,Ne.symm r3,Ne.symm r4,true_and,and_true]
  refine ⟨by congr 1;simp,hJ _ _ _ _ _ _ (.inr (.inr (.inr (.inl rfl)))) (hJ _ _ _ _ _ _ (.inr (.inr (.inl rfl))) (hJ _ _ _ _ _ _ (.inr (.inl rfl)) (hJ _ _ _ _ _ _ (.inl rfl) h1)))⟩
 ·rintro j t df g hj ⟨h1,h2,h3⟩
  refine cM _ (step j t df g hj h1 h2 h3) fun e t df g h=>?_
  have key:J (j+1) t df g/\tat t ti=.int .i64 (j:Int)/\tat t sl=v->wp C d rd (.ops [o x (.mv (.t ti)),o y (.bin .add (.t x) (.k (.int .i64 1))),o ti (.mv (.t y))])
    (fun e t df g=>e=.norm/\J (j+1) t df g/\tat t ti=.int .i64 ((j+1:Nat):Int)/\tat t sl=v) t df g:=by
   rintro ⟨h1,h2,h3⟩
   simp only[sx,SO.run,h2,↓reduceIte,Ne.symm r5,Ne.symm r6,Ne.symm r7,h3,true_and,and_true]
   refine ⟨hJ _ _ _ _ _ _ (.inr (.inr (.inr (.inr (.inl rfl))))) (hJ _ _ _ _ _ _ (.inr (.inr (.inr (.inr (.inr (.inr rfl)))))) (hJ _ _ _ _ _ _ (.inr (.inr (.inr (.inr (.inr (.inl rfl)))))) h1)),?_⟩
   rw[an (by omega) (by omega)];rfl
  cases e with
  | norm=>exact key h
  | ret=>exact h
  | exit x =>
   rw[kV] at h ⊢
   split at h
   ·rename_i e;rw[if_pos e];exact key h
   ·rename_i e;rw[if_neg e];exact h
theorem j4 {body:SC}{a c ti x y B b:Nat}{Q:QT}{m:Nat}(hm:m<9223372036854775808)(J:Nat->PT){t:T}{df:List ADf}{g:G}
  (h0:J m t df g) (hi:tat t ti=.int .i64 ((m:Int) - 1)) (hc:a≠ti/\c≠ti/\x≠ti)
  (hJ:∀j t df g v s,s=a\/s=c\/s=ti\/s=x\/s=y->J j t df g->J j (fT t s v) df g)
  (step:∀j t df g,j<m->J (j+1) t df g->tat t ti=.int .i64 (j:Int)->wp C d rd body (kR (fun t df g=>J j t df g/\tat t ti=.int .i64 (j:Int)) b Q) t df g)
  (fin:∀t df g,J 0 t df g->Q (.exit B) t df g) :
  wpL (wp C d rd (.seq (.seq (.ops [o a (.mv (.t ti)),o c (.bin .geq (.t a) (.k (.int .i64 0)))]) (.cond (.t c) .skip (.exit B))) (.seq (.blk b body)
   (.ops [o x (.mv (.t ti)),o y (.bin .sub (.t x) (.k (.int .i64 1))),o ti (.mv (.t y))])))) Q t df g:=by
 obtain ⟨c1,c2,c3⟩:=hc
 refine gt (fun n t df g=>n<=m/\J n t df g/\tat t ti=.int .i64 ((n:Int) - 1)) m ⟨Nat.le_refl _,h0,hi⟩ ?_
 rintro n t df g ⟨hn,hj,h1⟩
 simp only[sx,SO.run,↓reduceIte,h1]
 refine ⟨fun hq=>?_,fun hq=>?_⟩
 ·obtain ⟨j,rfl⟩:∃j,n=j+1:=⟨n - 1,by simp at hq;omega⟩
  simp only[sx]
  refine cM _ (step j _ df g (by omega) (hJ _ _ _ _ _ _ (.inr (.inl rfl)) (hJ _ _ _ _ _ _ (.inl rfl) hj)) (by simp only[mG];rw[if_neg (Ne.symm c2),if_neg (Ne.symm c1),h1];congr 1;omega)) fun e t df g h=>?_
  have key:J j t df g/\tat t ti=.int .i64 (j:Int)->wp C d rd (.ops [o x (.mv (.t ti)),o y (.bin .sub (.t x) (.k (.int .i64 1))),o ti (.mv (.t y))])
    (kL (fun n t df g=>n<=m/\J n t df g/\tat t ti=.int .i64 ((n:Int) - 1)) (j+1) Q) t df g:=by
   rintro ⟨a1,a2⟩
   simp only[sx,SO.run,a2,↓reduceIte]
   refine ⟨j,by omega,by omega,hJ _ _ _ _ _ _ (.inr (.inr (.inl rfl))) (hJ _ _ _ _ _ _ (.inr (.inr (.inr (.inr rfl)))) (hJ _ _ _ _ _ _ (.inr (.inr (.inr (.inl rfl)))) a1)),?_⟩
   rw[an (by omega) (by omega)]
  cases e with
  | norm=>exact key h
  | ret=>exact h
  | exit x =>
   rw[kV] at h
   rw[jn]
   split at h
   ·rename_i e;rw[if_pos e];exact key h
   ·rename_i e;rw[if_neg e];exact h
 ·have:n=0:=by simp at hq;omega
  subst this
  simp only[sx]
  exact fin _ _ _ (hJ _ _ _ _ _ _ (.inr (.inl rfl)) (hJ _ _ _ _ _ _ (.inl rfl) hj))
theorem bB {Hd:List SI}{body:SC}{c ti x y B b:Nat}{Q:QT}(m:Nat)(hm:m<9223372036854775808)(J:Nat->PT){t:T}{df:List ADf}{g:G}
  (h0:J 0 t df g) (hi:tat t ti=.int .i64 0) (hx:x≠ti)
  (hJ:∀j t df g v s,s=ti\/s=x\/s=y->J j t df g->J j (fT t s v) df g)
  (hd:∀j t df g,j<=m->J j t df g->tat t ti=.int .i64 (j:Int)->wpO C d rd Hd (fun t df g=>tat t c=.bool (decide ((j:Int)<(m:Int)))/\J j t df g/\tat t ti=.int .i64 (j:Int)) t df g)
  (step:∀j t df g,j<m->J j t df g->tat t ti=.int .i64 (j:Int)->wp C d rd body (kR (fun t df g=>J (j+1) t df g/\tat t ti=.int .i64 (j:Int)) b Q) t df g)
  (fin:∀t df g,J m t df g->Q (.exit B) t df g) :
  wpL (wp C d rd (.seq (.seq (.ops Hd) (.cond (.t c) .skip (.exit B))) (.seq (.blk b body)
   (.ops [o x (.mv (.t ti)),o y (.bin .add (.t x) (.k (.int .i64 1))),o ti (.mv (.t y))])))) Q t df g:=by
 refine EC (m:=m) (fun j t df g=>J j t df g/\tat t ti=.int .i64 (j:Int)) ⟨h0,hi⟩ ?_ ?_ (fun t df g h=>fin t df g h.1)
 ·rintro j t df g hj ⟨h1,h2⟩
  have:=hd j t df g hj h1 h2
  refine cM (.ops Hd) (Q:=fun e t df g=>e=.norm/\tat t c=.bool (decide ((j:Int)<(m:Int)))/\J j t df g/\tat t ti=.int .i64 (j:Int)) (by rw[Ah];simpa using this) ?_
  rintro e t df g ⟨rfl,a1,a2,a3⟩
  refine ⟨rfl,?_,a2,a3⟩
  rw[a1];congr 1;simp
 ·rintro j t df g hj ⟨h1,h2⟩
  refine cM _ (step j t df g hj h1 h2) fun e t df g h=>?_
  have key:J (j+1) t df g/\tat t ti=.int .i64 (j:Int)->wp C d rd (.ops [o x (.mv (.t ti)),o y (.bin .add (.t x) (.k (.int .i64 1))),o ti (.mv (.t y))])
    (fun e t df g=>e=.norm/\J (j+1) t df g/\tat t ti=.int .i64 ((j+1:Nat):Int)) t df g:=by
   rintro ⟨h1,h2⟩
   simp only[sx,SO.run,h2,↓reduceIte,true_and]
   refine ⟨hJ _ _ _ _ _ _ (.inl rfl) (hJ _ _ _ _ _ _ (.inr (.inr rfl)) (hJ _ _ _ _ _ _ (.inr (.inl rfl)) h1)),?_⟩
   rw[an (by omega) (by omega)];rfl
  cases e with
  | norm=>exact key h
  | ret=>exact h
  | exit x =>
   rw[kV] at h ⊢
   split at h
   ·rename_i e;rw[if_pos e];exact key h
   ·rename_i e;rw[if_neg e];exact h
end
end Hx
end
section
namespace Hx
open Go
noncomputable section
def vid:AV->Option Nat
 | .hsl id _ _ _ _=>some id
 | _=>none
def Own (g:G)(b:Nat)(v:AV)(sz:Nat)(rows:List (List AV)):Prop :=
 (v=.nils/\rows=[])\/∃id ep lo,b<=id/\id<g.nx/\v=.hsl id ep 0 rows.length none/\g.h.get id=.cells sz rows ep lo false
theorem Own.rows {g:G}{b:Nat}{v:AV}{sz:Nat}{rows:List (List AV)}(h:Own g b v sz rows):ah g.h sz v=some rows:=by
 rcases h with ⟨rfl,rfl⟩ | ⟨id,ep,lo,h1,h2,rfl,h3⟩
 ·rfl
 ·rw[d5,h3,ut]
theorem Own.fr {g g':G}{b:Nat}{v:AV}{sz:Nat}{rows:List (List AV)}(h:Own g b v sz rows)(hn:g.nx<=g'.nx)(hf:∀i,vid v=some i->g'.h.get i=g.h.get i):Own g' b v sz rows:=by
 rcases h with h | ⟨id,ep,lo,h1,h2,rfl,h3⟩
 ·exact .inl h
 ·exact .inr ⟨id,ep,lo,h1,by omega,rfl,by rw[hf id rfl,h3]⟩
theorem Own.lt {g:G}{b:Nat}{v:AV}{sz:Nat}{rows:List (List AV)}(h:Own g b v sz rows){i:Nat}(hi:vid v=some i):b<=i/\i<g.nx:=by
 rcases h with ⟨rfl,-⟩ | ⟨id,ep,lo,h1,h2,rfl,h3⟩
 ·cases hi
 ·injection hi with hi;subst hi;exact ⟨h1,h2⟩
theorem Own.cell {g:G}{b:Nat}{v:AV}{sz:Nat}{rows:List (List AV)}(h:Own g b v sz rows):v.cells=[v]/\v.isTup=false:=by
 rcases h with ⟨rfl,-⟩ | ⟨id,ep,lo,h1,h2,rfl,h3⟩<;>exact ⟨rfl,rfl⟩
theorem aJ {g:G}{b:Nat}{v x:AV}{sz bytes:Nat}{rows new:List (List AV)}{K:AV->G->Prop}{D:ADf->Prop}(hv:Own g b v sz rows)(hx:ah g.h sz x=some new)(hb:b<=g.nx)
  (hr:(rows.length+new.length)*bytes<=aZ)
  (k:∀v' g',Own g' b v' sz (rows++new)->g.nx<=g'.nx->(∀i,i<g.nx->vid v≠some i->g'.h.get i=g.h.get i)->(vid v'=vid v\/∃i,vid v'=some i/\g.nx<=i)->(∀i∈g'.lg,i∈g.lg\/b<=i)->K v' g') :
  (ic sz bytes v x g).sat K g D:=by
 unfold ic
 rw[hx]
 dsimp only
 rcases hv with ⟨rfl,rfl⟩ | ⟨id,ep,lo,h1,h2,rfl,h3⟩
 ·cases new with
  | nil=>exact k _ _ (.inl ⟨rfl,rfl⟩) (Nat.le_refl _) (fun _ _ _=>rfl) (.inl rfl) (fun i hi=>.inl hi)
  | cons r new =>
   simp only[bN,aD,aa,Nat.ble_eq]
   rw[if_pos (by simpa using hr)]
   refine k _ _ (.inr ⟨g.nx,0,true,hb,by simp,rfl,by simp[bi]⟩) (by simp) (fun i hi _=>?_) (.inr ⟨g.nx,rfl,Nat.le_refl _⟩) (fun i hi=>by simp at hi;rcases hi with rfl | hi;exact .inr hb;exact .inl hi)
   rw[G.new_h,aq _ _ _ (by omega)]
 ·simp only[bN,G.get_eq,h3,aD,aa,show Nat.beq ep ep=true from Nat.beq_refl ep,show Nat.beq sz sz=true from Nat.beq_refl sz,Bool.true_and,Nat.ble_eq,Bool.and_eq_true,Nat.zero_add,Option.getD_none,Nat.sub_zero]
  rw[if_pos ⟨Nat.le_refl _,hr⟩]
  cases new with
  | nil =>
   rw[if_pos (by simp)]
   refine k _ _ (.inr ⟨id,ep,lo,h1,h2,by simp,by simpa using h3⟩) (Nat.le_refl _) (fun _ _ _=>rfl) (.inl rfl) (fun i hi=>.inl hi)
  | cons r new =>
   rw[if_neg (by simp)]
   have ht:fK rows.length (eP 0 rows)=rows:=by rw[bg,bk];simp
   cases lo with
   | false =>
    rw[if_pos (by simp)]
    refine k _ _ (.inr ⟨g.nx,0,true,by omega,by simp,by simp,by simp[bi,ht]⟩) (by simp) (fun i hi _=>?_) (.inr ⟨g.nx,rfl,Nat.le_refl _⟩) (fun i hi=>by simp at hi;rcases hi with rfl | hi;exact .inr hb;exact .inl hi)
    rw[G.new_h,aq _ _ _ (by omega)]
   | true =>
    rw[if_neg (by simp)]
    refine k _ _ (.inr ⟨id,ep+1,true,h1,by simpa using h2,by simp,by simp[bi,ht]⟩) (by simp) (fun i hi hne=>?_) (.inl rfl) (fun i hi=>by simp at hi;rcases hi with rfl | hi;exact .inr h1;exact .inl hi)
    rw[G.put_h,aq _ _ _ (fun e=>hne (by rw[e];rfl))]
def Fr (g g':G):Prop:=g.nx<=g'.nx/\∀i,i<g.nx->g'.h.get i=g.h.get i
theorem Fr.refl (g:G):Fr g g:=⟨Nat.le_refl _,fun _ _=>rfl⟩
theorem Fr.trans {g g' g'':G}(h:Fr g g')(h':Fr g' g''):Fr g g'':=⟨Nat.le_trans h.1 h'.1,fun i hi=>by rw[h'.2 i (Nat.lt_of_lt_of_le hi h.1),h.2 i hi]⟩
theorem Fr.new (g:G)(o:AObj):Fr g (g.new o):=⟨by simp,fun i hi=>by rw[G.new_h,aq _ _ _ (by omega)]⟩
theorem Own.step {g g':G}{b:Nat}{v:AV}{sz:Nat}{rows:List (List AV)}(h:Own g b v sz rows)(f:Fr g g'):Own g' b v sz rows :=
 h.fr f.1 fun i hi=>f.2 i (h.lt hi).2
theorem bp {g:G}{b:Nat}{v:AV}{sz n i off:Nat}{rows:List (List AV)}{row row':List AV}{x:AV}{K:AV->G->Prop}{D:ADf->Prop}(hv:Own g b v sz rows)(hr:rows[i]?=some row)
  (hl:x.cells.length=n) (ht:x.isTup=false) (hp:b7 row off x.cells=some row')
  (k:∀g',Own g' b v sz (rows.set i row')->g'.nx=g.nx->(∀i,vid v≠some i->g'.h.get i=g.h.get i)->K .undef g'):(nA n (ec sz v i off) x g).sat K g D:=by
 rcases hv with ⟨rfl,rfl⟩ | ⟨id,ep,lo,h1,h2,rfl,h3⟩
 ·simp at hr
 ·simp only[ec,Nat.zero_add]
  rw[xz h3 hr rfl ht hl hp]
  refine k _ (.inr ⟨id,ep,lo,h1,by simpa using h2,by simp,by simp[bi]⟩) (by simp) (fun i hne=>?_)
  rw[G.put_h,aq _ _ _ (fun e=>hne (by rw[e];rfl))]
theorem ji {g:G}{b sz bytes:Nat}{zero:List AV}{k1 k2:IntKind}{n:Nat}{K:AV->G->Prop}{D:ADf->Prop}(hn:n<=aZ)(hb:n*bytes<=aZ)(hg:b<=g.nx)
  (k:∀v' g',Own g' b v' sz (List.replicate n zero)->g'.nx=g.nx+1->(∀i,i<g.nx->g'.h.get i=g.h.get i)->vid v'=some g.nx->K v' g') :
  (Jz sz bytes zero (.int k1 (n:Int)) (.int k2 (n:Int)) g).sat K g D:=by
 show (match dV aZ (.int k2 (.ofNat n)) with
  | some cn=>match dV cn (.int k1 (.ofNat n)) with
   | some ln=>az (Nat.ble (cn*bytes) aZ) (OR.upd (.hsl g.nx 0 0 ln none) (g.new (.cells sz (gO cn zero) 0 false false))) .fail
   | none=>.fail
  | none=>.fail).sat K g D
 simp only[dV,aa,Nat.ble_eq,if_pos hn,Nat.le_refl,if_pos hb,if_true]
 refine k _ _ (.inr ⟨g.nx,0,false,hg,by simp,by simp,by simp[bi,gO]⟩) (by simp) (fun i hi=>?_) rfl
 rw[G.new_h,aq _ _ _ (by omega)]
theorem Own.sl {α:Type} [Rp α]{g:G}{b:Nat}{v:AV}{rows:List (List AV)}{l:List α}{P:Nat->Prop}{k:Nat}(h:Own g b v (Rp.sz α) rows)(hl:l.length<9223372036854775808)(hr:All2 (Rp.rp P k g.h) l rows)
  (hp:∀i,vid v=some i->P i):SlR P k g.h l v:=by
 refine ⟨hl,?_⟩
 have hrow:=h.rows
 rcases h with ⟨rfl,rfl⟩ | ⟨id,ep,lo,h1,h2,rfl,h3⟩
 ·exact List.eq_nil_of_length_eq_zero hr.len
 ·exact ⟨hp id rfl,rows,hrow,hr⟩
theorem Own.ints {g:G}{b:Nat}{v:AV}{l:List Int}{k:Nat}(h:Own g b v 1 (l.map ci))(hl:l.length<9223372036854775808):One l (fun _=>True) k g.h v :=
 ⟨v,rfl,Own.sl (α:=Int) h hl (All2.of_map (fun a=>aS.2 rfl) l) fun _ _=>trivial⟩
theorem a_ {x:OR}{Q:AV->Prop}{K:AV->G->Prop}{g:G}{D:ADf->Prop}(h:∃r,x=.val r/\Q r)(k:∀r,Q r->K r g):x.sat K g D:=by
 obtain ⟨r,rfl,hr⟩:=h
 exact k r hr
section feet
variable {C:Cfg}{d:Nat}{rd:Option Nat}{pm:List Nat}
theorem Ez (Q:PT)(t:T)(df:List ADf)(g:G)(fs:List Foot):wpF C d rd pm [] Q t df g fs=(nd pm fs.reverse=true/\Q t df g):=rfl
theorem Kg (n:Nat)(op:SO)(r:List SI)(Q:PT)(t:T)(df:List ADf)(g:G)(fs:List Foot):wpF C d rd pm (o n op::r) Q t df g fs =
  (op.run C d rd t (aI g [])).sat (kF (wpF C d rd pm r Q) (some n) t df g.lg fs (op.foot C t g)) (aI g []) (fun _=>False):=rfl
theorem G7 (op:SO)(r:List SI)(Q:PT)(t:T)(df:List ADf)(g:G)(fs:List Foot):wpF C d rd pm (oz op::r) Q t df g fs =
  (op.run C d rd t (aI g [])).sat (kF (wpF C d rd pm r Q) none t df g.lg fs (op.foot C t g)) (aI g []) (fun _=>False):=rfl
theorem GT (n s:Nat)(w:Bool)(op:SO)(r:List SI)(Q:PT)(t:T)(df:List ADf)(g:G)(fs:List Foot) :
  wpF C d rd pm (og n s w op::r) Q t df g fs=gdP (tat t s) w (FD C d rd (o n op) (wpF C d rd pm r Q) fs) (B5 (o n op) (wpF C d rd pm r Q) fs) t df g:=rfl
theorem GF (n:Nat)(op:SO)(W:FT)(fs:List Foot)(t:T)(df:List ADf)(g:G):FD C d rd (o n op) W fs t df g =
  (op.run C d rd t (aI g [])).sat (kF W (some n) t df g.lg fs (op.foot C t g)) (aI g []) (fun _=>False):=rfl
theorem D4 (n:Nat)(op:SO)(W:FT)(fs:List Foot)(t:T)(df:List ADf)(g:G):B5 (o n op) W fs t df g=W (fT t n .undef) df g (⟨aF,[]⟩::fs):=rfl
theorem DB (W:FT)(n:Nat)(t:T)(df:List ADf)(lg:List Nat)(fs:List Foot)(lk:Looks)(v:AV)(g:G):kF W (some n) t df lg fs lk v g=W (fT t n v) df (dj g (g.lg++lg)) (⟨lk,g.lg⟩::fs):=rfl
theorem ES (W:FT)(t:T)(df:List ADf)(lg:List Nat)(fs:List Foot)(lk:Looks)(v:AV)(g:G):kF W none t df lg fs lk v g=W t df (dj g (g.lg++lg)) (⟨lk,g.lg⟩::fs):=rfl
theorem bM {sz:Nat}{v:AV}{i off:Nat}(h:kG v=true):ap (ec sz v i off)=ap v:=by cases v<;>first | rfl | cases h
theorem bQ (id ep i off:Nat):ap (.hptr id ep i off)=[id]:=rfl
theorem SlR.refs {α:Type} [Rp α]{k:Nat}{h:H}{l:List α}{v:AV}(r:SlR NoP k h l v):ap v=[]:=by
 have r:=r.2
 unfold SlV at r
 split at r<;>first | rfl | exact r.1.elim | exact r.elim
theorem KJ {α:Type} [Rp α]{k:Nat}{h:H}{x:α}{cs:List AV}(r:Rp.rp NoP k h x cs)(n:Nat):cs.flatMap (aL h n)=[]:=by
 rw[List.eq_nil_iff_forall_not_mem]
 exact fun i hi=>Rp.ids r i hi
theorem Jd {α:Type} [Rp α]{k:Nat}{h:H}{x:α}{cs:List AV}(r:Rp.rp NoP k h x cs):aL h aK (.agg cs)=[]:=KJ r 23
end feet
section looks
variable {C:Cfg}{t:T}{g:G}
theorem JQ (x:Od):SO.foot C t g (.mv x)=aF:=rfl
theorem Er (c a b:Od):SO.foot C t g (.pick c a b)=aF:=rfl
theorem B4 (cs:List AV):SO.foot C t g (.alloc cs)=aF:=rfl
theorem HR (x:Od):SO.foot C t g (.box x)=aF:=rfl
theorem Bd (z:List AV)(pl:List (Nat×Nat))(vs:List Od):SO.foot C t g (.build z pl vs)=aF:=rfl
theorem G5 (sz len:Nat)(z:List AV)(is:List Nat)(vs:List Od):SO.foot C t g (.bsl sz len z is vs)=aF:=rfl
theorem Eo (ag:Bool)(n:Nat)(a:Od):SO.foot C t g (.load ag n a)=au (ap (a.get t)):=rfl
theorem B2 (n:Nat)(a x:Od):SO.foot C t g (.store n a x)=au (ap (a.get t)):=rfl
theorem ET (x:Od):SO.foot C t g (.nilc x)=aF:=rfl
theorem Hw (op:BinOp)(x y:Od):SO.foot C t g (.bin op x y)=aF:=rfl
theorem J3 (ng:Bool)(ek:EqKind)(x y:Od):SO.foot C t g (.eq ng ek x y)=aF:=rfl
theorem GB (x:Od):SO.foot C t g (.not x)=aF:=rfl
theorem Ec (k:IntKind)(x:Od):SO.foot C t g (.conv k x)=aF:=rfl
theorem H3 (f:Nat)(a c:List Od):SO.foot C t g (.mkf f a c)=aF:=rfl
theorem Il (sz bt:Nat)(z:List AV)(l c:Od):SO.foot C t g (.mks sz bt z l c)=aF:=rfl
theorem Iq (sz:Nat)(x:Od)(lo hi:List Od):SO.foot C t g (.slc sz x lo hi)=au (ap (x.get t)):=rfl
theorem HX (fo:Nat)(x:Od):SO.foot C t g (.fad fo x)=aF:=rfl
theorem H5 (ag:Bool)(n fo:Nat)(x:Od):SO.foot C t g (.fld ag n fo x)=aF:=rfl
theorem Gl (sz:Nat)(x i:Od):SO.foot C t g (.ixs sz x i)=au (ap (x.get t)):=rfl
theorem HN (n sz:Nat)(x i:Od):SO.foot C t g (.ixa n sz x i)=aF:=rfl
theorem JL (ag:Bool)(n sz:Nat)(x i:Od):SO.foot C t g (.ix ag n sz x i)=aF:=rfl
theorem GY (x:Od)(i:Nat):SO.foot C t g (.ext x i)=aF:=rfl
theorem HJ (x:Od):SO.foot C t g (.len .slice x)=aF:=rfl
theorem GU (sz bt:Nat)(x y:Od):SO.foot C t g (.app sz bt x y)=au (ap (x.get t)++ap (y.get t)):=rfl
theorem Ie (sz:Nat)(x y:Od):SO.foot C t g (.cpy sz x y)=au (ap (x.get t)++ap (y.get t)):=rfl
theorem J4 (x y:Od):SO.foot C t g (.mx x y)=au (ap (x.get t)++ap (y.get t)):=rfl
theorem J6 (x y:Od):SO.foot C t g (.mn x y)=au (ap (x.get t)++ap (y.get t)):=rfl
end looks
theorem sf:type_of% (And.intro @JQ <| And.intro @Er <| And.intro @B4 <| And.intro @HR <| And.intro @Bd <| And.intro @G5 <| And.intro @Eo <| And.intro @B2 <| And.intro @ET <| And.intro @Hw <| And.intro @J3 <| And.intro @GB <| And.intro @Ec <| And.intro @H3 <| And.intro @Il <| And.intro @Iq <| And.intro @HX <| And.intro @H5 <| And.intro @Gl <| And.intro @HN <| And.intro @JL <| And.intro @GY <| And.intro @HJ <| And.intro @GU <| And.intro @Ie <| And.intro @J4 <| @J6) :=
 And.intro @JQ <| And.intro @Er <| And.intro @B4 <| And.intro @HR <| And.intro @Bd <| And.intro @G5 <| And.intro @Eo <| And.intro @B2 <| And.intro @ET <| And.intro @Hw <| And.intro @J3 <| And.intro @GB <| And.intro @Ec <| And.intro @H3 <| And.intro @Il <| And.intro @Iq <| And.intro @HX <| And.intro @H5 <| And.intro @Gl <| And.intro @HN <| And.intro @JL <| And.intro @GY <| And.intro @HJ <| And.intro @GU <| And.intro @Ie <| And.intro @J4 <| @J6
theorem za (k:IntKind)(x:Int):(AV.int k x).cells=[.int k x]:=rfl
theorem wL (x:Bool):(AV.bool x).cells=[.bool x]:=rfl
theorem yY (cs:List AV):(AV.agg cs).cells=cs:=rfl
theorem wk:AV.nils.cells=[.nils]:=rfl
theorem y_ (k:IntKind)(x:Int):(AV.int k x).isTup=false:=rfl
theorem xE (x:Bool):(AV.bool x).isTup=false:=rfl
theorem yL (cs:List AV):(AV.agg cs).isTup=false:=rfl
theorem wQ:AV.nils.isTup=false:=rfl
theorem zq (id ep off len:Nat)(lim:Option Nat):(AV.hsl id ep off len lim).cells=[.hsl id ep off len lim]:=rfl
theorem zt (id ep off len:Nat)(lim:Option Nat):(AV.hsl id ep off len lim).isTup=false:=rfl
theorem zB (t s:Nat)(rows:List (List AV)):(AV.tsl t s rows).cells=[.tsl t s rows]:=rfl
theorem zn (t s:Nat)(rows:List (List AV)):(AV.tsl t s rows).isTup=false:=rfl
theorem GJ (x:AV)(g:G)(h:x.isTup=false):IR x g=.upd (.hptr g.nx 0 0 0) (g.new (.cells x.cells.length [x.cells] 0 false false)):=by
 simp only[IR,h,aD]
theorem DV (sz:Nat)(zero:List AV)(g:G):BR sz 0 zero [] [] g=.upd (.hsl g.nx 0 0 0 none) (g.new (.cells sz [] 0 false false)):=rfl
theorem sF (sz:Nat)(zero:List AV)(v:AV)(g:G)(hl:v.cells.length=sz)(ht:v.isTup=false) :
  BR sz 1 zero [0] [v] g=.upd (.hsl g.nx 0 0 1 none) (g.new (.cells sz [v.cells] 0 false false)):=by
 subst hl
 have:Nat.beq (bj v.cells) v.cells.length=true:=by rw[aD];exact Nat.beq_refl _
 have h2:b6 v.cells.length [zero] [(0,v)]=some [v.cells]:=by
  simp only[b6,ht,aa,aD,gk,notb_eq]
  rw[show Nat.beq v.cells.length v.cells.length=true from Nat.beq_refl _];rfl
 show (match b6 v.cells.length [zero] [(0,v)] with | some rows=>OR.upd (.hsl g.nx 0 0 1 none) (g.new (.cells v.cells.length rows 0 false false)) | none=>.fail)=_
 rw[h2]
theorem d7 (row:List AV)(off:Nat)(cs:List AV):b7 row off cs=if off+cs.length<=row.length then some (row.take off++(cs++row.drop (off+cs.length))) else none:=by
 simp only[b7,aD,aa,Nat.ble_eq,gk,bg,bk]
 split
 ·rename_i h
  split
  ·rename_i c
   simp only[List.length_singleton] at h
   rw[List.set_eq_take_append_cons_drop,if_pos (by omega)];rfl
  ·rfl
 ·rfl
theorem Kc (a:AV)(l:List AV):HA (.tup (a::l)) 0=.val a:=rfl
theorem JN (a b:AV)(l:List AV):HA (.tup (a::b::l)) 1=.val b:=rfl
theorem Kf (a b c:AV)(l:List AV):HA (.tup (a::b::c::l)) 2=.val c:=rfl
theorem Hu (ag:Bool)(n fo:Nat)(cs:List AV):Kl ag n fo (.agg cs)=orV (bI ag n cs fo):=rfl
theorem ze {n:Nat}{row:List AV}{off:Nat}:bI true (n+1) row off=if off+(n+1)<=row.length then some (.agg ((row.drop off).take (n+1))) else none:=by
 split
 ·rename_i h;exact A8 h
 ·rename_i h
  simp only[bI,bg,bk,aD,List.length_take,List.length_drop,aa]
  rw[if_neg]
  intro e
  have:=Nat.eq_of_beq_eq_true e
  omega
theorem AP (zero:List AV)(pl:List (Nat×Nat))(vs:List AV):qH zero pl vs=match l_ zero (pl.zip vs) with | some cs=>.val (.agg cs) | none=>.fail:=rfl
theorem zf (cs:List AV):l_ cs []=some cs:=rfl
theorem wE (cs:List AV)(off size:Nat)(v:AV)(rest:List ((Nat×Nat)×AV))(hl:v.cells.length=size)(ht:v.isTup=false) :
  l_ cs (((off,size),v)::rest)=match b7 cs off v.cells with | some cs=>l_ cs rest | none=>none:=by
 subst hl
 have:Nat.beq (bj v.cells) v.cells.length=true:=by rw[aD];exact Nat.beq_refl _
 simp only[l_,this,ht,notb_eq,Bool.not_false,Bool.and_self]
 rfl
theorem Iy (ag:Bool)(n a:Nat)(r:List SR)(t:T)(g:G)(K:List AV->Prop):t5 (.cell ag n a::r) t g K=match kI ag n (tat t a) g with | .val v=>t5 r t g fun vs=>K (v::vs) | _=>False:=rfl
theorem sU (a b:AV)(l:List AV):fX (a::b::l)=.tup (a::b::l):=rfl
theorem sy:type_of% (And.intro @AP <| And.intro @zf <| And.intro @wE <| And.intro @Iy <| And.intro @List.zip_cons_cons.{0,0} <| And.intro @List.zip_nil_left.{0,0} <| And.intro @Ez <| And.intro @Kg <| And.intro @G7 <| And.intro @GT <| And.intro @GF <| And.intro @D4 <| And.intro @DB <| And.intro @ES <| And.intro @bumpG_h <| And.intro @bumpG_nx <| And.intro @bumpG_lg <| And.intro @true_and <| And.intro @and_true <| And.intro @vy <| And.intro @kV <| And.intro @Hy <| And.intro @setLog_h <| And.intro @setLog_nx <| And.intro @setLog_lg <| And.intro @GI <| And.intro @za <| And.intro @wL <| And.intro @yY <| And.intro @wk <| And.intro @y_ <| And.intro @xE <| And.intro @yL <| And.intro @wQ <|
 And.intro @zq <| And.intro @zt <| And.intro @zB <| And.intro @zn <| And.intro @GJ <| And.intro @DV <| And.intro @sF <| And.intro @d7 <| And.intro @Kc <| And.intro @JN <| And.intro @Kf <|
 And.intro @Hu <| And.intro @ze <| And.intro @sU <| And.intro @iE <| And.intro @aD <| And.intro @List.length_cons.{0} <| And.intro @List.length_nil.{0} <| And.intro @List.take_succ_cons.{0} <|
 And.intro @List.take_zero.{0} <| And.intro @List.drop_succ_cons.{0} <| And.intro @List.drop_zero.{0} <| And.intro @List.cons_append.{0} <| And.intro @List.nil_append.{0} <| And.intro @List.append_nil.{0} <| And.intro @List.set_cons_zero.{0} <| And.intro @List.set_cons_succ.{0} <|
 And.intro @Nat.zero_add <| And.intro @H.get_put <| And.intro @d5 <| And.intro @cN <| And.intro @um <| @m_) :=
 And.intro @AP <| And.intro @zf <| And.intro @wE <| And.intro @Iy <| And.intro @List.zip_cons_cons.{0,0} <| And.intro @List.zip_nil_left.{0,0} <| And.intro @Ez <| And.intro @Kg <| And.intro @G7 <| And.intro @GT <| And.intro @GF <| And.intro @D4 <| And.intro @DB <| And.intro @ES <| And.intro @bumpG_h <| And.intro @bumpG_nx <| And.intro @bumpG_lg <| And.intro @true_and <| And.intro @and_true <| And.intro @vy <| And.intro @kV <| And.intro @Hy <| And.intro @setLog_h <| And.intro @setLog_nx <| And.intro @setLog_lg <| And.intro @GI <| And.intro @za <| And.intro @wL <| And.intro @yY <| And.intro @wk <| And.intro @y_ <| And.intro @xE <| And.intro @yL <| And.intro @wQ <|
 And.intro @zq <| And.intro @zt <| And.intro @zB <| And.intro @zn <| And.intro @GJ <| And.intro @DV <| And.intro @sF <| And.intro @d7 <| And.intro @Kc <| And.intro @JN <| And.intro @Kf <|
 And.intro @Hu <| And.intro @ze <| And.intro @sU <| And.intro @iE <| And.intro @aD <| And.intro @List.length_cons.{0} <| And.intro @List.length_nil.{0} <| And.intro @List.take_succ_cons.{0} <|
 And.intro @List.take_zero.{0} <| And.intro @List.drop_succ_cons.{0} <| And.intro @List.drop_zero.{0} <| And.intro @List.cons_append.{0} <| And.intro @List.nil_append.{0} <| And.intro @List.append_nil.{0} <| And.intro @List.set_cons_zero.{0} <| And.intro @List.set_cons_succ.{0} <|
 And.intro @Nat.zero_add <| And.intro @H.get_put <| And.intro @d5 <| And.intro @cN <| And.intro @um <| @m_
end
end Hx
end
section
namespace Hx
open Go
noncomputable section
theorem af {α:Type}{l:List α}{j:Nat}(h:j<l.length):∃x,l[j]?=some x/\l.take (j+1)=l.take j++[x]/\x∈l :=
 ⟨l[j],List.getElem?_eq_getElem h,by rw[List.take_add_one,List.getElem?_eq_getElem h];rfl,List.getElem_mem h⟩
def S.aV (lo hi:Int)(l:List Int):Bool:=l.all fun x=>decide (lo<=x)&&decide (x<=hi)
theorem zH {d:Nat}{g:G}{lo hi:Int}{v:AV}(hd:0<d)(hv:rE g.h v)(hl:(iC g.h v).length<9223372036854775808) :
  ak C0 d N.ae [.int .i64 lo,.int .i64 hi,v] g=.val (.bool (S.aV lo hi (iC g.h v))):=by
 obtain ⟨v',e,hr,hlen⟩:=Bf hv hl d
 generalize iC g.h v=l at hr hlen hl ⊢
 rw[tZ]
 refine dE vL (xs:=[.int .i64 lo,.int .i64 hi,v']) (by simp only[aH,dB 0,e]) (by simp[lX]) hd ?_
 simp only[lX,sx,SO.run,↓reduceIte,Nat.reduceEqDiff,hlen]
 refine bc hl (fun j t df g=>df=[]/\St t [(0,.int .i64 lo),(1,.int .i64 hi),(9,v')]/\S.aV lo hi (l.take j)=true)
  ⟨rfl,by simp[St,sx],rfl⟩ (by simp[sx]) (by simp[sx]) (by decide) (by rintro j t df g v s (rfl | rfl | rfl)<;>simp[St,sx]) ?_ ?_
 ·rintro j t df g hj ⟨rfl,⟨h0,h1,h9,-⟩,hw⟩ h11 h10
  obtain ⟨x,hx,htk,hm⟩:=af hj
  simp only[sx,SO.run,↓reduceIte,Nat.reduceEqDiff,hr,h0,h9,h11,hx,hj,Option.isSome_some,Option.getD_some,List.length_map,List.getElem?_map,Option.map_some,ci]
  have bad:(x<lo\/hi<x)->S.aV lo hi l=false:=fun h=>by simp only[S.aV,List.all_eq_false];exact ⟨x,hm,by simp;omega⟩
  refine aw (fun hb=>?_) (fun hb=>?_)
  ·simp only[sx,sy,SO.run,↓reduceIte,Nat.reduceEqDiff,hb]
   rw[bad (.inl (by simpa using hb))]
  ·simp only[sx,SO.run,↓reduceIte,Nat.reduceEqDiff,hb,h1]
   refine aw (fun hc=>?_) (fun hc=>?_)
   ·simp only[sx,sy,SO.run,↓reduceIte]
    rw[bad (.inr (by simpa using hc))]
   ·simp only[sx,sy,↓reduceIte,Nat.reduceEqDiff,h10,h11,St,h0,h1,h9,htk]
    simp[S.aV] at *
    exact ⟨hw,by omega⟩
 ·rintro t df g ⟨rfl,-,hw⟩
  rw[List.take_length] at hw
  simp only[mL,sx,SO.run,↓reduceIte,hw]
def S.bH (l:List Int):Int:=l.foldl (fun s x=>IntKind.wrap .i64 (s*x)) 1
theorem IY {d:Nat}{g:G}{v:AV}(hd:0<d)(hv:rE g.h v)(hl:(iC g.h v).length<9223372036854775808) :
  ak C0 d N.bu [v] g=.val (.int .i64 (S.bH (iC g.h v))):=by
 obtain ⟨v',e,hr,hlen⟩:=Bf hv hl d
 generalize iC g.h v=l at hr hlen hl ⊢
 rw[u5]
 refine ie x7 (xs:=[v']) (by simp only[aH,e]) (by simp[nq]) hd ?_
 simp only[nq,sx,SO.run]
 refine eA hl hlen (fun j t df g=>df=[]/\tat t 3=.int .i64 (S.bH (l.take j))) ⟨rfl,by simp[sx,S.bH]⟩ (by simp[sx]) (by simp[sx]) (by decide)
  (by rintro j t df g v s (rfl | rfl | rfl | rfl | rfl | rfl | rfl)<;>simp[sx]) ?_ ?_
 ·rintro j t df g hj ⟨rfl,h3⟩ h4 h0
  obtain ⟨x,hx,htk,hm⟩:=af hj
  simp only[sx,sy,SO.run,↓reduceIte,Nat.reduceEqDiff,hr,h0,h3,h4,hx,hj,Option.isSome_some,Option.getD_some,List.length_map,List.getElem?_map,Option.map_some,ci,htk,S.bH,List.foldl_append,List.foldl_cons,List.foldl_nil]
 ·rintro t df g ⟨rfl,h3⟩ -
  rw[List.take_length] at h3
  simp only[nI,sx,SO.run,↓reduceIte,h3]
theorem D3 {d:Nat}{g:G}{v w:AV}{l p:List Int}{K:AV->G->Prop}{D:ADf->Prop}(hv:∀g',Fr g g'->ah g'.h 1 v=some (l.map ci))(hw:∀g',Fr g g'->ah g'.h 1 w=some (p.map ci))(hp:p.length<1073741824)
  (hin:∀x∈p,0<=x/\x<l.length) (k:∀r g',Own g' g.nx r 1 ((p.map fun x=>l[x.toNat]?.getD 0).map ci)->Fr g g'->(∀i∈g'.lg,i∈g.lg\/g.nx<=i)->K r g'):(ak C0 d N.an [v,w] g).sat K g D:=by
 rw[yD]
 refine pT BU (by simp[qu]) ?_
 simp only[qu,sx,SO.run]
 have hlen2:∀g,eD .slice w g=.val (.int .i64 (p.length:Int)):=fun g'=>by rw[bh (hw g (Fr.refl g)),List.length_map]
 refine eA (by omega) hlen2 (fun j t df g'=>df=[]/\(Fr g g'/\∀i∈g'.lg,i∈g.lg\/g.nx<=i)/\tat t 0=v/\∃u,tat t 5=u/\Own g' g.nx u 1 (((p.take j).map fun x=>l[x.toNat]?.getD 0).map ci)) ⟨rfl,⟨Fr.refl g,fun i hi=>.inl hi⟩,by simp[sx],_,rfl,.inl ⟨by simp[sx],rfl⟩⟩ (by simp[sx]) (by simp[sx]) (by decide)
  (by rintro j t df g v s (rfl | rfl | rfl | rfl | rfl | rfl | rfl)<;>simp[sx]) ?_ ?_
 ·rintro j t df g1 hj ⟨rfl,⟨hf,hlg⟩,h0,u,h5,hu⟩ h6 h1
  obtain ⟨x,hx,htk,hm⟩:=af hj
  obtain ⟨hx0,hxl⟩:=hin x hm
  obtain ⟨n,rfl⟩:=Int.eq_ofNat_of_zero_le hx0
  have hn:n<l.length:=by omega
  simp only[sx,sy,SO.run,↓reduceIte,Nat.reduceEqDiff,hv g1 hf,hw g1 hf,h0,h1,h5,h6,hx,hj,hn,Option.isSome_some,Option.getD_some,List.length_map,List.getElem?_map,Option.map_some,ci,List.getElem?_eq_getElem hn]
  refine aJ (new:=[ci l[n]]) (hu.step (Fr.new _ _)) (by simp[sx,sy,ci]) (by have:=hf.1;simp;omega) (by simp[aZ];omega) fun v2 g2 hv2 n2 f2 _ l2=>?_
  have hf2:Fr g g2:=by
   refine ⟨Nat.le_trans hf.1 (Nat.le_trans (by simp) n2),fun i hi=>?_⟩
   have:=hf.1
   rw[f2 i (by simp;omega) (fun e=>by have:=(hu.lt e).1;omega),G.new_h,aq _ _ _ (by omega),hf.2 i hi]
  simp only[sx,sy,SO.run,↓reduceIte,Nat.reduceEqDiff,h0,h1,h6]
  refine ⟨⟨hf2,fun i hi=>?_⟩,_,rfl,?_⟩
  ·rcases l2 i hi with h | h
   ·simp at h
    rcases h with rfl | h
    ·exact .inr hf.1
    ·exact hlg i h
   ·exact .inr h
  rw[htk]
  simpa [hn,ci] using hv2
 ·rintro t df g1 ⟨rfl,⟨hf,hlg⟩,h0,u,h5,hu⟩ -
  rw[List.take_length] at hu
  simp only[qd,sx,SO.run,↓reduceIte,h5]
  exact k _ _ hu hf hlg
end
end Hx
end
section
namespace Hx
open Go
noncomputable section
structure Mech where
 card:Int
 frm:List Int
 noise:List Int
 out:List Int
structure Causal where
 grain:Int
 roots:List (List Int)
 nodes:List Mech
structure Node where
 card:Int
 parents:List Int
 rows:List (List Int)
structure Net where
 grain:Int
 nodes:List Node
structure Factor where
 vars:List Int
 cards:List Int
 w:List Int
instance : Rp Mech:=Rp.via fun m:Mech=>(m.card,m.frm,m.noise,m.out)
instance : Rp Causal:=Rp.via fun m:Causal=>(m.grain,m.roots,m.nodes)
instance : Rp Node:=Rp.via fun m:Node=>(m.card,m.parents,m.rows)
instance : Rp Net:=Rp.via fun m:Net=>(m.grain,m.nodes)
instance : Rp Factor:=Rp.via fun m:Factor=>(m.vars,m.cards,m.w)
section
variable {P:Nat->Prop}{k:Nat}{h:H}{cs:List AV}
theorem bW {m:Mech}:Rp.rp P k h m cs↔∃a b c,cs=[.int .i64 m.card,a,b,c]/\SlR P k h m.frm a/\SlR P k h m.noise b/\SlR P k h m.out c:=by
 constructor
 ·rintro ⟨c1,c2,rfl,h1,d1,d2,rfl,⟨a,rfl,h2⟩,e1,e2,rfl,⟨b,rfl,h3⟩,⟨c,rfl,h4⟩⟩
  rw[aS.1 h1];exact ⟨a,b,c,rfl,h2,h3,h4⟩
 ·rintro ⟨a,b,c,rfl,h2,h3,h4⟩
  exact ⟨[.int .i64 m.card],[a,b,c],rfl,aS.2 rfl,[a],[b,c],rfl,⟨a,rfl,h2⟩,[b],[c],rfl,⟨b,rfl,h3⟩,⟨c,rfl,h4⟩⟩
theorem aC {m:Causal}:Rp.rp P k h m cs↔∃a b,cs=[.int .i64 m.grain,a,b]/\SlR P k h m.roots a/\SlR P k h m.nodes b:=by
 constructor
 ·rintro ⟨c1,c2,rfl,h1,d1,d2,rfl,⟨a,rfl,h2⟩,⟨b,rfl,h3⟩⟩
  rw[aS.1 h1];exact ⟨a,b,rfl,h2,h3⟩
 ·rintro ⟨a,b,rfl,h2,h3⟩
  exact ⟨[.int .i64 m.grain],[a,b],rfl,aS.2 rfl,[a],[b],rfl,⟨a,rfl,h2⟩,⟨b,rfl,h3⟩⟩
end
theorem SlR.get {α:Type} [Rp α]{P:Nat->Prop}{k:Nat}{h:H}{l:List α}{v:AV}(r:SlR P k h l v){i:Nat}{x:α}(hi:l[i]?=some x) :
  ∃rows row,ah h (Rp.sz α) v=some rows/\rows.length=l.length/\rows[i]?=some row/\Rp.rp P k h x row:=by
 obtain ⟨rows,h1,h2⟩:=r.rows
 obtain ⟨row,h3,h4⟩:=h2.get hi
 exact ⟨rows,row,h1,h2.len.symm,h3,h4⟩
theorem SlR.len {α:Type} [Rp α]{P:Nat->Prop}{k:Nat}{h:H}{l:List α}{v:AV}(r:SlR P k h l v)(g:G):eD .slice v g=.val (.int .i64 (l.length:Int)):=by
 obtain ⟨rows,h1,h2⟩:=r.rows
 rw[bh h1,h2.len]
theorem SlR.tree {α:Type} [Rp α]{k k':Nat}{h h':H}{l:List α}{v:AV}(r:SlR NoP k h l v)(hk:k<=k'):SlR NoP k' h' l v:=by
 obtain ⟨w,hw,q⟩:=Rp.tree (P:=NoP) (k':=k') (h':=h') (show Rp.rp NoP k h l [v] from ⟨v,rfl,r⟩) hk
 injection hw with hw;subst hw;exact q
theorem be {α:Type} [Rp α]{P:Nat->Prop}{k:Nat}{h:H}{l:List α}{v:AV}(r:SlR P k h l v)(d:Nat)(hd:Rp.dp (List α)<=20:=by decide) :
  ∃v',Hx.snap h d aK v=some v'/\∀h',SlR NoP (max k d) h' l v':=by
 obtain ⟨v',e,w,hw,q⟩:=bP (aU l hd) (by decide) d (show One l P k h v from ⟨v,rfl,r⟩)
 injection hw with hw;subst hw
 exact ⟨v',e,fun h'=>q.tree (Nat.le_refl _)⟩
theorem SlR.all {α:Type} [Rp α]{k:Nat}{h:H}{l:List α}{v:AV}(r:SlR NoP k h l v) :
  ∃rows:List (List AV),(∀h',ah h' (Rp.sz α) v=some rows)/\rows.length=l.length/\(∀(i:Nat) (x:α),l[i]?=some x->∃row,rows[i]?=some row/\Rp.rp NoP k .nil x row)/\(0<l.length->kG v=true):=by
 have r0:=(r.tree (h':=.nil) (Nat.le_refl _))
 obtain ⟨rows,h1,h2⟩:=r0.rows
 refine ⟨rows,fun h'=>?_,h2.len.symm,fun i x hi=>h2.get hi,fun hl=>dq h1 (i:=0) (by rw[<-h2.len];exact hl)⟩
 rw[<-h1]
 exact uy fun id ep off len lim e=>by subst e;exact r.2.1.elim
theorem IT.mk {k:Nat}{l:List Int}{r:AV}(h:SlR NoP k .nil l r):IT k l r:=⟨r,rfl,h⟩
abbrev UT (k:Nat)(l:List Nat)(r:AV):Prop:=One l NoP k .nil r
theorem UT.sl {k:Nat}{l:List Nat}{r:AV}(h:UT k l r)(h':H):SlR NoP k h' l r:=by
 obtain ⟨w,hw,q⟩:=h
 injection hw with hw;subst hw;exact q.tree (Nat.le_refl _)
theorem nf {P:Nat->Prop}{k:Nat}{h:H}{l:List Nat}{v:AV}(r:SlR P k h l v):∀x∈l,x<18446744073709551616:=by
 obtain ⟨rows,h1,h2⟩:=r.rows
 intro x hx
 obtain ⟨i,hi,e⟩:=List.mem_iff_getElem.1 hx
 obtain ⟨row,h3,h4⟩:=h2.get (i:=i) (a:=x) (by rw[List.getElem?_eq_getElem hi,e])
 exact (De.1 h4).2
theorem Own.nats {g:G}{b:Nat}{v:AV}{l:List Nat}{k:Nat}(h:Own g b v 1 (l.map cu))(hl:l.length<9223372036854775808)(hb:∀x∈l,x<18446744073709551616):One l (fun _=>True) k g.h v:=by
 refine ⟨v,rfl,Own.sl (α:=Nat) h hl ?_ fun _ _=>trivial⟩
 clear h hl
 induction l with
 | nil=>trivial
 | cons a l ih=>exact ⟨De.2 ⟨rfl,hb a (by simp)⟩,ih fun x hx=>hb x (by simp[hx])⟩
theorem bn (p:Nat->Bool)(j:Nat):(List.range (j+1)).all p=((List.range j).all p&&p j):=by rw[List.range_succ,List.all_append];simp
theorem bL {p:Nat->Bool}{j n:Nat}(h:j<n)(hp:p j=false):(List.range n).all p=false:=by
 rw[List.all_eq_false];exact ⟨j,List.mem_range.2 h,by rw[hp];decide⟩
end
end Hx
end
section
namespace Hx
open Go
noncomputable section
theorem Gg {d k:Nat}{g:G}{P:Nat->Prop}{v:AV}{m:Causal}(hd:0<d)(hm:Agg m P k g.h v)(hn:m.nodes.length<1073741824) :
  ∃r,ak C0 d N.aV [v] g=.val r/\IT 0 (m.nodes.map (·.card)) r:=by
 obtain ⟨v',e,cs,rfl,hc⟩:=bP (aQ m) (by decide) d hm
 obtain ⟨a,b,rfl,hR,hN⟩:=aC.1 hc
 rw[ue]
 refine aV wT (xs:=[.agg [.int .i64 m.grain,a,b]]) (by simp only[aH,e]) (by simp[lV]) (aU _) (by decide) hd ?_
 simp only[lV,nV,sx,sy,SO.run,↓reduceIte,Nat.reduceAdd]
 refine bB m.nodes.length (by omega) (fun j t df g=>df=[]/\tat t 1=.hptr 0 0 0 0/\g.h.get 0=.cells 3 [[.int .i64 m.grain,a,b]] 0 false false/\1<=g.nx/\∃u,tat t 3=u/\Own g 1 u 1 (((m.nodes.take j).map (·.card)).map ci))
  ⟨rfl,by simp[sx],by simp[sx],by simp[sx],_,rfl,.inl ⟨by simp[sx],rfl⟩⟩ (by simp[sx]) (by decide)
  (by rintro j t df g v s (rfl | rfl | rfl)<;>simp[sx]) ?_ ?_ ?_
 ·rintro j t df g hj ⟨rfl,h1,hg,hnx,u,h3,hu⟩ h4
  simp only[sx,sy,SO.run,↓reduceIte,Nat.reduceEqDiff,h1,h4,hg,hN.len]
  exact ⟨hnx,u,h3,hu⟩
 ·rintro j t df g hj ⟨rfl,h1,hg,hnx,u,h3,hu⟩ h4
  obtain ⟨x,hx,htk,hm⟩:=af hj
  obtain ⟨rows,row,r1,r2,r3,r4⟩:=(hN.tree (h':=g.h) (Nat.le_refl _)).get hx
  obtain ⟨a',b',c',rfl,-⟩:=bW.1 r4
  have hlt:j<rows.length:=by omega
  simp only[sx,sy,SO.run,↓reduceIte,Nat.reduceEqDiff,h1,h3,h4,hg,show ah g.h 4 b=some rows from r1,hlt,r3,Option.isSome_some,Option.getD_some,dq r1 hlt]
  refine aJ (new:=[ci x.card]) (hu.step (Fr.new _ _)) (by simp[sx,sy,ci]) (by simp) (by simp[aZ];omega) fun v2 g2 hv2 n2 f2 _ l2=>?_
  simp only[sx,sy,SO.run,↓reduceIte,Nat.reduceEqDiff,h1,h4]
  refine ⟨?_,?_,_,rfl,?_⟩
  ·rw[f2 0 (by simp) (fun e=>by have:=(hu.lt e).1;omega),G.new_h,aq _ _ _ (by omega),hg]
  ·simp at n2;omega
  ·rw[htk]
   simpa [ci] using hv2
 ·rintro t df g ⟨rfl,h1,hg,hnx,u,h3,hu⟩
  rw[List.take_length] at hu
  simp only[mT,sx,SO.run,↓reduceIte,h3]
  exact ⟨_,hu.ints (by simp;omega)⟩
theorem m9 {d k:Nat}{g:G}{P:Nat->Prop}{v:AV}{m:Causal}(hd:0<d)(hm:Agg m P k g.h v)(hn:m.roots.length<1073741824) :
  ∃r,ak C0 d N.am [v] g=.val r/\IT 0 (m.roots.map fun r=>(r.length:Int)) r:=by
 obtain ⟨v',e,cs,rfl,hc⟩:=bP (aQ m) (by decide) d hm
 obtain ⟨a,b,rfl,hR,hN⟩:=aC.1 hc
 rw[rD]
 refine aV tp (xs:=[.agg [.int .i64 m.grain,a,b]]) (by simp only[aH,e]) (by simp[iM]) (aU _) (by decide) hd ?_
 simp only[iM,lE,sx,sy,SO.run,↓reduceIte,Nat.reduceAdd]
 refine bB m.roots.length (by omega) (fun j t df g=>df=[]/\tat t 1=.hptr 0 0 0 0/\g.h.get 0=.cells 3 [[.int .i64 m.grain,a,b]] 0 false false/\1<=g.nx/\∃u,tat t 3=u/\Own g 1 u 1 (((m.roots.take j).map fun r=>(r.length:Int)).map ci))
  ⟨rfl,by simp[sx],by simp[sx],by simp[sx],_,rfl,.inl ⟨by simp[sx],rfl⟩⟩ (by simp[sx]) (by decide)
  (by rintro j t df g v s (rfl | rfl | rfl)<;>simp[sx]) ?_ ?_ ?_
 ·rintro j t df g hj ⟨rfl,h1,hg,hnx,u,h3,hu⟩ h4
  simp only[sx,sy,SO.run,↓reduceIte,Nat.reduceEqDiff,h1,h4,hg,hR.len]
  exact ⟨hnx,u,h3,hu⟩
 ·rintro j t df g hj ⟨rfl,h1,hg,hnx,u,h3,hu⟩ h4
  obtain ⟨x,hx,htk,hm⟩:=af hj
  obtain ⟨rows,row,r1,r2,r3,r4⟩:=(hR.tree (h':=g.h) (Nat.le_refl _)).get hx
  obtain ⟨u',rfl,hu'⟩:=dk.1 r4
  have hlt:j<rows.length:=by omega
  simp only[sx,sy,SO.run,↓reduceIte,Nat.reduceEqDiff,h1,h3,h4,hg,show ah g.h 1 a=some rows from r1,hu'.len,hlt,r3,Option.isSome_some,Option.getD_some]
  refine aJ (new:=[ci x.length]) (hu.step (Fr.new _ _)) (by simp[sx,sy,ci]) (by simp) (by simp[aZ];omega) fun v2 g2 hv2 n2 f2 _ l2=>?_
  simp only[sx,sy,SO.run,↓reduceIte,Nat.reduceEqDiff,h1,h4]
  refine ⟨?_,?_,_,rfl,?_⟩
  ·rw[f2 0 (by simp) (fun e=>by have:=(hu.lt e).1;omega),G.new_h,aq _ _ _ (by omega),hg]
  ·simp at n2;omega
  ·rw[htk]
   simpa [ci] using hv2
 ·rintro t df g ⟨rfl,h1,hg,hnx,u,h3,hu⟩
  rw[List.take_length] at hu
  simp only[ki,sx,SO.run,↓reduceIte,h3]
  exact ⟨_,hu.ints (by simp;omega)⟩
def S.aI (l:List Int)(n:Int)(i:Nat):Bool:=decide (0<=l[i]?.getD 0)&&decide (l[i]?.getD 0<n)&&(i == 0 || decide (l[i - 1]?.getD 0<l[i]?.getD 0))
def S.aq (l:List Int)(n:Int):Bool:=(List.range l.length).all (S.aI l n)
theorem p5 {d k:Nat}{g:G}{P:Nat->Prop}{v:AV}{l:List Int}{n:Int}(hd:0<d)(hv:SlR P k g.h l v) :
  ak C0 d N.aB [v,.int .i64 n] g=.val (.bool (S.aq l n)):=by
 obtain ⟨v',e,r1⟩:=be hv d
 rw[oL]
 refine dE qK (xs:=[v',.int .i64 n]) (by simp only[aH,dB 0,e]) (by simp[f6]) hd ?_
 simp only[f6,sx,SO.run,↓reduceIte,Nat.reduceEqDiff,(r1 .nil).len]
 have hl:=hv.1
 refine bc hl (fun j t df g=>df=[]/\St t [(0,v'),(1,.int .i64 n),(7,v')]/\(List.range j).all (S.aI l n)=true)
  ⟨rfl,by simp[St,sx],rfl⟩ (by simp[sx]) (by simp[sx]) (by decide) (by rintro j t df g v s (rfl | rfl | rfl)<;>simp[St,sx]) ?_ ?_
 ·rintro j t df g hj ⟨rfl,⟨h0,h1,h7,-⟩,hw⟩ h9 h8
  obtain ⟨x,hx,htk,hm⟩:=af hj
  have bad:S.aI l n j=false->S.aq l n=false:=fun h=>bL hj h
  simp only[sx,SO.run,↓reduceIte,Nat.reduceEqDiff,(r1 g.h).ints,h7,h9,hx,hj,Option.isSome_some,Option.getD_some,List.length_map,List.getElem?_map,Option.map_some,ci]
  refine aw (fun hb=>?_) (fun hb=>?_)
  ·simp only[sx,sy,SO.run,↓reduceIte,Nat.reduceEqDiff,hb]
   rw[bad (by simp[S.aI,hx] at *;omega)]
  ·simp only[sx,SO.run,↓reduceIte,Nat.reduceEqDiff,hb,h1]
   refine aw (fun hc=>?_) (fun hc=>?_)
   ·simp only[sx,sy,SO.run,↓reduceIte,Nat.reduceEqDiff,hc]
    rw[bad (by simp[S.aI,hx] at *;omega)]
   ·simp only[sx,SO.run,↓reduceIte,Nat.reduceEqDiff,hc]
    refine aw (fun hd=>?_) (fun hd=>?_)
    ·obtain ⟨i,rfl⟩:∃i,j=i+1:=⟨j - 1,by simp at hd;omega⟩
     obtain ⟨y,hy,-,-⟩:=af (l:=l) (j:=i) (by omega)
     have hi:i<l.length:=by omega
     have e:IntKind.wrap .i64 (((i+1:Nat):Int) - 1)=(i:Int):=by rw[an (by omega) (by omega)];omega
     simp only[sx,SO.run,↓reduceIte,Nat.reduceEqDiff,(r1 g.h).ints,hd,e,h0,hy,hi,Option.isSome_some,Option.getD_some,List.length_map,List.getElem?_map,Option.map_some,ci]
     refine aw (fun he=>?_) (fun he=>?_)
     ·simp only[sx,sy,SO.run,↓reduceIte]
      rw[bad (by simp[S.aI,hx,hy] at *;omega)]
     ·simp only[sx,sy,↓reduceIte,Nat.reduceEqDiff,St,h0,h1,h7,h8,h9]
      rw[bn,hw]
      simp[S.aI,hx,hy] at *;omega
    ·have:j=0:=by simp at hd;omega
     subst this
     simp only[sx,sy,SO.run,↓reduceIte,Nat.reduceEqDiff,hd,St,h0,h1,h7,h8,h9]
     simp[S.aI,hx] at *;omega
 ·rintro t df g ⟨rfl,-,hw⟩
  simp only[it,sx,SO.run,↓reduceIte]
  rw[S.aq,hw]
end
end Hx
end
section
namespace Hx
open Go
noncomputable section
def S.a9 (n:Nat):Nat:=1*2 ^ n % 18446744073709551616
def S.aL (l:List Int):Nat:=l.foldl (fun s x=>s ||| S.a9 x.toNat) 0
theorem ry (n:Nat):S.a9 n<18446744073709551616:=Nat.mod_lt _ (by decide)
theorem uJ {α:Type}(f:α->Nat)(hf:∀a,f a<18446744073709551616):∀(l:List α) (s:Nat),s<18446744073709551616->l.foldl (fun s x=>s ||| f x) s<18446744073709551616
 | [],_,h=>h
 | a::l,s,h=>uJ f hf l _ (EJ h (hf a))
theorem vJ (l:List Int):S.aL l<18446744073709551616:=uJ _ (fun a=>ry _) l 0 (by decide)
theorem y6 (l:List Int)(x:Int):S.aL (l++[x])=S.aL l ||| S.a9 x.toNat:=by simp[S.aL]
theorem iq (k':IntKind)(n:Nat):cO .shl (.int .u64 1) (.int k' (n:Int))=.val (.int .u64 (S.a9 n:Int)):=I5 k' 1 n
theorem HM {d k:Nat}{g:G}{P:Nat->Prop}{v:AV}{l:List Int}(hd:0<d)(hv:SlR P k g.h l v)(hp:∀x∈l,0<=x) :
  ak C0 d N.a7 [v] g=.val (.int .u64 (S.aL l:Int)):=by
 obtain ⟨v',e,r1⟩:=be hv d
 rw[uM]
 refine ie ym (xs:=[v']) (by simp only[aH,e]) (by simp[nC]) hd ?_
 simp only[nC,sx,SO.run,↓reduceIte,Nat.reduceEqDiff,(r1 .nil).len]
 refine bc hv.1 (fun j t df g=>df=[]/\St t [(6,v'),(3,.int .u64 (S.aL (l.take j):Int))])
  ⟨rfl,by simp[St,sx,S.aL]⟩ (by simp[sx]) (by simp[sx]) (by decide) (by rintro j t df g v s (rfl | rfl | rfl)<;>simp[St,sx]) ?_ ?_
 ·rintro j t df g hj ⟨rfl,h6,h3,-⟩ h8 h7
  obtain ⟨x,hx,htk,hm⟩:=af hj
  obtain ⟨n,rfl⟩:=Int.eq_ofNat_of_zero_le (hp x hm)
  simp only[sx,sy,SO.run,↓reduceIte,Nat.reduceEqDiff,(r1 g.h).ints,h3,h6,h7,h8,hx,hj,Option.isSome_some,Option.getD_some,List.length_map,List.getElem?_map,Option.map_some,ci,iq,wH _ _ (vJ _) (ry _),St]
  rw[htk,y6];rfl
 ·rintro t df g ⟨rfl,h6,h3,-⟩
  rw[List.take_length] at h3
  simp only[nN,sx,SO.run,↓reduceIte,h3]
end
end Hx
end
section
namespace Hx
open Go
noncomputable section
theorem vP {d k:Nat}{g:G}{P:Nat->Prop}{v:AV}{m:Causal}(hd:0<d)(hm:Agg m P k g.h v)(hn:m.nodes.length<1073741824)(hp:∀x∈m.nodes,∀y∈x.frm,0<=y/\y<18446744073709551616) :
  ∃r,ak C0 d N.aT [v] g=.val r/\UT 0 (m.nodes.map fun x=>S.aL x.frm) r:=by
 obtain ⟨v',e,cs,rfl,hc⟩:=bP (aQ m) (by decide) d hm
 obtain ⟨a,b,rfl,hR,hN⟩:=aC.1 hc
 obtain ⟨rows,r1,r2,r3,r4⟩:=hN.all
 have r1:∀h',ah h' 4 b=some rows:=r1
 rw[qt]
 refine aV t9 (xs:=[.agg [.int .i64 m.grain,a,b]]) (by simp only[aH,e]) (by simp[iD]) (aU _) (by decide) hd ?_
 simp only[iD,lJ,sx,sy,SO.run,↓reduceIte,Nat.reduceAdd]
 refine bB m.nodes.length (by omega) (fun j t df g=>df=[]/\tat t 1=.hptr 0 0 0 0/\g.h.get 0=.cells 3 [[.int .i64 m.grain,a,b]] 0 false false/\1<=g.nx/\∃u,tat t 3=u/\Own g 1 u 1 (((m.nodes.take j).map fun x=>S.aL x.frm).map cu))
  ⟨rfl,by simp[sx],by simp[sx],by simp[sx],_,rfl,.inl ⟨by simp[sx],rfl⟩⟩ (by simp[sx]) (by decide)
  (by rintro j t df g v s (rfl | rfl | rfl)<;>simp[sx]) ?_ ?_ ?_
 ·rintro j t df g hj ⟨rfl,h1,hg,hnx,u,h3,hu⟩ h4
  simp only[sx,sy,SO.run,↓reduceIte,Nat.reduceEqDiff,h1,h4,hg,hN.len]
  exact ⟨hnx,u,h3,hu⟩
 ·rintro j t df g hj ⟨rfl,h1,hg,hnx,u,h3,hu⟩ h4
  obtain ⟨x,hx,htk,hm⟩:=af hj
  obtain ⟨row,q1,q2⟩:=r3 j x hx
  obtain ⟨a',b',c',rfl,ha',-,-⟩:=bW.1 q2
  have hlt:j<rows.length:=by omega
  have hry:=r4 (by omega)
  simp only[sx,SO.run]
  refine bB x.frm.length ha'.1 (fun i t df g'=>df=[]/\St t [(1,.hptr 0 0 0 0),(4,.int .i64 j),(3,u),(5,.int .u64 (S.aL (x.frm.take i):Int))]/\g'=g)
   ⟨rfl,by simp[sx,St,S.aL,h1,h3,h4],rfl⟩ (by simp[sx]) (by decide)
   (by rintro j t df g v s (rfl | rfl | rfl)<;>simp[sx,St]) ?_ ?_ ?_
  ·rintro i t df g' hi ⟨rfl,⟨h1,h4,h3,h5,-⟩,rfl⟩ h6
   simp only[sx,sy,SO.run,↓reduceIte,Nat.reduceEqDiff,h1,h3,h4,h5,h6,hg,r1,hlt,q1,hry,Option.isSome_some,Option.getD_some,ha'.len,St]
  ·rintro i t df g' hi ⟨rfl,⟨h1,h4,h3,h5,-⟩,rfl⟩ h6
   obtain ⟨y,hy,htk2,hm2⟩:=af hi
   obtain ⟨hy0,hy1⟩:=hp x hm y hm2
   obtain ⟨n,rfl⟩:=Int.eq_ofNat_of_zero_le hy0
   simp only[sx,sy,SO.run,↓reduceIte,Nat.reduceEqDiff,h1,h3,h4,h5,h6,hg,r1,hlt,q1,hry,Option.isSome_some,Option.getD_some,(ha'.tree (h':=g'.h) (Nat.le_refl _)).ints,hi,hy,List.length_map,List.getElem?_map,Option.map_some,ci,nE hy0 hy1,iq,wH _ _ (vJ _) (ry _),St]
   rw[htk2,y6];rfl
  ·rintro t df g' ⟨rfl,⟨h1,h4,h3,h5,-⟩,rfl⟩
   rw[List.take_length] at h5
   simp only[kh,sx,sy,SO.run,↓reduceIte,Nat.reduceEqDiff,h3,h5]
   refine aJ (new:=[cu (S.aL x.frm)]) (hu.step (Fr.new _ _)) (by simp[sx,sy,cu]) (by simp) (by simp[aZ];omega) fun v2 g2 hv2 n2 f2 _ l2=>?_
   simp only[sx,sy,SO.run,↓reduceIte,Nat.reduceEqDiff,h1,h4]
   refine ⟨?_,?_,_,rfl,?_⟩
   ·rw[f2 0 (by simp) (fun e=>by have:=(hu.lt e).1;omega),G.new_h,aq _ _ _ (by omega),hg]
   ·simp at n2;omega
   ·rw[htk]
    simpa [cu] using hv2
 ·rintro t df g ⟨rfl,h1,hg,hnx,u,h3,hu⟩
  rw[List.take_length] at hu
  simp only[jY,sx,SO.run,↓reduceIte,h3]
  exact ⟨_,hu.nats (by simp;omega) (by simp only[List.mem_map];rintro x ⟨y,-,rfl⟩;exact vJ _)⟩
def S.bJ (s v:Nat):Bool:=s / 2 ^ v &&& 1 == 1
theorem Ir {d:Nat}{g:G}{s v:Nat}(hd:0<d)(hs:s<18446744073709551616)(hv:v<9223372036854775808) :
  ak C0 d N.aG [.int .u64 (s:Int),.int .i64 (v:Int)] g=.val (.bool (S.bJ s v)):=by
 rw[yg]
 refine dE BV (xs:=[.int .u64 (s:Int),.int .i64 (v:Int)]) (by simp only[aH,dB 0]) (by simp[qs]) hd ?_
 have h1:s / 2 ^ v<18446744073709551616:=Nat.lt_of_le_of_lt (Nat.div_le_self _ _) hs
 have h2:cO .and (.int .u64 ((s / 2 ^ v:Nat):Int)) (.int .u64 1)=.val (.int .u64 ((s / 2 ^ v &&& 1:Nat):Int)):=I_ (s / 2 ^ v) 1 h1 (by decide)
 simp only[qs,sx,SO.run,↓reduceIte,Nat.reduceEqDiff,nE (show (0:Int)<=(v:Int) by omega) (by omega),IV _ _ _ hs,h2,S.bJ]
 congr 1
 generalize s / 2 ^ v &&& 1=z
 rw[Bool.eq_iff_iff,decide_eq_true_iff,beq_iff_eq];omega
def S.aS (p:List Nat)(s:Nat)(j:Nat):Nat:=(List.range j).foldl (fun s v=>if S.bJ s v then s ||| p[v]?.getD 0 else s) s
def S.up (p:List Nat)(s:Nat)(j:Nat):Nat:=(List.range j).foldl (fun s _=>S.aS p s p.length) s
theorem Br {p:List Nat}(hp:∀x∈p,x<18446744073709551616){s:Nat}(hs:s<18446744073709551616):∀j,S.aS p s j<18446744073709551616:=by
 intro j
 induction j with
 | zero=>exact hs
 | succ j ih =>
  unfold S.aS at ih ⊢
  rw[List.range_succ,List.foldl_append]
  simp only[List.foldl_cons,List.foldl_nil]
  split
  ·refine EJ ih ?_
   cases h:p[j]? with
   | none=>decide
   | some x=>exact hp x (List.mem_of_getElem? h)
  ·exact ih
theorem fm (p:List Nat)(s j:Nat):S.aS p s (j+1)=if S.bJ (S.aS p s j) j then S.aS p s j ||| p[j]?.getD 0 else S.aS p s j:=by
 unfold S.aS
 rw[List.range_succ,List.foldl_append];rfl
theorem J8 {p:List Nat}(hp:∀x∈p,x<18446744073709551616){s:Nat}(hs:s<18446744073709551616):∀j,S.up p s j<18446744073709551616:=by
 intro j
 induction j with
 | zero=>exact hs
 | succ j ih =>
  unfold S.up at ih ⊢
  rw[List.range_succ,List.foldl_append]
  exact Br hp ih _
theorem kK (p:List Nat)(s j:Nat):S.up p s (j+1)=S.aS p (S.up p s j) p.length:=by
 unfold S.up
 rw[List.range_succ,List.foldl_append];rfl
theorem KZ {d k:Nat}{g:G}{P:Nat->Prop}{v:AV}{p:List Nat}{s:Nat}(hd:0<d)(hv:SlR P k g.h p v)(hs:s<18446744073709551616) :
  ak C0 d N.bz [v,.int .u64 (s:Int)] g=.val (.int .u64 (S.up p s p.length:Int)):=by
 obtain ⟨v',e,r1⟩:=be hv d
 have hp:=nf hv
 have hl:=hv.1
 rw[yn]
 refine ie Cb (xs:=[v',.int .u64 (s:Int)]) (by simp only[aH,e,dB 0]) (by simp[q7]) hd ?_
 simp only[q7,sx,SO.run]
 refine eA hl (r1 .nil).len (fun j t df g=>df=[]/\tat t 1=.int .u64 (S.up p s j:Int)) ⟨rfl,by simp[sx,S.up]⟩ (by simp[sx]) (by simp[sx]) (by decide)
  (by rintro j t df g v s (rfl | rfl | rfl | rfl | rfl | rfl | rfl)<;>simp[sx]) ?_ ?_
 ·rintro j t df g hj ⟨rfl,h1⟩ h5 h0
  simp only[sx,SO.run]
  have hu:=J8 hp hs j
  refine eA hl (r1 .nil).len (fun i t df g=>df=[]/\tat t 5=.int .i64 (j:Int)/\tat t 1=.int .u64 (S.aS p (S.up p s j) i:Int)) ⟨rfl,by simp[sx,h5],by simp[sx,S.aS,h1]⟩ (by simp[sx]) (by simp[sx,h0]) (by decide)
   (by rintro j t df g v s (rfl | rfl | rfl | rfl | rfl | rfl | rfl)<;>simp[sx]) ?_ ?_
  ·rintro i t df g hi ⟨rfl,h5,h1⟩ h6 h0
   have hr:=Br hp hu i
   obtain ⟨x,hx,-,hm⟩:=af hi
   simp only[sx,SO.run,↓reduceIte,Nat.reduceEqDiff,h1,h6,Ir (Nat.succ_pos d) hr (show i<9223372036854775808 by omega)]
   refine aw (fun hb=>?_) (fun hb=>?_)
   ·simp only[sx,sy,SO.run,↓reduceIte,Nat.reduceEqDiff,h0,h1,h5,h6,(r1 g.h).nats,hi,hx,Option.isSome_some,Option.getD_some,List.length_map,List.getElem?_map,Option.map_some,cu,wH _ _ hr (hp x hm)]
    rw[fm,hb,hx];rfl
   ·simp only[sx,sy,↓reduceIte,Nat.reduceEqDiff,h0,h1,h5,h6]
    rw[fm,hb];rfl
  ·rintro t df g ⟨rfl,h5,h1⟩ h0
   simp only[sx,sy,↓reduceIte,h0,h5,h1]
   rw[kK]
 ·rintro t df g ⟨rfl,h1⟩ -
  simp only[qg,sx,SO.run,↓reduceIte,h1]
def S.bE (p:List Nat):Bool:=(List.range p.length).all fun v=>!S.bJ (S.up p (p[v]?.getD 0) p.length) v
theorem B6 {d k:Nat}{g:G}{P:Nat->Prop}{v:AV}{p:List Nat}(hd:0<d)(hv:SlR P k g.h p v) :
  ak C0 d N.bi [v] g=.val (.bool (S.bE p)):=by
 obtain ⟨v',e,r1⟩:=be hv d
 have hp:=nf hv
 have hl:=hv.1
 rw[ru]
 refine dE s8 (xs:=[v']) (by simp only[aH,e]) (by simp[iI]) hd ?_
 simp only[iI,sx,SO.run]
 refine eA hl (r1 .nil).len (fun j t df g=>df=[]/\(List.range j).all (fun v=>!S.bJ (S.up p (p[v]?.getD 0) p.length) v)=true) ⟨rfl,rfl⟩ (by simp[sx]) (by simp[sx]) (by decide)
  (by rintro j t df g v s (rfl | rfl | rfl | rfl | rfl | rfl | rfl)<;>simp[sx]) ?_ ?_
 ·rintro j t df g hj ⟨rfl,hw⟩ h3 h0
  obtain ⟨x,hx,-,hm⟩:=af hj
  have hx':=hp x hm
  simp only[sx,SO.run,↓reduceIte,Nat.reduceEqDiff,h0,h3,(r1 g.h).nats,hj,hx,Option.isSome_some,Option.getD_some,List.length_map,List.getElem?_map,Option.map_some,cu,KZ (Nat.succ_pos d) (r1 g.h) hx',Ir (Nat.succ_pos d) (J8 hp hx' _) (show j<9223372036854775808 by omega)]
  refine aw (fun hb=>?_) (fun hb=>?_)
  ·simp only[sx,sy,SO.run,↓reduceIte]
   rw[S.bE,bL hj (by rw[hx];simp[hb])]
  ·simp only[sx,sy,↓reduceIte,Nat.reduceEqDiff,h0,h3]
   rw[bn,hw,hx];simp[hb]
 ·rintro t df g ⟨rfl,hw⟩ h0
  simp only[jA,sx,SO.run,↓reduceIte]
  rw[S.bE,hw]
end
end Hx
end
section
namespace Hx
open Go
noncomputable section
theorem gY {d:Nat}(hd:0<d)(g:G)(lo hi x:Int) :
  ak C0 d N.ae [.int .i64 lo,.int .i64 hi,.hsl g.nx 0 0 1 none] (g.new (.cells 1 [[.int .i64 x]] 0 false false))=.val (.bool (decide (lo<=x)&&decide (x<=hi))):=by
 have hr:ah (g.new (.cells 1 [[.int .i64 x]] 0 false false)).h 1 (.hsl g.nx 0 0 1 none)=some ([x].map ci):=by simp[sx,sy,ci]
 rw[zH hd (tH hr) (by rw[sR hr];simp),sR hr]
 simp[S.aV]
theorem zp {d k:Nat}{P:Nat->Prop}(hd:0<d){g:G}{lo hi:Int}{v:AV}{l:List Int}(hv:SlR P k g.h l v) :
  ak C0 d N.ae [.int .i64 lo,.int .i64 hi,v] g=.val (.bool (S.aV lo hi l)):=by
 rw[zH hd (tH hv.ints) (by rw[sR hv.ints];exact hv.1),sR hv.ints]
def S.aJ (gr:Int)(r:List Int):Bool:=decide (1<=(r.length:Int))&&decide ((r.length:Int)<=4)&&S.aV 0 gr r&&decide (r.sum=gr)
def S.aa (l:List Int):Int:=l.foldl (·*·) 1
def S.be (m:Causal):Bool:=m.roots.all (S.aJ m.grain)&&decide (S.aa (m.roots.map fun r=>(r.length:Int))<=1024)
theorem cV (l:List Int)(x:Int):S.aa (l++[x])=S.aa l*x:=by simp[S.aa]
theorem ch {a b:Nat}(h:a<=b):(4:Int) ^ a<=4 ^ b:=by
 obtain ⟨c,rfl⟩:∃c,b=a+c:=⟨b - a,by omega⟩
 induction c with
 | zero=>exact Int.le_refl _
 | succ c ih =>
  have:=ih (by omega)
  rw[show a+(c+1)=(a+c)+1 from rfl,Int.pow_succ]
  have h0:(0:Int)<=4 ^ (a+c):=Int.le_of_lt (Int.pow_pos (by decide))
  omega
theorem bV (a:Int)(l:List Int):S.aa (a::l)=a*S.aa l:=by
 have:∀(l:List Int) (s:Int),l.foldl (·*·) s=s*l.foldl (·*·) 1:=by
  intro l
  induction l with
  | nil=>intro s;simp
  | cons x l ih=>intro s;rw[List.foldl_cons,ih,List.foldl_cons,ih (1*x),Int.one_mul,Int.mul_assoc]
 unfold S.aa
 rw[List.foldl_cons,this,Int.one_mul]
theorem bD:∀{l:List Int},(∀x∈l,1<=x/\x<=4)->1<=S.aa l/\S.aa l<=4 ^ l.length
 | [],_=>⟨by decide,by decide⟩
 | a::l,h=>by
  obtain ⟨h1,h2⟩:=bD (l:=l) fun x hx=>h x (by simp[hx])
  obtain ⟨h3,h4⟩:=h a (by simp)
  rw[bV,List.length_cons,Int.pow_succ,Int.mul_comm (4 ^ l.length)]
  constructor
  ·have:=Int.mul_le_mul h3 h1 (by decide) (by omega)
   simpa using this
  ·exact Int.mul_le_mul h4 h2 (by omega) (by decide)
theorem pR {b:Int}(hb:0<=b):∀{l:List Int},(∀x∈l,0<=x/\x<=b)->0<=l.sum/\l.sum<=b*l.length
 | [],_=>by simp
 | a::l,h=>by
  obtain ⟨h1,h2⟩:=pR hb (l:=l) fun x hx=>h x (by simp[hx])
  obtain ⟨h3,h4⟩:=h a (by simp)
  rw[List.sum_cons,List.length_cons]
  have:b*((l.length+1:Nat):Int)=b*(l.length:Int)+b:=by rw[Int.natCast_add,Int.mul_add];simp
  omega
theorem xO (l:List Int)(x:Int):(l++[x]).sum=l.sum+x:=by simp
theorem jz {lo hi:Int}{l:List Int}:S.aV lo hi l=true↔∀x∈l,lo<=x/\x<=hi:=by simp[S.aV]
theorem yx {d k:Nat}{g:G}{P:Nat->Prop}{v:AV}{m:Causal}(hd:0<d)(hm:Agg m P k g.h v)(hg1:1<=m.grain)(hg2:m.grain<=12)(hn:m.roots.length<=8) :
  ak C0 d N.bG [v] g=.val (.bool (S.be m)):=by
 obtain ⟨v',e,cs,rfl,hc⟩:=bP (aQ m) (by decide) d hm
 obtain ⟨a,b,rfl,hR,hN⟩:=aC.1 hc
 obtain ⟨rows,r1,r2,r3,r4⟩:=hR.all
 have r1:∀h',ah h' 1 a=some rows:=r1
 rw[n_]
 refine dE rn (xs:=[.agg [.int .i64 m.grain,a,b]]) (by simp only[aH,e]) (by simp[gx]) hd ?_
 simp only[gx,jb,sx,sy,SO.run,↓reduceIte,Nat.reduceEqDiff,Nat.reduceAdd,hR.len]
 have fin:∀(q:Bool) (t:T) (g:G),tat t 3=.int .i64 (S.aa (m.roots.map fun r=>(r.length:Int)))\/q=false->tat t 4=.bool q ->
   wp C0 (d+1) none cJ (fnQ C0 (d+1) [SR.tm 2] fun v x=>v=AV.bool (q&&decide (S.aa (m.roots.map fun r=>(r.length:Int))<=1024))) t [] g:=by
  intro q t g h3 h4
  simp only[cJ,sx,SO.run,↓reduceIte,h4]
  refine aw (fun hb=>?_) (fun hb=>?_)
  ·subst hb
   rcases h3 with h3 | h3
   ·simp only[sx,SO.run,↓reduceIte,Nat.reduceEqDiff,h3,Bool.true_and]
   ·cases h3
  ·subst hb
   simp only[sx,SO.run,↓reduceIte,Nat.reduceEqDiff,Bool.false_and]
 refine bc (m:=m.roots.length) (by omega) (fun j t df g=>df=[]/\St t [(1,.hptr 0 0 0 0),(11,a),(3,.int .i64 (S.aa ((m.roots.take j).map fun r=>(r.length:Int)))),(4,.bool true)]/\g.h.get 0=.cells 3 [[.int .i64 m.grain,a,b]] 0 false false/\1<=g.nx/\(m.roots.take j).all (S.aJ m.grain)=true)
  ⟨rfl,by simp[St,sx,S.aa],by simp[sx],by simp[sx],rfl⟩ (by simp[sx]) (by simp[sx]) (by decide) (by rintro j t df g v s (rfl | rfl | rfl)<;>simp[St,sx]) ?_ ?_
 ·rintro j t df g hj ⟨rfl,⟨h1,h11,h3,h4,-⟩,hg,hnx,hw⟩ h13 h12
  obtain ⟨x,hx,htk,hm⟩:=af hj
  obtain ⟨row,q1,q2⟩:=r3 j x hx
  obtain ⟨u,rfl,hu⟩:=dk.1 q2
  have hlt:j<rows.length:=by omega
  have bad:S.aJ m.grain x=false->S.be m=false:=fun h=>by
   rw[S.be,Bool.and_eq_false_iff];left;rw[List.all_eq_false];exact ⟨x,hm,by simp[h]⟩
  have hbad:∀(t:T) (g:G),S.aJ m.grain x=false->tat t 4=.bool false->wp C0 (d+1) none cJ (fnQ C0 (d+1) [SR.tm 2] fun v x=>v=AV.bool (S.be m)) t [] g:=fun t g h1 h2=>by
   rw[bad h1];exact fin false t g (.inr rfl) h2
  have hlen:((m.roots.take j).map fun r=>(r.length:Int)).length<=8:=by simp;omega
  have hpb:1<=S.aa ((m.roots.take j).map fun r=>(r.length:Int))/\S.aa ((m.roots.take j).map fun r=>(r.length:Int))<=4 ^ 8:=by
   have:=bD (l:=(m.roots.take j).map fun r=>(r.length:Int)) (by
    intro y hy
    obtain ⟨r,hr,rfl⟩:=List.mem_map.1 hy
    have:=List.all_eq_true.1 hw r hr
    simp[S.aJ] at this
    omega)
   exact ⟨this.1,Int.le_trans this.2 (ch hlen)⟩
  simp only[sx,sy,SO.run,↓reduceIte,h11,h13,r1,hlt,q1,Option.isSome_some,Option.getD_some,hu.len,gY (Nat.succ_pos d)]
  refine aw (fun hb=>?_) (fun hb=>?_)
  ·simp only[sx,sy,SO.run,↓reduceIte,Nat.reduceEqDiff,hb]
   exact hbad _ _ (by simp[S.aJ] at *;omega) (by simp only[sx,↓reduceIte])
  ·have hg':(g.new (AObj.cells 1 [[AV.int IntKind.i64 ↑x.length]] 0 false false)).h.get 0=.cells 3 [[.int .i64 m.grain,a,b]] 0 false false:=by
    rw[G.new_h,aq _ _ _ (by omega),hg]
   have hb':1<=x.length/\x.length<=4:=by simp at hb;omega
   have hnx':1<=(g.new (AObj.cells 1 [[AV.int IntKind.i64 ↑x.length]] 0 false false)).nx:=by simp
   generalize g.new (AObj.cells 1 [[AV.int IntKind.i64 ↑x.length]] 0 false false)=g' at *
   simp only[sx,sy,SO.run,↓reduceIte,Nat.reduceEqDiff,hb,h1,hg']
   rw[zp (Nat.succ_pos d) (hu.tree (h':=g'.h) (Nat.le_refl _))]
   simp only[sx,SO.run,↓reduceIte,Nat.reduceEqDiff]
   cases hwi:S.aV 0 m.grain x with
   | false =>
    simp only[sx,sy,SO.run,↓reduceIte,Nat.reduceEqDiff,Bool.not_false]
    exact hbad _ _ (by simp only[S.aJ,hwi,Bool.and_false,Bool.false_and]) (by simp only[sx,↓reduceIte])
   | true =>
    have hwx:=jz.1 hwi
    simp only[sx,SO.run,↓reduceIte,Nat.reduceEqDiff,Bool.not_true,h3,hu.len,an (show -9223372036854775808<=S.aa ((m.roots.take j).map fun r=>(r.length:Int))*(x.length:Int) by
      have:=Int.mul_nonneg (show 0<=S.aa ((m.roots.take j).map fun r=>(r.length:Int)) by omega) (show (0:Int)<=x.length by omega);omega)
     (show S.aa ((m.roots.take j).map fun r=>(r.length:Int))*(x.length:Int)<9223372036854775808 by
      have:=Int.mul_le_mul (show S.aa ((m.roots.take j).map fun r=>(r.length:Int))<=65536 from hpb.2) (show (x.length:Int)<=4 by omega) (by omega) (by decide);omega)]
    refine bc hu.1 (fun i t df g''=>df=[]/\g''=g'/\St t [(1,.hptr 0 0 0 0),(11,a),(12,.int .i64 m.roots.length),(13,.int .i64 j),(33,u),(3,.int .i64 (S.aa ((m.roots.take j).map fun r=>(r.length:Int))*(x.length:Int))),(4,.bool true),(7,.int .i64 ((x.take i).sum))])
     ⟨rfl,rfl,by simp[St,sx,h1,h11,h12,h13,h4]⟩ (by simp[sx]) (by simp[sx]) (by decide) (by rintro j t df g v s (rfl | rfl | rfl)<;>simp[St,sx]) ?_ ?_
    ·rintro i t df g'' hi ⟨rfl,rfl,h1,h11,h12,h13,h33,h3,h4,h7,-⟩ h35 h34
     obtain ⟨y,hy,htk2,hm2⟩:=af hi
     obtain ⟨s1,s2⟩:=pR (b:=m.grain) (by omega) (l:=x.take i) fun z hz=>hwx z (List.mem_of_mem_take hz)
     have hyb:=hwx y hm2
     have s3:(x.take i).sum<=12*4:=Int.le_trans s2 (Int.mul_le_mul hg2 (by simp;omega) (by omega) (by decide))
     simp only[sx,sy,SO.run,↓reduceIte,Nat.reduceEqDiff,h1,h3,h4,h7,h11,h12,h13,h33,h34,h35,(hu.tree (h':=g''.h) (Nat.le_refl _)).ints,hi,hy,Option.isSome_some,Option.getD_some,List.length_map,List.getElem?_map,Option.map_some,ci,St,an (show -9223372036854775808<=(x.take i).sum+y by omega) (show (x.take i).sum+y<9223372036854775808 by omega)]
     rw[htk2,xO]
    ·rintro t df g'' ⟨rfl,rfl,h1,h11,h12,h13,h33,h3,h4,h7,-⟩
     rw[List.take_length] at h7
     simp only[ik,sx,sy,SO.run,↓reduceIte,Nat.reduceEqDiff,h1,h7,hg']
     refine aw (fun hs=>?_) (fun hs=>?_)
     ·simp only[sx,sy,SO.run,↓reduceIte,Nat.reduceEqDiff]
      exact hbad _ _ (by simp at hs;simp[S.aJ,hs]) (by simp only[sx,↓reduceIte])
     ·have hs:x.sum=m.grain:=by simpa using hs
      simp only[sx,sy,↓reduceIte,Nat.reduceEqDiff,St,h1,h3,h4,h11,h12,h13,hg']
      refine ⟨?_,hnx',?_⟩
      ·rw[htk,List.map_append,List.map_singleton,cV]
      ·rw[htk,List.all_append,hw]
       simp[S.aJ,hwi,hs];omega
 ·rintro t df g ⟨rfl,⟨h1,h11,h3,h4,-⟩,hg,hnx,hw⟩
  rw[List.take_length] at hw h3
  simp only[sx,↓reduceIte]
  have:=fin true t g (.inl h3) h4
  rw[S.be,hw];exact this
end
end Hx
end
section
namespace Hx
open Go
noncomputable section
theorem wu {l:List Int}{n:Int}(h:S.aq l n=true){i:Nat}(hi:i<l.length):S.aI l n i=true:=by
 have:=List.all_eq_true.1 h i (List.mem_range.2 hi);exact this
theorem aE {l:List Int}{n:Int}(h:S.aq l n=true):∀x∈l,0<=x/\x<n:=by
 intro x hx
 obtain ⟨i,hi,rfl⟩:=List.mem_iff_getElem.1 hx
 have:=wu h hi
 simp[S.aI,List.getElem?_eq_getElem hi] at this
 omega
theorem FJ {l:List Int}{n:Int}(h:S.aq l n=true):∀(i:Nat) (hi:i<l.length),(i:Int)<=l[i]:=by
 intro i
 induction i with
 | zero=>intro hi;have:=(aE h l[0] (List.getElem_mem hi)).1;simpa using this
 | succ i ih =>
  intro hi
  have h1:=ih (by omega)
  have:=wu h hi
  simp[S.aI,List.getElem?_eq_getElem hi,List.getElem?_eq_getElem (show i<l.length by omega)] at this
  omega
theorem ba {l:List Int}{n:Nat}(h:S.aq l (n:Int)=true):l.length<=n:=by
 rcases Nat.eq_zero_or_pos l.length with h0 | h0
 ·omega
 ·have h1:=FJ h (l.length - 1) (by omega)
  have h2:=(aE h l[l.length - 1] (List.getElem_mem (by omega))).2
  omega
def S.az (m:Causal)(p:Int):Int:=(m.nodes[p.toNat]?.map (·.card)).getD 0
def S.aX (m:Causal)(r:Int):Int:=(m.roots[r.toNat]?.map fun r=>(r.length:Int)).getD 0
def S.bc (m:Causal)(x:Mech):Int:=S.aa (x.frm.map (S.az m))
def S.bk (m:Causal)(x:Mech):Int:=S.aa (x.noise.map (S.aX m))
structure S.Small (m:Causal):Prop where
 nodes:m.nodes.length<=5
 roots:m.roots.length<=8
 card:∀x∈m.nodes,1<=x.card/\x.card<=4
 len:∀r∈m.roots,1<=r.length/\r.length<=4
theorem f8 {m:Causal}(hs:S.Small m){p:Int}(h:0<=p/\p<m.nodes.length):1<=S.az m p/\S.az m p<=4:=by
 unfold S.az
 rw[List.getElem?_eq_getElem (show p.toNat<m.nodes.length by omega)]
 exact hs.card _ (List.getElem_mem _)
theorem ir {m:Causal}(hs:S.Small m){p:Int}(h:0<=p/\p<m.roots.length):1<=S.aX m p/\S.aX m p<=4:=by
 unfold S.aX
 rw[List.getElem?_eq_getElem (show p.toNat<m.roots.length by omega)]
 have:=hs.len _ (List.getElem_mem (show p.toNat<m.roots.length by omega))
 simp;omega
theorem cT {f:Int->Int}{l:List Int}{n:Nat}(hf:∀x∈l,1<=f x/\f x<=4)(hl:l.length<=n):1<=S.aa (l.map f)/\S.aa (l.map f)<=4 ^ n:=by
 have:=bD (l:=l.map f) (by intro y hy;obtain ⟨x,hx,rfl⟩:=List.mem_map.1 hy;exact hf x hx)
 exact ⟨this.1,Int.le_trans this.2 (ch (by simpa using hl))⟩
theorem GE {d k k2:Nat}{g:G}{P P2:Nat->Prop}{v w:AV}{m:Causal}{x:Mech}(hd:0<d)(hm:Agg m P k g.h v)(hx:Agg x P2 k2 g.h w)(hs:S.Small m)
  (hf:S.aq x.frm m.nodes.length=true) (hn:S.aq x.noise m.roots.length=true) :
  ak C0 d N.aZ [v,w] g=.val (.tup [.int .i64 (S.bc m x),.int .i64 (S.bk m x)]):=by
 obtain ⟨v',e,cs,rfl,hc⟩:=bP (aQ m) (by decide) d hm
 obtain ⟨a,b,rfl,hR,hN⟩:=aC.1 hc
 obtain ⟨w',e2,cs2,rfl,hc2⟩:=bP (aQ x) (by decide) d hx
 obtain ⟨fa,fb,fc,rfl,hfa,hfb,hfc⟩:=bW.1 hc2
 obtain ⟨rows,r1,r2,r3,r4⟩:=hN.all
 have r1:∀h',ah h' 4 b=some rows:=r1
 obtain ⟨rows',r1',r2',r3',r4'⟩:=hR.all
 have r1':∀h',ah h' 1 a=some rows':=r1'
 have hfm:=aE hf
 have hnm:=aE hn
 rw[uV]
 suffices hh:∃r,am (I C0) d g N.aZ [v,w]=.val r/\sJ (One (S.bc m x)) (One (S.bk m x)) NoP 0 .nil r by
  obtain ⟨r,hr,ra,rb,rfl,h1,h2⟩:=hh
  have h1:=aS.1 h1
  have h2:=aS.1 h2
  injection h1 with h1;injection h2 with h2
  rw[hr,h1,h2]
 refine aV x6 (xs:=[.agg [.int .i64 m.grain,a,b],.agg [.int .i64 x.card,fa,fb,fc]]) (by simp only[aH,e,e2]) (by simp[nc]) (dC (m:=1) (aU _) (aU _) (by decide) (by decide)) (by decide) hd ?_
 simp only[nc,ol,sx,sy,SO.run,↓reduceIte,Nat.reduceEqDiff,Nat.reduceAdd,hfa.len]
 let B:H->Prop:=fun h=>h.get 0=.cells 3 [[.int .i64 m.grain,a,b]] 0 false false/\h.get 1=.cells 4 [[.int .i64 x.card,fa,fb,fc]] 0 false false
 refine bc hfa.1 (fun j t df g=>df=[]/\St t [(2,.hptr 0 0 0 0),(3,.hptr 1 0 0 0),(11,fa),(4,.int .i64 (S.aa ((x.frm.take j).map (S.az m)))),(5,.int .i64 1)]/\B g.h)
  ⟨rfl,by simp[St,sx,S.aa],by simp[B,sx,sy]⟩ (by simp[sx]) (by simp[sx]) (by decide) (by rintro j t df g v s (rfl | rfl | rfl)<;>simp[St,sx]) ?_ ?_
 ·rintro j t df g hj ⟨rfl,⟨h2,h3,h11,h4,h5,-⟩,hB0,hB1⟩ h13 h12
  obtain ⟨p,hp,htk,hm⟩:=af hj
  obtain ⟨hp0,hp1⟩:=hfm p hm
  obtain ⟨q,rfl⟩:=Int.eq_ofNat_of_zero_le hp0
  have hq:q<m.nodes.length:=by omega
  obtain ⟨y,hy,-,-⟩:=af hq
  obtain ⟨row,q1,q2⟩:=r3 q y hy
  obtain ⟨ya,yb,yc,rfl,-⟩:=bW.1 q2
  have hlt:q<rows.length:=by omega
  have hry:=r4 (by omega)
  have b1:=cT (f:=S.az m) (l:=x.frm.take j) (n:=5) (fun z hz=>f8 hs (hfm z (List.mem_of_mem_take hz))) (by have:=ba hf;have:=hs.nodes;simp;omega)
  have b2:=f8 hs ⟨hp0,hp1⟩
  have hc:S.az m (q:Int)=y.card:=by simp[S.az,hy]
  rw[hc] at b2
  have b3:=Int.mul_le_mul b1.2 b2.2 (by omega) (by decide)
  have b4:=Int.mul_nonneg (show 0<=S.aa ((x.frm.take j).map (S.az m)) by omega) (show 0<=y.card by omega)
  simp only[sx,sy,SO.run,↓reduceIte,Nat.reduceEqDiff,h2,h3,h4,h5,h11,h12,h13,(hfa.tree (h':=g.h) (Nat.le_refl _)).ints,hj,hp,hB0,hB1,r1,hlt,q1,hry,Option.isSome_some,Option.getD_some,List.length_map,List.getElem?_map,Option.map_some,ci,St,B,
   an (show -9223372036854775808<=S.aa ((x.frm.take j).map (S.az m))*y.card by omega) (show S.aa ((x.frm.take j).map (S.az m))*y.card<9223372036854775808 by omega)]
  rw[htk,List.map_append,List.map_singleton,cV,hc]
 ·rintro t df g ⟨rfl,⟨h2,h3,h11,h4,h5,-⟩,hB0,hB1⟩
  rw[List.take_length] at h4
  simp only[nK,sx,sy,SO.run,↓reduceIte,h3,hB1,hfb.len]
  refine bc hfb.1 (fun j t df g=>df=[]/\St t [(2,.hptr 0 0 0 0),(27,fb),(4,.int .i64 (S.bc m x)),(5,.int .i64 (S.aa ((x.noise.take j).map (S.aX m))))]/\B g.h)
   ⟨rfl,by simp[St,sx,S.aa,h2,h4,h5,S.bc],by simp[B,hB0,hB1]⟩ (by simp[sx]) (by simp[sx]) (by decide) (by rintro j t df g v s (rfl | rfl | rfl)<;>simp[St,sx]) ?_ ?_
  ·rintro j t df g hj ⟨rfl,⟨h2,h27,h4,h5,-⟩,hB0,hB1⟩ h29 h28
   obtain ⟨p,hp,htk,hm⟩:=af hj
   obtain ⟨hp0,hp1⟩:=hnm p hm
   obtain ⟨q,rfl⟩:=Int.eq_ofNat_of_zero_le hp0
   have hq:q<m.roots.length:=by omega
   obtain ⟨y,hy,-,-⟩:=af hq
   obtain ⟨row,q1,q2⟩:=r3' q y hy
   obtain ⟨u,rfl,hu⟩:=dk.1 q2
   have hlt:q<rows'.length:=by omega
   have b1:=cT (f:=S.aX m) (l:=x.noise.take j) (n:=8) (fun z hz=>ir hs (hnm z (List.mem_of_mem_take hz))) (by have:=ba hn;have:=hs.roots;simp;omega)
   have b2:=ir hs ⟨hp0,hp1⟩
   have hc:S.aX m (q:Int)=y.length:=by simp[S.aX,hy]
   rw[hc] at b2
   have b3:=Int.mul_le_mul b1.2 b2.2 (by omega) (by decide)
   have b4:=Int.mul_nonneg (show 0<=S.aa ((x.noise.take j).map (S.aX m)) by omega) (show 0<=(y.length:Int) by omega)
   simp only[sx,sy,SO.run,↓reduceIte,Nat.reduceEqDiff,h2,h4,h5,h27,h28,h29,(hfb.tree (h':=g.h) (Nat.le_refl _)).ints,hj,hp,hB0,hB1,r1',hlt,q1,hu.len,Option.isSome_some,Option.getD_some,List.length_map,List.getElem?_map,Option.map_some,ci,St,B,
    an (show -9223372036854775808<=S.aa ((x.noise.take j).map (S.aX m))*(y.length:Int) by omega) (show S.aa ((x.noise.take j).map (S.aX m))*(y.length:Int)<9223372036854775808 by omega)]
   rw[htk,List.map_append,List.map_singleton,cV,hc]
  ·rintro t df g ⟨rfl,⟨h2,h27,h4,h5,-⟩,hB0,hB1⟩
   rw[List.take_length] at h5
   simp only[nU,sx,sy,SO.run,↓reduceIte,Nat.reduceEqDiff,h4,h5]
   exact ⟨NoP,_,_,rfl,aS.2 rfl,aS.2 rfl⟩
end
end Hx
end
section
namespace Hx
open Go
noncomputable section
def S.bg (m:Causal)(i:Nat)(x:Mech):Bool :=
 S.aq x.frm m.nodes.length&&S.aq x.noise m.roots.length&&!x.frm.contains (i:Int)&&decide ((x.out.length:Int)=S.bc m x*S.bk m x)&&S.aV 0 (x.card - 1) x.out
def S.bp (m:Causal):Bool:=(List.range m.nodes.length).all (fun i=>(m.nodes[i]?.map (S.bg m i)).getD true)&&decide (S.aa (m.nodes.map (·.card))<=1024)
theorem yw {d k:Nat}{g:G}{P:Nat->Prop}{v:AV}{m:Causal}(hd:0<d)(hm:Agg m P k g.h v)(hs:S.Small m) :
  ak C0 d N.bA [v] g=.val (.bool (S.bp m)):=by
 obtain ⟨v',e,cs,rfl,hc⟩:=bP (aQ m) (by decide) d hm
 obtain ⟨a,b,rfl,hR,hN⟩:=aC.1 hc
 obtain ⟨rows,r1,r2,r3,r4⟩:=hN.all
 have r1:∀h',ah h' 4 b=some rows:=r1
 rw[n6]
 refine dE qQ (xs:=[.agg [.int .i64 m.grain,a,b]]) (by simp only[aH,e]) (by simp[gi]) hd ?_
 simp only[gi,iX,sx,sy,SO.run,↓reduceIte,Nat.reduceEqDiff,Nat.reduceAdd,hN.len]
 refine bc (m:=m.nodes.length) (by have:=hs.nodes;omega) (fun j t df g=>df=[]/\St t [(1,.hptr 0 0 0 0),(11,b),(3,.int .i64 (S.aa ((m.nodes.take j).map (·.card))))]/\g.h.get 0=.cells 3 [[.int .i64 m.grain,a,b]] 0 false false/\1<=g.nx/\(List.range j).all (fun i=>(m.nodes[i]?.map (S.bg m i)).getD true)=true)
  ⟨rfl,by simp[St,sx,S.aa],by simp[sx],by simp[sx],rfl⟩ (by simp[sx]) (by simp[sx]) (by decide) (by rintro j t df g v s (rfl | rfl | rfl)<;>simp[St,sx]) ?_ ?_
 ·rintro j t df g hj ⟨rfl,⟨h1,h11,h3,-⟩,hg,hnx,hw⟩ h13 h12
  obtain ⟨x,hx,htk,hm⟩:=af hj
  obtain ⟨row,q1,q2⟩:=r3 j x hx
  obtain ⟨fa,fb,fc,rfl,hfa,hfb,hfc⟩:=bW.1 q2
  have hlt:j<rows.length:=by omega
  have hry:=r4 (by omega)
  have bad:S.bg m j x=false->S.bp m=false:=fun h=>by
   rw[S.bp,bL hj (by rw[hx];simp[h])];rfl
  have b1:=cT (f:=fun x=>x) (l:=(m.nodes.take j).map (·.card)) (n:=5) (fun z hz=>by obtain ⟨y,hy,rfl⟩:=List.mem_map.1 hz;exact hs.card y (List.mem_of_mem_take hy)) (by have:=hs.nodes;simp;omega)
  rw[List.map_id'] at b1
  have b2:=hs.card x hm
  have b3:=Int.mul_le_mul b1.2 b2.2 (by omega) (by decide)
  have b4:=Int.mul_nonneg (show 0<=S.aa ((m.nodes.take j).map (·.card)) by omega) (show 0<=x.card by omega)
  have hne:¬(0=g.nx):=by omega
  have ia:∀(g:G) (n:Int),ak C0 (d+1) N.aB [fa,.int .i64 n] g=.val (.bool (S.aq x.frm n)):=fun g n=>p5 (Nat.succ_pos d) (hfa.tree (h':=g.h) (Nat.le_refl _))
  have ib:∀(g:G) (n:Int),ak C0 (d+1) N.aB [fb,.int .i64 n] g=.val (.bool (S.aq x.noise n)):=fun g n=>p5 (Nat.succ_pos d) (hfb.tree (h':=g.h) (Nat.le_refl _))
  simp only[sx,sy,SO.run,↓reduceIte,Nat.reduceEqDiff,Nat.reduceAdd,h1,h3,h11,h13,hg,r1,hlt,q1,Option.isSome_some,Option.getD_some,Nat.reduceLeDiff,hne,hN.len,ia,
   an (show -9223372036854775808<=S.aa ((m.nodes.take j).map (·.card))*x.card by omega) (show S.aa ((m.nodes.take j).map (·.card))*x.card<9223372036854775808 by omega)]
  cases hpf:S.aq x.frm m.nodes.length with
  | false =>
   simp only[sx,sy,SO.run,↓reduceIte,Nat.reduceEqDiff,Bool.not_false]
   rw[bad (by simp only[S.bg,hpf,Bool.false_and])]
  | true =>
   simp only[sx,sy,SO.run,↓reduceIte,Nat.reduceEqDiff,Bool.not_true,h1,hg,hne,hR.len,ib]
   cases hpn:S.aq x.noise m.roots.length with
   | false =>
    simp only[sx,sy,SO.run,↓reduceIte,Bool.not_false]
    rw[bad (by simp only[S.bg,hpn,Bool.and_false,Bool.false_and])]
   | true =>
    simp only[sx,sy,SO.run,↓reduceIte,Nat.reduceEqDiff,Bool.not_true,hfa.len]
    obtain ⟨g1,hg1⟩:∃g1,g1=(g.new (AObj.cells 4 [[AV.int IntKind.i64 0,AV.nils,AV.nils,AV.nils]] 0 false false)).put g.nx (AObj.cells 4 [[AV.int IntKind.i64 x.card,fa,fb,fc]] 0 false false):=⟨_,rfl⟩
    have f0:g1.h.get 0=.cells 3 [[.int .i64 m.grain,a,b]] 0 false false:=by rw[hg1];simp[H.get_put,hne,hg]
    have f1:g1.h.get g.nx=.cells 4 [[.int .i64 x.card,fa,fb,fc]] 0 false false:=by rw[hg1];simp[H.get_put]
    have f2:g1.nx=g.nx+1:=by rw[hg1];simp
    rw[<-hg1]
    clear hg1
    generalize g.nx=q at *
    refine bc hfa.1 (fun i t df g'=>df=[]/\g'=g1/\St t [(1,.hptr 0 0 0 0),(11,b),(12,.int .i64 m.nodes.length),(13,.int .i64 j),(3,.int .i64 (S.aa ((m.nodes.take j).map (·.card))*x.card)),(4,.int .i64 j),(5,.hptr q 0 0 0),(39,fa)]/\(x.frm.take i).contains (j:Int)=false)
     ⟨rfl,rfl,by simp[St,sx,h1,h11,h12,h13],by simp⟩ (by simp[sx]) (by simp[sx]) (by decide) (by rintro j t df g v s (rfl | rfl | rfl)<;>simp[St,sx]) ?_ ?_
    ·rintro i t df g' hi ⟨rfl,rfl,⟨h1,h11,h12,h13,h3,h4,h5,h39,-⟩,hcn⟩ h41 h40
     obtain ⟨p,hp,htk2,hm2⟩:=af hi
     simp only[sx,SO.run,↓reduceIte,Nat.reduceEqDiff,h4,h39,h41,(hfa.tree (h':=g'.h) (Nat.le_refl _)).ints,hi,hp,Option.isSome_some,Option.getD_some,List.length_map,List.getElem?_map,Option.map_some,ci]
     refine aw (fun hb=>?_) (fun hb=>?_)
     ·simp only[sx,sy,SO.run,↓reduceIte]
      have hb:p=j:=by simpa using hb
      subst hb
      rw[bad (by simp[S.bg,hm2])]
     ·simp only[sx,sy,↓reduceIte,Nat.reduceEqDiff,St,h1,h3,h4,h5,h11,h12,h13,h39,h40,h41]
      have hb:p≠j:=by simpa using hb
      rw[htk2]
      simp at hcn ⊢
      exact ⟨hcn,fun e=>hb e.symm⟩
    ·rintro t df g' ⟨rfl,rfl,⟨h1,h11,h12,h13,h3,h4,h5,h39,-⟩,hcn⟩
     rw[List.take_length] at hcn
     have hms:Agg m NoP (max k d) g'.h (.agg [.int .i64 m.grain,a,b]):=⟨_,rfl,aC.2 ⟨a,b,rfl,hR.tree (Nat.le_refl _),hN.tree (Nat.le_refl _)⟩⟩
     have hxs:Agg x NoP (max k d) g'.h (.agg [.int .i64 x.card,fa,fb,fc]):=⟨_,rfl,bW.2 ⟨fa,fb,fc,rfl,hfa.tree (Nat.le_refl _),hfb.tree (Nat.le_refl _),hfc.tree (Nat.le_refl _)⟩⟩
     have c1:=cT (f:=S.az m) (l:=x.frm) (n:=5) (fun z hz=>f8 hs (aE hpf z hz)) (by have:=ba hpf;have:=hs.nodes;omega)
     have c2:=cT (f:=S.aX m) (l:=x.noise) (n:=8) (fun z hz=>ir hs (aE hpn z hz)) (by have:=ba hpn;have:=hs.roots;omega)
     have c3:=Int.mul_le_mul c1.2 c2.2 (by omega) (by decide)
     have c4:=Int.mul_nonneg (show 0<=S.aa (x.frm.map (S.az m)) by omega) (show 0<=S.aa (x.noise.map (S.aX m)) by omega)
     change S.bc m x*S.bk m x<=_ at c3
     change 0<=S.bc m x*S.bk m x at c4
     simp only[im,sx,sy,SO.run,↓reduceIte,Nat.reduceEqDiff,Nat.reduceAdd,Nat.reduceLeDiff,h1,h5,f0,f1,GE (Nat.succ_pos d) hms hxs hs hpf hpn,hfc.len,
      an (show -9223372036854775808<=S.bc m x*S.bk m x by omega) (show S.bc m x*S.bk m x<9223372036854775808 by omega)]
     refine aw (fun hb=>?_) (fun hb=>?_)
     ·simp only[sx,sy,SO.run,↓reduceIte,Nat.reduceEqDiff,hb]
      rw[bad (by simp at hb;simp[S.bg,hb])]
     ·have ho:(x.out.length:Int)=S.bc m x*S.bk m x:=by simpa using hb
      simp only[sx,sy,SO.run,↓reduceIte,Nat.reduceEqDiff,hb,h5,f1,an (show -9223372036854775808<=x.card - 1 by omega) (show x.card - 1<9223372036854775808 by omega),zp (Nat.succ_pos d) (hfc.tree (h':=g'.h) (Nat.le_refl _))]
      cases hwi:S.aV 0 (x.card - 1) x.out with
      | false =>
       simp only[sx,sy,SO.run,↓reduceIte,Bool.not_false]
       rw[bad (by simp only[S.bg,hwi,Bool.and_false])]
      | true =>
       simp only[sx,sy,↓reduceIte,Nat.reduceEqDiff,Bool.not_true,St,h1,h3,h11,h12,h13,f0]
       refine ⟨?_,by omega,?_⟩
       ·rw[htk,List.map_append,List.map_singleton,cV]
       ·rw[bn,hw,hx]
        simp only[Option.map_some,Option.getD_some,S.bg,hpf,hpn,hcn,ho,hwi,Bool.not_false,decide_true,Bool.and_self]
 ·rintro t df g ⟨rfl,⟨h1,h11,h3,-⟩,hg,hnx,hw⟩
  rw[List.take_length] at h3
  simp only[sx,SO.run,↓reduceIte,iw,h3]
  rw[S.bp,hw];rfl
end
end Hx
end
section
namespace Hx
open Go
noncomputable section
def S.ba (a b:Nat):Nat:=a ^^^ (a &&& b)
def S.aH (p:List Nat)(s:Nat)(j:Nat):Nat:=(List.range j).foldl (fun s v=>if S.ba (p[v]?.getD 0) s=0 then s ||| S.a9 v else s) s
def S.aF (p:List Nat)(j:Nat):Nat:=(List.range j).foldl (fun s _=>S.aH p s p.length) 0
theorem cE (p:List Nat)(s j:Nat):S.aH p s (j+1)=if S.ba (p[j]?.getD 0) (S.aH p s j)=0 then S.aH p s j ||| S.a9 j else S.aH p s j:=by
 unfold S.aH
 rw[List.range_succ,List.foldl_append];rfl
theorem pU {p:List Nat}{s:Nat}(hs:s<18446744073709551616):∀j,S.aH p s j<18446744073709551616
 | 0=>hs
 | j+1=>by
  rw[cE]
  split
  ·exact EJ (pU hs j) (ry _)
  ·exact pU hs j
theorem cK (p:List Nat)(j:Nat):S.aF p (j+1)=S.aH p (S.aF p j) p.length:=by
 unfold S.aF
 rw[List.range_succ,List.foldl_append];rfl
theorem zy {p:List Nat}:∀j,S.aF p j<18446744073709551616
 | 0=>by simp[S.aF]
 | j+1=>by rw[cK];exact pU (zy j) _
def S.ay (m:Causal):List Nat:=m.nodes.map fun x=>S.aL x.frm
def S.bK (m:Causal):Bool:=decide (S.aF (S.ay m) m.nodes.length=2 ^ m.nodes.length - 1)
theorem Dl {n:Nat}(h:n<64):S.a9 n=2 ^ n:=by
 unfold S.a9
 rw[Nat.one_mul,Nat.mod_eq_of_lt]
 exact Nat.pow_lt_pow_right (a:=2) (by decide) h
theorem CT {d k:Nat}{g:G}{P:Nat->Prop}{v:AV}{m:Causal}(hd:0<d)(hm:Agg m P k g.h v)(hn5:m.nodes.length<=5)(hf:∀x∈m.nodes,∀p∈x.frm,0<=p) :
  ak C0 d N.bj [v] g=.val (.bool (S.bK m)):=by
 obtain ⟨v',e,cs,rfl,hc⟩:=bP (aQ m) (by decide) d hm
 obtain ⟨a,b,rfl,hR,hN⟩:=aC.1 hc
 obtain ⟨rows,r1,r2,r3,r4⟩:=hN.all
 have r1:∀h',ah h' 4 b=some rows:=r1
 have hpl:(S.ay m).length=m.nodes.length:=by simp[S.ay]
 rw[sS]
 refine dE uO (xs:=[.agg [.int .i64 m.grain,a,b]]) (by simp only[aH,e]) (by simp[kA]) hd ?_
 simp only[kA,mc,sx,sy,SO.run,↓reduceIte,Nat.reduceEqDiff,Nat.reduceAdd,hN.len]
 refine bc (m:=m.nodes.length) (by omega) (fun j t df g=>df=[]/\St t [(1,.hptr 0 0 0 0),(3,.int .u64 (S.aF (S.ay m) j:Int))]/\g.h.get 0=.cells 3 [[.int .i64 m.grain,a,b]] 0 false false/\1<=g.nx)
  ⟨rfl,by simp[St,sx,S.aF],by simp[sx],by simp[sx]⟩ (by simp[sx]) (by simp[sx]) (by decide) (by rintro j t df g v s (rfl | rfl | rfl)<;>simp[St,sx]) ?_ ?_
 ·rintro j t df g hj ⟨rfl,⟨h1,h3,-⟩,hg,hnx⟩ h9 h8
  simp only[sx,sy,SO.run,↓reduceIte,h1,hg,hN.len]
  refine bc (m:=m.nodes.length) (by omega) (fun i t df g=>df=[]/\St t [(1,.hptr 0 0 0 0),(8,.int .i64 m.nodes.length),(9,.int .i64 j),(12,b),(3,.int .u64 (S.aH (S.ay m) (S.aF (S.ay m) j) i:Int))]/\g.h.get 0=.cells 3 [[.int .i64 m.grain,a,b]] 0 false false/\1<=g.nx)
   ⟨rfl,by simp[St,sx,S.aH,h1,h3,h8,h9],hg,hnx⟩ (by simp[sx]) (by simp[sx]) (by decide) (by rintro j t df g v s (rfl | rfl | rfl)<;>simp[St,sx]) ?_ ?_
  ·rintro i t df g hi ⟨rfl,⟨h1,h8,h9,h12,h3,-⟩,hg,hnx⟩ h14 h13
   obtain ⟨x,hx,htk,hm⟩:=af hi
   obtain ⟨row,q1,q2⟩:=r3 i x hx
   obtain ⟨fa,fb,fc,rfl,hfa,hfb,hfc⟩:=bW.1 q2
   have hlt:i<rows.length:=by omega
   have hry:=r4 (by omega)
   have hne:¬(0=g.nx):=by omega
   have hpi:(S.ay m)[i]?.getD 0=S.aL x.frm:=by simp[S.ay,hx]
   have sa:∀(g:G),ak C0 (d+1) N.a7 [fa] g=.val (.int .u64 (S.aL x.frm:Int)):=fun g=>HM (Nat.succ_pos d) (hfa.tree (h':=g.h) (Nat.le_refl _)) (hf x hm)
   have hlr:=pU (p:=S.ay m) (zy (p:=S.ay m) j) i
   simp only[sx,sy,SO.run,↓reduceIte,Nat.reduceEqDiff,Nat.reduceAdd,Nat.reduceLeDiff,h3,h12,h14,r1,hlt,q1,Option.isSome_some,Option.getD_some,sa,xd _ _ (vJ _) hlr]
   refine aw (fun hb=>?_) (fun hb=>?_)
   ·have hb:S.ba (S.aL x.frm) (S.aH (S.ay m) (S.aF (S.ay m) j) i)=0:=by unfold S.ba;simp only[decide_eq_true_eq] at hb;omega
    simp only[sx,sy,SO.run,↓reduceIte,Nat.reduceEqDiff,h1,h3,h8,h9,h12,h13,h14,iq,wH _ _ hlr (ry _),St,hg,hne]
    refine ⟨?_,by omega⟩
    rw[cE,hpi,if_pos hb]
   ·have hb:¬S.ba (S.aL x.frm) (S.aH (S.ay m) (S.aF (S.ay m) j) i)=0:=by unfold S.ba;simp only[decide_eq_false_iff_not] at hb;omega
    simp only[sx,sy,↓reduceIte,Nat.reduceEqDiff,h1,h3,h8,h9,h12,h13,h14,St,hg,hne]
    refine ⟨?_,by omega⟩
    rw[cE,hpi,if_neg hb]
  ·rintro t df g ⟨rfl,⟨h1,h8,h9,h12,h3,-⟩,hg,hnx⟩
   simp only[sx,sy,↓reduceIte,h1,h3,h8,h9,St,hg,hnx]
   rw[cK,hpl]
 ·rintro t df g ⟨rfl,⟨h1,h3,-⟩,hg,hnx⟩
  have hp2:2 ^ m.nodes.length<=2 ^ 5:=Nat.pow_le_pow_right (by decide) hn5
  have hp1:0<2 ^ m.nodes.length:=Nat.pow_pos (by decide)
  simp only[lG,sx,sy,SO.run,↓reduceIte,Nat.reduceEqDiff,h1,h3,hg,hN.len,iq,Dl (show m.nodes.length<64 by omega),nE (show (0:Int)<=((2 ^ m.nodes.length:Nat):Int) - 1 by omega) (show ((2 ^ m.nodes.length:Nat):Int) - 1<18446744073709551616 by omega)]
  unfold S.bK
  congr 1
  rw[Bool.eq_iff_iff,decide_eq_true_iff,decide_eq_true_iff];omega
def S.am (m:Causal):Bool :=
 decide (1<=m.grain)&&decide (m.grain<=12)&&decide (m.roots.length<=8)&&decide (1<=m.nodes.length)&&decide (m.nodes.length<=5)&&S.be m&&(m.nodes.all fun x=>decide (1<=x.card)&&decide (x.card<=4))&&S.bp m&&S.bK m
theorem Co {m:Causal}(h1:m.roots.length<=8)(h2:m.nodes.length<=5)(h3:S.be m=true)(h4:∀x∈m.nodes,1<=x.card/\x.card<=4):S.Small m :=
 ⟨h2,h1,h4,fun r hr=>by
  have:=(Bool.and_eq_true _ _ ▸ h3:_/\_).1
  have:=List.all_eq_true.1 this r hr
  simp[S.aJ] at this
  omega⟩
theorem uk {m:Causal}(h:S.bp m=true){i:Nat}{x:Mech}(hx:m.nodes[i]?=some x):S.bg m i x=true:=by
 have:=(Bool.and_eq_true _ _ ▸ h:_/\_).1
 have:=List.all_eq_true.1 this i (List.mem_range.2 (List.getElem?_eq_some_iff.1 hx).1)
 simpa [hx] using this
theorem Bg {m:Causal}(h:S.bp m=true):∀x∈m.nodes,∀p∈x.frm,0<=p/\p<m.nodes.length:=by
 intro x hx p hp
 obtain ⟨i,hi,rfl⟩:=List.mem_iff_getElem.1 hx
 have:=uk h (List.getElem?_eq_getElem hi)
 simp only[S.bg,Bool.and_eq_true] at this
 exact aE this.1.1.1.1 p hp
theorem Gt {d k:Nat}{g:G}{P:Nat->Prop}{v:AV}{m:Causal}(hd:0<d)(hm:Agg m P k g.h v) :
  ak C0 d N.bn [v] g=.val (.int .i64 (if S.am m then 0 else 330)):=by
 obtain ⟨v',e,cs,rfl,hc⟩:=bP (aQ m) (by decide) d hm
 obtain ⟨a,b,rfl,hR,hN⟩:=aC.1 hc
 obtain ⟨rows,r1,r2,r3,r4⟩:=hN.all
 have r1:∀h',ah h' 4 b=some rows:=r1
 have hms:∀g:G,Agg m NoP (max k d) g.h (.agg [.int .i64 m.grain,a,b]):=fun g=>⟨_,rfl,aC.2 ⟨a,b,rfl,hR.tree (Nat.le_refl _),hN.tree (Nat.le_refl _)⟩⟩
 rw[uW]
 refine ie yr (xs:=[.agg [.int .i64 m.grain,a,b]]) (by simp only[aH,e]) (by simp[nk]) hd ?_
 simp only[nk,sx,sy,SO.run,↓reduceIte,Nat.reduceAdd]
 have bad':¬(S.am m=true)->AV.int IntKind.i64 330=AV.int IntKind.i64 (if S.am m=true then 0 else 330):=fun h=>by rw[if_neg h]
 generalize hg0:(G.empty.new (AObj.cells 3 [[AV.int IntKind.i64 m.grain,a,b]] 0 false false))=g0
 have f0:g0.h.get 0=.cells 3 [[.int .i64 m.grain,a,b]] 0 false false:=by rw[<-hg0];simp[sx]
 have f1:1<=g0.nx:=by rw[<-hg0];simp[sx]
 clear hg0
 simp only[oA,sx,sy,SO.run,↓reduceIte,Nat.reduceEqDiff,f0,gY (Nat.succ_pos d)]
 cases c1:(decide (1<=m.grain)&&decide (m.grain<=12)) with
 | false =>
  simp only[sx,SO.run,↓reduceIte,Nat.reduceEqDiff,Bool.not_false]
  simp only[S.am,c1,Bool.false_and,Bool.false_eq_true,if_false]
 | true =>
  obtain ⟨g1,hg1⟩:∃g1,g1=g0.new (AObj.cells 1 [[AV.int IntKind.i64 m.grain]] 0 false false):=⟨_,rfl⟩
  have e0:g1.h.get 0=.cells 3 [[.int .i64 m.grain,a,b]] 0 false false:=by rw[hg1,G.new_h,aq _ _ _ (by omega),f0]
  have e1:1<=g1.nx:=by rw[hg1];simp
  rw[<-hg1];clear hg1
  simp only[sx,sy,SO.run,↓reduceIte,Nat.reduceEqDiff,Bool.not_true,e0,hR.len,gY (Nat.succ_pos d)]
  cases c2:(decide (0<=(m.roots.length:Int))&&decide ((m.roots.length:Int)<=8)) with
  | false =>
   simp only[sx,SO.run,↓reduceIte,Nat.reduceEqDiff,Bool.not_false]
   have:decide (m.roots.length<=8)=false:=by simp at c2 ⊢;omega
   simp only[S.am,this,Bool.false_and,Bool.and_false,Bool.false_eq_true,if_false]
  | true =>
   obtain ⟨g2,hg2⟩:∃g2,g2=g1.new (AObj.cells 1 [[AV.int IntKind.i64 m.roots.length]] 0 false false):=⟨_,rfl⟩
   have d0:g2.h.get 0=.cells 3 [[.int .i64 m.grain,a,b]] 0 false false:=by rw[hg2,G.new_h,aq _ _ _ (by omega),e0]
   have d1:1<=g2.nx:=by rw[hg2];simp
   rw[<-hg2];clear hg2
   simp only[sx,sy,SO.run,↓reduceIte,Nat.reduceEqDiff,Bool.not_true,d0,hN.len,gY (Nat.succ_pos d)]
   cases c3:(decide (1<=(m.nodes.length:Int))&&decide ((m.nodes.length:Int)<=5)) with
   | false =>
    simp only[sx,SO.run,↓reduceIte,Bool.not_false]
    exact bad' (fun h=>by simp[S.am] at h;simp at c3;omega)
   | true =>
    obtain ⟨g3,hg3⟩:∃g3,g3=g2.new (AObj.cells 1 [[AV.int IntKind.i64 m.nodes.length]] 0 false false):=⟨_,rfl⟩
    have b0:g3.h.get 0=.cells 3 [[.int .i64 m.grain,a,b]] 0 false false:=by rw[hg3,G.new_h,aq _ _ _ (by omega),d0]
    have b1:1<=g3.nx:=by rw[hg3];simp
    rw[<-hg3];clear hg3
    have q1:1<=m.grain/\m.grain<=12:=by simpa using c1
    have q2:m.roots.length<=8:=by simp at c2;omega
    have q3:1<=m.nodes.length/\m.nodes.length<=5:=by simp at c3;omega
    simp only[sx,sy,SO.run,↓reduceIte,Nat.reduceEqDiff,Nat.reduceAdd,Nat.reduceLeDiff,Bool.not_true,b0,yx (Nat.succ_pos d) (hms _) q1.1 q1.2 q2]
    cases c4:S.be m with
    | false =>
     simp only[sx,SO.run,↓reduceIte,Bool.not_false]
     exact bad' (fun h=>by simp[S.am,c4] at h)
    | true =>
     simp only[sx,sy,SO.run,↓reduceIte,Nat.reduceEqDiff,Bool.not_true,b0,hN.len]
     refine bc (m:=m.nodes.length) (by omega) (fun j t df g=>df=[]/\St t [(1,.hptr 0 0 0 0),(30,b)]/\g.h.get 0=.cells 3 [[.int .i64 m.grain,a,b]] 0 false false/\1<=g.nx/\(m.nodes.take j).all (fun x=>decide (1<=x.card)&&decide (x.card<=4))=true)
      ⟨rfl,by simp[St,sx],b0,b1,rfl⟩ (by simp[sx]) (by simp[sx]) (by decide) (by rintro j t df g v s (rfl | rfl | rfl)<;>simp[St,sx]) ?_ ?_
     ·rintro j t df g hj ⟨rfl,⟨h1,h30,-⟩,hg,hnx,hw⟩ h32 h31
      obtain ⟨x,hx,htk,hm⟩:=af hj
      obtain ⟨row,p1,p2⟩:=r3 j x hx
      obtain ⟨fa,fb,fc,rfl,hfa,hfb,hfc⟩:=bW.1 p2
      have hlt:j<rows.length:=by omega
      have hry:=r4 (by omega)
      have hne:¬(0=g.nx):=by omega
      simp only[sx,sy,SO.run,↓reduceIte,Nat.reduceEqDiff,Nat.reduceAdd,Nat.reduceLeDiff,h30,h32,r1,hlt,p1,Option.isSome_some,Option.getD_some]
      obtain ⟨g4,hg4⟩:∃g4,g4=(g.new (AObj.cells 4 [[AV.int IntKind.i64 0,AV.nils,AV.nils,AV.nils]] 0 false false)).put g.nx (AObj.cells 4 [[AV.int IntKind.i64 x.card,fa,fb,fc]] 0 false false):=⟨_,rfl⟩
      have a0:g4.h.get 0=.cells 3 [[.int .i64 m.grain,a,b]] 0 false false:=by rw[hg4];simp[H.get_put,hne,hg]
      have a2:g4.nx=g.nx+1:=by rw[hg4];simp
      rw[<-hg4];clear hg4
      rw[show AV.hsl (g.nx+1) 0 0 1 none=AV.hsl g4.nx 0 0 1 none by rw[a2]]
      simp only[sx,SO.run,↓reduceIte,gY (Nat.succ_pos d)]
      cases c5:(decide (1<=x.card)&&decide (x.card<=4)) with
      | false =>
       simp only[sx,sy,SO.run,↓reduceIte,Bool.not_false]
       refine bad' (fun h=>?_)
       simp only[S.am,Bool.and_eq_true] at h
       have:=List.all_eq_true.1 h.1.1.2 x hm
       rw[c5] at this;cases this
      | true =>
       simp only[sx,sy,↓reduceIte,Nat.reduceEqDiff,Bool.not_true,St,h1,h30,h31,h32]
       refine ⟨?_,by simp,?_⟩
       ·rw[if_neg (by omega),a0]
       ·rw[htk,List.all_append,hw]
        simp only[List.all_cons,List.all_nil,c5];rfl
     ·rintro t df g ⟨rfl,⟨h1,h30,-⟩,hg,hnx,hw⟩
      rw[List.take_length] at hw
      have hcard:∀x∈m.nodes,1<=x.card/\x.card<=4:=fun x hx=>by have:=List.all_eq_true.1 hw x hx;simpa using this
      have hs:=Co q2 q3.2 c4 hcard
      simp only[nO,sx,sy,SO.run,↓reduceIte,Nat.reduceAdd,Nat.reduceLeDiff,h1,hg,yw (Nat.succ_pos d) (hms _) hs]
      cases c6:S.bp m with
      | false =>
       simp only[sx,SO.run,↓reduceIte,Nat.reduceEqDiff,Bool.not_false]
       exact bad' (fun h=>by simp[S.am,c6] at h)
      | true =>
       simp only[sx,sy,SO.run,↓reduceIte,Nat.reduceEqDiff,Nat.reduceAdd,Nat.reduceLeDiff,Bool.not_true,h1,hg,CT (Nat.succ_pos d) (hms _) q3.2 (fun x hx p hp=>(Bg c6 x hx p hp).1)]
       cases c7:S.bK m with
       | false =>
        simp only[sx,SO.run,↓reduceIte,Bool.not_false]
        exact bad' (fun h=>by simp[S.am,c7] at h)
       | true =>
        simp only[sx,SO.run,↓reduceIte,Bool.not_true]
        rw[if_pos]
        simp[S.am,c4,c6,c7,q1,q2,q3]
        exact hcard
end
end Hx
end
section
namespace Hx
open Go
noncomputable section
theorem nJ {α:Type}{f:Nat->α->Nat->α->Bool}{i:Nat}{x:α}:∀{l:List α} {j:Nat},(∀b y,l[b]?=some y->f i x (j+b) y=true)->ew f i x j l=true
 | [],_,_=>rfl
 | y::r,j,h=>by
  simp only[ew,Bool.and_eq_true]
  refine ⟨by simpa using h 0 y rfl,nJ fun b z hb=>?_⟩
  have:=h (b+1) z (by simpa using hb)
  rwa [show j+(b+1)=j+1+b by omega] at this
theorem uC {α:Type}{f:Nat->α->Nat->α->Bool}:∀{l:List α} {i:Nat},(∀a b x y,a<b->l[a]?=some x->l[b]?=some y->f (i+a) x (i+b) y=true)->iB f i l=true
 | [],_,_=>rfl
 | x::r,i,h=>by
  simp only[iB,Bool.and_eq_true]
  refine ⟨nJ fun b y hb=>?_,uC fun a b x' y hab ha hb=>?_⟩
  ·have:=h 0 (b+1) x y (by omega) rfl (by simpa using hb)
   rwa [Nat.add_zero,show i+(b+1)=i+1+b by omega] at this
  ·have:=h (a+1) (b+1) x' y (by omega) (by simpa using ha) (by simpa using hb)
   rwa [show i+(a+1)=i+1+a by omega,show i+(b+1)=i+1+b by omega] at this
theorem uF {pm:List Nat}:∀{l:List Foot} {i:Nat},(∀f∈l,f.lk.sr=[])->oH pm i l=true
 | [],_,_=>rfl
 | x::r,i,h=>by
  simp only[oH,h x (by simp)]
  exact uF fun f hf=>h f (by simp[hf])
def HH (pm:List Nat)(ws:List Bool)(L:List (Nat×Nat))(i j:Nat):Bool:=(pm.getD j 0).testBit i || (!(ws.getD i false)&&!(ws.getD j false)) || L.contains (i,j)
def IN (pm:List Nat)(ws:List Bool)(L:List (Nat×Nat)):Bool:=(List.range ws.length).all fun j=>(List.range j).all fun i=>HH pm ws L i j
theorem aX {pm:List Nat}{fs:List Foot}(ws:List Bool)(L:List (Nat×Nat))(hw:All2 (fun (f:Foot) (w:Bool)=>f.lk.sr=[]/\(w=false->f.wr=[])) fs ws)(hd:IN pm ws L=true)
  (hL:∀p∈L,∀x y,fs[p.1]?=some x->fs[p.2]?=some y->bu x y=true):nd pm fs=true:=by
 unfold nd
 rw[aa,if_pos]
 ·exact uF fun f hf=>by
   obtain ⟨i,hi,rfl⟩:=List.mem_iff_getElem.1 hf
   obtain ⟨w,-,h⟩:=hw.get (List.getElem?_eq_getElem hi)
   exact h.1
 ·refine uC fun a b x y hab ha hb=>?_
  simp only[Nat.zero_add]
  obtain ⟨wa,hwa,ka⟩:=hw.get ha
  obtain ⟨wb,hwb,kb⟩:=hw.get hb
  have hbl:=(List.getElem?_eq_some_iff.1 hwb).1
  have:=List.all_eq_true.1 (List.all_eq_true.1 hd b (List.mem_range.2 hbl)) a (List.mem_range.2 hab)
  simp only[HH,Bool.or_eq_true] at this
  rcases this with (h | h) | h
  ·rw[h,Bool.true_or]
  ·simp only[List.getD_eq_getElem?_getD,hwa,hwb,Option.getD_some,Bool.and_eq_true,Bool.not_eq_true'] at h
   have ex:=ka.2 h.1
   have ey:=kb.2 h.2
   simp only[bu,eW,dL,ex,ey,Bool.and_self,Bool.or_true]
  ·rw[hL (a,b) (List.contains_iff_mem.1 h) x y ha hb,Bool.or_true]
theorem uj {x y:Foot}{b:Nat}(hx:∀i∈x.wr,b<=i)(hy:y.wr=[])(hb:y.lk.big=false)(hr:∀i∈y.lk.rd,i<b)(hs:y.lk.sr=[]):bu x y=true:=by
 have m1:meets x.wr []=false:=by simp[meets]
 have m2:meets x.wr y.lk.rd=false:=by
  simp only[meets,List.any_eq_false]
  intro i hi h
  have h1:=hx i hi
  have h2:=hr i (List.contains_iff_mem.1 h)
  omega
 simp only[bu,eW,dL,hy,hb,hs,m1,m2,fst1,List.map_nil,Bool.not_false,Bool.and_self,Bool.and_true]
 split<;>rfl
end
end Hx
end
