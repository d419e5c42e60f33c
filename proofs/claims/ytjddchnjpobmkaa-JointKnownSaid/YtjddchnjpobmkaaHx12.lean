/- A part of the proof: an interpreter over abstract values, shown right against the model, and what the functions of the chapter compute on it. -/
import Derived.KernelRfl
import Derived.Test.YtjddchnjpobmkaaHx11
set_option linter.unusedVariables false
set_option linter.unusedSimpArgs false
set_option linter.unnecessarySimpa false
section
namespace Hx
open Go
noncomputable section
def jy (n:Net)(xs ys zs w k:Nat):Nat->Int:=fun i=>if i<k then ((S.ax n xs ys zs i w:Nat):Int) else 0
theorem F3 (f:Nat->Int)(k:Nat)(x:Int)(h:k<4):(if k+1<=(kJ m_ f).length then some ((kJ m_ f).take k++AV.int .u64 x::(kJ m_ f).drop (k+1)) else none)=some (kJ m_ fun i=>if i=k then x else f i):=by
 have:k=0\/k=1\/k=2\/k=3:=by omega
 rcases this with rfl | rfl | rfl | rfl<;>rfl
def LDn (xs ys zs p q r v:Nat):List (Nat×AV):=[(10,.hptr q 0 0 0),(13,.hptr p 0 0 0),(17,.hptr r 0 0 0),(18,.hptr v 0 0 0),(104,se xs ys zs),(8,.hptr 1 0 0 0),(9,.hptr 2 0 0 0)]
set_option maxRecDepth 20000 in
theorem EV {d lo xs ys zs p q r v mb w:Nat}{rd:Option Nat}{n:Net}{y:QnM}{b fl S_ u:AV}{Q:QT}{t:T}{g0:G}(hd:0<d)(hr:NR n)(hx:xs<18446744073709551616)(hy:ys<18446744073709551616)(hz:zs<18446744073709551616)
  (hc:Rp.rp NoP 0 .nil y [.int .i64 n.grain,b,fl,S_]) (hq:QnOk n y)
  (hu:SlR (fun i=>lo<=i/\i<v) 0 g0.h (S.ak (S.aa n) (w:Int)) u)
  (hp:p<v) (hq':q<v) (hr':r<v) (hm':mb+4<=v) (hv:v<g0.nx)
  (k13:g0.h.get p=.cells 4 [[.hmap mb,.hmap (mb+1),.hmap (mb+2),.hmap (mb+3)]] 0 false false) (k10:g0.h.get q=.cells 4 [[.int .i64 n.grain,b,fl,S_]] 0 false false) (k17:g0.h.get r=.cells 3 [[.int .i64 (w:Int),.int .i64 (S.wt n w),u]] 0 false false)
  (h0:DpM n xs ys zs mb (S.am n) 0 g0.h) (k18:g0.h.get v=.cells 4 [kJ m_ (jy n xs ys zs w 0)] 0 false false) (ht:St t (LDn xs ys zs p q r v)) (h105:tat t 105=.int .i64 0)
  (fin:∀t g,St t (LDn xs ys zs p q r v)->g0.nx<=g.nx->(∀i,i≠v->i<g0.nx->g.h.get i=g0.h.get i)->g.h.get v=.cells 4 [kJ m_ (jy n xs ys zs w 4)] 0 false false->Q (.exit 6) t [] g):wpL (wp C0 d rd eJ) Q t [] g0:=by
 simp only[eJ]
 refine pA (m:=4) rfl (by omega) (fun k t df g=>df=[]/\St t (LDn xs ys zs p q r v)/\g0.nx<=g.nx/\(∀i,i≠v->i<g0.nx->g.h.get i=g0.h.get i)/\g.h.get v=.cells 4 [kJ m_ (jy n xs ys zs w k)] 0 false false) ⟨rfl,ht,Nat.le_refl _,fun _ _ _=>rfl,k18⟩ h105 (by decide) (by rintro i t df g v s (rfl | rfl | rfl)<;>simp[St,LDn,sx]) ?_ ?_
 ·rintro k t df g hk ⟨rfl,⟨h10,h13,h17,h18,h104,h8,h9,-⟩,hnx,hfr,kv⟩ h105
  have ix:=FG (fun i=>(((S.ay xs ys zs)[i]?.getD 0:Nat):Int)) k hk
  have hds:(S.ay xs ys zs)[k]?.getD 0<18446744073709551616:=by
   obtain ⟨s,hs⟩:∃s,(S.ay xs ys zs)[k]?=some s:=⟨_,List.getElem?_eq_getElem (by simp[S.ay];omega)⟩
   rw[hs];exact yF hx hy hz s (List.mem_of_getElem? hs)
  obtain ⟨L,l1,l2⟩:=h0.hm k hk
  obtain ⟨K,hKd⟩:∃K,K=S.bu n xs ys zs k w:=⟨_,rfl⟩
  obtain ⟨cm,cb⟩:=kK hr xs ys zs k w
  have hmK:mgt L K=((S.ax n xs ys zs k w:Nat):Int):=by rw[l2,<-cm,hKd];simp;rfl
  obtain ⟨sk,hsk⟩:∃sk,sk=(S.ay xs ys zs)[k]?.getD 0:=⟨_,rfl⟩
  rw[<-hsk] at hds
  refine bV (P:=fun t' df g'=>df=[]/\g'=g/\St t' ((19,.int .i64 (k:Int))::(20,.int .u64 (sk:Int))::(105,.int .i64 (k:Int))::LDn xs ys zs p q r v)) ?_ ?_
  ·simp only[sz,simprocAttr,h104,h105,se,ix]
   simp[St,LDn,se,sx,h10,h13,h17,h18,h104,h8,h9,h105,hsk]
  clear h10 h13 h17 h18 h104 h105 h8 h9
  rintro t df g' ⟨rfl,rfl,h19,h20,h105,h10,h13,h17,h18,h104,h8,h9,-⟩
  have hinC:=jC (fun c hc=>(hr.cs c hc).1) (w:Int)
  have hu':SlR (fun _=>True) 0 g'.h (S.ak (S.aa n) (w:Int)) u:=hu.wd fun i hi=>⟨trivial,hfr i (by omega) (by omega)⟩
  have kn:∀g:G,g.h=g'.h->aw C0 d N.au [.agg [.int .i64 n.grain,b,fl,S_],u,.int .u64 (sk:Int)] g=.val (.int .i64 K):=fun g hgh=>by
   have:=tD (d:=d) (g:=g) (v:=.agg [.int .i64 n.grain,b,fl,S_]) (w:=u) (s:=sk) hd hr ⟨_,rfl,Rp.tree hc (Nat.le_refl 0)⟩ hq (hgh ▸ hu') hinC hds
   rw[this,hKd,S.bu,hsk,S.aU]
  have g13:g'.h.get p=.cells 4 [[.hmap mb,.hmap (mb+1),.hmap (mb+2),.hmap (mb+3)]] 0 false false:=by rw[hfr p (by omega) (by omega),k13]
  have g10:g'.h.get q=.cells 4 [[.int .i64 n.grain,b,fl,S_]] 0 false false:=by rw[hfr q (by omega) (by omega),k10]
  have g17:g'.h.get r=.cells 3 [[.int .i64 (w:Int),.int .i64 (S.wt n w),u]] 0 false false:=by rw[hfr r (by omega) (by omega),k17]
  have gm:g'.h.get (mb+k)=.map (mcl ik L):=by rw[hfr _ (by omega) (by omega),l1]
  have i1:oQ 4 1 (.hptr p 0 0 0) (.int .i64 (k:Int))=.val (.hptr p 0 0 k):=by have:=te 4 1 p 0 0 0 .i64 hk;simpa using this
  have i3:oQ 4 1 (.hptr v 0 0 0) (.int .i64 (k:Int))=.val (.hptr v 0 0 k):=by have:=te 4 1 v 0 0 0 .i64 hk;simpa using this
  have i2:=ixm mb p k hk
  have w1:IntKind.wrap .u64 (mgt L K)=((S.ax n xs ys zs k w:Nat):Int):=by rw[hmK,p_ (by omega) (by omega)]
  have lk:∀(t:T) (g:G),tat t 112=.hmap (mb+k)->tat t 117=.int .i64 K->g.h.get (mb+k)=.map (mcl ik L)->(bB C0 (.lookup 118 (.tmp 112) (.tmp 117) false)).run (I C0) d rd t g=.val (.int .i64 (mgt L K)):=fun t g a b c=>y5 a b c
  have pt:=F3 (jy n xs ys zs w k) k ((S.ax n xs ys zs k w:Nat):Int) hk
  have e:kJ m_ (jy n xs ys zs w (k+1))=kJ m_ (fun i=>if i=k then ((S.ax n xs ys zs k w:Nat):Int) else jy n xs ys zs w k i):=xU fun i _=>by
   unfold jy
   by_cases hi:i=k
   ·subst hi;simp
   ·have:i<k+1↔i<k:=by omega
    simp only[this,if_neg hi]
  simp only[sz,simprocAttr,sf,h10,h13,h17,h18,h19,h20,g10,g13,g17,i1,i2,i3,kn,lk,gm,w1,kv,pt,tA,dk]
  rw[e]
  refine ⟨?_,⟨by simp[St,LDn,se,sx,h10,h13,h17,h18,h104,h8,h9],by omega,fun i h1 h2=>?_,by simp[H.get_put]⟩,h105⟩
  ·simp only[List.reverse_cons,List.reverse_nil,List.nil_append,List.cons_append]
   exact pp [(false,false),(false,false),(false,false),(false,false),(false,false),(false,false),(false,false),(false,false),(false,false),(false,true),(false,false),(false,false),(true,false)] [] (by simp[All2,af,aD]) (by decide) (by decide) (by simp)
  ·simp[H.get_put,h1];exact hfr i h1 h2
 ·rintro t df g ⟨rfl,ht,hnx,hfr,kv⟩
  exact fin t g ht hnx hfr kv
theorem Ec (v k:Nat)(h:k<4):oQ 4 1 (.hptr v 0 0 0) (.int .i64 (k:Int))=.val (.hptr v 0 0 k):=by
 have:=te 4 1 v 0 0 0 .i64 h;simpa using this
theorem Fq {d xs ys zs w v:Nat}{rd:Option Nat}{n:Net}{Q:QT}{t:T}{g:G}(hd:0<d)(hr:NR n)
  (kp:g.h.get v=.cells 4 [kJ m_ (jy n xs ys zs w 4)] 0 false false) (ht:St t [(18,.hptr v 0 0 0),(8,.hptr 1 0 0 0),(9,.hptr 2 0 0 0)])
  (q1:g.h.get 1=.cells 1 [[.bool false]] 0 false false) (q2:g.h.get 2=.cells 1 [[.int .i64 0]] 0 false false)
  (bad:∀t,S.be n xs ys zs w=true->Q .ret t [] ((g.put 1 (.cells 1 [[.bool true]] 0 false false)).put 2 (.cells 1 [[.int .i64 0]] 0 false false)))
  (fin:∀t',S.be n xs ys zs w=false->Q .norm t' [] g):wp C0 d rd fk Q t [] g:=by
 have i0:oQ 4 1 (.hptr v 0 0 0) (.int .i64 0)=.val (.hptr v 0 0 0):=Ec v 0 (by omega)
 have i1:oQ 4 1 (.hptr v 0 0 0) (.int .i64 1)=.val (.hptr v 0 0 1):=Ec v 1 (by omega)
 have i2:oQ 4 1 (.hptr v 0 0 0) (.int .i64 2)=.val (.hptr v 0 0 2):=Ec v 2 (by omega)
 have i3:oQ 4 1 (.hptr v 0 0 0) (.int .i64 3)=.val (.hptr v 0 0 3):=Ec v 3 (by omega)
 have l:∀k,k<4->ff (.cells 4 [kJ m_ (jy n xs ys zs w 4)] 0 false false) 0 0 false 1 k=.val (.int .u64 ((S.ax n xs ys zs k w:Nat):Int)):=fun k hk=>by rw[ld4 m_ _ k hk,jy,if_pos hk];rfl
 have l0:=l 0 (by omega)
 have l1:=l 1 (by omega)
 have l2:=l 2 (by omega)
 have l3:=l 3 (by omega)
 obtain ⟨-,b0⟩:=kK hr xs ys zs 0 w
 obtain ⟨-,b1⟩:=kK hr xs ys zs 1 w
 obtain ⟨-,b2⟩:=kK hr xs ys zs 2 w
 obtain ⟨-,b3⟩:=kK hr xs ys zs 3 w
 have hdep:S.be n xs ys zs w = !decide (S.aR (S.ax n xs ys zs 0 w) (S.ax n xs ys zs 1 w)=S.aR (S.ax n xs ys zs 2 w) (S.ax n xs ys zs 3 w)):=rfl
 clear l
 generalize S.ax n xs ys zs 0 w=m0 at *
 generalize S.ax n xs ys zs 1 w=m1 at *
 generalize S.ax n xs ys zs 2 w=m2 at *
 generalize S.ax n xs ys zs 3 w=m3 at *
 have k1:∀g,aw C0 d N.aq [.int .u64 (m0:Int),.int .u64 (m1:Int)] g=.val (.tup [.int .u64 ((S.aR m0 m1).1:Int),.int .u64 ((S.aR m0 m1).2:Int)]):=fun g=>sR hd b0 b1
 have k2:∀g,aw C0 d N.aq [.int .u64 (m2:Int),.int .u64 (m3:Int)] g=.val (.tup [.int .u64 ((S.aR m2 m3).1:Int),.int .u64 ((S.aR m2 m3).2:Int)]):=fun g=>sR hd b2 b3
 generalize S.aR m0 m1=A at *
 generalize S.aR m2 m3=B at *
 obtain ⟨a1,a2⟩:=A
 obtain ⟨b1',b2'⟩:=B
 unfold fk
 refine bV (P:=fun t' df g'=>df=[]/\g'=g/\St t' [(21,.int .u64 (a1:Int)),(22,.int .u64 (a2:Int)),(18,.hptr v 0 0 0),(8,.hptr 1 0 0 0),(9,.hptr 2 0 0 0)]) ?_ ?_
 ·obtain ⟨h18,h8,h9,-⟩:=ht
  simp only[sz,simprocAttr,h18,kp,i0,i1,l0,l1,k1]
  simp[St,sx,h18,h8,h9]
 clear ht
 rintro t1 df g1 ⟨rfl,rfl,ht⟩
 refine bV (P:=fun t' df g'=>df=[]/\g'=g1/\St t' [(23,.int .u64 (b1':Int)),(24,.int .u64 (b2':Int)),(21,.int .u64 (a1:Int)),(22,.int .u64 (a2:Int)),(8,.hptr 1 0 0 0),(9,.hptr 2 0 0 0)]) ?_ ?_
 ·obtain ⟨h21,h22,h18,h8,h9,-⟩:=ht
  simp only[sz,simprocAttr,h18,kp,i2,i3,l2,l3,k2]
  simp[St,sx,h21,h22,h8,h9]
 clear ht
 rintro t2 df g2 ⟨rfl,rfl,h23,h24,h21,h22,h8,h9,-⟩
 by_cases e1:b1'=a1
 ·by_cases e2:b2'=a2
  ·have hD:S.be n xs ys zs w=false:=by rw[hdep,e1,e2];simp
   have q1:decide ((a1:Int)=(a1:Int))=true:=by simp
   have q2:decide ((a2:Int)=(a2:Int))=true:=by simp
   rw[e1] at h23
   rw[e2] at h24
   simp only[sz,simprocAttr,h21,h22,h23,h24,q1,q2]
   exact fin _ hD
  ·have hD:S.be n xs ys zs w=true:=by rw[hdep,decide_eq_false (fun h=>e2 (congrArg Prod.snd h).symm)];rfl
   have q1':decide ((a1:Int)=(a1:Int))=true:=by simp
   have q2':decide ((b2':Int)=(a2:Int))=false:=by simp;omega
   rw[e1] at h23
   simp only[sz,simprocAttr,h21,h22,h23,h24,q1',q2',h8,h9,q1,q2]
   exact bad _ hD
 ·have hD:S.be n xs ys zs w=true:=by rw[hdep,decide_eq_false (fun h=>e1 (congrArg Prod.fst h).symm)];rfl
  have q1':decide ((b1':Int)=(a1:Int))=false:=by simp;omega
  simp only[sz,simprocAttr,h21,h22,h23,h24,q1',h8,h9,q1,q2]
  exact bad _ hD
theorem DpM.next {n:Net}{xs ys zs mb j:Nat}{h:H}(hM:DpM n xs ys zs mb j 4 h):DpM n xs ys zs mb (j+1) 0 h:=⟨fun i hi=>by
 obtain ⟨L,l1,l2⟩:=hM.hm i hi
 refine ⟨L,l1,fun K=>?_⟩
 rw[l2,S.aT,S.aT,S.ah]
 simp only[hi,true_and,Nat.not_lt_zero,false_and,if_false,Int.add_zero,decide_eq_true_eq]
 rfl⟩
theorem DpM.cong {n:Net}{xs ys zs mb j k:Nat}{h h':H}(hM:DpM n xs ys zs mb j k h)(hh:∀i,i<4->h'.get (mb+i)=h.get (mb+i)):DpM n xs ys zs mb j k h':=⟨fun i hi=>by
 obtain ⟨L,l1,l2⟩:=hM.hm i hi
 exact ⟨L,by rw[hh i hi,l1],l2⟩⟩
theorem qK {C:Cfg}{d:Nat}{r:List SR}{t:T}{g:G}{K:AV->G->Prop}{i j:Nat}(hi:g.h.get i=.dfr true)(hj:g.h.get j=.dfr true)(hij:i≠j)(h:nY r t ((g.put i (.dfr false)).put j (.dfr false)) fun vs=>K (dO vs) ((g.put i (.dfr false)).put j (.dfr false))):pR C d r t [.mark i,.mark j] g K:=by
 unfold pR
 have:cI (I C) d [.mark i,.mark j] g=some ((g.put i (.dfr false)).put j (.dfr false)):=by
  have hj':(g.put i (.dfr false)).h.get j=.dfr true:=by simp[H.get_put,show ¬j=i by omega,hj]
  simp only[cI,G.get_eq,hi,hj']
 rw[this];exact h
def S.bG (l xs ys zs:Nat):Bool:=(!decide ((xs ||| ys ||| zs) / 2 ^ l=0)) || !decide (xs &&& ys=0) || !decide (xs &&& zs=0) || !decide (ys &&& zs=0)
def S.a7 (n:Net)(xs ys zs:Nat):Int:=if S.aE n then (if S.bG n.nodes.length xs ys zs then 2 else 0) else 50
def S.aS (n:Net)(xs ys zs:Nat):Bool:=decide (S.a7 n xs ys zs=0)&&S.ba n xs ys zs
def LDd (xs ys zs:Nat):List (Nat×AV):=[(1,.int .u64 (xs:Int)),(2,.int .u64 (ys:Int)),(3,.int .u64 (zs:Int)),(8,.hptr 1 0 0 0),(9,.hptr 2 0 0 0),(10,.hptr 3 0 0 0)]
structure DpS (n:Net) (xs ys zs:Nat) (b a3 a4:AV) (g:G):Prop where
 h1:g.h.get 1=.cells 1 [[.bool false]] 0 false false
 h2:g.h.get 2=.cells 1 [[.int .i64 0]] 0 false false
 h3:g.h.get 3=.cells 4 [[.int .i64 n.grain,b,a3,a4]] 0 false false
 h4:g.h.get 4=.cells 4 [[.int .u64 (((S.ay xs ys zs)[0]?.getD 0:Nat):Int),.int .u64 (((S.ay xs ys zs)[1]?.getD 0:Nat):Int),.int .u64 (((S.ay xs ys zs)[2]?.getD 0:Nat):Int),.int .u64 (((S.ay xs ys zs)[3]?.getD 0:Nat):Int)]] 0 false false
 h9:g.h.get 9=.cells 4 [[.hmap 5,.hmap (5+1),.hmap (5+2),.hmap (5+3)]] 0 false false
theorem Ed {d xs ys zs l:Nat}{gr:Int}{b a3 a4:AV}{Q:QT}{t:T}{g:G}(hx:xs<18446744073709551616)(hy:ys<18446744073709551616)(hz:zs<18446744073709551616)(hb:∀g,gX .slice b g=.val (.int .i64 (l:Int)))
  (ht:St t (LDd xs ys zs)) (k3:g.h.get 3=.cells 4 [[.int .i64 gr,b,a3,a4]] 0 false false) (k1:g.h.get 1=.cells 1 [[.bool false]] 0 false false) (k2:g.h.get 2=.cells 1 [[.int .i64 0]] 0 false false)
  (bad:∀t,S.bG l xs ys zs=true->tat t 8=.hptr 1 0 0 0->tat t 9=.hptr 2 0 0 0->Q .ret t [] ((g.put 1 (.cells 1 [[.bool false]] 0 false false)).put 2 (.cells 1 [[.int .i64 2]] 0 false false)))
  (fin:∀t,S.bG l xs ys zs=false->St t (LDd xs ys zs)->Q .norm t [] g):wp C0 d none (sQ [oM 33 1,oM 34 2,o 35 (.bin .or (.t 33) (.t 34)),oM 36 3,o 37 (.bin .or (.t 35) (.t 36)),oF 38 0 10,oF 39 1 38,oL 40 39,oN 41 40,o 42 (.bin .shr (.t 37) (.t 41)),o 43 (.bin .neq (.t 42) (.k (.int .u64 0))),oM 44 43,og 45 44 false (.mv (.t 1)),og 46 44 false (.mv (.t 2)),og 47 44 false (.bin .and (.t 45) (.t 46)),og 48 44 false (.bin .neq (.t 47) (.k (.int .u64 0))),o 49 (.pick (.t 44) (.k (.bool true)) (.t 48)),oM 50 49,og 51 50 false (.mv (.t 1)),og 52 50 false (.mv (.t 3)),og 53 50 false (.bin .and (.t 51) (.t 52)),og 54 50 false (.bin .neq (.t 53) (.k (.int .u64 0))),o 55 (.pick (.t 50) (.k (.bool true)) (.t 54)),oM 56 55,og 57 56 false (.mv (.t 2)),og 58 56 false (.mv (.t 3)),og 59 56 false (.bin .and (.t 57) (.t 58)),og 60 56 false (.bin .neq (.t 59) (.k (.int .u64 0))),o 61 (.pick (.t 56) (.k (.bool true)) (.t 60))] (.cond (.t 61) (sQ [oz (.store 1 (.t 8) (.k (.bool false))),oz (.store 1 (.t 9) (qI 2))] (.ret)) (.skip))) Q t [] g:=by
 obtain ⟨h1,h2,h3,h8,h9,h10,-⟩:=ht
 have o1:=kY xs ys hx hy
 have o2:=kY (xs ||| ys) zs (q_ hx hy) hz
 have s1:=od .i64 (xs ||| ys ||| zs) l (q_ (q_ hx hy) hz)
 have a1:=l_ xs ys hx hy
 have a2:=l_ xs zs hx hz
 have a3':=l_ ys zs hy hz
 have hB:S.bG l xs ys zs=((!decide ((xs ||| ys ||| zs) / 2 ^ l=0)) || !decide (xs &&& ys=0) || !decide (xs &&& zs=0) || !decide (ys &&& zs=0)):=rfl
 generalize (xs ||| ys ||| zs) / 2 ^ l=A at *
 generalize xs &&& ys=B at *
 generalize xs &&& zs=C at *
 generalize ys &&& zs=D at *
 have dz:∀m:Nat,decide ((m:Int)=0)=decide (m=0):=fun m=>by rw[Bool.eq_iff_iff];simp
 have d1:=dz A
 have d2:=dz B
 have d3:=dz C
 have d4:=dz D
 by_cases c1:A=0
 ·rw[decide_eq_true c1] at d1 hB
  by_cases c2:B=0
  ·rw[decide_eq_true c2] at d2 hB
   by_cases c3:C=0
   ·rw[decide_eq_true c3] at d3 hB
    by_cases c4:D=0
    ·rw[decide_eq_true c4] at d4 hB
     simp only[sz,simprocAttr,h1,h2,h3,h8,h9,h10,k3,hb,o1,o2,s1,a1,a2,a3',d1,d2,d3,d4]
     exact fin _ hB (by simp[St,LDd,sx,h1,h2,h3,h8,h9,h10])
    ·rw[decide_eq_false c4] at d4 hB
     simp only[sz,simprocAttr,h1,h2,h3,h8,h9,h10,k3,hb,o1,o2,s1,a1,a2,a3',d1,d2,d3,d4,k1,k2]
     exact bad _ hB (by simp[sx,h8]) (by simp[sx,h9])
   ·rw[decide_eq_false c3] at d3 hB
    simp only[sz,simprocAttr,h1,h2,h3,h8,h9,h10,k3,hb,o1,o2,s1,a1,a2,a3',d1,d2,d3,k1,k2]
    exact bad _ (by simpa using hB) (by simp[sx,h8]) (by simp[sx,h9])
  ·rw[decide_eq_false c2] at d2 hB
   simp only[sz,simprocAttr,h1,h2,h3,h8,h9,h10,k3,hb,o1,o2,s1,a1,a2,a3',d1,d2,k1,k2]
   exact bad _ (by simpa using hB) (by simp[sx,h8]) (by simp[sx,h9])
 ·rw[decide_eq_false c1] at d1 hB
  simp only[sz,simprocAttr,h1,h2,h3,h8,h9,h10,k3,hb,o1,o2,s1,a1,a2,a3',d1,k1,k2]
  exact bad _ (by simpa using hB) (by simp[sx,h8]) (by simp[sx,h9])
set_option maxRecDepth 20000 in
theorem E6 {d xs ys zs:Nat}{n:Net}{b a3 a4:AV}{Q:QT}{t:T}{g:G}{c:SC}(hx:xs<18446744073709551616)(hy:ys<18446744073709551616)(hz:zs<18446744073709551616)(hn:g.nx=4)
  (ht:St t (LDd xs ys zs)) (k3:g.h.get 3=.cells 4 [[.int .i64 n.grain,b,a3,a4]] 0 false false) (k1:g.h.get 1=.cells 1 [[.bool false]] 0 false false) (k2:g.h.get 2=.cells 1 [[.int .i64 0]] 0 false false)
  (fin:∀t g',g'.nx=10->DpS n xs ys zs b a3 a4 g'->DpM n xs ys zs 5 0 0 g'.h->St t ((12,.hptr 4 0 0 0)::(13,.hptr 9 0 0 0)::LDd xs ys zs)->wp C0 d none c Q t [] g'):wp C0 d none (sQ [oM 62 1,oM 63 2,o 64 (.bin .or (.t 62) (.t 63)),oM 65 3,o 66 (.bin .or (.t 64) (.t 65)),oM 67 3,oM 68 1,oM 69 3,o 70 (.bin .or (.t 68) (.t 69)),oM 71 2,oM 72 3,o 73 (.bin .or (.t 71) (.t 72)),o 74 (.build [.int .u64 0,.int .u64 0,.int .u64 0,.int .u64 0] [(0,1),(1,1),(2,1),(3,1)] [.t 66,.t 67,.t 70,.t 73]),o 12 (.alloc [.int .u64 0,.int .u64 0,.int .u64 0,.int .u64 0]),oz (.store 4 (.t 12) (.t 74))] (sQ [o 75 (.raw (.makeMap 118 none)),o 76 (.raw (.makeMap 118 none)),o 77 (.raw (.makeMap 118 none)),o 78 (.raw (.makeMap 118 none)),o 79 (.build [.nilm,.nilm,.nilm,.nilm] [(0,1),(1,1),(2,1),(3,1)] [.t 75,.t 76,.t 77,.t 78]),o 13 (.alloc [.nilm,.nilm,.nilm,.nilm]),oz (.store 4 (.t 13) (.t 79))] c)) Q t [] g:=by
 obtain ⟨h1,h2,h3,h8,h9,h10,-⟩:=ht
 have o1:=kY xs ys hx hy
 have o2:=kY (xs ||| ys) zs (q_ hx hy) hz
 have o3:=kY xs zs hx hz
 have o4:=kY ys zs hy hz
 have b2:∀x y z w:Nat,eR [.nilm,.nilm,.nilm,.nilm] [((0,1),.hmap x),((1,1),.hmap y),((2,1),.hmap z),((3,1),.hmap w)]=some [.hmap x,.hmap y,.hmap z,.hmap w]:=fun _ _ _ _=>rfl
 have hrm:∀(d:Nat) (rd:Option Nat) (t:T) (g:G),(bB C0 (.makeMap 118 none)).run (I C0) d rd t g=.upd (.hmap g.nx) (g.new (.map [])):=fun d rd t g=>BM d rd t g
 have st1:∀(g:G) (i:Nat) (x y z w:Int),gR (.cells 4 [[.int .u64 0,.int .u64 0,.int .u64 0,.int .u64 0]] 0 false false) g i 0 0 4 0 (.agg [.int .u64 x,.int .u64 y,.int .u64 z,.int .u64 w])=.upd .undef (g.put i (.cells 4 [[.int .u64 x,.int .u64 y,.int .u64 z,.int .u64 w]] 0 false false)):=fun _ _ _ _ _ _=>rfl
 have st2:∀(g:G) (i x y z w:Nat),gR (.cells 4 [[.nilm,.nilm,.nilm,.nilm]] 0 false false) g i 0 0 4 0 (.agg [.hmap x,.hmap y,.hmap z,.hmap w])=.upd .undef (g.put i (.cells 4 [[.hmap x,.hmap y,.hmap z,.hmap w]] 0 false false)):=fun _ _ _ _ _ _=>rfl
 refine bV (P:=fun t' df g'=>df=[]/\g'.nx=5/\g'.h.get 1=.cells 1 [[.bool false]] 0 false false/\g'.h.get 2=.cells 1 [[.int .i64 0]] 0 false false/\g'.h.get 3=.cells 4 [[.int .i64 n.grain,b,a3,a4]] 0 false false/\g'.h.get 4=.cells 4 [[.int .u64 ((xs ||| ys ||| zs:Nat):Int),.int .u64 (zs:Int),.int .u64 ((xs ||| zs:Nat):Int),.int .u64 ((ys ||| zs:Nat):Int)]] 0 false false/\St t' ((12,.hptr 4 0 0 0)::LDd xs ys zs)) ?_ ?_
 ·simp only[sz,simprocAttr,h1,h2,h3,o1,o2,o3,o4,st1,hn]
  simp[H.get_put,hn,k1,k2,k3,St,LDd,sx,h1,h2,h3,h8,h9,h10]
 clear h1 h2 h3 h8 h9 h10 k1 k2 k3
 rintro t df g1 ⟨rfl,n1,k1,k2,k3,k4,h12,h1,h2,h3,h8,h9,h10,-⟩
 refine bV (P:=fun t' df g'=>df=[]/\g'.nx=10/\DpS n xs ys zs b a3 a4 g'/\DpM n xs ys zs 5 0 0 g'.h/\St t' ((12,.hptr 4 0 0 0)::(13,.hptr 9 0 0 0)::LDd xs ys zs)) ?_ ?_
 ·simp only[sz,simprocAttr,hrm,n1,b2,st2]
  refine ⟨⟨by simp[H.get_put,n1,k1],by simp[H.get_put,n1,k2],by simp[H.get_put,n1,k3],by simp[H.get_put,n1,k4,S.ay],by simp[H.get_put,n1]⟩,⟨fun i hi=>⟨[],?_,fun K=>by simp[mgt,S.aT,S.ah]⟩⟩,by simp[St,LDd,sx,h1,h2,h3,h8,h9,h10,h12]⟩
  have:i=0\/i=1\/i=2\/i=3:=by omega
  rcases this with rfl | rfl | rfl | rfl<;>simp[H.get_put,n1,mcl]
 rintro t df g2 ⟨rfl,n2,hS,hM,ht⟩
 exact fin t g2 n2 hS hM ht
structure DpJ (g0:G) (n:Net) (xs ys zs j:Nat) (h:H):Prop where
 fr:∀i,i<10->(i<5\/9<=i)->h.get i=g0.h.get i
 m:DpM n xs ys zs 5 j 0 h
theorem EX {d xs ys zs t1 t2 ky ke:Nat}{n:Net}{y:QnM}{cs:List AV}{b a3 a4 z:AV}{Q:QT}{t:T}{g:G}(hd:0<d)(hr:NR n)(hq:QnOk n y)(hcs:Rp.rp NoP ky .nil y cs)(hc:Rp.rp NoP 0 .nil y [.int .i64 n.grain,b,a3,a4])(hz':SlR NoP ke .nil ([]:List Int) z)(hx:xs<18446744073709551616)(hy:ys<18446744073709551616)(hz:zs<18446744073709551616)(hn:g.nx=10)
  (hS:DpS n xs ys zs b a3 a4 g) (hM:DpM n xs ys zs 5 0 0 g.h) (ht:St t ((81,.clo N.aa [] [.tptr t1 4 [cs] 0 0,.tptr t2 1 [[z]] 0 0])::(12,.hptr 4 0 0 0)::(13,.hptr 9 0 0 0)::LDd xs ys zs))
  (fin:∀g',12<=g'.nx->g'.h.get 10=.dfr true->DpS n xs ys zs b a3 a4 g'->DpM n xs ys zs 5 (S.am n) 0 g'.h->Q .norm t [.mark 10] g'):wp C0 d none (.rng 146 (.t 81) [82] eQ eE) Q t [] g:=by
 obtain ⟨h81,h12,h13,h1,h2,h3,h8,h9,h10,-⟩:=ht
 obtain ⟨W1,W2,W3⟩:=hr.wl
 refine jq (t1:=t1) (t2:=t2) (n:=n) (y:=y) (e:=[]) (cs:=cs) (w:=z) hd hr hq hcs hz' (by simp) h81 (by decide)
  (fun j h=>DpJ g n xs ys zs j h) (fun _=>False) (fun j h h' hh hg=>⟨fun i h1 h2=>by rw[hh i (by omega),hg.fr i h1 h2],hg.m.cong fun i hi=>hh _ (by omega)⟩) (fun _ _ _ h=>h) ⟨fun _ _ _=>rfl,hM⟩ ?_ ?_ ?_ (fun _ h=>h.elim)
 ·intro j h hj hmt hg
  simp[S.jm] at hmt
 ·intro j u g2 hj hmt hg hn2 hu
  simp only[sz,simprocAttr,eQ]
  refine ⟨wK _ _ _,?_⟩
  intro g3 n3 f3
  obtain ⟨r,hre⟩:∃r,r=g2.nx:=⟨_,rfl⟩
  rw[<-hre]
  have jo:∀i,i<g.nx->g3.h.get i=g2.h.get i:=fun i hi=>by rw[f3 i (by omega),if_neg (by omega),if_neg (by omega)]
  have j14:g3.h.get r=.cells 3 [[.int .i64 (j:Int),.int .i64 (S.wt n j),u]] 0 false false:=by rw[f3 _ (by omega),if_pos hre];rfl
  have j3:g3.h.get 3=.cells 4 [[.int .i64 n.grain,b,a3,a4]] 0 false false:=by rw[jo 3 (by omega),hg.fr 3 (by omega) (by omega),hS.h3]
  have j4:=hS.h4
  rw[<-hg.fr 4 (by omega) (by omega),<-jo 4 (by omega)] at j4
  have j9:g3.h.get 9=.cells 4 [[.hmap 5,.hmap (5+1),.hmap (5+2),.hmap (5+3)]] 0 false false:=by rw[jo 9 (by omega),hg.fr 9 (by omega) (by omega),hS.h9]
  have hu3:SlR (fun i=>12<=i/\i<g3.nx) 0 g3.h (S.ak (S.aa n) (j:Int)) u:=hu.wd fun i hi=>⟨⟨by omega,by omega⟩,by rw[f3 i (by omega),if_neg (by omega),if_neg (by omega)]⟩
  have hn3:r<g3.nx:=by omega
  have l4:∀x y z w:Int,ff (.cells 4 [[.int .u64 x,.int .u64 y,.int .u64 z,.int .u64 w]] 0 false false) 0 0 true 4 0=.val (.agg [.int .u64 x,.int .u64 y,.int .u64 z,.int .u64 w]):=fun _ _ _ _=>rfl
  unfold eE
  rw[nE]
  refine bV (P:=fun t' df g'=>df=[]/\g'=g3/\St t' (LDm xs ys zs 9 3 r)/\tat t' 84=.int .i64 0) ?_ ?_
  ·simp only[sz,simprocAttr,h12,j4,l4]
   simp[St,LDm,se,sx,h10,h13]
  rintro t df g4 ⟨rfl,rfl,ht,h84⟩
  simp only[nE,pT]
  refine E1 (lo:=12) (p:=9) (q:=3) (r:=r) (mb:=5) (j:=j) (n:=n) (y:=y) (b:=b) (fl:=a3) (S_:=a4) (u:=u) hd hr hx hy hz (by omega) hc hq hu3 (by omega) (by omega) (by omega) (by omega) j9 j3 j14 (hg.m.cong fun i hi=>jo _ (by omega)) ht h84 ?_
  intro t g5 hK hM5
  simp only[iC,if_true]
  refine ⟨rfl,hK.nx,fun i h1 h2=>hK.fr i (by omega) h2,.inl ⟨rfl,fun i h1 h2=>?_,hM5.next⟩⟩
  rw[hK.fr i (by omega) (by omega),jo i (by omega),hg.fr i h1 h2]
 ·intro g' hg hn' hdf
  rw[hn] at hdf ⊢
  refine fin g' (by omega) hdf ⟨?_,?_,?_,?_,?_⟩ hg.m
  ·rw[hg.fr 1 (by omega) (by omega),hS.h1]
  ·rw[hg.fr 2 (by omega) (by omega),hS.h2]
  ·rw[hg.fr 3 (by omega) (by omega),hS.h3]
  ·rw[hg.fr 4 (by omega) (by omega),hS.h4]
  ·rw[hg.fr 9 (by omega) (by omega),hS.h9]
theorem FB {d xs ys zs t1 t2 ky ke:Nat}{n:Net}{y:QnM}{cs:List AV}{b a3 a4 z:AV}{Q:QT}{t:T}{g:G}(hd:0<d)(hr:NR n)(hq:QnOk n y)(hcs:Rp.rp NoP ky .nil y cs)(hc:Rp.rp NoP 0 .nil y [.int .i64 n.grain,b,a3,a4])(hz':SlR NoP ke .nil ([]:List Int) z)(hx:xs<18446744073709551616)(hy:ys<18446744073709551616)(hz:zs<18446744073709551616)(hn:12<=g.nx)
  (hS:DpS n xs ys zs b a3 a4 g) (hM:DpM n xs ys zs 5 (S.am n) 0 g.h) (ht:St t ((102,.clo N.aa [] [.tptr t1 4 [cs] 0 0,.tptr t2 1 [[z]] 0 0])::(12,.hptr 4 0 0 0)::(13,.hptr 9 0 0 0)::LDd xs ys zs)) (hdf:g.h.get 10=.dfr true)
  (fin:∀g',S.ba n xs ys zs=false->g'.h.get g.nx=.dfr true->g'.h.get 10=.dfr true->g'.h.get 1=.cells 1 [[.bool false]] 0 false false->g'.h.get 2=.cells 1 [[.int .i64 0]] 0 false false->Q .norm t [.mark g.nx,.mark 10] g')
  (bad:∀g',S.ba n xs ys zs=true->g'.h.get g.nx=.dfr true->g'.h.get 10=.dfr true->g'.h.get 1=.cells 1 [[.bool true]] 0 false false->g'.h.get 2=.cells 1 [[.int .i64 0]] 0 false false->Q .ret t [.mark g.nx,.mark 10] g'):wp C0 d none (.rng 146 (.t 102) [103] fg eS) Q t [.mark 10] g:=by
 obtain ⟨h102,h12,h13,h1,h2,h3,h8,h9,h10,-⟩:=ht
 obtain ⟨W1,W2,W3⟩:=hr.wl
 refine jq (t1:=t1) (t2:=t2) (n:=n) (y:=y) (e:=[]) (cs:=cs) (w:=z) hd hr hq hcs hz' (by simp) h102 (by decide)
  (fun j h=>(∀i,i<g.nx->h.get i=g.h.get i)/\∀w,w<j->S.be n xs ys zs w=false)
  (fun h=>h.get 10=.dfr true/\h.get 1=.cells 1 [[.bool true]] 0 false false/\h.get 2=.cells 1 [[.int .i64 0]] 0 false false/\S.ba n xs ys zs=true) (fun j h h' hh hg=>⟨fun i h1=>by rw[hh i h1,hg.1 i h1],hg.2⟩) (fun h h' hh hg=>⟨by rw[hh 10 (by omega)];exact hg.1,by rw[hh 1 (by omega)];exact hg.2.1,by rw[hh 2 (by omega)];exact hg.2.2.1,hg.2.2.2⟩) ⟨fun _ _=>rfl,fun w hw=>by omega⟩ ?_ ?_ ?_ ?_
 ·intro j h hj hmt hg
  simp[S.jm] at hmt
 ·intro j u g2 hj hmt hg hn2 hu
  simp only[sz,simprocAttr,fg]
  refine ⟨wK _ _ _,?_⟩
  intro g3 n3 f3
  obtain ⟨r,hre⟩:∃r,r=g2.nx:=⟨_,rfl⟩
  rw[<-hre]
  have jo:∀i,i<g.nx->g3.h.get i=g.h.get i:=fun i hi=>by rw[f3 i (by omega),if_neg (by omega),if_neg (by omega),hg.1 i hi]
  have j17:g3.h.get r=.cells 3 [[.int .i64 (j:Int),.int .i64 (S.wt n j),u]] 0 false false:=by rw[f3 _ (by omega),if_pos hre];rfl
  have hu3:SlR (fun i=>12<=i/\i<g3.nx) 0 g3.h (S.ak (S.aa n) (j:Int)) u:=hu.wd fun i hi=>⟨⟨by omega,by omega⟩,by rw[f3 i (by omega),if_neg (by omega),if_neg (by omega)]⟩
  have hn3:r<g3.nx:=by omega
  have j4:=hS.h4
  rw[<-jo 4 (by omega)] at j4
  have l4:∀x y z w:Int,ff (.cells 4 [[.int .u64 x,.int .u64 y,.int .u64 z,.int .u64 w]] 0 false false) 0 0 true 4 0=.val (.agg [.int .u64 x,.int .u64 y,.int .u64 z,.int .u64 w]):=fun _ _ _ _=>rfl
  obtain ⟨v,hv⟩:∃v,v=g3.nx:=⟨_,rfl⟩
  unfold eS
  rw[nE]
  refine bV (P:=fun t' df g'=>df=[]/\g'.nx=v+1/\g'.h.get v=.cells 4 [kJ m_ (jy n xs ys zs j 0)] 0 false false/\(∀i,i<v->g'.h.get i=g3.h.get i)/\St t' [(18,.hptr v 0 0 0),(17,.hptr r 0 0 0),(10,.hptr 3 0 0 0),(12,.hptr 4 0 0 0),(13,.hptr 9 0 0 0),(8,.hptr 1 0 0 0),(9,.hptr 2 0 0 0)]) ?_ ?_
  ·simp only[sz,simprocAttr]
   refine ⟨hv.symm,by rw[hv];simp[H.get_put,kJ,m_,jy],fun i hi=>by simp[H.get_put,show ¬i=g3.nx by omega],by simp[St,sx,h12,h13,h8,h9,h10,hv]⟩
  clear h102 h12 h13 h1 h2 h3 h8 h9 h10
  rintro t df g4 ⟨rfl,n4,k18,f4,h18,h17,h10,h12,h13,h8,h9,-⟩
  have k4:=j4
  rw[<-f4 4 (by omega)] at k4
  refine kV (P:=fun t' df g'=>df=[]/\g'.h.get v=.cells 4 [kJ m_ (jy n xs ys zs j 4)] 0 false false/\(∀i,i<v->g'.h.get i=g3.h.get i)/\v<g'.nx/\St t' [(18,.hptr v 0 0 0),(8,.hptr 1 0 0 0),(9,.hptr 2 0 0 0)]) ?_ ?_
  ·refine bV (P:=fun t' df g'=>df=[]/\g'=g4/\St t' (LDn xs ys zs 9 3 r v)/\tat t' 105=.int .i64 0) ?_ ?_
   ·simp only[sz,simprocAttr,h12,k4,l4]
    simp[St,LDn,se,sx,h10,h13,h17,h18,h8,h9]
   clear h18 h17 h10 h12 h13 h8 h9
   rintro t df g5 ⟨rfl,rfl,ht,h105⟩
   simp only[nE,pT]
   refine EV (lo:=12) (p:=9) (q:=3) (r:=r) (v:=v) (mb:=5) (w:=j) (n:=n) (y:=y) (b:=b) (fl:=a3) (S_:=a4) (u:=u) hd hr hx hy hz hc hq (hu3.wd fun i hi=>⟨⟨hi.1,by omega⟩,f4 i (by omega)⟩) (by omega) (by omega) (by omega) (by omega) (by omega) (by rw[f4 9 (by omega),jo 9 (by omega),hS.h9]) (by rw[f4 3 (by omega),jo 3 (by omega),hS.h3]) (by rw[f4 r (by omega),j17]) (hM.cong fun i hi=>by rw[f4 _ (by omega),jo _ (by omega)]) k18 ht h105 ?_
   rintro t g6 ⟨h10,h13,h17,h18,h104,h8,h9,-⟩ hn6 hf6 kv
   simp only[iC,if_true]
   exact ⟨trivial,trivial,kv,fun i hi=>by rw[hf6 i (by omega) (by omega),f4 i hi],by omega,h18,h8,h9,trivial⟩
  ·rintro t df g6 ⟨rfl,kv,f6,n6,ht⟩
   have e1:g6.h.get 1=.cells 1 [[.bool false]] 0 false false:=by rw[f6 1 (by omega),jo 1 (by omega),hS.h1]
   have e2:g6.h.get 2=.cells 1 [[.int .i64 0]] 0 false false:=by rw[f6 2 (by omega),jo 2 (by omega),hS.h2]
   have e10:g6.h.get 10=.dfr true:=by rw[f6 10 (by omega),jo 10 (by omega),hdf]
   refine Fq (v:=v) (w:=j) hd hr kv ht e1 e2 ?_ ?_
   ·intro t hD
    refine ⟨rfl,by simp;omega,fun i a1 a2=>by simp[H.get_put,show ¬i=1 by omega,show ¬i=2 by omega];rw[f6 i (by omega)],.inr ⟨rfl,?_,?_,?_,?_⟩⟩
    ·simp[H.get_put,e10]
    ·simp[H.get_put]
    ·simp[H.get_put]
    ·rw[S.ba,List.any_eq_true];exact ⟨j,by simp[hj],hD⟩
   ·intro t hD
    refine ⟨rfl,by omega,fun i a1 a2=>f6 i (by omega),.inl ⟨rfl,fun i hi=>by rw[f6 i (by omega),jo i hi],fun w hw=>?_⟩⟩
    by_cases e:w=j
    ·rw[e];exact hD
    ·exact hg.2 w (by omega)
 ·intro g' hg hn' hdf'
  refine fin g' ?_ hdf' (by rw[hg.1 10 (by omega),hdf]) (by rw[hg.1 1 (by omega),hS.h1]) (by rw[hg.1 2 (by omega),hS.h2])
  rw[S.ba,List.any_eq_false]
  intro w hw
  rw[hg.2 w (by simpa using hw)];simp
 ·rintro g' ⟨e10,e1,e2,hD⟩ hn' hdf'
  exact bad g' hD hdf' e10 e1 e2
theorem qj {d xs ys zs:Nat}{g:G}{v:AV}{n:Net}(hd:0<d)(hm:Agg n NoP 0 g.h v)(hx:xs<18446744073709551616)(hy:ys<18446744073709551616)(hz:zs<18446744073709551616) :
  aw C0 d N.ak [v,.int .u64 (xs:Int),.int .u64 (ys:Int),.int .u64 (zs:Int)] g=.val (.tup [.bool (S.aS n xs ys zs),.int .i64 (S.a7 n xs ys zs)]):=by
 have key:∃r,aw C0 d N.ak [v,.int .u64 (xs:Int),.int .u64 (ys:Int),.int .u64 (zs:Int)] g=.val r/\nC (One (S.aS n xs ys zs)) (One (S.a7 n xs ys zs)) NoP 0 .nil r:=by
  obtain ⟨b,rows,rfl,e1,hm',hN,r1,r2,r3,r4⟩:=dL d hm
  rw[fd]
  refine bN pM (xs:=[.agg [.int .i64 n.grain,b],.int .u64 (xs:Int),.int .u64 (ys:Int),.int .u64 (zs:Int)]) (by simp only[aC,e1,gK 0]) (by simp[ib]) (cz (m:=1) (bc _) (bc _) (by decide) (by decide)) (by decide) hd ?_
  simp only[ib]
  obtain ⟨Qf,hQf⟩:∃Qf,Qf=fnQ C0 (d+1) [SR.cell false 1 8,SR.cell false 1 9] (fun v g'=>∃P,nC (One (S.aS n xs ys zs)) (One (S.a7 n xs ys zs)) P 0 g'.h v):=⟨_,rfl⟩
  rw[<-hQf]
  refine bV (P:=fun t' df g'=>df=[]/\g'.nx=3/\g'.h.get 0=.cells 2 [[.int .i64 n.grain,b]] 0 false false/\g'.h.get 1=.cells 1 [[.bool false]] 0 false false/\g'.h.get 2=.cells 1 [[.int .i64 0]] 0 false false/\St t' [(1,.int .u64 (xs:Int)),(2,.int .u64 (ys:Int)),(3,.int .u64 (zs:Int)),(4,.hptr 0 0 0 0),(8,.hptr 1 0 0 0),(9,.hptr 2 0 0 0)]) ?_ ?_
  ·simp only[sz,simprocAttr]
   simp[St,sx,H.get_put]
  rintro t df g0 ⟨rfl,n0,f0,f1,f2,h1,h2,h3,h4,h8,h9,-⟩
  unfold ja
  obtain ⟨va,ea,hva⟩:=rQ (d:=d+1) (g:=g0) (w:=.nils) (P:=NoP) (kk:=0) (n:=n) (ls:=[]) (Nat.succ_pos d) (hm' _) ⟨by show 0<9223372036854775808;decide,rfl⟩
  obtain ⟨y,cs,rfl,hy',hc,a1,a2,a3,a4,rfl⟩:=hU hva
  cases hnr:S.aE n with
  | false =>
   have hE:S.a7 n xs ys zs=50:=by rw[S.a7,hnr];rfl
   have hV:S.aS n xs ys zs=false:=by rw[S.aS,hE];rfl
   have hL:S.aF n []=50:=by rw[S.aF,hnr];rfl
   rw[hL] at ea
   simp only[sz,simprocAttr,h1,h2,h3,h4,h8,h9,f0,ea,n0,f1,f2,hQf]
   rw[hE,hV]
   exact ⟨fun _=>True,_,_,rfl,dQ.2 rfl,ax.2 rfl⟩
  | true =>
   have hr:=b_.1 hnr
   have hL:S.aF n []=0:=by rw[S.aF,hnr];rfl
   have hyo:=hy' hL
   rw[hL] at ea
   obtain ⟨b',b2,b3,ecs,hb',hb2,hb3⟩:=mK.1 hc
   injection ecs with ec1 ecs
   injection ecs with ec2 ecs
   rw[hyo.net] at ec1 hb'
   subst ec1 ec2
   have hN':SlR NoP 0 .nil n.nodes a2:=hb'.tree (Nat.le_refl _)
   refine bV (P:=fun t' df g'=>df=[]/\g'.nx=4/\g'.h.get 1=.cells 1 [[.bool false]] 0 false false/\g'.h.get 2=.cells 1 [[.int .i64 0]] 0 false false/\g'.h.get 3=.cells 4 [[.int .i64 n.grain,a2,a3,a4]] 0 false false/\tat t' 11=.int .i64 0/\St t' (LDd xs ys zs)) ?_ ?_
   ·simp only[sz,simprocAttr,h4,f0,ea]
    simp[St,LDd,sx,H.get_put,h1,h2,h3,h8,h9,n0,f1,f2]
   clear h1 h2 h3 h4 h8 h9
   rintro t df g1 ⟨rfl,n1,k1,k2,k3,h11,ht⟩
   refine kV (P:=fun t' df g'=>df=[]/\g'=g1/\St t' (LDd xs ys zs)) ?_ ?_
   ·obtain ⟨h1,h2,h3,h8,h9,h10,-⟩:=ht
    simp only[sz,simprocAttr,h11]
    simp[St,LDd,sx,h1,h2,h3,h8,h9,h10]
   clear ht
   rintro t df g2 ⟨rfl,rfl,ht⟩
   rw[cG]
   refine Ed (l:=n.nodes.length) hx hy hz (hN'.len) ht k3 k1 k2 ?_ ?_
   ·intro t hB h8 h9
    have hE:S.a7 n xs ys zs=2:=by rw[S.a7,hnr,hB];rfl
    have hV:S.aS n xs ys zs=false:=by rw[S.aS,hE];rfl
    simp only[sz,simprocAttr,hQf,h8,h9]
    rw[hE,hV]
    exact ⟨fun _=>True,_,_,rfl,dQ.2 rfl,ax.2 rfl⟩
   intro t hB ht
   have hE:S.a7 n xs ys zs=0:=by rw[S.a7,hnr,hB];rfl
   have hV:S.aS n xs ys zs=S.ba n xs ys zs:=by rw[S.aS,hE];rfl
   rw[ut]
   refine E6 hx hy hz n1 ht k3 k1 k2 ?_
   clear ht
   intro t g3 n3 hS hM ht
   have hnil:∀h,SlR NoP 0 h ([]:List Int) .nils:=fun h=>⟨by show 0<9223372036854775808;decide,rfl⟩
   rw[cG,cG]
   obtain ⟨cs',z',t1,t2,ez,hcs',hz'⟩:=fY (d:=d+1) (g:=g3) (y:=y) (e:=[]) (v:=.agg [.int .i64 n.grain,a2,a3,a4]) (w:=.nils) (Nat.succ_pos d) ⟨_,rfl,Rp.tree hc (Nat.le_refl _)⟩ (hnil _)
   obtain ⟨h12,h13,h1,h2,h3,h8,h9,h10,-⟩:=ht
   have s3:=hS.h3
   simp only[sz,simprocAttr,h10,s3,ez]
   refine EX (t1:=t1) (t2:=t2) (y:=y) (n:=n) (b:=a2) (a3:=a3) (a4:=a4) (Nat.succ_pos d) hr hyo hcs' hc hz' hx hy hz n3 hS hM (by simp[St,LDd,sx,h12,h13,h1,h2,h3,h8,h9,h10]) ?_
   clear hS hM s3 ez
   intro g4 n4 d4 hS hM
   obtain ⟨cs',z',t1,t2,ez,hcs',hz'⟩:=fY (d:=d+1) (g:=g4) (y:=y) (e:=[]) (v:=.agg [.int .i64 n.grain,a2,a3,a4]) (w:=.nils) (Nat.succ_pos d) ⟨_,rfl,Rp.tree hc (Nat.le_refl _)⟩ (hnil _)
   have s3:=hS.h3
   simp only[sz,simprocAttr,iy,h10,s3,ez]
   refine FB (t1:=t1) (t2:=t2) (y:=y) (n:=n) (b:=a2) (a3:=a3) (a4:=a4) (Nat.succ_pos d) hr hyo hcs' hc hz' hx hy hz n4 hS hM (by simp[St,LDd,sx,h12,h13,h1,h2,h3,h8,h9,h10]) d4 ?_ ?_
   ·intro g5 hD m1 m2 r1 r2
    simp only[sz,simprocAttr,iB,h8,h9,r1,r2,hQf]
    refine qK (by simp[H.get_put,show ¬g4.nx=2 by omega,show ¬g4.nx=1 by omega,m1]) (by simp[H.get_put,m2]) (by omega) ?_
    simp only[sx,sy,↓reduceIte,Nat.reduceEqDiff,h8,h9,show ¬1=g4.nx by omega,show ¬2=g4.nx by omega]
    rw[hE,hV,hD]
    exact ⟨fun _=>True,_,_,rfl,dQ.2 rfl,ax.2 rfl⟩
   ·intro g5 hD m1 m2 r1 r2
    simp only[sz,simprocAttr,hQf]
    refine qK m1 m2 (by omega) ?_
    simp only[sx,sy,↓reduceIte,Nat.reduceEqDiff,h8,h9,show ¬1=g4.nx by omega,show ¬2=g4.nx by omega,r1,r2]
    rw[hE,hV,hD]
    exact ⟨fun _=>True,_,_,rfl,dQ.2 rfl,ax.2 rfl⟩
 obtain ⟨r,hr,a,c,rfl,ha,hc⟩:=key
 have ha:=dQ.1 ha
 injection ha with ha
 have hc:=ax.1 hc
 injection hc with hc
 rw[hr,ha,hc]
structure ND where
 c:Nat->Int
 P:Nat->List Int
 m:Nat->Nat
 R:Nat->Nat->List Int
 o:Nat->Nat
def LN (n:Nat)(D:ND):Ky->Prop:=fun k=>k=(0,0)\/∃i q,k=(i+1,q)/\i<n/\q<2+D.o i
def F9 (D:ND)(V:Ky->AV)(i:Nat):List AV:=[.int .i64 (D.c i),V (i+1,0),V (i+1,1)]
def F_ (V:Ky->AV)(i r:Nat):List AV:=[V (i+1,2+r)]
structure BN (K n:Nat) (V:Ky->AV) (E:Ky->En) (D:ND):Prop where
 ns:E (0,0)=.sl 3 ((List.range n).map (F9 D V))
 ps:∀i,i<n->E (i+1,0)=.sl 1 ((D.P i).map ci)/\(D.P i).length<=K
 rs:∀i,i<n->E (i+1,1)=.sl 1 ((List.range (D.m i)).map (F_ V i))/\D.m i<=K
 rr:∀i r,i<n->r<D.m i->(D.R i r).length<=K/\((r<D.o i/\E (i+1,2+r)=.sl 1 ((D.R i r).map ci))\/SlR NoP 0 .nil (D.R i r) (V (i+1,2+r)))
def ND.node (D:ND)(i:Nat):Node:=⟨D.c i,D.P i,(List.range (D.m i)).map (D.R i)⟩
def Ga (gr c:Int)(l:List Int):Prop:=(l.length:Int)=c/\(∀y∈l,0<=y/\y<=gr)/\l.sum=gr
def S.rq (gr s x:Int):Int:=gr*x / s
structure Rw1 (gr:Int) (nv u:AV) (C F j:Nat) (t:T) (g:G):Prop where
 st:St t [(0,.int .i64 gr),(1,.int .i64 (C:Int)),(2,nv),(3,.int .i64 (F:Int)),(9,u)]
 hX:∃(X:List Int) (s:Int),tat t 10=.int .i64 s/\X.length=C/\Own g 0 u 1 (X.map ci)/\(∀x∈X,0<=x/\x<=7)/\s=(X.take j).sum/\0<=s/\s<=7*j
structure Rw2 (gr s:Int) (u:AV) (C:Nat) (X:List Int) (j:Nat) (t:T) (g:G):Prop where
 st:St t [(0,.int .i64 gr),(1,.int .i64 (C:Int)),(9,u),(10,.int .i64 s)]
 hX:∃(la:Nat),tat t 12=.int .i64 (gr - ((X.take j).map (S.rq gr s)).sum)/\tat t 13=.int .i64 (la:Int)/\la<C/\Own g 0 u 1 (((X.take j).map (S.rq gr s)++X.drop j).map ci)
structure Num (n:Nat) (pl:List Int) (num:Nat->Nat):Prop where
 len:pl.length=n
 at_:∀k,k<n->pl[k]?=some (num k:Int)
 lt:∀k,k<n->num k<n
 inj:∀i j,i<n->j<n->num i=num j->i=j
 sur:∀u,u<n->∃k,k<n/\num k=u
def LNX (X:Ky->Prop)(n:Nat)(D:ND):Ky->Prop:=fun k=>LN n D k\/X k
def X1:Ky->Prop:=fun k=>k=(0,1)
def X2:Ky->Prop:=fun k=>k=(0,1)\/k=(0,2)
structure DN (X:Ky->Prop) (r0:List AV) (n q K:Nat) (gr:Int) (V:Ky->AV) (E:Ky->En) (D:ND) (g:G):Prop where
 hp:Hp g 2 (LNX X n D) V E
 bn:BN K n V E D
 vb:V (0,1)=.hptr q 0 0 0
 bx:E (0,1)=.bx [.int .i64 gr,V (0,0)]
 h0:g.h.get 0=.cells 3 [r0] 0 false false
 h1:g.h.get 1=.cells 2 [[.int .i64 0,.nils]] 0 false false
structure DAok (D:ND) (n i:Nat) (num:Nat->Nat):Prop where
 e:∀v,v<n->D.P v=[]/\D.m v=0
 c:∀k,k<i->D.c (num k)=2\/D.c (num k)=3
 o:∀u,D.o u=0
def LDA (n q:Nat)(r5:AV):List (Nat×AV):=[(1,.hptr 0 0 0 0),(2,.hptr 1 0 0 0),(3,.int .i64 (n:Int)),(4,.hptr q 0 0 0),(5,r5)]
structure DA (r0:List AV) (n q:Nat) (gr:Int) (r5:AV) (num:Nat->Nat) (i:Nat) (t:T) (g:G):Prop where
 st:St t (LDA n q r5)
 w:∃w:Nat,tat t 6=.int .i64 (w:Int)/\w<=3 ^ i
 hd:∃V E D,DN X1 r0 n q 1000 gr V E D g/\DAok D n i num
section
variable {κ:Type} [DecidableEq κ]{g:G}{b:Nat}{L:κ->Prop}{V:κ->AV}{E:κ->En}{k:κ}
end
structure DB (D:ND) (n i v:Nat) (num:Nat->Nat):Prop where
 c:∀u,u<n->D.c u=2\/D.c u=3
 p:∀u,u<n->(D.P u).length<=3/\∀y∈D.P u,0<=y/\y<n
 m:∀u,u<n->D.m u<=64
 o:∀u,D.o u=0
 f:∀k,i<k->k<n->D.P (num k)=[]/\D.m (num k)=0
def S.bV (P0:List Int)(c0:Nat->Int):Int:=S.ae (P0.map fun y=>c0 y.toNat)
structure DOk (gr:Int) (D:ND) (n i:Nat) (num:Nat->Nat):Prop where
 s:∀u,u<n->(D.P u).Pairwise (·<·)
 a:∀k,k<n->∀y∈D.P (num k),∃k',k'<k/\y=(num k':Int)
 w:∀k,k<i->(D.m (num k):Int)=S.bV (D.P (num k)) D.c
 r:∀u r,u<n->r<D.m u->Ga gr (D.c u) (D.R u r)
def LDB (n q i p v:Nat)(r5:AV):List (Nat×AV):=[(1,.hptr 0 0 0 0),(2,.hptr 1 0 0 0),(3,.int .i64 (n:Int)),(4,.hptr q 0 0 0),(5,r5),(10,.int .i64 (i:Int)),(11,.hptr p 0 0 0),(12,.int .i64 (v:Int))]
structure DP (r0 prow:List AV) (n q i p v:Nat) (gr:Int) (r5:AV) (num:Nat->Nat) (g:G) (V:Ky->AV) (E:Ky->En) (D:ND):Prop where
 dn:DN X2 r0 n q 1000 gr V E D g
 pb:V (0,2)=.hptr p 0 0 0/\E (0,2)=.bx prow
 db:DB D n i v num
 mv:D.m v=0
 ok:DOk gr D n i num
end
end Hx
end
section
namespace Hx
open Go
noncomputable section
structure DJ (r0 prow:List AV) (n q i p v u:Nat) (gr:Int) (r5:AV) (num:Nat->Nat) (j:Nat) (t:T) (g:G):Prop where
 st:St t ((13,.int .i64 (u:Int))::LDB n q i p v r5)
 hd:∃V E D,DP r0 prow n q i p v gr r5 num g V E D/\(∀y∈D.P v,y<=(u:Int))/\((∃k,k<j/\num k=u)\/∀y∈D.P v,y<(u:Int))
structure DK (r0 prow:List AV) (n q i p v:Nat) (gr:Int) (r5:AV) (num:Nat->Nat) (j:Nat) (t:T) (g:G):Prop where
 st:St t (LDB n q i p v r5)
 hd:∃V E D,DP r0 prow n q i p v gr r5 num g V E D/\∀y∈D.P v,y<(j:Int)
structure DQ (r0 prow:List AV) (n q i p v j:Nat) (gr:Int) (r5:AV) (num:Nat->Nat) (P0:List Int) (c0:Nat->Int) (g:G) (V:Ky->AV) (E:Ky->En) (D:ND):Prop where
 dn:DN X2 r0 n q 1000 gr V E D g
 pb:V (0,2)=.hptr p 0 0 0/\E (0,2)=.bx prow
 db:DB D n i v num
 mv:D.m v=j
 pv:D.P v=P0
 cv:D.c=c0
 ok:DOk gr D n i num
structure DRw (r0 prow:List AV) (n q i p v j:Nat) (gr:Int) (r5:AV) (num:Nat->Nat) (P0:List Int) (c0:Nat->Int) (t:T) (g:G):Prop where
 st:St t (LDB n q i p v r5)
 hd:∃V E D,DQ r0 prow n q i p v j gr r5 num P0 c0 g V E D
structure DBl (D:ND) (n i:Nat) (num:Nat->Nat):Prop where
 c:∀u,u<n->D.c u=2\/D.c u=3
 p:∀u,u<n->(D.P u).length<=3/\∀y∈D.P u,0<=y/\y<n
 m:∀u,u<n->D.m u<=64
 o:∀u,D.o u=0
 f:∀k,i<=k->k<n->D.P (num k)=[]/\D.m (num k)=0
structure DL (r0:List AV) (n q:Nat) (gr:Int) (r5:AV) (num:Nat->Nat) (i:Nat) (t:T) (g:G):Prop where
 st:St t (LDA n q r5)
 hd:∃V E D,DN X1 r0 n q 1000 gr V E D g/\DBl D n i num/\DOk gr D n i num
structure Drafted (m:Net):Prop where
 l:1<=m.nodes.length/\m.nodes.length<=5
 c:∀x∈m.nodes,x.card=2\/x.card=3
 b:∀x∈m.nodes,x.parents.length<=1000/\x.rows.length<=1000/\∀r∈x.rows,r.length<=1000
 nr:NR m
def V0 (W:AV)(q:Nat):Ky->AV:=fun k=>match k with
 | (0,0)=>W
 | (0,1)=>.hptr q 0 0 0
 | _=>.nils
def E0 (W:AV)(n:Nat)(gr:Int):Ky->En:=fun k=>match k with
 | (0,0)=>.sl 3 (List.replicate n [.int .i64 0,.nils,.nils])
 | (0,1)=>.bx [.int .i64 gr,W]
 | _=>.sl 1 []
def D0:ND:=⟨fun _=>0,fun _=>[],fun _=>0,fun _ _=>[],fun _=>0⟩
theorem hp0 {W:AV}{n q:Nat}{gr:Int}{g:G}(hW:Own g 2 W 3 (List.replicate n [.int .i64 0,.nils,.nils]))(hq:g.h.get q=.cells 2 [[.int .i64 gr,W]] 0 false false)(h2:2<=q/\q<g.nx)(hne:vid W≠some q):Hp g 2 (LNX X1 n D0) (V0 W q) (E0 W n gr):=by
 have hk:∀k,LNX X1 n D0 k->k=(0,0)\/k=(0,1)\/∃i s,k=(i+1,s):=fun k h=>by
  rcases h with h | h
  ·rcases h with h | ⟨i,s,h,-⟩
   ·exact .inl h
   ·exact .inr (.inr ⟨i,s,h⟩)
  ·exact .inr (.inl h)
 refine ⟨fun k h=>?_,fun k l h h' hkl id h1 h3=>?_,by omega⟩
 ·rcases hk k h with rfl | rfl | ⟨i,s,rfl⟩
  ·exact hW
  ·exact ⟨q,h2.1,h2.2,rfl,hq⟩
  ·exact .inl ⟨rfl,rfl⟩
 ·rcases hk k h with rfl | rfl | ⟨i,s,rfl⟩<;>rcases hk l h' with rfl | rfl | ⟨i',s',rfl⟩
  ·exact hkl rfl
  ·have h1:eid W=some id:=h1
   have h3:some q=some id:=h3
   rw[y7 hW] at h1
   injection h3 with h3;subst h3
   exact hne h1
  ·cases h3
  ·have h3:eid W=some id:=h3
   have h1:some q=some id:=h1
   rw[y7 hW] at h3
   injection h1 with h1;subst h1
   exact hne h3
  ·exact hkl rfl
  ·cases h3
  ·cases h1
  ·cases h1
  ·cases h1
def Fu (V:Ky->AV)(i:Nat)(c:Int):List AV:=[.int .i64 c,V (i+1,0),V (i+1,1)]
structure NdOk (K:Nat) (V:Ky->AV) (E:Ky->En) (i:Nat) (x:Node):Prop where
 ps:E (i+1,0)=.sl 1 (x.parents.map ci)
 rs:∃rws,E (i+1,1)=.sl 1 rws/\rws.length=x.rows.length/\∀(r:Nat) (y:List Int),x.rows[r]?=some y->rws[r]?=some [V (i+1,2+r)]
 rr:∀(r:Nat) (y:List Int),x.rows[r]?=some y->E (i+1,2+r)=.sl 1 (y.map ci)
 len:x.parents.length<=K/\x.rows.length<=K/\∀y∈x.rows,y.length<=K
def LS (L:List Node):Ky->Prop:=fun k=>k=(0,0)\/∃i q x,k=(i+1,q)/\L[i]?=some x/\q<2+x.rows.length
structure BLs (K:Nat) (V:Ky->AV) (E:Ky->En) (L:List Node):Prop where
 ns:∃rows,E (0,0)=.sl 3 rows/\rows.length=L.length/\∀(i:Nat) (x:Node),L[i]?=some x->rows[i]?=some (Fu V i x.card)
 nd:∀(i:Nat) (x:Node),L[i]?=some x->NdOk K V E i x
def BBn (g:G)(brow:List AV)(gr:Int)(b:AV):Prop:=g.h.get 0=.cells 4 [brow] 0 false false/\g.h.get 1=.cells 2 [[.int .i64 gr,b]] 0 false false/\g.h.get 2=.cells 2 [[.int .i64 0,.nils]] 0 false false
def LX (L:List Node)(x:Node):Ky->Prop:=fun k=>LS L k\/k=(0,1)\/∃q,k=(L.length+1,q)/\q<2+x.rows.length
structure NB (K p:Nat) (L:List Node) (x:Node) (g:G) (brow:List AV) (gr:Int) (b W:AV) (V:Ky->AV) (E:Ky->En):Prop where
 hp:Hp g 3 (LX L x) V E
 bb:BBn g brow gr b
 vb:V (0,1)=.hptr p 0 0 0
 bx:E (0,1)=.bx (Fu V L.length x.card)
 nd:NdOk K V E L.length x
 bl:BLs K V E L
 vw:V (0,0)=W
structure Oth (K:Nat) (L:List Node) (J:Nat) (V:Ky->AV) (E:Ky->En) (rows:List (List AV)):Prop where
 len:rows.length=L.length
 ns:∀(i:Nat) (y:Node),i≠J->L[i]?=some y->rows[i]?=some (Fu V i y.card)
 nd:∀(i:Nat) (y:Node),i≠J->L[i]?=some y->NdOk K V E i y
structure BS (K J:Nat) (L:List Node) (x:Node) (bx:zL) (gr Rw:Int) (t:T) (g:G) (V:Ky->AV) (E:Ky->En):Prop where
 st:St t [(2,.hptr 0 0 0 0),(3,.hptr 1 0 0 0),(4,.hptr 2 0 0 0),(10,nN 3 (V (0,0)) J 0),(11,.int .i64 Rw)]
 hp:Hp g 3 (LS L) V E
 f0:g.h.get 0=.cells 4 [[u8v bx.1,u8v bx.2.1,u8v bx.2.2.1,.int .i64 bx.2.2.2]] 0 false false
 f1:g.h.get 1=.cells 2 [[.int .i64 gr,V (0,0)]] 0 false false
 f2:g.h.get 2=.cells 2 [[.int .i64 0,.nils]] 0 false false
 bl:BLs K V E L
 hx:L[J]?=some x
 hR:(Rw = -1/\x.rows.length=0)\/∃r:Nat,Rw=(r:Int)/\r<x.rows.length
 hK:K<=1000000
 hl:L.length<=K
structure BT (K J:Nat) (L:List Node) (x:Node) (g:G) (V:Ky->AV) (E:Ky->En) (rows:List (List AV)):Prop where
 own:Own g 3 (V (0,0)) 3 rows
 e0:E (0,0)=.sl 3 rows
 ry:sK (V (0,0))=true
 hlt:J<rows.length
 row:rows[J]?=some [.int .i64 x.card,V (J+1,0),V (J+1,1)]
 oth:Oth K L J V E rows
 nd:NdOk K V E J x
section
variable {d K J:Nat}{L:List Node}{x:Node}{bx:zL}{gr Rw:Int}{t:T}{g:G}{V:Ky->AV}{E:Ky->En}{Q:QT}
end
end
end Hx
end
section
namespace Hx
open Go
noncomputable section
structure BW (x:Node) (J:Nat) (g:G) (V:Ky->AV) (E:Ky->En) (rws:List (List AV)):Prop where
 own:Own g 3 (V (J+1,1)) 1 rws
 e1:E (J+1,1)=.sl 1 rws
 len:rws.length=x.rows.length
 at_:∀(r:Nat) (y:List Int),x.rows[r]?=some y->rws[r]?=some [V (J+1,2+r)]
section
variable {d K J:Nat}{L:List Node}{x:Node}{bx:zL}{gr Rw:Int}{t:T}{g:G}{V:Ky->AV}{E:Ky->En}{Q:QT}
end
end
end Hx
end
section
namespace Hx
open Go
noncomputable section
def Node.wr (x:Node)(r:Nat)(y:List Int):Node:=⟨x.card,x.parents,x.rows.set r y⟩
section
variable {d K J r:Nat}{L:List Node}{x:Node}{bx:zL}{gr Rw:Int}{t t':T}{g gb:G}{V:Ky->AV}{E:Ky->En}{Q:QT}{y y':List Int}
structure BR (x:Node) (J r:Nat) (y:List Int) (g:G) (V:Ky->AV) (E:Ky->En) (rws:List (List AV)):Prop where
 wr:au g.h 1 (V (J+1,1))=some rws
 rl:r<rws.length
 rw_:rws[r]?=some [V (J+1,2+r)]
 ry:sK (V (J+1,1))=true
 yr:au g.h 1 (V (J+1,2+r))=some (y.map ci)
 ye:E (J+1,2+r)=.sl 1 (y.map ci)
 yl:y.length<=K
end
end
end Hx
end
section
namespace Hx
open Go
noncomputable section
section
variable {α:Type} [DecidableEq α]
end
def pk (a:Int×Int):AV:=.agg [.int .i64 a.1,.int .i64 a.2]
def S.pq (n:Net)(e:List Int)(v:Nat)(x:Int)(w:Nat):Bool:=S.pe n e w&&decide ((S.ak (S.aa n) (w:Int))[v]?=some x)
end
end Hx
end
section
namespace Hx
open Go
noncomputable section
structure PoM (n:Net) (e vals:List Int) (j k m:Nat) (h:H):Prop where
 hm:∃L:List ((Int×Int)×Int),h.get m=.map (mcl pk L)/\∀(v:Nat) (x:Int),mgt L ((v:Int),x)=S.ah n (S.pq n e v x) j+if v<k/\vals[v]?=some x then S.wt n j else 0
structure PoK (g0:G) (m:Nat) (g:G):Prop where
 nx:g0.nx<=g.nx
 fr:∀i,i≠m->i<g0.nx->g.h.get i=g0.h.get i
set_option maxRecDepth 20000 in
structure PoH (n:Net) (e:List Int) (cs:List AV) (p pm pq m lo:Nat) (g:G):Prop where
 kp:g.h.get p=.cells 4 [cs] 0 false false
 km:g.h.get pm=.cells 1 [[.hmap m]] 0 false false
 kq:g.h.get pq=.cells 1 [[.int .i64 (S.aD n e)]] 0 false false
 hm:∃L:List ((Int×Int)×Int),g.h.get m=.map (mcl pk L)/\∀(v:Nat) (x:Int),mgt L ((v:Int),x)=S.ah n (S.pq n e v x) (S.am n)
 lo:lo<=p/\lo<=pm/\lo<=pq/\lo<=m
 hi:p<g.nx/\pm<g.nx/\pq<g.nx/\m<g.nx
structure PoJ (g1:G) (n:Net) (e:List Int) (m pq j:Nat) (h:H):Prop where
 fr:∀i,i<g1.nx->i≠m->i≠pq->h.get i=g1.h.get i
 kq:h.get pq=.cells 1 [[.int .i64 (S.ah n (S.pe n e) j)]] 0 false false
 hm:PoM n e [] j 0 m h
set_option maxRecDepth 20000 in
theorem vt {α β:Type}{R:α->β->Prop}{a:α}{b:β}(h:R a b):∀n:Nat,All2 R (List.replicate n a) (List.replicate n b)
 | 0=>trivial
 | n+1=>⟨h,vt h n⟩
end
end Hx
end
section
namespace Hx
open Go
set_option maxRecDepth 100000
noncomputable section
theorem dW {C:Cfg}{d f:Nat}{xs:List AV}{v:AV}(hs:aC (Hx.snap G.empty.h d aq) xs=some xs)(h:ak (I C) d G.empty f xs=.val v):∃n,sM d ((sem C n).call (Nat.succ d) f xs G.empty)=some v:=by
 unfold ak at h
 rw[hs] at h
 dsimp only at h
 cases hc:(I C).call d.succ f xs G.empty with
 | fail=>rw[hc] at h;cases h
 | ok r g' =>
  obtain ⟨n,hn⟩:=FQ hc
  refine ⟨n,?_⟩
  rw[hn]
  rw[hc] at h
  dsimp only at h
  simp only[sM]
  split at h
  ·cases h
  rename_i r' hr'
  rw[hr']
  dsimp only
  split at h
  ·cases h
  rename_i m hm
  rw[hm]
  dsimp only
  rw[aa] at h ⊢
  split at h
  ·rename_i hb
   rw[if_pos hb]
   injection h with h
   rw[h]
  ·split at h
   ·cases h
   split at h
   ·cases h
   rw[aa] at h
   split at h<;>cases h
def nB:Net:=⟨60,List.replicate 8 ⟨2,[],[[30,30]]⟩⟩
def eN:List Int:=List.replicate 8 (-1)
def eO:List Int:=1::List.replicate 7 (-1)
def eZ:List Int:=List.replicate 8 0
def ivA (l:List Int):AV:=.tsl 0 1 (l.map ci)
def ndA:List AV:=[.int .i64 2,.nils,.tsl 0 1 [[ivA [30,30]]]]
def nbA:AV:=.tsl 0 3 (List.replicate 8 ndA)
def nA:AV:=.agg [.int .i64 60,nbA]
theorem uA {α:Type} [Rp α]{l:List α}{rows:List (List AV)}(hl:l.length<9223372036854775808)(h:All2 (Rp.rp NoP 0 .nil) l rows)(P:Nat->Prop)(g:H):SlR P 0 g l (.tsl 0 (Rp.sz α) rows):=⟨hl,Nat.le_refl 0,.inl rfl,h⟩
theorem rL (l:List Int)(hl:l.length<=1000)(h:H):SlR NoP 0 h l (ivA l) :=
 uA (α:=Int) (by omega) (All2.of_map (fun q=>ax.2 rfl) _) NoP h
theorem FN:Rp.rp NoP 0 .nil (⟨2,[],[[30,30]]⟩:Node) ndA:=by
 have h1:SlR NoP 0 .nil ([]:List Int) .nils:=⟨by show 0<9223372036854775808;decide,rfl⟩
 have h2:All2 (Rp.rp NoP 0 .nil) [([30,30]:List Int)] [[ivA [30,30]]]:=⟨nL.2 ⟨_,rfl,rL [30,30] (by decide) .nil⟩,trivial⟩
 have h3:SlR NoP 0 .nil [([30,30]:List Int)] (.tsl 0 1 [[ivA [30,30]]]):=uA (α:=List Int) (by decide) h2 NoP .nil
 exact eG.2 ⟨_,_,rfl,h1,h3⟩
theorem rP (h:H):Agg nB NoP 0 h nA:=by
 have h1:All2 (Rp.rp NoP 0 .nil) (List.replicate 8 (⟨2,[],[[30,30]]⟩:Node)) (List.replicate 8 ndA):=vt FN 8
 exact ⟨_,rfl,oU.2 ⟨nbA,rfl,uA (α:=Node) (by decide) h1 NoP h⟩⟩
theorem vB:S.aE nB=true:=by decide +kernel
theorem xR:S.aC nB eN=true:=by decide +kernel
theorem xk:S.aC nB eO=true:=by decide +kernel
theorem EW:S.aC nB eZ=true:=by decide +kernel
theorem jd:S.am nB=256:=by decide +kernel
theorem oP:S.aD nB eN=167961600000000:=by decide +kernel
theorem rG:S.aD nB eO=83980800000000:=by decide +kernel
theorem Cq:S.bi nB=167961600000000:=by decide +kernel
theorem Dr:S.bF nB eN eZ=656100000000:=by decide +kernel
theorem FI:S.aq nB eN 0 256=(0,656100000000):=by decide +kernel
theorem FP:S.aq nB eO 0 256=(128,656100000000):=by decide +kernel
theorem FS:∀w:Nat,w<256->S.aK nB (S.ak (S.aa nB) (w:Int))=656100000000:=by decide +kernel
def S.aX (p:Nat->Bool):Nat->Nat
 | 0=>0
 | k+1=>S.aX p k+if p k then 1 else 0
theorem v7 {p:Nat->Bool}:∀{k:Nat},k<=256->S.ah nB p k=656100000000*(S.aX p k:Int)
 | 0,_=>rfl
 | k+1,h=>by
  rw[S.ah,v7 (by omega),FS k (by omega),S.aX]
  split<;>simp<;>omega
theorem q8 {p q:Nat->Bool}:∀{k:Nat},(∀i,i<k->p i=q i)->S.aX p k=S.aX q k
 | 0,_=>rfl
 | k+1,h=>by rw[S.aX,S.aX,q8 fun i hi=>h i (by omega),h k (by omega)]
theorem d8 {s:Nat}{f:Nat->Nat}(hf:∀u<256,S.aU nB s u=((f u:Nat):Int)){k w:Nat}(hw:w<256)(hk:S.aX (fun u=>Nat.beq (f u) (f w)) 256=k):(S.bp nB s w).toNat=656100000000*k:=by
 have:S.bp nB s w=((656100000000*k:Nat):Int):=by
  rw[S.bp,S.aT,jd,v7 (Nat.le_refl _),<-hk]
  rw[Int.natCast_mul]
  refine congrArg (fun z:Nat=>(656100000000:Int)*(z:Int)) (q8 fun u hu=>?_)
  rw[hf u hu,hf w hw]
  rw[Bool.eq_iff_iff,decide_eq_true_eq,Nat.beq_eq]
  omega
 omega
theorem xC:∀u<256,S.aU nB 255 u=((u:Nat):Int):=by decide +kernel
theorem E2:∀u<256,S.aU nB 254 u=((u % 128:Nat):Int):=by decide +kernel
theorem Fd:∀u<256,S.aU nB 253 u=((u / 128*64+u % 64:Nat):Int):=by decide +kernel
theorem E5:∀u<256,S.aU nB 252 u=((u % 64:Nat):Int):=by decide +kernel
theorem FL:∀u<256,S.aU nB 0 u=((0:Nat):Int):=by decide +kernel
theorem yp:∀w<256,S.aX (fun u=>Nat.beq u w) 256=1:=by decide +kernel
theorem Fm:∀w<256,S.aX (fun u=>Nat.beq (u % 128) (w % 128)) 256=2:=by decide +kernel
theorem FC:∀w<256,S.aX (fun u=>Nat.beq (u / 128*64+u % 64) (w / 128*64+w % 64)) 256=2:=by decide +kernel
theorem EZ:∀w<256,S.aX (fun u=>Nat.beq (u % 64) (w % 64)) 256=4:=by decide +kernel
theorem FV:S.aX (fun _=>Nat.beq 0 0) 256=256:=by decide +kernel
theorem Gd:S.aS nB 1 2 252=false:=by
 have h:S.ba nB 1 2 252=false:=by
  rw[S.ba,jd,List.any_eq_false]
  intro w hw
  have hw:=List.mem_range.1 hw
  have d0:S.ax nB 1 2 252 0 w=656100000000*1:=d8 (s:=255) xC hw (yp w hw)
  have d1:S.ax nB 1 2 252 1 w=656100000000*4:=d8 (s:=252) E5 hw (EZ w hw)
  have d2:S.ax nB 1 2 252 2 w=656100000000*2:=d8 (s:=253) Fd hw (FC w hw)
  have d3:S.ax nB 1 2 252 3 w=656100000000*2:=d8 (s:=254) E2 hw (Fm w hw)
  rw[S.be,d0,d1,d2,d3]
  decide +kernel
 rw[S.aS,h,Bool.and_false]
theorem Gg:S.aS nB 0 255 0=false:=by
 have h:S.ba nB 0 255 0=false:=by
  rw[S.ba,jd,List.any_eq_false]
  intro w hw
  have hw:=List.mem_range.1 hw
  have d0:S.ax nB 0 255 0 0 w=656100000000*1:=d8 (s:=255) xC hw (yp w hw)
  have d1:S.ax nB 0 255 0 1 w=656100000000*256:=d8 (s:=0) FL hw FV
  have d2:S.ax nB 0 255 0 2 w=656100000000*256:=d8 (s:=0) FL hw FV
  have d3:S.ax nB 0 255 0 3 w=656100000000*1:=d8 (s:=255) xC hw (yp w hw)
  rw[S.be,d0,d1,d2,d3]
  decide +kernel
 rw[S.aS,h,Bool.and_false]
theorem FW:S.a7 nB 1 2 252=0:=by decide +kernel
theorem FH:S.a7 nB 0 255 0=0:=by decide +kernel
end
end Hx
end
section
namespace Hx
open Go
set_option maxRecDepth 100000
noncomputable section
def yA:List (List AV×AV):=[([nA,.int .u64 1,.int .u64 2,.int .u64 252],.tup [.bool false,.int .i64 0]),([nA,.int .u64 0,.int .u64 255,.int .u64 0],.tup [.bool false,.int .i64 0])]
def yH:List (List AV×AV):=[([nA,ivA eN],.tup [.int .i64 0,.agg [.int .i64 1,.int .i64 256],.int .i64 0]),([nA,ivA eO],.tup [.int .i64 128,.agg [.int .i64 1,.int .i64 128],.int .i64 0])]
def yG:List (List AV×AV):=[([nA,ivA eN,ivA eZ],.tup [.agg [.int .i64 1,.int .i64 256],.int .i64 0])]
def yv:List (List AV×AV):=[([nA,ivA eN],.tup [.int .i64 167961600000000,.int .i64 0])]
def zB:List (List AV×AV):=[([nA,ivA eO],.tup [.agg [.int .i64 1,.int .i64 2],.int .i64 0])]
theorem Dt (e:List Int)(h:S.aC nB e=true):S.au nB e=0:=iA.2 ⟨vB,h⟩
theorem CM:∀e∈yA,(∃n,sM 1 ((sem C0 n).call 2 N.ak e.1 G.empty)=some e.2)/\jk 5 e.2=true:=by
 intro e he
 simp only[yA,List.mem_cons,List.not_mem_nil,or_false] at he
 rcases he with rfl | rfl
 ·refine ⟨dW (by kernel_rfl) ?_,rfl⟩
  rw[<-fd]
  have:=qj (d:=1) (g:=G.empty) (n:=nB) (xs:=1) (ys:=2) (zs:=252) (by decide) (rP _) (by decide) (by decide) (by decide)
  rw[Gd,FW] at this
  exact this
 ·refine ⟨dW (by kernel_rfl) ?_,rfl⟩
  rw[<-fd]
  have:=qj (d:=1) (g:=G.empty) (n:=nB) (xs:=0) (ys:=255) (zs:=0) (by decide) (rP _) (by decide) (by decide) (by decide)
  rw[Gg,FH] at this
  exact this
theorem CQ (e:List Int)(h:S.aC nB e=true)(h0:S.aD nB e≠0):S.aW nB e=0/\S.bg nB e=(S.aq nB e 0 256).1/\S.a9 nB e=S.aP (S.aq nB e 0 256).2.toNat (S.aD nB e).toNat:=by
 have e1:S.aW nB e=0:=by rw[S.aW,if_pos (Dt e h),if_neg h0]
 exact ⟨e1,by rw[S.bg,if_pos e1,jd],by rw[S.a9,if_pos e1,jd]⟩
theorem C1:∀e∈yH,(∃n,sM 2 ((sem C0 n).call 3 N.af e.1 G.empty)=some e.2)/\jk 5 e.2=true:=by
 intro e he
 simp only[yH,List.mem_cons,List.not_mem_nil,or_false] at he
 rcases he with rfl | rfl
 ·refine ⟨dW (by kernel_rfl) ?_,rfl⟩
  rw[<-gy]
  obtain ⟨q1,q2,q3⟩:=CQ eN xR (by rw[oP];decide)
  rw[FI] at q2 q3
  rw[oP,show S.aP ((0,656100000000):Int×Int).2.toNat (167961600000000:Int).toNat=(1,256) by decide +kernel] at q3
  have:=vA (d:=2) (g:=G.empty) (n:=nB) (e:=eN) (by decide) (rP _) (rL eN (by decide) _)
  rw[q1,q2,q3] at this
  exact this
 ·refine ⟨dW (by kernel_rfl) ?_,rfl⟩
  rw[<-gy]
  obtain ⟨q1,q2,q3⟩:=CQ eO xk (by rw[rG];decide)
  rw[FP] at q2 q3
  rw[rG,show S.aP ((128,656100000000):Int×Int).2.toNat (83980800000000:Int).toNat=(1,128) by decide +kernel] at q3
  have:=vA (d:=2) (g:=G.empty) (n:=nB) (e:=eO) (by decide) (rP _) (rL eO (by decide) _)
  rw[q1,q2,q3] at this
  exact this
theorem CZ:∀e∈yG,(∃n,sM 1 ((sem C0 n).call 2 N.an e.1 G.empty)=some e.2)/\jk 5 e.2=true:=by
 intro e he
 simp only[yG,List.mem_cons,List.not_mem_nil,or_false] at he
 subst he
 refine ⟨dW (by kernel_rfl) ?_,rfl⟩
 rw[<-js]
 have e1:S.a_ nB eN eZ=0:=by rw[S.a_,if_pos (py.2 ⟨vB,xR,EW⟩),if_neg (by rw[oP];decide)]
 have e2:S.a8 nB eN eZ=(1,256):=by rw[S.a8,if_pos e1,Dr,oP];decide +kernel
 have:=z7 (d:=1) (g:=G.empty) (n:=nB) (e:=eN) (f:=eZ) (by decide) (rP _) (rL eN (by decide) _) (rL eZ (by decide) _)
 rw[e1,e2] at this
 exact this
theorem A7:∀e∈yv,(∃n,sM 1 ((sem C0 n).call 2 N.ae e.1 G.empty)=some e.2)/\jk 5 e.2=true:=by
 intro e he
 simp only[yv,List.mem_cons,List.not_mem_nil,or_false] at he
 subst he
 refine ⟨dW (by kernel_rfl) ?_,rfl⟩
 rw[<-kh]
 have:=BF (d:=1) (g:=G.empty) (n:=nB) (e:=eN) (by decide) (rP _) (rL eN (by decide) _)
 rw[S.br,Dt eN xR,if_pos rfl,oP] at this
 exact this
theorem B6:∀e∈zB,(∃n,sM 1 ((sem C0 n).call 2 N.ap e.1 G.empty)=some e.2)/\jk 5 e.2=true:=by
 intro e he
 simp only[zB,List.mem_cons,List.not_mem_nil,or_false] at he
 subst he
 refine ⟨dW (by kernel_rfl) ?_,rfl⟩
 rw[<-jZ]
 have e2:S.bj nB eO=(1,2):=by rw[S.bj,if_pos (Dt eO xk),rG,Cq];decide +kernel
 have:=BA (d:=1) (g:=G.empty) (n:=nB) (e:=eO) (by decide) (rP _) (rL eO (by decide) _)
 rw[Dt eO xk,e2] at this
 exact this
def fbk (f:Nat):Nat->List AV->G->OR:=F8 C0 20000 f
def E7:Cfg:=C0.add N.ak (nk 1 yA (fbk N.ak))
def Fx:Cfg:=E7.add N.af (nk 2 yH (fbk N.af))
def Fv:Cfg:=Fx.add N.an (nk 1 yG (fbk N.an))
def FA:Cfg:=Fv.add N.ae (nk 1 yv (fbk N.ae))
def F4:Cfg:=FA.add N.ap (nk 1 zB (fbk N.ap))
theorem qs:CfgOk C0:=Go.Proofs.Ytjddchnjpobmkaa.Gen.cfg1Ok
theorem Fh:CfgOk F4:=by
 have x12:ExtOk C0 N.ak (nk 1 yA (fbk N.ak)):=oE qs CM (nW qs)
 have x20:ExtOk C0 N.af (nk 2 yH (fbk N.af)):=oE qs C1 (nW qs)
 have x21:ExtOk C0 N.an (nk 1 yG (fbk N.an)):=oE qs CZ (nW qs)
 have x23:ExtOk C0 N.ae (nk 1 yv (fbk N.ae)):=oE qs A7 (nW qs)
 have x26:ExtOk C0 N.ap (nk 1 zB (fbk N.ap)):=oE qs B6 (nW qs)
 have hA:CfgOk E7:=qs.add x12
 have hB:CfgOk Fx:=hA.add (ExtOk.cfg (C:=C0) (C':=E7) rfl rfl x20)
 have hC:CfgOk Fv:=hB.add (ExtOk.cfg (C:=C0) (C':=Fx) rfl rfl x21)
 have hD:CfgOk FA:=hC.add (ExtOk.cfg (C:=C0) (C':=Fv) rfl rfl x23)
 exact hD.add (ExtOk.cfg (C:=C0) (C':=FA) rfl rfl x26)
end
end Hx
end
section
namespace Hx
open Go
set_option maxRecDepth 100000
theorem rE:xE ((sem F4 20000).call 1 N.aV [] G.empty)=true:=by kernel_rfl
end Hx
end
