/- A part of the proof: an interpreter over abstract values, shown right against the model, and what the functions of the chapter compute on it. -/
import Derived.OpenShut
import Derived.DataReads
import Derived.Test.YtjddchnjpobmkaaGreatHx16
set_option linter.unusedVariables false
set_option linter.unusedSimpArgs false
set_option linter.unnecessarySimpa false
section
namespace Hx
open Go
noncomputable section
theorem Hm (n:Net)(e:List Int):S.bF (S.aw n e) n e=S.aQ n e:=by
 unfold S.bF S.aQ
 by_cases h:S.aw n e=0
 ·rw[if_pos h]
  by_cases h2:S.aJ n e=0
  ·rw[if_pos ⟨h,h2⟩,if_pos h2]
  ·rw[if_neg fun hh=>h2 hh.2,if_neg h2,h]
 ·rw[if_neg fun hh=>h hh.1,if_neg h]
theorem Kq (a b:Int):zx true (.flat [.int .i64,.int .i64]) (.agg [.int .i64 a,.int .i64 b]) (.agg [.int .i64 a,.int .i64 b])=.val (.bool false):=by
 have ha:Dj a a=true:=by rw[o_];simp
 have hb:Dj b b=true:=by rw[o_];simp
 simp only[zx,eqA,c_,dR,m8,ha,hb]
 rfl
def JU:SC:=sQ [o 113 (.ix false 2 1 (.t 110) (.t 111)),oM 27 113] (sQ [o 115 (.load true 2 (.t 16)),oM 116 18,oM 117 27,o 118 (.call N.aZ [.t 115,.t 116,.t 117]),oM 114 118,o 119 (.ext (.t 114) 0),o 120 (.ext (.t 114) 1),o 28 (.alloc [.nils,.nils,.nils]),oz (.store 3 (.t 28) (.t 119)),oM 29 120] (sQ [oM 121 19,oM 30 121] (.seq (sQ [oM 122 30,o 123 (.bin .eql (.t 122) (qI 0)),oM 124 123,og 125 124 true (.mv (.t 27)),og 126 124 true (.fad 1 (.t 16)),og 127 124 true (.load false 1 (.t 126)),og 128 124 true (.len .slice (.t 127)),og 129 124 true (.call N.ax [.t 125,.t 128]),og 130 124 true (.not (.t 129)),o 131 (.pick (.t 124) (.t 130) (.k (.bool false)))] (.cond (.t 131) (.ops [oK 30 2]) (.skip))) cx)))
def LQ (R:List (Nat×AV))(p:Nat)(w:AV)(no:Int)(c110:AV)(j:Nat):List (Nat×AV):=(16,.hptr p 0 0 0)::(18,w)::(19,.int .i64 no)::(110,c110)::(111,.int .i64 (j:Int))::R
def LRt (v4 v5 c46 i47 c50 i51:AV):List (Nat×AV):=[(4,v4),(5,v5),(13,.hptr 3 0 0 0),(14,.hptr 4 0 0 0),(46,c46),(47,i47),(50,c50),(51,i51)]
theorem NA {n:Net}{e vars:List Int}{b w z c110 v4 v5 c46 i47 c50 i51:AV}{p j:Nat}{no:Int}{Q:QT}{t:T}{g:G}(hm:∀h,Agg n NoP 0 h (.agg [.int .i64 n.grain,b]))(he:SlR NoP 0 .nil e w)(hz:SlR NoP 0 .nil vars z)
  (hno:no=S.aw n e)
  (ht:St t (LQ (LRt v4 v5 c46 i47 c50 i51) p w no c110 j)) (hix:ixV false 2 1 c110 (.int .i64 (j:Int))=.val z) (hg:g.h.get p=.cells 2 [[.int .i64 n.grain,b]] 0 false false) (hp:p<g.nx)
  (fin:∀t g',St t (LQ (LRt v4 v5 c46 i47 c50 i51) p w no c110 j)->Fr g g'->Q .norm t [] g'):wp C0 1 none JU Q t [] g:=by
 have he':∀h,SlR NoP 0 h e w:=fun h=>he.tree (Nat.le_refl 0)
 have hz':∀h,SlR NoP 0 h vars z:=fun h=>hz.tree (Nat.le_refl 0)
 unfold JU
 refine aW (P:=fun t' df g'=>df=[]/\g'=g/\St t' ((27,z)::LQ (LRt v4 v5 c46 i47 c50 i51) p w no c110 j)) ?_ ?_
 ·obtain ⟨h16,h18,h19,h110,h111,h4,h5,h13,h14,h46,h47,h50,h51,-⟩:=ht
  simp only[sz,simprocAttr,h110,h111,hix]
  simp[St,LQ,LRt,sx,h16,h18,h19,h110,h111,h4,h5,h13,h14,h46,h47,h50,h51]
 clear ht
 rintro t df g1 ⟨rfl,rfl,ht⟩
 obtain ⟨r,hr⟩:∃r,r=g1.nx:=⟨_,rfl⟩
 refine aW (P:=fun t' df g'=>df=[]/\Fr g1 g'/\St t' ((27,z)::(28,.hptr r 0 0 0)::(29,.int .i64 (S.aK n e vars))::LQ (LRt v4 v5 c46 i47 c50 i51) p w no c110 j)/\r<g'.nx/\∃a1 a2 a3,g'.h.get r=.cells 3 [[a1,a2,a3]] 0 false false/\Rp.rp NoP 0 .nil (S.bf n e vars) [a1,a2,a3]) ?_ ?_
 ·obtain ⟨h27,h16,h18,h19,h110,h111,h4,h5,h13,h14,h46,h47,h50,h51,-⟩:=ht
  simp only[sz,simprocAttr,h16,h18,h27,hg]
  refine ba (GS (by decide) (hm _) (he' _) (hz' _)) ?_
  rintro _ ⟨f,c,rfl,⟨cs,rfl,hcs⟩,hc⟩
  rw[aJ.1 hc |> List.cons.inj |>.1]
  obtain ⟨a1,a2,a3,rfl,q1,q2,q3⟩:=dy.1 hcs
  simp only[sz,simprocAttr]
  refine ⟨AT _ _ _,?_,by simp[hr],a1,a2,a3,by simp[hr],hcs⟩
  simp[St,LQ,LRt,sx,h27,h16,h18,h19,h110,h111,h4,h5,h13,h14,h46,h47,h50,h51,hr]
 clear ht
 rintro t df g2 ⟨rfl,f2,ht,hr2,a1,a2,a3,kr,hfac⟩
 have hg2:g2.h.get p=.cells 2 [[.int .i64 n.grain,b]] 0 false false:=by rw[f2.2 p hp,hg]
 refine aW (P:=fun t' df g'=>df=[]/\g'=g2/\St t' ((27,z)::(28,.hptr r 0 0 0)::(29,.int .i64 (S.aK n e vars))::(30,.int .i64 no)::LQ (LRt v4 v5 c46 i47 c50 i51) p w no c110 j)) ?_ ?_
 ·obtain ⟨h27,h28,h29,h16,h18,h19,h110,h111,h4,h5,h13,h14,h46,h47,h50,h51,-⟩:=ht
  simp only[sz,simprocAttr,h19]
  simp[St,LQ,LRt,sx,h27,h28,h29,h16,h18,h19,h110,h111,h4,h5,h13,h14,h46,h47,h50,h51]
 clear ht
 rintro t df g3 ⟨rfl,rfl,ht⟩
 obtain ⟨rows,hb,r1,r2⟩:∃rows:Nat,rows=n.nodes.length/\(∀g,d_ .slice b g=.val (.int .i64 (n.nodes.length:Int)))/\True:=by
  obtain ⟨b',rows,eb,e1,hm',hN,r1,r2,r3,r4⟩:=cE (g:=g3) 0 (hm _)
  injection eb with eb;injection eb with _ eb;injection eb with eb _
  subst eb
  exact ⟨_,rfl,hN.len,trivial⟩
 refine dC (P:=fun t' df g'=>df=[]/\g'=g3/\St t' ((27,z)::(28,.hptr r 0 0 0)::(29,.int .i64 (S.aK n e vars))::(30,.int .i64 (S.aK n e vars))::LQ (LRt v4 v5 c46 i47 c50 i51) p w no c110 j)) ?_ ?_
 ·obtain ⟨h27,h28,h29,h30,h16,h18,h19,h110,h111,h4,h5,h13,h14,h46,h47,h50,h51,-⟩:=ht
  have kP:∀g,ae C0 1 N.ax [z,.int .i64 (n.nodes.length:Int)] g=.val (.bool (S.aA vars n.nodes.length)):=fun g=>xD (by decide) (hz' g.h)
  by_cases h0:no=0
  ·have hz0:S.aw n e=0:=by rw[<-hno,h0]
   cases hpl:S.aA vars n.nodes.length with
   | true =>
    have hE:S.aK n e vars=0:=by rw[S.aK,if_pos hz0,hpl];rfl
    simp only[sz,simprocAttr,h30,h0,h27,h16,hg2,r1,kP,hpl]
    simp[St,LQ,LRt,sx,h27,h28,h29,h30,h16,h18,h19,h110,h111,h4,h5,h13,h14,h46,h47,h50,h51,hE,h0]
   | false =>
    have hE:S.aK n e vars=2:=by rw[S.aK,if_pos hz0,hpl];rfl
    simp only[sz,simprocAttr,h30,h0,h27,h16,hg2,r1,kP,hpl]
    simp[St,LQ,LRt,sx,h27,h28,h29,h16,h18,h19,h110,h111,h4,h5,h13,h14,h46,h47,h50,h51,hE,h0]
  ·have hE:S.aK n e vars=no:=by rw[S.aK,if_neg (by rw[<-hno];exact h0),hno]
   simp only[sz,simprocAttr,h30,h0]
   simp[St,LQ,LRt,sx,h27,h28,h29,h30,h16,h18,h19,h110,h111,h4,h5,h13,h14,h46,h47,h50,h51,hE]
 clear ht
 rintro t df g4 ⟨rfl,rfl,h27,h28,h29,h30,h16,h18,h19,h110,h111,h4,h5,h13,h14,h46,h47,h50,h51,-⟩
 have hbd:o6 [.nils,.nils,.nils] [] []=.val (.agg [.nils,.nils,.nils]):=rfl
 by_cases hE:S.aK n e vars=0
 ·have hz0:S.aw n e=0/\S.aA vars n.nodes.length=true:=by
   unfold S.aK at hE
   by_cases ha:S.aw n e=0
   ·rw[if_pos ha] at hE
    cases hpl:S.aA vars n.nodes.length with
    | true=>exact ⟨ha,rfl⟩
    | false=>rw[hpl] at hE;cases hE
   ·rw[if_neg ha] at hE;exact absurd hE ha
  obtain ⟨b1,b2⟩:=i6.1 hz0.1
  have hnr:=cV.1 b1
  have hj:S.bf n e vars=⟨vars,S.ac (S.aa n) vars,S.aI n e vars (S.ap n)⟩:=by rw[S.bf,if_pos hE]
  rw[hj] at hfac
  rw[hE] at h29 h30
  simp only[sz,simprocAttr,cx,h30,h29,h28,h16,h18,h27,kr,hg2]
  refine ba (GX (by decide) (hm _) hnr he b2 hz hz0.2) ?_
  rintro _ ⟨cs,rfl,hcs⟩
  have kS:∀g,ae C0 1 N.aB [.agg [a1,a2,a3],.agg cs] g=.val (.bool true):=fun g=>Cq (by decide) (gK (P:=NoP) hfac g.h) (gK (P:=NoP) hcs g.h) rfl
  simp only[sz,simprocAttr,kS]
  exact fin _ _ (by simp[St,LQ,LRt,sx,h16,h18,h19,h110,h111,h4,h5,h13,h14,h46,h47,h50,h51]) f2
 ·have hj:S.bf n e vars=⟨[],[],[]⟩:=by rw[S.bf,if_neg hE]
  rw[hj] at hfac
  have kS:∀g,ae C0 1 N.aB [.agg [a1,a2,a3],.agg [.nils,.nils,.nils]] g=.val (.bool true):=fun g=>Cq (by decide) (gK (P:=NoP) hfac g.h) (xV NoP g.h) rfl
  simp only[sz,simprocAttr,cx,h30,h29,hE,h28,kr,kS]
  exact fin _ _ (by simp[St,LQ,LRt,sx,h16,h18,h19,h110,h111,h4,h5,h13,h14,h46,h47,h50,h51]) f2
def LR (q12 q13:Nat)(c50 i51 c54 i55:AV):List (Nat×AV):=[(12,.hptr q12 0 0 0),(13,.hptr q13 0 0 0),(50,c50),(51,i51),(54,c54),(55,i55)]
def L2 (q12 q13:Nat)(c50 i51 c54:AV)(p j:Nat):List (Nat×AV):=(15,.hptr p 0 0 0)::LR q12 q13 c50 i51 c54 (.int .i64 (j:Int))
theorem C_ (g:G):ae C0 1 N.bT [] g=.val (.bool true):=by kernel_rfl
theorem Nz (n sz id:Nat)(h:0<n):H8 n sz (.hptr id 0 0 0) (.int .i64 0)=.val (.hptr id 0 0 0):=by
 have:=FX n sz id 0 0 0 .i64 h
 simpa using this
theorem Le {k:Nat}(h:k<=5):1<=S.aG k:=by
 have:k=0\/k=1\/k=2\/k=3\/k=4\/k=5:=by omega
 rcases this with rfl | rfl | rfl | rfl | rfl | rfl<;>decide
def Gy:SC:=sQ [o 53 (.ix false 2 1 (.t 50) (.t 51)),oM 18 53] (sQ [o 54 (.load true 2 (.t 16)),oM 55 18,o 56 (.call N.ay [.t 54,.t 55]),oM 19 56] (sQ [o 58 (.load true 2 (.t 16)),oM 59 18,o 60 (.call N.aF [.t 58,.t 59]),oM 57 60,o 61 (.ext (.t 57) 0),o 62 (.ext (.t 57) 1),o 63 (.ext (.t 57) 2),o 21 (.alloc [.int .i64 0,.int .i64 0]),oM 20 61,oz (.store 2 (.t 21) (.t 62)),oM 22 63] (sQ [oM 64 19,o 65 (.load true 2 (.t 16)),oM 66 18,o 67 (.call N.aH [.t 64,.t 65,.t 66]),oM 23 67] (.seq (sQ [oM 68 23,o 69 (.bin .neq (.t 68) (qI 0))] (.cond (.t 69) (sQ [oM 70 20,o 71 (.bin .neq (.t 70) (qI 0)),oM 72 71,og 73 72 false (.load true 2 (.t 21)),og 74 72 false (.build [.int .i64 0,.int .i64 0] [] []),og 75 72 false (.eq true (.flat [.int .i64,.int .i64]) (.t 73) (.t 74)),o 76 (.pick (.t 72) (.k (.bool true)) (.t 75)),oM 77 76,og 78 77 false (.mv (.t 22)),og 79 77 false (.mv (.t 23)),og 80 77 false (.bin .neq (.t 78) (.t 79)),o 81 (.pick (.t 77) (.k (.bool true)) (.t 80))] (.cond (.t 81) (sQ [o 12 (.mv (.k (.bool false)))] (.ret)) (.skip))) (sQ [o 83 (.load true 2 (.t 16)),oM 84 18,o 85 (.call N.aD [.t 83,.t 84]),oM 82 85,o 86 (.ext (.t 82) 0),o 87 (.ext (.t 82) 1),o 25 (.alloc [.int .i64 0,.int .i64 0]),oM 24 86,oz (.store 2 (.t 25) (.t 87))] (sQ [oM 88 20,oM 89 24,o 90 (.bin .neq (.t 88) (.t 89)),oM 91 90,og 92 91 false (.load true 2 (.t 21)),og 93 91 false (.load true 2 (.t 25)),og 94 91 false (.eq true (.flat [.int .i64,.int .i64]) (.t 92) (.t 93)),o 95 (.pick (.t 91) (.k (.bool true)) (.t 94)),oM 96 95,og 97 96 false (.mv (.t 22)),og 98 96 false (.bin .neq (.t 97) (qI 0)),o 99 (.pick (.t 96) (.k (.bool true)) (.t 98))] (.cond (.t 99) (sQ [o 12 (.mv (.k (.bool false)))] (.ret)) (.skip)))))) dP))))
def LE2 (v4 v5 c46 i47 c50:AV)(p j:Nat):List (Nat×AV):=(16,.hptr p 0 0 0)::LRt v4 v5 c46 i47 c50 (.int .i64 (j:Int))
theorem NF {n n0:Net}{e vars:List Int}{b b0 x2 x3 w z c46 i47 c50:AV}{p j sv:Nat}{Q:QT}{t:T}{g:G}(hm:∀h,Agg n NoP 0 h (.agg [.int .i64 n.grain,b]))(he:SlR NoP 0 .nil e w)(hz:SlR NoP 0 .nil vars z)(hs:sv<18446744073709551616)
  (hb0:∀g,d_ .slice b0 g=.val (.int .i64 (n0.nodes.length:Int))) (hn0:n0.nodes.length<=5)
  (ht:St t (LE2 z (.int .u64 (sv:Int)) c46 i47 c50 p j)) (hix:ixV false 2 1 c50 (.int .i64 (j:Int))=.val w) (hg:g.h.get p=.cells 2 [[.int .i64 n.grain,b]] 0 false false) (hp:p<g.nx)
  (hg3:g.h.get 3=.cells 4 [[.int .i64 n0.grain,b0,x2,x3]] 0 false false) (h3n:3<g.nx)
  (fin:∀t g',St t (LE2 z (.int .u64 (sv:Int)) c46 i47 c50 p j)->Fr g g'->Q .norm t [] g'):wp C0 1 none Gy Q t [] g:=by
 have he':∀h,SlR NoP 0 h e w:=fun h=>he.tree (Nat.le_refl 0)
 have kRf:∀g,ae C0 1 N.ay [.agg [.int .i64 n.grain,b],w] g=.val (.int .i64 (S.aw n e)):=fun g=>Ei (by decide) (hm _) he
 have kB1:∀g,ae C0 1 N.aF [.agg [.int .i64 n.grain,b],w] g=.val (.tup [.int .i64 (S.aU n e),.agg [.int .i64 (S.aM n e).1,.int .i64 (S.aM n e).2],.int .i64 (S.aQ n e)]):=fun g=>Kj (by decide) (hm _) (he' _)
 have kP:∀g,ae C0 1 N.aH [.int .i64 (S.aw n e),.agg [.int .i64 n.grain,b],w] g=.val (.int .i64 (S.aQ n e)):=fun g=>by
  rw[Ci (by decide) (hm _) he fun h=>i6.1 h,Hm]
 obtain ⟨no,hno⟩:∃no,no=S.aw n e:=⟨_,rfl⟩
 rw[<-hno] at kP
 have kRf:∀g,ae C0 1 N.ay [.agg [.int .i64 n.grain,b],w] g=.val (.int .i64 no):=fun g=>by rw[kRf,hno]
 unfold Gy
 refine aW (P:=fun t' df g'=>df=[]/\g'=g/\St t' ((18,w)::LE2 z (.int .u64 (sv:Int)) c46 i47 c50 p j)) ?_ ?_
 ·obtain ⟨h16,h4,h5,h13,h14,h46,h47,h50,h51,-⟩:=ht
  simp only[sz,simprocAttr,h50,h51,hix]
  simp[St,LE2,LRt,sx,h16,h4,h5,h13,h14,h46,h47,h50,h51]
 clear ht
 rintro t df g1 ⟨rfl,rfl,ht⟩
 refine aW (P:=fun t' df g'=>df=[]/\g'=g1/\St t' ((18,w)::(19,.int .i64 no)::LE2 z (.int .u64 (sv:Int)) c46 i47 c50 p j)) ?_ ?_
 ·obtain ⟨h18,h16,h4,h5,h13,h14,h46,h47,h50,h51,-⟩:=ht
  simp only[sz,simprocAttr,h16,h18,hg,kRf]
  simp[St,LE2,LRt,sx,h18,h16,h4,h5,h13,h14,h46,h47,h50,h51]
 clear ht
 rintro t df g2 ⟨rfl,rfl,ht⟩
 obtain ⟨r,hr⟩:∃r,r=g2.nx:=⟨_,rfl⟩
 refine aW (P:=fun t' df g'=>df=[]/\Fr g2 g'/\St t' ((20,.int .i64 (S.aU n e))::(21,.hptr r 0 0 0)::(22,.int .i64 (S.aQ n e))::(18,w)::(19,.int .i64 no)::LE2 z (.int .u64 (sv:Int)) c46 i47 c50 p j)/\r<g'.nx/\g'.h.get r=.cells 2 [[.int .i64 (S.aM n e).1,.int .i64 (S.aM n e).2]] 0 false false) ?_ ?_
 ·obtain ⟨h18,h19,h16,h4,h5,h13,h14,h46,h47,h50,h51,-⟩:=ht
  simp only[sz,simprocAttr,h16,h18,hg,kB1]
  refine ⟨AT _ _ _,?_,by simp[hr],by simp[hr]⟩
  simp[St,LE2,LRt,sx,h18,h19,h16,h4,h5,h13,h14,h46,h47,h50,h51,hr]
 clear ht
 rintro t df g3 ⟨rfl,f3,ht,hr3,kr⟩
 have gp3:g3.h.get p=.cells 2 [[.int .i64 n.grain,b]] 0 false false:=by rw[f3.2 p hp,hg]
 refine aW (P:=fun t' df g'=>df=[]/\g'=g3/\St t' ((23,.int .i64 (S.aQ n e))::(20,.int .i64 (S.aU n e))::(21,.hptr r 0 0 0)::(22,.int .i64 (S.aQ n e))::(18,w)::(19,.int .i64 no)::LE2 z (.int .u64 (sv:Int)) c46 i47 c50 p j)) ?_ ?_
 ·obtain ⟨h20,h21,h22,h18,h19,h16,h4,h5,h13,h14,h46,h47,h50,h51,-⟩:=ht
  simp only[sz,simprocAttr,h19,h16,h18,gp3,kP]
  simp[St,LE2,LRt,sx,h20,h21,h22,h18,h19,h16,h4,h5,h13,h14,h46,h47,h50,h51]
 clear ht
 rintro t df g4 ⟨rfl,rfl,ht⟩
 refine dC (P:=fun t' df g'=>df=[]/\Fr g4 g'/\St t' ((18,w)::(19,.int .i64 no)::LE2 z (.int .u64 (sv:Int)) c46 i47 c50 p j)) ?_ ?_
 ·obtain ⟨h23,h20,h21,h22,h18,h19,h16,h4,h5,h13,h14,h46,h47,h50,h51,-⟩:=ht
  by_cases hE:S.aQ n e=0
  ·have hz0:S.aw n e=0/\S.aJ n e≠0:=by
    unfold S.aQ at hE
    by_cases ha:S.aw n e=0
    ·rw[if_pos ha] at hE
     by_cases hb:S.aJ n e=0
     ·rw[if_pos hb] at hE;cases hE
     ·exact ⟨ha,hb⟩
    ·rw[if_neg ha] at hE;exact absurd hE ha
   obtain ⟨a1,a2⟩:=i6.1 hz0.1
   have hnr:=cV.1 a1
   have hW:S.aU n e=(S.ak n e 0 (S.ap n)).1:=by rw[S.aU,if_pos hE]
   have hQ:S.aM n e=S.aE (S.ak n e 0 (S.ap n)).2.toNat (S.aJ n e).toNat:=by rw[S.aM,if_pos hE]
   have hb2:(S.ak n e 0 (S.ap n)).2≠0:=fun h=>hz0.2 (by rw[CM];exact GM hnr e 0 _ h)
   have hbs:=Ap (n:=n) e 0 (-1) (S.ap n)
   have kB2:∀g,ae C0 1 N.aD [.agg [.int .i64 n.grain,b],w] g=.val (.tup [.int .i64 (S.aU n e),.agg [.int .i64 (S.aM n e).1,.int .i64 (S.aM n e).2]]):=fun g=>by
    rw[Ib (by decide) (hm _) hnr he a2 hz0.2,hW,hQ,hbs.2 hb2,hbs.1]
   rw[hE] at h22 h23
   have n1:¬g4.nx=r:=by omega
   have n2:¬r=g4.nx:=by omega
   simp only[sz,simprocAttr,h23,h16,h18,gp3,kB2,h20,h21,h22,n2,kr,Kq]
   refine ⟨AT _ _ _,?_⟩
   simp[St,LE2,LRt,sx,h18,h19,h16,h4,h5,h13,h14,h46,h47,h50,h51]
  ·have hW:S.aU n e=0:=by rw[S.aU,if_neg hE]
   have hQ:S.aM n e=(0,0):=by rw[S.aM,if_neg hE]
   have hbd:o6 [.int .i64 0,.int .i64 0] [] []=.val (.agg [.int .i64 0,.int .i64 0]):=rfl
   rw[hW] at h20
   rw[hQ] at kr
   simp only[sz,simprocAttr,h23,hE,h20,h21,h22,kr,Kq]
   exact ⟨Fr.refl _,by simp[St,LE2,LRt,sx,h18,h19,h16,h4,h5,h13,h14,h46,h47,h50,h51]⟩
 clear ht
 rintro t df g5 ⟨rfl,f5,ht⟩
 unfold dP
 have f15:=f3.trans f5
 have gp5:g5.h.get p=.cells 2 [[.int .i64 n.grain,b]] 0 false false:=by rw[f15.2 p hp,hg]
 have hp5:p<g5.nx:=Nat.lt_of_lt_of_le hp f15.1
 have g35:g5.h.get 3=.cells 4 [[.int .i64 n0.grain,b0,x2,x3]] 0 false false:=by rw[f15.2 3 h3n,hg3]
 have hbp:=Le hn0
 have hbl:=qK n0.nodes.length
 have ws:IntKind.wrap .u64 ((S.aG n0.nodes.length:Int) - 1)=((S.aG n0.nodes.length - 1:Nat):Int):=by rw[jU (by omega) (by omega)];omega
 have hand:=xx sv (S.aG n0.nodes.length - 1) hs (by omega)
 have hlt:sv &&& (S.aG n0.nodes.length - 1)<18446744073709551616:=Nat.lt_of_le_of_lt Nat.and_le_left hs
 refine aW (P:=fun t' df g'=>df=[]/\g'=g5/\∃(z2:AV) (l:List Int),SlR NoP 0 .nil l z2/\St t' (LQ (LRt z (.int .u64 (sv:Int)) c46 i47 c50 (.int .i64 (j:Int))) p w no (.agg [z,z2]) 0)) ?_ ?_
 ·obtain ⟨h18,h19,h16,h4,h5,h13,h14,h46,h47,h50,h51,-⟩:=ht
  have ld:eC (.cells 4 [[.int .i64 n0.grain,b0,x2,x3]] 0 false false) 0 0 false 1 1=.val b0:=rfl
  simp only[sz,simprocAttr,h4,h5,h13,Nz 2 2 3 (by decide),g35,ld,hb0,jd,ws,hand]
  refine ba (D2 (by decide) hlt) ?_
  rintro z2 ⟨l,-,hl⟩
  have hl:SlR NoP 0 .nil l z2:=IT.sl (k:=0) hl .nil
  have fw:dK [.nils,.nils] [((0,1),z),((1,1),z2)]=some [z,z2]:=by
   simp[dK,hz.cell,hl.cell,cP]
   rfl
  simp only[sz,simprocAttr,fw]
  exact ⟨z2,l,hl,by simp[St,LQ,LRt,sx,h18,h19,h16,h4,h5,h13,h14,h46,h47,h50,h51]⟩
 clear ht
 rintro t df g6 ⟨rfl,rfl,z2,l,hl,h16,h18,h19,h110,h111,hrest⟩
 simp only[uW,tV,gQ,gV]
 refine qJ (m:=2) rfl (by omega) (fun i t df g=>df=[]/\Fr g6 g/\St t [(16,.hptr p 0 0 0),(18,w),(19,.int .i64 no),(110,.agg [z,z2])]/\St t (LRt z (.int .u64 (sv:Int)) c46 i47 c50 (.int .i64 (j:Int))))
  ⟨rfl,Fr.refl _,⟨h16,h18,h19,h110,trivial⟩,hrest⟩ h111 (by decide) (by rintro i t df g v s (rfl | rfl | rfl)<;>simp[St,LRt,sx]) ?_ ?_
 ·clear h16 h18 h19 h110 h111 hrest
  rintro i t df g hi ⟨rfl,hfr,⟨h16,h18,h19,h110,-⟩,hrest⟩ h111
  have hl3:St t (LQ (LRt z (.int .u64 (sv:Int)) c46 i47 c50 (.int .i64 (j:Int))) p w no (.agg [z,z2]) i):=⟨h16,h18,h19,h110,h111,hrest⟩
  have hgi:g.h.get p=.cells 2 [[.int .i64 n.grain,b]] 0 false false:=by rw[hfr.2 p hp5,gp5]
  have hpi:p<g.nx:=Nat.lt_of_lt_of_le hp5 hfr.1
  have fin':∀t g',St t (LQ (LRt z (.int .u64 (sv:Int)) c46 i47 c50 (.int .i64 (j:Int))) p w no (.agg [z,z2]) i)->Fr g g'->kR (fun t df g=>(df=[]/\Fr g6 g/\St t [(16,.hptr p 0 0 0),(18,w),(19,.int .i64 no),(110,.agg [z,z2])]/\St t (LRt z (.int .u64 (sv:Int)) c46 i47 c50 (.int .i64 (j:Int))))/\tat t 111=.int .i64 (i:Int)) 5 (kB 4 Q) .norm t [] g':=by
   rintro t g' ⟨h16,h18,h19,h110,h111,hrest⟩ hf
   exact ⟨⟨rfl,hfr.trans hf,⟨h16,h18,h19,h110,trivial⟩,hrest⟩,h111⟩
  have:i=0\/i=1:=by omega
  rcases this with rfl | rfl
  ·exact NA hm he hz hno hl3 rfl hgi hpi fin'
  ·exact NA hm he hl hno hl3 rfl hgi hpi fin'
 ·rintro t df g ⟨rfl,hfr,⟨h16,-⟩,hrest⟩
  simp only[gW,if_true]
  exact fin t g ⟨h16,hrest⟩ (f15.trans hfr)
def LN1 (v4 v5 c46:AV)(i:Nat):List (Nat×AV):=[(4,v4),(5,v5),(13,.hptr 3 0 0 0),(14,.hptr 4 0 0 0),(46,c46),(47,.int .i64 (i:Int))]
def Gn:SC:=sQ [o 49 (.ix true 2 2 (.t 46) (.t 47)),o 16 (.alloc [.int .i64 0,.nils]),oz (.store 2 (.t 16) (.t 49))] (sQ [o 50 (.load true 2 (.t 14)),oK 51 0] (.blk 2 (.loop dL)))
theorem NE {n n0:Net}{e1 e2 vars:List Int}{b b0 x2 x3 w1 w2 z c46:AV}{i sv:Nat}{Q:QT}{t:T}{g:G}(hm:∀h,Agg n NoP 0 h (.agg [.int .i64 n.grain,b]))(he1:SlR NoP 0 .nil e1 w1)(he2:SlR NoP 0 .nil e2 w2)(hz:SlR NoP 0 .nil vars z)(hs:sv<18446744073709551616)
  (hb0:∀g,d_ .slice b0 g=.val (.int .i64 (n0.nodes.length:Int))) (hn0:n0.nodes.length<=5)
  (ht:St t (LN1 z (.int .u64 (sv:Int)) c46 i)) (hix:ixV true 2 2 c46 (.int .i64 (i:Int))=.val (.agg [.int .i64 n.grain,b])) (hg3:g.h.get 3=.cells 4 [[.int .i64 n0.grain,b0,x2,x3]] 0 false false) (hg4:g.h.get 4=.cells 2 [[w1,w2]] 0 false false) (h4n:4<g.nx)
  (fin:∀t g',St t (LN1 z (.int .u64 (sv:Int)) c46 i)->Fr g g'->Q .norm t [] g'):wp C0 1 none Gn Q t [] g:=by
 unfold Gn
 obtain ⟨p,hp⟩:∃p,p=g.nx:=⟨_,rfl⟩
 refine aW (P:=fun t' df g'=>df=[]/\Fr g g'/\St t' ((16,.hptr p 0 0 0)::LN1 z (.int .u64 (sv:Int)) c46 i)/\p<g'.nx/\g'.h.get p=.cells 2 [[.int .i64 n.grain,b]] 0 false false) ?_ ?_
 ·obtain ⟨h4,h5,h13,h14,h46,h47,-⟩:=ht
  simp only[sz,simprocAttr,h46,h47,hix]
  refine ⟨AT _ _ _,?_,by simp[hp],by simp[hp]⟩
  simp[St,LN1,sx,h4,h5,h13,h14,h46,h47,hp]
 clear ht
 rintro t df g1 ⟨rfl,fr1,ht,hp1,hgp⟩
 have k3:g1.h.get 3=.cells 4 [[.int .i64 n0.grain,b0,x2,x3]] 0 false false:=by rw[fr1.2 3 (by omega),hg3]
 have k4:g1.h.get 4=.cells 2 [[w1,w2]] 0 false false:=by rw[fr1.2 4 h4n,hg4]
 have n4:4<g1.nx:=Nat.lt_of_lt_of_le h4n fr1.1
 refine aW (P:=fun t' df g'=>df=[]/\g'=g1/\St t' (LE2 z (.int .u64 (sv:Int)) c46 (.int .i64 (i:Int)) (.agg [w1,w2]) p 0)) ?_ ?_
 ·obtain ⟨h16,h4,h5,h13,h14,h46,h47,-⟩:=ht
  simp only[sz,simprocAttr,h14,k4]
  simp[St,LE2,LRt,sx,h16,h4,h5,h13,h14,h46,h47]
 clear ht
 rintro t df g2 ⟨rfl,rfl,h16,h4,h5,h13,h14,h46,h47,h50,h51,-⟩
 simp only[uW,tV,dL,ie]
 refine qJ (m:=2) rfl (by omega) (fun j t df g=>df=[]/\Fr g2 g/\St t [(16,.hptr p 0 0 0),(4,z),(5,.int .u64 (sv:Int)),(13,.hptr 3 0 0 0),(14,.hptr 4 0 0 0),(46,c46),(47,.int .i64 (i:Int)),(50,.agg [w1,w2])])
  ⟨rfl,Fr.refl _,⟨h16,h4,h5,h13,h14,h46,h47,h50,trivial⟩⟩ h51 (by decide) (by rintro i t df g v s (rfl | rfl | rfl)<;>simp[St,sx]) ?_ ?_
 ·clear h16 h4 h5 h13 h14 h46 h47 h50 h51
  rintro j t df g hj ⟨rfl,hfr,h16,h4,h5,h13,h14,h46,h47,h50,-⟩ h51
  have hl:St t (LE2 z (.int .u64 (sv:Int)) c46 (.int .i64 (i:Int)) (.agg [w1,w2]) p j):=⟨h16,h4,h5,h13,h14,h46,h47,h50,h51,trivial⟩
  have fin':∀t g',St t (LE2 z (.int .u64 (sv:Int)) c46 (.int .i64 (i:Int)) (.agg [w1,w2]) p j)->Fr g g'->kR (fun t df g=>(df=[]/\Fr g2 g/\St t [(16,.hptr p 0 0 0),(4,z),(5,.int .u64 (sv:Int)),(13,.hptr 3 0 0 0),(14,.hptr 4 0 0 0),(46,c46),(47,.int .i64 (i:Int)),(50,.agg [w1,w2])])/\tat t 51=.int .i64 (j:Int)) 3 (kB 2 Q) .norm t [] g':=by
   rintro t g' ⟨h16,h4,h5,h13,h14,h46,h47,h50,h51,-⟩ hf
   exact ⟨⟨rfl,hfr.trans hf,h16,h4,h5,h13,h14,h46,h47,h50,trivial⟩,h51⟩
  have hgp':g.h.get p=.cells 2 [[.int .i64 n.grain,b]] 0 false false:=by rw[hfr.2 p hp1,hgp]
  have hk3:g.h.get 3=.cells 4 [[.int .i64 n0.grain,b0,x2,x3]] 0 false false:=by rw[hfr.2 3 (by omega),k3]
  have h3n:3<g.nx:=by have:=hfr.1;omega
  have:j=0\/j=1:=by omega
  rcases this with rfl | rfl
  ·exact NF hm he1 hz hs hb0 hn0 hl rfl hgp' (Nat.lt_of_lt_of_le hp1 hfr.1) hk3 h3n fin'
  ·exact NF hm he2 hz hs hb0 hn0 hl rfl hgp' (Nat.lt_of_lt_of_le hp1 hfr.1) hk3 h3n fin'
 ·rintro t df g ⟨rfl,hfr,h16,h4,h5,h13,h14,h46,h47,h50,-⟩
  simp only[gW,if_true]
  exact fin t g ⟨h4,h5,h13,h14,h46,h47,trivial⟩ (fr1.trans hfr)
theorem Kn (a b c e f k:AV)(t:T):cq 0 [a,b,c,e,f,k] t=fC (fC (fC (fC (fC (fC t 0 a) 1 b) 2 c) 3 e) 4 f) 5 k:=rfl
theorem vO {x:tj}{y:jS}{u1 u2 w wv:AV}{raw vars:List Int}{vs:List UInt8}{sv:Nat}(hx:Agg x NoP 0 .nil u1)(hy:Agg y NoP 0 .nil u2)
  (hw:SlR NoP 0 .nil raw w) (hraw:Raw w) (hv:vs.length=9) (hvars:SlR NoP 0 .nil vars wv) (hraw2:Raw wv) (hs:sv<18446744073709551616):∃g',(I C0).call 1 N.bQ [u1,u2,w,.agg (vs.map u8v),wv,.int .u64 (sv:Int)] G.empty=.ok (.bool true) g':=by
 obtain ⟨xs,rfl,qx⟩:=hx
 obtain ⟨ys,rfl,qy⟩:=hy
 obtain ⟨a1',a2',e1,-⟩:=vD.1 qx
 have hxl:xs.length=3:=by rw[e1];rfl
 have hyl:ys.length=4:=by rw[xF.1 qy];rfl
 clear e1 a1' a2'
 obtain ⟨A,hA⟩:∃A,A=vs.map u8v:=⟨_,rfl⟩
 have hAl:A.length=9:=by rw[hA];simpa using hv
 rw[<-hA]
 have key:=oT (C:=C0) (d:=1) (f:=N.bQ) («as»:=[.agg xs,.agg ys,w,.agg A,wv,.int .u64 (sv:Int)]) (g:=G.empty) (K:=fun v g'=>v=.bool true) re (by simp[fB]) ?_
 ·cases hc:(I C0).call 1 N.bQ [.agg xs,.agg ys,w,.agg A,wv,.int .u64 (sv:Int)] G.empty with
  | fail=>rw[hc] at key;exact key.elim
  | ok v g'=>rw[hc] at key;exact ⟨g',by rw[show v=.bool true from key]⟩
 simp only[sz,simprocAttr,fB,Kn]
 obtain ⟨g0,hg0⟩:∃g0,g0=((G.empty.new (AObj.cells xs.length [xs] 0 false false)).new (AObj.cells ys.length [ys] 0 false false)).new (AObj.cells A.length [A] 0 false false):=⟨_,rfl⟩
 rw[<-hg0]
 have f0:g0.h.get 0=.cells 3 [xs] 0 false false:=by rw[hg0,hxl];simp[sx,H.get_put]
 have f1:g0.h.get 1=.cells 4 [ys] 0 false false:=by rw[hg0,hyl];simp[sx,H.get_put]
 have f2:g0.h.get 2=.cells 9 [A] 0 false false:=by rw[hg0,hAl];simp[sx]
 have f4:g0.nx=3:=by rw[hg0];simp[sx]
 clear hg0
 have ld0:eC (.cells 3 [xs] 0 false false) 0 0 true 3 0=.val (.agg xs):=by
  match xs,hxl with
  | [a,b,c],_=>rfl
 have ld1:eC (.cells 4 [ys] 0 false false) 0 0 true 4 0=.val (.agg ys):=by
  match ys,hyl with
  | [a,b,c,d],_=>rfl
 have ld2:eC (.cells 9 [A] 0 false false) 0 0 true 9 0=.val (.agg A):=by
  match A,hAl with
  | [a,b,c,d,e,f,g,h,i],_=>rfl
 simp only[iA]
 refine dC (P:=fun t' df g'=>df=[]/\g'=g0/\St t' [(2,w),(4,wv),(5,.int .u64 (sv:Int)),(6,.hptr 0 0 0 0),(7,.hptr 1 0 0 0),(9,.hptr 2 0 0 0)]) ?_ ?_
 ·simp only[sz,simprocAttr,C_]
  simp[St,sx]
 rintro t df g1 ⟨rfl,rfl,ht⟩
 obtain ⟨r,er,⟨⟨n,m⟩,ev⟩,⟨hdr,hev⟩,c1,c2,rfl,⟨cn,rfl,n1,n2,rfl,hn1,hn2⟩,⟨cl,rfl,l1,l2,rfl,hl1,hl2⟩⟩:=J0 (d:=1) (g:=g1) (by decide) qx qy hw hraw hv
 obtain ⟨b,rfl,hNb⟩:=cW.1 hn1
 obtain ⟨b2,rfl,-⟩:=cW.1 hn2
 obtain ⟨w1,rfl,hw1⟩:=da.1 hl1
 obtain ⟨w2,rfl,hw2⟩:=da.1 hl2
 rw[<-hA] at er
 simp only[List.cons_append,List.nil_append] at er
 have hM:∀h,Agg n NoP 0 h (.agg [.int .i64 n.grain,b]):=fun h=>gK hn1 h
 have hM2:∀h,Agg m NoP 0 h (.agg [.int .i64 m.grain,b2]):=fun h=>gK hn2 h
 refine aW (P:=fun t' df g'=>df=[]/\4<g'.nx/\St t' [(4,wv),(5,.int .u64 (sv:Int)),(13,.hptr 3 0 0 0),(14,.hptr 4 0 0 0)]/\g'.h.get 3=.cells 4 [[.int .i64 n.grain,b,.int .i64 m.grain,b2]] 0 false false/\g'.h.get 4=.cells 2 [[w1,w2]] 0 false false) ?_ ?_
 ·obtain ⟨h2,h4,h5,h6,h7,h9,-⟩:=ht
  simp only[sz,simprocAttr,h2,h6,h7,h9,f0,f1,f2,ld0,ld1,ld2,er,show ¬g1.nx=g1.nx+1 by omega,show ¬g1.nx+1=g1.nx by omega]
  simp[St,sx,h4,h5,f4]
 clear ht f0 f1 f2 f4 er
 rintro t df g2 ⟨rfl,hn6,⟨h4,h5,h13,h14,-⟩,f3,f4⟩
 have hn5:1<=n.nodes.length/\n.nodes.length<=5:=hdr.l
 obtain ⟨z,hz1,hz2⟩:=JL hvars hraw2 6
 have lv:=hvars.len
 have hz1':∀g,sn 1 wv none (some (.int .i64 (min (vars.length:Int) 6))) g=.val z:=hz1
 refine aW (P:=fun t' df g'=>df=[]/\g'=g2/\St t' [(4,z),(5,.int .u64 (sv:Int)),(13,.hptr 3 0 0 0),(14,.hptr 4 0 0 0)]) ?_ ?_
 ·simp only[sz,simprocAttr,h4,lv,List.head?_nil,List.head?_cons,hz1']
  simp[St,sx,h5,h13,h14]
 clear h4 h5 h13 h14
 rintro t df g3 ⟨rfl,rfl,h4,h5,h13,h14,-⟩
 refine dC (P:=fun t' df g'=>df=[]) ?_ ?_
 ·refine aW (P:=fun t' df g'=>df=[]/\g'=g3/\St t' (LN1 z (.int .u64 (sv:Int)) (.agg [.int .i64 n.grain,b,.int .i64 m.grain,b2]) 0)) ?_ ?_
  ·simp only[sz,simprocAttr,h13,f3]
   simp[St,LN1,sx,h4,h5,h13,h14]
  clear h4 h5 h13 h14
  rintro t df g4 ⟨rfl,rfl,h4,h5,h13,h14,h46,h47,-⟩
  simp only[uW,tV,gC,ia]
  refine qJ (m:=2) rfl (by omega) (fun j t df g=>df=[]/\Fr g4 g/\St t [(4,z),(5,.int .u64 (sv:Int)),(13,.hptr 3 0 0 0),(14,.hptr 4 0 0 0),(46,.agg [.int .i64 n.grain,b,.int .i64 m.grain,b2])])
   ⟨rfl,Fr.refl _,h4,h5,h13,h14,h46,trivial⟩ h47 (by decide) (by rintro j t df g v s (rfl | rfl | rfl)<;>simp[St,sx]) ?_ ?_
  ·clear h4 h5 h13 h14 h46 h47
   rintro j t df g hj ⟨rfl,hfr,h4,h5,h13,h14,h46,-⟩ h47
   have fin':∀t g',St t (LN1 z (.int .u64 (sv:Int)) (.agg [.int .i64 n.grain,b,.int .i64 m.grain,b2]) j)->Fr g g'->(([]:List ADf)=[]/\Fr g4 g'/\St t [(4,z),(5,.int .u64 (sv:Int)),(13,.hptr 3 0 0 0),(14,.hptr 4 0 0 0),(46,.agg [.int .i64 n.grain,b,.int .i64 m.grain,b2])])/\tat t 47=.int .i64 (j:Int):=by
    rintro t g' ⟨h4,h5,h13,h14,h46,h47,-⟩ hf
    exact ⟨⟨rfl,hfr.trans hf,h4,h5,h13,h14,h46,trivial⟩,h47⟩
   have q3:g.h.get 3=.cells 4 [[.int .i64 n.grain,b,.int .i64 m.grain,b2]] 0 false false:=by rw[hfr.2 3 (by omega),f3]
   have q4:g.h.get 4=.cells 2 [[w1,w2]] 0 false false:=by rw[hfr.2 4 (by omega),f4]
   have n4:4<g.nx:=by have:=hfr.1;omega
   have lb:∀g,d_ .slice b g=.val (.int .i64 (n.nodes.length:Int)):=hNb.len
   have:j=0\/j=1:=by omega
   rcases this with rfl | rfl
   ·exact NE (n0:=n) hM hw1 hw2 hz2 hs lb hn5.2 ⟨h4,h5,h13,h14,h46,h47,trivial⟩ rfl q3 q4 n4 fin'
   ·exact NE (n0:=n) hM2 hw1 hw2 hz2 hs lb hn5.2 ⟨h4,h5,h13,h14,h46,h47,trivial⟩ rfl q3 q4 n4 fin'
  ·rintro t df g ⟨rfl,-⟩
   simp only[gW,if_true]
   exact ⟨trivial,trivial⟩
 rintro t df g rfl
 simp only[sz,simprocAttr,gX]
end
end Hx
end
section
namespace Hx
open Go Go.RowKit Go.ChangeShapes Go.WideShapes
def tb (P:Program):List Field->Nat->Option Nat
 | [],k=>some k
 | f::fs,k=>if f.offset=k then tb P fs (k+P.cellsOf f.type) else none
def ta (P:Program):Nat->TypeId->Bool
 | 0,_=>false
 | n+1,t=>match P.underlying t with
  | some .bool=>true
  | some (.int _)=>true
  | some (.slice e)=>decide (0<P.cellsOf e)&&ta P n e
  | some (.struct fs)=>(tb P fs.toList 0 == some (P.cellsOf t))&&fs.toList.all (fun f=>ta P n f.type)
  | some (.array m e)=>decide (m*P.cellsOf e=P.cellsOf t)&&ta P n e
  | _=>false
def Sh (P:Program):Nat->TypeId->List AV->Prop
 | 0,_,_=>False
 | n+1,t,xs=>match P.underlying t with
  | some .bool=>∃b,xs=[.bool b]
  | some (.int k)=>∃z,xs=[.int k z]/\(Lit.int k z).wf=true
  | some (.slice e)=>xs=[.nils]\/∃rows,xs=[.tsl 0 (P.cellsOf e) rows]/\rows.length<9223372036854775808/\∀row∈rows,Sh P n e row
  | some (.struct fs)=>∃xss,xs=xss.flatten/\All2 (fun (f:Field) ys=>Sh P n f.type ys) fs.toList xss
  | some (.array m e)=>∃xss:List (List AV),xs=xss.flatten/\xss.length=m/\∀ys∈xss,Sh P n e ys
  | _=>False
def CQ (P:Program)(w:World)(n:Nat)(t:TypeId)(xs:List AV)(cs:List Value):Prop :=
 RVs0 w xs cs/\(∀y∈xs,y.one=true/\Closed y)/\Sh P n t xs
theorem RVs0.append {w:World}{xs ys:List AV}{cs ds:List Value}(h:RVs0 w xs cs)(h':RVs0 w ys ds):RVs0 w (xs++ys) (cs++ds):=by
 refine ⟨by rw[List.length_append,List.length_append,h.1,h'.1],fun i x v hx hv=>?_⟩
 rcases Nat.lt_or_ge i xs.length with hi | hi
 ·rw[List.getElem?_append_left hi] at hx
  rw[List.getElem?_append_left (by rw[<-h.1];exact hi)] at hv
  exact h.2 i x v hx hv
 ·rw[List.getElem?_append_right hi] at hx
  rw[List.getElem?_append_right (by rw[<-h.1];exact hi),<-h.1] at hv
  exact h'.2 _ x v hx hv
theorem GA (b o n:Nat):(⟨b,o,none⟩:Addr).add n=adr b (o+n):=by
 unfold Addr.add
 split
 ·rename_i h;subst h;rfl
 ·rfl
variable {H:Type}{enc:TypeId×Value->H}{P:Program}{w:World}
theorem Ad:∀{fl:List Field} {k K:Nat},tb P fl k=some K->k<=K
 | [],k,K,h=>by injection h with h;omega
 | f::fl,k,K,h=>by
  unfold tb at h
  split at h
  ·have:=Ad h;omega
  ·cases h
theorem JI {n:Nat}{cs:List Value}:∀{fl:List Field} {k K:Nat},tb P fl k=some K ->
  (∀f∈fl,∃xs,CQ P w n f.type xs ((cs.drop f.offset).take (P.cellsOf f.type))) ->
  ∃xss,All2 (fun (f:Field) ys=>Sh P n f.type ys) fl xss/\RVs0 w xss.flatten ((cs.drop k).take (K - k))/\∀y∈xss.flatten,y.one=true/\Closed y
 | [],k,K,h,_=>by
  injection h with h;subst h
  exact ⟨[],trivial,by rw[Nat.sub_self,List.take_zero];exact ⟨rfl,fun i x v hx=>by simp at hx⟩,fun y hy=>by simp at hy⟩
 | f::fl,k,K,h,hg=>by
  unfold tb at h
  split at h
  ·rename_i ho
   subst ho
   obtain ⟨xs,h1,h2,h3⟩:=hg f (by simp)
   obtain ⟨xss,a1,a2,a3⟩:=JI h fun f' hf'=>hg f' (by simp[hf'])
   have hle:=Ad h
   refine ⟨xs::xss,⟨h3,a1⟩,?_,fun y hy=>?_⟩
   ·have e:(cs.drop f.offset).take (K - f.offset)=(cs.drop f.offset).take (P.cellsOf f.type)++(cs.drop (f.offset+P.cellsOf f.type)).take (K - (f.offset+P.cellsOf f.type)):=by
     rw[show K - f.offset=P.cellsOf f.type+(K - (f.offset+P.cellsOf f.type)) by omega,List.take_add,List.drop_drop]
    rw[e,List.flatten_cons]
    exact h1.append a2
   ·rw[List.flatten_cons,List.mem_append] at hy
    rcases hy with hy | hy
    ·exact h2 y hy
    ·exact a3 y hy
  ·cases h
theorem Gi {n:Nat}{e:TypeId}{cs:List Value}:∀{m k:Nat},
  (∀i,i<m->∃xs,CQ P w n e xs ((cs.drop ((k+i)*P.cellsOf e)).take (P.cellsOf e))) ->
  ∃xss:List (List AV),xss.length=m/\(∀ys∈xss,Sh P n e ys)/\RVs0 w xss.flatten ((cs.drop (k*P.cellsOf e)).take (m*P.cellsOf e))/\∀y∈xss.flatten,y.one=true/\Closed y
 | 0,k,_=>⟨[],rfl,fun y hy=>by simp at hy,by rw[Nat.zero_mul,List.take_zero];exact ⟨rfl,fun i x v hx=>by simp at hx⟩,fun y hy=>by simp at hy⟩
 | m+1,k,hg=>by
  obtain ⟨xs,h1,h2,h3⟩:=hg 0 (by omega)
  rw[Nat.add_zero] at h1
  obtain ⟨xss,a0,a1,a2,a3⟩:=Gi (m:=m) (k:=k+1) fun i hi=>by
   have:=hg (i+1) (by omega)
   rwa [show k+(i+1)=k+1+i by omega] at this
  refine ⟨xs::xss,by simp[a0],fun ys hy=>?_,?_,fun y hy=>?_⟩
  ·rcases List.mem_cons.1 hy with rfl | hy
   ·exact h3
   ·exact a1 ys hy
  ·have e:(cs.drop (k*P.cellsOf e)).take ((m+1)*P.cellsOf e)=(cs.drop (k*P.cellsOf e)).take (P.cellsOf e)++(cs.drop ((k+1)*P.cellsOf e)).take (m*P.cellsOf e):=by
    rw[show (m+1)*P.cellsOf e=P.cellsOf e+m*P.cellsOf e by rw[Nat.add_mul];omega,List.take_add,List.drop_drop,Nat.add_mul,Nat.one_mul]
   rw[e,List.flatten_cons]
   exact h1.append a2
  ·rw[List.flatten_cons,List.mem_append] at hy
   rcases hy with hy | hy
   ·exact h2 y hy
   ·exact a3 y hy
theorem Da:∀(n:Nat) (t:TypeId),ta P n t=true->∀(fuel:Nat) (cs:List Value) (x:DataW H×List MemPlace),DataW.trod enc P w 0 (fun _=>true) true fuel t cs=some x->∃xs,CQ P w n t xs cs:=by
 intro n
 induction n with
 | zero=>intro t h;simp[ta] at h
 | succ n ih =>
  intro t h fuel cs x hx
  unfold ta at h
  split at h
  ·rename_i hu
   obtain ⟨b,rfl,-⟩:=DataW.trod_bool hu hx
   refine ⟨[.bool b],⟨rfl,fun i x v h1 h2=>?_⟩,fun y hy=>?_,?_⟩
   ·cases i with
    | zero=>simp at h1 h2;subst h1;subst h2;exact .bool _ _
    | succ i=>simp at h1
   ·simp at hy;subst hy;exact ⟨rfl,.bool _⟩
   ·unfold Sh;rw[hu];exact ⟨b,rfl⟩
  ·rename_i k hu
   obtain ⟨z,rfl,-,hwf⟩:=DataW.trod_int hu hx
   refine ⟨[.int k z],⟨rfl,fun i x v h1 h2=>?_⟩,fun y hy=>?_,?_⟩
   ·cases i with
    | zero=>simp at h1 h2;subst h1;subst h2;exact .int _ _ _
    | succ i=>simp at h1
   ·simp at hy;subst hy;exact ⟨rfl,.int _ _⟩
   ·unfold Sh;rw[hu];exact ⟨z,rfl,hwf⟩
  ·rename_i e hu
   rw[Bool.and_eq_true,decide_eq_true_eq] at h
   obtain ⟨hpos,hp⟩:=h
   rcases DataW.trod_slice hu hx with ⟨rfl,-⟩ | ⟨a,len,cap,elems,rest,m,-,rfl,-,-,hlc,hcm,hlen,hel,-,-⟩
   ·refine ⟨[.nils],⟨rfl,fun i x v h1 h2=>?_⟩,fun y hy=>?_,?_⟩
    ·cases i with
     | zero=>simp at h1 h2;subst h1;subst h2;exact .nils _
     | succ i=>simp at h1
    ·simp at hy;subst hy;exact ⟨rfl,.nils⟩
    ·unfold Sh;rw[hu];exact .inl rfl
   ·have each:∀i,i<len->∃xs vs,w.cells? 0 (a.add (i*P.cellsOf e)) (P.cellsOf e)=some vs/\CQ P w n e xs vs:=by
     intro i hi
     have:=hel i hi
     rw[List.getElem?_eq_getElem (show i<elems.length by omega),Option.bind_eq_some_iff] at this
     obtain ⟨vs,h1,h2⟩:=this
     obtain ⟨xs,hg⟩:=ih e hp _ _ _ h2
     exact ⟨xs,vs,h1,hg⟩
    let rowf:Nat->List AV:=fun i=>if hi:i<len then Classical.choose (each i hi) else []
    let valf:Nat->List Value:=fun i=>if hi:i<len then Classical.choose (Classical.choose_spec (each i hi)) else []
    have hrow:∀i,i<len->w.cells? 0 (a.add (i*P.cellsOf e)) (P.cellsOf e)=some (valf i)/\CQ P w n e (rowf i) (valf i):=by
     intro i hi
     have:=Classical.choose_spec (Classical.choose_spec (each i hi))
     simpa only[rowf,valf,dif_pos hi] using this
    have hget:∀(i:Nat) (row:List AV),((List.range len).map rowf)[i]?=some row->i<len/\row=rowf i:=by
     intro i row h1
     rw[List.getElem?_map] at h1
     rcases Nat.lt_or_ge i len with hi | hi
     ·rw[List.getElem?_range hi] at h1
      injection h1 with h1
      exact ⟨hi,h1.symm⟩
     ·rw[List.getElem?_eq_none (by simpa using hi)] at h1;cases h1
    refine ⟨[.tsl 0 (P.cellsOf e) ((List.range len).map rowf)],⟨rfl,fun i x v h1 h2=>?_⟩,fun y hy=>?_,?_⟩
    ·cases i with
     | succ i=>simp at h1
     | zero =>
      simp at h1 h2;subst h1;subst h2
      rcases Nat.eq_zero_or_pos len with h0 | h0
      ·subst h0
       exact .tnil 0 0 _ a cap (Nat.le_refl _)
      ·obtain ⟨b,o,spot⟩:=a
       have hc0:=World.cells?_some (hrow 0 h0).1
       have hv0:(valf 0)[0]?=some (valf 0)[0]:=List.getElem?_eq_getElem (by rw[hc0.2.1];exact hpos)
       have h00:=hc0.2.2 0 hpos
       rw[hv0] at h00
       have hspot:spot=none:=by simpa [Addr.add] using World.cell?_spot h00
       subst hspot
       have cellat:∀i j row x,((List.range len).map rowf)[i]?=some row->row[j]?=some x->∃v,(valf i)[j]?=some v/\w.cell? (adr b (o+i*P.cellsOf e+j))=some v/\RV w gm0 av0 0 x v:=by
        intro i j row x hr hxj
        obtain ⟨hi,rfl⟩:=hget i row hr
        obtain ⟨q1,q2⟩:=hrow i hi
        have hj:j<(rowf i).length:=(List.getElem?_eq_some_iff.1 hxj).1
        have hj':j<(valf i).length:=by rw[<-q2.1.1];exact hj
        have hcs:=World.cells?_some q1
        have hcell:=hcs.2.2 j (by rw[<-hcs.2.1];exact hj')
        rw[List.getElem?_eq_getElem hj'] at hcell
        refine ⟨_,List.getElem?_eq_getElem hj',?_,q2.1.2 j x _ hxj (List.getElem?_eq_getElem hj')⟩
        rw[GA,show adr b (o+i*P.cellsOf e)=(⟨b,o+i*P.cellsOf e,none⟩:Addr) from rfl,GA] at hcell
        exact hcell
       have hb:b<w.heap.size:=by
        have:=EE h00
        simpa [Addr.add] using this
       have hrl:((List.range len).map rowf).length=len:=by simp
       have key:=RV.tsl (w:=w) (γ:=gm0) (A:=av0) 0 0 (P.cellsOf e) ((List.range len).map rowf) b o cap (fun i j=>(valf i)[j]?.getD undef) (Nat.le_refl _) (by rw[hrl];exact hlc) hb (NO b) (fun h=>h)
        (fun i row hr=>by
         obtain ⟨hi,rfl⟩:=hget i row hr
         obtain ⟨q1,q2⟩:=hrow i hi
         rw[q2.1.1,(World.cells?_some q1).2.1])
        (fun i j row x hr hxj=>by
         obtain ⟨hi,rfl⟩:=hget i row hr
         exact ((hrow i hi).2.2.1 x (List.mem_of_getElem? hxj)).1)
        (fun i j row x hr hxj=>by
         obtain ⟨v,v1,v2,v3⟩:=cellat i j row x hr hxj
         rw[v2,v1];rfl)
        (fun i j row x hr hxj=>by
         obtain ⟨v,v1,v2,v3⟩:=cellat i j row x hr hxj
         rw[v1];exact v3)
        (fun row hr x hx=>by
         obtain ⟨i,hi⟩:=List.getElem?_of_mem hr
         obtain ⟨hi2,rfl⟩:=hget i row hi
         exact ((hrow i hi2).2.2.1 x hx).2)
       rw[hrl] at key
       exact key
    ·simp only[List.mem_singleton] at hy;subst hy
     refine ⟨rfl,.tsl _ _ _ fun row hr x hx=>?_⟩
     obtain ⟨i,hi⟩:=List.getElem?_of_mem hr
     obtain ⟨hi2,rfl⟩:=hget i row hi
     exact ((hrow i hi2).2.2.1 x hx).2
    ·unfold Sh;rw[hu]
     refine .inr ⟨_,rfl,?_,fun row hr=>?_⟩
     ·rw[List.length_map,List.length_range]
      have:maxLen<9223372036854775808:=by decide
      omega
     ·obtain ⟨i,hi⟩:=List.getElem?_of_mem hr
      obtain ⟨hi2,rfl⟩:=hget i row hi
      exact (hrow i hi2).2.2.2
  ·rename_i fs hu
   rw[Bool.and_eq_true] at h
   obtain ⟨hc,hp⟩:=h
   have hc:tb P fs.toList 0=some (P.cellsOf t):=eq_of_beq hc
   obtain ⟨ys,m,-,-,hl,hyl,hel⟩:=DataW.trod_struct hu hx
   obtain ⟨xss,a1,a2,a3⟩:=JI (w:=w) (n:=n) (cs:=cs) hc fun f hf=>by
    obtain ⟨i,hi,e⟩:=List.mem_iff_getElem.1 hf
    have hfi:fs[i]?=some f:=by rw[<-Array.getElem?_toList,List.getElem?_eq_getElem hi,e]
    have:=hel i f hfi
    rw[List.getElem?_eq_getElem (show i<ys.length by rw[hyl];simpa using hi)] at this
    exact ih f.type (List.all_eq_true.1 hp f hf) _ _ _ this
   rw[List.drop_zero,Nat.sub_zero,<-hl,List.take_length] at a2
   refine ⟨xss.flatten,a2,a3,?_⟩
   unfold Sh;rw[hu];exact ⟨xss,rfl,a1⟩
  ·rename_i m e hu
   rw[Bool.and_eq_true,decide_eq_true_eq] at h
   obtain ⟨hc,hp⟩:=h
   obtain ⟨ys,q,-,-,hl,hyl,hel⟩:=DataW.trod_array hu hx
   obtain ⟨xss,a0,a1,a2,a3⟩:=Gi (w:=w) (n:=n) (e:=e) (cs:=cs) (m:=m) (k:=0) fun i hi=>by
    have:=hel i hi
    rw[List.getElem?_eq_getElem (show i<ys.length by omega)] at this
    rw[Nat.zero_add]
    exact ih e hp _ _ _ this
   rw[Nat.zero_mul,List.drop_zero,hc,<-hl,List.take_length] at a2
   refine ⟨xss.flatten,a2,a3,?_⟩
   unfold Sh;rw[hu];exact ⟨xss,rfl,a0,a1⟩
  ·cases h
theorem JE {n:Nat}{t:TypeId}{xs:List AV}(hu:P.underlying t=some (.int .i64))(h:Sh P n t xs):∃x:Int,Rp.rp NoP 0 .nil x xs:=by
 cases n with
 | zero=>exact h.elim
 | succ n =>
  unfold Sh at h;rw[hu] at h
  obtain ⟨z,rfl,-⟩:=h
  exact ⟨z,aJ.2 rfl⟩
theorem je {n:Nat}{t:TypeId}{xs:List AV}(hu:P.underlying t=some (.int .u8))(h:Sh P n t xs):∃x:UInt8,Rp.rp NoP 0 .nil x xs:=by
 cases n with
 | zero=>exact h.elim
 | succ n =>
  unfold Sh at h;rw[hu] at h
  obtain ⟨z,rfl,hw⟩:=h
  simp only[Lit.wf,IntKind.min,IntKind.max,IntKind.signed,IntKind.bits,Bool.and_eq_true] at hw
  refine ⟨UInt8.ofNat z.toNat,dJ.2 ?_⟩
  have h1:0<=z:=by simpa using hw.1
  have h2:z<=255:=by simpa using hw.2
  have h3:(UInt8.ofNat z.toNat).toNat=z.toNat:=UInt8.toNat_ofNat_of_lt' (by show z.toNat<256;omega)
  rw[h3,Int.toNat_of_nonneg h1]
theorem xh {α:Type} [Rp α]{n:Nat}{t e:TypeId}{xs:List AV}(hu:P.underlying t=some (.slice e))(hsz:P.cellsOf e=Rp.sz α)(hel:∀ys,Sh P n e ys->∃y:α,Rp.rp NoP 0 .nil y ys)(h:Sh P (n+1) t xs) :
  ∃l:List α,Rp.rp NoP 0 .nil l xs:=by
 unfold Sh at h;rw[hu] at h
 rcases h with rfl | ⟨rows,rfl,hl,hr⟩
 ·exact ⟨[],.nils,rfl,by simp,rfl⟩
 ·have:∀rows:List (List AV),(∀row∈rows,Sh P n e row)->∃l:List α,All2 (Rp.rp NoP 0 .nil) l rows:=by
   intro rows
   induction rows with
   | nil=>intro _;exact ⟨[],trivial⟩
   | cons r rows ih =>
    intro h
    obtain ⟨y,hy⟩:=hel r (h r (by simp))
    obtain ⟨l,hl⟩:=ih fun row hrow=>h row (by simp[hrow])
    exact ⟨y::l,hy,hl⟩
  obtain ⟨l,ha⟩:=this rows hr
  exact ⟨l,_,rfl,by rw[ha.len];exact hl,Nat.le_refl _,.inl hsz,ha⟩
theorem Ia {n m:Nat}{t e:TypeId}{xs:List AV}(hu:P.underlying t=some (.array m e))(h:Sh P (n+1) t xs):∃xss:List (List AV),xs=xss.flatten/\xss.length=m/\∀ys∈xss,Sh P n e ys:=by
 unfold Sh at h;rw[hu] at h;exact h
theorem rI {n:Nat}{t:TypeId}{fs:Array Field}{xs:List AV}(hu:P.underlying t=some (.struct fs))(h:Sh P (n+1) t xs):∃xss,xs=xss.flatten/\All2 (fun (f:Field) ys=>Sh P n f.type ys) fs.toList xss:=by
 unfold Sh at h;rw[hu] at h;exact h
end Hx
end
