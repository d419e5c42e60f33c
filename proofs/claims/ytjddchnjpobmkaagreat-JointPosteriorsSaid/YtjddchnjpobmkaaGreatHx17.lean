/- A part of the proof: an interpreter over abstract values, shown right against the model, and what the functions of the chapter compute on it. -/
import Derived.OpenShut
import Derived.DataReads
import Derived.Test.YtjddchnjpobmkaaGreatHx16
set_option linter.unusedVariables false
set_option linter.unusedSimpArgs false
set_option linter.unnecessarySimpa false
section
namespace Hx
open Go
noncomputable section
def Ga:SC:=sQ [o 45 (.ix false 2 1 (.t 42) (.t 43)),oM 18 45] (sQ [o 46 (.load true 2 (.t 16)),oM 47 18,o 48 (.call N.an [.t 46,.t 47]),oM 19 48] (sQ [o 50 (.load true 2 (.t 16)),oM 51 18,o 52 (.call N.ba [.t 50,.t 51]),oM 49 52,o 53 (.ext (.t 49) 0),o 54 (.ext (.t 49) 1),oM 20 53,oM 21 54] (sQ [oM 55 19,o 56 (.load true 2 (.t 16)),oM 57 18,o 58 (.call N.ae [.t 55,.t 56,.t 57]),oM 22 58] (.seq (sQ [oM 59 21,oM 60 22,o 61 (.bin .neq (.t 59) (.t 60)),oM 62 61,og 63 62 false (.mv (.t 22)),og 64 62 false (.bin .neq (.t 63) (qI 0)),og 65 62 false (.mv (.t 64)),og 66 65 true (.mv (.t 20)),og 67 65 true (.len .slice (.t 66)),og 68 65 true (.bin .neq (.t 67) (qI 0)),og 69 62 false (.pick (.t 65) (.t 68) (.k (.bool false))),o 70 (.pick (.t 62) (.k (.bool true)) (.t 69)),oM 71 70,og 72 71 false (.mv (.t 22)),og 73 71 false (.bin .eql (.t 72) (qI 0)),og 74 71 false (.mv (.t 73)),og 75 74 true (.mv (.t 20)),og 76 74 true (.load true 2 (.t 16)),og 77 74 true (.mv (.t 18)),og 78 74 true (.call N.aV [.t 76,.t 77]),og 79 74 true (.call N.aB [.t 75,.t 78]),og 80 74 true (.not (.t 79)),og 81 71 false (.pick (.t 74) (.t 80) (.k (.bool false))),o 82 (.pick (.t 71) (.k (.bool true)) (.t 81))] (.cond (.t 82) (sQ [o 12 (.mv (.k (.bool false)))] (.ret)) (.skip))) (sQ [oM 83 4,oM 84 5,o 85 (.bin .rem (.t 84) (.k (.int .u8 5))),o 86 (.conv .i64 (.t 85)),o 87 (.build [.int .i64 0,.int .i64 0] [(0,1),(1,1)] [.t 83,.t 86]),oK 88 0] (.blk 4 (.loop cI)))))))
def LPe (v4 v5 c38 i39 c42:AV)(p j:Nat):List (Nat×AV):=(16,.hptr p 0 0 0)::LRp v4 v5 c38 i39 c42 (.int .i64 (j:Int))
theorem Nl {n:Net}{e:List Int}{b w c38 i39 c42:AV}{p j uu:Nat}{zv:Int}{Q:QT}{t:T}{g:G}(hm:∀h,Agg n NoP 0 h (.agg [.int .i64 n.grain,b]))(he:SlR NoP 0 .nil e w)(hu:uu<256)
  (ht:St t (LPe (.int .i64 zv) (.int .u8 (uu:Int)) c38 i39 c42 p j)) (hix:ixV false 2 1 c42 (.int .i64 (j:Int))=.val w) (hg:g.h.get p=.cells 2 [[.int .i64 n.grain,b]] 0 false false) (hp:p<g.nx)
  (fin:∀t g',St t (LPe (.int .i64 zv) (.int .u8 (uu:Int)) c38 i39 c42 p j)->Fr g g'->Q .norm t [] g'):wp C0 1 none Ga Q t [] g:=by
 have he':∀h,SlR NoP 0 h e w:=fun h=>he.tree (Nat.le_refl 0)
 have kRf:∀g,ah C0 1 N.an [.agg [.int .i64 n.grain,b],w] g=.val (.int .i64 (S.an n e)):=fun g=>DG (by decide) (hm _) he
 have kP:∀g,ah C0 1 N.ae [.int .i64 (S.an n e),.agg [.int .i64 n.grain,b],w] g=.val (.int .i64 (S.aO n e)):=fun g=>by
  rw[wj (by decide) (hm _) he fun h=>gE.1 h,Ih]
 obtain ⟨no,hno⟩:∃no,no=S.an n e:=⟨_,rfl⟩
 rw[<-hno] at kP
 have kRf:∀g,ah C0 1 N.an [.agg [.int .i64 n.grain,b],w] g=.val (.int .i64 no):=fun g=>by rw[kRf,hno]
 unfold Ga
 refine be (P:=fun t' df g'=>df=[]/\g'=g/\St t' ((18,w)::LPe (.int .i64 zv) (.int .u8 (uu:Int)) c38 i39 c42 p j)) ?_ ?_
 ·obtain ⟨h16,h4,h5,h13,h14,h38,h39,h42,h43,-⟩:=ht
  simp only[sz,simprocAttr,h42,h43,hix]
  simp[St,LPe,LRp,sx,h16,h4,h5,h13,h14,h38,h39,h42,h43]
 clear ht
 rintro t df g1 ⟨rfl,rfl,ht⟩
 refine be (P:=fun t' df g'=>df=[]/\g'=g1/\St t' ((18,w)::(19,.int .i64 no)::LPe (.int .i64 zv) (.int .u8 (uu:Int)) c38 i39 c42 p j)) ?_ ?_
 ·obtain ⟨h18,h16,h4,h5,h13,h14,h38,h39,h42,h43,-⟩:=ht
  simp only[sz,simprocAttr,h16,h18,hg,kRf]
  simp[St,LPe,LRp,sx,h18,h16,h4,h5,h13,h14,h38,h39,h42,h43]
 clear ht
 rintro t df g2 ⟨rfl,rfl,ht⟩
 refine be (P:=fun t' df g'=>df=[]/\g'=g2/\∃u,SlR NoP 0 .nil (S.a8 n e) u/\St t' ((20,u)::(21,.int .i64 (S.aO n e))::(18,w)::(19,.int .i64 no)::LPe (.int .i64 zv) (.int .u8 (uu:Int)) c38 i39 c42 p j)) ?_ ?_
 ·obtain ⟨h18,h19,h16,h4,h5,h13,h14,h38,h39,h42,h43,-⟩:=ht
  simp only[sz,simprocAttr,h16,h18,hg]
  refine bi (Kt (by decide) (hm _) (he' _)) ?_
  rintro _ ⟨u,c,rfl,hu,hc⟩
  rw[aI.1 hc |> List.cons.inj |>.1]
  simp only[sz,simprocAttr]
  obtain ⟨u',hu',hu⟩:=a8.1 hu
  injection hu' with hu';subst hu'
  exact ⟨u,hu,by simp[St,LPe,LRp,sx,h18,h19,h16,h4,h5,h13,h14,h38,h39,h42,h43]⟩
 clear ht
 rintro t df g3 ⟨rfl,rfl,u,hul,ht⟩
 refine be (P:=fun t' df g'=>df=[]/\g'=g3/\St t' ((22,.int .i64 (S.aO n e))::(20,u)::(21,.int .i64 (S.aO n e))::(18,w)::(19,.int .i64 no)::LPe (.int .i64 zv) (.int .u8 (uu:Int)) c38 i39 c42 p j)) ?_ ?_
 ·obtain ⟨h20,h21,h18,h19,h16,h4,h5,h13,h14,h38,h39,h42,h43,-⟩:=ht
  simp only[sz,simprocAttr,h19,h16,h18,hg,kP]
  simp[St,LPe,LRp,sx,h20,h21,h18,h19,h16,h4,h5,h13,h14,h38,h39,h42,h43]
 clear ht
 rintro t df g4 ⟨rfl,rfl,ht⟩
 refine dU (P:=fun t' df g'=>df=[]/\g'=g4/\St t' ((18,w)::(19,.int .i64 no)::LPe (.int .i64 zv) (.int .u8 (uu:Int)) c38 i39 c42 p j)) ?_ ?_
 ·obtain ⟨h22,h20,h21,h18,h19,h16,h4,h5,h13,h14,h38,h39,h42,h43,-⟩:=ht
  have lu:=hul.len
  by_cases hE:S.aO n e=0
  ·have hz0:S.an n e=0/\S.aC n e≠0:=by
    unfold S.aO at hE
    by_cases ha:S.an n e=0
    ·rw[if_pos ha] at hE
     by_cases hb:S.aC n e=0
     ·rw[if_pos hb] at hE;cases hE
     ·exact ⟨ha,hb⟩
    ·rw[if_neg ha] at hE;exact absurd hE ha
   obtain ⟨b1,b2⟩:=gE.1 hz0.1
   have hnr:=di.1 b1
   obtain ⟨el,-⟩:=ub b2
   have hj:S.a8 n e=(List.range n.nodes.length).map (S.aq n e):=by rw[S.a8,if_pos hE]
   rw[hj] at hul
   rw[hE] at h21 h22
   obtain ⟨r,er,hr⟩:=Kr (d:=1) (g:=g4) (by decide) (hm _) hnr he el hz0.2
   obtain ⟨u2,hu2,hr2⟩:=a8.1 hr
   injection hu2 with hu2;subst hu2
   have kS:∀g,ah C0 1 N.aB [u,r] g=.val (.bool true):=fun g=>Dm (by decide) hul hr2
   simp only[sz,simprocAttr,h21,h22,h20,h16,h18,hg,er,kS]
   simp[St,LPe,LRp,sx,h18,h19,h16,h4,h5,h13,h14,h38,h39,h42,h43]
  ·have hj:S.a8 n e=[]:=by rw[S.a8,if_neg hE]
   rw[hj] at lu
   simp only[sz,simprocAttr,h21,h22,h20,hE,lu,List.length_nil]
   simp[St,LPe,LRp,sx,h18,h19,h16,h4,h5,h13,h14,h38,h39,h42,h43]
 clear ht
 rintro t df g5 ⟨rfl,rfl,ht⟩
 have hbd:∀a b:Int,sC [.int .i64 0,.int .i64 0] [(0,1),(1,1)] [.int .i64 a,.int .i64 b]=.val (.agg [.int .i64 a,.int .i64 b]):=fun a b=>rfl
 have hrm:=fk .u8 (a:=(uu:Int)) (b:=5) (by omega) (by decide)
 have w64:IntKind.wrap .i64 ((uu:Int) % 5)=(uu:Int) % 5:=aq (by omega) (by omega)
 have hcv:CB .i64 (.int .u8 ((uu:Int) % 5))=.val (.int .i64 ((uu:Int) % 5)):=by rw[xq,w64]
 refine be (P:=fun t' df g'=>df=[]/\g'=g5/\St t' (LPq (LRp (.int .i64 zv) (.int .u8 (uu:Int)) c38 i39 c42 (.int .i64 (j:Int))) p w no (.agg [.int .i64 zv,.int .i64 ((uu:Int) % 5)]) 0)) ?_ ?_
 ·obtain ⟨h18,h19,h16,h4,h5,h13,h14,h38,h39,h42,h43,-⟩:=ht
  simp only[sz,simprocAttr,h4,h5,hrm,hcv,w64,hbd]
  simp[St,LPq,LRp,sx,h18,h19,h16,h4,h5,h13,h14,h38,h39,h42,h43]
 clear ht
 rintro t df g6 ⟨rfl,rfl,h16,h18,h19,h87,h88,hrest⟩
 simp only[sM,uw,cI,ff]
 refine pJ (m:=2) rfl (by omega) (fun i t df g=>df=[]/\Fr g6 g/\St t [(16,.hptr p 0 0 0),(18,w),(19,.int .i64 no),(87,.agg [.int .i64 zv,.int .i64 ((uu:Int) % 5)])]/\St t (LRp (.int .i64 zv) (.int .u8 (uu:Int)) c38 i39 c42 (.int .i64 (j:Int))))
  ⟨rfl,Fr.refl _,⟨h16,h18,h19,h87,trivial⟩,hrest⟩ h88 (by decide) (by rintro i t df g v s (rfl | rfl | rfl)<;>simp[St,LRp,sx]) ?_ ?_
 ·clear h16 h18 h19 h87 h88 hrest
  rintro i t df g hi ⟨rfl,hfr,⟨h16,h18,h19,h87,-⟩,hrest⟩ h88
  have hl3:St t (LPq (LRp (.int .i64 zv) (.int .u8 (uu:Int)) c38 i39 c42 (.int .i64 (j:Int))) p w no (.agg [.int .i64 zv,.int .i64 ((uu:Int) % 5)]) i):=⟨h16,h18,h19,h87,h88,hrest⟩
  have hgi:g.h.get p=.cells 2 [[.int .i64 n.grain,b]] 0 false false:=by rw[hfr.2 p hp,hg]
  have hpi:p<g.nx:=Nat.lt_of_lt_of_le hp hfr.1
  have fin':∀t g',St t (LPq (LRp (.int .i64 zv) (.int .u8 (uu:Int)) c38 i39 c42 (.int .i64 (j:Int))) p w no (.agg [.int .i64 zv,.int .i64 ((uu:Int) % 5)]) i)->Fr g g'->kR (fun t df g=>(df=[]/\Fr g6 g/\St t [(16,.hptr p 0 0 0),(18,w),(19,.int .i64 no),(87,.agg [.int .i64 zv,.int .i64 ((uu:Int) % 5)])]/\St t (LRp (.int .i64 zv) (.int .u8 (uu:Int)) c38 i39 c42 (.int .i64 (j:Int))))/\tat t 88=.int .i64 (i:Int)) 5 (kB 4 Q) .norm t [] g':=by
   rintro t g' ⟨h16,h18,h19,h87,h88,hrest⟩ hf
   exact ⟨⟨rfl,hfr.trans hf,⟨h16,h18,h19,h87,trivial⟩,hrest⟩,h88⟩
  have:i=0\/i=1:=by omega
  rcases this with rfl | rfl
  ·exact Nd hm he hno hl3 rfl hgi hpi fin'
  ·exact Nd hm he hno hl3 rfl hgi hpi fin'
 ·rintro t df g ⟨rfl,hfr,⟨h16,-⟩,hrest⟩
  simp only[fG,if_true]
  exact fin t g ⟨h16,hrest⟩ hfr
def LPn (v4 v5 c38:AV)(i:Nat):List (Nat×AV):=[(4,v4),(5,v5),(13,.hptr 3 0 0 0),(14,.hptr 4 0 0 0),(38,c38),(39,.int .i64 (i:Int))]
def Fs:SC:=sQ [o 41 (.ix true 2 2 (.t 38) (.t 39)),o 16 (.alloc [.int .i64 0,.nils]),oz (.store 2 (.t 16) (.t 41))] (sQ [o 42 (.load true 2 (.t 14)),oK 43 0] (.blk 2 (.loop cH)))
theorem Nb {n:Net}{e1 e2:List Int}{b w1 w2 c38:AV}{i uu:Nat}{zv:Int}{Q:QT}{t:T}{g:G}(hm:∀h,Agg n NoP 0 h (.agg [.int .i64 n.grain,b]))(he1:SlR NoP 0 .nil e1 w1)(he2:SlR NoP 0 .nil e2 w2)(hu:uu<256)
  (ht:St t (LPn (.int .i64 zv) (.int .u8 (uu:Int)) c38 i)) (hix:ixV true 2 2 c38 (.int .i64 (i:Int))=.val (.agg [.int .i64 n.grain,b])) (hg4:g.h.get 4=.cells 2 [[w1,w2]] 0 false false) (h4n:4<g.nx)
  (fin:∀t g',St t (LPn (.int .i64 zv) (.int .u8 (uu:Int)) c38 i)->Fr g g'->Q .norm t [] g'):wp C0 1 none Fs Q t [] g:=by
 unfold Fs
 obtain ⟨p,hp⟩:∃p,p=g.nx:=⟨_,rfl⟩
 refine be (P:=fun t' df g'=>df=[]/\Fr g g'/\St t' ((16,.hptr p 0 0 0)::LPn (.int .i64 zv) (.int .u8 (uu:Int)) c38 i)/\p<g'.nx/\g'.h.get p=.cells 2 [[.int .i64 n.grain,b]] 0 false false) ?_ ?_
 ·obtain ⟨h4,h5,h13,h14,h38,h39,-⟩:=ht
  simp only[sz,simprocAttr,h38,h39,hix]
  refine ⟨Me _ _ _,?_,by simp[hp],by simp[hp]⟩
  simp[St,LPn,sx,h4,h5,h13,h14,h38,h39,hp]
 clear ht
 rintro t df g1 ⟨rfl,fr1,ht,hp1,hgp⟩
 have k4:g1.h.get 4=.cells 2 [[w1,w2]] 0 false false:=by rw[fr1.2 4 h4n,hg4]
 refine be (P:=fun t' df g'=>df=[]/\g'=g1/\St t' (LPe (.int .i64 zv) (.int .u8 (uu:Int)) c38 (.int .i64 (i:Int)) (.agg [w1,w2]) p 0)) ?_ ?_
 ·obtain ⟨h16,h4,h5,h13,h14,h38,h39,-⟩:=ht
  simp only[sz,simprocAttr,h14,k4]
  simp[St,LPe,LRp,sx,h16,h4,h5,h13,h14,h38,h39]
 clear ht
 rintro t df g2 ⟨rfl,rfl,h16,h4,h5,h13,h14,h38,h39,h42,h43,-⟩
 simp only[sM,uw,cH,eJ]
 refine pJ (m:=2) rfl (by omega) (fun j t df g=>df=[]/\Fr g2 g/\St t [(16,.hptr p 0 0 0),(4,.int .i64 zv),(5,.int .u8 (uu:Int)),(13,.hptr 3 0 0 0),(14,.hptr 4 0 0 0),(38,c38),(39,.int .i64 (i:Int)),(42,.agg [w1,w2])])
  ⟨rfl,Fr.refl _,⟨h16,h4,h5,h13,h14,h38,h39,h42,trivial⟩⟩ h43 (by decide) (by rintro i t df g v s (rfl | rfl | rfl)<;>simp[St,sx]) ?_ ?_
 ·clear h16 h4 h5 h13 h14 h38 h39 h42 h43
  rintro j t df g hj ⟨rfl,hfr,h16,h4,h5,h13,h14,h38,h39,h42,-⟩ h43
  have hl:St t (LPe (.int .i64 zv) (.int .u8 (uu:Int)) c38 (.int .i64 (i:Int)) (.agg [w1,w2]) p j):=⟨h16,h4,h5,h13,h14,h38,h39,h42,h43,trivial⟩
  have fin':∀t g',St t (LPe (.int .i64 zv) (.int .u8 (uu:Int)) c38 (.int .i64 (i:Int)) (.agg [w1,w2]) p j)->Fr g g'->kR (fun t df g=>(df=[]/\Fr g2 g/\St t [(16,.hptr p 0 0 0),(4,.int .i64 zv),(5,.int .u8 (uu:Int)),(13,.hptr 3 0 0 0),(14,.hptr 4 0 0 0),(38,c38),(39,.int .i64 (i:Int)),(42,.agg [w1,w2])])/\tat t 43=.int .i64 (j:Int)) 3 (kB 2 Q) .norm t [] g':=by
   rintro t g' ⟨h16,h4,h5,h13,h14,h38,h39,h42,h43,-⟩ hf
   exact ⟨⟨rfl,hfr.trans hf,h16,h4,h5,h13,h14,h38,h39,h42,trivial⟩,h43⟩
  have hgp':g.h.get p=.cells 2 [[.int .i64 n.grain,b]] 0 false false:=by rw[hfr.2 p hp1,hgp]
  have:j=0\/j=1:=by omega
  rcases this with rfl | rfl
  ·exact Nl hm he1 hu hl rfl hgp' (Nat.lt_of_lt_of_le hp1 hfr.1) fin'
  ·exact Nl hm he2 hu hl rfl hgp' (Nat.lt_of_lt_of_le hp1 hfr.1) fin'
 ·rintro t df g ⟨rfl,hfr,h16,h4,h5,h13,h14,h38,h39,h42,-⟩
  simp only[fG,if_true]
  exact fin t g ⟨h4,h5,h13,h14,h38,h39,trivial⟩ (fr1.trans hfr)
theorem Ic (a b c e f k:AV)(t:T):co 0 [a,b,c,e,f,k] t=fQ (fQ (fQ (fQ (fQ (fQ t 0 a) 1 b) 2 c) 3 e) 4 f) 5 k:=rfl
theorem pI {x:sX}{y:jO}{u1 u2 w:AV}{raw:List Int}{vs:List UInt8}{zv:Int}{uu:Nat}(hx:Agg x NoP 0 .nil u1)(hy:Agg y NoP 0 .nil u2)
  (hw:SlR NoP 0 .nil raw w) (hraw:Raw w) (hv:vs.length=9) (hzv:-9223372036854775808<=zv/\zv<9223372036854775808) (hu:uu<256):∃g',(I C0).call 1 N.bS [u1,u2,w,.agg (vs.map u8v),.int .i64 zv,.int .u8 (uu:Int)] G.empty=.ok (.bool true) g':=by
 obtain ⟨xs,rfl,qx⟩:=hx
 obtain ⟨ys,rfl,qy⟩:=hy
 obtain ⟨a1',a2',e1,-⟩:=uV.1 qx
 have hxl:xs.length=3:=by rw[e1];rfl
 have hyl:ys.length=4:=by rw[x_.1 qy];rfl
 clear e1 a1' a2'
 obtain ⟨A,hA⟩:∃A,A=vs.map u8v:=⟨_,rfl⟩
 have hAl:A.length=9:=by rw[hA];simpa using hv
 rw[<-hA]
 have key:=o4 (C:=C0) (d:=1) (f:=N.bS) («as»:=[.agg xs,.agg ys,w,.agg A,.int .i64 zv,.int .u8 (uu:Int)]) (g:=G.empty) (K:=fun v g'=>v=.bool true) mM (by simp[dO]) ?_
 ·cases hc:(I C0).call 1 N.bS [.agg xs,.agg ys,w,.agg A,.int .i64 zv,.int .u8 (uu:Int)] G.empty with
  | fail=>rw[hc] at key;exact key.elim
  | ok v g'=>rw[hc] at key;exact ⟨g',by rw[show v=.bool true from key]⟩
 simp only[sz,simprocAttr,dO,Ic]
 obtain ⟨g0,hg0⟩:∃g0,g0=((G.empty.new (AObj.cells xs.length [xs] 0 false false)).new (AObj.cells ys.length [ys] 0 false false)).new (AObj.cells A.length [A] 0 false false):=⟨_,rfl⟩
 rw[<-hg0]
 have f0:g0.h.get 0=.cells 3 [xs] 0 false false:=by rw[hg0,hxl];simp[sx,H.get_put]
 have f1:g0.h.get 1=.cells 4 [ys] 0 false false:=by rw[hg0,hyl];simp[sx,H.get_put]
 have f2:g0.h.get 2=.cells 9 [A] 0 false false:=by rw[hg0,hAl];simp[sx]
 have f4:g0.nx=3:=by rw[hg0];simp[sx]
 clear hg0
 have ld0:fT (.cells 3 [xs] 0 false false) 0 0 true 3 0=.val (.agg xs):=by
  match xs,hxl with
  | [a,b,c],_=>rfl
 have ld1:fT (.cells 4 [ys] 0 false false) 0 0 true 4 0=.val (.agg ys):=by
  match ys,hyl with
  | [a,b,c,d],_=>rfl
 have ld2:fT (.cells 9 [A] 0 false false) 0 0 true 9 0=.val (.agg A):=by
  match A,hAl with
  | [a,b,c,d,e,f,g,h,i],_=>rfl
 simp only[fH]
 refine dU (P:=fun t' df g'=>df=[]/\g'=g0/\St t' [(2,w),(4,.int .i64 zv),(5,.int .u8 (uu:Int)),(6,.hptr 0 0 0 0),(7,.hptr 1 0 0 0),(9,.hptr 2 0 0 0)]) ?_ ?_
 ·simp only[sz,simprocAttr,B0]
  simp[St,sx]
 rintro t df g1 ⟨rfl,rfl,ht⟩
 obtain ⟨r,er,⟨⟨n,m⟩,ev⟩,⟨hdr,hev⟩,c1,c2,rfl,⟨cn,rfl,n1,n2,rfl,hn1,hn2⟩,⟨cl,rfl,l1,l2,rfl,hl1,hl2⟩⟩:=Jz (d:=1) (g:=g1) (by decide) qx qy hw hraw hv
 obtain ⟨b,rfl,hNb⟩:=dh.1 hn1
 obtain ⟨b2,rfl,-⟩:=dh.1 hn2
 obtain ⟨w1,rfl,hw1⟩:=a8.1 hl1
 obtain ⟨w2,rfl,hw2⟩:=a8.1 hl2
 rw[<-hA] at er
 simp only[List.cons_append,List.nil_append] at er
 have hM:∀h,Agg n NoP 0 h (.agg [.int .i64 n.grain,b]):=fun h=>lY hn1 h
 have hM2:∀h,Agg m NoP 0 h (.agg [.int .i64 m.grain,b2]):=fun h=>lY hn2 h
 refine be (P:=fun t' df g'=>df=[]/\4<g'.nx/\St t' [(4,.int .i64 zv),(5,.int .u8 (uu:Int)),(13,.hptr 3 0 0 0),(14,.hptr 4 0 0 0)]/\g'.h.get 3=.cells 4 [[.int .i64 n.grain,b,.int .i64 m.grain,b2]] 0 false false/\g'.h.get 4=.cells 2 [[w1,w2]] 0 false false) ?_ ?_
 ·obtain ⟨h2,h4,h5,h6,h7,h9,-⟩:=ht
  simp only[sz,simprocAttr,h2,h6,h7,h9,f0,f1,f2,ld0,ld1,ld2,er,show ¬g1.nx=g1.nx+1 by omega,show ¬g1.nx+1=g1.nx by omega]
  simp[St,sx,h4,h5,f4]
 clear ht f0 f1 f2 f4 er
 rintro t df g3 ⟨rfl,hn6,⟨h4,h5,h13,h14,-⟩,f3,f4⟩
 refine dU (P:=fun t' df g'=>df=[]) ?_ ?_
 ·refine be (P:=fun t' df g'=>df=[]/\g'=g3/\St t' (LPn (.int .i64 zv) (.int .u8 (uu:Int)) (.agg [.int .i64 n.grain,b,.int .i64 m.grain,b2]) 0)) ?_ ?_
  ·simp only[sz,simprocAttr,h13,f3]
   simp[St,LPn,sx,h4,h5,h13,h14]
  clear h4 h5 h13 h14
  rintro t df g4 ⟨rfl,rfl,h4,h5,h13,h14,h38,h39,-⟩
  simp only[sM,uw,fd,fg]
  refine pJ (m:=2) rfl (by omega) (fun j t df g=>df=[]/\Fr g4 g/\St t [(4,.int .i64 zv),(5,.int .u8 (uu:Int)),(13,.hptr 3 0 0 0),(14,.hptr 4 0 0 0),(38,.agg [.int .i64 n.grain,b,.int .i64 m.grain,b2])])
   ⟨rfl,Fr.refl _,h4,h5,h13,h14,h38,trivial⟩ h39 (by decide) (by rintro j t df g v s (rfl | rfl | rfl)<;>simp[St,sx]) ?_ ?_
  ·clear h4 h5 h13 h14 h38 h39
   rintro j t df g hj ⟨rfl,hfr,h4,h5,h13,h14,h38,-⟩ h39
   have fin':∀t g',St t (LPn (.int .i64 zv) (.int .u8 (uu:Int)) (.agg [.int .i64 n.grain,b,.int .i64 m.grain,b2]) j)->Fr g g'->(([]:List ADf)=[]/\Fr g4 g'/\St t [(4,.int .i64 zv),(5,.int .u8 (uu:Int)),(13,.hptr 3 0 0 0),(14,.hptr 4 0 0 0),(38,.agg [.int .i64 n.grain,b,.int .i64 m.grain,b2])])/\tat t 39=.int .i64 (j:Int):=by
    rintro t g' ⟨h4,h5,h13,h14,h38,h39,-⟩ hf
    exact ⟨⟨rfl,hfr.trans hf,h4,h5,h13,h14,h38,trivial⟩,h39⟩
   have q4:g.h.get 4=.cells 2 [[w1,w2]] 0 false false:=by rw[hfr.2 4 (by omega),f4]
   have n4:4<g.nx:=by have:=hfr.1;omega
   have:j=0\/j=1:=by omega
   rcases this with rfl | rfl
   ·exact Nb hM hw1 hw2 hu ⟨h4,h5,h13,h14,h38,h39,trivial⟩ rfl q4 n4 fin'
   ·exact Nb hM2 hw1 hw2 hu ⟨h4,h5,h13,h14,h38,h39,trivial⟩ rfl q4 n4 fin'
  ·rintro t df g ⟨rfl,-⟩
   simp only[fG,if_true]
   exact ⟨trivial,trivial⟩
 rintro t df g rfl
 simp only[sz,simprocAttr,eI]
end
end Hx
end
section
namespace Hx
open Go Go.RowKit Go.ChangeShapes Go.WideShapes
def s_ (P:Program):List Field->Nat->Option Nat
 | [],k=>some k
 | f::fs,k=>if f.offset=k then s_ P fs (k+P.cellsOf f.type) else none
def tc (P:Program):Nat->TypeId->Bool
 | 0,_=>false
 | n+1,t=>match P.underlying t with
  | some .bool=>true
  | some (.int _)=>true
  | some (.slice e)=>decide (0<P.cellsOf e)&&tc P n e
  | some (.struct fs)=>(s_ P fs.toList 0 == some (P.cellsOf t))&&fs.toList.all (fun f=>tc P n f.type)
  | some (.array m e)=>decide (m*P.cellsOf e=P.cellsOf t)&&tc P n e
  | _=>false
def Sh (P:Program):Nat->TypeId->List AV->Prop
 | 0,_,_=>False
 | n+1,t,xs=>match P.underlying t with
  | some .bool=>∃b,xs=[.bool b]
  | some (.int k)=>∃z,xs=[.int k z]/\(Lit.int k z).wf=true
  | some (.slice e)=>xs=[.nils]\/∃rows,xs=[.tsl 0 (P.cellsOf e) rows]/\rows.length<9223372036854775808/\∀row∈rows,Sh P n e row
  | some (.struct fs)=>∃xss,xs=xss.flatten/\All2 (fun (f:Field) ys=>Sh P n f.type ys) fs.toList xss
  | some (.array m e)=>∃xss:List (List AV),xs=xss.flatten/\xss.length=m/\∀ys∈xss,Sh P n e ys
  | _=>False
def C_ (P:Program)(w:World)(n:Nat)(t:TypeId)(xs:List AV)(cs:List Value):Prop :=
 RVs0 w xs cs/\(∀y∈xs,y.one=true/\Closed y)/\Sh P n t xs
theorem RVs0.append {w:World}{xs ys:List AV}{cs ds:List Value}(h:RVs0 w xs cs)(h':RVs0 w ys ds):RVs0 w (xs++ys) (cs++ds):=by
 refine ⟨by rw[List.length_append,List.length_append,h.1,h'.1],fun i x v hx hv=>?_⟩
 rcases Nat.lt_or_ge i xs.length with hi | hi
 ·rw[List.getElem?_append_left hi] at hx
  rw[List.getElem?_append_left (by rw[<-h.1];exact hi)] at hv
  exact h.2 i x v hx hv
 ·rw[List.getElem?_append_right hi] at hx
  rw[List.getElem?_append_right (by rw[<-h.1];exact hi),<-h.1] at hv
  exact h'.2 _ x v hx hv
theorem Gi (b o n:Nat):(⟨b,o,none⟩:Addr).add n=adr b (o+n):=by
 unfold Addr.add
 split
 ·rename_i h;subst h;rfl
 ·rfl
variable {H:Type}{enc:TypeId×Value->H}{P:Program}{w:World}
theorem AG:∀{fl:List Field} {k K:Nat},s_ P fl k=some K->k<=K
 | [],k,K,h=>by injection h with h;omega
 | f::fl,k,K,h=>by
  unfold s_ at h
  split at h
  ·have:=AG h;omega
  ·cases h
theorem IG {n:Nat}{cs:List Value}:∀{fl:List Field} {k K:Nat},s_ P fl k=some K ->
  (∀f∈fl,∃xs,C_ P w n f.type xs ((cs.drop f.offset).take (P.cellsOf f.type))) ->
  ∃xss,All2 (fun (f:Field) ys=>Sh P n f.type ys) fl xss/\RVs0 w xss.flatten ((cs.drop k).take (K - k))/\∀y∈xss.flatten,y.one=true/\Closed y
 | [],k,K,h,_=>by
  injection h with h;subst h
  exact ⟨[],trivial,by rw[Nat.sub_self,List.take_zero];exact ⟨rfl,fun i x v hx=>by simp at hx⟩,fun y hy=>by simp at hy⟩
 | f::fl,k,K,h,hg=>by
  unfold s_ at h
  split at h
  ·rename_i ho
   subst ho
   obtain ⟨xs,h1,h2,h3⟩:=hg f (by simp)
   obtain ⟨xss,a1,a2,a3⟩:=IG h fun f' hf'=>hg f' (by simp[hf'])
   have hle:=AG h
   refine ⟨xs::xss,⟨h3,a1⟩,?_,fun y hy=>?_⟩
   ·have e:(cs.drop f.offset).take (K - f.offset)=(cs.drop f.offset).take (P.cellsOf f.type)++(cs.drop (f.offset+P.cellsOf f.type)).take (K - (f.offset+P.cellsOf f.type)):=by
     rw[show K - f.offset=P.cellsOf f.type+(K - (f.offset+P.cellsOf f.type)) by omega,List.take_add,List.drop_drop]
    rw[e,List.flatten_cons]
    exact h1.append a2
   ·rw[List.flatten_cons,List.mem_append] at hy
    rcases hy with hy | hy
    ·exact h2 y hy
    ·exact a3 y hy
  ·cases h
theorem FU {n:Nat}{e:TypeId}{cs:List Value}:∀{m k:Nat},
  (∀i,i<m->∃xs,C_ P w n e xs ((cs.drop ((k+i)*P.cellsOf e)).take (P.cellsOf e))) ->
  ∃xss:List (List AV),xss.length=m/\(∀ys∈xss,Sh P n e ys)/\RVs0 w xss.flatten ((cs.drop (k*P.cellsOf e)).take (m*P.cellsOf e))/\∀y∈xss.flatten,y.one=true/\Closed y
 | 0,k,_=>⟨[],rfl,fun y hy=>by simp at hy,by rw[Nat.zero_mul,List.take_zero];exact ⟨rfl,fun i x v hx=>by simp at hx⟩,fun y hy=>by simp at hy⟩
 | m+1,k,hg=>by
  obtain ⟨xs,h1,h2,h3⟩:=hg 0 (by omega)
  rw[Nat.add_zero] at h1
  obtain ⟨xss,a0,a1,a2,a3⟩:=FU (m:=m) (k:=k+1) fun i hi=>by
   have:=hg (i+1) (by omega)
   rwa [show k+(i+1)=k+1+i by omega] at this
  refine ⟨xs::xss,by simp[a0],fun ys hy=>?_,?_,fun y hy=>?_⟩
  ·rcases List.mem_cons.1 hy with rfl | hy
   ·exact h3
   ·exact a1 ys hy
  ·have e:(cs.drop (k*P.cellsOf e)).take ((m+1)*P.cellsOf e)=(cs.drop (k*P.cellsOf e)).take (P.cellsOf e)++(cs.drop ((k+1)*P.cellsOf e)).take (m*P.cellsOf e):=by
    rw[show (m+1)*P.cellsOf e=P.cellsOf e+m*P.cellsOf e by rw[Nat.add_mul];omega,List.take_add,List.drop_drop,Nat.add_mul,Nat.one_mul]
   rw[e,List.flatten_cons]
   exact h1.append a2
  ·rw[List.flatten_cons,List.mem_append] at hy
   rcases hy with hy | hy
   ·exact h2 y hy
   ·exact a3 y hy
theorem Dc:∀(n:Nat) (t:TypeId),tc P n t=true->∀(fuel:Nat) (cs:List Value) (x:DataW H×List MemPlace),DataW.trod enc P w 0 (fun _=>true) true fuel t cs=some x->∃xs,C_ P w n t xs cs:=by
 intro n
 induction n with
 | zero=>intro t h;simp[tc] at h
 | succ n ih =>
  intro t h fuel cs x hx
  unfold tc at h
  split at h
  ·rename_i hu
   obtain ⟨b,rfl,-⟩:=DataW.trod_bool hu hx
   refine ⟨[.bool b],⟨rfl,fun i x v h1 h2=>?_⟩,fun y hy=>?_,?_⟩
   ·cases i with
    | zero=>simp at h1 h2;subst h1;subst h2;exact .bool _ _
    | succ i=>simp at h1
   ·simp at hy;subst hy;exact ⟨rfl,.bool _⟩
   ·unfold Sh;rw[hu];exact ⟨b,rfl⟩
  ·rename_i k hu
   obtain ⟨z,rfl,-,hwf⟩:=DataW.trod_int hu hx
   refine ⟨[.int k z],⟨rfl,fun i x v h1 h2=>?_⟩,fun y hy=>?_,?_⟩
   ·cases i with
    | zero=>simp at h1 h2;subst h1;subst h2;exact .int _ _ _
    | succ i=>simp at h1
   ·simp at hy;subst hy;exact ⟨rfl,.int _ _⟩
   ·unfold Sh;rw[hu];exact ⟨z,rfl,hwf⟩
  ·rename_i e hu
   rw[Bool.and_eq_true,decide_eq_true_eq] at h
   obtain ⟨hpos,hp⟩:=h
   rcases DataW.trod_slice hu hx with ⟨rfl,-⟩ | ⟨a,len,cap,elems,rest,m,-,rfl,-,-,hlc,hcm,hlen,hel,-,-⟩
   ·refine ⟨[.nils],⟨rfl,fun i x v h1 h2=>?_⟩,fun y hy=>?_,?_⟩
    ·cases i with
     | zero=>simp at h1 h2;subst h1;subst h2;exact .nils _
     | succ i=>simp at h1
    ·simp at hy;subst hy;exact ⟨rfl,.nils⟩
    ·unfold Sh;rw[hu];exact .inl rfl
   ·have each:∀i,i<len->∃xs vs,w.cells? 0 (a.add (i*P.cellsOf e)) (P.cellsOf e)=some vs/\C_ P w n e xs vs:=by
     intro i hi
     have:=hel i hi
     rw[List.getElem?_eq_getElem (show i<elems.length by omega),Option.bind_eq_some_iff] at this
     obtain ⟨vs,h1,h2⟩:=this
     obtain ⟨xs,hg⟩:=ih e hp _ _ _ h2
     exact ⟨xs,vs,h1,hg⟩
    let rowf:Nat->List AV:=fun i=>if hi:i<len then Classical.choose (each i hi) else []
    let valf:Nat->List Value:=fun i=>if hi:i<len then Classical.choose (Classical.choose_spec (each i hi)) else []
    have hrow:∀i,i<len->w.cells? 0 (a.add (i*P.cellsOf e)) (P.cellsOf e)=some (valf i)/\C_ P w n e (rowf i) (valf i):=by
     intro i hi
     have:=Classical.choose_spec (Classical.choose_spec (each i hi))
     simpa only[rowf,valf,dif_pos hi] using this
    have hget:∀(i:Nat) (row:List AV),((List.range len).map rowf)[i]?=some row->i<len/\row=rowf i:=by
     intro i row h1
     rw[List.getElem?_map] at h1
     rcases Nat.lt_or_ge i len with hi | hi
     ·rw[List.getElem?_range hi] at h1
      injection h1 with h1
      exact ⟨hi,h1.symm⟩
     ·rw[List.getElem?_eq_none (by simpa using hi)] at h1;cases h1
    refine ⟨[.tsl 0 (P.cellsOf e) ((List.range len).map rowf)],⟨rfl,fun i x v h1 h2=>?_⟩,fun y hy=>?_,?_⟩
    ·cases i with
     | succ i=>simp at h1
     | zero =>
      simp at h1 h2;subst h1;subst h2
      rcases Nat.eq_zero_or_pos len with h0 | h0
      ·subst h0
       exact .tnil 0 0 _ a cap (Nat.le_refl _)
      ·obtain ⟨b,o,spot⟩:=a
       have hc0:=World.cells?_some (hrow 0 h0).1
       have hv0:(valf 0)[0]?=some (valf 0)[0]:=List.getElem?_eq_getElem (by rw[hc0.2.1];exact hpos)
       have h00:=hc0.2.2 0 hpos
       rw[hv0] at h00
       have hspot:spot=none:=by simpa [Addr.add] using World.cell?_spot h00
       subst hspot
       have cellat:∀i j row x,((List.range len).map rowf)[i]?=some row->row[j]?=some x->∃v,(valf i)[j]?=some v/\w.cell? (adr b (o+i*P.cellsOf e+j))=some v/\RV w gm0 av0 0 x v:=by
        intro i j row x hr hxj
        obtain ⟨hi,rfl⟩:=hget i row hr
        obtain ⟨q1,q2⟩:=hrow i hi
        have hj:j<(rowf i).length:=(List.getElem?_eq_some_iff.1 hxj).1
        have hj':j<(valf i).length:=by rw[<-q2.1.1];exact hj
        have hcs:=World.cells?_some q1
        have hcell:=hcs.2.2 j (by rw[<-hcs.2.1];exact hj')
        rw[List.getElem?_eq_getElem hj'] at hcell
        refine ⟨_,List.getElem?_eq_getElem hj',?_,q2.1.2 j x _ hxj (List.getElem?_eq_getElem hj')⟩
        rw[Gi,show adr b (o+i*P.cellsOf e)=(⟨b,o+i*P.cellsOf e,none⟩:Addr) from rfl,Gi] at hcell
        exact hcell
       have hb:b<w.heap.size:=by
        have:=DO h00
        simpa [Addr.add] using this
       have hrl:((List.range len).map rowf).length=len:=by simp
       have key:=RV.tsl (w:=w) (γ:=gm0) (A:=av0) 0 0 (P.cellsOf e) ((List.range len).map rowf) b o cap (fun i j=>(valf i)[j]?.getD undef) (Nat.le_refl _) (by rw[hrl];exact hlc) hb (Nj b) (fun h=>h)
        (fun i row hr=>by
         obtain ⟨hi,rfl⟩:=hget i row hr
         obtain ⟨q1,q2⟩:=hrow i hi
         rw[q2.1.1,(World.cells?_some q1).2.1])
        (fun i j row x hr hxj=>by
         obtain ⟨hi,rfl⟩:=hget i row hr
         exact ((hrow i hi).2.2.1 x (List.mem_of_getElem? hxj)).1)
        (fun i j row x hr hxj=>by
         obtain ⟨v,v1,v2,v3⟩:=cellat i j row x hr hxj
         rw[v2,v1];rfl)
        (fun i j row x hr hxj=>by
         obtain ⟨v,v1,v2,v3⟩:=cellat i j row x hr hxj
         rw[v1];exact v3)
        (fun row hr x hx=>by
         obtain ⟨i,hi⟩:=List.getElem?_of_mem hr
         obtain ⟨hi2,rfl⟩:=hget i row hi
         exact ((hrow i hi2).2.2.1 x hx).2)
       rw[hrl] at key
       exact key
    ·simp only[List.mem_singleton] at hy;subst hy
     refine ⟨rfl,.tsl _ _ _ fun row hr x hx=>?_⟩
     obtain ⟨i,hi⟩:=List.getElem?_of_mem hr
     obtain ⟨hi2,rfl⟩:=hget i row hi
     exact ((hrow i hi2).2.2.1 x hx).2
    ·unfold Sh;rw[hu]
     refine .inr ⟨_,rfl,?_,fun row hr=>?_⟩
     ·rw[List.length_map,List.length_range]
      have:maxLen<9223372036854775808:=by decide
      omega
     ·obtain ⟨i,hi⟩:=List.getElem?_of_mem hr
      obtain ⟨hi2,rfl⟩:=hget i row hi
      exact (hrow i hi2).2.2.2
  ·rename_i fs hu
   rw[Bool.and_eq_true] at h
   obtain ⟨hc,hp⟩:=h
   have hc:s_ P fs.toList 0=some (P.cellsOf t):=eq_of_beq hc
   obtain ⟨ys,m,-,-,hl,hyl,hel⟩:=DataW.trod_struct hu hx
   obtain ⟨xss,a1,a2,a3⟩:=IG (w:=w) (n:=n) (cs:=cs) hc fun f hf=>by
    obtain ⟨i,hi,e⟩:=List.mem_iff_getElem.1 hf
    have hfi:fs[i]?=some f:=by rw[<-Array.getElem?_toList,List.getElem?_eq_getElem hi,e]
    have:=hel i f hfi
    rw[List.getElem?_eq_getElem (show i<ys.length by rw[hyl];simpa using hi)] at this
    exact ih f.type (List.all_eq_true.1 hp f hf) _ _ _ this
   rw[List.drop_zero,Nat.sub_zero,<-hl,List.take_length] at a2
   refine ⟨xss.flatten,a2,a3,?_⟩
   unfold Sh;rw[hu];exact ⟨xss,rfl,a1⟩
  ·rename_i m e hu
   rw[Bool.and_eq_true,decide_eq_true_eq] at h
   obtain ⟨hc,hp⟩:=h
   obtain ⟨ys,q,-,-,hl,hyl,hel⟩:=DataW.trod_array hu hx
   obtain ⟨xss,a0,a1,a2,a3⟩:=FU (w:=w) (n:=n) (e:=e) (cs:=cs) (m:=m) (k:=0) fun i hi=>by
    have:=hel i hi
    rw[List.getElem?_eq_getElem (show i<ys.length by omega)] at this
    rw[Nat.zero_add]
    exact ih e hp _ _ _ this
   rw[Nat.zero_mul,List.drop_zero,hc,<-hl,List.take_length] at a2
   refine ⟨xss.flatten,a2,a3,?_⟩
   unfold Sh;rw[hu];exact ⟨xss,rfl,a0,a1⟩
  ·cases h
theorem Ix {n:Nat}{t:TypeId}{xs:List AV}(hu:P.underlying t=some (.int .i64))(h:Sh P n t xs):∃x:Int,Rp.rp NoP 0 .nil x xs:=by
 cases n with
 | zero=>exact h.elim
 | succ n =>
  unfold Sh at h;rw[hu] at h
  obtain ⟨z,rfl,-⟩:=h
  exact ⟨z,aI.2 rfl⟩
theorem jb {n:Nat}{t:TypeId}{xs:List AV}(hu:P.underlying t=some (.int .u8))(h:Sh P n t xs):∃x:UInt8,Rp.rp NoP 0 .nil x xs:=by
 cases n with
 | zero=>exact h.elim
 | succ n =>
  unfold Sh at h;rw[hu] at h
  obtain ⟨z,rfl,hw⟩:=h
  simp only[Lit.wf,IntKind.min,IntKind.max,IntKind.signed,IntKind.bits,Bool.and_eq_true] at hw
  refine ⟨UInt8.ofNat z.toNat,dS.2 ?_⟩
  have h1:0<=z:=by simpa using hw.1
  have h2:z<=255:=by simpa using hw.2
  have h3:(UInt8.ofNat z.toNat).toNat=z.toNat:=UInt8.toNat_ofNat_of_lt' (by show z.toNat<256;omega)
  rw[h3,Int.toNat_of_nonneg h1]
theorem wU {α:Type} [Rp α]{n:Nat}{t e:TypeId}{xs:List AV}(hu:P.underlying t=some (.slice e))(hsz:P.cellsOf e=Rp.sz α)(hel:∀ys,Sh P n e ys->∃y:α,Rp.rp NoP 0 .nil y ys)(h:Sh P (n+1) t xs) :
  ∃l:List α,Rp.rp NoP 0 .nil l xs:=by
 unfold Sh at h;rw[hu] at h
 rcases h with rfl | ⟨rows,rfl,hl,hr⟩
 ·exact ⟨[],.nils,rfl,by simp,rfl⟩
 ·have:∀rows:List (List AV),(∀row∈rows,Sh P n e row)->∃l:List α,All2 (Rp.rp NoP 0 .nil) l rows:=by
   intro rows
   induction rows with
   | nil=>intro _;exact ⟨[],trivial⟩
   | cons r rows ih =>
    intro h
    obtain ⟨y,hy⟩:=hel r (h r (by simp))
    obtain ⟨l,hl⟩:=ih fun row hrow=>h row (by simp[hrow])
    exact ⟨y::l,hy,hl⟩
  obtain ⟨l,ha⟩:=this rows hr
  exact ⟨l,_,rfl,by rw[ha.len];exact hl,Nat.le_refl _,.inl hsz,ha⟩
theorem JU {n m:Nat}{t e:TypeId}{xs:List AV}(hu:P.underlying t=some (.array m e))(h:Sh P (n+1) t xs):∃xss:List (List AV),xs=xss.flatten/\xss.length=m/\∀ys∈xss,Sh P n e ys:=by
 unfold Sh at h;rw[hu] at h;exact h
theorem rx {n:Nat}{t:TypeId}{fs:Array Field}{xs:List AV}(hu:P.underlying t=some (.struct fs))(h:Sh P (n+1) t xs):∃xss,xs=xss.flatten/\All2 (fun (f:Field) ys=>Sh P n f.type ys) fs.toList xss:=by
 unfold Sh at h;rw[hu] at h;exact h
end Hx
end
