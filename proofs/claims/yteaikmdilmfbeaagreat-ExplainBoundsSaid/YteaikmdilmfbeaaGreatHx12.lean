/- A part of the proof: an interpreter over abstract values, shown right against the model, and what the functions of the chapter compute on it. -/
import Derived.Test.YteaikmdilmfbeaaGreatHx11
set_option linter.unusedVariables false
set_option linter.unusedSimpArgs false
set_option linter.unnecessarySimpa false
section
namespace Hx
open Go
noncomputable section
theorem d8 {g:G}{v:AV}{n:Net}(d:Nat)(hm:Agg n NoP 0 g.h v):∃b rows,v=.agg [.int .i64 n.grain,b]/\Hx.snap g.h d aE v=some v/\(∀h,Agg n NoP 0 h v)/\SlR NoP 0 .nil n.nodes b/\(∀h,af h 3 b=some rows)/\rows.length=n.nodes.length /\
  (∀(i:Nat) (x:Node),n.nodes[i]?=some x->∃pa ra,rows[i]?=some [.int .i64 x.card,pa,ra]/\i<rows.length/\SlR NoP 0 .nil x.parents pa/\SlR NoP 0 .nil x.rows ra)/\(0<n.nodes.length->km b=true):=by
 have e:=jy d hm
 obtain ⟨cs,rfl,hc⟩:=hm
 have hc':=hc
 obtain ⟨b,rfl,hN⟩:=ck.1 hc
 have hN:=hN.tree (h':=.nil) (Nat.le_refl _)
 obtain ⟨rows,r1,r2,r3,r4⟩:=hN.all
 refine ⟨b,rows,rfl,e,fun h=>⟨_,rfl,Rp.tree hc' (Nat.le_refl _)⟩,hN,r1,r2,fun i x hx=>?_,r4⟩
 obtain ⟨row,q1,q2⟩:=r3 i x hx
 obtain ⟨a',b',rfl,ha',hb'⟩:=bM.1 q2
 exact ⟨a',b',q1,by rw[r2];exact (List.getElem?_eq_some_iff.1 hx).1,ha',hb'⟩
theorem vE {l:List (List Int)}{b:AV}(hb:SlR NoP 0 .nil l b):∃rows:List (List AV),(∀h,af h 1 b=some rows)/\rows.length=l.length/\(∀(i:Nat) (r:List Int),l[i]?=some r->∃z,rows[i]?=some [z]/\i<rows.length/\SlR NoP 0 .nil r z)/\(0<l.length->km b=true):=by
 obtain ⟨rows,r1,r2,r3,r4⟩:=hb.all
 refine ⟨rows,r1,r2,fun i r hr=>?_,r4⟩
 obtain ⟨row,q1,q2⟩:=r3 i r hr
 obtain ⟨z,rfl,hz⟩:=cK.1 q2
 exact ⟨z,q1,by rw[r2];exact (List.getElem?_eq_some_iff.1 hr).1,hz⟩
theorem Jp {d k2:Nat}{g:G}{P2:Nat->Prop}{v w:AV}{n:Net}{i j:Nat}{x:Node}{r:List Int}{vals:List Int}(hd:0<d)(hm:Agg n NoP 0 g.h v)(hr:NR n)(hx:n.nodes[i]?=some x)(hw:SlR P2 k2 g.h vals w)(hv:InC (S.aa n) vals)
  (hj:S.af (S.ac (S.aa n) x.parents) (S.ac vals x.parents)=(j:Int)) (hrr:x.rows[j]?=some r):∃z,au C0 d N.aN [v,.int .i64 (i:Int),w] g=.val z/\IT 0 r z:=by
 obtain ⟨w',e2,hw'⟩:=aV hw d
 obtain ⟨b,rows,rfl,e,hm',hN,r1,r2,r3,r4⟩:=d8 d hm
 have hxm:=List.mem_of_getElem? hx
 obtain ⟨pa,ra,q1,hlt,hpa,hra⟩:=r3 i x hx
 obtain ⟨rr,s1,s2,s3,s4⟩:=vE hra
 obtain ⟨z,q2,hlt2,hz⟩:=s3 j r hrr
 have hl2:=hr.l2
 have hpl:=cX (hr.places x hxm) (by omega)
 have hpin:=hr.pin hxm
 have hil:=(List.getElem?_eq_some_iff.1 hx).1
 have hry:=r4 (by omega)
 have hry2:=s4 (by omega)
 rw[wx]
 refine bp Ar (xs:=[.agg [.int .i64 n.grain,b],.int .i64 (i:Int),w']) (by simp only[aD,e,e2,eW 0]) (by simp[pP]) (bi _) (by decide) hd ?_
 simp only[sz,simprocAttr,pP,rP,r1,hlt,q1,hry]
 refine bo (uh (Nat.succ_pos d) (hm' _) (by omega) hx (by omega) (fun p hp=>by have:=hpin p hp;rw[ay] at this;exact this)) fun rc hrc=>?_
 simp only[sz,simprocAttr,r1,hlt,q1,hry]
 refine bo (Av (d:=d+1) (P:=NoP) (P2:=NoP) (k:=max k2 d) (k2:=0) (l:=vals) (p:=x.parents) (Nat.succ_pos d) (hw' _) (hpa.tree (Nat.le_refl _)) (by omega) (fun p hp=>by have:=hpin p hp;rw[<-hv.len] at this;exact this)) fun rv hrv=>?_
 have hix:=fun g=>AF (d:=d+1) (g:=g) (P:=NoP) (P2:=NoP) (k:=0) (k2:=0) (cards:=S.ac (S.aa n) x.parents) (vals:=S.ac vals x.parents) (Nat.succ_pos d) (hrc.sl g.h) (hrv.sl g.h) (by simp[S.ac];omega) (cA hr.cs hpin) (eP hv hpin)
 rw[hj] at hix
 simp only[sz,simprocAttr,hix,s1,q2,hlt2]
 exact ⟨_,z,rfl,hz.tree (Nat.le_refl _)⟩
theorem CP {d:Nat}{g:G}{v:AV}{n:Net}{w:Nat}(hd:0<d)(hm:Agg n NoP 0 g.h v)(hr:NR n)(hw:w<9223372036854775808):au C0 d N.ax [v,.int .i64 (w:Int)] g=.val (.int .i64 (S.bA n (S.ak (S.aa n) (w:Int)))):=by
 obtain ⟨b,rows,rfl,e,hm',hN,r1,r2,r3,r4⟩:=d8 d hm
 have hv:=cY (fun c hc=>(hr.cs c hc).1) (w:Int)
 have hvl:=oe (S.aa n) (w:Int)
 rw[ay] at hvl
 have hl2:=hr.l2
 rw[tT]
 refine eZ vz (xs:=[.agg [.int .i64 n.grain,b],.int .i64 (w:Int)]) (by simp only[aD,e,eW 0]) (by simp[lB]) hd ?_
 simp only[sz,simprocAttr,lB,nT]
 refine bo (we (d:=d+1) (P:=NoP) (k:=0) (w:=w) (Nat.succ_pos d) (hm' _) hr hw) fun rv hrv=>?_
 simp only[sz,simprocAttr,lQ]
 generalize S.ak (S.aa n) (w:Int)=vals at *
 refine a_ n.nodes.length (by omega) (fun j t df g=>df=[]/\St t [(2,.hptr 0 0 0 0),(5,rv),(6,.int .i64 (S.ae ((List.range j).map (S.aE n vals))))]/\g.h.get 0=.cells 2 [[.int .i64 n.grain,b]] 0 false false)
  ⟨rfl,by simp[St,sx,S.ae],by simp[sx]⟩ (by simp[sx]) (by decide) (by rintro j t df g v s (rfl | rfl | rfl)<;>simp[St,sx]) ?_ ?_ ?_
 ·rintro j t df g hj ⟨rfl,⟨h2,h5,h6,-⟩,hg⟩ h7
  simp only[sz,simprocAttr,h2,h5,h6,h7,hg,hN.len,St]
 ·rintro j t df g hj ⟨rfl,⟨h2,h5,h6,-⟩,hg⟩ h7
  obtain ⟨x,hx,-,-⟩:=ae hj
  obtain ⟨i,r,c,y,f1,f2,f3,f4,f5,f6,f7,f8,-,-⟩:=xD hr hv hx
  obtain ⟨c,rfl⟩:=Int.eq_ofNat_of_zero_le f5
  rw[Int.toNat_natCast] at f7
  have ri:=fun h=>hrv.rows h
  have u1:j<(vals.map ci).length:=by rw[List.length_map];omega
  have u2:(vals.map ci)[j]?=some (ci (c:Int)):=by rw[List.getElem?_map,f4];rfl
  have wb:=mz hr hv (j:=j+1) (by omega)
  rw[rZ,f8] at wb
  have w1:IntKind.wrap .i64 (S.ae ((List.range j).map (S.aE n vals))*y)=S.ae ((List.range (j+1)).map (S.aE n vals)):=by rw[rZ,f8,aF (by omega) (by omega)]
  simp only[sz,simprocAttr,h2,h5,h6,h7,hg]
  refine bo (Jp (d:=d+1) (P2:=NoP) (k2:=0) (i:=j) (Nat.succ_pos d) (hm' _) hr hx (hrv.sl _) hv f1 f3) fun z hz=>?_
  have rz:=fun h=>hz.rows h
  have u3:c<(r.map ci).length:=by rw[List.length_map];exact (List.getElem?_eq_some_iff.1 f7).1
  have u4:(r.map ci)[c]?=some (ci y):=by rw[List.getElem?_map,f7];rfl
  simp only[sz,simprocAttr,h2,h5,h7,hg,ri,rz,u1,u2,u3,u4,ci,St,w1]
 ·rintro t df g ⟨rfl,⟨h2,h5,h6,-⟩,hg⟩
  simp only[sz,simprocAttr,mh,h6]
  rfl
theorem GG {d k k2:Nat}{g:G}{P P2:Nat->Prop}{v w:AV}{n:Net}{e:List Int}(hd:0<d)(hm:Agg n P k g.h v)(he:SlR P2 k2 g.h e w):au C0 d N.aO [v,w] g=.val (.bool (S.aD n e)):=by
 obtain ⟨w',e2,hw'⟩:=aV he d
 obtain ⟨v',e1,cs,rfl,hc⟩:=jM (dI n) (by decide) d hm
 obtain ⟨b,rfl,hN⟩:=ck.1 hc
 obtain ⟨rows,r1,r2,r3,r4⟩:=hN.all
 have r1:∀h',af h' 3 b=some rows:=r1
 have n2:=fun g=>(hw' .nil).len g
 have rb:=fun h=>(hw' h).ints
 rw[rA]
 refine dy tA (xs:=[.agg [.int .i64 n.grain,b],w']) (by simp only[aD,e1,e2]) (by simp[fc]) hd ?_
 have hle:=he.1
 by_cases hl:e.length=n.nodes.length
 ·simp only[sz,simprocAttr,fc,gm,jS,n2,hN.len,hl]
  refine a_ e.length hle (fun j t df g=>df=[]/\St t [(1,w'),(2,.hptr 0 0 0 0)]/\g.h.get 0=.cells 2 [[.int .i64 n.grain,b]] 0 false false/\((List.range j).all fun v=>decide (-1<=e[v]?.getD 0)&&decide (e[v]?.getD 0<(S.aa n)[v]?.getD 0))=true)
   ⟨rfl,by simp[St,sx],by simp[sx],by simp⟩ (by simp[sx]) (by decide) (by rintro j t df g v s (rfl | rfl | rfl)<;>simp[St,sx]) ?_ ?_ ?_
  ·rintro j t df g hj ⟨rfl,⟨h1,h2,-⟩,hg,ha⟩ h5
   simp only[sz,simprocAttr,h1,h2,h5,hg,n2,St,ha]
  ·rintro j t df g hj ⟨rfl,⟨h1,h2,-⟩,hg,ha⟩ h5
   obtain ⟨y,hy,-,-⟩:=ae hj
   obtain ⟨x,hx,-,-⟩:=ae (l:=n.nodes) (j:=j) (by omega)
   obtain ⟨row,q1,q2⟩:=r3 j x hx
   obtain ⟨a',b',rfl,-,-⟩:=bM.1 q2
   have hlt:j<rows.length:=by omega
   have hry:=r4 (by omega)
   have u1:j<(e.map ci).length:=by simpa using hj
   have u2:(e.map ci)[j]?=some (ci y):=by rw[List.getElem?_map,hy];rfl
   have hc1:(S.aa n)[j]?.getD 0=x.card:=by simp[S.aa,hx]
   have hst:((List.range (j+1)).all fun v=>decide (-1<=e[v]?.getD 0)&&decide (e[v]?.getD 0<(S.aa n)[v]?.getD 0))=(decide (-1<=y)&&decide (y<x.card)):=by
    rw[List.range_succ,List.all_append,ha,hc1.symm]
    simp[hy]
   have bad:(decide (-1<=y)&&decide (y<x.card))=false->S.aD n e=false:=fun h=>by
    rw[S.aD]
    have:((List.range e.length).all fun v=>decide (-1<=e[v]?.getD 0)&&decide (e[v]?.getD 0<(S.aa n)[v]?.getD 0))=false:=by
     rw[<-Bool.not_eq_true,List.all_eq_true]
     intro h2
     have:=h2 j (List.mem_range.2 hj)
     rw[hy,Option.getD_some,hc1,h] at this
     cases this
    rw[this,Bool.and_false]
   by_cases c1:y < -1
   ·have:=bad (by simp;omega)
    simp only[sz,simprocAttr,h1,h5,rb,u1,u2,ci,c1,this]
   ·by_cases c2:x.card<=y
    ·have:=bad (by simp;omega)
     simp only[sz,simprocAttr,h1,h2,h5,hg,rb,r1,hlt,q1,hry,u1,u2,ci,c1,c2,this]
    ·simp only[sz,simprocAttr,h1,h2,h5,hg,rb,r1,hlt,q1,hry,u1,u2,ci,c1,c2,St,hst]
     simp
     omega
  ·rintro t df g ⟨rfl,⟨h1,h2,-⟩,hg,ha⟩
   simp only[sz,simprocAttr,jP]
   rw[S.aD,ha,hl];simp
 ·have hlI:¬((e.length:Int)=(n.nodes.length:Int)):=by omega
  simp only[sz,simprocAttr,fc,gm,n2,hN.len,hlI]
  rw[S.aD];simp[hl]
section
variable {d:Nat}{b pa ra z:AV}{gr card:Int}{r:List Int}
def LR5 (v:Nat)(q:Nat):List (Nat×AV):=[(1,.hptr 0 0 0 0),(6,.int .i64 (v:Int)),(7,.hptr q 0 0 0)]
structure RJ1 (gr:Int) (r:List Int) (v q i j:Nat) (t:T):Prop where
 st:St t ((8,.int .i64 (i:Int))::LR5 v q)
 s9:tat t 9=.int .i64 (r.take j).sum
 all:∀y∈r.take j,0<=y/\y<=gr
structure RJ4 (gr card:Int) (rws:List (List Int)) (v q j:Nat) (t:T):Prop where
 st:St t (LR5 v q)
 all:∀r∈rws.take j,S.ay gr card r=true
structure RJ0 (n:Net) (b:AV) (j:Nat) (t:T) (g:G):Prop where
 st:St t [(1,.hptr 0 0 0 0),(3,.int .i64 (S.ae ((S.aa n).take j)))]
 hg:g.h.get 0=.cells 2 [[.int .i64 n.grain,b]] 0 false false
 nx:1<=g.nx
 all:∀x∈n.nodes.take j,S.aU n.nodes.length x=true
structure RJ6 (n:Net) (b:AV) (j:Nat) (t:T) (g:G):Prop where
 st:St t [(1,.hptr 0 0 0 0)]
 hg:g.h.get 0=.cells 2 [[.int .i64 n.grain,b]] 0 false false
 nx:1<=g.nx
 all:∀x∈n.nodes.take j,S.bc n x=true
theorem Gj {Q:QT}{rr:List (List AV)}{v q i:Nat}{t:T}{g:G}(s1:∀h,af h 1 ra=some rr)(s2:rr[i]?=some [z])(s3:i<rr.length)(s4:km ra=true)(hz:SlR NoP 0 .nil r z)(hl:r.length<=4)(hg1:1<=gr/\gr<=60)
  (ht:St t ((8,.int .i64 (i:Int))::LR5 v q)) (h9:tat t 9=.int .i64 0) (h10:tat t 10=.int .i64 0) (e0:g.h.get 0=.cells 2 [[.int .i64 gr,b]] 0 false false) (eq:g.h.get q=.cells 3 [[.int .i64 card,pa,ra]] 0 false false)
  (bad:∀t,(∃y∈r,¬(0<=y/\y<=gr))->tat t 2=.bool false->Q .ret t [] g) (fin:∀t,(∀y∈r,0<=y/\y<=gr)->St t ((8,.int .i64 (i:Int))::LR5 v q)->tat t 9=.int .i64 r.sum->Q (.exit 6) t [] g) :
  wpL (wp C0 d none iU) Q t [] g:=by
 have n1:=fun g=>hz.len g
 have rz:=fun h=>(hz.tree (h':=h) (Nat.le_refl 0)).ints
 simp only[iU]
 refine a_ r.length (by omega) (fun j t df g'=>df=[]/\g'=g/\RJ1 gr r v q i j t)
  ⟨rfl,rfl,ht,by simp[h9],by simp⟩ h10 (by decide) (by rintro j t df g v s (rfl | rfl | rfl) ⟨a1,a2,⟨b1,b2,b3,b4,-⟩,b5,b6⟩<;>exact ⟨a1,a2,by simp[St,LR5,sx,b1,b2,b3,b4],by simp[sx,b5],b6⟩) ?_ ?_ ?_
 ·rintro j t df g' hj ⟨rfl,rfl,⟨⟨h8,h1,h6,h7,-⟩,h9,ha⟩⟩ h10
  simp only[sz,simprocAttr,h7,h8,h10,eq,s1,s2,s3,n1]
  exact ⟨by simp[St,LR5,sx,h1,h6,h7,h8],by simp[sx,h9],ha⟩
 ·rintro j t df g' hj ⟨rfl,rfl,⟨⟨h8,h1,h6,h7,-⟩,h9,ha⟩⟩ h10
  obtain ⟨y,hy,htk,hm⟩:=ae hj
  have u1:j<(r.map ci).length:=by simpa using hj
  have u2:(r.map ci)[j]?=some (ci y):=by rw[List.getElem?_map,hy];rfl
  by_cases c1:y<0
  ·simp only[sz,simprocAttr,h7,h8,h10,eq,s1,s2,s3,rz,u1,u2,ci,c1]
   exact bad _ ⟨y,hm,by omega⟩ (by simp[sx])
  ·by_cases c2:gr<y
   ·simp only[sz,simprocAttr,h1,h7,h8,h10,e0,eq,s1,s2,s3,rz,u1,u2,ci,c1,c2]
    exact bad _ ⟨y,hm,by omega⟩ (by simp[sx])
   ·have hall:∀x∈r.take (j+1),0<=x/\x<=gr:=fun x hx=>by
     rw[htk] at hx
     rcases List.mem_append.1 hx with h | h
     ·exact ha x h
     ·rw[List.mem_singleton.1 h];omega
    have hsb:=yY (b:=60) (by decide) (l:=r.take (j+1)) fun x hx=>by have:=hall x hx;omega
    have hl4:(r.take (j+1)).length<=4:=by rw[List.length_take];omega
    have w1:IntKind.wrap .i64 ((r.take j).sum+y)=(r.take (j+1)).sum:=by
     have e1:(r.take (j+1)).sum=(r.take j).sum+y:=by rw[htk,tc]
     rw[<-e1,aF (by omega) (by omega)]
    simp only[sz,simprocAttr,h1,h7,h8,h9,h10,e0,eq,s1,s2,s3,rz,u1,u2,ci,c1,c2,w1]
    exact ⟨by simp[St,LR5,sx,h1,h6,h7,h8],by simp[sx],hall⟩
 ·rintro t df g' ⟨rfl,rfl,⟨ht,h9,ha⟩⟩
  rw[List.take_length] at h9 ha
  exact fin t ha ht h9
theorem Id {Q:QT}{rws:List (List Int)}{v q:Nat}{t:T}{g:G}(hra:SlR NoP 0 .nil rws ra)(hc:1<=card/\card<=4)(hg1:1<=gr/\gr<=60)
  (ht:St t (LR5 v q)) (h8:tat t 8=.int .i64 0) (e0:g.h.get 0=.cells 2 [[.int .i64 gr,b]] 0 false false) (eq:g.h.get q=.cells 3 [[.int .i64 card,pa,ra]] 0 false false)
  (bad:∀t,(∃r∈rws,S.ay gr card r=false)->tat t 2=.bool false->Q .ret t [] g) (fin:∀t,(∀r∈rws,S.ay gr card r=true)->St t (LR5 v q)->Q (.exit 4) t [] g) :
  wpL (wp C0 d none iW) Q t [] g:=by
 obtain ⟨rr,s1,s2,s3,s4⟩:=vE hra
 have n1:=fun g=>hra.len g
 simp only[iW,nO]
 refine a_ rws.length hra.1 (fun j t df g'=>df=[]/\g'=g/\RJ4 gr card rws v q j t)
  ⟨rfl,rfl,ht,by simp⟩ h8 (by decide) (by rintro j t df g v s (rfl | rfl | rfl) ⟨a1,a2,⟨b1,b2,b3,-⟩,b6⟩<;>exact ⟨a1,a2,by simp[St,LR5,sx,b1,b2,b3],b6⟩) ?_ ?_ ?_
 ·rintro j t df g' hj ⟨rfl,rfl,⟨⟨h1,h6,h7,-⟩,ha⟩⟩ h8
  simp only[sz,simprocAttr,h7,h8,eq,n1]
  exact ⟨by simp[St,LR5,sx,h1,h6,h7],ha⟩
 ·rintro j t df g' hj ⟨rfl,rfl,⟨⟨h1,h6,h7,-⟩,ha⟩⟩ h8
  obtain ⟨r,hr,htk,hm⟩:=ae hj
  obtain ⟨z,q2,q3,hz⟩:=s3 j r hr
  have hry:=s4 (by omega)
  have n2:=fun g=>hz.len g
  by_cases c1:(r.length:Int)=card
  ·simp only[sz,simprocAttr,h7,h8,eq,s1,q2,q3,n2,c1]
   refine Gj (v:=v) (q:=q) (b:=b) (pa:=pa) (card:=card) (gr:=gr) s1 q2 q3 hry hz (by omega) hg1 (by simp[St,LR5,sx,h1,h6,h7,h8]) (by simp[sx]) (by simp[sx]) e0 eq ?_ ?_
   ·rintro t ⟨y,hy,hy2⟩ h2
    refine bad t ⟨r,hm,?_⟩ h2
    rw[<-Bool.not_eq_true,S.ay]
    simp only[Bool.and_eq_true,decide_eq_true_eq,List.all_eq_true]
    rintro ⟨⟨-,h⟩,-⟩
    exact hy2 (h y hy)
   ·rintro t hall ⟨h8,h1,h6,h7,-⟩ h9
    by_cases c2:r.sum=gr
    ·simp only[sz,simprocAttr,iV,h1,h8,h9,e0,c2]
     refine ⟨?_,fun x hx=>?_⟩
     ·simp[St,LR5,sx,h1,h6,h7]
     ·rw[htk] at hx
      rcases List.mem_append.1 hx with h | h
      ·exact ha x h
      ·rw[List.mem_singleton.1 h,S.ay]
       simp only[Bool.and_eq_true,decide_eq_true_eq,List.all_eq_true]
       exact ⟨⟨c1,hall⟩,c2⟩
    ·simp only[sz,simprocAttr,iV,h1,h9,e0,c2]
     refine bad _ ⟨r,hm,?_⟩ (by simp[sx])
     rw[S.ay];simp[c2]
  ·simp only[sz,simprocAttr,h7,h8,eq,s1,q2,q3,n2,c1]
   refine bad _ ⟨r,hm,?_⟩ (by simp[sx])
   rw[S.ay];simp[c1]
 ·rintro t df g' ⟨rfl,rfl,⟨ht,ha⟩⟩
  rw[List.take_length] at ha
  exact fin t ha ht
end
theorem FS {d:Nat}{g:G}{v:AV}{n:Net}(hd:0<d)(hm:Agg n NoP 0 g.h v):au C0 d N.bk [v] g=.val (.bool (S.aB n)):=by
 obtain ⟨b,rows,rfl,e,hm',hN,r1,r2,r3,r4⟩:=d8 d hm
 have bad:¬NR n->AV.bool false=AV.bool (S.aB n):=fun h=>by
  cases hn:S.aB n with
  | true=>exact absurd (iZ.1 hn) h
  | false=>rfl
 rw[tX]
 refine dy xh (xs:=[.agg [.int .i64 n.grain,b]]) (by simp only[aD,e]) (by simp[mu]) hd ?_
 have nl:=fun g=>hN.len g
 simp only[sz,simprocAttr,mu]
 obtain ⟨g0,hg0⟩:∃g0,g0=G.empty.new (.cells [AV.int .i64 n.grain,b].length [[.int .i64 n.grain,b]] 0 false false):=⟨_,rfl⟩
 have f0:g0.h.get 0=.cells 2 [[.int .i64 n.grain,b]] 0 false false:=by rw[hg0];simp[sx]
 have f1:1<=g0.nx:=by rw[hg0];simp[sx]
 rw[show (G.empty.new (.cells 2 [[AV.int .i64 n.grain,b]] 0 false false))=g0 from by rw[hg0];rfl]
 clear hg0
 simp only[px]
 by_cases c1:n.grain<1
 ·simp only[sz,simprocAttr,f0,c1]
  exact bad fun h=>by have:=h.g1;omega
 by_cases c2:60<n.grain
 ·simp only[sz,simprocAttr,f0,c1,c2]
  exact bad fun h=>by have:=h.g2;omega
 by_cases c3:(n.nodes.length:Int)<1
 ·simp only[sz,simprocAttr,f0,c1,c2,c3,nl]
  exact bad fun h=>by have:=h.l1;omega
 by_cases c4:8<(n.nodes.length:Int)
 ·simp only[sz,simprocAttr,f0,c1,c2,c3,c4,nl]
  exact bad fun h=>by have:=h.l2;omega
 refine jW (P:=fun t' df g'=>df=[]/\g'=g0/\St t' [(1,.hptr 0 0 0 0)]) ?_ ?_
 ·simp only[sz,simprocAttr,f0,c1,c2,c3,c4,nl]
  simp[St,sx]
 rintro t df g1 ⟨rfl,rfl,h1,-⟩
 simp only[sz,simprocAttr,nQ]
 have hry:=r4 (by omega)
 refine a_ n.nodes.length (by omega) (fun j t df g=>df=[]/\RJ0 n b j t g)
  ⟨rfl,by simp[St,sx,h1,S.ae],f0,f1,by simp⟩ (by simp[sx]) (by decide) (by rintro j t df g v s (rfl | rfl | rfl) ⟨a1,⟨b1,b2,-⟩,b3,b4,b5⟩<;>exact ⟨a1,by simp[St,sx,b1,b2],b3,b4,b5⟩) ?_ ?_ ?_
 ·rintro j t df g hj ⟨rfl,⟨⟨h1,h3,-⟩,hg,hnx,ha⟩⟩ h4
  simp only[sz,simprocAttr,h1,h4,hg,nl]
  exact ⟨by simp[St,sx,h1,h3],hg,hnx,ha⟩
 ·rintro j t df g hj ⟨rfl,⟨⟨h1,h3,-⟩,hg,hnx,ha⟩⟩ h4
  obtain ⟨x,hx,htk,hxm⟩:=ae hj
  obtain ⟨pa,ra,q1,hlt,hpa,hra⟩:=r3 j x hx
  have hpl:=fun g=>xr (d:=d+1) (g:=g) (P:=NoP) (k:=0) (l:=x.parents) (n:=(n.nodes.length:Int)) (Nat.succ_pos d) (hpa.tree (h':=g.h) (Nat.le_refl 0))
  have hne:¬(0=g.nx):=by omega
  have badn:S.aU n.nodes.length x=false->AV.bool false=AV.bool (S.aB n):=fun h=>bad fun hr=>by
   have h1:=hr.card x hxm
   have h2:=hr.places x hxm
   rw[S.aU,h2] at h
   simp at h
   omega
  by_cases d1:x.card<1
  ·simp only[sz,simprocAttr,h1,h4,hg,r1,hlt,q1,d1]
   exact badn (by rw[S.aU];simp;omega)
  by_cases d2:4<x.card
  ·simp only[sz,simprocAttr,h1,h4,hg,r1,hlt,q1,d1,d2]
   exact badn (by rw[S.aU];simp;omega)
  cases d3:S.aq x.parents n.nodes.length with
  | false =>
   rw[d3] at hpl
   simp only[sz,simprocAttr,h1,h4,hg,r1,hlt,q1,hne,nl,hpl,d1,d2]
   exact badn (by rw[S.aU,d3];simp)
  | true =>
   rw[d3] at hpl
   have hok:S.aU n.nodes.length x=true:=by rw[S.aU,d3];simp;omega
   have hall:∀y∈n.nodes.take (j+1),S.aU n.nodes.length y=true:=fun y hy=>by
    rw[htk] at hy
    rcases List.mem_append.1 hy with h | h
    ·exact ha y h
    ·rw[List.mem_singleton.1 h];exact hok
   have hcb:∀c∈(S.aa n).take (j+1),1<=c/\c<=4:=fun c hc=>by
    rw[S.aa,<-List.map_take] at hc
    obtain ⟨y,hy,rfl⟩:=List.mem_map.1 hc
    have:=hall y hy
    simp[S.aU] at this
    omega
   have hpb:=ch hcb
   have hp4:=j5 (a:=((S.aa n).take (j+1)).length) (b:=8) (by rw[List.length_take];omega)
   have h48:(4:Int) ^ 8=65536:=by decide
   have e1:S.ae ((S.aa n).take (j+1))=S.ae ((S.aa n).take j)*x.card:=by
    rw[List.take_add_one]
    have:(S.aa n)[j]?=some x.card:=by simp[S.aa,hx]
    rw[this];exact rk _ _
   have w1:IntKind.wrap .i64 (S.ae ((S.aa n).take j)*x.card)=S.ae ((S.aa n).take (j+1)):=by rw[<-e1,aF (by omega) (by omega)]
   simp only[sz,simprocAttr,h1,h3,h4,hg,r1,hlt,q1,hne,nl,hpl,d1,d2,w1]
   refine ⟨?_,?_,?_,hall⟩
   ·simp[St,sx,h1]
   ·simp[H.get_put,hne,hg]
   ·first | (simp;done) | (simp;omega)
 rintro t df g ⟨rfl,⟨⟨h1,h3,-⟩,hg,hnx,ha⟩⟩
 rw[List.take_length] at ha
 rw[List.take_of_length_le (by rw[ay];exact Nat.le_refl _)] at h3
 have hcard:∀x∈n.nodes,1<=x.card/\x.card<=4:=fun x hx=>by have:=ha x hx;simp[S.aU] at this;omega
 have hplc:∀x∈n.nodes,S.aq x.parents n.nodes.length=true:=fun x hx=>by have:=ha x hx;simp[S.aU] at this;exact this.2
 have hcb:∀c∈S.aa n,1<=c/\c<=4:=fun c hc=>by
  obtain ⟨y,hy,rfl⟩:=List.mem_map.1 hc
  exact hcard y hy
 simp only[m8]
 by_cases d1:1024<S.ae (S.aa n)
 ·simp only[sz,simprocAttr,h3,d1]
  exact bad fun h=>by have:=h.worlds;omega
 have hps:=fun g=>FY (d:=d+1) (g:=g) (k:=0) (P:=NoP) (Nat.succ_pos d) (hm' g.h) (by omega) fun x hx y hy=>by have:=bZ (hplc x hx) y hy;omega
 cases d2:S.aP (S.an n) with
 | false =>
  simp only[sz,simprocAttr,h1,h3,hg,d1]
  refine bo (hps _) fun rp hrp=>?_
  have hac:=fun g=>uK (d:=d+1) (g:=g) (P:=NoP) (k:=0) (p:=S.an n) (Nat.succ_pos d) (hrp.sl g.h)
  rw[d2] at hac
  simp only[sz,simprocAttr,hac]
  exact bad fun h=>by have:=h.acyc;rw[d2] at this;cases this
 | true =>
 refine jW (P:=fun t' df g'=>df=[]/\g'=g/\St t' [(1,.hptr 0 0 0 0)]/\S.aP (S.an n)=true) ?_ ?_
 ·simp only[sz,simprocAttr,h1,h3,hg,d1]
  refine bo (hps _) fun rp hrp=>?_
  have hac:=fun g=>uK (d:=d+1) (g:=g) (P:=NoP) (k:=0) (p:=S.an n) (Nat.succ_pos d) (hrp.sl g.h)
  rw[d2] at hac
  simp only[sz,simprocAttr,hac]
  simp[St,sx,h1,d2]
 clear h1 h3
 rintro t df g ⟨rfl,rfl,⟨h1,-⟩,hacyc⟩
 simp only[sz,simprocAttr,nm,mW]
 refine a_ n.nodes.length (by omega) (fun j t df g=>df=[]/\RJ6 n b j t g)
  ⟨rfl,by simp[St,sx,h1],hg,hnx,by simp⟩ (by simp[sx]) (by decide) (by rintro j t df g v s (rfl | rfl | rfl) ⟨a1,⟨b1,-⟩,b3,b4,b5⟩<;>exact ⟨a1,by simp[St,sx,b1],b3,b4,b5⟩) ?_ ?_ ?_
 ·rintro j t df g hj ⟨rfl,⟨⟨h1,-⟩,hg,hnx,ha⟩⟩ h6
  simp only[sz,simprocAttr,h1,h6,hg,nl]
  exact ⟨by simp[St,sx,h1],hg,hnx,ha⟩
 ·rintro j t df g hj ⟨rfl,⟨⟨h1,-⟩,hg,hnx,ha⟩⟩ h6
  obtain ⟨x,hx,htk,hxm⟩:=ae hj
  obtain ⟨pa,ra,q1,hlt,hpa,hra⟩:=r3 j x hx
  have hne:¬(0=g.nx):=by omega
  have hpl:=cX (hplc x hxm) (by omega)
  have hpin:∀p∈x.parents,0<=p/\p<(n.nodes.length:Int):=bZ (hplc x hxm)
  have hpb:∀c∈S.ac (S.aa n) x.parents,1<=c/\c<=4:=cA hcb fun p hp=>by rw[ay];exact hpin p hp
  have badn:S.bc n x=false->AV.bool false=AV.bool (S.aB n):=fun h=>bad fun hr=>by
   have h1:=hr.rows x hxm
   have h2:=hr.row x hxm
   have:S.bc n x=true:=by
    simp only[S.bc,S.ay,Bool.and_eq_true,decide_eq_true_eq,List.all_eq_true]
    exact ⟨h1,fun r hr=>⟨⟨(h2 r hr).1,(h2 r hr).2.1⟩,(h2 r hr).2.2⟩⟩
   rw[h] at this;cases this
  simp only[sz,simprocAttr,h1,h6,hg,r1,hlt,q1,hne,hra.len]
  refine bo (uh (d:=d+1) (k:=0) (P:=NoP) (Nat.succ_pos d) (hm' _) (by omega) hx (by omega) hpin) fun rc hrc=>?_
  have hsz:=fun g=>tC (d:=d+1) (g:=g) (P:=NoP) (k:=0) (Nat.succ_pos d) (hrc.sl g.h)
  rw[kf hpb (by simp[S.ac];omega)] at hsz
  by_cases d1:(x.rows.length:Int)=S.ae (S.ac (S.aa n) x.parents)
  ·simp only[sz,simprocAttr,hsz,d1]
   refine Id (v:=j) (q:=g.nx) (b:=b) (pa:=pa) (card:=x.card) (gr:=n.grain) (rws:=x.rows) hra (hcard x hxm) (by omega) (by simp[St,LR5,sx,h1,h6]) (by simp[sx]) (by simp[H.get_put,hne,hg]) (by simp[H.get_put]) ?_ ?_
   ·rintro t ⟨r,hr,hr2⟩ h2
    simp only[sx,sy,h2]
    refine badn ?_
    rw[S.bc]
    have:x.rows.all (S.ay n.grain x.card)=false:=by
     rw[<-Bool.not_eq_true,List.all_eq_true]
     intro h
     rw[h r hr] at hr2;cases hr2
    rw[this,Bool.and_false]
   ·rintro t hall ⟨h1,h6,h7,-⟩
    simp only[sx,sy,↓reduceIte,h6]
    refine ⟨?_,?_,?_,fun y hy=>?_⟩
    ·simp[St,h1]
    ·simp[H.get_put,hne,hg]
    ·first | (simp;done) | (simp;omega)
    ·rw[htk] at hy
     rcases List.mem_append.1 hy with h | h
     ·exact ha y h
     ·rw[List.mem_singleton.1 h,S.bc,List.all_eq_true.2 hall];simp[d1]
  ·simp only[sz,simprocAttr,hsz,d1]
   exact badn (by rw[S.bc];simp[d1])
 ·rintro t df g ⟨rfl,⟨⟨h1,-⟩,hg,hnx,ha2⟩⟩
  rw[List.take_length] at ha2
  simp only[sz,simprocAttr,mZ]
  have:S.aB n=true:=by
   unfold S.aB
   simp only[Bool.and_eq_true,decide_eq_true_eq,List.all_eq_true]
   exact ⟨⟨⟨⟨⟨⟨⟨by omega,by omega⟩,by omega⟩,by omega⟩,ha⟩,by omega⟩,hacyc⟩,ha2⟩
  rw[this]
end
end Hx
end
section
namespace Hx
open Go
noncomputable section
def OwnC (g:G)(b id:Nat)(l tl:List Int):Prop:=b<=id/\id<g.nx/\g.h.get id=.cells 1 (l.map ci++tl.map ci) 0 false false
theorem OwnC.rows {g:G}{b id:Nat}{l tl:List Int}(h:OwnC g b id l tl):af g.h 1 (.hsl id 0 0 l.length none)=some (l.map ci):=by
 rw[eN,h.2.2,dg,if_pos (by simp),List.drop_zero,List.take_left' (by simp)]
theorem OwnC.fr {g g':G}{b id:Nat}{l tl:List Int}(h:OwnC g b id l tl)(hn:g.nx<=g'.nx)(hf:g'.h.get id=g.h.get id):OwnC g' b id l tl:=⟨h.1,Nat.lt_of_lt_of_le h.2.1 hn,by rw[hf,h.2.2]⟩
theorem KS {g:G}{b n:Nat}{K:AV->G->Prop}{D:ADf->Prop}(hn:n<=1000)(hb:b<=g.nx)(k:∀g',OwnC g' b g.nx [] (List.replicate n 0)->g'.nx=g.nx+1->(∀i,i<g.nx->g'.h.get i=g.h.get i)->K (.hsl g.nx 0 0 0 none) g') :
  (x9 1 8 [.int .i64 0] (.int .i64 0) (.int .i64 (n:Int)) g).sat K g D:=by
 have h1:n<=aO:=by unfold aO;omega
 have h2:n*8<=aO:=by unfold aO;omega
 have key:x9 1 8 [.int .i64 0] (.int .i64 0) (.int .i64 (n:Int)) g=.upd (.hsl g.nx 0 0 0 none) (g.new (.cells 1 (eD n [.int .i64 0]) 0 false false)):=by
  show (match bN aO (.int .i64 (.ofNat n)) with
   | some cn=>match bN cn (.int .i64 0) with
    | some ln=>aq (Nat.ble (cn*8) aO) (OR.upd (.hsl g.nx 0 0 ln none) (g.new (.cells 1 (eD cn [.int .i64 0]) 0 false false))) .fail
    | none=>.fail
   | none=>.fail)=_
  have a1:bN aO (.int .i64 (.ofNat n))=some n:=by
   show aq (Nat.ble n aO) (some n) none=_
   rw[aa,if_pos (by simpa using h1)]
  have a2:bN n (.int .i64 0)=some 0:=by
   show aq (Nat.ble 0 n) (some 0) none=_
   rw[aa,if_pos (by simp)]
  rw[a1];dsimp only;rw[a2];dsimp only
  rw[aa,if_pos (by simpa using h2)]
 rw[key]
 refine k _ ⟨hb,by simp,?_⟩ (by simp) (fun i hi=>?_)
 ·simp[aR,eD,ci]
 ·rw[G.new_h,ap _ _ _ (by omega)]
theorem Ho {g:G}{b id:Nat}{l tl:List Int}{x y:Int}{w:AV}{K:AV->G->Prop}{D:ADf->Prop}(hv:OwnC g b id l (y::tl))(hx:af g.h 1 w=some [ci x])(hr:l.length<=1000)
  (k:∀g',OwnC g' b id (l++[x]) tl->g'.nx=g.nx->(∀i,i≠id->g'.h.get i=g.h.get i)->K (.hsl id 0 0 (l++[x]).length none) g'):(dk 1 8 (.hsl id 0 0 l.length none) w g).sat K g D:=by
 unfold dk
 rw[hx]
 obtain ⟨h1,h2,h3⟩:=hv
 simp only[bj,G.get_eq,h3,ax,aa,Nat.beq_refl,Bool.true_and,Nat.ble_eq,Bool.and_eq_true,Nat.zero_add,Option.getD_none,Nat.sub_zero,List.length_append,List.length_map,List.length_cons,List.length_nil]
 rw[if_pos ⟨by omega,by unfold aO;omega⟩,if_pos (by omega)]
 have hnb:iD false=true:=rfl
 rw[if_pos ⟨by omega,hnb⟩]
 have e:hZ (l.map ci++(y::tl).map ci) l.length [ci x]=(l++[x]).map ci++tl.map ci:=by
  simp only[hZ,gc]
  rw[List.map_append,List.append_assoc,List.map_cons,List.set_append_right _ _ (by simp)]
  simp
 rw[e]
 have k:=k (g.put id (.cells 1 ((l++[x]).map ci++tl.map ci) 0 false false)) ⟨h1,by simpa using h2,by simp[aR]⟩ (by simp) (fun i hi=>by rw[G.put_h,ap _ _ _ hi])
 have e3:l.length+1=(l++[x]).length:=by simp
 rw[e3]
 exact k
def K_ (p:List Nat):VS:=fun P k h v=>∃o:List Int,True/\EM (One o) (One (S.aP p)) P k h v
theorem EY {d k:Nat}{g:G}{P:Nat->Prop}{v:AV}{p:List Nat}(hd:0<d)(hv:SlR P k g.h p v)(hn:p.length<=8)(hp:∀x∈p,x<2 ^ p.length) :
  ∃z,au C0 d N.aU [v] g=.val z/\K_ p NoP 0 .nil z:=by
 obtain ⟨v',e,r1⟩:=aV hv d
 have hlt:=o7 hv
 rw[u0]
 refine bp xS (xs:=[v']) (by simp only[aD,e]) (by simp[oD]) (mb fun o=>qL (m:=1) (bi _) (bi _) (by decide) (by decide)) (by decide) hd ?_
 have vl:∀g,dG .slice v' g=.val (.int .i64 (p.length:Int)):=fun g=>(r1 .nil).len g
 simp only[sz,simprocAttr,oD,vl]
 refine KS (b:=0) (n:=p.length) (by omega) (Nat.zero_le _) fun g1 hu hn1 hf1=>?_
 obtain ⟨id,hid⟩:∃id,id=G.empty.nx:=⟨_,rfl⟩
 rw[<-hid] at hu ⊢
 clear hid hn1 hf1
 simp only[sz,simprocAttr]
 refine sI (fun n t df g=>df=[]/\∃(L:List Nat) (D:Nat) (tl:List Int),n=p.length - L.length/\L.length+tl.length=p.length/\Fq p L/\J_ D L/\GM p D/\St t [(0,v'),(4,.hsl id 0 0 (L.map fun i:Nat=>(i:Int)).length none),(5,.int .u64 (D:Int))]/\OwnC g 0 id (L.map fun i:Nat=>(i:Int)) tl) p.length
  ⟨rfl,[],0,List.replicate p.length 0,by simp,by simp,⟨by simp,by simp⟩,⟨by decide,by simp⟩,E2,by simp[sx,St],hu⟩ ?_
 rintro n t df g ⟨rfl,L,D,tl,rfl,hLt,hO,hD,hG,⟨h0,h4,h5,-⟩,hu⟩
 have hLl:=GT hO
 have hul:∀g',dG .slice (.hsl id 0 0 (L.map fun i:Nat=>(i:Int)).length none) g'=.val (.int .i64 (L.length:Int)):=fun g'=>by rw[ea hu.rows];simp
 simp only[sz,simprocAttr,pk,h0,h4,vl,hul]
 refine be (fun hb=>?_) (fun hb=>?_)
 ·have hlt2:L.length<p.length:=by simpa using hb
  obtain ⟨y,tl,rfl⟩:∃y tl',tl=y::tl':=by
   cases tl with
   | nil=>simp at hLt;omega
   | cons y tl=>exact ⟨y,tl,rfl⟩
  simp only[sz,simprocAttr,h0,vl,pq]
  refine aX (m:=p.length) (by omega) (fun j t df g'=>df=[]/\g'=g/\St t [(0,v'),(16,v'),(4,.hsl id 0 0 (L.map fun i:Nat=>(i:Int)).length none),(5,.int .u64 (D:Int))]/\∀v,v<j->D.testBit v=true\/¬Sub (Par p v) D)
   ⟨rfl,rfl,by simp[sx,St,h0,h4,h5],fun v hv=>by omega⟩ (by simp[sx]) (by simp[sx]) (by decide) (by rintro j t df g v s (rfl | rfl | rfl)<;>simp[sx,St]) ?_ ?_
  ·rintro j t df g' hj ⟨rfl,rfl,⟨h0,h16,h4,h5,-⟩,hall⟩ h18 h17
   obtain ⟨x,hx,-,hxm⟩:=ae hj
   have hpj:Par p j=x:=by simp[Par,hx]
   have hxl:=hlt x hxm
   have hjl:j<(p.map cu).length:=by simpa using hj
   have hjr:(p.map cu)[j]?=some (cu x):=by rw[List.getElem?_map,hx];rfl
   have b1:=DY .i64 D j hD.1
   have hdv:D / 2 ^ j<18446744073709551616:=Nat.lt_of_le_of_lt (Nat.div_le_self _ _) hD.1
   have b2:cN .and (.int .u64 ((D / 2 ^ j:Nat):Int)) (.int .u64 1)=.val (.int .u64 ((D / 2 ^ j &&& 1:Nat):Int)):=Ev _ 1 hdv (by decide)
   have b3:=CM x D hxl hD.1
   have ra:=fun h=>(r1 h).nats
   have hbit:D.testBit j = !decide (((D / 2 ^ j &&& 1:Nat):Int)=0):=by
    rw[<-tS,S.be]
    have h2:D / 2 ^ j &&& 1=(D / 2 ^ j) % 2:=Nat.and_one_is_mod _
    rw[h2]
    have:=Nat.mod_lt (D / 2 ^ j) (show 0<2 by decide)
    by_cases h3:D / 2 ^ j % 2=0
    ·rw[h3];simp
    ·have h4:D / 2 ^ j % 2=1:=by omega
     rw[h4];simp
   have next:(D.testBit j=true\/¬Sub (Par p j) D)->∀v,v<j+1->D.testBit v=true\/¬Sub (Par p v) D:=fun h v hv=>by
    by_cases e:v=j
    ·subst e;exact h
    ·exact hall v (by omega)
   by_cases c1:((D / 2 ^ j &&& 1:Nat):Int)=0
   ·by_cases c2:((x ^^^ (x &&& D):Nat):Int)=0
    ·have hd0:S.bB x D=0:=by simpa [S.bB] using c2
     have hsub:=yL.1 hd0
     have hjL:j ∉ L:=fun h=>by
      have:=(hD.2 j).2 h
      rw[hbit,c1] at this;simp at this
     have hb2:D ||| S.aM j<18446744073709551616:=Ey hD.1 (ud j)
     simp only[sz,simprocAttr,h16,h4,h5,h18,b1,b2,b3,ra,hjl,hjr,cu,c1,c2]
     refine Ho (x:=(j:Int)) (hu.fr (by simp) (by rw[G.new_h,ap _ _ _ (by have:=hu.2.1;omega)])) (by simp[sx,sy,ci]) (by simp;omega) fun g2 hu2 n2 f2=>?_
     have hone:cN .shl (.int .u64 1) (.int .i64 (j:Int))=.val (.int .u64 (S.aM j:Int)):=qp .i64 j
     have e1:(L.map fun i:Nat=>(i:Int))++[(j:Int)]=(L++[j]).map fun i:Nat=>(i:Int):=by simp
     rw[e1] at hu2 ⊢
     simp only[sz,simprocAttr,h5,hone,Au _ _ hD.1 (ud j)]
     refine ⟨p.length - (L++[j]).length,by simp;omega,L++[j],D ||| S.aM j,tl,rfl,by simp at hLt ⊢;omega,FK hO hjL hj fun q hq=>?_,ES hD (by omega),Gi hG (by omega) (by rw[hpj];exact hsub),by simp[sx,St,h0],hu2⟩
     rw[hpj] at hq;exact (hD.2 q).1 (hsub q hq)
    ·have hns:¬Sub (Par p j) D:=fun h=>c2 (by
      have:=yL.2 h
      rw[hpj] at this
      simp[S.bB] at this
      simp[this])
     simp only[sz,simprocAttr,h0,h16,h4,h5,h18,h17,b1,b2,b3,ra,hjl,hjr,cu,c1,c2,St]
     exact next (.inr hns)
   ·simp only[sz,simprocAttr,h0,h16,h4,h5,h18,h17,b1,b2,ra,hjl,hjr,cu,c1,St]
    exact next (.inl (by rw[hbit,decide_eq_false c1];rfl))
  ·rintro t df g' ⟨rfl,rfl,-,hall⟩
   obtain ⟨v0,hv0,hv0'⟩:=Jf hO hlt2
   have hac:S.aP p=false:=by
    cases hc:S.aP p with
    | false=>rfl
    | true =>
     have:=zO hp hc (T:=D) (fun v hv hb=>by
      rcases hall v hv with h | h
      ·rw[h] at hb;cases hb
      ·exact h) v0 hv0
     exact absurd ((hD.2 v0).1 this) hv0'
   simp only[sz,simprocAttr,pc]
   exact ⟨fun _=>True,[],.nils,.bool false,rfl,⟨.nils,rfl,by show 0<9223372036854775808;decide,rfl⟩,Am.2 (by rw[hac])⟩
 ·have hge:p.length<=L.length:=by simp at hb;omega
  have htl:tl=[]:=List.eq_nil_of_length_eq_zero (by omega)
  subst htl
  have hfull:=Fx hO hge
  have hac:=At hG fun v hv=>(hD.2 v).2 (hfull.1 v hv)
  simp only[sz,simprocAttr,pp,h4]
  refine ⟨fun _=>True,L.map (fun i:Nat=>(i:Int)),_,_,rfl,⟨_,rfl,by simp;omega,trivial,_,hu.rows,All2.of_map (fun a=>aU.2 rfl) _⟩,Am.2 (by rw[hac])⟩
theorem Fc {C:Cfg}{d id nt:Nat}{t:T}{ps:List Nat}{assign body:Code}{a b:SC}{dfr:Nat}{args:List AV}{g:G}{K:AV->G->Prop}{D:ADf->Prop}{t':T}
  (hg:g.h.get id=.loop nt t ps assign body dfr .ready none) (ha:dW C nt assign=a) (hb:dW C nt body=b) (hp:cQ t nt ps args=some t')
  (h:wp C d (some id) a (fun e t1 df g1=>e=.norm/\df=[]/\g1=g /\
   wp C d (some id) b (fun e _ df g2=>df=[]/\g2.h.get id=.loop nt t ps assign body dfr .busy none/\((e=.norm/\K (.bool true) (g2.put id (.loop nt t ps assign body dfr .ready none)))\/(e=.ret/\K (.bool false) (g2.put id (.loop nt t ps assign body dfr .done (some .ret))))))
    t1 [] (g.put id (.loop nt t ps assign body dfr .busy none))) t' [] g) :
  (cy (I C) d id args g).sat K g D:=by
 subst ha;subst hb
 unfold cy
 rw[show g.get id=_ from hg]
 dsimp only
 rw[hp]
 dsimp only
 have h1:=qX h
 cases hc:(I C).code nt d (some id) assign t' [] g with
 | fail=>rw[hc] at h1;exact h1.elim
 | ok e t1 df g1 =>
  rw[hc] at h1
  obtain ⟨rfl,rfl,rfl,h2⟩:=h1
  dsimp only
  rw[show g1.get id=_ from hg]
  dsimp only
  have h3:=qX h2
  cases hc2:(I C).code nt d (some id) body t1 [] (g1.put id (.loop nt t ps assign body dfr .busy none)) with
  | fail=>rw[hc2] at h3;exact h3.elim
  | ok e t2 df2 g2 =>
   rw[hc2] at h3
   obtain ⟨rfl,h4,h5⟩:=h3
   dsimp only
   rw[show g2.get id=_ from h4]
   rcases h5 with ⟨rfl,h5⟩ | ⟨rfl,h5⟩<;>exact h5
theorem su {C:Cfg}{d nt:Nat}{f:Od}{ps:List Nat}{a b:SC}{Q:QT}{t:T}{df:List ADf}{g:G}{fn:Nat}{first cap:List AV}{s:SF}(hv:f.get t=.clo fn first cap)(he:C.ext fn=none)(hs:nFn C fn=some s)
  (hl:(first++(.yld (g.nx+1)::cap)).length<=s.nt)
  (h:∀assign body,dW C nt assign=a->dW C nt body=b ->
   wp C d none s.code (fnQ C d s.res fun _ g2=>∃nt' t' ps' as' bd' dfr',(g2.h.get (g.nx+1)=.loop nt' t' ps' as' bd' dfr' .ready none/\Q .norm t (.mark g.nx::df) (g2.put (g.nx+1) (.loop nt' t' ps' as' bd' dfr' .exhausted none))) \/
     (g2.h.get (g.nx+1)=.loop nt' t' ps' as' bd' dfr' .done (some .ret)/\Q .ret t (.mark g.nx::df) (g2.put (g.nx+1) (.loop nt' t' ps' as' bd' dfr' .exhausted (some .ret)))))
    (bH 0 (first++(.yld (g.nx+1)::cap)) .nil) [] ((g.new (.dfr true)).new (.loop nt t ps assign body g.nx .ready none))) :
  wp C d none (.rng nt f ps a b) Q t df g:=by
 intro assign body ha hb
 have h:=qO hs hl (h assign body ha hb)
 show (cC C (I C) nt d none (f.get t) ps assign body t (.mark g.nx::df) g.nx (g.new (.dfr true))).sat Q
 rw[hv]
 unfold cC
 dsimp only
 rw[he]
 show (match (I C).call d fn (first++(AV.yld (g.nx+1)::cap)) ((g.new (.dfr true)).new (.loop nt t ps assign body g.nx .ready none)) with
  | .ok _ g2=>du (I C) nt d none (g.nx+1) t (.mark g.nx::df) g2
  | .fail=>.fail).sat Q
 cases hc:(I C).call d fn (first++(AV.yld (g.nx+1)::cap)) ((g.new (.dfr true)).new (.loop nt t ps assign body g.nx .ready none)) with
 | fail=>rw[hc] at h;exact h.elim
 | ok v g2 =>
  rw[hc] at h
  obtain ⟨nt',t',ps',as',bd',dfr',h⟩:=h
  show (du (I C) nt d none (g.nx+1) t (.mark g.nx::df) g2).sat Q
  unfold du
  rcases h with ⟨h1,h2⟩ | ⟨h1,h2⟩
  ·rw[show g2.get (g.nx+1)=_ from h1]
   exact h2
  ·rw[show g2.get (g.nx+1)=_ from h1]
   dsimp only
   rw[C6]
   exact h2
def RwV (x:Node):VS:=fun P k h v=>∃p,v=.clo N.ac [] [p] /\
 ((∃id cs,p=.hptr id 0 0 0/\P id/\h.get id=.cells 3 [cs] 0 false false/\Rp.rp P k h x cs)\/∃t cs,p=.tptr t 3 [cs] 0 0/\t<=k/\Rp.rp NoP k .nil x cs)
theorem Kr (x:Node):Snb (RwV x) 2:=by
 refine ⟨fun {P k h v n} d r hn=>?_,fun {k h v n} r hn=>?_⟩
 ·obtain ⟨p,rfl,r⟩:=r
  obtain ⟨n,rfl⟩:∃q,n=q+2:=⟨n - 2,by omega⟩
  rcases r with ⟨id,cs,rfl,-,hg,r⟩ | ⟨t,cs,rfl,ht,r⟩
  ·obtain ⟨cs',e,r'⟩:=Rp.snap (n:=n) d r (by show (_:Nat)<=n;exact Nat.le_trans (show Rp.dp Node<=20 by decide) (by omega)) (by decide)
   obtain ⟨m,e2,l2⟩:=Rp.tag (n:=aE) r' (by decide)
   refine ⟨.clo N.ac [] [.tptr (Nat.max d (Nat.max m 0)) 3 [cs'] 0 0],?_,_,rfl,.inr ⟨_,cs',rfl,?_,r'⟩⟩
   ·have:Hx.snap h d (n+1) (.hptr id 0 0 0)=some (.tptr (Nat.max d (Nat.max m 0)) 3 [cs'] 0 0):=by
     simp only[Hx.snap,hg,show Nat.beq 0 0=true from rfl,aD,e,eB,fL,e2]
    simp only[Hx.snap,aD] at this ⊢
    rw[this]
   ·show max d (max m 0)<=max k d
    omega
  ·refine ⟨.clo N.ac [] [.tptr t 3 [cs] 0 0],rfl,_,rfl,.inr ⟨t,cs,rfl,by omega,Rp.mono r (fun i hi=>hi.elim) (by omega)⟩⟩
 ·obtain ⟨p,rfl,r⟩:=r
  obtain ⟨n,rfl⟩:∃q,n=q+2:=⟨n - 2,by omega⟩
  rcases r with ⟨id,cs,rfl,hP,-⟩ | ⟨t,cs,rfl,ht,r⟩
  ·exact hP.elim
  ·exact ⟨Nat.max t 0,rfl,by show max t 0<=k;omega⟩
theorem GI {d:Nat}{g:G}{v:AV}{x:Node}(hd:0<d)(hm:Agg x NoP 0 g.h v) :
  ∃pa ra,au C0 d N.aD [v] g=.val (.clo N.ac [] [.tptr 0 3 [[.int .i64 x.card,pa,ra]] 0 0])/\SlR NoP 0 .nil x.parents pa/\SlR NoP 0 .nil x.rows ra:=by
 have e0:=jy d hm
 obtain ⟨cs,rfl,hc⟩:=hm
 obtain ⟨a,b,rfl,hR,hN⟩:=bM.1 hc
 have key:∃r,au C0 d N.aD [.agg [.int .i64 x.card,a,b]] g=.val r/\RwV x NoP 0 .nil r:=by
  rw[yh]
  refine bp Bn (xs:=[.agg [.int .i64 x.card,a,b]]) (by simp only[aD,e0]) (by simp[se]) (Kr x) (by decide) hd ?_
  simp only[sz,simprocAttr,se,tk]
  exact ⟨fun _=>True,_,rfl,.inl ⟨0,_,rfl,trivial,by simp[sx],Rp.tree hc (Nat.le_refl _)⟩⟩
 obtain ⟨r,h1,p,rfl,h2⟩:=key
 rcases h2 with ⟨id,cs,rfl,hP,-⟩ | ⟨t,cs,rfl,ht,hr⟩
 ·exact hP.elim
 ·have:t=0:=by omega
  subst this
  obtain ⟨a',b',rfl,hR',hN'⟩:=bM.1 hr
  exact ⟨a',b',h1,hR',hN'⟩
theorem dD (fo l sz i off:Nat)(rows:List (List AV)):H3 fo (.tptr l sz rows i off)=.val (.tptr l sz rows i (off+fo)):=rfl
theorem GB {d id:Nat}{c:Int}{pa ra:AV}{rws:List (List Int)}{g0:G}{K:AV->G->Prop}(hra:SlR NoP 0 .nil rws ra)(J:Nat->H->Prop)(E:G->Prop)
  (step:∀(j:Nat) (r:List Int) (z:AV) (g:G) (K':AV->G->Prop) (D:ADf->Prop),rws[j]?=some r->SlR NoP 0 .nil r z->g0.nx<=g.nx->J j g.h ->
   (∀g',J (j+1) g'.h->g.nx<=g'.nx->K' (.bool true) g')->(∀g',E g'->K' (.bool false) g')->(cy (I C0) d id [.int .i64 (j:Int),z] g).sat K' g D)
  (h0:J 0 g0.h) (fin:∀g',J rws.length g'.h->g0.nx<=g'.nx->K (.tup []) g') (finE:∀g',E g'->K (.tup []) g') :
  wp C0 d none eV.code (fnQ C0 d eV.res K) (bH 0 [.yld id,.tptr 0 3 [[.int .i64 c,pa,ra]] 0 0] .nil) [] g0:=by
 obtain ⟨rr,s1,s2,s3,s4⟩:=vE hra
 simp only[sz,simprocAttr,eV,o9,dD,bB,hra.len]
 refine aX (m:=rws.length) hra.1 (fun j t df g=>df=[]/\St t [(0,.yld id),(6,ra)]/\J j g.h/\g0.nx<=g.nx) ⟨rfl,by simp[St,sx],h0,Nat.le_refl _⟩ (by simp[sx]) (by simp[sx]) (by decide) (by rintro j t df g v s (rfl | rfl | rfl)<;>simp[St,sx]) ?_ ?_
 ·rintro j t df g hj ⟨rfl,⟨h0,h6,-⟩,hJ,hn⟩ h8 h7
  obtain ⟨r,hr,-,-⟩:=ae hj
  obtain ⟨z,q2,q3,hz⟩:=s3 j r hr
  have hry:=s4 (by omega)
  simp only[sz,simprocAttr,h0,h6,h8,s1,q2,q3]
  show (cy (I C0) d id [.int .i64 (j:Int),z] g).sat _ _ _
  refine step j r z g _ _ hr hz hn hJ (fun g' hJ' hn'=>?_) fun g' hE=>?_
  ·simp only[sz,simprocAttr,h7,h8]
   simp[St,sx,h0,h6,hJ',Nat.le_trans hn hn']
  ·simp only[sz,simprocAttr]
   exact finE g' hE
 ·rintro t df g ⟨rfl,-,hJ,hn⟩
  simp only[sx,↓reduceIte]
  exact fin g hJ hn
theorem CJ:C0.ext N.ac=none:=by kernel_rfl
structure RowQ (b:Nat) (g2 g3:G) (e:Ex) (A B:Prop):Prop where
 nx:g2.nx<=g3.nx
 fr:∀i,b<=i->i<g2.nx->g3.h.get i=g2.h.get i
 st:(e=.norm/\A)\/(e=.ret/\B)
theorem HB {d nt y p q:Nat}{c:Int}{pa ra:AV}{rws:List (List Int)}{ca cb:SC}{Q:QT}{t:T}{g:G}(hra:SlR NoP 0 .nil rws ra)(hv:tat t y=.clo N.ac [] [.tptr 0 3 [[.int .i64 c,pa,ra]] 0 0])(hp:p<nt)(hq:q<nt)
  (J:Nat->H->Prop) (E:H->Prop) (hJ:∀j h h',(∀i,i<g.nx->h'.get i=h.get i)->J j h->J j h') (hE:∀h h',(∀i,i<g.nx->h'.get i=h.get i)->E h->E h') (h0:J 0 g.h)
  (step:∀(j:Nat) (r:List Int) (z:AV) (g1:G),rws[j]?=some r->SlR NoP 0 .nil r z->J j g1.h->g.nx+2<=g1.nx ->
   wp C0 d (some (g.nx+1)) ca (fun e t1 df g1'=>e=.norm/\df=[]/\g1'=g1/\∀g2:G,g2.nx=g1.nx->(∀i,i≠g.nx+1->g2.h.get i=g1.h.get i) ->
    wp C0 d (some (g.nx+1)) cb (fun e _ df g3=>df=[]/\RowQ g.nx g2 g3 e (J (j+1) g3.h) (E g3.h)) t1 [] g2)
    (dF (dF t p (.int .i64 (j:Int))) q z) [] g1)
  (fin:∀g',J rws.length g'.h->g.nx+2<=g'.nx->g'.h.get g.nx=.dfr true->Q .norm t [.mark g.nx] g')
  (finE:∀g',E g'.h->g.nx+2<=g'.nx->g'.h.get g.nx=.dfr true->Q .ret t [.mark g.nx] g') :
  wp C0 d none (.rng nt (.t y) [p,q] ca cb) Q t [] g:=by
 refine su (fn:=N.ac) (first:=[]) (cap:=[.tptr 0 3 [[.int .i64 c,pa,ra]] 0 0]) (s:=eV) hv CJ xY (by simp[eV]) ?_
 intro assign body ha hb
 have e1:((g.new (.dfr true)).new (.loop nt t [p,q] assign body g.nx .ready none)).nx=g.nx+2:=by simp
 refine GB (g0:=(g.new (.dfr true)).new (.loop nt t [p,q] assign body g.nx .ready none)) (id:=g.nx+1) hra
  (fun j h=>J j h/\h.get g.nx=.dfr true/\h.get (g.nx+1)=.loop nt t [p,q] assign body g.nx .ready none)
  (fun g'=>E g'.h/\g'.h.get g.nx=.dfr true/\g'.h.get (g.nx+1)=.loop nt t [p,q] assign body g.nx .done (some .ret)/\g.nx+2<=g'.nx) ?_ ?_ ?_ ?_
 ·rintro j r z g1 K' D hr hz hn ⟨a1,a2,a3⟩ kk kE
  rw[e1] at hn
  refine Fc a3 ha hb (t':=dF (dF t p (.int .i64 (j:Int))) q z) ?_ ?_
  ·simp only[cQ,aa,Nat.blt_eq,if_pos hp,if_pos hq];rfl
  ·refine bX _ (step j r z g1 hr hz a1 (by omega)) ?_
   rintro e t1 df g1' ⟨rfl,rfl,rfl,h⟩
   refine ⟨rfl,rfl,rfl,?_⟩
   have hl:g.nx+1<g1'.nx:=by omega
   refine bX _ (h (g1'.put (g.nx+1) (.loop nt t [p,q] assign body g.nx .busy none)) (by simp) (fun i hi=>by simp[H.get_put,hi])) ?_
   rintro e t2 df g3 ⟨rfl,⟨b2,b3,b1⟩⟩
   have b4:g3.h.get (g.nx+1)=.loop nt t [p,q] assign body g.nx .busy none:=by rw[b3 _ (by omega) (by simpa using hl)];simp[H.get_put]
   have b5:g3.h.get g.nx=.dfr true:=by
    rw[b3 _ (by omega) (by simp;omega)];simp[H.get_put,a2]
   refine ⟨rfl,b4,?_⟩
   rcases b1 with ⟨rfl,b1⟩ | ⟨rfl,b1⟩
   ·refine .inl ⟨rfl,kk _ ⟨hJ _ g3.h _ (fun i hi=>by simp[H.get_put,show ¬i=g.nx+1 by omega]) b1,?_,?_⟩ (by simpa using b2)⟩
    ·simp[H.get_put,b5]
    ·simp[H.get_put]
   ·refine .inr ⟨rfl,kE _ ⟨hE g3.h _ (fun i hi=>by simp[H.get_put,show ¬i=g.nx+1 by omega]) b1,?_,?_,?_⟩⟩
    ·simp[H.get_put,b5]
    ·simp[H.get_put]
    ·simp at b2 ⊢;omega
 ·refine ⟨hJ 0 g.h _ (fun i hi=>?_) h0,?_,?_⟩
  ·simp[H.get_put,show ¬i=g.nx+1 by omega,show ¬i=g.nx by omega]
  ·simp[H.get_put]
  ·simp[H.get_put]
 ·rintro g' ⟨a1,a2,a3⟩ hn
  rw[e1] at hn
  refine ⟨_,_,_,_,_,_,.inl ⟨a3,fin _ (hJ _ g'.h _ (fun i hi=>by simp[H.get_put,show ¬i=g.nx+1 by omega]) a1) (by simpa using hn) ?_⟩⟩
  simp[H.get_put,a2]
 ·rintro g' ⟨a1,a2,a3,hn⟩
  refine ⟨_,_,_,_,_,_,.inr ⟨a3,finE _ (hE g'.h _ (fun i hi=>by simp[H.get_put,show ¬i=g.nx+1 by omega]) a1) (by simpa using hn) ?_⟩⟩
  simp[H.get_put,a2]
abbrev NwM:Type:=Net×List Int×List Nat×List Int
theorem zh {P:Nat->Prop}{k:Nat}{h:H}{x:NwM}{cs:List AV}:Rp.rp P k h x cs↔∃a b c e,cs=[.int .i64 x.1.grain,a,b,c,e]/\SlR P k h x.1.nodes a/\SlR P k h x.2.1 b/\SlR P k h x.2.2.1 c/\SlR P k h x.2.2.2 e:=by
 constructor
 ·rintro ⟨c1,c2,rfl,h1,c3,c4,rfl,⟨b,rfl,hb⟩,c5,c6,rfl,⟨c,rfl,hc⟩,⟨e,rfl,he⟩⟩
  obtain ⟨a,rfl,ha⟩:=ck.1 h1
  exact ⟨a,b,c,e,rfl,ha,hb,hc,he⟩
 ·rintro ⟨a,b,c,e,rfl,ha,hb,hc,he⟩
  exact ⟨[_,a],[b,c,e],rfl,ck.2 ⟨a,rfl,ha⟩,[b],[c,e],rfl,⟨b,rfl,hb⟩,[c],[e],rfl,⟨c,rfl,hc⟩,⟨e,rfl,he⟩⟩
theorem Ad:∀{l:List Int},(∀x∈l,0<=x)->0<=l.sum
 | [],_=>by simp
 | x::l,h=>by
  have:=Ad (l:=l) fun y hy=>h y (by simp[hy])
  have:=h x (by simp)
  rw[List.sum_cons];omega
theorem AC {l:List Int}(h:∀x∈l,0<=x)(j:Nat):(l.take j).sum<=l.sum:=by
 have:=Ad (l:=l.drop j) fun x hx=>h x (List.mem_of_mem_drop hx)
 have e:l.sum=(l.take j).sum+(l.drop j).sum:=by rw[<-List.sum_append,List.take_append_drop]
 omega
theorem wg:∀{l:List Int},(∀x∈l,0<=x)->∀x∈l,x<=l.sum
 | [],_,x,hx=>by simp at hx
 | y::l,h,x,hx=>by
  have h1:=Ad (l:=l) fun z hz=>h z (by simp[hz])
  have h2:=h y (by simp)
  rw[List.sum_cons]
  rcases List.mem_cons.1 hx with rfl | hx
  ·omega
  ·have:=wg (l:=l) (fun z hz=>h z (by simp[hz])) x hx;omega
def S.aV (gr:Int)(cs:List Int)(x:Node):Bool:=decide ((x.rows.length:Int)=S.ae (S.ac cs x.parents))&&x.rows.all (S.ay gr x.card)
structure FJ (gr:Int) (r:List Int) (z:AV) (j:Nat) (t:T):Prop where
 st:St t [(2,.hptr 0 0 0 0),(3,.hptr 1 0 0 0),(4,.hptr 2 0 0 0),(9,z),(40,z),(10,.int .i64 (gr - (r.take j).sum))]
 nn:∀x∈r.take j,0<=x
 le:(r.take j).sum<=gr
theorem FN {d:Nat}{rd:Option Nat}{gr:Int}{r:List Int}{z:AV}{Q:QT}{t:T}{g:G}(hz:SlR NoP 0 .nil r z)(hg1:1<=gr/\gr<=60)
  (ht:St t [(2,.hptr 0 0 0 0),(3,.hptr 1 0 0 0),(4,.hptr 2 0 0 0),(9,z),(40,z),(10,.int .i64 gr)]) (h42:tat t 42=.int .i64 0) (h41:tat t 41=.int .i64 (r.length:Int)) (e2:g.h.get 2=.cells 1 [[.bool false]] 0 false false)
  (bad:∀t,(∀card,S.ay gr card r=false)->Q .ret t [] (g.put 2 (.cells 1 [[.bool false]] 0 false false)))
  (fin:∀t,(∀x∈r,0<=x)->r.sum<=gr->St t [(2,.hptr 0 0 0 0),(3,.hptr 1 0 0 0),(4,.hptr 2 0 0 0),(9,z),(10,.int .i64 (gr - r.sum))]->Q (.exit 4) t [] g) :
  wpL (wp C0 d rd dE) Q t [] g:=by
 have rz:=fun h=>(hz.tree (h':=h) (Nat.le_refl 0)).ints
 simp only[dE]
 refine aX (m:=r.length) hz.1 (fun j t df g'=>df=[]/\g'=g/\FJ gr r z j t) ⟨rfl,rfl,by simpa using ht,by simp,by simp;omega⟩ h42 h41 (by decide)
  (by rintro j t df g v s (rfl | rfl | rfl) ⟨a1,a2,⟨b1,b2,b3,b4,b5,b6,-⟩,b7,b8⟩<;>exact ⟨a1,a2,by simp[St,sx,b1,b2,b3,b4,b5,b6],b7,b8⟩) ?_ ?_
 ·rintro j t df g' hj ⟨rfl,rfl,⟨⟨h2,h3,h4,h9,h40,h10,-⟩,hnn,hle⟩⟩ h42 h41
  obtain ⟨y,hy,htk,hm⟩:=ae hj
  have u1:j<(r.map ci).length:=by simpa using hj
  have u2:(r.map ci)[j]?=some (ci y):=by rw[List.getElem?_map,hy];rfl
  have hs0:=Ad hnn
  by_cases c1:y<0
  ·simp only[sz,simprocAttr,h4,h40,h42,rz,u1,u2,ci,c1,e2]
   exact bad _ (fun card=>by
    rw[<-Bool.not_eq_true,S.ay]
    simp only[Bool.and_eq_true,decide_eq_true_eq,List.all_eq_true]
    rintro ⟨⟨-,h⟩,-⟩
    have:=h y hm;omega)
  ·by_cases c2:gr - (r.take j).sum<y
   ·simp only[sz,simprocAttr,h4,h40,h10,h42,rz,u1,u2,ci,c1,c2,e2]
    exact bad _ (fun card=>by
     rw[<-Bool.not_eq_true,S.ay]
     simp only[Bool.and_eq_true,decide_eq_true_eq,List.all_eq_true]
     rintro ⟨⟨-,h⟩,hs⟩
     have h1:=AC (l:=r) (fun x hx=>(h x hx).1) (j+1)
     rw[htk,tc] at h1
     omega)
   ·have w1:IntKind.wrap .i64 (gr - (r.take j).sum - y)=gr - (r.take (j+1)).sum:=by
     rw[aF (by omega) (by omega),htk,tc];omega
    simp only[sz,simprocAttr,h40,h10,h42,h41,rz,u1,u2,ci,c1,c2,w1]
    refine ⟨by simp[St,sx,h2,h3,h4,h9,h40],fun x hx=>?_,by rw[htk,tc];omega⟩
    rw[htk] at hx
    rcases List.mem_append.1 hx with h | h
    ·exact hnn x h
    ·rw[List.mem_singleton.1 h];omega
 ·rintro t df g' ⟨rfl,rfl,⟨⟨h2,h3,h4,h9,h40,h10,-⟩,hnn,hle⟩⟩
  rw[List.take_length] at hnn hle h10
  exact fin t hnn hle ⟨h2,h3,h4,h9,h10,trivial⟩
structure FlJ (cs1 cs2:List AV) (gr card:Int) (rws:List (List Int)) (j:Nat) (h:H):Prop where
 a0:h.get 0=.cells 5 [cs1] 0 false false
 a1:h.get 1=.cells 3 [cs2] 0 false false
 a2:h.get 2=.cells 1 [[.bool false]] 0 false false
 all:∀r∈rws.take j,S.ay gr card r=true
structure FlE (gr card:Int) (rws:List (List Int)) (h:H):Prop where
 a2:h.get 2=.cells 1 [[.bool false]] 0 false false
 ex:∃r∈rws,S.ay gr card r=false
theorem Fk {d k1 k2:Nat}{g:G}{P1 P2:Nat->Prop}{v w:AV}{m:NwM}{x:Node}(hd:0<d)(hm:Agg m P1 k1 g.h v)(hx:Agg x P2 k2 g.h w)(hk:k2=0/\P2=NoP)(hg1:1<=m.1.grain/\m.1.grain<=60)(hc:∀c∈m.2.1,1<=c/\c<=4)
  (hp:∀p∈x.parents,0<=p/\p<m.2.1.length) (hpl:x.parents.length<=8):au C0 d N.aJ [v,w] g=.val (.bool (S.aV m.1.grain m.2.1 x)):=by
 obtain ⟨rfl,rfl⟩:=hk
 obtain ⟨v',e1,cs,rfl,hcs⟩:=jM (dI m) (by decide) d hm
 obtain ⟨nb,cb,sb,ob,rfl,-,hcb,-,-⟩:=zh.1 hcs
 have e2:=jy d hx
 obtain ⟨cs2,rfl,hcs2⟩:=hx
 obtain ⟨pa,ra,rfl,hpa,hra⟩:=bM.1 hcs2
 have hcs2':∀h,Agg x NoP 0 h (.agg [.int .i64 x.card,pa,ra]):=fun h=>⟨_,rfl,Rp.tree hcs2 (Nat.le_refl _)⟩
 have hra:=hra.tree (h':=.nil) (Nat.le_refl 0)
 have rp:=fun h=>(hpa.tree (h':=h) (Nat.le_refl 0)).ints
 have rc:=fun h=>(hcb.tree (h':=h) (Nat.le_refl _)).ints
 have pl:=fun g=>(hpa.tree (h':=.nil) (Nat.le_refl 0)).len g
 have rl:=fun g=>hra.len g
 rw[nZ]
 refine dy pB (xs:=[.agg [.int .i64 m.1.grain,nb,cb,sb,ob],.agg [.int .i64 x.card,pa,ra]]) (by simp only[aD,e1,e2]) (by simp[eI]) hd ?_
 simp only[sz,simprocAttr,eI]
 obtain ⟨g0,hg0⟩:∃g0,g0=((G.empty.new (.cells 5 [[.int .i64 m.1.grain,nb,cb,sb,ob]] 0 false false)).new (.cells 3 [[.int .i64 x.card,pa,ra]] 0 false false)).new (.cells 1 [[.bool false]] 0 false false):=⟨_,rfl⟩
 rw[<-hg0]
 have f0:g0.h.get 0=.cells 5 [[.int .i64 m.1.grain,nb,cb,sb,ob]] 0 false false:=by rw[hg0];simp[sx,H.get_put]
 have f1:g0.h.get 1=.cells 3 [[.int .i64 x.card,pa,ra]] 0 false false:=by rw[hg0];simp[sx,H.get_put]
 have f2:g0.h.get 2=.cells 1 [[.bool false]] 0 false false:=by rw[hg0];simp[sx]
 have f3:g0.nx=3:=by rw[hg0];simp[sx]
 clear hg0
 simp only[sz,simprocAttr,io,f1,pl,gE]
 refine aX (m:=x.parents.length) (by omega) (fun j t df g=>df=[]/\g=g0/\St t [(2,.hptr 0 0 0 0),(3,.hptr 1 0 0 0),(4,.hptr 2 0 0 0),(14,pa),(5,.int .i64 (S.ae (S.ac m.2.1 (x.parents.take j))))])
  ⟨rfl,rfl,by simp[St,sx,S.ae,S.ac]⟩ (by simp[sx]) (by simp[sx]) (by decide) (by rintro j t df g v s (rfl | rfl | rfl)<;>simp[St,sx]) ?_ ?_
 ·rintro j t df g hj ⟨rfl,rfl,⟨h2,h3,h4,h14,h5,-⟩⟩ h16 h15
  obtain ⟨p,hpj,htk,hm2⟩:=ae hj
  obtain ⟨p0,p1⟩:=hp p hm2
  obtain ⟨p,rfl⟩:=Int.eq_ofNat_of_zero_le p0
  have hpl2:p<m.2.1.length:=by omega
  have u1:j<(x.parents.map ci).length:=by simpa using hj
  have u2:(x.parents.map ci)[j]?=some (ci (p:Int)):=by rw[List.getElem?_map,hpj];rfl
  have u3:p<(m.2.1.map ci).length:=by simpa using hpl2
  have u4:(m.2.1.map ci)[p]?=some (ci m.2.1[p]):=by rw[List.getElem?_map,List.getElem?_eq_getElem hpl2];rfl
  have e3:S.ae (S.ac m.2.1 (x.parents.take (j+1)))=S.ae (S.ac m.2.1 (x.parents.take j))*m.2.1[p]:=by
   rw[htk,C5,xu]
   congr 1
   simp[S.ac,S.ae,List.getElem?_eq_getElem hpl2]
  have hpb:=ch (l:=S.ac m.2.1 (x.parents.take (j+1))) (cA hc fun q hq=>hp q (List.mem_of_mem_take hq))
  have hp4:=j5 (a:=(S.ac m.2.1 (x.parents.take (j+1))).length) (b:=8) (by simp[S.ac];omega)
  have h48:(4:Int) ^ 8=65536:=by decide
  have w1:IntKind.wrap .i64 (S.ae (S.ac m.2.1 (x.parents.take j))*m.2.1[p])=S.ae (S.ac m.2.1 (x.parents.take (j+1))):=by rw[<-e3,aF (by omega) (by omega)]
  simp only[sz,simprocAttr,h2,h14,h5,h16,h15,f0,rp,rc,u1,u2,u3,u4,ci,w1]
  simp[St,sx,h2,h3,h4,h14]
 rintro t df g ⟨rfl,rfl,⟨h2,h3,h4,h14,h5,-⟩⟩
 rw[List.take_length] at h5
 simp only[gI]
 by_cases c1:(x.rows.length:Int)=S.ae (S.ac m.2.1 x.parents)
 ·obtain ⟨pa',ra',er,hpa',hra'⟩:=GI (d:=d+1) (g:=g) (Nat.succ_pos d) (hcs2' g.h)
  refine jW (P:=fun t' df g'=>df=[]/\g'=g/\St t' [(2,.hptr 0 0 0 0),(3,.hptr 1 0 0 0),(4,.hptr 2 0 0 0)]) ?_ ?_
  ·simp only[sz,simprocAttr,h3,h5,f1,rl,c1]
   simp[St,sx,h2,h3,h4]
  clear h2 h3 h4 h5 h14
  rintro t df g ⟨rfl,rfl,h2,h3,h4,-⟩
  rw[ei,ei]
  simp only[sz,simprocAttr,h3,f1,er]
  refine HB (c:=x.card) (pa:=pa') hra' (by simp[sx]) (by decide) (by decide)
   (FlJ [.int .i64 m.1.grain,nb,cb,sb,ob] [.int .i64 x.card,pa,ra] m.1.grain x.card x.rows)
   (FlE m.1.grain x.card x.rows) ?_ ?_ ⟨f0,f1,f2,by simp⟩ ?_ ?_ ?_
  ·rintro j h h' hh ⟨a0,a1,a2,a3⟩
   exact ⟨by rw[hh 0 (by omega),a0],by rw[hh 1 (by omega),a1],by rw[hh 2 (by omega),a2],a3⟩
  ·rintro h h' hh ⟨a2,a3⟩
   exact ⟨by rw[hh 2 (by omega),a2],a3⟩
  ·rintro j r z g1 hr hz ⟨a0,a1,a2,a3⟩ hn
   obtain ⟨r',hr',htk,hrm⟩:=ae (l:=x.rows) (j:=j) (List.getElem?_eq_some_iff.1 hr).1
   rw[hr] at hr';injection hr' with hr';subst hr'
   simp only[sz,simprocAttr,gD]
   intro g2 hg2n hg2
   have b0:g2.h.get 0=.cells 5 [[.int .i64 m.1.grain,nb,cb,sb,ob]] 0 false false:=by rw[hg2 0 (by omega),a0]
   have b1:g2.h.get 1=.cells 3 [[.int .i64 x.card,pa,ra]] 0 false false:=by rw[hg2 1 (by omega),a1]
   have b2:g2.h.get 2=.cells 1 [[.bool false]] 0 false false:=by rw[hg2 2 (by omega),a2]
   simp only[sz,simprocAttr,gM,h2,b0,hz.len]
   refine FN (gr:=m.1.grain) (r:=r) (z:=z) hz hg1 (by simp[St,sx,h2,h3,h4]) (by simp[sx]) (by simp[sx]) b2 ?_ ?_
   ·rintro t hrow
    simp only[sx,sy]
    exact ⟨by simp,fun i h1 h2=>by simp[H.get_put,show ¬i=2 by omega],.inr ⟨rfl,by simp[H.get_put],r,hrm,hrow _⟩⟩
   ·rintro t hnn hle ⟨h2,h3,h4,h9,h10,-⟩
    have hzl:=fun g=>hz.len g
    by_cases c2:(r.length:Int)=x.card
    ·by_cases c3:m.1.grain - r.sum=0
     ·simp only[sz,simprocAttr,bW,h3,h9,h10,hzl,b1,c2,c3]
      refine ⟨Nat.le_refl _,fun i _ _=>rfl,.inl ⟨rfl,b0,b1,b2,fun y hy=>?_⟩⟩
      rw[htk] at hy
      rcases List.mem_append.1 hy with h | h
      ·exact a3 y h
      ·rw[List.mem_singleton.1 h,S.ay]
       simp only[Bool.and_eq_true,decide_eq_true_eq,List.all_eq_true]
       exact ⟨⟨c2,fun q hq=>⟨hnn q hq,by have:=wg hnn q hq;omega⟩⟩,by omega⟩
     ·have hro:S.ay m.1.grain x.card r=false:=by rw[S.ay];simp;intros;omega
      simp only[sz,simprocAttr,bW,h3,h4,h9,h10,hzl,b1,b2,c2,c3]
      exact ⟨by simp,fun i h1 h2=>by simp[H.get_put,show ¬i=2 by omega],.inr ⟨rfl,by simp[H.get_put],r,hrm,hro⟩⟩
    ·have hro:S.ay m.1.grain x.card r=false:=by rw[S.ay];simp[c2]
     simp only[sz,simprocAttr,bW,h3,h4,h9,hzl,b1,b2,c2]
     exact ⟨by simp,fun i h1 h2=>by simp[H.get_put,show ¬i=2 by omega],.inr ⟨rfl,by simp[H.get_put],r,hrm,hro⟩⟩
  ·rintro g' ⟨a0,a1,a2,a3⟩ hn hdf
   rw[List.take_length] at a3
   have hok:S.aV m.1.grain m.2.1 x=true:=by rw[S.aV,List.all_eq_true.2 a3];simp[c1]
   simp only[sz,simprocAttr,gN,h4,a2]
   refine j4 (by simp[H.get_put,show ¬g.nx=2 by omega,hdf]) ?_
   simp only[sx,sy,↓reduceIte,Nat.reduceEqDiff,h4,hok]
   simp[show ¬(2=g.nx) by omega]
   rfl
  ·rintro g' ⟨a2,r,hr,hro⟩ hn hdf
   have hok:S.aV m.1.grain m.2.1 x=false:=by
    rw[S.aV]
    have:x.rows.all (S.ay m.1.grain x.card)=false:=by
     rw[<-Bool.not_eq_true,List.all_eq_true]
     intro h
     rw[h r hr] at hro;cases hro
    rw[this,Bool.and_false]
   simp only[sx]
   refine j4 hdf ?_
   simp only[sx,sy,↓reduceIte,Nat.reduceEqDiff,h4,hok]
   rw[if_neg (by omega),a2]
   rfl
 ·simp only[sz,simprocAttr,h3,h4,h5,f1,f2,rl,c1]
  rw[S.aV];simp[c1]
theorem Eo:∀{l:List Int} {v:Nat},(∀x∈l,0<=x/\x<64)->((S.ap l).testBit v=true↔(v:Int)∈l):=by
 have key:∀(l:List Int) (s v:Nat),(∀x∈l,0<=x/\x<64)->((l.foldl (fun s x=>s ||| S.aM x.toNat) s).testBit v=true↔s.testBit v=true\/(v:Int)∈l):=by
  intro l
  induction l with
  | nil=>intro s v _;simp
  | cons x l ih =>
   intro s v h
   have hx:=h x (by simp)
   rw[List.foldl_cons,ih _ _ fun y hy=>h y (by simp[hy]),rE,zG (show x.toNat<64 by omega),Bool.or_eq_true,decide_eq_true_eq,List.mem_cons]
   constructor
   ·rintro ((h | h) | h)
    ·exact .inl h
    ·exact .inr (.inl (by omega))
    ·exact .inr (.inr h)
   ·rintro (h | h | h)
    ·exact .inl (.inl h)
    ·exact .inl (.inr (by omega))
    ·exact .inr h
 intro l v h
 have:=key l 0 v h
 simpa [S.ap] using this
theorem Il {l:List Int}{k:Nat}(hk:k<=64)(h:∀x∈l,0<=x/\x<k):S.ap l<2 ^ k:=by
 have hb:∀i,k<=i->(S.ap l).testBit i=false:=fun i hi=>by
  rw[<-Bool.not_eq_true,Eo fun x hx=>by have:=h x hx;omega]
  intro hm
  have:=h _ hm
  omega
 exact Nat.lt_pow_two_of_testBit _ fun i hi=>hb i hi
structure RdH (n:Net) (b cv sv:AV) (q:Nat) (X:List Int) (Y:List Nat) (g:G):Prop where
 h0:g.h.get 0=.cells 2 [[.int .i64 n.grain,b]] 0 false false
 h1:g.h.get 1=.cells 5 [[.int .i64 0,.nils,.nils,.nils,.nils]] 0 false false
 hq:g.h.get q=.cells 5 [[.int .i64 n.grain,b,cv,sv,.nils]] 0 false false
 hc:Own g 2 cv 1 (X.map ci)
 hs:Own g 2 sv 1 (Y.map cu)
 q2:2<=q
 qn:q<g.nx
 d1:vid cv≠some q
 d2:vid sv≠some q
 d3:∀i,vid cv=some i->vid sv≠some i
theorem RdH.fr {n:Net}{b cv sv:AV}{q:Nat}{X:List Int}{Y:List Nat}{g g':G}(h:RdH n b cv sv q X Y g)(f:Fr g g'):RdH n b cv sv q X Y g' :=
 ⟨by rw[f.2 0 (by have:=h.qn;have:=h.q2;omega),h.h0],by rw[f.2 1 (by have:=h.qn;have:=h.q2;omega),h.h1],by rw[f.2 q h.qn,h.hq],h.hc.step f,h.hs.step f,h.q2,Nat.lt_of_lt_of_le h.qn f.1,h.d1,h.d2,h.d3⟩
def S.bF (n:Net)(o:List Int):NwM:=if S.aB n then (n,S.aa n,S.an n,o) else (⟨0,[]⟩,[],[],[])
def BC (n:Net):VS:=fun P k h v=>∃o:List Int,True/\EM (Agg (S.bF n o)) (One (if S.aB n then (0:Int) else 50)) P k h v
section
variable {d:Nat}{n:Net}{b cv sv:AV}{q:Nat}{rows:List (List AV)}
def LRd (q:Nat):List (Nat×AV):=[(1,.hptr 0 0 0 0),(2,.hptr 1 0 0 0),(4,.hptr q 0 0 0)]
theorem Kv {t:T}{g:G}(hn:¬NR n)(h1:g.h.get 1=.cells 5 [[.int .i64 0,.nils,.nils,.nils,.nils]] 0 false false)(t2:tat t 2=.hptr 1 0 0 0)(t3:tat t 3=.int .i64 50) :
  fnQ C0 d li.res (fun v g'=>∃P,BC n P 0 g'.h v) .ret t [] g:=by
 have hf:S.aB n=false:=by
  cases h:S.aB n with
  | false=>rfl
  | true=>exact absurd (iZ.1 h) hn
 simp only[li,sx,sy,↓reduceIte,Nat.reduceAdd,Nat.reduceLeDiff,t2,t3,h1]
 refine ⟨fun _=>True,[],trivial,_,_,rfl,⟨_,rfl,?_⟩,?_⟩
 ·rw[S.bF,hf]
  exact zh.2 ⟨.nils,.nils,.nils,.nils,rfl,⟨by show 0<9223372036854775808;decide,rfl⟩,⟨by show 0<9223372036854775808;decide,rfl⟩,⟨by show 0<9223372036854775808;decide,rfl⟩,⟨by show 0<9223372036854775808;decide,rfl⟩⟩
 ·rw[hf];exact aU.2 rfl
structure Rd0 (n:Net) (b cv sv:AV) (q j:Nat) (t:T) (g:G):Prop where
 st:St t ((48,b)::(5,.int .i64 (S.ae ((S.aa n).take j)))::LRd q)
 hp:RdH n b cv sv q ((S.aa n).take j++List.replicate (n.nodes.length - j) 0) (List.replicate n.nodes.length 0) g
 ok:∀x∈n.nodes.take j,1<=x.card/\x.card<=4
theorem JD {Q:QT}{t:T}{g:G}(hl:n.nodes.length<=8)(hN:SlR NoP 0 .nil n.nodes b)(r1:∀h,af h 3 b=some rows)(r2:rows.length=n.nodes.length)
  (r3:∀(i:Nat) (x:Node),n.nodes[i]?=some x->∃pa ra,rows[i]?=some [.int .i64 x.card,pa,ra]/\i<rows.length/\SlR NoP 0 .nil x.parents pa/\SlR NoP 0 .nil x.rows ra) (r4:0<n.nodes.length->km b=true)
  (h0:Rd0 n b cv sv q 0 t g) (h50:tat t 50=.int .i64 0) (h49:tat t 49=.int .i64 (n.nodes.length:Int))
  (bad:∀t g,¬NR n->g.h.get 1=.cells 5 [[.int .i64 0,.nils,.nils,.nils,.nils]] 0 false false->tat t 2=.hptr 1 0 0 0->tat t 3=.int .i64 50->Q .ret t [] g)
  (fin:∀t g,Rd0 n b cv sv q n.nodes.length t g->Q (.exit 0) t [] g):wpL (wp C0 d none mM) Q t [] g:=by
 simp only[mM]
 refine aX (m:=n.nodes.length) (by omega) (fun j t df g=>df=[]/\Rd0 n b cv sv q j t g) ⟨rfl,h0⟩ h50 h49 (by decide)
  (by rintro j t df g v s (rfl | rfl | rfl) ⟨a1,⟨b1,b2,b3,b4,b5,-⟩,c1,c2⟩<;>exact ⟨a1,by simp[St,LRd,sx,b1,b2,b3,b4,b5],c1,c2⟩) ?_ ?_
 ·rintro j t df g hj ⟨rfl,⟨⟨h48,h5,h1,h2,h4,-⟩,hp,hok⟩⟩ h50 h49
  obtain ⟨x,hx,htk,hxm⟩:=ae hj
  obtain ⟨pa,ra,q1,hlt,hpa,hra⟩:=r3 j x hx
  have hry:=r4 (by omega)
  have q2:=hp.q2
  have qn:=hp.qn
  have hne1:¬(1=g.nx):=by omega
  have hneq:¬(q=g.nx):=by omega
  have f1:Fr g (g.new (.cells 3 [[.int .i64 0,.nils,.nils]] 0 false false)):=Fr.new _ _
  have badn:¬(1<=x.card/\x.card<=4)->¬NR n:=fun h hr=>h (hr.card x hxm)
  by_cases c1:x.card<1
  ·simp only[sz,simprocAttr,h2,h48,h50,r1,hlt,q1,hp.h1,hne1,c1]
   exact bad _ _ (badn (by omega)) (by simp[H.get_put]) (by simp[sx,h2]) (by simp[sx])
  ·by_cases c2:4<x.card
   ·simp only[sz,simprocAttr,h2,h48,h50,r1,hlt,q1,hp.h1,hne1,c1,c2]
    exact bad _ _ (badn (by omega)) (by simp[H.get_put]) (by simp[sx,h2]) (by simp[sx])
   ·have hall:∀y∈n.nodes.take (j+1),1<=y.card/\y.card<=4:=fun y hy=>by
     rw[htk] at hy
     rcases List.mem_append.1 hy with h | h
     ·exact hok y h
     ·rw[List.mem_singleton.1 h];omega
    have hcb:∀c∈(S.aa n).take (j+1),1<=c/\c<=4:=fun c hc=>by
     rw[S.aa,<-List.map_take] at hc
     obtain ⟨y,hy,rfl⟩:=List.mem_map.1 hc
     exact hall y hy
    have hpb:=ch hcb
    have hp4:=j5 (a:=((S.aa n).take (j+1)).length) (b:=8) (by rw[List.length_take];omega)
    have h48':(4:Int) ^ 8=65536:=by decide
    have hcj:(S.aa n)[j]?=some x.card:=by simp[S.aa,hx]
    have ets:(S.aa n).take (j+1)=(S.aa n).take j++[x.card]:=by rw[List.take_add_one,hcj];rfl
    have e1:S.ae ((S.aa n).take (j+1))=S.ae ((S.aa n).take j)*x.card:=by rw[ets];exact rk _ _
    have w1:IntKind.wrap .i64 (S.ae ((S.aa n).take j)*x.card)=S.ae ((S.aa n).take (j+1)):=by rw[<-e1,aF (by omega) (by omega)]
    have hlj:((S.aa n).take j).length=j:=by rw[List.length_take,ay];omega
    have hXr:(((S.aa n).take j++List.replicate (n.nodes.length - j) 0).map ci)[j]?=some (ci 0):=by
     rw[List.getElem?_map,List.getElem?_append_right (by omega),hlj,Nat.sub_self,List.getElem?_replicate,if_pos (by omega)];rfl
    have hXl:j<(((S.aa n).take j++List.replicate (n.nodes.length - j) 0).map ci).length:=by simp[ay];omega
    have hXs:((S.aa n).take j++List.replicate (n.nodes.length - j) 0).set j x.card=(S.aa n).take (j+1)++List.replicate (n.nodes.length - (j+1)) 0:=by
     rw[List.set_append_right _ _ (by omega),hlj,Nat.sub_self,ets,show n.nodes.length - j=(n.nodes.length - (j+1))+1 by omega,List.replicate_succ,List.set_cons_zero,List.append_assoc];rfl
    have hp2:=hp.fr f1
    obtain ⟨g2,hg2⟩:∃g2,g2=(g.new (.cells 3 [[.int .i64 0,.nils,.nils]] 0 false false)).put g.nx (.cells 3 [[.int .i64 x.card,pa,ra]] 0 false false):=⟨_,rfl⟩
    have f2:Fr g g2:=by rw[hg2];exact J3 (by simp) fun i hi=>by simp[H.get_put,show ¬i=g.nx by omega]
    have hp3:=hp.fr f2
    have f7:g2.h.get g.nx=.cells 3 [[.int .i64 x.card,pa,ra]] 0 false false:=by rw[hg2];simp[H.get_put]
    refine jg (P:=fun t' df g'=>df=[]/\g'=g2/\St t' ((48,b)::(5,.int .i64 (S.ae ((S.aa n).take j)))::LRd q)/\tat t' 6=.int .i64 (j:Int)/\tat t' 7=.hptr g.nx 0 0 0/\tat t' 50=.int .i64 (j:Int)/\tat t' 49=.int .i64 (n.nodes.length:Int)) ?_ ?_
    ·simp only[sz,simprocAttr,h48,h49,h50,r1,hlt,q1]
     rw[hg2]
     simp[St,LRd,sx,h1,h2,h4,h5,h48]
    clear h1 h2 h4 h5 h48 h49 h50
    rintro t df g3 ⟨rfl,rfl,⟨h48,h5,h1,h2,h4,-⟩,h6,h7,h50,h49⟩
    have hcr:=hp3.hc.rows
    simp only[sz,simprocAttr,h4,h6,h7,f7,hp3.hq,hcr,hXl,c1,c2]
    refine dB (v:=cv) (sz:=1) (n:=1) (i:=j) (off:=0) (x:=.int .i64 x.card) (row':=ci x.card) hp3.hc hXr rfl rfl rfl fun g4 hu4 n4 f4=>?_
    rw[Cm,hXs] at hu4
    have f74:g4.h.get g.nx=.cells 3 [[.int .i64 x.card,pa,ra]] 0 false false:=by rw[f4 _ fun e=>by have:=(hp.hc.lt e).2;omega,f7]
    simp only[sz,simprocAttr,h5,h7,h49,h50,f74,w1]
    refine ⟨by simp[St,LRd,sx,h1,h2,h4,h48],⟨?_,?_,?_,hu4,?_,q2,by rw[n4];exact hp3.qn,hp.d1,hp.d2,hp.d3⟩,hall⟩
    ·rw[f4 0 fun e=>by have:=(hp.hc.lt e).1;omega,hp3.h0]
    ·rw[f4 1 fun e=>by have:=(hp.hc.lt e).1;omega,hp3.h1]
    ·rw[f4 q hp.d1,hp3.hq]
    ·exact hp3.hs.fr (by omega) fun i hi=>f4 i fun e=>hp.d3 i e hi
 ·rintro t df g ⟨rfl,h⟩
  exact fin t g h
end
end
end Hx
end
section
namespace Hx
open Go
noncomputable section
def iS (ps:List Int)(i:Nat):Int:=if i=0 then -1 else ps[i - 1]?.getD 0
theorem uR {ps:List Int}{i:Nat}{p:Int}(h:ps[i]?=some p):iS ps (i+1)=p:=by
 unfold iS;rw[if_neg (by omega),Nat.add_sub_cancel,h];rfl
structure PlI (ps:List Int) (k:Int) (v i:Nat):Prop where
 rng:∀(j:Nat) (p:Int),j<i->ps[j]?=some p->0<=p/\p<k/\p≠(v:Int)
 inc:∀(j:Nat) (p q:Int),j+1<i->ps[j]?=some p->ps[j+1]?=some q->p<q
theorem H_ {ps:List Int}{k:Int}{v i:Nat}{p:Int}(h:PlI ps k v i)(hp:ps[i]?=some p)(h1:iS ps i<p)(h2:p<k)(h3:p≠(v:Int)):PlI ps k v (i+1):=by
 refine ⟨fun j q hj hq=>?_,fun j a c hj ha hc=>?_⟩
 ·by_cases e:j=i
  ·subst e
   rw[hp] at hq
   injection hq with hq
   subst hq
   refine ⟨?_,h2,h3⟩
   by_cases e0:j=0
   ·subst e0;unfold iS at h1;simp at h1;omega
   ·have hj1:j - 1<ps.length:=by have:=(List.getElem?_eq_some_iff.1 hp).1;omega
    have:=h.rng (j - 1) ps[j - 1] (by omega) (List.getElem?_eq_getElem hj1)
    unfold iS at h1
    rw[if_neg e0,List.getElem?_eq_getElem hj1,Option.getD_some] at h1
    omega
  ·exact h.rng j q (by omega) hq
 ·by_cases e:j+1=i
  ·subst e
   rw[hp] at hc
   injection hc with hc
   subst hc
   rw[uR ha] at h1
   exact h1
  ·exact h.inc j a c (by omega) ha hc
theorem Dd {ps:List Int}{k:Int}{v:Nat}(h:PlI ps k v ps.length):S.aq ps k=true:=by
 unfold S.aq
 rw[List.all_eq_true]
 intro i hi
 have hi:=List.mem_range.1 hi
 have hp:ps[i]?=some ps[i]:=List.getElem?_eq_getElem hi
 obtain ⟨r1,r2,-⟩:=h.rng i _ hi hp
 by_cases e:i=0
 ·subst e
  simp only[S.aI,hp,Option.getD_some]
  simp;omega
 ·have hq:ps[i - 1]?=some ps[i - 1]:=List.getElem?_eq_getElem (by omega)
  have:=h.inc (i - 1) _ ps[i] (by omega) hq (by rw[show i - 1+1=i by omega];exact hp)
  simp only[S.aI,hp,hq,Option.getD_some]
  simp;omega
theorem NR.pl {n:Net}(h:NR n){v:Nat}{x:Node}(hx:n.nodes[v]?=some x){i:Nat}{p:Int}(hp:x.parents[i]?=some p):iS x.parents i<p/\p<n.nodes.length/\p≠(v:Int):=by
 have hm:=List.mem_of_getElem? hx
 have hpl:=h.places x hm
 have h1:=bZ hpl p (List.mem_of_getElem? hp)
 have hl2:=h.l2
 refine ⟨?_,h1.2,fun e=>?_⟩
 ·unfold iS
  split
  ·omega
  ·rename_i e
   have hil:=(List.getElem?_eq_some_iff.1 hp).1
   have hq:x.parents[i - 1]?=some x.parents[i - 1]:=List.getElem?_eq_getElem (by omega)
   rw[hq,Option.getD_some]
   exact xl hpl hq (by rw[show i - 1+1=i by omega];exact hp)
 ·have hv:=(List.getElem?_eq_some_iff.1 hx).1
  have ha:=vS.1 h.acyc v (by simp[S.an];exact hv)
  have hpar:Par (S.an n) v=S.ap x.parents:=by simp[Par,S.an,hx]
  have hb:(Par (S.an n) v).testBit v=true:=by
   rw[hpar,Eo fun y hy=>by have:=bZ hpl y hy;omega,<-e]
   exact List.mem_of_getElem? hp
  have:=zx (p:=S.an n) (s:=Par (S.an n) v) (S.an n).length v hb
  rw[this] at ha;cases ha
section
variable {d:Nat}{n:Net}{b cv sv:AV}{q:Nat}{rows:List (List AV)}
def S.aH (n:Net)(j:Nat)(m:Nat):List Nat:=(S.an n).take j++m::List.replicate (n.nodes.length - (j+1)) 0
structure Rd1 (n:Net) (x:Node) (b cv sv pa:AV) (q j p9 i:Nat) (t:T) (g:G):Prop where
 st:St t ((80,b)::(81,.int .i64 (n.nodes.length:Int))::(82,.int .i64 (j:Int))::(88,pa)::(8,.int .i64 (j:Int))::(9,.hptr p9 0 0 0)::(10,.int .i64 (iS x.parents i))::LRd q)
 hp:RdH n b cv sv q (S.aa n) (S.aH n j (S.ap (x.parents.take i))) g
 ok:PlI x.parents n.nodes.length j i
theorem It {Q:QT}{t:T}{g:G}{x:Node}{pa:AV}{j p9:Nat}{c9:List AV}(hl:n.nodes.length<=8)(hN:SlR NoP 0 .nil n.nodes b)(hx:n.nodes[j]?=some x)(hpa:SlR NoP 0 .nil x.parents pa)
  (h0:Rd1 n x b cv sv pa q j p9 0 t g) (h90:tat t 90=.int .i64 0) (h89:tat t 89=.int .i64 (x.parents.length:Int)) (e9:g.h.get p9=.cells 3 [c9] 0 false false) (p9s:vid sv≠some p9)
  (bad:∀t g,¬NR n->g.h.get 1=.cells 5 [[.int .i64 0,.nils,.nils,.nils,.nils]] 0 false false->tat t 2=.hptr 1 0 0 0->tat t 3=.int .i64 50->Q .ret t [] g)
  (fin:∀t g',Rd1 n x b cv sv pa q j p9 x.parents.length t g'->g'.h.get p9=.cells 3 [c9] 0 false false->g.nx<=g'.nx->Q (.exit 4) t [] g'):wpL (wp C0 d none mU) Q t [] g:=by
 have hjl:=(List.getElem?_eq_some_iff.1 hx).1
 have nl:=fun g=>hN.len g
 have rp:=fun h=>(hpa.tree (h':=h) (Nat.le_refl 0)).ints
 have hpsl:(S.an n).length=n.nodes.length:=by simp[S.an]
 have hypl:((S.an n).take j).length=j:=by rw[List.length_take,hpsl];omega
 simp only[mU]
 refine aX (m:=x.parents.length) hpa.1 (fun i t df g'=>df=[]/\Rd1 n x b cv sv pa q j p9 i t g'/\g'.h.get p9=.cells 3 [c9] 0 false false/\g.nx<=g'.nx) ⟨rfl,h0,e9,Nat.le_refl _⟩ h90 h89 (by decide)
  (by rintro i t df g v s (rfl | rfl | rfl) ⟨a1,⟨⟨b1,b2,b3,b4,b5,b6,b7,b8,b9,b10,-⟩,c1,c2⟩,c3⟩<;>exact ⟨a1,⟨by simp[St,LRd,sx,b1,b2,b3,b4,b5,b6,b7,b8,b9,b10],c1,c2⟩,c3⟩) ?_ ?_
 ·rintro i t df g hi ⟨rfl,⟨⟨h80,h81,h82,h88,h8,h9,h10,h1,h2,h4,-⟩,hp,hok⟩,e9,en⟩ h90 h89
  obtain ⟨p,hpi,htk,-⟩:=ae hi
  have u1:i<(x.parents.map ci).length:=by simpa using hi
  have u2:(x.parents.map ci)[i]?=some (ci p):=by rw[List.getElem?_map,hpi];rfl
  have badn:¬(iS x.parents i<p/\p<n.nodes.length/\p≠(j:Int))->¬NR n:=fun h hr=>h (hr.pl hx hpi)
  have q2:=hp.q2
  by_cases c1:p<=iS x.parents i
  ·simp only[sz,simprocAttr,h2,h10,h88,h90,rp,u1,u2,ci,hp.h1,c1]
   exact bad _ _ (badn (by omega)) (by simp[H.get_put]) (by simp[sx,h2]) (by simp[sx])
  by_cases c2:(n.nodes.length:Int)<=p
  ·simp only[sz,simprocAttr,h2,h4,h10,h88,h90,rp,u1,u2,ci,hp.hq,nl,hp.h1,c1,c2]
   exact bad _ _ (badn (by omega)) (by simp[H.get_put]) (by simp[sx,h2]) (by simp[sx])
  by_cases c3:p=(j:Int)
  ·subst c3
   simp only[sz,simprocAttr,h2,h4,h8,h10,h88,h90,rp,u1,u2,ci,hp.hq,nl,hp.h1,c1,c2,eq_self]
   exact bad _ _ (badn (by omega)) (by simp[H.get_put]) (by simp[sx,h2]) (by simp[sx])
  have hok2:=H_ hok hpi (by omega) (by omega) c3
  obtain ⟨p0,-,-⟩:=hok2.rng i p (by omega) hpi
  obtain ⟨p,rfl⟩:=Int.eq_ofNat_of_zero_le p0
  have hYr:((S.aH n j (S.ap (x.parents.take i))).map cu)[j]?=some (cu (S.ap (x.parents.take i))):=by
   rw[List.getElem?_map,S.aH,List.getElem?_append_right (by omega),hypl,Nat.sub_self];rfl
  have hYl:j<((S.aH n j (S.ap (x.parents.take i))).map cu).length:=by simp[S.aH,hpsl];omega
  have hYs:(S.aH n j (S.ap (x.parents.take i))).set j (S.ap (x.parents.take (i+1)))=S.aH n j (S.ap (x.parents.take (i+1))):=by
   simp only[S.aH]
   rw[List.set_append_right _ _ (by omega),hypl,Nat.sub_self,List.set_cons_zero]
  have em:S.ap (x.parents.take (i+1))=S.ap (x.parents.take i) ||| S.aM p:=by rw[htk,zg];rfl
  have hshl:cN .shl (.int .u64 1) (.int .i64 (p:Int))=.val (.int .u64 (S.aM p:Int)):=qp .i64 p
  have hor:=Au (S.ap (x.parents.take i)) (S.aM p) (q_ _) (ud p)
  rw[<-em] at hor
  have hsr:=hp.hs.rows
  have hls:=uR hpi
  refine jW (P:=fun t' df g'=>df=[]/\g'=g/\St t' ((80,b)::(81,.int .i64 (n.nodes.length:Int))::(82,.int .i64 (j:Int))::(88,pa)::(8,.int .i64 (j:Int))::(9,.hptr p9 0 0 0)::(10,.int .i64 (iS x.parents i))::LRd q)/\tat t' 12=.int .i64 (p:Int)/\tat t' 90=.int .i64 (i:Int)/\tat t' 89=.int .i64 (x.parents.length:Int)) ?_ ?_
  ·simp only[sz,simprocAttr,h88,h90,rp,u1,u2,ci]
   simp[St,LRd,sx,h1,h2,h4,h8,h9,h10,h80,h81,h82,h88,h89]
  clear h1 h2 h4 h8 h9 h10 h80 h81 h82 h88 h89 h90
  rintro t df g' ⟨rfl,rfl,⟨h80,h81,h82,h88,h8,h9,h10,h1,h2,h4,-⟩,h12,h90,h89⟩
  refine jW (P:=fun t' df g''=>df=[]/\g''=g'/\St t' ((80,b)::(81,.int .i64 (n.nodes.length:Int))::(82,.int .i64 (j:Int))::(88,pa)::(8,.int .i64 (j:Int))::(9,.hptr p9 0 0 0)::(10,.int .i64 (iS x.parents i))::LRd q)/\tat t' 12=.int .i64 (p:Int)/\tat t' 90=.int .i64 (i:Int)/\tat t' 89=.int .i64 (x.parents.length:Int)) ?_ ?_
  ·simp only[sz,simprocAttr,h4,h8,h10,h12,h89,h90,hp.hq,nl,c1,c2,c3]
   simp[St,LRd,sx,h1,h2,h4,h8,h9,h10,h80,h81,h82,h88]
  clear h1 h2 h4 h8 h9 h10 h12 h80 h81 h82 h88 h89 h90
  rintro t df g'' ⟨rfl,rfl,⟨h80,h81,h82,h88,h8,h9,h10,h1,h2,h4,-⟩,h12,h90,h89⟩
  simp only[sz,simprocAttr,sf,h4,h8,h12,hp.hq,hsr,hYl,hYr,cu,hshl,hor]
  refine dB (v:=sv) (sz:=1) (n:=1) (i:=j) (off:=0) (x:=.int .u64 (S.ap (x.parents.take (i+1)):Int)) (row':=cu (S.ap (x.parents.take (i+1)))) (hp.hs.fr (by simp;omega) fun i _=>by simp) hYr rfl rfl rfl fun g4 hu4 n4 f4=>?_
  rw[show (((S.aH n j (S.ap (x.parents.take i))).map cu).set j (cu (S.ap (x.parents.take (i+1)))))=(S.aH n j (S.ap (x.parents.take (i+1)))).map cu from by rw[<-List.map_set,hYs]] at hu4
  have f4':∀i,vid sv≠some i->g4.h.get i=g''.h.get i:=fun i hi=>by rw[f4 i hi];simp
  have n4':g''.nx<=g4.nx:=by rw[n4];simp;omega
  simp only[sx,sy,↓reduceIte,Nat.reduceEqDiff]
  refine ⟨?_,⟨⟨?_,⟨?_,?_,?_,?_,?_,q2,?_,hp.d1,hp.d2,hp.d3⟩,hok2⟩,?_,?_⟩,h90,h89⟩
  ·simp only[List.reverse_cons,List.reverse_nil,List.nil_append,List.cons_append]
   exact aJ [false,false,false,false,false,false,false,false,false,true] [] (by simp[All2,am,aB]) (by decide) (by simp)
  ·rw[hls]
   simp[St,LRd,sx,h1,h2,h4,h8,h9,h80,h81,h82,h88]
  ·simp only[bumpG_h]
   rw[f4' 0 fun e=>by have:=(hp.hs.lt e).1;omega,hp.h0]
  ·simp only[bumpG_h]
   rw[f4' 1 fun e=>by have:=(hp.hs.lt e).1;omega,hp.h1]
  ·simp only[bumpG_h]
   rw[f4' q hp.d2,hp.hq]
  ·exact hp.hc.fr (by simp;omega) fun i hi=>by simp only[bumpG_h];exact f4' i (hp.d3 i hi)
  ·exact hu4.fr (by simp) fun i _=>by simp
  ·have:=hp.qn
   simp;omega
  ·rw[f4' p9 p9s,e9]
  ·omega
 ·rintro t df g' ⟨rfl,h,e9,en⟩
  exact fin t g' h e9 en
end
end
end Hx
end
section
namespace Hx
open Go
noncomputable section
section
variable {d:Nat}{n:Net}{b cv sv:AV}{q:Nat}{rows:List (List AV)}
structure Rd4 (n:Net) (b cv sv:AV) (q j:Nat) (t:T) (g:G):Prop where
 st:St t ((80,b)::LRd q)
 hp:RdH n b cv sv q (S.aa n) ((S.an n).take j++List.replicate (n.nodes.length - j) 0) g
 ok:∀x∈n.nodes.take j,S.aq x.parents n.nodes.length=true/\S.aV n.grain (S.aa n) x=true
theorem Jc (n:Net)(j m:Nat)(hm:m<18446744073709551616):∀y∈S.aH n j m,y<18446744073709551616:=fun y hy=>by
 simp only[S.aH,List.mem_append,List.mem_cons] at hy
 rcases hy with hy | rfl | hy
 ·obtain ⟨x,-,rfl⟩:=List.mem_map.1 (List.mem_of_mem_take hy)
  exact q_ _
 ·exact hm
 ·rw[(List.mem_replicate.1 hy).2];decide
theorem Own.natsV {g:G}{b:Nat}{v:AV}{l:List Nat}(h:Own g b v 1 (l.map cu))(hl:l.length<9223372036854775808)(hb:∀y∈l,y<18446744073709551616):SlR (fun i=>vid v=some i) 0 g.h l v :=
 Own.sl (α:=Nat) h hl (by
  have:∀l:List Nat,(∀y∈l,y<18446744073709551616)->All2 (Rp.rp (α:=Nat) (fun i=>vid v=some i) 0 g.h) l (l.map cu):=fun l=>by
   induction l with
   | nil=>intro _;trivial
   | cons y l ih=>intro h;exact ⟨zC.2 ⟨rfl,h y (by simp)⟩,ih fun z hz=>h z (by simp[hz])⟩
  exact this l hb) fun _ h=>h
theorem Own.nats' {g:G}{b:Nat}{v:AV}{l:List Nat}(h:Own g b v 1 (l.map cu))(hl:l.length<9223372036854775808)(hb:∀y∈l,y<18446744073709551616):SlR (fun _=>True) 0 g.h l v :=
 (h.natsV hl hb).wd fun _ _=>⟨trivial,rfl⟩
theorem Own.intsV {g:G}{b:Nat}{v:AV}{l:List Int}(h:Own g b v 1 (l.map ci))(hl:l.length<9223372036854775808):SlR (fun i=>vid v=some i) 0 g.h l v :=
 Own.sl (α:=Int) h hl (All2.of_map (fun a=>aU.2 rfl) _) fun _ h=>h
theorem IR {n:Net}(h:NR n){x:Node}(hx:x∈n.nodes):S.aV n.grain (S.aa n) x=true:=by
 simp only[S.aV,S.ay,Bool.and_eq_true,decide_eq_true_eq,List.all_eq_true]
 exact ⟨h.rows x hx,fun r hr=>⟨⟨(h.row x hx r hr).1,(h.row x hx r hr).2.1⟩,(h.row x hx r hr).2.2⟩⟩
theorem IW {Q:QT}{t:T}{g:G}(hd:0<d)(hl:n.nodes.length<=8)(hg1:1<=n.grain/\n.grain<=60)(hcard:∀c∈S.aa n,1<=c/\c<=4)(hN:SlR NoP 0 .nil n.nodes b)(r1:∀h,af h 3 b=some rows)(r2:rows.length=n.nodes.length)
  (r3:∀(i:Nat) (x:Node),n.nodes[i]?=some x->∃pa ra,rows[i]?=some [.int .i64 x.card,pa,ra]/\i<rows.length/\SlR NoP 0 .nil x.parents pa/\SlR NoP 0 .nil x.rows ra) (r4:0<n.nodes.length->km b=true)
  (h0:Rd4 n b cv sv q 0 t g) (h82:tat t 82=.int .i64 0) (h81:tat t 81=.int .i64 (n.nodes.length:Int))
  (bad:∀t g,¬NR n->g.h.get 1=.cells 5 [[.int .i64 0,.nils,.nils,.nils,.nils]] 0 false false->tat t 2=.hptr 1 0 0 0->tat t 3=.int .i64 50->Q .ret t [] g)
  (fin:∀t g,Rd4 n b cv sv q n.nodes.length t g->Q (.exit 2) t [] g):wpL (wp C0 d none mP) Q t [] g:=by
 simp only[mP,rJ]
 refine aX (m:=n.nodes.length) (by omega) (fun j t df g=>df=[]/\Rd4 n b cv sv q j t g) ⟨rfl,h0⟩ h82 h81 (by decide)
  (by rintro j t df g v s (rfl | rfl | rfl) ⟨a1,⟨b1,b2,b3,b4,-⟩,c1,c2⟩<;>exact ⟨a1,by simp[St,LRd,sx,b1,b2,b3,b4],c1,c2⟩) ?_ ?_
 ·rintro j t df g hj ⟨rfl,⟨⟨h80,h1,h2,h4,-⟩,hp,hok⟩⟩ h82 h81
  obtain ⟨x,hx,htk,hxm⟩:=ae hj
  obtain ⟨pa,ra,q1,hlt,hpa,hra⟩:=r3 j x hx
  have hry:=r4 (by omega)
  have q2:=hp.q2
  have qn:=hp.qn
  have hpsl:(S.an n).length=n.nodes.length:=by simp[S.an]
  have hpj:(S.an n)[j]?=some (S.ap x.parents):=by simp[S.an,hx]
  obtain ⟨g2,hg2⟩:∃g2,g2=(g.new (.cells 3 [[.int .i64 0,.nils,.nils]] 0 false false)).put g.nx (.cells 3 [[.int .i64 x.card,pa,ra]] 0 false false):=⟨_,rfl⟩
  have f2:Fr g g2:=by rw[hg2];exact J3 (by simp) fun i hi=>by simp[H.get_put,show ¬i=g.nx by omega]
  have n2:g.nx<g2.nx:=by rw[hg2];simp
  have hp3:=hp.fr f2
  have f9:g2.h.get g.nx=.cells 3 [[.int .i64 x.card,pa,ra]] 0 false false:=by rw[hg2];simp[H.get_put]
  have eY:(S.an n).take j++List.replicate (n.nodes.length - j) 0=S.aH n j (S.ap (x.parents.take 0)):=by
   rw[S.aH,show n.nodes.length - j=(n.nodes.length - (j+1))+1 by omega,List.replicate_succ];rfl
  have eY2:S.aH n j (S.ap x.parents)=(S.an n).take (j+1)++List.replicate (n.nodes.length - (j+1)) 0:=by
   rw[S.aH,List.take_add_one,hpj,List.append_assoc];rfl
  rw[eY] at hp3
  refine jg (P:=fun t' df g'=>df=[]/\g'=g2/\St t' ((80,b)::(81,.int .i64 (n.nodes.length:Int))::(82,.int .i64 (j:Int))::(8,.int .i64 (j:Int))::(9,.hptr g.nx 0 0 0)::LRd q)) ?_ ?_
  ·simp only[sz,simprocAttr,h80,h82,r1,hlt,q1]
   rw[hg2]
   simp[St,LRd,sx,h1,h2,h4,h80,h81,h82]
  clear h1 h2 h4 h80 h81 h82
  rintro t df g3 ⟨rfl,rfl,⟨h80,h81,h82,h8,h9,h1,h2,h4,-⟩⟩
  have pl:=fun g=>hpa.len g
  simp only[sz,simprocAttr,h9,f9,pl]
  refine It (j:=j) (p9:=g.nx) (x:=x) (pa:=pa) (b:=b) (cv:=cv) (sv:=sv) (q:=q) hl hN hx hpa ⟨by simp[St,LRd,sx,iS,h1,h2,h4,h8,h9,h80,h81,h82],hp3,⟨fun i p hi=>by omega,fun i p r hi=>by omega⟩⟩ (by simp[sx]) (by simp[sx]) f9 (fun e=>by have:=(hp.hs.lt e).2;omega) ?_ ?_
  ·intro t g hn a1 a2 a3
   simp only[sx,sy]
   exact bad t g hn a1 a2 a3
  ·rintro t g4 ⟨⟨h80,h81,h82,h88,h8,h9,h10,h1,h2,h4,-⟩,hp4,hpl⟩ f94 n4
   rw[List.take_length] at hp4
   have hplc:=Dd hpl
   have hpin:∀p∈x.parents,0<=p/\p<((S.aa n).length:Int):=fun p hp=>by rw[ay];exact bZ hplc p hp
   have hpll:=cX hplc (by omega)
   have hyl:(S.aH n j (S.ap x.parents)).length<=8:=by simp[S.aH,hpsl];omega
   have hm:Agg ((n,S.aa n,S.aH n j (S.ap x.parents),[]):NwM) (fun _=>True) 0 g4.h (.agg [.int .i64 n.grain,b,cv,sv,.nils]) :=
    ⟨_,rfl,zh.2 ⟨b,cv,sv,.nils,rfl,hN.wide (Nat.le_refl 0),Own.sl (α:=Int) hp4.hc (by rw[ay];omega) (All2.of_map (fun a=>aU.2 rfl) _) fun _ _=>trivial,hp4.hs.nats' (by omega) (Jc n j _ (q_ _)),⟨by show 0<9223372036854775808;decide,rfl⟩⟩⟩
   have hxa:Agg x NoP 0 g4.h (.agg [.int .i64 x.card,pa,ra]):=⟨_,rfl,bM.2 ⟨pa,ra,rfl,hpa.tree (Nat.le_refl 0),hra.tree (Nat.le_refl 0)⟩⟩
   have hfl:=Fk (d:=d) (g:=g4) hd hm hxa ⟨rfl,rfl⟩ hg1 hcard hpin (by omega)
   have hfl:au C0 d N.aJ [.agg [.int .i64 n.grain,b,cv,sv,.nils],.agg [.int .i64 x.card,pa,ra]] g4=.val (.bool (S.aV n.grain (S.aa n) x)):=hfl
   cases hf:S.aV n.grain (S.aa n) x with
   | false =>
    rw[hf] at hfl
    simp only[sz,simprocAttr,mF,h2,h4,h9,hp4.hq,hp4.h1,f94,hfl]
    refine bad _ _ (fun hr=>?_) (by simp[H.get_put]) (by simp[sx,h2]) (by simp[sx])
    have:=IR hr hxm
    rw[hf] at this;cases this
   | true =>
    rw[hf] at hfl
    simp only[sz,simprocAttr,mF,h4,h9,hp4.hq,f94,hfl]
    rw[eY2] at hp4
    refine ⟨⟨by simp[St,LRd,sx,h1,h2,h4,h80],hp4,fun y hy=>?_⟩,by simp[h82],by simp[h81]⟩
    rw[htk] at hy
    rcases List.mem_append.1 hy with h | h
    ·exact hok y h
    ·rw[List.mem_singleton.1 h];exact ⟨hplc,hf⟩
 ·rintro t df g ⟨rfl,h⟩
  exact fin t g h
end
theorem Ij (n:Net):Snb (BC n) 2:=mb fun o=>qL (m:=2) (dI _) (bi _) (by decide) (by decide)
theorem IE {d:Nat}{g:G}{v:AV}{n:Net}(hd:0<d)(hm:Agg n NoP 0 g.h v):∃r,au C0 d N.aL [v] g=.val r/\BC n NoP 0 .nil r:=by
 obtain ⟨b,rows,rfl,e,hm',hN,r1,r2,r3,r4⟩:=d8 d hm
 rw[yv]
 refine bp Bw (xs:=[.agg [.int .i64 n.grain,b]]) (by simp only[aD,e]) (by simp[li]) (Ij n) (by decide) hd ?_
 have nl:=fun g=>hN.len g
 simp only[sz,simprocAttr,li]
 obtain ⟨g0,hg0⟩:∃g0,g0=(G.empty.new (.cells 2 [[.int .i64 n.grain,b]] 0 false false)).new (.cells 5 [[.int .i64 0,.nils,.nils,.nils,.nils]] 0 false false):=⟨_,rfl⟩
 rw[<-hg0]
 have f0:g0.h.get 0=.cells 2 [[.int .i64 n.grain,b]] 0 false false:=by rw[hg0];simp[sx,H.get_put]
 have f1:g0.h.get 1=.cells 5 [[.int .i64 0,.nils,.nils,.nils,.nils]] 0 false false:=by rw[hg0];simp[sx]
 have f2:g0.nx=2:=by rw[hg0];simp[sx]
 clear hg0
 obtain ⟨Qf,hQf⟩:∃Qf,Qf=fnQ C0 (d+1) [SR.cell true 5 2,SR.tm 3] (fun v g'=>∃P,BC n P 0 g'.h v):=⟨_,rfl⟩
 have bad:∀(t:T) (g:G),¬NR n->g.h.get 1=.cells 5 [[.int .i64 0,.nils,.nils,.nils,.nils]] 0 false false->tat t 2=.hptr 1 0 0 0->tat t 3=.int .i64 50->Qf .ret t [] g:=fun t g hn a1 a2 a3=>by
  rw[hQf];exact Kv hn a1 a2 a3
 rw[<-hQf]
 simp only[tf]
 by_cases c1:n.grain<1
 ·rw[ei]
  simp only[sz,simprocAttr,f0,f1,c1]
  exact bad _ _ (fun h=>by have:=h.g1;omega) (by simp[H.get_put]) (by simp[sx]) (by simp[sx])
 by_cases c2:60<n.grain
 ·rw[ei]
  simp only[sz,simprocAttr,f0,f1,c1,c2]
  exact bad _ _ (fun h=>by have:=h.g2;omega) (by simp[H.get_put]) (by simp[sx]) (by simp[sx])
 by_cases c3:(n.nodes.length:Int)<1
 ·rw[ei]
  simp only[sz,simprocAttr,f0,f1,c1,c2,c3,nl]
  exact bad _ _ (fun h=>by have:=h.l1;omega) (by simp[H.get_put]) (by simp[sx]) (by simp[sx])
 by_cases c4:8<(n.nodes.length:Int)
 ·rw[ei]
  simp only[sz,simprocAttr,f0,f1,c1,c2,c3,c4,nl]
  exact bad _ _ (fun h=>by have:=h.l2;omega) (by simp[H.get_put]) (by simp[sx]) (by simp[sx])
 refine jW (P:=fun t' df g'=>df=[]/\g'=g0/\St t' [(1,.hptr 0 0 0 0),(2,.hptr 1 0 0 0)]) ?_ ?_
 ·simp only[sz,simprocAttr,f0,c1,c2,c3,c4,nl]
  simp[St,sx]
 rintro t df g1 ⟨rfl,rfl,h1,h2,-⟩
 have hl8:n.nodes.length<=8:=by omega
 refine jW (P:=fun t' df g'=>df=[]/\∃cv sv q,St t' (LRd q)/\RdH n b cv sv q (List.replicate n.nodes.length 0) (List.replicate n.nodes.length 0) g') ?_ ?_
 ·simp only[sz,simprocAttr,sf,h1,f0,nl]
  refine nA (b:=2) (n:=n.nodes.length) (by unfold aO;omega) (by unfold aO;omega) (by first | (simp;done) | (simp;omega)) fun cv g2 hcv n2 fr2 v2 lg2=>?_
  simp only[sy] at n2 fr2 v2 lg2
  have k0:g2.h.get 0=.cells 2 [[.int .i64 n.grain,b]] 0 false false:=by rw[fr2 0 (by omega),f0]
  simp only[sz,simprocAttr,sf,h1,k0,nl,lg2]
  refine nA (b:=2) (n:=n.nodes.length) (by unfold aO;omega) (by unfold aO;omega) (by first | (simp;done) | (simp;omega)) fun sv g3 hsv n3 fr3 v3 lg3=>?_
  simp only[sy] at n3 fr3 v3 lg3
  simp only[sz,simprocAttr,sf,lg3,hcv.cell.1,hcv.cell.2,hsv.cell.1,hsv.cell.2]
  refine ⟨?_,cv,sv,g3.nx+1+1,?_,?_⟩
  ·simp only[List.reverse_cons,List.reverse_nil,List.nil_append,List.cons_append,G.new_lg,G.put_lg,setLog_lg]
   refine aJ [false,false,false,false,true,false,false,false,true,false,true,true] [(0,4),(4,5),(4,6),(4,7),(0,8),(1,8),(2,8),(3,8),(4,8),(0,10),(1,10),(2,10),(3,10),(4,10),(5,10),(6,10),(7,10),(8,10),(9,10)] (by simp[All2,am,aB]) (by decide) ?_
   rintro p hp x y hx hy
   simp only[List.mem_cons,List.not_mem_nil,or_false] at hp
   rcases hp with rfl | rfl | rfl | rfl | rfl | rfl | rfl | rfl | rfl | rfl | rfl | rfl | rfl | rfl | rfl | rfl | rfl | rfl | rfl<;>(simp at hx hy;subst hx;subst hy;refine dX rfl rfl rfl rfl ?_ ?_ ?_<;>simp[am,aB,ak]<;>omega)
  ·simp[St,LRd,sx,h1,h2]
  ·have fa:∀i,i<g2.nx->g3.h.get i=g2.h.get i:=fun i hi=>by have:=fr3 i (by omega);simpa using this
   have fb:∀i,i<g1.nx->g2.h.get i=g1.h.get i:=fun i hi=>by have:=fr2 i (by omega);simpa using this
   have hcv':Own g2 2 cv 1 ((List.replicate n.nodes.length (0:Int)).map ci):=by simpa [ci] using hcv
   have hsv':Own g3 2 sv 1 ((List.replicate n.nodes.length (0:Nat)).map cu):=by simpa [cu] using hsv
   have hne:∀i,i<g3.nx->¬i=g3.nx+1+1:=fun i hi=>by omega
   refine ⟨?_,?_,?_,hcv'.fr (by simp;omega) fun i hi=>?_,hsv'.fr (by simp;omega) fun i hi=>?_,by omega,by first | (simp;done) | (simp;omega),fun e=>?_,fun e=>?_,fun i hi hi2=>?_⟩
   ·simp[H.get_put]
    rw[fa 0 (by omega),k0]
   ·simp[H.get_put]
    rw[fa 1 (by omega),fb 1 (by omega),f1]
   ·simp[H.get_put]
   ·have:=lW v2 hi
    simp[H.get_put,hne i (by omega)]
    rw[fa i (by omega)]
   ·have:=lW v3 hi
    simp[H.get_put,hne i (by omega)]
   ·have:=lW v2 e;omega
   ·have:=lW v3 e;omega
   ·have:=lW v2 hi
    have:=lW v3 hi2
    omega
 rintro t df g ⟨rfl,cv,sv,q,⟨h1,h2,h4,-⟩,hp⟩
 clear f0 f1 f2
 have nlen:=nl g
 simp only[sz,simprocAttr,h4,hp.hq,nl]
 refine JD (b:=b) (cv:=cv) (sv:=sv) (q:=q) hl8 hN r1 r2 r3 r4 ⟨by simp[St,LRd,sx,S.ae,h1,h2,h4],by simpa using hp,by simp⟩ (by simp[sx]) (by simp[sx]) ?_ ?_
 ·intro t g hn a1 a2 a3
  simp only[sx]
  exact bad t g hn a1 a2 a3
 clear h1 h2 h4 hp nlen
 rintro t g ⟨⟨h48,h5,h1,h2,h4,-⟩,hp,hok⟩
 rw[List.take_of_length_le (by rw[ay];exact Nat.le_refl _)] at h5 hp
 rw[Nat.sub_self,List.replicate_zero,List.append_nil] at hp
 rw[List.take_length] at hok
 have hcb:∀c∈S.aa n,1<=c/\c<=4:=fun c hc=>by
  obtain ⟨y,hy,rfl⟩:=List.mem_map.1 hc
  exact hok y hy
 simp only[sz,simprocAttr,rD]
 by_cases d1:1024<S.ae (S.aa n)
 ·simp only[sz,simprocAttr,h2,h5,hp.h1,d1]
  exact bad _ _ (fun h=>by have:=h.worlds;omega) (by simp[H.get_put]) (by simp[sx,h2]) (by simp[sx])
 simp only[sz,simprocAttr,h4,h5,hp.hq,nl,d1]
 refine IW (b:=b) (cv:=cv) (sv:=sv) (q:=q) (Nat.succ_pos d) hl8 (by omega) hcb hN r1 r2 r3 r4 ⟨by simp[St,LRd,sx,h1,h2,h4],by simpa using hp,by simp⟩ (by simp[sx]) (by simp[sx]) ?_ ?_
 ·intro t g hn a1 a2 a3
  simp only[sx]
  exact bad t g hn a1 a2 a3
 clear h1 h2 h4 h48 h5 hp
 rintro t g ⟨⟨h80,h1,h2,h4,-⟩,hp,hok2⟩
 rw[List.take_of_length_le (by simp[S.an])] at hp
 rw[Nat.sub_self,List.replicate_zero,List.append_nil] at hp
 rw[List.take_length] at hok2
 have hpsl:(S.an n).length=n.nodes.length:=by simp[S.an]
 have hplt:∀y∈S.an n,y<18446744073709551616:=fun y hy=>by
  obtain ⟨x,-,rfl⟩:=List.mem_map.1 hy
  exact q_ _
 have hplt2:∀y∈S.an n,y<2 ^ (S.an n).length:=fun y hy=>by
  obtain ⟨x,hx,rfl⟩:=List.mem_map.1 hy
  rw[hpsl]
  exact Il (by omega) fun z hz=>bZ (hok2 x hx).1 z hz
 obtain ⟨z,ez,o,-,oz,az,rfl,hoz,haz⟩:=EY (d:=d+1) (g:=g) (Nat.succ_pos d) (hp.hs.nats' (by omega) hplt) (by omega) hplt2
 have haz:=Am.1 haz
 injection haz with haz
 subst haz
 obtain ⟨_,e1,hoz⟩:=hoz
 injection e1 with e1;subst e1
 cases hac:S.aP (S.an n) with
 | false =>
  rw[hac] at ez
  simp only[sz,simprocAttr,mq,h2,h4,hp.hq,hp.h1,ez]
  exact bad _ _ (fun h=>by have:=h.acyc;rw[hac] at this;cases this) (by simp[H.get_put]) (by simp[sx,h2]) (by simp[sx])
 | true =>
  rw[hac] at ez
  have hnr:S.aB n=true:=iZ.2 ⟨by omega,by omega,by omega,by omega,hok,fun x hx=>(hok2 x hx).1,by omega,hac,fun x hx=>by
   have:=(hok2 x hx).2
   simp only[S.aV,Bool.and_eq_true,decide_eq_true_eq] at this
   exact this.1,fun x hx r hr=>by
   have:=(hok2 x hx).2
   simp only[S.aV,S.ay,Bool.and_eq_true,decide_eq_true_eq,List.all_eq_true] at this
   have:=this.2 r hr
   exact ⟨this.1.1,this.1.2,this.2⟩⟩
  have q2:=hp.q2
  have hq1:¬(1=q):=by omega
  have hq0:¬(q=1):=by omega
  have oc:=hoz.cell
  rw[hQf]
  simp only[sz,simprocAttr,mq,h2,h4,hp.hq,hp.h1,ez,hq1,oc.1,oc.2]
  have fh:∀i,¬i=1->¬i=q->((g.h.put q (.cells 5 [[.int .i64 n.grain,b,cv,sv,oz]] 0 false false)).put 1 (.cells 5 [[.int .i64 n.grain,b,cv,sv,oz]] 0 false false)).get i=g.h.get i:=fun i hi hi2=>by simp[H.get_put,hi,hi2]
  refine ⟨fun _=>True,o,trivial,_,_,rfl,⟨_,rfl,?_⟩,?_⟩
  ·rw[S.bF,if_pos hnr]
   refine zh.2 ⟨b,cv,sv,oz,rfl,hN.wide (Nat.le_refl 0),(hp.hc.intsV (by rw[ay];omega)).wd fun i hi=>⟨trivial,fh i (by have:=(hp.hc.lt hi).1;omega) fun e=>hp.d1 (by rw[hi,e])⟩,(hp.hs.natsV (by omega) hplt).wd fun i hi=>⟨trivial,fh i (by have:=(hp.hs.lt hi).1;omega) fun e=>hp.d2 (by rw[hi,e])⟩,hoz.wide (Nat.le_refl 0)⟩
  ·rw[if_pos hnr];exact aU.2 rfl
end
end Hx
end
section
namespace Hx
open Go
noncomputable section
theorem Cd {n:Net}{o:List Int}(h:S.aB n=true):S.bF n o=(n,S.aa n,S.an n,o):=by rw[S.bF,if_pos h]
theorem BE {n:Net}{P:Nat->Prop}{k:Nat}{h:H}{v:AV}(hv:BC n P k h v) :
  (S.aB n=false/\∃cs,v=.tup [.agg cs,.int .i64 50]/\cs.length=5) \/
  (S.aB n=true/\∃b cv sv oz o,v=.tup [.agg [.int .i64 n.grain,b,cv,sv,oz],.int .i64 0]/\SlR P k h n.nodes b/\SlR P k h (S.aa n) cv/\SlR P k h (S.an n) sv/\SlR P k h (o:List Int) oz):=by
 obtain ⟨o,-,a,c,rfl,⟨cs,rfl,hc⟩,hi⟩:=hv
 have hi:=aU.1 hi
 injection hi with hi
 subst hi
 cases hn:S.aB n with
 | false =>
  refine .inl ⟨rfl,cs,rfl,?_⟩
  obtain ⟨a,b,c,e,rfl,-⟩:=zh.1 hc
  rfl
 | true =>
  rw[Cd hn] at hc
  obtain ⟨a,b,c,e,rfl,h1,h2,h3,h4⟩:=zh.1 hc
  exact .inr ⟨rfl,a,b,c,e,o,rfl,h1,h2,h3,h4⟩
theorem Ge {d k2:Nat}{g:G}{P2:Nat->Prop}{v w:AV}{n:Net}{e:List Int}(hd:0<d)(hm:Agg n NoP 0 g.h v)(he:SlR P2 k2 g.h e w):au C0 d N.bg [v,w] g=.val (.int .i64 (S.aK n e)):=by
 obtain ⟨w',e2,hw'⟩:=aV he d
 obtain ⟨b,rows,rfl,e1,hm',hN,r1,r2,r3,r4⟩:=d8 d hm
 have n2:=fun g=>(hw' .nil).len g
 have rb:=fun h=>(hw' h).ints
 rw[ol]
 refine eZ qk (xs:=[.agg [.int .i64 n.grain,b],w']) (by simp only[aD,e1,e2]) (by simp[fI]) hd ?_
 have hle:=he.1
 simp only[sz,simprocAttr,fI,iE,gY]
 obtain ⟨z,ez,hz⟩:=IE (d:=d+1) (g:=G.empty.new (.cells 2 [[.int .i64 n.grain,b]] 0 false false)) (Nat.succ_pos d) (n:=n) (v:=.agg [.int .i64 n.grain,b]) (hm' _)
 rcases BE hz with ⟨hn,cs,rfl,hcs⟩ | ⟨hn,b',cv,sv,oz,o,rfl,hb,hcv,-,-⟩
 ·have hs:S.aK n e=50:=by rw[S.aK,hn];rfl
  obtain ⟨a1,a2,a3,a4,a5,rfl⟩:∃a1 a2 a3 a4 a5,cs=[a1,a2,a3,a4,a5]:=by
   match cs,hcs with
   | [a1,a2,a3,a4,a5],_=>exact ⟨a1,a2,a3,a4,a5,rfl⟩
  simp only[sz,simprocAttr,ez,hs,show ¬((50:Int)=0) from by decide]
 ·have nb:=fun g=>(hb.tree (h':=g) (Nat.le_refl 0)).len
  have hbl:=hb.1
  have rc:=fun h=>(hcv.tree (h':=h) (Nat.le_refl 0)).ints
  have hcl:=ay n
  by_cases hl:e.length=n.nodes.length
  ·have hl':(e.length:Int)=(n.nodes.length:Int):=by rw[hl]
   simp only[sz,simprocAttr,ez,n2,hb.len,hl]
   refine aX (m:=n.nodes.length) (by omega) (fun j t df g=>df=[]/\St t [(24,w'),(5,.hptr 1 0 0 0),(4,.int .i64 0)]/\g.h.get 1=.cells 5 [[.int .i64 n.grain,b',cv,sv,oz]] 0 false false/\((List.range j).all fun v=>decide (-1<=e[v]?.getD 0)&&decide (e[v]?.getD 0<(S.aa n)[v]?.getD 0))=true)
    ⟨rfl,by simp[St,sx],by simp[sx],by simp⟩ (by simp[sx]) (by simp[sx]) (by decide) (by rintro j t df g v s (rfl | rfl | rfl)<;>simp[St,sx]) ?_ ?_
   ·rintro j t df g hj ⟨rfl,⟨h24,h5,h4,-⟩,hg,ha⟩ h26 h25
    obtain ⟨y,hy,-,-⟩:=ae (l:=e) (j:=j) (by omega)
    obtain ⟨c,hc,-,-⟩:=ae (l:=S.aa n) (j:=j) (by omega)
    have u1:j<(e.map ci).length:=by simp;omega
    have u2:(e.map ci)[j]?=some (ci y):=by rw[List.getElem?_map,hy];rfl
    have u3:j<((S.aa n).map ci).length:=by simp;omega
    have u4:((S.aa n).map ci)[j]?=some (ci c):=by rw[List.getElem?_map,hc];rfl
    have hst:((List.range (j+1)).all fun v=>decide (-1<=e[v]?.getD 0)&&decide (e[v]?.getD 0<(S.aa n)[v]?.getD 0))=(decide (-1<=y)&&decide (y<c)):=by
     rw[List.range_succ,List.all_append,ha]
     simp[hy,hc]
    have bad:(decide (-1<=y)&&decide (y<c))=false->S.aK n e=2:=fun h=>by
     have h1:S.aD n e=false:=by
      rw[S.aD]
      have:((List.range e.length).all fun v=>decide (-1<=e[v]?.getD 0)&&decide (e[v]?.getD 0<(S.aa n)[v]?.getD 0))=false:=by
       rw[<-Bool.not_eq_true,List.all_eq_true]
       intro h2
       have:=h2 j (List.mem_range.2 (by omega))
       rw[hy,hc,Option.getD_some,Option.getD_some,h] at this
       cases this
      rw[this,Bool.and_false]
     rw[S.aK,hn,h1];rfl
    by_cases c1:y < -1
    ·have:=bad (by simp;omega)
     simp only[sz,simprocAttr,h24,h26,rb,u1,u2,ci,c1,this]
    ·by_cases c2:c<=y
     ·have:=bad (by simp;omega)
      simp only[sz,simprocAttr,h24,h5,h26,hg,rb,rc,u1,u2,u3,u4,ci,c1,c2,this]
     ·have h3:((List.range (j+1)).all fun v=>decide (-1<=e[v]?.getD 0)&&decide (e[v]?.getD 0<(S.aa n)[v]?.getD 0))=true:=by rw[hst];simp;omega
      simp only[sz,simprocAttr,h24,h5,h4,h26,h25,hg,rb,rc,u1,u2,u3,u4,ci,c1,c2,St,h3]
   ·rintro t df g ⟨rfl,⟨h24,h5,h4,-⟩,hg,ha⟩
    have h1:S.aD n e=true:=by rw[S.aD,hl,decide_eq_true rfl,ha];rfl
    have hs:S.aK n e=0:=by rw[S.aK,hn,h1];rfl
    simp only[sz,simprocAttr,iy,hs]
  ·have hl':¬((e.length:Int)=(n.nodes.length:Int)):=by omega
   have h1:S.aD n e=false:=by rw[S.aD,decide_eq_false hl];rfl
   have hs:S.aK n e=2:=by rw[S.aK,hn,h1];rfl
   simp only[sz,simprocAttr,ez,n2,hb.len,hl',hs]
structure FacH (bx nd:List AV) (w u:AV) (vars cards:List Int) (beh:Int) (q:Nat) (g:G):Prop where
 h0:g.h.get 0=.cells 5 [bx] 0 false false
 h1:g.h.get 1=.cells 3 [[.nils,.nils,.nils]] 0 false false
 h2:g.h.get 2=.cells 3 [nd] 0 false false
 h8:g.h.get q=.cells 3 [[w,u,.nils]] 0 false false
 h9:g.h.get (q+1)=.cells 1 [[.int .i64 beh]] 0 false false
 hw:Own g 3 w 1 (vars.map ci)
 hu:Own g (q+2) u 1 (cards.map ci)
 wq:∀i,vid w=some i->i<q
 q3:3<=q
 qn:q+2<=g.nx
def KI (q:Nat):List (Nat×AV):=[(2,.hptr 0 0 0 0),(4,.hptr 1 0 0 0),(5,.hptr 2 0 0 0),(8,.hptr q 0 0 0),(9,.hptr (q+1) 0 0 0)]
structure FacJ (gr:Int) (b cv sv oz:AV) (nd:List AV) (w:AV) (cs vars:List Int) (pl q j:Nat) (t:T) (g:G):Prop where
 st:St t ((38,w)::(6,.int .i64 (pl:Int))::KI q)
 hp:∃u,FacH [.int .i64 gr,b,cv,sv,oz] nd w u vars (S.ac cs (vars.take j)) (S.ae (S.ac cs ((vars.take j).drop (pl+1)))) q g
def GH (h:H)(n:Nat):G:=⟨h,n,[]⟩
@[simp] theorem GH_h (h:H) (n:Nat):(GH h n).h=h:=rfl
@[simp] theorem GH_nx (h:H) (n:Nat):(GH h n).nx=n:=rfl
structure FacG (g0:G) (iw:Nat) (W:AV) (rws:List (List Int)) (B C t:Nat) (h:H):Prop where
 fr:∀i,i<g0.nx->i≠iw->h.get i=g0.h.get i
 ow:Own (GH h (iw+1)) 3 W 1 ((S.bP rws B C t).map ci)
structure FacI (g0 g2:G) (iw:Nat) (W z:AV) (r:List Int) (rws:List (List Int)) (B C q j i:Nat) (t:T) (g:G):Prop where
 st:St t ((78,z)::(12,.int .i64 (j:Int))::KI q)
 hp:FacG g0 iw W rws B C (j*C+i) g.h
 nx:g2.nx<=g.nx
 fr:∀i,g0.nx<=i->i<g2.nx->g.h.get i=g2.h.get i
def S.bS (n:Net)(i:Nat)(x:Node)(p:Nat):Factor:=⟨S.bM x.parents p (i:Int),S.ac (S.aa n) (S.bM x.parents p (i:Int)),S.bY x.rows (S.ae (S.ac (S.aa n) (x.parents.drop p))).toNat x.card.toNat⟩
def S.bO (n:Net)(l:List Factor):Prop:=∀(i:Nat) (x:Node),i<l.length->n.nodes[i]?=some x->∃p,p<=x.parents.length/\l[i]?=some (S.bS n i x p)
structure FasJ (n:Net) (W b cv sv oz:AV) (j:Nat) (t:T) (g:G):Prop where
 st:St t [(4,.hptr 1 0 0 0),(6,W)]
 hg:g.h.get 1=.cells 5 [[.int .i64 n.grain,b,cv,sv,oz]] 0 false false
 hW:∃(rows:List (List AV)) (l:List Factor),Own g 2 W 3 rows/\rows.length=n.nodes.length/\l.length=j/\All2 (Rp.rp NoP 0 .nil) l (rows.take j)/\S.bO n l/\∀i,j<=i->i<n.nodes.length->rows[i]?=some [.nils,.nils,.nils]
end
end Hx
end
section
namespace Hx
open Go
abbrev QnM:Type:=Net×List Factor×List (List Int)
def S.bG (m:Nat)(f:Factor)(i:Nat)(R:List Int):Prop:=R.length=m/\∀(j:Nat) (y:Int),i<=j->f.vars[j]?=some y->R[y.toNat]?=some (S.ae (f.cards.drop (j+1)))
structure QnOk (n:Net) (y:QnM):Prop where
 net:y.1=n
 fl:y.2.1.length=n.nodes.length
 fs:S.bO n y.2.1
 sl:y.2.2.length=n.nodes.length
 st:∀(k:Nat) (f:Factor) (R:List Int),y.2.1[k]?=some f->y.2.2[k]?=some R->S.bG n.nodes.length f 0 R
end Hx
end
section
namespace Hx
open Go
noncomputable section
def Lm (fl:AV)(m q k:Nat):List (Nat×AV):=[(11,.hptr q 0 0 0),(2,.hptr 0 0 0 0),(4,.hptr 1 0 0 0),(45,fl),(46,.int .i64 (m:Int)),(47,.int .i64 (k:Int))]
structure AskI (fl:AV) (m q k:Nat) (g0:G) (iR:Nat) (R:AV) (f:Factor) (fb j:Nat) (t:T) (g:G):Prop where
 st:St t ((13,.hptr fb 0 0 0)::(12,.int .i64 (k:Int))::(14,.int .i64 (S.ae (f.cards.drop j)))::Lm fl m q k)
 nx:g0.nx<=g.nx
 fr:∀i,i<g0.nx->i≠iR->g.h.get i=g0.h.get i
 ow:∃X:List Int,Own g 2 R 1 (X.map ci)/\S.bG m f j X
structure FOk (m:Nat) (f:Factor):Prop where
 cl:f.cards.length=f.vars.length
 vl:f.vars.length<=16
 cb:∀c∈f.cards,1<=c/\c<=4
 nd:f.vars.Nodup
 vr:∀y∈f.vars,0<=y/\y<m
structure AskH (gr:Int) (b fl S_:AV) (m q:Nat) (fs:List Factor) (k:Nat) (g:G):Prop where
 h0:g.h.get 0=.cells 2 [[.int .i64 gr,b]] 0 false false
 h1:g.h.get 1=.cells 4 [[.int .i64 0,.nils,.nils,.nils]] 0 false false
 hq:g.h.get q=.cells 4 [[.int .i64 gr,b,fl,S_]] 0 false false
 q2:2<=q/\q<g.nx
 sq:∀i,vid S_=some i->i<q
 hS:∃(Vs:List AV) (l:List (List Int)),Own g 2 S_ 1 (Vs.map fun v=>[v])/\Vs.length=m/\l.length=k/\All2 (fun X v=>Own g (q+1) v 1 (X.map ci)) l (Vs.take k)/\∀(i:Nat) (f:Factor) (X:List Int),fs[i]?=some f->l[i]?=some X->S.bG m f 0 X
structure AskJ (gr:Int) (b fl S_:AV) (m q:Nat) (fs:List Factor) (k:Nat) (t:T) (g:G):Prop where
 st:St t [(11,.hptr q 0 0 0),(2,.hptr 0 0 0 0),(4,.hptr 1 0 0 0),(45,fl)]
 hp:AskH gr b fl S_ m q fs k g
theorem Ix {α:Type}{l:List α}{i:Nat}{x y:α}(h1:l[i]?=some x)(h2:l[i]?=some y):x=y:=by rw[h1] at h2;injection h2
structure WtI (y:QnM) (b fl S_ wv va ca wa:AV) (gr wt:Int) (p:Int) (cards pv:List Int) (m k fb i:Nat) (t:T) (g:G):Prop where
 st:St t [(1,wv),(2,.hptr 0 0 0 0),(12,fl),(13,.int .i64 (m:Int)),(14,.int .i64 (k:Int)),(5,.int .i64 wt),(6,.int .i64 (k:Int)),(7,.hptr fb 0 0 0),(20,va),(8,.int .i64 (p - S.af (cards.drop i) (pv.drop i)))]
 h0:g.h.get 0=.cells 4 [[.int .i64 gr,b,fl,S_]] 0 false false
 hf:g.h.get fb=.cells 3 [[va,ca,wa]] 0 false false
 nn:0<=p - S.af (cards.drop i) (pv.drop i)
 nx:1<=g.nx
structure WtJ (n:Net) (vals:List Int) (b fl S_ wv:AV) (k:Nat) (t:T) (g:G):Prop where
 st:St t [(1,wv),(2,.hptr 0 0 0 0),(12,fl),(5,.int .i64 (S.ae ((List.range k).map (S.aE n vals))))]
 h0:g.h.get 0=.cells 4 [[.int .i64 n.grain,b,fl,S_]] 0 false false
 nx:1<=g.nx
theorem AK {d k:Nat}{g:G}{P:Nat->Prop}{v:AV}{l:List Int}(hd:0<d)(hv:SlR P k g.h l v):au C0 d N.aA [v] g=.val (.int .i64 (S.aO l)):=by
 obtain ⟨v',e,r1⟩:=aV hv d
 have vl:∀g,dG .slice v' g=.val (.int .i64 (l.length:Int)):=fun g=>(r1 .nil).len g
 have ri:=fun h=>(r1 h).ints
 rw[vA]
 refine eZ ym (xs:=[v']) (by simp only[aD,e]) (by simp[oo]) hd ?_
 simp only[sz,simprocAttr,oo,vl,pj]
 refine aX (m:=l.length) hv.1 (fun j t df g=>df=[]/\St t [(6,v'),(3,.int .i64 (S.aO (l.take j)))]) ⟨rfl,by simp[St,sx,S.aO]⟩ (by simp[sx]) (by simp[sx]) (by decide)
  (by rintro j t df g v s (rfl | rfl | rfl)<;>simp[sx,St]) ?_ ?_
 ·rintro j t df g hj ⟨rfl,h6,h3,-⟩ h8 h7
  obtain ⟨x,hx,htk,hm⟩:=ae hj
  have z1:j<(l.map ci).length:=by simpa using hj
  have z2:(l.map ci)[j]?=some (ci x):=by rw[List.getElem?_map,hx];rfl
  simp only[sz,simprocAttr,h6,h8,h3,ri,z1,z2,ci]
  simp[St,sx,h6,h7,h8,htk,S.aO,List.foldl_append]
 ·rintro t df g ⟨rfl,h6,h3,-⟩
  rw[List.take_length] at h3
  simp only[sz,simprocAttr,pu,h3]
theorem ux {d k:Nat}{g:G}{P:Nat->Prop}{v:AV}{n:Net}(hd:0<d)(hv:SlR P k g.h n.nodes v)(hn:n.nodes.length<1073741824):∃r,au C0 d N.ap [v] g=.val r/\IT 0 (S.aa n) r:=by
 obtain ⟨v',e,r0⟩:=aV hv d
 obtain ⟨rows,r1,r2,r3,r4⟩:=(r0 .nil).all
 have r1:∀h',af h' 3 v'=some rows:=r1
 have vl:∀g,dG .slice v' g=.val (.int .i64 (n.nodes.length:Int)):=fun g=>(r0 .nil).len g
 rw[tZ]
 refine bp xP (xs:=[v']) (by simp only[aD,e]) (by simp[mS]) (bi _) (by decide) hd ?_
 simp only[sz,simprocAttr,mS,vl]
 refine s7 (b:=0) (n:=n.nodes.length) (by unfold aO;omega) (by unfold aO;omega) (Nat.zero_le _) fun u g1 hu n1 f1 v1=>?_
 simp only[sz,simprocAttr,vl,nz]
 refine aX (m:=n.nodes.length) (by omega) (fun j t df g=>df=[]/\St t [(9,v'),(3,u)]/\Own g 0 u 1 ((((S.aa n).take j)++List.replicate (n.nodes.length - j) 0).map ci)) ⟨rfl,by simp[St,sx],?_⟩ (by simp[sx]) (by simp[sx]) (by decide)
  (by rintro j t df g v s (rfl | rfl | rfl)<;>simp[sx,St]) ?_ ?_
 ·simpa [ci] using hu
 ·rintro j t df g hj ⟨rfl,⟨h9,h3,-⟩,hO⟩ h11 h10
  obtain ⟨x,hx,-,hm⟩:=ae hj
  obtain ⟨row,q1,q2⟩:=r3 j x hx
  obtain ⟨a',b',rfl,ha',hb'⟩:=bM.1 q2
  have hlt:j<rows.length:=by omega
  have hry:=r4 (by omega)
  have hcl:(S.aa n).length=n.nodes.length:=ay n
  have hcj:(S.aa n)[j]?=some x.card:=by simp[S.aa,hx]
  have z1:j<((((S.aa n).take j)++List.replicate (n.nodes.length - j) 0).map ci).length:=by simp;omega
  have z2:((((S.aa n).take j)++List.replicate (n.nodes.length - j) 0).map ci)[j]?=some (ci 0):=by
   rw[List.getElem?_map,List.getElem?_append_right (by simp;omega),List.getElem?_replicate]
   simp;omega
  have e2:((((S.aa n).take j)++List.replicate (n.nodes.length - j) 0).map ci).set j (ci x.card)=(((S.aa n).take (j+1))++List.replicate (n.nodes.length - (j+1)) 0).map ci:=by
   rw[<-List.map_set,List.set_append_right _ _ (by simp;omega),List.length_take,Nat.min_eq_left (by omega),Nat.sub_self,List.take_succ_eq_append_getElem (by omega),show n.nodes.length - j=(n.nodes.length - (j+1))+1 by omega,List.replicate_succ,List.set_cons_zero,List.append_assoc]
   have:(S.aa n)[j]=x.card:=by
    rw[List.getElem?_eq_getElem (by omega)] at hcj;injection hcj
   rw[this];rfl
  have fw:eo [.int .i64 0,.nils,.nils] [((0,3),.agg [.int .i64 x.card,a',b'])]=some [.int .i64 x.card,a',b']:=rfl
  simp only[sz,simprocAttr,h9,h11,r1,hlt,q1,hry]
  have hO2:Own ((g.new (.cells 3 [[.int .i64 0,.nils,.nils]] 0 false false)).put g.nx (.cells 3 [[.int .i64 x.card,a',b']] 0 false false)) 0 u 1 ((((S.aa n).take j)++List.replicate (n.nodes.length - j) 0).map ci) :=
   hO.fr (by simp) fun i hi=>by have:=(hO.lt hi).2;simp[H.get_put,show ¬i=g.nx by omega]
  generalize (g.new (.cells 3 [[.int .i64 0,.nils,.nils]] 0 false false)).put g.nx (.cells 3 [[.int .i64 x.card,a',b']] 0 false false)=g2 at hO2 ⊢
  simp only[sz,simprocAttr,h3,hO2.rows,z1]
  refine dB (v:=u) (sz:=1) (n:=1) (i:=j) (off:=0) (x:=.int .i64 x.card) (row:=ci 0) (row':=ci x.card) hO2 z2 rfl rfl rfl fun g3 o3 n3 f3=>?_
  rw[e2] at o3
  simp only[sz,simprocAttr]
  simpa [St,sx,h9,h3,h10,h11] using o3
 ·rintro t df g ⟨rfl,⟨h9,h3,-⟩,hO⟩
  rw[List.take_of_length_le (by rw[ay];omega),Nat.sub_self] at hO
  simp only[sz,simprocAttr,nF,h3]
  exact ⟨_,(by simpa using hO:Own g 0 u 1 ((S.aa n).map ci)).ints (by rw[ay];omega)⟩
def S.bo (l:List Int)(x:Int):Int:=if x∈l then (l.idxOf x:Int) else -1
theorem GS {l:List Int}{x:Int}:(0:Int)<=S.bo l x↔x∈l:=by
 unfold S.bo
 split
 ·rename_i h;simp[h]
 ·rename_i h;simp[h]
theorem Fo {d k:Nat}{g:G}{P:Nat->Prop}{v:AV}{l:List Int}{x:Int}(hd:0<d)(hv:SlR P k g.h l v):au C0 d N.aM [v,.int .i64 x] g=.val (.int .i64 (S.bo l x)):=by
 obtain ⟨v',e,r1⟩:=aV hv d
 have vl:∀g,dG .slice v' g=.val (.int .i64 (l.length:Int)):=fun g=>(r1 .nil).len g
 have ri:=fun h=>(r1 h).ints
 rw[nN]
 refine eZ pF (xs:=[v',.int .i64 x]) (by simp only[aD,e,eW 0]) (by simp[eJ]) hd ?_
 simp only[sz,simprocAttr,eJ,vl,gF]
 refine aX (m:=l.length) hv.1 (fun j t df g=>df=[]/\St t [(0,v'),(1,.int .i64 x)]/\x ∉ l.take j) ⟨rfl,by simp[St,sx],by simp⟩ (by simp[sx]) (by simp[sx]) (by decide)
  (by rintro j t df g v s (rfl | rfl | rfl)<;>simp[sx,St]) ?_ ?_
 ·rintro j t df g hj ⟨rfl,⟨h0,h1,-⟩,hno⟩ h8 h7
  obtain ⟨y,hy,htk,hm⟩:=ae hj
  have z1:j<(l.map ci).length:=by simpa using hj
  have z2:(l.map ci)[j]?=some (ci y):=by rw[List.getElem?_map,hy];rfl
  by_cases c:x=y
  ·subst c
   have hl:l=l.take j++x::l.drop (j+1):=by
    have:l.drop j=x::l.drop (j+1):=by
     rw[List.drop_eq_getElem_cons hj];congr 1
     rw[List.getElem?_eq_getElem hj] at hy;injection hy
    rw[<-this,List.take_append_drop]
   have hf:S.bo l x=(j:Int):=by
    unfold S.bo
    rw[if_pos hm]
    have:l.idxOf x=j:=by
     conv=>lhs;rw[hl]
     rw[List.idxOf_append,if_neg hno,List.idxOf_cons_self,List.length_take]
     omega
    rw[this]
   simp only[sz,simprocAttr,h0,h1,h8,ri,z1,z2,ci,hf]
  ·simp only[sz,simprocAttr,h0,h1,h8,ri,z1,z2,ci,c]
   simp[St,sx,h0,h1,h7,h8,htk,hno,c]
 ·rintro t df g ⟨rfl,-,hno⟩
  rw[List.take_length] at hno
  simp only[sz,simprocAttr,gO,S.bo,hno]
theorem zK {d k:Nat}{g:G}{P:Nat->Prop}{v:AV}{l:List Int}{x:Int}(hd:0<d)(hv:SlR P k g.h l v):au C0 d N.aV [v,.int .i64 x] g=.val (.bool (decide (x∈l))):=by
 obtain ⟨v',e,r1⟩:=aV hv d
 have ki:=fun g=>Fo (d:=d+1) (g:=g) (x:=x) (Nat.succ_pos d) (r1 g.h)
 have hd2:decide ((0:Int)<=S.bo l x)=decide (x∈l):=decide_eq_decide.2 GS
 rw[lp]
 refine dy mA (xs:=[v',.int .i64 x]) (by simp only[aD,e,eW 0]) (by simp[dA]) hd ?_
 simp only[sz,simprocAttr,dA,ki,<-hd2]
end
end Hx
end
