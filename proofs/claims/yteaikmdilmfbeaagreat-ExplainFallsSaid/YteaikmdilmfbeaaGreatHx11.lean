/- A part of the proof: an interpreter over abstract values, shown right against the model, and what the functions of the chapter compute on it. -/
import Derived.Test.YteaikmdilmfbeaaGreatHx10
set_option linter.unusedVariables false
set_option linter.unusedSimpArgs false
set_option linter.unnecessarySimpa false
section
namespace Hx
open Go
noncomputable section
abbrev NwM:Type:=Net×List Int×List Nat×List Int
theorem tG {P:Nat->Prop}{k:Nat}{h:H}{x:NwM}{cs:List AV}:Rp.rp P k h x cs↔∃a b c e,cs=[.int .i64 x.1.grain,a,b,c,e]/\SlR P k h x.1.nodes a/\SlR P k h x.2.1 b/\SlR P k h x.2.2.1 c/\SlR P k h x.2.2.2 e:=by
 constructor
 ·rintro ⟨c1,c2,rfl,h1,c3,c4,rfl,⟨b,rfl,hb⟩,c5,c6,rfl,⟨c,rfl,hc⟩,⟨e,rfl,he⟩⟩;obtain ⟨a,rfl,ha⟩:=gf.1 h1;exact ⟨a,b,c,e,rfl,ha,hb,hc,he⟩
 ·rintro ⟨a,b,c,e,rfl,ha,hb,hc,he⟩;exact ⟨[_,a],[b,c,e],rfl,gf.2 ⟨a,rfl,ha⟩,[b],[c,e],rfl,⟨b,rfl,hb⟩,[c],[e],rfl,⟨c,rfl,hc⟩,⟨e,rfl,he⟩⟩
theorem zi:∀{l:List Int},(∀x∈l,0<=x)->0<=l.sum
 | [],_=>by simp
 | x::l,h=>by have:=zi (l:=l) λy hy=>h y (by simp[hy]);have:=h x (by simp);rw[List.sum_cons];omega
theorem A2 {l:List Int}(h:∀x∈l,0<=x)(j:Nat):(l.take j).sum<=l.sum:=by
 have:=zi (l:=l.drop j) λx hx=>h x (List.mem_of_mem_drop hx);have e:l.sum=(l.take j).sum+(l.drop j).sum:=by rw[<-List.sum_append,List.take_append_drop]
 omega
theorem vJ:∀{l:List Int},(∀x∈l,0<=x)->∀x∈l,x<=l.sum
 | [],_,x,hx=>by simp at hx
 | y::l,h,x,hx=>by
  have h1:=zi (l:=l) λz hz=>h z (by simp[hz]);have h2:=h y (by simp);rw[List.sum_cons];rcases List.mem_cons.1 hx with rfl | hx
  ·omega
  ·have:=vJ (l:=l) (λz hz=>h z (by simp[hz])) x hx;omega
def S.aY (gr:Int)(cs:List Int)(x:Node):Bool:=decide ((x.rows.length:Int)=S.ae (S.aa cs x.parents))&&x.rows.all (S.aQ gr x.card)
structure FJ (gr:Int) (r:List Int) (z:AV) (j:Nat) (t:T):Prop where
 st:St t [(2,.hptr 0 0 0 0),(3,.hptr 1 0 0 0),(4,.hptr 2 0 0 0),(9,z),(40,z),(10,.int .i64 (gr - (r.take j).sum))]
 nn:∀x∈r.take j,0<=x
 le:(r.take j).sum<=gr
theorem Ek {d:Nat}{rd:Option Nat}{gr:Int}{r:List Int}{z:AV}{Q:QT}{t:T}{g:G}(hz:SlR NoP 0 .nil r z)(hg1:1<=gr/\gr<=60)
  (ht:St t [(2,.hptr 0 0 0 0),(3,.hptr 1 0 0 0),(4,.hptr 2 0 0 0),(9,z),(40,z),(10,.int .i64 gr)]) (h42:tat t 42=.int .i64 0) (h41:tat t 41=.int .i64 (r.length:Int)) (e2:g.h.get 2=.cells 1 [[.bool false]] 0 false false)
  (bad:∀t,(∀card,S.aQ gr card r=false)->Q .ret t [] (g.put 2 (.cells 1 [[.bool false]] 0 false false)))
  (fin:∀t,(∀x∈r,0<=x)->r.sum<=gr->St t [(2,.hptr 0 0 0 0),(3,.hptr 1 0 0 0),(4,.hptr 2 0 0 0),(9,z),(10,.int .i64 (gr - r.sum))]->Q (.exit 4) t [] g) :
  wpL (wp C0 d rd dq) Q t [] g:=by
 have rz:=λh=>(hz.tree (h':=h) (Nat.le_refl 0)).ints;simp only[dq];refine aI (m:=r.length) hz.1 (λj t df g'=>df=[]/\g'=g/\FJ gr r z j t) ⟨rfl,rfl,by simpa using ht,by simp,by simp;omega⟩ h42 h41 (by decide)
  (by rintro j t df g v s (rfl | rfl | rfl) ⟨a1,a2,⟨b1,b2,b3,b4,b5,b6,-⟩,b7,b8⟩<;>exact ⟨a1,a2,by simp[St,sx,b1,b2,b3,b4,b5,b6],b7,b8⟩) ?_ ?_
 ·rintro j t df g' hj ⟨rfl,rfl,⟨⟨h2,h3,h4,h9,h40,h10,-⟩,hnn,hle⟩⟩ h42 h41;obtain ⟨y,hy,htk,hm⟩:=ac hj;have u1:j<(r.map ci).length:=by simpa using hj
  have u2:(r.map ci)[j]?=some (ci y):=by rw[List.getElem?_map,hy];rfl
  have hs0:=zi hnn
  by_cases c1:y<0
  ·simp only[sz,simprocAttr,h4,h40,h42,rz,u1,u2,ci,c1,e2];exact bad _ (λcard=>by
    rw[<-Bool.not_eq_true,S.aQ];simp only[Bool.and_eq_true,decide_eq_true_eq,List.all_eq_true];rintro ⟨⟨-,h⟩,-⟩;have:=h y hm;omega)
  ·by_cases c2:gr - (r.take j).sum<y
   ·simp only[sz,simprocAttr,h4,h40,h10,h42,rz,u1,u2,ci,c1,c2,e2];exact bad _ (λcard=>by
     rw[<-Bool.not_eq_true,S.aQ];simp only[Bool.and_eq_true,decide_eq_true_eq,List.all_eq_true];rintro ⟨⟨-,h⟩,hs⟩;have h1:=A2 (l:=r) (λx hx=>(h x hx).1) (j+1);rw[htk,wE] at h1;omega)
   ·have w1:IntKind.wrap .i64 (gr - (r.take j).sum - y)=gr - (r.take (j+1)).sum:=by rw[aB (by omega) (by omega),htk,wE];omega
    simp only[sz,simprocAttr,h40,h10,h42,h41,rz,u1,u2,ci,c1,c2,w1];refine ⟨by simp[St,sx,h2,h3,h4,h9,h40],λx hx=>?_,by rw[htk,wE];omega⟩;rw[htk] at hx;rcases List.mem_append.1 hx with h | h
    ·exact hnn x h
    ·rw[List.mem_singleton.1 h];omega
 ·rintro t df g' ⟨rfl,rfl,⟨⟨h2,h3,h4,h9,h40,h10,-⟩,hnn,hle⟩⟩;rw[List.take_length] at hnn hle h10;exact fin t hnn hle ⟨h2,h3,h4,h9,h10,trivial⟩
structure FlJ (cs1 cs2:List AV) (gr card:Int) (rws:List (List Int)) (j:Nat) (h:H):Prop where
 a0:h.get 0=.cells 5 [cs1] 0 false false
 a1:h.get 1=.cells 3 [cs2] 0 false false
 a2:h.get 2=.cells 1 [[.bool false]] 0 false false
 all:∀r∈rws.take j,S.aQ gr card r=true
structure FlE (gr card:Int) (rws:List (List Int)) (h:H):Prop where
 a2:h.get 2=.cells 1 [[.bool false]] 0 false false
 ex:∃r∈rws,S.aQ gr card r=false
theorem El {d k1 k2:Nat}{g:G}{P1 P2:Nat->Prop}{v w:AV}{m:NwM}{x:Node}(hd:0<d)(hm:Agg m P1 k1 g.h v)(hx:Agg x P2 k2 g.h w)(hk:k2=0/\P2=NoP)(hg1:1<=m.1.grain/\m.1.grain<=60)(hc:∀c∈m.2.1,1<=c/\c<=4)
  (hp:∀p∈x.parents,0<=p/\p<m.2.1.length) (hpl:x.parents.length<=8):ax C0 d N.aC [v,w] g=.val (.bool (S.aY m.1.grain m.2.1 x)):=by
 obtain ⟨rfl,rfl⟩:=hk;obtain ⟨v',e1,cs,rfl,hcs⟩:=oY (iF m) (by decide) d hm;obtain ⟨nb,cb,sb,ob,rfl,-,hcb,-,-⟩:=tG.1 hcs;have e2:=jZ d hx;obtain ⟨cs2,rfl,hcs2⟩:=hx;obtain ⟨pa,ra,rfl,hpa,hra⟩:=cH.1 hcs2;have hcs2':∀h,Agg x NoP 0 h (.agg [.int .i64 x.card,pa,ra]):=λh=>⟨_,rfl,Rp.tree hcs2 (Nat.le_refl _)⟩;have hra:=hra.tree (h':=.nil) (Nat.le_refl 0);have rp:=λh=>(hpa.tree (h':=h) (Nat.le_refl 0)).ints;have rc:=λh=>(hcb.tree (h':=h) (Nat.le_refl _)).ints;have pl:=λg=>(hpa.tree (h':=.nil) (Nat.le_refl 0)).len g;have rl:=λg=>hra.len g;rw[mD];refine jr oO (xs:=[.agg [.int .i64 m.1.grain,nb,cb,sb,ob],.agg [.int .i64 x.card,pa,ra]]) (by simp only[aE,e1,e2]) (by simp[eF]) hd ?_;simp only[sz,simprocAttr,eF];obtain ⟨g0,hg0⟩:∃g0,g0=((G.empty.new (.cells 5 [[.int .i64 m.1.grain,nb,cb,sb,ob]] 0 false false)).new (.cells 3 [[.int .i64 x.card,pa,ra]] 0 false false)).new (.cells 1 [[.bool false]] 0 false false):=⟨_,rfl⟩;rw[<-hg0];have f0:g0.h.get 0=.cells 5 [[.int .i64 m.1.grain,nb,cb,sb,ob]] 0 false false:=by rw[hg0];simp[sx,H.get_put]
 have f1:g0.h.get 1=.cells 3 [[.int .i64 x.card,pa,ra]] 0 false false:=by rw[hg0];simp[sx,H.get_put]
 have f2:g0.h.get 2=.cells 1 [[.bool false]] 0 false false:=by rw[hg0];simp[sx]
 have f3:g0.nx=3:=by rw[hg0];simp[sx]
 clear hg0;simp only[sz,simprocAttr,ip,f1,pl,gE];refine aI (m:=x.parents.length) (by omega) (λj t df g=>df=[]/\g=g0/\St t [(2,.hptr 0 0 0 0),(3,.hptr 1 0 0 0),(4,.hptr 2 0 0 0),(14,pa),(5,.int .i64 (S.ae (S.aa m.2.1 (x.parents.take j))))])
  ⟨rfl,rfl,by simp[St,sx,S.ae,S.aa]⟩ (by simp[sx]) (by simp[sx]) (by decide) (by rintro j t df g v s (rfl | rfl | rfl)<;>simp[St,sx]) ?_ ?_
 ·rintro j t df g hj ⟨rfl,rfl,⟨h2,h3,h4,h14,h5,-⟩⟩ h16 h15;obtain ⟨p,hpj,htk,hm2⟩:=ac hj;obtain ⟨p0,p1⟩:=hp p hm2;obtain ⟨p,rfl⟩:=Int.eq_ofNat_of_zero_le p0;have hpl2:p<m.2.1.length:=by omega
  have u1:j<(x.parents.map ci).length:=by simpa using hj
  have u2:(x.parents.map ci)[j]?=some (ci (p:Int)):=by rw[List.getElem?_map,hpj];rfl
  have u3:p<(m.2.1.map ci).length:=by simpa using hpl2
  have u4:(m.2.1.map ci)[p]?=some (ci m.2.1[p]):=by rw[List.getElem?_map,List.getElem?_eq_getElem hpl2];rfl
  have e3:S.ae (S.aa m.2.1 (x.parents.take (j+1)))=S.ae (S.aa m.2.1 (x.parents.take j))*m.2.1[p]:=by rw[htk,dJ,ni];congr 1;simp[S.aa,S.ae,List.getElem?_eq_getElem hpl2]
  have hpb:=bz (l:=S.aa m.2.1 (x.parents.take (j+1))) (a8 hc λq hq=>hp q (List.mem_of_mem_take hq));have hp4:=fe (a:=(S.aa m.2.1 (x.parents.take (j+1))).length) (b:=8) (by simp[S.aa];omega);have h48:(4:Int) ^ 8=65536:=by decide
  have w1:IntKind.wrap .i64 (S.ae (S.aa m.2.1 (x.parents.take j))*m.2.1[p])=S.ae (S.aa m.2.1 (x.parents.take (j+1))):=by rw[<-e3,aB (by omega) (by omega)]
  simp only[sz,simprocAttr,h2,h14,h5,h16,h15,f0,rp,rc,u1,u2,u3,u4,ci,w1];simp[St,sx,h2,h3,h4,h14]
 rintro t df g ⟨rfl,rfl,⟨h2,h3,h4,h14,h5,-⟩⟩;rw[List.take_length] at h5;simp only[gH]
 by_cases c1:(x.rows.length:Int)=S.ae (S.aa m.2.1 x.parents)
 ·obtain ⟨pa',ra',er,hpa',hra'⟩:=vQ (d:=d+1) (g:=g) (Nat.succ_pos d) (hcs2' g.h);refine gY (P:=λt' df g'=>df=[]/\g'=g/\St t' [(2,.hptr 0 0 0 0),(3,.hptr 1 0 0 0),(4,.hptr 2 0 0 0)]) ?_ ?_
  ·simp only[sz,simprocAttr,h3,h5,f1,rl,c1];simp[St,sx,h2,h3,h4]
  clear h2 h3 h4 h5 h14;rintro t df g ⟨rfl,rfl,h2,h3,h4,-⟩;rw[co,co];simp only[sz,simprocAttr,h3,f1,er];refine AP (c:=x.card) (pa:=pa') hra' (by simp[sx]) (by decide) (by decide)
   (FlJ [.int .i64 m.1.grain,nb,cb,sb,ob] [.int .i64 x.card,pa,ra] m.1.grain x.card x.rows)
   (FlE m.1.grain x.card x.rows) ?_ ?_ ⟨f0,f1,f2,by simp⟩ ?_ ?_ ?_
  ·rintro j h h' hh ⟨a0,a1,a2,a3⟩;exact ⟨by rw[hh 0 (by omega),a0],by rw[hh 1 (by omega),a1],by rw[hh 2 (by omega),a2],a3⟩
  ·rintro h h' hh ⟨a2,a3⟩;exact ⟨by rw[hh 2 (by omega),a2],a3⟩
  ·rintro j r z g1 hr hz ⟨a0,a1,a2,a3⟩ hn;obtain ⟨r',hr',htk,hrm⟩:=ac (l:=x.rows) (j:=j) (List.getElem?_eq_some_iff.1 hr).1;rw[hr] at hr';injection hr' with hr';subst hr';simp only[sz,simprocAttr,gD];intro g2 hg2n hg2;have b0:g2.h.get 0=.cells 5 [[.int .i64 m.1.grain,nb,cb,sb,ob]] 0 false false:=by rw[hg2 0 (by omega),a0]
   have b1:g2.h.get 1=.cells 3 [[.int .i64 x.card,pa,ra]] 0 false false:=by rw[hg2 1 (by omega),a1]
   have b2:g2.h.get 2=.cells 1 [[.bool false]] 0 false false:=by rw[hg2 2 (by omega),a2]
   simp only[sz,simprocAttr,gF,h2,b0,hz.len];refine Ek (gr:=m.1.grain) (r:=r) (z:=z) hz hg1 (by simp[St,sx,h2,h3,h4]) (by simp[sx]) (by simp[sx]) b2 ?_ ?_
   ·rintro t hrow;simp only[sx,sy];exact ⟨by simp,λi h1 h2=>by simp[H.get_put,show ¬i=2 by omega],.inr ⟨rfl,by simp[H.get_put],r,hrm,hrow _⟩⟩
   ·rintro t hnn hle ⟨h2,h3,h4,h9,h10,-⟩;have hzl:=λg=>hz.len g
    by_cases c2:(r.length:Int)=x.card
    ·by_cases c3:m.1.grain - r.sum=0
     ·simp only[sz,simprocAttr,bP,h3,h9,h10,hzl,b1,c2,c3];refine ⟨Nat.le_refl _,λi _ _=>rfl,.inl ⟨rfl,b0,b1,b2,λy hy=>?_⟩⟩;rw[htk] at hy;rcases List.mem_append.1 hy with h | h
      ·exact a3 y h
      ·rw[List.mem_singleton.1 h,S.aQ];simp only[Bool.and_eq_true,decide_eq_true_eq,List.all_eq_true];exact ⟨⟨c2,λq hq=>⟨hnn q hq,by have:=vJ hnn q hq;omega⟩⟩,by omega⟩
     ·have hro:S.aQ m.1.grain x.card r=false:=by rw[S.aQ];simp;intros;omega
      simp only[sz,simprocAttr,bP,h3,h4,h9,h10,hzl,b1,b2,c2,c3];exact ⟨by simp,λi h1 h2=>by simp[H.get_put,show ¬i=2 by omega],.inr ⟨rfl,by simp[H.get_put],r,hrm,hro⟩⟩
    ·have hro:S.aQ m.1.grain x.card r=false:=by rw[S.aQ];simp[c2]
     simp only[sz,simprocAttr,bP,h3,h4,h9,hzl,b1,b2,c2];exact ⟨by simp,λi h1 h2=>by simp[H.get_put,show ¬i=2 by omega],.inr ⟨rfl,by simp[H.get_put],r,hrm,hro⟩⟩
  ·rintro g' ⟨a0,a1,a2,a3⟩ hn hdf;rw[List.take_length] at a3;have hok:S.aY m.1.grain m.2.1 x=true:=by rw[S.aY,List.all_eq_true.2 a3];simp[c1]
   simp only[sz,simprocAttr,gG,h4,a2];refine gq (by simp[H.get_put,show ¬g.nx=2 by omega,hdf]) ?_;simp only[sx,sy,↓reduceIte,Nat.reduceEqDiff,h4,hok];simp[show ¬(2=g.nx) by omega]
   rfl
  ·rintro g' ⟨a2,r,hr,hro⟩ hn hdf;have hok:S.aY m.1.grain m.2.1 x=false:=by
    rw[S.aY];have:x.rows.all (S.aQ m.1.grain x.card)=false:=by rw[<-Bool.not_eq_true,List.all_eq_true];intro h;rw[h r hr] at hro;cases hro
    rw[this,Bool.and_false]
   simp only[sx];refine gq hdf ?_;simp only[sx,sy,↓reduceIte,Nat.reduceEqDiff,h4,hok];rw[if_neg (by omega),a2]
   rfl
 ·simp only[sz,simprocAttr,h3,h4,h5,f1,f2,rl,c1];rw[S.aY];simp[c1]
theorem uf:∀{l:List Int} {v:Nat},(∀x∈l,0<=x/\x<64)->((S.aq l).testBit v=true↔(v:Int)∈l):=by
 have key:∀(l:List Int) (s v:Nat),(∀x∈l,0<=x/\x<64)->((l.foldl (λs x=>s ||| S.aP x.toNat) s).testBit v=true↔s.testBit v=true\/(v:Int)∈l):=by
  intro l
  induction l with
  | nil=>intro s v _;simp
  | cons x l ih =>
   intro s v h;have hx:=h x (by simp);rw[List.foldl_cons,ih _ _ λy hy=>h y (by simp[hy]),pT,uC (show x.toNat<64 by omega),Bool.or_eq_true,decide_eq_true_eq,List.mem_cons];constructor
   ·rintro ((h | h) | h)
    ·exact .inl h
    ·exact .inr (.inl (by omega))
    ·exact .inr (.inr h)
   ·rintro (h | h | h)
    ·exact .inl (.inl h)
    ·exact .inl (.inr (by omega))
    ·exact .inr h
 intro l v h;have:=key l 0 v h;simpa [S.aq] using this
theorem GA {l:List Int}{k:Nat}(hk:k<=64)(h:∀x∈l,0<=x/\x<k):S.aq l<2 ^ k:=by
 have hb:∀i,k<=i->(S.aq l).testBit i=false:=λi hi=>by rw[<-Bool.not_eq_true,uf λx hx=>by have:=h x hx;omega];intro hm;have:=h _ hm;omega
 exact Nat.lt_pow_two_of_testBit _ λi hi=>hb i hi
structure RdH (n:Net) (b cv sv:AV) (q:Nat) (X:List Int) (Y:List Nat) (g:G):Prop where
 h0:g.h.get 0=.cells 2 [[.int .i64 n.grain,b]] 0 false false
 h1:g.h.get 1=.cells 5 [[.int .i64 0,.nils,.nils,.nils,.nils]] 0 false false
 hq:g.h.get q=.cells 5 [[.int .i64 n.grain,b,cv,sv,.nils]] 0 false false
 hc:Own g 2 cv 1 (X.map ci)
 hs:Own g 2 sv 1 (Y.map cu)
 q2:2<=q
 qn:q<g.nx
 d1:vid cv≠some q
 d2:vid sv≠some q
 d3:∀i,vid cv=some i->vid sv≠some i
theorem RdH.fr {n:Net}{b cv sv:AV}{q:Nat}{X:List Int}{Y:List Nat}{g g':G}(h:RdH n b cv sv q X Y g)(f:Fr g g'):RdH n b cv sv q X Y g' :=
 ⟨by rw[f.2 0 (by have:=h.qn;have:=h.q2;omega),h.h0],by rw[f.2 1 (by have:=h.qn;have:=h.q2;omega),h.h1],by rw[f.2 q h.qn,h.hq],h.hc.step f,h.hs.step f,h.q2,Nat.lt_of_lt_of_le h.qn f.1,h.d1,h.d2,h.d3⟩
def S.bJ (n:Net)(o:List Int):NwM:=if S.aN n then (n,S.ac n,S.am n,o) else (⟨0,[]⟩,[],[],[])
def zt (n:Net):VS:=λP k h v=>∃o:List Int,True/\wL (Agg (S.bJ n o)) (One (if S.aN n then (0:Int) else 50)) P k h v
section
variable {d:Nat}{n:Net}{b cv sv:AV}{q:Nat}{rows:List (List AV)}
def LRd (q:Nat):List (Nat×AV):=[(1,.hptr 0 0 0 0),(2,.hptr 1 0 0 0),(4,.hptr q 0 0 0)]
theorem J3 {t:T}{g:G}(hn:¬NR n)(h1:g.h.get 1=.cells 5 [[.int .i64 0,.nils,.nils,.nils,.nils]] 0 false false)(t2:tat t 2=.hptr 1 0 0 0)(t3:tat t 3=.int .i64 50) :
  fnQ C0 d ku.res (λv g'=>∃P,zt n P 0 g'.h v) .ret t [] g:=by
 have hf:S.aN n=false:=by
  cases h:S.aN n with
  | false=>rfl
  | true=>exact absurd (dI.1 h) hn
 simp only[ku,sx,sy,↓reduceIte,Nat.reduceAdd,Nat.reduceLeDiff,t2,t3,h1];refine ⟨λ_=>True,[],trivial,_,_,rfl,⟨_,rfl,?_⟩,?_⟩
 ·rw[S.bJ,hf];exact tG.2 ⟨.nils,.nils,.nils,.nils,rfl,⟨by show 0<9223372036854775808;decide,rfl⟩,⟨by show 0<9223372036854775808;decide,rfl⟩,⟨by show 0<9223372036854775808;decide,rfl⟩,⟨by show 0<9223372036854775808;decide,rfl⟩⟩
 ·rw[hf];exact aF.2 rfl
structure Rd0 (n:Net) (b cv sv:AV) (q j:Nat) (t:T) (g:G):Prop where
 st:St t ((48,b)::(5,.int .i64 (S.ae ((S.ac n).take j)))::LRd q)
 hp:RdH n b cv sv q ((S.ac n).take j++List.replicate (n.nodes.length - j) 0) (List.replicate n.nodes.length 0) g
 ok:∀x∈n.nodes.take j,1<=x.card/\x.card<=4
theorem IB {Q:QT}{t:T}{g:G}(hl:n.nodes.length<=8)(hN:SlR NoP 0 .nil n.nodes b)(r1:∀h,ae h 3 b=some rows)(r2:rows.length=n.nodes.length)
  (r3:∀(i:Nat) (x:Node),n.nodes[i]?=some x->∃pa ra,rows[i]?=some [.int .i64 x.card,pa,ra]/\i<rows.length/\SlR NoP 0 .nil x.parents pa/\SlR NoP 0 .nil x.rows ra) (r4:0<n.nodes.length->t8 b=true)
  (h0:Rd0 n b cv sv q 0 t g) (h50:tat t 50=.int .i64 0) (h49:tat t 49=.int .i64 (n.nodes.length:Int))
  (bad:∀t g,¬NR n->g.h.get 1=.cells 5 [[.int .i64 0,.nils,.nils,.nils,.nils]] 0 false false->tat t 2=.hptr 1 0 0 0->tat t 3=.int .i64 50->Q .ret t [] g)
  (fin:∀t g,Rd0 n b cv sv q n.nodes.length t g->Q (.exit 0) t [] g):wpL (wp C0 d none l0) Q t [] g:=by
 simp only[l0];refine aI (m:=n.nodes.length) (by omega) (λj t df g=>df=[]/\Rd0 n b cv sv q j t g) ⟨rfl,h0⟩ h50 h49 (by decide)
  (by rintro j t df g v s (rfl | rfl | rfl) ⟨a1,⟨b1,b2,b3,b4,b5,-⟩,c1,c2⟩<;>exact ⟨a1,by simp[St,LRd,sx,b1,b2,b3,b4,b5],c1,c2⟩) ?_ ?_
 ·rintro j t df g hj ⟨rfl,⟨⟨h48,h5,h1,h2,h4,-⟩,hp,hok⟩⟩ h50 h49;obtain ⟨x,hx,htk,hxm⟩:=ac hj;obtain ⟨pa,ra,q1,hlt,hpa,hra⟩:=r3 j x hx;have hry:=r4 (by omega);have q2:=hp.q2;have qn:=hp.qn;have hne1:¬(1=g.nx):=by omega
  have hneq:¬(q=g.nx):=by omega
  have f1:Fr g (g.new (.cells 3 [[.int .i64 0,.nils,.nils]] 0 false false)):=Fr.new _ _;have badn:¬(1<=x.card/\x.card<=4)->¬NR n:=λh hr=>h (hr.card x hxm)
  by_cases c1:x.card<1
  ·simp only[sz,simprocAttr,h2,h48,h50,r1,hlt,q1,hp.h1,hne1,c1];exact bad _ _ (badn (by omega)) (by simp[H.get_put]) (by simp[sx,h2]) (by simp[sx])
  ·by_cases c2:4<x.card
   ·simp only[sz,simprocAttr,h2,h48,h50,r1,hlt,q1,hp.h1,hne1,c1,c2];exact bad _ _ (badn (by omega)) (by simp[H.get_put]) (by simp[sx,h2]) (by simp[sx])
   ·have hall:∀y∈n.nodes.take (j+1),1<=y.card/\y.card<=4:=λy hy=>by
     rw[htk] at hy;rcases List.mem_append.1 hy with h | h
     ·exact hok y h
     ·rw[List.mem_singleton.1 h];omega
    have hcb:∀c∈(S.ac n).take (j+1),1<=c/\c<=4:=λc hc=>by rw[S.ac,<-List.map_take] at hc;obtain ⟨y,hy,rfl⟩:=List.mem_map.1 hc;exact hall y hy
    have hpb:=bz hcb;have hp4:=fe (a:=((S.ac n).take (j+1)).length) (b:=8) (by rw[List.length_take];omega);have h48':(4:Int) ^ 8=65536:=by decide
    have hcj:(S.ac n)[j]?=some x.card:=by simp[S.ac,hx]
    have ets:(S.ac n).take (j+1)=(S.ac n).take j++[x.card]:=by rw[List.take_add_one,hcj];rfl
    have e1:S.ae ((S.ac n).take (j+1))=S.ae ((S.ac n).take j)*x.card:=by rw[ets];exact s5 _ _
    have w1:IntKind.wrap .i64 (S.ae ((S.ac n).take j)*x.card)=S.ae ((S.ac n).take (j+1)):=by rw[<-e1,aB (by omega) (by omega)]
    have hlj:((S.ac n).take j).length=j:=by rw[List.length_take,aw];omega
    have hXr:(((S.ac n).take j++List.replicate (n.nodes.length - j) 0).map ci)[j]?=some (ci 0):=by rw[List.getElem?_map,List.getElem?_append_right (by omega),hlj,Nat.sub_self,List.getElem?_replicate,if_pos (by omega)];rfl
    have hXl:j<(((S.ac n).take j++List.replicate (n.nodes.length - j) 0).map ci).length:=by simp[aw];omega
    have hXs:((S.ac n).take j++List.replicate (n.nodes.length - j) 0).set j x.card=(S.ac n).take (j+1)++List.replicate (n.nodes.length - (j+1)) 0:=by rw[List.set_append_right _ _ (by omega),hlj,Nat.sub_self,ets,show n.nodes.length - j=(n.nodes.length - (j+1))+1 by omega,List.replicate_succ,List.set_cons_zero,List.append_assoc];rfl
    have hp2:=hp.fr f1;obtain ⟨g2,hg2⟩:∃g2,g2=(g.new (.cells 3 [[.int .i64 0,.nils,.nils]] 0 false false)).put g.nx (.cells 3 [[.int .i64 x.card,pa,ra]] 0 false false):=⟨_,rfl⟩;have f2:Fr g g2:=by rw[hg2];exact Jb (by simp) λi hi=>by simp[H.get_put,show ¬i=g.nx by omega]
    have hp3:=hp.fr f2;have f7:g2.h.get g.nx=.cells 3 [[.int .i64 x.card,pa,ra]] 0 false false:=by rw[hg2];simp[H.get_put]
    refine dM (P:=λt' df g'=>df=[]/\g'=g2/\St t' ((48,b)::(5,.int .i64 (S.ae ((S.ac n).take j)))::LRd q)/\tat t' 6=.int .i64 (j:Int)/\tat t' 7=.hptr g.nx 0 0 0/\tat t' 50=.int .i64 (j:Int)/\tat t' 49=.int .i64 (n.nodes.length:Int)) ?_ ?_
    ·simp only[sz,simprocAttr,h48,h49,h50,r1,hlt,q1];rw[hg2];simp[St,LRd,sx,h1,h2,h4,h5,h48]
    clear h1 h2 h4 h5 h48 h49 h50;rintro t df g3 ⟨rfl,rfl,⟨h48,h5,h1,h2,h4,-⟩,h6,h7,h50,h49⟩;have hcr:=hp3.hc.rows;simp only[sz,simprocAttr,h4,h6,h7,f7,hp3.hq,hcr,hXl,c1,c2];refine bB (v:=cv) (sz:=1) (n:=1) (i:=j) (off:=0) (x:=.int .i64 x.card) (row':=ci x.card) hp3.hc hXr rfl rfl rfl λg4 hu4 n4 f4=>?_;rw[BJ,hXs] at hu4;have f74:g4.h.get g.nx=.cells 3 [[.int .i64 x.card,pa,ra]] 0 false false:=by rw[f4 _ λe=>by have:=(hp.hc.lt e).2;omega,f7]
    simp only[sz,simprocAttr,h5,h7,h49,h50,f74,w1];refine ⟨by simp[St,LRd,sx,h1,h2,h4,h48],⟨?_,?_,?_,hu4,?_,q2,by rw[n4];exact hp3.qn,hp.d1,hp.d2,hp.d3⟩,hall⟩
    ·rw[f4 0 λe=>by have:=(hp.hc.lt e).1;omega,hp3.h0]
    ·rw[f4 1 λe=>by have:=(hp.hc.lt e).1;omega,hp3.h1]
    ·rw[f4 q hp.d1,hp3.hq]
    ·exact hp3.hs.fr (by omega) λi hi=>f4 i λe=>hp.d3 i e hi
 ·rintro t df g ⟨rfl,h⟩;exact fin t g h
end
end
end Hx
end
section
namespace Hx
open Go
noncomputable section
def iA (ps:List Int)(i:Nat):Int:=if i=0 then -1 else ps[i - 1]?.getD 0
theorem tz {ps:List Int}{i:Nat}{p:Int}(h:ps[i]?=some p):iA ps (i+1)=p:=by unfold iA;rw[if_neg (by omega),Nat.add_sub_cancel,h];rfl
structure PlI (ps:List Int) (k:Int) (v i:Nat):Prop where
 rng:∀(j:Nat) (p:Int),j<i->ps[j]?=some p->0<=p/\p<k/\p≠(v:Int)
 inc:∀(j:Nat) (p q:Int),j+1<i->ps[j]?=some p->ps[j+1]?=some q->p<q
theorem GZ {ps:List Int}{k:Int}{v i:Nat}{p:Int}(h:PlI ps k v i)(hp:ps[i]?=some p)(h1:iA ps i<p)(h2:p<k)(h3:p≠(v:Int)):PlI ps k v (i+1):=by
 refine ⟨λj q hj hq=>?_,λj a c hj ha hc=>?_⟩
 ·by_cases e:j=i
  ·subst e;rw[hp] at hq;injection hq with hq;subst hq;refine ⟨?_,h2,h3⟩
   by_cases e0:j=0
   ·subst e0;unfold iA at h1;simp at h1;omega
   ·have hj1:j - 1<ps.length:=by have:=(List.getElem?_eq_some_iff.1 hp).1;omega
    have:=h.rng (j - 1) ps[j - 1] (by omega) (List.getElem?_eq_getElem hj1);unfold iA at h1;rw[if_neg e0,List.getElem?_eq_getElem hj1,Option.getD_some] at h1;omega
  ·exact h.rng j q (by omega) hq
 ·by_cases e:j+1=i
  ·subst e;rw[hp] at hc;injection hc with hc;subst hc;rw[tz ha] at h1;exact h1
  ·exact h.inc j a c (by omega) ha hc
theorem BX {ps:List Int}{k:Int}{v:Nat}(h:PlI ps k v ps.length):S.au ps k=true:=by
 unfold S.au;rw[List.all_eq_true];intro i hi;have hi:=List.mem_range.1 hi;have hp:ps[i]?=some ps[i]:=List.getElem?_eq_getElem hi;obtain ⟨r1,r2,-⟩:=h.rng i _ hi hp
 by_cases e:i=0
 ·subst e;simp only[S.aZ,hp,Option.getD_some];simp;omega
 ·have hq:ps[i - 1]?=some ps[i - 1]:=List.getElem?_eq_getElem (by omega);have:=h.inc (i - 1) _ ps[i] (by omega) hq (by rw[show i - 1+1=i by omega];exact hp);simp only[S.aZ,hp,hq,Option.getD_some];simp;omega
theorem NR.pl {n:Net}(h:NR n){v:Nat}{x:Node}(hx:n.nodes[v]?=some x){i:Nat}{p:Int}(hp:x.parents[i]?=some p):iA x.parents i<p/\p<n.nodes.length/\p≠(v:Int):=by
 have hm:=List.mem_of_getElem? hx;have hpl:=h.places x hm;have h1:=bp hpl p (List.mem_of_getElem? hp);have hl2:=h.l2;refine ⟨?_,h1.2,λe=>?_⟩
 ·unfold iA
  split
  ·omega
  ·rename_i e;have hil:=(List.getElem?_eq_some_iff.1 hp).1;have hq:x.parents[i - 1]?=some x.parents[i - 1]:=List.getElem?_eq_getElem (by omega);rw[hq,Option.getD_some];exact rx hpl hq (by rw[show i - 1+1=i by omega];exact hp)
 ·have hv:=(List.getElem?_eq_some_iff.1 hx).1;have ha:=rF.1 h.acyc v (by simp[S.am];exact hv);have hpar:Par (S.am n) v=S.aq x.parents:=by simp[Par,S.am,hx]
  have hb:(Par (S.am n) v).testBit v=true:=by rw[hpar,uf λy hy=>by have:=bp hpl y hy;omega,<-e];exact List.mem_of_getElem? hp
  have:=uv (p:=S.am n) (s:=Par (S.am n) v) (S.am n).length v hb;rw[this] at ha;cases ha
section
variable {d:Nat}{n:Net}{b cv sv:AV}{q:Nat}{rows:List (List AV)}
def S.aK (n:Net)(j:Nat)(m:Nat):List Nat:=(S.am n).take j++m::List.replicate (n.nodes.length - (j+1)) 0
structure Rd1 (n:Net) (x:Node) (b cv sv pa:AV) (q j p9 i:Nat) (t:T) (g:G):Prop where
 st:St t ((80,b)::(81,.int .i64 (n.nodes.length:Int))::(82,.int .i64 (j:Int))::(88,pa)::(8,.int .i64 (j:Int))::(9,.hptr p9 0 0 0)::(10,.int .i64 (iA x.parents i))::LRd q)
 hp:RdH n b cv sv q (S.ac n) (S.aK n j (S.aq (x.parents.take i))) g
 ok:PlI x.parents n.nodes.length j i
theorem IC {Q:QT}{t:T}{g:G}{x:Node}{pa:AV}{j p9:Nat}{c9:List AV}(hl:n.nodes.length<=8)(hN:SlR NoP 0 .nil n.nodes b)(hx:n.nodes[j]?=some x)(hpa:SlR NoP 0 .nil x.parents pa)
  (h0:Rd1 n x b cv sv pa q j p9 0 t g) (h90:tat t 90=.int .i64 0) (h89:tat t 89=.int .i64 (x.parents.length:Int)) (e9:g.h.get p9=.cells 3 [c9] 0 false false) (p9s:vid sv≠some p9)
  (bad:∀t g,¬NR n->g.h.get 1=.cells 5 [[.int .i64 0,.nils,.nils,.nils,.nils]] 0 false false->tat t 2=.hptr 1 0 0 0->tat t 3=.int .i64 50->Q .ret t [] g)
  (fin:∀t g',Rd1 n x b cv sv pa q j p9 x.parents.length t g'->g'.h.get p9=.cells 3 [c9] 0 false false->g.nx<=g'.nx->Q (.exit 4) t [] g'):wpL (wp C0 d none l4) Q t [] g:=by
 have hjl:=(List.getElem?_eq_some_iff.1 hx).1;have nl:=λg=>hN.len g;have rp:=λh=>(hpa.tree (h':=h) (Nat.le_refl 0)).ints;have hpsl:(S.am n).length=n.nodes.length:=by simp[S.am]
 have hypl:((S.am n).take j).length=j:=by rw[List.length_take,hpsl];omega
 simp only[l4];refine aI (m:=x.parents.length) hpa.1 (λi t df g'=>df=[]/\Rd1 n x b cv sv pa q j p9 i t g'/\g'.h.get p9=.cells 3 [c9] 0 false false/\g.nx<=g'.nx) ⟨rfl,h0,e9,Nat.le_refl _⟩ h90 h89 (by decide)
  (by rintro i t df g v s (rfl | rfl | rfl) ⟨a1,⟨⟨b1,b2,b3,b4,b5,b6,b7,b8,b9,b10,-⟩,c1,c2⟩,c3⟩<;>exact ⟨a1,⟨by simp[St,LRd,sx,b1,b2,b3,b4,b5,b6,b7,b8,b9,b10],c1,c2⟩,c3⟩) ?_ ?_
 ·rintro i t df g hi ⟨rfl,⟨⟨h80,h81,h82,h88,h8,h9,h10,h1,h2,h4,-⟩,hp,hok⟩,e9,en⟩ h90 h89;obtain ⟨p,hpi,htk,-⟩:=ac hi;have u1:i<(x.parents.map ci).length:=by simpa using hi
  have u2:(x.parents.map ci)[i]?=some (ci p):=by rw[List.getElem?_map,hpi];rfl
  have badn:¬(iA x.parents i<p/\p<n.nodes.length/\p≠(j:Int))->¬NR n:=λh hr=>h (hr.pl hx hpi);have q2:=hp.q2
  by_cases c1:p<=iA x.parents i
  ·simp only[sz,simprocAttr,h2,h10,h88,h90,rp,u1,u2,ci,hp.h1,c1];exact bad _ _ (badn (by omega)) (by simp[H.get_put]) (by simp[sx,h2]) (by simp[sx])
  by_cases c2:(n.nodes.length:Int)<=p
  ·simp only[sz,simprocAttr,h2,h4,h10,h88,h90,rp,u1,u2,ci,hp.hq,nl,hp.h1,c1,c2];exact bad _ _ (badn (by omega)) (by simp[H.get_put]) (by simp[sx,h2]) (by simp[sx])
  by_cases c3:p=(j:Int)
  ·subst c3;simp only[sz,simprocAttr,h2,h4,h8,h10,h88,h90,rp,u1,u2,ci,hp.hq,nl,hp.h1,c1,c2,eq_self];exact bad _ _ (badn (by omega)) (by simp[H.get_put]) (by simp[sx,h2]) (by simp[sx])
  have hok2:=GZ hok hpi (by omega) (by omega) c3;obtain ⟨p0,-,-⟩:=hok2.rng i p (by omega) hpi;obtain ⟨p,rfl⟩:=Int.eq_ofNat_of_zero_le p0;have hYr:((S.aK n j (S.aq (x.parents.take i))).map cu)[j]?=some (cu (S.aq (x.parents.take i))):=by rw[List.getElem?_map,S.aK,List.getElem?_append_right (by omega),hypl,Nat.sub_self];rfl
  have hYl:j<((S.aK n j (S.aq (x.parents.take i))).map cu).length:=by simp[S.aK,hpsl];omega
  have hYs:(S.aK n j (S.aq (x.parents.take i))).set j (S.aq (x.parents.take (i+1)))=S.aK n j (S.aq (x.parents.take (i+1))):=by simp only[S.aK];rw[List.set_append_right _ _ (by omega),hypl,Nat.sub_self,List.set_cons_zero]
  have em:S.aq (x.parents.take (i+1))=S.aq (x.parents.take i) ||| S.aP p:=by rw[htk,Er];rfl
  have hshl:cy .shl (.int .u64 1) (.int .i64 (p:Int))=.val (.int .u64 (S.aP p:Int)):=tk .i64 p;have hor:=Fj (S.aq (x.parents.take i)) (S.aP p) (ue _) (uB p);rw[<-em] at hor;have hsr:=hp.hs.rows;have hls:=tz hpi;refine gY (P:=λt' df g'=>df=[]/\g'=g/\St t' ((80,b)::(81,.int .i64 (n.nodes.length:Int))::(82,.int .i64 (j:Int))::(88,pa)::(8,.int .i64 (j:Int))::(9,.hptr p9 0 0 0)::(10,.int .i64 (iA x.parents i))::LRd q)/\tat t' 12=.int .i64 (p:Int)/\tat t' 90=.int .i64 (i:Int)/\tat t' 89=.int .i64 (x.parents.length:Int)) ?_ ?_
  ·simp only[sz,simprocAttr,h88,h90,rp,u1,u2,ci];simp[St,LRd,sx,h1,h2,h4,h8,h9,h10,h80,h81,h82,h88,h89]
  clear h1 h2 h4 h8 h9 h10 h80 h81 h82 h88 h89 h90;rintro t df g' ⟨rfl,rfl,⟨h80,h81,h82,h88,h8,h9,h10,h1,h2,h4,-⟩,h12,h90,h89⟩;refine gY (P:=λt' df g''=>df=[]/\g''=g'/\St t' ((80,b)::(81,.int .i64 (n.nodes.length:Int))::(82,.int .i64 (j:Int))::(88,pa)::(8,.int .i64 (j:Int))::(9,.hptr p9 0 0 0)::(10,.int .i64 (iA x.parents i))::LRd q)/\tat t' 12=.int .i64 (p:Int)/\tat t' 90=.int .i64 (i:Int)/\tat t' 89=.int .i64 (x.parents.length:Int)) ?_ ?_
  ·simp only[sz,simprocAttr,h4,h8,h10,h12,h89,h90,hp.hq,nl,c1,c2,c3];simp[St,LRd,sx,h1,h2,h4,h8,h9,h10,h80,h81,h82,h88]
  clear h1 h2 h4 h8 h9 h10 h12 h80 h81 h82 h88 h89 h90;rintro t df g'' ⟨rfl,rfl,⟨h80,h81,h82,h88,h8,h9,h10,h1,h2,h4,-⟩,h12,h90,h89⟩;simp only[sz,simprocAttr,sf,h4,h8,h12,hp.hq,hsr,hYl,hYr,cu,hshl,hor];refine bB (v:=sv) (sz:=1) (n:=1) (i:=j) (off:=0) (x:=.int .u64 (S.aq (x.parents.take (i+1)):Int)) (row':=cu (S.aq (x.parents.take (i+1)))) (hp.hs.fr (by simp;omega) λi _=>by simp) hYr rfl rfl rfl λg4 hu4 n4 f4=>?_;rw[show (((S.aK n j (S.aq (x.parents.take i))).map cu).set j (cu (S.aq (x.parents.take (i+1)))))=(S.aK n j (S.aq (x.parents.take (i+1)))).map cu from by rw[<-List.map_set,hYs]] at hu4;have f4':∀i,vid sv≠some i->g4.h.get i=g''.h.get i:=λi hi=>by rw[f4 i hi];simp
  have n4':g''.nx<=g4.nx:=by rw[n4];simp;omega
  simp only[sx,sy,↓reduceIte,Nat.reduceEqDiff];refine ⟨?_,⟨⟨?_,⟨?_,?_,?_,?_,?_,q2,?_,hp.d1,hp.d2,hp.d3⟩,hok2⟩,?_,?_⟩,h90,h89⟩
  ·simp only[List.reverse_cons,List.reverse_nil,List.nil_append,List.cons_append];exact aZ [false,false,false,false,false,false,false,false,false,true] [] (by simp[All2,an,aD]) (by decide) (by simp)
  ·rw[hls];simp[St,LRd,sx,h1,h2,h4,h8,h9,h80,h81,h82,h88]
  ·simp only[bumpG_h];rw[f4' 0 λe=>by have:=(hp.hs.lt e).1;omega,hp.h0]
  ·simp only[bumpG_h];rw[f4' 1 λe=>by have:=(hp.hs.lt e).1;omega,hp.h1]
  ·simp only[bumpG_h];rw[f4' q hp.d2,hp.hq]
  ·exact hp.hc.fr (by simp;omega) λi hi=>by simp only[bumpG_h];exact f4' i (hp.d3 i hi)
  ·exact hu4.fr (by simp) λi _=>by simp
  ·have:=hp.qn;simp;omega
  ·rw[f4' p9 p9s,e9]
  ·omega
 ·rintro t df g' ⟨rfl,h,e9,en⟩;exact fin t g' h e9 en
end
end
end Hx
end
section
namespace Hx
open Go
noncomputable section
section
variable {d:Nat}{n:Net}{b cv sv:AV}{q:Nat}{rows:List (List AV)}
structure Rd4 (n:Net) (b cv sv:AV) (q j:Nat) (t:T) (g:G):Prop where
 st:St t ((80,b)::LRd q)
 hp:RdH n b cv sv q (S.ac n) ((S.am n).take j++List.replicate (n.nodes.length - j) 0) g
 ok:∀x∈n.nodes.take j,S.au x.parents n.nodes.length=true/\S.aY n.grain (S.ac n) x=true
theorem I6 (n:Net)(j m:Nat)(hm:m<18446744073709551616):∀y∈S.aK n j m,y<18446744073709551616:=λy hy=>by
 simp only[S.aK,List.mem_append,List.mem_cons] at hy;rcases hy with hy | rfl | hy
 ·obtain ⟨x,-,rfl⟩:=List.mem_map.1 (List.mem_of_mem_take hy);exact ue _
 ·exact hm
 ·rw[(List.mem_replicate.1 hy).2];decide
theorem Own.natsV {g:G}{b:Nat}{v:AV}{l:List Nat}(h:Own g b v 1 (l.map cu))(hl:l.length<9223372036854775808)(hb:∀y∈l,y<18446744073709551616):SlR (λi=>vid v=some i) 0 g.h l v :=
 Own.sl (α:=Nat) h hl (by
  have:∀l:List Nat,(∀y∈l,y<18446744073709551616)->All2 (Rp.rp (α:=Nat) (λi=>vid v=some i) 0 g.h) l (l.map cu):=λl=>by
   induction l with
   | nil=>intro _;trivial
   | cons y l ih=>intro h;exact ⟨B5.2 ⟨rfl,h y (by simp)⟩,ih λz hz=>h z (by simp[hz])⟩
  exact this l hb) λ_ h=>h
theorem Own.nats' {g:G}{b:Nat}{v:AV}{l:List Nat}(h:Own g b v 1 (l.map cu))(hl:l.length<9223372036854775808)(hb:∀y∈l,y<18446744073709551616):SlR (λ_=>True) 0 g.h l v :=
 (h.natsV hl hb).wd λ_ _=>⟨trivial,rfl⟩
theorem Own.intsV {g:G}{b:Nat}{v:AV}{l:List Int}(h:Own g b v 1 (l.map ci))(hl:l.length<9223372036854775808):SlR (λi=>vid v=some i) 0 g.h l v :=
 Own.sl (α:=Int) h hl (All2.of_map (λa=>aF.2 rfl) _) λ_ h=>h
theorem Ia {n:Net}(h:NR n){x:Node}(hx:x∈n.nodes):S.aY n.grain (S.ac n) x=true:=by simp only[S.aY,S.aQ,Bool.and_eq_true,decide_eq_true_eq,List.all_eq_true];exact ⟨h.rows x hx,λr hr=>⟨⟨(h.row x hx r hr).1,(h.row x hx r hr).2.1⟩,(h.row x hx r hr).2.2⟩⟩
theorem ID {Q:QT}{t:T}{g:G}(hd:0<d)(hl:n.nodes.length<=8)(hg1:1<=n.grain/\n.grain<=60)(hcard:∀c∈S.ac n,1<=c/\c<=4)(hN:SlR NoP 0 .nil n.nodes b)(r1:∀h,ae h 3 b=some rows)(r2:rows.length=n.nodes.length)
  (r3:∀(i:Nat) (x:Node),n.nodes[i]?=some x->∃pa ra,rows[i]?=some [.int .i64 x.card,pa,ra]/\i<rows.length/\SlR NoP 0 .nil x.parents pa/\SlR NoP 0 .nil x.rows ra) (r4:0<n.nodes.length->t8 b=true)
  (h0:Rd4 n b cv sv q 0 t g) (h82:tat t 82=.int .i64 0) (h81:tat t 81=.int .i64 (n.nodes.length:Int))
  (bad:∀t g,¬NR n->g.h.get 1=.cells 5 [[.int .i64 0,.nils,.nils,.nils,.nils]] 0 false false->tat t 2=.hptr 1 0 0 0->tat t 3=.int .i64 50->Q .ret t [] g)
  (fin:∀t g,Rd4 n b cv sv q n.nodes.length t g->Q (.exit 2) t [] g):wpL (wp C0 d none l6) Q t [] g:=by
 simp only[l6,qE];refine aI (m:=n.nodes.length) (by omega) (λj t df g=>df=[]/\Rd4 n b cv sv q j t g) ⟨rfl,h0⟩ h82 h81 (by decide)
  (by rintro j t df g v s (rfl | rfl | rfl) ⟨a1,⟨b1,b2,b3,b4,-⟩,c1,c2⟩<;>exact ⟨a1,by simp[St,LRd,sx,b1,b2,b3,b4],c1,c2⟩) ?_ ?_
 ·rintro j t df g hj ⟨rfl,⟨⟨h80,h1,h2,h4,-⟩,hp,hok⟩⟩ h82 h81;obtain ⟨x,hx,htk,hxm⟩:=ac hj;obtain ⟨pa,ra,q1,hlt,hpa,hra⟩:=r3 j x hx;have hry:=r4 (by omega);have q2:=hp.q2;have qn:=hp.qn;have hpsl:(S.am n).length=n.nodes.length:=by simp[S.am]
  have hpj:(S.am n)[j]?=some (S.aq x.parents):=by simp[S.am,hx]
  obtain ⟨g2,hg2⟩:∃g2,g2=(g.new (.cells 3 [[.int .i64 0,.nils,.nils]] 0 false false)).put g.nx (.cells 3 [[.int .i64 x.card,pa,ra]] 0 false false):=⟨_,rfl⟩;have f2:Fr g g2:=by rw[hg2];exact Jb (by simp) λi hi=>by simp[H.get_put,show ¬i=g.nx by omega]
  have n2:g.nx<g2.nx:=by rw[hg2];simp
  have hp3:=hp.fr f2;have f9:g2.h.get g.nx=.cells 3 [[.int .i64 x.card,pa,ra]] 0 false false:=by rw[hg2];simp[H.get_put]
  have eY:(S.am n).take j++List.replicate (n.nodes.length - j) 0=S.aK n j (S.aq (x.parents.take 0)):=by rw[S.aK,show n.nodes.length - j=(n.nodes.length - (j+1))+1 by omega,List.replicate_succ];rfl
  have eY2:S.aK n j (S.aq x.parents)=(S.am n).take (j+1)++List.replicate (n.nodes.length - (j+1)) 0:=by rw[S.aK,List.take_add_one,hpj,List.append_assoc];rfl
  rw[eY] at hp3;refine dM (P:=λt' df g'=>df=[]/\g'=g2/\St t' ((80,b)::(81,.int .i64 (n.nodes.length:Int))::(82,.int .i64 (j:Int))::(8,.int .i64 (j:Int))::(9,.hptr g.nx 0 0 0)::LRd q)) ?_ ?_
  ·simp only[sz,simprocAttr,h80,h82,r1,hlt,q1];rw[hg2];simp[St,LRd,sx,h1,h2,h4,h80,h81,h82]
  clear h1 h2 h4 h80 h81 h82;rintro t df g3 ⟨rfl,rfl,⟨h80,h81,h82,h8,h9,h1,h2,h4,-⟩⟩;have pl:=λg=>hpa.len g;simp only[sz,simprocAttr,h9,f9,pl];refine IC (j:=j) (p9:=g.nx) (x:=x) (pa:=pa) (b:=b) (cv:=cv) (sv:=sv) (q:=q) hl hN hx hpa ⟨by simp[St,LRd,sx,iA,h1,h2,h4,h8,h9,h80,h81,h82],hp3,⟨λi p hi=>by omega,λi p r hi=>by omega⟩⟩ (by simp[sx]) (by simp[sx]) f9 (λe=>by have:=(hp.hs.lt e).2;omega) ?_ ?_
  ·intro t g hn a1 a2 a3;simp only[sx,sy];exact bad t g hn a1 a2 a3
  ·rintro t g4 ⟨⟨h80,h81,h82,h88,h8,h9,h10,h1,h2,h4,-⟩,hp4,hpl⟩ f94 n4;rw[List.take_length] at hp4;have hplc:=BX hpl;have hpin:∀p∈x.parents,0<=p/\p<((S.ac n).length:Int):=λp hp=>by rw[aw];exact bp hplc p hp
   have hpll:=dK hplc (by omega);have hyl:(S.aK n j (S.aq x.parents)).length<=8:=by simp[S.aK,hpsl];omega
   have hm:Agg ((n,S.ac n,S.aK n j (S.aq x.parents),[]):NwM) (λ_=>True) 0 g4.h (.agg [.int .i64 n.grain,b,cv,sv,.nils]) :=
    ⟨_,rfl,tG.2 ⟨b,cv,sv,.nils,rfl,hN.wide (Nat.le_refl 0),Own.sl (α:=Int) hp4.hc (by rw[aw];omega) (All2.of_map (λa=>aF.2 rfl) _) λ_ _=>trivial,hp4.hs.nats' (by omega) (I6 n j _ (ue _)),⟨by show 0<9223372036854775808;decide,rfl⟩⟩⟩
   have hxa:Agg x NoP 0 g4.h (.agg [.int .i64 x.card,pa,ra]):=⟨_,rfl,cH.2 ⟨pa,ra,rfl,hpa.tree (Nat.le_refl 0),hra.tree (Nat.le_refl 0)⟩⟩;have hfl:=El (d:=d) (g:=g4) hd hm hxa ⟨rfl,rfl⟩ hg1 hcard hpin (by omega);have hfl:ax C0 d N.aC [.agg [.int .i64 n.grain,b,cv,sv,.nils],.agg [.int .i64 x.card,pa,ra]] g4=.val (.bool (S.aY n.grain (S.ac n) x)):=hfl;cases hf:S.aY n.grain (S.ac n) x with
   | false =>
    rw[hf] at hfl;simp only[sz,simprocAttr,l8,h2,h4,h9,hp4.hq,hp4.h1,f94,hfl];refine bad _ _ (λhr=>?_) (by simp[H.get_put]) (by simp[sx,h2]) (by simp[sx]);have:=Ia hr hxm;rw[hf] at this;cases this
   | true =>
    rw[hf] at hfl;simp only[sz,simprocAttr,l8,h4,h9,hp4.hq,f94,hfl];rw[eY2] at hp4;refine ⟨⟨by simp[St,LRd,sx,h1,h2,h4,h80],hp4,λy hy=>?_⟩,by simp[h82],by simp[h81]⟩;rw[htk] at hy;rcases List.mem_append.1 hy with h | h
    ·exact hok y h
    ·rw[List.mem_singleton.1 h];exact ⟨hplc,hf⟩
 ·rintro t df g ⟨rfl,h⟩;exact fin t g h
end
theorem Hs (n:Net):Snb (zt n) 2:=jR λo=>iG (m:=2) (iF _) (be _) (by decide) (by decide)
theorem Dg {d:Nat}{g:G}{v:AV}{n:Net}(hd:0<d)(hm:Agg n NoP 0 g.h v):∃r,ax C0 d N.aD [v] g=.val r/\zt n NoP 0 .nil r:=by
 obtain ⟨b,rows,rfl,e,hm',hN,r1,r2,r3,r4⟩:=kY d hm;rw[wO];refine br zP (xs:=[.agg [.int .i64 n.grain,b]]) (by simp only[aE,e]) (by simp[ku]) (Hs n) (by decide) hd ?_;have nl:=λg=>hN.len g;simp only[sz,simprocAttr,ku];obtain ⟨g0,hg0⟩:∃g0,g0=(G.empty.new (.cells 2 [[.int .i64 n.grain,b]] 0 false false)).new (.cells 5 [[.int .i64 0,.nils,.nils,.nils,.nils]] 0 false false):=⟨_,rfl⟩;rw[<-hg0];have f0:g0.h.get 0=.cells 2 [[.int .i64 n.grain,b]] 0 false false:=by rw[hg0];simp[sx,H.get_put]
 have f1:g0.h.get 1=.cells 5 [[.int .i64 0,.nils,.nils,.nils,.nils]] 0 false false:=by rw[hg0];simp[sx]
 have f2:g0.nx=2:=by rw[hg0];simp[sx]
 clear hg0;obtain ⟨Qf,hQf⟩:∃Qf,Qf=fnQ C0 (d+1) [SR.cell true 5 2,SR.tm 3] (λv g'=>∃P,zt n P 0 g'.h v):=⟨_,rfl⟩;have bad:∀(t:T) (g:G),¬NR n->g.h.get 1=.cells 5 [[.int .i64 0,.nils,.nils,.nils,.nils]] 0 false false->tat t 2=.hptr 1 0 0 0->tat t 3=.int .i64 50->Qf .ret t [] g:=λt g hn a1 a2 a3=>by rw[hQf];exact J3 hn a1 a2 a3
 rw[<-hQf];simp only[rP]
 by_cases c1:n.grain<1
 ·rw[co];simp only[sz,simprocAttr,f0,f1,c1];exact bad _ _ (λh=>by have:=h.g1;omega) (by simp[H.get_put]) (by simp[sx]) (by simp[sx])
 by_cases c2:60<n.grain
 ·rw[co];simp only[sz,simprocAttr,f0,f1,c1,c2];exact bad _ _ (λh=>by have:=h.g2;omega) (by simp[H.get_put]) (by simp[sx]) (by simp[sx])
 by_cases c3:(n.nodes.length:Int)<1
 ·rw[co];simp only[sz,simprocAttr,f0,f1,c1,c2,c3,nl];exact bad _ _ (λh=>by have:=h.l1;omega) (by simp[H.get_put]) (by simp[sx]) (by simp[sx])
 by_cases c4:8<(n.nodes.length:Int)
 ·rw[co];simp only[sz,simprocAttr,f0,f1,c1,c2,c3,c4,nl];exact bad _ _ (λh=>by have:=h.l2;omega) (by simp[H.get_put]) (by simp[sx]) (by simp[sx])
 refine gY (P:=λt' df g'=>df=[]/\g'=g0/\St t' [(1,.hptr 0 0 0 0),(2,.hptr 1 0 0 0)]) ?_ ?_
 ·simp only[sz,simprocAttr,f0,c1,c2,c3,c4,nl];simp[St,sx]
 rintro t df g1 ⟨rfl,rfl,h1,h2,-⟩;have hl8:n.nodes.length<=8:=by omega
 refine gY (P:=λt' df g'=>df=[]/\∃cv sv q,St t' (LRd q)/\RdH n b cv sv q (List.replicate n.nodes.length 0) (List.replicate n.nodes.length 0) g') ?_ ?_
 ·simp only[sz,simprocAttr,sf,h1,f0,nl];refine kX (b:=2) (n:=n.nodes.length) (by unfold aQ;omega) (by unfold aQ;omega) (by first | (simp;done) | (simp;omega)) λcv g2 hcv n2 fr2 v2 lg2=>?_;simp only[sy] at n2 fr2 v2 lg2;have k0:g2.h.get 0=.cells 2 [[.int .i64 n.grain,b]] 0 false false:=by rw[fr2 0 (by omega),f0]
  simp only[sz,simprocAttr,sf,h1,k0,nl,lg2];refine kX (b:=2) (n:=n.nodes.length) (by unfold aQ;omega) (by unfold aQ;omega) (by first | (simp;done) | (simp;omega)) λsv g3 hsv n3 fr3 v3 lg3=>?_;simp only[sy] at n3 fr3 v3 lg3;simp only[sz,simprocAttr,sf,lg3,hcv.cell.1,hcv.cell.2,hsv.cell.1,hsv.cell.2];refine ⟨?_,cv,sv,g3.nx+1+1,?_,?_⟩
  ·simp only[List.reverse_cons,List.reverse_nil,List.nil_append,List.cons_append,G.new_lg,G.put_lg,setLog_lg];refine aZ [false,false,false,false,true,false,false,false,true,false,true,true] [(0,4),(4,5),(4,6),(4,7),(0,8),(1,8),(2,8),(3,8),(4,8),(0,10),(1,10),(2,10),(3,10),(4,10),(5,10),(6,10),(7,10),(8,10),(9,10)] (by simp[All2,an,aD]) (by decide) ?_;rintro p hp x y hx hy;simp only[List.mem_cons,List.not_mem_nil,or_false] at hp;rcases hp with rfl | rfl | rfl | rfl | rfl | rfl | rfl | rfl | rfl | rfl | rfl | rfl | rfl | rfl | rfl | rfl | rfl | rfl | rfl<;>(simp at hx hy;subst hx;subst hy;refine gP rfl rfl rfl rfl ?_ ?_ ?_<;>simp[an,aD,af]<;>omega)
  ·simp[St,LRd,sx,h1,h2]
  ·have fa:∀i,i<g2.nx->g3.h.get i=g2.h.get i:=λi hi=>by have:=fr3 i (by omega);simpa using this
   have fb:∀i,i<g1.nx->g2.h.get i=g1.h.get i:=λi hi=>by have:=fr2 i (by omega);simpa using this
   have hcv':Own g2 2 cv 1 ((List.replicate n.nodes.length (0:Int)).map ci):=by simpa [ci] using hcv
   have hsv':Own g3 2 sv 1 ((List.replicate n.nodes.length (0:Nat)).map cu):=by simpa [cu] using hsv
   have hne:∀i,i<g3.nx->¬i=g3.nx+1+1:=λi hi=>by omega
   refine ⟨?_,?_,?_,hcv'.fr (by simp;omega) λi hi=>?_,hsv'.fr (by simp;omega) λi hi=>?_,by omega,by first | (simp;done) | (simp;omega),λe=>?_,λe=>?_,λi hi hi2=>?_⟩
   ·simp[H.get_put];rw[fa 0 (by omega),k0]
   ·simp[H.get_put];rw[fa 1 (by omega),fb 1 (by omega),f1]
   ·simp[H.get_put]
   ·have:=ff v2 hi;simp[H.get_put,hne i (by omega)];rw[fa i (by omega)]
   ·have:=ff v3 hi;simp[H.get_put,hne i (by omega)]
   ·have:=ff v2 e;omega
   ·have:=ff v3 e;omega
   ·have:=ff v2 hi;have:=ff v3 hi2;omega
 rintro t df g ⟨rfl,cv,sv,q,⟨h1,h2,h4,-⟩,hp⟩;clear f0 f1 f2;have nlen:=nl g;simp only[sz,simprocAttr,h4,hp.hq,nl];refine IB (b:=b) (cv:=cv) (sv:=sv) (q:=q) hl8 hN r1 r2 r3 r4 ⟨by simp[St,LRd,sx,S.ae,h1,h2,h4],by simpa using hp,by simp⟩ (by simp[sx]) (by simp[sx]) ?_ ?_
 ·intro t g hn a1 a2 a3;simp only[sx];exact bad t g hn a1 a2 a3
 clear h1 h2 h4 hp nlen;rintro t g ⟨⟨h48,h5,h1,h2,h4,-⟩,hp,hok⟩;rw[List.take_of_length_le (by rw[aw];exact Nat.le_refl _)] at h5 hp;rw[Nat.sub_self,List.replicate_zero,List.append_nil] at hp;rw[List.take_length] at hok;have hcb:∀c∈S.ac n,1<=c/\c<=4:=λc hc=>by obtain ⟨y,hy,rfl⟩:=List.mem_map.1 hc;exact hok y hy
 simp only[sz,simprocAttr,qF]
 by_cases d1:1024<S.ae (S.ac n)
 ·simp only[sz,simprocAttr,h2,h5,hp.h1,d1];exact bad _ _ (λh=>by have:=h.worlds;omega) (by simp[H.get_put]) (by simp[sx,h2]) (by simp[sx])
 simp only[sz,simprocAttr,h4,h5,hp.hq,nl,d1];refine ID (b:=b) (cv:=cv) (sv:=sv) (q:=q) (Nat.succ_pos d) hl8 (by omega) hcb hN r1 r2 r3 r4 ⟨by simp[St,LRd,sx,h1,h2,h4],by simpa using hp,by simp⟩ (by simp[sx]) (by simp[sx]) ?_ ?_
 ·intro t g hn a1 a2 a3;simp only[sx];exact bad t g hn a1 a2 a3
 clear h1 h2 h4 h48 h5 hp;rintro t g ⟨⟨h80,h1,h2,h4,-⟩,hp,hok2⟩;rw[List.take_of_length_le (by simp[S.am])] at hp;rw[Nat.sub_self,List.replicate_zero,List.append_nil] at hp;rw[List.take_length] at hok2;have hpsl:(S.am n).length=n.nodes.length:=by simp[S.am]
 have hplt:∀y∈S.am n,y<18446744073709551616:=λy hy=>by obtain ⟨x,-,rfl⟩:=List.mem_map.1 hy;exact ue _
 have hplt2:∀y∈S.am n,y<2 ^ (S.am n).length:=λy hy=>by obtain ⟨x,hx,rfl⟩:=List.mem_map.1 hy;rw[hpsl];exact GA (by omega) λz hz=>bp (hok2 x hx).1 z hz
 obtain ⟨z,ez,o,-,oz,az,rfl,hoz,haz⟩:=EV (d:=d+1) (g:=g) (Nat.succ_pos d) (hp.hs.nats' (by omega) hplt) (by omega) hplt2;have haz:=nS.1 haz;injection haz with haz;subst haz;obtain ⟨_,e1,hoz⟩:=hoz;injection e1 with e1;subst e1;cases hac:S.bg (S.am n) with
 | false =>
  rw[hac] at ez;simp only[sz,simprocAttr,l9,h2,h4,hp.hq,hp.h1,ez];exact bad _ _ (λh=>by have:=h.acyc;rw[hac] at this;cases this) (by simp[H.get_put]) (by simp[sx,h2]) (by simp[sx])
 | true =>
  rw[hac] at ez;have hnr:S.aN n=true:=dI.2 ⟨by omega,by omega,by omega,by omega,hok,λx hx=>(hok2 x hx).1,by omega,hac,λx hx=>by
   have:=(hok2 x hx).2;simp only[S.aY,Bool.and_eq_true,decide_eq_true_eq] at this;exact this.1,λx hx r hr=>by
   have:=(hok2 x hx).2;simp only[S.aY,S.aQ,Bool.and_eq_true,decide_eq_true_eq,List.all_eq_true] at this;have:=this.2 r hr;exact ⟨this.1.1,this.1.2,this.2⟩⟩
  have q2:=hp.q2;have hq1:¬(1=q):=by omega
  have hq0:¬(q=1):=by omega
  have oc:=hoz.cell;rw[hQf];simp only[sz,simprocAttr,l9,h2,h4,hp.hq,hp.h1,ez,hq1,oc.1,oc.2];have fh:∀i,¬i=1->¬i=q->((g.h.put q (.cells 5 [[.int .i64 n.grain,b,cv,sv,oz]] 0 false false)).put 1 (.cells 5 [[.int .i64 n.grain,b,cv,sv,oz]] 0 false false)).get i=g.h.get i:=λi hi hi2=>by simp[H.get_put,hi,hi2]
  refine ⟨λ_=>True,o,trivial,_,_,rfl,⟨_,rfl,?_⟩,?_⟩
  ·rw[S.bJ,if_pos hnr];refine tG.2 ⟨b,cv,sv,oz,rfl,hN.wide (Nat.le_refl 0),(hp.hc.intsV (by rw[aw];omega)).wd λi hi=>⟨trivial,fh i (by have:=(hp.hc.lt hi).1;omega) λe=>hp.d1 (by rw[hi,e])⟩,(hp.hs.natsV (by omega) hplt).wd λi hi=>⟨trivial,fh i (by have:=(hp.hs.lt hi).1;omega) λe=>hp.d2 (by rw[hi,e])⟩,hoz.wide (Nat.le_refl 0)⟩
  ·rw[if_pos hnr];exact aF.2 rfl
end
end Hx
end
section
namespace Hx
open Go
noncomputable section
theorem BM {n:Net}{o:List Int}(h:S.aN n=true):S.bJ n o=(n,S.ac n,S.am n,o):=by rw[S.bJ,if_pos h]
theorem tB {n:Net}{P:Nat->Prop}{k:Nat}{h:H}{v:AV}(hv:zt n P k h v) :
  (S.aN n=false/\∃cs,v=.tup [.agg cs,.int .i64 50]/\cs.length=5) \/
  (S.aN n=true/\∃b cv sv oz o,v=.tup [.agg [.int .i64 n.grain,b,cv,sv,oz],.int .i64 0]/\SlR P k h n.nodes b/\SlR P k h (S.ac n) cv/\SlR P k h (S.am n) sv/\SlR P k h (o:List Int) oz):=by
 obtain ⟨o,-,a,c,rfl,⟨cs,rfl,hc⟩,hi⟩:=hv;have hi:=aF.1 hi;injection hi with hi;subst hi;cases hn:S.aN n with
 | false =>
  refine .inl ⟨rfl,cs,rfl,?_⟩;obtain ⟨a,b,c,e,rfl,-⟩:=tG.1 hc
  rfl
 | true =>
  rw[BM hn] at hc;obtain ⟨a,b,c,e,rfl,h1,h2,h3,h4⟩:=tG.1 hc;exact .inr ⟨rfl,a,b,c,e,o,rfl,h1,h2,h3,h4⟩
theorem zG {d k2:Nat}{g:G}{P2:Nat->Prop}{v w:AV}{n:Net}{e:List Int}(hd:0<d)(hm:Agg n NoP 0 g.h v)(he:SlR P2 k2 g.h e w):ax C0 d N.aB [v,w] g=.val (.int .i64 (S.aB n e)):=by
 obtain ⟨w',e2,hw'⟩:=ch he d;obtain ⟨b,rows,rfl,e1,hm',hN,r1,r2,r3,r4⟩:=kY d hm;have n2:=λg=>(hw' .nil).len g;have rb:=λh=>(hw' h).ints;rw[nq];refine lJ pc (xs:=[.agg [.int .i64 n.grain,b],w']) (by simp only[aE,e1,e2]) (by simp[fE]) hd ?_;have hle:=he.1;simp only[sz,simprocAttr,fE,iL,il];obtain ⟨z,ez,hz⟩:=Dg (d:=d+1) (g:=G.empty.new (.cells 2 [[.int .i64 n.grain,b]] 0 false false)) (Nat.succ_pos d) (n:=n) (v:=.agg [.int .i64 n.grain,b]) (hm' _);rcases tB hz with ⟨hn,cs,rfl,hcs⟩ | ⟨hn,b',cv,sv,oz,o,rfl,hb,hcv,-,-⟩
 ·have hs:S.aB n e=50:=by rw[S.aB,hn];rfl
  obtain ⟨a1,a2,a3,a4,a5,rfl⟩:∃a1 a2 a3 a4 a5,cs=[a1,a2,a3,a4,a5]:=by
   match cs,hcs with
   | [a1,a2,a3,a4,a5],_=>exact ⟨a1,a2,a3,a4,a5,rfl⟩
  simp only[sz,simprocAttr,ez,hs,show ¬((50:Int)=0) from by decide]
 ·have nb:=λg=>(hb.tree (h':=g) (Nat.le_refl 0)).len;have hbl:=hb.1;have rc:=λh=>(hcv.tree (h':=h) (Nat.le_refl 0)).ints;have hcl:=aw n
  by_cases hl:e.length=n.nodes.length
  ·have hl':(e.length:Int)=(n.nodes.length:Int):=by rw[hl]
   simp only[sz,simprocAttr,ez,n2,hb.len,hl];refine aI (m:=n.nodes.length) (by omega) (λj t df g=>df=[]/\St t [(24,w'),(5,.hptr 1 0 0 0),(4,.int .i64 0)]/\g.h.get 1=.cells 5 [[.int .i64 n.grain,b',cv,sv,oz]] 0 false false/\((List.range j).all λv=>decide (-1<=e[v]?.getD 0)&&decide (e[v]?.getD 0<(S.ac n)[v]?.getD 0))=true)
    ⟨rfl,by simp[St,sx],by simp[sx],by simp⟩ (by simp[sx]) (by simp[sx]) (by decide) (by rintro j t df g v s (rfl | rfl | rfl)<;>simp[St,sx]) ?_ ?_
   ·rintro j t df g hj ⟨rfl,⟨h24,h5,h4,-⟩,hg,ha⟩ h26 h25;obtain ⟨y,hy,-,-⟩:=ac (l:=e) (j:=j) (by omega);obtain ⟨c,hc,-,-⟩:=ac (l:=S.ac n) (j:=j) (by omega);have u1:j<(e.map ci).length:=by simp;omega
    have u2:(e.map ci)[j]?=some (ci y):=by rw[List.getElem?_map,hy];rfl
    have u3:j<((S.ac n).map ci).length:=by simp;omega
    have u4:((S.ac n).map ci)[j]?=some (ci c):=by rw[List.getElem?_map,hc];rfl
    have hst:((List.range (j+1)).all λv=>decide (-1<=e[v]?.getD 0)&&decide (e[v]?.getD 0<(S.ac n)[v]?.getD 0))=(decide (-1<=y)&&decide (y<c)):=by rw[List.range_succ,List.all_append,ha];simp[hy,hc]
    have bad:(decide (-1<=y)&&decide (y<c))=false->S.aB n e=2:=λh=>by
     have h1:S.aD n e=false:=by
      rw[S.aD];have:((List.range e.length).all λv=>decide (-1<=e[v]?.getD 0)&&decide (e[v]?.getD 0<(S.ac n)[v]?.getD 0))=false:=by rw[<-Bool.not_eq_true,List.all_eq_true];intro h2;have:=h2 j (List.mem_range.2 (by omega));rw[hy,hc,Option.getD_some,Option.getD_some,h] at this;cases this
      rw[this,Bool.and_false]
     rw[S.aB,hn,h1];rfl
    by_cases c1:y < -1
    ·have:=bad (by simp;omega);simp only[sz,simprocAttr,h24,h26,rb,u1,u2,ci,c1,this]
    ·by_cases c2:c<=y
     ·have:=bad (by simp;omega);simp only[sz,simprocAttr,h24,h5,h26,hg,rb,rc,u1,u2,u3,u4,ci,c1,c2,this]
     ·have h3:((List.range (j+1)).all λv=>decide (-1<=e[v]?.getD 0)&&decide (e[v]?.getD 0<(S.ac n)[v]?.getD 0))=true:=by rw[hst];simp;omega
      simp only[sz,simprocAttr,h24,h5,h4,h26,h25,hg,rb,rc,u1,u2,u3,u4,ci,c1,c2,St,h3]
   ·rintro t df g ⟨rfl,⟨h24,h5,h4,-⟩,hg,ha⟩;have h1:S.aD n e=true:=by rw[S.aD,hl,decide_eq_true rfl,ha];rfl
    have hs:S.aB n e=0:=by rw[S.aB,hn,h1];rfl
    simp only[sz,simprocAttr,im,hs]
  ·have hl':¬((e.length:Int)=(n.nodes.length:Int)):=by omega
   have h1:S.aD n e=false:=by rw[S.aD,decide_eq_false hl];rfl
   have hs:S.aB n e=2:=by rw[S.aB,hn,h1];rfl
   simp only[sz,simprocAttr,ez,n2,hb.len,hl',hs]
theorem H0 {d:Nat}{g:G}{x:Int}(hd:0<d):ax C0 d N.au [.int .i64 x] g=.val (.bool false):=by rw[rL];refine jr tU (xs:=[.int .i64 x]) (by simp only[aE,gR 0]) (by simp[kg]) hd ?_;simp only[sz,simprocAttr,kg]
theorem IS {d:Nat}{g:G}{x:Int}(hd:0<d):ax C0 d N.aG [.int .i64 x] g=.val (.bool false):=by rw[o7];refine jr qW (xs:=[.int .i64 x]) (by simp only[aE,gR 0]) (by simp[it]) hd ?_;simp only[sz,simprocAttr,it]
theorem Ik {d:Nat}{g:G}{x y:Int}(hd:0<d):ax C0 d N.aJ [.int .i64 x,.int .i64 y] g=.val (.bool (decide (x<y))):=by rw[sO];refine jr uY (xs:=[.int .i64 x,.int .i64 y]) (by simp only[aE,gR 0]) (by simp[lY]) hd ?_;simp only[sz,simprocAttr,lY,H0 (Nat.succ_pos d)]
theorem Gc {i j:Nat}(h:i+j<9223372036854775808):cy .shr (.int .u64 ((i+j:Nat):Int)) (.int .u64 1)=.val (.int .u64 (((i+j) / 2:Nat):Int)):=CC .u64 (i+j) 1 (by omega)
theorem ER {d k:Nat}{g:G}{P:Nat->Prop}{v:AV}{l:List Int}{x:Int}(hd:0<d)(hv:SlR P k g.h l v)(hl:l.length<=1000):∃(p:Nat) (b:Bool),p<=l.length/\ax C0 d N.aF [v,.int .i64 x] g=.val (.tup [.int .i64 (p:Int),.bool b]):=by
 obtain ⟨v',e,hv'⟩:=ch hv d;have nl:=λg=>(hv' .nil).len g;have rl:=λh=>(hv' h).ints;have key:∃r,ax C0 d N.aF [v,.int .i64 x] g=.val r/\(λP k h v=>∃o:Nat×Bool,o.1<=l.length/\wL (One (o.1:Int)) (One o.2) P k h v) NoP 0 .nil r:=by
  rw[iX];refine br jA (xs:=[v',.int .i64 x]) (by simp only[aE,e,gR 0]) (by simp[cm]) (jR λo=>iG (m:=1) (be _) (be _) (by decide) (by decide)) (by decide) hd ?_;simp only[sz,simprocAttr,cm,nl];refine n0 (λm t df g=>df=[]/\∃i j:Nat,m=j - i/\i<=j/\j<=l.length/\St t [(0,v'),(1,.int .i64 x),(6,.int .i64 (l.length:Int)),(7,.int .i64 (i:Int)),(8,.int .i64 (j:Int))]) l.length
   ⟨rfl,0,l.length,rfl,Nat.zero_le _,Nat.le_refl _,by simp[St,sx]⟩ ?_
  rintro m t df g ⟨rfl,i,j,rfl,hij,hj,h0,h1,h6,h7,h8,-⟩;simp only[sz,simprocAttr,dt,h7,h8];refine jd (λhb=>?_) (λhb=>?_)
  ·have hb:i<j:=by simpa using hb
   have w1:IntKind.wrap .i64 ((i:Int)+(j:Int))=((i+j:Nat):Int):=by rw[aB (by omega) (by omega)];simp
   have w2:IntKind.wrap .u64 ((i+j:Nat):Int)=((i+j:Nat):Int):=sE (by omega) (by omega);have hm:(i+j) / 2<l.length:=by omega
   have hm1:i<=(i+j) / 2:=by omega
   have hm2:(i+j) / 2<j:=by omega
   have hsh:=Gc (i:=i) (j:=j) (by omega);generalize (i+j) / 2=c at hm hm1 hm2 hsh;have w3:IntKind.wrap .i64 (c:Int)=(c:Int):=aB (by omega) (by omega);have w4:IntKind.wrap .i64 ((c:Int)+1)=((c+1:Nat):Int):=by rw[aB (by omega) (by omega)];simp
   obtain ⟨y,hy,-,-⟩:=ac (l:=l) (j:=c) hm;have u1:c<(l.map ci).length:=by simpa using hm
   have u2:(l.map ci)[c]?=some (ci y):=by rw[List.getElem?_map,hy];rfl
   simp only[sz,simprocAttr,h0,h1,h7,h8,w1,w2,hsh,w3,rl,u1,u2,ci,Ik (Nat.succ_pos d)];refine jd (λhb=>?_) (λhb=>?_)
   ·simp only[sz,simprocAttr,w4];exact ⟨j - (c+1),by omega,c+1,j,rfl,by omega,hj,by simp[St,sx,h0,h1,h6,h8]⟩
   ·simp only[sz,simprocAttr];exact ⟨c - i,by omega,i,c,rfl,by omega,by omega,by simp[St,sx,h0,h1,h6,h7]⟩
  ·simp only[sz,simprocAttr,du,h6,h7];have hil:i<=l.length:=by omega
   by_cases c1:i<l.length
   ·obtain ⟨y,hy,-,-⟩:=ac (l:=l) (j:=i) c1;have u1:i<(l.map ci).length:=by simpa using c1
    have u2:(l.map ci)[i]?=some (ci y):=by rw[List.getElem?_map,hy];rfl
    have c2:(i:Int)<(l.length:Int):=by omega
    cases hq:decide (y=x) with
    | true =>
     simp only[sz,simprocAttr,h0,h1,h7,c2,rl,u1,u2,ci,hq];exact ⟨λ_=>True,(i,true),hil,_,_,rfl,aF.2 rfl,nS.2 rfl⟩
    | false =>
     simp only[sz,simprocAttr,h0,h1,h7,c2,rl,u1,u2,ci,hq,IS (Nat.succ_pos d)];exact ⟨λ_=>True,(i,false),hil,_,_,rfl,aF.2 rfl,nS.2 rfl⟩
   ·have c2:¬((i:Int)<(l.length:Int)):=by omega
    simp only[sz,simprocAttr,c2];exact ⟨λ_=>True,(i,false),hil,_,_,rfl,aF.2 rfl,nS.2 rfl⟩
 obtain ⟨r,hr,⟨p,b⟩,hp,a,c,rfl,ha,hc⟩:=key;have ha:=aF.1 ha;have hc:=nS.1 hc;injection ha with ha;injection hc with hc;exact ⟨p,b,hp,by rw[hr,ha,hc]⟩
theorem lS (d:Nat)(xs:List AV)(g:G):ax C0 d N.bg xs g=jg d xs g:=by kernel_rfl
def CloneR (b:Nat)(l:List Int)(u:AV)(g:G):Prop:=(l=[]/\u=.nils)\/∃id lo,b<=id/\id<g.nx/\u=.hsl id 0 0 l.length none/\g.h.get id=.cells 1 (l.map ci) 0 lo false/\(0<l.length->lo=true)/\(l.length=0->lo=false)
theorem CloneR.fr {b:Nat}{l:List Int}{u:AV}{g g':G}(h:CloneR b l u g)(f:Fr g g'):CloneR b l u g':=by
 rcases h with h | ⟨id,lo,h1,h2,h3,h4,h5⟩
 ·exact .inl h
 ·exact .inr ⟨id,lo,h1,Nat.lt_of_lt_of_le h2 f.1,h3,by rw[f.2 id h2,h4],h5⟩
theorem yx {g:G}{id:Nat}{x:AV}{l:List Int}{K:AV->G->Prop}{D:ADf->Prop}(hx:ae g.h 1 x=some (l.map ci))(h3:g.h.get id=.cells 1 [] 0 false false)(hid:id<g.nx)(hr:l.length<=1000)
  (k:∀u g',CloneR id l u g'->Fr g g'->K u g'):(cP 1 8 (.hsl id 0 0 0 none) x g).sat K g D:=by
 unfold cP;rw[hx];cases l with
 | nil =>
  simp only[aY,G.get_eq,h3,ap,aa,Nat.beq_refl,Bool.true_and,Nat.ble_eq,Bool.and_eq_true,List.map_nil,List.length_nil];rw[if_pos ⟨by simp,by simp⟩,if_pos (by simp)];exact k _ _ (.inr ⟨id,false,Nat.le_refl _,hid,rfl,by simpa using h3,by simp,by simp⟩) (Fr.refl g)
 | cons y l =>
  simp only[aY,G.get_eq,h3,ap,aa,Nat.beq_refl,Bool.true_and,Nat.ble_eq,Bool.and_eq_true,List.map_cons,List.length_cons,List.length_nil,List.length_map,Nat.zero_add,Option.getD_none,Nat.sub_zero];rw[if_pos ⟨by omega,by unfold aQ;simp at hr;omega⟩,if_neg (by omega),if_pos (by rfl)];refine k _ _ (.inr ⟨g.nx,true,by omega,by simp,by simp,?_,by simp,by simp⟩) (Fr.new g _);simp[aS,a_,a9]
theorem DY {d:Nat}{g:G}{l:List Int}{v:AV}{K:AV->G->Prop}{D:ADf->Prop}(hv:SlR NoP 0 .nil l v)(hl2:l.length<=1000)(kk:∀u g',CloneR g.nx l u g'->Fr g g'->K u g') :
  (ax C0 d N.ap [v] g).sat K g D:=by
 rw[gn];refine yF iK (by simp[bg]) ?_
 by_cases hn:v=.nils
 ·subst hn;have hl:l=[]:=by have h:=hv.2;unfold SlV at h;exact h
  have hne:Bq false .slice .nils .nils=.val (.bool true):=rfl;simp only[sz,simprocAttr,bg,hne];exact kk _ _ (.inl ⟨hl,rfl⟩) (Fr.refl g)
 ·have hne:Bq false .slice v .nils=.val (.bool false):=by
   have h:=hv.2;unfold SlV at h
   split at h
   ·exact absurd rfl hn
   ·rfl
   ·rfl
   ·exact h.1.elim
   ·exact h.elim
  simp only[sz,simprocAttr,bg,hne];refine yx (l:=l) ((hv.tree (Nat.le_refl _)).ints) (by simp[H.get_put]) (by simp) hl2 λu g1 hu f1=>?_;simp only[sz,simprocAttr];exact kk u g1 hu ((Fr.new g _).trans f1)
theorem qe (ps:List Int)(k:Nat)(v:Int)(hk:k<=ps.length):(S.aw ps k v).length=ps.length+1:=by simp[S.aw];omega
theorem Bz {d b p id2 ep2:Nat}{g:G}{l:List Int}{u:AV}{x:Int}{lim:Option Nat}{lo fz:Bool}(hu:CloneR b l u g)(hl:l.length<=1000)(hp:p<=l.length)(h2:g.h.get id2=.cells 1 [ci x] ep2 lo fz)(hne:∀i,vid u=some i->i≠id2)(hb:b<=g.nx) :
  ∃w g',ax C0 d N.bg [u,.int .i64 (p:Int),.hsl id2 ep2 0 1 lim] g=.upd w g'/\Own g' b w 1 ((S.aw l p x).map ci)/\g.nx<=g'.nx/\(∀i,i<g.nx->vid u≠some i->g'.h.get i=g.h.get i):=by
 rw[lS];have e0:jg d [u,.int .i64 (p:Int),.hsl id2 ep2 0 1 lim] g=tX id2 p u [ci x] g:=by
  show (match g.get id2 with
   | .cells sz2 vrows ep2' _ _=>am ((((Nat.beq sz2 1&&Nat.beq ep2 ep2')&&Nat.beq 0 0)&&Nat.beq 1 (bh vrows))&&Nat.ble 1 1) (tX id2 p u vrows g) .fail
   | _=>.fail)=_
  rw[G.get_eq,h2];dsimp only;rw[aa,if_pos];simp[ap]
 rw[e0];have hnew:p=0->l=[]->∃w g',nK p [ci x] g=.upd w g'/\Own g' b w 1 ((S.aw l p x).map ci)/\g.nx<=g'.nx/\(∀i,i<g.nx->vid u≠some i->g'.h.get i=g.h.get i):=λh1 h2=>by
  subst h1;subst h2;refine ⟨.hsl g.nx 0 0 1 none,g.new (.cells 1 [ci x] 0 true false),?_,.inr ⟨g.nx,0,true,hb,by simp,rfl,by simp[aS,S.aw]⟩,by simp,λi hi _=>?_⟩
  ·unfold nK;rw[aa,if_pos]
   ·rfl
   ·simp[ap]
  ·rw[G.new_h,aq _ _ _ (by omega)]
 rcases hu with ⟨rfl,rfl⟩ | ⟨id,lo2,h3,h4,rfl,h5,h6,h7⟩
 ·exact hnew (by simpa using hp) rfl
 ·cases l with
  | nil =>
   have e1:tX id2 p (.hsl id 0 0 ([]:List Int).length none) [ci x] g=nK p [ci x] g:=by rw[h7 rfl] at h5;simp only[tX,G.get_eq,h5,List.map_nil];rw[aa,if_pos];simp
   rw[e1];exact hnew (by simpa using hp) rfl
  | cons y l =>
   rw[h6 (by simp)] at h5;have hid:=hne id rfl;have e1:tX id2 p (.hsl id 0 0 (y::l).length none) [ci x] g=.upd (.hsl id 1 0 ((y::l).length+1) none) (g.put id (.cells 1 ((S.aw (y::l) p x).map ci) 1 true false)):=by
    simp only[tX,G.get_eq,h5,List.map_cons];rw[aa,if_pos]
    ·simp[ap,a_,a9,S.aw]
    ·rw[show Nat.beq 1 1=true from rfl];have hb1:Nat.beq id id2=false:=by rw[<-Bool.not_eq_true,Nat.beq_eq];exact hid
     simp only[hb1,iB,ap,Nat.beq_refl,Bool.and_eq_true,Nat.ble_eq,List.length_cons,List.length_map,List.length_nil,true_and,and_true];simp at hp hl
     (repeat' apply And.intro)<;>first | omega | (simp;done)
   rw[e1];refine ⟨_,_,rfl,.inr ⟨id,1,true,h3,by simpa using h4,?_,by simp[aS]⟩,by simp,λi hi hv=>?_⟩
   ·rw[List.length_map,qe _ _ _ hp]
   ·rw[G.put_h,aq _ _ _ (λe=>hv (by rw[e];rfl))]
structure FacH (bx nd:List AV) (w u:AV) (vars cards:List Int) (beh:Int) (q:Nat) (g:G):Prop where
 h0:g.h.get 0=.cells 5 [bx] 0 false false
 h1:g.h.get 1=.cells 3 [[.nils,.nils,.nils]] 0 false false
 h2:g.h.get 2=.cells 3 [nd] 0 false false
 h8:g.h.get q=.cells 3 [[w,u,.nils]] 0 false false
 h9:g.h.get (q+1)=.cells 1 [[.int .i64 beh]] 0 false false
 hw:Own g 3 w 1 (vars.map ci)
 hu:Own g (q+2) u 1 (cards.map ci)
 wq:∀i,vid w=some i->i<q
 q3:3<=q
 qn:q+2<=g.nx
def lP (q:Nat):List (Nat×AV):=[(2,.hptr 0 0 0 0),(4,.hptr 1 0 0 0),(5,.hptr 2 0 0 0),(8,.hptr q 0 0 0),(9,.hptr (q+1) 0 0 0)]
structure FacJ (gr:Int) (b cv sv oz:AV) (nd:List AV) (w:AV) (cs vars:List Int) (pl q j:Nat) (t:T) (g:G):Prop where
 st:St t ((38,w)::(6,.int .i64 (pl:Int))::lP q)
 hp:∃u,FacH [.int .i64 gr,b,cv,sv,oz] nd w u vars (S.aa cs (vars.take j)) (S.ae (S.aa cs ((vars.take j).drop (pl+1)))) q g
theorem uU {l:List Int}{j k:Nat}{p:Int}(hp:l.take (j+1)=l.take j++[p])(hj:j<l.length)(h:k<j):(l.take (j+1)).drop (k+1)=(l.take j).drop (k+1)++[p]:=by rw[hp,List.drop_append_of_le_length (by simp;omega)]
theorem uT {l:List Int}{j k:Nat}(h:j<=k):(l.take (j+1)).drop (k+1)=(l.take j).drop (k+1):=by rw[List.drop_of_length_le (by simp;omega),List.drop_of_length_le (by simp;omega)]
theorem JN {d pl q:Nat}{gr:Int}{b cv sv oz w:AV}{nd:List AV}{cs vars:List Int}{Q:QT}{t:T}{g:G}(rc:∀h,ae h 1 cv=some (cs.map ci))(hvl:vars.length<=16)(hvp:∀p∈vars,0<=p/\p<cs.length)(hcb:∀c∈cs,1<=c/\c<=4)(hpl:pl<=1000)
  (h0:FacJ gr b cv sv oz nd w cs vars pl q 0 t g) (h40:tat t 40=.int .i64 0) (h39:tat t 39=.int .i64 (vars.length:Int))
  (fin:∀t g,FacJ gr b cv sv oz nd w cs vars pl q vars.length t g->Q (.exit 0) t [] g):wpL (wp C0 d none dk) Q t [] g:=by
 simp only[dk,gy];refine aI (m:=vars.length) (by omega) (λj t df g=>df=[]/\FacJ gr b cv sv oz nd w cs vars pl q j t g) ⟨rfl,h0⟩ h40 h39 (by decide)
  (by rintro j t df g v s (rfl | rfl | rfl) ⟨a1,⟨b1,b2,b3,b4,b5,b6,b7,-⟩,c1⟩<;>exact ⟨a1,by simp[St,lP,sx,b1,b2,b3,b4,b5,b6,b7],c1⟩) ?_ ?_
 ·rintro j t df g hj ⟨rfl,⟨h38,h6,h2,h4,h5,h8,h9,-⟩,u,hp⟩ h40 h39;obtain ⟨p,hpj,htk,hpm⟩:=ac hj;obtain ⟨hp0,hpc⟩:=hvp p hpm;obtain ⟨pn,rfl⟩:=Int.eq_ofNat_of_zero_le hp0;have hpn:pn<cs.length:=by omega
  have hcp:cs[pn]?=some cs[pn]:=List.getElem?_eq_getElem hpn;have hcb1:=hcb _ (List.getElem_mem hpn);generalize cs[pn]=c at hcp hcb1;have u1:j<(vars.map ci).length:=by simpa using hj
  have u2:(vars.map ci)[j]?=some (ci (pn:Int)):=by rw[List.getElem?_map,hpj];rfl
  have u3:pn<(cs.map ci).length:=by simpa using hpn
  have u4:(cs.map ci)[pn]?=some (ci c):=by rw[List.getElem?_map,hcp];rfl
  have rw_:=hp.hw.rows;have q3:=hp.q3;have qn:=hp.qn;have epc:S.aa cs (vars.take (j+1))=S.aa cs (vars.take j)++[c]:=by rw[htk,dJ];simp[S.aa,hcp]
  have hle:(S.aa cs (vars.take j)).length<=16:=by simp[S.aa];omega
  have nq1:¬q=q+1:=by omega
  have nq2:¬q+1=q:=by omega
  refine dM (P:=λt' df g'=>df=[]/\g'=g/\St t' ((40,.int .i64 (j:Int))::(39,.int .i64 (vars.length:Int))::(10,.int .i64 (j:Int))::(11,.int .i64 (pn:Int))::(38,w)::(6,.int .i64 (pl:Int))::lP q)) ?_ ?_
  ·simp only[sz,simprocAttr,h38,h40,rw_,u1,u2,ci];simp[St,lP,sx,h38,h6,h2,h4,h5,h8,h9,h40,h39]
  clear h38 h6 h2 h4 h5 h8 h9 h40 h39;rintro t df g1 ⟨rfl,rfl,⟨h40,h39,h10,h11,h38,h6,h2,h4,h5,h8,h9,-⟩⟩;refine gY (P:=λt' df g'=>df=[]/\St t' ((40,.int .i64 (j:Int))::(39,.int .i64 (vars.length:Int))::(10,.int .i64 (j:Int))::(11,.int .i64 (pn:Int))::(38,w)::(6,.int .i64 (pl:Int))::lP q) /\
   ∃u,FacH [.int .i64 gr,b,cv,sv,oz] nd w u vars (S.aa cs (vars.take (j+1))) (S.ae (S.aa cs ((vars.take j).drop (pl+1)))) q g') ?_ ?_
  ·simp only[sz,simprocAttr,sf,h8,h2,h11,hp.h8,hp.h0,rc,u3,u4,ci];refine cx (b:=q+2) (rows:=(S.aa cs (vars.take j)).map ci) (new:=[[.int .i64 c]]) (hp.hu.fr (by simp;omega) λi hi=>?_) (by simp[sx,sy]) (by simp;omega) (by unfold aQ;simp;omega) λu' ga hu' n1 f1 vid1 lg1=>?_
   ·have:=(hp.hu.lt hi).2;simp[H.get_put];omega
   simp only[sx,sy] at n1 f1 vid1 lg1;have hq8:ga.h.get q=.cells 3 [[w,u,.nils]] 0 false false:=by rw[f1 q (by omega) (λe=>by have:=(hp.hu.lt e).1;omega),if_neg (by omega),hp.h8]
   simp only[sz,simprocAttr,sf,h8,hq8,hu'.cell.1,hu'.cell.2];refine ⟨?_,?_,u',?_⟩
   ·simp only[List.reverse_cons,List.reverse_nil,List.nil_append,List.cons_append];refine aZ [false,false,false,false,false,false,false,true,true,false,true] [(0,7),(1,7)] (by simp[All2,an,aD]) (by decide) ?_;rintro p hp' x y hx hy;simp only[List.mem_cons,List.not_mem_nil,or_false] at hp';rcases hp' with rfl | rfl<;>(simp at hx hy;subst hx;subst hy;refine gP rfl rfl rfl rfl ?_ ?_ ?_<;>simp[an,aD,af]<;>omega)
   ·simp[St,lP,sx,h38,h6,h2,h4,h5,h8,h9,h40,h39,h10,h11]
   ·have keep:∀i,i<q+2->i≠q->(ga.h.put q (.cells 3 [[w,u',.nils]] 0 false false)).get i=g1.h.get i:=λi hi hne=>by simp only[H.get_put,if_neg hne];rw[f1 i (by omega) (λe=>by have:=(hp.hu.lt e).1;omega),if_neg (by omega)]
    refine ⟨(keep 0 (by omega) (by omega)).trans hp.h0,(keep 1 (by omega) (by omega)).trans hp.h1,(keep 2 (by omega) (by omega)).trans hp.h2,by simp[H.get_put],(keep (q+1) (by omega) (by omega)).trans hp.h9,hp.hw.fr (by simp;omega) λi hi=>keep i (by have:=hp.wq i hi;omega) (by have:=hp.wq i hi;omega),?_,hp.wq,q3,by simp;omega⟩;rw[epc,List.map_append];exact hu'.fr (by simp;omega) λi hi=>by have:=(hu'.lt hi).1;simp[H.get_put,show ¬i=q by omega]
  clear hp qn rw_ h40 h39 h10 h11 h38 h6 h2 h4 h5 h8 h9;rintro t df g ⟨rfl,⟨h40,h39,h10,h11,h38,h6,h2,h4,h5,h8,h9,-⟩,u,hp⟩
  by_cases hk:pl<j
  ·have hk':(pl:Int)<(j:Int):=by omega
   have ed:S.ae (S.aa cs ((vars.take (j+1)).drop (pl+1)))=S.ae (S.aa cs ((vars.take j).drop (pl+1)))*c:=by rw[uU htk hj hk,dJ,ni];simp[S.aa,hcp,S.ae]
   have hpb:=bz (l:=S.aa cs ((vars.take (j+1)).drop (pl+1))) (a8 hcb λp hp=>hvp p (List.mem_of_mem_take (List.mem_of_mem_drop hp)));have hp4:=fe (a:=(S.aa cs ((vars.take (j+1)).drop (pl+1))).length) (b:=16) (by simp[S.aa];omega);have h48:(4:Int) ^ 16=4294967296:=by decide
   have w1:IntKind.wrap .i64 (S.ae (S.aa cs ((vars.take j).drop (pl+1)))*c)=S.ae (S.aa cs ((vars.take (j+1)).drop (pl+1))):=by rw[<-ed,aB (by omega) (by omega)]
   simp only[sz,simprocAttr,sf,h10,h6,hk',h9,hp.h9,h2,hp.h0,h11,rc,u3,u4,ci,w1];refine ⟨?_,⟨?_,u,?_⟩,h40,h39⟩
   ·simp only[List.reverse_cons,List.reverse_nil,List.nil_append,List.cons_append];exact aZ [false,false,false,false,false,false,false,true] [] (by simp[All2,an,aD]) (by decide) (by simp)
   ·simp[St,lP,sx,h38,h6,h2,h4,h5,h8,h9]
   ·have qn:=hp.qn;have keep:∀i,i≠q+1->(g.h.put (q+1) (.cells 1 [[.int .i64 (S.ae (S.aa cs ((vars.take (j+1)).drop (pl+1))))]] 0 false false)).get i=g.h.get i:=λi hne=>by simp only[H.get_put,if_neg hne]
    exact ⟨(keep 0 (by omega)).trans hp.h0,(keep 1 (by omega)).trans hp.h1,(keep 2 (by omega)).trans hp.h2,(keep q (by omega)).trans hp.h8,by simp[H.get_put],hp.hw.fr (by simp;omega) λi hi=>keep i (by have:=hp.wq i hi;omega),hp.hu.fr (by simp;omega) λi hi=>keep i (by have:=(hp.hu.lt hi).1;omega),hp.wq,q3,by simp;omega⟩
  ·have hk':¬((pl:Int)<(j:Int)):=by omega
   have ed:(vars.take (j+1)).drop (pl+1)=(vars.take j).drop (pl+1):=uT (by omega);simp only[sz,simprocAttr,h10,h6,hk'];refine ⟨⟨by simp[St,lP,sx,h38,h6,h2,h4,h5,h8,h9],u,?_⟩,h40,h39⟩;rw[ed];exact hp
 ·rintro t df g ⟨rfl,h⟩;exact fin t g h
def GH (h:H)(n:Nat):G:=⟨h,n,[]⟩
@[simp] theorem GH_h (h:H) (n:Nat):(GH h n).h=h:=rfl
@[simp] theorem GH_nx (h:H) (n:Nat):(GH h n).nx=n:=rfl
theorem Own.gh {g:G}{b sz i:Nat}{v:AV}{rows:List (List AV)}(h:Own g b v sz rows)(hv:vid v=some i):Own (GH g.h (i+1)) b v sz rows:=by
 rcases h with h | ⟨id,ep,lo,h1,h2,rfl,h3⟩
 ·exact .inl h
 ·injection hv with hv;subst hv;exact .inr ⟨id,ep,lo,h1,by simp,rfl,h3⟩
structure FacG (g0:G) (iw:Nat) (W:AV) (rws:List (List Int)) (B C t:Nat) (h:H):Prop where
 fr:∀i,i<g0.nx->i≠iw->h.get i=g0.h.get i
 ow:Own (GH h (iw+1)) 3 W 1 ((S.aJ rws B C t).map ci)
theorem FacG.up {g0:G}{iw:Nat}{W:AV}{rws:List (List Int)}{B C t:Nat}{h h':H}(hf:FacG g0 iw W rws B C t h)(hv:vid W=some iw)(hi:iw<g0.nx)(hh:∀i,i<g0.nx->h'.get i=h.get i):FacG g0 iw W rws B C t h' :=
 ⟨λi h1 h2=>by rw[hh i h1,hf.fr i h1 h2],hf.ow.fr (by simp) λi h=>by rw[hv] at h;injection h with h;subst h;exact hh _ hi⟩
structure FacI (g0 g2:G) (iw:Nat) (W z:AV) (r:List Int) (rws:List (List Int)) (B C q j i:Nat) (t:T) (g:G):Prop where
 st:St t ((78,z)::(12,.int .i64 (j:Int))::lP q)
 hp:FacG g0 iw W rws B C (j*C+i) g.h
 nx:g2.nx<=g.nx
 fr:∀i,g0.nx<=i->i<g2.nx->g.h.get i=g2.h.get i
theorem JO {d A B C q j iw:Nat}{w u W z:AV}{r:List Int}{rws:List (List Int)}{pa ra:AV}{rd:Option Nat}{Q:QT}{t:T}{g g0 g2:G}(hz:SlR NoP 0 .nil r z)(hr:rws[j]?=some r)(hrl:r.length=C)(hB:0<B)(hA:rws.length=A*B)(hsz:rws.length*C<=1000000)
  (e8:g0.h.get q=.cells 3 [[w,u,W]] 0 false false) (e2:g0.h.get 2=.cells 3 [[.int .i64 (C:Int),pa,ra]] 0 false false) (e9:g0.h.get (q+1)=.cells 1 [[.int .i64 (B:Int)]] 0 false false) (hq:q+1<g0.nx) (hq3:3<=q) (hiw:iw<g0.nx) (hvw:vid W=some iw) (hiq:q+1<iw) (hg2:g0.nx<=g2.nx)
  (h0:FacI g0 g2 iw W z r rws B C q j 0 t g) (h80:tat t 80=.int .i64 0) (h79:tat t 79=.int .i64 (r.length:Int))
  (fin:∀t g,FacI g0 g2 iw W z r rws B C q j r.length t g->Q (.exit 4) t [] g):wpL (wp C0 d rd dl) Q t [] g:=by
 simp only[dl];refine aI (m:=r.length) hz.1 (λi t df g=>df=[]/\FacI g0 g2 iw W z r rws B C q j i t g) ⟨rfl,h0⟩ h80 h79 (by decide)
  (by rintro j t df g v s (rfl | rfl | rfl) ⟨a1,⟨b1,b2,b3,b4,b5,b6,b7,-⟩,c1,c2,c3⟩<;>exact ⟨a1,by simp[St,lP,sx,b1,b2,b3,b4,b5,b6,b7],c1,c2,c3⟩) ?_ ?_
 ·rintro i t df g hi ⟨rfl,⟨h78,h12,h2,h4,h5,h8,h9,-⟩,hp,hnx,hfr⟩ h80 h79;obtain ⟨x,hx,-,-⟩:=ac hi;have rz:=λh=>(hz.tree (h':=h) (Nat.le_refl 0)).ints;have u1:i<(r.map ci).length:=by simpa using hi
  have u2:(r.map ci)[i]?=some (ci x):=by rw[List.getElem?_map,hx];rfl
  have hj:=(List.getElem?_eq_some_iff.1 hr).1;have hiC:i<C:=by omega
  have hpl:=yM (A:=A) (b:=B) (card:=C) (i:=j) (x:=i) hB (by omega) hiC;rw[<-hA] at hpl;have hst:=Ee (b:=B) (card:=C) (A:=A) (i:=j) (x:=i) hB hA hr hiC hx;have k8:g.h.get q=.cells 3 [[w,u,W]] 0 false false:=by rw[hp.fr q (by omega) (by omega),e8]
  have k2:g.h.get 2=.cells 3 [[.int .i64 (C:Int),pa,ra]] 0 false false:=by rw[hp.fr 2 (by omega) (by omega),e2]
  have k9:g.h.get (q+1)=.cells 1 [[.int .i64 (B:Int)]] 0 false false:=by rw[hp.fr (q+1) (by omega) (by omega),e9]
  have hwr:=hp.ow.rows;rw[GH_h] at hwr;have hjl:j<1000001:=by have:rws.length*1<=rws.length*C:=Nat.mul_le_mul_left _ (by omega);omega
  have q1:=Df (x:=j) (y:=B) (by omega) hB;have q2:=ul (x:=j) (y:=B) hB;have l1:j / B*C<=S.ay B C j i:=by unfold S.ay;have:(j / B*C+i)*1<=(j / B*C+i)*B:=Nat.mul_le_mul_left _ hB;omega
  have l2:(j / B*C+i)<=S.ay B C j i:=by unfold S.ay;have:(j / B*C+i)*1<=(j / B*C+i)*B:=Nat.mul_le_mul_left _ hB;omega
  have l3:(j / B*C+i)*B<=S.ay B C j i:=by unfold S.ay;omega
  have w1:IntKind.wrap .i64 (((j / B:Nat):Int)*(C:Int))=((j / B*C:Nat):Int):=by rw[<-Int.natCast_mul,aB (by omega) (by omega)]
  have w2:IntKind.wrap .i64 (((j / B*C:Nat):Int)+(i:Int))=((j / B*C+i:Nat):Int):=by rw[aB (by omega) (by omega)];simp
  have w3:IntKind.wrap .i64 (((j / B*C+i:Nat):Int)*(B:Int))=(((j / B*C+i)*B:Nat):Int):=by rw[<-Int.natCast_mul,aB (by omega) (by omega)]
  have w4:IntKind.wrap .i64 ((((j / B*C+i)*B:Nat):Int)+((j % B:Nat):Int))=((S.ay B C j i:Nat):Int):=by rw[<-Int.natCast_add];show IntKind.wrap .i64 ((S.ay B C j i:Nat):Int)=_;rw[aB (by omega) (by omega)]
  have hfl:=zT rws B C (j*C+i);have u3:S.ay B C j i<((S.aJ rws B C (j*C+i)).map ci).length:=by rw[List.length_map,hfl];exact hpl
  have u4:((S.aJ rws B C (j*C+i)).map ci)[S.ay B C j i]?=some (((S.aJ rws B C (j*C+i)).map ci)[S.ay B C j i]):=List.getElem?_eq_getElem u3;have hone:∃y:Int,((S.aJ rws B C (j*C+i)).map ci)[S.ay B C j i]=ci y:=⟨_,List.getElem_map ..⟩;obtain ⟨y,hy⟩:=hone;rw[hy] at u4;have hge:g0.nx<=g.nx:=by omega
  refine dM (P:=λt' df g'=>df=[]/\g'=g/\St t' ((80,.int .i64 (i:Int))::(79,.int .i64 (r.length:Int))::(14,.int .i64 (i:Int))::(15,.int .i64 x)::(78,z)::(12,.int .i64 (j:Int))::lP q)) ?_ ?_
  ·simp only[sz,simprocAttr,h78,h80,rz,u1,u2,ci];simp[St,lP,sx,h78,h12,h2,h4,h5,h8,h9,h80,h79]
  clear h78 h12 h2 h4 h5 h8 h9 h80 h79;rintro t df g1 ⟨rfl,rfl,⟨h80,h79,h14,h15,h78,h12,h2,h4,h5,h8,h9,-⟩⟩;simp only[sz,simprocAttr,sf,h8,h12,h9,h5,h14,h15,k8,k2,k9,q1,q2,w1,w2,w3,w4,hwr,u3];refine bB (v:=W) (sz:=1) (n:=1) (i:=S.ay B C j i) (off:=0) (x:=.int .i64 x) (row':=ci x) ((hp.ow.fr (g':=g1) (by simp;omega) λi _=>rfl).fr (by simp;omega) λi _=>by simp) u4 rfl rfl rfl λg4 hu4 n4 f4=>?_;rw[<-List.map_set,hst] at hu4;have f4':∀i,i≠iw->g4.h.get i=g1.h.get i:=λi hi=>by rw[f4 i (by rw[hvw];intro e;injection e with e;exact hi e.symm)];simp
  have n4':g1.nx<=g4.nx:=by rw[n4];simp;omega
  simp only[sx,sy,↓reduceIte,Nat.reduceEqDiff];refine ⟨?_,⟨?_,⟨λi h1 h2=>?_,?_⟩,?_,λi h1 h2=>?_⟩,h80,h79⟩
  ·simp only[List.reverse_cons,List.reverse_nil,List.nil_append,List.cons_append];exact aZ [false,false,false,false,false,false,false,false,false,false,false,false,false,false,false,false,false,false,true] [] (by simp[All2,an,aD]) (by decide) (by simp)
  ·simp[St,lP,sx,h78,h12,h2,h4,h5,h8,h9]
  ·simp only[bumpG_h];rw[f4' i h2,hp.fr i h1 h2]
  ·exact hu4.gh hvw
  ·simp;omega
  ·simp only[bumpG_h];rw[f4' i (by omega),hfr i h1 h2]
 ·rintro t df g ⟨rfl,h⟩;exact fin t g h
theorem FI {d A B C q iw:Nat}{w u W pa ra pa' ra':AV}{rws:List (List Int)}{Q:QT}{t:T}{g0:G}(hra:SlR NoP 0 .nil rws ra')(hrl:∀r∈rws,r.length=C)(hB:0<B)(hA:rws.length=A*B)(hsz:rws.length*C<=1000000)
  (h75:tat t 75=.clo N.ac [] [.tptr 0 3 [[.int .i64 (C:Int),pa',ra']] 0 0])
  (e8:g0.h.get q=.cells 3 [[w,u,W]] 0 false false) (e2:g0.h.get 2=.cells 3 [[.int .i64 (C:Int),pa,ra]] 0 false false) (e9:g0.h.get (q+1)=.cells 1 [[.int .i64 (B:Int)]] 0 false false) (hq:q+1<g0.nx) (hq3:3<=q) (hiw:iw<g0.nx) (hvw:vid W=some iw) (hiq:q+1<iw)
  (ht:St t (lP q)) (hW:Own g0 3 W 1 ((List.replicate (rws.length*C) (0:Int)).map ci))
  (fin:∀g',FacG g0 iw W rws B C (rws.length*C) g'.h->g0.nx+2<=g'.nx->g'.h.get g0.nx=.dfr true->Q .norm t [.mark g0.nx] g') :
  wp C0 d none (.rng 105 (.t 75) [76,77] dj dm) Q t [] g0:=by
 obtain ⟨h2,h4,h5,h8,h9,-⟩:=ht;refine AP (c:=(C:Int)) (pa:=pa') hra h75 (by decide) (by decide) (λj h=>FacG g0 iw W rws B C (j*C) h) (λ_=>False) ?_ ?_ ?_ ?_ fin ?_
 ·intro j h h' hh hf;exact hf.up hvw hiw hh
 ·intro h h' _ hf;exact hf
 ·refine ⟨λi _ _=>rfl,?_⟩;rw[Nat.zero_mul,Ef];exact hW.gh hvw
 ·intro j r z g1 hr hz hf hn;have hrm:=hrl r (List.mem_of_getElem? hr);simp only[sz,simprocAttr,dj];intro g2 hg2n hg2;have hf2:FacG g0 iw W rws B C (j*C) g2.h:=hf.up hvw hiw λi hi=>hg2 i (by omega);simp only[sz,simprocAttr,dm,hz.len];refine JO (g2:=g2) (A:=A) (q:=q) (iw:=iw) (w:=w) (u:=u) (W:=W) (z:=z) (r:=r) (rws:=rws) hz hr hrm hB hA hsz e8 e2 e9 hq hq3 hiw hvw hiq (by omega) ⟨by simp[St,lP,sx,h2,h4,h5,h8,h9],by simpa using hf2,Nat.le_refl _,λ_ _ _=>rfl⟩ (by simp[sx]) (by simp[sx]) ?_;rintro t g ⟨-,hp,hnx,hfr⟩;simp only[sx,sy,↓reduceIte];refine ⟨hnx,hfr,.inl ⟨rfl,?_⟩⟩;rw[hrm,show j*C+C=(j+1)*C by rw[Nat.add_mul,Nat.one_mul]] at hp;exact hp
 ·intro g' hf;exact hf.elim
def S.aL (n:Net)(i:Nat)(x:Node)(p:Nat):Factor:=⟨S.aw x.parents p (i:Int),S.aa (S.ac n) (S.aw x.parents p (i:Int)),S.bu x.rows (S.ae (S.aa (S.ac n) (x.parents.drop p))).toNat x.card.toNat⟩
def KP (n:Net)(i:Nat)(x:Node):VS:=λP k h v=>∃p:Nat,p<=x.parents.length/\Agg (S.aL n i x p) P k h v
theorem By {ps:List Int}{k:Nat}{v:Int}(hk:k<=ps.length):(S.aw ps k v).drop (k+1)=ps.drop k:=by
 have h1:S.aw ps k v=(ps.take k++[v])++ps.drop k:=by simp[S.aw]
 rw[h1,List.drop_left' (by simp;omega)]
theorem Own.low {g:G}{b b':Nat}{v:AV}{sz:Nat}{rows:List (List AV)}(h:Own g b v sz rows)(hb:b'<=b):Own g b' v sz rows:=by
 rcases h with h | ⟨id,ep,lo,h1,h2⟩
 ·exact .inl h
 ·exact .inr ⟨id,ep,lo,by omega,h2⟩
theorem FN {w:AV}(h:w.cells=[w])(h2:w.isTup=false):ea [.nils,.nils,.nils] [((0,1),w)]=some [w,.nils,.nils]:=by
 simp[ea,h,h2,eQ]
 rfl
theorem Eh {d i:Nat}{g:G}{v:AV}{n:Net}{x:Node}{o:List Int}(hd:0<d)(hr:NR n)(hm:Agg ((n,S.ac n,S.am n,o):NwM) NoP 0 g.h v)(hx:n.nodes[i]?=some x) :
  ∃r,ax C0 d N.aT [v,.int .i64 (i:Int)] g=.val r/\KP n i x NoP 0 .nil r:=by
 have e0:=jZ d hm;obtain ⟨cs,rfl,hc⟩:=hm;obtain ⟨b,cv,sv,oz,rfl,hN,hcv,-,-⟩:=tG.1 hc;have hN:SlR NoP 0 .nil n.nodes b:=hN.tree (h':=.nil) (Nat.le_refl 0);have hcv:SlR NoP 0 .nil (S.ac n) cv:=hcv.tree (h':=.nil) (Nat.le_refl 0);obtain ⟨rows,r1,r2,r3,r4⟩:=hN.all;obtain ⟨row,q1,q2⟩:=r3 i x hx;obtain ⟨pa,ra,rfl,hpa,hra⟩:=cH.1 q2;have hxm:=List.mem_of_getElem? hx;have hil:=(List.getElem?_eq_some_iff.1 hx).1;have hl8:=hr.l2;have hlt:i<rows.length:=by omega
 have hry:=r4 (by omega);have hpl:=dK (hr.places x hxm) (by omega);have hpin:=hr.pin hxm;have r1:∀h',ae h' 3 b=some rows:=r1;have rc:=λh=>(hcv.tree (h':=h) (Nat.le_refl 0)).ints;rw[mC];refine br oJ (xs:=[.agg [.int .i64 n.grain,b,cv,sv,oz],.int .i64 (i:Int)]) (by simp only[aE,e0,gR 0]) (by simp[eE]) (jR λo=>iF _) (by decide) hd ?_;simp only[sz,simprocAttr,eE];obtain ⟨g0,hg0⟩:∃g0,g0=(G.empty.new (.cells 5 [[.int .i64 n.grain,b,cv,sv,oz]] 0 false false)).new (.cells 3 [[.nils,.nils,.nils]] 0 false false):=⟨_,rfl⟩;rw[<-hg0];have f0:g0.h.get 0=.cells 5 [[.int .i64 n.grain,b,cv,sv,oz]] 0 false false:=by rw[hg0];simp[sx,H.get_put]
 have f1:g0.h.get 1=.cells 3 [[.nils,.nils,.nils]] 0 false false:=by rw[hg0];simp[sx]
 have f2:g0.nx=2:=by rw[hg0];simp[sx]
 clear hg0;simp only[io];refine gY (P:=λt' df g'=>df=[]/\g'.nx=3/\g'.h.get 0=.cells 5 [[.int .i64 n.grain,b,cv,sv,oz]] 0 false false/\g'.h.get 1=.cells 3 [[.nils,.nils,.nils]] 0 false false/\g'.h.get 2=.cells 3 [[.int .i64 x.card,pa,ra]] 0 false false/\St t' [(1,.int .i64 (i:Int)),(2,.hptr 0 0 0 0),(4,.hptr 1 0 0 0),(5,.hptr 2 0 0 0)]) ?_ ?_
 ·simp only[sz,simprocAttr,f0,r1,hlt,q1];simp[St,sx,f1,f2]
 rintro t df g1 ⟨rfl,n1,k0,k1,k2,h1,h2,h4,h5,-⟩;obtain ⟨p,sb,hp,es⟩:=ER (d:=d+1) (g:=g1) (x:=(i:Int)) (Nat.succ_pos d) (hpa.tree (Nat.le_refl 0)) (by omega);refine gY (P:=λt' df g'=>df=[]/\g'=g1/\St t' [(1,.int .i64 (i:Int)),(2,.hptr 0 0 0 0),(4,.hptr 1 0 0 0),(5,.hptr 2 0 0 0),(6,.int .i64 (p:Int))]) ?_ ?_
 ·simp only[sz,simprocAttr,h5,h1,k2,es];simp[St,sx,h1,h2,h4,h5]
 clear h1 h2 h4 h5;rintro t df g2 ⟨rfl,rfl,h1,h2,h4,h5,h6,-⟩;refine gY (P:=λt' df g'=>df=[]/\∃w q,w.cells=[w]/\FacH [.int .i64 n.grain,b,cv,sv,oz] [.int .i64 x.card,pa,ra] w .nils (S.aw x.parents p (i:Int)) [] 1 q (g'.new (.cells 1 [[.int .i64 1]] 0 false false))/\g'.nx=q+1/\St t' [(2,.hptr 0 0 0 0),(4,.hptr 1 0 0 0),(5,.hptr 2 0 0 0),(6,.int .i64 (p:Int)),(8,.hptr q 0 0 0)]) ?_ ?_
 ·simp only[sz,simprocAttr,h5,k2];refine DY (l:=x.parents) hpa (by omega) λu ga hu fa=>?_;simp only[sz,simprocAttr,h6,h1];have hun:∀i,vid u=some i->g2.nx<=i/\i<ga.nx:=λi hi=>by
   rcases hu with ⟨-,rfl⟩ | ⟨id,lo,a1,a2,rfl,-⟩
   ·cases hi
   ·injection hi with hi;subst hi;exact ⟨a1,a2⟩
  have fa1:=fa.1;obtain ⟨w,g3,e3,hw,n3,f3⟩:=Bz (d:=d+1) (b:=g2.nx) (p:=p) (id2:=ga.nx) (ep2:=0) (x:=(i:Int)) (lim:=none) (hu.fr (Fr.new ga (.cells 1 [[.int .i64 (i:Int)]] 0 false false))) (by omega) hp (by simp[H.get_put];exact ⟨rfl,rfl,rfl⟩) (λj hj=>by have:=hun j hj;omega) (by simp;omega);rw[e3];simp only[sz,simprocAttr,FN hw.cell.1 hw.cell.2];have n3':ga.nx+1<=g3.nx:=by simpa using n3
  have keep:∀j,j<3->g3.h.get j=g2.h.get j:=λj hj=>by rw[f3 j (by simp;omega) (λe=>by have:=hun j e;omega),<-fa.2 j (by omega)];simp[H.get_put,show ¬j=ga.nx by omega]
  have hwl:∀j,vid w=some j->3<=j/\j<g3.nx:=λj hj=>by have:=hw.lt hj;omega
  have ne1:∀j,j<g3.nx->¬j=g3.nx/\¬j=g3.nx+1:=λj hj=>by omega
  refine ⟨w,g3.nx,hw.cell.1,⟨?_,?_,?_,?_,?_,?_,?_,?_,?_,?_⟩,?_,?_⟩
  ·simp[H.get_put,ne1 0 (by omega),keep 0 (by omega),k0,show ¬g3.nx=0 by omega]
  ·simp[H.get_put,ne1 1 (by omega),keep 1 (by omega),k1,show ¬g3.nx=0 by omega]
  ·simp[H.get_put,ne1 2 (by omega),keep 2 (by omega),k2]
  ·simp[H.get_put]
  ·simp[H.get_put]
  ·refine (Own.low hw (b':=3) (by omega)).fr (by simp;omega) λj hj=>?_;have:=ne1 j (hwl j hj).2;simp[H.get_put,this]
  ·exact .inl ⟨rfl,rfl⟩
  ·exact λj hj=>(hwl j hj).2
  ·omega
  ·simp
  ·simp
  ·simp[St,sx,h2,h4,h5,h6]
 clear h1 h2 h4 h5 h6 es;rintro t df g3 ⟨rfl,w,q,hwc,hp3,hnq,h2,h4,h5,h6,h8,-⟩;have hfl:=qe x.parents p (i:Int) hp;have fa:=hp3.hw.rows;refine gY (P:=λt' df g'=>df=[]/\g'=(g3.new (.cells 1 [[.int .i64 0]] 0 false false)).put (q+1) (.cells 1 [[.int .i64 1]] 0 false false)/\St t' ((6,.int .i64 (p:Int))::lP q)) ?_ ?_
 ·simp only[sz,simprocAttr,hnq];simp[St,lP,sx,h2,h4,h5,h6,h8]
 clear h2 h4 h5 h6 h8;rintro t df g4 ⟨rfl,hg4,h6,h2,h4,h5,h8,h9,-⟩;have hp4:FacH [.int .i64 n.grain,b,cv,sv,oz] [.int .i64 x.card,pa,ra] w .nils (S.aw x.parents p (i:Int)) [] 1 q g4:=by
  have e:∀j,g4.h.get j=(g3.new (.cells 1 [[.int .i64 1]] 0 false false)).h.get j:=λj=>by
   rw[hg4]
   by_cases hj:j=q+1<;>simp[H.get_put,hnq,hj]
  have en:g4.nx=(g3.new (.cells 1 [[.int .i64 1]] 0 false false)).nx:=by rw[hg4];simp
  exact ⟨by rw[e,hp3.h0],by rw[e,hp3.h1],by rw[e,hp3.h2],by rw[e,hp3.h8],by rw[e,hp3.h9],hp3.hw.fr (by omega) λj _=>e j,hp3.hu.fr (by omega) λj _=>e j,hp3.wq,hp3.q3,by rw[en];exact hp3.qn⟩
 clear hg4 hp3;have hwl:∀g,dz .slice w g=.val (.int .i64 (((S.aw x.parents p (i:Int)).length:Nat):Int)):=λg=>by
  rcases hp4.hw with ⟨-,e⟩ | ⟨id,ep,lo,-,-,rfl,-⟩
  ·have:((S.aw x.parents p (i:Int)).map ci).length=0:=by rw[e];rfl
   rw[List.length_map] at this;omega
  ·rw[List.length_map];rfl
 simp only[sz,simprocAttr,h8,hp4.h8,hwl];refine JN (gr:=n.grain) (b:=b) (cv:=cv) (sv:=sv) (oz:=oz) (nd:=[.int .i64 x.card,pa,ra]) (w:=w) (cs:=S.ac n) (vars:=S.aw x.parents p (i:Int)) (pl:=p) (q:=q) rc (by omega) ?_ hr.cs (by omega) ⟨by simp[St,lP,sx,h2,h4,h5,h6,h8,h9],.nils,by simpa [S.aa,S.ae] using hp4⟩ (by simp[sx]) (by simp[sx]) ?_
 ·intro y hy;simp only[S.aw,List.mem_append,List.mem_cons] at hy;rcases hy with hy | rfl | hy
  ·exact hpin y (List.mem_of_mem_take hy)
  ·rw[aw];omega
  ·exact hpin y (List.mem_of_mem_drop hy)
 clear h2 h4 h5 h6 h8 h9 hp4;rintro t g ⟨⟨h38,h6,h2,h4,h5,h8,h9,-⟩,u,hp5⟩;rw[List.take_length,By hp] at hp5;have hcx:=hr.card x hxm;have hd1:∀c∈S.aa (S.ac n) (x.parents.drop p),1<=c/\c<=4:=a8 hr.cs λp hp=>hpin p (List.mem_of_mem_drop hp);have ht1:∀c∈S.aa (S.ac n) (x.parents.take p),1<=c/\c<=4:=a8 hr.cs λp hp=>hpin p (List.mem_of_mem_take hp);have er:(x.rows.length:Int)=S.ae (S.aa (S.ac n) (x.parents.take p))*S.ae (S.aa (S.ac n) (x.parents.drop p)):=by
  rw[hr.rows x hxm]
  conv=>lhs;rw[<-List.take_append_drop p x.parents,dJ,ni]
 have hB1:=jU λc hc=>(hd1 c hc).1;have hA1:=jU λc hc=>(ht1 c hc).1;have hpb:=bz (l:=S.aa (S.ac n) x.parents) (a8 hr.cs hpin);have hp4:=fe (a:=(S.aa (S.ac n) x.parents).length) (b:=8) (by simp[S.aa];omega);have h48:(4:Int) ^ 8=65536:=by decide
 have hrows:=hr.rows x hxm;obtain ⟨B,hB⟩:=Int.eq_ofNat_of_zero_le (show 0<=S.ae (S.aa (S.ac n) (x.parents.drop p)) by omega);obtain ⟨A,hA⟩:=Int.eq_ofNat_of_zero_le (show 0<=S.ae (S.aa (S.ac n) (x.parents.take p)) by omega);obtain ⟨C,hC⟩:=Int.eq_ofNat_of_zero_le (show 0<=x.card by omega);have hAB:x.rows.length=A*B:=by
  have:((x.rows.length:Nat):Int)=((A*B:Nat):Int):=by rw[er,Int.natCast_mul,hA,hB]
  omega
 have hsz:x.rows.length*C<=1000000:=by
  have h1:x.rows.length<=65536:=by omega
  have h2:C<=4:=by omega
  have:=Nat.mul_le_mul h1 h2;omega
 have rl:=λg=>(hra.tree (h':=g) (Nat.le_refl 0)).len;have rl:=λg=>(hra).len g;have w1:IntKind.wrap .i64 ((x.rows.length:Int)*(C:Int))=((x.rows.length*C:Nat):Int):=by rw[<-Int.natCast_mul,aB (by omega) (by omega)]
 rw[hB] at hp5;simp only[gC,hC] at hp5 ⊢;obtain ⟨pa',ra',er',hpa',hra'⟩:=vQ (d:=d+1) (g:=.empty) (x:=x) (v:=.agg [.int .i64 (C:Int),pa,ra]) (Nat.succ_pos d) ⟨_,rfl,cH.2 ⟨pa,ra,by rw[hC],hpa.tree (Nat.le_refl 0),hra.tree (Nat.le_refl 0)⟩⟩;have q3:=hp5.q3;have qn:=hp5.qn;refine gY (P:=λt' df g'=>df=[]/\∃W,vid W=some g.nx/\g'.nx=g.nx+1/\(∀i,i<g.nx->i≠q->g'.h.get i=g.h.get i)/\g'.h.get q=.cells 3 [[w,u,W]] 0 false false/\Own g' 3 W 1 ((List.replicate (x.rows.length*C) (0:Int)).map ci)/\St t' (lP q)) ?_ ?_
 ·simp only[sz,simprocAttr,h5,hp5.h2,rl,w1];refine qh (b:=3) (n:=x.rows.length*C) (by unfold aQ;omega) (by unfold aQ;omega) (by omega) λW g1 hW n1 f1 vW=>?_;have k8:g1.h.get q=.cells 3 [[w,u,.nils]] 0 false false:=by rw[f1 q (by omega),hp5.h8]
  simp only[sz,simprocAttr,h8,k8,hW.cell.1,hW.cell.2];refine ⟨W,vW,by simpa using n1,λi h1 h2=>?_,by simp[H.get_put],?_,by simp[St,lP,sx,h2,h4,h5,h8,h9]⟩
  ·simp[h2];exact f1 i h1
  ·have hW':Own g1 3 W 1 ((List.replicate (x.rows.length*C) (0:Int)).map ci):=by simpa [ci] using hW
   exact hW'.fr (by simp) λi hi=>by have:=ff vW hi;simp[H.get_put,show ¬i=q by omega]
 clear h38 h6 h2 h4 h5 h8 h9;rintro t df g1 ⟨rfl,W,vW,n1,f1,k8,hW,h2,h4,h5,h8,h9,-⟩;have k2:g1.h.get 2=.cells 3 [[.int .i64 (C:Int),pa,ra]] 0 false false:=by rw[f1 2 (by omega) (by omega),hp5.h2]
 have k9:g1.h.get (q+1)=.cells 1 [[.int .i64 (B:Int)]] 0 false false:=by rw[f1 (q+1) (by omega) (by omega),hp5.h9]
 have k1:g1.h.get 1=.cells 3 [[.nils,.nils,.nils]] 0 false false:=by rw[f1 1 (by omega) (by omega),hp5.h1]
 obtain ⟨pa',ra',er',hpa',hra'⟩:=vQ (d:=d+1) (g:=g1) (x:=x) (v:=.agg [.int .i64 (C:Int),pa,ra]) (Nat.succ_pos d) ⟨_,rfl,cH.2 ⟨pa,ra,by rw[hC],hpa.tree (Nat.le_refl 0),hra.tree (Nat.le_refl 0)⟩⟩;rw[hC] at er';rw[co,co];simp only[sz,simprocAttr,h5,k2,er'];refine FI (A:=A) (B:=B) (C:=C) (q:=q) (iw:=g.nx) (w:=w) (u:=u) (W:=W) (pa:=pa) (ra:=ra) (pa':=pa') hra' (λr hrm=>by have:=(hr.row x hxm r hrm).1;omega) (by omega) hAB hsz (by simp[sx]) k8 k2 k9 (by omega) q3 (by omega) vW (by omega) (by simp[St,lP,sx,h2,h4,h5,h8,h9]) hW ?_;intro g' hf hn hdf;have k8':g'.h.get q=.cells 3 [[w,u,W]] 0 false false:=by rw[hf.fr q (by omega) (by omega),k8]
 have k1':g'.h.get 1=.cells 3 [[.nils,.nils,.nils]] 0 false false:=by rw[hf.fr 1 (by omega) (by omega),k1]
 simp only[sz,simprocAttr,gz,h8,k8',h4,k1'];refine gq (by simp[H.get_put,show ¬g1.nx=1 by omega,hdf]) ?_;simp only[sx,sy,↓reduceIte,Nat.reduceEqDiff,h4];rw[if_neg (by omega)];simp only[sx,sy,↓reduceIte,Nat.reduceAdd,Nat.reduceLeDiff];have lw:=hp5.hw;have lu:=hp5.hu;have lW:=hf.ow;have hne:∀i,i<g1.nx->i≠1->((g'.h.put 1 (.cells 3 [[w,u,W]] 0 false false)).put g1.nx (.dfr false)).get i=g'.h.get i:=λi h1 h2=>by simp[H.get_put,h2,show ¬i=g1.nx by omega]
 have oW:Own (GH ((g'.h.put 1 (.cells 3 [[w,u,W]] 0 false false)).put g1.nx (.dfr false)) (g.nx+1)) 3 W 1 ((S.aJ x.rows B C (x.rows.length*C)).map ci):=lW.fr (by simp) λi hi=>by have:=ff vW hi;exact hne i (by omega) (by omega)
 have ow:Own (GH ((g'.h.put 1 (.cells 3 [[w,u,W]] 0 false false)).put g1.nx (.dfr false)) (g.nx+1)) 3 w 1 ((S.aw x.parents p (i:Int)).map ci):=lw.fr (by simp) λj hj=>by have:=hp5.wq j hj;have:=(lw.lt hj).1;show ((g'.h.put 1 (.cells 3 [[w,u,W]] 0 false false)).put g1.nx (.dfr false)).get j=_;rw[hne j (by omega) (by omega),hf.fr j (by omega) (by omega),f1 j (by omega) (by omega)]
 have ou:Own (GH ((g'.h.put 1 (.cells 3 [[w,u,W]] 0 false false)).put g1.nx (.dfr false)) (g.nx+1)) (q+2) u 1 ((S.aa (S.ac n) (S.aw x.parents p (i:Int))).map ci):=lu.fr (by simp) λj hj=>by have:=lu.lt hj;show ((g'.h.put 1 (.cells 3 [[w,u,W]] 0 false false)).put g1.nx (.dfr false)).get j=_;rw[hne j (by omega) (by omega),hf.fr j (by omega) (by omega),f1 j (by omega) (by omega)]
 have hfw:(S.aJ x.rows B C (x.rows.length*C))=S.bu x.rows (S.ae (S.aa (S.ac n) (x.parents.drop p))).toNat x.card.toNat:=by rw[hB,hC,Int.toNat_natCast,Int.toNat_natCast];exact FH (A:=A) (by omega) hAB
 refine ⟨λ_=>True,p,hp,_,rfl,nj.2 ⟨w,u,W,rfl,?_,?_,?_⟩⟩
 ·obtain ⟨_,e1,h⟩:=ow.ints (k:=0) (by omega);injection e1 with e1;subst e1;exact h
 ·obtain ⟨_,e1,h⟩:=ou.ints (k:=0) (by simp[S.aa];omega);injection e1 with e1;subst e1;exact h
 ·rw[hfw] at oW;obtain ⟨_,e1,h⟩:=oW.ints (k:=0) (by rw[<-hfw,zT];omega);injection e1 with e1;subst e1;exact h
def S.bM (n:Net)(l:List Factor):Prop:=∀(i:Nat) (x:Node),i<l.length->n.nodes[i]?=some x->∃p,p<=x.parents.length/\l[i]?=some (S.aL n i x p)
def Kl (n:Net):VS:=λP k h v=>∃l:List Factor,((S.aN n=true->l.length=n.nodes.length)/\S.bM n l)/\wL (One l) (One (if S.aN n then (0:Int) else 50)) P k h v
structure FasJ (n:Net) (W b cv sv oz:AV) (j:Nat) (t:T) (g:G):Prop where
 st:St t [(4,.hptr 1 0 0 0),(6,W)]
 hg:g.h.get 1=.cells 5 [[.int .i64 n.grain,b,cv,sv,oz]] 0 false false
 hW:∃(rows:List (List AV)) (l:List Factor),Own g 2 W 3 rows/\rows.length=n.nodes.length/\l.length=j/\All2 (Rp.rp NoP 0 .nil) l (rows.take j)/\S.bM n l/\∀i,j<=i->i<n.nodes.length->rows[i]?=some [.nils,.nils,.nils]
theorem H8 {d:Nat}{g:G}{v:AV}{n:Net}(hd:0<d)(hm:Agg n NoP 0 g.h v):∃r,ax C0 d N.aS [v] g=.val r/\Kl n NoP 0 .nil r:=by
 obtain ⟨b,rows,rfl,e1,hm',hN,r1,r2,r3,r4⟩:=kY d hm;rw[sP];refine br uZ (xs:=[.agg [.int .i64 n.grain,b]]) (by simp only[aE,e1]) (by simp[lZ]) (jR λo=>iG (m:=2) (be _) (be _) (by decide) (by decide)) (by decide) hd ?_;simp only[sz,simprocAttr,lZ,oe];obtain ⟨z,ez,hz⟩:=Dg (d:=d+1) (g:=G.empty.new (.cells 2 [[.int .i64 n.grain,b]] 0 false false)) (Nat.succ_pos d) (n:=n) (v:=.agg [.int .i64 n.grain,b]) (hm' _);rcases tB hz with ⟨hn,cs,rfl,hcs⟩ | ⟨hn,b',cv,sv,oz,o,rfl,hb,hcv,hsv,hoz⟩
 ·obtain ⟨a1,a2,a3,a4,a5,rfl⟩:∃a1 a2 a3 a4 a5,cs=[a1,a2,a3,a4,a5]:=by
   match cs,hcs with
   | [a1,a2,a3,a4,a5],_=>exact ⟨a1,a2,a3,a4,a5,rfl⟩
  simp only[sz,simprocAttr,ez,show ¬((50:Int)=0) from by decide];refine ⟨NoP,[],⟨λh=>(by rw[hn] at h;cases h),λi x hi=>(by simp at hi)⟩,_,_,rfl,⟨_,rfl,⟨by show 0<9223372036854775808;decide,rfl⟩⟩,?_⟩;rw[hn];exact aF.2 rfl
 ·have hr:=dI.1 hn;have hl8:=hr.l2;simp only[sz,simprocAttr,ez,hb.len];refine qh (b:=2) (n:=n.nodes.length) (by unfold aQ;omega) (by unfold aQ;omega) (by simp) λW g1 hW n1 f1 vW=>?_;have k1:g1.h.get 1=.cells 5 [[.int .i64 n.grain,b',cv,sv,oz]] 0 false false:=by rw[f1 1 (by simp)];simp[H.get_put]
  have hWl:∀(g:G) (rows:List (List AV)),rows.length=n.nodes.length->Own g 2 W 3 rows->dz .slice W g=.val (.int .i64 (n.nodes.length:Int)):=λg rows h1 h=>by
   rcases h with ⟨rfl,e⟩ | ⟨id,ep,lo,-,-,rfl,-⟩
   ·cases vW
   ·rw[h1];rfl
  have hlW:=hWl g1 _ (by simp) hW;have hryW:t8 W=true:=by
   rcases hW with ⟨rfl,e⟩ | ⟨id,ep,lo,-,-,rfl,-⟩
   ·cases vW
   ·rfl
  simp only[sz,simprocAttr,hlW];simp only[mO];refine aI (m:=n.nodes.length) (by omega) (λj t df g=>df=[]/\FasJ n W b' cv sv oz j t g) ⟨rfl,by simp[St,sx],k1,_,[],hW,by simp,rfl,trivial,λi x hi=>(by simp at hi),λi _ hi=>by simp[hi]⟩ (by simp[sx]) (by simp[sx]) (by decide)
   (by rintro j t df g v s (rfl | rfl | rfl) ⟨a1,⟨b1,b2,-⟩,c1,c2⟩<;>exact ⟨a1,by simp[St,sx,b1,b2],c1,c2⟩) ?_ ?_
  ·rintro j t df g hj ⟨rfl,⟨h4,h6,-⟩,hg,rows',l,hW,hrl,hll,hal,hfs,hnil⟩ h23 h22;obtain ⟨x,hx,-,-⟩:=ac hj;have hm5:Agg ((n,S.ac n,S.am n,o):NwM) NoP 0 g.h (.agg [.int .i64 n.grain,b',cv,sv,oz]):=⟨_,rfl,tG.2 ⟨b',cv,sv,oz,rfl,hb.tree (Nat.le_refl 0),hcv.tree (Nat.le_refl 0),hsv.tree (Nat.le_refl 0),hoz.tree (Nat.le_refl 0)⟩⟩;obtain ⟨f,ef,p,hp,cs,rfl,hcs⟩:=Eh (d:=d+1) (g:=g) (i:=j) (Nat.succ_pos d) hr hm5 hx;obtain ⟨a1,a2,a3,rfl,ha1,ha2,ha3⟩:=nj.1 hcs;have hrj:=hnil j (Nat.le_refl _) hj;have hWr:=hW.rows;have hjr:j<rows'.length:=by omega
   simp only[sz,simprocAttr,h23,h6,h4,hg,ef,hWr,hjr];refine bB (v:=W) (sz:=3) (n:=3) (i:=j) (off:=0) (x:=.agg [a1,a2,a3]) (row':=[a1,a2,a3]) hW hrj (by rfl) rfl ?_ λg4 hW4 n4 f4=>?_
   ·rfl
   have htk:(rows'.set j [a1,a2,a3]).take (j+1)=rows'.take j++[[a1,a2,a3]]:=by
    rw[List.take_add_one,List.take_set_of_le (Nat.le_refl _),List.getElem?_set_self hjr]
    rfl
   simp only[sx,sy,↓reduceIte,Nat.reduceEqDiff];refine ⟨⟨by simp[St,sx,h4,h6],?_,_,l++[S.aL n j x p],hW4,by simpa using hrl,by simp[hll],?_,?_,λi h1 h2=>by rw[List.getElem?_set_ne (by omega),hnil i (by omega) h2]⟩,h23,h22⟩
   ·rw[f4 1 λe=>by have:=(hW.lt e).1;omega,hg]
   ·rw[htk];exact hal.append ⟨nj.2 ⟨a1,a2,a3,rfl,ha1,ha2,ha3⟩,trivial⟩
   ·intro i y hi hy
    by_cases hij:i<l.length
    ·rw[List.getElem?_append_left hij];exact hfs i y hij hy
    ·have hi:i=j:=by simp at hi;omega
     subst hi;rw[hx] at hy;injection hy with hy;subst hy;exact ⟨p,hp,by rw[List.getElem?_append_right (by omega),hll];simp⟩
  ·rintro t df g ⟨rfl,⟨h4,h6,-⟩,hg,rows',l,hW,hrl,hll,hal,hfs,hnil⟩;rw[List.take_of_length_le (by omega)] at hal;simp only[sz,simprocAttr,mP,h6];refine ⟨λ_=>True,l,⟨λ_=>hll,hfs⟩,_,_,rfl,⟨W,rfl,Own.sl (α:=Factor) hW (by omega) (hal.mono λa b r=>Rp.tree r (Nat.le_refl 0)) λ_ _=>trivial⟩,?_⟩;rw[hn];exact aF.2 rfl
end
end Hx
end
section
namespace Hx
open Go
abbrev QnM:Type:=Net×List Factor×List (List Int)
theorem tH {P:Nat->Prop}{k:Nat}{h:H}{x:QnM}{cs:List AV}:Rp.rp P k h x cs↔∃a b c,cs=[.int .i64 x.1.grain,a,b,c]/\SlR P k h x.1.nodes a/\SlR P k h x.2.1 b/\SlR P k h x.2.2 c:=by
 constructor
 ·rintro ⟨c1,c2,rfl,h1,c3,c4,rfl,⟨b,rfl,hb⟩,⟨c,rfl,hc⟩⟩;obtain ⟨a,rfl,ha⟩:=gf.1 h1;exact ⟨a,b,c,rfl,ha,hb,hc⟩
 ·rintro ⟨a,b,c,rfl,ha,hb,hc⟩;exact ⟨[_,a],[b,c],rfl,gf.2 ⟨a,rfl,ha⟩,[b],[c],rfl,⟨b,rfl,hb⟩,⟨c,rfl,hc⟩⟩
theorem Hg {n:Net}(h:NR n){k:Nat}{x:Node}(hx:n.nodes[k]?=some x):(k:Int) ∉ x.parents:=λhm=>by
 have hk:=(List.getElem?_eq_some_iff.1 hx).1;have hl:=h.l2;have h1:=rF.1 h.acyc k (by simp[S.am];exact hk);have h2:Par (S.am n) k=S.aq x.parents:=by simp[Par,S.am,hx]
 have h3:(S.aq x.parents).testBit k=true:=(uf λy hy=>by have:=bp (h.places x (List.mem_of_getElem? hx)) y hy;omega).2 hm;have h4:=uv (p:=S.am n) (s:=Par (S.am n) k) (S.am n).length k (by rw[h2];exact h3);rw[h1] at h4;cases h4
theorem ED {l:List Int}{k:Int}(h:S.au l k=true):l.Nodup:=by rw[List.Nodup,List.pairwise_iff_getElem];intro i j hi hj hij e;have:=sZ h (List.getElem?_eq_getElem hi) (List.getElem?_eq_getElem hj) hij;omega
theorem Ga {n:Net}(h:NR n){k:Nat}{x:Node}(hx:n.nodes[k]?=some x)(p:Nat):(S.aw x.parents p (k:Int)).Nodup:=by unfold S.aw;rw[List.perm_middle.nodup_iff,List.take_append_drop,List.nodup_cons];exact ⟨Hg h hx,ED (h.places x (List.mem_of_getElem? hx))⟩
theorem vo {n:Net}(h:NR n){k:Nat}{x:Node}(hx:n.nodes[k]?=some x)(p:Nat):∀y∈S.aw x.parents p (k:Int),0<=y/\y<n.nodes.length:=λy hy=>by
 have hk:=(List.getElem?_eq_some_iff.1 hx).1;have hp:=bp (h.places x (List.mem_of_getElem? hx));simp only[S.aw,List.mem_append,List.mem_cons] at hy;rcases hy with hy | rfl | hy
 ·exact hp y (List.mem_of_mem_take hy)
 ·omega
 ·exact hp y (List.mem_of_mem_drop hy)
theorem rt (cs ps:List Int):(S.aa cs ps).length=ps.length:=by simp[S.aa]
theorem Eg {n:Net}(h:NR n){k:Nat}{x:Node}(hx:n.nodes[k]?=some x)(p:Nat):∀c∈(S.aL n k x p).cards,1<=c/\c<=4 :=
 a8 h.cs λy hy=>by rw[aw];exact vo h hx p y hy
def S.bI (m:Nat)(f:Factor)(i:Nat)(R:List Int):Prop:=R.length=m/\∀(j:Nat) (y:Int),i<=j->f.vars[j]?=some y->R[y.toNat]?=some (S.ae (f.cards.drop (j+1)))
theorem Cb {m i:Nat}{f:Factor}{R:List Int}{y:Int}(h:S.bI m f (i+1) R)(hnd:f.vars.Nodup)(hin:∀y∈f.vars,0<=y/\y<m)(hy:f.vars[i]?=some y):S.bI m f i (R.set y.toNat (S.ae (f.cards.drop (i+1)))):=by
 refine ⟨by simp[h.1],λj z hij hz=>?_⟩;have hyi:=hin y (List.mem_of_getElem? hy);have hzi:=hin z (List.mem_of_getElem? hz)
 by_cases e:j=i
 ·subst e;rw[hy] at hz;injection hz with hz;subst hz;rw[List.getElem?_set_self (by rw[h.1];omega)]
 ·rw[List.getElem?_set_ne]
  ·exact h.2 j z (by omega) hz
  ·intro e2;have e3:y=z:=by omega
   subst e3;exact e ((List.getElem?_inj (List.getElem?_eq_some_iff.1 hz).1 hnd).1 (by rw[hz,hy]))
structure QnOk (n:Net) (y:QnM):Prop where
 net:y.1=n
 fl:y.2.1.length=n.nodes.length
 fs:S.bM n y.2.1
 sl:y.2.2.length=n.nodes.length
 st:∀(k:Nat) (f:Factor) (R:List Int),y.2.1[k]?=some f->y.2.2[k]?=some R->S.bI n.nodes.length f 0 R
def S.a9 (n:Net)(ls:List (List Int)):Int:=if S.aN n then (if ls.all (S.aD n) then 0 else 2) else 50
def HJ (n:Net)(ls:List (List Int)):VS:=λP k h v=>∃y:QnM,(S.a9 n ls=0->QnOk n y)/\wL (Agg y) (One (S.a9 n ls)) P k h v
end Hx
end
section
namespace Hx
open Go
noncomputable section
def zq (fl:AV)(m q k:Nat):List (Nat×AV):=[(11,.hptr q 0 0 0),(2,.hptr 0 0 0 0),(4,.hptr 1 0 0 0),(45,fl),(46,.int .i64 (m:Int)),(47,.int .i64 (k:Int))]
structure AskI (fl:AV) (m q k:Nat) (g0:G) (iR:Nat) (R:AV) (f:Factor) (fb j:Nat) (t:T) (g:G):Prop where
 st:St t ((13,.hptr fb 0 0 0)::(12,.int .i64 (k:Int))::(14,.int .i64 (S.ae (f.cards.drop j)))::zq fl m q k)
 nx:g0.nx<=g.nx
 fr:∀i,i<g0.nx->i≠iR->g.h.get i=g0.h.get i
 ow:∃X:List Int,Own g 2 R 1 (X.map ci)/\S.bI m f j X
theorem JE {d m q k fb iR:Nat}{gr:Int}{va ca wa S_ R b fl fl':AV}{f:Factor}{rowsS:List (List AV)}{Q:QT}{t:T}{g g0:G}(hva:SlR NoP 0 .nil f.vars va)(hca:SlR NoP 0 .nil f.cards ca)(hcl:f.cards.length=f.vars.length)(hvl:f.vars.length<=16)(hcb:∀c∈f.cards,1<=c/\c<=4)(hnd:f.vars.Nodup)(hin:∀y∈f.vars,0<=y/\y<m)
  (e11:g0.h.get q=.cells 4 [[.int .i64 gr,b,fl',S_]] 0 false false) (e13:g0.h.get fb=.cells 3 [[va,ca,wa]] 0 false false) (hS:Own g0 2 S_ 1 rowsS) (hk:rowsS[k]?=some [R]) (vR:vid R=some iR) (vS:vid S_≠some iR) (n1:q≠iR/\fb≠iR) (n2:q<g0.nx/\fb<g0.nx/\iR<g0.nx)
  (h0:AskI fl m q k g0 iR R f fb f.vars.length t g) (h15:tat t 15=.int .i64 ((f.vars.length:Int) - 1))
  (fin:∀t g,AskI fl m q k g0 iR R f fb 0 t g->Q (.exit 4) t [] g):wpL (wp C0 d none kh) Q t [] g:=by
 have rva:=λh=>(hva.tree (h':=h) (Nat.le_refl 0)).ints;have rca:=λh=>(hca.tree (h':=h) (Nat.le_refl 0)).ints;simp only[kh];refine HD (m:=f.vars.length) (by omega) (λj t df g=>df=[]/\AskI fl m q k g0 iR R f fb j t g) ⟨rfl,h0⟩ h15 (by decide)
  (by rintro j t df g v s (rfl | rfl | rfl | rfl | rfl) ⟨a1,⟨b1,b2,b3,b4,b5,b6,b7,b8,b9,-⟩,c1,c2,c3⟩<;>exact ⟨a1,by simp[St,zq,sx,b1,b2,b3,b4,b5,b6,b7,b8,b9],c1,c2,c3⟩) ?_ ?_
 ·rintro j t df g hj ⟨rfl,⟨h13,h12,h14,h11,h2,h4,h45,h46,h47,-⟩,hnx,hfr,X,hX,hst⟩ h15;obtain ⟨y,hy,-,hym⟩:=ac hj;obtain ⟨hy0,hym⟩:=hin y hym;obtain ⟨yn,rfl⟩:=Int.eq_ofNat_of_zero_le hy0;have hcj:f.cards[j]?=some f.cards[j]:=List.getElem?_eq_getElem (by omega);have hcb1:=hcb _ (List.getElem_mem (show j<f.cards.length by omega));have hdr:f.cards.drop j=f.cards[j]::f.cards.drop (j+1):=List.drop_eq_getElem_cons (by omega);generalize f.cards[j]=c at hcj hcb1 hdr;have u1:j<(f.vars.map ci).length:=by simpa using hj
  have u2:(f.vars.map ci)[j]?=some (ci (yn:Int)):=by rw[List.getElem?_map,hy];rfl
  have u3:j<(f.cards.map ci).length:=by simp;omega
  have u4:(f.cards.map ci)[j]?=some (ci c):=by rw[List.getElem?_map,hcj];rfl
  have hXl:=hst.1;have hylt:yn<X.length:=by omega
  have u5:yn<(X.map ci).length:=by simpa using hylt
  have u6:(X.map ci)[yn]?=some (ci X[yn]):=by rw[List.getElem?_map,List.getElem?_eq_getElem hylt];rfl
  have k11:g.h.get q=.cells 4 [[.int .i64 gr,b,fl',S_]] 0 false false:=by rw[hfr q n2.1 n1.1,e11]
  have k13:g.h.get fb=.cells 3 [[va,ca,wa]] 0 false false:=by rw[hfr fb n2.2.1 n1.2,e13]
  have hS':Own g 2 S_ 1 rowsS:=hS.fr hnx λi hi=>hfr i (hS.lt hi).2 λe=>vS (by rw[hi,e]);have rS:=hS'.rows;have rX:=hX.rows;have kl:k<rowsS.length:=(List.getElem?_eq_some_iff.1 hk).1;have w0:S.ae (f.cards.drop j)=S.ae (f.cards.drop (j+1))*c:=by rw[hdr,cO,Int.mul_comm]
  have hpb:=bz (l:=f.cards.drop j) λc hc=>hcb c (List.mem_of_mem_drop hc);have hp4:=fe (a:=(f.cards.drop j).length) (b:=16) (by simp;omega);have h48:(4:Int) ^ 16=4294967296:=by decide
  have w1:IntKind.wrap .i64 (S.ae (f.cards.drop (j+1))*c)=S.ae (f.cards.drop j):=by rw[<-w0,aB (by omega) (by omega)]
  have hst':=Cb hst hnd hin hy;rw[Int.toNat_natCast] at hst';simp only[sz,simprocAttr,sf,h11,h12,h13,h14,h15,k11,k13,rva,u1,u2,rS,kl,hk,rX,u5,ci];refine bB (v:=R) (sz:=1) (n:=1) (i:=yn) (off:=0) (x:=.int .i64 (S.ae (f.cards.drop (j+1)))) (row':=ci (S.ae (f.cards.drop (j+1)))) (hX.fr (by simp;omega) λi _=>by simp) u6 rfl rfl rfl λg4 hu4 n4 f4=>?_;rw[<-List.map_set] at hu4;have f4':∀i,i≠iR->g4.h.get i=g.h.get i:=λi hi=>by rw[f4 i (by rw[vR];intro e;injection e with e;exact hi e.symm)];simp
  have n4':g.nx<=g4.nx:=by rw[n4];simp;omega
  simp only[sz,simprocAttr];refine ⟨?_,?_⟩
  ·simp only[List.reverse_cons,List.reverse_nil,List.nil_append,List.cons_append];exact aZ [false,false,false,false,false,false,false,false,false,false,false,false,true] [] (by simp[All2,an,aD]) (by decide) (by simp)
  have k13':g4.h.get fb=.cells 3 [[va,ca,wa]] 0 false false:=by rw[f4' fb n1.2,k13]
  simp only[sz,simprocAttr,h13,h14,h15,k13',rca,u3,u4,ci,w1];refine ⟨by simp[St,zq,sx,h13,h12,h11,h2,h4,h45,h46,h47],?_,λi h1 h2=>?_,_,hu4.fr (by simp) λi _=>by simp,hst'⟩
  ·simp;omega
  ·simp only[bumpG_h];rw[f4' i h2,hfr i h1 h2]
 ·rintro t df g ⟨rfl,h⟩;exact fin t g h
end
end Hx
end
