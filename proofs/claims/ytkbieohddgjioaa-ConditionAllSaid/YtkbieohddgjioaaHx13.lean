/- A part of the proof: an interpreter over abstract values, shown right against the model, and what the functions of the chapter compute on it. -/
import Derived.Test.YtkbieohddgjioaaHx12
set_option linter.unusedVariables false
set_option linter.unusedSimpArgs false
set_option linter.unnecessarySimpa false
section
namespace Hx
open Go
noncomputable section
theorem nL {v:Nat}:∀{l:List Nat} {w xs:List Int},v ∉ l->(S.aB w l xs)[v]?=w[v]?
 | [],_,_,_=>by simp[S.aB]
 | u::r,w,[],_=>by simp[S.aB]
 | u::r,w,x::xs,h=>by simp only[List.mem_cons,not_or] at h;rw[S.aB,nL h.2,List.getElem?_set_ne λe=>h.1 e.symm]
def KR (l:List Nat)(w' w:List Int):Prop:=w'.length=w.length/\∀v,v ∉ l->w'[v]?=w[v]?
theorem CG:∀{l:List Nat} {w w' xs:List Int},xs.length=l.length->KR l w' w->S.aB w' l xs=S.aB w l xs
 | [],w,w',xs,_,h=>by have:w'=w:=List.ext_getElem? λi=>h.2 i (by simp);rw[this]
 | v::r,w,w',[],h,_=>by simp at h
 | v::r,w,w',x::xs,h,ha=>by
  rw[S.aB,S.aB];refine CG (by simpa using h) ⟨by simp[ha.1],λu hu=>?_⟩;rw[List.getElem?_set,List.getElem?_set,ha.1]
  by_cases e:v=u
  ·rw[if_pos e,if_pos e]
  ·rw[if_neg e,if_neg e];exact ha.2 u (by simp[hu,Ne.symm e])
theorem HH {l:List Nat}{w xs:List Int}:KR l (S.aB w l xs) w:=⟨qo _ _ _,λ_ h=>nL h⟩
theorem zw {v:Nat}{x:Int}:∀{l:List Nat} {w xs:List Int},xs.length=l.length->S.aB w (l++[v]) (xs++[x])=(S.aB w l xs).set v x
 | [],w,[],_=>by simp[S.aB]
 | [],w,_::_,h=>by simp at h
 | u::r,w,[],h=>by simp at h
 | u::r,w,y::xs,h=>by simp only[List.cons_append,S.aB];exact zw (by simpa using h)
def S.aY (w:List Int)(l:List Nat):List Int:=l.foldl (λw v=>w.set v (-1)) w
theorem EN:∀(l:List Nat) (w:List Int),(S.aY w l).length=w.length
 | [],_=>rfl
 | v::r,w=>by have:=EN r (w.set v (-1));simpa [S.aY] using this
theorem EM:∀{l:List Nat} {w w':List Int},KR l w' w->S.aY w' l=S.aY w l
 | [],w,w',h=>List.ext_getElem? λi=>h.2 i (by simp)
 | v::r,w,w',ha=>by
  show S.aY (w'.set v (-1)) r=S.aY (w.set v (-1)) r;refine EM ⟨by simp[ha.1],λu hu=>?_⟩;rw[List.getElem?_set,List.getElem?_set,ha.1]
  by_cases e:v=u
  ·rw[if_pos e,if_pos e]
  ·rw[if_neg e,if_neg e];exact ha.2 u (by simp[hu,Ne.symm e])
theorem Bm:∀{l:List Nat} {w:List Int},(∀v∈l,w[v]?=some (-1))->S.aY w l=w
 | [],_,_=>rfl
 | v::r,w,h=>by
  have e:w.set v (-1)=w:=by
   refine List.ext_getElem? λi=>?_;rw[List.getElem?_set]
   by_cases e:v=i
   ·subst e;have:=h v (by simp);have hl:=(List.getElem?_eq_some_iff.1 this).1;rw[if_pos rfl,if_pos hl,this]
   ·rw[if_neg e]
  show S.aY (w.set v (-1)) r=w;rw[e];exact Bm λu hu=>h u (by simp[hu])
theorem H5 (w:List Int)(l:List Nat)(v:Nat):S.aY w (l++[v])=(S.aY w l).set v (-1):=by simp[S.aY]
def S.bH (s j:Nat):List Nat:=(List.range j).filter s.testBit
theorem Ca (s j:Nat):S.bH s (j+1)=S.bH s j++if s.testBit j then [j] else []:=by rw[S.bH,List.range_succ,List.filter_append,S.bH];cases h:s.testBit j<;>simp[h]
theorem Av (s j:Nat):(S.bH s j).length<=j:=by have:=List.length_filter_le s.testBit (List.range j);simpa [S.bH] using this
theorem JD (n:Net)(s:Nat):S.aa n s=S.bH s n.nodes.length:=rfl
theorem jC {n:Net}{s v:Nat}:v∈S.aa n s↔v<n.nodes.length/\s.testBit v=true:=by simp[S.aa]
def cn (v:Nat):List AV:=[.int .i64 (v:Int)]
def LAs (b1 b2 B:Nat):List (Nat×AV):=[(1,.hptr b1 0 0 0),(2,.hptr b2 0 0 0),(3,.hptr B 0 0 0),(4,.hptr (B+1) 0 0 0)]
theorem vp (k:IntKind)(x:Int)(z:AV)(g:G):HQ 1 1 [z] [0] [.int k x] g=.upd (.hsl g.nx 0 0 1 none) (g.new (.cells 1 [[.int k x]] 0 false false)):=rfl
set_option maxRecDepth 20000 in
theorem Nf {d s b1 b2 yi:Nat}{n:Net}{b:AV}{g0:G}{Q:QT}{t:T}{g:G}(hr:NR n)(hN:SlR NoP 0 .nil n.nodes b)(hs:s<2 ^ n.nodes.length)(hb2:g0.h.get b2=.cells 1 [[.int .u64 (s:Int)]] 0 false false)(hbn:b2<g0.nx)
  (k0:g.h.get g0.nx=.cells 1 [[.yld yi]] 0 false false) (k1:g.h.get (g0.nx+1)=.cells 1 [[.nils]] 0 false false) (hnx:g0.nx+2<=g.nx) (hF:Fx (λ_=>False) g0 g)
  (ht:St t (LAs b1 b2 g0.nx)) (h5:tat t 5=.nils) (h18:tat t 18=b) (h19:tat t 19=.int .i64 (n.nodes.length:Int)) (h20:tat t 20=.int .i64 0)
  (fin:∀t g nv cv,St t (LAs b1 b2 g0.nx)->tat t 5=cv->g.h.get g0.nx=.cells 1 [[.yld yi]] 0 false false->g.h.get (g0.nx+1)=.cells 1 [[nv]] 0 false false->Own g (g0.nx+2) nv 1 ((S.aa n s).map cn)->Own g (g0.nx+2) cv 1 ((S.aT n (S.aa n s)).map ci)->g0.nx+2<=g.nx->Fx (λ_=>False) g0 g->Q (.exit 0) t [] g) :
  wpL (wp C0 d none bI) Q t [] g:=by
 have hl8:=hr.l2;have hs256:=mO hs hl8;obtain ⟨rows,r1,r2,r3,r4⟩:=hN.all;have r1:∀h',ah h' 3 b=some rows:=r1;obtain ⟨h1,h2,h3,h4,-⟩:=ht;simp only[bI,dl];refine bk (m:=n.nodes.length) (by omega) (λj t df g=>df=[]/\∃nv cv,St t (LAs b1 b2 g0.nx)/\tat t 5=cv/\tat t 18=b/\g.h.get g0.nx=.cells 1 [[.yld yi]] 0 false false/\g.h.get (g0.nx+1)=.cells 1 [[nv]] 0 false false/\Own g (g0.nx+2) nv 1 ((S.bH s j).map cn)/\Own g (g0.nx+2) cv 1 ((S.aT n (S.bH s j)).map ci)/\(∀i,vid nv=some i->vid cv≠some i)/\g0.nx+2<=g.nx/\Fx (λ_=>False) g0 g)
  ⟨rfl,_,_,by simp[St,LAs,h1,h2,h3,h4],h5,h18,k0,k1,.inl ⟨rfl,rfl⟩,.inl ⟨rfl,rfl⟩,λi hi=>(by cases hi),hnx,hF⟩ h20 h19 (by decide)
  (by rintro j t df g v s (rfl | rfl | rfl) ⟨rfl,nv,cv,⟨a1,a2,a3,a4,-⟩,a5,a18,r⟩<;>exact ⟨rfl,nv,cv,by simp[sx,St,LAs,a1,a2,a3,a4],by simp[sx,a5],by simp[sx,a18],r⟩) ?_ ?_
 ·clear h1 h2 h3 h4 h5 h18 h19 h20 k0 k1 hnx hF;rintro j t df g hj ⟨rfl,nv,cv,⟨h1,h2,h3,h4,-⟩,h5,h18,k0,k1,oN,oC,hd,hnx,hF⟩ h20 h19;obtain ⟨y,hy,-,hym⟩:=ak (l:=n.nodes) hj;obtain ⟨row,s1,s2⟩:=r3 j y hy;obtain ⟨pa,ra,rfl,-,-⟩:=dh.1 s2;have hlt:j<rows.length:=by omega
  have hry:=r4 (by omega);have hb2':g.h.get b2=.cells 1 [[.int .u64 (s:Int)]] 0 false false:=by rw[hF.fr b2 hbn id,hb2]
  have e1:=zM .i64 s j (by omega);have e2:=sw (s / 2 ^ j) 1 (Nat.lt_of_le_of_lt (Nat.div_le_self _ _) (by omega)) (by omega);have e2:bA .and (.int .u64 ((s / 2 ^ j:Nat):Int)) (.int .u64 1)=.val (.int .u64 ((s / 2 ^ j &&& 1:Nat):Int)):=e2;have e3:=EH s j;have cells3:∀(g:G) (q:Nat),cM (.cells 3 [[.int .i64 0,.nils,.nils]] 0 false false) g q 0 0 3 0 (.agg [.int .i64 y.card,pa,ra])=.upd .undef (g.put q (.cells 3 [[.int .i64 y.card,pa,ra]] 0 false false)):=λg q=>by
   rw[br 3 _ 0 false g q 0 3 0 _ rfl rfl,List.getElem?_cons_zero];rw[show (AV.agg [.int .i64 y.card,pa,ra]).cells=[.int .i64 y.card,pa,ra] from rfl];dsimp only;rw[th (by rfl) (by simp)]
   rfl
  refine bM (P:=λt' df g'=>df=[]/\St t' (LAs b1 b2 g0.nx)/\tat t' 5=cv/\tat t' 18=b/\tat t' 6=.int .i64 (j:Int)/\tat t' 7=.hptr g.nx 0 0 0/\tat t' 19=.int .i64 (n.nodes.length:Int)/\tat t' 20=.int .i64 (j:Int)/\g'.h.get g.nx=.cells 3 [[.int .i64 y.card,pa,ra]] 0 false false/\g'.nx=g.nx+1/\(∀i,i<g.nx->g'.h.get i=g.h.get i)/\Fx (λ_=>False) g0 g') ?_ ?_
  ·simp only[sz,simprocAttr,h18,h20,r1,hlt,s1,hry,cells3];exact ⟨by simp[sx,St,LAs,h1,h2,h3,h4],h5,h19,λi hi=>by simp[show ¬i=g.nx by omega],(hF.trans (Fx.new _ _ _)).put (.inr hF.nx) _⟩
  rintro t df g1 ⟨rfl,⟨h1,h2,h3,h4,-⟩,h5,h18,h6,h7,h19,h20,q1,n1,f1,F1⟩;have oN1:=oN.fr (g':=g1) (by omega) λi hi=>f1 i (oN.lt hi).2;have oC1:=oC.fr (g':=g1) (by omega) λi hi=>f1 i (oC.lt hi).2;have k0':g1.h.get g0.nx=.cells 1 [[.yld yi]] 0 false false:=by rw[f1 _ (by omega),k0]
  have k1':g1.h.get (g0.nx+1)=.cells 1 [[nv]] 0 false false:=by rw[f1 _ (by omega),k1]
  have hb2':g1.h.get b2=.cells 1 [[.int .u64 (s:Int)]] 0 false false:=by rw[F1.fr b2 hbn id,hb2]
  cases hb:s.testBit j with
  | false =>
   rw[hb] at e3;have en:=Ca s j;rw[hb] at en;simp only[Bool.false_eq_true,if_false,List.append_nil] at en;simp only[sz,simprocAttr,h2,h6,hb2',e1,e2,e3];exact ⟨⟨nv,cv,by simp[sx,St,LAs,h1,h2,h3,h4],h5,h18,k0',k1',by rw[en];exact oN1,by rw[en];exact oC1,hd,by omega,F1⟩,h20,h19⟩
  | true =>
   rw[hb] at e3;have en:=Ca s j;rw[hb,if_pos rfl] at en;simp only[sz,simprocAttr,sf,h2,h4,h5,h6,h7,hb2',k1',q1,e1,e2,e3,vp];have hnl:=Av s j;refine lK (new:=[cn j]) (oN1.fr (by simp;omega) λi hi=>?_) (by simp[sx,sy,cn]) (by simp;omega) (by simp[aW];omega) λv2 g2 hv2 n2 f2 c2 l2=>?_
   ·have:=(oN1.lt hi).2;simp[H.get_put,show ¬i=g1.nx+1+1 by omega,show ¬i=g1.nx+2 by omega]
   simp only[sz,simprocAttr] at n2 f2 l2;have hF0:=hF.nx;have hnv:∀i,(i<g0.nx+2\/g.nx<=i)->vid nv≠some i:=λi hi e=>by have:=oN.lt e;omega
   have q2:g2.h.get g.nx=.cells 3 [[.int .i64 y.card,pa,ra]] 0 false false:=by rw[f2 _ (by omega) (hnv _ (by omega)),if_neg (by omega),q1]
   have k02:g2.h.get g0.nx=.cells 1 [[.yld yi]] 0 false false:=by rw[f2 _ (by omega) (hnv _ (by omega)),if_neg (by omega),k0']
   have k12:g2.h.get (g0.nx+1)=.cells 1 [[nv]] 0 false false:=by rw[f2 _ (by omega) (hnv _ (by omega)),if_neg (by omega),k1']
   have oC2:=oC1.fr (g':=g2) (by omega) λi hi=>by have:=(oC1.lt hi).2;rw[f2 i (by omega) (λe=>hd i e hi),if_neg (by omega)]
   have hcl:(S.aT n (S.bH s j)).length<=8:=by simp[S.aT];omega
   simp only[sz,simprocAttr,sf,h4,h5,h6,h7,q2,vp];refine lK (new:=[ci y.card]) (oC2.fr (by simp;omega) λi hi=>?_) (by simp[sx,sy,ci]) (by simp;omega) (by simp[aW];omega) λv3 g3 hv3 n3 f3 c3 l3=>?_
   ·have:=(oC2.lt hi).2;simp[H.get_put];omega
   simp only[sz,simprocAttr] at n3 f3 l3;have hcv:∀i,(i<g0.nx+2\/g.nx<=i)->vid cv≠some i:=λi hi e=>by have:=oC.lt e;omega
   have k03:g3.h.get g0.nx=.cells 1 [[.yld yi]] 0 false false:=by rw[f3 _ (by omega) (hcv _ (by omega)),if_neg (by omega),k02]
   have k13:g3.h.get (g0.nx+1)=.cells 1 [[nv]] 0 false false:=by rw[f3 _ (by omega) (hcv _ (by omega)),if_neg (by omega),k12]
   obtain ⟨vc1,vc2⟩:=hv2.cell;simp only[sz,simprocAttr,sf,h4,k13,vc1,vc2];have r1':=Cm oN;have l2':∀i∈g2.lg,vid nv=some i\/g1.nx+1+1+1+1<=i/\i<g2.nx:=λi hi=>by simpa using l2 i hi
   have l3':∀i∈g3.lg,vid cv=some i\/g2.nx+1+1+1+1+1+1<=i/\i<g3.nx:=λi hi=>by simpa using l3 i hi
   have r2':=Cm oC;refine ⟨?_,?_⟩
   ·simp only[List.reverse_cons,List.reverse_nil,List.nil_append,List.cons_append];refine aF [false,false,true,true,false,false,false,true,true,true,false] [(0,2),(2,4),(3,4),(2,5),(3,5),(2,6),(3,6),(0,7),(1,7),(2,7),(3,7),(4,7)] (by simp[All2,ac,ay]) (by decide) ?_;intro p hp x y hx hy;simp only[List.mem_cons,List.not_mem_nil,or_false] at hp;rcases hp with rfl | rfl | rfl | rfl | rfl | rfl | rfl | rfl | rfl | rfl | rfl | rfl<;>(simp only[List.getElem?_cons_zero,List.getElem?_cons_succ,Option.some.injEq] at hx hy;subst hx;subst hy;refine bV rfl rfl rfl rfl ?_ ?_ ?_<;>simp[ac,ay,gE,oB])
    all_goals first | omega | exact λi hi e=>(l2' i hi).elim (λh=>by have:=oN.lt h;omega) (λh=>by omega) | exact λi hi e=>hi.elim (λh=>by have:=oN.lt (r1' i h);omega) (λh=>by omega)
   ·rw[en];refine ⟨⟨v2,v3,by simp[sx,St,LAs,h1,h2,h3,h4],by simp[sx],h18,by rw[if_neg (by omega)];exact k03,rfl,?_,?_,?_,by first | (simp;omega) | omega,?_⟩,h20,h19⟩
    ·rw[List.map_append];refine hv2.fr (by simp;omega) λi hi=>?_;have:=hv2.lt hi;have hc:vid cv≠some i:=λe=>by
      have:=oC.lt e;rcases c2 with c2 | ⟨k,c2,c3⟩
      ·exact hd i (by rw[<-c2];exact hi) e
      ·rw[hi] at c2;injection c2 with c2;simp at c3;omega
     have h3:=f3 i (by omega) hc;rw[if_neg (by omega)] at h3;simp[H.get_put,show ¬i=g0.nx+1 by omega,h3]
    ·rw[S.aT,List.map_append,List.map_append];have e1:(S.ac n)[j]?.getD 0=y.card:=by simp[S.ac,hy]
     simp only[List.map_cons,List.map_nil,e1];refine hv3.fr (by simp;omega) λi hi=>?_;have:=hv3.lt hi;simp[H.get_put,show ¬i=g0.nx+1 by omega]
    ·intro i hi hi2;have l1:=hv2.lt hi;rcases c3 with c3 | ⟨k,c3,c4⟩
     ·rw[c3] at hi2;have:=oC.lt hi2;rcases c2 with c2 | ⟨k,c2,c5⟩
      ·exact hd i (by rw[<-c2];exact hi) hi2
      ·rw[hi] at c2;injection c2 with c2;simp at c5;omega
     ·rw[hi2] at c3;injection c3 with c3;simp at c4;omega
    ·refine ⟨by simp;omega,λi hi _=>?_,λi hi=>?_⟩
     ·have h3:=f3 i (by omega) (hcv i (by omega));have h2:=f2 i (by omega) (hnv i (by omega));rw[if_neg (by omega)] at h3 h2;simp[H.get_put,show ¬i=g0.nx+1 by omega,h3,h2,F1.fr i hi (λh=>h)]
     ·simp at hi;rcases hi with rfl | hi | rfl | hi | rfl | hi
      ·exact .inr (.inr (by omega))
      ·rcases l3' i hi with h | h
       ·have:=oC.lt h;exact .inr (.inr (by omega))
       ·exact .inr (.inr (by omega))
      ·exact .inr (.inr (by omega))
      ·rcases l2' i hi with h | h
       ·have:=oN.lt h;exact .inr (.inr (by omega))
       ·exact .inr (.inr (by omega))
      ·exact .inr (.inr (by omega))
      ·exact F1.lg i hi
 ·rintro t df g ⟨rfl,nv,cv,hL,h5,h18,k0,k1,oN,oC,hd,hnx,hF⟩;exact fin t g nv cv hL h5 k0 k1 oN oC hnx hF
theorem Vs.own {n:Net}{pv:Nat}{w:List Int}{g:G}(h:Vs n pv w g)(hn:pv<g.nx):Own g 0 (.hsl pv 0 0 n.nodes.length none) 1 (w.map ci):=by obtain ⟨h1,lo,h2⟩:=h;exact .inr ⟨pv,0,lo,Nat.zero_le _,hn,by rw[List.length_map,h1],h2⟩
theorem Own.vs {n:Net}{pv m b:Nat}{w:List Int}{g:G}(h:Own g b (.hsl pv 0 0 m none) 1 (w.map ci))(hw:w.length=n.nodes.length):Vs n pv w g:=by
 rcases h with ⟨h,-⟩ | ⟨id,ep,lo,h1,h2,h3,h4⟩
 ·cases h
 ·injection h3 with e1 e2;subst e1;subst e2;exact ⟨hw,lo,h4⟩
structure AsH (n:Net) (size:Int) (b lv vv cv xv:AV) (pq pm b1 b2 s:Nat) (g:G):Prop where
 b1:g.h.get b1=.cells 1 [[.hptr pq 0 0 0]] 0 false false
 b2:g.h.get b2=.cells 1 [[.int .u64 (s:Int)]] 0 false false
 q:∃c,g.h.get pq=srO n.grain size c b lv vv cv xv pm
def LB3 (b1 B j:Nat)(u nv:AV):List (Nat×AV):=[(1,.hptr b1 0 0 0),(3,.hptr B 0 0 0),(8,.int .i64 (j:Int)),(9,u),(44,nv)]
set_option maxRecDepth 20000 in
theorem Ng {d b1 b2 B j pq pv pm s:Nat}{n:Net}{size:Int}{l:List Nat}{xs w:List Int}{b lv cv xv u nv:AV}{rd:Option Nat}{Q:QT}{t:T}{g1:G}(hl:∀v∈l,v<n.nodes.length)(hll:l.length<=8)(hxl:xs.length=l.length)
  (hH:∀g,(∀i,i≠pv->g.h.get i=g1.h.get i)->AsH n size b lv (.hsl pv 0 0 n.nodes.length none) cv xv pq pm b1 b2 s g/\ah g.h 1 nv=some (l.map cn)/\ah g.h 1 u=some (xs.map ci))
  (hV:Vs n pv w g1) (hpv:pv<g1.nx) (ht:St t (LB3 b1 B j u nv)) (h45:tat t 45=.int .i64 (l.length:Int)) (h46:tat t 46=.int .i64 0)
  (fin:∀t g,St t (LB3 b1 B j u nv)->Vs n pv (S.aB w l xs) g->Fx (λi=>i=pv) g1 g->(∀i,i≠pv->g.h.get i=g1.h.get i)->Q (.exit 4) t [] g) :
  wpL (wp C0 d rd bJ) Q t [] g1:=by
 obtain ⟨h1,h3,h8,h9,h44,-⟩:=ht;simp only[bJ];refine bk (m:=l.length) (by omega) (λk t df g=>df=[]/\St t (LB3 b1 B j u nv)/\Vs n pv (S.aB w (l.take k) (xs.take k)) g/\Fx (λi=>i=pv) g1 g/\(∀i,i≠pv->g.h.get i=g1.h.get i))
  ⟨rfl,by simp[St,LB3,h1,h3,h8,h9,h44],by simpa [S.aB] using hV,Fx.refl _ _,λ_ _=>rfl⟩ h46 h45 (by decide)
  (by rintro j t df g v s (rfl | rfl | rfl) ⟨rfl,⟨a1,a3,a8,a9,a44,-⟩,r⟩<;>exact ⟨rfl,by simp[sx,St,LB3,a1,a3,a8,a9,a44],r⟩) ?_ ?_
 ·clear h1 h3 h8 h9 h44 h45 h46;rintro k t df g hk ⟨rfl,⟨h1,h3,h8,h9,h44,-⟩,hVk,hF,hf⟩ h46 h45;obtain ⟨⟨hb1,hb2,c,hq⟩,hn,hu⟩:=hH g hf;obtain ⟨v,hv,hvt,hvm⟩:=ak hk;obtain ⟨x,hx,hxt,-⟩:=ak (l:=xs) (j:=k) (by omega);have hvn:=hl v hvm;have a1:k<(l.map cn).length:=by simpa using hk
  have a2:(l.map cn)[k]?=some (cn v):=by rw[List.getElem?_map,hv];rfl
  have a3:k<(xs.map ci).length:=by rw[List.length_map];omega
  have a4:(xs.map ci)[k]?=some (ci x):=by rw[List.getElem?_map,hx];rfl
  have hFn:=hF.nx;have oV:=hVk.own (by omega);have hwl:=hVk.1;have rv:=oV.rows;have b1':v<((S.aB w (l.take k) (xs.take k)).map ci).length:=by rw[List.length_map,hwl];exact hvn
  obtain ⟨y,hy,-,-⟩:=ak (l:=S.aB w (l.take k) (xs.take k)) (j:=v) (by omega);have b2':((S.aB w (l.take k) (xs.take k)).map ci)[v]?=some (ci y):=by rw[List.getElem?_map,hy];rfl
  simp only[sz,simprocAttr,sf,h1,h9,h44,h46,hb1,hq,srO,bm,hn,hu,rv,a1,a2,a3,a4,b1',cn,ci];refine oH (b:=0) (v:=.hsl pv 0 0 n.nodes.length none) (sz:=1) (n:=1) (i:=v) (off:=0) (x:=.int .i64 x) (row':=ci x) (oV.fr (by simp;omega) λi hi=>by simp) b2' rfl rfl rfl λg5 hu5 n5 f5 l5=>?_;rw[<-List.map_set,<-zw (by simp;omega),<-hvt,<-hxt] at hu5;have hlen:(S.aB w (l.take (k+1)) (xs.take (k+1))).length=n.nodes.length:=by rw[qo];exact hV.1
  have hvid:vid (.hsl pv 0 0 n.nodes.length none)=some pv:=rfl;simp only[sz,simprocAttr,sf];refine ⟨?_,?_⟩
  ·simp only[List.reverse_cons,List.reverse_nil,List.nil_append,List.cons_append];exact aF [false,false,false,false,false,false,false,false,false,false,true] [] (by simp[All2,ac,ay]) (by decide) (by simp)
  have hf5:∀i,i≠pv->g5.h.get i=g1.h.get i:=λi hi=>by have:=f5 i (λe=>hi (by injection e with e;exact e.symm));simp at this;rw[this,hf i hi]
  refine ⟨⟨by simp[St,LB3,sx,h1,h3,h8,h9,h44],(hu5.vs hlen).fr (by simp),⟨by simp at n5;simp;omega,λi _ hi=>by simpa using hf5 i hi,λi hi=>?_⟩,hf5⟩,h46,h45⟩;simp at hi;rcases hi with hi | hi
  ·rcases l5 i hi with h | h
   ·simp at h
   ·rw[hvid] at h;injection h with h;exact .inr (.inl h.symm)
  ·exact hF.lg i hi
 ·rintro t df g ⟨rfl,hL,hVk,hF,hf⟩;rw[List.take_length,<-hxl,List.take_length] at hVk;exact fin t g hL hVk hF hf
set_option maxRecDepth 20000 in
theorem Nh {d b1 b2 pq pv pm s:Nat}{n:Net}{size:Int}{l:List Nat}{w:List Int}{b lv cv xv nv:AV}{rd:Option Nat}{Q:QT}{t:T}{df0:List ADf}{g1:G}(hl:∀v∈l,v<n.nodes.length)(hll:l.length<=8)
  (hH:∀g,(∀i,i≠pv->g.h.get i=g1.h.get i)->AsH n size b lv (.hsl pv 0 0 n.nodes.length none) cv xv pq pm b1 b2 s g/\ah g.h 1 nv=some (l.map cn))
  (hV:Vs n pv w g1) (hpv:pv<g1.nx) (h1:tat t 1=.hptr b1 0 0 0) (h66:tat t 66=nv) (h67:tat t 67=.int .i64 (l.length:Int)) (h68:tat t 68=.int .i64 0)
  (fin:∀t g,Vs n pv (S.aY w l) g->Fx (λi=>i=pv) g1 g->(∀i,i≠pv->g.h.get i=g1.h.get i)->Q (.exit 6) t df0 g) :
  wpL (wp C0 d rd bK) Q t df0 g1:=by
 simp only[bK];refine bk (m:=l.length) (by omega) (λk t df g=>df=df0/\St t [(1,.hptr b1 0 0 0),(66,nv)]/\Vs n pv (S.aY w (l.take k)) g/\Fx (λi=>i=pv) g1 g/\(∀i,i≠pv->g.h.get i=g1.h.get i))
  ⟨rfl,by simp[St,h1,h66],by simpa [S.aY] using hV,Fx.refl _ _,λ_ _=>rfl⟩ h68 h67 (by decide)
  (by rintro j t df g v s (rfl | rfl | rfl) ⟨rfl,⟨a1,a66,-⟩,r⟩<;>exact ⟨rfl,by simp[sx,St,a1,a66],r⟩) ?_ ?_
 ·clear h1 h66 h67 h68;rintro k t df g hk ⟨rfl,⟨h1,h66,-⟩,hVk,hF,hf⟩ h68 h67;obtain ⟨⟨hb1,hb2,c,hq⟩,hn⟩:=hH g hf;obtain ⟨v,hv,hvt,hvm⟩:=ak hk;have hvn:=hl v hvm;have a1:k<(l.map cn).length:=by simpa using hk
  have a2:(l.map cn)[k]?=some (cn v):=by rw[List.getElem?_map,hv];rfl
  have hFn:=hF.nx;have oV:=hVk.own (by omega);have hwl:=hVk.1;have rv:=oV.rows;have b1':v<((S.aY w (l.take k)).map ci).length:=by rw[List.length_map,hwl];exact hvn
  obtain ⟨y,hy,-,-⟩:=ak (l:=S.aY w (l.take k)) (j:=v) (by omega);have b2':((S.aY w (l.take k)).map ci)[v]?=some (ci y):=by rw[List.getElem?_map,hy];rfl
  simp only[sz,simprocAttr,sf,h1,h66,h68,hb1,hq,srO,bm,hn,rv,a1,a2,b1',cn];refine oH (b:=0) (v:=.hsl pv 0 0 n.nodes.length none) (sz:=1) (n:=1) (i:=v) (off:=0) (x:=.int .i64 (-1)) (row':=ci (-1)) oV b2' rfl rfl rfl λg5 hu5 n5 f5 l5=>?_;rw[<-List.map_set,<-H5,<-hvt] at hu5;have hlen:(S.aY w (l.take (k+1))).length=n.nodes.length:=by rw[EN];exact hV.1
  have hvid:vid (.hsl pv 0 0 n.nodes.length none)=some pv:=rfl;simp only[sz,simprocAttr,sf];have hf5:∀i,i≠pv->g5.h.get i=g1.h.get i:=λi hi=>by have:=f5 i (λe=>hi (by injection e with e;exact e.symm));rw[this,hf i hi]
  refine ⟨⟨by simp[St,sx,h1,h66],hu5.vs hlen,⟨by omega,λi _ hi=>hf5 i hi,λi hi=>?_⟩,hf5⟩,h68,h67⟩;rcases l5 i hi with h | h
  ·exact hF.lg i h
  ·rw[hvid] at h;injection h with h;exact .inr (.inl h.symm)
 ·rintro t df g ⟨rfl,hL,hVk,hF,hf⟩;rw[List.take_length] at hVk;exact fin t g hVk hF hf
theorem qi {n:Net}(hr:NR n)(s:Nat):CsOk (S.aT n (S.aa n s)):=by
 refine ⟨λc hc=>?_,?_⟩
 ·obtain ⟨v,hv,rfl⟩:=List.mem_map.1 hc;have hvn:=(jC.1 hv).1;rw[List.getElem?_eq_getElem (by rw[ba];exact hvn),Option.getD_some];exact hr.cs _ (List.getElem_mem _)
 ·have:=Av s n.nodes.length;have:=hr.l2;simp[S.aT,JD];omega
set_option maxRecDepth 20000 in
theorem Ni {d yi b1 b2 pq pv pm s:Nat}{n:Net}{size:Int}{w:List Int}{b lv cv' xv:AV}{g0:G}{K:AV->G->Prop}(hr:NR n)(hN:SlR NoP 0 .nil n.nodes b)(hs:s<2 ^ n.nodes.length)(hbn:b1<g0.nx/\b2<g0.nx/\pv<g0.nx)(hw1:∀v∈S.aa n s,w[v]?=some (-1))
  (J:Nat->G->Prop) (hJH:∀j g,J j g->AsH n size b lv (.hsl pv 0 0 n.nodes.length none) cv' xv pq pm b1 b2 s g) (hne:b1≠pv/\b2≠pv/\pq≠pv/\pq<g0.nx)
  (hJ:∀j g g',g.nx<=g'.nx->(∀i,i<g0.nx->i≠pv->g'.h.get i=g.h.get i)->(∀i∈g'.lg,i∈g.lg\/i=pv\/g0.nx<=i)->J j g->J j g')
  (step:∀(j:Nat) (g:G) (K':AV->G->Prop) (D:ADf->Prop),j<S.aC n (S.aa n s)->J j g->Vs n pv (S.aw n w (S.aa n s) j) g->g0.nx<=g.nx ->
   (∀g',J (j+1) g'->Vs n pv (S.aw n w (S.aa n s) j) g'->g.nx<=g'.nx->(∀i,g0.nx<=i->i<g.nx->g'.h.get i=g.h.get i)->K' (.bool true) g')->(cg (I C0) d yi [.int .i64 (j:Int)] g).sat K' g D)
  (h0:J 0 g0) (hV:Vs n pv w g0) (fin:∀g',J (S.aC n (S.aa n s)) g'->Vs n pv w g'->g0.nx<=g'.nx->K (.tup []) g') :
  wp C0 d none aN.code (fnQ C0 d aN.res K) (bT 0 [.yld yi,.hptr b1 0 0 0,.hptr b2 0 0 0] .nil) [] g0:=by
 have hl8:=hr.l2;obtain ⟨hb1n,hb2n,hpvn⟩:=hbn;obtain ⟨ne1,ne2,ne3,hpqn⟩:=hne;have nl:=λg:G=>hN.len g;have hcs:=qi hr s;obtain ⟨W1,W2,W3⟩:=hcs.nc;have hin:∀v∈S.aa n s,v<n.nodes.length:=λv hv=>(jC.1 hv).1;have hll:(S.aa n s).length<=8:=by have:=Av s n.nodes.length;rw[JD];omega
 have hbx:∀g:G,vX (.yld yi) g=.upd (.hptr g.nx 0 0 0) (g.new (.cells 1 [[.yld yi]] 0 false false)):=λg=>rfl;obtain ⟨Qf,hQf⟩:∃Qf,Qf=fnQ C0 d aN.res K:=⟨_,rfl⟩;rw[<-hQf];simp only[sz,simprocAttr,aN,hbx];simp only[dC];refine be (P:=λt' df g'=>df=[]/\g'.h.get g0.nx=.cells 1 [[.yld yi]] 0 false false/\g'.h.get (g0.nx+1)=.cells 1 [[.nils]] 0 false false/\g0.nx+2<=g'.nx/\Fx (λ_=>False) g0 g'/\St t' (LAs b1 b2 g0.nx)/\tat t' 5=.nils) ?_ ?_
 ·simp only[sz,simprocAttr];refine ⟨by simp[H.get_put],by simp,(Fx.new _ _ _).trans (Fx.new _ _ _),by simp[St,LAs,sx]⟩
 rintro t df g1 ⟨rfl,kB,kB1,n1,F1,⟨h1,h2,h3,h4,-⟩,h5⟩;have A1:=hJH 0 g0 h0;obtain ⟨ab1,ab2,c,aq⟩:=A1;refine bM (P:=λt g=>λg'=>g=[]/\∃nv cv,St t (LAs b1 b2 g0.nx)/\tat t 5=cv/\g'.h.get g0.nx=.cells 1 [[.yld yi]] 0 false false/\g'.h.get (g0.nx+1)=.cells 1 [[nv]] 0 false false/\Own g' (g0.nx+2) nv 1 ((S.aa n s).map cn)/\Own g' (g0.nx+2) cv 1 ((S.aT n (S.aa n s)).map ci)/\g0.nx+2<=g'.nx/\Fx (λ_=>False) g0 g') ?_ ?_
 ·have e1:g1.h.get b1=.cells 1 [[.hptr pq 0 0 0]] 0 false false:=by rw[F1.fr b1 hb1n id,ab1]
  have e2:g1.h.get pq=srO n.grain size c b lv (.hsl pv 0 0 n.nodes.length none) cv' xv pm:=by rw[F1.fr pq hpqn id,aq]
  simp only[sz,simprocAttr,h1,e1,e2,srO,bm,nl];refine Nf (b1:=b1) (b2:=b2) (yi:=yi) (g0:=g0) (s:=s) hr hN hs ab2 hb2n kB kB1 n1 F1 (by simp[St,LAs,sx,h1,h2,h3,h4]) (by simp[sx,h5]) (by simp[sx]) (by simp[sx]) (by simp[sx]) λt g nv cv hL h5 k0 k1 oN oC hn hF=>?_;simp only[sz,simprocAttr];exact ⟨nv,cv,hL,h5,k0,k1,oN,oC,hn,hF⟩
 clear h1 h2 h3 h4 h5 kB kB1 n1 F1 g1;rintro t df g1 ⟨rfl,nv,cv,⟨h1,h2,h3,h4,-⟩,h5,kB,kB1,oN,oC,n1,F1⟩;obtain ⟨cc1,cc2⟩:=oC.cell;simp only[dt];simp only[sz,simprocAttr,h5];refine H_ cc1 cc2 ?_;simp only[sz,simprocAttr];obtain ⟨g2,hg2⟩:∃g2,g2=g1.new (.cells 1 [[cv]] 0 false false):=⟨_,rfl⟩;rw[<-hg2];have n2:g2.nx=g1.nx+1:=by rw[hg2];simp
 have kx:g2.h.get g1.nx=.cells 1 [[cv]] 0 false false:=by rw[hg2];simp[H.get_put]
 have f2:∀i,i<g1.nx->g2.h.get i=g1.h.get i:=λi hi=>by rw[hg2];simp[H.get_put,show ¬i=g1.nx by omega]
 have F2:Fx (λ_=>False) g0 g2:=by rw[hg2];exact F1.trans (Fx.new _ _ _)
 clear hg2;have kB2:g2.h.get g0.nx=.cells 1 [[.yld yi]] 0 false false:=by rw[f2 _ (by omega),kB]
 have kB12:g2.h.get (g0.nx+1)=.cells 1 [[nv]] 0 false false:=by rw[f2 _ (by omega),kB1]
 have oN2:Own g2 (g0.nx+2) nv 1 ((S.aa n s).map cn):=oN.fr (by omega) λi hi=>f2 i (oN.lt hi).2;have oC2:Own g2 (g0.nx+2) cv 1 ((S.aT n (S.aa n s)).map ci):=oC.fr (by omega) λi hi=>f2 i (oC.lt hi).2;have nlN:∀g:G,eB .slice nv g=.val (.int .i64 ((S.aa n s).length:Int)):=λg=>by have:=oN2.sat_len g;rwa [List.length_map] at this
 have J2:J 0 g2:=hJ 0 g0 g2 F2.nx (λi hi _=>F2.fr i hi id) (λi hi=>(F2.lg i hi).imp id λh=>h.elim False.elim .inr) h0;have V2:Vs n pv w g2:=hV.fr (F2.fr pv hpvn id);refine Hj (bx:=g1.nx) (w:=cv) (cs:=S.aT n (S.aa n s)) hcs (by simp[sx]) (by decide) (by decide)
  (λj g=>J j g/\(∃w',Vs n pv w' g/\KR (S.aa n s) w' w)/\(∀i,g0.nx<=i->i<g2.nx->g.h.get i=g2.h.get i)/\g2.nx<=g.nx) (λ_=>False) ?_ ?_ (λ_ _ _ h=>h) ⟨J2,⟨w,V2,rfl,λ_ _=>rfl⟩,λ_ _ _=>rfl,Nat.le_refl _⟩ ?_ ?_ (λ_ h=>h.elim)
 ·rintro j g ⟨-,-,hf,hn⟩;have oC3:=oC2.fr hn λi hi=>hf i (by have:=(oC2.lt hi).1;omega) (oC2.lt hi).2;exact ⟨by rw[hf _ (by omega) (by omega),kx],oC3.rows,λg'=>by have:=oC3.sat_len g';rwa [List.length_map] at this⟩
 ·rintro j g3 g4 ⟨hU,hn,-⟩ ⟨a1,⟨w',a2,a3⟩,a4,a5⟩;exact ⟨hJ j g3 g4 hn (λi hi _=>hU.1 i (by omega)) (λi hi=>(hU.2 i hi).imp id λh=>.inr (by omega)) a1,⟨w',a2.fr (hU.1 pv (by omega)),a3⟩,λi h1 h2=>by rw[hU.1 i h2,a4 i h1 h2],by omega⟩
 ·rintro j u g3 hj ⟨a1,⟨w',a2,a3⟩,a4,a5⟩ hn3 hu;simp only[sz,simprocAttr,dj];refine ⟨Fr.refl _,λg5 n5 f5 u5=>?_⟩;have J5:J j g5:=hJ j g3 g5 (by omega) (λi hi _=>u5.1 i (by omega)) (λi hi=>(u5.2 i hi).imp id λh=>.inr (by omega)) a1;have V5:Vs n pv w' g5:=a2.fr (u5.1 pv (by omega));have f25:∀i,g0.nx<=i->i<g2.nx->g5.h.get i=g2.h.get i:=λi h1 h2=>by rw[u5.1 i h2,a4 i h1 h2]
  have kB5:g5.h.get g0.nx=.cells 1 [[.yld yi]] 0 false false:=by rw[f25 _ (by omega) (by omega),kB2]
  have kB15:g5.h.get (g0.nx+1)=.cells 1 [[nv]] 0 false false:=by rw[f25 _ (by omega) (by omega),kB12]
  have oN5:=oN2.fr (g':=g5) (by omega) λi hi=>f25 i (by have:=(oN2.lt hi).1;omega) (oN2.lt hi).2;have hu5:SlR (λi=>g2.nx+2<=i/\i<g3.nx) 0 g5.h (S.aG (S.aT n (S.aa n s)) (j:Int)) u:=hu.far8 λi hi=>f5 i (by omega);have hxl:(S.aG (S.aT n (S.aa n s)) (j:Int)).length=(S.aa n s).length:=by rw[El];simp[S.aT]
  simp only[sz,simprocAttr,dk,h4,kB15,nlN];refine Ng (b1:=b1) (b2:=b2) (B:=g0.nx) (j:=j) (pq:=pq) (pv:=pv) (pm:=pm) (s:=s) (size:=size) (w:=w') (b:=b) (lv:=lv) (cv:=cv') (xv:=xv) (l:=S.aa n s) (xs:=S.aG (S.aT n (S.aa n s)) (j:Int)) (u:=u) (nv:=nv) hin hll hxl ?_ V5 (by omega) (by simp[St,LB3,sx,h1,h3]) (by simp[sx]) (by simp[sx]) ?_
  ·intro g hg;have hA:=hJH j g5 J5;obtain ⟨c1,c2,c3,c4⟩:=hA;refine ⟨⟨by rw[hg _ ne1,c1],by rw[hg _ ne2,c2],c3,by rw[hg _ ne3,c4]⟩,?_,?_⟩
   ·exact (oN5.fr (g':=⟨g.h,g5.nx,[]⟩) (Nat.le_refl _) λi hi=>hg i (by have:=(oN5.lt hi).1;omega)).rows
   ·exact (hu5.far8 λi hi=>hg i (by omega)).ints
  rintro t6 g6 ⟨h1,h3,h8,h9,h44,-⟩ V6 F6 f6;rw[CG hxl a3] at V6;have F6n:=F6.nx;simp only[sz,simprocAttr,dm,h3,f6 _ (show g0.nx≠pv by omega),kB5,h8];show (cg (I C0) d yi [.int .i64 (j:Int)] _).sat _ _ _;refine step j _ _ _ hj (hJ j g5 g6 F6.nx (λi _ hi=>f6 i hi) (λi hi=>(F6.lg i hi).imp id λh=>h.imp id λh=>by omega) J5) V6 (by omega) λg8 J8 V8 n8 f8=>?_;simp only[sz,simprocAttr];refine ⟨by omega,λi h1 h2=>by rw[f8 i (by omega) (by omega),f6 i (by omega)],.inl ⟨rfl,J8,⟨_,V8,HH⟩,λi h1 h2=>by rw[f8 i h1 (by omega),f6 i (by omega),f25 i h1 h2],by omega⟩⟩
 ·rintro g3 ⟨a1,⟨w',a2,a3⟩,a4,a5⟩ hn3 hdf;have kB3:g3.h.get (g0.nx+1)=.cells 1 [[nv]] 0 false false:=by rw[a4 _ (by omega) (by omega),kB12]
  have oN3:=oN2.fr (g':=g3) a5 λi hi=>a4 i (by have:=(oN2.lt hi).1;omega) (oN2.lt hi).2;simp only[sz,simprocAttr,dq,h4,kB3,nlN];refine Nh (b1:=b1) (b2:=b2) (pq:=pq) (pv:=pv) (pm:=pm) (s:=s) (size:=size) (w:=w') (b:=b) (lv:=lv) (cv:=cv') (xv:=xv) (l:=S.aa n s) (nv:=nv) hin hll ?_ a2 (by omega) (by simp[sx,h1]) (by simp[sx]) (by simp[sx]) (by simp[sx]) ?_
  ·intro g hg;obtain ⟨c1,c2,c3,c4⟩:=hJH _ g3 a1;refine ⟨⟨by rw[hg _ ne1,c1],by rw[hg _ ne2,c2],c3,by rw[hg _ ne3,c4]⟩,?_⟩;exact (oN3.fr (g':=⟨g.h,g3.nx,[]⟩) (Nat.le_refl _) λi hi=>hg i (by have:=(oN3.lt hi).1;omega)).rows
  rintro t6 g6 V6 F6 f6;rw[EM a3,Bm hw1] at V6;have F6n:=F6.nx;simp only[sz,simprocAttr];rw[hQf];show zU C0 d [] t6 [.mark g2.nx] g6 K;refine mZ (by rw[f6 _ (by omega),hdf]) ?_;exact fin _ (hJ _ g3 _ (by simpa using F6n) (λi hi hp=>by rw[G.put_h,ae _ _ _ (by omega),f6 i hp]) (λi hi=>by
   simp at hi;rcases hi with rfl | hi
   ·exact .inr (.inr (by omega))
   ·exact (F6.lg i hi).imp id λh=>h.imp id λh=>by omega) a1) (V6.fr (by rw[G.put_h,ae _ _ _ (by omega)])) (by simp;omega)
theorem yK {d pq s:Nat}{g:G}{K:AV->G->Prop}{D:ADf->Prop}
  (kk:K (.clo N.ay [] [.hptr g.nx 0 0 0,.hptr (g.nx+1) 0 0 0]) ((g.new (.cells 1 [[.hptr pq 0 0 0]] 0 false false)).new (.cells 1 [[.int .u64 (s:Int)]] 0 false false))) :
  (ax C0 d N.ax [.hptr pq 0 0 0,.int .u64 (s:Int)] g).sat K g D:=by
 rw[jq];refine gK ko (by simp[cH]) ?_;have hbx:∀g:G,vX (.hptr pq 0 0 0) g=.upd (.hptr g.nx 0 0 0) (g.new (.cells 1 [[.hptr pq 0 0 0]] 0 false false)):=λg=>rfl;simp only[sz,simprocAttr,cH,dY,hbx];exact kk
theorem Lj:C0.ext N.ay=none:=by kernel_rfl
theorem FH {d nt p r b1 b2 pq pv pm s:Nat}{n:Net}{size:Int}{w:List Int}{b lv cv xv:AV}{cb:SC}{Q:QT}{t:T}{df:List ADf}{g:G}(hr:NR n)(hN:SlR NoP 0 .nil n.nodes b)(hs:s<2 ^ n.nodes.length)
  (hv:tat t r=.clo N.ay [] [.hptr b1 0 0 0,.hptr b2 0 0 0]) (hp:p<nt) (hbn:b1<g.nx/\b2<g.nx/\pv<g.nx) (hw1:∀v∈S.aa n s,w[v]?=some (-1))
  (J:Nat->G->Prop) (hJH:∀j g,J j g->AsH n size b lv (.hsl pv 0 0 n.nodes.length none) cv xv pq pm b1 b2 s g) (hne:b1≠pv/\b2≠pv/\pq≠pv/\pq<g.nx)
  (hJ:∀j g1 g2,g1.nx<=g2.nx->(∀i,i<g.nx->i≠pv->g2.h.get i=g1.h.get i)->(∀i∈g2.lg,i∈g1.lg\/i=pv\/g.nx<=i)->J j g1->J j g2)
  (h0:J 0 g) (hV:Vs n pv w g)
  (step:∀(j:Nat) (g2:G),j<S.aC n (S.aa n s)->J j g2->Vs n pv (S.aw n w (S.aa n s) j) g2->g.nx+2<=g2.nx ->
   wp C0 d (some (g.nx+1)) cb (λe _ df g3=>df=[]/\e=.norm/\g2.nx<=g3.nx/\(∀i,g.nx<=i->i<g2.nx->g3.h.get i=g2.h.get i)/\J (j+1) g3/\Vs n pv (S.aw n w (S.aa n s) j) g3) (eV t p (.int .i64 (j:Int))) [] g2)
  (fin:∀g',J (S.aC n (S.aa n s)) g'->Vs n pv w g'->g.nx+2<=g'.nx->g'.h.get g.nx=.dfr true->Q .norm t (.mark g.nx::df) g') :
  wp C0 d none (.rng nt (.t r) [p] .skip cb) Q t df g:=by
 obtain ⟨hb1n,hb2n,hpvn⟩:=hbn;obtain ⟨ne1,ne2,ne3,hpqn⟩:=hne;refine rY (fn:=N.ay) (first:=[]) (cap:=[.hptr b1 0 0 0,.hptr b2 0 0 0]) (s:=aN) hv Lj ju (by simp[aN]) ?_;intro assign body ha hb';obtain ⟨ga,hga⟩:∃ga,ga=(g.new (.dfr true)).new (.loop nt t [p] assign body g.nx .ready none):=⟨_,rfl⟩;rw[<-hga];have na:ga.nx=g.nx+2:=by rw[hga];simp
 have fa:∀i,i<g.nx->ga.h.get i=g.h.get i:=λi hi=>by rw[hga];simp[H.get_put,show ¬i=g.nx by omega,show ¬i=g.nx+1 by omega]
 have ga1:ga.h.get g.nx=.dfr true:=by rw[hga];simp[H.get_put]
 have ga2:ga.h.get (g.nx+1)=.loop nt t [p] assign body g.nx .ready none:=by rw[hga];simp[H.get_put]
 have la:∀i∈ga.lg,i∈g.lg\/g.nx<=i:=λi hi=>by
  rw[hga] at hi;simp at hi;rcases hi with rfl | rfl | hi
  ·exact .inr (by omega)
  ·exact .inr (Nat.le_refl _)
  ·exact .inl hi
 clear hga;refine Ni (g0:=ga) (yi:=g.nx+1) (pq:=pq) (pv:=pv) (pm:=pm) (s:=s) (size:=size) (w:=w) (b:=b) (lv:=lv) (cv':=cv) (xv:=xv) hr hN hs ⟨by omega,by omega,by omega⟩ hw1
  (λj g'=>J j g'/\g'.h.get g.nx=.dfr true/\g'.h.get (g.nx+1)=.loop nt t [p] assign body g.nx .ready none) (λj g' h=>hJH j g' h.1) ⟨ne1,ne2,ne3,by omega⟩ ?_ ?_ ⟨hJ 0 g ga (by omega) (λi hi _=>fa i hi) (λi hi=>(la i hi).imp id .inr) h0,ga1,ga2⟩ (hV.fr (fa pv hpvn)) ?_
 ·rintro j g1 g2 hn hf hl ⟨a1,a2,a3⟩;exact ⟨hJ j g1 g2 hn (λi hi hp=>hf i (by omega) hp) (λi hi=>(hl i hi).imp id λh=>h.imp id λh=>by omega) a1,by rw[hf _ (by omega) (by omega),a2],by rw[hf _ (by omega) (by omega),a3]⟩
 ·rintro j g1 K' D hj ⟨a1,a2,a3⟩ hV1 hn kk;refine zn a3 ha hb' (t':=eV t p (.int .i64 (j:Int))) ?_ ?_
  ·simp only[cN,aa,Nat.blt_eq,if_pos hp];rfl
  ·rw[A4];refine ⟨rfl,rfl,a3,?_⟩;have hJ2:=hJ j g1 (g1.put (g.nx+1) (.loop nt t [p] assign body g.nx .busy none)) (by simp) (λi hi _=>by rw[G.put_h,ae _ _ _ (by omega)]) (λi hi=>by simp at hi;rcases hi with rfl | hi;exact .inr (.inr (by omega));exact .inl hi) a1;refine bP _ (step j _ hj hJ2 (hV1.fr (by rw[G.put_h,ae _ _ _ (by omega)])) (by simp;omega)) ?_;rintro e t2 df2 g3 ⟨rfl,rfl,n3,f3,b1',b2'⟩;have n3':g1.nx<=g3.nx:=by simpa using n3
   have b4:g3.h.get (g.nx+1)=.loop nt t [p] assign body g.nx .busy none:=by rw[f3 _ (by omega) (by simp;omega)];simp[H.get_put]
   have b5:g3.h.get g.nx=.dfr true:=by rw[f3 _ (by omega) (by simp;omega)];simp[H.get_put,a2]
   refine ⟨rfl,b4,.inl ⟨rfl,kk _ ⟨hJ _ g3 _ (by simp) (λi hi _=>by rw[G.put_h,ae _ _ _ (by omega)]) (λi hi=>by simp at hi;rcases hi with rfl | hi;exact .inr (.inr (by omega));exact .inl hi) b1',?_,?_⟩ (b2'.fr (by rw[G.put_h,ae _ _ _ (by omega)])) (by simp;omega) λi h1 h2=>?_⟩⟩
   ·simp[H.get_put,b5]
   ·simp[H.get_put]
   ·have hne:¬i=g.nx+1:=by omega
    have:=f3 i (by omega) (by simp;omega);simp[H.get_put,hne] at this ⊢;rw[this]
 ·rintro g' ⟨a1,a2,a3⟩ hV' hn;refine ⟨_,_,_,_,_,_,.inl ⟨a3,fin _ (hJ _ g' _ (by simp) (λi hi _=>by rw[G.put_h,ae _ _ _ (by omega)]) (λi hi=>by simp at hi;rcases hi with rfl | hi;exact .inr (.inr (by omega));exact .inl hi) a1) (hV'.fr (by rw[G.put_h,ae _ _ _ (by omega)])) (by simp;omega) ?_⟩⟩;simp[H.get_put,a2]
end
end Hx
end
section
namespace Hx
open Go
theorem y8 (e l:List Int)(p:Int):S.aQ e (l++[p])=if e[p.toNat]?.getD 0 = -1 then S.aQ e l ||| S.aO p.toNat else S.aQ e l:=by simp[S.aQ]
theorem vy {e:List Int}:∀{l:List Int},(∀p∈l,p.toNat<64)->∀v,(S.aQ e l).testBit v=true↔∃p∈l,p.toNat=v/\e[v]?.getD 0 = -1:=by
 have key:∀(l:List Int) (s:Nat),(∀p∈l,p.toNat<64)->∀v,(l.foldl (λs p=>if e[p.toNat]?.getD 0 = -1 then s ||| S.aO p.toNat else s) s).testBit v=true↔s.testBit v=true\/∃p∈l,p.toNat=v/\e[v]?.getD 0 = -1:=by
  intro l
  induction l with
  | nil=>intro s _ v;simp
  | cons p l ih =>
   intro s h v;rw[List.foldl_cons,ih _ (λq hq=>h q (by simp[hq])) v];have hp:=h p (by simp)
   by_cases c:e[p.toNat]?.getD 0 = -1
   ·rw[if_pos c,da,tQ hp,Bool.or_eq_true,decide_eq_true_eq];constructor
    ·rintro ((h1 | h1) | ⟨q,h1,h2⟩)
     ·exact .inl h1
     ·exact .inr ⟨p,by simp,h1,by rw[<-h1];exact c⟩
     ·exact .inr ⟨q,by simp[h1],h2⟩
    ·rintro (h1 | ⟨q,h1,h2,h3⟩)
     ·exact .inl (.inl h1)
     ·rcases List.mem_cons.1 h1 with rfl | h1
      ·exact .inl (.inr h2)
      ·exact .inr ⟨q,h1,h2,h3⟩
   ·rw[if_neg c];constructor
    ·rintro (h1 | ⟨q,h1,h2⟩)
     ·exact .inl h1
     ·exact .inr ⟨q,by simp[h1],h2⟩
    ·rintro (h1 | ⟨q,h1,h2,h3⟩)
     ·exact .inl h1
     ·rcases List.mem_cons.1 h1 with rfl | h1
      ·exact absurd (by rw[h2];exact h3) c
      ·exact .inr ⟨q,h1,h2,h3⟩
 intro l hl v;have:=key l 0 hl v;simpa [S.aQ] using this
theorem lZ {n:Net}(hr:NR n){v:Nat}(hv:v<n.nodes.length):∀p∈S.aI n v,0<=p/\p<(n.nodes.length:Int):=λp hp=>by
 rw[S.aI,List.getElem?_eq_getElem hv] at hp;simp only[Option.map_some,Option.getD_some,List.mem_append,List.mem_singleton] at hp;rcases hp with hp | rfl
 ·have:=hr.pin (List.getElem_mem hv) p hp;rwa [ba] at this
 ·omega
theorem BJ {n:Net}(hr:NR n){v:Nat}(hv:v<n.nodes.length):(S.aI n v).length<=9:=by rw[S.aI,List.getElem?_eq_getElem hv];have:=lj (hr.places _ (List.getElem_mem hv)) (by omega);have:=hr.l2;simp;omega
theorem An {s n:Nat}(h:∀v,s.testBit v=true->v<n):s<2 ^ n:=Nat.lt_pow_two_of_testBit s λi hi=>by
 cases hb:s.testBit i with
 | false=>rfl
 | true=>have:=h i hb;omega
theorem EY {n:Net}(hr:NR n){v:Nat}(hv:v<n.nodes.length)(e:List Int):S.aA n e v<2 ^ n.nodes.length:=by have hl:=hr.l2;refine An λu hu=>?_;obtain ⟨p,h1,h2,-⟩:=(vy (λp hp=>by have:=lZ hr hv p hp;omega) u).1 hu;have:=lZ hr hv p h1;omega
theorem od {n:Net}(hr:NR n){v:Nat}(hv:v<n.nodes.length)(e:List Int)(u:Nat):(S.aA n e v).testBit u=true↔(u:Int)∈S.aI n v/\e[u]?.getD 0 = -1:=by
 have hl:=hr.l2;rw[S.aA,vy (λp hp=>by have:=lZ hr hv p hp;omega)];constructor
 ·rintro ⟨p,h1,h2,h3⟩;have:=lZ hr hv p h1;exact ⟨by rw[show (u:Int)=p by omega];exact h1,h3⟩
 ·rintro ⟨h1,h2⟩;exact ⟨_,h1,by omega,h2⟩
theorem FV {cs:List Int}{m:Nat}:∀{l:List Nat} {w xs:List Int},l.Nodup->(∀v∈l,v<w.length)->InC (l.map λv=>cs[v]?.getD 0) xs->∀v∈l,∃x,(S.aB w l xs)[v]?=some x/\0<=x/\x<cs[v]?.getD 0
 | [],_,_,_,_,_,v,hv=>by simp at hv
 | u::r,w,[],_,_,h,_,_=>h.elim
 | u::r,w,x::xs,hn,hl,h,v,hv=>by
  rw[List.nodup_cons] at hn;rw[S.aB]
  by_cases e:v∈r
  ·exact FV (m:=m) hn.2 (λy hy=>by rw[List.length_set];exact hl y (by simp[hy])) h.2 v e
  ·rcases List.mem_cons.1 hv with rfl | hv
   ·refine ⟨x,?_,h.1⟩;rw[nL e,List.getElem?_set_self (hl v (by simp))]
   ·exact absurd hv e
theorem G6 (n:Net)(s:Nat):(S.aa n s).Nodup:=List.Pairwise.filter _ List.nodup_range
def Wv (n:Net)(w:List Int):Prop:=w.length=n.nodes.length/\∀v,v<n.nodes.length->w[v]?.getD 0 = -1\/0<=w[v]?.getD 0/\w[v]?.getD 0<(S.ac n)[v]?.getD 0
theorem LJ {n:Net}(hr:NR n)(s:Nat)(j:Int):InC (S.aT n (S.aa n s)) (S.aG (S.aT n (S.aa n s)) j):=rV (λc hc=>((qi hr s).b c hc).1) j
theorem DU {n:Net}(hr:NR n){w:List Int}(hw:w.length=n.nodes.length){s j v:Nat}(hv:v∈S.aa n s):∃x,(S.aw n w (S.aa n s) j)[v]?=some x/\0<=x/\x<(S.ac n)[v]?.getD 0 :=
 FV (m:=0) (G6 n s) (λu hu=>by rw[hw];exact (jC.1 hu).1) (LJ hr s j) v hv
theorem tv {n:Net}{w:List Int}{s j v:Nat}(hv:v ∉ S.aa n s):(S.aw n w (S.aa n s) j)[v]?=w[v]?:=nL hv
theorem J4 {n:Net}(hr:NR n){w:List Int}(hw:Wv n w)(s j:Nat):Wv n (S.aw n w (S.aa n s) j):=by
 refine ⟨by rw[S.aw,qo];exact hw.1,λv hv=>?_⟩
 by_cases h:v∈S.aa n s
 ·obtain ⟨x,h1,h2⟩:=DU hr hw.1 (j:=j) h;rw[h1];exact .inr h2
 ·rw[tv h];exact hw.2 v hv
theorem BG {n:Net}(h:NR n){vals:List Int}{v:Nat}{x:Node}(hx:n.nodes[v]?=some x)(hf:∀p∈S.aI n v,0<=vals[p.toNat]?.getD 0/\vals[p.toNat]?.getD 0<(S.ac n)[p.toNat]?.getD 0) :
  InC (S.ah (S.ac n) x.parents) (S.ah vals x.parents)/\∃(i:Nat) (r:List Int) (c y:Int),S.ak (S.ah (S.ac n) x.parents) (S.ah vals x.parents)=(i:Int)/\i<x.rows.length/\x.rows[i]?=some r/\vals[v]?.getD 0=c/\0<=c/\r[c.toNat]?=some y/\S.aH n vals v=y/\0<=y/\y<=60:=by
 have hm:=List.mem_of_getElem? hx;have hfl:S.aI n v=x.parents++[(v:Int)]:=by simp[S.aI,hx]
 have hC:InC (S.ah (S.ac n) x.parents) (S.ah vals x.parents):=by refine wY (by simp[S.ah]) λi c y h1 h2=>?_;simp only[S.ah,List.getElem?_map,Option.map_eq_some_iff] at h1 h2;obtain ⟨p,h3,rfl⟩:=h1;obtain ⟨p',h4,rfl⟩:=h2;rw[h3] at h4;injection h4 with h4;subst h4;exact hf p (by rw[hfl];simp[List.mem_of_getElem? h3])
 have hi:=jX (jP h.cs (h.pin hm)) hC;rw[<-h.rows x hm] at hi;obtain ⟨i,he⟩:=Int.eq_ofNat_of_zero_le hi.1;have hil:i<x.rows.length:=by omega
 have hv:=hf (v:Int) (by rw[hfl];simp);rw[Int.toNat_natCast] at hv;have hc:(S.ac n)[v]?.getD 0=x.card:=by simp[S.ac,hx]
 rw[hc] at hv;obtain ⟨r1,r2,-⟩:=h.row x hm x.rows[i] (List.getElem_mem hil);have hcl:(vals[v]?.getD 0).toNat<(x.rows[i]).length:=by omega
 have hg:=h.g2;have hb:=r2 _ (List.getElem_mem hcl);refine ⟨hC,i,x.rows[i],_,(x.rows[i])[(vals[v]?.getD 0).toNat],he,hil,List.getElem?_eq_getElem hil,rfl,hv.1,List.getElem?_eq_getElem hcl,?_,hb.1,by omega⟩;simp only[S.aH,hx,he,Int.toNat_natCast,List.getElem?_eq_getElem hil,Option.getD_some,List.getElem?_eq_getElem hcl]
theorem B3 {n:Net}(hr:NR n){w:List Int}(hw:Wv n w){v j:Nat}(hv:v<n.nodes.length):∀p∈S.aI n v,0<=(S.aw n w (S.aa n (S.aA n w v)) j)[p.toNat]?.getD 0/\(S.aw n w (S.aa n (S.aA n w v)) j)[p.toNat]?.getD 0<(S.ac n)[p.toNat]?.getD 0:=λp hp=>by
 have h1:=lZ hr hv p hp
 by_cases h:p.toNat∈S.aa n (S.aA n w v)
 ·obtain ⟨x,h2,h3⟩:=DU hr hw.1 (j:=j) h;rw[h2];exact h3
 ·rw[tv h];have h2:=hw.2 p.toNat (by omega);rcases h2 with h2 | h2
  ·refine absurd (jC.2 ⟨by omega,(od hr hv w p.toNat).2 ⟨by rw[Int.toNat_of_nonneg h1.1];exact hp,h2⟩⟩) h
  ·exact h2
theorem uf {n:Net}(hr:NR n){w:List Int}(hw:Wv n w){v:Nat}(hv:v<n.nodes.length):∀k:Nat,0<=S.sm (λj=>S.aH n (S.aw n w (S.aa n (S.aA n w v)) j) v) k/\S.sm (λj=>S.aH n (S.aw n w (S.aa n (S.aA n w v)) j) v) k<=60*k
 | 0=>by simp[S.sm]
 | k+1=>by have h1:=uf hr hw hv k;obtain ⟨-,i,r,c,y,-,-,-,-,-,-,h2,h3,h4⟩:=BG hr (List.getElem?_eq_getElem hv) (B3 hr hw (j:=k) hv);rw[S.sm,h2];omega
noncomputable section
theorem GT {d f:Nat}{xs:List AV}{g:G}{K K':AV->G->Prop}{D D2:ADf->Prop}(h0:xs.flatMap (aw g.h aD)=[])(hs:(orF ((I HC).call d f xs ⟨.nil,g.nx,[]⟩)).sat K' ⟨.nil,g.nx,[]⟩ D2)
  (hk:∀v g'' g',K' v g''->Fr g g'->g'.nx=g''.nx->(∀k,g''.h.get k≠.none->g'.h.get k=g''.h.get k)->(∀k∈g'.lg,k∈g.lg\/g.nx<=k/\k<g'.nx)->K v g'):(yw HC f d xs g).sat K g D:=by
 refine Ls Na (K':=K') (D2:=D2) (by rw[h0];simp) (by rw[h0];exact hs) λv g'' hv hn hl ho=>?_;rw[h0] at hl ho;have hl2:∀k∈g''.lg,g.nx<=k:=λk hk=>by have:=(hl k hk).2;simp at this;omega
 refine hk v g'' _ hv ⟨hn,λi hi=>?_⟩ rfl (λk hk=>?_) λk hk=>?_
 ·show (eU _ _ _).get i=_;rw[dJ,if_neg];intro h;have:=hl2 i h;omega
 ·show (eU _ _ _).get k=_;rw[dJ,if_pos]
  by_cases h:k∈g''.lg
  ·exact h
  ·exact absurd (by rw[ho k h];exact Fy k) hk
 ·rcases List.mem_append.1 hk with h | h
  ·exact .inr ⟨hl2 k h,(hl k h).1⟩
  ·exact .inl h
theorem tZ {d k:Nat}{g:G}{l:List Int}{v:AV}{K:AV->G->Prop}{D:ADf->Prop}(hv:SlR NoP k .nil l v)(hl2:l.length<=1000)(kk:∀u g',CloneR g.nx l u g'->Fr g g'->(∀i∈g'.lg,i∈g.lg\/g.nx<=i/\i<g'.nx)->K u g') :
  (ax C0 d N.ah [v] g).sat K g D:=by
 rw[mU];refine GT (K':=λu g''=>CloneR g.nx l u g'') (D2:=λ_=>True) ?_ ?_ λv g'' g' hv hf hn hg hlg=>kk v g' ?_ hf hlg
 ·rw[List.flatMap_cons,AK (hv.tree (h':=g.h) (Nat.le_refl k))];rfl
 ·refine gK nW (by simp[cU]) ?_
  by_cases hn:v=.nils
  ·subst hn;have hl:l=[]:=by have h:=hv.2;unfold SlV at h;exact h
   have hne:yn false .slice .nils .nils=.val (.bool true):=rfl;simp only[sz,simprocAttr,cU,hne];exact .inl ⟨hl,rfl⟩
  ·have hne:yn false .slice v .nils=.val (.bool false):=by
    have h:=hv.2;unfold SlV at h
    split at h
    ·exact absurd rfl hn
    ·rfl
    ·rfl
    ·exact h.1.elim
    ·exact h.elim
   simp only[sz,simprocAttr,cU,hne];refine zK (l:=l) ((hv.tree (Nat.le_refl _)).ints) (by simp[H.get_put]) (by simp) hl2 λu g1 hu f1=>?_;simp only[sz,simprocAttr];exact hu
 ·rcases hv with h | ⟨id,lo,h1,h2,h3,h4,h5⟩
  ·exact .inl h
  ·exact .inr ⟨id,lo,h1,by omega,h3,by rw[hg id (by rw[h4];simp),h4],h5⟩
theorem CloneR.own {b:Nat}{l:List Int}{u:AV}{g:G}(h:CloneR b l u g):Own g b u 1 (l.map ci):=by
 rcases h with ⟨rfl,rfl⟩ | ⟨id,lo,h1,h2,rfl,h4,-⟩
 ·exact .inl ⟨rfl,rfl⟩
 ·exact .inr ⟨id,0,lo,h1,h2,by rw[List.length_map],h4⟩
theorem Co {g:G}{b b' sz:Nat}{v:AV}{rows:List (List AV)}(h:Own g b v sz rows)(hb:b'<=b):Own g b' v sz rows:=by
 rcases h with h | ⟨id,ep,lo,h1,h2,h3,h4⟩
 ·exact .inl h
 ·exact .inr ⟨id,ep,lo,by omega,h2,h3,h4⟩
set_option maxRecDepth 20000 in
theorem Lu {d B pq pv:Nat}{n:Net}{w fam:List Int}{fv:AV}{Q:QT}{t:T}{g:G}(hfm:∀p∈fam,0<=p/\p<(n.nodes.length:Int))(hfl:fam.length<=9)(hn8:n.nodes.length<=8)(hB:g.h.get B=.cells 1 [[.hptr pq 0 0 0]] 0 false false)
  (hq:∃gr size c b lv cv xv pm,g.h.get pq=srO gr size c b lv (.hsl pv 0 0 n.nodes.length none) cv xv pm) (hV:Vs n pv w g) (hpv:pv<g.nx) (hF:ah g.h 1 fv=some (fam.map ci))
  (h2:tat t 2=.hptr B 0 0 0) (h3:tat t 3=.hptr (B+1) 0 0 0) (h5:tat t 5=.int .u64 0) (h21:tat t 21=fv) (h22:tat t 22=.int .i64 (fam.length:Int)) (h23:tat t 23=.int .i64 0)
  (fin:∀t,St t [(2,.hptr B 0 0 0),(3,.hptr (B+1) 0 0 0),(5,.int .u64 (S.aQ w fam:Int))]->Q (.exit 0) t [] g) :
  wpL (wp C0 d none cp) Q t [] g:=by
 obtain ⟨gr,size,c,b,lv,cv,xv,pm,hq⟩:=hq;have rv:=(hV.own hpv).rows;have hwl:=hV.1;have key:∀l:List Int,(∀p∈l,0<=p/\p<(n.nodes.length:Int))->S.aQ w l<256:=λl hl=>by
  have:S.aQ w l<2 ^ 8:=An λu hu=>by obtain ⟨p,h1,h2,-⟩:=(vy (λp hp=>by have:=hl p hp;omega) u).1 hu;have:=hl p h1;omega
  exact this
 simp only[cp,eF];refine bk (m:=fam.length) (by omega) (λk t df g'=>df=[]/\g'=g/\St t [(2,.hptr B 0 0 0),(3,.hptr (B+1) 0 0 0),(5,.int .u64 (S.aQ w (fam.take k):Int)),(21,fv)])
  ⟨rfl,rfl,by simp[St,h2,h3,h5,h21,S.aQ]⟩ h23 h22 (by decide) (by rintro j t df g v s (rfl | rfl | rfl)<;>simp[sx,St]) ?_ ?_
 ·clear h2 h3 h5 h21 h22 h23;rintro k t df g' hk ⟨rfl,rfl,h2,h3,h5,h21,-⟩ h23 h22;obtain ⟨p,hp,hpt,hpm⟩:=ak hk;obtain ⟨p0,p1⟩:=hfm p hpm;obtain ⟨v,rfl⟩:=Int.eq_ofNat_of_zero_le p0;have a1:k<(fam.map ci).length:=by simpa using hk
  have a2:(fam.map ci)[k]?=some (ci (v:Int)):=by rw[List.getElem?_map,hp];rfl
  obtain ⟨b1,b2⟩:=EL (l:=w) (i:=v) (by omega);have k1:=key (fam.take k) λq hq=>hfm q (List.mem_of_mem_take hq);have k2:=key (fam.take (k+1)) λq hq=>hfm q (List.mem_of_mem_take hq);have e1:=y8 w (fam.take k) (v:Int);rw[<-hpt,Int.toNat_natCast] at e1
  by_cases c1:w[v]?.getD 0 = -1
  ·rw[if_pos c1] at e1;have or1:=tP (S.aQ w (fam.take k)) (S.aO v) (by omega) (ro v);rw[<-e1] at or1;simp only[sz,simprocAttr,h2,h5,h21,h23,hB,hq,srO,bm,hF,a1,a2,rv,b1,b2,ci,c1,lL,or1]
   and_intros<;>simp[St,sx,h2,h3,h21,h22,h23]
  ·rw[if_neg c1] at e1;simp only[sz,simprocAttr,h2,h5,h21,h23,hB,hq,srO,bm,hF,a1,a2,rv,b1,b2,ci,c1];rw[e1]
   and_intros<;>simp[St,sx,h2,h3,h5,h21,h22,h23]
 ·rintro t df g' ⟨rfl,rfl,h2,h3,h5,-⟩;rw[List.take_length] at h5;exact fin t (by simp[St,h2,h3,h5])
set_option maxRecDepth 20000 in
theorem Lw {d B v pq pv pm pc px:Nat}{n:Net}{l:List Sp}{cut ctx:List Nat}{size:Int}{b lv:AV}{st:MSt}{t:T}{g:G}(hC:Srs n l cut ctx b lv pq pv pm pc px)(hS:Srh n cut ctx size b lv pq pv pm pc px st g)(hv:v<n.nodes.length)
  (hB:g.h.get B=.cells 1 [[.hptr pq 0 0 0]] 0 false false) (hB1:g.h.get (B+1)=.cells 1 [[.int .i64 (v:Int)]] 0 false false) (hn:B+2<=g.nx) (ht:St t [(2,.hptr B 0 0 0),(3,.hptr (B+1) 0 0 0),(5,.int .u64 0)]) :
  wp C0 d none (.feet [0,1,3,7,15,0,63,127,255,511,0,1024,4095,8191,0] [oL 9 2,o 10 (.nilc (.t 9)),oF 11 0 10,oF 12 1 11,oL 13 12,oL 14 3,o 15 (.ixs 3 (.t 13) (.t 14)),oF 16 1 15,oL 17 16,o 18 (.call N.ah [.t 17]),oL 19 3,o 20 (.bsl 1 1 [.int .i64 0] [0] [.t 19]),o 21 (.app 1 8 (.t 18) (.t 20)),oN 22 21,oK 23 0])
   (λe t df g'=>e=.norm/\df=[]/\∃fv,St t [(2,.hptr B 0 0 0),(3,.hptr (B+1) 0 0 0),(5,.int .u64 0),(21,fv),(22,.int .i64 ((S.aI n v).length:Int)),(23,.int .i64 0)]/\Own g' g.nx fv 1 ((S.aI n v).map ci)/\Fx (λ_=>False) g g') t [] g:=by
 have hr:=hC.nr;obtain ⟨h2,h3,h5,-⟩:=ht;obtain ⟨rows,r1,r2,r3,r4⟩:=hC.nb.all;have r1:∀h',ah h' 3 b=some rows:=r1;obtain ⟨x,hx,-,hxm⟩:=ak hv;obtain ⟨row,q1,q2⟩:=r3 v x hx;obtain ⟨pa,ra,rfl,hpa,-⟩:=dh.1 q2;have hlt:v<rows.length:=by omega
 have hry:=r4 (by omega);have hpl:=lj (hr.places x hxm) (by omega);have hl8:=hr.l2;have hfl:S.aI n v=x.parents++[(v:Int)]:=by simp[S.aI,hx]
 have hq:=hS.q;simp only[sz,simprocAttr,sf,h2,h3,hB,hB1,hq,srO,bm,r1,hlt,q1,hry];refine tZ hpa (by omega) λu g1 hu hf hlg=>?_;have oU:=hu.own;have n1:g.nx+9<=g1.nx:=by have:=hf.1;simp at this;omega
 have f1:∀i,i<g.nx+9->g1.h.get i=g.h.get i:=λi hi=>by have:=hf.2 i (by simp;omega);simpa using this
 have l1:∀i∈g1.lg,g.nx+9<=i/\i<g1.nx:=λi hi=>by have:=hlg i hi;simp at this;omega
 have oU:Own g1 (g.nx+9) u 1 (x.parents.map ci):=by simpa using oU
 clear hf hlg hu;have b1':g1.h.get (B+1)=.cells 1 [[.int .i64 (v:Int)]] 0 false false:=by rw[f1 _ (by omega),hB1]
 simp only[sz,simprocAttr,sf,h3,b1',vp];refine lK (new:=[ci (v:Int)]) (oU.fr (by simp;omega) λi hi=>?_) (by simp[sx,sy,ci]) (by simp;omega) (by simp[aW];omega) λv2 g2 hv2 n2 f2 c2 l2=>?_
 ·have:=(oU.lt hi).2;simp[H.get_put];omega
 simp only[sz,simprocAttr] at n2 f2 l2;have l2':∀i∈g2.lg,vid u=some i\/g1.nx+1+1+1+1<=i/\i<g2.nx:=λi hi=>by simpa using l2 i hi
 have vl:=hv2.sat_len;have rb:=hC.nb.refs;have pn:=hS.nx.1;have rp1:∀i,af (ik 3 b v i)=[]:=λi=>by rw[uF hry,rb]
 have rpa:=hpa.refs;have spa:=λh:H=>AK (hpa.tree (h':=h) (Nat.le_refl 0));simp only[sz,simprocAttr,sf,vl,dy];refine ⟨?_,?_⟩
 ·simp only[List.reverse_cons,List.reverse_nil,List.nil_append,List.cons_append];refine aF [false,false,false,false,false,false,false,false,false,true,false,true,true,false,false] [(0,11),(1,11),(2,11),(3,11),(4,11),(5,11),(6,11),(7,11),(8,11),(9,11),(9,10),(9,14),(11,14),(12,14)] (by simp[All2,ac,ay]) (by decide) ?_;intro p hp y z hx hy;simp only[List.mem_cons,List.not_mem_nil,or_false] at hp;rcases hp with rfl | rfl | rfl | rfl | rfl | rfl | rfl | rfl | rfl | rfl | rfl | rfl | rfl | rfl<;>(simp only[List.getElem?_cons_zero,List.getElem?_cons_succ,Option.some.injEq] at hx hy;subst hx;subst hy;refine bV rfl rfl rfl rfl ?_ ?_ ?_<;>simp[ac,ay,gE,oB,rb,rp1,rpa,spa])
  all_goals first | omega | exact λi hi=>by have:=l1 i hi;omega
 ·have e1:(((x.parents.map ci++[ci (v:Int)]).length:Nat):Int)=((S.aI n v).length:Int):=by rw[hfl];simp
  refine ⟨v2,by simp[St,sx,h2,h3,h5];rw[hfl];simp,?_,?_⟩
  ·rw[hfl,List.map_append];exact Co (hv2.fr (by simp;omega) λi hi=>by simp) (by omega)
  ·refine ⟨by simp;omega,λi hi _=>?_,λi hi=>?_⟩
   ·have h2:=f2 i (by omega) (λe=>by have:=oU.lt e;omega);rw[if_neg (by omega)] at h2;simp[h2,f1 i (by omega)]
   ·simp at hi;rcases hi with hi | rfl | hi | hi
    ·rcases l2' i hi with h | h
     ·have:=oU.lt h;exact .inr (.inr (by omega))
     ·exact .inr (.inr (by omega))
    ·exact .inr (.inr (by omega))
    ·have:=l1 i hi;exact .inr (.inr (by omega))
    ·exact .inl hi
set_option maxRecDepth 20000 in
theorem Lv {d B S0 v j pq pv pm pc px:Nat}{n:Net}{l:List Sp}{cut ctx:List Nat}{size:Int}{b lv:AV}{st:MSt}{w:List Int}{rd:Option Nat}{t:T}{g:G}(hd:0<d)(hC:Srs n l cut ctx b lv pq pv pm pc px)(hS:Srh n cut ctx size b lv pq pv pm pc px st g)(hv:v<n.nodes.length)(hW:Wv n w)
  (hB:g.h.get B=.cells 1 [[.hptr pq 0 0 0]] 0 false false) (hB1:g.h.get (B+1)=.cells 1 [[.int .i64 (v:Int)]] 0 false false) (hs:g.h.get S0=.cells 1 [[.int .i64 (S.sm (λj=>S.aH n (S.aw n w (S.aa n (S.aA n w v)) j) v) j)]] 0 false false) (hj:j<=65536)
  (hV:Vs n pv (S.aw n w (S.aa n (S.aA n w v)) j) g) (h2:tat t 2=.hptr B 0 0 0) (h3:tat t 3=.hptr (B+1) 0 0 0) (h8:tat t 8=.hptr S0 0 0 0) {Q:QT}
  (fin:∀t g',g'.h=g.h.put S0 (.cells 1 [[.int .i64 (S.sm (λj=>S.aH n (S.aw n w (S.aa n (S.aA n w v)) j) v) (j+1))]] 0 false false)->g.nx<=g'.nx->(∀i∈g'.lg,i∈g.lg\/i=S0)->Q .norm t [] g') :
  wp C0 d rd bB Q t [] g:=by
 have hr:=hC.nr;obtain ⟨rows,r1,r2,r3,r4⟩:=hC.nb.all;have r1:∀h',ah h' 3 b=some rows:=r1;obtain ⟨x,hx,-,hxm⟩:=ak hv;obtain ⟨row,q1,q2⟩:=r3 v x hx;obtain ⟨pa,ra,rfl,hpa,hra⟩:=dh.1 q2;have hlt:v<rows.length:=by omega
 have hry:=r4 (by omega);have hl8:=hr.l2;have hq:=hS.q;have pn:=hS.nx;obtain ⟨vals,hvals⟩:∃vals,vals=S.aw n w (S.aa n (S.aA n w v)) j:=⟨_,rfl⟩;obtain ⟨hC2,i,r,c,y,i1,i2,i3,i4,i5,i7,i8,i9,i10⟩:=BG hr hx (B3 hr hW (j:=j) hv);rw[<-hvals] at hV hC2 i1 i4 i8;have hb:=uf hr hW hv j;have hsm:S.sm (λj=>S.aH n (S.aw n w (S.aa n (S.aA n w v)) j) v) (j+1)=S.sm (λj=>S.aH n (S.aw n w (S.aa n (S.aA n w v)) j) v) j+y:=by rw[S.sm,<-hvals,i8]
 rw[hsm] at fin;obtain ⟨A,hA⟩:∃A,A=S.sm (λj=>S.aH n (S.aw n w (S.aa n (S.aA n w v)) j) v) j:=⟨_,rfl⟩;rw[<-hA] at hs hb fin;obtain ⟨cn,rfl⟩:=Int.eq_ofNat_of_zero_le i5;rw[Int.toNat_natCast] at i7;obtain ⟨rr,s1,s2,s3,s4⟩:=FK hra;obtain ⟨z,t1,t2,hz⟩:=s3 i r i3;have hry2:=s4 (by omega);have rz:=λh=>(hz.tree (h':=h) (Nat.le_refl 0)).ints;have rv:=(hV.own pn.2.1).rows;have hwl:=hV.1;obtain ⟨u1,u2⟩:=EL (l:=vals) (i:=v) (by omega);rw[i4] at u2;have v1:cn<(r.map ci).length:=by rw[List.length_map];exact (List.getElem?_eq_some_iff.1 i7).1
 have v2:(r.map ci)[cn]?=some (ci y):=by rw[List.getElem?_map,i7];rfl
 have hsl:∀g':G,g'.h=g.h->SlR (λ_=>True) 0 g'.h vals (.hsl pv 0 0 n.nodes.length none):=λg' e=>by rw[e];exact Own.sl (α:=Int) (hV.own pn.2.1) (by omega) (All2.of_map (λa=>bc.2 rfl) _) λ_ _=>trivial
 have kr:=λ(g':G) (e:g'.h=g.h)=>KP (d:=d) (i:=v) (g:=g') (k2:=0) (v:=b) (w:=.hsl pv 0 0 n.nodes.length none) (x:=x) (vals:=vals) hd hC.nb hr hx (hsl g' e) hwl hC2;rw[i1] at kr;have w1:IntKind.wrap .i64 (A+y)=A+y:=an (by omega) (by omega);simp only[sz,simprocAttr,sf,bB,h2,h3,h8,hB,hB1,hs,hq,srO,bm,r1,hlt,q1,hry];rw[kr _ (by simp)];simp only[sz,simprocAttr,sf,bB,h2,h3,h8,hB,hB1,hs,hq,srO,bm,r1,hlt,q1,hry,s1,t1,t2,hry2,rv,u1,u2,ci,rz,v1,v2,w1,wS];refine ⟨?_,?_⟩
 ·simp only[List.reverse_cons,List.reverse_nil,List.nil_append,List.cons_append];exact aF [false,false,false,false,false,false,false,false,false,false,false,false,false,false,false,false,false,false,false,false,false,false,false,false,false,false,false,false,false,false,false,false,false,true] [] (by simp[All2,ac,ay]) (by decide) (by simp)
 ·refine fin _ _ ?_ ?_ ?_
  ·simp
  ·simp;omega
  ·intro i hi;simp at hi;exact hi.symm
set_option maxRecDepth 20000 in
theorem Lx {d v pq pv pm pc px:Nat}{n:Net}{l:List Sp}{cut ctx:List Nat}{size:Int}{b lv:AV}{st:MSt}{w:List Int}{g:G}{K:AV->G->Prop}{D:ADf->Prop}(hd:0<d)(hC:Srs n l cut ctx b lv pq pv pm pc px)(hS:Srh n cut ctx size b lv pq pv pm pc px st g)(hW:Wv n w)(hV:Vs n pv w g)(hv:v<n.nodes.length)
  (kk:∀g',Srh n cut ctx size b lv pq pv pm pc px st g'->Vs n pv w g'->Fx (λi=>i=pv) g g'->K (.int .i64 (S.bX n w v)) g'):(ax C0 d N.aG [.hptr pq 0 0 0,.int .i64 (v:Int)] g).sat K g D:=by
 have hr:=hC.nr;have hl8:=hr.l2;obtain ⟨n1,n2,n3,n4,n5⟩:=hS.nx;obtain ⟨d1a,d1b,d1c,d1d⟩:=hC.d1;obtain ⟨d2a,d2b,d2c⟩:=hC.d2;have hbx:∀g:G,vX (.hptr pq 0 0 0) g=.upd (.hptr g.nx 0 0 0) (g.new (.cells 1 [[.hptr pq 0 0 0]] 0 false false)):=λg=>rfl;have hbx2:∀g:G,vX (.int .i64 (v:Int)) g=.upd (.hptr g.nx 0 0 0) (g.new (.cells 1 [[.int .i64 (v:Int)]] 0 false false)):=λg=>rfl;rw[ke];refine gK mj (by simp[du]) ?_;simp only[du];refine be (P:=λt' df g'=>df=[]/\g'.nx=g.nx+2/\g'.h.get g.nx=.cells 1 [[.hptr pq 0 0 0]] 0 false false/\g'.h.get (g.nx+1)=.cells 1 [[.int .i64 (v:Int)]] 0 false false/\Fx (λ_=>False) g g'/\St t' [(2,.hptr g.nx 0 0 0),(3,.hptr (g.nx+1) 0 0 0)]) ?_ ?_
 ·simp only[sz,simprocAttr,hbx,hbx2];exact ⟨by simp[H.get_put],(Fx.new _ _ _).trans (Fx.new _ _ _),by simp[St,sx]⟩
 rintro t df g1 ⟨rfl,k1,kB,kB1,F1,h2,h3,-⟩;simp only[fu];refine be (P:=λt' df g'=>df=[]/\g'=g1/\St t' [(2,.hptr g.nx 0 0 0),(3,.hptr (g.nx+1) 0 0 0),(5,.int .u64 0)]) ?_ ?_
 ·simp only[sz,simprocAttr];simp[St,sx,h2,h3]
 clear h2 h3;rintro t df g1 ⟨rfl,rfl,ht⟩;have hS1:Srh n cut ctx size b lv pq pv pm pc px st g1:=hS.fr F1.nx λi hi=>F1.fr i (by rcases hi with rfl | rfl | rfl | rfl<;>assumption) id;have hfm:=lZ hr hv;refine bM (P:=λt' df g'=>df=[]/\Fx (λ_=>False) g g'/\g1.nx<=g'.nx/\g'.h.get g.nx=.cells 1 [[.hptr pq 0 0 0]] 0 false false/\g'.h.get (g.nx+1)=.cells 1 [[.int .i64 (v:Int)]] 0 false false/\St t' [(2,.hptr g.nx 0 0 0),(3,.hptr (g.nx+1) 0 0 0),(5,.int .u64 (S.aA n w v:Int))]) ?_ ?_
 ·refine bM (P:=λt df g'=>df=[]/\∃fv,St t [(2,.hptr g.nx 0 0 0),(3,.hptr (g.nx+1) 0 0 0),(5,.int .u64 0),(21,fv),(22,.int .i64 ((S.aI n v).length:Int)),(23,.int .i64 0)]/\Own g' g1.nx fv 1 ((S.aI n v).map ci)/\Fx (λ_=>False) g1 g') ?_ ?_
  ·exact Lw hC hS1 hv kB kB1 (by omega) ht
  rintro t df g2 ⟨rfl,fv,⟨h2,h3,h5,h21,h22,h23,-⟩,oF,F2⟩;have F12:=F1.trans F2;have F2n:=F2.nx;have kB2:g2.h.get g.nx=.cells 1 [[.hptr pq 0 0 0]] 0 false false:=by rw[F2.fr _ (by omega) id,kB]
  have kB12:g2.h.get (g.nx+1)=.cells 1 [[.int .i64 (v:Int)]] 0 false false:=by rw[F2.fr _ (by omega) id,kB1]
  have q2:=(F12.fr pq n1 id).trans hS.q;have V2:Vs n pv w g2:=hV.fr (F12.fr pv n2 id);simp only[sz,simprocAttr];refine Lu (B:=g.nx) (pq:=pq) (pv:=pv) (w:=w) (fam:=S.aI n v) (fv:=fv) hfm (BJ hr hv) hl8 kB2 ⟨_,_,_,_,_,_,_,_,q2⟩ V2 (by omega) oF.rows h2 h3 h5 h21 h22 h23 λt ht=>?_;simp only[sz,simprocAttr];exact ⟨F12,F2n,kB2,kB12,ht⟩
 clear ht t kB kB1;rintro t df g2 ⟨rfl,F2,n12,kB,kB1,h2,h3,h5,-⟩;have g1n:=F1.nx;simp only[eH];refine be (P:=λt' df g'=>df=[]/\g'.nx=g2.nx+1/\g'.h.get g2.nx=.cells 1 [[.int .i64 0]] 0 false false/\Fx (λ_=>False) g2 g'/\St t' [(2,.hptr g.nx 0 0 0),(3,.hptr (g.nx+1) 0 0 0),(5,.int .u64 (S.aA n w v:Int)),(8,.hptr g2.nx 0 0 0)]) ?_ ?_
 ·simp only[sz,simprocAttr];exact ⟨(Fx.new _ _ _).put (.inr (Nat.le_refl _)) _,by simp[St,sx,h2,h3,h5]⟩
 clear h2 h3 h5;rintro t df g3 ⟨rfl,k3,kS,F3,h2,h3,h5,h8,-⟩;have kB3:g3.h.get g.nx=.cells 1 [[.hptr pq 0 0 0]] 0 false false:=by rw[F3.fr _ (by omega) id,kB]
 have kB13:g3.h.get (g.nx+1)=.cells 1 [[.int .i64 (v:Int)]] 0 false false:=by rw[F3.fr _ (by omega) id,kB1]
 have F03:Fx (λ_=>False) g g3:=F2.trans F3;simp only[sz,simprocAttr,h2,h5,kB3];refine yK ?_;simp only[sz,simprocAttr,eE];obtain ⟨g4,hg4⟩:∃g4,g4=(g3.new (.cells 1 [[.hptr pq 0 0 0]] 0 false false)).new (.cells 1 [[.int .u64 (S.aA n w v:Int)]] 0 false false):=⟨_,rfl⟩;rw[<-hg4];have n4':g4.nx=g3.nx+2:=by rw[hg4];simp
 have f4:∀i,i<g3.nx->g4.h.get i=g3.h.get i:=λi hi=>by rw[hg4];simp[H.get_put,show ¬i=g3.nx by omega,show ¬i=g3.nx+1 by omega]
 have e1:g4.h.get g3.nx=.cells 1 [[.hptr pq 0 0 0]] 0 false false:=by rw[hg4];simp[H.get_put]
 have e2:g4.h.get (g3.nx+1)=.cells 1 [[.int .u64 (S.aA n w v:Int)]] 0 false false:=by rw[hg4];simp[H.get_put]
 have F04:Fx (λ_=>False) g g4:=by rw[hg4];exact F03.trans ((Fx.new _ _ _).trans (Fx.new _ _ _))
 clear hg4;have hS4:Srh n cut ctx size b lv pq pv pm pc px st g4:=hS.fr F04.nx λi hi=>F04.fr i (by rcases hi with rfl | rfl | rfl | rfl<;>assumption) id;have hcs:=qi hr (S.aA n w v);obtain ⟨W1,W2,W3⟩:=hcs.nc;refine FH (b1:=g3.nx) (b2:=g3.nx+1) (pq:=pq) (pv:=pv) (pm:=pm) (s:=S.aA n w v) (size:=size) (w:=w) (b:=b) (lv:=lv) (cv:=.hsl pc 0 0 cut.length none) (xv:=.hsl px 0 0 ctx.length none) hr hC.nb (EY hr hv w) (by simp[sx]) (by decide) ⟨by omega,by omega,by omega⟩ (λu hu=>?_)
  (λj g'=>Srh n cut ctx size b lv pq pv pm pc px st g'/\(∀i,i=g3.nx\/i=g3.nx+1\/i=g.nx\/i=g.nx+1->g'.h.get i=g4.h.get i)/\g'.h.get g2.nx=.cells 1 [[.int .i64 (S.sm (λj=>S.aH n (S.aw n w (S.aa n (S.aA n w v)) j) v) j)]] 0 false false/\Fx (λi=>i=pv) g g') ?_ ⟨by omega,by omega,Ne.symm d1a,by omega⟩ ?_ ⟨hS4,λ_ _=>rfl,by rw[f4 _ (by omega),kS];rfl,F04.mono λ_ h=>h.elim⟩ (hV.fr (F04.fr pv n2 id)) ?_ ?_
 ·obtain ⟨h1,h2'⟩:=jC.1 hu;have:=((od hr hv w u).1 h2').2;rw[List.getElem?_eq_getElem (by rw[hW.1];exact h1)] at this ⊢;rw[Option.getD_some] at this;rw[this]
 ·rintro j g' ⟨a1,a2,a3,a4⟩;exact ⟨by rw[a2 _ (.inl rfl),e1],by rw[a2 _ (.inr (.inl rfl)),e2],_,a1.q⟩
 ·rintro j ga gb hn hf hl ⟨a1,a2,a3,a4⟩;refine ⟨a1.fr hn λi hi=>?_,λi hi=>by rw[hf i (by omega) (by omega),a2 i hi],by rw[hf _ (by omega) (by omega),a3],⟨by have:=a4.nx;omega,λi hi hp=>by rw[hf i (by omega) hp,a4.fr i hi hp],λi hi=>?_⟩⟩
  ·rcases hi with rfl | rfl | rfl | rfl
   ·exact hf _ (by omega) (Ne.symm d1a)
   ·exact hf _ (by omega) d2a
   ·exact hf _ (by omega) d2b
   ·exact hf _ (by omega) d2c
  ·rcases hl i hi with h | h | h
   ·exact a4.lg i h
   ·exact .inr (.inl h)
   ·exact .inr (.inr (by omega))
 ·rintro j ga hj ⟨a1,a2,a3,a4⟩ hVj hn;have hj2:j<=65536:=by unfold S.aC at hj;unfold S.nc at W2;omega
  refine Lv (B:=g.nx) (S0:=g2.nx) (v:=v) (j:=j) hd hC a1 hv hW (by rw[a2 _ (.inr (.inr (.inl rfl))),f4 _ (by omega),kB3]) (by rw[a2 _ (.inr (.inr (.inr rfl))),f4 _ (by omega),kB13]) a3 hj2 hVj (by simp[sx,h2]) (by simp[sx,h3]) (by simp[sx,h8]) λt' gb hh hn2 hl2=>?_;have fb:∀i,i≠g2.nx->gb.h.get i=ga.h.get i:=λi hi=>by rw[hh,ae _ _ _ (by omega)]
  refine ⟨rfl,rfl,hn2,λi h1 h2=>fb i (by omega),⟨a1.fr hn2 λi hi=>fb i (by rcases hi with rfl | rfl | rfl | rfl<;>omega),λi hi=>by rw[fb i (by omega),a2 i hi],by rw[hh,aJ],⟨by have:=a4.nx;omega,λi hi hp=>by rw[fb i (by omega),a4.fr i hi hp],λi hi=>?_⟩⟩,hVj.fr (fb pv (by omega))⟩;rcases hl2 i hi with h | rfl
  ·exact a4.lg i h
  ·exact .inr (.inr (by omega))
 ·rintro g' ⟨a1,a2,a3,a4⟩ hV' hn hdf;simp only[sz,simprocAttr,eG,h8,a3];refine mZ hdf ?_;simp only[sz,simprocAttr];refine kk _ (a1.fr (by simp) λi hi=>by rw[G.put_h,ae _ _ _ (by rcases hi with rfl | rfl | rfl | rfl<;>omega)]) (hV'.fr (by rw[G.put_h,ae _ _ _ (by omega)])) (a4.put (.inr (by omega)) _)
theorem nV:∀{a b:List Int},a.length=b.length->cE (a.map λx=>.int .i64 x) (b.map λx=>.int .i64 x)=some (decide (a=b))
 | [],[],_=>rfl
 | [],_::_,h=>by simp at h
 | _::_,[],h=>by simp at h
 | x::a,y::b,h=>by
  have ih:=nV (a:=a) (b:=b) (by simpa using h);rw[List.map_cons,List.map_cons];show (match mi (.int .i64 x) (.int .i64 y),cE (a.map λx=>AV.int .i64 x) (b.map λx=>AV.int .i64 x) with | some x,some y=>some (ap x y false) | _,_=>none)=_;rw[ih];show some (ap (GP x y) (decide (a=b)) false)=_;rw[sW]
  by_cases h1:x=y<;>by_cases h2:a=b<;>simp[h1,h2,ap]
def K8 (k:Key):Prop:=k.2.length=8
theorem H0 {a b:Key}(ha:K8 a)(hb:K8 b):l_ (ck9 a) (ck9 b)=some (decide (a=b)):=by have h:=nV (a:=a.1::a.2) (b:=b.1::b.2) (by unfold K8 at ha hb;simp[ha,hb]);rw[List.map_cons,List.map_cons] at h;show cE _ _=_;rw[h];obtain ⟨a1,a2⟩:=a;obtain ⟨b1,b2⟩:=b;simp
def Mok (L:Mem):Prop:=∀p∈L,K8 p.1
theorem EZ {k:Key}(hk:K8 k):∀{L:Mem},Mok L->jJ (ck9 k) (qR L)=some (if eC L k then some (.int .i64 (mgt L k)) else none)
 | [],_=>rfl
 | (a,w)::r,h=>by
  rw[qR,List.map_cons,jJ,H0 hk (h (a,w) (by simp))]
  by_cases e:k=a
  ·subst e;simp[mgt,eC]
  ·have ih:=EZ hk (L:=r) λp hp=>h p (by simp[hp]);rw[qR] at ih;simp only[decide_eq_false e];rw[ih,eC,eC,List.any_cons,mgt,if_neg e,decide_eq_false e,Bool.false_or]
theorem Kg {k:Key}(hk:K8 k)(x:Int):∀{L:Mem},Mok L->CF (ck9 k) (.int .i64 x) (qR L)=some (qR (mst k x L))
 | [],_=>rfl
 | (a,w)::r,h=>by
  rw[qR,List.map_cons,CF,H0 hk (h (a,w) (by simp)),mst]
  by_cases e:k=a
  ·subst e;simp[qR]
  ·have ih:=Kg hk x (L:=r) λp hp=>h p (by simp[hp]);rw[qR] at ih;simp only[decide_eq_false e,if_neg e,ih]
   rfl
theorem Fv {k:Key}(hk:K8 k)(x:Int):∀{L:Mem},Mok L->Mok (mst k x L)
 | [],_,p,hp=>by rw[mst,List.mem_singleton] at hp;rw[hp];exact hk
 | (a,w)::r,h,p,hp=>by
  rw[mst] at hp
  split at hp
  ·rcases List.mem_cons.1 hp with rfl | hp
   ·exact hk
   ·exact h p (by simp[hp])
  ·rcases List.mem_cons.1 hp with rfl | hp
   ·exact h _ (by simp)
   ·exact Fv hk x (L:=r) (λp hp=>h p (by simp[hp])) p hp
theorem Je (i:Int)(w:List Int)(s:Nat):K8 (i,S.aN w s):=by simp[K8,S.aN]
def ktC:Nat:=match C0.P.underlying 115 with | some (.map k _)=>k | _=>0
def etC:Nat:=match C0.P.underlying 115 with | some (.map _ e)=>e | _=>0
theorem M6:C0.P.underlying 115=some (.map ktC etC):=by kernel_rfl
theorem OH:bZ C0.P ktC=.flat [.int .i64,.int .i64,.int .i64,.int .i64,.int .i64,.int .i64,.int .i64,.int .i64,.int .i64]:=by kernel_rfl
theorem Oi {k:Key}(hk:K8 k):kX (bZ C0.P ktC) (ck9 k)=true:=by
 rw[OH];obtain ⟨i,l⟩:=k;have hk:l.length=8:=hk
 match l,hk with
 | [_,_,_,_,_,_,_,_],_=>rfl
theorem z_c:rk C0.P etC=some (.int .i64 0):=by kernel_rfl
theorem NC (d:Nat)(rd:Option Nat)(t:T)(g:G):(SO.raw (.makeMap 115 none)).run C0 d rd t g=.upd (.hmap g.nx) (g.new (.map [])):=by kernel_rfl
theorem DO {C:Cfg}{ty kt et a b:Nat}{z:AV}{ok:Bool}(hu:C.P.underlying ty=some (.map kt et))(hz:rk C.P et=some z)(d:Nat)(rd:Option Nat)(t:T)(g:G):(SO.raw (.lookup ty (.tmp a) (.tmp b) ok)).run C d rd t g=b_ (bZ C.P kt) z ok (λt=>tat t a) (λt=>tat t b) t g:=by obtain ⟨s1,e1,r1⟩:=aV (C:=C) (x:=.tmp a) (o:=.t a) rfl;obtain ⟨s2,e2,r2⟩:=aV (C:=C) (x:=.tmp b) (o:=.t b) rfl;show (cR C _).run (I C) d rd t g=_;rw[bw (s:=⟨b_ (bZ C.P kt) z ok s1.run s2.run⟩) rfl (by simp only[bL,e1,e2,hu,hz])];rw[show s1.run=λt=>tat t a from funext r1,show s2.run=λt=>tat t b from funext r2]
theorem DS {C:Cfg}{ty kt et a b c:Nat}(hu:C.P.underlying ty=some (.map kt et))(d:Nat)(rd:Option Nat)(t:T)(g:G):(SO.raw (.mapUpdate ty (.tmp a) (.tmp b) (.tmp c))).run C d rd t g=cw (bZ C.P kt) (λt=>tat t a) (λt=>tat t b) (λt=>tat t c) t g:=by obtain ⟨s1,e1,r1⟩:=aV (C:=C) (x:=.tmp a) (o:=.t a) rfl;obtain ⟨s2,e2,r2⟩:=aV (C:=C) (x:=.tmp b) (o:=.t b) rfl;obtain ⟨s3,e3,r3⟩:=aV (C:=C) (x:=.tmp c) (o:=.t c) rfl;show (cR C _).run (I C) d rd t g=_;rw[bw (s:=⟨cw (bZ C.P kt) s1.run s2.run s3.run⟩) rfl (by simp only[bL,e1,e2,e3,hu])];rw[show s1.run=λt=>tat t a from funext r1,show s2.run=λt=>tat t b from funext r2,show s3.run=λt=>tat t c from funext r3]
theorem GO {C:Cfg}{ty a b c:Nat}(t:T)(g:G):SO.foot C t g (.raw (.mapUpdate ty (.tmp a) (.tmp b) (.tmp c)))=ac (af (tat t a)):=by
 obtain ⟨s1,e1,r1⟩:=aV (C:=C) (x:=.tmp a) (o:=.t a) rfl;show (aH C _).run t g=_;simp only[aH,e1,r1]
 rfl
theorem Jn {d:Nat}{rd:Option Nat}{t:T}{g:G}{a b id:Nat}{k:Key}{L:Mem}(hk:K8 k)(hL:Mok L)(h1:tat t a=.hmap id)(h2:tat t b=ck9 k)(hg:g.h.get id=.map (qR L)) :
  (SO.raw (.lookup 115 (.tmp a) (.tmp b) true)).run C0 d rd t g=.val (.tup [.int .i64 (mgt L k),.bool (eC L k)]):=by
 rw[DO M6 z_c];unfold b_;simp only[h1,h2,Oi hk,G.get_eq,hg,EZ hk hL];have hz:∀{L:Mem},eC L k=false->mgt L k=0:=by
  intro L
  induction L with
  | nil=>intro _;rfl
  | cons p r ih =>
   intro h;obtain ⟨a,w⟩:=p;rw[eC,List.any_cons,Bool.or_eq_false_iff] at h;rw[mgt,if_neg (of_decide_eq_false h.1),ih h.2]
 cases h:eC L k with
 | true=>simp[ap]
 | false=>simp[ap,hz h]
theorem OB {d:Nat}{rd:Option Nat}{t:T}{g:G}{a b c id:Nat}{k:Key}{x:Int}{L:Mem}(hk:K8 k)(hL:Mok L)(h1:tat t a=.hmap id)(h2:tat t b=ck9 k)(h3:tat t c=.int .i64 x)(hg:g.h.get id=.map (qR L)) :
  (SO.raw (.mapUpdate 115 (.tmp a) (.tmp b) (.tmp c))).run C0 d rd t g=.upd .undef (g.put id (.map (qR (mst k x L)))):=by
 rw[DS M6];unfold cw;simp only[h1,h2,h3,Oi hk,G.get_eq,hg,Kg hk x hL]
theorem vE {rec:Rec}(hr:∀i w ab st,Mok st.1->Mok (rec i w ab st).2.1){n:Net}{w:List Int}{cu:List Nat}{a b ab:Nat}{st:MSt}(h:Mok st.1):∀j,Mok (S.bw rec n w cu a b ab st j).2.1
 | 0=>h
 | j+1=>by rw[S.bw];exact hr _ _ _ _ (hr _ _ _ _ (vE hr h j))
theorem vD {n:Net}{l:List Sp}{vr:List Nat}{size:Int}:∀f i w ab st,Mok st.1->Mok (S.ax n l vr size f i w ab st).2.1
 | 0,_,_,_,_,h=>h
 | f+1,i,w,ab,st,h=>by
  rw[S.ax]
  split
  ·split
   ·exact h
   ·have:=vE (rec:=S.ax n l vr size f) (λi w ab st h=>vD f i w ab st h) (n:=n) (w:=w) (cu:=S.aa n (S.am (vr[(S.sp l i).2.1.toNat]?.getD 0 &&& vr[(S.sp l i).2.2.toNat]?.getD 0) ab)) (a:=(S.sp l i).2.1.toNat) (b:=(S.sp l i).2.2.toNat) (ab:=ab ||| S.am (vr[(S.sp l i).2.1.toNat]?.getD 0 &&& vr[(S.sp l i).2.2.toNat]?.getD 0) ab) (st:=(st.1,w64 (st.2+1))) h (S.aC n (S.aa n (S.am (vr[(S.sp l i).2.1.toNat]?.getD 0 &&& vr[(S.sp l i).2.2.toNat]?.getD 0) ab)));dsimp only
    split
    ·exact Fv (Je _ _ _) _ this
    ·exact this
  ·exact h
def H4 (b1 b2:Nat):AV:=.clo N.aW [] [.hptr b1 0 0 0,.hptr b2 0 0 0]
theorem EU (d b1 b2:Nat)(v:AV)(g:G):i_ C0 (I C0) d (H4 b1 b2) [v] g=orF ((I C0).call d N.aW [v,.hptr b1 0 0 0,.hptr b2 0 0 0] g):=by kernel_rfl
structure LOk (n:Net) (l:List Sp) (vr:List Nat):Prop where
 j:∀i,i<l.length->(S.sp l i).1 = -1->0<=(S.sp l i).2.1/\(S.sp l i).2.1<(i:Int)/\0<=(S.sp l i).2.2/\(S.sp l i).2.2<(i:Int)
 f:∀i,i<l.length->(S.sp l i).1≠-1->0<=(S.sp l i).1/\(S.sp l i).1<(n.nodes.length:Int)
 u:∀i,i<l.length->(S.sp l i).1 = -1->vr[i]?.getD 0=vr[(S.sp l i).2.1.toNat]?.getD 0 ||| vr[(S.sp l i).2.2.toNat]?.getD 0
 b:∀x∈vr,x<2 ^ n.nodes.length
structure NH (n:Net) (cut ctx:List Nat) (size:Int) (b lv:AV) (pq pv pm pc px b1 b2:Nat) (st:MSt) (w:List Int) (g:G):Prop where
 s:Srh n cut ctx size b lv pq pv pm pc px st g
 v:Vs n pv w g
 e1:g.h.get b1=.cells 1 [[.hptr pq 0 0 0]] 0 false false
 e2:g.h.get b2=.cells 1 [[H4 b1 b2]] 0 false false
 l:b1<g.nx/\b2<g.nx
def Wo (vr ab:List Nat)(w:List Int)(i:Nat):Prop:=∀v,(vr[i]?.getD 0).testBit v=true->(ab[i]?.getD 0).testBit v=false->w[v]?=some (-1)
theorem AO {l:List Sp}{i:Nat}(h:i<l.length):i<(l.map cs3).length/\(l.map cs3)[i]?=some (cs3 (S.sp l i)):=by refine ⟨by simpa using h,?_⟩;rw[List.getElem?_map,List.getElem?_eq_getElem h,S.sp,List.getElem?_eq_getElem h];rfl
theorem zz (gr size c c':Int)(b lv vv cv xv:AV)(pm:Nat)(g:G)(pq:Nat):cM (srO gr size c b lv vv cv xv pm) g pq 0 0 1 8 (.int .i64 c')=.upd .undef (g.put pq (srO gr size c' b lv vv cv xv pm)):=by
 unfold srO;rw[br 9 _ 0 false g pq 0 1 8 (.int .i64 c') rfl rfl,List.getElem?_cons_zero];rw[show (AV.int .i64 c').cells=[.int .i64 c'] from rfl];dsimp only;rw[jR (by simp)]
 rfl
theorem OK (gr size c:Int)(b lv vv cv xv:AV)(pm:Nat):bH (srO gr size c b lv vv cv xv pm) 0 0 false 1 1=.val b:=rfl
theorem N2 (gr size c:Int)(b lv vv cv xv:AV)(pm:Nat):bH (srO gr size c b lv vv cv xv pm) 0 0 false 1 2=.val lv:=rfl
theorem N3 (gr size c:Int)(b lv vv cv xv:AV)(pm:Nat):bH (srO gr size c b lv vv cv xv pm) 0 0 false 1 4=.val cv:=rfl
theorem Mj (gr size c:Int)(b lv vv cv xv:AV)(pm:Nat):bH (srO gr size c b lv vv cv xv pm) 0 0 false 1 6=.val (.hmap pm):=rfl
theorem OM (gr size c:Int)(b lv vv cv xv:AV)(pm:Nat):bH (srO gr size c b lv vv cv xv pm) 0 0 false 1 7=.val (.int .i64 size):=rfl
theorem Oy (gr size c:Int)(b lv vv cv xv:AV)(pm:Nat):bH (srO gr size c b lv vv cv xv pm) 0 0 false 1 8=.val (.int .i64 c):=rfl
theorem Srh.call {n:Net}{cut ctx:List Nat}{size:Int}{b lv:AV}{pq pv pm pc px:Nat}{st:MSt}{g g':G}{l:List Sp}(hC:Srs n l cut ctx b lv pq pv pm pc px)(h:Srh n cut ctx size b lv pq pv pm pc px st g){c:Int}(hn:g.nx<=g'.nx)(hg:g'.h=g.h.put pq (srO n.grain size c b lv (.hsl pv 0 0 n.nodes.length none) (.hsl pc 0 0 cut.length none) (.hsl px 0 0 ctx.length none) pm)):Srh n cut ctx size b lv pq pv pm pc px (st.1,c) g':=by obtain ⟨d1,d2,d3,d4⟩:=hC.d1;exact ⟨by rw[hg,aJ],by rw[hg,ae _ _ _ d2,h.m],by rw[hg,ae _ _ _ d3,h.c],by rw[hg,ae _ _ _ d4,h.x],by have:=h.nx;omega⟩
section
variable {d f size:Nat}{n:Net}{l:List Sp}{cut ctx vr ab:List Nat}{sz:Int}{b lv:AV}{pq pv pm pc px b1 b2:Nat}
def As (pq pv pm:Nat):Nat->Prop:=λi=>i=pv\/i=pq\/i=pm
def Gj (d:Nat)(n:Net)(l:List Sp)(cut ctx vr ab:List Nat)(sz:Int)(b lv:AV)(pq pv pm pc px b1 b2 f i:Nat):Prop :=
 ∀(w:List Int) (st:MSt) (g:G) (K:AV->G->Prop) (D:ADf->Prop),NH n cut ctx sz b lv pq pv pm pc px b1 b2 st w g->Wv n w->Wo vr ab w i->Mok st.1 ->
  (∀g',NH n cut ctx sz b lv pq pv pm pc px b1 b2 (S.ax n l vr sz f i w (ab[i]?.getD 0) st).2 w g'->Fx (As pq pv pm) g g'->K (.int .i64 (S.ax n l vr sz f i w (ab[i]?.getD 0) st).1) g') ->
  (i_ C0 (I C0) d (H4 b1 b2) [.int .i64 (i:Int)] g).sat K g D
set_option maxRecDepth 20000 in
theorem JJ {i:Nat}(hd:0<d)(hC:Srs n l cut ctx b lv pq pv pm pc px)(hL:LOk n l vr)(hb:(b1≠pv/\b1≠pq/\b1≠pm)/\b2≠pv/\b2≠pq/\b2≠pm)(hi:i<l.length)(hx:(S.sp l i).1≠-1):Gj d n l cut ctx vr ab sz b lv pq pv pm pc px b1 b2 (f+1) i:=by
 intro w st g K D hN hW hO hM kk;obtain ⟨hS,hV,he1,he2,hl1,hl2⟩:=hN;obtain ⟨n1,n2,n3,n4,n5⟩:=hS.nx;obtain ⟨d1a,d1b,d1c,d1d⟩:=hC.d1;obtain ⟨x0,x1⟩:=hL.f i hi hx;obtain ⟨a1,a2⟩:=AO hi;have hll:=hC.ll;have rl:=λh=>(hC.sl.tree (h':=h) (Nat.le_refl 0)).sps;have hnum:S.ax n l vr sz (f+1) i w (ab[i]?.getD 0) st=(S.bX n w (S.sp l i).1.toNat,st.1,w64 (st.2+1)):=by rw[S.ax,if_neg hx]
 rw[hnum] at kk;obtain ⟨v,hv⟩:=Int.eq_ofNat_of_zero_le x0;obtain ⟨⟨xa,xb,xc⟩,hsp⟩:∃x,S.sp l i=x:=⟨_,rfl⟩;rw[hsp] at hv x1 kk a2 hx;dsimp only at hv x1 kk hx;subst hv;rw[Int.toNat_natCast] at kk;have c1:¬((v:Int) = -1):=hx;have hq:=hS.q;rw[EU];refine gK fq (by simp[bo]) ?_;simp only[bo];refine be (P:=λt' df g'=>df=[]/\g'=g/\St t' [(0,.int .i64 (i:Int)),(1,.hptr b1 0 0 0),(2,.hptr b2 0 0 0)]) ?_ ?_
 ·simp only[_root_.Hx.sz,simprocAttr];simp[St,sx]
 rintro t df g ⟨rfl,rfl,h0,h1,h2,-⟩;refine be (P:=λt' df g'=>df=[]/\g'.nx=g.nx+1/\g'.h.get g.nx=.cells 3 [cs3 ((v:Int),xb,xc)] 0 false false/\Fx (λ_=>False) g g'/\St t' [(0,.int .i64 (i:Int)),(1,.hptr b1 0 0 0),(2,.hptr b2 0 0 0),(5,.hptr g.nx 0 0 0)]) ?_ ?_
 ·simp only[_root_.Hx.sz,simprocAttr,h0,h1,he1,hq,N2,bm,rl,a1,a2,cs3];exact ⟨(Fx.new _ _ _).put (.inr (Nat.le_refl _)) _,by simp[St,sx,h0,h1,h2]⟩
 rintro t df g1 ⟨rfl,k1,kB,F1,h0,h1,h2,h5,-⟩;have q1:=(F1.fr pq n1 id).trans hq;have e1':g1.h.get b1=.cells 1 [[.hptr pq 0 0 0]] 0 false false:=by rw[F1.fr b1 hl1 id,he1]
 have sc:=zz n.grain sz st.2 (w64 (st.2+1)) b lv (.hsl pv 0 0 n.nodes.length none) (.hsl pc 0 0 cut.length none) (.hsl px 0 0 ctx.length none) pm;have hb1q:¬b1=pq:=hb.1.2.1;have hBq:¬g.nx=pq:=by omega
 simp only[_root_.Hx.sz,simprocAttr,h1,h5,kB,cs3,c1,e1',q1,bm,Oy,sc,hb1q,hBq];have F2:Fx (As pq pv pm) g (g1.put pq (srO n.grain sz (w64 (st.2+1)) b lv (.hsl pv 0 0 n.nodes.length none) (.hsl pc 0 0 cut.length none) (.hsl px 0 0 ctx.length none) pm)):=(F1.mono λ_ h=>h.elim).put (.inl (.inr (.inl rfl))) _;have hS1:Srh n cut ctx sz b lv pq pv pm pc px st g1:=hS.fr F1.nx λi hi=>F1.fr i (by rcases hi with rfl | rfl | rfl | rfl<;>assumption) id;have hS2:=hS1.call (l:=l) (c:=w64 (st.2+1)) (g':=g1.put pq (srO n.grain sz (w64 (st.2+1)) b lv (.hsl pv 0 0 n.nodes.length none) (.hsl pc 0 0 cut.length none) (.hsl px 0 0 ctx.length none) pm)) hC (by simp) (by simp);have hV2:Vs n pv w (g1.put pq (srO n.grain sz (w64 (st.2+1)) b lv (.hsl pv 0 0 n.nodes.length none) (.hsl pc 0 0 cut.length none) (.hsl px 0 0 ctx.length none) pm)):=hV.fr (by rw[G.put_h,ae _ _ _ d1a,F1.fr pv n2 id]);refine Lx hd hC hS2 hW hV2 (by omega) λg' hS3 hV3 F3=>?_;simp only[_root_.Hx.sz,simprocAttr];have F23:=F2.trans (F3.mono λi hi _=>(.inl hi:As pq pv pm i));have hf3:∀i,i<g.nx->i≠pv->i≠pq->g'.h.get i=g.h.get i:=λi hi h1 h2=>by have:=F1.nx;rw[F3.fr i (by simp;omega) h1,G.put_h,ae _ _ _ h2,F1.fr i hi id]
 exact kk g' ⟨hS3,hV3,by rw[hf3 _ hl1 hb.1.1 hb.1.2.1,he1],by rw[hf3 _ hl2 hb.2.1 hb.2.2.1,he2],by have:=F23.nx;omega⟩ F23
structure JnH (n:Net) (cut ctx:List Nat) (sz:Int) (b lv:AV) (pq pv pm pc px b1 b2 i:Nat) (st:MSt) (w:List Int) (x:Sp) (k:Key) (g0:G) (B6:Nat) (t:T) (g:G):Prop where
 nh:NH n cut ctx sz b lv pq pv pm pc px b1 b2 st w g
 f:Fx (λ_=>False) g0 g
 b5:g.h.get g0.nx=.cells 3 [cs3 x] 0 false false
 b6:g.h.get B6=kO9 k.1 k.2
 ln:g0.nx<B6/\B6<g.nx
 st:St t [(0,.int .i64 (i:Int)),(1,.hptr b1 0 0 0),(2,.hptr b2 0 0 0),(5,.hptr g0.nx 0 0 0),(6,.hptr B6 0 0 0)]
set_option maxRecDepth 20000 in
theorem LQ {i:Nat}{w:List Int}{st:MSt}{g0:G}{Q:QT}{t:T}{R:SC}(hC:Srs n l cut ctx b lv pq pv pm pc px)(hi:i<l.length)(hx:(S.sp l i).1 = -1)(hN:NH n cut ctx sz b lv pq pv pm pc px b1 b2 st w g0)
  (ht:St t [(0,.int .i64 (i:Int)),(1,.hptr b1 0 0 0),(2,.hptr b2 0 0 0)])
  (fin:∀t g B6,JnH n cut ctx sz b lv pq pv pm pc px b1 b2 i st w (S.sp l i) ((i:Int),S.aN w (ctx[i]?.getD 0)) g0 B6 t g->wp C0 d none R Q t [] g) :
  wp C0 d none (sQ [oL 11 1,o 12 (.nilc (.t 11)),oF 13 2 12,oL 14 13,oM 15 0,o 16 (.ixs 3 (.t 14) (.t 15)),o 17 (.load true 3 (.t 16)),o 5 (.alloc [.int .i64 0,.int .i64 0,.int .i64 0]),oz (.store 3 (.t 5) (.t 17))] (.seq (sQ [oF 18 0 5,oL 19 18,o 20 (.bin .neq (.t 19) (qI (-1)))] (.cond (.t 20) (sQ [oL 21 1,o 22 (.nilc (.t 21)),oF 23 8 22,oL 24 23,oA 25 24,o 26 (.nilc (.t 21)),oF 27 8 26,oz (.store 1 (.t 27) (.t 25))] (sQ [oL 28 1,oF 29 0 5,oL 30 29,o 31 (.call N.aG [.t 28,.t 30]),oM 4 31] (.ret))) (.skip))) (sQ [oL 32 1,oM 33 0,o 34 (.call N.aH [.t 32,.t 33]),o 6 (.alloc [.int .i64 0,.int .i64 0,.int .i64 0,.int .i64 0,.int .i64 0,.int .i64 0,.int .i64 0,.int .i64 0,.int .i64 0]),oz (.store 9 (.t 6) (.t 34))] R))) Q t [] g0:=by
 obtain ⟨hS,hV,he1,he2,hl1,hl2⟩:=hN;obtain ⟨n1,n2,n3,n4,n5⟩:=hS.nx;obtain ⟨h0,h1,h2,-⟩:=ht;obtain ⟨a1,a2⟩:=AO hi;have rl:=λh=>(hC.sl.tree (h':=h) (Nat.le_refl 0)).sps;obtain ⟨⟨xa,xb,xc⟩,hsp⟩:∃x,S.sp l i=x:=⟨_,rfl⟩;rw[hsp] at a2 hx fin;dsimp only at hx;subst hx;have hq:=hS.q;refine be (P:=λt' df g'=>df=[]/\g'.nx=g0.nx+1/\g'.h.get g0.nx=.cells 3 [cs3 (-1,xb,xc)] 0 false false/\Fx (λ_=>False) g0 g'/\St t' [(0,.int .i64 (i:Int)),(1,.hptr b1 0 0 0),(2,.hptr b2 0 0 0),(5,.hptr g0.nx 0 0 0)]) ?_ ?_
 ·simp only[_root_.Hx.sz,simprocAttr,h0,h1,he1,hq,N2,bm,rl,a1,a2,cs3];exact ⟨(Fx.new _ _ _).put (.inr (Nat.le_refl _)) _,by simp[St,sx,h0,h1,h2]⟩
 clear h0 h1 h2;rintro t df g1 ⟨rfl,k1,kB,F1,h0,h1,h2,h5,-⟩;have e1':g1.h.get b1=.cells 1 [[.hptr pq 0 0 0]] 0 false false:=by rw[F1.fr b1 hl1 id,he1]
 have hS1:Srh n cut ctx sz b lv pq pv pm pc px st g1:=hS.fr F1.nx λi hi=>F1.fr i (by rcases hi with rfl | rfl | rfl | rfl<;>assumption) id;have hV1:Vs n pv w g1:=hV.fr (F1.fr pv n2 id);refine bM (P:=λt' df g'=>df=[]/\g'=g1/\St t' [(0,.int .i64 (i:Int)),(1,.hptr b1 0 0 0),(2,.hptr b2 0 0 0),(5,.hptr g0.nx 0 0 0)]) ?_ ?_
 ·simp only[_root_.Hx.sz,simprocAttr,h5,kB,cs3];simp[St,sx,h0,h1,h2,h5]
 clear h0 h1 h2 h5;rintro t df g1 ⟨rfl,rfl,h0,h1,h2,h5,-⟩;refine be (P:=λt' df g'=>df=[]/\∃B6,JnH n cut ctx sz b lv pq pv pm pc px b1 b2 i st w (-1,xb,xc) ((i:Int),S.aN w (ctx[i]?.getD 0)) g0 B6 t' g') ?_ ?_
 ·simp only[_root_.Hx.sz,simprocAttr,h0,h1,e1'];refine Kv hC hS1 hV1 hi λg2 F2=>?_;have hsk:(S.aN w (ctx[i]?.getD 0)).length=8:=by simp[S.aN]
  have sa:=Fm (i:=0) (l:=[0,0,0,0,0,0,0,0]) (k:=((i:Int),S.aN w (ctx[i]?.getD 0))) rfl hsk;have e9:AObj.cells 9 [[AV.int .i64 0,.int .i64 0,.int .i64 0,.int .i64 0,.int .i64 0,.int .i64 0,.int .i64 0,.int .i64 0,.int .i64 0]] 0 false false=kO9 0 [0,0,0,0,0,0,0,0]:=rfl;have F2n:=F2.nx;simp only[_root_.Hx.sz,simprocAttr,e9,sa];have F3:Fx (λ_=>False) g0 ((g2.new (kO9 0 [0,0,0,0,0,0,0,0])).put g2.nx (kO9 (i:Int) (S.aN w (ctx[i]?.getD 0)))):=(F1.trans (F2.trans (Fx.new _ _ _))).put (.inr (by omega)) _;refine ⟨g2.nx,⟨hS.fr F3.nx λi hi=>F3.fr i (by rcases hi with rfl | rfl | rfl | rfl<;>assumption) id,hV.fr (F3.fr pv n2 id),by rw[F3.fr b1 hl1 id,he1],by rw[F3.fr b2 hl2 id,he2],by have:=F3.nx;omega⟩,F3,?_,?_,by simp;omega,by simp[St,sx,h0,h1,h2,h5]⟩
  ·rw[G.put_h,ae _ _ _ (by omega),G.new_h,ae _ _ _ (by omega),F2.fr _ (by omega) id,kB]
  ·rw[G.put_h,aJ]
 rintro t df g2 ⟨rfl,B6,h⟩;exact fin t g2 B6 h
end
end
end Hx
end
section
namespace Hx
open Go
noncomputable section
theorem Ij (C:Cfg)(t:T)(g:G)(f:Od)(xs:List Od):(SO.foot C t g (.dyn f xs)).sr=[]:=by
 simp only[SO.foot]
 split
 ·rw[aa];split<;>rfl
 ·rfl
theorem Gn {x y:Foot}(hx:x.wr=[])(hb:x.lk.big=false)(hs:x.lk.sr=[])(h:∀i∈y.wr,i ∉ x.lk.rd):bS x y=true:=by
 have m1:meets y.wr []=false:=by simp[meets]
 have m2:meets y.wr x.lk.rd=false:=by simp only[meets,List.any_eq_false];intro i hi hc;exact h i hi (List.contains_iff_mem.1 hc)
 simp only[bS,jg,gD,hx,hb,hs,m1,m2,fst1,List.map_nil,Bool.not_false,Bool.and_self,Bool.true_or,Bool.true_and]
 split<;>rfl
section
variable {d f:Nat}{n:Net}{l:List Sp}{cut ctx vr ab:List Nat}{sz:Int}{b lv:AV}{pq pv pm pc px b1 b2:Nat}
def LJo (i b1 b2 B5 B6:Nat):List (Nat×AV):=[(0,.int .i64 (i:Int)),(1,.hptr b1 0 0 0),(2,.hptr b2 0 0 0),(5,.hptr B5 0 0 0),(6,.hptr B6 0 0 0)]
theorem JnH.key8 {i B6:Nat}{st:MSt}{w:List Int}{x:Sp}{k:Key}{g0 g:G}{t:T}(h:JnH n cut ctx sz b lv pq pv pm pc px b1 b2 i st w x k g0 B6 t g)(hk:K8 k):bH (g.h.get B6) 0 0 true 9 0=.val (ck9 k):=by rw[h.b6];exact xh hk
def vG:SC:=.seq (.quiet [oL 36 1,o 37 (.nilc (.t 36)),oF 38 6 37,oL 39 38,o 40 (.load true 9 (.t 6)),o 41 (.raw (.lookup 115 (.tmp 39) (.tmp 40) true)),oM 35 41,o 42 (.ext (.t 35) 0),o 43 (.ext (.t 35) 1),oM 7 42,oM 8 43]) (sQ [oM 44 8] (.cond (.t 44) (sQ [oM 45 7,oM 4 45] (.ret)) (.skip)))
theorem Jo {i B6:Nat}{st:MSt}{w:List Int}{x:Sp}{k:Key}{g0 g:G}{t:T}{Q:QT}(hk:K8 k)(hM:Mok st.1)(h:JnH n cut ctx sz b lv pq pv pm pc px b1 b2 i st w x k g0 B6 t g)(hh:eC st.1 k=true)(fin:∀t,tat t 4=.int .i64 (mgt st.1 k)->Q .ret t [] g) :
  wp C0 d none vG Q t [] g:=by
 obtain ⟨h0,h1,h2,h5,h6,-⟩:=h.st;have e1:=h.nh.e1;have q:=h.nh.s.q;have m:=h.nh.s.m;have k8:=h.key8 hk;have lk:=λt g h1 h2 h3=>Jn (d:=d) (rd:=none) (t:=t) (g:=g) (a:=39) (b:=40) (id:=pm) hk hM h1 h2 h3;simp only[_root_.Hx.sz,simprocAttr,vG,h1,h6,e1,q,Mj,bm,k8,lk,m,hh];exact fin _ (by simp[sx])
theorem LB {i B6:Nat}{st:MSt}{w:List Int}{x:Sp}{k:Key}{g0 g:G}{t:T}{Q:QT}(hk:K8 k)(hM:Mok st.1)(h:JnH n cut ctx sz b lv pq pv pm pc px b1 b2 i st w x k g0 B6 t g)(hh:eC st.1 k=false)(fin:∀t,St t (LJo i b1 b2 g0.nx B6)->Q .norm t [] g) :
  wp C0 d none vG Q t [] g:=by
 obtain ⟨h0,h1,h2,h5,h6,-⟩:=h.st;have e1:=h.nh.e1;have q:=h.nh.s.q;have m:=h.nh.s.m;have k8:=h.key8 hk;have lk:=λt g h1 h2 h3=>Jn (d:=d) (rd:=none) (t:=t) (g:=g) (a:=39) (b:=40) (id:=pm) hk hM h1 h2 h3;simp only[_root_.Hx.sz,simprocAttr,vG,h1,h6,e1,q,Mj,bm,k8,lk,m,hh];exact fin _ (by simp[St,LJo,sx,h0,h1,h2,h5,h6])
def L9 (R:SC):SC:=sQ [oL 46 1,o 47 (.nilc (.t 46)),oF 48 8 47,oL 49 48,oA 50 49,o 51 (.nilc (.t 46)),oF 52 8 51,oz (.store 1 (.t 52) (.t 50))] (sQ [o 9 (.alloc [.int .i64 0]),oz (.store 1 (.t 9) (qI 0))] R)
theorem HW {i B6:Nat}{st:MSt}{w:List Int}{x:Sp}{k:Key}{g0 g:G}{t t0:T}{Q:QT}{R:SC}(hC:Srs n l cut ctx b lv pq pv pm pc px)(hb:(b1≠pv/\b1≠pq/\b1≠pm)/\b2≠pv/\b2≠pq/\b2≠pm)(hpq:pq<g0.nx)(hb12:b1<g0.nx/\b2<g0.nx)(h:JnH n cut ctx sz b lv pq pv pm pc px b1 b2 i st w x k g0 B6 t0 g)(ht:St t (LJo i b1 b2 g0.nx B6))
  (fin:∀t g',g'.nx=g.nx+1->(∀j,j<g.nx->j≠pq->g'.h.get j=g.h.get j)->(∀j∈g'.lg,j∈g.lg\/j=pq\/j=g.nx)->NH n cut ctx sz b lv pq pv pm pc px b1 b2 (st.1,w64 (st.2+1)) w g'->g'.h.get g.nx=.cells 1 [[.int .i64 0]] 0 false false->St t ((9,.hptr g.nx 0 0 0)::LJo i b1 b2 g0.nx B6)->wp C0 d none R Q t [] g') :
  wp C0 d none (L9 R) Q t [] g:=by
 obtain ⟨h0,h1,h2,h5,h6,-⟩:=ht;have e1:=h.nh.e1;have q:=h.nh.s.q;obtain ⟨n1,n2,n3,n4,n5⟩:=h.nh.s.nx;have sc:=zz n.grain sz st.2 (w64 (st.2+1)) b lv (.hsl pv 0 0 n.nodes.length none) (.hsl pc 0 0 cut.length none) (.hsl px 0 0 ctx.length none) pm;refine be (P:=λt' df g'=>df=[]/\g'=g.put pq (srO n.grain sz (w64 (st.2+1)) b lv (.hsl pv 0 0 n.nodes.length none) (.hsl pc 0 0 cut.length none) (.hsl px 0 0 ctx.length none) pm)/\St t' (LJo i b1 b2 g0.nx B6)) ?_ ?_
 ·simp only[_root_.Hx.sz,simprocAttr,h1,e1,q,Oy,bm,sc];simp[St,LJo,sx,h0,h1,h2,h5,h6]
 clear h0 h1 h2 h5 h6;rintro t df g1 ⟨rfl,hg1,h0,h1,h2,h5,h6,-⟩;have n1':g1.nx=g.nx:=by rw[hg1];simp
 have f1:∀j,j≠pq->g1.h.get j=g.h.get j:=λj hj=>by rw[hg1,G.put_h,ae _ _ _ hj]
 have l1:∀j∈g1.lg,j∈g.lg\/j=pq:=λj hj=>by rw[hg1] at hj;simp at hj;exact hj.symm
 have hS1:Srh n cut ctx sz b lv pq pv pm pc px (st.1,w64 (st.2+1)) g1:=h.nh.s.call (l:=l) hC (by omega) (by rw[hg1];simp);clear hg1;refine be (P:=λt' df g'=>df=[]/\g'.nx=g.nx+1/\(∀j,j<g.nx->g'.h.get j=g1.h.get j)/\(∀j∈g'.lg,j∈g1.lg\/j=g.nx)/\g'.h.get g.nx=.cells 1 [[.int .i64 0]] 0 false false/\St t' ((9,.hptr g.nx 0 0 0)::LJo i b1 b2 g0.nx B6)) ?_ ?_
 ·simp only[_root_.Hx.sz,simprocAttr,n1'];refine ⟨λj hj=>by simp[show ¬j=g.nx by omega],λj hj=>?_,by simp[St,LJo,sx,h0,h1,h2,h5,h6]⟩;simp at hj;rcases hj with h | h | h
  ·exact .inr h
  ·exact .inr (by omega)
  ·exact .inl h
 clear h0 h1 h2 h5 h6;rintro t df g2 ⟨rfl,n2',f2,l2,k9,ht⟩;obtain ⟨d1a,d1b,d1c,d1d⟩:=hC.d1;have F0:=h.f;have hfn:=F0.nx;refine fin t g2 n2' (λj hj hp=>by rw[f2 j hj,f1 j hp]) (λj hj=>?_) ⟨hS1.fr (by omega) λj hj=>f2 j (by rcases hj with rfl | rfl | rfl | rfl<;>assumption),h.nh.v.fr (by rw[f2 _ n2,f1 _ d1a]),by rw[f2 _ h.nh.l.1,f1 _ hb.1.2.1,e1],by rw[f2 _ h.nh.l.2,f1 _ hb.2.2.1,h.nh.e2],by have:=h.nh.l;omega⟩ k9 ht;rcases l2 j hj with h | h
 ·rcases l1 j h with h | h
  ·exact .inl h
  ·exact .inr (.inl h)
 ·exact .inr (.inr h)
end
end
end Hx
end
section
namespace Hx
open Go
noncomputable section
section
variable {d f:Nat}{n:Net}{l:List Sp}{cut ctx vr ab:List Nat}{sz:Int}{b lv:AV}{pq pv pm pc px b1 b2:Nat}
theorem NH.fr {st:MSt}{w:List Int}{g g':G}(h:NH n cut ctx sz b lv pq pv pm pc px b1 b2 st w g)(hn:g.nx<=g'.nx)(hf:∀j,j<g.nx->g'.h.get j=g.h.get j):NH n cut ctx sz b lv pq pv pm pc px b1 b2 st w g':=by obtain ⟨n1,n2,n3,n4,n5⟩:=h.s.nx;exact ⟨h.s.fr hn λj hj=>hf j (by rcases hj with rfl | rfl | rfl | rfl<;>assumption),h.v.fr (hf pv n2),by rw[hf _ h.l.1,h.e1],by rw[hf _ h.l.2,h.e2],by have:=h.l;omega⟩
theorem NH.set {st:MSt}{w:List Int}{g g':G}{S0:Nat}(h:NH n cut ctx sz b lv pq pv pm pc px b1 b2 st w g)(hs:b2≠S0/\pv≠S0/\pq≠S0/\pm≠S0/\pc≠S0/\px≠S0/\b1≠S0)(hn:g.nx<=g'.nx)(hf:∀j,j≠S0->g'.h.get j=g.h.get j):NH n cut ctx sz b lv pq pv pm pc px b1 b2 st w g':=by obtain ⟨s1,s2,s3,s4,s5,s6,s7⟩:=hs;exact ⟨h.s.fr hn λj hj=>hf j (by rcases hj with rfl | rfl | rfl | rfl<;>assumption),h.v.fr (hf pv s2),by rw[hf _ s7,h.e1],by rw[hf _ s1,h.e2],by have:=h.l;omega⟩
set_option maxRecDepth 20000 in
theorem Og {B5 S0 le ri:Nat}{w:List Int}{st:MSt}{s:Int}{rd:Option Nat}{g:G}{t:T}{Q:QT}(hb5:(B5≠pv/\B5≠pq/\B5≠pm)/\S0≠pv/\S0≠pq/\S0≠pm)(hbs:b2≠S0/\B5≠S0/\pv≠S0/\pq≠S0/\pm≠S0/\pc≠S0/\px≠S0/\b1≠S0)
  (hN:NH n cut ctx sz b lv pq pv pm pc px b1 b2 st w g) (hW:Wv n w) (hM:Mok st.1) (ih1:Gj d n l cut ctx vr ab sz b lv pq pv pm pc px b1 b2 f le) (ih2:Gj d n l cut ctx vr ab sz b lv pq pv pm pc px b1 b2 f ri) (hO1:Wo vr ab w le) (hO2:Wo vr ab w ri)
  (k5:g.h.get B5=.cells 3 [cs3 (-1,(le:Int),(ri:Int))] 0 false false) (k9:g.h.get S0=.cells 1 [[.int .i64 s]] 0 false false) (hlt:B5<g.nx/\S0<g.nx)
  (h2:tat t 2=.hptr b2 0 0 0) (h5:tat t 5=.hptr B5 0 0 0) (h9:tat t 9=.hptr S0 0 0 0) {p q:Int×MSt} (hp:p=S.ax n l vr sz f le w (ab[le]?.getD 0) st) (hq:q=S.ax n l vr sz f ri w (ab[ri]?.getD 0) p.2)
  (fin:∀t g',NH n cut ctx sz b lv pq pv pm pc px b1 b2 q.2 w g'->g'.h.get S0=.cells 1 [[.int .i64 (w64 (s+w64 (p.1*q.1)))]] 0 false false->Fx (λi=>As pq pv pm i\/i=S0) g g'->Q .norm t [] g') :
  wp C0 d rd bX Q t [] g:=by
 obtain ⟨⟨c1,c2,c3⟩,c4,c5,c6⟩:=hb5;have hAB:¬As pq pv pm B5:=by rintro (h | h | h)<;>contradiction
 have hAS:¬As pq pv pm S0:=by rintro (h | h | h)<;>contradiction
 simp only[bX,A0];refine be (P:=λt' df g'=>df=[]/\tat t' 10=.int .i64 p.1/\NH n cut ctx sz b lv pq pv pm pc px b1 b2 p.2 w g'/\Fx (As pq pv pm) g g'/\St t' [(2,.hptr b2 0 0 0),(5,.hptr B5 0 0 0),(9,.hptr S0 0 0 0)]) ?_ ?_
 ·have e2:=hN.e2;simp only[_root_.Hx.sz,simprocAttr,h2,e2,h5,k5,cs3];refine ih1 w st g _ _ hN hW hO1 hM λg' hN' F'=>?_;rw[<-hp] at hN' ⊢;simp only[_root_.Hx.sz,simprocAttr];exact ⟨hN',F',by simp[St,sx,h2,h5,h9]⟩
 clear h2 h5 h9;rintro t df g1 ⟨rfl,h10,hN1,F1,h2,h5,h9,-⟩;have F1n:=F1.nx;have e2:=hN1.e2;have k5':g1.h.get B5=.cells 3 [cs3 (-1,(le:Int),(ri:Int))] 0 false false:=by rw[F1.fr B5 hlt.1 hAB,k5]
 have k9':g1.h.get S0=.cells 1 [[.int .i64 s]] 0 false false:=by rw[F1.fr S0 hlt.2 hAS,k9]
 have hMp:Mok p.2.1:=by rw[hp];exact vD _ _ _ _ _ hM
 simp only[_root_.Hx.sz,simprocAttr,sf,h2,e2,h5,k5',cs3,h9,k9',h10];refine ih2 w p.2 _ _ _ (hN1.fr (by simp;omega) λj hj=>by simp) hW hO2 hMp λg2 hN2 F2=>?_;rw[<-hq] at hN2 ⊢;have F2n:g1.nx<=g2.nx:=by have:=F2.nx;simp at this;omega
 have f2:∀j,j<g1.nx->¬As pq pv pm j->g2.h.get j=g1.h.get j:=λj hj hA=>by have:=F2.fr j (by simp;omega) hA;simpa using this
 have l2:∀j∈g2.lg,As pq pv pm j\/g1.nx<=j:=λj hj=>by have:=F2.lg j hj;simp at this;exact this.imp id λh=>by omega
 have k9'':g2.h.get S0=.cells 1 [[.int .i64 s]] 0 false false:=by rw[f2 S0 (by omega) hAS,k9']
 simp only[_root_.Hx.sz,simprocAttr,sf,h9,k9''];refine ⟨?_,?_⟩
 ·simp only[List.reverse_cons,List.reverse_nil,List.nil_append,List.cons_append];refine aF [false,false,false,false,false,true,false,false,true] [(0,5),(1,5)] (by simp[All2,ac,ay,Ij]) (by decide) ?_;intro pp hpp x y hx hy;simp only[List.mem_cons,List.not_mem_nil,or_false] at hpp;rcases hpp with rfl | rfl<;>(simp only[List.getElem?_cons_zero,List.getElem?_cons_succ,Option.some.injEq] at hx hy;subst hx;subst hy;refine Gn rfl rfl rfl ?_)
  ·intro i hi hc;simp[ac,gE] at hc;subst hc;rcases l2 _ hi with h | h
   ·exact hAS h
   ·omega
  ·intro i hi hc;simp[ay] at hc
 ·obtain ⟨s1,s2,s3,s4,s5,s6,s7,s8⟩:=hbs;refine fin _ _ (hN2.set (S0:=S0) ⟨s1,s3,s4,s5,s6,s7,s8⟩ (by simp;omega) λj hj=>by simp[H.get_put,hj]) (by simp[H.get_put]) ⟨by simp;omega,λj hj hA=>?_,λj hj=>?_⟩
  ·have h1:¬As pq pv pm j:=λh=>hA (.inl h);have h2:¬j=S0:=λh=>hA (.inr h);simp[H.get_put,h2,f2 j (by omega) h1,F1.fr j hj h1]
  ·simp at hj;rcases hj with rfl | hj | hj
   ·exact .inr (.inl (.inr rfl))
   ·rcases l2 j hj with h | h
    ·exact .inr (.inl (.inl h))
    ·exact .inr (.inr (by omega))
   ·rcases F1.lg j hj with h | h | h
    ·exact .inl h
    ·exact .inr (.inl (.inl h))
    ·exact .inr (.inr h)
end
end
end Hx
end
section
namespace Hx
open Go
noncomputable section
section
variable {d f:Nat}{n:Net}{l:List Sp}{cut ctx vr ab:List Nat}{sz:Int}{b lv:AV}{pq pv pm pc px b1 b2:Nat}
def Ju (k:Key)(r sz:Int)(L:Mem):Mem:=if (L.length:Int)<sz then mst k r L else L
theorem Ji {g:G}{pm:Nat}{L:Mem}(h:g.h.get pm=.map (qR L)):eB .map (.hmap pm) g=.val (.int .i64 (L.length:Int)):=by show (match g.get pm with | .map es=>OR.val (.int .i64 (.ofNat (bh es))) | _=>.fail)=_;rw[G.get_eq,h];simp[aB,qR]
theorem NH.mem {st:MSt}{w:List Int}{g g':G}{L:Mem}(hC:Srs n l cut ctx b lv pq pv pm pc px)(hb:(b1≠pv/\b1≠pq/\b1≠pm)/\b2≠pv/\b2≠pq/\b2≠pm)(h:NH n cut ctx sz b lv pq pv pm pc px b1 b2 st w g)(hn:g.nx<=g'.nx)(hf:∀j,j≠pm->g'.h.get j=g.h.get j)(hm:g'.h.get pm=.map (qR L)):NH n cut ctx sz b lv pq pv pm pc px b1 b2 (L,st.2) w g':=by obtain ⟨d1a,d1b,d1c,d1d⟩:=hC.d1;obtain ⟨d2a,d2b,d2c⟩:=hC.d2;obtain ⟨d3a,d3b⟩:=hC.d3;exact ⟨⟨by rw[hf _ (Ne.symm d1b),h.s.q],hm,by rw[hf _ d3a,h.s.c],by rw[hf _ d3b,h.s.x],by have:=h.s.nx;omega⟩,h.v.fr (hf _ (Ne.symm d2a)),by rw[hf _ hb.1.2.2,h.e1],by rw[hf _ hb.2.2.2,h.e2],by have:=h.l;omega⟩
set_option maxRecDepth 20000 in
theorem Oh {B6 S0:Nat}{st:MSt}{w:List Int}{k:Key}{r:Int}{g:G}{t:T}{df:List ADf}{Q:QT}(hC:Srs n l cut ctx b lv pq pv pm pc px)(hb:(b1≠pv/\b1≠pq/\b1≠pm)/\b2≠pv/\b2≠pq/\b2≠pm)(hk:K8 k)(hM:Mok st.1)(hN:NH n cut ctx sz b lv pq pv pm pc px b1 b2 st w g)
  (k6:g.h.get B6=kO9 k.1 k.2) (k9:g.h.get S0=.cells 1 [[.int .i64 r]] 0 false false) (hS0:S0≠pm) (h1:tat t 1=.hptr b1 0 0 0) (h6:tat t 6=.hptr B6 0 0 0) (h9:tat t 9=.hptr S0 0 0 0)
  (fin:∀t g',tat t 4=.int .i64 r->NH n cut ctx sz b lv pq pv pm pc px b1 b2 (Ju k r sz st.1,st.2) w g'->Fx (λi=>i=pm) g g'->(∀j,j≠pm->g'.h.get j=g.h.get j)->Q .ret t df g') :
  wp C0 d none bY Q t df g:=by
 have e1:=hN.e1;have q:=hN.s.q;have m:=hN.s.m;have k8:bH (g.h.get B6) 0 0 true 9 0=.val (ck9 k):=by rw[k6];exact xh hk
 obtain ⟨d1a,d1b,d1c,d1d⟩:=hC.d1;obtain ⟨d2a,d2b,d2c⟩:=hC.d2;obtain ⟨d3a,d3b⟩:=hC.d3;have lm:=λ(g':G) (h:g'.h.get pm=.map (qR st.1))=>Ji h;simp only[bY];refine bM (P:=λt' df' g'=>df'=df/\tat t' 9=.hptr S0 0 0 0/\NH n cut ctx sz b lv pq pv pm pc px b1 b2 (Ju k r sz st.1,st.2) w g'/\Fx (λi=>i=pm) g g'/\(∀j,j≠pm->g'.h.get j=g.h.get j)) ?_ ?_
 ·refine bM (P:=λt' df' g'=>df'=df/\g'=g/\tat t' 84=.bool (decide ((st.1.length:Int)<sz))/\St t' [(1,.hptr b1 0 0 0),(6,.hptr B6 0 0 0),(9,.hptr S0 0 0 0)]) ?_ ?_
  ·simp only[_root_.Hx.sz,simprocAttr,h1,e1,q,Mj,OM,bm,lm,m];simp[St,sx,h1,h6,h9]
  clear h1 h6 h9;rintro t df g ⟨rfl,rfl,h84,h1,h6,h9,-⟩
  by_cases c:(st.1.length:Int)<sz
  ·have hmu:Ju k r sz st.1=mst k r st.1:=if_pos c;rw[hmu];rw[decide_eq_true c] at h84;have lk:=λt g h1 h2 h3 h4=>OB (d:=d) (rd:=none) (t:=t) (g:=g) (a:=88) (b:=89) (c:=90) (id:=pm) (x:=r) hk hM h1 h2 h3 h4;simp only[_root_.Hx.sz,simprocAttr,sf,h84,h1,h6,h9,e1,q,Mj,bm,k8,k9,lk,m,GO];refine ⟨?_,?_⟩
   ·simp only[List.reverse_cons,List.reverse_nil,List.nil_append,List.cons_append];exact aF [false,false,false,false,false,false,true] [] (by simp[All2,ac,ay]) (by decide) (by simp)
   ·refine ⟨hN.mem hC hb (by simp;omega) (λj hj=>by simp[H.get_put,hj]) (by simp[H.get_put]),⟨by simp;omega,λj hj hp=>by simp[H.get_put,hp],λj hj=>?_⟩,λj hj=>by simp[hj]⟩;simp at hj;rcases hj with rfl | hj
    ·exact .inr (.inl rfl)
    ·exact .inl hj
  ·have hmu:Ju k r sz st.1=st.1:=if_neg c;rw[hmu];rw[decide_eq_false c] at h84;simp only[_root_.Hx.sz,simprocAttr,h84];exact ⟨h9,hN,Fx.refl _ _,by simp⟩
 clear h1 h6 h9;rintro t df g' ⟨rfl,h9,hN',F',hf⟩;have k9':g'.h.get S0=.cells 1 [[.int .i64 r]] 0 false false:=by rw[hf S0 hS0,k9]
 simp only[_root_.Hx.sz,simprocAttr,d_,h9,k9'];exact fin _ _ (by simp[sx]) hN' F' hf
end
end
end Hx
end
