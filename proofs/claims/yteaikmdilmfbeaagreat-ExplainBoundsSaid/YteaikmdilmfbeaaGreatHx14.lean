/- A part of the proof: an interpreter over abstract values, shown right against the model, and what the functions of the chapter compute on it. -/
import Derived.Test.YteaikmdilmfbeaaGreatHx13
set_option linter.unusedVariables false
set_option linter.unusedSimpArgs false
set_option linter.unnecessarySimpa false
section
namespace Hx
open Go
noncomputable section
structure DBl (D:ND) (n i:Nat) (num:Nat->Nat):Prop where
 c:∀u,u<n->D.c u=2\/D.c u=3
 p:∀u,u<n->(D.P u).length<=3/\∀y∈D.P u,0<=y/\y<n
 m:∀u,u<n->D.m u<=64
 o:∀u,D.o u=0
 f:∀k,i<=k->k<n->D.P (num k)=[]/\D.m (num k)=0
structure DL (r0:List AV) (n q:Nat) (gr:Int) (r5:AV) (num:Nat->Nat) (i:Nat) (t:T) (g:G):Prop where
 st:St t (LDA n q r5)
 hd:∃V E D,DN X1 r0 n q 1000 gr V E D g/\DBl D n i num
theorem II {n:Nat}{D:ND}:∀k,LNX X1 n D k->LNX X2 n D k:=fun k h=>by
 rcases h with h | h
 ·exact .inl h
 ·exact .inr (.inl h)
theorem Ji {d n q kk:Nat}{x:sA}{gr:Int}{a b r5:AV}{pl:List Int}{num:Nat->Nat}{Q:QT}{t:T}{g:G}(hd:0<d)(hgr:0<=gr/\gr<=60)(hn:1<=n/\n<=5)(ha:SlR NoP kk .nil x.2.1 a)(h5:IT 0 pl r5)(hN:Num n pl num)
  (h0:DL [u8v x.1,a,b] n q gr r5 num 0 t g) (h10:tat t 10=.int .i64 0)
  (fin:∀t g,DL [u8v x.1,a,b] n q gr r5 num n t g->Q (.exit 2) t [] g):wpL (wp C0 d none ef) Q t [] g:=by
 obtain ⟨pr,r1,r2,r3,r4⟩:=ha.all
 have r1:∀h',af h' 3 a=some pr:=r1
 have la:=ha.len
 have hal:=ha.1
 have r5i:∀h,af h 1 r5=some (pl.map ci):=fun h=>(h5.sl h).ints
 simp only[ef,iL]
 refine a_ n (by omega) (fun j t df g=>df=[]/\DL [u8v x.1,a,b] n q gr r5 num j t g) ⟨rfl,h0⟩ h10 (by decide) ?_ ?_ ?_ ?_
 ·rintro j t df g v s (rfl | rfl | rfl) ⟨a1,⟨b1,b2,b3,b4,b5,-⟩,c3⟩<;>exact ⟨a1,by simp[St,LDA,sx,b1,b2,b3,b4,b5],c3⟩
 ·rintro j t df g hj ⟨rfl,⟨h1,h2,h3,h4,h5,-⟩,hD⟩ h10
  simp only[sz,simprocAttr,h10,h3]
  exact ⟨by simp[St,LDA,sx,h1,h2,h3,h4,h5],hD⟩
 ·rintro j t df g hj ⟨rfl,⟨h1,h2,h3,h4,h5',-⟩,V,E,D,hD,hb⟩ h10
  obtain ⟨p,hp⟩:∃p,p=g.nx:=⟨_,rfl⟩
  have hnx:=hD.hp.nx
  refine jW (P:=fun t' df g'=>df=[]/\g'=g.new (.cells 3 [[.int .u8 0,.int .u8 0,.nils]] 0 false false)/\St t' ((10,.int .i64 (j:Int))::(11,.hptr p 0 0 0)::LDA n q r5)) ?_ ?_
  ·simp only[sz,simprocAttr]
   simp[St,LDA,sx,h1,h2,h3,h4,h5',h10,hp]
  clear h1 h2 h3 h4 h5' h10
  rintro t df g1 ⟨rfl,hg1,⟨h10,h11,h1,h2,h3,h4,h5',-⟩⟩
  have f1:Fr g g1:=by rw[hg1];exact Fr.new _ _
  have k8:g1.h.get p=.cells 3 [[.int .u8 0,.int .u8 0,.nils]] 0 false false:=by rw[hg1,hp];simp[H.get_put]
  have n1:p<g1.nx:=by rw[hg1,hp];simp
  clear hg1
  have hD1:=hD.same f1
  have e0:=hD1.h0
  refine jW (P:=fun t' df g'=>df=[]/\Fr g g'/\St t' ((10,.int .i64 (j:Int))::(11,.hptr p 0 0 0)::LDA n q r5)/\p<g'.nx/\∃(y1 y2:UInt8) (W:List UInt8) (wv:AV),SlR NoP kk .nil W wv/\g'.h.get p=.cells 3 [[u8v y1,u8v y2,wv]] 0 false false) ?_ ?_
  ·simp only[sz,simprocAttr,h10,h1,e0,la]
   refine be (fun hb=>?_) (fun hb=>?_)
   ·have hb:j<x.2.1.length:=by simpa using hb
    obtain ⟨y,hy,-,-⟩:=ae hb
    obtain ⟨row,q1,q2⟩:=r3 j y hy
    obtain ⟨wv,rfl,hwv⟩:=yQ.1 q2
    have hlt:j<pr.length:=by omega
    have hry:=r4 (by omega)
    simp only[sz,simprocAttr,h10,h1,e0,r1,hlt,q1,h11,k8]
    refine ⟨?_,by simp[St,LDA,sx,h1,h2,h3,h4,h5',h10,h11],by simpa using n1,y.1,y.2.1,y.2.2,wv,hwv,by simp[H.get_put]⟩
    exact ⟨Nat.le_trans f1.1 (by simp),fun i hi=>by simp[H.get_put,show ¬i=p by omega];exact f1.2 i hi⟩
   ·simp only[sx,sy]
    exact ⟨f1,by simp[St,LDA,sx,h1,h2,h3,h4,h5',h10,h11],n1,0,0,[],.nils,⟨by show 0<9223372036854775808;decide,rfl⟩,k8⟩
  clear h1 h2 h3 h4 h5' h10 h11 e0 hD1 k8 n1 f1
  rintro t df g2 ⟨rfl,f2,⟨h10,h11,h1,h2,h3,h4,h5',-⟩,n2,y1,y2,W,wv,hwv,k8⟩
  have hH:=hD.hp.add (g':=g2) (k:=(0,2)) (L':=LNX X2 n D) (v':=.hptr p 0 0 0) (e':=.bx [u8v y1,u8v y2,wv]) (by
   rintro (h | h)
   ·rcases h with h | ⟨i',q',h,-,-⟩<;>simp at h
   ·simp[X1] at h) ⟨p,by omega,n2,rfl,k8⟩ f2.1 (fun i _ hi=>f2.2 i hi) (fun i hi=>by injection hi with hi;omega) (fun k hk=>by
   rcases hk with h | h | h
   ·exact .inl (.inl h)
   ·exact .inl (.inr h)
   ·exact .inr h)
  have hfj:=hb.f j (Nat.le_refl _) hj
  have hvn:=hN.lt j hj
  have hvi:∀k,j<k->k<n->num k≠num j:=fun k h1 h2 e=>by
   have:=hN.inj k j h2 hj e
   omega
  have hDP:DP [u8v x.1,a,b] [u8v y1,u8v y2,wv] n q j p (num j) gr r5 num g2 (ups V (0,2) (.hptr p 0 0 0)) (ups E (0,2) (.bx [u8v y1,u8v y2,wv])) D:=by
   refine ⟨⟨hH,⟨?_,fun u hu=>?_,fun u hu=>?_,fun u r hu hr=>?_⟩,?_,?_,by rw[f2.2 0 (by omega),hD.h0],by rw[f2.2 1 (by omega),hD.h1]⟩,⟨an _ _ _,an _ _ _⟩,⟨hb.c,hb.p,hb.m,hb.o,fun k h1 h2=>hb.f k (by omega) h2⟩,hfj.2⟩
   ·rw[ac _ _ (by simp),hD.bn.ns]
    exact congrArg (En.sl 3) (List.map_congr_left fun u _=>by simp[fH,ac])
   ·rw[ac _ _ (by simp)];exact hD.bn.ps u hu
   ·rw[ac _ _ (by simp)]
    have:=hD.bn.rs u hu
    refine ⟨?_,this.2⟩
    rw[this.1]
    exact congrArg (En.sl 1) (List.map_congr_left fun r _=>by simp[Di,ac])
   ·rw[ac _ _ (by simp),ac _ _ (by simp)];exact hD.bn.rr u r hu hr
   ·rw[ac _ _ (by simp)];exact hD.vb
   ·rw[ac _ _ (by simp),ac _ _ (by simp)];exact hD.bx
  have u1:j<(pl.map ci).length:=by rw[List.length_map,hN.len];exact hj
  have u2:(pl.map ci)[j]?=some (ci (num j:Int)):=by rw[List.getElem?_map,hN.at_ j hj];rfl
  simp only[sz,simprocAttr,iK,h5',h10,r5i,u1,u2,ci]
  refine KA (n:=n) (q:=q) (i:=j) (p:=p) (v:=num j) (r5:=r5) (num:=num) hn h5 hN hj rfl ⟨by simp[St,LDB,sx,h1,h2,h3,h4,h5',h10,h11],_,_,_,hDP⟩ (by simp[sx]) ?_
  clear h1 h2 h3 h4 h5' h10 h11 hDP hH
  rintro t g3 ⟨⟨h1,h2,h3,h4,h5',h10,h11,h12,-⟩,V3,E3,D3,hP3⟩
  simp only[sz,simprocAttr,jx]
  refine KB (n:=n) (q:=q) (i:=j) (p:=p) (v:=num j) (r5:=r5) (num:=num) (P0:=D3.P (num j)) (c0:=D3.c) hd hn hvn hvi hgr hwv ⟨by simp[St,LDB,sx,h1,h2,h3,h4,h5',h10,h11,h12],V3,E3,D3,hP3.dn,hP3.pb,hP3.db,hP3.mv,rfl,rfl⟩ (by simp[sx]) ?_
  clear h1 h2 h3 h4 h5' h10 h11 h12 hP3
  rintro t g4 M ⟨⟨h1,h2,h3,h4,h5',h10,h11,h12,-⟩,V4,E4,D4,hQ4⟩
  simp only[sx,sy,↓reduceIte]
  have hd4:=hQ4.dn
  exact ⟨⟨by simp[St,LDA,h1,h2,h3,h4,h5'],V4,E4,D4,⟨hd4.hp.sub II,hd4.bn,hd4.vb,hd4.bx,hd4.h0,hd4.h1⟩,hQ4.db.c,hQ4.db.p,hQ4.db.m,hQ4.db.o,fun k hk hkn=>hQ4.db.f k hk hkn⟩,h10⟩
 ·rintro t df g ⟨rfl,h⟩
  exact fin t g h
structure Drafted (m:Net):Prop where
 l:1<=m.nodes.length/\m.nodes.length<=5
 c:∀x∈m.nodes,x.card=2\/x.card=3
 b:∀x∈m.nodes,x.parents.length<=1000/\x.rows.length<=1000/\∀r∈x.rows,r.length<=1000
def HG:VS:=fun P k h v=>∃m:Net,Drafted m/\Agg m P k h v
def V0 (W:AV)(q:Nat):Ky->AV:=fun k=>match k with
 | (0,0)=>W
 | (0,1)=>.hptr q 0 0 0
 | _=>.nils
def E0 (W:AV)(n:Nat)(gr:Int):Ky->En:=fun k=>match k with
 | (0,0)=>.sl 3 (List.replicate n [.int .i64 0,.nils,.nils])
 | (0,1)=>.bx [.int .i64 gr,W]
 | _=>.sl 1 []
def D0:ND:=⟨fun _=>0,fun _=>[],fun _=>0,fun _ _=>[],fun _=>0⟩
theorem hp0 {W:AV}{n q:Nat}{gr:Int}{g:G}(hW:Own g 2 W 3 (List.replicate n [.int .i64 0,.nils,.nils]))(hq:g.h.get q=.cells 2 [[.int .i64 gr,W]] 0 false false)(h2:2<=q/\q<g.nx)(hne:vid W≠some q):Hp g 2 (LNX X1 n D0) (V0 W q) (E0 W n gr):=by
 have hk:∀k,LNX X1 n D0 k->k=(0,0)\/k=(0,1)\/∃i s,k=(i+1,s):=fun k h=>by
  rcases h with h | h
  ·rcases h with h | ⟨i,s,h,-⟩
   ·exact .inl h
   ·exact .inr (.inr ⟨i,s,h⟩)
  ·exact .inr (.inl h)
 refine ⟨fun k h=>?_,fun k l h h' hkl id h1 h3=>?_,by omega⟩
 ·rcases hk k h with rfl | rfl | ⟨i,s,rfl⟩
  ·exact hW
  ·exact ⟨q,h2.1,h2.2,rfl,hq⟩
  ·exact .inl ⟨rfl,rfl⟩
 ·rcases hk k h with rfl | rfl | ⟨i,s,rfl⟩<;>rcases hk l h' with rfl | rfl | ⟨i',s',rfl⟩
  ·exact hkl rfl
  ·have h1:eid W=some id:=h1
   have h3:some q=some id:=h3
   rw[bP hW] at h1
   injection h3 with h3;subst h3
   exact hne h1
  ·cases h3
  ·have h3:eid W=some id:=h3
   have h1:some q=some id:=h1
   rw[bP hW] at h3
   injection h1 with h1;subst h1
   exact hne h3
  ·exact hkl rfl
  ·cases h3
  ·cases h1
  ·cases h1
  ·cases h1
theorem Jz {x:Int}{w:AV}(h:w.cells=[w])(h2:w.isTup=false):eo [.int .i64 0,.nils] [((0,1),.int .i64 x),((1,1),w)]=some [.int .i64 x,w]:=by
 have k1:(AV.int .i64 x).cells=[.int .i64 x]:=rfl
 have k2:(AV.int .i64 x).isTup=false:=rfl
 simp[eo,h,h2,gR,k1,k2]
 rfl
theorem IX {a b:AV}(ha:a.cells=[a]/\a.isTup=false)(hb:b.cells=[b]/\b.isTup=false):eo [.nils,.int .u16 0,.nils] [((0,1),a),((2,1),b)]=some [a,.int .u16 0,b]:=by
 simp[eo,ha,hb,gR]
 rfl
theorem EH {d k:Nat}{g:G}{P:Nat->Prop}{v:AV}{x:sA}(hd:0<d)(hm:Agg x P k g.h v):∃r,au C0 d N.aC [v] g=.val r/\HG NoP 0 .nil r:=by
 obtain ⟨v',e,cs,rfl,hc⟩:=jM (dI x) (by decide) d hm
 obtain ⟨a,b,rfl,ha,hb⟩:=ut.1 hc
 have ha:=ha.tree (h':=.nil) (Nat.le_refl _)
 have hb:=hb.tree (h':=.nil) (Nat.le_refl _)
 rw[pQ]
 refine bp sB (xs:=[.agg [u8v x.1,a,b]]) (by simp only[aD,e]) (by simp[ie]) (mb fun m=>dI _) (by decide) hd ?_
 simp only[sz,simprocAttr,ie]
 obtain ⟨g0,hg0⟩:∃g0,g0=(G.empty.new (.cells 3 [[u8v x.1,a,b]] 0 false false)).new (.cells 2 [[.int .i64 0,.nils]] 0 false false):=⟨_,rfl⟩
 rw[<-hg0]
 have f0:g0.h.get 0=.cells 3 [[u8v x.1,a,b]] 0 false false:=by rw[hg0];simp[sx,H.get_put]
 have f1:g0.h.get 1=.cells 2 [[.int .i64 0,.nils]] 0 false false:=by rw[hg0];simp[sx]
 have f2:g0.nx=2:=by rw[hg0];simp[sx]
 clear hg0
 have la:=ha.len
 have hal:=ha.1
 unfold jT
 obtain ⟨n,hn,hnb⟩:∃n:Nat,n=min (max x.2.1.length 1) 5/\1<=n/\n<=5:=⟨_,rfl,by omega⟩
 refine jW (P:=fun t' df g'=>df=[]/\g'=g0/\St t' [(1,.hptr 0 0 0 0),(2,.hptr 1 0 0 0),(3,.int .i64 (n:Int))]) ?_ ?_
 ·simp only[sz,simprocAttr,f0,la]
  simp[St,sx]
  omega
 rintro t df g1 ⟨rfl,rfl,h1,h2,h3,-⟩
 obtain ⟨gr,hgr,hgb⟩:∃gr:Int,gr=1+(x.1.toNat:Int) % 60/\0<=gr/\gr<=60:=⟨_,rfl,by omega,by omega⟩
 have q1:=it .u8 (a:=(x.1.toNat:Int)) (b:=60) (by omega) (by omega)
 have w1:IntKind.wrap .i64 ((x.1.toNat:Int) % 60)=(x.1.toNat:Int) % 60:=aF (by omega) (by omega)
 have w2:IntKind.wrap .i64 (1+(x.1.toNat:Int) % 60)=gr:=by rw[hgr,aF (by omega) (by omega)]
 refine jW (P:=fun t' df g'=>df=[]/\∃q V E D,St t' [(1,.hptr 0 0 0 0),(2,.hptr 1 0 0 0),(3,.int .i64 (n:Int)),(4,.hptr q 0 0 0)]/\DN X1 [u8v x.1,a,b] n q 1000 gr V E D g'/\(∀u,D.P u=[]/\D.m u=0/\D.o u=0)) ?_ ?_
 ·simp only[sz,simprocAttr,sf,h1,h3,f0,u8v,q1,w1,w2]
  refine nA (b:=2) (n:=n) (by unfold aO;omega) (by unfold aO;omega) (by first | (simp;done) | (simp;omega)) fun W g2 hW n2 f2' vW lg2=>?_
  simp only[sy] at n2 f2' vW lg2
  simp only[sz,simprocAttr,sf,Jz hW.cell.1 hW.cell.2,lg2]
  have n2':g1.nx+7=g2.nx:=by omega
  have k0:g2.h.get 0=.cells 3 [[u8v x.1,a,b]] 0 false false:=by rw[f2' 0 (by omega),f0]
  have k1:g2.h.get 1=.cells 2 [[.int .i64 0,.nils]] 0 false false:=by rw[f2' 1 (by omega),f1]
  refine ⟨?_,g2.nx+1+1,V0 W (g2.nx+1+1),E0 W n gr,D0,by simp[St,sx,h1,h2,h3],⟨hp0 ?_ ?_ ⟨by omega,by simp⟩ ?_,⟨?_,fun u _=>⟨rfl,by show 0<=1000;omega⟩,fun u _=>⟨rfl,by show 0<=1000;omega⟩,fun u r _ hr=>by cases hr⟩,rfl,rfl,?_,?_⟩,fun u=>⟨rfl,rfl,rfl⟩⟩
  ·simp only[List.reverse_cons,List.reverse_nil,List.nil_append,List.cons_append,G.new_lg,G.put_lg,setLog_lg]
   refine aJ [false,false,false,false,false,false,true,false,true,true] [(0,6),(1,6),(2,6),(3,6),(4,6),(0,8),(1,8),(2,8),(3,8),(4,8),(5,8),(6,8),(7,8)] (by simp[All2,am,aB]) (by decide) ?_
   rintro p hp' x y hx hy
   simp only[List.mem_cons,List.not_mem_nil,or_false] at hp'
   rcases hp' with rfl | rfl | rfl | rfl | rfl | rfl | rfl | rfl | rfl | rfl | rfl | rfl | rfl<;>(simp at hx hy;subst hx;subst hy;refine dX rfl rfl rfl rfl ?_ ?_ ?_<;>simp[am,aB,ak]<;>omega)
  ·refine hW.fr (by simp;omega) fun i hi=>?_
   have:=lW vW hi
   simp[H.get_put,show ¬i=g2.nx+1+1 by omega]
  ·simp[H.get_put]
  ·intro e
   have:=lW vW e
   omega
  ·show En.sl 3 (List.replicate n [.int .i64 0,.nils,.nils])=En.sl 3 ((List.range n).map fun _=>[.int .i64 0,.nils,.nils])
   congr 1
   rw[List.map_const',List.length_range]
  ·simp[H.get_put,k0];rfl
  ·simp[H.get_put,k1]
 clear h1 h2 h3
 rintro t df g2 ⟨rfl,q,V,E,D,⟨h1,h2,h3,h4,-⟩,hD,hD0⟩
 obtain ⟨num,hN⟩:=Kc x.2.2 n
 refine jW (P:=fun t' df g'=>df=[]/\Fr g2 g'/\∃r5,IT 0 (S.aA x.2.2 n) r5/\St t' (LDA n q r5)) ?_ ?_
 ·simp only[sz,simprocAttr,sf,h3]
  refine nA (b:=2) (n:=n) (by unfold aO;omega) (by unfold aO;omega) (by have:=hD.hp.nx;first | (simp;done) | (simp;omega)) fun U g3 hU n3 f3 vU lg3=>?_
  simp only[sy] at n3 f3 vU lg3
  have e0:g3.h.get 0=.cells 3 [[u8v x.1,a,b]] 0 false false:=by rw[f3 0 (by have:=hD.hp.nx;omega),hD.h0]
  simp only[sz,simprocAttr,sf,h1,e0,IX hU.cell hb.cell]
  have hU':Own g3 2 U 1 ((List.replicate n (0:UInt8)).map fun y=>[u8v y]):=by simpa [u8v] using hU
  have hpm:∀g4:G,g4.h=g3.h->∃r,au C0 (d+1) N.aw [.agg [U,.int .u16 0,b]] g4=.val r/\IT 0 (S.aA x.2.2 n) r:=fun g4 h=>by
   have:=xn (d:=d+1) (g:=g4) (k:=max k d) (P:=fun _=>True) (x:=(List.replicate n (0:UInt8),(0:UInt16),x.2.2)) (v:=.agg [U,.int .u16 0,b]) (Nat.succ_pos d) ⟨_,rfl,q8.2 ⟨U,b,rfl,?_,?_⟩⟩
   ·have e:min (List.replicate n (0:UInt8)).length 5=n:=by simp;omega
    rw[e] at this
    exact this
   ·rw[h]
    exact Own.sl (α:=UInt8) hU' (by simp;omega) (All2.of_map (fun y=>dj.2 rfl) _) fun _ _=>trivial
   ·exact (hb.tree (h':=g4.h) (Nat.le_refl _)).wd fun _ h=>h.elim
  refine bo (hpm _ (by simp)) fun r hr=>?_
  simp only[sz,simprocAttr,sf,jH]
  refine ⟨?_,⟨?_,fun i hi=>?_⟩,r,hr,?_⟩
  ·simp only[List.reverse_cons,List.reverse_nil,List.nil_append,List.cons_append]
   refine aJ [false,true,false,false,false,false,false] [(1,2),(1,3)] (by simp[All2,am,aB]) (by decide) ?_
   rintro p hp' x y hx hy
   simp only[List.mem_cons,List.not_mem_nil,or_false] at hp'
   rcases hp' with rfl | rfl<;>(simp at hx hy;subst hx;subst hy;refine dX rfl rfl rfl rfl ?_ ?_ ?_<;>simp[am,aB,ak,lg3])
  ·simp;omega
  ·simp
   exact f3 i (by omega)
  ·simp[St,LDA,sx,h1,h2,h3,h4]
 clear h1 h2 h3 h4
 rintro t df g3 ⟨rfl,f3,r5,hr5,⟨h1,h2,h3,h4,h5,-⟩⟩
 have hD3:=hD.same f3
 simp only[sz,simprocAttr]
 refine Kt (n:=n) (q:=q) (x:=x) (gr:=gr) (r5:=r5) (num:=num) hnb ha hr5 hN ⟨by simp[St,LDA,sx,h1,h2,h3,h4,h5],⟨1,by simp[sx],by decide⟩,V,E,D,hD3,fun v _=>⟨(hD0 v).1,(hD0 v).2.1⟩,fun k hk=>by omega,fun u=>(hD0 u).2.2⟩ (by simp[sx]) ?_
 clear h1 h2 h3 h4 h5 hD3
 rintro t g4 ⟨⟨h1,h2,h3,h4,h5,-⟩,-,V4,E4,D4,hD4,hok⟩
 simp only[sz,simprocAttr,iG]
 refine Ji (n:=n) (q:=q) (x:=x) (gr:=gr) (r5:=r5) (num:=num) (Nat.succ_pos d) hgb hnb ha hr5 hN ⟨by simp[St,LDA,sx,h1,h2,h3,h4,h5],V4,E4,D4,hD4,fun u hu=>?_,fun u hu=>?_,fun u hu=>?_,?_,fun k _ hk=>hok.e _ (hN.lt k hk)⟩ (by simp[sx]) ?_
 ·obtain ⟨k,hk,rfl⟩:=hN.sur u hu
  exact hok.c k hk
 ·rw[(hok.e u hu).1];simp
 ·rw[(hok.e u hu).2];omega
 ·exact hok.o
 clear h1 h2 h3 h4 h5
 rintro t g5 ⟨⟨h1,h2,h3,h4,h5,-⟩,V5,E5,D5,hD5,hb5⟩
 obtain ⟨kq,q2a,q2b⟩:=hD5.q rfl
 simp only[sz,simprocAttr,iM,h4,kq,h2,hD5.h1]
 have hnodes:=hD5.bn.nodes hD5.hp (fun k h=>.inl h) (by omega) (by omega)
 refine ⟨fun _=>True,⟨gr,(List.range n).map D5.node⟩,⟨by simpa using hnb,fun y hy=>?_,fun y hy=>?_⟩,⟨_,rfl,ck.2 ⟨_,rfl,hnodes.wd fun i hi=>⟨trivial,by simp[H.get_put,show ¬i=1 by omega]⟩⟩⟩⟩
 ·obtain ⟨u,hu,rfl⟩:=List.mem_map.1 hy
  exact hb5.c u (List.mem_range.1 hu)
 ·obtain ⟨u,hu,rfl⟩:=List.mem_map.1 hy
  have hu:=List.mem_range.1 hu
  refine ⟨(hD5.bn.ps u hu).2,?_,fun r hr=>?_⟩
  ·show ((List.range (D5.m u)).map (D5.R u)).length<=1000
   simpa using (hD5.bn.rs u hu).2
  ·obtain ⟨r',hr',rfl⟩:=List.mem_map.1 hr
   exact (hD5.bn.rr u r' hu (List.mem_range.1 hr')).1
def EvV (n:Net):VS:=fun P k h v=>∃l:List Int,S.aD n l=true/\One l P k h v
theorem Kx (n:Net):Snb (EvV n) 0:=by
 refine ⟨fun {P k h v n} d r hn=>?_,fun {k h v n} r hn=>?_⟩
 ·obtain ⟨m,hm,r⟩:=r
  obtain ⟨v',e,r'⟩:=(bi m).snap d r hn
  exact ⟨v',e,m,hm,r'⟩
 ·obtain ⟨m,hm,r⟩:=r
  exact (bi m).tag r hn
def evP (n:Net)(l:List Int):Prop:=∀(i:Nat) (x:Int) (c:Node),l[i]?=some x->n.nodes[i]?=some c->-1<=x/\x<c.card
theorem Jk {n:Net}{l:List Int}(hl:l.length=n.nodes.length)(h:evP n l):S.aD n l=true:=by
 simp only[S.aD,Bool.and_eq_true,decide_eq_true_eq,List.all_eq_true,List.mem_range]
 refine ⟨hl,fun i hi=>?_⟩
 obtain ⟨x,hx⟩:∃x,l[i]?=some x:=⟨_,List.getElem?_eq_getElem hi⟩
 obtain ⟨c,hc⟩:∃c,n.nodes[i]?=some c:=⟨_,List.getElem?_eq_getElem (by omega)⟩
 have:=h i x c hx hc
 simpa [S.aa,hx,hc] using this
theorem HZ {d k:Nat}{g:G}{P:Nat->Prop}{w:AV}{m:Net}{vs:List UInt8}(hd:0<d)(hv:vs.length=9)(hm:Agg m P k g.h w)(hn:m.nodes.length<=8)(hc:∀x∈m.nodes,0<x.card) :
  ∃r,au C0 d N.aP [.agg (vs.map u8v),w] g=.val r/\EvV m NoP 0 .nil r:=by
 obtain ⟨v',e,cs,rfl,hcs⟩:=jM (dI m) (by decide) d hm
 obtain ⟨b,rfl,hN⟩:=ck.1 hcs
 obtain ⟨rows,r1,r2,r3,r4⟩:=hN.all
 have r1:∀h',af h' 3 b=some rows:=r1
 rw[rx]
 refine bp te (xs:=[.agg (vs.map u8v),.agg [.int .i64 m.grain,b]]) (by simp only[aD,e,G5]) (by simp[iX]) (Kx m) (by decide) hd ?_
 obtain ⟨cu8,hcu⟩:∃c,c=vs.map u8v:=⟨_,rfl⟩
 have hcl:cu8.length=9:=by rw[hcu,List.length_map,hv]
 simp only[sz,simprocAttr,iX,<-hcu]
 generalize hg0:((G.empty.new (AObj.cells cu8.length [cu8] 0 false false)).new (AObj.cells 2 [[AV.int IntKind.i64 m.grain,b]] 0 false false))=g0
 have f0:g0.h.get 0=.cells 9 [cu8] 0 false false:=by rw[<-hg0,hcl];simp[sx,H.get_put]
 have f1:g0.h.get 1=.cells 2 [[.int .i64 m.grain,b]] 0 false false:=by rw[<-hg0];simp[sx]
 have f2:2<=g0.nx:=by rw[<-hg0];simp[sx]
 clear hg0
 simp only[sz,simprocAttr,kJ]
 refine a_ m.nodes.length (by omega) (fun j t df g=>df=[]/\St t [(2,.hptr 0 0 0 0),(3,.hptr 1 0 0 0)]/\g.h.get 0=.cells 9 [cu8] 0 false false/\g.h.get 1=.cells 2 [[.int .i64 m.grain,b]] 0 false false/\2<=g.nx/\∃u L,tat t 5=u/\L.length=j/\evP m L/\Own g 2 u 1 (L.map ci))
  ⟨rfl,by simp[sx,St],f0,f1,f2,_,[],rfl,rfl,fun i x c hx=>by simp at hx,.inl ⟨by simp[sx],rfl⟩⟩ (by simp[sx]) (by decide) (by rintro j t df g v s (rfl | rfl | rfl)<;>simp[sx,St]) ?_ ?_ ?_
 ·rintro j t df g hj ⟨rfl,⟨h2,h3,-⟩,e0,e1,hnx,u,L,h5,hu⟩ h6
  simp only[sz,simprocAttr,h2,h3,h6,e0,e1,hN.len,St]
  exact ⟨hnx,u,L,h5,hu⟩
 ·rintro j t df g hj ⟨rfl,⟨h2,h3,-⟩,e0,e1,hnx,u,L,h5,hLl,hLp,hu⟩ h6
  obtain ⟨x,hx,htk,hm⟩:=ae hj
  obtain ⟨row,z1,z2⟩:=r3 j x hx
  obtain ⟨fa,fb,rfl,-⟩:=bM.1 z2
  have hlt:j<rows.length:=by omega
  have hry:=r4 (by omega)
  have hj8:j<8:=by omega
  obtain ⟨y0,hy0⟩:∃y,vs[0]?=some y:=⟨_,List.getElem?_eq_getElem (by omega)⟩
  have hc0:cu8[0]?=some (.int .u8 (y0.toNat:Int)):=by rw[hcu,List.getElem?_map,hy0];rfl
  obtain ⟨y,hy⟩:∃y,vs[1+j]?=some y:=⟨_,List.getElem?_eq_getElem (by omega)⟩
  have hcy:cu8[1+j]?=some (.int .u8 (y.toNat:Int)):=by rw[hcu,List.getElem?_map,hy];rfl
  have hy8:y.toNat<256:=y.toNat_lt
  have hcx:=hc x hm
  obtain ⟨z,hz⟩:=uF y0.toNat j
  obtain ⟨z',hz'⟩:=tY z 1
  have hz':cN .and (.int .u8 (z:Int)) (.int .u8 1)=.val (.int .u8 z'):=hz'
  have w8:IntKind.wrap .i64 (y.toNat:Int)=(y.toNat:Int):=aF (by omega) (by omega)
  have w9:IntKind.wrap .u64 (j:Int)=(j:Int):=qR (by omega) (by omega)
  have key:∀(t:T) (X:Int),-1<=X->X<x.card->St t [(2,.hptr 0 0 0 0),(3,.hptr 1 0 0 0),(5,u),(6,.int .i64 (j:Int)),(7,.int .i64 X)] ->
    wp C0 (d+1) none fF (fun e t df g=>e=.norm/\(df=[]/\St t [(2,.hptr 0 0 0 0),(3,.hptr 1 0 0 0)]/\g.h.get 0=.cells 9 [cu8] 0 false false/\g.h.get 1=.cells 2 [[.int .i64 m.grain,b]] 0 false false/\2<=g.nx/\∃u L,tat t 5=u/\L.length=j+1/\evP m L/\Own g 2 u 1 (L.map ci))/\tat t 6=.int .i64 (j:Int)) t [] g:=by
   rintro t X hX1 hX2 ⟨h2,h3,h5,h6,h7,-⟩
   simp only[sz,simprocAttr,fF,h5,h7]
   refine cF (new:=[ci X]) (hu.step (Fr.new _ _)) (by simp[sx,sy,ci]) (by simp;omega) (by simp[aO,hLl];omega) fun v2 g2 hv2 n2 f2 _ l2=>?_
   simp only[sz,simprocAttr,h2,h3,h6,St]
   refine ⟨?_,?_,?_,_,L++[X],rfl,by simp[hLl],?_,?_⟩
   ·rw[f2 0 (by simp) (fun e=>by have:=(hu.lt e).1;omega),G.new_h,ap _ _ _ (by omega),e0]
   ·rw[f2 1 (by simp;omega) (fun e=>by have:=(hu.lt e).1;omega),G.new_h,ap _ _ _ (by omega),e1]
   ·simp at n2;omega
   ·intro i a c ha hc'
    by_cases e:i=j
    ·subst e
     rw[hx] at hc';injection hc' with hc';subst hc'
     rw[<-hLl,List.getElem?_concat_length] at ha
     injection ha with ha;subst ha
     exact ⟨hX1,hX2⟩
    ·have hil:i<L.length:=by
      have:=(List.getElem?_eq_some_iff.1 ha).1
      simp at this;omega
     rw[List.getElem?_append_left hil] at ha
     exact hLp i a c ha hc'
   ·simpa [ci] using hv2
  simp only[sz,simprocAttr,h2,h6,e0,hc0,w9,hz,hz']
  refine be (fun hb=>?_) (fun hb=>?_)
  ·have hm0:0<=(y.toNat:Int) % x.card:=Int.emod_nonneg _ (by omega)
   have hm1:(y.toNat:Int) % x.card<x.card:=Int.emod_lt_of_pos _ (by omega)
   simp only[sz,simprocAttr,h2,h3,h6,e0,e1,KY 8 1 _ _ _ _ _ hj8,Nat.mul_one,hcy,w8,r1,hlt,z1,hry,it .i64 (show 0<=(y.toNat:Int) by omega) hcx]
   refine bX _ (key _ ((y.toNat:Int) % x.card) (by omega) hm1 (by simp[St,sx,h2,h3,h5,h6])) ?_
   rintro e t df g ⟨rfl,h⟩
   exact h
  ·simp only[sx]
   refine bX _ (key _ (-1) (by omega) (by omega) (by simp[St,sx,h2,h3,h5,h6])) ?_
   rintro e t df g ⟨rfl,h⟩
   exact h
 ·rintro t df g ⟨rfl,⟨h2,h3,-⟩,e0,e1,hnx,u,L,h5,hLl,hLp,hu⟩
  simp only[sz,simprocAttr,jN,h5]
  exact ⟨_,L,Jk hLl hLp,hu.ints (by omega)⟩
theorem sY {α β:Type}{R:α->β->Prop}:∀{l:List α} {m:List β},l.length=m.length->(∀(i:Nat) (a:α) (b:β),l[i]?=some a->m[i]?=some b->R a b)->All2 R l m
 | [],[],_,_=>trivial
 | [],_::_,h,_=>by simp at h
 | _::_,[],h,_=>by simp at h
 | a::l,b::m,h,hr=>⟨hr 0 a b rfl rfl,sY (by simpa using h) fun i x y hx hy=>hr (i+1) x y (by simpa using hx) (by simpa using hy)⟩
def jI (V:Ky->AV)(i:Nat)(c:Int):List AV:=[.int .i64 c,V (i+1,0),V (i+1,1)]
structure NdOk (K:Nat) (V:Ky->AV) (E:Ky->En) (i:Nat) (x:Node):Prop where
 ps:E (i+1,0)=.sl 1 (x.parents.map ci)
 rs:∃rws,E (i+1,1)=.sl 1 rws/\rws.length=x.rows.length/\∀(r:Nat) (y:List Int),x.rows[r]?=some y->rws[r]?=some [V (i+1,2+r)]
 rr:∀(r:Nat) (y:List Int),x.rows[r]?=some y->E (i+1,2+r)=.sl 1 (y.map ci)
 len:x.parents.length<=K/\x.rows.length<=K/\∀y∈x.rows,y.length<=K
theorem NdOk.congr {K i:Nat}{V V':Ky->AV}{E E':Ky->En}{x:Node}(h:NdOk K V E i x)(hv:∀q,V' (i+1,q)=V (i+1,q))(he:∀q,E' (i+1,q)=E (i+1,q)):NdOk K V' E' i x:=by
 obtain ⟨rws,h1,h2,h3⟩:=h.rs
 exact ⟨by rw[he];exact h.ps,⟨rws,by rw[he];exact h1,h2,fun r y hy=>by rw[hv];exact h3 r y hy⟩,fun r y hy=>by rw[he];exact h.rr r y hy,h.len⟩
theorem NdOk.up {K K' i:Nat}{V:Ky->AV}{E:Ky->En}{x:Node}(h:NdOk K V E i x)(hk:K<=K'):NdOk K' V E i x :=
 ⟨h.ps,h.rs,h.rr,Nat.le_trans h.len.1 hk,Nat.le_trans h.len.2.1 hk,fun y hy=>Nat.le_trans (h.len.2.2 y hy) hk⟩
theorem NdOk.rows {g:G}{K i:Nat}{V:Ky->AV}{E:Ky->En}{x:Node}{L:Ky->Prop}(h:NdOk K V E i x)(hH:Hp g 3 L V E)(hL:∀q,q<2+x.rows.length->L (i+1,q))(hK:K<=2000000):SlR P3 0 g.h x.rows (V (i+1,1)):=by
 obtain ⟨rws,h1,h2,h3⟩:=h.rs
 have ho:=hH.own (hL 1 (by omega)) h1
 refine Own.sl (α:=List Int) ho (by have:=h.len;omega) (sY h2.symm fun r y row hy hr=>?_) fun j hj=>(ho.lt hj).1
 rw[h3 r y hy] at hr
 injection hr with hr;subst hr
 have hr:=(List.getElem?_eq_some_iff.1 hy).1
 exact cK.2 ⟨_,rfl,rg (hH.own (hL (2+r) (by omega)) (h.rr r y hy)) (by have:=h.len.2.2 y (List.mem_of_getElem? hy);omega) fun _ h=>h⟩
theorem NdOk.pars {g:G}{K i:Nat}{V:Ky->AV}{E:Ky->En}{x:Node}{L:Ky->Prop}(h:NdOk K V E i x)(hH:Hp g 3 L V E)(hL:L (i+1,0))(hK:K<=2000000):SlR P3 0 g.h x.parents (V (i+1,0)) :=
 rg (hH.own hL h.ps) (by have:=h.len;omega) fun _ h=>h
theorem NdOk.rd {g:G}{K i:Nat}{V:Ky->AV}{E:Ky->En}{x:Node}{L:Ky->Prop}(h:NdOk K V E i x)(hH:Hp g 3 L V E)(hL:∀q,q<2+x.rows.length->L (i+1,q))(hK:K<=2000000):Rp.rp P3 0 g.h x (jI V i x.card) :=
 bM.2 ⟨_,_,rfl,h.pars hH (hL 0 (by omega)) hK,h.rows hH hL hK⟩
def LS (L:List Node):Ky->Prop:=fun k=>k=(0,0)\/∃i q x,k=(i+1,q)/\L[i]?=some x/\q<2+x.rows.length
theorem LS.z {L:List Node}:LS L (0,0):=.inl rfl
theorem LS.s {L:List Node}{i q:Nat}{x:Node}(h:L[i]?=some x)(hq:q<2+x.rows.length):LS L (i+1,q):=.inr ⟨i,q,x,rfl,h,hq⟩
theorem LS.nb {L:List Node}:¬LS L (0,1):=by
 rintro (h | ⟨i,q,x,h,-⟩)<;>simp at h
theorem LS.lt {L:List Node}{i q:Nat}(h:LS L (i+1,q)):i<L.length:=by
 rcases h with h | ⟨i',q',x,h,hx,-⟩
 ·simp at h
 ·simp only[Prod.mk.injEq] at h
  have:=(List.getElem?_eq_some_iff.1 hx).1
  omega
structure BLs (K:Nat) (V:Ky->AV) (E:Ky->En) (L:List Node):Prop where
 ns:∃rows,E (0,0)=.sl 3 rows/\rows.length=L.length/\∀(i:Nat) (x:Node),L[i]?=some x->rows[i]?=some (jI V i x.card)
 nd:∀(i:Nat) (x:Node),L[i]?=some x->NdOk K V E i x
theorem BLs.congr {K:Nat}{V V':Ky->AV}{E E':Ky->En}{L:List Node}(h:BLs K V E L)(hv:∀i q,i<L.length->V' (i+1,q)=V (i+1,q))(he:∀i q,i<L.length->E' (i+1,q)=E (i+1,q))(h0:E' (0,0)=E (0,0)):BLs K V' E' L:=by
 obtain ⟨rows,h1,h2,h3⟩:=h.ns
 have lt:∀{i:Nat} {x:Node},L[i]?=some x->i<L.length:=fun hx=>(List.getElem?_eq_some_iff.1 hx).1
 exact ⟨⟨rows,by rw[h0];exact h1,h2,fun i x hx=>by rw[h3 i x hx,jI,jI,hv i _ (lt hx),hv i _ (lt hx)]⟩,fun i x hx=>(h.nd i x hx).congr (fun q=>hv i q (lt hx)) fun q=>he i q (lt hx)⟩
theorem AO {g:G}{W:AV}{rows:List (List AV)}(ho:Own g 3 W 3 rows)(hl:rows.length<=2000000)(h:∀(i:Nat) (row:List AV),rows[i]?=some row->∃x:Node,Rp.rp P3 0 g.h x row):∃nds:List Node,nds.length=rows.length/\SlR P3 0 g.h nds W:=by
 have key:∀(rs:List (List AV)),(∀(i:Nat) (row:List AV),rs[i]?=some row->∃x:Node,Rp.rp P3 0 g.h x row)->∃nds:List Node,nds.length=rs.length/\All2 (Rp.rp P3 0 g.h) nds rs:=by
  intro rs
  induction rs with
  | nil=>intro _;exact ⟨[],rfl,trivial⟩
  | cons r rs ih =>
   intro hh
   obtain ⟨x,hx⟩:=hh 0 r rfl
   obtain ⟨nds,hn,ha⟩:=ih fun i row hr=>hh (i+1) row (by simpa using hr)
   exact ⟨x::nds,by simp[hn],hx,ha⟩
 obtain ⟨nds,hn,ha⟩:=key rows h
 exact ⟨nds,hn,Own.sl (α:=Node) ho (by omega) ha fun i hi=>(ho.lt hi).1⟩
def BBn (g:G)(brow:List AV)(gr:Int)(b:AV):Prop:=g.h.get 0=.cells 4 [brow] 0 false false/\g.h.get 1=.cells 2 [[.int .i64 gr,b]] 0 false false/\g.h.get 2=.cells 2 [[.int .i64 0,.nils]] 0 false false
theorem BBn.fr {g g':G}{brow:List AV}{gr:Int}{b:AV}(h:BBn g brow gr b)(hf:∀i,i<3->g'.h.get i=g.h.get i):BBn g' brow gr b :=
 ⟨by rw[hf 0 (by omega),h.1],by rw[hf 1 (by omega),h.2.1],by rw[hf 2 (by omega),h.2.2]⟩
def LX (L:List Node)(x:Node):Ky->Prop:=fun k=>LS L k\/k=(0,1)\/∃q,k=(L.length+1,q)/\q<2+x.rows.length
theorem LX.b {L:List Node}{x:Node}:LX L x (0,1):=.inr (.inl rfl)
theorem LX.n {L:List Node}{x:Node}{q:Nat}(h:q<2+x.rows.length):LX L x (L.length+1,q):=.inr (.inr ⟨q,rfl,h⟩)
structure NB (K p:Nat) (L:List Node) (x:Node) (g:G) (brow:List AV) (gr:Int) (b W:AV) (V:Ky->AV) (E:Ky->En):Prop where
 hp:Hp g 3 (LX L x) V E
 bb:BBn g brow gr b
 vb:V (0,1)=.hptr p 0 0 0
 bx:E (0,1)=.bx (jI V L.length x.card)
 nd:NdOk K V E L.length x
 bl:BLs K V E L
 vw:V (0,0)=W
theorem NB.box {K p:Nat}{L:List Node}{x:Node}{g:G}{brow:List AV}{gr:Int}{b W:AV}{V:Ky->AV}{E:Ky->En}(h:NB K p L x g brow gr b W V E):g.h.get p=.cells 3 [[.int .i64 x.card,V (L.length+1,0),V (L.length+1,1)]] 0 false false/\3<=p/\p<g.nx:=by
 obtain ⟨id,h1,h2,h3,h4⟩:=h.hp.box LX.b h.bx
 rw[h.vb] at h3;injection h3 with h3;subst h3
 exact ⟨h4,h1,h2⟩
def LNB (j p:Nat)(W:AV):List (Nat×AV):=[(2,.hptr 0 0 0 0),(3,.hptr 1 0 0 0),(4,.hptr 2 0 0 0),(5,W),(6,.int .i64 (j:Int)),(7,.hptr p 0 0 0)]
theorem Kl {d K p k:Nat}{L:List Node}{c:Int}{ps:List Int}{g:G}{brow:List AV}{gr:Int}{b W fa fb:AV}{rows:List (List AV)}{V:Ky->AV}{E:Ky->En}{Q:QT}{t:T}(hK:K<=1000000)
  (r1:∀h',af h' 3 b=some rows) (z1:rows[L.length]?=some [.int .i64 c,fa,fb]) (hry:km b=true) (hfa:SlR NoP k .nil ps fa) (hl:ps.length<=K)
  (ht:St t (LNB L.length p W)) (hN:NB K p L ⟨c,[],[]⟩ g brow gr b W V E)
  (kk:∀t g V E,St t (LNB L.length p W)->NB K p L ⟨c,ps,[]⟩ g brow gr b W V E->Q .norm t [] g) :
  wp C0 d none (.feet [0,1,0,4,0,28,60,124,255,511,1023] [oF 29 1 7,oL 30 29,oF 31 1 3,oL 32 31,oM 33 6,o 34 (.ixs 3 (.t 32) (.t 33)),oF 35 1 34,oL 36 35,o 37 (.app 1 8 (.t 30) (.t 36)),oF 38 1 7,oz (.store 1 (.t 38) (.t 37))]) Q t [] g:=by
 obtain ⟨h2,h3,h4,h5,h6,h7,-⟩:=ht
 have hlt:L.length<rows.length:=(List.getElem?_eq_some_iff.1 z1).1
 obtain ⟨hgx,hp1,hp2⟩:=hN.box
 have hnx:=hN.hp.nx
 have he1:E (L.length+1,0)=.sl 1 []:=hN.nd.ps
 simp only[sz,simprocAttr,sf,h3,h6,h7,hN.bb.2.1,r1,hlt,z1,hry,hgx]
 refine (hN.hp.same (g':=_) (by simp) (by simp<;>omega)).app (k:=(L.length+1,0)) (LX.n (by omega)) he1 (new:=ps.map ci) (by simpa using (hfa.tree (h':=g.h) (Nat.le_refl _)).ints) (by simp[aO];omega) fun v1 ga hHa na fra fsa lga vca vta=>?_
 simp only[sy] at na fra fsa lga
 have kb:(0,1)≠(L.length+1,0):=by simp
 obtain ⟨p',hp1',hp2',hp3',hgx'⟩:=hHa.box (k:=(0,1)) LX.b (by rw[ac _ _ (by simp<;>omega)];exact hN.bx)
 rw[ac _ _ (by simp<;>omega),hN.vb] at hp3';injection hp3' with hp3';subst hp3'
 have hgx':ga.h.get p=.cells 3 [[.int .i64 c,V (L.length+1,0),V (L.length+1,1)]] 0 false false:=hgx'
 simp only[sz,simprocAttr,sf,h7,hgx',vca,vta]
 refine ⟨?_,?_⟩
 ·simp only[List.reverse_cons,List.reverse_nil,List.nil_append,List.cons_append]
  exact aJ [false,false,false,false,false,false,false,false,true,false,true] [] (by simp[All2,am,aB]) (by decide) (by simp)
 have hHb:=(hHa.same (g':=aG (jn (aG (jn ga []) []) []) []) (by simp) (by simp<;>omega)).putb (k:=(0,1)) LX.b (row:=jI V L.length c) (row':=[.int .i64 c,v1,V (L.length+1,1)]) (by rw[ac _ _ (by simp<;>omega)];exact hN.bx) (by rw[ac _ _ (by simp<;>omega)];exact hN.vb) rfl
 refine kk _ _ (ups V (L.length+1,0) v1) (ups (ups E (L.length+1,0) (En.sl 1 ([]++ps.map ci))) (0,1) (En.bx [.int .i64 c,v1,V (L.length+1,1)])) (by simp[St,LNB,sx,h2,h3,h4,h5,h6,h7]) ?_
 refine ⟨hHb.same (by simp[jI]) (by simp),hN.bb.fr (fun i hi=>by simp[H.get_put];rw[if_neg (by omega),fra i hi]),by rw[ac _ _ (by simp<;>omega)];exact hN.vb,?_,⟨?_,?_,fun r y hr=>by simp at hr,hl,by show 0<=K;omega,fun y hy=>by simp at hy⟩,?_,by rw[ac _ _ (by simp<;>omega)];exact hN.vw⟩
 ·rw[an,jI,an,ac V (k:=(L.length+1,0)) (j:=(L.length+1,1)) _ (by simp)]
 ·rw[ac _ _ (by simp<;>omega),an];rfl
 ·obtain ⟨rws,q1,q2,q3⟩:=hN.nd.rs
  exact ⟨rws,by rw[ac _ _ (by simp<;>omega),ac _ _ (by simp<;>omega)];exact q1,q2,fun r y hr=>by simp at hr⟩
 ·refine hN.bl.congr (fun i q hi=>?_) (fun i q hi=>?_) ?_
  ·rw[ac _ _ (by simp<;>omega)]
  ·rw[ac _ _ (by simp<;>omega),ac _ _ (by simp<;>omega)]
  ·rw[ac _ _ (by simp<;>omega),ac _ _ (by simp<;>omega)]
theorem Ke {d K p k i:Nat}{L:List Node}{c:Int}{ps y:List Int}{R:List (List Int)}{g:G}{brow:List AV}{gr:Int}{b W fa fb fy:AV}{rows rws:List (List AV)}{V:Ky->AV}{E:Ky->En}{Q:QT}{t:T}(hK:K<=1000000)
  (r1:∀h',af h' 3 b=some rows) (z1:rows[L.length]?=some [.int .i64 c,fa,fb]) (hry:km b=true) (w1:∀h',af h' 1 fb=some rws) (hryb:km fb=true) (w2:rws[i]?=some [fy]) (hfy:SlR NoP k .nil y fy) (hl:y.length<=K) (hRl:R.length=i) (hi:i<K)
  (ht:St t (LNB L.length p W)) (h8:tat t 8=.int .i64 (i:Int)) (h9:tat t 9=.nils) (hN:NB K p L ⟨c,ps,R⟩ g brow gr b W V E)
  (kk:∀t g V E,St t (LNB L.length p W)->tat t 8=.int .i64 (i:Int)->NB K p L ⟨c,ps,R++[y]⟩ g brow gr b W V E->Q .norm t [] g) :
  wp C0 d none (.feet [0,1,0,0,8,0,56,120,248,0,1016,2040,4092,8188,16383,32767,65535] [oF 50 2 7,oL 51 50,oM 52 9,oF 53 1 3,oL 54 53,oM 55 6,o 56 (.ixs 3 (.t 54) (.t 55)),oF 57 2 56,oL 58 57,oM 59 8,oX 60 58 59,oL 61 60,o 62 (.app 1 8 (.t 52) (.t 61)),o 63 (.bsl 1 1 [.nils] [0] [.t 62]),o 64 (.app 1 24 (.t 51) (.t 63)),oF 65 2 7,oz (.store 1 (.t 65) (.t 64))]) Q t [] g:=by
 obtain ⟨h2,h3,h4,h5,h6,h7,-⟩:=ht
 have hlt:L.length<rows.length:=(List.getElem?_eq_some_iff.1 z1).1
 have hlt2:i<rws.length:=(List.getElem?_eq_some_iff.1 w2).1
 obtain ⟨hgx,hp1,hp2⟩:=hN.box
 have hnx:=hN.hp.nx
 obtain ⟨rw0,e1,e2,e3⟩:=hN.nd.rs
 have e2:rw0.length=i:=by rw[e2];exact hRl
 simp only[sz,simprocAttr,sf,h3,h6,h7,h8,h9,hN.bb.2.1,r1,hlt,z1,hry,w1,hlt2,w2,hgx]
 refine lV (b:=3) (rows:=[]) (new:=y.map ci) (.inl ⟨rfl,rfl⟩) (by simpa using (hfy.tree (h':=g.h) (Nat.le_refl _)).ints) (by simp<;>omega) (by simp[aO];omega) fun v2 g2 hv2 n2 fr2 vid2 lg2=>?_
 simp only[sy] at n2 fr2 vid2 lg2
 have hnk:¬LX L ⟨c,ps,R⟩ (L.length+1,2+i):=by
  rintro (h | h | ⟨q,h,hq⟩)
  ·have:=h.lt;omega
  ·simp at h
  ·simp only[Prod.mk.injEq] at h
   simp at hq;omega
 have hH2:=hN.hp.add (k:=(L.length+1,2+i)) (L':=LX L ⟨c,ps,R++[y]⟩) (v':=v2) (e':=.sl 1 (y.map ci)) hnk hv2 (by omega) (fun j _ hj=>fr2 j (by omega) (by simp[vid])) (fun j hj=>by
   rw[bP hv2] at hj
   rcases vid2 with h | ⟨i',h,hi'⟩
   ·rw[h] at hj;cases hj
   ·rw[h] at hj;injection hj with hj;omega) (fun k hk=>by
   rcases hk with h | h | ⟨q,h,hq⟩
   ·exact .inl (.inl h)
   ·exact .inl (.inr (.inl h))
   ·simp at hq
    by_cases e:q=2+i
    ·rw[e] at h;exact .inr h
    ·exact .inl (.inr (.inr ⟨q,h,by simp;omega⟩)))
 simp only[sz,simprocAttr,sf,hv2.cell.1,hv2.cell.2]
 have v1e:ups V (L.length+1,2+i) v2 (L.length+1,1)=V (L.length+1,1):=ac _ _ (by simp<;>omega)
 rw[<-v1e]
 refine (hH2.step (g':=_) ?_ ?_).app2 (k:=(L.length+1,1)) (LX.n (by omega)) (by rw[ac _ _ (by simp<;>omega)];exact e1) (new:=[[v2]]) (by simp[sx,sy]) (by simp[aO];omega) fun v3 g3 hH3 n3 fb3 fo3 lg3 vc3 vt3=>?_
 ·simp;omega
 ·intro j _ hj
  simp[H.get_put];omega
 simp only[sx,sy] at n3 fb3 fo3 lg3
 obtain ⟨p',hp1',hp2',hp3',hgx'⟩:=hH3.box (k:=(0,1)) LX.b (by rw[ac _ _ (by simp<;>omega),ac _ _ (by simp<;>omega)];exact hN.bx)
 rw[ac _ _ (by simp<;>omega),ac _ _ (by simp<;>omega),hN.vb] at hp3';injection hp3' with hp3';subst hp3'
 have hgx':g3.h.get p=.cells 3 [[.int .i64 c,V (L.length+1,0),V (L.length+1,1)]] 0 false false:=hgx'
 simp only[sz,simprocAttr,sf,h7,hgx',vc3,vt3]
 refine ⟨?_,?_⟩
 ·simp only[List.reverse_cons,List.reverse_nil,List.nil_append,List.cons_append]
  refine aJ [false,false,false,false,false,false,false,false,false,false,false,false,true,true,true,false,true] [(0,12),(1,12),(0,13),(1,13)] (by simp[All2,am,aB]) (by decide) ?_
  have hlg:∀i∈g2.lg,i≠p:=fun i hi e=>by
   rcases lg2 i hi with h | h | h
   ·simp at h
   ·simp[vid] at h
   ·omega
  rintro q hp' x y hx hy
  simp only[List.mem_cons,List.not_mem_nil,or_false] at hp'
  rcases hp' with rfl | rfl | rfl | rfl<;>(simp at hx hy;subst hx;subst hy;refine dX rfl rfl rfl rfl ?_ ?_ ?_<;>simp[am,aB,ak]<;>first | omega | exact hlg | exact fun i hi e=>hlg i hi e.symm)
 have hHb:=(hH3.same (g':=aG (jn (aG (jn g3 []) []) []) []) (by simp) (by simp<;>omega)).putb (k:=(0,1)) LX.b (row:=jI V L.length c) (row':=[.int .i64 c,V (L.length+1,0),v3]) (by rw[ac _ _ (by simp<;>omega),ac _ _ (by simp<;>omega)];exact hN.bx) (by rw[ac _ _ (by simp<;>omega),ac _ _ (by simp<;>omega)];exact hN.vb) rfl
 refine kk _ _ _ _ (by simp[St,LNB,sx,h2,h3,h4,h5,h6,h7]) (by simp[sx,h8]) ⟨hHb.same (by simp[jI]) (by simp),hN.bb.fr (fun j hj=>?_),?_,?_,⟨?_,?_,fun r z hr=>?_,hN.nd.len.1,by simp;omega,fun z hz=>?_⟩,?_,?_⟩
 ·simp[H.get_put]
  rw[if_neg (by omega),fb3 j hj]
  try simp[H.get_put]
  rw[if_neg (by omega),fr2 j (by omega) (by simp[vid])]
 ·rw[ac _ _ (by simp<;>omega),ac _ _ (by simp<;>omega)];exact hN.vb
 ·rw[an,jI,an,ac _ _ (by simp<;>omega),ac _ _ (by simp<;>omega)]
 ·rw[ac _ _ (by simp<;>omega),ac _ _ (by simp<;>omega),ac _ _ (by simp<;>omega)];exact hN.nd.ps
 ·refine ⟨rw0++[[v2]],by rw[ac _ _ (by simp<;>omega),an],by simp[e2,hRl],fun r z hr=>?_⟩
  by_cases e:r=i
  ·subst e
   rw[ac _ _ (by simp<;>omega),an,<-e2,List.getElem?_concat_length]
  ·have hr':r<i:=by
    have:=(List.getElem?_eq_some_iff.1 hr).1
    simp at this;omega
   rw[ac _ _ (by simp<;>omega),ac _ _ (by simp<;>omega),List.getElem?_append_left (by omega)]
   have hr:(R++[y])[r]?=some z:=hr
   rw[List.getElem?_append_left (by omega)] at hr
   exact e3 r z hr
 ·rw[ac _ _ (by simp<;>omega),ac _ _ (by simp<;>omega)]
  have hr:(R++[y])[r]?=some z:=hr
  by_cases e:r=i
  ·subst e
   rw[<-hRl,List.getElem?_concat_length] at hr
   injection hr with hr;subst hr
   rw[<-hRl,an]
  ·have hr':r<i:=by
    have:=(List.getElem?_eq_some_iff.1 hr).1
    simp at this;omega
   rw[List.getElem?_append_left (by omega)] at hr
   rw[ac _ _ (by simp<;>omega)]
   exact hN.nd.rr r z hr
 ·rcases List.mem_append.1 hz with h | h
  ·exact hN.nd.len.2.2 z h
  ·rw[List.mem_singleton.1 h];exact hl
 ·refine hN.bl.congr (fun j q hj=>?_) (fun j q hj=>?_) ?_
  ·rw[ac _ _ (by simp<;>omega),ac _ _ (by simp<;>omega)]
  ·rw[ac _ _ (by simp<;>omega),ac _ _ (by simp<;>omega),ac _ _ (by simp<;>omega)]
  ·rw[ac _ _ (by simp<;>omega),ac _ _ (by simp<;>omega),ac _ _ (by simp<;>omega)]
 ·rw[ac _ _ (by simp<;>omega),ac _ _ (by simp<;>omega)];exact hN.vw
theorem Lg {d K p k:Nat}{L:List Node}{x:Node}{g:G}{brow:List AV}{gr:Int}{b W fa fb:AV}{rows:List (List AV)}{V:Ky->AV}{E:Ky->En}{Q:QT}{t:T}(hK:K<=1000000)
  (r1:∀h',af h' 3 b=some rows) (z1:rows[L.length]?=some [.int .i64 x.card,fa,fb]) (hry:km b=true) (hfb:SlR NoP k .nil x.rows fb) (hl:x.rows.length<=K) (hll:∀y∈x.rows,y.length<=K)
  (ht:St t (LNB L.length p W)) (h8:tat t 8=.int .i64 0) (hN:NB K p L ⟨x.card,x.parents,[]⟩ g brow gr b W V E)
  (fin:∀t g V E,St t (LNB L.length p W)->NB K p L x g brow gr b W V E->Q (.exit 2) t [] g):wpL (wp C0 d none gn) Q t [] g:=by
 obtain ⟨rws,w1,w2,w3,w4⟩:=hfb.all
 have w1:∀h',af h' 1 fb=some rws:=w1
 have lfb:=hfb.len
 have hlt:L.length<rows.length:=(List.getElem?_eq_some_iff.1 z1).1
 obtain ⟨FR,hFR⟩:∃FR,FR=SC.feet [0,1,0,0,8,0,56,120,248,0,1016,2040,4092,8188,16383,32767,65535] [oF 50 2 7,oL 51 50,oM 52 9,oF 53 1 3,oL 54 53,oM 55 6,o 56 (.ixs 3 (.t 54) (.t 55)),oF 57 2 56,oL 58 57,oM 59 8,oX 60 58 59,oL 61 60,o 62 (.app 1 8 (.t 52) (.t 61)),o 63 (.bsl 1 1 [.nils] [0] [.t 62]),o 64 (.app 1 24 (.t 51) (.t 63)),oF 65 2 7,oz (.store 1 (.t 65) (.t 64))]:=⟨_,rfl⟩
 simp only[gn]
 rw[<-hFR]
 refine a_ x.rows.length (by omega) (fun j t df g=>df=[]/\St t (LNB L.length p W)/\∃V E,NB K p L ⟨x.card,x.parents,x.rows.take j⟩ g brow gr b W V E)
  ⟨rfl,ht,V,E,by simpa using hN⟩ h8 (by decide) (by rintro j t df g v s (rfl | rfl | rfl)<;>simp[St,LNB,sx]) ?_ ?_ ?_
 ·rintro j t df g hj ⟨rfl,⟨h2,h3,h4,h5,h6,h7,-⟩,V,E,hN⟩ h8
  simp only[sz,simprocAttr,h3,h6,h8,hN.bb.2.1,r1,hlt,z1,hry,lfb]
  exact ⟨by simp[St,LNB,sx,h2,h3,h4,h5,h6,h7],V,E,hN⟩
 ·clear ht h8 hN
  rintro j t df g hj ⟨rfl,⟨h2,h3,h4,h5,h6,h7,-⟩,V,E,hN⟩ h8
  obtain ⟨y,hy,htk,hm⟩:=ae hj
  obtain ⟨row,q1,q2⟩:=w3 j y hy
  obtain ⟨fy,rfl,hfy⟩:=cK.1 q2
  simp only[sz,simprocAttr]
  rw[hFR]
  refine Ke (i:=j) (y:=y) (R:=x.rows.take j) hK r1 z1 hry w1 (w4 (by omega)) q1 hfy (hll y hm) (by simp<;>omega) (by omega) (by simp[St,LNB,sx,h2,h3,h4,h5,h6,h7]) (by simp[sx,h8]) (by simp[sx]) hN ?_
  clear h2 h3 h4 h5 h6 h7 h8 hN
  intro t g V E ht h8 hN
  rw[<-htk] at hN
  exact ⟨⟨rfl,ht,V,E,hN⟩,h8⟩
 ·rintro t df g ⟨rfl,ht,V,E,hN⟩
  rw[List.take_length] at hN
  exact fin t g V E ht hN
theorem LS.snoc {L:List Node}{x:Node}{k:Ky}(h:LS (L++[x]) k):LX L x k:=by
 rcases h with h | ⟨i,q,y,h,hi,hq⟩
 ·exact .inl (.inl h)
 ·by_cases e:i<L.length
  ·rw[List.getElem?_append_left e] at hi
   exact .inl (.inr ⟨i,q,y,h,hi,hq⟩)
  ·have hil:=(List.getElem?_eq_some_iff.1 hi).1
   simp at hil
   have e:i=L.length:=by omega
   subst e
   rw[List.getElem?_concat_length] at hi
   injection hi with hi;subst hi
   exact .inr (.inr ⟨q,h,hq⟩)
theorem KO {d K k:Nat}{m:Net}{g:G}{brow:List AV}{b:AV}{V:Ky->AV}{E:Ky->En}{Q:QT}{t:T}(hK:K<=1000000)(hS:SlR NoP k .nil m.nodes b)(hl:m.nodes.length<=K)
  (hb:∀x∈m.nodes,x.parents.length<=K/\x.rows.length<=K/\∀r∈x.rows,r.length<=K)
  (ht:St t [(2,.hptr 0 0 0 0),(3,.hptr 1 0 0 0),(4,.hptr 2 0 0 0)]) (h5:tat t 5=V (0,0)) (h6:tat t 6=.int .i64 0) (hH:Hp g 3 (LS []) V E) (hB:BBn g brow m.grain b) (hD:BLs K V E [])
  (fin:∀t g V E,St t [(2,.hptr 0 0 0 0),(3,.hptr 1 0 0 0),(4,.hptr 2 0 0 0)]->tat t 5=V (0,0)->Hp g 3 (LS m.nodes) V E->BBn g brow m.grain b->BLs K V E m.nodes->Q (.exit 0) t [] g):wpL (wp C0 d none gz) Q t [] g:=by
 obtain ⟨rows,r1,r2,r3,r4⟩:=hS.all
 have r1:∀h',af h' 3 b=some rows:=r1
 have lS:=hS.len
 obtain ⟨FR,hFR⟩:∃FR,FR=SC.feet [0,1,0,4,0,28,60,124,255,511,1023] [oF 29 1 7,oL 30 29,oF 31 1 3,oL 32 31,oM 33 6,o 34 (.ixs 3 (.t 32) (.t 33)),oF 35 1 34,oL 36 35,o 37 (.app 1 8 (.t 30) (.t 36)),oF 38 1 7,oz (.store 1 (.t 38) (.t 37))]:=⟨_,rfl⟩
 simp only[gz,kI]
 rw[<-hFR]
 refine a_ m.nodes.length (by omega) (fun j t df g=>df=[]/\St t [(2,.hptr 0 0 0 0),(3,.hptr 1 0 0 0),(4,.hptr 2 0 0 0)]/\∃V E,tat t 5=V (0,0)/\Hp g 3 (LS (m.nodes.take j)) V E/\BBn g brow m.grain b/\BLs K V E (m.nodes.take j))
  ⟨rfl,ht,V,E,h5,by simpa using hH,hB,by simpa using hD⟩ h6 (by decide) (by rintro j t df g v s (rfl | rfl | rfl)<;>simp[St,sx]) ?_ ?_ ?_
 ·rintro j t df g hj ⟨rfl,⟨h2,h3,h4,-⟩,V,E,h5,hH,hB,hD⟩ h6
  simp only[sz,simprocAttr,h2,h3,h4,h5,h6,hB.2.1,lS,St]
  exact ⟨V,E,rfl,hH,hB,hD⟩
 ·clear ht h5 h6 hH hB hD
  rintro j t df g hj ⟨rfl,⟨h2,h3,h4,-⟩,V,E,h5,hH,hB,hD⟩ h6
  obtain ⟨x,hx,htk,hm⟩:=ae hj
  obtain ⟨row,q1,q2⟩:=r3 j x hx
  obtain ⟨fa,fb,rfl,hfa,hfb⟩:=bM.1 q2
  have hlt:j<rows.length:=by omega
  have hry:=r4 (by omega)
  obtain ⟨l1,l2,l3⟩:=hb x hm
  have hnx:=hH.nx
  obtain ⟨p,hp⟩:∃p,p=g.nx:=⟨_,rfl⟩
  obtain ⟨L,hL⟩:∃L,L=m.nodes.take j:=⟨_,rfl⟩
  have hLl:L.length=j:=by rw[hL];simp;omega
  rw[<-hL] at hH hD htk
  obtain ⟨g1,hg1⟩:∃g1,g1=(g.new (.cells 3 [[.int .i64 0,.nils,.nils]] 0 false false)).put g.nx (.cells 3 [[.int .i64 x.card,.nils,.nils]] 0 false false):=⟨_,rfl⟩
  have n1:g.nx+1=g1.nx:=by rw[hg1];simp
  have f1:∀i,i<g.nx->g1.h.get i=g.h.get i:=fun i hi=>by rw[hg1,G.put_h,ap _ _ _ (by omega),G.new_h,ap _ _ _ (by omega)]
  have hH1:=hH.add (k:=(0,1)) (L':=fun k=>LS L k\/k=(0,1)) (g':=g1) (v':=.hptr g.nx 0 0 0) (e':=.bx [.int .i64 x.card,.nils,.nils]) LS.nb ⟨g.nx,by omega,by omega,rfl,by rw[hg1];simp[aR]⟩ (by omega) (fun i _ hi=>f1 i hi) (fun i hi=>by injection hi with hi;omega) (fun k hk=>hk)
  have hH2:=hH1.add (k:=(L.length+1,0)) (L':=fun k=>(LS L k\/k=(0,1))\/k=(L.length+1,0)) (v':=.nils) (e':=.sl 1 []) (by rintro (h | h);exact absurd h.lt (by omega);simp at h) (.inl ⟨rfl,rfl⟩) (Nat.le_refl _) (fun _ _ _=>rfl) (fun i hi=>by cases hi) (fun k hk=>hk)
  have hH3:=hH2.add (k:=(L.length+1,1)) (L':=LX L ⟨x.card,[],[]⟩) (v':=.nils) (e':=.sl 1 []) (by rintro ((h | h) | h);exact absurd h.lt (by omega);simp at h;simp at h) (.inl ⟨rfl,rfl⟩) (Nat.le_refl _) (fun _ _ _=>rfl) (fun i hi=>by cases hi) (fun k hk=>by
   rcases hk with h | h | ⟨q,h,hq⟩
   ·exact .inl (.inl (.inl h))
   ·exact .inl (.inl (.inr h))
   ·have hq:q<2:=hq
    have:q=0\/q=1:=by omega
    rcases this with e | e<;>subst e
    ·exact .inl (.inr h)
    ·exact .inr h)
  have hNB:NB K p L ⟨x.card,[],[]⟩ g1 brow m.grain b (V (0,0)) (ups (ups (ups V (0,1) (.hptr g.nx 0 0 0)) (L.length+1,0) .nils) (L.length+1,1) .nils) (ups (ups (ups E (0,1) (.bx [.int .i64 x.card,.nils,.nils])) (L.length+1,0) (.sl 1 [])) (L.length+1,1) (.sl 1 [])):=by
   refine ⟨hH3,hB.fr fun i hi=>f1 i (by omega),by simp[ac,an,hp],by simp[ac,an,jI],⟨by simp[ac,an],⟨[],by simp[an],rfl,fun r y hr=>by simp at hr⟩,fun r y hr=>by simp at hr,by show 0<=K;omega,by show 0<=K;omega,fun y hy=>by simp at hy⟩,hD.congr (fun i q hi=>?_) (fun i q hi=>?_) (by simp[ac]),by simp[ac]⟩
   ·rw[ac _ _ (by simp<;>omega),ac _ _ (by simp<;>omega),ac _ _ (by simp<;>omega)]
   ·rw[ac _ _ (by simp<;>omega),ac _ _ (by simp<;>omega),ac _ _ (by simp<;>omega)]
  clear hH1 hH2 hH3
  have z1:rows[L.length]?=some [.int .i64 x.card,fa,fb]:=by rw[hLl];exact q1
  refine jg (P:=fun t df g'=>df=[]/\g'=g1/\St t (LNB L.length p (V (0,0)))) ?_ ?_
  ·simp only[sz,simprocAttr,h3,h6,hB.2.1,r1,hlt,q1,hry]
   refine ⟨by rw[hg1],?_⟩
   simp[St,LNB,sx,h2,h3,h4,h5,h6,hp,hLl]
  rintro t df g2 ⟨rfl,rfl,ht⟩
  rw[ei,hFR]
  refine Kl hK r1 z1 hry hfa l1 ht hNB ?_
  clear hNB ht
  rintro t g V1 E1 ⟨h2,h3,h4,h5,h6,h7,-⟩ hNB
  rw[qT]
  simp only[sz,simprocAttr]
  refine Lg (x:=x) hK r1 z1 hry hfb l2 l3 (by simp[St,LNB,sx,h2,h3,h4,h5,h6,h7]) (by simp[sx]) hNB ?_
  clear hNB h2 h3 h4 h5 h6 h7
  rintro t g V1 E1 ⟨h2,h3,h4,h5,h6,h7,-⟩ hNB
  obtain ⟨hgx,hp1,hp2⟩:=hNB.box
  obtain ⟨rw0,e1,e2,e3⟩:=hNB.bl.ns
  simp only[sz,simprocAttr,lD,h5,h7,hgx]
  rw[<-hNB.vw]
  have hnx2:=hNB.hp.nx
  refine (hNB.hp.step (g':=g.new (.cells 3 [[.int .i64 x.card,V1 (L.length+1,0),V1 (L.length+1,1)]] 0 false false)) (by simp) (fun i _ hi=>by rw[G.new_h,ap _ _ _ (by omega)])).app (k:=(0,0)) (.inl LS.z) e1
   (new:=[[.int .i64 x.card,V1 (L.length+1,0),V1 (L.length+1,1)]]) (by simp[sx,sy]) (by simp[aO];omega) fun v3 g3 hH4 n3 fr3 _ lg3 vc3 vt3=>?_
  simp only[sx,sy] at n3 fr3
  simp only[sz,simprocAttr,h2,h3,h4,h6,St]
  rw[hLl]
  refine ⟨⟨ups V1 (0,0) v3,ups E1 (0,0) (.sl 3 (rw0++[[.int .i64 x.card,V1 (L.length+1,0),V1 (L.length+1,1)]])),(an _ _ _).symm,?_,hNB.bb.fr (fun i hi=>by rw[fr3 i hi,if_neg (by omega)]),?_⟩,rfl⟩
  ·rw[htk]
   exact hH4.sub fun k hk=>LS.snoc hk
  ·rw[htk]
   have hbl:=hNB.bl.congr (V':=ups V1 (0,0) v3) (E':=ups E1 (0,0) (.sl 3 rw0)) (fun i q hi=>ac _ _ (by simp<;>omega)) (fun i q hi=>ac _ _ (by simp<;>omega)) (by rw[an,e1])
   have hnd:=hNB.nd.congr (V':=ups V1 (0,0) v3) (E':=ups E1 (0,0) (.sl 3 (rw0++[[.int .i64 x.card,V1 (L.length+1,0),V1 (L.length+1,1)]]))) (fun q=>ac _ _ (by simp<;>omega)) (fun q=>ac _ _ (by simp<;>omega))
   refine ⟨⟨_,an _ _ _,by simp[e2],fun i y hy=>?_⟩,fun i y hy=>?_⟩
   ·by_cases e:i<L.length
    ·rw[List.getElem?_append_left e] at hy
     rw[List.getElem?_append_left (by omega),e3 i y hy,jI,jI,ac _ _ (by simp<;>omega),ac _ _ (by simp<;>omega)]
    ·have hil:=(List.getElem?_eq_some_iff.1 hy).1
     simp at hil
     have e:i=L.length:=by omega
     subst e
     rw[List.getElem?_concat_length] at hy
     injection hy with hy;subst hy
     rw[<-e2,List.getElem?_concat_length,e2,jI,ac _ _ (by simp<;>omega),ac _ _ (by simp<;>omega)]
   ·by_cases e:i<L.length
    ·rw[List.getElem?_append_left e] at hy
     exact (hbl.nd i y hy).congr (fun q=>rfl) (fun q=>by rw[ac _ _ (by simp<;>omega),ac _ _ (by simp<;>omega)])
    ·have hil:=(List.getElem?_eq_some_iff.1 hy).1
     simp at hil
     have e:i=L.length:=by omega
     subst e
     rw[List.getElem?_concat_length] at hy
     injection hy with hy;subst hy
     exact hnd
 ·rintro t df g ⟨rfl,ht,V,E,h5,hH,hB,hD⟩
  rw[List.take_length] at hH hD
  exact fin t g V E ht h5 hH hB hD
theorem bk {sz:Nat}{v:AV}{i off:Nat}(h:km v=true):AS (iQ sz v i off)=.val (iQ sz v i off):=by
 cases v<;>first | rfl | cases h
theorem SlR.far {α:Type} [Rp α]{P:Nat->Prop}{k:Nat}{h h':H}{l:List α}{v:AV}(r:SlR P k h l v)(hf:∀i,P i->h'.get i=h.get i):SlR P k h' l v:=by
 obtain ⟨w,hw,q⟩:=Rp.mono (P':=P) (h':=h') (show Rp.rp P k h l [v] from ⟨v,rfl,r⟩) (fun i hi=>⟨hi,hf i hi⟩) (Nat.le_refl _)
 injection hw with hw;subst hw;exact q
theorem SlR.heap {α:Type} [Rp α]{P:Nat->Prop}{k:Nat}{h h':H}{l:List α}{v:AV}(r:SlR P k h l v)(hf:h'=h):SlR P k h' l v:=by subst hf;exact r
theorem Own.refs_lt {g:G}{b sz:Nat}{v:AV}{rows:List (List AV)}(h:Own g b v sz rows):∀i∈ak v,b<=i/\i<g.nx:=by
 rcases h with ⟨rfl,-⟩ | ⟨id,ep,lo,h1,h2,rfl,-⟩
 ·intro i hi;simp[ak] at hi
 ·intro i hi;simp[ak] at hi;omega
theorem Ag {α:Type} [Rp α]{g:G}{b:Nat}{u:AV}{rows:List (List AV)}(hu:Own g b u (Rp.sz α) rows)(hne:rows≠[]){n:Nat}(hn:n<=rows.length) :
  ∃y,nL (Rp.sz α) u none (some (.int .i64 (n:Int))) g=.val y/\(y.cells=[y]/\y.isTup=false)/\∀(P:Nat->Prop) (k:Nat) (l:List α) (h':H),(∀i,vid u=some i->h'.get i=g.h.get i)->SlR P k h' l u->SlR P k h' (l.take n) y:=by
 rcases hu with ⟨rfl,rfl⟩ | ⟨id,ep,lo,h1,h2,rfl,h3⟩
 ·exact absurd rfl hne
 ·simp only[nL,jF,h3,Nat.beq_refl,Bool.true_and,ax,Nat.zero_add,aa,Nat.ble_eq,Nat.le_refl,if_true,aW,Option.getD_none,Nat.sub_zero]
  simp only[bN]
  rw[show aq (n.ble rows.length) (some n) none=some n from by rw[aa,if_pos (by simpa using hn)]]
  dsimp only
  have hb:rows.length.beq 0=false:=by cases rows with | nil=>exact absurd rfl hne | cons a l=>rfl
  rw[hb]
  refine ⟨_,rfl,⟨rfl,rfl⟩,fun P k l h' hh h=>?_⟩
  have h3':=hh id rfl
  rw[h3] at h3'
  obtain ⟨hl,hp,rr,q1,q2⟩:=h
  rw[eN,h3',uP] at q1
  injection q1 with q1;subst q1
  refine ⟨by rw[List.length_take];omega,hp,rows.take n,?_,q2.take n⟩
  rw[eN,h3',dg,if_pos (by omega),List.drop_zero]
structure Oth (K:Nat) (L:List Node) (J:Nat) (V:Ky->AV) (E:Ky->En) (rows:List (List AV)):Prop where
 len:rows.length=L.length
 ns:∀(i:Nat) (y:Node),i≠J->L[i]?=some y->rows[i]?=some (jI V i y.card)
 nd:∀(i:Nat) (y:Node),i≠J->L[i]?=some y->NdOk K V E i y
theorem Oth.of {K J:Nat}{L:List Node}{V:Ky->AV}{E:Ky->En}{rows:List (List AV)}(h1:rows.length=L.length)(h2:∀(i:Nat) (x:Node),L[i]?=some x->rows[i]?=some (jI V i x.card))(h:BLs K V E L):Oth K L J V E rows :=
 ⟨h1,fun i y _ hy=>h2 i y hy,fun i y _ hy=>h.nd i y hy⟩
theorem Oth.v {K J q:Nat}{L:List Node}{V:Ky->AV}{E:Ky->En}{rows:List (List AV)}{v:AV}(h:Oth K L J V E rows):Oth K L J (ups V (J+1,q) v) E rows :=
 ⟨h.len,fun i y hi hy=>by rw[h.ns i y hi hy,jI,jI,ac _ _ (by simp<;>omega),ac _ _ (by simp<;>omega)],fun i y hi hy=>(h.nd i y hi hy).congr (fun s=>ac _ _ (by simp<;>omega)) fun _=>rfl⟩
theorem Oth.e {K J q:Nat}{L:List Node}{V:Ky->AV}{E:Ky->En}{rows:List (List AV)}{v:En}(h:Oth K L J V E rows):Oth K L J V (ups E (J+1,q) v) rows :=
 ⟨h.len,h.ns,fun i y hi hy=>(h.nd i y hi hy).congr (fun _=>rfl) fun s=>ac _ _ (by simp<;>omega)⟩
theorem Oth.z {K J:Nat}{L:List Node}{V:Ky->AV}{E:Ky->En}{rows:List (List AV)}{v:En}(h:Oth K L J V E rows):Oth K L J V (ups E (0,0) v) rows :=
 ⟨h.len,h.ns,fun i y hi hy=>(h.nd i y hi hy).congr (fun _=>rfl) fun s=>ac _ _ (by simp<;>omega)⟩
theorem si {K J:Nat}{L:List Node}{V:Ky->AV}{E:Ky->En}{rows:List (List AV)}{row':List AV}{x':Node}{g:G}{M:Ky->Prop}{W:AV}(hH:Hp g 3 M V E)(hM:∀k,LS L k->M k)(hO:Oth K L J V E rows)(e0:E (0,0)=.sl 3 (rows.set J row'))
  (hw:V (0,0)=W) (hr:Rp.rp P3 0 g.h x' row') (hK:K<=1000001) (hl:L.length<=1000001):∃nds:List Node,SlR P3 0 g.h nds W:=by
 have ho:=hH.own (hM _ LS.z) e0
 rw[hw] at ho
 obtain ⟨nds,-,h⟩:=AO ho (by simp[hO.len];omega) fun i row hi=>by
  rw[List.getElem?_set] at hi
  by_cases e:J=i
  ·rw[if_pos e] at hi
   split at hi
   ·injection hi with hi;subst hi;exact ⟨x',hr⟩
   ·cases hi
  ·rw[if_neg e] at hi
   have hil:=(List.getElem?_eq_some_iff.1 hi).1
   obtain ⟨y,hy⟩:∃y,L[i]?=some y:=⟨_,List.getElem?_eq_getElem (by rw[<-hO.len];exact hil)⟩
   rw[hO.ns i y (Ne.symm e) hy] at hi
   injection hi with hi;subst hi
   exact ⟨y,(hO.nd i y (Ne.symm e) hy).rd hH (fun q hq=>hM _ (LS.s hy hq)) (by omega)⟩
 exact ⟨nds,h⟩
theorem BLs.sl {K:Nat}{L:List Node}{V:Ky->AV}{E:Ky->En}{g:G}(h:BLs K V E L)(hH:Hp g 3 (LS L) V E)(hK:K<=1000001)(hl:L.length<=1000001):SlR P3 0 g.h L (V (0,0)):=by
 obtain ⟨rows,h1,h2,h3⟩:=h.ns
 have ho:=hH.own LS.z h1
 refine Own.sl (α:=Node) ho (by omega) (sY h2.symm fun i y row hy hr=>?_) fun i hi=>(ho.lt hi).1
 rw[h3 i y hy] at hr
 injection hr with hr;subst hr
 exact (h.nd i y hy).rd hH (fun q hq=>LS.s hy hq) (by omega)
structure BS (K J:Nat) (L:List Node) (x:Node) (bx:jU) (gr Rw:Int) (t:T) (g:G) (V:Ky->AV) (E:Ky->En):Prop where
 st:St t [(2,.hptr 0 0 0 0),(3,.hptr 1 0 0 0),(4,.hptr 2 0 0 0),(10,iQ 3 (V (0,0)) J 0),(11,.int .i64 Rw)]
 hp:Hp g 3 (LS L) V E
 f0:g.h.get 0=.cells 4 [[u8v bx.1,u8v bx.2.1,u8v bx.2.2.1,.int .i64 bx.2.2.2]] 0 false false
 f1:g.h.get 1=.cells 2 [[.int .i64 gr,V (0,0)]] 0 false false
 f2:g.h.get 2=.cells 2 [[.int .i64 0,.nils]] 0 false false
 bl:BLs K V E L
 hx:L[J]?=some x
 hR:(Rw = -1/\x.rows.length=0)\/∃r:Nat,Rw=(r:Int)/\r<x.rows.length
 hK:K<=1000000
 hl:L.length<=K
def td (Q:QT):Prop:=∀t g gr nv nds,tat t 3=.hptr 1 0 0 0->tat t 4=.hptr 2 0 0 0->g.h.get 1=.cells 2 [[.int .i64 gr,nv]] 0 false false->g.h.get 2=.cells 2 [[.int .i64 0,.nils]] 0 false false->SlR (α:=Node) P3 0 g.h nds nv->Q .norm t [] g
structure BT (K J:Nat) (L:List Node) (x:Node) (g:G) (V:Ky->AV) (E:Ky->En) (rows:List (List AV)):Prop where
 own:Own g 3 (V (0,0)) 3 rows
 e0:E (0,0)=.sl 3 rows
 ry:km (V (0,0))=true
 hlt:J<rows.length
 row:rows[J]?=some [.int .i64 x.card,V (J+1,0),V (J+1,1)]
 oth:Oth K L J V E rows
 nd:NdOk K V E J x
theorem BS.bt {K J:Nat}{L:List Node}{x:Node}{bx:jU}{gr Rw:Int}{t:T}{g:G}{V:Ky->AV}{E:Ky->En}(h:BS K J L x bx gr Rw t g V E):∃rows,BT K J L x g V E rows:=by
 obtain ⟨rows,h1,h2,h3⟩:=h.bl.ns
 have hJ:=(List.getElem?_eq_some_iff.1 h.hx).1
 have ho:=h.hp.own LS.z h1
 exact ⟨rows,ho,h1,eL ho (by omega),by omega,h3 J x h.hx,Oth.of h2 h3 h.bl,h.bl.nd J x h.hx⟩
theorem BS.sl {K J:Nat}{L:List Node}{x:Node}{bx:jU}{gr Rw:Int}{t:T}{g:G}{V:Ky->AV}{E:Ky->En}(h:BS K J L x bx gr Rw t g V E):SlR P3 0 g.h L (V (0,0)):=h.bl.sl h.hp (by have:=h.hK;omega) (by have:=h.hK;have:=h.hl;omega)
theorem KH {i:Nat}(h:P3 i):¬i=1/\¬i=2:=by have:3<=i:=h;omega
section
variable {d K J:Nat}{L:List Node}{x:Node}{bx:jU}{gr Rw:Int}{t:T}{g:G}{V:Ky->AV}{E:Ky->En}{Q:QT}
theorem bc0 (hS:BS K J L x bx gr Rw t g V E)(fin:td Q) :
  wp C0 d none (.ops [oF 112 3 2,oL 113 112,oF 114 0 3,oz (.store 1 (.t 114) (.t 113))]) Q t [] g:=by
 obtain ⟨h2,h3,h4,h10,h11,-⟩:=hS.st
 simp only[sz,simprocAttr,h2,h3,hS.f0,hS.f1]
 exact fin _ _ bx.2.2.2 _ _ (by simp[sx,h3]) (by simp[sx,h4]) (by simp[H.get_put]) (by simp[H.get_put,hS.f2]) (hS.sl.far fun i hi=>by simp[H.get_put,KH hi])
theorem bc1 (hS:BS K J L x bx gr Rw t g V E)(fin:td Q) :
  wp C0 d none (.ops [oM 117 10,oF 118 3 2,oL 119 118,o 120 (.nilc (.t 117)),oF 121 0 120,oz (.store 1 (.t 121) (.t 119))]) Q t [] g:=by
 obtain ⟨h2,h3,h4,h10,h11,-⟩:=hS.st
 obtain ⟨rows,hB⟩:=hS.bt
 have hK:=hS.hK
 have hl:=hS.hl
 simp only[sz,simprocAttr,h2,h10,hS.f0,bk hB.ry,bz hB.ry]
 refine hS.hp.put LS.z (row':=[.int .i64 bx.2.2.2,V (J+1,0),V (J+1,1)]) hB.e0 hB.row rfl rfl rfl fun gb hHb nb frb _=>?_
 simp only[sx]
 have hnd:NdOk K V (ups E (0,0) (.sl 3 (rows.set J [.int .i64 bx.2.2.2,V (J+1,0),V (J+1,1)]))) J ⟨bx.2.2.2,x.parents,x.rows⟩:=by
  have:=hB.nd.congr (V':=V) (E':=ups E (0,0) (.sl 3 (rows.set J [.int .i64 bx.2.2.2,V (J+1,0),V (J+1,1)]))) (fun _=>rfl) (fun q=>ac _ _ (by simp<;>omega))
  exact ⟨this.ps,this.rs,this.rr,this.len⟩
 obtain ⟨nds,hn⟩:=si hHb (fun k hk=>hk) hB.oth.z (an _ _ _) rfl (hnd.rd hHb (fun q hq=>LS.s hS.hx hq) (by omega)) (by omega) (by omega)
 exact fin _ _ gr _ nds (by simp[sx,h3]) (by simp[sx,h4]) (by rw[frb 1 (by omega),hS.f1]) (by rw[frb 2 (by omega),hS.f2]) hn
theorem bc2 (hS:BS K J L x bx gr Rw t g V E)(fin:td Q) :
  wp C0 d none (.feet [0,0,2,6,14,0,32,96,254,511,1023,2047] [oM 124 10,oM 125 10,o 126 (.nilc (.t 125)),oF 127 1 126,oL 128 127,oF 129 3 2,oL 130 129,o 131 (.bsl 1 1 [.int .i64 0] [0] [.t 130]),o 132 (.app 1 8 (.t 128) (.t 131)),o 133 (.nilc (.t 124)),oF 134 1 133,oz (.store 1 (.t 134) (.t 132))]) Q t [] g:=by
 obtain ⟨h2,h3,h4,h10,h11,-⟩:=hS.st
 obtain ⟨rows,hB⟩:=hS.bt
 have hK:=hS.hK
 have hl:=hS.hl
 have hnx:=hS.hp.nx
 have hps:=hB.nd.ps
 have hlen:=hB.nd.len
 simp only[sz,simprocAttr,sf,h2,h10,hS.f0,bk hB.ry,bz hB.ry,hB.own.rows,hB.hlt,hB.row]
 refine (hS.hp.step (g':=_) (by simp<;>omega) (fun i hi hi2=>?_)).app2 (k:=(J+1,0)) (LS.s hS.hx (by omega)) hps (new:=[[.int .i64 bx.2.2.2]]) (by simp[sx,sy]) (by simp[aO];omega) fun v1 ga hHa na fra foa lga vca vta=>?_
 ·simp[H.get_put];omega
 simp only[sx,sy] at na fra foa lga
 have e00:ups V (J+1,0) v1 (0,0)=V (0,0):=ac _ _ (by simp<;>omega)
 simp only[sz,simprocAttr,sf,bk hB.ry,bz hB.ry]
 refine (hHa.same (g':=_) (by simp) (by simp<;>omega)).putv (k:=(0,0)) LS.z e00 (row':=[.int .i64 x.card,v1,V (J+1,1)]) (by rw[ac _ _ (by simp<;>omega)];exact hB.e0) hB.row (by rw[vca];rfl) vta (by rw[vca];rfl) fun gb hHb nb frb _=>?_
 simp only[sy] at nb frb ⊢
 refine ⟨?_,?_⟩
 ·simp only[List.reverse_cons,List.reverse_nil,List.nil_append,List.cons_append]
  refine aJ [false,false,false,false,false,false,false,true,true,false,false,true] [(0,7),(1,7),(2,7),(3,7),(4,7),(0,8)] (by simp[All2,am,aB]) (by decide) ?_
  rintro p hp x y hx hy
  simp only[List.mem_cons,List.not_mem_nil,or_false] at hp
  have ro1:=hB.own.refs_lt
  rcases hp with rfl | rfl | rfl | rfl | rfl | rfl<;>(simp at hx hy;subst hx;subst hy;refine dX rfl rfl rfl rfl ?_ ?_ ?_<;>simp[am,aB,jl hB.ry]<;>first | omega | (intro i' hi';have:=ro1 i' hi';omega) | (intro i' hi';rcases lga i' hi' with h | h<;>first | omega | simp at h) | skip)
 have hnd:NdOk (K+1) (ups V (J+1,0) v1) (ups (ups E (J+1,0) (.sl 1 (x.parents.map ci++[[.int .i64 bx.2.2.2]]))) (0,0) (.sl 3 (rows.set J [.int .i64 x.card,v1,V (J+1,1)]))) J ⟨x.card,x.parents++[bx.2.2.2],x.rows⟩:=by
  obtain ⟨rws,q1,q2,q3⟩:=hB.nd.rs
  exact ⟨by rw[ac _ _ (by simp<;>omega),an];simp[ci],⟨rws,by rw[ac _ _ (by simp<;>omega),ac _ _ (by simp<;>omega)];exact q1,q2,fun r y hy=>by rw[ac _ _ (by simp<;>omega)];exact q3 r y hy⟩,
   fun r y hy=>by rw[ac _ _ (by simp<;>omega),ac _ _ (by simp<;>omega)];exact hB.nd.rr r y hy,by simp;omega,by show x.rows.length<=K+1;omega,fun y hy=>by have:=hlen.2.2 y hy;omega⟩
 have hrd:=hnd.rd hHb (fun q hq=>LS.s hS.hx hq) (by omega)
 rw[jI,an,ac _ _ (by simp<;>omega)] at hrd
 obtain ⟨nds,hn⟩:=si hHb (fun k hk=>hk) hB.oth.v.e.z (an _ _ _) e00 hrd (by omega) (by omega)
 have g1e:gb.h.get 1=.cells 2 [[.int .i64 gr,V (0,0)]] 0 false false:=by rw[frb 1 (by omega)];(try simp);rw[fra 1 (by omega),if_neg (by omega),hS.f1]
 have g2e:gb.h.get 2=.cells 2 [[.int .i64 0,.nils]] 0 false false:=by rw[frb 2 (by omega)];(try simp);rw[fra 2 (by omega),if_neg (by omega),hS.f2]
 exact fin _ _ gr _ nds (by simp[sx,h3]) (by simp[sx,h4]) (by simpa using g1e) (by simpa using g2e) (hn.heap (by simp))
theorem bc3 (hS:BS K J L x bx gr Rw t g V E)(fin:td Q) :
  wp C0 d none (.ops [oM 137 10,o 138 (.nilc (.t 137)),oF 139 1 138,oz (.store 1 (.t 139) (.k (.nils)))]) Q t [] g:=by
 obtain ⟨h2,h3,h4,h10,h11,-⟩:=hS.st
 obtain ⟨rows,hB⟩:=hS.bt
 have hK:=hS.hK
 have hl:=hS.hl
 simp only[sz,simprocAttr,h10,bk hB.ry,bz hB.ry]
 refine hS.hp.put LS.z (row':=[.int .i64 x.card,.nils,V (J+1,1)]) hB.e0 hB.row rfl rfl rfl fun gb hHb nb frb _=>?_
 simp only[sx]
 have hnd:=hB.nd.congr (V':=V) (E':=ups E (0,0) (.sl 3 (rows.set J [.int .i64 x.card,.nils,V (J+1,1)]))) (fun _=>rfl) (fun q=>ac _ _ (by simp<;>omega))
 have hrd:Rp.rp P3 0 gb.h (⟨x.card,[],x.rows⟩:Node) [.int .i64 x.card,.nils,V (J+1,1)]:=bM.2 ⟨_,_,rfl,⟨by show 0<9223372036854775808;decide,rfl⟩,hnd.rows hHb (fun q hq=>LS.s hS.hx hq) (by omega)⟩
 obtain ⟨nds,hn⟩:=si hHb (fun k hk=>hk) hB.oth.z (an _ _ _) rfl hrd (by omega) (by omega)
 exact fin _ _ gr _ nds (by simp[sx,h3]) (by simp[sx,h4]) (by rw[frb 1 (by omega),hS.f1]) (by rw[frb 2 (by omega),hS.f2]) hn
end
end
end Hx
end
section
namespace Hx
open Go
noncomputable section
abbrev Sch:=Net×List Int×List Int×List Int×Int
theorem Hz {P:Nat->Prop}{k:Nat}{h:H}{n:Net}{v o w:List Int}{m:Int}{cs:List AV}:Rp.rp P k h ((n,v,o,w,m):Sch) cs↔∃a b c d,cs=[.int .i64 n.grain,a,b,c,d,.int .i64 m]/\SlR P k h n.nodes a/\SlR P k h v b/\SlR P k h o c/\SlR P k h w d:=by
 constructor
 ·rintro ⟨c1,c2,rfl,h1,c3,c4,rfl,h2,c5,c6,rfl,h3,c7,c8,rfl,h4,h5⟩
  obtain ⟨a,rfl,ha⟩:=ck.1 h1
  obtain ⟨b,rfl,hb⟩:=cK.1 h2
  obtain ⟨c,rfl,hc⟩:=cK.1 h3
  obtain ⟨d,rfl,hd⟩:=cK.1 h4
  rw[aU.1 h5]
  exact ⟨a,b,c,d,rfl,ha,hb,hc,hd⟩
 ·rintro ⟨a,b,c,d,rfl,ha,hb,hc,hd⟩
  exact ⟨[.int .i64 n.grain,a],[b,c,d,.int .i64 m],rfl,ck.2 ⟨a,rfl,ha⟩,[b],[c,d,.int .i64 m],rfl,cK.2 ⟨b,rfl,hb⟩,[c],[d,.int .i64 m],rfl,cK.2 ⟨c,rfl,hc⟩,[d],[.int .i64 m],rfl,cK.2 ⟨d,rfl,hd⟩,aU.2 rfl⟩
def S.aZ (vars:List Int)(j:Nat):List Int:=((List.range j).map fun v:Nat=>(v:Int)).filter fun v=>!decide (v∈vars)
def S.am (n:Net)(vars:List Int):List Int:=S.aZ vars n.nodes.length
theorem qS (vars:List Int)(j:Nat):S.aZ vars (j+1)=S.aZ vars j++if (j:Int)∈vars then [] else [(j:Int)]:=by
 unfold S.aZ
 rw[List.range_succ,List.map_append,List.filter_append]
 congr 1
 by_cases h:(j:Int)∈vars<;>simp[h]
theorem qE (vars:List Int)(j:Nat):(S.aZ vars j).length<=j:=by
 unfold S.aZ
 exact Nat.le_trans (List.length_filter_le _ _) (by simp)
def S.bk (n:Net)(e:List Int)(j w:Nat):Int:=if w<j/\S.pe n e w=false then 0 else S.wt n w
def S.aC (n:Net)(e:List Int)(j:Nat):List Int:=(List.range (S.ah n)).map (S.bk n e j)
def S.aW (n:Net)(e:List Int):List Int:=S.aC n e (S.ah n)
theorem Gf (n:Net)(e:List Int):S.aC n e 0=S.ax n (S.ah n):=by
 unfold S.aC S.ax
 exact List.map_congr_left fun w _=>by simp[S.bk]
theorem oh (n:Net)(e:List Int)(j:Nat):(S.aC n e j).length=S.ah n:=by simp[S.aC]
theorem IY (n:Net)(e:List Int)(j:Nat)(h:j<S.ah n):(S.aC n e j)[j]?=some (S.wt n j):=by
 simp[S.aC,S.bk,h]
theorem B3 {n:Net}{e:List Int}{j:Nat}(h:j<S.ah n):S.aC n e (j+1)=if S.pe n e j then S.aC n e j else (S.aC n e j).set j 0:=by
 apply List.ext_getElem?
 intro i
 by_cases hi:i<S.ah n
 ·by_cases c:S.pe n e j=true
  ·rw[if_pos c]
   simp only[S.aC,List.getElem?_map,List.getElem?_range hi,Option.map_some,S.bk]
   congr 1
   by_cases e1:i=j
   ·subst e1;simp[c]
   ·have:(i<j+1)↔(i<j):=by omega
    simp[this]
  ·rw[if_neg c,List.getElem?_set]
   by_cases e1:j=i
   ·subst e1
    rw[if_pos rfl,if_pos (by rw[oh];exact hi)]
    simp[S.aC,S.bk,hi,c]
   ·rw[if_neg e1]
    simp only[S.aC,List.getElem?_map,List.getElem?_range hi,Option.map_some,S.bk]
    congr 1
    have:(i<j+1)↔(i<j):=by omega
    simp[this]
 ·have a:∀k,(S.aC n e k)[i]?=none:=fun k=>List.getElem?_eq_none (by rw[oh];omega)
  rw[a]
  split
  ·rw[a]
  ·rw[List.getElem?_eq_none];rw[List.length_set,oh];omega
def S.bZ (n:Net)(e vars:List Int):Sch:=(n,vars,S.am n vars,S.aW n e,S.bJ n e)
def S.aF (n:Net)(e vars:List Int):Int:=if S.aK n e=0 then (if S.aq vars (n.nodes.length:Int) then 0 else 2) else S.aK n e
def KR:VS:=fun _ _ _ v=>v=.nilp
theorem GV:Snb KR 0:=⟨fun {P k h v n} d r hn=>⟨.nilp,by
  subst r
  obtain ⟨n,rfl⟩:∃q,n=q+1:=⟨n - 1,by omega⟩
  rfl,rfl⟩,fun {k h v n} r hn=>⟨0,by
  subst r
  obtain ⟨n,rfl⟩:∃q,n=q+1:=⟨n - 1,by omega⟩
  rfl,Nat.zero_le _⟩⟩
theorem Jv {α:Type} [Rp α](x:α)(sz:Nat)(hd:Rp.dp α<=20:=by decide):Snb (CD x sz) 1 :=
 ⟨fun {P k h v n} d r hn=>by
  obtain ⟨n,rfl⟩:∃q,n=q+1:=⟨n - 1,by omega⟩
  exact Cc d r (by omega) hd,fun {k h v n} r hn=>by
  obtain ⟨n,rfl⟩:∃q,n=q+1:=⟨n - 1,by omega⟩
  exact D1 r⟩
def NsV (n:Net)(e vars:List Int):VS:=if S.aF n e vars=0 then EM (CD (S.bZ n e vars) 6) (One (0:Int)) else EM KR (One (S.aF n e vars))
theorem Kp (n:Net)(e vars:List Int):Snb (NsV n e vars) 2:=by
 unfold NsV
 split
 ·exact qL (Jv _ _) (bi _) (by decide) (by decide)
 ·exact qL GV (bi _) (by decide) (by decide)
theorem s_ (id ep i off:Nat):AS (.hptr id ep i off)=.val (.hptr id ep i off):=rfl
def LNs (gr:Int)(vw:AV):List (Nat×AV):=[(2,vw),(3,.hptr 0 0 0 0),(4,.hptr 1 0 0 0),(9,.hptr 3 0 0 0)]
structure NsH (gr:Int) (b ev vw u wv:AV) (m:Int) (g:G):Prop where
 h0:g.h.get 0=.cells 2 [[.int .i64 gr,b]] 0 false false
 h1:g.h.get 1=.cells 1 [[ev]] 0 false false
 h2:g.h.get 2=.cells 6 [[.int .i64 gr,b,vw,u,wv,.int .i64 m]] 0 false false
 h3:g.h.get 3=.cells 1 [[.hptr 2 0 0 0]] 0 false false
 nx:4<=g.nx
theorem KV {d k:Nat}{gr:Int}{b ev vw:AV}{vars:List Int}{m:Nat}{Q:QT}{t:T}{g:G}(hd:0<d)(hm:m<=8)(hv:∀h,SlR NoP k h vars vw)
  (hh:NsH gr b ev vw .nils .nils 0 g) (ht:St t (LNs gr vw)) (h49:tat t 49=.int .i64 0) (h48:tat t 48=.int .i64 (m:Int))
  (fin:∀t g u,St t (LNs gr vw)->NsH gr b ev vw u .nils 0 g->Own g 4 u 1 ((S.aZ vars m).map ci)->Q (.exit 2) t [] g):wpL (wp C0 d none dJ) Q t [] g:=by
 simp only[dJ]
 refine aX (m:=m) (by omega) (fun j t df g=>df=[]/\St t (LNs gr vw)/\∃u,NsH gr b ev vw u .nils 0 g/\Own g 4 u 1 ((S.aZ vars j).map ci)) ⟨rfl,ht,.nils,hh,.inl ⟨rfl,rfl⟩⟩ h49 h48 (by decide)
  (by rintro j t df g v s (rfl | rfl | rfl) ⟨a1,⟨b1,b2,b3,b4,-⟩,c1⟩<;>exact ⟨a1,by simp[St,LNs,sx,b1,b2,b3,b4],c1⟩) ?_ ?_
 ·rintro j t df g hj ⟨rfl,⟨h2,h3,h4,h9,-⟩,u,⟨g0,g1,g2,g3,g4⟩,ho⟩ h49 h48
  have kc:=fun g:G=>zK (d:=d) (g:=g) (x:=(j:Int)) hd (hv g.h)
  have hl:=qE vars j
  by_cases c:(j:Int)∈vars
  ·simp only[sz,simprocAttr,h2,h49,kc,c]
   refine ⟨⟨by simp[St,LNs,sx,h2,h3,h4,h9],u,⟨g0,g1,g2,g3,g4⟩,?_⟩,h48⟩
   rw[qS,if_pos c,List.append_nil];exact ho
  ·simp only[sz,simprocAttr,h2,h49,kc,c,sf,h9,g3,g2,s_]
   refine lV (ho.fr (g':=_) (by simp<;>omega) (fun i hi=>?_)) (new:=[[.int .i64 (j:Int)]]) ?_ (by simp<;>omega) (by simp[aO]<;>omega) fun v5 g5 o5 n5 f5 w5 l5=>?_
   ·have:=ho.lt hi
    simp[H.get_put];omega
   ·simp[af,H.get_put];rfl
   have lu:=fun i (h:vid u=some i)=>ho.lt h
   simp only[sx,sy] at n5 f5 l5
   have n5':g.nx<g5.nx:=by omega
   have f6:∀i,i<4->g5.h.get i=g.h.get i:=fun i hi=>by
    rw[f5 i (by omega) fun h=>by have:=lu i h;omega]
    simp;omega
   obtain ⟨vc,vt⟩:=o5.cell
   simp only[sz,simprocAttr,sf,f6 3 (by omega),g3,f6 2 (by omega),g2,s_,vc,vt]
   refine ⟨?_,?_⟩
   ·simp only[List.reverse_cons,List.reverse_nil,List.nil_append,List.cons_append]
    refine aJ [false,false,false,false,false,false,true,true,false,false,true] [(0,6),(1,6),(2,6),(3,6),(4,6),(0,7)] (by simp[All2,am,aB]) (by decide) ?_
    rintro p hp x y hx hy
    simp only[List.mem_cons,List.not_mem_nil,or_false] at hp
    rcases hp with rfl | rfl | rfl | rfl | rfl | rfl<;>(simp at hx hy;subst hx;subst hy;refine dX rfl rfl rfl rfl ?_ ?_ ?_<;>simp[am,aB,qd]<;>first | omega | (intro i' hi';rcases l5 i' hi' with h | h | h<;>first | omega | (have:=lu i' h;omega) | simp at h) | skip)
   refine ⟨⟨by simp[St,LNs,sx,h2,h3,h4,h9],v5,⟨by simp[sy,f6 0 (by omega),g0],by simp[sy,f6 1 (by omega),g1],by simp[sy],by simp[sy,f6 3 (by omega),g3],by simp[sy]<;>omega⟩,?_⟩,by simp[sx,h49],by simp[sx,h48]⟩
   rw[qS,if_neg c,List.map_append]
   exact o5.fr (by simp[sy]<;>omega) fun i hi=>by
    have:=o5.lt hi
    simp[sy];omega
 ·rintro t df g ⟨rfl,ht,u,hh,ho⟩
  exact fin t g u ht hh ho
theorem KN {d k:Nat}{gr:Int}{b ev vw:AV}{n:Net}{vars:List Int}{Q:QT}{t:T}{g:G}(hr:NR n)(hv:∀h,SlR NoP k h vars vw)(hN:∀h,SlR NoP 0 h n.nodes b)(h0:g.h.get 0=.cells 2 [[.int .i64 gr,b]] 0 false false)
  (ht:St t ((28,vw)::LNs gr vw)) (h10:tat t 10=.int .i64 (-1)) (h30:tat t 30=.int .i64 0) (h29:tat t 29=.int .i64 (vars.length:Int))
  (bad:∀t,S.aq vars (n.nodes.length:Int)=false->tat t 6=.nilp->tat t 7=.int .i64 2->Q .ret t [] g)
  (fin:∀t,S.aq vars (n.nodes.length:Int)=true->St t (LNs gr vw)->Q (.exit 0) t [] g):wpL (wp C0 d none cz) Q t [] g:=by
 have rv:=fun h=>(hv h).ints
 have lN:∀g:G,dG .slice b g=.val (.int .i64 (n.nodes.length:Int)):=fun g=>(hN .nil).len g
 have hl8:=hr.l2
 simp only[cz]
 refine aX (m:=vars.length) (hv .nil).1 (fun j t df g'=>df=[]/\g'=g/\St t ((28,vw)::LNs gr vw)/\tat t 10=.int .i64 (if j=0 then -1 else vars[j - 1]?.getD 0)/\(List.range j).all (S.aI vars (n.nodes.length:Int))=true) ⟨rfl,rfl,ht,by simpa using h10,by simp⟩ h30 h29 (by decide)
  (by rintro j t df g v s (rfl | rfl | rfl) ⟨a1,a2,⟨b0,b1,b2,b3,b4,-⟩,c1,c2⟩<;>exact ⟨a1,a2,by simp[St,LNs,sx,b0,b1,b2,b3,b4],by simp[sx,c1],c2⟩) ?_ ?_
 ·rintro j t df g' hj ⟨rfl,rfl,⟨h28,h2,h3,h4,h9,-⟩,h10,hall⟩ h30 h29
  obtain ⟨x,hx,-,hm⟩:=ae hj
  have z1:j<(vars.map ci).length:=by simpa using hj
  have z2:(vars.map ci)[j]?=some (ci x):=by rw[List.getElem?_map,hx];rfl
  have hgx:vars[j]?.getD 0=x:=by rw[hx];rfl
  obtain ⟨bf,hbf⟩:∃bf,bf=(if j=0 then (-1:Int) else vars[j - 1]?.getD 0):=⟨_,rfl⟩
  rw[<-hbf] at h10
  have hbf1:-1<=bf:=by
   rw[hbf];split
   ·omega
   ·have:=List.all_eq_true.1 hall (j - 1) (List.mem_range.2 (by omega))
    simp only[S.aI,Bool.and_eq_true,decide_eq_true_eq] at this
    omega
  have key:S.aI vars (n.nodes.length:Int) j=true↔bf<x/\x<(n.nodes.length:Int):=by
   simp only[S.aI,Bool.and_eq_true,decide_eq_true_eq,hgx,Bool.or_eq_true,beq_iff_eq]
   rw[hbf]
   by_cases c:j=0
   ·simp only[c,if_true,true_or,and_true];omega
   ·rw[if_neg c] at hbf ⊢
    rw[<-hbf]
    constructor
    ·rintro ⟨⟨a1,a2⟩,a3 | a3⟩
     ·exact absurd a3 c
     ·exact ⟨a3,a2⟩
    ·rintro ⟨a1,a2⟩
     have:=List.all_eq_true.1 hall (j - 1) (List.mem_range.2 (by omega))
     simp only[S.aI,Bool.and_eq_true,decide_eq_true_eq,<-hbf] at this
     exact ⟨⟨by omega,a2⟩,.inr a1⟩
  have fl:¬(bf<x/\x<(n.nodes.length:Int))->S.aq vars (n.nodes.length:Int)=false:=fun hn=>by
   rw[Bool.eq_false_iff]
   intro h
   exact hn (key.1 (List.all_eq_true.1 h j (List.mem_range.2 hj)))
  by_cases c1:x<=bf
  ·simp only[sz,simprocAttr,h28,h30,rv,z1,z2,ci,h10,c1]
   exact bad _ (fl (by omega)) (by simp[sx]) (by simp[sx])
  by_cases c2:(n.nodes.length:Int)<=x
  ·simp only[sz,simprocAttr,h28,h30,rv,z1,z2,ci,h10,c1,h3,h0,lN,c2]
   exact bad _ (fl (by omega)) (by simp[sx]) (by simp[sx])
  ·simp only[sz,simprocAttr,h28,h30,rv,z1,z2,ci,h10,c1,h3,h0,lN,c2]
   refine ⟨⟨by simp[St,LNs,sx,h28,h2,h3,h4,h9],?_,?_⟩,h29⟩
   ·simp[hx]
   ·rw[bF,hall,key.2 ⟨by omega,by omega⟩];rfl
 ·rintro t df g' ⟨rfl,rfl,⟨-,ht⟩,-,hall⟩
  exact fin t hall ht
theorem KP {d j ke:Nat}{gr m:Int}{b ev vw u wv uu:AV}{e vals:List Int}{mw:List Int}{P:Nat->Prop}{rd:Option Nat}{Q:QT}{t:T}{g:G}(hl:e.length=vals.length)(he:∀h,SlR NoP ke h e ev)(hu:SlR P 0 g.h vals uu)
  (hh:NsH gr b ev vw u wv m g) (ho:Own g 4 wv 1 (mw.map ci)) (hj:j<mw.length)
  (ht:St t ((14,.int .i64 (j:Int))::(15,uu)::(78,ev)::LNs gr vw)) (h80:tat t 80=.int .i64 0) (h79:tat t 79=.int .i64 (e.length:Int))
  (fin:∀t,S.bi vals e=true->St t ((14,.int .i64 (j:Int))::LNs gr vw)->Q (.exit 6) t [] g)
  (bad:∀t g',S.bi vals e=false->St t (LNs gr vw)->Own g' 4 wv 1 ((mw.set j 0).map ci)->g'.nx=g.nx->(∀i,vid wv≠some i->g'.h.get i=g.h.get i)->Q (.exit 5) t [] g'):wpL (wp C0 d rd dK) Q t [] g:=by
 have re:=fun h=>(he h).ints
 have ru:=hu.ints
 obtain ⟨g0,g1,g2,g3,g4⟩:=hh
 simp only[dK]
 refine aX (m:=e.length) (he .nil).1 (fun i t df g'=>df=[]/\g'=g/\St t ((14,.int .i64 (j:Int))::(15,uu)::(78,ev)::LNs gr vw)/\(List.range i).all (S.bj vals e)=true) ⟨rfl,rfl,ht,by simp⟩ h80 h79 (by decide)
  (by rintro j t df g v s (rfl | rfl | rfl) ⟨a1,a2,⟨c1,c2,c3,b1,b2,b3,b4,-⟩,c⟩<;>exact ⟨a1,a2,by simp[St,LNs,sx,c1,c2,c3,b1,b2,b3,b4],c⟩) ?_ ?_
 ·rintro i t df g' hi ⟨rfl,rfl,⟨h14,h15,h78,h2,h3,h4,h9,-⟩,hall⟩ h80 h79
  obtain ⟨x,hx,-,hm⟩:=ae hi
  obtain ⟨y,hy,-,-⟩:=ae (l:=vals) (j:=i) (by omega)
  have z1:i<(e.map ci).length:=by simpa using hi
  have z2:(e.map ci)[i]?=some (ci x):=by rw[List.getElem?_map,hx];rfl
  have y1:i<(vals.map ci).length:=by rw[List.length_map];omega
  have y2:(vals.map ci)[i]?=some (ci y):=by rw[List.getElem?_map,hy];rfl
  have key:S.bj vals e i=true↔x<0\/x=y:=by
   simp only[S.bj,hx,hy,Option.getD_some,Bool.or_eq_true,decide_eq_true_eq]
  by_cases c1:(0:Int)<=x
  ·by_cases c2:x=y
   ·simp only[sz,simprocAttr,h78,h80,re,z1,z2,ci,c1,h15,ru,y1,y2,c2]
    have c1':(0:Int)<=y:=by omega
    simp only[sz,simprocAttr,c1',h15,ru,y1,y2,ci]
    refine ⟨⟨by simp[St,LNs,sx,h14,h15,h78,h2,h3,h4,h9],?_⟩,by simp[sx,h80],by simp[sx,h79]⟩
    rw[bF,hall,key.2 (.inr c2)];rfl
   ·have q1:j<(mw.map ci).length:=by rw[List.length_map];exact hj
    obtain ⟨z,hz,-,-⟩:=ae hj
    have q2:(mw.map ci)[j]?=some (ci z):=by rw[List.getElem?_map,hz];rfl
    simp only[sz,simprocAttr,h78,h80,re,z1,z2,ci,c1,h15,ru,y1,y2,c2,h9,g3,g2,s_,h14,ho.rows,q1]
    refine oU (v:=wv) (sz:=1) (n:=1) (i:=j) (off:=0) (x:=.int .i64 0) (row:=ci z) (row':=ci 0) ho q2 rfl rfl rfl fun g5 o5 n5 f5 u5=>?_
    rw[<-List.map_set] at o5
    simp only[sz,simprocAttr]
    refine bad _ g5 ?_ (by simp[St,LNs,sx,h2,h3,h4,h9]) o5 n5 f5
    rw[Bool.eq_false_iff]
    intro h
    rcases key.1 (List.all_eq_true.1 h i (List.mem_range.2 hi)) with h | h
    ·omega
    ·exact c2 h
  ·simp only[sz,simprocAttr,h78,h80,re,z1,z2,ci,c1]
   refine ⟨⟨by simp[St,LNs,sx,h14,h15,h78,h2,h3,h4,h9],?_⟩,h79⟩
   rw[bF,hall,key.2 (.inl (by omega))];rfl
 ·rintro t df g' ⟨rfl,rfl,⟨h14,-,-,ht⟩,hall⟩
  exact fin t hall ⟨h14,ht⟩
theorem HY {C:Cfg}{d:Nat}{rd:Option Nat}{a b:SC}{Q:QT}{t:T}{df:List ADf}{g:G}{P:PT}(h1:wp C d rd a (fun e t df g=>e=.norm/\P t df g) t df g)(h2:∀t df g,P t df g->wp C d rd b Q t df g):wp C d rd (.seq a b) Q t df g:=by
 rw[ei]
 refine bX _ h1 ?_
 rintro e t df g ⟨rfl,h⟩
 exact h2 t df g h
theorem CB {x y:Foot}(hx:x.wr=[])(hb:x.lk.big=false)(hs:x.lk.sr=[])(h3:∀i∈y.wr,∀j∈x.lk.rd,i≠j):cg x y=true:=by
 have m3:=kZ h3
 have m5:∀l:List Nat,meets l []=false:=fun l=>by simp[meets]
 simp only[cg,ju,gG,hx,hb,hs,m3,m5,fst1,List.map_nil,Bool.not_false,Bool.and_self,Bool.true_or]
 split<;>rfl
structure NsJ (gr:Int) (b ev vw u wv:AV) (n:Net) (e:List Int) (g0:G) (W j:Nat) (g:G):Prop where
 h2:g.h.get 2=.cells 6 [[.int .i64 gr,b,vw,u,wv,.int .i64 (S.aL n (S.pe n e) j)]] 0 false false
 hw:∃lo,g.h.get W=.cells 1 ((S.aC n e j).map ci) 0 lo false
 fr:∀i,i<g0.nx->i≠2->i≠W->g.h.get i=g0.h.get i
theorem Lf {d ke:Nat}{b ev vw u:AV}{n:Net}{e:List Int}{Q:QT}{t:T}{g:G}(hd:0<d)(hr:NR n)(hN:∀h,SlR NoP 0 h n.nodes b)(hel:e.length=n.nodes.length)(he:∀h,SlR NoP ke h e ev)
  (hh:NsH n.grain b ev vw u .nils 0 g) (ht:St t (LNs n.grain vw))
  (fin:∀t g' W df,tat t 6=.hptr 2 0 0 0->tat t 7=.int .i64 0->g.nx<=W->W<g'.nx->(∃lo,g'.h.get W=.cells 1 ((S.aW n e).map ci) 0 lo false)->g'.h.get 2=.cells 6 [[.int .i64 n.grain,b,vw,u,.hsl W 0 0 (S.ah n) none,.int .i64 (S.bJ n e)]] 0 false false ->
   (∀i,i<g.nx->i≠2->g'.h.get i=g.h.get i)->g.nx<=df->df<g'.nx->df≠W->g'.h.get df=.dfr true->Q .ret t [.mark df] g'):wp C0 d none dQ Q t [] g:=by
 obtain ⟨h2,h3,h4,h9,-⟩:=ht
 obtain ⟨g0,e1,g2,g3',g4⟩:=hh
 have hl8:=hr.l2
 obtain ⟨W1,W2,W3⟩:=hr.wl
 have hcs:CsOk (S.aa n):=⟨hr.cs,by rw[ay];omega⟩
 have hnc:S.nc (S.aa n)=S.ah n:=rfl
 have hA:∀h,Agg n NoP 0 h (.agg [.int .i64 n.grain,b]):=fun h=>⟨_,rfl,ck.2 ⟨b,rfl,hN h⟩⟩
 have le:∀g:G,dG .slice ev g=.val (.int .i64 (e.length:Int)):=fun g=>(he .nil).len g
 unfold dQ
 refine HY (P:=fun t' df g'=>df=[]/\∃W,g.nx<=W/\W<g'.nx/\NsJ n.grain b ev vw u (.hsl W 0 0 (S.ah n) none) n e g W 0 g'/\g.nx<=g'.nx/\St t' (LNs n.grain vw)) ?_ ?_
 ·simp only[sz,simprocAttr,sf,h9,g3',h3,g0]
  refine Cp hd hr (hA _) fun g5 q5 n5 f5 u5=>?_
  have f6:∀i,i<g.nx->g5.h.get i=g.h.get i:=fun i hi=>by
   rw[f5.2 i (by simp;omega)];simp
  have u6:∀i∈g5.lg,g.nx<=i:=fun i hi=>by
   rcases u5.2 i hi with h | h
   ·simp at h
   ·simp at h;omega
  simp only[sy] at q5 n5
  simp only[sz,simprocAttr,sf,f6 2 (by omega),g2,s_]
  refine ⟨?_,?_⟩
  ·simp only[List.reverse_cons,List.reverse_nil,List.nil_append,List.cons_append]
   refine aJ [false,false,true,false,false,true] [(0,2)] (by simp[All2,am,aB,cJ,sC]) (by decide) ?_
   rintro p hp x y hx hy
   simp only[List.mem_cons,List.not_mem_nil,or_false] at hp
   subst hp
   simp at hx hy;subst hx;subst hy
   refine CB rfl rfl rfl fun i hi j hj=>?_
   have hi:i∈g5.lg:=by simpa using hi
   have hj:j=3:=by simpa [am,qd] using hj
   have:=u6 i hi
   omega
  refine ⟨g.nx+3,by omega,by omega,⟨?_,?_,fun i h1 h2 h3=>?_⟩,by omega,by simp[St,LNs,sx,h2,h3,h4,h9]⟩
  ·simp[sy,S.aL]
  ·exact ⟨false,by rw[Gf];simp[sy,q5]⟩
  ·simp[sy,h2,f6 i h1]
 ·rintro t df g1 ⟨rfl,W,w1,w2,hJ,n1,h2,h3,h4,h9,-⟩
  have z0:g1.h.get 0=.cells 2 [[.int .i64 n.grain,b]] 0 false false:=by rw[hJ.fr 0 (by omega) (by omega) (by omega),g0]
  rw[ei,vI,qT]
  rw[ei]
  simp only[sz,simprocAttr,h3,z0]
  refine bo (ux (n:=n) (by omega) (hN _) (by omega)) fun rc hrc=>?_
  simp only[sz,simprocAttr]
  obtain ⟨z,kz,hz⟩:=Ap (d:=d) (g:=g1) (w:=rc) (cs:=S.aa n) hd (hrc.sl g1.h)
  simp only[sz,simprocAttr,kz]
  refine wI (cs:=S.aa n) (w:=z) hcs hz (by simp[sx]) (by decide) (by decide) (NsJ n.grain b ev vw u (.hsl W 0 0 (S.ah n) none) n e g W) (fun _=>False) ?_ (fun _ _ _ h=>h) hJ ?_ ?_ (fun _ h=>h.elim)
  ·rintro j g3 g4 hU ⟨a1,a2,a3⟩
   exact ⟨by rw[hU.1 _ (by omega),a1],by rw[hU.1 _ (by omega)];exact a2,fun i q1 q2 q3=>by rw[hU.1 i (by omega),a3 i q1 q2 q3]⟩
  ·rintro j uu g3 hj hJ3 hn3 hu
   rw[hnc] at hj
   simp only[sz,simprocAttr,ia]
   refine ⟨Fr.refl _,fun g5 n5 f5 u5=>?_⟩
   have hJ5:NsJ n.grain b ev vw u (.hsl W 0 0 (S.ah n) none) n e g W j g5:=by
    obtain ⟨a1,a2,a3⟩:=hJ3
    exact ⟨by rw[u5.1 _ (by omega),a1],by rw[u5.1 _ (by omega)];exact a2,fun i q1 q2 q3=>by rw[u5.1 i (by omega),a3 i q1 q2 q3]⟩
   have hu5:SlR (fun i=>g1.nx+2<=i/\i<g3.nx) 0 g5.h (S.ak (S.aa n) (j:Int)) uu:=hu.far8 fun i hi=>f5 i (by omega)
   have z1:g5.h.get 1=.cells 1 [[ev]] 0 false false:=by rw[hJ5.fr 1 (by omega) (by omega) (by omega),e1]
   simp only[sz,simprocAttr,g_,h4,z1,le]
   have hvl:=oe (S.aa n) (j:Int)
   rw[ay] at hvl
   have hlW:((S.aC n e j).map ci).length=S.ah n:=by rw[List.length_map,oh]
   have hin:=cY (fun c hc=>(hr.cs c hc).1) (j:Int)
   have wb:=mD hr hin
   have hO:Own g5 4 (.hsl W 0 0 (S.ah n) none) 1 ((S.aC n e j).map ci):=by
    obtain ⟨lo,h⟩:=hJ5.hw
    exact .inr ⟨W,0,lo,by omega,by omega,by rw[hlW],h⟩
   have sb:=El hr (p:=S.pe n e) (j:=j) (by omega)
   have sb2:=El hr (p:=S.pe n e) (j:=j+1) (by omega)
   refine KP (e:=e) (vals:=S.ak (S.aa n) (j:Int)) (j:=j) (mw:=S.aC n e j) (gr:=n.grain) (b:=b) (ev:=ev) (vw:=vw) (u:=u) (wv:=.hsl W 0 0 (S.ah n) none) (uu:=uu) (by omega) he hu5
    ⟨by rw[hJ5.fr 0 (by omega) (by omega) (by omega),g0],z1,hJ5.h2,by rw[hJ5.fr 3 (by omega) (by omega) (by omega),g3'],by omega⟩ hO (by rw[oh];exact hj) (by simp[St,LNs,sx,h2,h3,h4,h9]) (by simp[sx]) (by simp[sx]) ?_ ?_
   ·rintro t6 hmt ⟨h14,h2',h3',h4',h9',-⟩
    have hpe:S.pe n e j=true:=hmt
    have m1:j<((S.aC n e j).map ci).length:=by omega
    have m2:((S.aC n e j).map ci)[j]?=some (ci (S.wt n j)):=by rw[List.getElem?_map,IY n e j hj];rfl
    have hO:Own g5 4 (.hsl W 0 0 (S.ah n) none) 1 ((S.aC n e j).map ci):=hO
    have z3:g5.h.get 3=.cells 1 [[.hptr 2 0 0 0]] 0 false false:=by rw[hJ5.fr 3 (by omega) (by omega) (by omega),g3']
    have ss:S.aL n (S.pe n e) (j+1)=S.aL n (S.pe n e) j+S.wt n j:=by rw[S.aL,if_pos hpe];rfl
    have w1:IntKind.wrap .i64 (S.aL n (S.pe n e) j+S.wt n j)=S.aL n (S.pe n e) (j+1):=by rw[<-ss,aF (by omega) (by omega)]
    simp only[sz,simprocAttr,sf,iq,h9',z3,hJ5.h2,s_,h14,hO.rows,m1,m2,ci,w1]
    refine ⟨?_,?_⟩
    ·simp only[List.reverse_cons,List.reverse_nil,List.nil_append,List.cons_append]
     exact aJ [false,false,false,false,false,false,false,false,false,false,false,false,false,false,true] [] (by simp[All2,am,aB]) (by decide) (by simp)
    refine ⟨by simp[sy]<;>omega,fun i q1 q2=>?_,.inl ⟨rfl,?_,?_,fun i q1 q2 q3=>?_⟩⟩
    ·simp[sy,show ¬i=2 by omega]
    ·simp[sy]
    ·obtain ⟨lo,h⟩:=hJ5.hw
     exact ⟨lo,by rw[B3 hj,if_pos hpe];simp[sy,show ¬W=2 by omega,h]⟩
    ·simp[sy,q2,hJ5.fr i q1 q2 q3]
   ·rintro t6 g6 hmt ⟨h2',h3',h4',h9',-⟩ o6 n6 f6
    have hpe:S.pe n e j=false:=hmt
    simp only[sz,simprocAttr]
    have hne:∀i,i≠W->g6.h.get i=g5.h.get i:=fun i hi=>f6 i (by simpa [vid] using fun h:W=i=>hi h.symm)
    have hss:S.aL n (S.pe n e) (j+1)=S.aL n (S.pe n e) j:=by rw[S.aL,hpe];simp
    refine ⟨by omega,fun i q1 q2=>hne i (by omega),.inl ⟨rfl,?_,?_,fun i q1 q2 q3=>?_⟩⟩
    ·rw[hne 2 (by omega),hJ5.h2,hss]
    ·rw[B3 hj,hpe]
     rcases o6 with ⟨h,-⟩ | ⟨id,ep,lo,-,-,h,hg⟩
     ·cases h
     ·injection h with h1 h2 h3 h4 h5
      subst h1;subst h2
      exact ⟨lo,by simpa using hg⟩
    ·rw[hne i q3,hJ5.fr i q1 q2 q3]
  ·rintro g' hJ' hn hdf
   rw[hnc] at hJ'
   have z3:g'.h.get 3=.cells 1 [[.hptr 2 0 0 0]] 0 false false:=by rw[hJ'.fr 3 (by omega) (by omega) (by omega),g3']
   simp only[sz,simprocAttr,ip,h9,z3]
   exact fin _ g' W g1.nx (by simp[sx]) (by simp[sx]) w1 (by omega) hJ'.hw hJ'.h2 (fun i q1 q2=>by
    by_cases q3:i=W
    ·omega
    ·rw[hJ'.fr i q1 q2 q3]) n1 (by omega) (by omega) hdf
theorem zI {d kv k1:Nat}{P1:Nat->Prop}{g:G}{n:Net}{e vars:List Int}{v w u:AV}(hd:kv<d)(hm:Agg n NoP 0 g.h v)(he:SlR P1 k1 g.h e w)(hv:SlR NoP kv g.h vars u) :
  ∃r,au C0 d N.a_ [v,w,u] g=.val r/\NsV n e vars NoP kv .nil r:=by
 obtain ⟨b,rows,rfl,e1,hm',hN,r1,r2,r3,r4⟩:=d8 d hm
 obtain ⟨w',e2,hw'⟩:=aV he d
 have e3:=qN d hv
 have hv':∀h,SlR NoP kv h vars u:=fun h=>hv.tree (Nat.le_refl _)
 have hN':∀h,SlR NoP 0 h n.nodes b:=fun h=>hN.tree (Nat.le_refl 0)
 have lu:∀g:G,dG .slice u g=.val (.int .i64 (vars.length:Int)):=fun g=>(hv' .nil).len g
 have lN:∀g:G,dG .slice b g=.val (.int .i64 (n.nodes.length:Int)):=fun g=>(hN' .nil).len g
 have kc:=fun g=>Ge (d:=d+1) (g:=g) (Nat.succ_pos d) (hm' g.h) (hw' g.h)
 rw[oO]
 refine bp qh (xs:=[.agg [.int .i64 n.grain,b],w',u]) (by simp only[aD,e1,e2,e3]) (by simp[dt]) (Kp n e vars) (by decide) hd ?_
 by_cases c:S.aK n e=0
 ·obtain ⟨hn,hev⟩:=p_.1 c
  have hr:=iZ.1 hn
  have hel:=(AM hev).1
  have hl8:=hr.l2
  have hst:∀(g:G) (i m:Nat),nR (.cells 1 [[.nilp]] 0 false false) g i 0 0 1 0 (.hptr m 0 0 0)=.upd .undef (g.put i (.cells 1 [[.hptr m 0 0 0]] 0 false false)):=fun g i m=>rfl
  obtain ⟨FB,hFB⟩:∃F,F=cz:=⟨_,rfl⟩
  simp only[sz,simprocAttr,dt,eh,kc,c,lu,Ae (hw' .nil),(hv' .nil).cell.1,(hv' .nil).cell.2,hst,<-hFB]
  subst hFB
  refine KN (k:=kv) (gr:=n.grain) (ev:=w') (n:=n) (vars:=vars) hr hv' hN' (by simp[H.get_put,show G.empty.nx=0 from rfl]) (by simp[St,LNs,sx]) (by simp[sx]) (by simp[sx]) (by simp[sx]) ?_ ?_
  ·intro t hp h6 h7
   have hs:S.aF n e vars=2:=by rw[S.aF,if_pos c,hp];rfl
   simp only[sz,simprocAttr,h6,h7]
   refine ⟨NoP,?_⟩
   rw[NsV,hs]
   exact ⟨_,_,rfl,rfl,aU.2 rfl⟩
  ·rintro t hp ⟨h2,h3,h4,h9,-⟩
   have hs:S.aF n e vars=0:=by rw[S.aF,if_pos c,hp];rfl
   have hH:NsH n.grain b w' u .nils .nils 0 (((((G.empty.new (.cells 2 [[.int .i64 n.grain,b]] 0 false false)).new (.cells 1 [[w']] 0 false false)).new (.cells 6 [[.int .i64 n.grain,b,u,.nils,.nils,.int .i64 0]] 0 false false)).new (.cells 1 [[.nilp]] 0 false false)).put 3 (.cells 1 [[.hptr 2 0 0 0]] 0 false false)):=by
    constructor<;>simp[H.get_put,show G.empty.nx=0 from rfl]
   generalize ((((G.empty.new (.cells 2 [[.int .i64 n.grain,b]] 0 false false)).new (.cells 1 [[w']] 0 false false)).new (.cells 6 [[.int .i64 n.grain,b,u,.nils,.nils,.int .i64 0]] 0 false false)).new (.cells 1 [[.nilp]] 0 false false)).put 3 (.cells 1 [[.hptr 2 0 0 0]] 0 false false)=g1 at hH ⊢
   simp only[sz,simprocAttr,gU,h3,hH.h0,lN]
   refine KV (k:=kv) (m:=n.nodes.length) (Nat.succ_pos d) hl8 hv' hH (by simp[St,LNs,sx,h2,h3,h4,h9]) (by simp[sx]) (by simp[sx]) fun t g2 uo ht hH2 hO=>?_
   simp only[kB,sz,simprocAttr]
   refine Lf (Nat.succ_pos d) hr hN' hel hw' hH2 ht fun t g3 W df h6 h7 w1 w2 gW g2' hf d1 d2 d3 hdf=>?_
   show wN C0 (d+1) [.tm 6,.tm 7] t [.mark df] g3 fun v g'=>∃P,NsV n e vars P kv g'.h v
   refine j4 hdf ?_
   simp only[sz,simprocAttr,h6,h7]
   have hne:=fun i (h:vid uo=some i)=>hO.lt h
   obtain ⟨lo,gW⟩:=gW
   have q1:∀i,i≠df->(g3.h.put df (.dfr false)).get i=g3.h.get i:=fun i hi=>by rw[ap _ _ _ hi]
   have q2:=(hO.fr (g':=g3.put df (.dfr false)) (by simp;omega) fun i hi=>by
    have:=hne i hi
    rw[G.put_h,q1 i (by omega),hf i (by omega) (by omega)])
   have hlo:(S.am n vars).length<=_:=qE vars n.nodes.length
   have hH4:=hH2.nx
   have hlw:(S.aW n e).length=S.ah n:=oh _ _ _
   have hW2:=hr.wl.2.1
   refine ⟨fun _=>True,?_⟩
   rw[NsV,if_pos hs]
   refine ⟨_,_,rfl,.inl ⟨2,_,rfl,trivial,by rw[q1 2 (by omega),g2'],?_⟩,aU.2 rfl⟩
   refine Hz.2 ⟨b,u,uo,_,rfl,hN.wide (Nat.zero_le _),?_,q2.sl (α:=Int) (by omega) (All2.of_map (fun a=>aU.2 rfl) _) fun _ _=>trivial,?_⟩
   ·exact hv.wide (Nat.le_refl _)
   ·have gW':(g3.put df (.dfr false)).h.get W=.cells 1 ((S.aW n e).map ci) 0 lo false:=by rw[G.put_h,q1 W (by omega),gW]
    have o3:Own (g3.put df (.dfr false)) 0 (.hsl W 0 0 (S.ah n) none) 1 ((S.aW n e).map ci):=.inr ⟨W,0,lo,Nat.zero_le _,by simp;omega,by rw[List.length_map,hlw],gW'⟩
    exact o3.sl (α:=Int) (by omega) (All2.of_map (fun a=>aU.2 rfl) _) fun _ _=>trivial
 ·simp only[sz,simprocAttr,dt,eh,kc,c,Ae (hw' .nil)]
  refine ⟨NoP,?_⟩
  have hs:S.aF n e vars=S.aK n e:=by rw[S.aF,if_neg c]
  rw[NsV,hs,if_neg c]
  exact ⟨_,_,rfl,rfl,aU.2 rfl⟩
def Ai (n:Net)(vars oth mw:List Int)(m:Int)(k:Nat)(v:AV):Prop:=∃t b vw ow ww,v=.tptr t 6 [[.int .i64 n.grain,b,vw,ow,ww,.int .i64 m]] 0 0/\t<=k/\SlR NoP k .nil n.nodes b/\SlR NoP k .nil vars vw/\SlR NoP k .nil oth ow/\SlR NoP k .nil mw ww
theorem Jq {n:Net}{vars oth mw:List Int}{m:Int}{k:Nat}{h:H}{v:AV}(r:CD ((n,vars,oth,mw,m):Sch) 6 NoP k h v):Ai n vars oth mw m k v:=by
 rcases r with ⟨id,cs,rfl,hP,-⟩ | ⟨t,cs,rfl,ht,r⟩
 ·exact hP.elim
 ·obtain ⟨a,b,c,d,rfl,ha,hb,hc,hd⟩:=Hz.1 r
  exact ⟨t,a,b,c,d,rfl,ht,ha,hb,hc,hd⟩
theorem qY (h:H)(d t sz:Nat)(rows:List (List AV))(i off:Nat):Hx.snap h d aE (.tptr t sz rows i off)=some (.tptr t sz rows i off):=rfl
theorem f_ (t sz:Nat)(rows:List (List AV))(i off:Nat):AS (.tptr t sz rows i off)=.val (.tptr t sz rows i off):=rfl
def S.bz (n:Net)(vars l:List Int)(i:Nat):Bool:=decide (0<=l[i]?.getD 0)&&decide (l[i]?.getD 0<(S.ac (S.aa n) vars)[i]?.getD 0)
def S.aR (n:Net)(vars l:List Int):Bool:=decide (l.length<=vars.length)&&(List.range l.length).all (S.bz n vars l)
theorem vN {n:Net}{b:AV}{k:Nat}{p:Int}(hN:SlR NoP k .nil n.nodes b)(h0:0<=p)(h1:p<(n.nodes.length:Int)):∃(pn:Nat) (x:Node) (rows:List (List AV)) (pa ra:AV),p=(pn:Int)/\n.nodes[pn]?=some x/\(∀h,af h 3 b=some rows)/\pn<rows.length/\rows[pn]?=some [.int .i64 x.card,pa,ra]/\km b=true/\x∈n.nodes/\(S.aa n)[pn]?=some x.card:=by
 obtain ⟨pn,rfl⟩:=Int.eq_ofNat_of_zero_le h0
 obtain ⟨rows,r1,r2,r3,r4⟩:=hN.all
 have hlt:pn<n.nodes.length:=by omega
 obtain ⟨x,hx,-,hm⟩:=ae hlt
 obtain ⟨row,q1,q2⟩:=r3 pn x hx
 obtain ⟨pa,ra,rfl,-,-⟩:=bM.1 q2
 exact ⟨pn,x,rows,pa,ra,rfl,hx,r1,by omega,q1,r4 (by omega),hm,by simp[S.aa,hx]⟩
theorem Ia {d k k2:Nat}{g:G}{P:Nat->Prop}{n:Net}{vars oth mw l:List Int}{m:Int}{q w:AV}(hd:0<d)(hq:Ai n vars oth mw m k q)(hp:S.aq vars (n.nodes.length:Int)=true)(hw:SlR P k2 g.h l w) :
  au C0 d N.bp [q,w] g=.val (.bool (S.aR n vars l)):=by
 obtain ⟨t,b,vw,ow,ww,rfl,ht,hb,hv,ho,hww⟩:=hq
 obtain ⟨w',e2,hw'⟩:=aV hw d
 have lw:∀g:G,dG .slice w' g=.val (.int .i64 (l.length:Int)):=fun g=>(hw' .nil).len g
 have lv:∀g:G,dG .slice vw g=.val (.int .i64 (vars.length:Int)):=fun g=>hv.len g
 have rw':=fun h=>(hw' h).ints
 have rv:=fun h=>(hv.tree (h':=h) (Nat.le_refl _)).ints
 have hl:=hw.1
 rw[iC]
 refine dy jr (xs:=[.tptr t 6 [[.int .i64 n.grain,b,vw,ow,ww,.int .i64 m]] 0 0,w']) (by simp only[aD,e2,qY]) (by simp[bA]) hd ?_
 by_cases c:vars.length<l.length
 ·have c':(vars.length:Int)<(l.length:Int):=by omega
  have hf:S.aR n vars l=false:=by simp[S.aR];omega
  simp only[sz,simprocAttr,bA,lw,lv,c',hf,f_,dD,bB]
 ·have c':¬(vars.length:Int)<(l.length:Int):=by omega
  simp only[sz,simprocAttr,bA,dh,lw,lv,c',f_,dD,bB]
  refine aX (m:=l.length) hl (fun j t' df g=>df=[]/\St t' [(0,.tptr t 6 [[.int .i64 n.grain,b,vw,ow,ww,.int .i64 m]] 0 0),(15,w')]/\(List.range j).all (S.bz n vars l)=true) ⟨rfl,by simp[St,sx],by simp⟩ (by simp[sx]) (by simp[sx]) (by decide)
   (by rintro j t df g v s (rfl | rfl | rfl) ⟨a1,⟨b1,b2,-⟩,c1⟩<;>exact ⟨a1,by simp[St,sx,b1,b2],c1⟩) ?_ ?_
  ·rintro j t' df g hj ⟨rfl,⟨h0,h15,-⟩,hall⟩ h17 h16
   obtain ⟨x,hx,-,-⟩:=ae hj
   obtain ⟨p,hpx,-,hpm⟩:=ae (l:=vars) (j:=j) (by omega)
   obtain ⟨p0,p1⟩:=bZ hp p hpm
   obtain ⟨pn,y,rows,pa,ra,rfl,hy,r1,r2,r3,r4,-,r5⟩:=vN hb p0 p1
   have z1:j<(l.map ci).length:=by simpa using hj
   have z2:(l.map ci)[j]?=some (ci x):=by rw[List.getElem?_map,hx];rfl
   have y1:j<(vars.map ci).length:=by rw[List.length_map];omega
   have y2:(vars.map ci)[j]?=some (ci (pn:Int)):=by rw[List.getElem?_map,hpx];rfl
   have key:S.bz n vars l j=true↔0<=x/\x<y.card:=by
    simp[S.bz,hx,S.ac,hpx,r5]
   have fl:¬(0<=x/\x<y.card)->S.aR n vars l=false:=fun h=>by
    rw[Bool.eq_false_iff]
    intro hh
    rw[S.aR,Bool.and_eq_true] at hh
    exact h (key.1 (List.all_eq_true.1 hh.2 j (List.mem_range.2 hj)))
   by_cases c1:x<0
   ·simp only[sz,simprocAttr,h15,h17,rw',z1,z2,ci,c1]
    simp[sx,fl (by omega)]
   by_cases c2:y.card<=x
   ·simp only[sz,simprocAttr,h15,h17,rw',z1,z2,ci,c1,h0,f_,dD,bB,rv,y1,y2,r1,r2,r3,r4,c2]
    simp[sx,fl (by omega)]
   ·simp only[sz,simprocAttr,h15,h17,rw',z1,z2,ci,c1,h0,f_,dD,bB,rv,y1,y2,r1,r2,r3,r4,c2]
    have hc':(List.range (j+1)).all (S.bz n vars l)=true:=by rw[bF,hall,key.2 ⟨by omega,by omega⟩];rfl
    simp[St,sx,h0,h15,h16,hc']
  ·rintro t' df g ⟨rfl,-,hall⟩
   have:S.aR n vars l=true:=by rw[S.aR,hall];simp;omega
   simp only[sz,simprocAttr,di,this]
theorem Fs {d k k2:Nat}{g:G}{P:Nat->Prop}{n:Net}{vars oth mw l:List Int}{m:Int}{q w:AV}(hd:0<d)(hq:Ai n vars oth mw m k q)(hp:∀x∈l,0<=x/\x<(n.nodes.length:Int))(hw:SlR P k2 g.h l w)(hl:l.length<=8) :
  ∃r,au C0 d N.bi [q,w] g=.val r/\IT 0 (S.ac (S.aa n) l) r:=by
 obtain ⟨t,b,vw,ow,ww,rfl,ht,hb,hv,ho,hww⟩:=hq
 obtain ⟨w',e2,hw'⟩:=aV hw d
 have lw:∀g:G,dG .slice w' g=.val (.int .i64 (l.length:Int)):=fun g=>(hw' .nil).len g
 have rw':=fun h=>(hw' h).ints
 have hlp:(S.ac (S.aa n) l).length=l.length:=by simp[S.ac]
 rw[lM]
 refine bp nE (xs:=[.tptr t 6 [[.int .i64 n.grain,b,vw,ow,ww,.int .i64 m]] 0 0,w']) (by simp only[aD,e2,qY]) (by simp[dR]) (bi _) (by decide) hd ?_
 simp only[sz,simprocAttr,dR,lw]
 refine s7 (b:=0) (n:=l.length) (by unfold aO;omega) (by unfold aO;omega) (Nat.zero_le _) fun u g1 hu n1 f1 v1=>?_
 simp only[sz,simprocAttr,lw,fu]
 refine aX (m:=l.length) (by omega) (fun j t' df g=>df=[]/\St t' [(0,.tptr t 6 [[.int .i64 n.grain,b,vw,ow,ww,.int .i64 m]] 0 0),(11,w'),(5,u)]/\Own g 0 u 1 ((((S.ac (S.aa n) l).take j)++List.replicate (l.length - j) 0).map ci)) ⟨rfl,by simp[St,sx],?_⟩ (by simp[sx]) (by simp[sx]) (by decide)
  (by rintro j t df g v s (rfl | rfl | rfl)<;>simp[sx,St]) ?_ ?_
 ·simpa [ci] using hu
 ·rintro j t' df g hj ⟨rfl,⟨h0,h11,h5,-⟩,hO⟩ h13 h12
  obtain ⟨p,hpx,-,hpm⟩:=ae hj
  obtain ⟨p0,p1⟩:=hp p hpm
  obtain ⟨pn,y,rows,pa,ra,rfl,hy,r1,r2,r3,r4,-,r5⟩:=vN hb p0 p1
  have z1:j<(l.map ci).length:=by simpa using hj
  have z2:(l.map ci)[j]?=some (ci (pn:Int)):=by rw[List.getElem?_map,hpx];rfl
  have hcj:(S.ac (S.aa n) l)[j]?=some y.card:=by simp[S.ac,hpx,r5]
  have o1:j<((((S.ac (S.aa n) l).take j)++List.replicate (l.length - j) 0).map ci).length:=by simp;omega
  have o2:((((S.ac (S.aa n) l).take j)++List.replicate (l.length - j) 0).map ci)[j]?=some (ci 0):=by
   rw[List.getElem?_map,List.getElem?_append_right (by simp;omega),List.getElem?_replicate]
   simp;omega
  have e3:((((S.ac (S.aa n) l).take j)++List.replicate (l.length - j) 0).map ci).set j (ci y.card)=(((S.ac (S.aa n) l).take (j+1))++List.replicate (l.length - (j+1)) 0).map ci:=by
   rw[<-List.map_set,List.set_append_right _ _ (by simp;omega),List.length_take,Nat.min_eq_left (by omega),Nat.sub_self,List.take_succ_eq_append_getElem (by omega),show l.length - j=(l.length - (j+1))+1 by omega,List.replicate_succ,List.set_cons_zero,List.append_assoc]
   have:(S.ac (S.aa n) l)[j]=y.card:=by
    rw[List.getElem?_eq_getElem (by omega)] at hcj;injection hcj
   rw[this];rfl
  simp only[sz,simprocAttr,h11,h13,rw',z1,z2,ci,h0,f_,dD,bB,r1,r2,r3,r4,h5,hO.rows,o1]
  refine dB (v:=u) (sz:=1) (n:=1) (i:=j) (off:=0) (x:=.int .i64 y.card) (row:=ci 0) (row':=ci y.card) hO o2 rfl rfl rfl fun g3 o3 n3 f3=>?_
  rw[e3] at o3
  simp only[sz,simprocAttr]
  simpa [St,sx,h0,h11,h5,h12,h13] using o3
 ·rintro t' df g ⟨rfl,⟨h0,h11,h5,-⟩,hO⟩
  rw[List.take_of_length_le (by omega),Nat.sub_self] at hO
  simp only[sz,simprocAttr,fp,h5]
  exact ⟨_,(by simpa using hO:Own g 0 u 1 ((S.ac (S.aa n) l).map ci)).ints (by omega)⟩
end
end Hx
end
