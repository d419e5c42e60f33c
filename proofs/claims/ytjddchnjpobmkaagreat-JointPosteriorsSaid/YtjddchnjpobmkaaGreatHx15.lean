/- A part of the proof: an interpreter over abstract values, shown right against the model, and what the functions of the chapter compute on it. -/
import Derived.Test.YtjddchnjpobmkaaGreatHx14
set_option linter.unusedVariables false
set_option linter.unusedSimpArgs false
set_option linter.unnecessarySimpa false
section
namespace Hx
open Go
noncomputable section
structure DBl (D:ND) (n i:Nat) (num:Nat->Nat):Prop where
 c:∀u,u<n->D.c u=2\/D.c u=3
 p:∀u,u<n->(D.P u).length<=3/\∀y∈D.P u,0<=y/\y<n
 m:∀u,u<n->D.m u<=64
 o:∀u,D.o u=0
 f:∀k,i<=k->k<n->D.P (num k)=[]/\D.m (num k)=0
structure DL (r0:List AV) (n q:Nat) (gr:Int) (r5:AV) (num:Nat->Nat) (i:Nat) (t:T) (g:G):Prop where
 st:St t (LDA n q r5)
 hd:∃V E D,DN X1 r0 n q 1000 gr V E D g/\DBl D n i num
theorem LI {n:Nat}{D:ND}:∀k,LNX X1 n D k->LNX X2 n D k:=fun k h=>by
 rcases h with h | h
 ·exact .inl h
 ·exact .inr (.inl h)
theorem K7 {d n q kk:Nat}{x:sX}{gr:Int}{a b r5:AV}{pl:List Int}{num:Nat->Nat}{Q:QT}{t:T}{g:G}(hd:0<d)(hgr:0<=gr/\gr<=60)(hn:1<=n/\n<=5)(ha:SlR NoP kk .nil x.2.1 a)(h5:IT 0 pl r5)(hN:Num n pl num)
  (h0:DL [u8v x.1,a,b] n q gr r5 num 0 t g) (h10:tat t 10=.int .i64 0)
  (fin:∀t g,DL [u8v x.1,a,b] n q gr r5 num n t g->Q (.exit 2) t [] g):wpL (wp C0 d none eh) Q t [] g:=by
 obtain ⟨pr,r1,r2,r3,r4⟩:=ha.all
 have r1:∀h',af h' 3 a=some pr:=r1
 have la:=ha.len
 have hal:=ha.1
 have r5i:∀h,af h 1 r5=some (pl.map ci):=fun h=>(h5.sl h).ints
 simp only[eh,iz]
 refine bh n (by omega) (fun j t df g=>df=[]/\DL [u8v x.1,a,b] n q gr r5 num j t g) ⟨rfl,h0⟩ h10 (by decide) ?_ ?_ ?_ ?_
 ·rintro j t df g v s (rfl | rfl | rfl) ⟨a1,⟨b1,b2,b3,b4,b5,-⟩,c3⟩<;>exact ⟨a1,by simp[St,LDA,sx,b1,b2,b3,b4,b5],c3⟩
 ·rintro j t df g hj ⟨rfl,⟨h1,h2,h3,h4,h5,-⟩,hD⟩ h10
  simp only[sz,simprocAttr,h10,h3]
  exact ⟨by simp[St,LDA,sx,h1,h2,h3,h4,h5],hD⟩
 ·rintro j t df g hj ⟨rfl,⟨h1,h2,h3,h4,h5',-⟩,V,E,D,hD,hb⟩ h10
  obtain ⟨p,hp⟩:∃p,p=g.nx:=⟨_,rfl⟩
  have hnx:=hD.hp.nx
  refine dU (P:=fun t' df g'=>df=[]/\g'=g.new (.cells 3 [[.int .u8 0,.int .u8 0,.nils]] 0 false false)/\St t' ((10,.int .i64 (j:Int))::(11,.hptr p 0 0 0)::LDA n q r5)) ?_ ?_
  ·simp only[sz,simprocAttr]
   simp[St,LDA,sx,h1,h2,h3,h4,h5',h10,hp]
  clear h1 h2 h3 h4 h5' h10
  rintro t df g1 ⟨rfl,hg1,⟨h10,h11,h1,h2,h3,h4,h5',-⟩⟩
  have f1:Fr g g1:=by rw[hg1];exact Fr.new _ _
  have k8:g1.h.get p=.cells 3 [[.int .u8 0,.int .u8 0,.nils]] 0 false false:=by rw[hg1,hp];simp[H.get_put]
  have n1:p<g1.nx:=by rw[hg1,hp];simp
  clear hg1
  have hD1:=hD.same f1
  have e0:=hD1.h0
  refine dU (P:=fun t' df g'=>df=[]/\Fr g g'/\St t' ((10,.int .i64 (j:Int))::(11,.hptr p 0 0 0)::LDA n q r5)/\p<g'.nx/\∃(y1 y2:UInt8) (W:List UInt8) (wv:AV),SlR NoP kk .nil W wv/\g'.h.get p=.cells 3 [[u8v y1,u8v y2,wv]] 0 false false) ?_ ?_
  ·simp only[sz,simprocAttr,h10,h1,e0,la]
   refine aT (fun hb=>?_) (fun hb=>?_)
   ·have hb:j<x.2.1.length:=by simpa using hb
    obtain ⟨y,hy,-,-⟩:=ae hb
    obtain ⟨row,q1,q2⟩:=r3 j y hy
    obtain ⟨wv,rfl,hwv⟩:=Ah.1 q2
    have hlt:j<pr.length:=by omega
    have hry:=r4 (by omega)
    simp only[sz,simprocAttr,h10,h1,e0,r1,hlt,q1,h11,k8]
    refine ⟨?_,by simp[St,LDA,sx,h1,h2,h3,h4,h5',h10,h11],by simpa using n1,y.1,y.2.1,y.2.2,wv,hwv,by simp[H.get_put]⟩
    exact ⟨Nat.le_trans f1.1 (by simp),fun i hi=>by simp[H.get_put,show ¬i=p by omega];exact f1.2 i hi⟩
   ·simp only[sx,sy]
    exact ⟨f1,by simp[St,LDA,sx,h1,h2,h3,h4,h5',h10,h11],n1,0,0,[],.nils,⟨by show 0<9223372036854775808;decide,rfl⟩,k8⟩
  clear h1 h2 h3 h4 h5' h10 h11 e0 hD1 k8 n1 f1
  rintro t df g2 ⟨rfl,f2,⟨h10,h11,h1,h2,h3,h4,h5',-⟩,n2,y1,y2,W,wv,hwv,k8⟩
  have hH:=hD.hp.add (g':=g2) (k:=(0,2)) (L':=LNX X2 n D) (v':=.hptr p 0 0 0) (e':=.bx [u8v y1,u8v y2,wv]) (by
   rintro (h | h)
   ·rcases h with h | ⟨i',q',h,-,-⟩<;>simp at h
   ·simp[X1] at h) ⟨p,by omega,n2,rfl,k8⟩ f2.1 (fun i _ hi=>f2.2 i hi) (fun i hi=>by injection hi with hi;omega) (fun k hk=>by
   rcases hk with h | h | h
   ·exact .inl (.inl h)
   ·exact .inl (.inr h)
   ·exact .inr h)
  have hfj:=hb.f j (Nat.le_refl _) hj
  have hvn:=hN.lt j hj
  have hvi:∀k,j<k->k<n->num k≠num j:=fun k h1 h2 e=>by
   have:=hN.inj k j h2 hj e
   omega
  have hDP:DP [u8v x.1,a,b] [u8v y1,u8v y2,wv] n q j p (num j) gr r5 num g2 (ups V (0,2) (.hptr p 0 0 0)) (ups E (0,2) (.bx [u8v y1,u8v y2,wv])) D:=by
   refine ⟨⟨hH,⟨?_,fun u hu=>?_,fun u hu=>?_,fun u r hu hr=>?_⟩,?_,?_,by rw[f2.2 0 (by omega),hD.h0],by rw[f2.2 1 (by omega),hD.h1]⟩,⟨ap _ _ _,ap _ _ _⟩,⟨hb.c,hb.p,hb.m,hb.o,fun k h1 h2=>hb.f k (by omega) h2⟩,hfj.2⟩
   ·rw[ac _ _ (by simp),hD.bn.ns]
    exact congrArg (En.sl 3) (List.map_congr_left fun u _=>by simp[fM,ac])
   ·rw[ac _ _ (by simp)];exact hD.bn.ps u hu
   ·rw[ac _ _ (by simp)]
    have:=hD.bn.rs u hu
    refine ⟨?_,this.2⟩
    rw[this.1]
    exact congrArg (En.sl 1) (List.map_congr_left fun r _=>by simp[DM,ac])
   ·rw[ac _ _ (by simp),ac _ _ (by simp)];exact hD.bn.rr u r hu hr
   ·rw[ac _ _ (by simp)];exact hD.vb
   ·rw[ac _ _ (by simp),ac _ _ (by simp)];exact hD.bx
  have u1:j<(pl.map ci).length:=by rw[List.length_map,hN.len];exact hj
  have u2:(pl.map ci)[j]?=some (ci (num j:Int)):=by rw[List.getElem?_map,hN.at_ j hj];rfl
  simp only[sz,simprocAttr,iA,h5',h10,r5i,u1,u2,ci]
  refine Mr (n:=n) (q:=q) (i:=j) (p:=p) (v:=num j) (r5:=r5) (num:=num) hn h5 hN hj rfl ⟨by simp[St,LDB,sx,h1,h2,h3,h4,h5',h10,h11],_,_,_,hDP⟩ (by simp[sx]) ?_
  clear h1 h2 h3 h4 h5' h10 h11 hDP hH
  rintro t g3 ⟨⟨h1,h2,h3,h4,h5',h10,h11,h12,-⟩,V3,E3,D3,hP3⟩
  simp only[sz,simprocAttr,ja]
  refine Mw (n:=n) (q:=q) (i:=j) (p:=p) (v:=num j) (r5:=r5) (num:=num) (P0:=D3.P (num j)) (c0:=D3.c) hd hn hvn hvi hgr hwv ⟨by simp[St,LDB,sx,h1,h2,h3,h4,h5',h10,h11,h12],V3,E3,D3,hP3.dn,hP3.pb,hP3.db,hP3.mv,rfl,rfl⟩ (by simp[sx]) ?_
  clear h1 h2 h3 h4 h5' h10 h11 h12 hP3
  rintro t g4 M ⟨⟨h1,h2,h3,h4,h5',h10,h11,h12,-⟩,V4,E4,D4,hQ4⟩
  simp only[sx,sy,↓reduceIte]
  have hd4:=hQ4.dn
  exact ⟨⟨by simp[St,LDA,h1,h2,h3,h4,h5'],V4,E4,D4,⟨hd4.hp.sub LI,hd4.bn,hd4.vb,hd4.bx,hd4.h0,hd4.h1⟩,hQ4.db.c,hQ4.db.p,hQ4.db.m,hQ4.db.o,fun k hk hkn=>hQ4.db.f k hk hkn⟩,h10⟩
 ·rintro t df g ⟨rfl,h⟩
  exact fin t g h
structure Drafted (m:Net):Prop where
 l:1<=m.nodes.length/\m.nodes.length<=5
 c:∀x∈m.nodes,x.card=2\/x.card=3
 b:∀x∈m.nodes,x.parents.length<=1000/\x.rows.length<=1000/\∀r∈x.rows,r.length<=1000
def H_:VS:=fun P k h v=>∃m:Net,Drafted m/\Agg m P k h v
def V0 (W:AV)(q:Nat):Ky->AV:=fun k=>match k with
 | (0,0)=>W
 | (0,1)=>.hptr q 0 0 0
 | _=>.nils
def E0 (W:AV)(n:Nat)(gr:Int):Ky->En:=fun k=>match k with
 | (0,0)=>.sl 3 (List.replicate n [.int .i64 0,.nils,.nils])
 | (0,1)=>.bx [.int .i64 gr,W]
 | _=>.sl 1 []
def D0:ND:=⟨fun _=>0,fun _=>[],fun _=>0,fun _ _=>[],fun _=>0⟩
theorem hp0 {W:AV}{n q:Nat}{gr:Int}{g:G}(hW:Own g 2 W 3 (List.replicate n [.int .i64 0,.nils,.nils]))(hq:g.h.get q=.cells 2 [[.int .i64 gr,W]] 0 false false)(h2:2<=q/\q<g.nx)(hne:vid W≠some q):Hp g 2 (LNX X1 n D0) (V0 W q) (E0 W n gr):=by
 have hk:∀k,LNX X1 n D0 k->k=(0,0)\/k=(0,1)\/∃i s,k=(i+1,s):=fun k h=>by
  rcases h with h | h
  ·rcases h with h | ⟨i,s,h,-⟩
   ·exact .inl h
   ·exact .inr (.inr ⟨i,s,h⟩)
  ·exact .inr (.inl h)
 refine ⟨fun k h=>?_,fun k l h h' hkl id h1 h3=>?_,by omega⟩
 ·rcases hk k h with rfl | rfl | ⟨i,s,rfl⟩
  ·exact hW
  ·exact ⟨q,h2.1,h2.2,rfl,hq⟩
  ·exact .inl ⟨rfl,rfl⟩
 ·rcases hk k h with rfl | rfl | ⟨i,s,rfl⟩<;>rcases hk l h' with rfl | rfl | ⟨i',s',rfl⟩
  ·exact hkl rfl
  ·have h1:eid W=some id:=h1
   have h3:some q=some id:=h3
   rw[bU hW] at h1
   injection h3 with h3;subst h3
   exact hne h1
  ·cases h3
  ·have h3:eid W=some id:=h3
   have h1:some q=some id:=h1
   rw[bU hW] at h3
   injection h1 with h1;subst h1
   exact hne h3
  ·exact hkl rfl
  ·cases h3
  ·cases h1
  ·cases h1
  ·cases h1
theorem Kx {x:Int}{w:AV}(h:w.cells=[w])(h2:w.isTup=false):eE [.int .i64 0,.nils] [((0,1),.int .i64 x),((1,1),w)]=some [.int .i64 x,w]:=by
 have k1:(AV.int .i64 x).cells=[.int .i64 x]:=rfl
 have k2:(AV.int .i64 x).isTup=false:=rfl
 simp[eE,h,h2,dQ,k1,k2]
 rfl
theorem Ld {a b:AV}(ha:a.cells=[a]/\a.isTup=false)(hb:b.cells=[b]/\b.isTup=false):eE [.nils,.int .u16 0,.nils] [((0,1),a),((2,1),b)]=some [a,.int .u16 0,b]:=by
 simp[eE,ha,hb,dQ]
 rfl
theorem K1 {d k:Nat}{g:G}{P:Nat->Prop}{v:AV}{x:sX}(hd:0<d)(hm:Agg x P k g.h v):∃r,ah C0 d N.bQ [v] g=.val r/\H_ NoP 0 .nil r:=by
 obtain ⟨v',e,cs,rfl,hc⟩:=jD (bE x) (by decide) d hm
 obtain ⟨a,b,rfl,ha,hb⟩:=uV.1 hc
 have ha:=ha.tree (h':=.nil) (Nat.le_refl _)
 have hb:=hb.tree (h':=.nil) (Nat.le_refl _)
 rw[qo]
 refine aN sH (xs:=[.agg [u8v x.1,a,b]]) (by simp only[aB,e]) (by simp[ik]) (i4 fun m=>bE _) (by decide) hd ?_
 simp only[sz,simprocAttr,ik]
 obtain ⟨g0,hg0⟩:∃g0,g0=(G.empty.new (.cells 3 [[u8v x.1,a,b]] 0 false false)).new (.cells 2 [[.int .i64 0,.nils]] 0 false false):=⟨_,rfl⟩
 rw[<-hg0]
 have f0:g0.h.get 0=.cells 3 [[u8v x.1,a,b]] 0 false false:=by rw[hg0];simp[sx,H.get_put]
 have f1:g0.h.get 1=.cells 2 [[.int .i64 0,.nils]] 0 false false:=by rw[hg0];simp[sx]
 have f2:g0.nx=2:=by rw[hg0];simp[sx]
 clear hg0
 have la:=ha.len
 have hal:=ha.1
 unfold jX
 obtain ⟨n,hn,hnb⟩:∃n:Nat,n=min (max x.2.1.length 1) 5/\1<=n/\n<=5:=⟨_,rfl,by omega⟩
 refine dU (P:=fun t' df g'=>df=[]/\g'=g0/\St t' [(1,.hptr 0 0 0 0),(2,.hptr 1 0 0 0),(3,.int .i64 (n:Int))]) ?_ ?_
 ·simp only[sz,simprocAttr,f0,la]
  simp[St,sx]
  omega
 rintro t df g1 ⟨rfl,rfl,h1,h2,h3,-⟩
 obtain ⟨gr,hgr,hgb⟩:∃gr:Int,gr=1+(x.1.toNat:Int) % 60/\0<=gr/\gr<=60:=⟨_,rfl,by omega,by omega⟩
 have q1:=fk .u8 (a:=(x.1.toNat:Int)) (b:=60) (by omega) (by omega)
 have w1:IntKind.wrap .i64 ((x.1.toNat:Int) % 60)=(x.1.toNat:Int) % 60:=aq (by omega) (by omega)
 have w2:IntKind.wrap .i64 (1+(x.1.toNat:Int) % 60)=gr:=by rw[hgr,aq (by omega) (by omega)]
 refine dU (P:=fun t' df g'=>df=[]/\∃q V E D,St t' [(1,.hptr 0 0 0 0),(2,.hptr 1 0 0 0),(3,.int .i64 (n:Int)),(4,.hptr q 0 0 0)]/\DN X1 [u8v x.1,a,b] n q 1000 gr V E D g'/\(∀u,D.P u=[]/\D.m u=0/\D.o u=0)) ?_ ?_
 ·simp only[sz,simprocAttr,sf,h1,h3,f0,u8v,q1,w1,w2]
  refine lT (b:=2) (n:=n) (by unfold aR;omega) (by unfold aR;omega) (by first | (simp;done) | (simp;omega)) fun W g2 hW n2 f2' vW lg2=>?_
  simp only[sy] at n2 f2' vW lg2
  simp only[sz,simprocAttr,sf,Kx hW.cell.1 hW.cell.2,lg2]
  have n2':g1.nx+7=g2.nx:=by omega
  have k0:g2.h.get 0=.cells 3 [[u8v x.1,a,b]] 0 false false:=by rw[f2' 0 (by omega),f0]
  have k1:g2.h.get 1=.cells 2 [[.int .i64 0,.nils]] 0 false false:=by rw[f2' 1 (by omega),f1]
  refine ⟨?_,g2.nx+1+1,V0 W (g2.nx+1+1),E0 W n gr,D0,by simp[St,sx,h1,h2,h3],⟨hp0 ?_ ?_ ⟨by omega,by simp⟩ ?_,⟨?_,fun u _=>⟨rfl,by show 0<=1000;omega⟩,fun u _=>⟨rfl,by show 0<=1000;omega⟩,fun u r _ hr=>by cases hr⟩,rfl,rfl,?_,?_⟩,fun u=>⟨rfl,rfl,rfl⟩⟩
  ·simp only[List.reverse_cons,List.reverse_nil,List.nil_append,List.cons_append,G.new_lg,G.put_lg,setLog_lg]
   refine aO [false,false,false,false,false,false,true,false,true,true] [(0,6),(1,6),(2,6),(3,6),(4,6),(0,8),(1,8),(2,8),(3,8),(4,8),(5,8),(6,8),(7,8)] (by simp[All2,an,ay]) (by decide) ?_
   rintro p hp' x y hx hy
   simp only[List.mem_cons,List.not_mem_nil,or_false] at hp'
   rcases hp' with rfl | rfl | rfl | rfl | rfl | rfl | rfl | rfl | rfl | rfl | rfl | rfl | rfl<;>(simp at hx hy;subst hx;subst hy;refine cU rfl rfl rfl rfl ?_ ?_ ?_<;>simp[an,ay,ak]<;>omega)
  ·refine hW.fr (by simp;omega) fun i hi=>?_
   have:=fq vW hi
   simp[H.get_put,show ¬i=g2.nx+1+1 by omega]
  ·simp[H.get_put]
  ·intro e
   have:=fq vW e
   omega
  ·show En.sl 3 (List.replicate n [.int .i64 0,.nils,.nils])=En.sl 3 ((List.range n).map fun _=>[.int .i64 0,.nils,.nils])
   congr 1
   rw[List.map_const',List.length_range]
  ·simp[H.get_put,k0];rfl
  ·simp[H.get_put,k1]
 clear h1 h2 h3
 rintro t df g2 ⟨rfl,q,V,E,D,⟨h1,h2,h3,h4,-⟩,hD,hD0⟩
 obtain ⟨num,hN⟩:=M2 x.2.2 n
 refine dU (P:=fun t' df g'=>df=[]/\Fr g2 g'/\∃r5,IT 0 (S.aE x.2.2 n) r5/\St t' (LDA n q r5)) ?_ ?_
 ·simp only[sz,simprocAttr,sf,h3]
  refine lT (b:=2) (n:=n) (by unfold aR;omega) (by unfold aR;omega) (by have:=hD.hp.nx;first | (simp;done) | (simp;omega)) fun U g3 hU n3 f3 vU lg3=>?_
  simp only[sy] at n3 f3 vU lg3
  have e0:g3.h.get 0=.cells 3 [[u8v x.1,a,b]] 0 false false:=by rw[f3 0 (by have:=hD.hp.nx;omega),hD.h0]
  simp only[sz,simprocAttr,sf,h1,e0,Ld hU.cell hb.cell]
  have hU':Own g3 2 U 1 ((List.replicate n (0:UInt8)).map fun y=>[u8v y]):=by simpa [u8v] using hU
  have hpm:∀g4:G,g4.h=g3.h->∃r,ah C0 (d+1) N.aE [.agg [U,.int .u16 0,b]] g4=.val r/\IT 0 (S.aE x.2.2 n) r:=fun g4 h=>by
   have:=yP (d:=d+1) (g:=g4) (k:=max k d) (P:=fun _=>True) (x:=(List.replicate n (0:UInt8),(0:UInt16),x.2.2)) (v:=.agg [U,.int .u16 0,b]) (Nat.succ_pos d) ⟨_,rfl,qX.2 ⟨U,b,rfl,?_,?_⟩⟩
   ·have e:min (List.replicate n (0:UInt8)).length 5=n:=by simp;omega
    rw[e] at this
    exact this
   ·rw[h]
    exact Own.sl (α:=UInt8) hU' (by simp;omega) (All2.of_map (fun y=>dS.2 rfl) _) fun _ _=>trivial
   ·exact (hb.tree (h':=g4.h) (Nat.le_refl _)).wd fun _ h=>h.elim
  refine bi (hpm _ (by simp)) fun r hr=>?_
  simp only[sz,simprocAttr,sf,jA]
  refine ⟨?_,⟨?_,fun i hi=>?_⟩,r,hr,?_⟩
  ·simp only[List.reverse_cons,List.reverse_nil,List.nil_append,List.cons_append]
   refine aO [false,true,false,false,false,false,false] [(1,2),(1,3)] (by simp[All2,an,ay]) (by decide) ?_
   rintro p hp' x y hx hy
   simp only[List.mem_cons,List.not_mem_nil,or_false] at hp'
   rcases hp' with rfl | rfl<;>(simp at hx hy;subst hx;subst hy;refine cU rfl rfl rfl rfl ?_ ?_ ?_<;>simp[an,ay,ak,lg3])
  ·simp;omega
  ·simp
   exact f3 i (by omega)
  ·simp[St,LDA,sx,h1,h2,h3,h4]
 clear h1 h2 h3 h4
 rintro t df g3 ⟨rfl,f3,r5,hr5,⟨h1,h2,h3,h4,h5,-⟩⟩
 have hD3:=hD.same f3
 simp only[sz,simprocAttr]
 refine Ms (n:=n) (q:=q) (x:=x) (gr:=gr) (r5:=r5) (num:=num) hnb ha hr5 hN ⟨by simp[St,LDA,sx,h1,h2,h3,h4,h5],⟨1,by simp[sx],by decide⟩,V,E,D,hD3,fun v _=>⟨(hD0 v).1,(hD0 v).2.1⟩,fun k hk=>by omega,fun u=>(hD0 u).2.2⟩ (by simp[sx]) ?_
 clear h1 h2 h3 h4 h5 hD3
 rintro t g4 ⟨⟨h1,h2,h3,h4,h5,-⟩,-,V4,E4,D4,hD4,hok⟩
 simp only[sz,simprocAttr,io]
 refine K7 (n:=n) (q:=q) (x:=x) (gr:=gr) (r5:=r5) (num:=num) (Nat.succ_pos d) hgb hnb ha hr5 hN ⟨by simp[St,LDA,sx,h1,h2,h3,h4,h5],V4,E4,D4,hD4,fun u hu=>?_,fun u hu=>?_,fun u hu=>?_,?_,fun k _ hk=>hok.e _ (hN.lt k hk)⟩ (by simp[sx]) ?_
 ·obtain ⟨k,hk,rfl⟩:=hN.sur u hu
  exact hok.c k hk
 ·rw[(hok.e u hu).1];simp
 ·rw[(hok.e u hu).2];omega
 ·exact hok.o
 clear h1 h2 h3 h4 h5
 rintro t g5 ⟨⟨h1,h2,h3,h4,h5,-⟩,V5,E5,D5,hD5,hb5⟩
 obtain ⟨kq,q2a,q2b⟩:=hD5.q rfl
 simp only[sz,simprocAttr,ir,h4,kq,h2,hD5.h1]
 have hnodes:=hD5.bn.nodes hD5.hp (fun k h=>.inl h) (by omega) (by omega)
 refine ⟨fun _=>True,⟨gr,(List.range n).map D5.node⟩,⟨by simpa using hnb,fun y hy=>?_,fun y hy=>?_⟩,⟨_,rfl,dh.2 ⟨_,rfl,hnodes.wd fun i hi=>⟨trivial,by simp[H.get_put,show ¬i=1 by omega]⟩⟩⟩⟩
 ·obtain ⟨u,hu,rfl⟩:=List.mem_map.1 hy
  exact hb5.c u (List.mem_range.1 hu)
 ·obtain ⟨u,hu,rfl⟩:=List.mem_map.1 hy
  have hu:=List.mem_range.1 hu
  refine ⟨(hD5.bn.ps u hu).2,?_,fun r hr=>?_⟩
  ·show ((List.range (D5.m u)).map (D5.R u)).length<=1000
   simpa using (hD5.bn.rs u hu).2
  ·obtain ⟨r',hr',rfl⟩:=List.mem_map.1 hr
   exact (hD5.bn.rr u r' hu (List.mem_range.1 hr')).1
def EvV (n:Net):VS:=fun P k h v=>∃l:List Int,S.aB n l=true/\One l P k h v
theorem M5 (n:Net):Snb (EvV n) 0:=by
 refine ⟨fun {P k h v n} d r hn=>?_,fun {k h v n} r hn=>?_⟩
 ·obtain ⟨m,hm,r⟩:=r
  obtain ⟨v',e,r'⟩:=(aK m).snap d r hn
  exact ⟨v',e,m,hm,r'⟩
 ·obtain ⟨m,hm,r⟩:=r
  exact (aK m).tag r hn
def evP (n:Net)(l:List Int):Prop:=∀(i:Nat) (x:Int) (c:Node),l[i]?=some x->n.nodes[i]?=some c->-1<=x/\x<c.card
theorem KP {n:Net}{l:List Int}(hl:l.length=n.nodes.length)(h:evP n l):S.aB n l=true:=by
 simp only[S.aB,Bool.and_eq_true,decide_eq_true_eq,List.all_eq_true,List.mem_range]
 refine ⟨hl,fun i hi=>?_⟩
 obtain ⟨x,hx⟩:∃x,l[i]?=some x:=⟨_,List.getElem?_eq_getElem hi⟩
 obtain ⟨c,hc⟩:∃c,n.nodes[i]?=some c:=⟨_,List.getElem?_eq_getElem (by omega)⟩
 have:=h i x c hx hc
 simpa [S.aa,hx,hc] using this
theorem IR {d k:Nat}{g:G}{P:Nat->Prop}{w:AV}{m:Net}{vs:List UInt8}(hd:0<d)(hv:vs.length=9)(hm:Agg m P k g.h w)(hn:m.nodes.length<=8)(hc:∀x∈m.nodes,0<x.card) :
  ∃r,ah C0 d N.a8 [.agg (vs.map u8v),w] g=.val r/\EvV m NoP 0 .nil r:=by
 obtain ⟨v',e,cs,rfl,hcs⟩:=jD (bE m) (by decide) d hm
 obtain ⟨b,rfl,hN⟩:=dh.1 hcs
 obtain ⟨rows,r1,r2,r3,r4⟩:=hN.all
 have r1:∀h',af h' 3 b=some rows:=r1
 rw[rG]
 refine aN tV (xs:=[.agg (vs.map u8v),.agg [.int .i64 m.grain,b]]) (by simp only[aB,e,C1]) (by simp[iJ]) (M5 m) (by decide) hd ?_
 obtain ⟨cu8,hcu⟩:∃c,c=vs.map u8v:=⟨_,rfl⟩
 have hcl:cu8.length=9:=by rw[hcu,List.length_map,hv]
 simp only[sz,simprocAttr,iJ,<-hcu]
 generalize hg0:((G.empty.new (AObj.cells cu8.length [cu8] 0 false false)).new (AObj.cells 2 [[AV.int IntKind.i64 m.grain,b]] 0 false false))=g0
 have f0:g0.h.get 0=.cells 9 [cu8] 0 false false:=by rw[<-hg0,hcl];simp[sx,H.get_put]
 have f1:g0.h.get 1=.cells 2 [[.int .i64 m.grain,b]] 0 false false:=by rw[<-hg0];simp[sx]
 have f2:2<=g0.nx:=by rw[<-hg0];simp[sx]
 clear hg0
 simp only[sz,simprocAttr,kC]
 refine bh m.nodes.length (by omega) (fun j t df g=>df=[]/\St t [(2,.hptr 0 0 0 0),(3,.hptr 1 0 0 0)]/\g.h.get 0=.cells 9 [cu8] 0 false false/\g.h.get 1=.cells 2 [[.int .i64 m.grain,b]] 0 false false/\2<=g.nx/\∃u L,tat t 5=u/\L.length=j/\evP m L/\Own g 2 u 1 (L.map ci))
  ⟨rfl,by simp[sx,St],f0,f1,f2,_,[],rfl,rfl,fun i x c hx=>by simp at hx,.inl ⟨by simp[sx],rfl⟩⟩ (by simp[sx]) (by decide) (by rintro j t df g v s (rfl | rfl | rfl)<;>simp[sx,St]) ?_ ?_ ?_
 ·rintro j t df g hj ⟨rfl,⟨h2,h3,-⟩,e0,e1,hnx,u,L,h5,hu⟩ h6
  simp only[sz,simprocAttr,h2,h3,h6,e0,e1,hN.len,St]
  exact ⟨hnx,u,L,h5,hu⟩
 ·rintro j t df g hj ⟨rfl,⟨h2,h3,-⟩,e0,e1,hnx,u,L,h5,hLl,hLp,hu⟩ h6
  obtain ⟨x,hx,htk,hm⟩:=ae hj
  obtain ⟨row,z1,z2⟩:=r3 j x hx
  obtain ⟨fa,fb,rfl,-⟩:=bM.1 z2
  have hlt:j<rows.length:=by omega
  have hry:=r4 (by omega)
  have hj8:j<8:=by omega
  obtain ⟨y0,hy0⟩:∃y,vs[0]?=some y:=⟨_,List.getElem?_eq_getElem (by omega)⟩
  have hc0:cu8[0]?=some (.int .u8 (y0.toNat:Int)):=by rw[hcu,List.getElem?_map,hy0];rfl
  obtain ⟨y,hy⟩:∃y,vs[1+j]?=some y:=⟨_,List.getElem?_eq_getElem (by omega)⟩
  have hcy:cu8[1+j]?=some (.int .u8 (y.toNat:Int)):=by rw[hcu,List.getElem?_map,hy];rfl
  have hy8:y.toNat<256:=y.toNat_lt
  have hcx:=hc x hm
  obtain ⟨z,hz⟩:=Ak y0.toNat j
  obtain ⟨z',hz'⟩:=Aq z 1
  have hz':cA .and (.int .u8 (z:Int)) (.int .u8 1)=.val (.int .u8 z'):=hz'
  have w8:IntKind.wrap .i64 (y.toNat:Int)=(y.toNat:Int):=aq (by omega) (by omega)
  have w9:IntKind.wrap .u64 (j:Int)=(j:Int):=mq (by omega) (by omega)
  have key:∀(t:T) (X:Int),-1<=X->X<x.card->St t [(2,.hptr 0 0 0 0),(3,.hptr 1 0 0 0),(5,u),(6,.int .i64 (j:Int)),(7,.int .i64 X)] ->
    wp C0 (d+1) none fP (fun e t df g=>e=.norm/\(df=[]/\St t [(2,.hptr 0 0 0 0),(3,.hptr 1 0 0 0)]/\g.h.get 0=.cells 9 [cu8] 0 false false/\g.h.get 1=.cells 2 [[.int .i64 m.grain,b]] 0 false false/\2<=g.nx/\∃u L,tat t 5=u/\L.length=j+1/\evP m L/\Own g 2 u 1 (L.map ci))/\tat t 6=.int .i64 (j:Int)) t [] g:=by
   rintro t X hX1 hX2 ⟨h2,h3,h5,h6,h7,-⟩
   simp only[sz,simprocAttr,fP,h5,h7]
   refine ba (new:=[ci X]) (hu.step (Fr.new _ _)) (by simp[sx,sy,ci]) (by simp;omega) (by simp[aR,hLl];omega) fun v2 g2 hv2 n2 f2 _ l2=>?_
   simp only[sz,simprocAttr,h2,h3,h6,St]
   refine ⟨?_,?_,?_,_,L++[X],rfl,by simp[hLl],?_,?_⟩
   ·rw[f2 0 (by simp) (fun e=>by have:=(hu.lt e).1;omega),G.new_h,aD _ _ _ (by omega),e0]
   ·rw[f2 1 (by simp;omega) (fun e=>by have:=(hu.lt e).1;omega),G.new_h,aD _ _ _ (by omega),e1]
   ·simp at n2;omega
   ·intro i a c ha hc'
    by_cases e:i=j
    ·subst e
     rw[hx] at hc';injection hc' with hc';subst hc'
     rw[<-hLl,List.getElem?_concat_length] at ha
     injection ha with ha;subst ha
     exact ⟨hX1,hX2⟩
    ·have hil:i<L.length:=by
      have:=(List.getElem?_eq_some_iff.1 ha).1
      simp at this;omega
     rw[List.getElem?_append_left hil] at ha
     exact hLp i a c ha hc'
   ·simpa [ci] using hv2
  simp only[sz,simprocAttr,h2,h6,e0,hc0,w9,hz,hz']
  refine aT (fun hb=>?_) (fun hb=>?_)
  ·have hm0:0<=(y.toNat:Int) % x.card:=Int.emod_nonneg _ (by omega)
   have hm1:(y.toNat:Int) % x.card<x.card:=Int.emod_lt_of_pos _ (by omega)
   simp only[sz,simprocAttr,h2,h3,h6,e0,e1,IN 8 1 _ _ _ _ _ hj8,Nat.mul_one,hcy,w8,r1,hlt,z1,hry,fk .i64 (show 0<=(y.toNat:Int) by omega) hcx]
   refine ct _ (key _ ((y.toNat:Int) % x.card) (by omega) hm1 (by simp[St,sx,h2,h3,h5,h6])) ?_
   rintro e t df g ⟨rfl,h⟩
   exact h
  ·simp only[sx]
   refine ct _ (key _ (-1) (by omega) (by omega) (by simp[St,sx,h2,h3,h5,h6])) ?_
   rintro e t df g ⟨rfl,h⟩
   exact h
 ·rintro t df g ⟨rfl,⟨h2,h3,-⟩,e0,e1,hnx,u,L,h5,hLl,hLp,hu⟩
  simp only[sz,simprocAttr,jN,h5]
  exact ⟨_,L,KP hLl hLp,hu.ints (by omega)⟩
theorem tK {α β:Type}{R:α->β->Prop}:∀{l:List α} {m:List β},l.length=m.length->(∀(i:Nat) (a:α) (b:β),l[i]?=some a->m[i]?=some b->R a b)->All2 R l m
 | [],[],_,_=>trivial
 | [],_::_,h,_=>by simp at h
 | _::_,[],h,_=>by simp at h
 | a::l,b::m,h,hr=>⟨hr 0 a b rfl rfl,tK (by simpa using h) fun i x y hx hy=>hr (i+1) x y (by simpa using hx) (by simpa using hy)⟩
def jH (V:Ky->AV)(i:Nat)(c:Int):List AV:=[.int .i64 c,V (i+1,0),V (i+1,1)]
structure NdOk (K:Nat) (V:Ky->AV) (E:Ky->En) (i:Nat) (x:Node):Prop where
 ps:E (i+1,0)=.sl 1 (x.parents.map ci)
 rs:∃rws,E (i+1,1)=.sl 1 rws/\rws.length=x.rows.length/\∀(r:Nat) (y:List Int),x.rows[r]?=some y->rws[r]?=some [V (i+1,2+r)]
 rr:∀(r:Nat) (y:List Int),x.rows[r]?=some y->E (i+1,2+r)=.sl 1 (y.map ci)
 len:x.parents.length<=K/\x.rows.length<=K/\∀y∈x.rows,y.length<=K
theorem NdOk.congr {K i:Nat}{V V':Ky->AV}{E E':Ky->En}{x:Node}(h:NdOk K V E i x)(hv:∀q,V' (i+1,q)=V (i+1,q))(he:∀q,E' (i+1,q)=E (i+1,q)):NdOk K V' E' i x:=by
 obtain ⟨rws,h1,h2,h3⟩:=h.rs
 exact ⟨by rw[he];exact h.ps,⟨rws,by rw[he];exact h1,h2,fun r y hy=>by rw[hv];exact h3 r y hy⟩,fun r y hy=>by rw[he];exact h.rr r y hy,h.len⟩
theorem NdOk.up {K K' i:Nat}{V:Ky->AV}{E:Ky->En}{x:Node}(h:NdOk K V E i x)(hk:K<=K'):NdOk K' V E i x :=
 ⟨h.ps,h.rs,h.rr,Nat.le_trans h.len.1 hk,Nat.le_trans h.len.2.1 hk,fun y hy=>Nat.le_trans (h.len.2.2 y hy) hk⟩
theorem NdOk.rows {g:G}{K i:Nat}{V:Ky->AV}{E:Ky->En}{x:Node}{L:Ky->Prop}(h:NdOk K V E i x)(hH:Hp g 3 L V E)(hL:∀q,q<2+x.rows.length->L (i+1,q))(hK:K<=2000000):SlR P3 0 g.h x.rows (V (i+1,1)):=by
 obtain ⟨rws,h1,h2,h3⟩:=h.rs
 have ho:=hH.own (hL 1 (by omega)) h1
 refine Own.sl (α:=List Int) ho (by have:=h.len;omega) (tK h2.symm fun r y row hy hr=>?_) fun j hj=>(ho.lt hj).1
 rw[h3 r y hy] at hr
 injection hr with hr;subst hr
 have hr:=(List.getElem?_eq_some_iff.1 hy).1
 exact a8.2 ⟨_,rfl,q7 (hH.own (hL (2+r) (by omega)) (h.rr r y hy)) (by have:=h.len.2.2 y (List.mem_of_getElem? hy);omega) fun _ h=>h⟩
theorem NdOk.pars {g:G}{K i:Nat}{V:Ky->AV}{E:Ky->En}{x:Node}{L:Ky->Prop}(h:NdOk K V E i x)(hH:Hp g 3 L V E)(hL:L (i+1,0))(hK:K<=2000000):SlR P3 0 g.h x.parents (V (i+1,0)) :=
 q7 (hH.own hL h.ps) (by have:=h.len;omega) fun _ h=>h
theorem NdOk.rd {g:G}{K i:Nat}{V:Ky->AV}{E:Ky->En}{x:Node}{L:Ky->Prop}(h:NdOk K V E i x)(hH:Hp g 3 L V E)(hL:∀q,q<2+x.rows.length->L (i+1,q))(hK:K<=2000000):Rp.rp P3 0 g.h x (jH V i x.card) :=
 bM.2 ⟨_,_,rfl,h.pars hH (hL 0 (by omega)) hK,h.rows hH hL hK⟩
def LS (L:List Node):Ky->Prop:=fun k=>k=(0,0)\/∃i q x,k=(i+1,q)/\L[i]?=some x/\q<2+x.rows.length
theorem LS.z {L:List Node}:LS L (0,0):=.inl rfl
theorem LS.s {L:List Node}{i q:Nat}{x:Node}(h:L[i]?=some x)(hq:q<2+x.rows.length):LS L (i+1,q):=.inr ⟨i,q,x,rfl,h,hq⟩
theorem LS.nb {L:List Node}:¬LS L (0,1):=by
 rintro (h | ⟨i,q,x,h,-⟩)<;>simp at h
theorem LS.lt {L:List Node}{i q:Nat}(h:LS L (i+1,q)):i<L.length:=by
 rcases h with h | ⟨i',q',x,h,hx,-⟩
 ·simp at h
 ·simp only[Prod.mk.injEq] at h
  have:=(List.getElem?_eq_some_iff.1 hx).1
  omega
structure BLs (K:Nat) (V:Ky->AV) (E:Ky->En) (L:List Node):Prop where
 ns:∃rows,E (0,0)=.sl 3 rows/\rows.length=L.length/\∀(i:Nat) (x:Node),L[i]?=some x->rows[i]?=some (jH V i x.card)
 nd:∀(i:Nat) (x:Node),L[i]?=some x->NdOk K V E i x
theorem BLs.congr {K:Nat}{V V':Ky->AV}{E E':Ky->En}{L:List Node}(h:BLs K V E L)(hv:∀i q,i<L.length->V' (i+1,q)=V (i+1,q))(he:∀i q,i<L.length->E' (i+1,q)=E (i+1,q))(h0:E' (0,0)=E (0,0)):BLs K V' E' L:=by
 obtain ⟨rows,h1,h2,h3⟩:=h.ns
 have lt:∀{i:Nat} {x:Node},L[i]?=some x->i<L.length:=fun hx=>(List.getElem?_eq_some_iff.1 hx).1
 exact ⟨⟨rows,by rw[h0];exact h1,h2,fun i x hx=>by rw[h3 i x hx,jH,jH,hv i _ (lt hx),hv i _ (lt hx)]⟩,fun i x hx=>(h.nd i x hx).congr (fun q=>hv i q (lt hx)) fun q=>he i q (lt hx)⟩
theorem Dr {g:G}{W:AV}{rows:List (List AV)}(ho:Own g 3 W 3 rows)(hl:rows.length<=2000000)(h:∀(i:Nat) (row:List AV),rows[i]?=some row->∃x:Node,Rp.rp P3 0 g.h x row):∃nds:List Node,nds.length=rows.length/\SlR P3 0 g.h nds W:=by
 have key:∀(rs:List (List AV)),(∀(i:Nat) (row:List AV),rs[i]?=some row->∃x:Node,Rp.rp P3 0 g.h x row)->∃nds:List Node,nds.length=rs.length/\All2 (Rp.rp P3 0 g.h) nds rs:=by
  intro rs
  induction rs with
  | nil=>intro _;exact ⟨[],rfl,trivial⟩
  | cons r rs ih =>
   intro hh
   obtain ⟨x,hx⟩:=hh 0 r rfl
   obtain ⟨nds,hn,ha⟩:=ih fun i row hr=>hh (i+1) row (by simpa using hr)
   exact ⟨x::nds,by simp[hn],hx,ha⟩
 obtain ⟨nds,hn,ha⟩:=key rows h
 exact ⟨nds,hn,Own.sl (α:=Node) ho (by omega) ha fun i hi=>(ho.lt hi).1⟩
def BBn (g:G)(brow:List AV)(gr:Int)(b:AV):Prop:=g.h.get 0=.cells 4 [brow] 0 false false/\g.h.get 1=.cells 2 [[.int .i64 gr,b]] 0 false false/\g.h.get 2=.cells 2 [[.int .i64 0,.nils]] 0 false false
theorem BBn.fr {g g':G}{brow:List AV}{gr:Int}{b:AV}(h:BBn g brow gr b)(hf:∀i,i<3->g'.h.get i=g.h.get i):BBn g' brow gr b :=
 ⟨by rw[hf 0 (by omega),h.1],by rw[hf 1 (by omega),h.2.1],by rw[hf 2 (by omega),h.2.2]⟩
def LX (L:List Node)(x:Node):Ky->Prop:=fun k=>LS L k\/k=(0,1)\/∃q,k=(L.length+1,q)/\q<2+x.rows.length
theorem LX.b {L:List Node}{x:Node}:LX L x (0,1):=.inr (.inl rfl)
theorem LX.n {L:List Node}{x:Node}{q:Nat}(h:q<2+x.rows.length):LX L x (L.length+1,q):=.inr (.inr ⟨q,rfl,h⟩)
structure NB (K p:Nat) (L:List Node) (x:Node) (g:G) (brow:List AV) (gr:Int) (b W:AV) (V:Ky->AV) (E:Ky->En):Prop where
 hp:Hp g 3 (LX L x) V E
 bb:BBn g brow gr b
 vb:V (0,1)=.hptr p 0 0 0
 bx:E (0,1)=.bx (jH V L.length x.card)
 nd:NdOk K V E L.length x
 bl:BLs K V E L
 vw:V (0,0)=W
theorem NB.box {K p:Nat}{L:List Node}{x:Node}{g:G}{brow:List AV}{gr:Int}{b W:AV}{V:Ky->AV}{E:Ky->En}(h:NB K p L x g brow gr b W V E):g.h.get p=.cells 3 [[.int .i64 x.card,V (L.length+1,0),V (L.length+1,1)]] 0 false false/\3<=p/\p<g.nx:=by
 obtain ⟨id,h1,h2,h3,h4⟩:=h.hp.box LX.b h.bx
 rw[h.vb] at h3;injection h3 with h3;subst h3
 exact ⟨h4,h1,h2⟩
def LNB (j p:Nat)(W:AV):List (Nat×AV):=[(2,.hptr 0 0 0 0),(3,.hptr 1 0 0 0),(4,.hptr 2 0 0 0),(5,W),(6,.int .i64 (j:Int)),(7,.hptr p 0 0 0)]
theorem MS {d K p k:Nat}{L:List Node}{c:Int}{ps:List Int}{g:G}{brow:List AV}{gr:Int}{b W fa fb:AV}{rows:List (List AV)}{V:Ky->AV}{E:Ky->En}{Q:QT}{t:T}(hK:K<=1000000)
  (r1:∀h',af h' 3 b=some rows) (z1:rows[L.length]?=some [.int .i64 c,fa,fb]) (hry:iX b=true) (hfa:SlR NoP k .nil ps fa) (hl:ps.length<=K)
  (ht:St t (LNB L.length p W)) (hN:NB K p L ⟨c,[],[]⟩ g brow gr b W V E)
  (kk:∀t g V E,St t (LNB L.length p W)->NB K p L ⟨c,ps,[]⟩ g brow gr b W V E->Q .norm t [] g) :
  wp C0 d none (.feet [0,1,0,4,0,28,60,124,255,511,1023] [oF 29 1 7,oL 30 29,oF 31 1 3,oL 32 31,oM 33 6,o 34 (.ixs 3 (.t 32) (.t 33)),oF 35 1 34,oL 36 35,o 37 (.app 1 8 (.t 30) (.t 36)),oF 38 1 7,oz (.store 1 (.t 38) (.t 37))]) Q t [] g:=by
 obtain ⟨h2,h3,h4,h5,h6,h7,-⟩:=ht
 have hlt:L.length<rows.length:=(List.getElem?_eq_some_iff.1 z1).1
 obtain ⟨hgx,hp1,hp2⟩:=hN.box
 have hnx:=hN.hp.nx
 have he1:E (L.length+1,0)=.sl 1 []:=hN.nd.ps
 simp only[sz,simprocAttr,sf,h3,h6,h7,hN.bb.2.1,r1,hlt,z1,hry,hgx]
 refine (hN.hp.same (g':=_) (by simp) (by simp<;>omega)).app (k:=(L.length+1,0)) (LX.n (by omega)) he1 (new:=ps.map ci) (by simpa using (hfa.tree (h':=g.h) (Nat.le_refl _)).ints) (by simp[aR];omega) fun v1 ga hHa na fra fsa lga vca vta=>?_
 simp only[sy] at na fra fsa lga
 have kb:(0,1)≠(L.length+1,0):=by simp
 obtain ⟨p',hp1',hp2',hp3',hgx'⟩:=hHa.box (k:=(0,1)) LX.b (by rw[ac _ _ (by simp<;>omega)];exact hN.bx)
 rw[ac _ _ (by simp<;>omega),hN.vb] at hp3';injection hp3' with hp3';subst hp3'
 have hgx':ga.h.get p=.cells 3 [[.int .i64 c,V (L.length+1,0),V (L.length+1,1)]] 0 false false:=hgx'
 simp only[sz,simprocAttr,sf,h7,hgx',vca,vta]
 refine ⟨?_,?_⟩
 ·simp only[List.reverse_cons,List.reverse_nil,List.nil_append,List.cons_append]
  exact aO [false,false,false,false,false,false,false,false,true,false,true] [] (by simp[All2,an,ay]) (by decide) (by simp)
 have hHb:=(hHa.same (g':=aJ (jl (aJ (jl ga []) []) []) []) (by simp) (by simp<;>omega)).putb (k:=(0,1)) LX.b (row:=jH V L.length c) (row':=[.int .i64 c,v1,V (L.length+1,1)]) (by rw[ac _ _ (by simp<;>omega)];exact hN.bx) (by rw[ac _ _ (by simp<;>omega)];exact hN.vb) rfl
 refine kk _ _ (ups V (L.length+1,0) v1) (ups (ups E (L.length+1,0) (En.sl 1 ([]++ps.map ci))) (0,1) (En.bx [.int .i64 c,v1,V (L.length+1,1)])) (by simp[St,LNB,sx,h2,h3,h4,h5,h6,h7]) ?_
 refine ⟨hHb.same (by simp[jH]) (by simp),hN.bb.fr (fun i hi=>by simp[H.get_put];rw[if_neg (by omega),fra i hi]),by rw[ac _ _ (by simp<;>omega)];exact hN.vb,?_,⟨?_,?_,fun r y hr=>by simp at hr,hl,by show 0<=K;omega,fun y hy=>by simp at hy⟩,?_,by rw[ac _ _ (by simp<;>omega)];exact hN.vw⟩
 ·rw[ap,jH,ap,ac V (k:=(L.length+1,0)) (j:=(L.length+1,1)) _ (by simp)]
 ·rw[ac _ _ (by simp<;>omega),ap];rfl
 ·obtain ⟨rws,q1,q2,q3⟩:=hN.nd.rs
  exact ⟨rws,by rw[ac _ _ (by simp<;>omega),ac _ _ (by simp<;>omega)];exact q1,q2,fun r y hr=>by simp at hr⟩
 ·refine hN.bl.congr (fun i q hi=>?_) (fun i q hi=>?_) ?_
  ·rw[ac _ _ (by simp<;>omega)]
  ·rw[ac _ _ (by simp<;>omega),ac _ _ (by simp<;>omega)]
  ·rw[ac _ _ (by simp<;>omega),ac _ _ (by simp<;>omega)]
theorem M3 {d K p k i:Nat}{L:List Node}{c:Int}{ps y:List Int}{R:List (List Int)}{g:G}{brow:List AV}{gr:Int}{b W fa fb fy:AV}{rows rws:List (List AV)}{V:Ky->AV}{E:Ky->En}{Q:QT}{t:T}(hK:K<=1000000)
  (r1:∀h',af h' 3 b=some rows) (z1:rows[L.length]?=some [.int .i64 c,fa,fb]) (hry:iX b=true) (w1:∀h',af h' 1 fb=some rws) (hryb:iX fb=true) (w2:rws[i]?=some [fy]) (hfy:SlR NoP k .nil y fy) (hl:y.length<=K) (hRl:R.length=i) (hi:i<K)
  (ht:St t (LNB L.length p W)) (h8:tat t 8=.int .i64 (i:Int)) (h9:tat t 9=.nils) (hN:NB K p L ⟨c,ps,R⟩ g brow gr b W V E)
  (kk:∀t g V E,St t (LNB L.length p W)->tat t 8=.int .i64 (i:Int)->NB K p L ⟨c,ps,R++[y]⟩ g brow gr b W V E->Q .norm t [] g) :
  wp C0 d none (.feet [0,1,0,0,8,0,56,120,248,0,1016,2040,4092,8188,16383,32767,65535] [oF 50 2 7,oL 51 50,oM 52 9,oF 53 1 3,oL 54 53,oM 55 6,o 56 (.ixs 3 (.t 54) (.t 55)),oF 57 2 56,oL 58 57,oM 59 8,oX 60 58 59,oL 61 60,o 62 (.app 1 8 (.t 52) (.t 61)),o 63 (.bsl 1 1 [.nils] [0] [.t 62]),o 64 (.app 1 24 (.t 51) (.t 63)),oF 65 2 7,oz (.store 1 (.t 65) (.t 64))]) Q t [] g:=by
 obtain ⟨h2,h3,h4,h5,h6,h7,-⟩:=ht
 have hlt:L.length<rows.length:=(List.getElem?_eq_some_iff.1 z1).1
 have hlt2:i<rws.length:=(List.getElem?_eq_some_iff.1 w2).1
 obtain ⟨hgx,hp1,hp2⟩:=hN.box
 have hnx:=hN.hp.nx
 obtain ⟨rw0,e1,e2,e3⟩:=hN.nd.rs
 have e2:rw0.length=i:=by rw[e2];exact hRl
 simp only[sz,simprocAttr,sf,h3,h6,h7,h8,h9,hN.bb.2.1,r1,hlt,z1,hry,w1,hlt2,w2,hgx]
 refine vY (b:=3) (rows:=[]) (new:=y.map ci) (.inl ⟨rfl,rfl⟩) (by simpa using (hfy.tree (h':=g.h) (Nat.le_refl _)).ints) (by simp<;>omega) (by simp[aR];omega) fun v2 g2 hv2 n2 fr2 vid2 lg2=>?_
 simp only[sy] at n2 fr2 vid2 lg2
 have hnk:¬LX L ⟨c,ps,R⟩ (L.length+1,2+i):=by
  rintro (h | h | ⟨q,h,hq⟩)
  ·have:=h.lt;omega
  ·simp at h
  ·simp only[Prod.mk.injEq] at h
   simp at hq;omega
 have hH2:=hN.hp.add (k:=(L.length+1,2+i)) (L':=LX L ⟨c,ps,R++[y]⟩) (v':=v2) (e':=.sl 1 (y.map ci)) hnk hv2 (by omega) (fun j _ hj=>fr2 j (by omega) (by simp[vid])) (fun j hj=>by
   rw[bU hv2] at hj
   rcases vid2 with h | ⟨i',h,hi'⟩
   ·rw[h] at hj;cases hj
   ·rw[h] at hj;injection hj with hj;omega) (fun k hk=>by
   rcases hk with h | h | ⟨q,h,hq⟩
   ·exact .inl (.inl h)
   ·exact .inl (.inr (.inl h))
   ·simp at hq
    by_cases e:q=2+i
    ·rw[e] at h;exact .inr h
    ·exact .inl (.inr (.inr ⟨q,h,by simp;omega⟩)))
 simp only[sz,simprocAttr,sf,hv2.cell.1,hv2.cell.2]
 have v1e:ups V (L.length+1,2+i) v2 (L.length+1,1)=V (L.length+1,1):=ac _ _ (by simp<;>omega)
 rw[<-v1e]
 refine (hH2.step (g':=_) ?_ ?_).app2 (k:=(L.length+1,1)) (LX.n (by omega)) (by rw[ac _ _ (by simp<;>omega)];exact e1) (new:=[[v2]]) (by simp[sx,sy]) (by simp[aR];omega) fun v3 g3 hH3 n3 fb3 fo3 lg3 vc3 vt3=>?_
 ·simp;omega
 ·intro j _ hj
  simp[H.get_put];omega
 simp only[sx,sy] at n3 fb3 fo3 lg3
 obtain ⟨p',hp1',hp2',hp3',hgx'⟩:=hH3.box (k:=(0,1)) LX.b (by rw[ac _ _ (by simp<;>omega),ac _ _ (by simp<;>omega)];exact hN.bx)
 rw[ac _ _ (by simp<;>omega),ac _ _ (by simp<;>omega),hN.vb] at hp3';injection hp3' with hp3';subst hp3'
 have hgx':g3.h.get p=.cells 3 [[.int .i64 c,V (L.length+1,0),V (L.length+1,1)]] 0 false false:=hgx'
 simp only[sz,simprocAttr,sf,h7,hgx',vc3,vt3]
 refine ⟨?_,?_⟩
 ·simp only[List.reverse_cons,List.reverse_nil,List.nil_append,List.cons_append]
  refine aO [false,false,false,false,false,false,false,false,false,false,false,false,true,true,true,false,true] [(0,12),(1,12),(0,13),(1,13)] (by simp[All2,an,ay]) (by decide) ?_
  have hlg:∀i∈g2.lg,i≠p:=fun i hi e=>by
   rcases lg2 i hi with h | h | h
   ·simp at h
   ·simp[vid] at h
   ·omega
  rintro q hp' x y hx hy
  simp only[List.mem_cons,List.not_mem_nil,or_false] at hp'
  rcases hp' with rfl | rfl | rfl | rfl<;>(simp at hx hy;subst hx;subst hy;refine cU rfl rfl rfl rfl ?_ ?_ ?_<;>simp[an,ay,ak]<;>first | omega | exact hlg | exact fun i hi e=>hlg i hi e.symm)
 have hHb:=(hH3.same (g':=aJ (jl (aJ (jl g3 []) []) []) []) (by simp) (by simp<;>omega)).putb (k:=(0,1)) LX.b (row:=jH V L.length c) (row':=[.int .i64 c,V (L.length+1,0),v3]) (by rw[ac _ _ (by simp<;>omega),ac _ _ (by simp<;>omega)];exact hN.bx) (by rw[ac _ _ (by simp<;>omega),ac _ _ (by simp<;>omega)];exact hN.vb) rfl
 refine kk _ _ _ _ (by simp[St,LNB,sx,h2,h3,h4,h5,h6,h7]) (by simp[sx,h8]) ⟨hHb.same (by simp[jH]) (by simp),hN.bb.fr (fun j hj=>?_),?_,?_,⟨?_,?_,fun r z hr=>?_,hN.nd.len.1,by simp;omega,fun z hz=>?_⟩,?_,?_⟩
 ·simp[H.get_put]
  rw[if_neg (by omega),fb3 j hj]
  try simp[H.get_put]
  rw[if_neg (by omega),fr2 j (by omega) (by simp[vid])]
 ·rw[ac _ _ (by simp<;>omega),ac _ _ (by simp<;>omega)];exact hN.vb
 ·rw[ap,jH,ap,ac _ _ (by simp<;>omega),ac _ _ (by simp<;>omega)]
 ·rw[ac _ _ (by simp<;>omega),ac _ _ (by simp<;>omega),ac _ _ (by simp<;>omega)];exact hN.nd.ps
 ·refine ⟨rw0++[[v2]],by rw[ac _ _ (by simp<;>omega),ap],by simp[e2,hRl],fun r z hr=>?_⟩
  by_cases e:r=i
  ·subst e
   rw[ac _ _ (by simp<;>omega),ap,<-e2,List.getElem?_concat_length]
  ·have hr':r<i:=by
    have:=(List.getElem?_eq_some_iff.1 hr).1
    simp at this;omega
   rw[ac _ _ (by simp<;>omega),ac _ _ (by simp<;>omega),List.getElem?_append_left (by omega)]
   have hr:(R++[y])[r]?=some z:=hr
   rw[List.getElem?_append_left (by omega)] at hr
   exact e3 r z hr
 ·rw[ac _ _ (by simp<;>omega),ac _ _ (by simp<;>omega)]
  have hr:(R++[y])[r]?=some z:=hr
  by_cases e:r=i
  ·subst e
   rw[<-hRl,List.getElem?_concat_length] at hr
   injection hr with hr;subst hr
   rw[<-hRl,ap]
  ·have hr':r<i:=by
    have:=(List.getElem?_eq_some_iff.1 hr).1
    simp at this;omega
   rw[List.getElem?_append_left (by omega)] at hr
   rw[ac _ _ (by simp<;>omega)]
   exact hN.nd.rr r z hr
 ·rcases List.mem_append.1 hz with h | h
  ·exact hN.nd.len.2.2 z h
  ·rw[List.mem_singleton.1 h];exact hl
 ·refine hN.bl.congr (fun j q hj=>?_) (fun j q hj=>?_) ?_
  ·rw[ac _ _ (by simp<;>omega),ac _ _ (by simp<;>omega)]
  ·rw[ac _ _ (by simp<;>omega),ac _ _ (by simp<;>omega),ac _ _ (by simp<;>omega)]
  ·rw[ac _ _ (by simp<;>omega),ac _ _ (by simp<;>omega),ac _ _ (by simp<;>omega)]
 ·rw[ac _ _ (by simp<;>omega),ac _ _ (by simp<;>omega)];exact hN.vw
theorem Ni {d K p k:Nat}{L:List Node}{x:Node}{g:G}{brow:List AV}{gr:Int}{b W fa fb:AV}{rows:List (List AV)}{V:Ky->AV}{E:Ky->En}{Q:QT}{t:T}(hK:K<=1000000)
  (r1:∀h',af h' 3 b=some rows) (z1:rows[L.length]?=some [.int .i64 x.card,fa,fb]) (hry:iX b=true) (hfb:SlR NoP k .nil x.rows fb) (hl:x.rows.length<=K) (hll:∀y∈x.rows,y.length<=K)
  (ht:St t (LNB L.length p W)) (h8:tat t 8=.int .i64 0) (hN:NB K p L ⟨x.card,x.parents,[]⟩ g brow gr b W V E)
  (fin:∀t g V E,St t (LNB L.length p W)->NB K p L x g brow gr b W V E->Q (.exit 2) t [] g):wpL (wp C0 d none gv) Q t [] g:=by
 obtain ⟨rws,w1,w2,w3,w4⟩:=hfb.all
 have w1:∀h',af h' 1 fb=some rws:=w1
 have lfb:=hfb.len
 have hlt:L.length<rows.length:=(List.getElem?_eq_some_iff.1 z1).1
 obtain ⟨FR,hFR⟩:∃FR,FR=SC.feet [0,1,0,0,8,0,56,120,248,0,1016,2040,4092,8188,16383,32767,65535] [oF 50 2 7,oL 51 50,oM 52 9,oF 53 1 3,oL 54 53,oM 55 6,o 56 (.ixs 3 (.t 54) (.t 55)),oF 57 2 56,oL 58 57,oM 59 8,oX 60 58 59,oL 61 60,o 62 (.app 1 8 (.t 52) (.t 61)),o 63 (.bsl 1 1 [.nils] [0] [.t 62]),o 64 (.app 1 24 (.t 51) (.t 63)),oF 65 2 7,oz (.store 1 (.t 65) (.t 64))]:=⟨_,rfl⟩
 simp only[gv]
 rw[<-hFR]
 refine bh x.rows.length (by omega) (fun j t df g=>df=[]/\St t (LNB L.length p W)/\∃V E,NB K p L ⟨x.card,x.parents,x.rows.take j⟩ g brow gr b W V E)
  ⟨rfl,ht,V,E,by simpa using hN⟩ h8 (by decide) (by rintro j t df g v s (rfl | rfl | rfl)<;>simp[St,LNB,sx]) ?_ ?_ ?_
 ·rintro j t df g hj ⟨rfl,⟨h2,h3,h4,h5,h6,h7,-⟩,V,E,hN⟩ h8
  simp only[sz,simprocAttr,h3,h6,h8,hN.bb.2.1,r1,hlt,z1,hry,lfb]
  exact ⟨by simp[St,LNB,sx,h2,h3,h4,h5,h6,h7],V,E,hN⟩
 ·clear ht h8 hN
  rintro j t df g hj ⟨rfl,⟨h2,h3,h4,h5,h6,h7,-⟩,V,E,hN⟩ h8
  obtain ⟨y,hy,htk,hm⟩:=ae hj
  obtain ⟨row,q1,q2⟩:=w3 j y hy
  obtain ⟨fy,rfl,hfy⟩:=a8.1 q2
  simp only[sz,simprocAttr]
  rw[hFR]
  refine M3 (i:=j) (y:=y) (R:=x.rows.take j) hK r1 z1 hry w1 (w4 (by omega)) q1 hfy (hll y hm) (by simp<;>omega) (by omega) (by simp[St,LNB,sx,h2,h3,h4,h5,h6,h7]) (by simp[sx,h8]) (by simp[sx]) hN ?_
  clear h2 h3 h4 h5 h6 h7 h8 hN
  intro t g V E ht h8 hN
  rw[<-htk] at hN
  exact ⟨⟨rfl,ht,V,E,hN⟩,h8⟩
 ·rintro t df g ⟨rfl,ht,V,E,hN⟩
  rw[List.take_length] at hN
  exact fin t g V E ht hN
theorem LS.snoc {L:List Node}{x:Node}{k:Ky}(h:LS (L++[x]) k):LX L x k:=by
 rcases h with h | ⟨i,q,y,h,hi,hq⟩
 ·exact .inl (.inl h)
 ·by_cases e:i<L.length
  ·rw[List.getElem?_append_left e] at hi
   exact .inl (.inr ⟨i,q,y,h,hi,hq⟩)
  ·have hil:=(List.getElem?_eq_some_iff.1 hi).1
   simp at hil
   have e:i=L.length:=by omega
   subst e
   rw[List.getElem?_concat_length] at hi
   injection hi with hi;subst hi
   exact .inr (.inr ⟨q,h,hq⟩)
theorem Na {d K k:Nat}{m:Net}{g:G}{brow:List AV}{b:AV}{V:Ky->AV}{E:Ky->En}{Q:QT}{t:T}(hK:K<=1000000)(hS:SlR NoP k .nil m.nodes b)(hl:m.nodes.length<=K)
  (hb:∀x∈m.nodes,x.parents.length<=K/\x.rows.length<=K/\∀r∈x.rows,r.length<=K)
  (ht:St t [(2,.hptr 0 0 0 0),(3,.hptr 1 0 0 0),(4,.hptr 2 0 0 0)]) (h5:tat t 5=V (0,0)) (h6:tat t 6=.int .i64 0) (hH:Hp g 3 (LS []) V E) (hB:BBn g brow m.grain b) (hD:BLs K V E [])
  (fin:∀t g V E,St t [(2,.hptr 0 0 0 0),(3,.hptr 1 0 0 0),(4,.hptr 2 0 0 0)]->tat t 5=V (0,0)->Hp g 3 (LS m.nodes) V E->BBn g brow m.grain b->BLs K V E m.nodes->Q (.exit 0) t [] g):wpL (wp C0 d none gi) Q t [] g:=by
 obtain ⟨rows,r1,r2,r3,r4⟩:=hS.all
 have r1:∀h',af h' 3 b=some rows:=r1
 have lS:=hS.len
 obtain ⟨FR,hFR⟩:∃FR,FR=SC.feet [0,1,0,4,0,28,60,124,255,511,1023] [oF 29 1 7,oL 30 29,oF 31 1 3,oL 32 31,oM 33 6,o 34 (.ixs 3 (.t 32) (.t 33)),oF 35 1 34,oL 36 35,o 37 (.app 1 8 (.t 30) (.t 36)),oF 38 1 7,oz (.store 1 (.t 38) (.t 37))]:=⟨_,rfl⟩
 simp only[gi,lq]
 rw[<-hFR]
 refine bh m.nodes.length (by omega) (fun j t df g=>df=[]/\St t [(2,.hptr 0 0 0 0),(3,.hptr 1 0 0 0),(4,.hptr 2 0 0 0)]/\∃V E,tat t 5=V (0,0)/\Hp g 3 (LS (m.nodes.take j)) V E/\BBn g brow m.grain b/\BLs K V E (m.nodes.take j))
  ⟨rfl,ht,V,E,h5,by simpa using hH,hB,by simpa using hD⟩ h6 (by decide) (by rintro j t df g v s (rfl | rfl | rfl)<;>simp[St,sx]) ?_ ?_ ?_
 ·rintro j t df g hj ⟨rfl,⟨h2,h3,h4,-⟩,V,E,h5,hH,hB,hD⟩ h6
  simp only[sz,simprocAttr,h2,h3,h4,h5,h6,hB.2.1,lS,St]
  exact ⟨V,E,rfl,hH,hB,hD⟩
 ·clear ht h5 h6 hH hB hD
  rintro j t df g hj ⟨rfl,⟨h2,h3,h4,-⟩,V,E,h5,hH,hB,hD⟩ h6
  obtain ⟨x,hx,htk,hm⟩:=ae hj
  obtain ⟨row,q1,q2⟩:=r3 j x hx
  obtain ⟨fa,fb,rfl,hfa,hfb⟩:=bM.1 q2
  have hlt:j<rows.length:=by omega
  have hry:=r4 (by omega)
  obtain ⟨l1,l2,l3⟩:=hb x hm
  have hnx:=hH.nx
  obtain ⟨p,hp⟩:∃p,p=g.nx:=⟨_,rfl⟩
  obtain ⟨L,hL⟩:∃L,L=m.nodes.take j:=⟨_,rfl⟩
  have hLl:L.length=j:=by rw[hL];simp;omega
  rw[<-hL] at hH hD htk
  obtain ⟨g1,hg1⟩:∃g1,g1=(g.new (.cells 3 [[.int .i64 0,.nils,.nils]] 0 false false)).put g.nx (.cells 3 [[.int .i64 x.card,.nils,.nils]] 0 false false):=⟨_,rfl⟩
  have n1:g.nx+1=g1.nx:=by rw[hg1];simp
  have f1:∀i,i<g.nx->g1.h.get i=g.h.get i:=fun i hi=>by rw[hg1,G.put_h,aD _ _ _ (by omega),G.new_h,aD _ _ _ (by omega)]
  have hH1:=hH.add (k:=(0,1)) (L':=fun k=>LS L k\/k=(0,1)) (g':=g1) (v':=.hptr g.nx 0 0 0) (e':=.bx [.int .i64 x.card,.nils,.nils]) LS.nb ⟨g.nx,by omega,by omega,rfl,by rw[hg1];simp[aX]⟩ (by omega) (fun i _ hi=>f1 i hi) (fun i hi=>by injection hi with hi;omega) (fun k hk=>hk)
  have hH2:=hH1.add (k:=(L.length+1,0)) (L':=fun k=>(LS L k\/k=(0,1))\/k=(L.length+1,0)) (v':=.nils) (e':=.sl 1 []) (by rintro (h | h);exact absurd h.lt (by omega);simp at h) (.inl ⟨rfl,rfl⟩) (Nat.le_refl _) (fun _ _ _=>rfl) (fun i hi=>by cases hi) (fun k hk=>hk)
  have hH3:=hH2.add (k:=(L.length+1,1)) (L':=LX L ⟨x.card,[],[]⟩) (v':=.nils) (e':=.sl 1 []) (by rintro ((h | h) | h);exact absurd h.lt (by omega);simp at h;simp at h) (.inl ⟨rfl,rfl⟩) (Nat.le_refl _) (fun _ _ _=>rfl) (fun i hi=>by cases hi) (fun k hk=>by
   rcases hk with h | h | ⟨q,h,hq⟩
   ·exact .inl (.inl (.inl h))
   ·exact .inl (.inl (.inr h))
   ·have hq:q<2:=hq
    have:q=0\/q=1:=by omega
    rcases this with e | e<;>subst e
    ·exact .inl (.inr h)
    ·exact .inr h)
  have hNB:NB K p L ⟨x.card,[],[]⟩ g1 brow m.grain b (V (0,0)) (ups (ups (ups V (0,1) (.hptr g.nx 0 0 0)) (L.length+1,0) .nils) (L.length+1,1) .nils) (ups (ups (ups E (0,1) (.bx [.int .i64 x.card,.nils,.nils])) (L.length+1,0) (.sl 1 [])) (L.length+1,1) (.sl 1 [])):=by
   refine ⟨hH3,hB.fr fun i hi=>f1 i (by omega),by simp[ac,ap,hp],by simp[ac,ap,jH],⟨by simp[ac,ap],⟨[],by simp[ap],rfl,fun r y hr=>by simp at hr⟩,fun r y hr=>by simp at hr,by show 0<=K;omega,by show 0<=K;omega,fun y hy=>by simp at hy⟩,hD.congr (fun i q hi=>?_) (fun i q hi=>?_) (by simp[ac]),by simp[ac]⟩
   ·rw[ac _ _ (by simp<;>omega),ac _ _ (by simp<;>omega),ac _ _ (by simp<;>omega)]
   ·rw[ac _ _ (by simp<;>omega),ac _ _ (by simp<;>omega),ac _ _ (by simp<;>omega)]
  clear hH1 hH2 hH3
  have z1:rows[L.length]?=some [.int .i64 x.card,fa,fb]:=by rw[hLl];exact q1
  refine be (P:=fun t df g'=>df=[]/\g'=g1/\St t (LNB L.length p (V (0,0)))) ?_ ?_
  ·simp only[sz,simprocAttr,h3,h6,hB.2.1,r1,hlt,q1,hry]
   refine ⟨by rw[hg1],?_⟩
   simp[St,LNB,sx,h2,h3,h4,h5,h6,hp,hLl]
  rintro t df g2 ⟨rfl,rfl,ht⟩
  rw[ej,hFR]
  refine MS hK r1 z1 hry hfa l1 ht hNB ?_
  clear hNB ht
  rintro t g V1 E1 ⟨h2,h3,h4,h5,h6,h7,-⟩ hNB
  rw[tQ]
  simp only[sz,simprocAttr]
  refine Ni (x:=x) hK r1 z1 hry hfb l2 l3 (by simp[St,LNB,sx,h2,h3,h4,h5,h6,h7]) (by simp[sx]) hNB ?_
  clear hNB h2 h3 h4 h5 h6 h7
  rintro t g V1 E1 ⟨h2,h3,h4,h5,h6,h7,-⟩ hNB
  obtain ⟨hgx,hp1,hp2⟩:=hNB.box
  obtain ⟨rw0,e1,e2,e3⟩:=hNB.bl.ns
  simp only[sz,simprocAttr,lz,h5,h7,hgx]
  rw[<-hNB.vw]
  have hnx2:=hNB.hp.nx
  refine (hNB.hp.step (g':=g.new (.cells 3 [[.int .i64 x.card,V1 (L.length+1,0),V1 (L.length+1,1)]] 0 false false)) (by simp) (fun i _ hi=>by rw[G.new_h,aD _ _ _ (by omega)])).app (k:=(0,0)) (.inl LS.z) e1
   (new:=[[.int .i64 x.card,V1 (L.length+1,0),V1 (L.length+1,1)]]) (by simp[sx,sy]) (by simp[aR];omega) fun v3 g3 hH4 n3 fr3 _ lg3 vc3 vt3=>?_
  simp only[sx,sy] at n3 fr3
  simp only[sz,simprocAttr,h2,h3,h4,h6,St]
  rw[hLl]
  refine ⟨⟨ups V1 (0,0) v3,ups E1 (0,0) (.sl 3 (rw0++[[.int .i64 x.card,V1 (L.length+1,0),V1 (L.length+1,1)]])),(ap _ _ _).symm,?_,hNB.bb.fr (fun i hi=>by rw[fr3 i hi,if_neg (by omega)]),?_⟩,rfl⟩
  ·rw[htk]
   exact hH4.sub fun k hk=>LS.snoc hk
  ·rw[htk]
   have hbl:=hNB.bl.congr (V':=ups V1 (0,0) v3) (E':=ups E1 (0,0) (.sl 3 rw0)) (fun i q hi=>ac _ _ (by simp<;>omega)) (fun i q hi=>ac _ _ (by simp<;>omega)) (by rw[ap,e1])
   have hnd:=hNB.nd.congr (V':=ups V1 (0,0) v3) (E':=ups E1 (0,0) (.sl 3 (rw0++[[.int .i64 x.card,V1 (L.length+1,0),V1 (L.length+1,1)]]))) (fun q=>ac _ _ (by simp<;>omega)) (fun q=>ac _ _ (by simp<;>omega))
   refine ⟨⟨_,ap _ _ _,by simp[e2],fun i y hy=>?_⟩,fun i y hy=>?_⟩
   ·by_cases e:i<L.length
    ·rw[List.getElem?_append_left e] at hy
     rw[List.getElem?_append_left (by omega),e3 i y hy,jH,jH,ac _ _ (by simp<;>omega),ac _ _ (by simp<;>omega)]
    ·have hil:=(List.getElem?_eq_some_iff.1 hy).1
     simp at hil
     have e:i=L.length:=by omega
     subst e
     rw[List.getElem?_concat_length] at hy
     injection hy with hy;subst hy
     rw[<-e2,List.getElem?_concat_length,e2,jH,ac _ _ (by simp<;>omega),ac _ _ (by simp<;>omega)]
   ·by_cases e:i<L.length
    ·rw[List.getElem?_append_left e] at hy
     exact (hbl.nd i y hy).congr (fun q=>rfl) (fun q=>by rw[ac _ _ (by simp<;>omega),ac _ _ (by simp<;>omega)])
    ·have hil:=(List.getElem?_eq_some_iff.1 hy).1
     simp at hil
     have e:i=L.length:=by omega
     subst e
     rw[List.getElem?_concat_length] at hy
     injection hy with hy;subst hy
     exact hnd
 ·rintro t df g ⟨rfl,ht,V,E,h5,hH,hB,hD⟩
  rw[List.take_length] at hH hD
  exact fin t g V E ht h5 hH hB hD
theorem bp {sz:Nat}{v:AV}{i off:Nat}(h:iX v=true):JX (jI sz v i off)=.val (jI sz v i off):=by
 cases v<;>first | rfl | cases h
theorem SlR.far {α:Type} [Rp α]{P:Nat->Prop}{k:Nat}{h h':H}{l:List α}{v:AV}(r:SlR P k h l v)(hf:∀i,P i->h'.get i=h.get i):SlR P k h' l v:=by
 obtain ⟨w,hw,q⟩:=Rp.mono (P':=P) (h':=h') (show Rp.rp P k h l [v] from ⟨v,rfl,r⟩) (fun i hi=>⟨hi,hf i hi⟩) (Nat.le_refl _)
 injection hw with hw;subst hw;exact q
theorem SlR.heap {α:Type} [Rp α]{P:Nat->Prop}{k:Nat}{h h':H}{l:List α}{v:AV}(r:SlR P k h l v)(hf:h'=h):SlR P k h' l v:=by subst hf;exact r
theorem Own.refs_lt {g:G}{b sz:Nat}{v:AV}{rows:List (List AV)}(h:Own g b v sz rows):∀i∈ak v,b<=i/\i<g.nx:=by
 rcases h with ⟨rfl,-⟩ | ⟨id,ep,lo,h1,h2,rfl,-⟩
 ·intro i hi;simp[ak] at hi
 ·intro i hi;simp[ak] at hi;omega
theorem Gb {α:Type} [Rp α]{g:G}{b:Nat}{u:AV}{rows:List (List AV)}(hu:Own g b u (Rp.sz α) rows)(hne:rows≠[]){n:Nat}(hn:n<=rows.length) :
  ∃y,sP (Rp.sz α) u none (some (.int .i64 (n:Int))) g=.val y/\(y.cells=[y]/\y.isTup=false)/\∀(P:Nat->Prop) (k:Nat) (l:List α) (h':H),(∀i,vid u=some i->h'.get i=g.h.get i)->SlR P k h' l u->SlR P k h' (l.take n) y:=by
 rcases hu with ⟨rfl,rfl⟩ | ⟨id,ep,lo,h1,h2,rfl,h3⟩
 ·exact absurd rfl hne
 ·simp only[sP,kv,h3,Nat.beq_refl,Bool.true_and,aw,Nat.zero_add,aa,Nat.ble_eq,Nat.le_refl,if_true,aS,Option.getD_none,Nat.sub_zero]
  simp only[dj]
  rw[show au (n.ble rows.length) (some n) none=some n from by rw[aa,if_pos (by simpa using hn)]]
  dsimp only
  have hb:rows.length.beq 0=false:=by cases rows with | nil=>exact absurd rfl hne | cons a l=>rfl
  rw[hb]
  refine ⟨_,rfl,⟨rfl,rfl⟩,fun P k l h' hh h=>?_⟩
  have h3':=hh id rfl
  rw[h3] at h3'
  obtain ⟨hl,hp,rr,q1,q2⟩:=h
  rw[dY,h3',wh] at q1
  injection q1 with q1;subst q1
  refine ⟨by rw[List.length_take];omega,hp,rows.take n,?_,q2.take n⟩
  rw[dY,h3',cz,if_pos (by omega),List.drop_zero]
structure Oth (K:Nat) (L:List Node) (J:Nat) (V:Ky->AV) (E:Ky->En) (rows:List (List AV)):Prop where
 len:rows.length=L.length
 ns:∀(i:Nat) (y:Node),i≠J->L[i]?=some y->rows[i]?=some (jH V i y.card)
 nd:∀(i:Nat) (y:Node),i≠J->L[i]?=some y->NdOk K V E i y
theorem Oth.of {K J:Nat}{L:List Node}{V:Ky->AV}{E:Ky->En}{rows:List (List AV)}(h1:rows.length=L.length)(h2:∀(i:Nat) (x:Node),L[i]?=some x->rows[i]?=some (jH V i x.card))(h:BLs K V E L):Oth K L J V E rows :=
 ⟨h1,fun i y _ hy=>h2 i y hy,fun i y _ hy=>h.nd i y hy⟩
theorem Oth.v {K J q:Nat}{L:List Node}{V:Ky->AV}{E:Ky->En}{rows:List (List AV)}{v:AV}(h:Oth K L J V E rows):Oth K L J (ups V (J+1,q) v) E rows :=
 ⟨h.len,fun i y hi hy=>by rw[h.ns i y hi hy,jH,jH,ac _ _ (by simp<;>omega),ac _ _ (by simp<;>omega)],fun i y hi hy=>(h.nd i y hi hy).congr (fun s=>ac _ _ (by simp<;>omega)) fun _=>rfl⟩
theorem Oth.e {K J q:Nat}{L:List Node}{V:Ky->AV}{E:Ky->En}{rows:List (List AV)}{v:En}(h:Oth K L J V E rows):Oth K L J V (ups E (J+1,q) v) rows :=
 ⟨h.len,h.ns,fun i y hi hy=>(h.nd i y hi hy).congr (fun _=>rfl) fun s=>ac _ _ (by simp<;>omega)⟩
theorem Oth.z {K J:Nat}{L:List Node}{V:Ky->AV}{E:Ky->En}{rows:List (List AV)}{v:En}(h:Oth K L J V E rows):Oth K L J V (ups E (0,0) v) rows :=
 ⟨h.len,h.ns,fun i y hi hy=>(h.nd i y hi hy).congr (fun _=>rfl) fun s=>ac _ _ (by simp<;>omega)⟩
theorem tb {K J:Nat}{L:List Node}{V:Ky->AV}{E:Ky->En}{rows:List (List AV)}{row':List AV}{x':Node}{g:G}{M:Ky->Prop}{W:AV}(hH:Hp g 3 M V E)(hM:∀k,LS L k->M k)(hO:Oth K L J V E rows)(e0:E (0,0)=.sl 3 (rows.set J row'))
  (hw:V (0,0)=W) (hr:Rp.rp P3 0 g.h x' row') (hK:K<=1000001) (hl:L.length<=1000001):∃nds:List Node,SlR P3 0 g.h nds W:=by
 have ho:=hH.own (hM _ LS.z) e0
 rw[hw] at ho
 obtain ⟨nds,-,h⟩:=Dr ho (by simp[hO.len];omega) fun i row hi=>by
  rw[List.getElem?_set] at hi
  by_cases e:J=i
  ·rw[if_pos e] at hi
   split at hi
   ·injection hi with hi;subst hi;exact ⟨x',hr⟩
   ·cases hi
  ·rw[if_neg e] at hi
   have hil:=(List.getElem?_eq_some_iff.1 hi).1
   obtain ⟨y,hy⟩:∃y,L[i]?=some y:=⟨_,List.getElem?_eq_getElem (by rw[<-hO.len];exact hil)⟩
   rw[hO.ns i y (Ne.symm e) hy] at hi
   injection hi with hi;subst hi
   exact ⟨y,(hO.nd i y (Ne.symm e) hy).rd hH (fun q hq=>hM _ (LS.s hy hq)) (by omega)⟩
 exact ⟨nds,h⟩
theorem BLs.sl {K:Nat}{L:List Node}{V:Ky->AV}{E:Ky->En}{g:G}(h:BLs K V E L)(hH:Hp g 3 (LS L) V E)(hK:K<=1000001)(hl:L.length<=1000001):SlR P3 0 g.h L (V (0,0)):=by
 obtain ⟨rows,h1,h2,h3⟩:=h.ns
 have ho:=hH.own LS.z h1
 refine Own.sl (α:=Node) ho (by omega) (tK h2.symm fun i y row hy hr=>?_) fun i hi=>(ho.lt hi).1
 rw[h3 i y hy] at hr
 injection hr with hr;subst hr
 exact (h.nd i y hy).rd hH (fun q hq=>LS.s hy hq) (by omega)
structure BS (K J:Nat) (L:List Node) (x:Node) (bx:jO) (gr Rw:Int) (t:T) (g:G) (V:Ky->AV) (E:Ky->En):Prop where
 st:St t [(2,.hptr 0 0 0 0),(3,.hptr 1 0 0 0),(4,.hptr 2 0 0 0),(10,jI 3 (V (0,0)) J 0),(11,.int .i64 Rw)]
 hp:Hp g 3 (LS L) V E
 f0:g.h.get 0=.cells 4 [[u8v bx.1,u8v bx.2.1,u8v bx.2.2.1,.int .i64 bx.2.2.2]] 0 false false
 f1:g.h.get 1=.cells 2 [[.int .i64 gr,V (0,0)]] 0 false false
 f2:g.h.get 2=.cells 2 [[.int .i64 0,.nils]] 0 false false
 bl:BLs K V E L
 hx:L[J]?=some x
 hR:(Rw = -1/\x.rows.length=0)\/∃r:Nat,Rw=(r:Int)/\r<x.rows.length
 hK:K<=1000000
 hl:L.length<=K
def tx (Q:QT):Prop:=∀t g gr nv nds,tat t 3=.hptr 1 0 0 0->tat t 4=.hptr 2 0 0 0->g.h.get 1=.cells 2 [[.int .i64 gr,nv]] 0 false false->g.h.get 2=.cells 2 [[.int .i64 0,.nils]] 0 false false->SlR (α:=Node) P3 0 g.h nds nv->Q .norm t [] g
structure BT (K J:Nat) (L:List Node) (x:Node) (g:G) (V:Ky->AV) (E:Ky->En) (rows:List (List AV)):Prop where
 own:Own g 3 (V (0,0)) 3 rows
 e0:E (0,0)=.sl 3 rows
 ry:iX (V (0,0))=true
 hlt:J<rows.length
 row:rows[J]?=some [.int .i64 x.card,V (J+1,0),V (J+1,1)]
 oth:Oth K L J V E rows
 nd:NdOk K V E J x
theorem BS.bt {K J:Nat}{L:List Node}{x:Node}{bx:jO}{gr Rw:Int}{t:T}{g:G}{V:Ky->AV}{E:Ky->En}(h:BS K J L x bx gr Rw t g V E):∃rows,BT K J L x g V E rows:=by
 obtain ⟨rows,h1,h2,h3⟩:=h.bl.ns
 have hJ:=(List.getElem?_eq_some_iff.1 h.hx).1
 have ho:=h.hp.own LS.z h1
 exact ⟨rows,ho,h1,eX ho (by omega),by omega,h3 J x h.hx,Oth.of h2 h3 h.bl,h.bl.nd J x h.hx⟩
theorem BS.sl {K J:Nat}{L:List Node}{x:Node}{bx:jO}{gr Rw:Int}{t:T}{g:G}{V:Ky->AV}{E:Ky->En}(h:BS K J L x bx gr Rw t g V E):SlR P3 0 g.h L (V (0,0)):=h.bl.sl h.hp (by have:=h.hK;omega) (by have:=h.hK;have:=h.hl;omega)
theorem MG {i:Nat}(h:P3 i):¬i=1/\¬i=2:=by have:3<=i:=h;omega
section
variable {d K J:Nat}{L:List Node}{x:Node}{bx:jO}{gr Rw:Int}{t:T}{g:G}{V:Ky->AV}{E:Ky->En}{Q:QT}
theorem bc0 (hS:BS K J L x bx gr Rw t g V E)(fin:tx Q) :
  wp C0 d none (.ops [oF 112 3 2,oL 113 112,oF 114 0 3,oz (.store 1 (.t 114) (.t 113))]) Q t [] g:=by
 obtain ⟨h2,h3,h4,h10,h11,-⟩:=hS.st
 simp only[sz,simprocAttr,h2,h3,hS.f0,hS.f1]
 exact fin _ _ bx.2.2.2 _ _ (by simp[sx,h3]) (by simp[sx,h4]) (by simp[H.get_put]) (by simp[H.get_put,hS.f2]) (hS.sl.far fun i hi=>by simp[H.get_put,MG hi])
theorem bc1 (hS:BS K J L x bx gr Rw t g V E)(fin:tx Q) :
  wp C0 d none (.ops [oM 117 10,oF 118 3 2,oL 119 118,o 120 (.nilc (.t 117)),oF 121 0 120,oz (.store 1 (.t 121) (.t 119))]) Q t [] g:=by
 obtain ⟨h2,h3,h4,h10,h11,-⟩:=hS.st
 obtain ⟨rows,hB⟩:=hS.bt
 have hK:=hS.hK
 have hl:=hS.hl
 simp only[sz,simprocAttr,h2,h10,hS.f0,bp hB.ry,bA hB.ry]
 refine hS.hp.put LS.z (row':=[.int .i64 bx.2.2.2,V (J+1,0),V (J+1,1)]) hB.e0 hB.row rfl rfl rfl fun gb hHb nb frb _=>?_
 simp only[sx]
 have hnd:NdOk K V (ups E (0,0) (.sl 3 (rows.set J [.int .i64 bx.2.2.2,V (J+1,0),V (J+1,1)]))) J ⟨bx.2.2.2,x.parents,x.rows⟩:=by
  have:=hB.nd.congr (V':=V) (E':=ups E (0,0) (.sl 3 (rows.set J [.int .i64 bx.2.2.2,V (J+1,0),V (J+1,1)]))) (fun _=>rfl) (fun q=>ac _ _ (by simp<;>omega))
  exact ⟨this.ps,this.rs,this.rr,this.len⟩
 obtain ⟨nds,hn⟩:=tb hHb (fun k hk=>hk) hB.oth.z (ap _ _ _) rfl (hnd.rd hHb (fun q hq=>LS.s hS.hx hq) (by omega)) (by omega) (by omega)
 exact fin _ _ gr _ nds (by simp[sx,h3]) (by simp[sx,h4]) (by rw[frb 1 (by omega),hS.f1]) (by rw[frb 2 (by omega),hS.f2]) hn
theorem bc2 (hS:BS K J L x bx gr Rw t g V E)(fin:tx Q) :
  wp C0 d none (.feet [0,0,2,6,14,0,32,96,254,511,1023,2047] [oM 124 10,oM 125 10,o 126 (.nilc (.t 125)),oF 127 1 126,oL 128 127,oF 129 3 2,oL 130 129,o 131 (.bsl 1 1 [.int .i64 0] [0] [.t 130]),o 132 (.app 1 8 (.t 128) (.t 131)),o 133 (.nilc (.t 124)),oF 134 1 133,oz (.store 1 (.t 134) (.t 132))]) Q t [] g:=by
 obtain ⟨h2,h3,h4,h10,h11,-⟩:=hS.st
 obtain ⟨rows,hB⟩:=hS.bt
 have hK:=hS.hK
 have hl:=hS.hl
 have hnx:=hS.hp.nx
 have hps:=hB.nd.ps
 have hlen:=hB.nd.len
 simp only[sz,simprocAttr,sf,h2,h10,hS.f0,bp hB.ry,bA hB.ry,hB.own.rows,hB.hlt,hB.row]
 refine (hS.hp.step (g':=_) (by simp<;>omega) (fun i hi hi2=>?_)).app2 (k:=(J+1,0)) (LS.s hS.hx (by omega)) hps (new:=[[.int .i64 bx.2.2.2]]) (by simp[sx,sy]) (by simp[aR];omega) fun v1 ga hHa na fra foa lga vca vta=>?_
 ·simp[H.get_put];omega
 simp only[sx,sy] at na fra foa lga
 have e00:ups V (J+1,0) v1 (0,0)=V (0,0):=ac _ _ (by simp<;>omega)
 simp only[sz,simprocAttr,sf,bp hB.ry,bA hB.ry]
 refine (hHa.same (g':=_) (by simp) (by simp<;>omega)).putv (k:=(0,0)) LS.z e00 (row':=[.int .i64 x.card,v1,V (J+1,1)]) (by rw[ac _ _ (by simp<;>omega)];exact hB.e0) hB.row (by rw[vca];rfl) vta (by rw[vca];rfl) fun gb hHb nb frb _=>?_
 simp only[sy] at nb frb ⊢
 refine ⟨?_,?_⟩
 ·simp only[List.reverse_cons,List.reverse_nil,List.nil_append,List.cons_append]
  refine aO [false,false,false,false,false,false,false,true,true,false,false,true] [(0,7),(1,7),(2,7),(3,7),(4,7),(0,8)] (by simp[All2,an,ay]) (by decide) ?_
  rintro p hp x y hx hy
  simp only[List.mem_cons,List.not_mem_nil,or_false] at hp
  have ro1:=hB.own.refs_lt
  rcases hp with rfl | rfl | rfl | rfl | rfl | rfl<;>(simp at hx hy;subst hx;subst hy;refine cU rfl rfl rfl rfl ?_ ?_ ?_<;>simp[an,ay,i_ hB.ry]<;>first | omega | (intro i' hi';have:=ro1 i' hi';omega) | (intro i' hi';rcases lga i' hi' with h | h<;>first | omega | simp at h) | skip)
 have hnd:NdOk (K+1) (ups V (J+1,0) v1) (ups (ups E (J+1,0) (.sl 1 (x.parents.map ci++[[.int .i64 bx.2.2.2]]))) (0,0) (.sl 3 (rows.set J [.int .i64 x.card,v1,V (J+1,1)]))) J ⟨x.card,x.parents++[bx.2.2.2],x.rows⟩:=by
  obtain ⟨rws,q1,q2,q3⟩:=hB.nd.rs
  exact ⟨by rw[ac _ _ (by simp<;>omega),ap];simp[ci],⟨rws,by rw[ac _ _ (by simp<;>omega),ac _ _ (by simp<;>omega)];exact q1,q2,fun r y hy=>by rw[ac _ _ (by simp<;>omega)];exact q3 r y hy⟩,
   fun r y hy=>by rw[ac _ _ (by simp<;>omega),ac _ _ (by simp<;>omega)];exact hB.nd.rr r y hy,by simp;omega,by show x.rows.length<=K+1;omega,fun y hy=>by have:=hlen.2.2 y hy;omega⟩
 have hrd:=hnd.rd hHb (fun q hq=>LS.s hS.hx hq) (by omega)
 rw[jH,ap,ac _ _ (by simp<;>omega)] at hrd
 obtain ⟨nds,hn⟩:=tb hHb (fun k hk=>hk) hB.oth.v.e.z (ap _ _ _) e00 hrd (by omega) (by omega)
 have g1e:gb.h.get 1=.cells 2 [[.int .i64 gr,V (0,0)]] 0 false false:=by rw[frb 1 (by omega)];(try simp);rw[fra 1 (by omega),if_neg (by omega),hS.f1]
 have g2e:gb.h.get 2=.cells 2 [[.int .i64 0,.nils]] 0 false false:=by rw[frb 2 (by omega)];(try simp);rw[fra 2 (by omega),if_neg (by omega),hS.f2]
 exact fin _ _ gr _ nds (by simp[sx,h3]) (by simp[sx,h4]) (by simpa using g1e) (by simpa using g2e) (hn.heap (by simp))
theorem bc3 (hS:BS K J L x bx gr Rw t g V E)(fin:tx Q) :
  wp C0 d none (.ops [oM 137 10,o 138 (.nilc (.t 137)),oF 139 1 138,oz (.store 1 (.t 139) (.k (.nils)))]) Q t [] g:=by
 obtain ⟨h2,h3,h4,h10,h11,-⟩:=hS.st
 obtain ⟨rows,hB⟩:=hS.bt
 have hK:=hS.hK
 have hl:=hS.hl
 simp only[sz,simprocAttr,h10,bp hB.ry,bA hB.ry]
 refine hS.hp.put LS.z (row':=[.int .i64 x.card,.nils,V (J+1,1)]) hB.e0 hB.row rfl rfl rfl fun gb hHb nb frb _=>?_
 simp only[sx]
 have hnd:=hB.nd.congr (V':=V) (E':=ups E (0,0) (.sl 3 (rows.set J [.int .i64 x.card,.nils,V (J+1,1)]))) (fun _=>rfl) (fun q=>ac _ _ (by simp<;>omega))
 have hrd:Rp.rp P3 0 gb.h (⟨x.card,[],x.rows⟩:Node) [.int .i64 x.card,.nils,V (J+1,1)]:=bM.2 ⟨_,_,rfl,⟨by show 0<9223372036854775808;decide,rfl⟩,hnd.rows hHb (fun q hq=>LS.s hS.hx hq) (by omega)⟩
 obtain ⟨nds,hn⟩:=tb hHb (fun k hk=>hk) hB.oth.z (ap _ _ _) rfl hrd (by omega) (by omega)
 exact fin _ _ gr _ nds (by simp[sx,h3]) (by simp[sx,h4]) (by rw[frb 1 (by omega),hS.f1]) (by rw[frb 2 (by omega),hS.f2]) hn
end
end
end Hx
end
section
namespace Hx
open Go
noncomputable section
theorem tC {α:Type}{l:List α}{i:Nat}{a:α}(h:l[i]?=some a):l.set i a=l:=by
 refine List.ext_getElem? fun j=>?_
 rw[List.getElem?_set]
 by_cases e:i=j
 ·subst e
  rw[if_pos rfl,if_pos (List.getElem?_eq_some_iff.1 h).1,h]
 ·rw[if_neg e]
theorem BS.fin0 {K J:Nat}{L:List Node}{x:Node}{bx:jO}{gr Rw:Int}{t t':T}{g:G}{V:Ky->AV}{E:Ky->En}{Q:QT}(hS:BS K J L x bx gr Rw t g V E)(fin:tx Q)(h3:tat t' 3=.hptr 1 0 0 0)(h4:tat t' 4=.hptr 2 0 0 0):Q .norm t' [] g :=
 fin _ _ gr _ L h3 h4 hS.f1 hS.f2 hS.sl
theorem C6 {g:G}{v:AV}{rows:List (List AV)}(h:af g.h 1 v=some rows)(hl:0<rows.length):∀g':G,g'.h=g.h->AZ 1 v (.int .i64 0) g'=.val (jI 1 v 0 0):=fun g' e =>
 B2 (by rw[e,h];rfl) (by decide) (by rw[e,h];simpa using hl)
structure BW (x:Node) (J:Nat) (g:G) (V:Ky->AV) (E:Ky->En) (rws:List (List AV)):Prop where
 own:Own g 3 (V (J+1,1)) 1 rws
 e1:E (J+1,1)=.sl 1 rws
 len:rws.length=x.rows.length
 at_:∀(r:Nat) (y:List Int),x.rows[r]?=some y->rws[r]?=some [V (J+1,2+r)]
theorem BS.bw {K J:Nat}{L:List Node}{x:Node}{bx:jO}{gr Rw:Int}{t:T}{g:G}{V:Ky->AV}{E:Ky->En}(hS:BS K J L x bx gr Rw t g V E):∃rws,BW x J g V E rws:=by
 obtain ⟨rws,q1,q2,q3⟩:=(hS.bl.nd J x hS.hx).rs
 exact ⟨rws,hS.hp.own (LS.s hS.hx (by omega)) q1,q1,q2,q3⟩
theorem Bk {K r:Nat}{J:Nat}{x:Node}{V V':Ky->AV}{E E':Ky->En}{rws:List (List AV)}{y':List Int}(h:NdOk K V E J x)(hq:∀r y,x.rows[r]?=some y->rws[r]?=some [V (J+1,2+r)])(hl:rws.length=x.rows.length)(hr:r<x.rows.length)
  (hp:E' (J+1,0)=E (J+1,0)) (h1:E' (J+1,1)=.sl 1 (rws.set r [V' (J+1,2+r)])) (h2:E' (J+1,2+r)=.sl 1 (y'.map ci)) (hv:∀q,q≠r->V' (J+1,2+q)=V (J+1,2+q)) (he:∀q,q≠r->E' (J+1,2+q)=E (J+1,2+q)) (hy:y'.length<=K):NdOk K V' E' J ⟨x.card,x.parents,x.rows.set r y'⟩:=by
 refine ⟨by rw[hp];exact h.ps,⟨_,h1,by simp[hl],fun q z hz=>?_⟩,fun q z hz=>?_,h.len.1,by simpa using h.len.2.1,fun z hz=>?_⟩
 ·have hz:(x.rows.set r y')[q]?=some z:=hz
  by_cases e:r=q
  ·subst e
   rw[List.getElem?_set_self (by omega)]
  ·rw[List.getElem?_set_ne e] at hz ⊢
   rw[hv q (Ne.symm e)]
   exact hq q z hz
 ·have hz:(x.rows.set r y')[q]?=some z:=hz
  by_cases e:r=q
  ·subst e
   rw[List.getElem?_set_self (by omega)] at hz
   injection hz with hz;subst hz
   exact h2
  ·rw[List.getElem?_set_ne e] at hz
   rw[he q (Ne.symm e)]
   exact h.rr q z hz
 ·rcases List.mem_or_eq_of_mem_set hz with h' | rfl
  ·exact h.len.2.2 z h'
  ·exact hy
section
variable {d K J:Nat}{L:List Node}{x:Node}{bx:jO}{gr Rw:Int}{t:T}{g:G}{V:Ky->AV}{E:Ky->En}{Q:QT}
theorem bc4 (hS:BS K J L x bx gr Rw t g V E)(fin:tx Q) :
  wp C0 d none (.feet [0,0,2,6,14,0,32,96,224,510,1023,2047,4095] [oM 142 10,oM 143 10,o 144 (.nilc (.t 143)),oF 145 2 144,oL 146 145,oF 147 3 2,oL 148 147,o 149 (.bsl 1 1 [.int .i64 0] [0] [.t 148]),o 150 (.bsl 1 1 [.nils] [0] [.t 149]),o 151 (.app 1 24 (.t 146) (.t 150)),o 152 (.nilc (.t 142)),oF 153 2 152,oz (.store 1 (.t 153) (.t 151))]) Q t [] g:=by
 obtain ⟨h2,h3,h4,h10,h11,-⟩:=hS.st
 obtain ⟨rows,hB⟩:=hS.bt
 obtain ⟨rws,hW⟩:=hS.bw
 have hK:=hS.hK
 have hl:=hS.hl
 have hnx:=hS.hp.nx
 have hlen:=hB.nd.len
 simp only[sz,simprocAttr,sf,h2,h10,hS.f0,bp hB.ry,bA hB.ry,hB.own.rows,hB.hlt,hB.row]
 refine (hS.hp.step (g':=_) (by simp<;>omega) (fun i hi hi2=>?_)).app2 (k:=(J+1,1)) (LS.s hS.hx (by omega)) hW.e1 (new:=[[.hsl (g.nx+1+1+1+1+1+1+1) 0 0 1 none]]) (by simp[sx,sy]) (by have:=hW.len;simp[aR];omega) fun v1 ga hHa na fra foa lga vca vta=>?_
 ·simp[H.get_put]
  rw[if_neg (by omega),if_neg (by omega)]
 simp only[sx,sy] at na fra foa lga
 have e00:ups V (J+1,1) v1 (0,0)=V (0,0):=ac _ _ (by simp<;>omega)
 have kn:ga.h.get (g.nx+1+1+1+1+1+1+1)=.cells 1 [[.int .i64 bx.2.2.2]] 0 false false:=by
  rw[foa (g.nx+1+1+1+1+1+1+1) (by omega) (fun e=>by rw[bU hW.own] at e;have:=(hW.own.lt e).2;omega)]
  simp[H.get_put]
 simp only[sz,simprocAttr,sf,bp hB.ry,bA hB.ry]
 refine (hHa.same (g':=_) (by simp) (by simp<;>omega)).putv (k:=(0,0)) LS.z e00 (row':=[.int .i64 x.card,V (J+1,0),v1]) (by rw[ac _ _ (by simp<;>omega)];exact hB.e0) hB.row (by rw[vca];rfl) vta (by rw[vca];rfl) fun gb hHb nb frb fob=>?_
 simp only[sy] at nb frb fob ⊢
 refine ⟨?_,?_⟩
 ·simp only[List.reverse_cons,List.reverse_nil,List.nil_append,List.cons_append]
  refine aO [false,false,false,false,false,false,false,true,true,true,false,false,true] [(0,7),(1,7),(2,7),(3,7),(4,7),(0,8),(1,8),(2,8),(3,8),(4,8),(0,9)] (by simp[All2,an,ay]) (by decide) ?_
  rintro p hp x y hx hy
  simp only[List.mem_cons,List.not_mem_nil,or_false] at hp
  have ro1:=hB.own.refs_lt
  rcases hp with rfl | rfl | rfl | rfl | rfl | rfl | rfl | rfl | rfl | rfl | rfl<;>(simp at hx hy;subst hx;subst hy;refine cU rfl rfl rfl rfl ?_ ?_ ?_<;>simp[an,ay,i_ hB.ry]<;>first | omega | (intro i' hi';have:=ro1 i' hi';omega) | skip)
 have knb:gb.h.get (g.nx+1+1+1+1+1+1+1)=.cells 1 [[.int .i64 bx.2.2.2]] 0 false false:=by
  rw[fob (g.nx+1+1+1+1+1+1+1) (fun e=>by rw[e00,bU hB.own] at e;have:=(hB.own.lt e).2;omega)]
  simpa using kn
 have hpar:SlR P3 0 gb.h x.parents (V (J+1,0)):=by
  have:=hHb.own (k:=(J+1,0)) (LS.s hS.hx (by omega)) (by rw[ac _ _ (by simp<;>omega),ac _ _ (by simp<;>omega)];exact hB.nd.ps)
  rw[ac _ _ (by simp<;>omega)] at this
  exact q7 this (by omega) fun _ h=>h
 have hrws:SlR P3 0 gb.h (x.rows++[[bx.2.2.2]]) v1:=by
  have ho:=hHb.own (k:=(J+1,1)) (LS.s hS.hx (by omega)) (by rw[ac _ _ (by simp<;>omega),ap])
  rw[ap] at ho
  refine Own.sl (α:=List Int) ho (by simp<;>omega) (All2.append (tK hW.len.symm fun r y row hy hr=>?_) ⟨?_,trivial⟩) fun i hi=>(ho.lt hi).1
  ·rw[hW.at_ r y hy] at hr
   injection hr with hr;subst hr
   have hrl:=(List.getElem?_eq_some_iff.1 hy).1
   have:=hHb.own (k:=(J+1,2+r)) (LS.s hS.hx (by omega)) (by rw[ac _ _ (by simp<;>omega),ac _ _ (by simp<;>omega)];exact hB.nd.rr r y hy)
   rw[ac _ _ (by simp<;>omega)] at this
   exact a8.2 ⟨_,rfl,q7 this (by have:=hlen.2.2 y (List.mem_of_getElem? hy);omega) fun _ h=>h⟩
  ·refine a8.2 ⟨_,rfl,by show 1<9223372036854775808;decide,(by show 3<=(g.nx+1+1+1+1+1+1+1);omega),[[.int .i64 bx.2.2.2]],?_,aI.2 rfl,trivial⟩
   show af gb.h 1 _=_
   simp only[af,knb];rfl
 obtain ⟨nds,hn⟩:=tb (x':=⟨x.card,x.parents,x.rows++[[bx.2.2.2]]⟩) hHb (fun k hk=>hk) hB.oth.v.e.z (ap _ _ _) e00 (bM.2 ⟨_,_,rfl,hpar,hrws⟩) (by omega) (by omega)
 have g1e:gb.h.get 1=.cells 2 [[.int .i64 gr,V (0,0)]] 0 false false:=by rw[frb 1 (by omega)];(try simp);rw[fra 1 (by omega),if_neg (by omega),if_neg (by omega),hS.f1]
 have g2e:gb.h.get 2=.cells 2 [[.int .i64 0,.nils]] 0 false false:=by rw[frb 2 (by omega)];(try simp);rw[fra 2 (by omega),if_neg (by omega),if_neg (by omega),hS.f2]
 exact fin _ _ gr _ nds (by simp[sx,h3]) (by simp[sx,h4]) (by simpa using g1e) (by simpa using g2e) (hn.heap (by simp))
theorem bc5 (hS:BS K J L x bx gr Rw t g V E)(fin:tx Q) :
  wp C0 d none (sQ [oM 156 11,o 157 (.bin .geq (.t 156) (qI 0))] (.cond (.t 157) (.ops [oM 158 10,oM 159 10,o 160 (.nilc (.t 159)),oF 161 2 160,oL 162 161,oM 163 11,o 164 (.slc 1 (.t 162) [] [.t 163]),o 165 (.nilc (.t 158)),oF 166 2 165,oz (.store 1 (.t 166) (.t 164))]) (.skip))) Q t [] g:=by
 obtain ⟨h2,h3,h4,h10,h11,-⟩:=hS.st
 obtain ⟨rows,hB⟩:=hS.bt
 obtain ⟨rws,hW⟩:=hS.bw
 have hK:=hS.hK
 have hl:=hS.hl
 rcases hS.hR with ⟨rfl,h0⟩ | ⟨r,rfl,hr⟩
 ·simp only[sx,SO.run,↓reduceIte,h11]
  exact ⟨fun h=>by simp at h,fun _=>hS.fin0 fin (by simp[sx,h3]) (by simp[sx,h4])⟩
 ·simp only[sx,SO.run,↓reduceIte,h11]
  refine ⟨fun _=>?_,fun h=>by simp at h⟩
  obtain ⟨y,q1,q2,q3⟩:=Gb (α:=List Int) hW.own (n:=r) (by intro h;have:=hW.len;rw[h] at this;simp at this;omega) (by have:=hW.len;omega)
  have q1:sP 1 (V (J+1,1)) none (some (.int .i64 (r:Int))) g=.val y:=q1
  simp only[sx,sy,SO.run,↓reduceIte,Nat.reduceEqDiff,h10,h11,bp hB.ry,bA hB.ry,hB.own.rows,hB.hlt,hB.row,q1,List.head?_nil,List.head?_cons,Option.isSome_some,Option.getD_some]
  refine hS.hp.put LS.z (off:=2) (n:=1) (row':=[.int .i64 x.card,V (J+1,0),y]) hB.e0 hB.row (by simp[q2.1]) q2.2 (by rw[q2.1];rfl) fun gb hHb nb frb fob=>?_
  simp only[sx]
  have hnd:=hB.nd.congr (V':=V) (E':=ups E (0,0) (.sl 3 (rows.set J [.int .i64 x.card,V (J+1,0),y]))) (fun _=>rfl) (fun q=>ac _ _ (by simp<;>omega))
  have hrd:Rp.rp P3 0 gb.h (⟨x.card,x.parents,x.rows.take r⟩:Node) [.int .i64 x.card,V (J+1,0),y]:=by
   refine bM.2 ⟨_,_,rfl,hnd.pars hHb (LS.s hS.hx (by omega)) (by omega),q3 P3 0 _ gb.h (fun i hi=>fob i fun e=>?_) (hnd.rows hHb (fun q hq=>LS.s hS.hx hq) (by omega))⟩
   exact hS.hp.sep (0,0) (J+1,1) LS.z (LS.s hS.hx (by omega)) (by simp) i e (by rw[bU hW.own];exact hi)
  obtain ⟨nds,hn⟩:=tb hHb (fun k hk=>hk) hB.oth.z (ap _ _ _) rfl hrd (by omega) (by omega)
  exact fin _ _ gr _ nds (by simp[sx,h3]) (by simp[sx,h4]) (by rw[frb 1 (by omega),hS.f1]) (by rw[frb 2 (by omega),hS.f2]) hn
theorem bc6 (hS:BS K J L x bx gr Rw t g V E)(fin:tx Q) :
  wp C0 d none (sQ [oM 169 11,o 170 (.bin .geq (.t 169) (qI 0)),oM 171 170,og 172 171 true (.mv (.t 10)),og 173 171 true (.nilc (.t 172)),og 174 171 true (.fad 2 (.t 173)),og 175 171 true (.load false 1 (.t 174)),og 176 171 true (.mv (.t 11)),og 177 171 true (.ixs 1 (.t 175) (.t 176)),og 178 171 true (.load false 1 (.t 177)),og 179 171 true (.len .slice (.t 178)),og 180 171 true (.bin .gtr (.t 179) (qI 0)),o 181 (.pick (.t 171) (.t 180) (.k (.bool false)))] (.cond (.t 181) (.feet [0,1,3,7,0,31,63,0,128,511,1023] [oM 182 10,o 183 (.nilc (.t 182)),oF 184 2 183,oL 185 184,oM 186 11,oX 187 185 186,oL 188 187,oF 189 3 2,oL 190 189,o 191 (.ixs 1 (.t 188) (qI 0)),oz (.store 1 (.t 191) (.t 190))]) (.skip))) Q t [] g:=by
 obtain ⟨h2,h3,h4,h10,h11,-⟩:=hS.st
 obtain ⟨rows,hB⟩:=hS.bt
 obtain ⟨rws,hW⟩:=hS.bw
 have hK:=hS.hK
 have hl:=hS.hl
 rcases hS.hR with ⟨rfl,h0⟩ | ⟨r,rfl,hr⟩
 ·simp only[sz,simprocAttr,h11,show decide ((-1:Int) >= 0)=false from rfl]
  exact hS.fin0 fin (by simp[sx,h3]) (by simp[sx,h4])
 ·obtain ⟨y,hy⟩:∃y,x.rows[r]?=some y:=⟨_,List.getElem?_eq_getElem hr⟩
  have hrw:=hW.at_ r y hy
  have hkL:LS L (J+1,2+r):=LS.s hS.hx (by omega)
  have hyo:=hS.hp.own hkL (hB.nd.rr r y hy)
  have hyl:=hB.nd.len.2.2 y (List.mem_of_getElem? hy)
  have ly:=bO hyo.rows
  rw[List.length_map] at ly
  have hrl:r<rws.length:=by have:=hW.len;omega
  have hryw:iX (V (J+1,1))=true:=eX hW.own (by omega)
  simp only[sz,simprocAttr,h10,h11,show decide ((r:Int) >= 0)=true from by simp,bp hB.ry,bA hB.ry,hB.own.rows,hB.hlt,hB.row,hW.own.rows,hrl,hrw,ly]
  refine aT (fun hb=>?_) (fun hb=>?_)
  ·have hpos:0<y.length:=by simpa using hb
   obtain ⟨z,hz⟩:∃z,y[0]?=some z:=⟨_,List.getElem?_eq_getElem hpos⟩
   have u1:0<(y.map ci).length:=by simpa using hpos
   have u2:(y.map ci)[0]?=some (ci z):=by rw[List.getElem?_map,hz];rfl
   have u3:=hyo.rows
   have hryy:iX (V (J+1,2+r))=true:=eX hyo u1
   simp only[sz,simprocAttr,sf,h2,h10,h11,hS.f0,bp hB.ry,bA hB.ry,hB.own.rows,hB.hlt,hB.row,hW.own.rows,hrl,hrw,C6 u3 u1]
   refine (hS.hp.same (g':=_) (by simp) (by simp<;>omega)).put (k:=(J+1,2+r)) (i:=0) (off:=0) (n:=1) (row:=ci z) (row':=ci bx.2.2.2) hkL (hB.nd.rr r y hy) u2 rfl rfl rfl fun gb hHb nb frb fob=>?_
   simp only[sy] at nb frb fob ⊢
   refine ⟨?_,?_⟩
   ·simp only[List.reverse_cons,List.reverse_nil,List.nil_append,List.cons_append]
    exact aO [false,false,false,false,false,false,false,false,false,false,true] [] (by simp[All2,an,ay]) (by decide) (by simp)
   have hnd:=Bk (r:=r) (V':=V) (E':=ups E (J+1,2+r) (.sl 1 ((y.map ci).set 0 (ci bx.2.2.2)))) (y':=y.set 0 bx.2.2.2) hB.nd hW.at_ hW.len hr (ac _ _ (by simp<;>omega)) (by rw[ac _ _ (by simp<;>omega),hW.e1,tC hrw]) (by rw[ap,List.map_set]) (fun _ _=>rfl) (fun q hq=>ac _ _ (by simp<;>omega)) (by simpa using hyl)
   have hrd:=hnd.rd hHb (fun q hq=>LS.s hS.hx (by simpa using hq)) (by omega)
   obtain ⟨nds,hn⟩:=tb (rows:=rows) (J:=J) hHb (fun k hk=>hk) hB.oth.e (by rw[ac _ _ (by simp<;>omega),hB.e0];exact congrArg _ (tC hB.row).symm) rfl hrd (by omega) (by omega)
   exact fin _ _ gr _ nds (by simp[sx,h3]) (by simp[sx,h4]) (by simp only[bumpG_h];rw[frb 1 (by omega)];simpa using hS.f1) (by simp only[bumpG_h];rw[frb 2 (by omega)];simpa using hS.f2) (hn.heap (by simp))
  ·simp only[sx]
   exact hS.fin0 fin (by simp[sx,h3]) (by simp[sx,h4])
end
end
end Hx
end
section
namespace Hx
open Go
noncomputable section
section
variable {d K J:Nat}{L:List Node}{x:Node}{bx:jO}{gr Rw:Int}{t:T}{g:G}{V:Ky->AV}{E:Ky->En}{Q:QT}
theorem bc7 (hS:BS K J L x bx gr Rw t g V E)(fin:tx Q) :
  wp C0 d none (sQ [oM 194 11,o 195 (.bin .geq (.t 194) (qI 0))] (.cond (.t 195) (.feet [0,1,3,7,0,0,32,96,224,0,992,2016,0,8160,16383,32767] [oM 196 10,o 197 (.nilc (.t 196)),oF 198 2 197,oL 199 198,oM 200 11,oM 201 10,o 202 (.nilc (.t 201)),oF 203 2 202,oL 204 203,oM 205 11,oX 206 204 205,oL 207 206,o 208 (.bsl 1 1 [.int .i64 0] [0] [.k (.int .i64 0)]),o 209 (.app 1 8 (.t 207) (.t 208)),oX 210 199 200,oz (.store 1 (.t 210) (.t 209))]) (.skip))) Q t [] g:=by
 obtain ⟨h2,h3,h4,h10,h11,-⟩:=hS.st
 obtain ⟨rows,hB⟩:=hS.bt
 obtain ⟨rws,hW⟩:=hS.bw
 have hK:=hS.hK
 have hl:=hS.hl
 have hnx:=hS.hp.nx
 rcases hS.hR with ⟨rfl,h0⟩ | ⟨r,rfl,hr⟩
 ·simp only[sx,SO.run,↓reduceIte,h11]
  exact ⟨fun h=>by simp at h,fun _=>hS.fin0 fin (by simp[sx,h3]) (by simp[sx,h4])⟩
 ·simp only[sx,SO.run,↓reduceIte,h11]
  refine ⟨fun _=>?_,fun h=>by simp at h⟩
  obtain ⟨y,hy⟩:∃y,x.rows[r]?=some y:=⟨_,List.getElem?_eq_getElem hr⟩
  have hrw:=hW.at_ r y hy
  have hkL:LS L (J+1,2+r):=LS.s hS.hx (by omega)
  have hE2:=hB.nd.rr r y hy
  have hyo:=hS.hp.own hkL hE2
  have hyl:=hB.nd.len.2.2 y (List.mem_of_getElem? hy)
  have hrl:r<rws.length:=by have:=hW.len;omega
  have hryw:iX (V (J+1,1))=true:=eX hW.own (by omega)
  simp only[sx,sy,sf,SO.run,↓reduceIte,Nat.reduceEqDiff,h10,h11,bp hB.ry,bA hB.ry,hB.own.rows,hB.hlt,hB.row,hW.own.rows,hrl,hrw,Option.isSome_some,Option.getD_some]
  refine (hS.hp.step (g':=_) (by simp<;>omega) (fun i hi hi2=>?_)).app2 (k:=(J+1,2+r)) hkL hE2 (new:=[[.int .i64 0]]) (by simp[sx,sy]) (by simp[aR];omega) fun v1 ga hHa na fra foa lga vca vta=>?_
  ·simp[H.get_put];omega
  simp only[sx,sy] at na fra foa lga
  have e11:ups V (J+1,2+r) v1 (J+1,1)=V (J+1,1):=ac _ _ (by simp<;>omega)
  have hE1:ups E (J+1,2+r) (.sl 1 (y.map ci++[[.int .i64 0]])) (J+1,1)=.sl 1 rws:=by rw[ac _ _ (by simp<;>omega)];exact hW.e1
  have rwa:af ga.h 1 (V (J+1,1))=some rws:=by rw[<-e11];exact (hHa.own (LS.s hS.hx (by omega)) hE1).rows
  simp only[sx,sy,sf,SO.run,↓reduceIte,Nat.reduceEqDiff,rwa,hrl,Option.isSome_some,Option.getD_some]
  refine (hHa.same (g':=_) (by simp) (by simp<;>omega)).putv (k:=(J+1,1)) (i:=r) (off:=0) (n:=1) (LS.s hS.hx (by omega)) e11 (row':=[v1]) hE1 hrw (by rw[vca];rfl) vta (by rw[vca];rfl) fun gb hHb nb frb fob=>?_
  simp only[sy] at nb frb fob ⊢
  refine ⟨?_,?_⟩
  ·simp only[List.reverse_cons,List.reverse_nil,List.nil_append,List.cons_append]
   refine aO [false,false,false,false,false,false,false,false,false,false,false,false,true,true,false,true] [(0,12),(1,12),(2,12),(3,12),(4,12),(5,12),(6,12),(7,12),(8,12),(9,12),(10,12),(11,12),(0,13),(1,13),(2,13),(3,13),(4,13)] (by simp[All2,an,ay]) (by decide) ?_
   have ro1:=hB.own.refs_lt
   have ro2:=hW.own.refs_lt
   have lg0:∀i∈ga.lg,i ∉ ak (V (0,0)):=fun i hi hm=>by
    obtain ⟨id0,hv0⟩:∃id,eid (V (0,0))=some id/\ak (V (0,0))=[id]:=by
     rcases hB.own with ⟨h,-⟩ | ⟨id,ep,lo,-,-,h,-⟩
     ·rw[h] at hm;simp[ak] at hm
     ·rw[h];exact ⟨id,rfl,rfl⟩
    rw[hv0.2] at hm
    have hm:=List.mem_singleton.1 hm
    subst hm
    rcases lga i hi with h | h | h
    ·simp at h
    ·exact hS.hp.sep (J+1,2+r) (0,0) hkL LS.z (by simp) i h hv0.1
    ·have:=ro1 i (by rw[hv0.2];simp);omega
   rintro p hp x y hx hy
   simp only[List.mem_cons,List.not_mem_nil,or_false] at hp
   rcases hp with rfl | rfl | rfl | rfl | rfl | rfl | rfl | rfl | rfl | rfl | rfl | rfl | rfl | rfl | rfl | rfl | rfl<;>(simp at hx hy;subst hx;subst hy;refine cU rfl rfl rfl rfl ?_ ?_ ?_<;>simp[an,ay,i_ hB.ry,i_ hryw]<;>first | omega | (intro i' hi';have:=ro1 i' hi';omega) | (intro i' hi';have:=ro2 i' hi';omega) | exact lg0 | exact (fun i hi h=>lg0 h hi) | exact (fun i hi h=>lg0 i h hi) | (intro i' hi' hm;exact lg0 _ hi' hm) | exact (fun i hi j hj e=>lg0 i hi (e ▸ hj)) | skip)
  have hnd:=Bk (r:=r) (V':=ups V (J+1,2+r) v1) (E':=ups (ups E (J+1,2+r) (.sl 1 (y.map ci++[[.int .i64 0]]))) (J+1,1) (.sl 1 (rws.set r [v1]))) (y':=y++[0]) (hB.nd.up (show K<=K+1 by omega)) hW.at_ hW.len hr (by rw[ac _ _ (by simp<;>omega),ac _ _ (by simp<;>omega)]) (by rw[ap,ap]) (by rw[ac _ _ (by simp<;>omega),ap];simp[ci]) (fun q hq=>ac _ _ (by simp<;>omega)) (fun q hq=>by rw[ac _ _ (by simp<;>omega),ac _ _ (by simp<;>omega)]) (by simp<;>omega)
  have hrd:=hnd.rd hHb (fun q hq=>LS.s hS.hx (by simpa using hq)) (by omega)
  obtain ⟨nds,hn⟩:=tb (rows:=rows) (J:=J) hHb (fun k hk=>hk) hB.oth.v.e.e (by rw[ac _ _ (by simp<;>omega),ac _ _ (by simp<;>omega),hB.e0];rw[jH,ac _ _ (by simp<;>omega),ac _ _ (by simp<;>omega)];exact congrArg _ (tC hB.row).symm) (ac _ _ (by simp<;>omega)) hrd (by omega) (by omega)
  have g1e:gb.h.get 1=.cells 2 [[.int .i64 gr,V (0,0)]] 0 false false:=by rw[frb 1 (by omega)];(try simp);rw[fra 1 (by omega),if_neg (by omega),hS.f1]
  have g2e:gb.h.get 2=.cells 2 [[.int .i64 0,.nils]] 0 false false:=by rw[frb 2 (by omega)];(try simp);rw[fra 2 (by omega),if_neg (by omega),hS.f2]
  exact fin _ _ gr _ nds (by simp[sx,h3]) (by simp[sx,h4]) (by simpa using g1e) (by simpa using g2e) (hn.heap (by simp))
theorem Nx (hS:BS K J L x bx gr Rw t g V E)(fin:tx Q) :
  wp C0 d none (.ops [oF 312 1 3,oL 313 312,oF 314 0 3,oL 315 314,o 316 (.bsl 1 1 [.int .i64 0] [0] [.t 315]),o 317 (.bsl 1 1 [.nils] [0] [.t 316]),o 318 (.build [.int .i64 0,.nils,.nils] [(0,1),(2,1)] [.k (.int .i64 1),.t 317]),o 319 (.bsl 3 1 [.int .i64 0,.nils,.nils] [0] [.t 318]),o 320 (.app 3 56 (.t 313) (.t 319)),oF 321 1 3,oz (.store 1 (.t 321) (.t 320))]) Q t [] g:=by
 obtain ⟨h2,h3,h4,h10,h11,-⟩:=hS.st
 obtain ⟨rows,hB⟩:=hS.bt
 have hK:=hS.hK
 have hl:=hS.hl
 have hnx:=hS.hp.nx
 have hrl:=hB.oth.len
 simp only[sz,simprocAttr,h3,hS.f1]
 refine (hS.hp.step (g':=_) (by simp<;>omega) (fun i hi hi2=>?_)).app2 (k:=(0,0)) LS.z hB.e0 (new:=[[.int .i64 1,.nils,.hsl (g.nx+1) 0 0 1 none]]) (by simp[sx,sy]) (by simp[aR];omega) fun v1 gb hHb nb frb fob _ vca vta=>?_
 ·simp[H.get_put]
  rw[if_neg (by omega),if_neg (by omega),if_neg (by omega)]
 simp only[sx,sy] at nb frb fob
 have ne:∀i,g.nx<=i->eid (V (0,0))≠some i:=fun i hi e=>by
  rw[bU hB.own] at e
  have:=(hB.own.lt e).2
  omega
 have k1:gb.h.get g.nx=.cells 1 [[.int .i64 gr]] 0 false false:=by
  rw[fob g.nx (by omega) (ne _ (Nat.le_refl _))];simp[H.get_put]<;>omega
 have k2:gb.h.get (g.nx+1)=.cells 1 [[.hsl g.nx 0 0 1 none]] 0 false false:=by
  rw[fob (g.nx+1) (by omega) (ne _ (by omega))];simp[H.get_put]<;>omega
 have hnew:Rp.rp P3 0 gb.h (⟨1,[],[[gr]]⟩:Node) [.int .i64 1,.nils,.hsl (g.nx+1) 0 0 1 none]:=by
  refine bM.2 ⟨_,_,rfl,⟨by show 0<9223372036854775808;decide,rfl⟩,⟨by show 1<9223372036854775808;decide,by show 3<=g.nx+1;omega,[[.hsl g.nx 0 0 1 none]],?_,a8.2 ⟨_,rfl,by show 1<9223372036854775808;decide,hnx,[[.int .i64 gr]],?_,aI.2 rfl,trivial⟩,trivial⟩⟩
  ·show af gb.h 1 _=_
   simp only[af,k2];rfl
  ·show af gb.h 1 _=_
   simp only[af,k1];rfl
 have ho:=hHb.own LS.z (ap _ _ _)
 rw[ap] at ho
 obtain ⟨nds,-,hn⟩:=Dr ho (by simp<;>omega) fun i row hi=>by
  by_cases e:i<rows.length
  ·rw[List.getElem?_append_left e] at hi
   obtain ⟨z,hz⟩:∃z,L[i]?=some z:=⟨_,List.getElem?_eq_getElem (by omega)⟩
   have hnd:=(hS.bl.nd i z hz).congr (V':=ups V (0,0) v1) (E':=ups E (0,0) (.sl 3 (rows++[[.int .i64 1,.nils,.hsl (g.nx+1) 0 0 1 none]]))) (fun q=>ac _ _ (by simp<;>omega)) (fun q=>ac _ _ (by simp<;>omega))
   have hrd:=hnd.rd hHb (fun q hq=>LS.s hz hq) (by omega)
   have hrow:rows[i]?=some (jH V i z.card):=by
    by_cases e2:i=J
    ·subst e2
     rw[hS.hx] at hz;injection hz with hz;subst hz
     exact hB.row
    ·exact hB.oth.ns i z e2 hz
   rw[hrow] at hi
   injection hi with hi;subst hi
   rw[jH,ac _ _ (by simp<;>omega),ac _ _ (by simp<;>omega)] at hrd
   exact ⟨z,hrd⟩
  ·have hil:=(List.getElem?_eq_some_iff.1 hi).1
   simp at hil
   have e:i=rows.length:=by omega
   subst e
   rw[List.getElem?_concat_length] at hi
   injection hi with hi;subst hi
   exact ⟨_,hnew⟩
 have g1e:gb.h.get 1=.cells 2 [[.int .i64 gr,V (0,0)]] 0 false false:=by rw[frb 1 (by omega),if_neg (by omega),if_neg (by omega),if_neg (by omega),hS.f1]
 have g2e:gb.h.get 2=.cells 2 [[.int .i64 0,.nils]] 0 false false:=by rw[frb 2 (by omega),if_neg (by omega),if_neg (by omega),if_neg (by omega),hS.f2]
 simp only[sz,simprocAttr,h3,g1e,vca,vta]
 exact fin _ _ gr _ nds (by simp[sx,h3]) (by simp[sx,h4]) (by simp[H.get_put]) (by simp[H.get_put,g2e]) (hn.far fun i hi=>by simp[H.get_put,MG hi])
theorem NA (hS:BS K J L x bx gr Rw t g V E)(fin:tx Q) :
  wp C0 d none (.ops [oF 102 1 3,oL 103 102,oF 104 1 3,oL 105 104,oN 106 105,o 107 (.bin .sub (.t 106) (qI 1)),o 108 (.slc 3 (.t 103) [] [.t 107]),oF 109 1 3,oz (.store 1 (.t 109) (.t 108))]) Q t [] g:=by
 obtain ⟨h2,h3,h4,h10,h11,-⟩:=hS.st
 obtain ⟨rows,hB⟩:=hS.bt
 have hK:=hS.hK
 have hl:=hS.hl
 have hrl:=hB.oth.len
 have hlt:=hB.hlt
 have len1:=bO hB.own.rows
 have e1:((rows.length:Int) - 1)=((rows.length - 1:Nat):Int):=by omega
 obtain ⟨y,q1,q2,q3⟩:=Gb (α:=Node) hB.own (n:=rows.length - 1) (by intro h;rw[h] at hlt;simp at hlt) (by omega)
 have w9:IntKind.wrap .i64 ((rows.length - 1:Nat):Int)=((rows.length - 1:Nat):Int):=aq (by omega) (by omega)
 have q1:sP 3 (V (0,0)) none (some (.int .i64 ((rows.length - 1:Nat):Int))) g=.val y:=q1
 simp only[sz,simprocAttr,h3,hS.f1,len1,List.head?_nil,List.head?_cons,e1,w9,q1,q2.1,q2.2]
 have hn:=q3 P3 0 _ g.h (fun _ _=>rfl) hS.sl
 exact fin _ _ gr _ _ (by simp[sx,h3]) (by simp[sx,h4]) (by simp[H.get_put]) (by simp[H.get_put,hS.f2]) (hn.far fun i hi=>by simp[H.get_put,MG hi])
end
end
end Hx
end
section
namespace Hx
open Go
noncomputable section
theorem LS.upd {L:List Node}{J:Nat}{x x':Node}(hx:L[J]?=some x)(hl:x'.rows.length=x.rows.length){k:Ky}(h:LS (L.set J x') k):LS L k:=by
 rcases h with h | ⟨i,q,z,h,hz,hq⟩
 ·exact .inl h
 ·rw[List.getElem?_set] at hz
  by_cases e:J=i
  ·subst e
   rw[if_pos rfl] at hz
   split at hz
   ·injection hz with hz;subst hz
    exact .inr ⟨J,q,x,h,hx,by omega⟩
   ·cases hz
  ·rw[if_neg e] at hz
   exact .inr ⟨i,q,z,h,hz,hq⟩
theorem BLs.upd {K J:Nat}{L:List Node}{V:Ky->AV}{E:Ky->En}{rows:List (List AV)}{x':Node}(hO:Oth K L J V E rows)(e0:E (0,0)=.sl 3 rows)(hrow:rows[J]?=some (jH V J x'.card))(hnd:NdOk K V E J x'):BLs K V E (L.set J x'):=by
 refine ⟨⟨rows,e0,by simp[hO.len],fun i z hz=>?_⟩,fun i z hz=>?_⟩
 ·rw[List.getElem?_set] at hz
  by_cases e:J=i
  ·subst e
   rw[if_pos rfl] at hz
   split at hz
   ·injection hz with hz;subst hz;exact hrow
   ·cases hz
  ·rw[if_neg e] at hz
   exact hO.ns i z (Ne.symm e) hz
 ·rw[List.getElem?_set] at hz
  by_cases e:J=i
  ·subst e
   rw[if_pos rfl] at hz
   split at hz
   ·injection hz with hz;subst hz;exact hnd
   ·cases hz
  ·rw[if_neg e] at hz
   exact hO.nd i z (Ne.symm e) hz
def Node.wr (x:Node)(r:Nat)(y:List Int):Node:=⟨x.card,x.parents,x.rows.set r y⟩
abbrev LBS (W:AV)(J:Nat)(Rw:Int):List (Nat×AV):=[(2,.hptr 0 0 0 0),(3,.hptr 1 0 0 0),(4,.hptr 2 0 0 0),(10,jI 3 W J 0),(11,.int .i64 Rw)]
section
variable {d K J r:Nat}{L:List Node}{x:Node}{bx:jO}{gr Rw:Int}{t t':T}{g gb:G}{V:Ky->AV}{E:Ky->En}{Q:QT}{y y':List Int}
theorem BS.put (hS:BS K J L x bx gr (r:Int) t g V E)(hy:x.rows[r]?=some y)(hHb:Hp gb 3 (LS L) V (ups E (J+1,2+r) (.sl 1 (y'.map ci))))(frb:∀i,i<3->gb.h.get i=g.h.get i)(hyl:y'.length<=K)(st:St t' (LBS (V (0,0)) J (r:Int))) :
  BS K J (L.set J (x.wr r y')) (x.wr r y') bx gr (r:Int) t' gb V (ups E (J+1,2+r) (.sl 1 (y'.map ci))):=by
 obtain ⟨rows,hB⟩:=hS.bt
 obtain ⟨rws,hW⟩:=hS.bw
 have hr:=(List.getElem?_eq_some_iff.1 hy).1
 have hrw:=hW.at_ r y hy
 have hJ:=(List.getElem?_eq_some_iff.1 hS.hx).1
 have hnd:=Bk (r:=r) (V':=V) (E':=ups E (J+1,2+r) (.sl 1 (y'.map ci))) (y':=y') hB.nd hW.at_ hW.len hr (ac _ _ (by simp<;>omega)) (by rw[ac _ _ (by simp<;>omega),hW.e1,tC hrw]) (ap _ _ _) (fun _ _=>rfl) (fun q hq=>ac _ _ (by simp<;>omega)) hyl
 have hl:(x.wr r y').rows.length=x.rows.length:=by simp[Node.wr]
 refine ⟨st,hHb.sub fun k hk=>LS.upd hS.hx hl hk,by rw[frb 0 (by omega)];exact hS.f0,by rw[frb 1 (by omega)];exact hS.f1,by rw[frb 2 (by omega)];exact hS.f2,BLs.upd hB.oth.e (by rw[ac _ _ (by simp<;>omega)];exact hB.e0) hB.row hnd,by rw[List.getElem?_set_self hJ],.inr ⟨r,rfl,by omega⟩,hS.hK,by simpa using hS.hl⟩
theorem BS.mv (hS:BS K J L x bx gr Rw t g V E)(hh:gb.h=g.h)(hn:g.nx<=gb.nx)(st:St t' (LBS (V (0,0)) J Rw)):BS K J L x bx gr Rw t' gb V E :=
 ⟨st,hS.hp.same hh hn,by rw[hh];exact hS.f0,by rw[hh];exact hS.f1,by rw[hh];exact hS.f2,hS.bl,hS.hx,hS.hR,hS.hK,hS.hl⟩
structure BR (x:Node) (J r:Nat) (y:List Int) (g:G) (V:Ky->AV) (E:Ky->En) (rws:List (List AV)):Prop where
 wr:af g.h 1 (V (J+1,1))=some rws
 rl:r<rws.length
 rw_:rws[r]?=some [V (J+1,2+r)]
 ry:iX (V (J+1,1))=true
 yr:af g.h 1 (V (J+1,2+r))=some (y.map ci)
 ye:E (J+1,2+r)=.sl 1 (y.map ci)
 yl:y.length<=K
theorem BS.br (hS:BS K J L x bx gr (r:Int) t g V E)(hy:x.rows[r]?=some y):∃rws,BR (K:=K) x J r y g V E rws:=by
 obtain ⟨rows,hB⟩:=hS.bt
 obtain ⟨rws,hW⟩:=hS.bw
 have hr:=(List.getElem?_eq_some_iff.1 hy).1
 have hrl:r<rws.length:=by have:=hW.len;omega
 have hye:=hB.nd.rr r y hy
 exact ⟨rws,hW.own.rows,hrl,hW.at_ r y hy,eX hW.own (by omega),(hS.hp.own (LS.s hS.hx (by omega)) hye).rows,hye,hB.nd.len.2.2 y (List.mem_of_getElem? hy)⟩
theorem bc8 (hS:BS K J L x bx gr Rw t g V E)(fin:tx Q) :
  wp C0 d none (sQ [oM 213 11,o 214 (.bin .geq (.t 213) (qI 0)),oM 215 214,og 216 215 true (.mv (.t 10)),og 217 215 true (.nilc (.t 216)),og 218 215 true (.fad 2 (.t 217)),og 219 215 true (.load false 1 (.t 218)),og 220 215 true (.mv (.t 11)),og 221 215 true (.ixs 1 (.t 219) (.t 220)),og 222 215 true (.load false 1 (.t 221)),og 223 215 true (.len .slice (.t 222)),og 224 215 true (.bin .gtr (.t 223) (qI 0)),o 225 (.pick (.t 215) (.t 224) (.k (.bool false)))] (.cond (.t 225) (.seq (.feet [0,1,3,7,0,0,32,96,224,0,992,2016,4064,8160,16383,32767] [oM 226 10,o 227 (.nilc (.t 226)),oF 228 2 227,oL 229 228,oM 230 11,oM 231 10,o 232 (.nilc (.t 231)),oF 233 2 232,oL 234 233,oM 235 11,oX 236 234 235,oL 237 236,oN 238 237,o 239 (.mks 1 8 [.int .i64 0] (.t 238) (.t 238)),oX 240 229 230,oz (.store 1 (.t 240) (.t 239))]) (.feet [0,1,3,7,0,31,63,0,128,511,1023] [oM 241 10,o 242 (.nilc (.t 241)),oF 243 2 242,oL 244 243,oM 245 11,oX 246 244 245,oL 247 246,oF 248 0 3,oL 249 248,o 250 (.ixs 1 (.t 247) (qI 0)),oz (.store 1 (.t 250) (.t 249))])) (.skip))) Q t [] g:=by
 obtain ⟨h2,h3,h4,h10,h11,-⟩:=hS.st
 obtain ⟨rows,hB⟩:=hS.bt
 obtain ⟨rws,hW⟩:=hS.bw
 have hK:=hS.hK
 have hl:=hS.hl
 have hnx:=hS.hp.nx
 rcases hS.hR with ⟨rfl,h0⟩ | ⟨r,rfl,hr⟩
 ·simp only[sz,simprocAttr,h11,show decide ((-1:Int) >= 0)=false from rfl]
  exact hS.fin0 fin (by simp[sx,h3]) (by simp[sx,h4])
 ·obtain ⟨y,hy⟩:∃y,x.rows[r]?=some y:=⟨_,List.getElem?_eq_getElem hr⟩
  have hrw:=hW.at_ r y hy
  have hkL:LS L (J+1,2+r):=LS.s hS.hx (by omega)
  have hyo:=hS.hp.own hkL (hB.nd.rr r y hy)
  have hyl:=hB.nd.len.2.2 y (List.mem_of_getElem? hy)
  have ly:=bO hyo.rows
  rw[List.length_map] at ly
  have hrl:r<rws.length:=by have:=hW.len;omega
  have hryw:iX (V (J+1,1))=true:=eX hW.own (by omega)
  simp only[sz,simprocAttr,h10,h11,show decide ((r:Int) >= 0)=true from by simp,bp hB.ry,bA hB.ry,hB.own.rows,hB.hlt,hB.row,hW.own.rows,hrl,hrw,ly]
  refine aT (fun hb=>?_) (fun hb=>?_)
  ·have hpos:0<y.length:=by simpa using hb
   obtain ⟨A,hA⟩:∃A,A=SC.feet [0,1,3,7,0,31,63,0,128,511,1023] [oM 241 10,o 242 (.nilc (.t 241)),oF 243 2 242,oL 244 243,oM 245 11,oX 246 244 245,oL 247 246,oF 248 0 3,oL 249 248,o 250 (.ixs 1 (.t 247) (qI 0)),oz (.store 1 (.t 250) (.t 249))]:=⟨_,rfl⟩
   rw[<-hA]
   refine dU (P:=fun t' df g'=>df=[]/\∃L' x' V' E',BS K J L' x' bx gr (r:Int) t' g' V' E'/\x'.rows[r]?=some (List.replicate y.length 0)) ?_ ?_
   ·simp only[sz,simprocAttr,sf,h10,h11,bp hB.ry,bA hB.ry,hB.own.rows,hB.hlt,hB.row,hW.own.rows,hrl,hrw,ly]
    refine lT (b:=3) (n:=y.length) (by unfold aR;omega) (by unfold aR;omega) (by first | (simp;done) | (simp;omega)) fun W ga hWo na fra vW lga=>?_
    simp only[sy] at na fra vW lga
    have hHa:=(hS.hp.step (g':=G.mk g.h g.nx []) (Nat.le_refl _) (fun _ _ _=>rfl)).set (g':=ga) (k:=(J+1,2+r)) (v':=W) (e':=.sl 1 ((List.replicate y.length (0:Int)).map ci)) hkL (by rw[List.map_replicate];exact hWo) (by show g.nx<=ga.nx;omega) (fun i _ hi _=>fra i (by have hi:i<g.nx:=hi;omega)) (.inr ⟨_,by rw[bU hWo];exact vW,by show g.nx<=_;omega⟩)
    have e11:ups V (J+1,2+r) W (J+1,1)=V (J+1,1):=ac _ _ (by simp<;>omega)
    have hE1:ups E (J+1,2+r) (.sl 1 ((List.replicate y.length (0:Int)).map ci)) (J+1,1)=.sl 1 rws:=by rw[ac _ _ (by simp<;>omega)];exact hW.e1
    have rwa:af ga.h 1 (V (J+1,1))=some rws:=by rw[<-e11];exact (hHa.own (LS.s hS.hx (by omega)) hE1).rows
    simp only[sz,simprocAttr,sf,rwa,hrl]
    refine (hHa.same (g':=_) (by simp) (by simp<;>omega)).putv (k:=(J+1,1)) (i:=r) (off:=0) (n:=1) (LS.s hS.hx (by omega)) e11 (row':=[W]) hE1 hrw (by rw[hWo.cell.1];rfl) hWo.cell.2 (by rw[hWo.cell.1];rfl) fun gb hHb nb frb fob=>?_
    simp only[sy] at nb frb fob ⊢
    refine ⟨?_,L.set J (x.wr r (List.replicate y.length 0)),x.wr r (List.replicate y.length 0),_,_,⟨?_,(hHb.same (g':=_) (by simp) (by simp<;>omega)).sub fun k hk=>LS.upd hS.hx (by simp[Node.wr]) hk,?_,?_,?_,BLs.upd hB.oth.v.e.e ?_ ?_ ?_,by rw[List.getElem?_set_self (List.getElem?_eq_some_iff.1 hS.hx).1],.inr ⟨r,rfl,by simpa [Node.wr] using hr⟩,hK,by simpa using hl⟩,by simp[Node.wr,hr]⟩
    ·simp only[List.reverse_cons,List.reverse_nil,List.nil_append,List.cons_append]
     refine aO [false,false,false,false,false,false,false,false,false,false,false,false,false,true,false,true] [(0,13),(1,13),(2,13),(3,13),(4,13)] (by simp[All2,an,ay]) (by decide) ?_
     have ro1:=hB.own.refs_lt
     rintro p hp x y hx hy
     simp only[List.mem_cons,List.not_mem_nil,or_false] at hp
     rcases hp with rfl | rfl | rfl | rfl | rfl<;>(simp at hx hy;subst hx;subst hy;refine cU rfl rfl rfl rfl ?_ ?_ ?_<;>simp[an,ay,i_ hB.ry,lga]<;>first | omega | (intro h;have:=ro1 _ h;omega) | (intro i' hi' e;have:=ro1 i' hi';omega) | (intro i' hi';have:=ro1 i' hi';omega) | skip)
    ·simp[St,sx,h2,h3,h4,h10,h11,ac]
    ·simp only[bumpG_h];rw[frb 0 (by omega)];(try simp);rw[fra 0 (by omega),hS.f0]
    ·simp only[bumpG_h];rw[frb 1 (by omega),ac _ _ (by simp<;>omega)];(try simp);rw[fra 1 (by omega),hS.f1]
    ·simp only[bumpG_h];rw[frb 2 (by omega)];(try simp);rw[fra 2 (by omega),hS.f2]
    ·rw[ac _ _ (by simp<;>omega),ac _ _ (by simp<;>omega),hB.e0]
    ·rw[jH,ac _ _ (by simp<;>omega),ac _ _ (by simp<;>omega)];exact hB.row
    ·exact Bk (r:=r) (y':=List.replicate y.length 0) hB.nd hW.at_ hW.len hr (by rw[ac _ _ (by simp<;>omega),ac _ _ (by simp<;>omega)]) (by rw[ap,ap]) (by rw[ac _ _ (by simp<;>omega),ap]) (fun q hq=>ac _ _ (by simp<;>omega)) (fun q hq=>by rw[ac _ _ (by simp<;>omega),ac _ _ (by simp<;>omega)]) (by simpa using hyl)
   clear h2 h3 h4 h10 h11 hB hW hkL hyo hS hrw hrl hryw
   rintro t df g2 ⟨rfl,L',x',V',E',hS,hy'⟩
   rw[hA]
   obtain ⟨h2,h3,h4,h10,h11,-⟩:=hS.st
   obtain ⟨rows,hB⟩:=hS.bt
   obtain ⟨rws,hR⟩:=hS.br hy'
   have u1:0<((List.replicate y.length (0:Int)).map ci).length:=by simpa using hpos
   have u2:((List.replicate y.length (0:Int)).map ci)[0]?=some (ci 0):=by simp[hpos]
   have u3:=hR.yr
   have u4:=hR.rl
   simp only[sz,simprocAttr,sf,h3,h10,h11,hS.f1,bp hB.ry,bA hB.ry,hB.own.rows,hB.hlt,hB.row,hR.wr,u4,hR.rw_,C6 u3 u1]
   refine (hS.hp.same (g':=_) (by simp) (by simp<;>omega)).put (k:=(J+1,2+r)) (i:=0) (off:=0) (n:=1) (row:=ci 0) (row':=ci gr) (LS.s hS.hx (by have:=(List.getElem?_eq_some_iff.1 hy').1;omega)) hR.ye u2 rfl rfl rfl fun gb hHb nb frb fob=>?_
   simp only[sy] at nb frb fob ⊢
   refine ⟨?_,?_⟩
   ·simp only[List.reverse_cons,List.reverse_nil,List.nil_append,List.cons_append]
    exact aO [false,false,false,false,false,false,false,false,false,false,true] [] (by simp[All2,an,ay]) (by decide) (by simp)
   rw[<-List.map_set] at hHb
   have hS2:=hS.put (t':=t) hy' (hHb.same (g':=G.mk gb.h gb.nx []) rfl (Nat.le_refl _)) (fun i hi=>by have:=frb i hi;simpa using this) (by simpa using hR.yl) (by simp[St,h2,h3,h4,h10,h11])
   exact fin _ _ gr _ _ (by simp[sx,h3]) (by simp[sx,h4]) (by simpa using hS2.f1) (by simpa using hS2.f2) (hS2.sl.heap (by simp))
  ·simp only[sx]
   exact hS.fin0 fin (by simp[sx,h3]) (by simp[sx,h4])
theorem KO {n:Nat}(hn:n<=1000000)(hy0:y.length=n)(hyr:x.rows[r]?=some y)(hS:BS K J L x bx gr (r:Int) t g V E)(h12:tat t 12=.int .i64 0)(h13:tat t 13=.int .i64 ((n:Int) - 1))
  (fin:∀t g L x E,BS K J L x bx gr (r:Int) t g V E->Q (.exit 5) t [] g):wpL (wp C0 d none dW) Q t [] g:=by
 obtain ⟨FR,hFR⟩:∃FR,FR=SC.feet [0,1,3,7,0,31,63,0,0,256,768,1792,0,7936,16128,0,65280,130816,262143,524287] [oM 279 10,o 280 (.nilc (.t 279)),oF 281 2 280,oL 282 281,oM 283 11,oX 284 282 283,oL 285 284,oM 286 12,oM 287 10,o 288 (.nilc (.t 287)),oF 289 2 288,oL 290 289,oM 291 11,oX 292 290 291,oL 293 292,oM 294 13,oX 295 293 294,oL 296 295,oX 297 285 286,oz (.store 1 (.t 297) (.t 296))]:=⟨_,rfl⟩
 simp only[dW]
 rw[<-hFR]
 refine bh (n / 2) (by omega) (fun j t df g=>df=[]/\∃L x y E,BS K J L x bx gr (r:Int) t g V E/\x.rows[r]?=some y/\y.length=n/\tat t 13=.int .i64 ((n:Int) - 1 - (j:Int)))
  ⟨rfl,L,x,y,E,hS,hyr,hy0,by simp[h13]⟩ h12 (by decide) ?_ ?_ ?_ ?_
 ·rintro j t df g v s (rfl | rfl | rfl) ⟨rfl,L,x,y,E,hS,h⟩<;>exact ⟨rfl,L,x,y,E,⟨by have:=hS.st;simpa [St,sx] using this,hS.hp,hS.f0,hS.f1,hS.f2,hS.bl,hS.hx,hS.hR,hS.hK,hS.hl⟩,by simpa [sx] using h⟩
 ·rintro j t df g hj ⟨rfl,L,x,y,E,hS,hyr,hyn,h13⟩ h12
  simp only[sz,simprocAttr,h12,h13]
  refine ⟨by congr 1;exact decide_eq_decide.2 (by omega),⟨L,x,y,E,⟨by have:=hS.st;simpa [St,sx] using this,hS.hp,hS.f0,hS.f1,hS.f2,hS.bl,hS.hx,hS.hR,hS.hK,hS.hl⟩,hyr,hyn⟩⟩
 ·rintro j t df g hj ⟨rfl,L,x,y,E,hS,hyr,hyn,h13⟩ h12
  have hk:((n:Int) - 1 - (j:Int))=((n - 1 - j:Nat):Int):=by omega
  rw[hk] at h13
  obtain ⟨z,hz⟩:∃z,y[j]?=some z:=⟨_,List.getElem?_eq_getElem (by omega)⟩
  obtain ⟨z',hz'⟩:∃z,y[n - 1 - j]?=some z:=⟨_,List.getElem?_eq_getElem (by omega)⟩
  refine dU (P:=fun t' df g'=>df=[]/\g'=g/\BS K J L x bx gr (r:Int) t' g V E/\St t' [(12,.int .i64 (j:Int)),(13,.int .i64 ((n - 1 - j:Nat):Int)),(14,.int .i64 z)]) ?_ ?_
  ·obtain ⟨h2,h3,h4,h10,h11,-⟩:=hS.st
   obtain ⟨rows,hB⟩:=hS.bt
   obtain ⟨rws,hR⟩:=hS.br hyr
   have u1:j<(y.map ci).length:=by simp;omega
   have u2:(y.map ci)[j]?=some (ci z):=by rw[List.getElem?_map,hz];rfl
   have hryy:=ma hR.yr u1
   simp only[sz,simprocAttr,h10,h11,h12,bp hB.ry,bA hB.ry,hB.own.rows,hB.hlt,hB.row,hR.wr,hR.rl,hR.rw_,hR.yr,u1,u2,ci]
   exact ⟨⟨by simp[St,sx,h2,h3,h4,h10,h11],hS.hp,hS.f0,hS.f1,hS.f2,hS.bl,hS.hx,hS.hR,hS.hK,hS.hl⟩,by simp[St,sx,h12,h13]⟩
  clear hS h12 h13
  rintro t df g1 ⟨rfl,rfl,hS,h12,h13,h14,-⟩
  rw[hFR]
  refine dU (P:=fun t' df g'=>df=[]/\∃L x E,BS K J L x bx gr (r:Int) t' g' V E/\x.rows[r]?=some (y.set j z')/\St t' [(12,.int .i64 (j:Int)),(13,.int .i64 ((n - 1 - j:Nat):Int)),(14,.int .i64 z)]) ?_ ?_
  ·obtain ⟨h2,h3,h4,h10,h11,-⟩:=hS.st
   obtain ⟨rows,hB⟩:=hS.bt
   obtain ⟨rws,hR⟩:=hS.br hyr
   have u1:j<(y.map ci).length:=by simp;omega
   have u2:(y.map ci)[j]?=some (ci z):=by rw[List.getElem?_map,hz];rfl
   have u3:n - 1 - j<(y.map ci).length:=by simp;omega
   have u4:(y.map ci)[n - 1 - j]?=some (ci z'):=by rw[List.getElem?_map,hz'];rfl
   have hryy:=ma hR.yr u1
   have hrl:=hR.rl
   simp only[sz,simprocAttr,sf,h10,h11,h12,h13,bp hB.ry,bA hB.ry,hB.own.rows,hB.hlt,hB.row,hR.wr,hrl,hR.rw_,hR.yr,u1,u3,u4,ci]
   refine (hS.hp.same (g':=_) (by simp) (by simp;omega)).put (k:=(J+1,2+r)) (i:=j) (off:=0) (n:=1) (row:=ci z) (row':=ci z') (LS.s hS.hx (by have:=(List.getElem?_eq_some_iff.1 hyr).1;omega)) hR.ye u2 rfl rfl rfl fun gb hHb nb frb fob=>?_
   simp only[sy] at nb frb fob ⊢
   rw[<-List.map_set] at hHb
   have hS2:=hS.put (t':=t) hyr (hHb.same (g':=G.mk gb.h gb.nx []) rfl (Nat.le_refl _)) (fun i hi=>by have:=frb i hi;simpa using this) (by simpa using hR.yl) (by simp[St,h2,h3,h4,h10,h11])
   refine ⟨?_,_,_,_,hS2.mv (by simp) (by simp) (by simp[St,sx,h2,h3,h4,h10,h11]),by simp[Node.wr,(List.getElem?_eq_some_iff.1 hyr).1],by simp[St,sx,h12,h13,h14]⟩
   simp only[List.reverse_cons,List.reverse_nil,List.nil_append,List.cons_append]
   exact aO [false,false,false,false,false,false,false,false,false,false,false,false,false,false,false,false,false,false,false,true] [] (by simp[All2,an,ay]) (by decide) (by simp)
  clear hS h12 h13 h14 hyr
  rintro t df g2 ⟨rfl,L,x,E,hS,hyr,h12,h13,h14,-⟩
  refine dU (P:=fun t' df g'=>df=[]/\∃L x E,BS K J L x bx gr (r:Int) t' g' V E/\x.rows[r]?=some ((y.set j z').set (n - 1 - j) z)/\St t' [(12,.int .i64 (j:Int)),(13,.int .i64 ((n - 1 - j:Nat):Int))]) ?_ ?_
  ·obtain ⟨h2,h3,h4,h10,h11,-⟩:=hS.st
   obtain ⟨rows,hB⟩:=hS.bt
   obtain ⟨rws,hR⟩:=hS.br hyr
   have u3:n - 1 - j<((y.set j z').map ci).length:=by simp;omega
   obtain ⟨w,hw⟩:∃w,(y.set j z')[n - 1 - j]?=some w:=⟨_,List.getElem?_eq_getElem (by simp;omega)⟩
   have u4:((y.set j z').map ci)[n - 1 - j]?=some (ci w):=by rw[List.getElem?_map,hw];rfl
   have hryy:=ma hR.yr u3
   have hrl:=hR.rl
   have hyr':=hR.yr
   simp only[sz,simprocAttr,h10,h11,h13,h14,bp hB.ry,bA hB.ry,hB.own.rows,hB.hlt,hB.row,hR.wr,hrl,hR.rw_,hyr',u3]
   refine hS.hp.put (k:=(J+1,2+r)) (i:=n - 1 - j) (off:=0) (n:=1) (row:=ci w) (row':=ci z) (LS.s hS.hx (by have:=(List.getElem?_eq_some_iff.1 hyr).1;omega)) hR.ye u4 rfl rfl rfl fun gb hHb nb frb fob=>?_
   simp only[sx,sy]
   rw[<-List.map_set] at hHb
   have hS2:=hS.put (t':=t) hyr hHb frb (by simpa using hR.yl) (by simp[St,h2,h3,h4,h10,h11])
   exact ⟨_,_,_,⟨by simp[St,sx,h2,h3,h4,h10,h11],hS2.hp,hS2.f0,hS2.f1,hS2.f2,hS2.bl,hS2.hx,hS2.hR,hS2.hK,hS2.hl⟩,by simp[Node.wr,(List.getElem?_eq_some_iff.1 hyr).1],by simp[St,sx,h12,h13]⟩
  clear hS h12 h13 h14 hyr
  rintro t df g3 ⟨rfl,L,x,E,hS,hyr,h12,h13,-⟩
  simp only[sz,simprocAttr,h12,h13]
  refine ⟨L,x,(y.set j z').set (n - 1 - j) z,E,hS.mv rfl (Nat.le_refl _) (by have:=hS.st;simpa [St,sx] using this),hyr,by simp[hyn],?_⟩
  rw[aq (by omega) (by omega)]
  congr 1
  omega
 ·rintro t df g ⟨rfl,L,x,y,E,hS,-⟩
  exact fin t g L x E hS
theorem bc9 (hS:BS K J L x bx gr Rw t g V E)(fin:tx fun e t df g=>Q e t df g) :
  wp C0 d none (sQ [oM 253 11,o 254 (.bin .geq (.t 253) (qI 0))] (.cond (.t 254) (.seq (.quiet [oM 255 10,o 256 (.nilc (.t 255)),oF 257 2 256,oL 258 257,oM 259 11,oX 260 258 259,oL 261 260,oN 262 261,o 263 (.bin .sub (.t 262) (qI 1)),oK 12 0,oM 13 263]) (.blk 5 (.loop dW))) (.skip))) Q t [] g:=by
 obtain ⟨h2,h3,h4,h10,h11,-⟩:=hS.st
 obtain ⟨rows,hB⟩:=hS.bt
 rcases hS.hR with ⟨rfl,h0⟩ | ⟨r,rfl,hr⟩
 ·simp only[sx,SO.run,↓reduceIte,h11]
  exact ⟨fun h=>by simp at h,fun _=>hS.fin0 fin (by simp[sx,h3]) (by simp[sx,h4])⟩
 ·simp only[sx,SO.run,↓reduceIte,h11]
  refine ⟨fun _=>?_,fun h=>by simp at h⟩
  obtain ⟨y,hy⟩:∃y,x.rows[r]?=some y:=⟨_,List.getElem?_eq_getElem hr⟩
  obtain ⟨rws,hR⟩:=hS.br hy
  have ly:=bO hR.yr
  rw[List.length_map] at ly
  have hyl:=hR.yl
  have hK:=hS.hK
  have w9:IntKind.wrap .i64 ((y.length:Int) - 1)=(y.length:Int) - 1:=aq (by omega) (by omega)
  simp only[sx,sy,SO.run,↓reduceIte,Nat.reduceEqDiff,h10,h11,bp hB.ry,bA hB.ry,hB.own.rows,hB.hlt,hB.row,hR.wr,hR.rl,hR.rw_,ly,w9,Option.isSome_some,Option.getD_some]
  refine KO (n:=y.length) (L:=L) (x:=x) (y:=y) (E:=E) (by omega) rfl hy ⟨by simp[St,sx,h2,h3,h4,h10,h11],hS.hp,hS.f0,hS.f1,hS.f2,hS.bl,hS.hx,hS.hR,hS.hK,hS.hl⟩ (by simp[sx]) (by simp[sx]) ?_
  intro t g L x E hS
  obtain ⟨h2,h3,h4,h10,h11,-⟩:=hS.st
  simp only[sx,↓reduceIte]
  exact hS.fin0 fin h3 h4
end
end
end Hx
end
